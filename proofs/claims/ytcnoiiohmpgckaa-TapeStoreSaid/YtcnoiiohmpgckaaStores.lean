
import Derived.Test.YtcnoiiohmpgckaaCames
import Derived.Test.YtcnoiiohmpgckaaRObjects
import Derived.Test.YtcnoiiohmpgckaaConcats
import Derived.Test.YtcnoiiohmpgckaaRoots
import Derived.Test.YtcnoiiohmpgckaaPins
import Derived.Test.YtcnoiiohmpgckaaHands
namespace Go.Proofs.Ytcnoiiohmpgckaa
open Go
set_option maxRecDepth 100000
set_option maxHeartbeats 1000000
abbrev bY:Ty:=.pair (.arr bv) (.pair (.arr ty_I) (.pair (.arr bK) (.arr bo)))
abbrev aD:=List Int×List Int×List fq×List b6
def cZ (h:List b6):List Int:=(h.filter fun s=>s.2.1).map (·.2.2)
def cn (s:aD):List Int:=(s.2.1.filter fun v=>decide (0≤v))++cZ s.2.2.2++s.2.2.1.map (·.1)
def cf (s:aD):List Int:=dr (dG ((aN s.2.1 s.1.length).1++cZ s.2.2.2++s.2.2.1.map (·.1)))
def aH (s:aD):Int :=
 if (ah s.1).2.2≠0 then (ah s.1).2.2 else if ao s.2.1 s.1.length≠0 then ao s.2.1 s.1.length else if be s.2.2.1≠0 then be s.2.2.1 else if aM s.2.2.2≠0 then aM s.2.2.2 else bc s.1 (cn s)
theorem jE (r:List Int) (n:Int):(aN r n).1.length≤r.length:=by
 unfold aN
 split
 ·simp
 ·have h1:(dr (dG (r.filter fun v=>!decide (v<0)))).length≤_:=jf _
  have h2:=List.length_filter_le (fun v:Int=>!decide (v<0)) r
  rw [hY] at h1
  simp only
  omega
theorem gM (h:List b6):(cZ h).length≤h.length:=by
 unfold cZ
 rw [List.length_map]
 exact List.length_filter_le _ _
theorem px (h:List b6) (x:b6):cZ (h++[x])=if x.2.1=true then cZ h++[x.2.2] else cZ h:=by
 unfold cZ
 rw [List.filter_append,List.map_append]
 by_cases hx:x.2.1=true
 ·rw [if_pos hx,List.filter_cons_of_pos (by simpa using hx)]; simp
 ·rw [if_neg hx,List.filter_cons_of_neg (by simpa using hx)]; simp
theorem lY {l:List Int} {x:Int}:x∈dr (dG l) ↔ x∈l:=by
 rw [(n4 (kK l)).2 x,r8]
theorem mL {s:aD} (h:ao s.2.1 s.1.length=0) {x:Int}:x∈cf s ↔ x∈cn s:=by
 unfold cf cn
 rw [lY,List.mem_append,List.mem_append,List.mem_append,List.mem_append]
 have:x∈(aN s.2.1 s.1.length).1 ↔ x∈s.2.1.filter fun v=>decide (0≤v):=by
  unfold aN
  rw [if_neg (by omega)]
  simp only
  rw [lY,List.mem_filter,List.mem_filter]
  simp
 rw [this]
theorem sC:∀ (l:List fq) (q:Int),bu q l=0→∀ x∈l,0≤x.1∧x.1≤255
 | [],_,_,x,hx=>by cases hx
 | y::l,q,h,x,hx=>by
  simp only [bu] at h
  split at h
  ·omega
  ·rename_i hb
   split at h
   ·omega
   ·rcases List.mem_cons.1 hx with rfl | hx
    ·unfold fX at hb
     simp only [Bool.or_eq_true,decide_eq_true_eq,not_or] at hb
     omega
    ·exact sC l _ h x hx
theorem oX:∀ (l:List b6),aK l=0→∀ x∈l,0≤x.2.2∧x.2.2≤255
 | [],_,x,hx=>by cases hx
 | y::l,h,x,hx=>by
  simp only [aK] at h
  split at h
  ·rename_i hb; omega
  ·rename_i hb
   rcases List.mem_cons.1 hx with rfl | hx
   ·have hb:gh x=0:=by omega
    unfold gh at hb
    split at hb
    ·omega
    ·omega
   ·exact oX l h x hx
theorem nz {s:aD} (h1:ao s.2.1 s.1.length=0) (h2:be s.2.2.1=0) (h3:aM s.2.2.2=0):∀ x∈cn s,0≤x∧x≤255:=by
 intro x hx
 unfold cn at hx
 rcases List.mem_append.1 hx with hx | hx
 ·rcases List.mem_append.1 hx with hx | hx
  ·obtain ⟨hx,h0⟩:=List.mem_filter.1 hx
   have h0:=of_decide_eq_true h0
   unfold ao at h1
   split at h1
   ·omega
   ·split at h1
    ·omega
    ·split at h1
     ·omega
     ·rename_i hn _ ha
      have:=yl (by simpa using ha) hx
      omega
  ·unfold cZ at hx
   obtain ⟨y,hy,rfl⟩:=List.mem_map.1 hx
   unfold aM at h3
   split at h3
   ·omega
   ·exact oX _ h3 y (List.mem_filter.1 hy).1
 ·obtain ⟨y,hy,rfl⟩:=List.mem_map.1 hx
  unfold be at h2
  split at h2
  ·omega
  ·exact sC _ _ h2 y hy
theorem gg {s:aD} (h1:ao s.2.1 s.1.length=0) (h2:be s.2.2.1=0) (h3:aM s.2.2.2=0):s.2.1.length≤32∧s.2.2.1.length≤16∧s.2.2.2.length≤16:=by
 unfold ao at h1
 unfold be at h2
 unfold aM at h3
 refine ⟨?_,?_,?_⟩
 ·split at h1
  ·omega
  ·split at h1 <;> omega
 ·split at h2 <;> omega
 ·split at h3 <;> omega
theorem BS {a:List Int} (hc:(ah a).2.2=0) (x:Int):(decide ((sS a x).2≠0)||(sS a x).1.2.2.2)=!isB (aa a).1 x:=by
 by_cases hx:isB (aa a).1 x=true
 ·obtain ⟨_,_,e⟩:=Cq hc hx
  have hf:=(ig hx).2.2.2.2.2
  rw [e,hx]
  simp only [eQ,hf]
  simp
 ·obtain ⟨_,_,e1,_,_,_,_⟩:=dE hc
  have hx2:isB (aa a).1 x=false:=by simpa using hx
  rw [hx2]
  unfold sS
  rw [if_neg (by omega)]
  by_cases hl:ag (fun s:aE=>decide (s.1=x)) 0 (ah a).1<0
  ·rw [if_pos hl]; simp
  ·rw [if_neg hl]
   have h1:=ja (fun s:aE=>decide (s.1=x)) (0,0,0,0,false) (ah a).1 0 (by omega) (by omega)
   have h2:=gp (fun s:aE=>decide (s.1=x)) (0,0,0,0,false) (ah a).1 0 (by omega)
   rw [Int.sub_zero] at h1
   have h3:=aU (xs:=(ah a).1) ((0,0,0,0,false):aE) (by omega:0≤ag (fun s:aE=>decide (s.1=x)) 0 (ah a).1) (by omega)
   simp only
   generalize (ah a).1.getD (ag (fun s:aE=>decide (s.1=x)) 0 (ah a).1).toNat (0,0,0,0,false)=t at *
   have h1:=of_decide_eq_true h1
   rw [e1] at h3
   have:t.2.2.2.2=true:=by
    cases hf:t.2.2.2.2
    ·exfalso
     apply hx
     have:=km (dK a) h3 hf
     unfold isB
     rw [← h1,this]
    ·rfl
   simp only [eQ,this]
   simp
def wU:Nat→Option LoopGen
 | 3=>some { rd:=[.dat 7 (.arr bK)],A:=fun (p:List fq)=>{ cs:=[.own 3 3 ty_I,.dat 9 ty_I],inv:=fun ((o,i):List Int×Int)=>0≤i∧i≤p.length∧o=(p.take i.toNat).map (·.1),mu:=fun ((_,i):List Int×Int)=>(p.length - i).toNat } }
 | _=>none
def vo:Spec:={ Ts:=[bY],Rs:=[.own 3 ty_I],pre:=fun _=>True,F:=fun (s:aD)=>s.2.2.1.map (·.1) }
def nh:Prop :=
  ∀ (x:List Int×List Int×List (Int×Int)×List (Int×Bool×Int)),((x.1.length * 8≤aC∧∀ (x_1:Int),x_1∈x.1→am .u64 x_1)∧(x.2.1.length * 8≤aC∧∀ (x_1:Int),x_1∈x.2.1→am .i64 x_1)∧(x.2.2.1.length * (8+8)≤aC∧∀ (x_1:Int×Int),x_1∈x.2.2.1→am .i64 x_1.1∧am .i64 x_1.2)∧x.2.2.2.length * (8+(8+8))≤aC∧∀ (x_1:Int×Bool×Int),x_1∈x.2.2.2→am .i64 x_1.1∧True∧am .i64 x_1.2.2)→True→((0:Int)≤0∧0≤(↑x.2.2.1.length:Int)∧([]:List Int)=List.map (fun (x:fq)=>x.1) (List.take (Int.toNat 0) x.2.2.1))∧∀ (x_1:List Int×Int),0≤x_1.2∧x_1.2≤(↑x.2.2.1.length:Int)∧x_1.1=List.map (fun (x:fq)=>x.1) (List.take x_1.2.toNat x.2.2.1)→(decide (x_1.2<(↑x.2.2.1.length:Int))=true→0≤x_1.2∧x_1.2<(↑x.2.2.1.length:Int)∧(x_1.1.length+[(x.2.2.1.getD x_1.2.toNat (0,0)).1].length) * 8≤aC∧am .i64 (x_1.2+1)∧(0≤x_1.2+1∧x_1.2+1≤(↑x.2.2.1.length:Int)∧x_1.1++[(x.2.2.1.getD x_1.2.toNat (0,0)).1]=List.map (fun (x:fq)=>x.1) (List.take (x_1.2+1).toNat x.2.2.1))∧((↑x.2.2.1.length:Int) - (x_1.2+1)).toNat<((↑x.2.2.1.length:Int) - x_1.2).toNat)∧(decide (x_1.2<(↑x.2.2.1.length:Int))=false→x_1.1=List.map (fun (x:fq)=>x.1) x.2.2.1∧True)
theorem sW:nh:=by
 unfold nh
 intro ⟨a,r,p,h⟩ ⟨_,_,⟨hbp,_⟩,_⟩ _
 unfold aC at hbp
 simp only at hbp ⊢
 refine ⟨⟨by omega,by omega,by simp⟩,fun ⟨o,i⟩ ⟨i0,i1,i2⟩=>⟨fun hlt=>?_,fun hge=>?_⟩⟩
 ·simp only at i0 i1 i2 hlt ⊢
  have hlt:=of_decide_eq_true hlt
  have ht:=aW ((0,0):fq) i0 hlt
  have hl:o.length=i.toNat:=by rw [i2]; simp; omega
  rw [ht,List.map_append,← i2]
  unfold aC
  simp only [am,List.length_singleton]
  exact ⟨i0,hlt,by omega,by omega,⟨by omega,by omega,by first | rfl | trivial⟩,by omega⟩
 ·simp only at i0 i1 i2 hge ⊢
  rw [bM (of_decide_eq_false hge)] at i2
  exact ⟨i2,trivial⟩
theorem vU:vo.ok Try.prog 194:=aQ (ann:=wU) ax Try.func194 (by kernel_rfl) sW
def zX:Nat→Option LoopGen
 | 3=>some { rd:=[.dat 17 (.arr bo),.own 3 3 ty_I],A:=fun ((h,l0):List b6×List Int)=>{ cs:=[.own 3 3 ty_I,.dat 19 ty_I],inv:=fun ((o,i):List Int×Int)=>0≤i∧i≤h.length∧o=l0++cZ (h.take i.toNat),mu:=fun ((_,i):List Int×Int)=>(h.length - i).toNat } }
 | _=>none
def y5:Spec:={ Ts:=[bY],Rs:=[.own 3 ty_I],pre:=fun (s:aD)=>s.2.1.length≤32∧s.2.2.1.length≤16∧s.2.2.2.length≤16,F:=cf }
def sm:Prop :=
  ∀ (x:List Int×List Int×List (Int×Int)×List (Int×Bool×Int)),((x.1.length * 8≤aC∧∀ (x_1:Int),x_1∈x.1→am .u64 x_1)∧(x.2.1.length * 8≤aC∧∀ (x_1:Int),x_1∈x.2.1→am .i64 x_1)∧(x.2.2.1.length * (8+8)≤aC∧∀ (x_1:Int×Int),x_1∈x.2.2.1→am .i64 x_1.1∧am .i64 x_1.2)∧x.2.2.2.length * (8+(8+8))≤aC∧∀ (x_1:Int×Bool×Int),x_1∈x.2.2.2→am .i64 x_1.1∧True∧am .i64 x_1.2.2)→x.2.1.length≤32∧x.2.2.1.length≤16∧x.2.2.2.length≤16→True∧((0:Int)≤0∧0≤(↑x.2.2.2.length:Int)∧(aN x.2.1 (↑x.1.length:Int)).1=(aN x.2.1 (↑x.1.length:Int)).1++cZ (List.take (Int.toNat 0) x.2.2.2))∧∀ (x_1:List Int×Int),0≤x_1.2∧x_1.2≤(↑x.2.2.2.length:Int)∧x_1.1=(aN x.2.1 (↑x.1.length:Int)).1++cZ (List.take x_1.2.toNat x.2.2.2)→(decide (x_1.2<(↑x.2.2.2.length:Int))=true→0≤x_1.2∧x_1.2<(↑x.2.2.2.length:Int)∧((x.2.2.2.getD x_1.2.toNat (0,false,0)).2.1=true→(x_1.1.length+[(x.2.2.2.getD x_1.2.toNat (0,false,0)).2.2].length) * 8≤aC∧am .i64 (x_1.2+1)∧(0≤x_1.2+1∧x_1.2+1≤(↑x.2.2.2.length:Int)∧x_1.1++[(x.2.2.2.getD x_1.2.toNat (0,false,0)).2.2]=(aN x.2.1 (↑x.1.length:Int)).1++cZ (List.take (x_1.2+1).toNat x.2.2.2))∧((↑x.2.2.2.length:Int) - (x_1.2+1)).toNat<((↑x.2.2.2.length:Int) - x_1.2).toNat)∧((x.2.2.2.getD x_1.2.toNat (0,false,0)).2.1=false→am .i64 (x_1.2+1)∧(0≤x_1.2+1∧x_1.2+1≤(↑x.2.2.2.length:Int)∧x_1.1=(aN x.2.1 (↑x.1.length:Int)).1++cZ (List.take (x_1.2+1).toNat x.2.2.2))∧((↑x.2.2.2.length:Int) - (x_1.2+1)).toNat<((↑x.2.2.2.length:Int) - x_1.2).toNat))∧(decide (x_1.2<(↑x.2.2.2.length:Int))=false→True∧[x_1.1,List.map (fun (x:fq)=>x.1) x.2.2.1].flatten.length * 8≤aC∧True∧True∧dr (dG [x_1.1,List.map (fun (x:fq)=>x.1) x.2.2.1].flatten)=cf x∧True)
theorem w8:sm:=by
 unfold sm
 intro ⟨a,r,p,h⟩ _ ⟨h1,h2,h3⟩
 simp only at h1 h2 h3 ⊢
 have hF:cf (a,r,p,h)=dr (dG ((aN r a.length).1++cZ h++p.map (·.1))):=rfl
 have hrl:=jE r a.length
 generalize (aN r a.length).1=l0 at *
 refine ⟨trivial,⟨by omega,by omega,by simp [cZ]⟩,fun ⟨o,i⟩ ⟨i0,i1,i2⟩=>⟨fun hlt=>?_,fun hge=>?_⟩⟩
 ·simp only at i0 i1 i2 hlt ⊢
  have hlt:=of_decide_eq_true hlt
  have ht:=aW ((0,false,0):b6) i0 hlt
  have hl:o.length≤32+i.toNat:=by
   have:=gM (h.take i.toNat)
   rw [List.length_take] at this
   rw [i2,List.length_append]; omega
  rw [ht,px]
  generalize h.getD i.toNat (0,false,0)=x at *
  unfold aC
  simp only [am,List.length_singleton]
  refine ⟨i0,hlt,fun hx=>?_,fun hx=>?_⟩
  ·rw [if_pos hx,← List.append_assoc,← i2]
   exact ⟨by omega,by omega,⟨by omega,by omega,by first | rfl | trivial⟩,by omega⟩
  ·rw [if_neg (by rw [hx]; simp),← i2]
   exact ⟨by omega,⟨by omega,by omega,by first | rfl | trivial⟩,by omega⟩
 ·simp only at i0 i1 i2 hge ⊢
  rw [bM (of_decide_eq_false hge)] at i2
  have hl:=gM h
  have hc:[o,p.map (·.1)].flatten=l0++cZ h++p.map (·.1):=by rw [i2]; simp
  rw [hc,hF]
  unfold aC
  simp only [List.length_append,List.length_map]
  exact ⟨trivial,by omega,trivial,trivial,by first | rfl | trivial,trivial⟩
theorem zt:y5.ok Try.prog 163:=aQ (ann:=zX) (ai tW (ai vU (ai rq (kG vV (kG nu ax))))) Try.func163 (by kernel_rfl) w8
def yf:Nat→Option LoopGen
 | 2=>some { rd:=[.dat 24 (.arr ty_I)],A:=fun (l:List Int)=>{ cs:=[.dat 26 ty_I],inv:=fun (i:Int)=>0≤i∧i≤l.length∧∀ x∈l.take i.toNat,x=0,mu:=fun (i:Int)=>(l.length - i).toNat } }
 | 8=>some { rd:=[.own 35 3 ty_I,.box 1 bY],A:=fun ((l,s):List Int×aD)=>{ cs:=[.dat 37 ty_I],inv:=fun (i:Int)=>0≤i∧i≤l.length∧∀ x∈l.take i.toNat,isB (aa s.1).1 x=true,mu:=fun (i:Int)=>(l.length - i).toNat } }
 | _=>none
def xl:Spec:={ Ts:=[bY],Rs:=[.dat ty_I],pre:=fun _=>True,F:=aH }
def pi:Prop :=
  ∀ (x:List Int×List Int×List (Int×Int)×List (Int×Bool×Int)),((x.1.length * 8≤aC∧∀ (x_1:Int),x_1∈x.1→am .u64 x_1)∧(x.2.1.length * 8≤aC∧∀ (x_1:Int),x_1∈x.2.1→am .i64 x_1)∧(x.2.2.1.length * (8+8)≤aC∧∀ (x_1:Int×Int),x_1∈x.2.2.1→am .i64 x_1.1∧am .i64 x_1.2)∧x.2.2.2.length * (8+(8+8))≤aC∧∀ (x_1:Int×Bool×Int),x_1∈x.2.2.2→am .i64 x_1.1∧True∧am .i64 x_1.2.2)→True→True∧True∧True∧True∧((0:Int)≤0∧0≤(↑[(ah x.1).2.2,ao x.2.1 (↑x.1.length:Int),be x.2.2.1,aM x.2.2.2].length:Int)∧∀ (x_1:Int),x_1∈List.take (Int.toNat 0) [(ah x.1).2.2,ao x.2.1 (↑x.1.length:Int),be x.2.2.1,aM x.2.2.2]→x_1=0)∧∀ (x_1:Int),(0≤x_1∧x_1≤(↑[(ah x.1).2.2,ao x.2.1 (↑x.1.length:Int),be x.2.2.1,aM x.2.2.2].length:Int)∧∀ (x_2:Int),x_2∈List.take x_1.toNat [(ah x.1).2.2,ao x.2.1 (↑x.1.length:Int),be x.2.2.1,aM x.2.2.2]→x_2=0)→(decide (x_1<(↑[(ah x.1).2.2,ao x.2.1 (↑x.1.length:Int),be x.2.2.1,aM x.2.2.2].length:Int))=true→0≤x_1∧x_1<(↑[(ah x.1).2.2,ao x.2.1 (↑x.1.length:Int),be x.2.2.1,aM x.2.2.2].length:Int)∧(decide ([(ah x.1).2.2,ao x.2.1 (↑x.1.length:Int),be x.2.2.1,aM x.2.2.2].getD x_1.toNat (0:Int)≠0)=true→[(ah x.1).2.2,ao x.2.1 (↑x.1.length:Int),be x.2.2.1,aM x.2.2.2].getD x_1.toNat 0=aH x∧True)∧(decide ([(ah x.1).2.2,ao x.2.1 (↑x.1.length:Int),be x.2.2.1,aM x.2.2.2].getD x_1.toNat (0:Int)≠0)=false→am .i64 (x_1+1)∧(0≤x_1+1∧x_1+1≤(↑[(ah x.1).2.2,ao x.2.1 (↑x.1.length:Int),be x.2.2.1,aM x.2.2.2].length:Int)∧∀ (x_2:Int),x_2∈List.take (x_1+1).toNat [(ah x.1).2.2,ao x.2.1 (↑x.1.length:Int),be x.2.2.1,aM x.2.2.2]→x_2=0)∧((↑[(ah x.1).2.2,ao x.2.1 (↑x.1.length:Int),be x.2.2.1,aM x.2.2.2].length:Int) - (x_1+1)).toNat<((↑[(ah x.1).2.2,ao x.2.1 (↑x.1.length:Int),be x.2.2.1,aM x.2.2.2].length:Int) - x_1).toNat))∧(decide (x_1<(↑[(ah x.1).2.2,ao x.2.1 (↑x.1.length:Int),be x.2.2.1,aM x.2.2.2].length:Int))=false→(x.2.1.length≤32∧x.2.2.1.length≤16∧x.2.2.2.length≤16)∧((0:Int)≤0∧0≤(↑(cf x).length:Int)∧∀ (x_2:Int),x_2∈List.take (Int.toNat 0) (cf x)→isB (aa x.1).1 x_2=true)∧∀ (x_2:Int),(0≤x_2∧x_2≤(↑(cf x).length:Int)∧∀ (x_3:Int),x_3∈List.take x_2.toNat (cf x)→isB (aa x.1).1 x_3=true)→(decide (x_2<(↑(cf x).length:Int))=true→0≤x_2∧x_2<(↑(cf x).length:Int)∧x_2.toNat<(cf x).length∧True∧((decide ((sS x.1 ((cf x).getD x_2.toNat 0)).2≠0)||(sS x.1 ((cf x).getD x_2.toNat 0)).1.2.2.2)=true→5=aH x∧True)∧((decide ((sS x.1 ((cf x).getD x_2.toNat 0)).2≠0)||(sS x.1 ((cf x).getD x_2.toNat 0)).1.2.2.2)=false→am .i64 (x_2+1)∧(0≤x_2+1∧x_2+1≤(↑(cf x).length:Int)∧∀ (x_3:Int),x_3∈List.take (x_2+1).toNat (cf x)→isB (aa x.1).1 x_3=true)∧((↑(cf x).length:Int) - (x_2+1)).toNat<((↑(cf x).length:Int) - x_2).toNat))∧(decide (x_2<(↑(cf x).length:Int))=false→0=aH x∧True))
theorem u0:pi:=by
 unfold pi
 intro s hx _
 have hF:aH s=if (ah s.1).2.2≠0 then (ah s.1).2.2 else if ao s.2.1 s.1.length≠0 then ao s.2.1 s.1.length else if be s.2.2.1≠0 then be s.2.2.1 else if aM s.2.2.2≠0 then aM s.2.2.2 else bc s.1 (cn s):=rfl
 have hsm:=fun a b c=>gg (s:=s) a b c
 have hmem:=fun a x=>mL (s:=s) a (x:=x)
 have hfree:=fun a x=>BS (a:=s.1) a x
 have hfl:(cf s).length≤(cf s).length:=Nat.le_refl _
 have hlen:(ah s.1).2.2=0→ao s.2.1 s.1.length=0→be s.2.2.1=0→aM s.2.2.2=0→(cf s).length≤64:=fun _ a b c=>by
  obtain ⟨q1,q2,q3⟩:=hsm a b c
  have e1:=jE s.2.1 s.1.length
  have e2:=gM s.2.2.2
  have e3:(cf s).length≤(dG ((aN s.2.1 s.1.length).1++cZ s.2.2.2++s.2.2.1.map (·.1))).length:=jf _
  rw [hY] at e3
  simp only [List.length_append,List.length_map] at e3
  omega
 generalize hc0:(ah s.1).2.2=c0 at *
 generalize ao s.2.1 s.1.length=c1 at *
 generalize be s.2.2.1=c2 at *
 generalize aM s.2.2.2=c3 at *
 have hl4:([c0,c1,c2,c3].length:Int)=4:=rfl
 refine ⟨trivial,trivial,trivial,trivial,⟨by omega,by omega,fun x hx=>by simp at hx⟩,fun i ⟨i0,i1,i2⟩=>⟨fun hlt=>?_,fun hge=>?_⟩⟩
 ·have hlt:=of_decide_eq_true hlt
  have ht:=aW (0:Int) i0 hlt
  refine ⟨i0,hlt,fun hn=>⟨?_,trivial⟩,fun hn=>⟨by simp only [am]; omega,⟨by omega,by omega,fun x hx=>?_⟩,by omega⟩⟩
  ·have hn:=of_decide_eq_true hn
   rw [hF]
   have h4:i=0∨i=1∨i=2∨i=3:=by omega
   rcases h4 with rfl | rfl | rfl | rfl
   ·exact (if_pos hn).symm
   ·have e0:=i2 c0 (by simp)
    rw [if_neg (by omega)]
    exact (if_pos hn).symm
   ·have e0:=i2 c0 (by simp)
    have e1:=i2 c1 (by simp)
    rw [if_neg (by omega),if_neg (by omega)]
    exact (if_pos hn).symm
   ·have e0:=i2 c0 (by simp)
    have e1:=i2 c1 (by simp)
    have e2:=i2 c2 (by simp)
    rw [if_neg (by omega),if_neg (by omega),if_neg (by omega)]
    exact (if_pos hn).symm
  ·have hn:[c0,c1,c2,c3].getD i.toNat 0=0:=by simpa using of_decide_eq_false hn
   rw [ht] at hx
   rcases List.mem_append.1 hx with hx | hx
   ·exact i2 x hx
   ·rw [List.mem_singleton.1 hx,hn]
 ·have hge:=of_decide_eq_false hge
  rw [bM hge] at i2
  have e0:=i2 c0 (by simp)
  have e1:=i2 c1 (by simp)
  have e2:=i2 c2 (by simp)
  have e3:=i2 c3 (by simp)
  have hS:aH s=bc s.1 (cn s):=by rw [hF,if_neg (by omega),if_neg (by omega),if_neg (by omega),if_neg (by omega)]
  have hfr:=hfree e0
  have hln:=hlen e0 e1 e2 e3
  have hmm:=hmem e1
  have hFF:bc s.1 (cn s)=if (cn s).all (isB (aa s.1).1)=true then 0 else 5:=by
   unfold bc
   rw [if_neg (by omega)]
  rw [hS,hFF]
  refine ⟨hsm e1 e2 e3,⟨by omega,by omega,fun x hx=>by simp at hx⟩,fun j ⟨j0,j1,j2⟩=>⟨fun hj=>?_,fun hj=>?_⟩⟩
  ·have hj:=of_decide_eq_true hj
   have ht:=aW (0:Int) j0 hj
   have hm:=aU (0:Int) j0 hj
   rw [hfr,ht]
   generalize (cf s).getD j.toNat 0=y at *
   refine ⟨j0,hj,by omega,trivial,fun hn=>⟨?_,trivial⟩,fun hn=>⟨by simp only [am]; omega,⟨by omega,by omega,fun x hx=>?_⟩,by omega⟩⟩
   ·rw [if_neg (fun hall=>?_)]
    have:=List.all_eq_true.1 hall y ((hmm y).1 hm)
    rw [this] at hn
    cases hn
   ·rcases List.mem_append.1 hx with hx | hx
    ·exact j2 x hx
    ·rw [List.mem_singleton.1 hx]
     simpa using hn
  ·have hj:=of_decide_eq_false hj
   rw [bM hj] at j2
   refine ⟨?_,trivial⟩
   rw [if_pos (List.all_eq_true.2 fun x hx=>j2 x ((hmm x).2 hx))]
theorem pz:xl.ok Try.prog 125:=aQ (ann:=yf) (ai tS (ai lx (ai vZ (ai ub (ai zt (ai zr ax)))))) Try.func125 (by kernel_rfl) u0
def rS:Nat→Option LoopGen
 | 3=>some { rd:=[.dat 11 (.arr ty_I)],A:=fun (r:List Int)=>{ cs:=[.own 3 3 ty_I,.dat 13 ty_I],inv:=fun ((o,i):List Int×Int)=>0≤i∧i≤r.length∧o=(r.take i.toNat).filter fun v=>decide (0≤v),mu:=fun ((_,i):List Int×Int)=>(r.length - i).toNat } }
 | 9=>some { rd:=[.dat 25 (.arr bo),.own 3 3 ty_I],A:=fun ((h,l0):List b6×List Int)=>{ cs:=[.own 3 3 ty_I,.dat 27 ty_I],inv:=fun ((o,i):List Int×Int)=>0≤i∧i≤h.length∧o=l0++cZ (h.take i.toNat),mu:=fun ((_,i):List Int×Int)=>(h.length - i).toNat } }
 | 15=>some { rd:=[.dat 40 (.arr bK),.own 3 3 ty_I],A:=fun ((p,l0):List fq×List Int)=>{ cs:=[.own 3 3 ty_I,.dat 42 ty_I],inv:=fun ((o,i):List Int×Int)=>0≤i∧i≤p.length∧o=l0++(p.take i.toNat).map (·.1),mu:=fun ((_,i):List Int×Int)=>(p.length - i).toNat } }
 | _=>none
def qX:Spec:={ Ts:=[bY],Rs:=[.own 3 ty_I],pre:=fun (s:aD)=>s.2.1.length≤32∧s.2.2.1.length≤16∧s.2.2.2.length≤16,F:=fun (s:aD)=>bz (cn s) 256 }
def jK:Prop :=
  ∀ (x:List Int×List Int×List (Int×Int)×List (Int×Bool×Int)),((x.1.length * 8≤aC∧∀ (x_1:Int),x_1∈x.1→am .u64 x_1)∧(x.2.1.length * 8≤aC∧∀ (x_1:Int),x_1∈x.2.1→am .i64 x_1)∧(x.2.2.1.length * (8+8)≤aC∧∀ (x_1:Int×Int),x_1∈x.2.2.1→am .i64 x_1.1∧am .i64 x_1.2)∧x.2.2.2.length * (8+(8+8))≤aC∧∀ (x_1:Int×Bool×Int),x_1∈x.2.2.2→am .i64 x_1.1∧True∧am .i64 x_1.2.2)→x.2.1.length≤32∧x.2.2.1.length≤16∧x.2.2.2.length≤16→((0:Int)≤0∧0≤(↑x.2.1.length:Int)∧([]:List Int)=List.filter (fun (v:Int)=>decide (0≤v)) (List.take (Int.toNat 0) x.2.1))∧∀ (x_1:List Int×Int),0≤x_1.2∧x_1.2≤(↑x.2.1.length:Int)∧x_1.1=List.filter (fun (v:Int)=>decide (0≤v)) (List.take x_1.2.toNat x.2.1)→(decide (x_1.2<(↑x.2.1.length:Int))=true→0≤x_1.2∧x_1.2<(↑x.2.1.length:Int)∧(decide (0≤x.2.1.getD x_1.2.toNat 0)=true→(x_1.1.length+[x.2.1.getD x_1.2.toNat 0].length) * 8≤aC∧am .i64 (x_1.2+1)∧(0≤x_1.2+1∧x_1.2+1≤(↑x.2.1.length:Int)∧x_1.1++[x.2.1.getD x_1.2.toNat 0]=List.filter (fun (v:Int)=>decide (0≤v)) (List.take (x_1.2+1).toNat x.2.1))∧((↑x.2.1.length:Int) - (x_1.2+1)).toNat<((↑x.2.1.length:Int) - x_1.2).toNat)∧(decide (0≤x.2.1.getD x_1.2.toNat 0)=false→am .i64 (x_1.2+1)∧(0≤x_1.2+1∧x_1.2+1≤(↑x.2.1.length:Int)∧x_1.1=List.filter (fun (v:Int)=>decide (0≤v)) (List.take (x_1.2+1).toNat x.2.1))∧((↑x.2.1.length:Int) - (x_1.2+1)).toNat<((↑x.2.1.length:Int) - x_1.2).toNat))∧(decide (x_1.2<(↑x.2.1.length:Int))=false→((0:Int)≤0∧0≤(↑x.2.2.2.length:Int)∧x_1.1=x_1.1++cZ (List.take (Int.toNat 0) x.2.2.2))∧∀ (x_2:List Int×Int),0≤x_2.2∧x_2.2≤(↑x.2.2.2.length:Int)∧x_2.1=x_1.1++cZ (List.take x_2.2.toNat x.2.2.2)→(decide (x_2.2<(↑x.2.2.2.length:Int))=true→0≤x_2.2∧x_2.2<(↑x.2.2.2.length:Int)∧((x.2.2.2.getD x_2.2.toNat (0,false,0)).2.1=true→(x_2.1.length+[(x.2.2.2.getD x_2.2.toNat (0,false,0)).2.2].length) * 8≤aC∧am .i64 (x_2.2+1)∧(0≤x_2.2+1∧x_2.2+1≤(↑x.2.2.2.length:Int)∧x_2.1++[(x.2.2.2.getD x_2.2.toNat (0,false,0)).2.2]=x_1.1++cZ (List.take (x_2.2+1).toNat x.2.2.2))∧((↑x.2.2.2.length:Int) - (x_2.2+1)).toNat<((↑x.2.2.2.length:Int) - x_2.2).toNat)∧((x.2.2.2.getD x_2.2.toNat (0,false,0)).2.1=false→am .i64 (x_2.2+1)∧(0≤x_2.2+1∧x_2.2+1≤(↑x.2.2.2.length:Int)∧x_2.1=x_1.1++cZ (List.take (x_2.2+1).toNat x.2.2.2))∧((↑x.2.2.2.length:Int) - (x_2.2+1)).toNat<((↑x.2.2.2.length:Int) - x_2.2).toNat))∧(decide (x_2.2<(↑x.2.2.2.length:Int))=false→((0:Int)≤0∧0≤(↑x.2.2.1.length:Int)∧x_2.1=x_2.1++List.map (fun (x:fq)=>x.1) (List.take (Int.toNat 0) x.2.2.1))∧∀ (x_3:List Int×Int),0≤x_3.2∧x_3.2≤(↑x.2.2.1.length:Int)∧x_3.1=x_2.1++List.map (fun (x:fq)=>x.1) (List.take x_3.2.toNat x.2.2.1)→(decide (x_3.2<(↑x.2.2.1.length:Int))=true→0≤x_3.2∧x_3.2<(↑x.2.2.1.length:Int)∧(x_3.1.length+[(x.2.2.1.getD x_3.2.toNat (0,0)).1].length) * 8≤aC∧am .i64 (x_3.2+1)∧(0≤x_3.2+1∧x_3.2+1≤(↑x.2.2.1.length:Int)∧x_3.1++[(x.2.2.1.getD x_3.2.toNat (0,0)).1]=x_2.1++List.map (fun (x:fq)=>x.1) (List.take (x_3.2+1).toNat x.2.2.1))∧((↑x.2.2.1.length:Int) - (x_3.2+1)).toNat<((↑x.2.2.1.length:Int) - x_3.2).toNat)∧(decide (x_3.2<(↑x.2.2.1.length:Int))=false→True∧bz x_3.1 256=bz (cn x) 256∧True)))
theorem oC:jK:=by
 unfold jK
 intro ⟨a,r,p,h⟩ _ ⟨h1,h2,h3⟩
 simp only at h1 h2 h3 ⊢
 have hN:cn (a,r,p,h)=(r.filter fun v=>decide (0≤v))++cZ h++p.map (·.1):=rfl
 rw [hN]
 refine ⟨⟨by omega,by omega,by simp⟩,fun ⟨o,i⟩ ⟨i0,i1,i2⟩=>⟨fun hlt=>?_,fun hge=>?_⟩⟩
 ·simp only at i0 i1 i2 hlt ⊢
  have hlt:=of_decide_eq_true hlt
  have ht:=aW (0:Int) i0 hlt
  have hl:o.length≤i.toNat:=by
   have:=List.length_filter_le (fun v:Int=>decide (0≤v)) (r.take i.toNat)
   rw [List.length_take] at this
   rw [i2]; omega
  rw [ht,List.filter_append,← i2]
  generalize r.getD i.toNat 0=x at *
  unfold aC
  simp only [am,List.length_singleton]
  refine ⟨i0,hlt,fun hx=>?_,fun hx=>?_⟩
  ·rw [List.filter_cons_of_pos (p:=fun v:Int=>decide (0≤v)) hx,List.filter_nil]
   exact ⟨by omega,by omega,⟨by omega,by omega,by first | rfl | trivial⟩,by omega⟩
  ·rw [List.filter_cons_of_neg (p:=fun v:Int=>decide (0≤v)) (by rw [hx]; simp),List.filter_nil,List.append_nil]
   exact ⟨by omega,⟨by omega,by omega,by first | rfl | trivial⟩,by omega⟩
 simp only at i0 i1 i2 hge ⊢
 rw [bM (of_decide_eq_false hge)] at i2
 have hol:o.length≤32:=by
  have:=List.length_filter_le (fun v:Int=>decide (0≤v)) r
  rw [i2]; omega
 rw [← i2]
 refine ⟨⟨by omega,by omega,by simp [cZ]⟩,fun ⟨o2,k⟩ ⟨k0,k1,k2⟩=>⟨fun hlt=>?_,fun hge=>?_⟩⟩
 ·simp only at k0 k1 k2 hlt ⊢
  have hlt:=of_decide_eq_true hlt
  have ht:=aW ((0,false,0):b6) k0 hlt
  have hl:o2.length≤32+k.toNat:=by
   have:=gM (h.take k.toNat)
   rw [List.length_take] at this
   rw [k2,List.length_append]; omega
  rw [ht,px]
  generalize h.getD k.toNat (0,false,0)=x at *
  unfold aC
  simp only [am,List.length_singleton]
  refine ⟨k0,hlt,fun hx=>?_,fun hx=>?_⟩
  ·rw [if_pos hx,← List.append_assoc,← k2]
   exact ⟨by omega,by omega,⟨by omega,by omega,by first | rfl | trivial⟩,by omega⟩
  ·rw [if_neg (by rw [hx]; simp),← k2]
   exact ⟨by omega,⟨by omega,by omega,by first | rfl | trivial⟩,by omega⟩
 simp only at k0 k1 k2 hge ⊢
 rw [bM (of_decide_eq_false hge)] at k2
 have hol2:o2.length≤48:=by
  have:=gM h
  rw [k2,List.length_append]; omega
 rw [← k2]
 refine ⟨⟨by omega,by omega,by simp⟩,fun ⟨o3,m⟩ ⟨m0,m1,m2⟩=>⟨fun hlt=>?_,fun hge=>?_⟩⟩
 ·simp only at m0 m1 m2 hlt ⊢
  have hlt:=of_decide_eq_true hlt
  have ht:=aW ((0,0):fq) m0 hlt
  have hl:o3.length≤48+m.toNat:=by rw [m2,List.length_append,List.length_map,List.length_take]; omega
  rw [ht,List.map_append,← List.append_assoc,← m2]
  unfold aC
  simp only [am,List.length_singleton]
  exact ⟨m0,hlt,by omega,by omega,⟨by omega,by omega,by first | rfl | trivial⟩,by omega⟩
 ·simp only at m0 m1 m2 hge ⊢
  rw [bM (of_decide_eq_false hge)] at m2
  rw [m2]
  exact ⟨trivial,by first | rfl | trivial,trivial⟩
theorem rl:qX.ok Try.prog 129:=aQ (ann:=rS) (ai xH ax) Try.func129 (by kernel_rfl) oC
def oU:Spec:={ Ts:=[bY],Rs:=[.dat ty_I],pre:=fun _=>True,F:=aH }
def iT:Prop :=
  ∀ (x:List Int×List Int×List (Int×Int)×List (Int×Bool×Int)),((x.1.length * 8≤aC∧∀ (x_1:Int),x_1∈x.1→am .u64 x_1)∧(x.2.1.length * 8≤aC∧∀ (x_1:Int),x_1∈x.2.1→am .i64 x_1)∧(x.2.2.1.length * (8+8)≤aC∧∀ (x_1:Int×Int),x_1∈x.2.2.1→am .i64 x_1.1∧am .i64 x_1.2)∧x.2.2.2.length * (8+(8+8))≤aC∧∀ (x_1:Int×Bool×Int),x_1∈x.2.2.2→am .i64 x_1.1∧True∧am .i64 x_1.2.2)→True→True∧(decide (du x.1≠0)=true→du x.1=aH x∧True)∧(decide (du x.1≠0)=false→True∧(decide (ao x.2.1 (↑x.1.length:Int)≠0)=true→ao x.2.1 (↑x.1.length:Int)=aH x∧True)∧(decide (ao x.2.1 (↑x.1.length:Int)≠0)=false→True∧(decide (be x.2.2.1≠0)=true→be x.2.2.1=aH x∧True)∧(decide (be x.2.2.1≠0)=false→True∧(decide (aM x.2.2.2≠0)=true→aM x.2.2.2=aH x∧True)∧(decide (aM x.2.2.2≠0)=false→(x.2.1.length≤32∧x.2.2.1.length≤16∧x.2.2.2.length≤16)∧True∧nE x.1 [bz (cn x) 256]=aH x∧True))))
theorem nO:iT:=by
 unfold iT
 intro s ⟨⟨_,hw⟩,_⟩ _
 have hF:aH s=if (ah s.1).2.2≠0 then (ah s.1).2.2 else if ao s.2.1 s.1.length≠0 then ao s.2.1 s.1.length else if be s.2.2.1≠0 then be s.2.2.1 else if aM s.2.2.2≠0 then aM s.2.2.2 else bc s.1 (cn s):=rfl
 rw [ww hw,nM hw]
 refine ⟨trivial,fun h0=>⟨?_,trivial⟩,fun h0=>⟨trivial,fun h1=>⟨?_,trivial⟩,fun h1=>⟨trivial,fun h2=>⟨?_,trivial⟩,fun h2=>⟨trivial,fun h3=>⟨?_,trivial⟩,fun h3=>?_⟩⟩⟩⟩
 ·rw [hF,if_pos (of_decide_eq_true h0)]
 all_goals have h0:(ah s.1).2.2=0:=by simpa using of_decide_eq_false h0
 ·rw [hF,if_neg (by omega),if_pos (of_decide_eq_true h1)]
 all_goals have h1:ao s.2.1 s.1.length=0:=by simpa using of_decide_eq_false h1
 ·rw [hF,if_neg (by omega),if_neg (by omega),if_pos (of_decide_eq_true h2)]
 all_goals have h2:be s.2.2.1=0:=by simpa using of_decide_eq_false h2
 ·rw [hF,if_neg (by omega),if_neg (by omega),if_neg (by omega),if_pos (of_decide_eq_true h3)]
 have h3:aM s.2.2.2=0:=by simpa using of_decide_eq_false h3
 refine ⟨gg h1 h2 h3,trivial,?_,trivial⟩
 rw [hF,if_neg (by omega),if_neg (by omega),if_neg (by omega),if_neg (by omega)]
 have hr:=nz h1 h2 h3
 have he:(bz (cn s) 256).all (isB (aa s.1).1)=(cn s).all (isB (aa s.1).1):=by
  apply Bool.eq_iff_iff.2
  rw [List.all_eq_true,List.all_eq_true]
  constructor
  ·intro h x hx
   exact h x (ib.2 ⟨(hr x hx).1,by have:=(hr x hx).2; omega,hx⟩)
  ·intro h x hx
   exact h x (ib.1 hx).2.2
 unfold bc
 rw [he]
theorem iW:oU.ok Try.prog 60:=aQ (ann:=ew) (ai iX (ai zw (ai t7 (ai rp (ai rl (ai AH ax)))))) Try.func60 (by kernel_rfl) nO
def qZ:Spec:={ Ts:=[bY,bY],Rs:=[.dat .bool],pre:=fun _=>True,F:=fun (x:aD×aD)=>decide (x.1=x.2) }
def jM:Prop :=
  ∀ (x:(List Int×List Int×List (Int×Int)×List (Int×Bool×Int))×List Int×List Int×List (Int×Int)×List (Int×Bool×Int)),(((x.1.1.length * 8≤aC∧∀ (x_1:Int),x_1∈x.1.1→am .u64 x_1)∧(x.1.2.1.length * 8≤aC∧∀ (x_1:Int),x_1∈x.1.2.1→am .i64 x_1)∧(x.1.2.2.1.length * (8+8)≤aC∧∀ (x_1:Int×Int),x_1∈x.1.2.2.1→am .i64 x_1.1∧am .i64 x_1.2)∧x.1.2.2.2.length * (8+(8+8))≤aC∧∀ (x_1:Int×Bool×Int),x_1∈x.1.2.2.2→am .i64 x_1.1∧True∧am .i64 x_1.2.2)∧(x.2.1.length * 8≤aC∧∀ (x_1:Int),x_1∈x.2.1→am .u64 x_1)∧(x.2.2.1.length * 8≤aC∧∀ (x_1:Int),x_1∈x.2.2.1→am .i64 x_1)∧(x.2.2.2.1.length * (8+8)≤aC∧∀ (x_1:Int×Int),x_1∈x.2.2.2.1→am .i64 x_1.1∧am .i64 x_1.2)∧x.2.2.2.2.length * (8+(8+8))≤aC∧∀ (x_1:Int×Bool×Int),x_1∈x.2.2.2.2→am .i64 x_1.1∧True∧am .i64 x_1.2.2)→True→True∧(decide (x.1.1=x.2.1)=true→True)∧((decide (x.1.1=x.2.1)&&decide (x.1.2.1=x.2.2.1))=true→True)∧((decide (x.1.1=x.2.1)&&decide (x.1.2.1=x.2.2.1)&&decide (x.1.2.2.1=x.2.2.2.1))=true→True)∧(decide (x.1.1=x.2.1)&&decide (x.1.2.1=x.2.2.1)&&decide (x.1.2.2.1=x.2.2.2.1)&&decide (x.1.2.2.2=x.2.2.2.2))=decide (x.1=x.2)∧True
theorem oE:jM:=by
 unfold jM
 intro ⟨⟨a1,a2,a3,a4⟩,b1,b2,b3,b4⟩ _ _
 refine ⟨trivial,fun _=>trivial,fun _=>trivial,fun _=>trivial,?_,trivial⟩
 apply Bool.eq_iff_iff.2
 simp only [Bool.and_eq_true,decide_eq_true_eq,Prod.mk.injEq]
 grind
theorem rn:qZ.ok Try.prog 64:=aQ (ann:=ew) (ai rm (ai tX (ai vW (ai tV ax)))) Try.func64 (by kernel_rfl) oE
end Go.Proofs.Ytcnoiiohmpgckaa
