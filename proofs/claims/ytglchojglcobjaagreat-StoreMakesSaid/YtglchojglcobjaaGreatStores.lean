
import Derived.Test.YtglchojglcobjaaGreatCames
import Derived.Test.YtglchojglcobjaaGreatRObjects
import Derived.Test.YtglchojglcobjaaGreatConcats
import Derived.Test.YtglchojglcobjaaGreatRoots
import Derived.Test.YtglchojglcobjaaGreatPins
import Derived.Test.YtglchojglcobjaaGreatHands
namespace Go.Proofs.YtglchojglcobjaaGreat
open Go
set_option maxRecDepth 100000
set_option maxHeartbeats 1000000
abbrev bu:Ty:=.pair (.arr be) (.pair (.arr ty_I) (.pair (.arr cW) (.arr b7)))
abbrev aq:=List Int×List Int×List bh×List cg
def ee (h:List cg):List Int:=(h.filter fun s=>s.2.1).map (·.2.2)
def bf (s:aq):List Int:=(s.2.1.filter fun v=>decide (0≤v))++ee s.2.2.2++s.2.2.1.map (·.1)
def am (s:aq):List Int:=eY (dN ((bz s.2.1 s.1.length).1++ee s.2.2.2++s.2.2.1.map (·.1)))
def aO (s:aq):Int :=
 if (ao s.1).2.2≠0 then (ao s.1).2.2 else if ay s.2.1 s.1.length≠0 then ay s.2.1 s.1.length else if bT s.2.2.1≠0 then bT s.2.2.1 else if aN s.2.2.2≠0 then aN s.2.2.2 else aX s.1 (bf s)
theorem jf (r:List Int) (n:Int):(bz r n).1.length≤r.length:=by
 unfold bz
 split
 ·simp
 ·have h1:(eY (dN (r.filter fun v=>!decide (v<0)))).length≤_:=jd _
  have h2:=List.length_filter_le (fun v:Int=>!decide (v<0)) r
  rw [g8] at h1
  simp only
  omega
theorem im (h:List cg):(ee h).length≤h.length:=by
 unfold ee
 rw [List.length_map]
 exact List.length_filter_le _ _
theorem si (h:List cg) (x:cg):ee (h++[x])=if x.2.1=true then ee h++[x.2.2] else ee h:=by
 unfold ee
 rw [List.filter_append,List.map_append]
 by_cases hx:x.2.1=true
 ·rw [if_pos hx,List.filter_cons_of_pos (by simpa using hx)]; simp
 ·rw [if_neg hx,List.filter_cons_of_neg (by simpa using hx)]; simp
theorem oA {l:List Int} {x:Int}:x∈eY (dN l) ↔ x∈l:=by
 rw [(qR (jJ l)).2 x,oO]
theorem fV {s:aq} (h:ay s.2.1 s.1.length=0) {x:Int}:x∈am s ↔ x∈bf s:=by
 unfold am bf
 rw [oA,List.mem_append,List.mem_append,List.mem_append,List.mem_append]
 have:x∈(bz s.2.1 s.1.length).1 ↔ x∈s.2.1.filter fun v=>decide (0≤v):=by
  unfold bz
  rw [if_neg (by omega)]
  simp only
  rw [oA,List.mem_filter,List.mem_filter]
  simp
 rw [this]
theorem vE:∀ (l:List bh) (q:Int),cj q l=0→∀ x∈l,0≤x.1∧x.1≤255
 | [],_,_,x,hx=>by cases hx
 | y::l,q,h,x,hx=>by
  simp only [cj] at h
  split at h
  ·omega
  ·rename_i hb
   split at h
   ·omega
   ·rcases List.mem_cons.1 hx with rfl | hx
    ·unfold iK at hb
     simp only [Bool.or_eq_true,decide_eq_true_eq,not_or] at hb
     omega
    ·exact vE l _ h x hx
theorem rD:∀ (l:List cg),bo l=0→∀ x∈l,0≤x.2.2∧x.2.2≤255
 | [],_,x,hx=>by cases hx
 | y::l,h,x,hx=>by
  simp only [bo] at h
  split at h
  ·rename_i hb; omega
  ·rename_i hb
   rcases List.mem_cons.1 hx with rfl | hx
   ·have hb:iU x=0:=by omega
    unfold iU at hb
    split at hb
    ·omega
    ·omega
   ·exact rD l h x hx
theorem qn {s:aq} (h1:ay s.2.1 s.1.length=0) (h2:bT s.2.2.1=0) (h3:aN s.2.2.2=0):∀ x∈bf s,0≤x∧x≤255:=by
 intro x hx
 unfold bf at hx
 rcases List.mem_append.1 hx with hx | hx
 ·rcases List.mem_append.1 hx with hx | hx
  ·obtain ⟨hx,h0⟩:=List.mem_filter.1 hx
   have h0:=of_decide_eq_true h0
   unfold ay at h1
   split at h1
   ·omega
   ·split at h1
    ·omega
    ·split at h1
     ·omega
     ·rename_i hn _ ha
      have:=wk (by simpa using ha) hx
      omega
  ·unfold ee at hx
   obtain ⟨y,hy,rfl⟩:=List.mem_map.1 hx
   unfold aN at h3
   split at h3
   ·omega
   ·exact rD _ h3 y (List.mem_filter.1 hy).1
 ·obtain ⟨y,hy,rfl⟩:=List.mem_map.1 hx
  unfold bT at h2
  split at h2
  ·omega
  ·exact vE _ _ h2 y hy
theorem iT {s:aq} (h1:ay s.2.1 s.1.length=0) (h2:bT s.2.2.1=0) (h3:aN s.2.2.2=0):s.2.1.length≤32∧s.2.2.1.length≤16∧s.2.2.2.length≤16:=by
 unfold ay at h1
 unfold bT at h2
 unfold aN at h3
 refine ⟨?_,?_,?_⟩
 ·split at h1
  ·omega
  ·split at h1 <;> omega
 ·split at h2 <;> omega
 ·split at h3 <;> omega
theorem Hq {a:List Int} (hc:(ao a).2.2=0) (x:Int):(decide ((iN a x).2≠0)||(iN a x).1.2.2.2)=!isB (aa a).1 x:=by
 by_cases hx:isB (aa a).1 x=true
 ·obtain ⟨_,_,e⟩:=GB hc hx
  have hf:=(gc hx).2.2.2.2.2
  rw [e,hx]
  simp only [gb,hf]
  simp
 ·obtain ⟨_,_,e1,_,_,_,_⟩:=bO hc
  have hx2:isB (aa a).1 x=false:=by simpa using hx
  rw [hx2]
  unfold iN
  rw [if_neg (by omega)]
  by_cases hl:aj (fun s:aw=>decide (s.1=x)) 0 (ao a).1<0
  ·rw [if_pos hl]; simp
  ·rw [if_neg hl]
   have h1:=gL (fun s:aw=>decide (s.1=x)) (0,0,0,0,false) (ao a).1 0 (by omega) (by omega)
   have h2:=dG (fun s:aw=>decide (s.1=x)) (0,0,0,0,false) (ao a).1 0 (by omega)
   rw [Int.sub_zero] at h1
   have h3:=aD (xs:=(ao a).1) ((0,0,0,0,false):aw) (by omega:0≤aj (fun s:aw=>decide (s.1=x)) 0 (ao a).1) (by omega)
   simp only
   generalize (ao a).1.getD (aj (fun s:aw=>decide (s.1=x)) 0 (ao a).1).toNat (0,0,0,0,false)=t at *
   have h1:=of_decide_eq_true h1
   rw [e1] at h3
   have:t.2.2.2.2=true:=by
    cases hf:t.2.2.2.2
    ·exfalso
     apply hx
     have:=jV (b6 a) h3 hf
     unfold isB
     rw [← h1,this]
    ·rfl
   simp only [gb,this]
   simp
def AH:Nat→Option LoopGen
 | 3=>some { rd:=[.dat 7 (.arr cW)],A:=fun (p:List bh)=>{ cs:=[.own 3 3 ty_I,.dat 9 ty_I],inv:=fun ((o,i):List Int×Int)=>0≤i∧i≤p.length∧o=(p.take i.toNat).map (·.1),mu:=fun ((_,i):List Int×Int)=>(p.length - i).toNat } }
 | _=>none
def yR:Spec:={ Ts:=[bu],Rs:=[.own 3 ty_I],pre:=fun _=>True,F:=fun (s:aq)=>s.2.2.1.map (·.1) }
def pJ:Prop :=
  ∀ (x:List Int×List Int×List (Int×Int)×List (Int×Bool×Int)),((x.1.length * 8≤az∧∀ (x_1:Int),x_1∈x.1→ak IntKind.u64 x_1)∧(x.2.1.length * 8≤az∧∀ (x_1:Int),x_1∈x.2.1→ak IntKind.i64 x_1)∧(x.2.2.1.length * (8+8)≤az∧∀ (x_1:Int×Int),x_1∈x.2.2.1→ak IntKind.i64 x_1.1∧ak IntKind.i64 x_1.2)∧x.2.2.2.length * (8+(8+8))≤az∧∀ (x_1:Int×Bool×Int),x_1∈x.2.2.2→ak IntKind.i64 x_1.1∧True∧ak IntKind.i64 x_1.2.2)→True→((0:Int)≤0∧0≤(↑x.2.2.1.length:Int)∧([]:List Int)=List.map (fun (x:bh)=>x.1) (List.take (Int.toNat 0) x.2.2.1))∧∀ (x_1:List Int×Int),0≤x_1.2∧x_1.2≤(↑x.2.2.1.length:Int)∧x_1.1=List.map (fun (x:bh)=>x.1) (List.take x_1.2.toNat x.2.2.1)→(decide (x_1.2<(↑x.2.2.1.length:Int))=true→0≤x_1.2∧x_1.2<(↑x.2.2.1.length:Int)∧(x_1.1.length+[(x.2.2.1.getD x_1.2.toNat (0,0)).1].length) * 8≤az∧ak IntKind.i64 (x_1.2+1)∧(0≤x_1.2+1∧x_1.2+1≤(↑x.2.2.1.length:Int)∧x_1.1++[(x.2.2.1.getD x_1.2.toNat (0,0)).1]=List.map (fun (x:bh)=>x.1) (List.take (x_1.2+1).toNat x.2.2.1))∧((↑x.2.2.1.length:Int) - (x_1.2+1)).toNat<((↑x.2.2.1.length:Int) - x_1.2).toNat)∧(decide (x_1.2<(↑x.2.2.1.length:Int))=false→x_1.1=List.map (fun (x:bh)=>x.1) x.2.2.1∧True)
theorem wn:pJ:=by
 unfold pJ
 intro ⟨a,r,p,h⟩ ⟨_,_,⟨hbp,_⟩,_⟩ _
 unfold az at hbp
 simp only at hbp ⊢
 refine ⟨⟨by omega,by omega,by simp⟩,fun ⟨o,i⟩ ⟨i0,i1,i2⟩=>⟨fun hlt=>?_,fun hge=>?_⟩⟩
 ·simp only at i0 i1 i2 hlt ⊢
  have hlt:=of_decide_eq_true hlt
  have ht:=bj ((0,0):bh) i0 hlt
  have hl:o.length=i.toNat:=by rw [i2]; simp; omega
  rw [ht,List.map_append,← i2]
  unfold az
  simp only [ak,List.length_singleton]
  exact ⟨i0,hlt,by omega,by omega,⟨by omega,by omega,by first | rfl | trivial⟩,by omega⟩
 ·simp only at i0 i1 i2 hge ⊢
  rw [bE (of_decide_eq_false hge)] at i2
  exact ⟨i2,trivial⟩
theorem kE:yR.ok Tryz.prog 82:=aI (ann:=AH) ap Tryz.func82 (by kernel_rfl) wn
def EN:Nat→Option LoopGen
 | 3=>some { rd:=[.dat 17 (.arr b7),.own 3 3 ty_I],A:=fun ((h,l0):List cg×List Int)=>{ cs:=[.own 3 3 ty_I,.dat 19 ty_I],inv:=fun ((o,i):List Int×Int)=>0≤i∧i≤h.length∧o=l0++ee (h.take i.toNat),mu:=fun ((_,i):List Int×Int)=>(h.length - i).toNat } }
 | _=>none
def DH:Spec:={ Ts:=[bu],Rs:=[.own 3 ty_I],pre:=fun (s:aq)=>s.2.1.length≤32∧s.2.2.1.length≤16∧s.2.2.2.length≤16,F:=am }
def vf:Prop :=
  ∀ (x:List Int×List Int×List (Int×Int)×List (Int×Bool×Int)),((x.1.length * 8≤az∧∀ (x_1:Int),x_1∈x.1→ak IntKind.u64 x_1)∧(x.2.1.length * 8≤az∧∀ (x_1:Int),x_1∈x.2.1→ak IntKind.i64 x_1)∧(x.2.2.1.length * (8+8)≤az∧∀ (x_1:Int×Int),x_1∈x.2.2.1→ak IntKind.i64 x_1.1∧ak IntKind.i64 x_1.2)∧x.2.2.2.length * (8+(8+8))≤az∧∀ (x_1:Int×Bool×Int),x_1∈x.2.2.2→ak IntKind.i64 x_1.1∧True∧ak IntKind.i64 x_1.2.2)→x.2.1.length≤32∧x.2.2.1.length≤16∧x.2.2.2.length≤16→True∧((0:Int)≤0∧0≤(↑x.2.2.2.length:Int)∧(bz x.2.1 (↑x.1.length:Int)).1=(bz x.2.1 (↑x.1.length:Int)).1++ee (List.take (Int.toNat 0) x.2.2.2))∧∀ (x_1:List Int×Int),0≤x_1.2∧x_1.2≤(↑x.2.2.2.length:Int)∧x_1.1=(bz x.2.1 (↑x.1.length:Int)).1++ee (List.take x_1.2.toNat x.2.2.2)→(decide (x_1.2<(↑x.2.2.2.length:Int))=true→0≤x_1.2∧x_1.2<(↑x.2.2.2.length:Int)∧((x.2.2.2.getD x_1.2.toNat (0,false,0)).2.1=true→(x_1.1.length+[(x.2.2.2.getD x_1.2.toNat (0,false,0)).2.2].length) * 8≤az∧ak IntKind.i64 (x_1.2+1)∧(0≤x_1.2+1∧x_1.2+1≤(↑x.2.2.2.length:Int)∧x_1.1++[(x.2.2.2.getD x_1.2.toNat (0,false,0)).2.2]=(bz x.2.1 (↑x.1.length:Int)).1++ee (List.take (x_1.2+1).toNat x.2.2.2))∧((↑x.2.2.2.length:Int) - (x_1.2+1)).toNat<((↑x.2.2.2.length:Int) - x_1.2).toNat)∧((x.2.2.2.getD x_1.2.toNat (0,false,0)).2.1=false→ak IntKind.i64 (x_1.2+1)∧(0≤x_1.2+1∧x_1.2+1≤(↑x.2.2.2.length:Int)∧x_1.1=(bz x.2.1 (↑x.1.length:Int)).1++ee (List.take (x_1.2+1).toNat x.2.2.2))∧((↑x.2.2.2.length:Int) - (x_1.2+1)).toNat<((↑x.2.2.2.length:Int) - x_1.2).toNat))∧(decide (x_1.2<(↑x.2.2.2.length:Int))=false→True∧[x_1.1,List.map (fun (x:bh)=>x.1) x.2.2.1].flatten.length * 8≤az∧True∧True∧eY (dN [x_1.1,List.map (fun (x:bh)=>x.1) x.2.2.1].flatten)=am x∧True)
theorem A2:vf:=by
 unfold vf
 intro ⟨a,r,p,h⟩ _ ⟨h1,h2,h3⟩
 simp only at h1 h2 h3 ⊢
 have hF:am (a,r,p,h)=eY (dN ((bz r a.length).1++ee h++p.map (·.1))):=rfl
 have hrl:=jf r a.length
 generalize (bz r a.length).1=l0 at *
 refine ⟨trivial,⟨by omega,by omega,by simp [ee]⟩,fun ⟨o,i⟩ ⟨i0,i1,i2⟩=>⟨fun hlt=>?_,fun hge=>?_⟩⟩
 ·simp only at i0 i1 i2 hlt ⊢
  have hlt:=of_decide_eq_true hlt
  have ht:=bj ((0,false,0):cg) i0 hlt
  have hl:o.length≤32+i.toNat:=by
   have:=im (h.take i.toNat)
   rw [List.length_take] at this
   rw [i2,List.length_append]; omega
  rw [ht,si]
  generalize h.getD i.toNat (0,false,0)=x at *
  unfold az
  simp only [ak,List.length_singleton]
  refine ⟨i0,hlt,fun hx=>?_,fun hx=>?_⟩
  ·rw [if_pos hx,← List.append_assoc,← i2]
   exact ⟨by omega,by omega,⟨by omega,by omega,by first | rfl | trivial⟩,by omega⟩
  ·rw [if_neg (by rw [hx]; simp),← i2]
   exact ⟨by omega,⟨by omega,by omega,by first | rfl | trivial⟩,by omega⟩
 ·simp only at i0 i1 i2 hge ⊢
  rw [bE (of_decide_eq_false hge)] at i2
  have hl:=im h
  have hc:[o,p.map (·.1)].flatten=l0++ee h++p.map (·.1):=by rw [i2]; simp
  rw [hc,hF]
  unfold az
  simp only [List.length_append,List.length_map]
  exact ⟨trivial,by omega,trivial,trivial,by first | rfl | trivial,trivial⟩
theorem oX:DH.ok Tryz.prog 94:=aI (ann:=EN) (ae xx (ae kE (ae mf (ne sk (ne ql ap))))) Tryz.func94 (by kernel_rfl) A2
def Cq:Nat→Option LoopGen
 | 2=>some { rd:=[.dat 24 (.arr ty_I)],A:=fun (l:List Int)=>{ cs:=[.dat 26 ty_I],inv:=fun (i:Int)=>0≤i∧i≤l.length∧∀ x∈l.take i.toNat,x=0,mu:=fun (i:Int)=>(l.length - i).toNat } }
 | 8=>some { rd:=[.own 35 3 ty_I,.box 1 bu],A:=fun ((l,s):List Int×aq)=>{ cs:=[.dat 37 ty_I],inv:=fun (i:Int)=>0≤i∧i≤l.length∧∀ x∈l.take i.toNat,isB (aa s.1).1 x=true,mu:=fun (i:Int)=>(l.length - i).toNat } }
 | _=>none
def Br:Spec:={ Ts:=[bu],Rs:=[.dat ty_I],pre:=fun _=>True,F:=aO }
def rS:Prop :=
  ∀ (x:List Int×List Int×List (Int×Int)×List (Int×Bool×Int)),((x.1.length * 8≤az∧∀ (x_1:Int),x_1∈x.1→ak IntKind.u64 x_1)∧(x.2.1.length * 8≤az∧∀ (x_1:Int),x_1∈x.2.1→ak IntKind.i64 x_1)∧(x.2.2.1.length * (8+8)≤az∧∀ (x_1:Int×Int),x_1∈x.2.2.1→ak IntKind.i64 x_1.1∧ak IntKind.i64 x_1.2)∧x.2.2.2.length * (8+(8+8))≤az∧∀ (x_1:Int×Bool×Int),x_1∈x.2.2.2→ak IntKind.i64 x_1.1∧True∧ak IntKind.i64 x_1.2.2)→True→True∧True∧True∧True∧((0:Int)≤0∧0≤(↑[(ao x.1).2.2,ay x.2.1 (↑x.1.length:Int),bT x.2.2.1,aN x.2.2.2].length:Int)∧∀ (x_1:Int),x_1∈List.take (Int.toNat 0) [(ao x.1).2.2,ay x.2.1 (↑x.1.length:Int),bT x.2.2.1,aN x.2.2.2]→x_1=0)∧∀ (x_1:Int),(0≤x_1∧x_1≤(↑[(ao x.1).2.2,ay x.2.1 (↑x.1.length:Int),bT x.2.2.1,aN x.2.2.2].length:Int)∧∀ (x_2:Int),x_2∈List.take x_1.toNat [(ao x.1).2.2,ay x.2.1 (↑x.1.length:Int),bT x.2.2.1,aN x.2.2.2]→x_2=0)→(decide (x_1<(↑[(ao x.1).2.2,ay x.2.1 (↑x.1.length:Int),bT x.2.2.1,aN x.2.2.2].length:Int))=true→0≤x_1∧x_1<(↑[(ao x.1).2.2,ay x.2.1 (↑x.1.length:Int),bT x.2.2.1,aN x.2.2.2].length:Int)∧(decide ([(ao x.1).2.2,ay x.2.1 (↑x.1.length:Int),bT x.2.2.1,aN x.2.2.2].getD x_1.toNat (0:Int)≠0)=true→[(ao x.1).2.2,ay x.2.1 (↑x.1.length:Int),bT x.2.2.1,aN x.2.2.2].getD x_1.toNat 0=aO x∧True)∧(decide ([(ao x.1).2.2,ay x.2.1 (↑x.1.length:Int),bT x.2.2.1,aN x.2.2.2].getD x_1.toNat (0:Int)≠0)=false→ak IntKind.i64 (x_1+1)∧(0≤x_1+1∧x_1+1≤(↑[(ao x.1).2.2,ay x.2.1 (↑x.1.length:Int),bT x.2.2.1,aN x.2.2.2].length:Int)∧∀ (x_2:Int),x_2∈List.take (x_1+1).toNat [(ao x.1).2.2,ay x.2.1 (↑x.1.length:Int),bT x.2.2.1,aN x.2.2.2]→x_2=0)∧((↑[(ao x.1).2.2,ay x.2.1 (↑x.1.length:Int),bT x.2.2.1,aN x.2.2.2].length:Int) - (x_1+1)).toNat<((↑[(ao x.1).2.2,ay x.2.1 (↑x.1.length:Int),bT x.2.2.1,aN x.2.2.2].length:Int) - x_1).toNat))∧(decide (x_1<(↑[(ao x.1).2.2,ay x.2.1 (↑x.1.length:Int),bT x.2.2.1,aN x.2.2.2].length:Int))=false→(x.2.1.length≤32∧x.2.2.1.length≤16∧x.2.2.2.length≤16)∧((0:Int)≤0∧0≤(↑(am x).length:Int)∧∀ (x_2:Int),x_2∈List.take (Int.toNat 0) (am x)→isB (aa x.1).1 x_2=true)∧∀ (x_2:Int),(0≤x_2∧x_2≤(↑(am x).length:Int)∧∀ (x_3:Int),x_3∈List.take x_2.toNat (am x)→isB (aa x.1).1 x_3=true)→(decide (x_2<(↑(am x).length:Int))=true→0≤x_2∧x_2<(↑(am x).length:Int)∧x_2.toNat<(am x).length∧True∧((decide ((iN x.1 ((am x).getD x_2.toNat 0)).2≠0)||(iN x.1 ((am x).getD x_2.toNat 0)).1.2.2.2)=true→5=aO x∧True)∧((decide ((iN x.1 ((am x).getD x_2.toNat 0)).2≠0)||(iN x.1 ((am x).getD x_2.toNat 0)).1.2.2.2)=false→ak IntKind.i64 (x_2+1)∧(0≤x_2+1∧x_2+1≤(↑(am x).length:Int)∧∀ (x_3:Int),x_3∈List.take (x_2+1).toNat (am x)→isB (aa x.1).1 x_3=true)∧((↑(am x).length:Int) - (x_2+1)).toNat<((↑(am x).length:Int) - x_2).toNat))∧(decide (x_2<(↑(am x).length:Int))=false→0=aO x∧True))
theorem yr:rS:=by
 unfold rS
 intro s hx _
 have hF:aO s=if (ao s.1).2.2≠0 then (ao s.1).2.2 else if ay s.2.1 s.1.length≠0 then ay s.2.1 s.1.length else if bT s.2.2.1≠0 then bT s.2.2.1 else if aN s.2.2.2≠0 then aN s.2.2.2 else aX s.1 (bf s):=rfl
 have hsm:=fun a b c=>iT (s:=s) a b c
 have hmem:=fun a x=>fV (s:=s) a (x:=x)
 have hfree:=fun a x=>Hq (a:=s.1) a x
 have hfl:(am s).length≤(am s).length:=Nat.le_refl _
 have hlen:(ao s.1).2.2=0→ay s.2.1 s.1.length=0→bT s.2.2.1=0→aN s.2.2.2=0→(am s).length≤64:=fun _ a b c=>by
  obtain ⟨q1,q2,q3⟩:=hsm a b c
  have e1:=jf s.2.1 s.1.length
  have e2:=im s.2.2.2
  have e3:(am s).length≤(dN ((bz s.2.1 s.1.length).1++ee s.2.2.2++s.2.2.1.map (·.1))).length:=jd _
  rw [g8] at e3
  simp only [List.length_append,List.length_map] at e3
  omega
 generalize hc0:(ao s.1).2.2=c0 at *
 generalize ay s.2.1 s.1.length=c1 at *
 generalize bT s.2.2.1=c2 at *
 generalize aN s.2.2.2=c3 at *
 have hl4:([c0,c1,c2,c3].length:Int)=4:=rfl
 refine ⟨trivial,trivial,trivial,trivial,⟨by omega,by omega,fun x hx=>by simp at hx⟩,fun i ⟨i0,i1,i2⟩=>⟨fun hlt=>?_,fun hge=>?_⟩⟩
 ·have hlt:=of_decide_eq_true hlt
  have ht:=bj (0:Int) i0 hlt
  refine ⟨i0,hlt,fun hn=>⟨?_,trivial⟩,fun hn=>⟨by simp only [ak]; omega,⟨by omega,by omega,fun x hx=>?_⟩,by omega⟩⟩
  ·have hn:=of_decide_eq_true hn
   rw [hF]
   have h4:i=0∨i=1∨i=2∨i=3:=by omega
   rcases h4 with rfl | rfl | rfl | rfl
   ·exact (if_pos hn).symm
   ·have e0:=i2 c0 (by simp)
    rw [if_neg (by omega)]
    exact (if_pos hn).symm
   ·have e0:=i2 c0 (by simp)
    have e1:=i2 c1 (by simp)
    rw [if_neg (by omega),if_neg (by omega)]
    exact (if_pos hn).symm
   ·have e0:=i2 c0 (by simp)
    have e1:=i2 c1 (by simp)
    have e2:=i2 c2 (by simp)
    rw [if_neg (by omega),if_neg (by omega),if_neg (by omega)]
    exact (if_pos hn).symm
  ·have hn:[c0,c1,c2,c3].getD i.toNat 0=0:=by simpa using of_decide_eq_false hn
   rw [ht] at hx
   rcases List.mem_append.1 hx with hx | hx
   ·exact i2 x hx
   ·rw [List.mem_singleton.1 hx,hn]
 ·have hge:=of_decide_eq_false hge
  rw [bE hge] at i2
  have e0:=i2 c0 (by simp)
  have e1:=i2 c1 (by simp)
  have e2:=i2 c2 (by simp)
  have e3:=i2 c3 (by simp)
  have hS:aO s=aX s.1 (bf s):=by rw [hF,if_neg (by omega),if_neg (by omega),if_neg (by omega),if_neg (by omega)]
  have hfr:=hfree e0
  have hln:=hlen e0 e1 e2 e3
  have hmm:=hmem e1
  have hFF:aX s.1 (bf s)=if (bf s).all (isB (aa s.1).1)=true then 0 else 5:=by
   unfold aX
   rw [if_neg (by omega)]
  rw [hS,hFF]
  refine ⟨hsm e1 e2 e3,⟨by omega,by omega,fun x hx=>by simp at hx⟩,fun j ⟨j0,j1,j2⟩=>⟨fun hj=>?_,fun hj=>?_⟩⟩
  ·have hj:=of_decide_eq_true hj
   have ht:=bj (0:Int) j0 hj
   have hm:=aD (0:Int) j0 hj
   rw [hfr,ht]
   generalize (am s).getD j.toNat 0=y at *
   refine ⟨j0,hj,by omega,trivial,fun hn=>⟨?_,trivial⟩,fun hn=>⟨by simp only [ak]; omega,⟨by omega,by omega,fun x hx=>?_⟩,by omega⟩⟩
   ·rw [if_neg (fun hall=>?_)]
    have:=List.all_eq_true.1 hall y ((hmm y).1 hm)
    rw [this] at hn
    cases hn
   ·rcases List.mem_append.1 hx with hx | hx
    ·exact j2 x hx
    ·rw [List.mem_singleton.1 hx]
     simpa using hn
  ·have hj:=of_decide_eq_false hj
   rw [bE hj] at j2
   refine ⟨?_,trivial⟩
   rw [if_pos (List.all_eq_true.2 fun x hx=>j2 x ((hmm x).2 hx))]
theorem sj:Br.ok Tryz.prog 54:=aI (ann:=Cq) (ae hY (ae jN (ae zS (ae nW (ae oX (ae vJ ap)))))) Tryz.func54 (by kernel_rfl) yr
def uP:Nat→Option LoopGen
 | 3=>some { rd:=[.dat 11 (.arr ty_I)],A:=fun (r:List Int)=>{ cs:=[.own 3 3 ty_I,.dat 13 ty_I],inv:=fun ((o,i):List Int×Int)=>0≤i∧i≤r.length∧o=(r.take i.toNat).filter fun v=>decide (0≤v),mu:=fun ((_,i):List Int×Int)=>(r.length - i).toNat } }
 | 9=>some { rd:=[.dat 25 (.arr b7),.own 3 3 ty_I],A:=fun ((h,l0):List cg×List Int)=>{ cs:=[.own 3 3 ty_I,.dat 27 ty_I],inv:=fun ((o,i):List Int×Int)=>0≤i∧i≤h.length∧o=l0++ee (h.take i.toNat),mu:=fun ((_,i):List Int×Int)=>(h.length - i).toNat } }
 | 15=>some { rd:=[.dat 40 (.arr cW),.own 3 3 ty_I],A:=fun ((p,l0):List bh×List Int)=>{ cs:=[.own 3 3 ty_I,.dat 42 ty_I],inv:=fun ((o,i):List Int×Int)=>0≤i∧i≤p.length∧o=l0++(p.take i.toNat).map (·.1),mu:=fun ((_,i):List Int×Int)=>(p.length - i).toNat } }
 | _=>none
def ua:Spec:={ Ts:=[bu],Rs:=[.own 3 ty_I],pre:=fun (s:aq)=>s.2.1.length≤32∧s.2.2.1.length≤16∧s.2.2.2.length≤16,F:=fun (s:aq)=>a6 (bf s) 256 }
def lU:Prop :=
  ∀ (x:List Int×List Int×List (Int×Int)×List (Int×Bool×Int)),((x.1.length * 8≤az∧∀ (x_1:Int),x_1∈x.1→ak IntKind.u64 x_1)∧(x.2.1.length * 8≤az∧∀ (x_1:Int),x_1∈x.2.1→ak IntKind.i64 x_1)∧(x.2.2.1.length * (8+8)≤az∧∀ (x_1:Int×Int),x_1∈x.2.2.1→ak IntKind.i64 x_1.1∧ak IntKind.i64 x_1.2)∧x.2.2.2.length * (8+(8+8))≤az∧∀ (x_1:Int×Bool×Int),x_1∈x.2.2.2→ak IntKind.i64 x_1.1∧True∧ak IntKind.i64 x_1.2.2)→x.2.1.length≤32∧x.2.2.1.length≤16∧x.2.2.2.length≤16→((0:Int)≤0∧0≤(↑x.2.1.length:Int)∧([]:List Int)=List.filter (fun (v:Int)=>decide (0≤v)) (List.take (Int.toNat 0) x.2.1))∧∀ (x_1:List Int×Int),0≤x_1.2∧x_1.2≤(↑x.2.1.length:Int)∧x_1.1=List.filter (fun (v:Int)=>decide (0≤v)) (List.take x_1.2.toNat x.2.1)→(decide (x_1.2<(↑x.2.1.length:Int))=true→0≤x_1.2∧x_1.2<(↑x.2.1.length:Int)∧(decide (0≤x.2.1.getD x_1.2.toNat 0)=true→(x_1.1.length+[x.2.1.getD x_1.2.toNat 0].length) * 8≤az∧ak IntKind.i64 (x_1.2+1)∧(0≤x_1.2+1∧x_1.2+1≤(↑x.2.1.length:Int)∧x_1.1++[x.2.1.getD x_1.2.toNat 0]=List.filter (fun (v:Int)=>decide (0≤v)) (List.take (x_1.2+1).toNat x.2.1))∧((↑x.2.1.length:Int) - (x_1.2+1)).toNat<((↑x.2.1.length:Int) - x_1.2).toNat)∧(decide (0≤x.2.1.getD x_1.2.toNat 0)=false→ak IntKind.i64 (x_1.2+1)∧(0≤x_1.2+1∧x_1.2+1≤(↑x.2.1.length:Int)∧x_1.1=List.filter (fun (v:Int)=>decide (0≤v)) (List.take (x_1.2+1).toNat x.2.1))∧((↑x.2.1.length:Int) - (x_1.2+1)).toNat<((↑x.2.1.length:Int) - x_1.2).toNat))∧(decide (x_1.2<(↑x.2.1.length:Int))=false→((0:Int)≤0∧0≤(↑x.2.2.2.length:Int)∧x_1.1=x_1.1++ee (List.take (Int.toNat 0) x.2.2.2))∧∀ (x_2:List Int×Int),0≤x_2.2∧x_2.2≤(↑x.2.2.2.length:Int)∧x_2.1=x_1.1++ee (List.take x_2.2.toNat x.2.2.2)→(decide (x_2.2<(↑x.2.2.2.length:Int))=true→0≤x_2.2∧x_2.2<(↑x.2.2.2.length:Int)∧((x.2.2.2.getD x_2.2.toNat (0,false,0)).2.1=true→(x_2.1.length+[(x.2.2.2.getD x_2.2.toNat (0,false,0)).2.2].length) * 8≤az∧ak IntKind.i64 (x_2.2+1)∧(0≤x_2.2+1∧x_2.2+1≤(↑x.2.2.2.length:Int)∧x_2.1++[(x.2.2.2.getD x_2.2.toNat (0,false,0)).2.2]=x_1.1++ee (List.take (x_2.2+1).toNat x.2.2.2))∧((↑x.2.2.2.length:Int) - (x_2.2+1)).toNat<((↑x.2.2.2.length:Int) - x_2.2).toNat)∧((x.2.2.2.getD x_2.2.toNat (0,false,0)).2.1=false→ak IntKind.i64 (x_2.2+1)∧(0≤x_2.2+1∧x_2.2+1≤(↑x.2.2.2.length:Int)∧x_2.1=x_1.1++ee (List.take (x_2.2+1).toNat x.2.2.2))∧((↑x.2.2.2.length:Int) - (x_2.2+1)).toNat<((↑x.2.2.2.length:Int) - x_2.2).toNat))∧(decide (x_2.2<(↑x.2.2.2.length:Int))=false→((0:Int)≤0∧0≤(↑x.2.2.1.length:Int)∧x_2.1=x_2.1++List.map (fun (x:bh)=>x.1) (List.take (Int.toNat 0) x.2.2.1))∧∀ (x_3:List Int×Int),0≤x_3.2∧x_3.2≤(↑x.2.2.1.length:Int)∧x_3.1=x_2.1++List.map (fun (x:bh)=>x.1) (List.take x_3.2.toNat x.2.2.1)→(decide (x_3.2<(↑x.2.2.1.length:Int))=true→0≤x_3.2∧x_3.2<(↑x.2.2.1.length:Int)∧(x_3.1.length+[(x.2.2.1.getD x_3.2.toNat (0,0)).1].length) * 8≤az∧ak IntKind.i64 (x_3.2+1)∧(0≤x_3.2+1∧x_3.2+1≤(↑x.2.2.1.length:Int)∧x_3.1++[(x.2.2.1.getD x_3.2.toNat (0,0)).1]=x_2.1++List.map (fun (x:bh)=>x.1) (List.take (x_3.2+1).toNat x.2.2.1))∧((↑x.2.2.1.length:Int) - (x_3.2+1)).toNat<((↑x.2.2.1.length:Int) - x_3.2).toNat)∧(decide (x_3.2<(↑x.2.2.1.length:Int))=false→True∧a6 x_3.1 256=a6 (bf x) 256∧True)))
theorem rf:lU:=by
 unfold lU
 intro ⟨a,r,p,h⟩ _ ⟨h1,h2,h3⟩
 simp only at h1 h2 h3 ⊢
 have hN:bf (a,r,p,h)=(r.filter fun v=>decide (0≤v))++ee h++p.map (·.1):=rfl
 rw [hN]
 refine ⟨⟨by omega,by omega,by simp⟩,fun ⟨o,i⟩ ⟨i0,i1,i2⟩=>⟨fun hlt=>?_,fun hge=>?_⟩⟩
 ·simp only at i0 i1 i2 hlt ⊢
  have hlt:=of_decide_eq_true hlt
  have ht:=bj (0:Int) i0 hlt
  have hl:o.length≤i.toNat:=by
   have:=List.length_filter_le (fun v:Int=>decide (0≤v)) (r.take i.toNat)
   rw [List.length_take] at this
   rw [i2]; omega
  rw [ht,List.filter_append,← i2]
  generalize r.getD i.toNat 0=x at *
  unfold az
  simp only [ak,List.length_singleton]
  refine ⟨i0,hlt,fun hx=>?_,fun hx=>?_⟩
  ·rw [List.filter_cons_of_pos (p:=fun v:Int=>decide (0≤v)) hx,List.filter_nil]
   exact ⟨by omega,by omega,⟨by omega,by omega,by first | rfl | trivial⟩,by omega⟩
  ·rw [List.filter_cons_of_neg (p:=fun v:Int=>decide (0≤v)) (by rw [hx]; simp),List.filter_nil,List.append_nil]
   exact ⟨by omega,⟨by omega,by omega,by first | rfl | trivial⟩,by omega⟩
 simp only at i0 i1 i2 hge ⊢
 rw [bE (of_decide_eq_false hge)] at i2
 have hol:o.length≤32:=by
  have:=List.length_filter_le (fun v:Int=>decide (0≤v)) r
  rw [i2]; omega
 rw [← i2]
 refine ⟨⟨by omega,by omega,by simp [ee]⟩,fun ⟨o2,k⟩ ⟨k0,k1,k2⟩=>⟨fun hlt=>?_,fun hge=>?_⟩⟩
 ·simp only at k0 k1 k2 hlt ⊢
  have hlt:=of_decide_eq_true hlt
  have ht:=bj ((0,false,0):cg) k0 hlt
  have hl:o2.length≤32+k.toNat:=by
   have:=im (h.take k.toNat)
   rw [List.length_take] at this
   rw [k2,List.length_append]; omega
  rw [ht,si]
  generalize h.getD k.toNat (0,false,0)=x at *
  unfold az
  simp only [ak,List.length_singleton]
  refine ⟨k0,hlt,fun hx=>?_,fun hx=>?_⟩
  ·rw [if_pos hx,← List.append_assoc,← k2]
   exact ⟨by omega,by omega,⟨by omega,by omega,by first | rfl | trivial⟩,by omega⟩
  ·rw [if_neg (by rw [hx]; simp),← k2]
   exact ⟨by omega,⟨by omega,by omega,by first | rfl | trivial⟩,by omega⟩
 simp only at k0 k1 k2 hge ⊢
 rw [bE (of_decide_eq_false hge)] at k2
 have hol2:o2.length≤48:=by
  have:=im h
  rw [k2,List.length_append]; omega
 rw [← k2]
 refine ⟨⟨by omega,by omega,by simp⟩,fun ⟨o3,m⟩ ⟨m0,m1,m2⟩=>⟨fun hlt=>?_,fun hge=>?_⟩⟩
 ·simp only at m0 m1 m2 hlt ⊢
  have hlt:=of_decide_eq_true hlt
  have ht:=bj ((0,0):bh) m0 hlt
  have hl:o3.length≤48+m.toNat:=by rw [m2,List.length_append,List.length_map,List.length_take]; omega
  rw [ht,List.map_append,← List.append_assoc,← m2]
  unfold az
  simp only [ak,List.length_singleton]
  exact ⟨m0,hlt,by omega,by omega,⟨by omega,by omega,by first | rfl | trivial⟩,by omega⟩
 ·simp only at m0 m1 m2 hge ⊢
  rw [bE (of_decide_eq_false hge)] at m2
  rw [m2]
  exact ⟨trivial,by first | rfl | trivial,trivial⟩
theorem mc:ua.ok Tryz.prog 13:=aI (ann:=uP) (ae sm ap) Tryz.func13 (by kernel_rfl) rf
def rB:Spec:={ Ts:=[bu],Rs:=[.dat ty_I],pre:=fun _=>True,F:=aO }
def kA:Prop :=
  ∀ (x:List Int×List Int×List (Int×Int)×List (Int×Bool×Int)),((x.1.length * 8≤az∧∀ (x_1:Int),x_1∈x.1→ak IntKind.u64 x_1)∧(x.2.1.length * 8≤az∧∀ (x_1:Int),x_1∈x.2.1→ak IntKind.i64 x_1)∧(x.2.2.1.length * (8+8)≤az∧∀ (x_1:Int×Int),x_1∈x.2.2.1→ak IntKind.i64 x_1.1∧ak IntKind.i64 x_1.2)∧x.2.2.2.length * (8+(8+8))≤az∧∀ (x_1:Int×Bool×Int),x_1∈x.2.2.2→ak IntKind.i64 x_1.1∧True∧ak IntKind.i64 x_1.2.2)→True→True∧(decide (fb x.1≠0)=true→fb x.1=aO x∧True)∧(decide (fb x.1≠0)=false→True∧(decide (ay x.2.1 (↑x.1.length:Int)≠0)=true→ay x.2.1 (↑x.1.length:Int)=aO x∧True)∧(decide (ay x.2.1 (↑x.1.length:Int)≠0)=false→True∧(decide (bT x.2.2.1≠0)=true→bT x.2.2.1=aO x∧True)∧(decide (bT x.2.2.1≠0)=false→True∧(decide (aN x.2.2.2≠0)=true→aN x.2.2.2=aO x∧True)∧(decide (aN x.2.2.2≠0)=false→(x.2.1.length≤32∧x.2.2.1.length≤16∧x.2.2.2.length≤16)∧True∧qt x.1 [a6 (bf x) 256]=aO x∧True))))
theorem qF:kA:=by
 unfold kA
 intro s ⟨⟨_,hw⟩,_⟩ _
 have hF:aO s=if (ao s.1).2.2≠0 then (ao s.1).2.2 else if ay s.2.1 s.1.length≠0 then ay s.2.1 s.1.length else if bT s.2.2.1≠0 then bT s.2.2.1 else if aN s.2.2.2≠0 then aN s.2.2.2 else aX s.1 (bf s):=rfl
 rw [Al hw,qD hw]
 refine ⟨trivial,fun h0=>⟨?_,trivial⟩,fun h0=>⟨trivial,fun h1=>⟨?_,trivial⟩,fun h1=>⟨trivial,fun h2=>⟨?_,trivial⟩,fun h2=>⟨trivial,fun h3=>⟨?_,trivial⟩,fun h3=>?_⟩⟩⟩⟩
 ·rw [hF,if_pos (of_decide_eq_true h0)]
 all_goals have h0:(ao s.1).2.2=0:=by simpa using of_decide_eq_false h0
 ·rw [hF,if_neg (by omega),if_pos (of_decide_eq_true h1)]
 all_goals have h1:ay s.2.1 s.1.length=0:=by simpa using of_decide_eq_false h1
 ·rw [hF,if_neg (by omega),if_neg (by omega),if_pos (of_decide_eq_true h2)]
 all_goals have h2:bT s.2.2.1=0:=by simpa using of_decide_eq_false h2
 ·rw [hF,if_neg (by omega),if_neg (by omega),if_neg (by omega),if_pos (of_decide_eq_true h3)]
 have h3:aN s.2.2.2=0:=by simpa using of_decide_eq_false h3
 refine ⟨iT h1 h2 h3,trivial,?_,trivial⟩
 rw [hF,if_neg (by omega),if_neg (by omega),if_neg (by omega),if_neg (by omega)]
 have hr:=qn h1 h2 h3
 have he:(a6 (bf s) 256).all (isB (aa s.1).1)=(bf s).all (isB (aa s.1).1):=by
  apply Bool.eq_iff_iff.2
  rw [List.all_eq_true,List.all_eq_true]
  constructor
  ·intro h x hx
   exact h x (gp.2 ⟨(hr x hx).1,by have:=(hr x hx).2; omega,hx⟩)
  ·intro h x hx
   exact h x (gp.1 hx).2.2
 unfold aX
 rw [he]
theorem kF:rB.ok Tryz.prog 10:=aI (ann:=cT) (ae kG (ae Eg (ae xB (ae ur (ae mc (ae FK ap)))))) Tryz.func10 (by kernel_rfl) qF
def uc:Spec:={ Ts:=[bu,bu],Rs:=[.dat .bool],pre:=fun _=>True,F:=fun (x:aq×aq)=>decide (x.1=x.2) }
def lW:Prop :=
  ∀ (x:(List Int×List Int×List (Int×Int)×List (Int×Bool×Int))×List Int×List Int×List (Int×Int)×List (Int×Bool×Int)),(((x.1.1.length * 8≤az∧∀ (x_1:Int),x_1∈x.1.1→ak IntKind.u64 x_1)∧(x.1.2.1.length * 8≤az∧∀ (x_1:Int),x_1∈x.1.2.1→ak IntKind.i64 x_1)∧(x.1.2.2.1.length * (8+8)≤az∧∀ (x_1:Int×Int),x_1∈x.1.2.2.1→ak IntKind.i64 x_1.1∧ak IntKind.i64 x_1.2)∧x.1.2.2.2.length * (8+(8+8))≤az∧∀ (x_1:Int×Bool×Int),x_1∈x.1.2.2.2→ak IntKind.i64 x_1.1∧True∧ak IntKind.i64 x_1.2.2)∧(x.2.1.length * 8≤az∧∀ (x_1:Int),x_1∈x.2.1→ak IntKind.u64 x_1)∧(x.2.2.1.length * 8≤az∧∀ (x_1:Int),x_1∈x.2.2.1→ak IntKind.i64 x_1)∧(x.2.2.2.1.length * (8+8)≤az∧∀ (x_1:Int×Int),x_1∈x.2.2.2.1→ak IntKind.i64 x_1.1∧ak IntKind.i64 x_1.2)∧x.2.2.2.2.length * (8+(8+8))≤az∧∀ (x_1:Int×Bool×Int),x_1∈x.2.2.2.2→ak IntKind.i64 x_1.1∧True∧ak IntKind.i64 x_1.2.2)→True→True∧(decide (x.1.1=x.2.1)=true→True)∧((decide (x.1.1=x.2.1)&&decide (x.1.2.1=x.2.2.1))=true→True)∧((decide (x.1.1=x.2.1)&&decide (x.1.2.1=x.2.2.1)&&decide (x.1.2.2.1=x.2.2.2.1))=true→True)∧(decide (x.1.1=x.2.1)&&decide (x.1.2.1=x.2.2.1)&&decide (x.1.2.2.1=x.2.2.2.1)&&decide (x.1.2.2.2=x.2.2.2.2))=decide (x.1=x.2)∧True
theorem rh:lW:=by
 unfold lW
 intro ⟨⟨a1,a2,a3,a4⟩,b1,b2,b3,b4⟩ _ _
 refine ⟨trivial,fun _=>trivial,fun _=>trivial,fun _=>trivial,?_,trivial⟩
 apply Bool.eq_iff_iff.2
 simp only [Bool.and_eq_true,decide_eq_true_eq,Prod.mk.injEq]
 grind
theorem me:uc.ok Tryz.prog 21:=aI (ann:=cT) (ae uo (ae xy (ae zK (ae xw ap)))) Tryz.func21 (by kernel_rfl) rh
end Go.Proofs.YtglchojglcobjaaGreat
