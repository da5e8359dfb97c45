
import Derived.Test.YtcnoiiohmpgckaaWords
import Derived.Test.YtcnoiiohmpgckaaFinds
import Derived.Test.YtcnoiiohmpgckaaHead
namespace Go.Proofs.Ytcnoiiohmpgckaa
open Go
set_option maxRecDepth 100000
set_option maxHeartbeats 1000000
abbrev dw:Ty:=.pair ty_I cO
abbrev aJ:=Int×c6
theorem cA {v:Int} (h:an v=true):1≤af (aq v)∧af (aq v)≤256:=by
 simp only [an,Bool.and_eq_true,beq_iff_eq] at h
 have:=bP h.2
 unfold af
 omega
def spotsS (at_:Int) (l:List Int):Option (List aJ) :=
 match l with
 | []=>some []
 | v::r=>if _h:an v=true∧af (aq v)≤((v::r).length:Int) then (spotsS (at_+af (aq v)) ((v::r).drop (af (aq v)).toNat)).map ((at_,aq v)::·) else none
termination_by l.length
decreasing_by
 have:=cA _h.1
 simp only [List.length_drop,List.length_cons]
 omega
def aa (a:List Int):List aJ×Int:=if 256<a.length then ([],2) else match spotsS 0 a with
 | none=>([],3)
 | some l=>(l,0)
theorem cT {at_:Int} {v:Int} {r:List Int} (h:an v=true) (h2:af (aq v)≤((v::r).length:Int)) :
  spotsS at_ (v::r)=(spotsS (at_+af (aq v)) ((v::r).drop (af (aq v)).toNat)).map ((at_,aq v)::·):=by
 rw [spotsS,dif_pos ⟨h,h2⟩]
theorem cw {at_:Int} {v:Int} {r:List Int} (h:¬ (an v=true∧af (aq v)≤((v::r).length:Int))):spotsS at_ (v::r)=none:=by
 rw [spotsS,dif_neg h]
theorem ol (at_:Int) (l:List Int) (r:List aJ) (h:spotsS at_ l=some r):∀ s∈r,at_≤s.1∧s.1+af s.2≤at_+l.length∧ai s.2=0:=by
 induction at_,l using spotsS.induct generalizing r with
 | case1 at_ =>
  simp only [spotsS,Option.some.injEq] at h
  subst h
  simp
 | case2 at_ v l hv ih =>
  rw [cT hv.1 hv.2] at h
  obtain ⟨r',hr,rfl⟩:=Option.map_eq_some_iff.1 h
  have hl:=cA hv.1
  have hf:ai (aq v)=0:=by
   have:=hv.1
   simp only [an,Bool.and_eq_true,beq_iff_eq] at this
   exact this.2
  intro s hs
  rcases List.mem_cons.1 hs with rfl | hs
  ·have:=hv.2
   exact ⟨by simp,by simp only; omega,hf⟩
  ·obtain ⟨h1,h2,h3⟩:=ih r' hr s hs
   rw [List.length_drop] at h2
   have:=hv.2
   exact ⟨by omega,by omega,h3⟩
 | case3 at_ v l hv =>
  rw [cw hv] at h
  cases h
theorem nz (at_:Int) (l:List Int) (r:List aJ) (h:spotsS at_ l=some r):r.length≤l.length:=by
 induction at_,l using spotsS.induct generalizing r with
 | case1 at_ =>
  simp only [spotsS,Option.some.injEq] at h
  subst h
  simp
 | case2 at_ v l hv ih =>
  rw [cT hv.1 hv.2] at h
  obtain ⟨r',hr,rfl⟩:=Option.map_eq_some_iff.1 h
  have hl:=cA hv.1
  have:=ih r' hr
  rw [List.length_drop] at this
  simp only [List.length_cons] at *
  omega
 | case3 at_ v l hv =>
  rw [cw hv] at h
  cases h
theorem a6 (a:List Int):(aa a).1.length≤256:=by
 unfold aa
 split
 ·simp
 ·cases e:spotsS 0 a with
  | none=>simp
  | some l =>
   have:=nz 0 a l e
   simp only
   omega
def qB:Nat→Option LoopGen
 | 5=>some { rd:=[.dat 0 (.arr aM)],A:=fun (a:List Int)=>{ cs:=[.own 4 158 dw,.dat 5 ty_I],inv:=fun ((out,at_):List aJ×Int)=>a.length≤256∧0≤at_∧at_≤a.length∧out.length≤at_∧spotsS 0 a=(spotsS at_ (a.drop at_.toNat)).map (out++·),mu:=fun ((_,at_):List aJ×Int)=>(a.length - at_).toNat } }
 | _=>none
def py:Spec:={ Ts:=[.arr aM],Rs:=[.own 158 dw,.dat ty_I],pre:=fun _=>True,F:=aa }
def i6:Prop :=
  ∀ (x:List Int),(x.length * 8≤aI∧∀ (x_1:Int),x_1∈x→aj .u64 x_1)→True→(decide (256<(↑x.length:Int))=true→([]:List (Int×Int×Int×Int×Bool))=(aa x).1∧2=(aa x).2∧True)∧(decide (256<(↑x.length:Int))=false→(x.length≤256∧(0:Int)≤0∧0≤(↑x.length:Int)∧(↑(0:Nat):Int)≤0∧spotsS 0 x=Option.map (fun (x:List aJ)=>([]:List (Int×Int×Int×Int×Bool))++x) (spotsS 0 (List.drop (Int.toNat 0) x)))∧∀ (x_1:List (Int×Int×Int×Int×Bool)×Int),x.length≤256∧0≤x_1.2∧x_1.2≤(↑x.length:Int)∧(↑x_1.1.length:Int)≤x_1.2∧spotsS 0 x=Option.map (fun (x:List aJ)=>x_1.1++x) (spotsS x_1.2 (List.drop x_1.2.toNat x))→(decide (x_1.2<(↑x.length:Int))=true→0≤x_1.2∧x_1.2<(↑x.length:Int)∧True∧True∧(decide ((if an (x.getD x_1.2.toNat 0)=true then (0:Int) else (3:Int))≠0)=false→aj .i64 ((↑x.length:Int) - x_1.2))∧((decide ((if an (x.getD x_1.2.toNat 0)=true then (0:Int) else (3:Int))≠0)||decide ((↑x.length:Int) - x_1.2<if ai (if an (x.getD x_1.2.toNat 0)=true then aq (x.getD x_1.2.toNat 0) else ar)=0 then af (if an (x.getD x_1.2.toNat 0)=true then aq (x.getD x_1.2.toNat 0) else ar) else (0:Int)))=true→([]:List (Int×Int×Int×Int×Bool))=(aa x).1∧3=(aa x).2∧True)∧((decide ((if an (x.getD x_1.2.toNat 0)=true then (0:Int) else (3:Int))≠0)||decide ((↑x.length:Int) - x_1.2<if ai (if an (x.getD x_1.2.toNat 0)=true then aq (x.getD x_1.2.toNat 0) else ar)=0 then af (if an (x.getD x_1.2.toNat 0)=true then aq (x.getD x_1.2.toNat 0) else ar) else (0:Int)))=false→(x_1.1.length+[(x_1.2,if an (x.getD x_1.2.toNat 0)=true then aq (x.getD x_1.2.toNat 0) else ar)].length) * (8+(8+(8+(8+8))))≤aI∧aj .i64 (x_1.2+if ai (if an (x.getD x_1.2.toNat 0)=true then aq (x.getD x_1.2.toNat 0) else ar)=0 then af (if an (x.getD x_1.2.toNat 0)=true then aq (x.getD x_1.2.toNat 0) else ar) else (0:Int))∧(x.length≤256∧(0≤x_1.2+if ai (if an (x.getD x_1.2.toNat 0)=true then aq (x.getD x_1.2.toNat 0) else ar)=0 then af (if an (x.getD x_1.2.toNat 0)=true then aq (x.getD x_1.2.toNat 0) else ar) else (0:Int))∧(x_1.2+if ai (if an (x.getD x_1.2.toNat 0)=true then aq (x.getD x_1.2.toNat 0) else ar)=0 then af (if an (x.getD x_1.2.toNat 0)=true then aq (x.getD x_1.2.toNat 0) else ar) else (0:Int))≤(↑x.length:Int)∧((↑(x_1.1++[(x_1.2,if an (x.getD x_1.2.toNat 0)=true then aq (x.getD x_1.2.toNat 0) else ar)]).length:Int)≤x_1.2+if ai (if an (x.getD x_1.2.toNat 0)=true then aq (x.getD x_1.2.toNat 0) else ar)=0 then af (if an (x.getD x_1.2.toNat 0)=true then aq (x.getD x_1.2.toNat 0) else ar) else (0:Int))∧spotsS 0 x=Option.map (fun (x_2:List aJ)=>x_1.1++[(x_1.2,if an (x.getD x_1.2.toNat 0)=true then aq (x.getD x_1.2.toNat 0) else ar)]++x_2) (spotsS (x_1.2+if ai (if an (x.getD x_1.2.toNat 0)=true then aq (x.getD x_1.2.toNat 0) else ar)=0 then af (if an (x.getD x_1.2.toNat 0)=true then aq (x.getD x_1.2.toNat 0) else ar) else (0:Int)) (List.drop (x_1.2+if ai (if an (x.getD x_1.2.toNat 0)=true then aq (x.getD x_1.2.toNat 0) else ar)=0 then af (if an (x.getD x_1.2.toNat 0)=true then aq (x.getD x_1.2.toNat 0) else ar) else (0:Int)).toNat x)))∧((↑x.length:Int) - (x_1.2+if ai (if an (x.getD x_1.2.toNat 0)=true then aq (x.getD x_1.2.toNat 0) else ar)=0 then af (if an (x.getD x_1.2.toNat 0)=true then aq (x.getD x_1.2.toNat 0) else ar) else (0:Int))).toNat<((↑x.length:Int) - x_1.2).toNat))∧(decide (x_1.2<(↑x.length:Int))=false→x_1.1=(aa x).1∧0=(aa x).2∧True))
theorem nn:i6:=by
 unfold i6
 intro a ⟨hb,hw⟩ _
 by_cases cl:256<a.length
 ·have e:aa a=([],2):=by unfold aa; rw [if_pos cl]
  simp [e]
  omega
 have eF:aa a=match spotsS 0 a with | none=>([],3) | some l=>(l,0):=by unfold aa; rw [if_neg cl]
 refine ⟨fun h=>by simp at h; omega,fun _=>⟨⟨by omega,by omega,by omega,by simp,by simp⟩,fun ⟨out,k⟩ ⟨_,h0,h1,h2,h3⟩=>⟨fun hlt=>?_,fun hge=>?_⟩⟩⟩
 ·have hlt:k<(a.length:Int):=by simpa using hlt
  simp only at *
  rw [aS (0:Int) h0 hlt] at h3
  have hdl:(((a.getD k.toNat 0::a.drop (k+1).toNat).length:Nat):Int)=a.length - k:=by rw [List.length_cons,List.length_drop]; omega
  have hdd:∀ n:Int,0≤n→(a.getD k.toNat 0::a.drop (k+1).toNat).drop n.toNat=a.drop (k+n).toNat:=fun n hn=>by
   rw [← aS (0:Int) h0 hlt,List.drop_drop]
   congr 1
   omega
  generalize a.getD k.toNat 0=v at *
  refine ⟨h0,hlt,trivial,trivial,fun _=>by simp only [aj]; omega,fun hc=>?_,fun hc=>?_⟩
  ·have hn:¬ (an v=true∧af (aq v)≤((v::a.drop (k+1).toNat).length:Int)):=by
    rintro ⟨g1,g2⟩
    have hf:ai (aq v)=0:=by
     have:=g1
     simp only [an,Bool.and_eq_true,beq_iff_eq] at this
     exact this.2
    rw [if_pos g1,if_pos g1,if_pos hf] at hc
    simp at hc
    omega
   rw [cw hn] at h3
   rw [eF,h3]
   exact ⟨rfl,rfl,trivial⟩
  ·have g1:an v=true:=by
    cases hv:an v
    ·rw [hv] at hc; simp at hc
    ·rfl
   have hf:ai (aq v)=0:=by
    have:=g1
    simp only [an,Bool.and_eq_true,beq_iff_eq] at this
    exact this.2
   rw [if_pos g1,if_pos g1,if_pos hf] at hc
   simp at hc
   have hl:=cA g1
   rw [cT g1 (by omega),hdd _ (by omega),Option.map_map] at h3
   rw [if_pos g1,if_pos hf]
   unfold aI
   simp only [List.length_append,List.length_cons,List.length_nil,aj]
   refine ⟨by omega,by omega,⟨by omega,by omega,by omega,by omega,?_⟩,by omega⟩
   rw [h3]
   congr 1
   funext x
   simp
 ·have hge:¬ k<(a.length:Int):=by simpa using hge
  simp only at *
  rw [bo hge] at h3
  simp only [spotsS,Option.map_some,List.append_nil] at h3
  rw [eF,h3]
  exact ⟨rfl,rfl,trivial⟩
theorem eE:py.ok Try.prog 143:=bg (ann:=qB) (ak rE (ak fZ aD)) Try.func143 (by kernel_rfl) nn
def aF (a:List Int) (s:aJ):List Int:=(a.take (s.1+1+s.2.1).toNat).drop (s.1+1).toNat
def di (a:List Int) (s:aJ):Prop:=0≤s.1∧0≤s.2.1∧0≤s.2.2.1∧s.1+1+s.2.1+s.2.2.1≤a.length
def qW:Spec:={ Ts:=[.arr aM,dw],Rs:=[.dat (.arr aM)],al:=true,pre:=fun ((a,s):List Int×aJ)=>a.length≤256∧di a s,F:=fun ((a,s):List Int×aJ)=>aF a s }
def kF:Prop :=
  ∀ (x:List Int×Int×Int×Int×Int×Bool),(x.1.length * 8≤aI∧∀ (x_1:Int),x_1∈x.1→aj .u64 x_1)∧aj .i64 x.2.1∧aj .i64 x.2.2.1∧aj .i64 x.2.2.2.1∧aj .i64 x.2.2.2.2.1∧True→x.1.length≤256∧di x.1 x.2→aj .i64 (x.2.1+1)∧aj .i64 (x.2.1+1)∧aj .i64 (x.2.1+1+x.2.2.1)∧0≤x.2.1+1∧x.2.1+1≤x.2.1+1+x.2.2.1∧x.2.1+1+x.2.2.1≤(↑x.1.length:Int)∧List.drop (x.2.1+1).toNat (List.take (x.2.1+1+x.2.2.1).toNat x.1)=aF x.1 x.2∧True
theorem pd:kF:=by
 unfold kF
 intro ⟨a,s⟩ _ ⟨h,h1,h2,h3,h4⟩
 simp only [aj,aF] at *
 exact ⟨by omega,by omega,by omega,by omega,by omega,by omega,trivial,trivial⟩
theorem rx:qW.ok Try.prog 188:=bg (ann:=gr) aD Try.func188 (by kernel_rfl) pd
def ch (m:List (Int×Int)) (i:Int):List aJ→List (Int×Int)
 | []=>m
 | s::l=>ch (if s.2.2.2.2=true then m else eB m (s.1+1) i) (i+1) l
def aK (l:List aJ):List (Int×Int):=ch [(0,-1)] 0 l
def n9:Nat→Option LoopGen
 | 3=>some { rd:=[.dat 8 (.arr dw)],A:=fun (l:List aJ)=>{ cs:=[.map 6 .u64 ty_I,.dat 10 ty_I],inv:=fun ((m,i):List (Int×Int)×Int)=>0≤i∧i≤l.length∧(∀ s∈l,0≤s.1∧s.1≤256)∧ch m i (l.drop i.toNat)=aK l,mu:=fun ((_,i):List (Int×Int)×Int)=>(l.length - i).toNat } }
 | _=>none
def nA:Spec:={ Ts:=[.arr dw],Rs:=[.map .u64 ty_I],pre:=fun (l:List aJ)=>∀ s∈l,0≤s.1∧s.1≤256,F:=aK }
def ig:Prop :=
  ∀ (x:List (Int×Int×Int×Int×Bool)),(x.length * (8+(8+(8+(8+8))))≤aI∧∀ (x_1:Int×Int×Int×Int×Bool),x_1∈x→aj .i64 x_1.1∧aj .i64 x_1.2.1∧aj .i64 x_1.2.2.1∧aj .i64 x_1.2.2.2.1∧True)→(∀ (s:aJ),s∈x→0≤s.1∧s.1≤256)→((0:Int)≤0∧0≤(↑x.length:Int)∧(∀ (s:aJ),s∈x→0≤s.1∧s.1≤256)∧ch (eB ([]:List (Int×Int)) 0 (-1)) 0 (List.drop (Int.toNat 0) x)=aK x)∧∀ (x_1:List (Int×Int)×Int),0≤x_1.2∧x_1.2≤(↑x.length:Int)∧(∀ (s:aJ),s∈x→0≤s.1∧s.1≤256)∧ch x_1.1 x_1.2 (List.drop x_1.2.toNat x)=aK x→(decide (x_1.2<(↑x.length:Int))=true→0≤x_1.2∧x_1.2<(↑x.length:Int)∧((!(x.getD x_1.2.toNat (0,0,0,0,false)).2.2.2.2)=true→aj .u64 (IntKind.u64.wrap (x.getD x_1.2.toNat (0,0,0,0,false)).1+1)∧aj .i64 (x_1.2+1)∧(0≤x_1.2+1∧x_1.2+1≤(↑x.length:Int)∧(∀ (s:aJ),s∈x→0≤s.1∧s.1≤256)∧ch (eB x_1.1 (IntKind.u64.wrap (x.getD x_1.2.toNat (0,0,0,0,false)).1+1) x_1.2) (x_1.2+1) (List.drop (x_1.2+1).toNat x)=aK x)∧((↑x.length:Int) - (x_1.2+1)).toNat<((↑x.length:Int) - x_1.2).toNat)∧((!(x.getD x_1.2.toNat (0,0,0,0,false)).2.2.2.2)=false→aj .i64 (x_1.2+1)∧(0≤x_1.2+1∧x_1.2+1≤(↑x.length:Int)∧(∀ (s:aJ),s∈x→0≤s.1∧s.1≤256)∧ch x_1.1 (x_1.2+1) (List.drop (x_1.2+1).toNat x)=aK x)∧((↑x.length:Int) - (x_1.2+1)).toNat<((↑x.length:Int) - x_1.2).toNat))∧(decide (x_1.2<(↑x.length:Int))=false→x_1.1=aK x∧True)
theorem lF:ig:=by
 unfold ig
 intro l ⟨hb,_⟩ hp
 refine ⟨⟨by omega,by omega,hp,rfl⟩,fun ⟨m,i⟩ ⟨h0,h1,_,h2⟩=>⟨fun hlt=>?_,fun hge=>?_⟩⟩
 ·have hlt:i<(l.length:Int):=by simpa using hlt
  simp only at *
  have hs:=hp _ (bc ((0,0,0,0,false):aJ) h0 hlt)
  rw [aS ((0,0,0,0,false):aJ) h0 hlt] at h2
  simp only [ch] at h2
  generalize l.getD i.toNat (0,0,0,0,false)=s at *
  unfold aI at hb
  refine ⟨h0,hlt,fun hc=>?_,fun hc=>?_⟩
  ·have hc:¬ s.2.2.2.2=true:=by simpa using hc
   rw [if_neg hc] at h2
   rw [xB (by omega) (by omega)]
   simp only [aj]
   exact ⟨by omega,by omega,⟨by omega,by omega,hp,h2⟩,by omega⟩
  ·have hc:s.2.2.2.2=true:=by simpa using hc
   rw [if_pos hc] at h2
   simp only [aj]
   exact ⟨by omega,⟨by omega,by omega,hp,h2⟩,by omega⟩
 ·rw [bo (by simpa using hge)] at h2
  exact ⟨h2,trivial⟩
theorem nH:nA.ok Try.prog 187:=bg (ann:=n9) aD Try.func187 (by kernel_rfl) lF
def cV (m:List (Int×Int)) (a:List Int) (l:List aJ):Bool:=l.all fun s=>(aF a s).all fun v=>(ah m v).isSome
def ao (a:List Int):List aJ×List (Int×Int)×Int :=
 if (aa a).2≠0 then ([],[],(aa a).2) else if cV (aK (aa a).1) a (aa a).1=true then ((aa a).1,aK (aa a).1,0) else ([],[],5)
theorem eM {a:List Int} (h:(aa a).2=0):a.length≤256∧∀ s∈(aa a).1,di a s∧ai s.2=0:=by
 unfold aa at h ⊢
 split at h
 ·simp at h
 rename_i cl
 rw [if_neg cl]
 refine ⟨by omega,?_⟩
 cases e:spotsS 0 a with
 | none=>rw [e] at h; simp at h
 | some l =>
  intro s hs
  obtain ⟨h1,h2,h3⟩:=ol 0 a l e s hs
  have:=bP h3
  unfold af at h2
  exact ⟨⟨h1,this.1,this.2.1,by omega⟩,h3⟩
def oa:Nat→Option LoopGen
 | 6=>some { rd:=[.own 24 158 dw,.dat 0 (.arr aM),.map 23 .u64 ty_I],A:=fun ((l,a,m):List aJ×List Int×List (Int×Int))=>{ cs:=[.dat 26 ty_I],inv:=fun (i:Int)=>0≤i∧i≤l.length∧a.length≤256∧(∀ s∈l,di a s)∧cV m a (l.drop i.toNat)=cV m a l,mu:=fun (i:Int)=>(l.length - i).toNat } }
 | 9=>some { rd:=[.dat 32 (.arr aM),.map 23 .u64 ty_I],A:=fun ((rs,m):List Int×List (Int×Int))=>{ cs:=[.dat 34 ty_I],inv:=fun (j:Int)=>0≤j∧j≤rs.length∧((rs.drop j.toNat).all fun v=>(ah m v).isSome)=(rs.all fun v=>(ah m v).isSome),mu:=fun (j:Int)=>(rs.length - j).toNat } }
 | _=>none
def nB:Spec:={ Ts:=[.arr aM],Rs:=[.dat (.arr dw),.dat (.map .u64 ty_I),.dat ty_I],al:=true,pre:=fun _=>True,F:=ao }
def ii:Prop :=
  ∀ (x:List Int),(x.length * 8≤aI∧∀ (x_1:Int),x_1∈x→aj .u64 x_1)→True→True∧(decide ((aa x).2≠0)=true→([]:List (Int×Int×Int×Int×Bool))=(ao x).1∧([]:List (Int×Int))=(ao x).2.1∧(aa x).2=(ao x).2.2∧True)∧(decide ((aa x).2≠0)=false→(∀ (s:aJ),s∈(aa x).1→0≤s.1∧s.1≤256)∧((0:Int)≤0∧0≤(↑(aa x).1.length:Int)∧x.length≤256∧(∀ (s:aJ),s∈(aa x).1→di x s)∧cV (aK (aa x).1) x (List.drop (Int.toNat 0) (aa x).1)=cV (aK (aa x).1) x (aa x).1)∧∀ (x_1:Int),0≤x_1∧x_1≤(↑(aa x).1.length:Int)∧x.length≤256∧(∀ (s:aJ),s∈(aa x).1→di x s)∧cV (aK (aa x).1) x (List.drop x_1.toNat (aa x).1)=cV (aK (aa x).1) x (aa x).1→(decide (x_1<(↑(aa x).1.length:Int))=true→0≤x_1∧x_1<(↑(aa x).1.length:Int)∧x_1.toNat<(aa x).1.length∧(x.length≤256∧di x ((aa x).1.getD x_1.toNat (0,0,0,0,false)))∧((0:Int)≤0∧0≤(↑(aF x ((aa x).1.getD x_1.toNat (0,0,0,0,false))).length:Int)∧((List.drop (Int.toNat 0) (aF x ((aa x).1.getD x_1.toNat (0,0,0,0,false)))).all fun (v:Int)=>(ah (aK (aa x).1) v).isSome)=(aF x ((aa x).1.getD x_1.toNat (0,0,0,0,false))).all fun (v:Int)=>(ah (aK (aa x).1) v).isSome)∧∀ (x_2:Int),(0≤x_2∧x_2≤(↑(aF x ((aa x).1.getD x_1.toNat (0,0,0,0,false))).length:Int)∧((List.drop x_2.toNat (aF x ((aa x).1.getD x_1.toNat (0,0,0,0,false)))).all fun (v:Int)=>(ah (aK (aa x).1) v).isSome)=(aF x ((aa x).1.getD x_1.toNat (0,0,0,0,false))).all fun (v:Int)=>(ah (aK (aa x).1) v).isSome)→(decide (x_2<(↑(aF x ((aa x).1.getD x_1.toNat (0,0,0,0,false))).length:Int))=true→0≤x_2∧x_2<(↑(aF x ((aa x).1.getD x_1.toNat (0,0,0,0,false))).length:Int)∧((!(ah (aK (aa x).1) ((aF x ((aa x).1.getD x_1.toNat (0,0,0,0,false))).getD x_2.toNat 0)).isSome)=true→([]:List (Int×Int×Int×Int×Bool))=(ao x).1∧([]:List (Int×Int))=(ao x).2.1∧5=(ao x).2.2∧True)∧((!(ah (aK (aa x).1) ((aF x ((aa x).1.getD x_1.toNat (0,0,0,0,false))).getD x_2.toNat 0)).isSome)=false→aj .i64 (x_2+1)∧(0≤x_2+1∧x_2+1≤(↑(aF x ((aa x).1.getD x_1.toNat (0,0,0,0,false))).length:Int)∧((List.drop (x_2+1).toNat (aF x ((aa x).1.getD x_1.toNat (0,0,0,0,false)))).all fun (v:Int)=>(ah (aK (aa x).1) v).isSome)=(aF x ((aa x).1.getD x_1.toNat (0,0,0,0,false))).all fun (v:Int)=>(ah (aK (aa x).1) v).isSome)∧((↑(aF x ((aa x).1.getD x_1.toNat (0,0,0,0,false))).length:Int) - (x_2+1)).toNat<((↑(aF x ((aa x).1.getD x_1.toNat (0,0,0,0,false))).length:Int) - x_2).toNat))∧(decide (x_2<(↑(aF x ((aa x).1.getD x_1.toNat (0,0,0,0,false))).length:Int))=false→aj .i64 (x_1+1)∧(0≤x_1+1∧x_1+1≤(↑(aa x).1.length:Int)∧x.length≤256∧(∀ (s:aJ),s∈(aa x).1→di x s)∧cV (aK (aa x).1) x (List.drop (x_1+1).toNat (aa x).1)=cV (aK (aa x).1) x (aa x).1)∧((↑(aa x).1.length:Int) - (x_1+1)).toNat<((↑(aa x).1.length:Int) - x_1).toNat))∧(decide (x_1<(↑(aa x).1.length:Int))=false→(aa x).1=(ao x).1∧aK (aa x).1=(ao x).2.1∧0=(ao x).2.2∧True))
theorem lG:ii:=by
 unfold ii
 intro a ⟨hb,hw⟩ _
 have hlen:=a6 a
 have hin:=eM (a:=a)
 have hF:ao a=if (aa a).2≠0 then ([],[],(aa a).2) else if cV (aK (aa a).1) a (aa a).1=true then ((aa a).1,aK (aa a).1,0) else ([],[],5):=rfl
 generalize aK (aa a).1=m at *
 generalize (aa a).1=l at *
 refine ⟨trivial,fun hc=>?_,fun hc=>?_⟩
 ·have hc:(aa a).2≠0:=by simpa using hc
  rw [hF,if_pos hc]
  exact ⟨rfl,rfl,rfl,trivial⟩
 have hc:(aa a).2=0:=by simpa using hc
 rw [if_neg (by omega)] at hF
 obtain ⟨hal,hsp⟩:=hin hc
 refine ⟨fun s hs=>?_,⟨by omega,by omega,hal,fun s hs=>(hsp s hs).1,rfl⟩,fun i ⟨h0,h1,_,_,h2⟩=>⟨fun hlt=>?_,fun hge=>?_⟩⟩
 ·have:=(hsp s hs).1
  unfold di at this
  omega
 ·have hlt:i<(l.length:Int):=by simpa using hlt
  have hs:=hsp _ (bc ((0,0,0,0,false):aJ) h0 hlt)
  rw [aS ((0,0,0,0,false):aJ) h0 hlt] at h2
  simp only [cV,List.all_cons] at h2
  generalize l.getD i.toNat (0,0,0,0,false)=s at *
  have hrl:(aF a s).length≤256:=by simp only [aF,List.length_drop,List.length_take]; omega
  generalize aF a s=rs at *
  refine ⟨h0,hlt,by omega,⟨hal,hs.1⟩,⟨by omega,by omega,rfl⟩,fun j ⟨g0,g1,g2⟩=>⟨fun hlt=>?_,fun hge=>?_⟩⟩
  ·have hlt:j<(rs.length:Int):=by simpa using hlt
   rw [aS (0:Int) g0 hlt] at g2
   simp only [List.all_cons] at g2
   generalize rs.getD j.toNat 0=v at *
   refine ⟨g0,hlt,fun hv=>?_,fun hv=>?_⟩
   ·have hv:(ah m v).isSome=false:=by simpa using hv
    rw [hv,Bool.false_and] at g2
    rw [← g2,Bool.false_and] at h2
    rw [hF,if_neg (by unfold cV; rw [← h2]; simp)]
    exact ⟨rfl,rfl,rfl,trivial⟩
   ·have hv:(ah m v).isSome=true:=by simpa using hv
    rw [hv,Bool.true_and] at g2
    simp only [aj]
    exact ⟨by omega,⟨by omega,by omega,g2⟩,by omega⟩
  ·rw [bo (by simpa using hge),List.all_nil] at g2
   rw [← g2,Bool.true_and] at h2
   simp only [aj]
   exact ⟨by omega,⟨by omega,by omega,hal,fun s hs=>(hsp s hs).1,h2⟩,by omega⟩
 ·rw [bo (by simpa using hge)] at h2
  have h2:cV m a l=true:=by rw [← h2]; rfl
  rw [hF,if_pos h2]
  exact ⟨rfl,rfl,rfl,trivial⟩
theorem nI:nB.ok Try.prog 152:=bg (ann:=oa) (ak eE (ak nH (ak rx aD))) Try.func152 (by kernel_rfl) lG
def pz:Spec:={ Ts:=[.arr aM],Rs:=[.dat ty_I],pre:=fun _=>True,F:=fun (a:List Int)=>(ao a).2.2 }
def i7:Prop :=
  ∀ (x:List Int),(x.length * 8≤aI∧∀ (x_1:Int),x_1∈x→aj .u64 x_1)→True→True∧(ao x).2.2=(ao x).2.2∧True
theorem no:i7:=by
 unfold i7
 intro a _ _
 simp
theorem fW:pz.ok Try.prog 105:=bg (ann:=gr) (ak nI aD) Try.func105 (by kernel_rfl) no
def qV (a:List Int) (s:aJ):List Int:=(a.take (s.1+1+s.2.1+s.2.2.1).toNat).drop (s.1+1+s.2.1).toNat
theorem cM {a:List Int} (h:(ao a).2.2=0):a.length≤256∧(ao a).1.length≤256∧(ao a).1=(aa a).1∧(aa a).2=0∧(ao a).2.1=aK (aa a).1∧cV (aK (aa a).1) a (aa a).1=true∧∀ s∈(ao a).1,di a s∧ai s.2=0:=by
 unfold ao at h ⊢
 by_cases h1:(aa a).2≠0
 ·rw [if_pos h1] at h
  exact absurd h h1
 ·rw [if_neg h1] at h ⊢
  have h1:(aa a).2=0:=by omega
  by_cases h2:cV (aK (aa a).1) a (aa a).1=true
  ·rw [if_pos h2]
   exact ⟨(eM h1).1,a6 a,rfl,h1,rfl,h2,(eM h1).2⟩
  ·rw [if_neg h2] at h
   simp at h
end Go.Proofs.Ytcnoiiohmpgckaa
