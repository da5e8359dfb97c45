
import Derived.Test.YtglchojglcobjaaGreatRDeeds
namespace Go.Proofs.YtglchojglcobjaaGreat
open Go
set_option maxRecDepth 100000
set_option maxHeartbeats 1000000
set_option maxHeartbeats 4000000
def rt (x:aq) (w e:Int) (y:aq×Int×Int):Bool:=decide (x=y.1)&&decide (w=y.2.1)&&decide (e=y.2.2)
def GX:Spec:={ Ts:=[bu,be,ty_I,bu,be,ty_I],Rs:=[.dat .bool],pre:=fun _=>True,F:=fun ((s,v,e,x,w,f):aq×Int×Int×aq×Int×Int)=>rt s v e (x,w,f) }
def CJ:Prop :=
  ∀ (x:(List Int×List Int×List (Int×Int)×List (Int×Bool×Int))×Int×Int×(List Int×List Int×List (Int×Int)×List (Int×Bool×Int))×Int×Int),((x.1.1.length * 8≤az∧∀ (x_1:Int),x_1∈x.1.1→ak IntKind.u64 x_1)∧(x.1.2.1.length * 8≤az∧∀ (x_1:Int),x_1∈x.1.2.1→ak IntKind.i64 x_1)∧(x.1.2.2.1.length * (8+8)≤az∧∀ (x_1:Int×Int),x_1∈x.1.2.2.1→ak IntKind.i64 x_1.1∧ak IntKind.i64 x_1.2)∧x.1.2.2.2.length * (8+(8+8))≤az∧∀ (x_1:Int×Bool×Int),x_1∈x.1.2.2.2→ak IntKind.i64 x_1.1∧True∧ak IntKind.i64 x_1.2.2)∧ak IntKind.u64 x.2.1∧ak IntKind.i64 x.2.2.1∧((x.2.2.2.1.1.length * 8≤az∧∀ (x_1:Int),x_1∈x.2.2.2.1.1→ak IntKind.u64 x_1)∧(x.2.2.2.1.2.1.length * 8≤az∧∀ (x_1:Int),x_1∈x.2.2.2.1.2.1→ak IntKind.i64 x_1)∧(x.2.2.2.1.2.2.1.length * (8+8)≤az∧∀ (x_1:Int×Int),x_1∈x.2.2.2.1.2.2.1→ak IntKind.i64 x_1.1∧ak IntKind.i64 x_1.2)∧x.2.2.2.1.2.2.2.length * (8+(8+8))≤az∧∀ (x_1:Int×Bool×Int),x_1∈x.2.2.2.1.2.2.2→ak IntKind.i64 x_1.1∧True∧ak IntKind.i64 x_1.2.2)∧ak IntKind.u64 x.2.2.2.2.1∧ak IntKind.i64 x.2.2.2.2.2→True→True∧(decide (x.1=x.2.2.2.1)&&decide (x.2.1=x.2.2.2.2.1)&&decide (x.2.2.1=x.2.2.2.2.2))=rt x.1 x.2.1 x.2.2.1 x.2.2.2∧True
theorem EX:CJ:=by
 unfold CJ
 intro ⟨s,v,e,x,w,f⟩ _ _
 exact ⟨trivial,rfl,trivial⟩
theorem G8:GX.ok Tryz.prog 19:=aI (ann:=cT) (ae me ap) Tryz.func19 (by kernel_rfl) EX
theorem Dz (y:aq×Int×Int):rt y.1 y.2.1 y.2.2 y=true:=by simp [rt]
theorem Dc {s:aq} {k a b c v:Int} {y:aq×Int×Int} (hb:qe k a b c v=false) (h1:aO s≠0→y=(aV,0,aO s)) (h2:aO s=0→y=fD s k a b c v):aJ s k a b c v=y:=by
 unfold aJ
 rw [if_neg (by rw [hb]; simp)]
 by_cases h:aO s≠0
 ·rw [if_pos h,h1 h]
 ·rw [if_neg h,h2 (by omega)]
theorem Hy {s:aq} (a:Int) (h:aO s≠0):cP s a=aO s:=by unfold cP; rw [if_pos h]
theorem Ii (s:aq) (a b c v:Int):aJ s 1 a b c v=((ba s a (b,c,v % 65536,false)).1,Io (ba s a (b,c,v % 65536,false)).2.1,(ba s a (b,c,v % 65536,false)).2.2):=Dc (by simp [qe]) (fun h=>by
 have e:=Hy a h
 unfold ba
 rw [if_pos (by omega),e]
 rfl) (fun h=>by rw [Gw])
theorem Ih (s:aq):aJ s 2 0 0 0 0=bV s:=Dc (by rfl) (fun h=>by unfold bV; rw [if_pos h]) (fun h=>by rw [HI]; unfold bV; rw [if_neg (by omega)])
theorem x9 {s:aq} (hw:∀ x∈s.1,ak .u64 x):IntKind.u64.wrap (bV s).2.1=(bV s).2.1:=by
 unfold bV
 split
 ·rfl
 ·have R:=ky hw (by omega:aO s=0)
  have hg:=wM (aL false [] (aa (cC s)).1) (fun r hr=>by have:=R.gaps.2.1 r hr; omega)
  have hl:=R.gaps.2.2
  have e:(dJ s).2=dS (aL false [] (aa (cC s)).1):=rfl
  exact gj (by simp only; omega) (by simp only; omega)
def pr:Nat→Option LoopGen
 | _=>none
def oN:Spec:=Fl [bu,ty_I,cN]
def ju:Prop :=
  ∀ (x:(List Int×List Int×List (Int×Int)×List (Int×Bool×Int))×Int×Int×Int×Int×Bool),((x.1.1.length * 8≤az∧∀ (x_1:Int),x_1∈x.1.1→ak IntKind.u64 x_1)∧(x.1.2.1.length * 8≤az∧∀ (x_1:Int),x_1∈x.1.2.1→ak IntKind.i64 x_1)∧(x.1.2.2.1.length * (8+8)≤az∧∀ (x_1:Int×Int),x_1∈x.1.2.2.1→ak IntKind.i64 x_1.1∧ak IntKind.i64 x_1.2)∧x.1.2.2.2.length * (8+(8+8))≤az∧∀ (x_1:Int×Bool×Int),x_1∈x.1.2.2.2→ak IntKind.i64 x_1.1∧True∧ak IntKind.i64 x_1.2.2)∧ak IntKind.i64 x.2.1∧ak IntKind.i64 x.2.2.1∧ak IntKind.i64 x.2.2.2.1∧ak IntKind.i64 x.2.2.2.2.1∧True→((x.1.1.length * 8≤140737488351232∧∀ (x_1:Int),x_1∈x.1.1→fe be x_1)∧(x.1.2.1.length * 8≤140737488351232∧∀ (x_1:Int),x_1∈x.1.2.1→fe ty_I x_1)∧(x.1.2.2.1.length * (8+8)≤140737488351232∧∀ (x_1:Int×Int),x_1∈x.1.2.2.1→fe cW x_1)∧x.1.2.2.2.length * (8+(8+8))≤140737488351232∧∀ (x_1:Int×Bool×Int),x_1∈x.1.2.2.2→fe b7 x_1)∧True∧True∧True∧True∧True→True∧True∧True∧True∧((!rt (bV x.1).1 (IntKind.u64.wrap (bV x.1).2.1) (bV x.1).2.2 (aJ x.1 2 0 0 0 0))=true→false=true∧True)∧((!rt (bV x.1).1 (IntKind.u64.wrap (bV x.1).2.1) (bV x.1).2.2 (aJ x.1 2 0 0 0 0))=false→True∧(decide (aO x.1≠0)=true→(decide (aO x.1≠0)=true→True∧(decide ((ba x.1 x.2.1 x.2.2).1=(([]:List Int),([]:List Int),([]:List (Int×Int)),([]:List (Int×Bool×Int))))&&!(ba x.1 x.2.1 x.2.2).2.1&&decide ((ba x.1 x.2.1 x.2.2).2.2=aO x.1))=true∧True)∧(decide (aO x.1≠0)=false→True∧True∧(decide ((ba x.1 x.2.1 x.2.2).1=(aJ x.1 1 x.2.1 x.2.2.1 x.2.2.2.1 (IntKind.u64.wrap x.2.2.2.2.1)).1)&&(ba x.1 x.2.1 x.2.2).2.1 == decide ((aJ x.1 1 x.2.1 x.2.2.1 x.2.2.2.1 (IntKind.u64.wrap x.2.2.2.2.1)).2.1=1)&&decide ((ba x.1 x.2.1 x.2.2).2.2=(aJ x.1 1 x.2.1 x.2.2.1 x.2.2.2.1 (IntKind.u64.wrap x.2.2.2.2.1)).2.2))=true∧True))∧(decide (aO x.1≠0)=false→((decide (x.2.1<0)||decide ((↑x.1.2.1.length:Int)≤x.2.1))=true→(decide ((5:Int)≠0)=true→True∧(decide ((ba x.1 x.2.1 x.2.2).1=(([]:List Int),([]:List Int),([]:List (Int×Int)),([]:List (Int×Bool×Int))))&&!(ba x.1 x.2.1 x.2.2).2.1&&decide ((ba x.1 x.2.1 x.2.2).2.2=5))=true∧True)∧(decide ((5:Int)≠0)=false→True∧True∧(decide ((ba x.1 x.2.1 x.2.2).1=(aJ x.1 1 x.2.1 x.2.2.1 x.2.2.2.1 (IntKind.u64.wrap x.2.2.2.2.1)).1)&&(ba x.1 x.2.1 x.2.2).2.1 == decide ((aJ x.1 1 x.2.1 x.2.2.1 x.2.2.2.1 (IntKind.u64.wrap x.2.2.2.2.1)).2.1=1)&&decide ((ba x.1 x.2.1 x.2.2).2.2=(aJ x.1 1 x.2.1 x.2.2.1 x.2.2.2.1 (IntKind.u64.wrap x.2.2.2.2.1)).2.2))=true∧True))∧((decide (x.2.1<0)||decide ((↑x.1.2.1.length:Int)≤x.2.1))=false→True∧((decide (ac x.2.2=0)&&x.2.2.2.2.2)=true→(decide ((3:Int)≠0)=true→True∧(decide ((ba x.1 x.2.1 x.2.2).1=(([]:List Int),([]:List Int),([]:List (Int×Int)),([]:List (Int×Bool×Int))))&&!(ba x.1 x.2.1 x.2.2).2.1&&decide ((ba x.1 x.2.1 x.2.2).2.2=3))=true∧True)∧(decide ((3:Int)≠0)=false→True∧True∧(decide ((ba x.1 x.2.1 x.2.2).1=(aJ x.1 1 x.2.1 x.2.2.1 x.2.2.2.1 (IntKind.u64.wrap x.2.2.2.2.1)).1)&&(ba x.1 x.2.1 x.2.2).2.1 == decide ((aJ x.1 1 x.2.1 x.2.2.1 x.2.2.2.1 (IntKind.u64.wrap x.2.2.2.2.1)).2.1=1)&&decide ((ba x.1 x.2.1 x.2.2).2.2=(aJ x.1 1 x.2.1 x.2.2.1 x.2.2.2.1 (IntKind.u64.wrap x.2.2.2.2.1)).2.2))=true∧True))∧((decide (ac x.2.2=0)&&x.2.2.2.2.2)=false→(decide (ac x.2.2≠0)=true→True∧(decide ((ba x.1 x.2.1 x.2.2).1=(([]:List Int),([]:List Int),([]:List (Int×Int)),([]:List (Int×Bool×Int))))&&!(ba x.1 x.2.1 x.2.2).2.1&&decide ((ba x.1 x.2.1 x.2.2).2.2=ac x.2.2))=true∧True)∧(decide (ac x.2.2≠0)=false→True∧True∧(decide ((ba x.1 x.2.1 x.2.2).1=(aJ x.1 1 x.2.1 x.2.2.1 x.2.2.2.1 (IntKind.u64.wrap x.2.2.2.2.1)).1)&&(ba x.1 x.2.1 x.2.2).2.1 == decide ((aJ x.1 1 x.2.1 x.2.2.1 x.2.2.2.1 (IntKind.u64.wrap x.2.2.2.2.1)).2.1=1)&&decide ((ba x.1 x.2.1 x.2.2).2.2=(aJ x.1 1 x.2.1 x.2.2.1 x.2.2.2.1 (IntKind.u64.wrap x.2.2.2.2.1)).2.2))=true∧True)))))
theorem nb:ju:=by
 unfold ju
 intro ⟨s,slot,r,bd,tg,fr⟩ ⟨⟨⟨_,hw⟩,_⟩,_⟩ _
 simp only at hw ⊢
 have t2:rt (bV s).1 (IntKind.u64.wrap (bV s).2.1) (bV s).2.2 (aJ s 2 0 0 0 0)=true:=by
  rw [Ih,x9 hw]
  exact Dz _
 have hM:ba s slot (r,bd,tg,fr)=if cP s slot≠0 then (aV,false,cP s slot) else if eI (r,bd,tg,fr)≠0 then (aV,false,eI (r,bd,tg,fr)) else
  if (gg s slot (r,bd,tg,fr)).2=true then ((gg s slot (r,bd,tg,fr)).1,false,0) else if (gg (aT s) slot (r,bd,tg,fr)).2=true then ((gg (aT s) slot (r,bd,tg,fr)).1,true,0) else (aV,false,7):=rfl
 have hH:eI (r,bd,tg,fr)=if ac (r,bd,tg,fr)≠0 then ac (r,bd,tg,fr) else if fr=true then 3 else 0:=rfl
 have hbad:∀ e:Int,ba s slot (r,bd,tg,fr)=(aV,false,e)→(decide ((ba s slot (r,bd,tg,fr)).1=([],[],[],[]))&&!(ba s slot (r,bd,tg,fr)).2.1&&decide ((ba s slot (r,bd,tg,fr)).2.2=e))=true:=fun e he=>by
  rw [he]
  simp [aV]
 refine ⟨trivial,trivial,trivial,trivial,fun q=>absurd q (by rw [t2]; simp),fun _=>⟨trivial,fun q0=>?_,fun q0=>⟨fun q1=>?_,fun q1=>⟨trivial,fun q2=>?_,fun q2=>?_⟩⟩⟩⟩
 ·have h0:=of_decide_eq_true q0
  have e:=Hy slot h0
  rw [if_pos (by omega),e] at hM
  exact ⟨fun _=>⟨trivial,hbad _ hM,trivial⟩,fun q=>absurd h0 (of_decide_eq_false q)⟩
 ·have h0:aO s=0:=by simpa using of_decide_eq_false q0
  have e:=Hz h0 (by simpa using q1)
  rw [if_pos (by omega),e] at hM
  exact ⟨fun _=>⟨trivial,hbad _ hM,trivial⟩,fun q=>by simp at q⟩
 all_goals
  have h0:aO s=0:=by simpa using of_decide_eq_false q0
  have h1:¬ (slot<0∨(s.2.1.length:Int)≤slot):=by simpa using q1
  have e:=CF h0 (a:=slot) (by omega) (by omega)
  rw [if_neg (by omega)] at hM
 ·simp only [Bool.and_eq_true,decide_eq_true_eq] at q2
  rw [if_neg (by omega),if_pos q2.2] at hH
  rw [if_pos (by omega),hH] at hM
  exact ⟨fun _=>⟨trivial,hbad _ hM,trivial⟩,fun q=>by simp at q⟩
 ·refine ⟨fun q=>?_,fun q=>?_⟩
  ·have q:=of_decide_eq_true q
   rw [if_pos q] at hH
   rw [if_pos (by omega),hH] at hM
   exact ⟨trivial,hbad _ hM,trivial⟩
  ·have q:ac (r,bd,tg,fr)=0:=by simpa using of_decide_eq_false q
   have hfr:fr=false:=by
    rw [decide_eq_true q,Bool.true_and] at q2
    exact q2
   subst hfr
   have hz:=a8 q
   simp only at hz
   have e2:tg % 65536=tg:=by omega
   refine ⟨trivial,trivial,?_,trivial⟩
   rw [gj (by omega) (by omega),Ii,e2]
   generalize ba s slot (r,bd,tg,false)=m
   obtain ⟨m1,m2,m3⟩:=m
   cases m2 <;> simp [Io]
theorem oZ:oN.ok Tryz.prog 4:=aI (ann:=pr) (ae Eb (ae un (ae FM (ae G8 (ae kF (ae ji (ae me ap))))))) Tryz.func4 (by kernel_rfl) nb
end Go.Proofs.YtglchojglcobjaaGreat
