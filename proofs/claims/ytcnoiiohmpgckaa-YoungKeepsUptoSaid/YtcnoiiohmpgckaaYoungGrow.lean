
import Derived.Test.YtcnoiiohmpgckaaYoungKeep
import Derived.Test.YtcnoiiohmpgckaaGrowPure
import Derived.Test.YtcnoiiohmpgckaaSeqVal
import Derived.Test.YtcnoiiohmpgckaaConcats
import Derived.Test.YtcnoiiohmpgckaaRising
namespace Go.Proofs.Ytcnoiiohmpgckaa
open Go
set_option maxRecDepth 100000
set_option maxHeartbeats 1000000
def l8:Spec:={ Ts:=[.arr (.arr ty_I)],Rs:=[.dat (.arr ty_I)],al:=true,pre:=fun (xs:List (List Int))=>xs.flatten.length * 8≤aC,F:=fun (xs:List (List Int))=>xs.flatten }
def gn:Prop :=
  ∀ (x:List (List Int)),(x.length * (24:Nat)≤aC∧∀ (x_1:List Int),x_1∈x→x_1.length * (8:Nat)≤aC∧∀ (x:Int),x∈x_1→ai IntKind.i64 x)→x.flatten.length * (8:Nat)≤aC→((0:Int)≤(0:Int)∧(0:Int)≤(↑x.length:Int)∧(0:Int)=(↑(List.take (Int.toNat (0:Int)) x).flatten.length:Int)∧x.flatten.length * (8:Nat)≤aC)∧∀ (x_1:Int×Int),(0:Int)≤x_1.2∧x_1.2≤(↑x.length:Int)∧x_1.1=(↑(List.take x_1.2.toNat x).flatten.length:Int)∧x.flatten.length * (8:Nat)≤aC→(decide (x_1.2<(↑x.length:Int))=true→(0:Int)≤x_1.2∧x_1.2<(↑x.length:Int)∧ai IntKind.i64 (x_1.1+(↑(x.getD x_1.2.toNat ([]:List Int)).length:Int))∧(decide (x_1.1+(↑(x.getD x_1.2.toNat ([]:List Int)).length:Int)<(0:Int))=true→False)∧(decide (x_1.1+(↑(x.getD x_1.2.toNat ([]:List Int)).length:Int)<(0:Int))=false→ai IntKind.i64 (x_1.2+(1:Int))∧((0:Int)≤x_1.2+(1:Int)∧x_1.2+(1:Int)≤(↑x.length:Int)∧x_1.1+(↑(x.getD x_1.2.toNat ([]:List Int)).length:Int)=(↑(List.take (x_1.2+(1:Int)).toNat x).flatten.length:Int)∧x.flatten.length * (8:Nat)≤aC)∧((↑x.length:Int) - (x_1.2+(1:Int))).toNat<((↑x.length:Int) - x_1.2).toNat))∧(decide (x_1.2<(↑x.length:Int))=false→((0:Int)≤x_1.1∧x_1.1.toNat * (8:Nat)≤aC)∧((0:Int)≤(0:Int)∧(0:Int)≤(↑x.length:Int)∧([]:List Int)++(List.drop (Int.toNat (0:Int)) x).flatten=x.flatten)∧∀ (x_2:List Int×Int),(0:Int)≤x_2.2∧x_2.2≤(↑x.length:Int)∧x_2.1++(List.drop x_2.2.toNat x).flatten=x.flatten→(decide (x_2.2<(↑x.length:Int))=true→(0:Int)≤x_2.2∧x_2.2<(↑x.length:Int)∧(x_2.1.length+(x.getD x_2.2.toNat ([]:List Int)).length) * (8:Nat)≤aC∧ai IntKind.i64 (x_2.2+(1:Int))∧((0:Int)≤x_2.2+(1:Int)∧x_2.2+(1:Int)≤(↑x.length:Int)∧x_2.1++x.getD x_2.2.toNat ([]:List Int)++(List.drop (x_2.2+(1:Int)).toNat x).flatten=x.flatten)∧((↑x.length:Int) - (x_2.2+(1:Int))).toNat<((↑x.length:Int) - x_2.2).toNat)∧(decide (x_2.2<(↑x.length:Int))=false→x_2.1=x.flatten∧True))
theorem lv:gn:=by
 unfold gn
 exact f9
theorem mw:l8.ok Try.prog 55:=aQ (ann:=ig) (af kW ar) Try.func55 (by kernel_rfl) lv
def wJ:Nat→Option LoopGen
 | 4000004=>some ut
 | 6=>some { rd:=[.iter 37 .i64 bq,.box 2 bb,.boxS 8 [.own 76 bB,.own 3 ty_I,.own 3 ty_I]],A:=fun ((l0,g,w0):List (Int×cg)×cE×cE)=>{ cs:=[.boxS 8 [.own 76 bB,.own 3 ty_I,.own 3 ty_I],.iter 37 .i64 bq],inv:=fun ((w,l):cE×List (Int×cg))=>w.2=w0.2∧GrowI g.1 w0.2.1 l w.1,mu:=fun ((_,l):cE×List (Int×cg))=>l.length } }
 | _=>none
def vG:Spec:={ Ts:=[bb,.arr ty_I],Rs:=[.dat bb,.dat ty_I],al:=true,pre:=fun ((g,_):cE×List Int)=>(g.2.1.length+256) * 8≤140737488355328,F:=fun ((g,f):cE×List Int)=>dJ g f }
def rF:Prop :=
  ∀ (x:(List Int×List Int×List Int)×List Int),(((x.1.1.length * 8≤aC∧∀ (x_1:Int),x_1∈x.1.1→ai .u64 x_1)∧(x.1.2.1.length * 8≤aC∧∀ (x_1:Int),x_1∈x.1.2.1→ai .i64 x_1)∧x.1.2.2.length * 8≤aC∧∀ (x_1:Int),x_1∈x.1.2.2→ai .i64 x_1)∧x.2.length * 8≤aC∧∀ (x_1:Int),x_1∈x.2→ai .i64 x_1)→(x.1.2.1.length+256) * 8≤140737488355328→True∧(decide ((aE x.1 x.2).2≠0)=true→(([]:List Int),([]:List Int),([]:List Int))=(dJ x.1 x.2).1∧(aE x.1 x.2).2=(dJ x.1 x.2).2∧True)∧(decide ((aE x.1 x.2).2≠0)=false→True∧[x.1.2.1,(aE x.1 x.2).1].flatten.length * 8≤aC∧True∧True∧x.1.2.1=x.1.2.1∧[x.1.2.1,(aE x.1 x.2).1]=[x.1.2.1,(aE x.1 x.2).1]∧false=false∧false=false∧True∧((aU ((fun (_:Unit)=>True,fun (x_1:Unit)=>[x.1.2.1,(aE x.1 x.2).1].flatten).2 ()),([]:List Int))=(aU ((fun (_:Unit)=>True,fun (x_1:Unit)=>[x.1.2.1,(aE x.1 x.2).1].flatten).2 ()),([]:List Int))∧GrowI x.1.1 (aU ((fun (_:Unit)=>True,fun (x_1:Unit)=>[x.1.2.1,(aE x.1 x.2).1].flatten).2 ()),([]:List Int)).1 (a7 (aa x.1.1).1) x.1.1)∧∀ (x_1:(List Int×List Int×List Int)×List (Int×Int×Int×Int×Bool)),x_1.1.2=(aU ((fun (_:Unit)=>True,fun (x_2:Unit)=>[x.1.2.1,(aE x.1 x.2).1].flatten).2 ()),([]:List Int))∧GrowI x.1.1 (aU ((fun (_:Unit)=>True,fun (x_2:Unit)=>[x.1.2.1,(aE x.1 x.2).1].flatten).2 ()),([]:List Int)).1 x_1.2 x_1.1.1→(x_1.2=([]:List (Int×Int×Int×Int×Bool))→(false=true→False)∧(false=false→x_1.1=(dJ x.1 x.2).1∧0=(dJ x.1 x.2).2∧True))∧∀ (l1:List (Int×Int×Int×Int×Bool)) (x_2:Int×Int×Int×Int×Bool) (l2:List (Int×Int×Int×Int×Bool)),x_1.2=l1++x_2::l2→(true=true→True∧(aI x_1.1.2.1 x_2.1=true→(x_1.1.2=(aU ((fun (_:Unit)=>True,fun (x_3:Unit)=>[x.1.2.1,(aE x.1 x.2).1].flatten).2 ()),([]:List Int))∧GrowI x.1.1 (aU ((fun (_:Unit)=>True,fun (x_3:Unit)=>[x.1.2.1,(aE x.1 x.2).1].flatten).2 ()),([]:List Int)).1 (l1++l2) x_1.1.1)∧(l1++l2).length<x_1.2.length)∧(aI x_1.1.2.1 x_2.1=false→True∧True∧ai .i64 ((if ae x_2.2=0 then ah x_2.2 else (0:Int)) - 1)∧True∧0≤x_2.1∧x_2.1<(↑(gx x_1.1.1 x_2.1 (if ae x_2.2=0 then ah x_2.2 else (0:Int)) 0).1.length:Int)∧x_2.1.toNat<(gx x_1.1.1 x_2.1 (if ae x_2.2=0 then ah x_2.2 else (0:Int)) 0).1.length∧ae (0,(if ae x_2.2=0 then ah x_2.2 else (0:Int)) - 1,0,true)=ae (0,(if ae x_2.2=0 then ah x_2.2 else (0:Int)) - 1,0,true)∧(x_1.1.2=(aU ((fun (_:Unit)=>True,fun (x_3:Unit)=>[x.1.2.1,(aE x.1 x.2).1].flatten).2 ()),([]:List Int))∧GrowI x.1.1 (aU ((fun (_:Unit)=>True,fun (x_3:Unit)=>[x.1.2.1,(aE x.1 x.2).1].flatten).2 ()),([]:List Int)).1 (l1++l2) ((gx x_1.1.1 x_2.1 (if ae x_2.2=0 then ah x_2.2 else (0:Int)) 0).1.set x_2.1.toNat (if ae (0,(if ae x_2.2=0 then ah x_2.2 else (0:Int)) - 1,0,true)=0 then bh (0,(if ae x_2.2=0 then ah x_2.2 else (0:Int)) - 1,0,true) else (0:Int))))∧(l1++l2).length<x_1.2.length))∧(true=false→x_1.1=(dJ x.1 x.2).1∧0=(dJ x.1 x.2).2∧True))
theorem uy:rF:=by
 unfold rF
 intro ⟨⟨a,old,nt⟩,f⟩ ⟨⟨⟨hb,hw⟩,⟨hbo,_⟩,hbn,_⟩,hbf,hf⟩ hsz
 unfold aC at hb hbo hbn hbf
 simp only at hb hw hbo hbn hbf hf hsz ⊢
 have hG:dJ (a,old,nt) f=if (aE (a,old,nt) f).2≠0 then (([],[],[]),(aE (a,old,nt) f).2) else ((cT a (jq a (aU (old++(aE (a,old,nt) f).1))),aU (old++(aE (a,old,nt) f).1),[]),0):=rfl
 refine ⟨trivial,fun h=>?_,fun h=>?_⟩
 ·rw [hG,if_pos (of_decide_eq_true h)]
  exact ⟨rfl,rfl,trivial⟩
 have h0:(aE (a,old,nt) f).2=0:=by simpa using of_decide_eq_false h
 obtain ⟨hA,hfb,hk⟩:=rX h0
 obtain ⟨hc,_,_⟩:=jP hA
 have hkl:=o5 hw h0
 rw [if_neg (by omega)] at hG
 have e:[old,(aE (a,old,nt) f).1].flatten=old++(aE (a,old,nt) f).1:=by simp
 rw [e]
 simp only [aC]
 refine ⟨trivial,by rw [List.length_append]; omega,trivial,trivial,trivial,trivial,trivial,trivial,trivial,⟨trivial,GrowI.new⟩,fun ⟨w,l⟩ ⟨w1,w2⟩=>⟨fun hl=>⟨(fun h=>by cases h),fun _=>?_⟩,fun l1 x l2 hl=>⟨fun _=>⟨trivial,fun hi=>⟨⟨w1,?_⟩,?_⟩,fun hi=>?_⟩,(fun h=>by cases h)⟩⟩⟩
 ·simp only at w1 w2 hl ⊢
  subst hl
  rw [hG]
  refine ⟨?_,rfl,trivial⟩
  rw [← w2.done hc,← w1]
 ·simp only at w1 w2 hl hi ⊢
  subst hl
  rw [w1] at hi
  exact w2.skip (aP.1 hi)
 ·simp only at hl ⊢
  rw [hl]
  simp
 ·simp only at w1 w2 hl hi ⊢
  subst hl
  rw [w1] at hi
  have hno:¬ x.1∈aU (old++(aE (a,old,nt) f).1):=fun h=>by rw [aP.2 h] at hi; cases hi
  obtain ⟨g1,g2⟩:=w2.good x (by simp)
  obtain ⟨hp,h1,hf0,hs⟩:=qk w2.blank.len g1
  have ht:=w2.take hc hno
  rw [g2,if_pos hf0,hs,wn hp]
  obtain ⟨p1,p2,p3,p4⟩:=hp
  have hE:bn w.1 x.1 (cH a x.1)=(dL w.1 x.1 (cH a x.1) 0 (cH a x.1)).set x.1.toNat (bh (0,cH a x.1 - 1,0,true)):=by unfold bn; rw [if_pos (by omega)]
  have hf2:ae (0,cH a x.1 - 1,0,true)=0:=by simp [ae,ah]; omega
  have hl:=de w.1 x.1 (cH a x.1) 0 (cH a x.1) p1 p3 p2 (by omega)
  rw [if_pos hf2,← hE]
  simp only [ai]
  refine ⟨trivial,trivial,by omega,trivial,p1,by omega,by omega,trivial,⟨w1,ht⟩,?_⟩
  simp
theorem vW:vG.ok Try.prog 50:=aQ (ann:=wJ) (af rM (af g9 (af mw (af tf (af tg (af gp (af lD (af jl (af rN (af rR ar)))))))))) Try.func50 (by kernel_rfl) uy
end Go.Proofs.Ytcnoiiohmpgckaa
