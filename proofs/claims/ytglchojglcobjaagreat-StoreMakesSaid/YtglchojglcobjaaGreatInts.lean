
import Derived.Test.YtglchojglcobjaaGreatFinds
import Derived.Test.YtglchojglcobjaaGreatSlices
namespace Go.Proofs.YtglchojglcobjaaGreat
open Go
set_option maxRecDepth 100000
set_option maxHeartbeats 1000000
def gi:LoopGen:={ rd:=[],A:=fun _=>{ cs:=[],inv:=fun _=>True,mu:=fun _=>0 } }
def bA (l:List Int) (n:Int):Int:=aj (fun x=>decide (x=n)) 0 l
def ER:Nat→Option LoopGen
 | 2=>some { rd:=[.dat 7 (.arr ty_I),.dat 1 ty_I],A:=fun ((l,n):List Int×Int)=>{ cs:=[.dat 9 ty_I],inv:=fun (i:Int)=>0≤i∧i≤l.length∧aj (fun x=>decide (x=n)) i (l.drop i.toNat)=bA l n,mu:=fun (i:Int)=>(l.length - i).toNat } }
 | _=>none
def DO:Spec:={ Ts:=[.arr ty_I,ty_I],Rs:=[.dat ty_I],pre:=fun _=>True,F:=fun ((l,n):List Int×Int)=>bA l n }
def vo:Prop :=
  ∀ (x:List Int×Int),(x.1.length * 8≤az∧∀ (x_1:Int),x_1∈x.1→ak IntKind.i64 x_1)∧ak IntKind.i64 x.2→True→((0:Int)≤0∧0≤(↑x.1.length:Int)∧aj (fun (x_1:Int)=>decide (x_1=x.2)) 0 (List.drop (Int.toNat 0) x.1)=bA x.1 x.2)∧∀ (x_1:Int),0≤x_1∧x_1≤(↑x.1.length:Int)∧aj (fun (x_2:Int)=>decide (x_2=x.2)) x_1 (List.drop x_1.toNat x.1)=bA x.1 x.2→(decide (x_1<(↑x.1.length:Int))=true→0≤x_1∧x_1<(↑x.1.length:Int)∧(decide (x.1.getD x_1.toNat 0=x.2)=true→x_1=bA x.1 x.2∧True)∧(decide (x.1.getD x_1.toNat 0=x.2)=false→ak IntKind.i64 (x_1+1)∧(0≤x_1+1∧x_1+1≤(↑x.1.length:Int)∧aj (fun (x_2:Int)=>decide (x_2=x.2)) (x_1+1) (List.drop (x_1+1).toNat x.1)=bA x.1 x.2)∧((↑x.1.length:Int) - (x_1+1)).toNat<((↑x.1.length:Int) - x_1).toNat))∧(decide (x_1<(↑x.1.length:Int))=false→(-1)=bA x.1 x.2∧True)
theorem A9:vo:=by
 unfold vo
 intro ⟨l,n⟩ ⟨⟨hb,_⟩,_⟩ _
 unfold az at hb
 refine ⟨⟨by omega,by omega,rfl⟩,fun i ⟨h0,h1,h2⟩=>⟨fun hlt=>?_,fun hge=>?_⟩⟩
 ·have hlt:i<(l.length:Int):=by simpa using hlt
  simp only at *
  rw [aS (0:Int) h0 hlt] at h2
  simp only [aj] at h2
  simp only [ak]
  refine ⟨h0,hlt,fun hc=>?_,fun hc=>?_⟩
  ·rw [if_pos hc] at h2
   exact ⟨h2,trivial⟩
  ·rw [if_neg (by rw [hc]; simp)] at h2
   exact ⟨by omega,⟨by omega,by omega,h2⟩,by omega⟩
 ·rw [bn (by simpa using hge)] at h2
  exact ⟨h2,trivial⟩
theorem oY:DO.ok Tryz.prog 53:=aI (ann:=ER) ap Tryz.func53 (by kernel_rfl) A9
def cD (l:List Int) (n:Int):Bool:=l.any fun x=>decide (x=n)
def HQ:Spec:={ Ts:=[.arr ty_I,ty_I],Rs:=[.dat .bool],pre:=fun _=>True,F:=fun ((l,n):List Int×Int)=>cD l n }
def Fy:Prop :=
  ∀ (x:List Int×Int),(x.1.length * 8≤az∧∀ (x_1:Int),x_1∈x.1→ak IntKind.i64 x_1)∧ak IntKind.i64 x.2→True→True∧decide (0≤bA x.1 x.2)=cD x.1 x.2∧True
theorem GS:Fy:=by
 unfold Fy
 intro ⟨l,n⟩ _ _
 exact ⟨trivial,cF _ l 0 (by omega),trivial⟩
theorem so:HQ.ok Tryz.prog 44:=aI (ann:=cT) (ae oY ap) Tryz.func44 (by kernel_rfl) GS
def G1:Spec:={ Ts:=[.arr ty_I,ty_I],Rs:=[.dat ty_I],pre:=fun _=>True,F:=fun ((l,v):List Int×Int)=>bA l v }
def Hs:Nat→Option LoopGen
 | 2=>some { rd:=[.dat 0 (.arr ty_I),.dat 1 ty_I],A:=fun ((l,v):List Int×Int)=>{ cs:=[.dat 8 ty_I],inv:=fun (i:Int)=>0≤i∧i≤l.length∧aj (fun x=>decide (x=v)) i (l.drop i.toNat)=bA l v,mu:=fun (i:Int)=>(l.length - i).toNat } }
 | _=>none
def CN:Prop :=
  ∀ (x:List Int×Int),(x.1.length * 8≤az∧∀ (x_1:Int),x_1∈x.1→ak IntKind.i64 x_1)∧ak IntKind.i64 x.2→True→((0:Int)≤0∧0≤(↑x.1.length:Int)∧aj (fun (x_1:Int)=>decide (x_1=x.2)) 0 (List.drop (Int.toNat 0) x.1)=bA x.1 x.2)∧∀ (x_1:Int),0≤x_1∧x_1≤(↑x.1.length:Int)∧aj (fun (x_2:Int)=>decide (x_2=x.2)) x_1 (List.drop x_1.toNat x.1)=bA x.1 x.2→(decide (x_1<(↑x.1.length:Int))=true→0≤x_1∧x_1<(↑x.1.length:Int)∧(decide (x.2=x.1.getD x_1.toNat 0)=true→x_1=bA x.1 x.2∧True)∧(decide (x.2=x.1.getD x_1.toNat 0)=false→ak IntKind.i64 (x_1+1)∧(0≤x_1+1∧x_1+1≤(↑x.1.length:Int)∧aj (fun (x_2:Int)=>decide (x_2=x.2)) (x_1+1) (List.drop (x_1+1).toNat x.1)=bA x.1 x.2)∧((↑x.1.length:Int) - (x_1+1)).toNat<((↑x.1.length:Int) - x_1).toNat))∧(decide (x_1<(↑x.1.length:Int))=false→(-1)=bA x.1 x.2∧True)
theorem E1:CN:=by
 unfold CN
 intro ⟨l,n⟩ ⟨⟨hb,_⟩,_⟩ _
 unfold az at hb
 refine ⟨⟨by omega,by omega,rfl⟩,fun i ⟨h0,h1,h2⟩=>⟨fun hlt=>?_,fun hge=>?_⟩⟩
 ·have hlt:i<(l.length:Int):=by simpa using hlt
  simp only at *
  rw [aS (0:Int) h0 hlt] at h2
  simp only [aj] at h2
  simp only [ak]
  refine ⟨h0,hlt,fun hc=>?_,fun hc=>?_⟩
  ·rw [if_pos (decide_eq_true (of_decide_eq_true hc).symm)] at h2
   exact ⟨h2,trivial⟩
  ·rw [if_neg (fun e=>of_decide_eq_false hc (of_decide_eq_true e).symm)] at h2
   exact ⟨by omega,⟨by omega,by omega,h2⟩,by omega⟩
 ·rw [bn (by simpa using hge)] at h2
  exact ⟨h2,trivial⟩
theorem CZ:G1.ok Tryz.prog 116:=aI (ann:=Hs) ap Tryz.func116 (by kernel_rfl) E1
def G2:Spec:={ Ts:=[.arr ty_I,ty_I],Rs:=[.dat .bool],pre:=fun _=>True,F:=fun ((l,v):List Int×Int)=>cD l v }
def CO:Prop :=
  ∀ (x:List Int×Int),(x.1.length * 8≤az∧∀ (x_1:Int),x_1∈x.1→ak IntKind.i64 x_1)∧ak IntKind.i64 x.2→True→True∧decide (0≤bA x.1 x.2)=cD x.1 x.2∧True
theorem E2:CO:=by
 unfold CO
 intro ⟨l,v⟩ _ _
 exact ⟨trivial,cF _ l 0 (by omega),trivial⟩
theorem C0:G2.ok Tryz.prog 81:=aI (ann:=cT) (ae CZ ap) Tryz.func81 (by kernel_rfl) E2
def Fm:Spec:={ Ts:=[.arr ty_I,.fn ty_I .bool],Rs:=[.dat ty_I],pre:=fun ((l,g):List Int×(Int→Prop)×(Int→Bool))=>∀ s∈l,g.1 s,F:=fun ((l,g):List Int×(Int→Prop)×(Int→Bool))=>aj g.2 0 l }
def GM:Nat→Option LoopGen
 | 2=>some { rd:=[.dat 0 (.arr ty_I),.dat 1 (.fn ty_I .bool)],A:=fun ((l,g):List Int×(Int→Prop)×(Int→Bool))=>{ cs:=[.dat 8 ty_I],inv:=fun (i:Int)=>0≤i∧i≤l.length∧aj g.2 i (l.drop i.toNat)=aj g.2 0 l,mu:=fun (i:Int)=>(l.length - i).toNat } }
 | _=>none
def zD:Prop :=
  ∀ (x:List Int×(Int→Prop)×(Int→Bool)),(x.1.length * 8≤az∧∀ (x_1:Int),x_1∈x.1→ak IntKind.i64 x_1)∧True→(∀ (s:Int),s∈x.1→x.2.1 s)→((0:Int)≤0∧0≤(↑x.1.length:Int)∧aj x.2.2 0 (List.drop (Int.toNat 0) x.1)=aj x.2.2 0 x.1)∧∀ (x_1:Int),0≤x_1∧x_1≤(↑x.1.length:Int)∧aj x.2.2 x_1 (List.drop x_1.toNat x.1)=aj x.2.2 0 x.1→(decide (x_1<(↑x.1.length:Int))=true→0≤x_1∧x_1<(↑x.1.length:Int)∧x.2.1 (x.1.getD x_1.toNat 0)∧(x.2.2 (x.1.getD x_1.toNat 0)=true→x_1=aj x.2.2 0 x.1∧True)∧(x.2.2 (x.1.getD x_1.toNat 0)=false→ak IntKind.i64 (x_1+1)∧(0≤x_1+1∧x_1+1≤(↑x.1.length:Int)∧aj x.2.2 (x_1+1) (List.drop (x_1+1).toNat x.1)=aj x.2.2 0 x.1)∧((↑x.1.length:Int) - (x_1+1)).toNat<((↑x.1.length:Int) - x_1).toNat))∧(decide (x_1<(↑x.1.length:Int))=false→(-1)=aj x.2.2 0 x.1∧True)
theorem Dv:zD:=by
 unfold zD
 intro ⟨l,g⟩ ⟨⟨hl,_⟩,_⟩ hp
 unfold az at *
 refine ⟨⟨by omega,by omega,by simp⟩,fun i ⟨h0,h1,h2⟩=>⟨fun hlt=>?_,fun hge=>?_⟩⟩
 ·have hlt:i<(l.length:Int):=by simpa using hlt
  have e:=aS (0:Int) h0 hlt
  have hm:=hp _ (aD (0:Int) h0 hlt)
  simp only at *
  rw [e] at h2
  simp only [aj] at h2
  refine ⟨h0,hlt,hm,fun hc=>?_,fun hc=>?_⟩
  ·rw [if_pos hc] at h2
   exact ⟨h2,trivial⟩
  ·rw [if_neg (by rw [hc]; simp)] at h2
   exact ⟨by simp only [ak]; omega,⟨by omega,by omega,h2⟩,by omega⟩
 ·rw [bn (by simpa using hge)] at h2
  exact ⟨h2,trivial⟩
theorem zV:Fm.ok Tryz.prog 150:=aI (ann:=GM) ap Tryz.func150 (by kernel_rfl) Dv
def G4:Spec:={ Ts:=[.arr ty_I,.fn ty_I .bool],Rs:=[.dat .bool],pre:=fun ((l,g):List Int×(Int→Prop)×(Int→Bool))=>∀ s∈l,g.1 s,F:=fun ((l,g):List Int×(Int→Prop)×(Int→Bool))=>l.any g.2 }
def CQ:Prop :=
  ∀ (x:List Int×(Int→Prop)×(Int→Bool)),(x.1.length * 8≤az∧∀ (x_1:Int),x_1∈x.1→ak IntKind.i64 x_1)∧True→(∀ (s:Int),s∈x.1→x.2.1 s)→(∀ (s:Int),s∈x.1→x.2.1 s)∧decide (0≤aj x.2.2 0 x.1)=x.1.any x.2.2∧True
theorem E4:CQ:=by
 unfold CQ
 intro ⟨l,g⟩ _ hp
 exact ⟨hp,cF _ l 0 (by omega),trivial⟩
theorem xC:G4.ok Tryz.prog 124:=aI (ann:=cT) (ae zV ap) Tryz.func124 (by kernel_rfl) E4
def bv:List Int→Bool
 | x::y::l=>decide (x<y)&&bv (y::l)
 | _=>true
theorem xh:∀ {l:List Int},l.length≤1→bv l=true
 | [],_=>rfl
 | [_],_=>rfl
 | _::_::_,h=>by simp at h
def GF:Nat→Option LoopGen
 | 2=>some { rd:=[.dat 0 (.arr ty_I)],A:=fun (l:List Int)=>{ cs:=[.dat 3 ty_I],inv:=fun (i:Int)=>1≤i∧i≤l.length+1∧bv (l.drop (i - 1).toNat)=bv l,mu:=fun (i:Int)=>(l.length - i).toNat } }
 | _=>none
def Fd:Spec:={ Ts:=[.arr ty_I],Rs:=[.dat .bool],pre:=fun _=>True,F:=bv }
def zv:Prop :=
  ∀ (x:List Int),(x.length * (8:Nat)≤az∧∀ (x_1:Int),x_1∈x→ak IntKind.i64 x_1)→True→((1:Int)≤(1:Int)∧(1:Int)≤(↑x.length:Int)+(1:Int)∧bv (List.drop ((1:Int) - (1:Int)).toNat x)=bv x)∧∀ (x_1:Int),(1:Int)≤x_1∧x_1≤(↑x.length:Int)+(1:Int)∧bv (List.drop (x_1 - (1:Int)).toNat x)=bv x→(decide (x_1<(↑x.length:Int))=true→ak IntKind.i64 (x_1 - (1:Int))∧(0:Int)≤x_1 - (1:Int)∧x_1 - (1:Int)<(↑x.length:Int)∧(0:Int)≤x_1∧x_1<(↑x.length:Int)∧(decide (x.getD x_1.toNat (0:Int)≤x.getD (x_1 - (1:Int)).toNat (0:Int))=true→false=bv x∧True)∧(decide (x.getD x_1.toNat (0:Int)≤x.getD (x_1 - (1:Int)).toNat (0:Int))=false→ak IntKind.i64 (x_1+(1:Int))∧((1:Int)≤x_1+(1:Int)∧x_1+(1:Int)≤(↑x.length:Int)+(1:Int)∧bv (List.drop (x_1+(1:Int) - (1:Int)).toNat x)=bv x)∧((↑x.length:Int) - (x_1+(1:Int))).toNat<((↑x.length:Int) - x_1).toNat))∧(decide (x_1<(↑x.length:Int))=false→true=bv x∧True)
theorem Dn:zv:=by
 unfold zv
 intro l ⟨hb,_⟩ _
 unfold az at hb
 refine ⟨⟨by omega,by omega,rfl⟩,fun i ⟨h0,h1,h2⟩=>⟨fun hlt=>?_,fun hge=>?_⟩⟩
 ·have hlt:i<(l.length:Int):=of_decide_eq_true hlt
  have e1:=aS (0:Int) (xs:=l) (i:=i - 1) (by omega) (by omega)
  have e2:=aS (0:Int) (xs:=l) (i:=i) (by omega) hlt
  rw [show i - 1+1=i by omega] at e1
  simp only [ak] at h2 ⊢
  rw [e1,e2] at h2
  simp only [bv] at h2
  rw [← e2] at h2
  refine ⟨by omega,by omega,by omega,by omega,hlt,fun hc=>?_,fun hc=>⟨by omega,⟨by omega,by omega,?_⟩,by omega⟩⟩
  ·have hc:=of_decide_eq_true hc
   rw [← h2,decide_eq_false (by omega)]
   exact ⟨rfl,trivial⟩
  ·have hc:=of_decide_eq_false hc
   rw [decide_eq_true (by omega),Bool.true_and] at h2
   rw [show i+1 - 1=i by omega]
   exact h2
 ·have hge:¬ i<(l.length:Int):=of_decide_eq_false hge
  rw [xh (by rw [List.length_drop]; omega)] at h2
  exact ⟨h2,trivial⟩
theorem FH:Fd.ok Tryz.prog 186:=aI (ann:=GF) ap Tryz.func186 (by kernel_rfl) Dn
end Go.Proofs.YtglchojglcobjaaGreat
