
import Derived.Test.YtcnoiiohmpgckaaGaps
import Derived.Test.YtcnoiiohmpgckaaRObjects
namespace Go.Proofs.Ytcnoiiohmpgckaa
open Go
set_option maxRecDepth 100000
set_option maxHeartbeats 1000000
def sF:Nat→Option LoopGen
 | 3=>some { rd:=[.dat 0 (.arr bB),.dat 1 ty_I,.dat 11 ty_I],wr:=[7],A:=fun ((a,at_,n):List Int×Int×Int)=>{ cs:=[.own 7 76 bB,.dat 12 ty_I],inv:=fun ((out,k):List Int×Int)=>0≤k∧k≤n∧eh a at_ n∧out=dL a at_ n 0 k,mu:=fun ((_,k):List Int×Int)=>(n - k).toNat } }
 | _=>none
def rn:Spec:={ Ts:=[.arr bB,ty_I,ty_I],Rs:=[.own 76 bB],pre:=fun ((a,at_,n):List Int×Int×Int)=>eh a at_ n,F:=fun ((a,at_,n):List Int×Int×Int)=>bn a at_ n }
def kN:Prop :=
  ∀ (x:List Int×Int×Int),(x.1.length * 8≤aC∧∀ (x_1:Int),x_1∈x.1→ai .u64 x_1)∧ai .i64 x.2.1∧ai .i64 x.2.2→eh x.1 x.2.1 x.2.2→True∧((0:Int)≤0∧0≤x.2.2∧eh x.1 x.2.1 x.2.2∧x.1=dL x.1 x.2.1 x.2.2 0 0)∧∀ (x_1:List Int×Int),0≤x_1.2∧x_1.2≤x.2.2∧eh x.1 x.2.1 x.2.2∧x_1.1=dL x.1 x.2.1 x.2.2 0 x_1.2→(decide (x_1.2<x.2.2)=true→ai .i64 (x.2.1+x_1.2)∧0≤x.2.1+x_1.2∧x.2.1+x_1.2<(↑x_1.1.length:Int)∧(x.2.1+x_1.2).toNat<x_1.1.length∧ai .i64 (x_1.2+1)∧(0≤x_1.2+1∧x_1.2+1≤x.2.2∧eh x.1 x.2.1 x.2.2∧x_1.1.set (x.2.1+x_1.2).toNat 0=dL x.1 x.2.1 x.2.2 0 (x_1.2+1))∧(x.2.2 - (x_1.2+1)).toNat<(x.2.2 - x_1.2).toNat)∧(decide (x_1.2<x.2.2)=false→(decide (0<x.2.2)=true→(1≤x.2.2∧x.2.2≤256)∧0≤x.2.1∧x.2.1<(↑x_1.1.length:Int)∧x.2.1.toNat<x_1.1.length∧x_1.1.set x.2.1.toNat (bh (0,x.2.2 - 1,0,true))=bn x.1 x.2.1 x.2.2∧True)∧(decide (0<x.2.2)=false→x_1.1=bn x.1 x.2.1 x.2.2∧True))
theorem pr:kN:=by
 unfold kN
 intro ⟨a,at_,n⟩ _ hp
 have hp':=hp
 obtain ⟨p1,p2,p3,p4⟩:=hp'
 simp only at p1 p2 p3 p4 hp ⊢
 simp only [ai]
 refine ⟨trivial,⟨by omega,p2,hp,(ix _ _ _ _).symm⟩,fun ⟨out,k⟩ ⟨k0,k1,_,k2⟩=>⟨fun hk=>?_,fun hk=>?_⟩⟩
 ·have hk:k<n:=of_decide_eq_true hk
  simp only at k0 k1 k2 ⊢
  have hl:=de a at_ n 0 k p1 p3 k0 k1
  rw [← k2] at hl
  refine ⟨by omega,by omega,by omega,by omega,by omega,⟨by omega,by omega,hp,?_⟩,by omega⟩
  rw [k2]
  exact mQ a at_ n 0 k p1 p3 k0 hk
 ·have hk:¬ k<n:=of_decide_eq_false hk
  simp only at k0 k1 k2 ⊢
  have hkn:k=n:=by omega
  have hl:=de a at_ n 0 k p1 p3 k0 k1
  rw [← k2] at hl
  refine ⟨fun hc=>?_,fun hc=>?_⟩
  ·have hc:0<n:=of_decide_eq_true hc
   unfold bn
   rw [if_pos hc,k2,hkn]
   rw [k2,hkn] at hl
   exact ⟨⟨by omega,by omega⟩,p1,by omega,by omega,rfl,trivial⟩
  ·have hc:¬ 0<n:=of_decide_eq_false hc
   unfold bn
   rw [if_neg hc,k2,show k=0 by omega,ix]
   exact ⟨rfl,trivial⟩
theorem rQ:rn.ok Try.prog 57:=aQ (ann:=sF) (af kU (af qj ar)) Try.func57 (by kernel_rfl) pr
end Go.Proofs.Ytcnoiiohmpgckaa
