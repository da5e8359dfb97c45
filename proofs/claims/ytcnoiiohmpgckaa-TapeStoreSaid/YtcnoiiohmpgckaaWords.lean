
import Derived.Test.YtcnoiiohmpgckaaWord
namespace Go.Proofs.Ytcnoiiohmpgckaa
open Go
set_option maxRecDepth 100000
set_option maxHeartbeats 1000000
def rb:Spec:={ Ts:=[.arr bv],Rs:=[.own 76 bv],pre:=fun _=>True,F:=fun (x:List Int)=>x }
def jQ:Prop :=
  ∀ (x:List Int),(x.length * 8≤aC∧∀ (x_1:Int),x_1∈x→am .u64 x_1)→True→(x=([]:List Int)→([]:List Int)=x∧True)∧(True→(0+x.length) * 8≤aC∧([]:List Int)++x=x∧True)
theorem oI:jQ:=by
 unfold jQ
 intro x ⟨hb,_⟩ _
 simp [hb]
theorem rr:rb.ok Try.prog 101:=aQ (ann:=ew) ax Try.func101 (by kernel_rfl) oI
end Go.Proofs.Ytcnoiiohmpgckaa
