
import Derived.Test.YtcnoiiohmpgckaaWord
namespace Go.Proofs.Ytcnoiiohmpgckaa
open Go
set_option maxRecDepth 100000
set_option maxHeartbeats 1000000
def l9:Spec:={ Ts:=[.arr bZ],Rs:=[.own 76 bZ],pre:=fun _=>True,F:=fun (x:List Int)=>x }
def gp:Prop :=
  ∀ (x:List Int),(x.length * 8≤aE∧∀ (x_1:Int),x_1∈x→ah .u64 x_1)→True→(x=([]:List Int)→([]:List Int)=x∧True)∧(True→(0+x.length) * 8≤aE∧([]:List Int)++x=x∧True)
theorem kp:gp:=by
 unfold gp
 intro x ⟨hb,_⟩ _
 simp [hb]
theorem mj:l9.ok Try.prog 101:=aQ (ann:=eV) au Try.func101 (by kernel_rfl) kp
end Go.Proofs.Ytcnoiiohmpgckaa
