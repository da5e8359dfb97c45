
import Derived.Test.YtcnoiiohmpgckaaWord
namespace Go.Proofs.Ytcnoiiohmpgckaa
open Go
set_option maxRecDepth 100000
set_option maxHeartbeats 1000000
def sp_cloneWords : Spec := { Ts := [.arr ty_W], Rs := [.own 76 ty_W], pre := fun _ => True, F := fun (x : List Int) => x }
def pv_cloneWords : Prop :=
    ∀ (x : List Int), (x.length * 8 ≤ big ∧ ∀ (x_1 : Int), x_1 ∈ x → InR IntKind.u64 x_1) → True → (x = ([] : List Int) → ([] : List Int) = x ∧ True) ∧ (True → (0 + x.length) * 8 ≤ big ∧ ([] : List Int) ++ x = x ∧ True)
theorem vcp_cloneWords : pv_cloneWords := by
  unfold pv_cloneWords
  intro x ⟨hb, _⟩ _
  simp [hb]
theorem ok_cloneWords : sp_cloneWords.ok Try.prog 101 := fn_ok (ann := an_0) tbl_nil Try.func101 (by kernel_rfl) vcp_cloneWords
def sp_refClone : Spec := { Ts := [.arr ty_W], Rs := [.own 76 ty_W], pre := fun _ => True, F := fun (x : List Int) => x }
def pv_refClone : Prop :=
    ∀ (x : List Int), (x.length * 8 ≤ big ∧ ∀ (x_1 : Int), x_1 ∈ x → InR IntKind.u64 x_1) → True → x.length * 8 ≤ big ∧ x = x ∧ True
theorem vcp_refClone : pv_refClone := by
  unfold pv_refClone
  intro x ⟨hb, _⟩ _
  simp [hb]
theorem ok_refClone : sp_refClone.ok Try.prog 54 := fn_ok (ann := an_0) tbl_nil Try.func54 (by kernel_rfl) vcp_refClone
end Go.Proofs.Ytcnoiiohmpgckaa
