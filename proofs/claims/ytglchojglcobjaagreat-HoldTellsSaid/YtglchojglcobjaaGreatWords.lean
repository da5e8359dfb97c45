
import Derived.Test.YtglchojglcobjaaGreatWord
namespace Go.Proofs.YtglchojglcobjaaGreat
open Go
set_option maxRecDepth 100000
set_option maxHeartbeats 1000000
def sp_cloneWords : Spec := { Ts := [.arr ty_W], Rs := [.own 50 ty_W], pre := fun _ => True, F := fun (x : List Int) => x }
def pv_cloneWords : Prop :=
  ∀ (x : List Int), (x.length * (8 : Nat) ≤ big ∧ ∀ (x_1 : Int), x_1 ∈ x → InR IntKind.u64 x_1) → True → (x = ([] : List Int) → ([] : List Int) = x ∧ True) ∧ (True → ((0 : Nat) + x.length) * (8 : Nat) ≤ big ∧ ([] : List Int) ++ x = x ∧ True)
theorem vcp_cloneWords : pv_cloneWords := by
 unfold pv_cloneWords
 intro x ⟨hb, _⟩ _
 simp [hb]
theorem e_cloneWords : pv_cloneWords = (fnVC Tryz.prog (tbl []) an_0 Tryz.f96 sp_cloneWords) := by kernel_rfl
theorem vc_cloneWords : fnVC Tryz.prog (tbl []) an_0 Tryz.f96 sp_cloneWords := @Eq.mp _ _ @e_cloneWords @vcp_cloneWords
theorem ok_cloneWords : sp_cloneWords.ok Tryz.prog 96 := fn_sound (P := Tryz.prog) (ss := tbl []) (ann := an_0) (f := 96) (fn := Tryz.f96) (s := sp_cloneWords) tbl_nil Tryz.func96 @vc_cloneWords
def sp_refClone : Spec := { Ts := [.arr ty_W], Rs := [.own 50 ty_W], pre := fun _ => True, F := fun (x : List Int) => x }
def pv_refClone : Prop :=
  ∀ (x : List Int), (x.length * (8 : Nat) ≤ big ∧ ∀ (x_1 : Int), x_1 ∈ x → InR IntKind.u64 x_1) → True → x.length * (8 : Nat) ≤ big ∧ x = x ∧ True
theorem vcp_refClone : pv_refClone := by
 unfold pv_refClone
 intro x ⟨hb, _⟩ _
 simp [hb]
theorem e_refClone : pv_refClone = (fnVC Tryz.prog (tbl []) an_0 Tryz.f86 sp_refClone) := by kernel_rfl
theorem vc_refClone : fnVC Tryz.prog (tbl []) an_0 Tryz.f86 sp_refClone := @Eq.mp _ _ @e_refClone @vcp_refClone
theorem ok_refClone : sp_refClone.ok Tryz.prog 86 := fn_sound (P := Tryz.prog) (ss := tbl []) (ann := an_0) (f := 86) (fn := Tryz.f86) (s := sp_refClone) tbl_nil Tryz.func86 @vc_refClone
end Go.Proofs.YtglchojglcobjaaGreat
