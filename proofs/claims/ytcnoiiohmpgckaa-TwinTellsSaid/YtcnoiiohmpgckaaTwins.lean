
import Derived.Test.YtcnoiiohmpgckaaRowRoom
import Derived.Test.YtcnoiiohmpgckaaTwinBest
import Derived.Test.YtcnoiiohmpgckaaFinds
import Derived.Test.YtcnoiiohmpgckaaGapsRef
namespace Go.Proofs.Ytcnoiiohmpgckaa
open Go
set_option maxRecDepth 100000
set_option maxHeartbeats 1000000
def newHalvesF (o : Int) : HalvesD × Int := if o < 0 ∨ 8 < o then ((0, []), 4) else ((o, []), 0)
def sp_twinNew : Spec := { Ts := [ty_I], Rs := [.dat ty_Halves, .dat ty_I], al := true, pre := fun _ => True, F := newHalvesF }
def pv_twinNew : Prop :=
    ∀ (x : Int), InR IntKind.i64 x → True → ((decide (x < 0) || decide (8 < x)) = true → (0, ([] : List (Int × Int × Int))) = (newHalvesF x).1 ∧ 4 = (newHalvesF x).2 ∧ True) ∧ ((decide (x < 0) || decide (8 < x)) = false → (x, ([] : List (Int × Int × Int))) = (newHalvesF x).1 ∧ 0 = (newHalvesF x).2 ∧ True)
theorem vcp_twinNew : pv_twinNew := by
  unfold pv_twinNew
  intro o _ _
  refine ⟨fun h => ?_, fun h => ?_⟩
  · have h : o < 0 ∨ 8 < o := by simpa using h
    unfold newHalvesF
    rw [if_pos h]
    exact ⟨rfl, rfl, trivial⟩
  · have h : ¬ (o < 0 ∨ 8 < o) := by simpa using h
    unfold newHalvesF
    rw [if_neg h]
    exact ⟨rfl, rfl, trivial⟩
theorem ok_twinNew : sp_twinNew.ok Try.prog 16 := fn_ok (ann := an_0) tbl_nil Try.func16 (by kernel_rfl) vcp_twinNew
def sp_ones64 : Spec := { Ts := [ty_W], Rs := [.dat ty_I], pre := fun (x : Int) => 0 ≤ x ∧ x < 512, F := fun (x : Int) => ones x }
def pv_ones64 : Prop :=
    ∀ (x : Int), InR IntKind.u64 x → 0 ≤ x ∧ x < 512 → (0 : Int) ≤ 1 ∧ 1 < (↑IntKind.u64.bits : Int) ∧ InR IntKind.u64 ((↑((x / 2 ^ Int.toNat 1).toNat &&& Int.toNat 6148914691236517205) : Int) + (↑(x.toNat &&& Int.toNat 6148914691236517205) : Int)) ∧ (0 : Int) ≤ 2 ∧ 2 < (↑IntKind.u64.bits : Int) ∧ InR IntKind.u64 ((↑((((↑((x / 2 ^ Int.toNat 1).toNat &&& Int.toNat 6148914691236517205) : Int) + (↑(x.toNat &&& Int.toNat 6148914691236517205) : Int)) / 2 ^ Int.toNat 2).toNat &&& Int.toNat 3689348814741910323) : Int) + (↑(((↑((x / 2 ^ Int.toNat 1).toNat &&& Int.toNat 6148914691236517205) : Int) + (↑(x.toNat &&& Int.toNat 6148914691236517205) : Int)).toNat &&& Int.toNat 3689348814741910323) : Int)) ∧ (0 : Int) ≤ 4 ∧ 4 < (↑IntKind.u64.bits : Int) ∧ InR IntKind.u64 (((↑((((↑((x / 2 ^ Int.toNat 1).toNat &&& Int.toNat 6148914691236517205) : Int) + (↑(x.toNat &&& Int.toNat 6148914691236517205) : Int)) / 2 ^ Int.toNat 2).toNat &&& Int.toNat 3689348814741910323) : Int) + (↑(((↑((x / 2 ^ Int.toNat 1).toNat &&& Int.toNat 6148914691236517205) : Int) + (↑(x.toNat &&& Int.toNat 6148914691236517205) : Int)).toNat &&& Int.toNat 3689348814741910323) : Int)) / 2 ^ Int.toNat 4 + ((↑((((↑((x / 2 ^ Int.toNat 1).toNat &&& Int.toNat 6148914691236517205) : Int) + (↑(x.toNat &&& Int.toNat 6148914691236517205) : Int)) / 2 ^ Int.toNat 2).toNat &&& Int.toNat 3689348814741910323) : Int) + (↑(((↑((x / 2 ^ Int.toNat 1).toNat &&& Int.toNat 6148914691236517205) : Int) + (↑(x.toNat &&& Int.toNat 6148914691236517205) : Int)).toNat &&& Int.toNat 3689348814741910323) : Int))) ∧ (0 : Int) ≤ 8 ∧ 8 < (↑IntKind.u64.bits : Int) ∧ InR IntKind.u64 ((↑((((↑((((↑((x / 2 ^ Int.toNat 1).toNat &&& Int.toNat 6148914691236517205) : Int) + (↑(x.toNat &&& Int.toNat 6148914691236517205) : Int)) / 2 ^ Int.toNat 2).toNat &&& Int.toNat 3689348814741910323) : Int) + (↑(((↑((x / 2 ^ Int.toNat 1).toNat &&& Int.toNat 6148914691236517205) : Int) + (↑(x.toNat &&& Int.toNat 6148914691236517205) : Int)).toNat &&& Int.toNat 3689348814741910323) : Int)) / 2 ^ Int.toNat 4 + ((↑((((↑((x / 2 ^ Int.toNat 1).toNat &&& Int.toNat 6148914691236517205) : Int) + (↑(x.toNat &&& Int.toNat 6148914691236517205) : Int)) / 2 ^ Int.toNat 2).toNat &&& Int.toNat 3689348814741910323) : Int) + (↑(((↑((x / 2 ^ Int.toNat 1).toNat &&& Int.toNat 6148914691236517205) : Int) + (↑(x.toNat &&& Int.toNat 6148914691236517205) : Int)).toNat &&& Int.toNat 3689348814741910323) : Int))).toNat &&& Int.toNat 1085102592571150095) : Int) + (↑((((↑((((↑((x / 2 ^ Int.toNat 1).toNat &&& Int.toNat 6148914691236517205) : Int) + (↑(x.toNat &&& Int.toNat 6148914691236517205) : Int)) / 2 ^ Int.toNat 2).toNat &&& Int.toNat 3689348814741910323) : Int) + (↑(((↑((x / 2 ^ Int.toNat 1).toNat &&& Int.toNat 6148914691236517205) : Int) + (↑(x.toNat &&& Int.toNat 6148914691236517205) : Int)).toNat &&& Int.toNat 3689348814741910323) : Int)) / 2 ^ Int.toNat 4 + ((↑((((↑((x / 2 ^ Int.toNat 1).toNat &&& Int.toNat 6148914691236517205) : Int) + (↑(x.toNat &&& Int.toNat 6148914691236517205) : Int)) / 2 ^ Int.toNat 2).toNat &&& Int.toNat 3689348814741910323) : Int) + (↑(((↑((x / 2 ^ Int.toNat 1).toNat &&& Int.toNat 6148914691236517205) : Int) + (↑(x.toNat &&& Int.toNat 6148914691236517205) : Int)).toNat &&& Int.toNat 3689348814741910323) : Int))).toNat &&& Int.toNat 1085102592571150095) : Int) / 2 ^ Int.toNat 8) ∧ (0 : Int) ≤ 16 ∧ 16 < (↑IntKind.u64.bits : Int) ∧ InR IntKind.u64 ((↑((((↑((((↑((x / 2 ^ Int.toNat 1).toNat &&& Int.toNat 6148914691236517205) : Int) + (↑(x.toNat &&& Int.toNat 6148914691236517205) : Int)) / 2 ^ Int.toNat 2).toNat &&& Int.toNat 3689348814741910323) : Int) + (↑(((↑((x / 2 ^ Int.toNat 1).toNat &&& Int.toNat 6148914691236517205) : Int) + (↑(x.toNat &&& Int.toNat 6148914691236517205) : Int)).toNat &&& Int.toNat 3689348814741910323) : Int)) / 2 ^ Int.toNat 4 + ((↑((((↑((x / 2 ^ Int.toNat 1).toNat &&& Int.toNat 6148914691236517205) : Int) + (↑(x.toNat &&& Int.toNat 6148914691236517205) : Int)) / 2 ^ Int.toNat 2).toNat &&& Int.toNat 3689348814741910323) : Int) + (↑(((↑((x / 2 ^ Int.toNat 1).toNat &&& Int.toNat 6148914691236517205) : Int) + (↑(x.toNat &&& Int.toNat 6148914691236517205) : Int)).toNat &&& Int.toNat 3689348814741910323) : Int))).toNat &&& Int.toNat 1085102592571150095) : Int) + (↑((((↑((((↑((x / 2 ^ Int.toNat 1).toNat &&& Int.toNat 6148914691236517205) : Int) + (↑(x.toNat &&& Int.toNat 6148914691236517205) : Int)) / 2 ^ Int.toNat 2).toNat &&& Int.toNat 3689348814741910323) : Int) + (↑(((↑((x / 2 ^ Int.toNat 1).toNat &&& Int.toNat 6148914691236517205) : Int) + (↑(x.toNat &&& Int.toNat 6148914691236517205) : Int)).toNat &&& Int.toNat 3689348814741910323) : Int)) / 2 ^ Int.toNat 4 + ((↑((((↑((x / 2 ^ Int.toNat 1).toNat &&& Int.toNat 6148914691236517205) : Int) + (↑(x.toNat &&& Int.toNat 6148914691236517205) : Int)) / 2 ^ Int.toNat 2).toNat &&& Int.toNat 3689348814741910323) : Int) + (↑(((↑((x / 2 ^ Int.toNat 1).toNat &&& Int.toNat 6148914691236517205) : Int) + (↑(x.toNat &&& Int.toNat 6148914691236517205) : Int)).toNat &&& Int.toNat 3689348814741910323) : Int))).toNat &&& Int.toNat 1085102592571150095) : Int) / 2 ^ Int.toNat 8 + ((↑((((↑((((↑((x / 2 ^ Int.toNat 1).toNat &&& Int.toNat 6148914691236517205) : Int) + (↑(x.toNat &&& Int.toNat 6148914691236517205) : Int)) / 2 ^ Int.toNat 2).toNat &&& Int.toNat 3689348814741910323) : Int) + (↑(((↑((x / 2 ^ Int.toNat 1).toNat &&& Int.toNat 6148914691236517205) : Int) + (↑(x.toNat &&& Int.toNat 6148914691236517205) : Int)).toNat &&& Int.toNat 3689348814741910323) : Int)) / 2 ^ Int.toNat 4 + ((↑((((↑((x / 2 ^ Int.toNat 1).toNat &&& Int.toNat 6148914691236517205) : Int) + (↑(x.toNat &&& Int.toNat 6148914691236517205) : Int)) / 2 ^ Int.toNat 2).toNat &&& Int.toNat 3689348814741910323) : Int) + (↑(((↑((x / 2 ^ Int.toNat 1).toNat &&& Int.toNat 6148914691236517205) : Int) + (↑(x.toNat &&& Int.toNat 6148914691236517205) : Int)).toNat &&& Int.toNat 3689348814741910323) : Int))).toNat &&& Int.toNat 1085102592571150095) : Int) + (↑((((↑((((↑((x / 2 ^ Int.toNat 1).toNat &&& Int.toNat 6148914691236517205) : Int) + (↑(x.toNat &&& Int.toNat 6148914691236517205) : Int)) / 2 ^ Int.toNat 2).toNat &&& Int.toNat 3689348814741910323) : Int) + (↑(((↑((x / 2 ^ Int.toNat 1).toNat &&& Int.toNat 6148914691236517205) : Int) + (↑(x.toNat &&& Int.toNat 6148914691236517205) : Int)).toNat &&& Int.toNat 3689348814741910323) : Int)) / 2 ^ Int.toNat 4 + ((↑((((↑((x / 2 ^ Int.toNat 1).toNat &&& Int.toNat 6148914691236517205) : Int) + (↑(x.toNat &&& Int.toNat 6148914691236517205) : Int)) / 2 ^ Int.toNat 2).toNat &&& Int.toNat 3689348814741910323) : Int) + (↑(((↑((x / 2 ^ Int.toNat 1).toNat &&& Int.toNat 6148914691236517205) : Int) + (↑(x.toNat &&& Int.toNat 6148914691236517205) : Int)).toNat &&& Int.toNat 3689348814741910323) : Int))).toNat &&& Int.toNat 1085102592571150095) : Int) / 2 ^ Int.toNat 8) / 2 ^ Int.toNat 16) ∧ (0 : Int) ≤ 32 ∧ 32 < (↑IntKind.u64.bits : Int) ∧ InR IntKind.u64 ((↑((((↑((((↑((x / 2 ^ Int.toNat 1).toNat &&& Int.toNat 6148914691236517205) : Int) + (↑(x.toNat &&& Int.toNat 6148914691236517205) : Int)) / 2 ^ Int.toNat 2).toNat &&& Int.toNat 3689348814741910323) : Int) + (↑(((↑((x / 2 ^ Int.toNat 1).toNat &&& Int.toNat 6148914691236517205) : Int) + (↑(x.toNat &&& Int.toNat 6148914691236517205) : Int)).toNat &&& Int.toNat 3689348814741910323) : Int)) / 2 ^ Int.toNat 4 + ((↑((((↑((x / 2 ^ Int.toNat 1).toNat &&& Int.toNat 6148914691236517205) : Int) + (↑(x.toNat &&& Int.toNat 6148914691236517205) : Int)) / 2 ^ Int.toNat 2).toNat &&& Int.toNat 3689348814741910323) : Int) + (↑(((↑((x / 2 ^ Int.toNat 1).toNat &&& Int.toNat 6148914691236517205) : Int) + (↑(x.toNat &&& Int.toNat 6148914691236517205) : Int)).toNat &&& Int.toNat 3689348814741910323) : Int))).toNat &&& Int.toNat 1085102592571150095) : Int) + (↑((((↑((((↑((x / 2 ^ Int.toNat 1).toNat &&& Int.toNat 6148914691236517205) : Int) + (↑(x.toNat &&& Int.toNat 6148914691236517205) : Int)) / 2 ^ Int.toNat 2).toNat &&& Int.toNat 3689348814741910323) : Int) + (↑(((↑((x / 2 ^ Int.toNat 1).toNat &&& Int.toNat 6148914691236517205) : Int) + (↑(x.toNat &&& Int.toNat 6148914691236517205) : Int)).toNat &&& Int.toNat 3689348814741910323) : Int)) / 2 ^ Int.toNat 4 + ((↑((((↑((x / 2 ^ Int.toNat 1).toNat &&& Int.toNat 6148914691236517205) : Int) + (↑(x.toNat &&& Int.toNat 6148914691236517205) : Int)) / 2 ^ Int.toNat 2).toNat &&& Int.toNat 3689348814741910323) : Int) + (↑(((↑((x / 2 ^ Int.toNat 1).toNat &&& Int.toNat 6148914691236517205) : Int) + (↑(x.toNat &&& Int.toNat 6148914691236517205) : Int)).toNat &&& Int.toNat 3689348814741910323) : Int))).toNat &&& Int.toNat 1085102592571150095) : Int) / 2 ^ Int.toNat 8 + ((↑((((↑((((↑((x / 2 ^ Int.toNat 1).toNat &&& Int.toNat 6148914691236517205) : Int) + (↑(x.toNat &&& Int.toNat 6148914691236517205) : Int)) / 2 ^ Int.toNat 2).toNat &&& Int.toNat 3689348814741910323) : Int) + (↑(((↑((x / 2 ^ Int.toNat 1).toNat &&& Int.toNat 6148914691236517205) : Int) + (↑(x.toNat &&& Int.toNat 6148914691236517205) : Int)).toNat &&& Int.toNat 3689348814741910323) : Int)) / 2 ^ Int.toNat 4 + ((↑((((↑((x / 2 ^ Int.toNat 1).toNat &&& Int.toNat 6148914691236517205) : Int) + (↑(x.toNat &&& Int.toNat 6148914691236517205) : Int)) / 2 ^ Int.toNat 2).toNat &&& Int.toNat 3689348814741910323) : Int) + (↑(((↑((x / 2 ^ Int.toNat 1).toNat &&& Int.toNat 6148914691236517205) : Int) + (↑(x.toNat &&& Int.toNat 6148914691236517205) : Int)).toNat &&& Int.toNat 3689348814741910323) : Int))).toNat &&& Int.toNat 1085102592571150095) : Int) + (↑((((↑((((↑((x / 2 ^ Int.toNat 1).toNat &&& Int.toNat 6148914691236517205) : Int) + (↑(x.toNat &&& Int.toNat 6148914691236517205) : Int)) / 2 ^ Int.toNat 2).toNat &&& Int.toNat 3689348814741910323) : Int) + (↑(((↑((x / 2 ^ Int.toNat 1).toNat &&& Int.toNat 6148914691236517205) : Int) + (↑(x.toNat &&& Int.toNat 6148914691236517205) : Int)).toNat &&& Int.toNat 3689348814741910323) : Int)) / 2 ^ Int.toNat 4 + ((↑((((↑((x / 2 ^ Int.toNat 1).toNat &&& Int.toNat 6148914691236517205) : Int) + (↑(x.toNat &&& Int.toNat 6148914691236517205) : Int)) / 2 ^ Int.toNat 2).toNat &&& Int.toNat 3689348814741910323) : Int) + (↑(((↑((x / 2 ^ Int.toNat 1).toNat &&& Int.toNat 6148914691236517205) : Int) + (↑(x.toNat &&& Int.toNat 6148914691236517205) : Int)).toNat &&& Int.toNat 3689348814741910323) : Int))).toNat &&& Int.toNat 1085102592571150095) : Int) / 2 ^ Int.toNat 8) / 2 ^ Int.toNat 16 + ((↑((((↑((((↑((x / 2 ^ Int.toNat 1).toNat &&& Int.toNat 6148914691236517205) : Int) + (↑(x.toNat &&& Int.toNat 6148914691236517205) : Int)) / 2 ^ Int.toNat 2).toNat &&& Int.toNat 3689348814741910323) : Int) + (↑(((↑((x / 2 ^ Int.toNat 1).toNat &&& Int.toNat 6148914691236517205) : Int) + (↑(x.toNat &&& Int.toNat 6148914691236517205) : Int)).toNat &&& Int.toNat 3689348814741910323) : Int)) / 2 ^ Int.toNat 4 + ((↑((((↑((x / 2 ^ Int.toNat 1).toNat &&& Int.toNat 6148914691236517205) : Int) + (↑(x.toNat &&& Int.toNat 6148914691236517205) : Int)) / 2 ^ Int.toNat 2).toNat &&& Int.toNat 3689348814741910323) : Int) + (↑(((↑((x / 2 ^ Int.toNat 1).toNat &&& Int.toNat 6148914691236517205) : Int) + (↑(x.toNat &&& Int.toNat 6148914691236517205) : Int)).toNat &&& Int.toNat 3689348814741910323) : Int))).toNat &&& Int.toNat 1085102592571150095) : Int) + (↑((((↑((((↑((x / 2 ^ Int.toNat 1).toNat &&& Int.toNat 6148914691236517205) : Int) + (↑(x.toNat &&& Int.toNat 6148914691236517205) : Int)) / 2 ^ Int.toNat 2).toNat &&& Int.toNat 3689348814741910323) : Int) + (↑(((↑((x / 2 ^ Int.toNat 1).toNat &&& Int.toNat 6148914691236517205) : Int) + (↑(x.toNat &&& Int.toNat 6148914691236517205) : Int)).toNat &&& Int.toNat 3689348814741910323) : Int)) / 2 ^ Int.toNat 4 + ((↑((((↑((x / 2 ^ Int.toNat 1).toNat &&& Int.toNat 6148914691236517205) : Int) + (↑(x.toNat &&& Int.toNat 6148914691236517205) : Int)) / 2 ^ Int.toNat 2).toNat &&& Int.toNat 3689348814741910323) : Int) + (↑(((↑((x / 2 ^ Int.toNat 1).toNat &&& Int.toNat 6148914691236517205) : Int) + (↑(x.toNat &&& Int.toNat 6148914691236517205) : Int)).toNat &&& Int.toNat 3689348814741910323) : Int))).toNat &&& Int.toNat 1085102592571150095) : Int) / 2 ^ Int.toNat 8 + ((↑((((↑((((↑((x / 2 ^ Int.toNat 1).toNat &&& Int.toNat 6148914691236517205) : Int) + (↑(x.toNat &&& Int.toNat 6148914691236517205) : Int)) / 2 ^ Int.toNat 2).toNat &&& Int.toNat 3689348814741910323) : Int) + (↑(((↑((x / 2 ^ Int.toNat 1).toNat &&& Int.toNat 6148914691236517205) : Int) + (↑(x.toNat &&& Int.toNat 6148914691236517205) : Int)).toNat &&& Int.toNat 3689348814741910323) : Int)) / 2 ^ Int.toNat 4 + ((↑((((↑((x / 2 ^ Int.toNat 1).toNat &&& Int.toNat 6148914691236517205) : Int) + (↑(x.toNat &&& Int.toNat 6148914691236517205) : Int)) / 2 ^ Int.toNat 2).toNat &&& Int.toNat 3689348814741910323) : Int) + (↑(((↑((x / 2 ^ Int.toNat 1).toNat &&& Int.toNat 6148914691236517205) : Int) + (↑(x.toNat &&& Int.toNat 6148914691236517205) : Int)).toNat &&& Int.toNat 3689348814741910323) : Int))).toNat &&& Int.toNat 1085102592571150095) : Int) + (↑((((↑((((↑((x / 2 ^ Int.toNat 1).toNat &&& Int.toNat 6148914691236517205) : Int) + (↑(x.toNat &&& Int.toNat 6148914691236517205) : Int)) / 2 ^ Int.toNat 2).toNat &&& Int.toNat 3689348814741910323) : Int) + (↑(((↑((x / 2 ^ Int.toNat 1).toNat &&& Int.toNat 6148914691236517205) : Int) + (↑(x.toNat &&& Int.toNat 6148914691236517205) : Int)).toNat &&& Int.toNat 3689348814741910323) : Int)) / 2 ^ Int.toNat 4 + ((↑((((↑((x / 2 ^ Int.toNat 1).toNat &&& Int.toNat 6148914691236517205) : Int) + (↑(x.toNat &&& Int.toNat 6148914691236517205) : Int)) / 2 ^ Int.toNat 2).toNat &&& Int.toNat 3689348814741910323) : Int) + (↑(((↑((x / 2 ^ Int.toNat 1).toNat &&& Int.toNat 6148914691236517205) : Int) + (↑(x.toNat &&& Int.toNat 6148914691236517205) : Int)).toNat &&& Int.toNat 3689348814741910323) : Int))).toNat &&& Int.toNat 1085102592571150095) : Int) / 2 ^ Int.toNat 8) / 2 ^ Int.toNat 16) / 2 ^ Int.toNat 32) ∧ 0 ≤ IntKind.i64.wrap ((↑((((↑((((↑((x / 2 ^ Int.toNat 1).toNat &&& Int.toNat 6148914691236517205) : Int) + (↑(x.toNat &&& Int.toNat 6148914691236517205) : Int)) / 2 ^ Int.toNat 2).toNat &&& Int.toNat 3689348814741910323) : Int) + (↑(((↑((x / 2 ^ Int.toNat 1).toNat &&& Int.toNat 6148914691236517205) : Int) + (↑(x.toNat &&& Int.toNat 6148914691236517205) : Int)).toNat &&& Int.toNat 3689348814741910323) : Int)) / 2 ^ Int.toNat 4 + ((↑((((↑((x / 2 ^ Int.toNat 1).toNat &&& Int.toNat 6148914691236517205) : Int) + (↑(x.toNat &&& Int.toNat 6148914691236517205) : Int)) / 2 ^ Int.toNat 2).toNat &&& Int.toNat 3689348814741910323) : Int) + (↑(((↑((x / 2 ^ Int.toNat 1).toNat &&& Int.toNat 6148914691236517205) : Int) + (↑(x.toNat &&& Int.toNat 6148914691236517205) : Int)).toNat &&& Int.toNat 3689348814741910323) : Int))).toNat &&& Int.toNat 1085102592571150095) : Int) + (↑((((↑((((↑((x / 2 ^ Int.toNat 1).toNat &&& Int.toNat 6148914691236517205) : Int) + (↑(x.toNat &&& Int.toNat 6148914691236517205) : Int)) / 2 ^ Int.toNat 2).toNat &&& Int.toNat 3689348814741910323) : Int) + (↑(((↑((x / 2 ^ Int.toNat 1).toNat &&& Int.toNat 6148914691236517205) : Int) + (↑(x.toNat &&& Int.toNat 6148914691236517205) : Int)).toNat &&& Int.toNat 3689348814741910323) : Int)) / 2 ^ Int.toNat 4 + ((↑((((↑((x / 2 ^ Int.toNat 1).toNat &&& Int.toNat 6148914691236517205) : Int) + (↑(x.toNat &&& Int.toNat 6148914691236517205) : Int)) / 2 ^ Int.toNat 2).toNat &&& Int.toNat 3689348814741910323) : Int) + (↑(((↑((x / 2 ^ Int.toNat 1).toNat &&& Int.toNat 6148914691236517205) : Int) + (↑(x.toNat &&& Int.toNat 6148914691236517205) : Int)).toNat &&& Int.toNat 3689348814741910323) : Int))).toNat &&& Int.toNat 1085102592571150095) : Int) / 2 ^ Int.toNat 8 + ((↑((((↑((((↑((x / 2 ^ Int.toNat 1).toNat &&& Int.toNat 6148914691236517205) : Int) + (↑(x.toNat &&& Int.toNat 6148914691236517205) : Int)) / 2 ^ Int.toNat 2).toNat &&& Int.toNat 3689348814741910323) : Int) + (↑(((↑((x / 2 ^ Int.toNat 1).toNat &&& Int.toNat 6148914691236517205) : Int) + (↑(x.toNat &&& Int.toNat 6148914691236517205) : Int)).toNat &&& Int.toNat 3689348814741910323) : Int)) / 2 ^ Int.toNat 4 + ((↑((((↑((x / 2 ^ Int.toNat 1).toNat &&& Int.toNat 6148914691236517205) : Int) + (↑(x.toNat &&& Int.toNat 6148914691236517205) : Int)) / 2 ^ Int.toNat 2).toNat &&& Int.toNat 3689348814741910323) : Int) + (↑(((↑((x / 2 ^ Int.toNat 1).toNat &&& Int.toNat 6148914691236517205) : Int) + (↑(x.toNat &&& Int.toNat 6148914691236517205) : Int)).toNat &&& Int.toNat 3689348814741910323) : Int))).toNat &&& Int.toNat 1085102592571150095) : Int) + (↑((((↑((((↑((x / 2 ^ Int.toNat 1).toNat &&& Int.toNat 6148914691236517205) : Int) + (↑(x.toNat &&& Int.toNat 6148914691236517205) : Int)) / 2 ^ Int.toNat 2).toNat &&& Int.toNat 3689348814741910323) : Int) + (↑(((↑((x / 2 ^ Int.toNat 1).toNat &&& Int.toNat 6148914691236517205) : Int) + (↑(x.toNat &&& Int.toNat 6148914691236517205) : Int)).toNat &&& Int.toNat 3689348814741910323) : Int)) / 2 ^ Int.toNat 4 + ((↑((((↑((x / 2 ^ Int.toNat 1).toNat &&& Int.toNat 6148914691236517205) : Int) + (↑(x.toNat &&& Int.toNat 6148914691236517205) : Int)) / 2 ^ Int.toNat 2).toNat &&& Int.toNat 3689348814741910323) : Int) + (↑(((↑((x / 2 ^ Int.toNat 1).toNat &&& Int.toNat 6148914691236517205) : Int) + (↑(x.toNat &&& Int.toNat 6148914691236517205) : Int)).toNat &&& Int.toNat 3689348814741910323) : Int))).toNat &&& Int.toNat 1085102592571150095) : Int) / 2 ^ Int.toNat 8) / 2 ^ Int.toNat 16 + ((↑((((↑((((↑((x / 2 ^ Int.toNat 1).toNat &&& Int.toNat 6148914691236517205) : Int) + (↑(x.toNat &&& Int.toNat 6148914691236517205) : Int)) / 2 ^ Int.toNat 2).toNat &&& Int.toNat 3689348814741910323) : Int) + (↑(((↑((x / 2 ^ Int.toNat 1).toNat &&& Int.toNat 6148914691236517205) : Int) + (↑(x.toNat &&& Int.toNat 6148914691236517205) : Int)).toNat &&& Int.toNat 3689348814741910323) : Int)) / 2 ^ Int.toNat 4 + ((↑((((↑((x / 2 ^ Int.toNat 1).toNat &&& Int.toNat 6148914691236517205) : Int) + (↑(x.toNat &&& Int.toNat 6148914691236517205) : Int)) / 2 ^ Int.toNat 2).toNat &&& Int.toNat 3689348814741910323) : Int) + (↑(((↑((x / 2 ^ Int.toNat 1).toNat &&& Int.toNat 6148914691236517205) : Int) + (↑(x.toNat &&& Int.toNat 6148914691236517205) : Int)).toNat &&& Int.toNat 3689348814741910323) : Int))).toNat &&& Int.toNat 1085102592571150095) : Int) + (↑((((↑((((↑((x / 2 ^ Int.toNat 1).toNat &&& Int.toNat 6148914691236517205) : Int) + (↑(x.toNat &&& Int.toNat 6148914691236517205) : Int)) / 2 ^ Int.toNat 2).toNat &&& Int.toNat 3689348814741910323) : Int) + (↑(((↑((x / 2 ^ Int.toNat 1).toNat &&& Int.toNat 6148914691236517205) : Int) + (↑(x.toNat &&& Int.toNat 6148914691236517205) : Int)).toNat &&& Int.toNat 3689348814741910323) : Int)) / 2 ^ Int.toNat 4 + ((↑((((↑((x / 2 ^ Int.toNat 1).toNat &&& Int.toNat 6148914691236517205) : Int) + (↑(x.toNat &&& Int.toNat 6148914691236517205) : Int)) / 2 ^ Int.toNat 2).toNat &&& Int.toNat 3689348814741910323) : Int) + (↑(((↑((x / 2 ^ Int.toNat 1).toNat &&& Int.toNat 6148914691236517205) : Int) + (↑(x.toNat &&& Int.toNat 6148914691236517205) : Int)).toNat &&& Int.toNat 3689348814741910323) : Int))).toNat &&& Int.toNat 1085102592571150095) : Int) / 2 ^ Int.toNat 8 + ((↑((((↑((((↑((x / 2 ^ Int.toNat 1).toNat &&& Int.toNat 6148914691236517205) : Int) + (↑(x.toNat &&& Int.toNat 6148914691236517205) : Int)) / 2 ^ Int.toNat 2).toNat &&& Int.toNat 3689348814741910323) : Int) + (↑(((↑((x / 2 ^ Int.toNat 1).toNat &&& Int.toNat 6148914691236517205) : Int) + (↑(x.toNat &&& Int.toNat 6148914691236517205) : Int)).toNat &&& Int.toNat 3689348814741910323) : Int)) / 2 ^ Int.toNat 4 + ((↑((((↑((x / 2 ^ Int.toNat 1).toNat &&& Int.toNat 6148914691236517205) : Int) + (↑(x.toNat &&& Int.toNat 6148914691236517205) : Int)) / 2 ^ Int.toNat 2).toNat &&& Int.toNat 3689348814741910323) : Int) + (↑(((↑((x / 2 ^ Int.toNat 1).toNat &&& Int.toNat 6148914691236517205) : Int) + (↑(x.toNat &&& Int.toNat 6148914691236517205) : Int)).toNat &&& Int.toNat 3689348814741910323) : Int))).toNat &&& Int.toNat 1085102592571150095) : Int) + (↑((((↑((((↑((x / 2 ^ Int.toNat 1).toNat &&& Int.toNat 6148914691236517205) : Int) + (↑(x.toNat &&& Int.toNat 6148914691236517205) : Int)) / 2 ^ Int.toNat 2).toNat &&& Int.toNat 3689348814741910323) : Int) + (↑(((↑((x / 2 ^ Int.toNat 1).toNat &&& Int.toNat 6148914691236517205) : Int) + (↑(x.toNat &&& Int.toNat 6148914691236517205) : Int)).toNat &&& Int.toNat 3689348814741910323) : Int)) / 2 ^ Int.toNat 4 + ((↑((((↑((x / 2 ^ Int.toNat 1).toNat &&& Int.toNat 6148914691236517205) : Int) + (↑(x.toNat &&& Int.toNat 6148914691236517205) : Int)) / 2 ^ Int.toNat 2).toNat &&& Int.toNat 3689348814741910323) : Int) + (↑(((↑((x / 2 ^ Int.toNat 1).toNat &&& Int.toNat 6148914691236517205) : Int) + (↑(x.toNat &&& Int.toNat 6148914691236517205) : Int)).toNat &&& Int.toNat 3689348814741910323) : Int))).toNat &&& Int.toNat 1085102592571150095) : Int) / 2 ^ Int.toNat 8) / 2 ^ Int.toNat 16) / 2 ^ Int.toNat 32) ∧ (0 : Int) ≤ 127 ∧ (↑((IntKind.i64.wrap ((↑((((↑((((↑((x / 2 ^ Int.toNat 1).toNat &&& Int.toNat 6148914691236517205) : Int) + (↑(x.toNat &&& Int.toNat 6148914691236517205) : Int)) / 2 ^ Int.toNat 2).toNat &&& Int.toNat 3689348814741910323) : Int) + (↑(((↑((x / 2 ^ Int.toNat 1).toNat &&& Int.toNat 6148914691236517205) : Int) + (↑(x.toNat &&& Int.toNat 6148914691236517205) : Int)).toNat &&& Int.toNat 3689348814741910323) : Int)) / 2 ^ Int.toNat 4 + ((↑((((↑((x / 2 ^ Int.toNat 1).toNat &&& Int.toNat 6148914691236517205) : Int) + (↑(x.toNat &&& Int.toNat 6148914691236517205) : Int)) / 2 ^ Int.toNat 2).toNat &&& Int.toNat 3689348814741910323) : Int) + (↑(((↑((x / 2 ^ Int.toNat 1).toNat &&& Int.toNat 6148914691236517205) : Int) + (↑(x.toNat &&& Int.toNat 6148914691236517205) : Int)).toNat &&& Int.toNat 3689348814741910323) : Int))).toNat &&& Int.toNat 1085102592571150095) : Int) + (↑((((↑((((↑((x / 2 ^ Int.toNat 1).toNat &&& Int.toNat 6148914691236517205) : Int) + (↑(x.toNat &&& Int.toNat 6148914691236517205) : Int)) / 2 ^ Int.toNat 2).toNat &&& Int.toNat 3689348814741910323) : Int) + (↑(((↑((x / 2 ^ Int.toNat 1).toNat &&& Int.toNat 6148914691236517205) : Int) + (↑(x.toNat &&& Int.toNat 6148914691236517205) : Int)).toNat &&& Int.toNat 3689348814741910323) : Int)) / 2 ^ Int.toNat 4 + ((↑((((↑((x / 2 ^ Int.toNat 1).toNat &&& Int.toNat 6148914691236517205) : Int) + (↑(x.toNat &&& Int.toNat 6148914691236517205) : Int)) / 2 ^ Int.toNat 2).toNat &&& Int.toNat 3689348814741910323) : Int) + (↑(((↑((x / 2 ^ Int.toNat 1).toNat &&& Int.toNat 6148914691236517205) : Int) + (↑(x.toNat &&& Int.toNat 6148914691236517205) : Int)).toNat &&& Int.toNat 3689348814741910323) : Int))).toNat &&& Int.toNat 1085102592571150095) : Int) / 2 ^ Int.toNat 8 + ((↑((((↑((((↑((x / 2 ^ Int.toNat 1).toNat &&& Int.toNat 6148914691236517205) : Int) + (↑(x.toNat &&& Int.toNat 6148914691236517205) : Int)) / 2 ^ Int.toNat 2).toNat &&& Int.toNat 3689348814741910323) : Int) + (↑(((↑((x / 2 ^ Int.toNat 1).toNat &&& Int.toNat 6148914691236517205) : Int) + (↑(x.toNat &&& Int.toNat 6148914691236517205) : Int)).toNat &&& Int.toNat 3689348814741910323) : Int)) / 2 ^ Int.toNat 4 + ((↑((((↑((x / 2 ^ Int.toNat 1).toNat &&& Int.toNat 6148914691236517205) : Int) + (↑(x.toNat &&& Int.toNat 6148914691236517205) : Int)) / 2 ^ Int.toNat 2).toNat &&& Int.toNat 3689348814741910323) : Int) + (↑(((↑((x / 2 ^ Int.toNat 1).toNat &&& Int.toNat 6148914691236517205) : Int) + (↑(x.toNat &&& Int.toNat 6148914691236517205) : Int)).toNat &&& Int.toNat 3689348814741910323) : Int))).toNat &&& Int.toNat 1085102592571150095) : Int) + (↑((((↑((((↑((x / 2 ^ Int.toNat 1).toNat &&& Int.toNat 6148914691236517205) : Int) + (↑(x.toNat &&& Int.toNat 6148914691236517205) : Int)) / 2 ^ Int.toNat 2).toNat &&& Int.toNat 3689348814741910323) : Int) + (↑(((↑((x / 2 ^ Int.toNat 1).toNat &&& Int.toNat 6148914691236517205) : Int) + (↑(x.toNat &&& Int.toNat 6148914691236517205) : Int)).toNat &&& Int.toNat 3689348814741910323) : Int)) / 2 ^ Int.toNat 4 + ((↑((((↑((x / 2 ^ Int.toNat 1).toNat &&& Int.toNat 6148914691236517205) : Int) + (↑(x.toNat &&& Int.toNat 6148914691236517205) : Int)) / 2 ^ Int.toNat 2).toNat &&& Int.toNat 3689348814741910323) : Int) + (↑(((↑((x / 2 ^ Int.toNat 1).toNat &&& Int.toNat 6148914691236517205) : Int) + (↑(x.toNat &&& Int.toNat 6148914691236517205) : Int)).toNat &&& Int.toNat 3689348814741910323) : Int))).toNat &&& Int.toNat 1085102592571150095) : Int) / 2 ^ Int.toNat 8) / 2 ^ Int.toNat 16 + ((↑((((↑((((↑((x / 2 ^ Int.toNat 1).toNat &&& Int.toNat 6148914691236517205) : Int) + (↑(x.toNat &&& Int.toNat 6148914691236517205) : Int)) / 2 ^ Int.toNat 2).toNat &&& Int.toNat 3689348814741910323) : Int) + (↑(((↑((x / 2 ^ Int.toNat 1).toNat &&& Int.toNat 6148914691236517205) : Int) + (↑(x.toNat &&& Int.toNat 6148914691236517205) : Int)).toNat &&& Int.toNat 3689348814741910323) : Int)) / 2 ^ Int.toNat 4 + ((↑((((↑((x / 2 ^ Int.toNat 1).toNat &&& Int.toNat 6148914691236517205) : Int) + (↑(x.toNat &&& Int.toNat 6148914691236517205) : Int)) / 2 ^ Int.toNat 2).toNat &&& Int.toNat 3689348814741910323) : Int) + (↑(((↑((x / 2 ^ Int.toNat 1).toNat &&& Int.toNat 6148914691236517205) : Int) + (↑(x.toNat &&& Int.toNat 6148914691236517205) : Int)).toNat &&& Int.toNat 3689348814741910323) : Int))).toNat &&& Int.toNat 1085102592571150095) : Int) + (↑((((↑((((↑((x / 2 ^ Int.toNat 1).toNat &&& Int.toNat 6148914691236517205) : Int) + (↑(x.toNat &&& Int.toNat 6148914691236517205) : Int)) / 2 ^ Int.toNat 2).toNat &&& Int.toNat 3689348814741910323) : Int) + (↑(((↑((x / 2 ^ Int.toNat 1).toNat &&& Int.toNat 6148914691236517205) : Int) + (↑(x.toNat &&& Int.toNat 6148914691236517205) : Int)).toNat &&& Int.toNat 3689348814741910323) : Int)) / 2 ^ Int.toNat 4 + ((↑((((↑((x / 2 ^ Int.toNat 1).toNat &&& Int.toNat 6148914691236517205) : Int) + (↑(x.toNat &&& Int.toNat 6148914691236517205) : Int)) / 2 ^ Int.toNat 2).toNat &&& Int.toNat 3689348814741910323) : Int) + (↑(((↑((x / 2 ^ Int.toNat 1).toNat &&& Int.toNat 6148914691236517205) : Int) + (↑(x.toNat &&& Int.toNat 6148914691236517205) : Int)).toNat &&& Int.toNat 3689348814741910323) : Int))).toNat &&& Int.toNat 1085102592571150095) : Int) / 2 ^ Int.toNat 8 + ((↑((((↑((((↑((x / 2 ^ Int.toNat 1).toNat &&& Int.toNat 6148914691236517205) : Int) + (↑(x.toNat &&& Int.toNat 6148914691236517205) : Int)) / 2 ^ Int.toNat 2).toNat &&& Int.toNat 3689348814741910323) : Int) + (↑(((↑((x / 2 ^ Int.toNat 1).toNat &&& Int.toNat 6148914691236517205) : Int) + (↑(x.toNat &&& Int.toNat 6148914691236517205) : Int)).toNat &&& Int.toNat 3689348814741910323) : Int)) / 2 ^ Int.toNat 4 + ((↑((((↑((x / 2 ^ Int.toNat 1).toNat &&& Int.toNat 6148914691236517205) : Int) + (↑(x.toNat &&& Int.toNat 6148914691236517205) : Int)) / 2 ^ Int.toNat 2).toNat &&& Int.toNat 3689348814741910323) : Int) + (↑(((↑((x / 2 ^ Int.toNat 1).toNat &&& Int.toNat 6148914691236517205) : Int) + (↑(x.toNat &&& Int.toNat 6148914691236517205) : Int)).toNat &&& Int.toNat 3689348814741910323) : Int))).toNat &&& Int.toNat 1085102592571150095) : Int) + (↑((((↑((((↑((x / 2 ^ Int.toNat 1).toNat &&& Int.toNat 6148914691236517205) : Int) + (↑(x.toNat &&& Int.toNat 6148914691236517205) : Int)) / 2 ^ Int.toNat 2).toNat &&& Int.toNat 3689348814741910323) : Int) + (↑(((↑((x / 2 ^ Int.toNat 1).toNat &&& Int.toNat 6148914691236517205) : Int) + (↑(x.toNat &&& Int.toNat 6148914691236517205) : Int)).toNat &&& Int.toNat 3689348814741910323) : Int)) / 2 ^ Int.toNat 4 + ((↑((((↑((x / 2 ^ Int.toNat 1).toNat &&& Int.toNat 6148914691236517205) : Int) + (↑(x.toNat &&& Int.toNat 6148914691236517205) : Int)) / 2 ^ Int.toNat 2).toNat &&& Int.toNat 3689348814741910323) : Int) + (↑(((↑((x / 2 ^ Int.toNat 1).toNat &&& Int.toNat 6148914691236517205) : Int) + (↑(x.toNat &&& Int.toNat 6148914691236517205) : Int)).toNat &&& Int.toNat 3689348814741910323) : Int))).toNat &&& Int.toNat 1085102592571150095) : Int) / 2 ^ Int.toNat 8) / 2 ^ Int.toNat 16) / 2 ^ Int.toNat 32)).toNat &&& Int.toNat 127) : Int) = ones x ∧ True
theorem vcp_ones64 : pv_ones64 := by
  unfold pv_ones64
  intro x hx h
  obtain ⟨n, rfl⟩ := Int.eq_ofNat_of_zero_le h.1
  have hn : n < 512 := by omega
  clear h hx
  simp only [InR]
  repeat' apply And.intro
  all_goals (revert hn; revert n; decide +kernel)
theorem ok_ones64 : sp_ones64.ok Try.prog 170 := fn_ok (ann := an_0) tbl_nil Try.func170 (by kernel_rfl) vcp_ones64
def sp_onesC : Spec := { Ts := [ty_W], Rs := [.dat ty_I], pre := fun (x : Int) => 0 ≤ x ∧ x < 512, F := fun (x : Int) => ones x }
def pv_onesC : Prop :=
    ∀ (x : Int), InR IntKind.u64 x → 0 ≤ x ∧ x < 512 → (false = true → False) ∧ (false = false → (0 ≤ x ∧ x < 512) ∧ ones x = ones x ∧ True)
theorem vcp_onesC : pv_onesC := by
  unfold pv_onesC
  intro x hx h
  exact ⟨(fun h => by cases h), fun _ => ⟨h, by first | trivial | rfl, trivial⟩⟩
theorem ok_onesC : sp_onesC.ok Try.prog 142 := fn_ok (ann := an_0) (tbl_cons ok_ones64 tbl_nil) Try.func142 (by kernel_rfl) vcp_onesC
def sp_piece : Spec := { Ts := [ty_Room, ty_I], Rs := [.dat .bool], pre := fun ((_, all) : Room × Int) => 1 ≤ all ∧ all ≤ 256, F := fun ((r, all) : Room × Int) => pieceF r all }
def pv_piece : Prop :=
    ∀ (x : (Int × Int × Int) × Int), (InR IntKind.i64 x.1.1 ∧ InR IntKind.i64 x.1.2.1 ∧ InR IntKind.i64 x.1.2.2) ∧ InR IntKind.i64 x.2 → 1 ≤ x.2 ∧ x.2 ≤ 256 → ((decide (1 ≤ x.1.2.1) && decide (x.1.2.1 ≤ x.2)) = true → 0 ≤ IntKind.u64.wrap x.1.2.1 ∧ IntKind.u64.wrap x.1.2.1 < 512) ∧ ((decide (1 ≤ x.1.2.1) && decide (x.1.2.1 ≤ x.2) && decide (ones (IntKind.u64.wrap x.1.2.1) = 1) && decide (0 ≤ x.1.1)) = true → InR IntKind.i64 (x.2 - x.1.2.1)) ∧ ((decide (1 ≤ x.1.2.1) && decide (x.1.2.1 ≤ x.2) && decide (ones (IntKind.u64.wrap x.1.2.1) = 1) && decide (0 ≤ x.1.1) && decide (x.1.1 ≤ x.2 - x.1.2.1)) = true → 0 ≤ x.1.1) ∧ ((decide (1 ≤ x.1.2.1) && decide (x.1.2.1 ≤ x.2) && decide (ones (IntKind.u64.wrap x.1.2.1) = 1) && decide (0 ≤ x.1.1) && decide (x.1.1 ≤ x.2 - x.1.2.1)) = true → 0 < x.1.2.1) ∧ ((decide (1 ≤ x.1.2.1) && decide (x.1.2.1 ≤ x.2) && decide (ones (IntKind.u64.wrap x.1.2.1) = 1) && decide (0 ≤ x.1.1) && decide (x.1.1 ≤ x.2 - x.1.2.1) && decide (x.1.1 % x.1.2.1 = 0) && decide (x.1.2.2 ≤ x.1.2.1)) = true → 0 ≤ x.1.2.1) ∧ ((decide (1 ≤ x.1.2.1) && decide (x.1.2.1 ≤ x.2) && decide (ones (IntKind.u64.wrap x.1.2.1) = 1) && decide (0 ≤ x.1.1) && decide (x.1.1 ≤ x.2 - x.1.2.1) && decide (x.1.1 % x.1.2.1 = 0) && decide (x.1.2.2 ≤ x.1.2.1)) = true → (0 : Int) < 2) ∧ (decide (1 ≤ x.1.2.1) && decide (x.1.2.1 ≤ x.2) && decide (ones (IntKind.u64.wrap x.1.2.1) = 1) && decide (0 ≤ x.1.1) && decide (x.1.1 ≤ x.2 - x.1.2.1) && decide (x.1.1 % x.1.2.1 = 0) && decide (x.1.2.2 ≤ x.1.2.1) && decide (x.1.2.1 / 2 < x.1.2.2)) = pieceF x.1 x.2 ∧ True
theorem vcp_piece : pv_piece := by
  unfold pv_piece
  intro ⟨⟨a, n, u⟩, all⟩ _ ⟨h1, h2⟩
  simp only at h1 h2 ⊢
  have hw : ∀ m : Int, 1 ≤ m → m ≤ all → IntKind.u64.wrap m = m := fun m _ _ => wrapU (by omega) (by omega)
  have key : 1 ≤ n → n ≤ all → (ones (IntKind.u64.wrap n) = 1 ↔ isPow n = true) := fun a1 a2 => by
    rw [hw n a1 a2]
    obtain ⟨m, rfl⟩ := Int.eq_ofNat_of_zero_le (by omega : 0 ≤ n)
    rw [← ones_pow m (by omega)]
    simp
  refine ⟨fun h => ?_, fun h => ?_, fun h => ?_, fun h => ?_, fun h => ?_, fun h => by omega, ?_, trivial⟩
  · simp only [Bool.and_eq_true, decide_eq_true_eq] at h
    rw [hw n h.1 h.2]
    omega
  · simp only [Bool.and_eq_true, decide_eq_true_eq] at h
    obtain ⟨⟨⟨a1, a2⟩, _⟩, a4⟩ := h
    simp only [InR]
    omega
  · simp only [Bool.and_eq_true, decide_eq_true_eq] at h
    exact h.1.2
  · simp only [Bool.and_eq_true, decide_eq_true_eq] at h
    obtain ⟨⟨⟨⟨a1, _⟩, _⟩, _⟩, _⟩ := h
    omega
  · simp only [Bool.and_eq_true, decide_eq_true_eq] at h
    obtain ⟨⟨⟨⟨⟨⟨a1, _⟩, _⟩, _⟩, _⟩, _⟩, _⟩ := h
    omega
  · rw [Bool.eq_iff_iff]
    simp only [pieceF, Bool.and_eq_true, decide_eq_true_eq]
    constructor
    · rintro ⟨⟨⟨⟨⟨⟨⟨a1, a2⟩, a3⟩, a4⟩, a5⟩, a6⟩, a7⟩, a8⟩
      exact ⟨⟨⟨⟨⟨⟨(key a1 a2).1 a3, a2⟩, a4⟩, a5⟩, a6⟩, a7⟩, a8⟩
    · rintro ⟨⟨⟨⟨⟨⟨b1, b2⟩, b3⟩, b4⟩, b5⟩, b6⟩, b7⟩
      have b0 := isPow_in b1
      exact ⟨⟨⟨⟨⟨⟨⟨b0.1, b2⟩, (key b0.1 b2).2 b1⟩, b3⟩, b4⟩, b5⟩, b6⟩, b7⟩
theorem ok_piece : sp_piece.ok Try.prog 81 := fn_ok (ann := an_0) (tbl_cons ok_onesC tbl_nil) Try.func81 (by kernel_rfl) vcp_piece
def an_twinCheck : Nat → Option LoopGen
  | 6 => some { rd := [.box 1 ty_Halves], A := fun (h : HalvesD) => { cs := [.dat 5 ty_I, .dat 20 ty_I], inv := fun ((e, i) : Int × Int) => 0 ≤ i ∧ i ≤ h.2.length ∧ 0 ≤ h.1 ∧ h.1 ≤ 8 ∧ 0 ≤ e ∧ e ≤ 512 ∧ roomScan (allOf h.1) e (h.2.drop i.toNat) = roomScan (allOf h.1) 0 h.2, mu := fun ((_, i) : Int × Int) => (h.2.length - i).toNat } }
  | _ => none
def sp_twinCheck : Spec := { Ts := [ty_Halves], Rs := [.dat ty_I], pre := fun _ => True, F := halvesF }
def pv_twinCheck : Prop :=
    ∀ (x : Int × List (Int × Int × Int)), (InR IntKind.i64 x.1 ∧ x.2.length * (8 + (8 + 8)) ≤ big ∧ ∀ (x_1 : Int × Int × Int), x_1 ∈ x.2 → InR IntKind.i64 x_1.1 ∧ InR IntKind.i64 x_1.2.1 ∧ InR IntKind.i64 x_1.2.2) → True → True ∧ (decide ((newHalvesF x.1).2 ≠ 0) = true → (newHalvesF x.1).2 = halvesF x ∧ True) ∧ (decide ((newHalvesF x.1).2 ≠ 0) = false → ((0 : Int) ≤ 0 ∧ 0 ≤ (↑x.2.length : Int) ∧ 0 ≤ x.1 ∧ x.1 ≤ 8 ∧ (0 : Int) ≤ 0 ∧ (0 : Int) ≤ 512 ∧ roomScan (allOf x.1) 0 (List.drop (Int.toNat 0) x.2) = roomScan (allOf x.1) 0 x.2) ∧ ∀ (x_1 : Int × Int), 0 ≤ x_1.2 ∧ x_1.2 ≤ (↑x.2.length : Int) ∧ 0 ≤ x.1 ∧ x.1 ≤ 8 ∧ 0 ≤ x_1.1 ∧ x_1.1 ≤ 512 ∧ roomScan (allOf x.1) x_1.1 (List.drop x_1.2.toNat x.2) = roomScan (allOf x.1) 0 x.2 → (decide (x_1.2 < (↑x.2.length : Int)) = true → 0 ≤ x_1.2 ∧ x_1.2 < (↑x.2.length : Int) ∧ 0 ≤ x.1 ∧ x.1 < (↑IntKind.i64.bits : Int) ∧ (1 ≤ IntKind.i64.wrap (1 * 2 ^ x.1.toNat) ∧ IntKind.i64.wrap (1 * 2 ^ x.1.toNat) ≤ 256) ∧ ((!pieceF (x.2.getD x_1.2.toNat (0, 0, 0)) (IntKind.i64.wrap (1 * 2 ^ x.1.toNat)) || decide ((x.2.getD x_1.2.toNat (0, 0, 0)).1 < x_1.1)) = true → 3 = halvesF x ∧ True) ∧ ((!pieceF (x.2.getD x_1.2.toNat (0, 0, 0)) (IntKind.i64.wrap (1 * 2 ^ x.1.toNat)) || decide ((x.2.getD x_1.2.toNat (0, 0, 0)).1 < x_1.1)) = false → InR IntKind.i64 ((x.2.getD x_1.2.toNat (0, 0, 0)).1 + (x.2.getD x_1.2.toNat (0, 0, 0)).2.1) ∧ InR IntKind.i64 (x_1.2 + 1) ∧ (0 ≤ x_1.2 + 1 ∧ x_1.2 + 1 ≤ (↑x.2.length : Int) ∧ 0 ≤ x.1 ∧ x.1 ≤ 8 ∧ 0 ≤ (x.2.getD x_1.2.toNat (0, 0, 0)).1 + (x.2.getD x_1.2.toNat (0, 0, 0)).2.1 ∧ (x.2.getD x_1.2.toNat (0, 0, 0)).1 + (x.2.getD x_1.2.toNat (0, 0, 0)).2.1 ≤ 512 ∧ roomScan (allOf x.1) ((x.2.getD x_1.2.toNat (0, 0, 0)).1 + (x.2.getD x_1.2.toNat (0, 0, 0)).2.1) (List.drop (x_1.2 + 1).toNat x.2) = roomScan (allOf x.1) 0 x.2) ∧ ((↑x.2.length : Int) - (x_1.2 + 1)).toNat < ((↑x.2.length : Int) - x_1.2).toNat)) ∧ (decide (x_1.2 < (↑x.2.length : Int)) = false → 0 = halvesF x ∧ True))
theorem vcp_twinCheck : pv_twinCheck := by
  unfold pv_twinCheck
  intro ⟨o, l⟩ ⟨_, hb, _⟩ _
  unfold big at hb
  simp only at hb ⊢
  have hN : (newHalvesF o).2 = if o < 0 ∨ 8 < o then 4 else 0 := by unfold newHalvesF; split <;> rfl
  have hF : halvesF (o, l) = if o < 0 ∨ 8 < o then 4 else roomScan (allOf o) 0 l := rfl
  rw [hN, hF]
  by_cases ho : o < 0 ∨ 8 < o
  · rw [if_pos ho, if_pos ho]
    exact ⟨trivial, fun _ => ⟨rfl, trivial⟩, fun h => absurd (of_decide_eq_false h) (by decide)⟩
  rw [if_neg ho, if_neg ho]
  obtain ⟨e1, e2, e3, e4⟩ := allOf_is (o := o) (by omega) (by omega)
  refine ⟨trivial, fun h => absurd rfl (of_decide_eq_true h), fun _ => ⟨⟨by omega, by omega, by omega, by omega, by omega, by omega, rfl⟩, fun ⟨e, i⟩ ⟨i0, i1, i2, i3, i4, i5, i6⟩ => ⟨fun hlt => ?_, fun hge => ?_⟩⟩⟩
  · simp only at i0 i1 i4 i5 i6 hlt ⊢
    have hlt := of_decide_eq_true hlt
    rw [drop_cons ((0, 0, 0) : Room) i0 hlt] at i6
    simp only [roomScan] at i6
    rw [e1]
    generalize l.getD i.toNat (0, 0, 0) = r at *
    simp only [InR]
    refine ⟨i0, hlt, i2, by rw [show ((IntKind.i64.bits : Nat) : Int) = 64 from rfl]; omega, ⟨e3, e4⟩, fun hc => ?_, fun hc => ?_⟩
    · rw [if_neg (fun h => by rw [h.1, decide_eq_false (by omega : ¬ r.1 < e)] at hc; cases hc)] at i6
      exact ⟨i6, trivial⟩
    · simp only [Bool.or_eq_false_iff, Bool.not_eq_false', decide_eq_false_iff_not] at hc
      obtain ⟨p1, p2, p3, p4, p5, _⟩ := piece_in hc.1
      rw [if_pos ⟨hc.1, by omega⟩] at i6
      exact ⟨by omega, by omega, ⟨by omega, by omega, by omega, by omega, by omega, by omega, i6⟩, by omega⟩
  · simp only at i6 hge ⊢
    rw [drop_end (of_decide_eq_false hge)] at i6
    exact ⟨i6, trivial⟩
theorem ok_twinCheck : sp_twinCheck.ok Try.prog 23 := fn_ok (ann := an_twinCheck) (tbl_cons ok_twinNew (tbl_cons ok_piece tbl_nil)) Try.func23 (by kernel_rfl) vcp_twinCheck
def roomIn (r : Room) : Prop := 0 ≤ r.1 ∧ r.1 ≤ 256 ∧ 1 ≤ r.2.1 ∧ r.2.1 ≤ 256
def sp_gapsC : Spec := { Ts := [ty_Room, .ref ty_I, .ref ty_I], Rs := [.dat .bool], pre := fun ((r, a, n) : Room × Int × Int) => roomIn r ∧ 0 ≤ a ∧ a ≤ 256 ∧ 1 ≤ n ∧ n ≤ 256, F := fun ((r, a, n) : Room × Int × Int) => meetsR a n r }
def pv_gapsC : Prop :=
    ∀ (x : (Int × Int × Int) × Int × Int), (InR IntKind.i64 x.1.1 ∧ InR IntKind.i64 x.1.2.1 ∧ InR IntKind.i64 x.1.2.2) ∧ InR IntKind.i64 x.2.1 ∧ InR IntKind.i64 x.2.2 → roomIn x.1 ∧ 0 ≤ x.2.1 ∧ x.2.1 ≤ 256 ∧ 1 ≤ x.2.2 ∧ x.2.2 ≤ 256 → InR IntKind.i64 (x.2.1 + x.2.2) ∧ (decide (x.1.1 < x.2.1 + x.2.2) = true → InR IntKind.i64 (x.1.1 + x.1.2.1)) ∧ (decide (x.1.1 < x.2.1 + x.2.2) && decide (x.2.1 < x.1.1 + x.1.2.1)) = meetsR x.2.1 x.2.2 x.1 ∧ True
theorem vcp_gapsC : pv_gapsC := by
  unfold pv_gapsC
  intro ⟨⟨x, y, z⟩, a, n⟩ _ ⟨⟨h1, h2, h3, h4⟩, h5, h6, h7, h8⟩
  simp only at h1 h2 h3 h4 h5 h6 h7 h8 ⊢
  simp only [InR]
  exact ⟨by omega, fun _ => by omega, rfl, trivial⟩
theorem ok_gapsC : sp_gapsC.ok Try.prog 139 := fn_ok (ann := an_0) tbl_nil Try.func139 (by kernel_rfl) vcp_gapsC
def sp_idxRoom : Spec := { Ts := [.arr ty_Room, .fn ty_Room .bool], Rs := [.dat ty_I], pre := fun ((l, g) : List Room × (Room → Prop) × (Room → Bool)) => ∀ s ∈ l, g.1 s, F := fun ((l, g) : List Room × (Room → Prop) × (Room → Bool)) => findFrom g.2 0 l }
def an_idxRoom : Nat → Option LoopGen
  | 2 => some { rd := [.dat 0 (.arr ty_Room), .dat 1 (.fn ty_Room .bool)], A := fun ((l, g) : List Room × (Room → Prop) × (Room → Bool)) => { cs := [.dat 8 ty_I], inv := fun (i : Int) => 0 ≤ i ∧ i ≤ l.length ∧ findFrom g.2 i (l.drop i.toNat) = findFrom g.2 0 l, mu := fun (i : Int) => (l.length - i).toNat } }
  | _ => none
def pv_idxRoom : Prop :=
    ∀ (x : List (Int × Int × Int) × (Int × Int × Int → Prop) × (Int × Int × Int → Bool)), (x.1.length * (8 + (8 + 8)) ≤ big ∧ ∀ (x_1 : Int × Int × Int), x_1 ∈ x.1 → InR IntKind.i64 x_1.1 ∧ InR IntKind.i64 x_1.2.1 ∧ InR IntKind.i64 x_1.2.2) ∧ True → (∀ (s : Room), s ∈ x.1 → x.2.1 s) → ((0 : Int) ≤ 0 ∧ 0 ≤ (↑x.1.length : Int) ∧ findFrom x.2.2 0 (List.drop (Int.toNat 0) x.1) = findFrom x.2.2 0 x.1) ∧ ∀ (x_1 : Int), 0 ≤ x_1 ∧ x_1 ≤ (↑x.1.length : Int) ∧ findFrom x.2.2 x_1 (List.drop x_1.toNat x.1) = findFrom x.2.2 0 x.1 → (decide (x_1 < (↑x.1.length : Int)) = true → 0 ≤ x_1 ∧ x_1 < (↑x.1.length : Int) ∧ x.2.1 (x.1.getD x_1.toNat (0, 0, 0)) ∧ (x.2.2 (x.1.getD x_1.toNat (0, 0, 0)) = true → x_1 = findFrom x.2.2 0 x.1 ∧ True) ∧ (x.2.2 (x.1.getD x_1.toNat (0, 0, 0)) = false → InR IntKind.i64 (x_1 + 1) ∧ (0 ≤ x_1 + 1 ∧ x_1 + 1 ≤ (↑x.1.length : Int) ∧ findFrom x.2.2 (x_1 + 1) (List.drop (x_1 + 1).toNat x.1) = findFrom x.2.2 0 x.1) ∧ ((↑x.1.length : Int) - (x_1 + 1)).toNat < ((↑x.1.length : Int) - x_1).toNat)) ∧ (decide (x_1 < (↑x.1.length : Int)) = false → (-1) = findFrom x.2.2 0 x.1 ∧ True)
theorem vcp_idxRoom : pv_idxRoom := by
  unfold pv_idxRoom
  intro ⟨l, g⟩ ⟨⟨hl, _⟩, _⟩ hp
  unfold big at *
  refine ⟨⟨by omega, by omega, by simp⟩, fun i ⟨h0, h1, h2⟩ => ⟨fun hlt => ?_, fun hge => ?_⟩⟩
  · have hlt : i < (l.length : Int) := by simpa using hlt
    have e := drop_cons ((0, 0, 0) : Room) h0 hlt
    have hm := hp _ (getD_mem ((0, 0, 0) : Room) h0 hlt)
    simp only at *
    rw [e] at h2
    simp only [findFrom] at h2
    refine ⟨h0, hlt, hm, fun hc => ?_, fun hc => ?_⟩
    · rw [if_pos hc] at h2
      exact ⟨h2, trivial⟩
    · rw [if_neg (by rw [hc]; simp)] at h2
      exact ⟨by simp only [InR]; omega, ⟨by omega, by omega, h2⟩, by omega⟩
  · rw [drop_end (by simpa using hge)] at h2
    exact ⟨h2, trivial⟩
theorem ok_idxRoom : sp_idxRoom.ok Try.prog 77 := fn_ok (ann := an_idxRoom) tbl_nil Try.func77 (by kernel_rfl) vcp_idxRoom
def sp_anyRoom : Spec := { Ts := [.arr ty_Room, .fn ty_Room .bool], Rs := [.dat .bool], pre := fun ((l, g) : List Room × (Room → Prop) × (Room → Bool)) => ∀ s ∈ l, g.1 s, F := fun ((l, g) : List Room × (Room → Prop) × (Room → Bool)) => l.any g.2 }
def pv_anyRoom : Prop :=
    ∀ (x : List (Int × Int × Int) × (Int × Int × Int → Prop) × (Int × Int × Int → Bool)), (x.1.length * (8 + (8 + 8)) ≤ big ∧ ∀ (x_1 : Int × Int × Int), x_1 ∈ x.1 → InR IntKind.i64 x_1.1 ∧ InR IntKind.i64 x_1.2.1 ∧ InR IntKind.i64 x_1.2.2) ∧ True → (∀ (s : Room), s ∈ x.1 → x.2.1 s) → (∀ (s : Room), s ∈ x.1 → x.2.1 s) ∧ decide (0 ≤ findFrom x.2.2 0 x.1) = x.1.any x.2.2 ∧ True
theorem vcp_anyRoom : pv_anyRoom := by
  unfold pv_anyRoom
  intro ⟨l, g⟩ _ hp
  exact ⟨hp, findFrom_any g.2 l 0 (by omega), trivial⟩
theorem ok_anyRoom : sp_anyRoom.ok Try.prog 140 := fn_ok (ann := an_0) (tbl_cons ok_idxRoom tbl_nil) Try.func140 (by kernel_rfl) vcp_anyRoom
def sp_growRuns : Spec := { Ts := [.nil, ty_I], Rs := [.own 39 ty_Gap], pre := fun ((_, n) : Unit × Int) => 0 ≤ n ∧ n.toNat * (8 + 8) ≤ big, F := fun _ => ([] : List Gap) }
def pv_growRuns : Prop :=
    ∀ (x : Unit × Int), True ∧ InR IntKind.i64 x.2 → (0 : Int) ≤ x.2 ∧ x.2.toNat * ((8 : Nat) + (8 : Nat)) ≤ big → (decide (x.2 < (0 : Int)) = true → False) ∧ (decide (x.2 < (0 : Int)) = false → InR IntKind.i64 ((0 : Int) - (0 : Int)) ∧ InR IntKind.i64 (x.2 - ((0 : Int) - (0 : Int))) ∧ (decide ((0 : Int) < x.2 - ((0 : Int) - (0 : Int))) = true → (0 : Int) = (0 : Int) ∧ (0 : Int) < x.2 - ((0 : Int) - (0 : Int)) ∧ (x.2 - ((0 : Int) - (0 : Int))).toNat * ((8 : Nat) + (8 : Nat)) ≤ big ∧ (0 : Int) ≤ (0 : Int) ∧ (0 : Int) ≤ (↑(List.replicate (x.2 - ((0 : Int) - (0 : Int))).toNat ((0 : Int), (0 : Int))).length : Int) ∧ List.take (Int.toNat (0 : Int)) (List.replicate (x.2 - ((0 : Int) - (0 : Int))).toNat ((0 : Int), (0 : Int))) = ([] : List Gap) ∧ True) ∧ (decide ((0 : Int) < x.2 - ((0 : Int) - (0 : Int))) = false → ([] : List (Int × Int)) = ([] : List Gap) ∧ True))
theorem vcp_growRuns : pv_growRuns := by
  unfold pv_growRuns
  intro ⟨_, n⟩ ⟨_, hn⟩ ⟨h0, hb⟩
  simp only [InR] at *
  refine ⟨fun h => ?_, fun _ => ⟨by omega, by omega, fun h => ⟨trivial, by have := of_decide_eq_true h; omega, by simpa using hb, by omega, by omega, by simp, trivial⟩, fun _ => by simp⟩⟩
  have := of_decide_eq_true h
  omega
theorem ok_growRuns : sp_growRuns.ok Try.prog 168 := fn_ok (ann := an_0) tbl_nil Try.func168 (by kernel_rfl) vcp_growRuns
def sp_concatRuns : Spec := { Ts := [.arr (.arr ty_Gap)], Rs := [.own 39 ty_Gap], pre := fun (xs : List (List Gap)) => xs.flatten.length * (8 + 8) ≤ big, F := fun (xs : List (List Gap)) => xs.flatten }
def an_concatRuns : Nat → Option LoopGen
  | 3 => some { rd := [.dat 9 (.arr (.arr ty_Gap))], A := fun (xs : List (List Gap)) => { cs := [.dat 3 ty_I, .dat 11 ty_I], inv := fun ((n, i) : Int × Int) => 0 ≤ i ∧ i ≤ xs.length ∧ n = ((xs.take i.toNat).flatten.length : Int) ∧ xs.flatten.length * (8 + 8) ≤ big, mu := fun ((_, i) : Int × Int) => (xs.length - i).toNat } }
  | 11 => some { rd := [.dat 25 (.arr (.arr ty_Gap))], A := fun (xs : List (List Gap)) => { cs := [.own 6 39 ty_Gap, .dat 27 ty_I], inv := fun ((out, i) : List Gap × Int) => 0 ≤ i ∧ i ≤ xs.length ∧ out ++ (xs.drop i.toNat).flatten = xs.flatten, mu := fun ((_, i) : List Gap × Int) => (xs.length - i).toNat } }
  | _ => none
def pv_concatRuns : Prop :=
    ∀ (x : List (List (Int × Int))), (x.length * 24 ≤ big ∧ ∀ (x_1 : List (Int × Int)), x_1 ∈ x → x_1.length * (8 + 8) ≤ big ∧ ∀ (x : Int × Int), x ∈ x_1 → InR IntKind.i64 x.1 ∧ InR IntKind.i64 x.2) → x.flatten.length * (8 + 8) ≤ big → ((0 : Int) ≤ 0 ∧ 0 ≤ (↑x.length : Int) ∧ 0 = (↑(List.take (Int.toNat 0) x).flatten.length : Int) ∧ x.flatten.length * (8 + 8) ≤ big) ∧ ∀ (x_1 : Int × Int), 0 ≤ x_1.2 ∧ x_1.2 ≤ (↑x.length : Int) ∧ x_1.1 = (↑(List.take x_1.2.toNat x).flatten.length : Int) ∧ x.flatten.length * (8 + 8) ≤ big → (decide (x_1.2 < (↑x.length : Int)) = true → 0 ≤ x_1.2 ∧ x_1.2 < (↑x.length : Int) ∧ InR IntKind.i64 (x_1.1 + (↑(x.getD x_1.2.toNat ([] : List (Int × Int))).length : Int)) ∧ (decide (x_1.1 + (↑(x.getD x_1.2.toNat ([] : List (Int × Int))).length : Int) < 0) = true → False) ∧ (decide (x_1.1 + (↑(x.getD x_1.2.toNat ([] : List (Int × Int))).length : Int) < 0) = false → InR IntKind.i64 (x_1.2 + 1) ∧ (0 ≤ x_1.2 + 1 ∧ x_1.2 + 1 ≤ (↑x.length : Int) ∧ x_1.1 + (↑(x.getD x_1.2.toNat ([] : List (Int × Int))).length : Int) = (↑(List.take (x_1.2 + 1).toNat x).flatten.length : Int) ∧ x.flatten.length * (8 + 8) ≤ big) ∧ ((↑x.length : Int) - (x_1.2 + 1)).toNat < ((↑x.length : Int) - x_1.2).toNat)) ∧ (decide (x_1.2 < (↑x.length : Int)) = false → (0 ≤ x_1.1 ∧ x_1.1.toNat * (8 + 8) ≤ big) ∧ ((0 : Int) ≤ 0 ∧ 0 ≤ (↑x.length : Int) ∧ ([] : List Gap) ++ (List.drop (Int.toNat 0) x).flatten = x.flatten) ∧ ∀ (x_2 : List (Int × Int) × Int), 0 ≤ x_2.2 ∧ x_2.2 ≤ (↑x.length : Int) ∧ x_2.1 ++ (List.drop x_2.2.toNat x).flatten = x.flatten → (decide (x_2.2 < (↑x.length : Int)) = true → 0 ≤ x_2.2 ∧ x_2.2 < (↑x.length : Int) ∧ (x_2.1.length + (x.getD x_2.2.toNat ([] : List (Int × Int))).length) * (8 + 8) ≤ big ∧ InR IntKind.i64 (x_2.2 + 1) ∧ (0 ≤ x_2.2 + 1 ∧ x_2.2 + 1 ≤ (↑x.length : Int) ∧ x_2.1 ++ x.getD x_2.2.toNat ([] : List (Int × Int)) ++ (List.drop (x_2.2 + 1).toNat x).flatten = x.flatten) ∧ ((↑x.length : Int) - (x_2.2 + 1)).toNat < ((↑x.length : Int) - x_2.2).toNat) ∧ (decide (x_2.2 < (↑x.length : Int)) = false → x_2.1 = x.flatten ∧ True))
theorem vcp_concatRuns : pv_concatRuns := by
  unfold pv_concatRuns
  intro xs ⟨hx, _⟩ hb
  simp only [InR] at *
  unfold big at *
  have hpart : ∀ k, (xs.take k).flatten.length ≤ xs.flatten.length := fun k => by
    have := congrArg List.length (congrArg List.flatten (List.take_append_drop k xs))
    rw [List.flatten_append, List.length_append] at this
    omega
  refine ⟨⟨by omega, by omega, by simp, hb⟩, fun ⟨n, i⟩ ⟨h0, h1, h2, _⟩ => ⟨fun hlt => ?_, fun hge => ?_⟩⟩
  · have hlt : i < (xs.length : Int) := by simpa using hlt
    have e := take_snoc ([] : List Gap) h0 hlt
    have hp := hpart (i + 1).toNat
    rw [e] at hp ⊢
    simp only [List.flatten_append, List.length_append, List.flatten_cons, List.flatten_nil, List.append_nil] at *
    refine ⟨h0, hlt, by omega, fun hc => ?_, fun _ => ⟨by omega, ⟨by omega, by omega, by push_cast; omega, hb⟩, by omega⟩⟩
    have := of_decide_eq_true hc
    omega
  · have hge : ¬ i < (xs.length : Int) := by simpa using hge
    rw [take_end hge] at h2
    simp only at *
    refine ⟨⟨by omega, by omega⟩, ⟨by omega, by omega, by simp⟩, fun ⟨out, j⟩ ⟨g0, g1, g2⟩ => ⟨fun hlt => ?_, fun hge => ?_⟩⟩
    · have hlt : j < (xs.length : Int) := by simpa using hlt
      simp only at *
      rw [drop_cons ([] : List Gap) g0 hlt, List.flatten_cons] at g2
      have hl := congrArg List.length g2
      simp only [List.length_append] at hl
      exact ⟨g0, hlt, by omega, by omega, ⟨by omega, by omega, by rw [List.append_assoc]; exact g2⟩, by omega⟩
    · rw [drop_end (by simpa using hge)] at g2
      simp only [List.flatten_nil, List.append_nil] at g2
      exact ⟨g2, trivial⟩
theorem ok_concatRuns : sp_concatRuns.ok Try.prog 141 := fn_ok (ann := an_concatRuns) (tbl_cons ok_growRuns tbl_nil) Try.func141 (by kernel_rfl) vcp_concatRuns
theorem gapsI_len {t : List Room} {a n : Int} (h : isPow n = true) : (gapsI t a n).length ≤ 256 := by
  obtain ⟨k, hk, rfl⟩ := isPow_pow h
  unfold gapsI
  rw [lgI_pow hk]
  refine Nat.le_trans (gapsT_len t k a.toNat) ?_
  exact Nat.pow_le_pow_right (by omega) hk (n := 2)
def sp_twinGap : Spec := { Ts := [.arr ty_Room, ty_I, ty_I], Rs := [.dat (.arr ty_Gap)], al := true, pre := fun ((t, a, n) : List Room × Int × Int) => isPow n = true ∧ 0 ≤ a ∧ a + n ≤ 256 ∧ ∀ r ∈ t, roomIn r, F := fun ((t, a, n) : List Room × Int × Int) => gapsI t a n }
def pv_twinGap : Prop :=
    ∀ k : Nat, ∀ (x : List (Int × Int × Int) × Int × Int), (x.1.length * (8 + (8 + 8)) ≤ big ∧ ∀ (x_1 : Int × Int × Int), x_1 ∈ x.1 → InR IntKind.i64 x_1.1 ∧ InR IntKind.i64 x_1.2.1 ∧ InR IntKind.i64 x_1.2.2) ∧ InR IntKind.i64 x.2.1 ∧ InR IntKind.i64 x.2.2 → (isPow x.2.2 = true ∧ 0 ≤ x.2.1 ∧ x.2.1 + x.2.2 ≤ 256 ∧ ∀ (r : Room), r ∈ x.1 → roomIn r) ∧ x.2.2.toNat < k + 1 → (∀ (s : Room), s ∈ x.1 → (fun (x_1 : Int × Int × Int) => roomIn x_1 ∧ 0 ≤ x.2.1 ∧ x.2.1 ≤ 256 ∧ 1 ≤ x.2.2 ∧ x.2.2 ≤ 256, fun (x_1 : Int × Int × Int) => meetsR x.2.1 x.2.2 x_1).1 s) ∧ ((!x.1.any fun (x_1 : Int × Int × Int) => meetsR x.2.1 x.2.2 x_1) = true → [x.2] = gapsI x.1 x.2.1 x.2.2 ∧ True) ∧ ((!x.1.any fun (x_1 : Int × Int × Int) => meetsR x.2.1 x.2.2 x_1) = false → (decide (x.2.2 = 1) = true → ([] : List (Int × Int)) = gapsI x.1 x.2.1 x.2.2 ∧ True) ∧ (decide (x.2.2 = 1) = false → 0 ≤ x.2.2 ∧ (0 : Int) < 2 ∧ ((isPow (x.2.2 / 2) = true ∧ 0 ≤ x.2.1 ∧ x.2.1 + x.2.2 / 2 ≤ 256 ∧ ∀ (r : Room), r ∈ x.1 → roomIn r) ∧ (x.2.2 / 2).toNat < k) ∧ 0 ≤ x.2.2 ∧ (0 : Int) < 2 ∧ InR IntKind.i64 (x.2.1 + x.2.2 / 2) ∧ 0 ≤ x.2.2 ∧ (0 : Int) < 2 ∧ ((isPow (x.2.2 / 2) = true ∧ 0 ≤ x.2.1 + x.2.2 / 2 ∧ x.2.1 + x.2.2 / 2 + x.2.2 / 2 ≤ 256 ∧ ∀ (r : Room), r ∈ x.1 → roomIn r) ∧ (x.2.2 / 2).toNat < k) ∧ [gapsI x.1 x.2.1 (x.2.2 / 2), gapsI x.1 (x.2.1 + x.2.2 / 2) (x.2.2 / 2)].flatten.length * (8 + 8) ≤ big ∧ [gapsI x.1 x.2.1 (x.2.2 / 2), gapsI x.1 (x.2.1 + x.2.2 / 2) (x.2.2 / 2)].flatten = gapsI x.1 x.2.1 x.2.2 ∧ True))
theorem vcp_twinGap : pv_twinGap := by
  unfold pv_twinGap
  intro k
  intro ⟨t, a, n⟩ _ ⟨⟨h1, h2, h3, h4⟩, hm⟩
  simp only at h1 h2 h3 h4 hm ⊢
  obtain ⟨n1, n2⟩ := isPow_in h1
  refine ⟨fun s hs => ⟨h4 s hs, h2, by omega, n1, n2⟩, fun ho => ?_, fun ho => ⟨fun h5 => ?_, fun h5 => ?_⟩⟩
  · rw [gapsI_open h1 h2 ho]
    exact ⟨rfl, trivial⟩
  · have h5 := of_decide_eq_true h5
    subst h5
    rw [gapsI_one h2 ho]
    exact ⟨rfl, trivial⟩
  · obtain ⟨p1, p2, p3, p4⟩ := gapsI_half h1 (of_decide_eq_false h5) h2 ho
    have l1 := gapsI_len (t := t) (a := a) p1
    have l2 := gapsI_len (t := t) (a := a + n / 2) p1
    rw [p4]
    unfold big
    simp only [InR]
    refine ⟨by omega, by omega, ⟨⟨p1, h2, by omega, h4⟩, by omega⟩, by omega, by omega, by omega, by omega, by omega, ⟨⟨p1, by omega, by omega, h4⟩, by omega⟩, ?_, ?_, trivial⟩
    · simp only [List.flatten_cons, List.flatten_nil, List.append_nil, List.length_append]
      omega
    · simp
theorem e_twinGap : pv_twinGap = (∀ k : Nat, fnVC Try.prog (tbl [(80, sp_lim sp_twinGap (fun ((_, _, n) : List Room × Int × Int) => n.toNat) k), (139, sp_gapsC), (140, sp_anyRoom), (141, sp_concatRuns)]) an_0 Try.f80 (sp_lim sp_twinGap (fun ((_, _, n) : List Room × Int × Int) => n.toNat) (k + 1))) := by kernel_rfl
theorem vc_twinGap : ∀ k : Nat, fnVC Try.prog (tbl [(80, sp_lim sp_twinGap (fun ((_, _, n) : List Room × Int × Int) => n.toNat) k), (139, sp_gapsC), (140, sp_anyRoom), (141, sp_concatRuns)]) an_0 Try.f80 (sp_lim sp_twinGap (fun ((_, _, n) : List Room × Int × Int) => n.toNat) (k + 1)) := @Eq.mp _ _ @e_twinGap @vcp_twinGap
theorem ok_twinGap : sp_twinGap.ok Try.prog 80 := rec_sound (mu := (fun ((_, _, n) : List Room × Int × Int) => n.toNat)) fun k hk => fn_sound (P := Try.prog) (ss := tbl [(80, sp_lim sp_twinGap (fun ((_, _, n) : List Room × Int × Int) => n.toNat) k), (139, sp_gapsC), (140, sp_anyRoom), (141, sp_concatRuns)]) (ann := an_0) (f := 80) (fn := Try.f80) (s := (sp_lim sp_twinGap (fun ((_, _, n) : List Room × Int × Int) => n.toNat) (k + 1))) (tbl_cons hk (tbl_cons ok_gapsC (tbl_cons ok_anyRoom (tbl_cons ok_concatRuns tbl_nil)))) Try.func80 (@vc_twinGap k)
def gapsHF (h : HalvesD) : List TGap × Int := if halvesF h ≠ 0 then ([], halvesF h) else (gapsI h.2 0 (allOf h.1), 0)
def sp_twinGaps : Spec := { Ts := [ty_Halves], Rs := [.dat (.arr ty_Gap), .dat ty_I], al := true, pre := fun _ => True, F := gapsHF }
def pv_twinGaps : Prop :=
    ∀ (x : Int × List (Int × Int × Int)), (InR IntKind.i64 x.1 ∧ x.2.length * (8 + (8 + 8)) ≤ big ∧ ∀ (x_1 : Int × Int × Int), x_1 ∈ x.2 → InR IntKind.i64 x_1.1 ∧ InR IntKind.i64 x_1.2.1 ∧ InR IntKind.i64 x_1.2.2) → True → True ∧ (decide (halvesF x ≠ 0) = true → ([] : List (Int × Int)) = (gapsHF x).1 ∧ halvesF x = (gapsHF x).2 ∧ True) ∧ (decide (halvesF x ≠ 0) = false → 0 ≤ x.1 ∧ x.1 < (↑IntKind.i64.bits : Int) ∧ (isPow (IntKind.i64.wrap (1 * 2 ^ x.1.toNat)) = true ∧ (0 : Int) ≤ 0 ∧ 0 + IntKind.i64.wrap (1 * 2 ^ x.1.toNat) ≤ 256 ∧ ∀ (r : Room), r ∈ x.2 → roomIn r) ∧ gapsI x.2 0 (IntKind.i64.wrap (1 * 2 ^ x.1.toNat)) = (gapsHF x).1 ∧ 0 = (gapsHF x).2 ∧ True)
theorem vcp_twinGaps : pv_twinGaps := by
  unfold pv_twinGaps
  intro ⟨o, l⟩ _ _
  simp only
  have hF : gapsHF (o, l) = if halvesF (o, l) ≠ 0 then ([], halvesF (o, l)) else (gapsI l 0 (allOf o), 0) := rfl
  rw [hF]
  refine ⟨trivial, fun h => ?_, fun h => ?_⟩
  · rw [if_pos (of_decide_eq_true h)]
    exact ⟨rfl, rfl, trivial⟩
  · have h := of_decide_eq_false h
    rw [if_neg h]
    obtain ⟨k1, k2, _, _, k5⟩ := halves_ok (h := (o, l)) (by omega)
    simp only at k1 k2 k5
    obtain ⟨e1, e2, e3, e4⟩ := allOf_is k1 k2
    rw [e1]
    exact ⟨k1, by rw [show ((IntKind.i64.bits : Nat) : Int) = 64 from rfl]; omega, ⟨e2, by omega, by omega, fun r hr => by have := k5 r hr; exact ⟨this.1, this.2.1, this.2.2.1, this.2.2.2.1⟩⟩, rfl, rfl, trivial⟩
theorem ok_twinGaps : sp_twinGaps.ok Try.prog 19 := fn_ok (ann := an_0) (tbl_cons ok_twinCheck (tbl_cons ok_twinGap tbl_nil)) Try.func19 (by kernel_rfl) vcp_twinGaps
def wasteL (l : List Room) : Int := (l.map fun r => r.2.1 - r.2.2).sum
def an_waste : Nat → Option LoopGen
  | 6 => some { rd := [.box 1 ty_Halves], A := fun (h : HalvesD) => { cs := [.dat 5 ty_I, .dat 16 ty_I], inv := fun ((n, i) : Int × Int) => 0 ≤ i ∧ i ≤ h.2.length ∧ 0 ≤ n ∧ n ≤ 256 * i ∧ n + wasteL (h.2.drop i.toNat) = wasteL h.2, mu := fun ((_, i) : Int × Int) => (h.2.length - i).toNat } }
  | _ => none
def wasteF (h : HalvesD) : Int × Int := if halvesF h ≠ 0 then (0, halvesF h) else (wasteL h.2, 0)
def sp_waste : Spec := { Ts := [ty_Halves], Rs := [.dat ty_I, .dat ty_I], pre := fun _ => True, F := wasteF }
def pv_waste : Prop :=
    ∀ (x : Int × List (Int × Int × Int)), (InR IntKind.i64 x.1 ∧ x.2.length * ((8 : Nat) + ((8 : Nat) + (8 : Nat))) ≤ big ∧ ∀ (x_1 : Int × Int × Int), x_1 ∈ x.2 → InR IntKind.i64 x_1.1 ∧ InR IntKind.i64 x_1.2.1 ∧ InR IntKind.i64 x_1.2.2) → True → True ∧ (decide (halvesF x ≠ (0 : Int)) = true → (0 : Int) = (wasteF x).1 ∧ halvesF x = (wasteF x).2 ∧ True) ∧ (decide (halvesF x ≠ (0 : Int)) = false → ((0 : Int) ≤ (0 : Int) ∧ (0 : Int) ≤ (↑x.2.length : Int) ∧ (0 : Int) ≤ (0 : Int) ∧ (0 : Int) ≤ (256 : Int) * (0 : Int) ∧ (0 : Int) + wasteL (List.drop (Int.toNat (0 : Int)) x.2) = wasteL x.2) ∧ ∀ (x_1 : Int × Int), (0 : Int) ≤ x_1.2 ∧ x_1.2 ≤ (↑x.2.length : Int) ∧ (0 : Int) ≤ x_1.1 ∧ x_1.1 ≤ (256 : Int) * x_1.2 ∧ x_1.1 + wasteL (List.drop x_1.2.toNat x.2) = wasteL x.2 → (decide (x_1.2 < (↑x.2.length : Int)) = true → (0 : Int) ≤ x_1.2 ∧ x_1.2 < (↑x.2.length : Int) ∧ InR IntKind.i64 ((x.2.getD x_1.2.toNat ((0 : Int), (0 : Int), (0 : Int))).2.1 - (x.2.getD x_1.2.toNat ((0 : Int), (0 : Int), (0 : Int))).2.2) ∧ InR IntKind.i64 (x_1.1 + ((x.2.getD x_1.2.toNat ((0 : Int), (0 : Int), (0 : Int))).2.1 - (x.2.getD x_1.2.toNat ((0 : Int), (0 : Int), (0 : Int))).2.2)) ∧ InR IntKind.i64 (x_1.2 + (1 : Int)) ∧ ((0 : Int) ≤ x_1.2 + (1 : Int) ∧ x_1.2 + (1 : Int) ≤ (↑x.2.length : Int) ∧ (0 : Int) ≤ x_1.1 + ((x.2.getD x_1.2.toNat ((0 : Int), (0 : Int), (0 : Int))).2.1 - (x.2.getD x_1.2.toNat ((0 : Int), (0 : Int), (0 : Int))).2.2) ∧ x_1.1 + ((x.2.getD x_1.2.toNat ((0 : Int), (0 : Int), (0 : Int))).2.1 - (x.2.getD x_1.2.toNat ((0 : Int), (0 : Int), (0 : Int))).2.2) ≤ (256 : Int) * (x_1.2 + (1 : Int)) ∧ x_1.1 + ((x.2.getD x_1.2.toNat ((0 : Int), (0 : Int), (0 : Int))).2.1 - (x.2.getD x_1.2.toNat ((0 : Int), (0 : Int), (0 : Int))).2.2) + wasteL (List.drop (x_1.2 + (1 : Int)).toNat x.2) = wasteL x.2) ∧ ((↑x.2.length : Int) - (x_1.2 + (1 : Int))).toNat < ((↑x.2.length : Int) - x_1.2).toNat) ∧ (decide (x_1.2 < (↑x.2.length : Int)) = false → x_1.1 = (wasteF x).1 ∧ (0 : Int) = (wasteF x).2 ∧ True))
theorem vcp_waste : pv_waste := by
  unfold pv_waste
  intro ⟨o, l⟩ ⟨_, hb, _⟩ _
  unfold big at hb
  simp only at hb ⊢
  have hF : wasteF (o, l) = if halvesF (o, l) ≠ 0 then (0, halvesF (o, l)) else (wasteL l, 0) := rfl
  rw [hF]
  refine ⟨trivial, fun h => ?_, fun h => ?_⟩
  · rw [if_pos (of_decide_eq_true h)]
    exact ⟨rfl, rfl, trivial⟩
  have h := of_decide_eq_false h
  rw [if_neg h]
  obtain ⟨_, _, _, _, k5⟩ := halves_ok (h := (o, l)) (by omega)
  simp only at k5
  refine ⟨⟨by omega, by omega, by omega, by omega, by simp⟩, fun ⟨n, i⟩ ⟨i0, i1, i2, i3, i4⟩ => ⟨fun hlt => ?_, fun hge => ?_⟩⟩
  · simp only at i0 i1 i2 i3 i4 hlt ⊢
    have hlt := of_decide_eq_true hlt
    have hr := k5 _ (getD_mem ((0, 0, 0) : Room) i0 hlt)
    rw [drop_cons ((0, 0, 0) : Room) i0 hlt] at i4
    simp only [wasteL, List.map_cons, List.sum_cons] at i4 ⊢
    generalize l.getD i.toNat (0, 0, 0) = r at *
    simp only [InR]
    exact ⟨i0, hlt, by omega, by omega, by omega, ⟨by omega, by omega, by omega, by omega, by omega⟩, by omega⟩
  · simp only at i4 hge ⊢
    rw [drop_end (of_decide_eq_false hge)] at i4
    simp only [wasteL, List.map_nil, List.sum_nil, Int.add_zero] at i4 ⊢
    exact ⟨i4, by first | trivial | rfl, trivial⟩
theorem ok_waste : sp_waste.ok Try.prog 20 := fn_ok (ann := an_waste) (tbl_cons ok_twinCheck tbl_nil) Try.func20 (by kernel_rfl) vcp_waste
def sp_cloneRooms : Spec := { Ts := [.arr ty_Room], Rs := [.own 52 ty_Room], pre := fun _ => True, F := fun (x : List Room) => x }
def pv_cloneRooms : Prop :=
    ∀ (x : List (Int × Int × Int)), (x.length * (8 + (8 + 8)) ≤ big ∧ ∀ (x_1 : Int × Int × Int), x_1 ∈ x → InR IntKind.i64 x_1.1 ∧ InR IntKind.i64 x_1.2.1 ∧ InR IntKind.i64 x_1.2.2) → True → (x = ([] : List (Int × Int × Int)) → ([] : List (Int × Int × Int)) = x ∧ True) ∧ (True → (0 + x.length) * (8 + (8 + 8)) ≤ big ∧ ([] : List (Int × Int × Int)) ++ x = x ∧ True)
theorem vcp_cloneRooms : pv_cloneRooms := by
  unfold pv_cloneRooms
  intro x ⟨hb, _⟩ _
  simp [hb]
theorem ok_cloneRooms : sp_cloneRooms.ok Try.prog 76 := fn_ok (ann := an_0) tbl_nil Try.func76 (by kernel_rfl) vcp_cloneRooms
def sp_giveC : Spec := { Ts := [ty_Room, .ref ty_I], Rs := [.dat .bool], pre := fun _ => True, F := fun ((r, a) : Room × Int) => decide (r.1 = a) }
def pv_giveC : Prop :=
    ∀ (x : (Int × Int × Int) × Int), (InR IntKind.i64 x.1.1 ∧ InR IntKind.i64 x.1.2.1 ∧ InR IntKind.i64 x.1.2.2) ∧ InR IntKind.i64 x.2 → True → decide (x.1.1 = x.2) = decide (x.1.1 = x.2) ∧ True
theorem vcp_giveC : pv_giveC := by
  unfold pv_giveC
  intro ⟨r, a⟩ _ _
  exact ⟨by first | trivial | rfl, trivial⟩
theorem ok_giveC : sp_giveC.ok Try.prog 78 := fn_ok (ann := an_0) tbl_nil Try.func78 (by kernel_rfl) vcp_giveC
def roomAt (l : List Room) (a : Int) : Int := findFrom (fun r : Room => decide (r.1 = a)) 0 l
def giveTF (h : HalvesD) (a : Int) : HalvesD × Int := if halvesF h ≠ 0 then ((0, []), halvesF h) else if roomAt h.2 a < 0 then ((0, []), 5) else ((h.1, cutG h.2 (roomAt h.2 a) (roomAt h.2 a + 1)), 0)
def sp_giveT : Spec := { Ts := [ty_Halves, ty_I], Rs := [.dat ty_Halves, .dat ty_I], al := true, pre := fun _ => True, F := fun ((h, a) : HalvesD × Int) => giveTF h a }
def pv_giveT : Prop :=
    ∀ (x : (Int × List (Int × Int × Int)) × Int), (InR IntKind.i64 x.1.1 ∧ x.1.2.length * (8 + (8 + 8)) ≤ big ∧ ∀ (x_1 : Int × Int × Int), x_1 ∈ x.1.2 → InR IntKind.i64 x_1.1 ∧ InR IntKind.i64 x_1.2.1 ∧ InR IntKind.i64 x_1.2.2) ∧ InR IntKind.i64 x.2 → True → True ∧ (decide (halvesF x.1 ≠ 0) = true → (0, ([] : List (Int × Int × Int))) = (giveTF x.1 x.2).1 ∧ halvesF x.1 = (giveTF x.1 x.2).2 ∧ True) ∧ (decide (halvesF x.1 ≠ 0) = false → (∀ (s : Room), s ∈ x.1.2 → (fun (_ : Int × Int × Int) => True, fun (x_1 : Int × Int × Int) => decide (x_1.1 = x.2)).1 s) ∧ (decide (findFrom (fun (x_1 : Int × Int × Int) => decide (x_1.1 = x.2)) 0 x.1.2 < 0) = true → (0, ([] : List (Int × Int × Int))) = (giveTF x.1 x.2).1 ∧ 5 = (giveTF x.1 x.2).2 ∧ True) ∧ (decide (findFrom (fun (x_1 : Int × Int × Int) => decide (x_1.1 = x.2)) 0 x.1.2 < 0) = false → True ∧ InR IntKind.i64 (findFrom (fun (x_1 : Int × Int × Int) => decide (x_1.1 = x.2)) 0 x.1.2 + 1) ∧ (0 ≤ findFrom (fun (x_1 : Int × Int × Int) => decide (x_1.1 = x.2)) 0 x.1.2 ∧ findFrom (fun (x_1 : Int × Int × Int) => decide (x_1.1 = x.2)) 0 x.1.2 < findFrom (fun (x_1 : Int × Int × Int) => decide (x_1.1 = x.2)) 0 x.1.2 + 1 ∧ findFrom (fun (x_1 : Int × Int × Int) => decide (x_1.1 = x.2)) 0 x.1.2 + 1 ≤ (↑x.1.2.length : Int)) ∧ (x.1.1, cutG x.1.2 (findFrom (fun (x_1 : Int × Int × Int) => decide (x_1.1 = x.2)) 0 x.1.2) (findFrom (fun (x_1 : Int × Int × Int) => decide (x_1.1 = x.2)) 0 x.1.2 + 1)) = (giveTF x.1 x.2).1 ∧ 0 = (giveTF x.1 x.2).2 ∧ True))
theorem vcp_giveT : pv_giveT := by
  unfold pv_giveT
  intro ⟨⟨o, l⟩, a⟩ ⟨⟨_, hb, _⟩, _⟩ _
  unfold big at hb
  simp only at hb ⊢
  have hF : giveTF (o, l) a = if halvesF (o, l) ≠ 0 then ((0, []), halvesF (o, l)) else if roomAt l a < 0 then ((0, []), 5) else ((o, cutG l (roomAt l a) (roomAt l a + 1)), 0) := rfl
  have hR : roomAt l a = findFrom (fun x : Room => decide (x.1 = a)) 0 l := rfl
  rw [hF, ← hR]
  have hr := findFrom_range (fun x : Room => decide (x.1 = a)) l 0
  rw [← hR] at hr
  refine ⟨trivial, fun h => ?_, fun h => ⟨fun s _ => trivial, fun h1 => ?_, fun h1 => ?_⟩⟩
  · rw [if_pos (of_decide_eq_true h)]
    exact ⟨rfl, rfl, trivial⟩
  · rw [if_neg (of_decide_eq_false h), if_pos (of_decide_eq_true h1)]
    exact ⟨rfl, rfl, trivial⟩
  · rw [if_neg (of_decide_eq_false h), if_neg (of_decide_eq_false h1)]
    have h1 := of_decide_eq_false h1
    simp only [InR]
    exact ⟨trivial, by omega, ⟨by omega, by omega, by omega⟩, by first | trivial | rfl, by first | trivial | rfl, trivial⟩
theorem ok_giveT : sp_giveT.ok Try.prog 18 := fn_ok (ann := an_0) (tbl_cons ok_twinCheck (tbl_cons ok_giveC (tbl_cons ok_idxRoom (tbl_cons ok_cloneRooms (tbl_row ok_delRoom tbl_nil))))) Try.func18 (by kernel_rfl) vcp_giveT
end Go.Proofs.Ytcnoiiohmpgckaa
