
import Derived.Test.YtcnoiiohmpgckaaInts
import Derived.Test.YtcnoiiohmpgckaaRowSort
namespace Go.Proofs.Ytcnoiiohmpgckaa
open Go
set_option maxRecDepth 100000
set_option maxHeartbeats 1000000
def within (v n : Int) : Bool := decide (-1 ≤ v) && decide (v < n)
def sp_cloneInts : Spec := { Ts := [.arr ty_I], Rs := [.own 3 ty_I], pre := fun _ => True, F := fun (x : List Int) => x }
def pv_cloneInts : Prop :=
    ∀ (x : List Int), (x.length * 8 ≤ big ∧ ∀ (x_1 : Int), x_1 ∈ x → InR IntKind.i64 x_1) → True → (x = ([] : List Int) → ([] : List Int) = x ∧ True) ∧ (True → (0 + x.length) * 8 ≤ big ∧ ([] : List Int) ++ x = x ∧ True)
theorem vcp_cloneInts : pv_cloneInts := by
  unfold pv_cloneInts
  intro x ⟨hb, _⟩ _
  simp [hb]
theorem ok_cloneInts : sp_cloneInts.ok Try.prog 68 := fn_ok (ann := an_0) tbl_nil Try.func68 (by kernel_rfl) vcp_cloneInts
def risingL (l : List Int) (m : Nat) : List Int := ((List.range m).map Int.ofNat).filter (inL l)
def an_rRising : Nat → Option LoopGen
  | 3 => some { rd := [.dat 0 (.arr ty_I)], A := fun (l : List Int) => { cs := [.own 3 3 ty_I, .dat 5 ty_I], inv := fun ((out, i) : List Int × Int) => 0 ≤ i ∧ i ≤ 256 ∧ out = risingL l i.toNat, mu := fun ((_, i) : List Int × Int) => (256 - i).toNat } }
  | _ => none
def sp_rRising : Spec := { Ts := [.arr ty_I], Rs := [.own 3 ty_I], pre := fun _ => True, F := fun (l : List Int) => risingL l 256 }
def pv_rRising : Prop :=
    ∀ (x : List Int), (x.length * 8 ≤ big ∧ ∀ (x_1 : Int), x_1 ∈ x → InR IntKind.i64 x_1) → True → ((0 : Int) ≤ 0 ∧ (0 : Int) ≤ 256 ∧ ([] : List Int) = risingL x (Int.toNat 0)) ∧ ∀ (x_1 : List Int × Int), 0 ≤ x_1.2 ∧ x_1.2 ≤ 256 ∧ x_1.1 = risingL x x_1.2.toNat → (decide (x_1.2 < 256) = true → True ∧ (inL x x_1.2 = true → (x_1.1.length + [x_1.2].length) * 8 ≤ big ∧ InR IntKind.i64 (x_1.2 + 1) ∧ (0 ≤ x_1.2 + 1 ∧ x_1.2 + 1 ≤ 256 ∧ x_1.1 ++ [x_1.2] = risingL x (x_1.2 + 1).toNat) ∧ (256 - (x_1.2 + 1)).toNat < (256 - x_1.2).toNat) ∧ (inL x x_1.2 = false → InR IntKind.i64 (x_1.2 + 1) ∧ (0 ≤ x_1.2 + 1 ∧ x_1.2 + 1 ≤ 256 ∧ x_1.1 = risingL x (x_1.2 + 1).toNat) ∧ (256 - (x_1.2 + 1)).toNat < (256 - x_1.2).toNat)) ∧ (decide (x_1.2 < 256) = false → x_1.1 = risingL x 256 ∧ True)
theorem vcp_rRising : pv_rRising := by
  unfold pv_rRising
  intro l _ _
  refine ⟨⟨by omega, by omega, rfl⟩, fun ⟨out, i⟩ ⟨k0, k1, k2⟩ => ?_⟩
  simp only at k0 k1 k2 ⊢
  have hs : risingL l (i + 1).toNat = if inL l i = true then out ++ [i] else out := by
    rw [k2, show (i + 1).toNat = i.toNat + 1 by omega]
    simp only [risingL, List.range_succ, List.map_append, List.map_cons, List.map_nil, List.filter_append]
    rw [show Int.ofNat i.toNat = i from Int.toNat_of_nonneg k0]
    cases hc : inL l i <;> simp [hc]
  have hl : out.length ≤ i.toNat := by
    rw [k2, risingL]
    refine Nat.le_trans (List.length_filter_le _ _) ?_
    simp
  refine ⟨fun hlt => ⟨trivial, fun hc => ?_, fun hc => ?_⟩, fun hge => ?_⟩
  · have hlt := of_decide_eq_true hlt
    rw [hc] at hs
    refine ⟨by simp only [List.length_singleton, big]; omega, by simp only [InR]; omega, ⟨by omega, by omega, ?_⟩, by omega⟩
    rw [hs]; rfl
  · have hlt := of_decide_eq_true hlt
    rw [hc] at hs
    refine ⟨by simp only [InR]; omega, ⟨by omega, by omega, ?_⟩, by omega⟩
    rw [hs]; rfl
  · have hge := of_decide_eq_false hge
    rw [k2, show i.toNat = 256 by omega]
    exact ⟨rfl, trivial⟩
theorem ok_rRising : sp_rRising.ok Try.prog 48 := fn_ok (ann := an_rRising) (tbl_cons ok_rIn tbl_nil) Try.func48 (by kernel_rfl) vcp_rRising
