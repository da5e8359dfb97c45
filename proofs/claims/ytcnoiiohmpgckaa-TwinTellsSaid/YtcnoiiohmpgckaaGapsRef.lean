
import Derived.Test.YtcnoiiohmpgckaaGaps
import Derived.Test.YtcnoiiohmpgckaaRObjects
namespace Go.Proofs.Ytcnoiiohmpgckaa
open Go
set_option maxRecDepth 100000
set_option maxHeartbeats 1000000
def sp_rSameRuns : Spec := { Ts := [.arr ty_Gap, .arr ty_Gap], Rs := [.dat .bool], pre := fun _ => True, F := fun (x : List Gap × List Gap) => decide (x.1 = x.2) }
def an_rSameRuns : Nat → Option LoopGen
  | 4 => some { rd := [.dat 11 (.arr ty_Gap), .dat 1 (.arr ty_Gap)], A := fun (g : List Gap × List Gap) => { cs := [.dat 13 ty_I], inv := fun (i : Int) => g.1.length = g.2.length ∧ 0 ≤ i ∧ i ≤ g.1.length ∧ g.1.take i.toNat = g.2.take i.toNat, mu := fun (i : Int) => (g.1.length - i).toNat } }
  | _ => none
theorem gap_ne (a b : Gap) : (!(decide (a.1 = b.1) && decide (a.2 = b.2))) = decide (a ≠ b) := by
  obtain ⟨a1, a2⟩ := a
  obtain ⟨b1, b2⟩ := b
  apply Bool.eq_iff_iff.2
  simp only [Bool.not_eq_true', Bool.and_eq_false_iff, decide_eq_true_eq, decide_eq_false_iff_not, ne_eq, Prod.mk.injEq]
  grind
def pv_rSameRuns : Prop :=
    ∀ (x : List (Int × Int) × List (Int × Int)), ((x.1.length * (8 + 8) ≤ big ∧ ∀ (x_1 : Int × Int), x_1 ∈ x.1 → InR IntKind.i64 x_1.1 ∧ InR IntKind.i64 x_1.2) ∧ x.2.length * (8 + 8) ≤ big ∧ ∀ (x_1 : Int × Int), x_1 ∈ x.2 → InR IntKind.i64 x_1.1 ∧ InR IntKind.i64 x_1.2) → True → (decide ((↑x.1.length : Int) ≠ (↑x.2.length : Int)) = true → false = decide (x.1 = x.2) ∧ True) ∧ (decide ((↑x.1.length : Int) ≠ (↑x.2.length : Int)) = false → (x.1.length = x.2.length ∧ (0 : Int) ≤ 0 ∧ 0 ≤ (↑x.1.length : Int) ∧ List.take (Int.toNat 0) x.1 = List.take (Int.toNat 0) x.2) ∧ ∀ (x_1 : Int), x.1.length = x.2.length ∧ 0 ≤ x_1 ∧ x_1 ≤ (↑x.1.length : Int) ∧ List.take x_1.toNat x.1 = List.take x_1.toNat x.2 → (decide (x_1 < (↑x.1.length : Int)) = true → 0 ≤ x_1 ∧ x_1 < (↑x.1.length : Int) ∧ 0 ≤ x_1 ∧ x_1 < (↑x.2.length : Int) ∧ ((!(decide ((x.1.getD x_1.toNat (0, 0)).1 = (x.2.getD x_1.toNat (0, 0)).1) && decide ((x.1.getD x_1.toNat (0, 0)).2 = (x.2.getD x_1.toNat (0, 0)).2))) = true → false = decide (x.1 = x.2) ∧ True) ∧ ((!(decide ((x.1.getD x_1.toNat (0, 0)).1 = (x.2.getD x_1.toNat (0, 0)).1) && decide ((x.1.getD x_1.toNat (0, 0)).2 = (x.2.getD x_1.toNat (0, 0)).2))) = false → InR IntKind.i64 (x_1 + 1) ∧ (x.1.length = x.2.length ∧ 0 ≤ x_1 + 1 ∧ x_1 + 1 ≤ (↑x.1.length : Int) ∧ List.take (x_1 + 1).toNat x.1 = List.take (x_1 + 1).toNat x.2) ∧ ((↑x.1.length : Int) - (x_1 + 1)).toNat < ((↑x.1.length : Int) - x_1).toNat)) ∧ (decide (x_1 < (↑x.1.length : Int)) = false → true = decide (x.1 = x.2) ∧ True))
theorem vcp_rSameRuns : pv_rSameRuns := by
  unfold pv_rSameRuns
  intro x hw _
  refine ⟨fun h => ?_, fun h => ?_⟩
  · have h : x.1.length ≠ x.2.length := by have := of_decide_eq_true h; omega
    have : x.1 ≠ x.2 := fun e => h (by rw [e])
    simp [this]
  have hl : x.1.length = x.2.length := by have := of_decide_eq_false h; omega
  refine ⟨⟨hl, by omega, by omega, by simp⟩, fun i ⟨_, h0, h1, ht⟩ => ⟨fun hlt => ?_, fun hge => ?_⟩⟩
  · have hlt : i < x.1.length := by simpa using hlt
    rw [gap_ne]
    refine ⟨h0, hlt, h0, by omega, fun hne => ?_, fun he => ?_⟩
    · have hne : x.1.getD i.toNat (0, 0) ≠ x.2.getD i.toNat (0, 0) := by simpa using hne
      have : x.1 ≠ x.2 := fun e => hne (by rw [e])
      simp [this]
    · have he : x.1.getD i.toNat (0, 0) = x.2.getD i.toNat (0, 0) := by simpa using he
      have hb := hw.1.1
      unfold big at hb
      refine ⟨by simp only [InR]; omega, ⟨hl, by omega, by omega, ?_⟩, by omega⟩
      rw [show (i + 1).toNat = i.toNat + 1 by omega]
      exact take_step hl (by omega) ht he
  · have hge : ¬ i < x.1.length := by simpa using hge
    have hi : i.toNat = x.1.length := by omega
    rw [hi, List.take_of_length_le (Nat.le_refl _), List.take_of_length_le (by omega)] at ht
    simp [ht]
theorem ok_rSameRuns : sp_rSameRuns.ok Try.prog 25 := fn_ok (ann := an_rSameRuns) tbl_nil Try.func25 (by kernel_rfl) vcp_rSameRuns
end Go.Proofs.Ytcnoiiohmpgckaa
