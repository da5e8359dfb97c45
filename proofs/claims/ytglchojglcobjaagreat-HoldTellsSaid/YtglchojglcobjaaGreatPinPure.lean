
import Derived.Test.YtglchojglcobjaaGreatSearch
namespace Go.Proofs.YtglchojglcobjaaGreat
open Go
abbrev ty_Pin : Ty := .pair ty_I ty_I
abbrev Pin := Int × Int
def badPin (x : Pin) : Bool := decide (x.1 < 0) || decide (255 < x.1) || decide (x.2 < 1) || decide (1000000 < x.2)
def pinScan : Int → List Pin → Int
 | _, [] => 0
 | q, x :: l => if badPin x = true then 4 else if x.1 ≤ q then 3 else pinScan x.1 l
def pinsF (p : List Pin) : Int := if 16 < p.length then 2 else pinScan (-1) p
def ahead (p : List Pin) (i : Int) : Int := if 0 < i then (p.getD (i - 1).toNat (0, 0)).1 else -1
theorem pinScan_ok : ∀ {p : List Pin} {q : Int}, pinScan q p = 0 → p.Pairwise (fun x y => x.1 < y.1) ∧ (∀ x ∈ p, q < x.1 ∧ 0 ≤ x.1 ∧ x.1 ≤ 255 ∧ 1 ≤ x.2 ∧ x.2 ≤ 1000000)
 | [], _, _ => ⟨List.Pairwise.nil, fun _ h => by cases h⟩
 | x :: l, q, h => by
  unfold pinScan at h
  split at h
  ·omega
  ·rename_i hb
   split at h
   ·omega
   ·rename_i hq
    obtain ⟨h1, h2⟩ := pinScan_ok h
    have hb : badPin x = false := by simpa using hb
    simp only [badPin, Bool.or_eq_false_iff, decide_eq_false_iff_not] at hb
    refine ⟨List.pairwise_cons.2 ⟨fun y hy => (h2 y hy).1, h1⟩, fun y hy => ?_⟩
    rcases List.mem_cons.1 hy with rfl | hy
    ·omega
    ·have := h2 y hy; omega
theorem pins_ok {p : List Pin} (h : pinsF p = 0) : p.length ≤ 16 ∧ p.Pairwise (fun x y => x.1 < y.1) ∧ ∀ x ∈ p, 0 ≤ x.1 ∧ x.1 ≤ 255 ∧ 1 ≤ x.2 ∧ x.2 ≤ 1000000 := by
 unfold pinsF at h
 split at h
 ·omega
 ·obtain ⟨h1, h2⟩ := pinScan_ok h
  exact ⟨by omega, h1, fun x hx => (h2 x hx).2⟩
end Go.Proofs.YtglchojglcobjaaGreat
