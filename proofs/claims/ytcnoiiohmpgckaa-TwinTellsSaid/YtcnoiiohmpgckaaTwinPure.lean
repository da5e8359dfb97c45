
import Derived.Test.YtcnoiiohmpgckaaBase
namespace Go.Proofs.Ytcnoiiohmpgckaa
open Go
abbrev ty_Room : Ty := .pair ty_I (.pair ty_I ty_I)
abbrev Room := Int × Int × Int
abbrev TGap := Int × Int
def meetsR (at_ long : Int) (r : Room) : Bool := decide (r.1 < at_ + long) && decide (at_ < r.1 + r.2.1)
def openR (t : List Room) (at_ long : Int) : Bool := !t.any (meetsR at_ long)
theorem openR_sub {t : List Room} {a l b m : Int} (h : openR t a l = true) (h1 : a ≤ b) (h2 : b + m ≤ a + l) : openR t b m = true := by
  unfold openR at h ⊢
  simp only [Bool.not_eq_true', List.any_eq_false] at h ⊢
  intro r hr
  have := h r hr
  simp only [meetsR, Bool.and_eq_true, decide_eq_true_eq, not_and] at this ⊢
  intro h3
  have := this (by omega)
  omega
def gapsT (t : List Room) : Nat → Nat → List TGap
  | 0, b => if openR t b 1 = true then [((b : Int), 1)] else []
  | k + 1, b => if openR t b ((2 ^ (k + 1) : Nat) : Int) = true then [((b : Int), ((2 ^ (k + 1) : Nat) : Int))] else gapsT t k b ++ gapsT t k (b + 2 ^ k)
def condT (t : List Room) (n at_ j : Nat) : Bool :=
  decide (at_ % 2 ^ j = 0) && openR t at_ ((2 ^ j : Nat) : Int) && (decide (j = n) || !openR t ((at_ / 2 ^ (j + 1) * 2 ^ (j + 1) : Nat) : Int) ((2 ^ (j + 1) : Nat) : Int))
def oneT (t : List Room) (n at_ j : Nat) : List TGap := if condT t n at_ j = true then [((at_ : Int), ((2 ^ j : Nat) : Int))] else []
def atT (t : List Room) (n at_ : Nat) : List TGap := (List.range (n + 1)).flatMap (oneT t n at_)
def partT (t : List Room) (k b : Nat) : List TGap := (List.range (2 ^ k)).flatMap fun i => atT t k (b + i)
theorem flatMap_nil {α β : Type} {f : α → List β} : ∀ {l : List α}, (∀ x ∈ l, f x = []) → l.flatMap f = []
  | [], _ => rfl
  | x :: l, h => by rw [List.flatMap_cons, h x (by simp), flatMap_nil (fun y hy => h y (by simp [hy]))]; rfl
theorem flatMap_same {α β : Type} {f g : α → List β} : ∀ {l : List α}, (∀ x ∈ l, f x = g x) → l.flatMap f = l.flatMap g
  | [], _ => rfl
  | x :: l, h => by rw [List.flatMap_cons, List.flatMap_cons, h x (by simp), flatMap_same (fun y hy => h y (by simp [hy]))]
theorem twice_in {b i j k : Nat} (hb : b % 2 ^ k = 0) (hi : i < 2 ^ k) (hj : j < k) : b ≤ (b + i) / 2 ^ (j + 1) * 2 ^ (j + 1) ∧ (b + i) / 2 ^ (j + 1) * 2 ^ (j + 1) + 2 ^ (j + 1) ≤ b + 2 ^ k := by
  obtain ⟨d, hd⟩ : ∃ d, k = j + 1 + d := ⟨k - (j + 1), by omega⟩
  have hk : 2 ^ k = 2 ^ (j + 1) * 2 ^ d := by rw [hd, Nat.pow_add]
  obtain ⟨q, hq⟩ : ∃ q, b = 2 ^ k * q := ⟨b / 2 ^ k, by have := Nat.div_add_mod b (2 ^ k); omega⟩
  have hp : 0 < 2 ^ (j + 1) := Nat.pow_pos (by omega)
  have e1 : b = 2 ^ (j + 1) * (2 ^ d * q) := by rw [hq, hk, Nat.mul_assoc]
  have e2 : (b + i) / 2 ^ (j + 1) = 2 ^ d * q + i / 2 ^ (j + 1) := by rw [e1, Nat.mul_add_div hp]
  have e3 : i / 2 ^ (j + 1) < 2 ^ d := by rw [Nat.div_lt_iff_lt_mul hp, Nat.mul_comm, ← hk]; exact hi
  rw [e2]
  generalize i / 2 ^ (j + 1) = x at *
  generalize 2 ^ d * q = y at *
  rw [e1, hk]
  generalize 2 ^ (j + 1) = z at *
  generalize 2 ^ d = u at *
  constructor
  · rw [Nat.mul_comm z y]
    exact Nat.mul_le_mul_right z (Nat.le_add_right _ _)
  · have h1 : (y + x) * z + z = (y + x + 1) * z := by rw [Nat.add_mul (y + x) 1 z, Nat.one_mul]
    have h2 : z * y + z * u = (y + u) * z := by rw [Nat.add_mul, Nat.mul_comm z y, Nat.mul_comm z u]
    rw [h1, h2]
    exact Nat.mul_le_mul_right z (by omega)
theorem mod_in {b i k : Nat} (hb : b % 2 ^ k = 0) (hi : i < 2 ^ k) (h : (b + i) % 2 ^ k = 0) : i = 0 := by
  rw [Nat.add_mod, hb, Nat.zero_add, Nat.mod_mod, Nat.mod_eq_of_lt hi] at h
  exact h
theorem part_open {t : List Room} {k b : Nat} (hb : b % 2 ^ k = 0) (h : openR t b ((2 ^ k : Nat) : Int) = true) : partT t k b = [((b : Int), ((2 ^ k : Nat) : Int))] := by
  have hp : 0 < 2 ^ k := Nat.pow_pos (by omega)
  have h1 : ∀ i, i < 2 ^ k → ∀ j, j < k → oneT t k (b + i) j = [] := fun i hi j hj => by
    obtain ⟨h2, h3⟩ := twice_in hb hi hj
    have h4 := openR_sub (b := (((b + i) / 2 ^ (j + 1) * 2 ^ (j + 1) : Nat) : Int)) (m := ((2 ^ (j + 1) : Nat) : Int)) h (by omega) (by omega)
    unfold oneT condT
    rw [h4, decide_eq_false (by omega : ¬ j = k)]
    simp
  have h2 : ∀ i, i < 2 ^ k → atT t k (b + i) = oneT t k (b + i) k := fun i hi => by
    unfold atT
    rw [List.range_succ, List.flatMap_append, flatMap_nil (fun j hj => h1 i hi j (List.mem_range.1 hj))]
    simp
  have h3 : oneT t k b k = [((b : Int), ((2 ^ k : Nat) : Int))] := by
    unfold oneT condT
    rw [h, decide_eq_true hb, decide_eq_true rfl]
    simp
  have h4 : ∀ i, 0 < i → i < 2 ^ k → atT t k (b + i) = [] := fun i h0 hi => by
    rw [h2 i hi]
    unfold oneT condT
    rw [decide_eq_false (fun h5 => by have := mod_in hb hi h5; omega)]
    simp
  unfold partT
  obtain ⟨m, hm⟩ : ∃ m, 2 ^ k = m + 1 := ⟨2 ^ k - 1, by omega⟩
  rw [hm, List.range_succ_eq_map, List.flatMap_cons, ← hm, Nat.add_zero]
  have := h2 0 hp
  rw [Nat.add_zero] at this
  rw [this, h3, flatMap_nil (fun i hi => ?_)]
  · rfl
  · obtain ⟨j, hj, rfl⟩ := List.mem_map.1 hi
    have := List.mem_range.1 hj
    exact h4 (j + 1) (by omega) (by omega)
theorem part_gaps (t : List Room) : ∀ (k b : Nat), b % 2 ^ k = 0 → partT t k b = gapsT t k b
  | 0, b, hb => by
    by_cases h : openR t b ((2 ^ 0 : Nat) : Int) = true
    · rw [part_open hb h]
      unfold gapsT
      rw [if_pos (show openR t b 1 = true from h)]
      rfl
    · unfold gapsT
      rw [if_neg (show ¬ openR t b 1 = true from h)]
      have h : openR t b ((2 ^ 0 : Nat) : Int) = false := by simpa using h
      unfold partT
      refine flatMap_nil fun i hi => flatMap_nil fun j hj => ?_
      have hi0 : i = 0 := by have := List.mem_range.1 hi; omega
      have hj0 : j = 0 := by have := List.mem_range.1 hj; omega
      subst hi0 hj0
      unfold oneT condT
      rw [Nat.add_zero, h]
      simp
  | k + 1, b, hb => by
    by_cases h : openR t b ((2 ^ (k + 1) : Nat) : Int) = true
    · rw [part_open hb h]
      unfold gapsT
      rw [if_pos h]
    · unfold gapsT
      rw [if_neg h]
      have h : openR t b ((2 ^ (k + 1) : Nat) : Int) = false := by simpa using h
      have e2 : 2 ^ (k + 1) = 2 ^ k + 2 ^ k := by rw [Nat.pow_succ]; omega
      have hbk : b % 2 ^ k = 0 := by
        have : 2 ^ k ∣ b := Nat.dvd_trans ⟨2, by rw [e2]; omega⟩ (Nat.dvd_of_mod_eq_zero hb)
        exact Nat.mod_eq_zero_of_dvd this
      have hbk2 : (b + 2 ^ k) % 2 ^ k = 0 := by rw [Nat.add_mod_right]; exact hbk
      rw [← part_gaps t k b hbk, ← part_gaps t k (b + 2 ^ k) hbk2]
      have key : ∀ i, i < 2 ^ (k + 1) → atT t (k + 1) (b + i) = atT t k (b + i) := fun i hi => by
        unfold atT
        rw [List.range_succ, List.flatMap_append]
        have h1 : oneT t (k + 1) (b + i) (k + 1) = [] := by
          unfold oneT condT
          by_cases hm : (b + i) % 2 ^ (k + 1) = 0
          · have := mod_in hb hi hm
            subst this
            rw [Nat.add_zero, h]
            simp
          · rw [decide_eq_false hm]
            simp
        have h2 : [k + 1].flatMap (oneT t (k + 1) (b + i)) = [] := by simp [h1]
        rw [h2, List.append_nil]
        refine flatMap_same fun j hj => ?_
        have hj := List.mem_range.1 hj
        unfold oneT condT
        by_cases hjk : j = k
        · subst hjk
          have h3 : (b + i) / 2 ^ (j + 1) * 2 ^ (j + 1) = b := by
            have hp : 0 < 2 ^ (j + 1) := Nat.pow_pos (by omega)
            obtain ⟨q, hq⟩ : ∃ q, b = 2 ^ (j + 1) * q := ⟨b / 2 ^ (j + 1), by have := Nat.div_add_mod b (2 ^ (j + 1)); omega⟩
            rw [hq, Nat.mul_add_div hp, Nat.div_eq_of_lt hi, Nat.add_zero, Nat.mul_comm]
          rw [h3, h]
          simp
        · rw [decide_eq_false hjk, decide_eq_false (by omega : ¬ j = k + 1)]
      unfold partT
      rw [e2, List.range_add, List.flatMap_append, flatMap_same (fun i hi => key i (by have := List.mem_range.1 hi; omega))]
      congr 1
      rw [List.flatMap_map]
      refine flatMap_same fun i hi => ?_
      have := List.mem_range.1 hi
      rw [key (2 ^ k + i) (by omega), Nat.add_assoc]
end Go.Proofs.Ytcnoiiohmpgckaa
