
import Derived.Test.YtcnoiiohmpgckaaSearch
import Derived.Test.YtcnoiiohmpgckaaRowInsI
import Derived.Test.YtcnoiiohmpgckaaRising
import Derived.Test.YtcnoiiohmpgckaaInts
namespace Go.Proofs.Ytcnoiiohmpgckaa
open Go
def putL (l : List Int) (x : Int) : List Int := if inL l x = true then l else insL l [x] (lowI l x)
theorem low_split (x : Int) : ∀ (n : List Int), n.Pairwise (· < ·) → (∀ y ∈ n.take (n.filter fun y => decide (y < x)).length, y < x) ∧ ∀ y ∈ n.drop (n.filter fun y => decide (y < x)).length, x ≤ y
  | [], _ => ⟨fun y hy => by simp at hy, fun y hy => by simp at hy⟩
  | z :: l, h => by
    obtain ⟨h1, h2⟩ := List.pairwise_cons.1 h
    by_cases hz : z < x
    · rw [List.filter_cons_of_pos (by simpa using hz)]
      obtain ⟨k1, k2⟩ := low_split x l h2
      refine ⟨fun y hy => ?_, fun y hy => k2 y (by simpa using hy)⟩
      rcases List.mem_cons.1 (by simpa using hy) with e | hy
      · rw [e]; exact hz
      · exact k1 y hy
    · have e : l.filter (fun y => decide (y < x)) = [] := by
        rw [List.filter_eq_nil_iff]
        intro y hy
        have := h1 y hy
        simp; omega
      rw [List.filter_cons_of_neg (by simpa using hz), e]
      refine ⟨fun y hy => by simp at hy, fun y hy => ?_⟩
      rcases List.mem_cons.1 (by simpa using hy) with e | hy
      · omega
      · have := h1 y hy
        omega
theorem put_rising {n : List Int} {x : Int} (hn : n.Pairwise (· < ·)) (hr : ∀ y ∈ n, 0 ≤ y ∧ y ≤ 255) (hx : 0 ≤ x ∧ x ≤ 255) : risingL (n ++ [x]) 256 = putL n x := by
  unfold putL
  by_cases hi : inL n x = true
  · rw [if_pos hi]
    refine rise_uniq (rising_rise _ _) hn (fun y => ?_)
    rw [rising_mem]
    constructor
    · rintro ⟨_, _, hy⟩
      rcases List.mem_append.1 hy with hy | hy
      · exact hy
      · rw [List.mem_singleton.1 hy]; exact inL_iff.1 hi
    · intro hy
      have := hr y hy
      exact ⟨by omega, by omega, by simp [hy]⟩
  · rw [if_neg hi]
    obtain ⟨k1, k2⟩ := low_split x n hn
    have hnx : ¬ x ∈ n := fun h => hi (inL_iff.2 h)
    have e : insL n [x] (lowI n x) = n.take (n.filter fun y => decide (y < x)).length ++ [x] ++ n.drop (n.filter fun y => decide (y < x)).length := by simp [insL, lowI]
    rw [e]
    generalize (n.filter fun y => decide (y < x)).length = k at *
    have hpw : (n.take k ++ [x] ++ n.drop k).Pairwise (· < ·) := by
      rw [List.pairwise_append, List.pairwise_append]
      have hn2 := hn
      rw [← List.take_append_drop k n, List.pairwise_append] at hn2
      have hlt : ∀ y ∈ n.drop k, x < y := fun y hy => by
        have h1 := k2 y hy
        have h2 : y ≠ x := fun e => hnx (e ▸ List.mem_of_mem_drop hy)
        omega
      refine ⟨⟨hn2.1, List.pairwise_singleton _ _, fun y hy z hz => by rw [List.mem_singleton.1 hz]; exact k1 y hy⟩, hn2.2.1, fun y hy z hz => ?_⟩
      rcases List.mem_append.1 hy with hy | hy
      · exact hn2.2.2 y hy z hz
      · rw [List.mem_singleton.1 hy]; exact hlt z hz
    refine rise_uniq (rising_rise _ _) hpw (fun y => ?_)
    rw [rising_mem]
    have hm : y ∈ n.take k ++ [x] ++ n.drop k ↔ y ∈ n ∨ y = x := by
      have : y ∈ n ↔ y ∈ n.take k ∨ y ∈ n.drop k := by rw [← List.mem_append, List.take_append_drop]
      rw [this, List.mem_append, List.mem_append, List.mem_singleton]
      constructor
      · rintro ((h | h) | h)
        · exact .inl (.inl h)
        · exact .inr h
        · exact .inl (.inr h)
      · rintro ((h | h) | h)
        · exact .inl (.inl h)
        · exact .inr h
        · exact .inl (.inr h)
    rw [hm, List.mem_append, List.mem_singleton]
    constructor
    · rintro ⟨_, _, h⟩; exact h
    · intro h
      rcases h with h | h
      · have := hr y h; exact ⟨by omega, by omega, .inl h⟩
      · exact ⟨by omega, by omega, .inr h⟩
end Go.Proofs.Ytcnoiiohmpgckaa
