
import Derived.Test.YtcnoiiohmpgckaaBase
namespace Go.Proofs.Ytcnoiiohmpgckaa
open Go
def findFrom {α : Type} (f : α → Bool) : Int → List α → Int
  | _, [] => -1
  | k, x :: l => if f x then k else findFrom f (k + 1) l
theorem findFrom_range {α : Type} (f : α → Bool) : ∀ (l : List α) (k : Int), findFrom f k l = -1 ∨ (k ≤ findFrom f k l ∧ findFrom f k l < k + l.length)
  | [], _ => .inl rfl
  | x :: l, k => by
    have ih := findFrom_range f l (k + 1)
    simp only [findFrom, List.length_cons]
    split
    · right; omega
    · rcases ih with h | h
      · exact .inl h
      · right; omega
theorem findFrom_any {α : Type} (f : α → Bool) : ∀ (l : List α) (k : Int), 0 ≤ k → (decide (0 ≤ findFrom f k l) = l.any f)
  | [], _, _ => rfl
  | x :: l, k, h => by
    have ih := findFrom_any f l (k + 1) (by omega)
    simp only [findFrom, List.any_cons]
    by_cases hx : f x = true
    · simp [hx, h]
    · have hx : f x = false := by simpa using hx
      simp only [hx, Bool.false_eq_true, if_false, Bool.false_or]
      exact ih
end Go.Proofs.Ytcnoiiohmpgckaa
