
import Derived.Test.YtglchojglcobjaaGreatForms
import Derived.Test.YtglchojglcobjaaGreatPlan
import Derived.Test.YtglchojglcobjaaGreatLays
namespace Go.Proofs.YtglchojglcobjaaGreat
open Go
def lgA (a : List Int) (x : Int) : Int := lgOf (spotsF a).1 x
def endA (a : List Int) : List Int → Int
 | [] => 0
 | x :: l => lgA a x + endA a l
theorem lgA_ok (a : List Int) (x : Int) : 1 ≤ lgA a x ∧ lgA a x ≤ 256 := lg_ok a x
theorem endA_append (a : List Int) : ∀ (l k : List Int), endA a (l ++ k) = endA a l + endA a k
 | [], k => by simp [endA]
 | x :: l, k => by
  have := endA_append a l k
  simp only [List.cons_append, endA]
  omega
theorem endA_snoc (a l : List Int) (x : Int) : endA a (l ++ [x]) = endA a l + lgA a x := by rw [endA_append]; simp [endA]
theorem endA_range (a : List Int) : ∀ l : List Int, (l.length : Int) ≤ endA a l ∧ endA a l ≤ 256 * l.length
 | [] => by simp [endA]
 | x :: l => by
  have := endA_range a l
  have := lgA_ok a x
  simp only [endA, List.length_cons]
  omega
theorem endA_sum (a : List Int) : ∀ l : List Int, endA a l = (l.map (lgA a)).sum
 | [] => rfl
 | x :: l => by simp [endA, endA_sum a l]
structure Carr (a o : List Int) : Prop where
 nodup : o.Nodup
 isB : ∀ x ∈ o, isB (spotsF a).1 x = true
 refs : ∀ x ∈ o, ∀ v ∈ refsA a x, v = 0 ∨ (1 ≤ v ∧ v ≤ 256 ∧ v - 1 ∈ o)
 head : ∀ x ∈ o, headWord (hdA a x) = a.getD x.toNat 0
end Go.Proofs.YtglchojglcobjaaGreat
