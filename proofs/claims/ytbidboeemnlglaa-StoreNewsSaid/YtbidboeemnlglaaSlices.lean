/- Package slices, as far as it is called. -/
import Derived.Test.YtbidboeemnlglaaBase
namespace Go.Proofs.Ytbidboeemnlglaa
open Go
set_option maxRecDepth 100000
set_option maxHeartbeats 1000000

theorem take_step {α : Type} {a b : List α} {z : α} {i : Nat} (hl : a.length = b.length) (hi : i < a.length) (ht : a.take i = b.take i) (he : a.getD i z = b.getD i z) : a.take (i + 1) = b.take (i + 1) := by
  rw [List.take_succ_eq_append_getElem hi, List.take_succ_eq_append_getElem (by omega), ht]
  have h1 : a.getD i z = a[i] := by simp [hi]
  have h2 : b.getD i z = b[i]'(by omega) := by simp [show i < b.length by omega]
  rw [← h1, ← h2, he]

def sp_eqInts : Spec := { Ts := [.arr ty_I, .arr ty_I], Rs := [.dat .bool], pre := fun _ => True, F := fun (x : List Int × List Int) => decide (x.1 = x.2) }
def an_eqInts : Nat → Option LoopGen
  | 4 => some { rd := [.dat 0 (.arr ty_I), .dat 1 (.arr ty_I)], A := fun (g : List Int × List Int) => { cs := [.dat 13 ty_I], inv := fun (i : Int) => g.1.length = g.2.length ∧ 0 ≤ i ∧ i ≤ g.1.length ∧ g.1.take i.toNat = g.2.take i.toNat, mu := fun (i : Int) => (g.1.length - i).toNat } }
  | _ => none

end Go.Proofs.Ytbidboeemnlglaa
