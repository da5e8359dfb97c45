/- slices.Grow (of nothing) and slices.Concat at []int. -/
import Derived.Test.YtgnamdjmjkeodaaBase
namespace Go.Proofs.Ytgnamdjmjkeodaa
open Go
set_option maxRecDepth 100000
set_option maxHeartbeats 1000000

def sp_growInts : Spec := { Ts := [.nil, ty_I], Rs := [.own 3 ty_I], pre := fun ((_, n) : Unit × Int) => 0 ≤ n ∧ n.toNat * 8 ≤ big, F := fun _ => ([] : List Int) }

def sp_concatInts : Spec := { Ts := [.arr (.arr ty_I)], Rs := [.own 3 ty_I], pre := fun (xs : List (List Int)) => xs.flatten.length * 8 ≤ big, F := fun (xs : List (List Int)) => xs.flatten }
def an_concatInts : Nat → Option LoopGen
  | 3 => some { rd := [.dat 9 (.arr (.arr ty_I))], A := fun (xs : List (List Int)) => { cs := [.dat 3 ty_I, .dat 11 ty_I], inv := fun ((n, i) : Int × Int) => 0 ≤ i ∧ i ≤ xs.length ∧ n = ((xs.take i.toNat).flatten.length : Int) ∧ xs.flatten.length * 8 ≤ big, mu := fun ((_, i) : Int × Int) => (xs.length - i).toNat } }
  | 11 => some { rd := [.dat 25 (.arr (.arr ty_I))], A := fun (xs : List (List Int)) => { cs := [.own 6 3 ty_I, .dat 27 ty_I], inv := fun ((out, i) : List Int × Int) => 0 ≤ i ∧ i ≤ xs.length ∧ out ++ (xs.drop i.toNat).flatten = xs.flatten, mu := fun ((_, i) : List Int × Int) => (xs.length - i).toNat } }
  | _ => none



end Go.Proofs.Ytgnamdjmjkeodaa
