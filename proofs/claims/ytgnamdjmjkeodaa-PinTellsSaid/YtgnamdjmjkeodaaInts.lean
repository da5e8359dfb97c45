/- Contracts of functions on lists of ints: the reference's Place, In; slices.Index, Contains, IndexFunc, ContainsFunc; rises. -/
import Derived.Test.YtgnamdjmjkeodaaFinds
import Derived.Test.YtgnamdjmjkeodaaSlices
namespace Go.Proofs.Ytgnamdjmjkeodaa
open Go
set_option maxRecDepth 100000
set_option maxHeartbeats 1000000

/-- A function that is walked through where it is called. -/
def an_in : LoopGen := { rd := [], A := fun _ => { cs := [], inv := fun _ => True, mu := fun _ => 0 } }

def place (l : List Int) (n : Int) : Int := findFrom (fun x => decide (x = n)) 0 l
def an_rPlace : Nat → Option LoopGen
  | 2 => some { rd := [.dat 7 (.arr ty_I), .dat 1 ty_I], A := fun ((l, n) : List Int × Int) => { cs := [.dat 9 ty_I], inv := fun (i : Int) => 0 ≤ i ∧ i ≤ l.length ∧ findFrom (fun x => decide (x = n)) i (l.drop i.toNat) = place l n, mu := fun (i : Int) => (l.length - i).toNat } }
  | _ => none
def sp_rPlace : Spec := { Ts := [.arr ty_I, ty_I], Rs := [.dat ty_I], pre := fun _ => True, F := fun ((l, n) : List Int × Int) => place l n }

def inL (l : List Int) (n : Int) : Bool := l.any fun x => decide (x = n)
def sp_rIn : Spec := { Ts := [.arr ty_I, ty_I], Rs := [.dat .bool], pre := fun _ => True, F := fun ((l, n) : List Int × Int) => inL l n }

def sp_idxI : Spec := { Ts := [.arr ty_I, ty_I], Rs := [.dat ty_I], pre := fun _ => True, F := fun ((l, v) : List Int × Int) => place l v }
def an_idxI : Nat → Option LoopGen
  | 2 => some { rd := [.dat 0 (.arr ty_I), .dat 1 ty_I], A := fun ((l, v) : List Int × Int) => { cs := [.dat 8 ty_I], inv := fun (i : Int) => 0 ≤ i ∧ i ≤ l.length ∧ findFrom (fun x => decide (x = v)) i (l.drop i.toNat) = place l v, mu := fun (i : Int) => (l.length - i).toNat } }
  | _ => none

def sp_hasI : Spec := { Ts := [.arr ty_I, ty_I], Rs := [.dat .bool], pre := fun _ => True, F := fun ((l, v) : List Int × Int) => inL l v }

def sp_idxIF : Spec := { Ts := [.arr ty_I, .fn ty_I .bool], Rs := [.dat ty_I], pre := fun ((l, g) : List Int × (Int → Prop) × (Int → Bool)) => ∀ s ∈ l, g.1 s, F := fun ((l, g) : List Int × (Int → Prop) × (Int → Bool)) => findFrom g.2 0 l }
def an_idxIF : Nat → Option LoopGen
  | 2 => some { rd := [.dat 0 (.arr ty_I), .dat 1 (.fn ty_I .bool)], A := fun ((l, g) : List Int × (Int → Prop) × (Int → Bool)) => { cs := [.dat 8 ty_I], inv := fun (i : Int) => 0 ≤ i ∧ i ≤ l.length ∧ findFrom g.2 i (l.drop i.toNat) = findFrom g.2 0 l, mu := fun (i : Int) => (l.length - i).toNat } }
  | _ => none

def sp_anyI : Spec := { Ts := [.arr ty_I, .fn ty_I .bool], Rs := [.dat .bool], pre := fun ((l, g) : List Int × (Int → Prop) × (Int → Bool)) => ∀ s ∈ l, g.1 s, F := fun ((l, g) : List Int × (Int → Prop) × (Int → Bool)) => l.any g.2 }

/-- Each above the one ahead. -/
def risesL : List Int → Bool
  | x :: y :: l => decide (x < y) && risesL (y :: l)
  | _ => true
theorem risesL_short : ∀ {l : List Int}, l.length ≤ 1 → risesL l = true
  | [], _ => rfl
  | [_], _ => rfl
  | _ :: _ :: _, h => by simp at h
def an_rises : Nat → Option LoopGen
  | 2 => some { rd := [.dat 0 (.arr ty_I)], A := fun (l : List Int) => { cs := [.dat 3 ty_I], inv := fun (i : Int) => 1 ≤ i ∧ i ≤ l.length + 1 ∧ risesL (l.drop (i - 1).toNat) = risesL l, mu := fun (i : Int) => (l.length - i).toNat } }
  | _ => none
def sp_rises : Spec := { Ts := [.arr ty_I], Rs := [.dat .bool], pre := fun _ => True, F := risesL }

def sp_rRises : Spec := { Ts := [.arr ty_I], Rs := [.dat .bool], pre := fun _ => True, F := risesL }

end Go.Proofs.Ytgnamdjmjkeodaa
