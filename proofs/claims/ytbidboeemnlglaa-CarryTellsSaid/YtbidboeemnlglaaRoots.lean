/- Package root's contracts. -/
import Derived.Test.YtbidboeemnlglaaInts
import Derived.Test.YtbidboeemnlglaaRowSort
namespace Go.Proofs.Ytbidboeemnlglaa
open Go
set_option maxRecDepth 100000
set_option maxHeartbeats 1000000

def within (v n : Int) : Bool := decide (-1 ≤ v) && decide (v < n)
def rootFault (r : List Int) (n : Int) : Int := if n < 0 ∨ 256 < n then 4 else if 32 < r.length then 2 else if (r.any fun v => !within v n) = true then 4 else 0
def rootSetF (r : List Int) (n slot v : Int) : List Int × Int :=
  if rootFault r n ≠ 0 then ([], rootFault r n) else if slot < 0 ∨ (r.length : Int) ≤ slot then ([], 5) else if within v n = false then ([], 4) else (r.set slot.toNat v, 0)
def rootNamedF (r : List Int) (n : Int) : List Int × Int :=
  if rootFault r n ≠ 0 then ([], rootFault r n) else (compactI (sortI (r.filter fun v => !decide (v < 0))), 0)
def swapI (to : List Int) (v : Int) : Int := if 0 ≤ v then to.getD v.toNat 0 else v
def rootSwapF (r : List Int) (n : Int) (to : List Int) : List Int × Int :=
  if rootFault r n ≠ 0 then ([], rootFault r n) else if (to.length : Int) ≠ n then ([], 3) else if (to.any fun v => !within v n) = true then ([], 4) else (r.map (swapI to), 0)

theorem withinI {r : List Int} {n v : Int} (h : (r.any fun v => !within v n) = false) (hv : v ∈ r) : -1 ≤ v ∧ v < n := by
  have := List.any_eq_false.1 h v hv
  simpa [within] using this

theorem rootFault_any {r : List Int} {n : Int} (h : rootFault r n = 0) : (r.any fun v => !within v n) = false := by
  unfold rootFault at h
  cases hr : r.any fun v => !within v n
  · rfl
  · rw [hr] at h
    simp only [if_true] at h
    split at h
    · omega
    · split at h <;> omega

theorem findFrom_filter {α : Type} (f : α → Bool) : ∀ (l : List α) (k : Int), 0 ≤ k → (findFrom f k l = -1 ∧ l.filter (fun x => !f x) = l) ∨
    ∃ j : Nat, findFrom f k l = k + j ∧ j < l.length ∧ (l.take (j + 1)).filter (fun x => !f x) = l.take j
  | [], k, _ => .inl ⟨rfl, rfl⟩
  | x :: l, k, hk => by
    simp only [findFrom]
    cases hx : f x
    · rw [if_neg (by simp)]
      rcases findFrom_filter f l (k + 1) (by omega) with ⟨h1, h2⟩ | ⟨j, h1, h2, h3⟩
      · exact .inl ⟨h1, by rw [List.filter_cons_of_pos (by simp [hx]), h2]⟩
      · exact .inr ⟨j + 1, by omega, by simp; omega, by rw [List.take_succ_cons, List.filter_cons_of_pos (by simp [hx]), h3, List.take_succ_cons]⟩
    · rw [if_pos rfl]
      exact .inr ⟨0, by omega, by simp, by simp [hx]⟩

/-- One round of slices.DeleteFunc. -/
theorem del_step {α : Type} (d : α) {p : α → Bool} {xs row : List α} {i j : Nat} (hij : i < j) (hj : j < xs.length) (hl : row.length = xs.length) (ht : row.take i = (xs.take j).filter p) (hd : row.drop j = xs.drop j) :
    (p (row.getD j d) = true → (row.set i (row.getD j d)).take (i + 1) = (xs.take (j + 1)).filter p ∧ (row.set i (row.getD j d)).drop (j + 1) = xs.drop (j + 1)) ∧
    (p (row.getD j d) = false → row.take i = (xs.take (j + 1)).filter p ∧ row.drop (j + 1) = xs.drop (j + 1)) := by
  have he : row.getD j d = xs.getD j d := by
    have := congrArg (fun l => l.getD 0 d) hd
    simpa [List.getD, List.getElem?_drop] using this
  have h1 : row.drop (j + 1) = xs.drop (j + 1) := by
    have := congrArg (List.drop 1) hd
    simpa [List.drop_drop, Nat.add_comm] using this
  have hx : xs.take (j + 1) = xs.take j ++ [xs.getD j d] := by
    rw [List.take_succ_eq_append_getElem hj]
    simp [List.getD, hj]
  rw [he, hx, List.filter_append]
  refine ⟨fun hp => ⟨?_, ?_⟩, fun hp => ⟨?_, h1⟩⟩
  · rw [List.take_set, ← ht, List.filter_cons_of_pos hp, List.filter_nil]
    have hi : i < row.length := by omega
    rw [List.take_succ_eq_append_getElem hi, List.set_append_right _ _ (by simp; omega)]
    simp [Nat.min_eq_left (Nat.le_of_lt hi)]
  · rw [List.drop_set_of_lt (by omega), h1]
  · rw [ht, List.filter_cons_of_neg (by rw [hp]; simp)]
    simp

def sp_cloneInts : Spec := { Ts := [.arr ty_I], Rs := [.own 3 ty_I], pre := fun _ => True, F := fun (x : List Int) => x }

def sp_within : Spec := { Ts := [ty_I, ty_I], Rs := [.dat .bool], pre := fun _ => True, F := fun ((v, n) : Int × Int) => within v n }

def sp_rootC1 : Spec := { Ts := [ty_I, .ref ty_I], Rs := [.dat .bool], pre := fun _ => True, F := fun ((v, n) : Int × Int) => !within v n }

def sp_rootC2 : Spec := { Ts := [ty_I, .ref ty_I], Rs := [.dat .bool], pre := fun _ => True, F := fun ((v, n) : Int × Int) => !within v n }

def sp_rootC3 : Spec := { Ts := [ty_I], Rs := [.dat .bool], pre := fun _ => True, F := fun (v : Int) => decide (v < 0) }

def sp_rootCheck : Spec := { Ts := [.arr ty_I, ty_I], Rs := [.dat ty_I], pre := fun _ => True, F := fun ((r, n) : List Int × Int) => rootFault r n }

def sp_rootSet : Spec := { Ts := [.arr ty_I, ty_I, ty_I, ty_I], Rs := [.own 3 ty_I, .dat ty_I], pre := fun _ => True, F := fun ((r, n, slot, v) : List Int × Int × Int × Int) => rootSetF r n slot v }

def an_rootNamed : Nat → Option LoopGen
  | 3000190 => some an_in
  | 3000191 => some an_in
  | 19100000005 => some { rd := [.own 0 3 ty_I], wr := [0], A := fun (xs : List Int) => { cs := [.own 0 3 ty_I, .dat 5 ty_I, .dat 6 ty_I], inv := fun ((row, i, j) : List Int × Int × Int) => 0 ≤ i ∧ i < j ∧ j ≤ xs.length ∧ row.length = xs.length ∧ row.take i.toNat = (xs.take j.toNat).filter (fun v => !decide (v < 0)) ∧ row.drop j.toNat = xs.drop j.toNat, mu := fun ((_, _, j) : List Int × Int × Int) => (xs.length - j).toNat } }
  | _ => none
def sp_rootNamed : Spec := { Ts := [.arr ty_I, ty_I], Rs := [.own 3 ty_I, .dat ty_I], pre := fun _ => True, F := fun ((r, n) : List Int × Int) => rootNamedF r n }

def an_rootSwap : Nat → Option LoopGen
  | 10 => some { rd := [.dat 2 (.arr ty_I), .dat 0 (.arr ty_I)], wr := [9, 30], A := fun ((to, r) : List Int × List Int) => { cs := [.own 9 3 ty_I, .same 30 9, .dat 32 ty_I], inv := fun ((out, _, i) : List Int × Unit × Int) => 0 ≤ i ∧ i ≤ r.length ∧ (∀ v ∈ r, v < to.length) ∧ out = (r.take i.toNat).map (swapI to) ++ r.drop i.toNat, mu := fun ((_, _, i) : List Int × Unit × Int) => (r.length - i).toNat } }
  | _ => none
def sp_rootSwap : Spec := { Ts := [.arr ty_I, ty_I, .arr ty_I], Rs := [.own 3 ty_I, .dat ty_I], pre := fun _ => True, F := fun ((r, n, to) : List Int × Int × List Int) => rootSwapF r n to }

def an_rRoots : Nat → Option LoopGen
  | 6 => some { rd := [.dat 0 (.arr ty_I), .dat 1 ty_I], A := fun ((r, n) : List Int × Int) => { cs := [.dat 18 ty_I], inv := fun (i : Int) => 0 ≤ i ∧ i ≤ r.length ∧ ¬ (n < 0 ∨ 256 < n) ∧ ¬ 32 < r.length ∧ ((r.drop i.toNat).any fun v => !within v n) = r.any fun v => !within v n, mu := fun (i : Int) => (r.length - i).toNat } }
  | _ => none
def sp_rRoots : Spec := { Ts := [.arr ty_I, ty_I], Rs := [.dat ty_I], pre := fun _ => True, F := fun ((r, n) : List Int × Int) => rootFault r n }

/-- Those of 0 .. m - 1 that are in l. -/
def risingL (l : List Int) (m : Nat) : List Int := ((List.range m).map Int.ofNat).filter (inL l)
def an_rRising : Nat → Option LoopGen
  | 3 => some { rd := [.dat 0 (.arr ty_I)], A := fun (l : List Int) => { cs := [.own 3 3 ty_I, .dat 5 ty_I], inv := fun ((out, i) : List Int × Int) => 0 ≤ i ∧ i ≤ 256 ∧ out = risingL l i.toNat, mu := fun ((_, i) : List Int × Int) => (256 - i).toNat } }
  | _ => none
def sp_rRising : Spec := { Ts := [.arr ty_I], Rs := [.own 3 ty_I], pre := fun _ => True, F := fun (l : List Int) => risingL l 256 }
