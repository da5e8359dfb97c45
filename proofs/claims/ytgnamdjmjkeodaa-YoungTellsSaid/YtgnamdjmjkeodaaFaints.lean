/- Package faint: Last; the law FaintLast. -/
import Derived.Test.YtgnamdjmjkeodaaReaches
import Derived.Test.YtgnamdjmjkeodaaConcats
import Derived.Test.YtgnamdjmjkeodaaLists
namespace Go.Proofs.Ytgnamdjmjkeodaa
open Go
set_option maxRecDepth 100000
set_option maxHeartbeats 1000000

def faintFault (a f : List Int) (n : Int) (b : List Int) : Int := if fromFault a f ≠ 0 then fromFault a f else if 32 < n then 2 else fromFault a b
def faintCheckF (a f : List Int) (n : Int) (b : List Int) : List Int × Int := if faintFault a f n b ≠ 0 then ([], faintFault a f n b) else (reachL a f, 0)
def sp_faintCheck : Spec := { Ts := [.arr ty_W, .arr ty_I, ty_I, .arr ty_I], Rs := [.own 3 ty_I, .dat ty_I], pre := fun _ => True, F := fun ((a, f, n, b) : List Int × List Int × Int × List Int) => faintCheckF a f n b }

def sp_lastC : Spec := { Ts := [ty_I, .ref (.arr ty_I)], Rs := [.dat .bool], pre := fun _ => True, F := fun ((x, l) : Int × List Int) => inL l x }

def toldL (a f q : List Int) : List Int := q.filter fun x => !inL (reachL a f) x
def lastF (a f q : List Int) : List Int × List Int × Int := if faintFault a f q.length q ≠ 0 then ([], [], faintFault a f q.length q) else (toldL a f q, reachL a (f ++ toldL a f q), 0)
def an_faintLast : Nat → Option LoopGen
  | 3000141 => some an_in
  | 14200000005 => some { rd := [.own 0 3 ty_I, .boxS 9900000 [.own 3 ty_I]], wr := [0], A := fun ((xs, live) : List Int × List Int) => { cs := [.own 0 3 ty_I, .dat 5 ty_I, .dat 6 ty_I], inv := fun ((row, i, j) : List Int × Int × Int) => 0 ≤ i ∧ i < j ∧ j ≤ xs.length ∧ row.length = xs.length ∧ row.take i.toNat = (xs.take j.toNat).filter (fun v => !inL live v) ∧ row.drop j.toNat = xs.drop j.toNat, mu := fun ((_, _, j) : List Int × Int × Int) => (xs.length - j).toNat } }
  | _ => none
def sp_faintLast : Spec := { Ts := [.arr ty_W, .arr ty_I, .arr ty_I], Rs := [.dat (.arr ty_I), .own 3 ty_I, .dat ty_I], al := true, pre := fun ((_, f, _) : List Int × List Int × List Int) => (f.length + 32) * 8 ≤ 140737488355328, F := fun ((a, f, q) : List Int × List Int × List Int) => lastF a f q }

theorem from_one {a f : List Int} (hw : ∀ x ∈ a, InR .u64 x) : fromF a [f] = fromFault a f := by
  unfold fromF fromFault
  rw [arena_check hw]
  by_cases h : (checkF a).2.2 ≠ 0
  · rw [if_pos h, if_pos h]
  · rw [if_neg h, if_neg h]
    have : ([f].all fun l => l.all (inL (beginsL (spotsF a).1))) = f.all (isB (spotsF a).1) := by
      simp only [List.all_cons, List.all_nil, Bool.and_true]
      congr 1
      funext x
      exact inL_begins x _
    rw [this]

def an_lawFaintLast : Nat → Option LoopGen
  | 1000004 => some { rd := [.dat 10 ty_I, .dat 2 (.arr ty_I)], A := fun ((c, q) : Int × List Int) => { cs := [.dat 10 ty_I], inv := fun (e : Int) => e = if c = 0 ∧ 32 < q.length then 2 else c, mu := fun _ => 0 } }
  | 1000006 => some { rd := [.dat 10 ty_I, .dat 0 (.arr ty_W), .dat 2 (.arr ty_I)], A := fun ((c, a, q) : Int × List Int × List Int) => { cs := [.dat 10 ty_I], inv := fun (e : Int) => e = if c = 0 then fromFault a q else c, mu := fun _ => 0 } }
  | 12 => some { rd := [.own 11 3 ty_I, .dat 56 (.arr ty_I)], A := fun ((live, q) : List Int × List Int) => { cs := [.own 12 3 ty_I, .dat 58 ty_I], inv := fun ((out, i) : List Int × Int) => 0 ≤ i ∧ i ≤ q.length ∧ out = (q.take i.toNat).filter (fun x => !inL live x), mu := fun ((_, i) : List Int × Int) => (q.length - i).toNat } }
  | _ => none
def sp_lawFaintLast : Spec := sp_law [.arr ty_W, .arr ty_I, .arr ty_I]

end Go.Proofs.Ytgnamdjmjkeodaa
