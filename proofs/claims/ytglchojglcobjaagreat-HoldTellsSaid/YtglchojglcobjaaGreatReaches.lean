
import Derived.Test.YtglchojglcobjaaGreatReach
namespace Go.Proofs.YtglchojglcobjaaGreat
open Go
set_option maxRecDepth 100000
set_option maxHeartbeats 1000000
theorem inF {l : List Int} {x : Int} (h : (!inL l x) = true) : ¬ x ∈ l := fun hx => by rw [inL_iff.2 hx] at h; cases h
theorem inT {l : List Int} {x : Int} (h : (!inL l x) = false) : x ∈ l := inL_iff.1 (by cases hx : inL l x <;> simp_all)
theorem named_outs {a : List Int} (hw : ∀ x ∈ a, InR .u64 x) (hc : (checkF a).2.2 = 0) {x : Int} (hx : isB (spotsF a).1 x = true) {y : Int} : (y ∈ namedL a x (headAtL x (spotsF a).1).1 ∧ 0 ≤ y) ↔ y ∈ outsA a x := by
 have e : namedL a x (headAtL x (spotsF a).1).1 = (refsA a x).map nameOf := rfl
 rw [e]
 unfold outsA
 have hr := refs_named hw hc _ (objA_in hx).1
 simp only [List.mem_map, List.mem_filter, decide_eq_true_eq]
 constructor
 ·rintro ⟨⟨v, hv, rfl⟩, h0⟩
  rcases hr v hv with rfl | ⟨h1, h2, _⟩
  ·simp [nameOf] at h0
  ·exact ⟨v, ⟨hv, by omega⟩, by unfold nameOf; rw [if_neg (by omega)]⟩
 ·rintro ⟨v, ⟨hv, h0⟩, rfl⟩
  rcases hr v hv with e | ⟨h1, h2, _⟩
  ·exact absurd e h0
  ·exact ⟨⟨v, hv, by unfold nameOf; rw [if_neg (by omega)]⟩, by omega⟩
structure InReach (a f l : List Int) : Prop where
 has : ∀ x ∈ f, x ∈ l
 only : ∀ x ∈ l, Rch a f x
 len : l.length + cntR f ≤ f.length + cntR l
def an_rReached : Nat → Option LoopGen
 | 4 => some { rd := [.dat 0 (.arr ty_W), .dat 1 (.arr ty_I)], A := fun ((a, f) : List Int × List Int) => { cs := [.own 6 3 ty_I, .dat 7 .bool], inv := fun ((l, ag) : List Int × Bool) => InReach a f l ∧ (ag = false → closedR a l = true), mu := fun ((l, ag) : List Int × Bool) => 2 * (256 - cntR l) + (if ag = true then 1 else 0) } }
 | 7 => some { rd := [.own 5 3 ty_I, .dat 0 (.arr ty_W), .dat 1 (.arr ty_I), .own 6 3 ty_I], A := fun ((all, a, f, l0) : List Int × List Int × List Int × List Int) => { cs := [.own 6 3 ty_I, .dat 7 .bool, .dat 19 ty_I], inv := fun ((l, ag, i) : List Int × Bool × Int) => 0 ≤ i ∧ i ≤ all.length ∧ InReach a f l ∧ (ag = false → l = l0 ∧ ∀ x ∈ all.take i.toNat, x ∈ l0 → ∀ y ∈ outsA a x, y ∈ l0) ∧ (ag = true → cntR l0 < cntR l), mu := fun ((_, _, i) : List Int × Bool × Int) => (all.length - i).toNat } }
 | 11 => some { rd := [.own 29 3 ty_I, .own 6 3 ty_I, .dat 7 .bool], A := fun ((ns, l1, ag1) : List Int × List Int × Bool) => { cs := [.own 6 3 ty_I, .dat 7 .bool, .dat 31 ty_I], inv := fun ((l, ag, j) : List Int × Bool × Int) => 0 ≤ j ∧ j ≤ ns.length ∧ (∀ x ∈ l1, x ∈ l) ∧ (∀ x ∈ l, x ∈ l1 ∨ (x ∈ ns ∧ 0 ≤ x)) ∧ l.length + cntR l1 ≤ l1.length + cntR l ∧ (ag = false → ag1 = false ∧ l = l1 ∧ ∀ y ∈ ns.take j.toNat, 0 ≤ y → y ∈ l1) ∧ (ag = true → ag1 = true ∨ cntR l1 < cntR l) ∧ (ag1 = true → ag = true), mu := fun ((_, _, j) : List Int × Bool × Int) => (ns.length - j).toNat } }
 | _ => none
def sp_rReached : Spec := { Ts := [.arr ty_W, .arr ty_I], Rs := [.own 3 ty_I], pre := fun ((a, f) : List Int × List Int) => fromFault a f = 0 ∧ (f.length + 256) * 8 ≤ 140737488355328, F := fun ((a, f) : List Int × List Int) => reachL a f }
def pv_rReached : Prop :=
  ∀ (x : List Int × List Int), ((x.fst.length * (8 : Nat) ≤ big ∧ ∀ (x_1 : Int), x_1 ∈ x.fst → InR IntKind.u64 x_1) ∧ x.snd.length * (8 : Nat) ≤ big ∧ ∀ (x_1 : Int), x_1 ∈ x.snd → InR IntKind.i64 x_1) → fromFault x.fst x.snd = (0 : Int) ∧ (x.snd.length + (256 : Nat)) * (8 : Nat) ≤ (140737488355328 : Nat) → True ∧ x.snd.length * (8 : Nat) ≤ big ∧ (InReach x.fst x.snd x.snd ∧ (true = false → closedR x.fst x.snd = true)) ∧ ∀ (x_1 : List Int × Bool), InReach x.fst x.snd x_1.fst ∧ (x_1.snd = false → closedR x.fst x_1.fst = true) → (x_1.snd = true → ((0 : Int) ≤ (0 : Int) ∧ (0 : Int) ≤ (↑(beginsL (spotsF x.fst).fst).length : Int) ∧ InReach x.fst x.snd x_1.fst ∧ (false = false → x_1.fst = x_1.fst ∧ ∀ (x_2 : Int), x_2 ∈ List.take (Int.toNat (0 : Int)) (beginsL (spotsF x.fst).fst) → x_2 ∈ x_1.fst → ∀ (y : Int), y ∈ outsA x.fst x_2 → y ∈ x_1.fst) ∧ (false = true → cntR x_1.fst < cntR x_1.fst)) ∧ ∀ (x_2 : List Int × Bool × Int), (0 : Int) ≤ x_2.snd.snd ∧ x_2.snd.snd ≤ (↑(beginsL (spotsF x.fst).fst).length : Int) ∧ InReach x.fst x.snd x_2.fst ∧ (x_2.snd.fst = false → x_2.fst = x_1.fst ∧ ∀ (x_3 : Int), x_3 ∈ List.take x_2.snd.snd.toNat (beginsL (spotsF x.fst).fst) → x_3 ∈ x_1.fst → ∀ (y : Int), y ∈ outsA x.fst x_3 → y ∈ x_1.fst) ∧ (x_2.snd.fst = true → cntR x_1.fst < cntR x_2.fst) → (decide (x_2.snd.snd < (↑(beginsL (spotsF x.fst).fst).length : Int)) = true → (0 : Int) ≤ x_2.snd.snd ∧ x_2.snd.snd < (↑(beginsL (spotsF x.fst).fst).length : Int) ∧ x_2.snd.snd.toNat < (beginsL (spotsF x.fst).fst).length ∧ True ∧ ((!inL x_2.fst ((beginsL (spotsF x.fst).fst).getD x_2.snd.snd.toNat (0 : Int))) = true → InR IntKind.i64 (x_2.snd.snd + (1 : Int)) ∧ ((0 : Int) ≤ x_2.snd.snd + (1 : Int) ∧ x_2.snd.snd + (1 : Int) ≤ (↑(beginsL (spotsF x.fst).fst).length : Int) ∧ InReach x.fst x.snd x_2.fst ∧ (x_2.snd.fst = false → x_2.fst = x_1.fst ∧ ∀ (x_3 : Int), x_3 ∈ List.take (x_2.snd.snd + (1 : Int)).toNat (beginsL (spotsF x.fst).fst) → x_3 ∈ x_1.fst → ∀ (y : Int), y ∈ outsA x.fst x_3 → y ∈ x_1.fst) ∧ (x_2.snd.fst = true → cntR x_1.fst < cntR x_2.fst)) ∧ ((↑(beginsL (spotsF x.fst).fst).length : Int) - (x_2.snd.snd + (1 : Int))).toNat < ((↑(beginsL (spotsF x.fst).fst).length : Int) - x_2.snd.snd).toNat) ∧ ((!inL x_2.fst ((beginsL (spotsF x.fst).fst).getD x_2.snd.snd.toNat (0 : Int))) = false → True ∧ ((0 : Int) ≤ (0 : Int) ∧ (0 : Int) ≤ (↑(namedL x.fst ((beginsL (spotsF x.fst).fst).getD x_2.snd.snd.toNat (0 : Int)) (headAtL ((beginsL (spotsF x.fst).fst).getD x_2.snd.snd.toNat (0 : Int)) (spotsF x.fst).fst).fst).length : Int) ∧ (∀ (x : Int), x ∈ x_2.fst → x ∈ x_2.fst) ∧ (∀ (x_3 : Int), x_3 ∈ x_2.fst → x_3 ∈ x_2.fst ∨ x_3 ∈ namedL x.fst ((beginsL (spotsF x.fst).fst).getD x_2.snd.snd.toNat (0 : Int)) (headAtL ((beginsL (spotsF x.fst).fst).getD x_2.snd.snd.toNat (0 : Int)) (spotsF x.fst).fst).fst ∧ (0 : Int) ≤ x_3) ∧ x_2.fst.length + cntR x_2.fst ≤ x_2.fst.length + cntR x_2.fst ∧ (x_2.snd.fst = false → x_2.snd.fst = false ∧ x_2.fst = x_2.fst ∧ ∀ (y : Int), y ∈ List.take (Int.toNat (0 : Int)) (namedL x.fst ((beginsL (spotsF x.fst).fst).getD x_2.snd.snd.toNat (0 : Int)) (headAtL ((beginsL (spotsF x.fst).fst).getD x_2.snd.snd.toNat (0 : Int)) (spotsF x.fst).fst).fst) → (0 : Int) ≤ y → y ∈ x_2.fst) ∧ (x_2.snd.fst = true → x_2.snd.fst = true ∨ cntR x_2.fst < cntR x_2.fst) ∧ (x_2.snd.fst = true → x_2.snd.fst = true)) ∧ ∀ (x_3 : List Int × Bool × Int), (0 : Int) ≤ x_3.snd.snd ∧ x_3.snd.snd ≤ (↑(namedL x.fst ((beginsL (spotsF x.fst).fst).getD x_2.snd.snd.toNat (0 : Int)) (headAtL ((beginsL (spotsF x.fst).fst).getD x_2.snd.snd.toNat (0 : Int)) (spotsF x.fst).fst).fst).length : Int) ∧ (∀ (x : Int), x ∈ x_2.fst → x ∈ x_3.fst) ∧ (∀ (x_4 : Int), x_4 ∈ x_3.fst → x_4 ∈ x_2.fst ∨ x_4 ∈ namedL x.fst ((beginsL (spotsF x.fst).fst).getD x_2.snd.snd.toNat (0 : Int)) (headAtL ((beginsL (spotsF x.fst).fst).getD x_2.snd.snd.toNat (0 : Int)) (spotsF x.fst).fst).fst ∧ (0 : Int) ≤ x_4) ∧ x_3.fst.length + cntR x_2.fst ≤ x_2.fst.length + cntR x_3.fst ∧ (x_3.snd.fst = false → x_2.snd.fst = false ∧ x_3.fst = x_2.fst ∧ ∀ (y : Int), y ∈ List.take x_3.snd.snd.toNat (namedL x.fst ((beginsL (spotsF x.fst).fst).getD x_2.snd.snd.toNat (0 : Int)) (headAtL ((beginsL (spotsF x.fst).fst).getD x_2.snd.snd.toNat (0 : Int)) (spotsF x.fst).fst).fst) → (0 : Int) ≤ y → y ∈ x_2.fst) ∧ (x_3.snd.fst = true → x_2.snd.fst = true ∨ cntR x_2.fst < cntR x_3.fst) ∧ (x_2.snd.fst = true → x_3.snd.fst = true) → (decide (x_3.snd.snd < (↑(namedL x.fst ((beginsL (spotsF x.fst).fst).getD x_2.snd.snd.toNat (0 : Int)) (headAtL ((beginsL (spotsF x.fst).fst).getD x_2.snd.snd.toNat (0 : Int)) (spotsF x.fst).fst).fst).length : Int)) = true → (0 : Int) ≤ x_3.snd.snd ∧ x_3.snd.snd < (↑(namedL x.fst ((beginsL (spotsF x.fst).fst).getD x_2.snd.snd.toNat (0 : Int)) (headAtL ((beginsL (spotsF x.fst).fst).getD x_2.snd.snd.toNat (0 : Int)) (spotsF x.fst).fst).fst).length : Int) ∧ x_3.snd.snd.toNat < (namedL x.fst ((beginsL (spotsF x.fst).fst).getD x_2.snd.snd.toNat (0 : Int)) (headAtL ((beginsL (spotsF x.fst).fst).getD x_2.snd.snd.toNat (0 : Int)) (spotsF x.fst).fst).fst).length ∧ (decide ((0 : Int) ≤ (namedL x.fst ((beginsL (spotsF x.fst).fst).getD x_2.snd.snd.toNat (0 : Int)) (headAtL ((beginsL (spotsF x.fst).fst).getD x_2.snd.snd.toNat (0 : Int)) (spotsF x.fst).fst).fst).getD x_3.snd.snd.toNat (0 : Int)) = true → True) ∧ ((decide ((0 : Int) ≤ (namedL x.fst ((beginsL (spotsF x.fst).fst).getD x_2.snd.snd.toNat (0 : Int)) (headAtL ((beginsL (spotsF x.fst).fst).getD x_2.snd.snd.toNat (0 : Int)) (spotsF x.fst).fst).fst).getD x_3.snd.snd.toNat (0 : Int)) && !inL x_3.fst ((namedL x.fst ((beginsL (spotsF x.fst).fst).getD x_2.snd.snd.toNat (0 : Int)) (headAtL ((beginsL (spotsF x.fst).fst).getD x_2.snd.snd.toNat (0 : Int)) (spotsF x.fst).fst).fst).getD x_3.snd.snd.toNat (0 : Int))) = true → (x_3.fst.length + [(namedL x.fst ((beginsL (spotsF x.fst).fst).getD x_2.snd.snd.toNat (0 : Int)) (headAtL ((beginsL (spotsF x.fst).fst).getD x_2.snd.snd.toNat (0 : Int)) (spotsF x.fst).fst).fst).getD x_3.snd.snd.toNat (0 : Int)].length) * (8 : Nat) ≤ big ∧ InR IntKind.i64 (x_3.snd.snd + (1 : Int)) ∧ ((0 : Int) ≤ x_3.snd.snd + (1 : Int) ∧ x_3.snd.snd + (1 : Int) ≤ (↑(namedL x.fst ((beginsL (spotsF x.fst).fst).getD x_2.snd.snd.toNat (0 : Int)) (headAtL ((beginsL (spotsF x.fst).fst).getD x_2.snd.snd.toNat (0 : Int)) (spotsF x.fst).fst).fst).length : Int) ∧ (∀ (x_4 : Int), x_4 ∈ x_2.fst → x_4 ∈ x_3.fst ++ [(namedL x.fst ((beginsL (spotsF x.fst).fst).getD x_2.snd.snd.toNat (0 : Int)) (headAtL ((beginsL (spotsF x.fst).fst).getD x_2.snd.snd.toNat (0 : Int)) (spotsF x.fst).fst).fst).getD x_3.snd.snd.toNat (0 : Int)]) ∧ (∀ (x_4 : Int), x_4 ∈ x_3.fst ++ [(namedL x.fst ((beginsL (spotsF x.fst).fst).getD x_2.snd.snd.toNat (0 : Int)) (headAtL ((beginsL (spotsF x.fst).fst).getD x_2.snd.snd.toNat (0 : Int)) (spotsF x.fst).fst).fst).getD x_3.snd.snd.toNat (0 : Int)] → x_4 ∈ x_2.fst ∨ x_4 ∈ namedL x.fst ((beginsL (spotsF x.fst).fst).getD x_2.snd.snd.toNat (0 : Int)) (headAtL ((beginsL (spotsF x.fst).fst).getD x_2.snd.snd.toNat (0 : Int)) (spotsF x.fst).fst).fst ∧ (0 : Int) ≤ x_4) ∧ (x_3.fst ++ [(namedL x.fst ((beginsL (spotsF x.fst).fst).getD x_2.snd.snd.toNat (0 : Int)) (headAtL ((beginsL (spotsF x.fst).fst).getD x_2.snd.snd.toNat (0 : Int)) (spotsF x.fst).fst).fst).getD x_3.snd.snd.toNat (0 : Int)]).length + cntR x_2.fst ≤ x_2.fst.length + cntR (x_3.fst ++ [(namedL x.fst ((beginsL (spotsF x.fst).fst).getD x_2.snd.snd.toNat (0 : Int)) (headAtL ((beginsL (spotsF x.fst).fst).getD x_2.snd.snd.toNat (0 : Int)) (spotsF x.fst).fst).fst).getD x_3.snd.snd.toNat (0 : Int)]) ∧ (true = false → x_2.snd.fst = false ∧ x_3.fst ++ [(namedL x.fst ((beginsL (spotsF x.fst).fst).getD x_2.snd.snd.toNat (0 : Int)) (headAtL ((beginsL (spotsF x.fst).fst).getD x_2.snd.snd.toNat (0 : Int)) (spotsF x.fst).fst).fst).getD x_3.snd.snd.toNat (0 : Int)] = x_2.fst ∧ ∀ (y : Int), y ∈ List.take (x_3.snd.snd + (1 : Int)).toNat (namedL x.fst ((beginsL (spotsF x.fst).fst).getD x_2.snd.snd.toNat (0 : Int)) (headAtL ((beginsL (spotsF x.fst).fst).getD x_2.snd.snd.toNat (0 : Int)) (spotsF x.fst).fst).fst) → (0 : Int) ≤ y → y ∈ x_2.fst) ∧ (true = true → x_2.snd.fst = true ∨ cntR x_2.fst < cntR (x_3.fst ++ [(namedL x.fst ((beginsL (spotsF x.fst).fst).getD x_2.snd.snd.toNat (0 : Int)) (headAtL ((beginsL (spotsF x.fst).fst).getD x_2.snd.snd.toNat (0 : Int)) (spotsF x.fst).fst).fst).getD x_3.snd.snd.toNat (0 : Int)])) ∧ (x_2.snd.fst = true → true = true)) ∧ ((↑(namedL x.fst ((beginsL (spotsF x.fst).fst).getD x_2.snd.snd.toNat (0 : Int)) (headAtL ((beginsL (spotsF x.fst).fst).getD x_2.snd.snd.toNat (0 : Int)) (spotsF x.fst).fst).fst).length : Int) - (x_3.snd.snd + (1 : Int))).toNat < ((↑(namedL x.fst ((beginsL (spotsF x.fst).fst).getD x_2.snd.snd.toNat (0 : Int)) (headAtL ((beginsL (spotsF x.fst).fst).getD x_2.snd.snd.toNat (0 : Int)) (spotsF x.fst).fst).fst).length : Int) - x_3.snd.snd).toNat) ∧ ((decide ((0 : Int) ≤ (namedL x.fst ((beginsL (spotsF x.fst).fst).getD x_2.snd.snd.toNat (0 : Int)) (headAtL ((beginsL (spotsF x.fst).fst).getD x_2.snd.snd.toNat (0 : Int)) (spotsF x.fst).fst).fst).getD x_3.snd.snd.toNat (0 : Int)) && !inL x_3.fst ((namedL x.fst ((beginsL (spotsF x.fst).fst).getD x_2.snd.snd.toNat (0 : Int)) (headAtL ((beginsL (spotsF x.fst).fst).getD x_2.snd.snd.toNat (0 : Int)) (spotsF x.fst).fst).fst).getD x_3.snd.snd.toNat (0 : Int))) = false → InR IntKind.i64 (x_3.snd.snd + (1 : Int)) ∧ ((0 : Int) ≤ x_3.snd.snd + (1 : Int) ∧ x_3.snd.snd + (1 : Int) ≤ (↑(namedL x.fst ((beginsL (spotsF x.fst).fst).getD x_2.snd.snd.toNat (0 : Int)) (headAtL ((beginsL (spotsF x.fst).fst).getD x_2.snd.snd.toNat (0 : Int)) (spotsF x.fst).fst).fst).length : Int) ∧ (∀ (x : Int), x ∈ x_2.fst → x ∈ x_3.fst) ∧ (∀ (x_4 : Int), x_4 ∈ x_3.fst → x_4 ∈ x_2.fst ∨ x_4 ∈ namedL x.fst ((beginsL (spotsF x.fst).fst).getD x_2.snd.snd.toNat (0 : Int)) (headAtL ((beginsL (spotsF x.fst).fst).getD x_2.snd.snd.toNat (0 : Int)) (spotsF x.fst).fst).fst ∧ (0 : Int) ≤ x_4) ∧ x_3.fst.length + cntR x_2.fst ≤ x_2.fst.length + cntR x_3.fst ∧ (x_3.snd.fst = false → x_2.snd.fst = false ∧ x_3.fst = x_2.fst ∧ ∀ (y : Int), y ∈ List.take (x_3.snd.snd + (1 : Int)).toNat (namedL x.fst ((beginsL (spotsF x.fst).fst).getD x_2.snd.snd.toNat (0 : Int)) (headAtL ((beginsL (spotsF x.fst).fst).getD x_2.snd.snd.toNat (0 : Int)) (spotsF x.fst).fst).fst) → (0 : Int) ≤ y → y ∈ x_2.fst) ∧ (x_3.snd.fst = true → x_2.snd.fst = true ∨ cntR x_2.fst < cntR x_3.fst) ∧ (x_2.snd.fst = true → x_3.snd.fst = true)) ∧ ((↑(namedL x.fst ((beginsL (spotsF x.fst).fst).getD x_2.snd.snd.toNat (0 : Int)) (headAtL ((beginsL (spotsF x.fst).fst).getD x_2.snd.snd.toNat (0 : Int)) (spotsF x.fst).fst).fst).length : Int) - (x_3.snd.snd + (1 : Int))).toNat < ((↑(namedL x.fst ((beginsL (spotsF x.fst).fst).getD x_2.snd.snd.toNat (0 : Int)) (headAtL ((beginsL (spotsF x.fst).fst).getD x_2.snd.snd.toNat (0 : Int)) (spotsF x.fst).fst).fst).length : Int) - x_3.snd.snd).toNat)) ∧ (decide (x_3.snd.snd < (↑(namedL x.fst ((beginsL (spotsF x.fst).fst).getD x_2.snd.snd.toNat (0 : Int)) (headAtL ((beginsL (spotsF x.fst).fst).getD x_2.snd.snd.toNat (0 : Int)) (spotsF x.fst).fst).fst).length : Int)) = false → InR IntKind.i64 (x_2.snd.snd + (1 : Int)) ∧ ((0 : Int) ≤ x_2.snd.snd + (1 : Int) ∧ x_2.snd.snd + (1 : Int) ≤ (↑(beginsL (spotsF x.fst).fst).length : Int) ∧ InReach x.fst x.snd x_3.fst ∧ (x_3.snd.fst = false → x_3.fst = x_1.fst ∧ ∀ (x_4 : Int), x_4 ∈ List.take (x_2.snd.snd + (1 : Int)).toNat (beginsL (spotsF x.fst).fst) → x_4 ∈ x_1.fst → ∀ (y : Int), y ∈ outsA x.fst x_4 → y ∈ x_1.fst) ∧ (x_3.snd.fst = true → cntR x_1.fst < cntR x_3.fst)) ∧ ((↑(beginsL (spotsF x.fst).fst).length : Int) - (x_2.snd.snd + (1 : Int))).toNat < ((↑(beginsL (spotsF x.fst).fst).length : Int) - x_2.snd.snd).toNat))) ∧ (decide (x_2.snd.snd < (↑(beginsL (spotsF x.fst).fst).length : Int)) = false → (InReach x.fst x.snd x_2.fst ∧ (x_2.snd.fst = false → closedR x.fst x_2.fst = true)) ∧ ((2 : Nat) * ((256 : Nat) - cntR x_2.fst) + if x_2.snd.fst = true then (1 : Nat) else (0 : Nat)) < (2 : Nat) * ((256 : Nat) - cntR x_1.fst) + if x_1.snd = true then (1 : Nat) else (0 : Nat))) ∧ (x_1.snd = false → True ∧ risingL x_1.fst (256 : Nat) = reachL x.fst x.snd ∧ True)
theorem vcp_rReached : pv_rReached := by
 unfold pv_rReached
 intro ⟨a, f⟩ ⟨⟨hb, hw⟩, hbf, hf⟩ ⟨hff, hlen⟩
 simp only at hb hw hbf hf hff hlen ⊢
 obtain ⟨hc, hfb⟩ := fromFault_ok hff
 have hall : ∀ x, Rch a f x → x ∈ beginsL (spotsF a).1 := fun x hx => inL_iff.1 ((inL_begins x _).trans (hx.isB hw hc hfb))
 have hbl := beginsL_length (spotsF a).1
 have hsl := spotsF_length a
 have hbeg : ∀ x ∈ beginsL (spotsF a).1, isB (spotsF a).1 x = true := fun x hx => by rw [← inL_begins]; exact inL_iff.2 hx
 generalize hall0 : beginsL (spotsF a).1 = all at *
 refine ⟨trivial, hbf, ⟨⟨fun x hx => hx, fun x hx => .base hx, Nat.le_refl _⟩, fun h => by cases h⟩, fun ⟨l0, ag0⟩ ⟨q1, q2⟩ => ⟨fun hag => ?_, fun hag => ?_⟩⟩
 ·simp only at q1 q2 hag ⊢
  subst hag
  refine ⟨⟨by omega, by omega, q1, fun _ => ⟨trivial, fun x hx => by simp at hx⟩, fun h => by cases h⟩, fun ⟨l, ag, i⟩ ⟨i0, i1, r1, r2, r3⟩ => ⟨fun hlt => ?_, fun hge => ?_⟩⟩
  ·simp only at i0 i1 r1 r2 r3 hlt ⊢
   have hlt := of_decide_eq_true hlt
   have ht := take_snoc (0 : Int) i0 hlt
   have hat := getD_mem (0 : Int) i0 hlt
   generalize all.getD i.toNat 0 = at_ at *
   have hib := hbeg _ hat
   refine ⟨i0, hlt, by omega, trivial, fun hin => ?_, fun hin => ?_⟩
   ·have hin := inF hin
    simp only [InR]
    refine ⟨by omega, ⟨by omega, by omega, r1, fun hf0 => ⟨(r2 hf0).1, fun x hx hx0 => ?_⟩, r3⟩, by omega⟩
    rw [ht] at hx
    rcases List.mem_append.1 hx with hx | hx
    ·exact (r2 hf0).2 x hx hx0
    ·rw [List.mem_singleton.1 hx] at hx0
     rw [(r2 hf0).1] at hin
     exact absurd hx0 hin
   ·have hin := inT hin
    have hno := fun y => named_outs hw hc hib (y := y)
    have hnl : (namedL a at_ (headAtL at_ (spotsF a).1).1).length ≤ 256 := by
     have := (isB_spot hib).2.2.2.2
     simp only [namedL, List.length_map, List.length_drop, List.length_take]; omega
    generalize namedL a at_ (headAtL at_ (spotsF a).1).1 = ns at *
    refine ⟨trivial, ⟨by omega, by omega, fun x hx => hx, fun x hx => .inl hx, by omega, fun h => ⟨h, trivial, fun y hy => by simp at hy⟩, fun h => .inl h, fun h => h⟩, fun ⟨l2, ag2, j⟩ ⟨j0, j1, s1, s2, s3, s4, s5, s6⟩ => ⟨fun hj => ?_, fun hj => ?_⟩⟩
    ·simp only at j0 j1 s1 s2 s3 s4 s5 s6 hj ⊢
     have hj := of_decide_eq_true hj
     have ht2 := take_snoc (0 : Int) j0 hj
     have hv := getD_mem (0 : Int) j0 hj
     generalize ns.getD j.toNat 0 = v at *
     refine ⟨j0, hj, by omega, fun _ => trivial, fun hcd => ?_, fun hcd => ?_⟩
     ·rw [Bool.and_eq_true] at hcd
      have h0 := of_decide_eq_true hcd.1
      have hn := inF hcd.2
      have hvr := isB_range (outsA_isB hw hc hib ((hno v).1 ⟨hv, h0⟩))
      have hlt2 := cnt_lt (l := l2) (k := l2 ++ [v]) (fun x hx => by simp [hx]) (y := v) (by simp) hn hvr.1 hvr.2
      have hle := cnt_mono s1
      have hc2 := cnt_le (l2 ++ [v])
      have := r1.len
      unfold big
      simp only [List.length_append, List.length_singleton, InR]
      refine ⟨by omega, by omega, ⟨by omega, by omega, fun x hx => List.mem_append_left _ (s1 x hx), fun x hx => ?_, by omega, fun h => (by cases h), fun _ => .inr (by omega), fun _ => trivial⟩, by omega⟩
      rcases List.mem_append.1 hx with hx | hx
      ·exact s2 x hx
      ·rw [List.mem_singleton.1 hx]
       exact .inr ⟨hv, h0⟩
     ·simp only [InR]
      refine ⟨by omega, ⟨by omega, by omega, s1, s2, s3, fun h => ⟨(s4 h).1, (s4 h).2.1, fun y hy hy0 => ?_⟩, s5, s6⟩, by omega⟩
      rw [ht2] at hy
      rcases List.mem_append.1 hy with hy | hy
      ·exact (s4 h).2.2 y hy hy0
      ·have hyv := List.mem_singleton.1 hy
       rw [hyv] at hy0 ⊢
       rw [decide_eq_true hy0, Bool.true_and] at hcd
       rw [← (s4 h).2.1]
       exact inT hcd
    ·simp only at j0 j1 s1 s2 s3 s4 s5 s6 hj ⊢
     have hj := of_decide_eq_false hj
     rw [take_end hj] at s4
     have hmo := cnt_mono s1
     have := r1.len
     simp only [InR]
     refine ⟨by omega, ⟨by omega, by omega, ⟨fun x hx => s1 x (r1.has x hx), fun x hx => ?_, by omega⟩, fun h => ?_, fun h => ?_⟩, by omega⟩
     ·rcases s2 x hx with hx | hx
      ·exact r1.only x hx
      ·exact .step (r1.only _ hin) ((hno x).1 hx)
     ·obtain ⟨g1, g2, g3⟩ := s4 h
      refine ⟨g2.trans (r2 g1).1, fun x hx hx0 y hy => ?_⟩
      rw [ht] at hx
      rcases List.mem_append.1 hx with hx | hx
      ·exact (r2 g1).2 x hx hx0 y hy
      ·rw [List.mem_singleton.1 hx] at hy
       obtain ⟨k1, k2⟩ := (hno y).2 hy
       rw [← (r2 g1).1]
       exact g3 y k1 k2
     ·rcases s5 h with h | h
      ·have := r3 h; omega
      ·cases ag with
       | true => have := r3 rfl; omega
       | false => have := (r2 rfl).1; subst this; omega
  ·simp only at i0 i1 r1 r2 r3 hge ⊢
   have hge := of_decide_eq_false hge
   rw [take_end hge] at r2
   have hc2 := cnt_le l
   refine ⟨⟨r1, fun h => closedR_iff.2 (fun x hx => ?_)⟩, ?_⟩
   ·obtain ⟨e, h2⟩ := r2 h
    subst e
    exact h2 x (hall x (r1.only x hx)) hx
   ·cases ag with
    | true => have := r3 rfl; simp only [if_true]; omega
    | false => have := (r2 rfl).1; subst this; simp only [if_true, Bool.false_eq_true, if_false]; omega
 ·simp only at q1 q2 hag ⊢
  have hcl := closedR_iff.1 (q2 hag)
  exact ⟨trivial, (Full.mk q1.has q1.only hcl).rising hw hc hfb, trivial⟩
theorem e_rReached : pv_rReached = (fnVC Tryz.prog (tbl [(43, sp_rBegins), (44, sp_rIn), (45, sp_rNamed), (46, sp_rRising)]) an_rReached Tryz.f12 sp_rReached) := by kernel_rfl
theorem vc_rReached : fnVC Tryz.prog (tbl [(43, sp_rBegins), (44, sp_rIn), (45, sp_rNamed), (46, sp_rRising)]) an_rReached Tryz.f12 sp_rReached := @Eq.mp _ _ @e_rReached @vcp_rReached
theorem ok_rReached : sp_rReached.ok Tryz.prog 12 := fn_sound (P := Tryz.prog) (ss := tbl [(43, sp_rBegins), (44, sp_rIn), (45, sp_rNamed), (46, sp_rRising)]) (ann := an_rReached) (f := 12) (fn := Tryz.f12) (s := sp_rReached) (tbl_cons ok_rBegins (tbl_cons ok_rIn (tbl_cons ok_rNamed (tbl_cons ok_rRising tbl_nil)))) Tryz.func12 @vc_rReached
def headsFrom (m : List (Int × Head)) : List Spot → List (Int × Head)
 | [] => m
 | s :: l => headsFrom (if s.2.2.2.2 = true then m else mput m s.1 s.2) l
def headsL (l : List Spot) : List (Int × Head) := headsFrom [] l
theorem headsFrom_get (x : Int) : ∀ (l : List Spot) (m : List (Int × Head)), l.Pairwise (fun s t => s.1 < t.1) → mget (headsFrom m l) x = if isB l x = true then some (headAtL x l).1 else mget m x
 | [], m, _ => rfl
 | s :: l, m, h => by
  obtain ⟨h1, h2⟩ := List.pairwise_cons.1 h
  have e0 : headsFrom m (s :: l) = headsFrom (if s.2.2.2.2 = true then m else mput m s.1 s.2) l := rfl
  rw [e0, headsFrom_get x l _ h2]
  by_cases hx : s.1 = x ∧ s.2.2.2.2 = false
  ·have e1 : headAtL x (s :: l) = (s.2, true) := if_pos hx
   have e2 : isB (s :: l) x = true := by unfold isB; rw [e1]
   have hn : ¬ isB l x = true := by
    rw [← inL_begins, inL_iff]
    intro hm
    have : ∃ t ∈ l, t.1 = x := by
     clear h h2 hx e0 e1 e2
     induction l with
     | nil => cases hm
     | cons t l ih =>
      simp only [beginsL] at hm
      split at hm
      ·obtain ⟨u, hu, e⟩ := ih (fun y hy => h1 y (by simp [hy])) hm
       exact ⟨u, by simp [hu], e⟩
      ·rcases List.mem_cons.1 hm with hm | hm
       ·exact ⟨t, by simp, hm.symm⟩
       ·obtain ⟨u, hu, e⟩ := ih (fun y hy => h1 y (by simp [hy])) hm
        exact ⟨u, by simp [hu], e⟩
    obtain ⟨t, ht, e⟩ := this
    have := h1 t ht
    omega
   rw [if_neg hn, if_pos e2, e1, if_neg (by rw [hx.2]; simp), mget_mput, if_pos hx.1.symm]
  ·have e1 : headAtL x (s :: l) = headAtL x l := if_neg hx
   have e2 : isB (s :: l) x = isB l x := by unfold isB; rw [e1]
   rw [e2, e1]
   by_cases hb : isB l x = true
   ·rw [if_pos hb, if_pos hb]
   ·rw [if_neg hb, if_neg hb]
    by_cases hf : s.2.2.2.2 = true
    ·rw [if_pos hf]
    ·rw [if_neg hf, mget_mput, if_neg (fun e => hx ⟨e.symm, by simpa using hf⟩)]
theorem heads_get {l : List Spot} (h : l.Pairwise (fun s t => s.1 < t.1)) (x : Int) : mget (headsL l) x = if isB l x = true then some (headAtL x l).1 else none := headsFrom_get x l [] h
theorem begins_append : ∀ (l k : List Spot), beginsL (l ++ k) = beginsL l ++ beginsL k
 | [], _ => rfl
 | s :: l, k => by
  have := begins_append l k
  simp only [List.cons_append, beginsL, this]
  split <;> simp
structure Seen (m : List (Int × Bool)) (o : List Int) : Prop where
 nodup : o.Nodup
 is : ∀ x, (mget m x).getD false = inL o x
theorem Seen.new : Seen [] [] := ⟨List.nodup_nil, fun _ => rfl⟩
theorem Seen.add {m : List (Int × Bool)} {o : List Int} {x : Int} (h : Seen m o) (hn : (!(mget m x).getD false) = true) : Seen (mput m x true) (o ++ [x]) := by
 rw [h.is] at hn
 refine ⟨?_, fun y => ?_⟩
 ·rw [List.nodup_append]
  exact ⟨h.nodup, by simp, fun y hy z hz => by rw [List.mem_singleton.1 hz]; rintro rfl; exact inF hn hy⟩
 ·rw [mget_mput]
  by_cases hy : y = x
  ·subst hy
   rw [if_pos rfl]
   exact (inL_iff.2 (by simp)).symm
  ·rw [if_neg hy, h.is]
   unfold inL
   rw [List.any_append]
   simp [Ne.symm hy]
theorem Seen.mem {m : List (Int × Bool)} {o : List Int} {x : Int} (h : Seen m o) (hn : (!(mget m x).getD false) = false) : x ∈ o := by
 rw [h.is] at hn
 exact inT hn
theorem nodup_len {o : List Int} (hd : o.Nodup) (hr : ∀ x ∈ o, 0 ≤ x ∧ x ≤ 255) : o.length ≤ 256 := by
 have h1 := sortI_sorted o
 have h2 : (sortI o).Nodup := (List.mergeSort_perm o _).nodup_iff.2 hd
 have h3 : (sortI o).Pairwise (· < ·) := (h1.and h2).imp (fun ⟨x, y⟩ => by omega)
 have h4 := pairwise_length (s := 0) h3 (fun x hx => hr x (sortI_mem.1 hx)) (by omega)
 rw [sortI_length] at h4
 omega
def an_heap1 : LoopGen := { rd := [.own 30 95 ty_Spot, .dat 0 (.arr ty_W)], A := fun ((l, a) : List Spot × List Int) => { cs := [.boxS 24 [.dat (.arr ty_W), .mpc 22, .own 3 ty_I], .map 22 .i64 ty_Head, .dat 32 ty_I], inv := fun ((b, m, i) : (List Int × Unit × List Int) × List (Int × Head) × Int) => 0 ≤ i ∧ i ≤ l.length ∧ b.1 = a ∧ b.2.2 = beginsL (l.take i.toNat) ∧ headsFrom m (l.drop i.toNat) = headsL l, mu := fun ((_, _, i) : (List Int × Unit × List Int) × List (Int × Head) × Int) => (l.length - i).toNat } }
def an_heap2 : LoopGen := { rd := [.dat 60 (.arr ty_I), .map 22 .i64 ty_Head], A := fun ((f, m) : List Int × List (Int × Head)) => { cs := [.dat 62 ty_I], inv := fun (i : Int) => 0 ≤ i ∧ i ≤ f.length ∧ ((f.drop i.toNat).all fun x => (mget m x).isSome) = (f.all fun x => (mget m x).isSome), mu := fun (i : Int) => (f.length - i).toNat } }
def an_reach : Nat → Option LoopGen
 | 3000158 => some an_in
 | 3000160 => some an_in
 | 3000159 => some an_in
 | 15900000007 => some an_heap1
 | 15900000014 => some an_heap2
 | 8 => some { rd := [.dat 25 (.arr ty_I)], A := fun (f : List Int) => { cs := [.map 23 .i64 .bool, .boxS 9 [.own 3 ty_I], .dat 27 ty_I], inv := fun ((m, o, i) : List (Int × Bool) × List Int × Int) => 0 ≤ i ∧ i ≤ f.length ∧ Seen m o ∧ (∀ x ∈ f.take i.toNat, x ∈ o) ∧ (∀ x ∈ o, x ∈ f), mu := fun ((_, _, i) : List (Int × Bool) × List Int × Int) => (f.length - i).toNat } }
 | 13 => some { rd := [.dat 0 (.arr ty_W), .dat 1 (.arr ty_I)], A := fun ((a, f) : List Int × List Int) => { cs := [.map 23 .i64 .bool, .boxS 9 [.own 3 ty_I], .dat 13 ty_I], inv := fun ((m, o, i) : List (Int × Bool) × List Int × Int) => 0 ≤ i ∧ i ≤ o.length ∧ Seen m o ∧ (∀ x ∈ f, x ∈ o) ∧ (∀ x ∈ o, Rch a f x) ∧ (∀ x ∈ o.take i.toNat, ∀ y ∈ outsA a x, y ∈ o), mu := fun ((_, _, i) : List (Int × Bool) × List Int × Int) => (256 - i).toNat } }
 | 16100000001 => some { rd := [.dat 24 (.arr ty_W), .boxS 9900000 [.own 3 ty_I]], A := fun ((rs, o0) : List Int × List Int) => { cs := [.map 23900000 .i64 .bool, .boxS 9900000 [.own 3 ty_I], .dat 26 ty_I], inv := fun ((m, o, j) : List (Int × Bool) × List Int × Int) => 0 ≤ j ∧ j ≤ rs.length ∧ Seen m o ∧ (∃ k, o = o0 ++ k ∧ ∀ x ∈ k, x + 1 ∈ rs ∧ x + 1 ≠ 0) ∧ (∀ v ∈ rs.take j.toNat, v ≠ 0 → v - 1 ∈ o), mu := fun ((_, _, j) : List (Int × Bool) × List Int × Int) => (rs.length - j).toNat } }
 | _ => none
def sp_reach : Spec := { Ts := [.arr ty_W, .arr ty_I], Rs := [.own 3 ty_I, .dat ty_I], pre := fun _ => True, F := fun ((a, f) : List Int × List Int) => reachF a f }
def pv_reach : Prop :=
  ∀ (x : List Int × List Int), ((x.fst.length * (8 : Nat) ≤ big ∧ ∀ (x_1 : Int), x_1 ∈ x.fst → InR IntKind.u64 x_1) ∧ x.snd.length * (8 : Nat) ≤ big ∧ ∀ (x_1 : Int), x_1 ∈ x.snd → InR IntKind.i64 x_1) → True → ∀ (_ : Array Value), True ∧ (decide ((checkF x.fst).snd.snd ≠ (0 : Int)) = true → (decide ((checkF x.fst).snd.snd ≠ (0 : Int)) = true → ([] : List Int) = (reachF x.fst x.snd).fst ∧ (checkF x.fst).snd.snd = (reachF x.fst x.snd).snd ∧ True) ∧ (decide ((checkF x.fst).snd.snd ≠ (0 : Int)) = false → ((0 : Int) ≤ (0 : Int) ∧ (0 : Int) ≤ (↑x.snd.length : Int) ∧ Seen ([] : List (Int × Bool)) ([] : List Int) ∧ (∀ (x_1 : Int), x_1 ∈ List.take (Int.toNat (0 : Int)) x.snd → x_1 ∈ ([] : List Int)) ∧ ∀ (x_1 : Int), x_1 ∈ ([] : List Int) → x_1 ∈ x.snd) ∧ ∀ (x_1 : List (Int × Bool) × List Int × Int), ((0 : Int) ≤ x_1.snd.snd ∧ x_1.snd.snd ≤ (↑x.snd.length : Int) ∧ Seen x_1.fst x_1.snd.fst ∧ (∀ (x_2 : Int), x_2 ∈ List.take x_1.snd.snd.toNat x.snd → x_2 ∈ x_1.snd.fst) ∧ ∀ (x_2 : Int), x_2 ∈ x_1.snd.fst → x_2 ∈ x.snd) → (decide (x_1.snd.snd < (↑x.snd.length : Int)) = true → (0 : Int) ≤ x_1.snd.snd ∧ x_1.snd.snd < (↑x.snd.length : Int) ∧ ∀ (_ : Array Value), ((!(mget x_1.fst (x.snd.getD x_1.snd.snd.toNat (0 : Int))).getD false) = true → (x_1.snd.fst.length + [x.snd.getD x_1.snd.snd.toNat (0 : Int)].length) * (8 : Nat) ≤ big ∧ InR IntKind.i64 (x_1.snd.snd + (1 : Int)) ∧ ((0 : Int) ≤ x_1.snd.snd + (1 : Int) ∧ x_1.snd.snd + (1 : Int) ≤ (↑x.snd.length : Int) ∧ Seen (mput x_1.fst (x.snd.getD x_1.snd.snd.toNat (0 : Int)) true) (x_1.snd.fst ++ [x.snd.getD x_1.snd.snd.toNat (0 : Int)]) ∧ (∀ (x_2 : Int), x_2 ∈ List.take (x_1.snd.snd + (1 : Int)).toNat x.snd → x_2 ∈ x_1.snd.fst ++ [x.snd.getD x_1.snd.snd.toNat (0 : Int)]) ∧ ∀ (x_2 : Int), x_2 ∈ x_1.snd.fst ++ [x.snd.getD x_1.snd.snd.toNat (0 : Int)] → x_2 ∈ x.snd) ∧ ((↑x.snd.length : Int) - (x_1.snd.snd + (1 : Int))).toNat < ((↑x.snd.length : Int) - x_1.snd.snd).toNat) ∧ ((!(mget x_1.fst (x.snd.getD x_1.snd.snd.toNat (0 : Int))).getD false) = false → InR IntKind.i64 (x_1.snd.snd + (1 : Int)) ∧ ((0 : Int) ≤ x_1.snd.snd + (1 : Int) ∧ x_1.snd.snd + (1 : Int) ≤ (↑x.snd.length : Int) ∧ Seen x_1.fst x_1.snd.fst ∧ (∀ (x_2 : Int), x_2 ∈ List.take (x_1.snd.snd + (1 : Int)).toNat x.snd → x_2 ∈ x_1.snd.fst) ∧ ∀ (x_2 : Int), x_2 ∈ x_1.snd.fst → x_2 ∈ x.snd) ∧ ((↑x.snd.length : Int) - (x_1.snd.snd + (1 : Int))).toNat < ((↑x.snd.length : Int) - x_1.snd.snd).toNat)) ∧ (decide (x_1.snd.snd < (↑x.snd.length : Int)) = false → ((0 : Int) ≤ (0 : Int) ∧ (0 : Int) ≤ (↑x_1.snd.fst.length : Int) ∧ Seen x_1.fst x_1.snd.fst ∧ (∀ (x_2 : Int), x_2 ∈ x.snd → x_2 ∈ x_1.snd.fst) ∧ (∀ (x_2 : Int), x_2 ∈ x_1.snd.fst → Rch x.fst x.snd x_2) ∧ ∀ (x_2 : Int), x_2 ∈ List.take (Int.toNat (0 : Int)) x_1.snd.fst → ∀ (y : Int), y ∈ outsA x.fst x_2 → y ∈ x_1.snd.fst) ∧ ∀ (x_2 : List (Int × Bool) × List Int × Int), ((0 : Int) ≤ x_2.snd.snd ∧ x_2.snd.snd ≤ (↑x_2.snd.fst.length : Int) ∧ Seen x_2.fst x_2.snd.fst ∧ (∀ (x_3 : Int), x_3 ∈ x.snd → x_3 ∈ x_2.snd.fst) ∧ (∀ (x_3 : Int), x_3 ∈ x_2.snd.fst → Rch x.fst x.snd x_3) ∧ ∀ (x_3 : Int), x_3 ∈ List.take x_2.snd.snd.toNat x_2.snd.fst → ∀ (y : Int), y ∈ outsA x.fst x_3 → y ∈ x_2.snd.fst) → (decide (x_2.snd.snd < (↑x_2.snd.fst.length : Int)) = true → (0 : Int) ≤ x_2.snd.snd ∧ x_2.snd.snd < (↑x_2.snd.fst.length : Int) ∧ x_2.snd.snd.toNat < x_2.snd.fst.length ∧ ∀ (_ : Array Value), False) ∧ (decide (x_2.snd.snd < (↑x_2.snd.fst.length : Int)) = false → True ∧ sortI x_2.snd.fst = (reachF x.fst x.snd).fst ∧ (0 : Int) = (reachF x.fst x.snd).snd ∧ True)))) ∧ (decide ((checkF x.fst).snd.snd ≠ (0 : Int)) = false → True ∧ ((0 : Int) ≤ (0 : Int) ∧ (0 : Int) ≤ (↑(spotsF x.fst).fst.length : Int) ∧ x.fst = x.fst ∧ ((), ([] : List Int)).snd = beginsL (List.take (Int.toNat (0 : Int)) (spotsF x.fst).fst) ∧ headsFrom ([] : List (Int × Int × Int × Int × Bool)) (List.drop (Int.toNat (0 : Int)) (spotsF x.fst).fst) = headsL (spotsF x.fst).fst) ∧ ∀ (x_1 : (List Int × Unit × List Int) × List (Int × Int × Int × Int × Bool) × Int), (0 : Int) ≤ x_1.snd.snd ∧ x_1.snd.snd ≤ (↑(spotsF x.fst).fst.length : Int) ∧ x_1.fst.fst = x.fst ∧ x_1.fst.snd.snd = beginsL (List.take x_1.snd.snd.toNat (spotsF x.fst).fst) ∧ headsFrom x_1.snd.fst (List.drop x_1.snd.snd.toNat (spotsF x.fst).fst) = headsL (spotsF x.fst).fst → (decide (x_1.snd.snd < (↑(spotsF x.fst).fst.length : Int)) = true → (0 : Int) ≤ x_1.snd.snd ∧ x_1.snd.snd < (↑(spotsF x.fst).fst.length : Int) ∧ x_1.snd.snd.toNat < (spotsF x.fst).fst.length ∧ ((!((spotsF x.fst).fst.getD x_1.snd.snd.toNat ((0 : Int), (0 : Int), (0 : Int), (0 : Int), false)).snd.snd.snd.snd) = true → (x_1.fst.snd.snd.length + [((spotsF x.fst).fst.getD x_1.snd.snd.toNat ((0 : Int), (0 : Int), (0 : Int), (0 : Int), false)).fst].length) * (8 : Nat) ≤ big ∧ InR IntKind.i64 (x_1.snd.snd + (1 : Int)) ∧ ((0 : Int) ≤ x_1.snd.snd + (1 : Int) ∧ x_1.snd.snd + (1 : Int) ≤ (↑(spotsF x.fst).fst.length : Int) ∧ x_1.fst.fst = x.fst ∧ ((), x_1.fst.snd.snd ++ [((spotsF x.fst).fst.getD x_1.snd.snd.toNat ((0 : Int), (0 : Int), (0 : Int), (0 : Int), false)).fst]).snd = beginsL (List.take (x_1.snd.snd + (1 : Int)).toNat (spotsF x.fst).fst) ∧ headsFrom (mput x_1.snd.fst ((spotsF x.fst).fst.getD x_1.snd.snd.toNat ((0 : Int), (0 : Int), (0 : Int), (0 : Int), false)).fst ((spotsF x.fst).fst.getD x_1.snd.snd.toNat ((0 : Int), (0 : Int), (0 : Int), (0 : Int), false)).snd) (List.drop (x_1.snd.snd + (1 : Int)).toNat (spotsF x.fst).fst) = headsL (spotsF x.fst).fst) ∧ ((↑(spotsF x.fst).fst.length : Int) - (x_1.snd.snd + (1 : Int))).toNat < ((↑(spotsF x.fst).fst.length : Int) - x_1.snd.snd).toNat) ∧ ((!((spotsF x.fst).fst.getD x_1.snd.snd.toNat ((0 : Int), (0 : Int), (0 : Int), (0 : Int), false)).snd.snd.snd.snd) = false → InR IntKind.i64 (x_1.snd.snd + (1 : Int)) ∧ ((0 : Int) ≤ x_1.snd.snd + (1 : Int) ∧ x_1.snd.snd + (1 : Int) ≤ (↑(spotsF x.fst).fst.length : Int) ∧ x_1.fst.fst = x.fst ∧ ((), x_1.fst.snd.snd).snd = beginsL (List.take (x_1.snd.snd + (1 : Int)).toNat (spotsF x.fst).fst) ∧ headsFrom x_1.snd.fst (List.drop (x_1.snd.snd + (1 : Int)).toNat (spotsF x.fst).fst) = headsL (spotsF x.fst).fst) ∧ ((↑(spotsF x.fst).fst.length : Int) - (x_1.snd.snd + (1 : Int))).toNat < ((↑(spotsF x.fst).fst.length : Int) - x_1.snd.snd).toNat)) ∧ (decide (x_1.snd.snd < (↑(spotsF x.fst).fst.length : Int)) = false → ((0 : Int) ≤ (0 : Int) ∧ (0 : Int) ≤ (↑x.snd.length : Int) ∧ ((List.drop (Int.toNat (0 : Int)) x.snd).all fun (x : Int) => (mget x_1.snd.fst x).isSome) = x.snd.all fun (x : Int) => (mget x_1.snd.fst x).isSome) ∧ ∀ (x_2 : Int), ((0 : Int) ≤ x_2 ∧ x_2 ≤ (↑x.snd.length : Int) ∧ ((List.drop x_2.toNat x.snd).all fun (x : Int) => (mget x_1.snd.fst x).isSome) = x.snd.all fun (x : Int) => (mget x_1.snd.fst x).isSome) → (decide (x_2 < (↑x.snd.length : Int)) = true → (0 : Int) ≤ x_2 ∧ x_2 < (↑x.snd.length : Int) ∧ ((!(mget x_1.snd.fst (x.snd.getD x_2.toNat (0 : Int))).isSome) = true → (decide ((5 : Int) ≠ (0 : Int)) = true → ([] : List Int) = (reachF x.fst x.snd).fst ∧ (5 : Int) = (reachF x.fst x.snd).snd ∧ True) ∧ (decide ((5 : Int) ≠ (0 : Int)) = false → ((0 : Int) ≤ (0 : Int) ∧ (0 : Int) ≤ (↑x.snd.length : Int) ∧ Seen ([] : List (Int × Bool)) ([] : List Int) ∧ (∀ (x_3 : Int), x_3 ∈ List.take (Int.toNat (0 : Int)) x.snd → x_3 ∈ ([] : List Int)) ∧ ∀ (x_3 : Int), x_3 ∈ ([] : List Int) → x_3 ∈ x.snd) ∧ ∀ (x_3 : List (Int × Bool) × List Int × Int), ((0 : Int) ≤ x_3.snd.snd ∧ x_3.snd.snd ≤ (↑x.snd.length : Int) ∧ Seen x_3.fst x_3.snd.fst ∧ (∀ (x_4 : Int), x_4 ∈ List.take x_3.snd.snd.toNat x.snd → x_4 ∈ x_3.snd.fst) ∧ ∀ (x_4 : Int), x_4 ∈ x_3.snd.fst → x_4 ∈ x.snd) → (decide (x_3.snd.snd < (↑x.snd.length : Int)) = true → (0 : Int) ≤ x_3.snd.snd ∧ x_3.snd.snd < (↑x.snd.length : Int) ∧ ∀ (_ : Array Value), ((!(mget x_3.fst (x.snd.getD x_3.snd.snd.toNat (0 : Int))).getD false) = true → (x_3.snd.fst.length + [x.snd.getD x_3.snd.snd.toNat (0 : Int)].length) * (8 : Nat) ≤ big ∧ InR IntKind.i64 (x_3.snd.snd + (1 : Int)) ∧ ((0 : Int) ≤ x_3.snd.snd + (1 : Int) ∧ x_3.snd.snd + (1 : Int) ≤ (↑x.snd.length : Int) ∧ Seen (mput x_3.fst (x.snd.getD x_3.snd.snd.toNat (0 : Int)) true) (x_3.snd.fst ++ [x.snd.getD x_3.snd.snd.toNat (0 : Int)]) ∧ (∀ (x_4 : Int), x_4 ∈ List.take (x_3.snd.snd + (1 : Int)).toNat x.snd → x_4 ∈ x_3.snd.fst ++ [x.snd.getD x_3.snd.snd.toNat (0 : Int)]) ∧ ∀ (x_4 : Int), x_4 ∈ x_3.snd.fst ++ [x.snd.getD x_3.snd.snd.toNat (0 : Int)] → x_4 ∈ x.snd) ∧ ((↑x.snd.length : Int) - (x_3.snd.snd + (1 : Int))).toNat < ((↑x.snd.length : Int) - x_3.snd.snd).toNat) ∧ ((!(mget x_3.fst (x.snd.getD x_3.snd.snd.toNat (0 : Int))).getD false) = false → InR IntKind.i64 (x_3.snd.snd + (1 : Int)) ∧ ((0 : Int) ≤ x_3.snd.snd + (1 : Int) ∧ x_3.snd.snd + (1 : Int) ≤ (↑x.snd.length : Int) ∧ Seen x_3.fst x_3.snd.fst ∧ (∀ (x_4 : Int), x_4 ∈ List.take (x_3.snd.snd + (1 : Int)).toNat x.snd → x_4 ∈ x_3.snd.fst) ∧ ∀ (x_4 : Int), x_4 ∈ x_3.snd.fst → x_4 ∈ x.snd) ∧ ((↑x.snd.length : Int) - (x_3.snd.snd + (1 : Int))).toNat < ((↑x.snd.length : Int) - x_3.snd.snd).toNat)) ∧ (decide (x_3.snd.snd < (↑x.snd.length : Int)) = false → ((0 : Int) ≤ (0 : Int) ∧ (0 : Int) ≤ (↑x_3.snd.fst.length : Int) ∧ Seen x_3.fst x_3.snd.fst ∧ (∀ (x_4 : Int), x_4 ∈ x.snd → x_4 ∈ x_3.snd.fst) ∧ (∀ (x_4 : Int), x_4 ∈ x_3.snd.fst → Rch x.fst x.snd x_4) ∧ ∀ (x_4 : Int), x_4 ∈ List.take (Int.toNat (0 : Int)) x_3.snd.fst → ∀ (y : Int), y ∈ outsA x.fst x_4 → y ∈ x_3.snd.fst) ∧ ∀ (x_4 : List (Int × Bool) × List Int × Int), ((0 : Int) ≤ x_4.snd.snd ∧ x_4.snd.snd ≤ (↑x_4.snd.fst.length : Int) ∧ Seen x_4.fst x_4.snd.fst ∧ (∀ (x_5 : Int), x_5 ∈ x.snd → x_5 ∈ x_4.snd.fst) ∧ (∀ (x_5 : Int), x_5 ∈ x_4.snd.fst → Rch x.fst x.snd x_5) ∧ ∀ (x_5 : Int), x_5 ∈ List.take x_4.snd.snd.toNat x_4.snd.fst → ∀ (y : Int), y ∈ outsA x.fst x_5 → y ∈ x_4.snd.fst) → (decide (x_4.snd.snd < (↑x_4.snd.fst.length : Int)) = true → (0 : Int) ≤ x_4.snd.snd ∧ x_4.snd.snd < (↑x_4.snd.fst.length : Int) ∧ x_4.snd.snd.toNat < x_4.snd.fst.length ∧ ∀ (_ : Array Value), False) ∧ (decide (x_4.snd.snd < (↑x_4.snd.fst.length : Int)) = false → True ∧ sortI x_4.snd.fst = (reachF x.fst x.snd).fst ∧ (0 : Int) = (reachF x.fst x.snd).snd ∧ True)))) ∧ ((!(mget x_1.snd.fst (x.snd.getD x_2.toNat (0 : Int))).isSome) = false → InR IntKind.i64 (x_2 + (1 : Int)) ∧ ((0 : Int) ≤ x_2 + (1 : Int) ∧ x_2 + (1 : Int) ≤ (↑x.snd.length : Int) ∧ ((List.drop (x_2 + (1 : Int)).toNat x.snd).all fun (x : Int) => (mget x_1.snd.fst x).isSome) = x.snd.all fun (x : Int) => (mget x_1.snd.fst x).isSome) ∧ ((↑x.snd.length : Int) - (x_2 + (1 : Int))).toNat < ((↑x.snd.length : Int) - x_2).toNat)) ∧ (decide (x_2 < (↑x.snd.length : Int)) = false → (decide ((0 : Int) ≠ (0 : Int)) = true → ([] : List Int) = (reachF x.fst x.snd).fst ∧ (0 : Int) = (reachF x.fst x.snd).snd ∧ True) ∧ (decide ((0 : Int) ≠ (0 : Int)) = false → ((0 : Int) ≤ (0 : Int) ∧ (0 : Int) ≤ (↑x.snd.length : Int) ∧ Seen ([] : List (Int × Bool)) ([] : List Int) ∧ (∀ (x_3 : Int), x_3 ∈ List.take (Int.toNat (0 : Int)) x.snd → x_3 ∈ ([] : List Int)) ∧ ∀ (x_3 : Int), x_3 ∈ ([] : List Int) → x_3 ∈ x.snd) ∧ ∀ (x_3 : List (Int × Bool) × List Int × Int), ((0 : Int) ≤ x_3.snd.snd ∧ x_3.snd.snd ≤ (↑x.snd.length : Int) ∧ Seen x_3.fst x_3.snd.fst ∧ (∀ (x_4 : Int), x_4 ∈ List.take x_3.snd.snd.toNat x.snd → x_4 ∈ x_3.snd.fst) ∧ ∀ (x_4 : Int), x_4 ∈ x_3.snd.fst → x_4 ∈ x.snd) → (decide (x_3.snd.snd < (↑x.snd.length : Int)) = true → (0 : Int) ≤ x_3.snd.snd ∧ x_3.snd.snd < (↑x.snd.length : Int) ∧ ∀ (_ : Array Value), ((!(mget x_3.fst (x.snd.getD x_3.snd.snd.toNat (0 : Int))).getD false) = true → (x_3.snd.fst.length + [x.snd.getD x_3.snd.snd.toNat (0 : Int)].length) * (8 : Nat) ≤ big ∧ InR IntKind.i64 (x_3.snd.snd + (1 : Int)) ∧ ((0 : Int) ≤ x_3.snd.snd + (1 : Int) ∧ x_3.snd.snd + (1 : Int) ≤ (↑x.snd.length : Int) ∧ Seen (mput x_3.fst (x.snd.getD x_3.snd.snd.toNat (0 : Int)) true) (x_3.snd.fst ++ [x.snd.getD x_3.snd.snd.toNat (0 : Int)]) ∧ (∀ (x_4 : Int), x_4 ∈ List.take (x_3.snd.snd + (1 : Int)).toNat x.snd → x_4 ∈ x_3.snd.fst ++ [x.snd.getD x_3.snd.snd.toNat (0 : Int)]) ∧ ∀ (x_4 : Int), x_4 ∈ x_3.snd.fst ++ [x.snd.getD x_3.snd.snd.toNat (0 : Int)] → x_4 ∈ x.snd) ∧ ((↑x.snd.length : Int) - (x_3.snd.snd + (1 : Int))).toNat < ((↑x.snd.length : Int) - x_3.snd.snd).toNat) ∧ ((!(mget x_3.fst (x.snd.getD x_3.snd.snd.toNat (0 : Int))).getD false) = false → InR IntKind.i64 (x_3.snd.snd + (1 : Int)) ∧ ((0 : Int) ≤ x_3.snd.snd + (1 : Int) ∧ x_3.snd.snd + (1 : Int) ≤ (↑x.snd.length : Int) ∧ Seen x_3.fst x_3.snd.fst ∧ (∀ (x_4 : Int), x_4 ∈ List.take (x_3.snd.snd + (1 : Int)).toNat x.snd → x_4 ∈ x_3.snd.fst) ∧ ∀ (x_4 : Int), x_4 ∈ x_3.snd.fst → x_4 ∈ x.snd) ∧ ((↑x.snd.length : Int) - (x_3.snd.snd + (1 : Int))).toNat < ((↑x.snd.length : Int) - x_3.snd.snd).toNat)) ∧ (decide (x_3.snd.snd < (↑x.snd.length : Int)) = false → ((0 : Int) ≤ (0 : Int) ∧ (0 : Int) ≤ (↑x_3.snd.fst.length : Int) ∧ Seen x_3.fst x_3.snd.fst ∧ (∀ (x_4 : Int), x_4 ∈ x.snd → x_4 ∈ x_3.snd.fst) ∧ (∀ (x_4 : Int), x_4 ∈ x_3.snd.fst → Rch x.fst x.snd x_4) ∧ ∀ (x_4 : Int), x_4 ∈ List.take (Int.toNat (0 : Int)) x_3.snd.fst → ∀ (y : Int), y ∈ outsA x.fst x_4 → y ∈ x_3.snd.fst) ∧ ∀ (x_4 : List (Int × Bool) × List Int × Int), ((0 : Int) ≤ x_4.snd.snd ∧ x_4.snd.snd ≤ (↑x_4.snd.fst.length : Int) ∧ Seen x_4.fst x_4.snd.fst ∧ (∀ (x_5 : Int), x_5 ∈ x.snd → x_5 ∈ x_4.snd.fst) ∧ (∀ (x_5 : Int), x_5 ∈ x_4.snd.fst → Rch x.fst x.snd x_5) ∧ ∀ (x_5 : Int), x_5 ∈ List.take x_4.snd.snd.toNat x_4.snd.fst → ∀ (y : Int), y ∈ outsA x.fst x_5 → y ∈ x_4.snd.fst) → (decide (x_4.snd.snd < (↑x_4.snd.fst.length : Int)) = true → (0 : Int) ≤ x_4.snd.snd ∧ x_4.snd.snd < (↑x_4.snd.fst.length : Int) ∧ x_4.snd.snd.toNat < x_4.snd.fst.length ∧ ∀ (_ : Array Value), InR IntKind.i64 (x_4.snd.fst.getD x_4.snd.snd.toNat (0 : Int) + (1 : Int)) ∧ InR IntKind.i64 (x_4.snd.fst.getD x_4.snd.snd.toNat (0 : Int) + (1 : Int)) ∧ InR IntKind.i64 (x_4.snd.fst.getD x_4.snd.snd.toNat (0 : Int) + (1 : Int) + ((mget x_1.snd.fst (x_4.snd.fst.getD x_4.snd.snd.toNat (0 : Int))).getD ((0 : Int), (0 : Int), (0 : Int), false)).fst) ∧ (0 : Int) ≤ x_4.snd.fst.getD x_4.snd.snd.toNat (0 : Int) + (1 : Int) ∧ x_4.snd.fst.getD x_4.snd.snd.toNat (0 : Int) + (1 : Int) ≤ x_4.snd.fst.getD x_4.snd.snd.toNat (0 : Int) + (1 : Int) + ((mget x_1.snd.fst (x_4.snd.fst.getD x_4.snd.snd.toNat (0 : Int))).getD ((0 : Int), (0 : Int), (0 : Int), false)).fst ∧ x_4.snd.fst.getD x_4.snd.snd.toNat (0 : Int) + (1 : Int) + ((mget x_1.snd.fst (x_4.snd.fst.getD x_4.snd.snd.toNat (0 : Int))).getD ((0 : Int), (0 : Int), (0 : Int), false)).fst ≤ (↑x_1.fst.fst.length : Int) ∧ ((0 : Int) ≤ (0 : Int) ∧ (0 : Int) ≤ (↑(List.drop (x_4.snd.fst.getD x_4.snd.snd.toNat (0 : Int) + (1 : Int)).toNat (List.take (x_4.snd.fst.getD x_4.snd.snd.toNat (0 : Int) + (1 : Int) + ((mget x_1.snd.fst (x_4.snd.fst.getD x_4.snd.snd.toNat (0 : Int))).getD ((0 : Int), (0 : Int), (0 : Int), false)).fst).toNat x_1.fst.fst)).length : Int) ∧ Seen x_4.fst x_4.snd.fst ∧ (∃ (k : List Int), x_4.snd.fst = x_4.snd.fst ++ k ∧ ∀ (x : Int), x ∈ k → x + (1 : Int) ∈ List.drop (x_4.snd.fst.getD x_4.snd.snd.toNat (0 : Int) + (1 : Int)).toNat (List.take (x_4.snd.fst.getD x_4.snd.snd.toNat (0 : Int) + (1 : Int) + ((mget x_1.snd.fst (x_4.snd.fst.getD x_4.snd.snd.toNat (0 : Int))).getD ((0 : Int), (0 : Int), (0 : Int), false)).fst).toNat x_1.fst.fst) ∧ x + (1 : Int) ≠ (0 : Int)) ∧ ∀ (v : Int), v ∈ List.take (Int.toNat (0 : Int)) (List.drop (x_4.snd.fst.getD x_4.snd.snd.toNat (0 : Int) + (1 : Int)).toNat (List.take (x_4.snd.fst.getD x_4.snd.snd.toNat (0 : Int) + (1 : Int) + ((mget x_1.snd.fst (x_4.snd.fst.getD x_4.snd.snd.toNat (0 : Int))).getD ((0 : Int), (0 : Int), (0 : Int), false)).fst).toNat x_1.fst.fst)) → v ≠ (0 : Int) → v - (1 : Int) ∈ x_4.snd.fst) ∧ ∀ (x_5 : List (Int × Bool) × List Int × Int), ((0 : Int) ≤ x_5.snd.snd ∧ x_5.snd.snd ≤ (↑(List.drop (x_4.snd.fst.getD x_4.snd.snd.toNat (0 : Int) + (1 : Int)).toNat (List.take (x_4.snd.fst.getD x_4.snd.snd.toNat (0 : Int) + (1 : Int) + ((mget x_1.snd.fst (x_4.snd.fst.getD x_4.snd.snd.toNat (0 : Int))).getD ((0 : Int), (0 : Int), (0 : Int), false)).fst).toNat x_1.fst.fst)).length : Int) ∧ Seen x_5.fst x_5.snd.fst ∧ (∃ (k : List Int), x_5.snd.fst = x_4.snd.fst ++ k ∧ ∀ (x : Int), x ∈ k → x + (1 : Int) ∈ List.drop (x_4.snd.fst.getD x_4.snd.snd.toNat (0 : Int) + (1 : Int)).toNat (List.take (x_4.snd.fst.getD x_4.snd.snd.toNat (0 : Int) + (1 : Int) + ((mget x_1.snd.fst (x_4.snd.fst.getD x_4.snd.snd.toNat (0 : Int))).getD ((0 : Int), (0 : Int), (0 : Int), false)).fst).toNat x_1.fst.fst) ∧ x + (1 : Int) ≠ (0 : Int)) ∧ ∀ (v : Int), v ∈ List.take x_5.snd.snd.toNat (List.drop (x_4.snd.fst.getD x_4.snd.snd.toNat (0 : Int) + (1 : Int)).toNat (List.take (x_4.snd.fst.getD x_4.snd.snd.toNat (0 : Int) + (1 : Int) + ((mget x_1.snd.fst (x_4.snd.fst.getD x_4.snd.snd.toNat (0 : Int))).getD ((0 : Int), (0 : Int), (0 : Int), false)).fst).toNat x_1.fst.fst)) → v ≠ (0 : Int) → v - (1 : Int) ∈ x_5.snd.fst) → (decide (x_5.snd.snd < (↑(List.drop (x_4.snd.fst.getD x_4.snd.snd.toNat (0 : Int) + (1 : Int)).toNat (List.take (x_4.snd.fst.getD x_4.snd.snd.toNat (0 : Int) + (1 : Int) + ((mget x_1.snd.fst (x_4.snd.fst.getD x_4.snd.snd.toNat (0 : Int))).getD ((0 : Int), (0 : Int), (0 : Int), false)).fst).toNat x_1.fst.fst)).length : Int)) = true → (0 : Int) ≤ x_5.snd.snd ∧ x_5.snd.snd < (↑(List.drop (x_4.snd.fst.getD x_4.snd.snd.toNat (0 : Int) + (1 : Int)).toNat (List.take (x_4.snd.fst.getD x_4.snd.snd.toNat (0 : Int) + (1 : Int) + ((mget x_1.snd.fst (x_4.snd.fst.getD x_4.snd.snd.toNat (0 : Int))).getD ((0 : Int), (0 : Int), (0 : Int), false)).fst).toNat x_1.fst.fst)).length : Int) ∧ (decide ((List.drop (x_4.snd.fst.getD x_4.snd.snd.toNat (0 : Int) + (1 : Int)).toNat (List.take (x_4.snd.fst.getD x_4.snd.snd.toNat (0 : Int) + (1 : Int) + ((mget x_1.snd.fst (x_4.snd.fst.getD x_4.snd.snd.toNat (0 : Int))).getD ((0 : Int), (0 : Int), (0 : Int), false)).fst).toNat x_1.fst.fst)).getD x_5.snd.snd.toNat (0 : Int) ≠ (0 : Int)) = true → InR IntKind.i64 (IntKind.i64.wrap ((List.drop (x_4.snd.fst.getD x_4.snd.snd.toNat (0 : Int) + (1 : Int)).toNat (List.take (x_4.snd.fst.getD x_4.snd.snd.toNat (0 : Int) + (1 : Int) + ((mget x_1.snd.fst (x_4.snd.fst.getD x_4.snd.snd.toNat (0 : Int))).getD ((0 : Int), (0 : Int), (0 : Int), false)).fst).toNat x_1.fst.fst)).getD x_5.snd.snd.toNat (0 : Int)) - (1 : Int)) ∧ ∀ (_ : Array Value), ((!(mget x_5.fst (IntKind.i64.wrap ((List.drop (x_4.snd.fst.getD x_4.snd.snd.toNat (0 : Int) + (1 : Int)).toNat (List.take (x_4.snd.fst.getD x_4.snd.snd.toNat (0 : Int) + (1 : Int) + ((mget x_1.snd.fst (x_4.snd.fst.getD x_4.snd.snd.toNat (0 : Int))).getD ((0 : Int), (0 : Int), (0 : Int), false)).fst).toNat x_1.fst.fst)).getD x_5.snd.snd.toNat (0 : Int)) - (1 : Int))).getD false) = true → (x_5.snd.fst.length + [IntKind.i64.wrap ((List.drop (x_4.snd.fst.getD x_4.snd.snd.toNat (0 : Int) + (1 : Int)).toNat (List.take (x_4.snd.fst.getD x_4.snd.snd.toNat (0 : Int) + (1 : Int) + ((mget x_1.snd.fst (x_4.snd.fst.getD x_4.snd.snd.toNat (0 : Int))).getD ((0 : Int), (0 : Int), (0 : Int), false)).fst).toNat x_1.fst.fst)).getD x_5.snd.snd.toNat (0 : Int)) - (1 : Int)].length) * (8 : Nat) ≤ big ∧ InR IntKind.i64 (x_5.snd.snd + (1 : Int)) ∧ ((0 : Int) ≤ x_5.snd.snd + (1 : Int) ∧ x_5.snd.snd + (1 : Int) ≤ (↑(List.drop (x_4.snd.fst.getD x_4.snd.snd.toNat (0 : Int) + (1 : Int)).toNat (List.take (x_4.snd.fst.getD x_4.snd.snd.toNat (0 : Int) + (1 : Int) + ((mget x_1.snd.fst (x_4.snd.fst.getD x_4.snd.snd.toNat (0 : Int))).getD ((0 : Int), (0 : Int), (0 : Int), false)).fst).toNat x_1.fst.fst)).length : Int) ∧ Seen (mput x_5.fst (IntKind.i64.wrap ((List.drop (x_4.snd.fst.getD x_4.snd.snd.toNat (0 : Int) + (1 : Int)).toNat (List.take (x_4.snd.fst.getD x_4.snd.snd.toNat (0 : Int) + (1 : Int) + ((mget x_1.snd.fst (x_4.snd.fst.getD x_4.snd.snd.toNat (0 : Int))).getD ((0 : Int), (0 : Int), (0 : Int), false)).fst).toNat x_1.fst.fst)).getD x_5.snd.snd.toNat (0 : Int)) - (1 : Int)) true) (x_5.snd.fst ++ [IntKind.i64.wrap ((List.drop (x_4.snd.fst.getD x_4.snd.snd.toNat (0 : Int) + (1 : Int)).toNat (List.take (x_4.snd.fst.getD x_4.snd.snd.toNat (0 : Int) + (1 : Int) + ((mget x_1.snd.fst (x_4.snd.fst.getD x_4.snd.snd.toNat (0 : Int))).getD ((0 : Int), (0 : Int), (0 : Int), false)).fst).toNat x_1.fst.fst)).getD x_5.snd.snd.toNat (0 : Int)) - (1 : Int)]) ∧ (∃ (k : List Int), x_5.snd.fst ++ [IntKind.i64.wrap ((List.drop (x_4.snd.fst.getD x_4.snd.snd.toNat (0 : Int) + (1 : Int)).toNat (List.take (x_4.snd.fst.getD x_4.snd.snd.toNat (0 : Int) + (1 : Int) + ((mget x_1.snd.fst (x_4.snd.fst.getD x_4.snd.snd.toNat (0 : Int))).getD ((0 : Int), (0 : Int), (0 : Int), false)).fst).toNat x_1.fst.fst)).getD x_5.snd.snd.toNat (0 : Int)) - (1 : Int)] = x_4.snd.fst ++ k ∧ ∀ (x : Int), x ∈ k → x + (1 : Int) ∈ List.drop (x_4.snd.fst.getD x_4.snd.snd.toNat (0 : Int) + (1 : Int)).toNat (List.take (x_4.snd.fst.getD x_4.snd.snd.toNat (0 : Int) + (1 : Int) + ((mget x_1.snd.fst (x_4.snd.fst.getD x_4.snd.snd.toNat (0 : Int))).getD ((0 : Int), (0 : Int), (0 : Int), false)).fst).toNat x_1.fst.fst) ∧ x + (1 : Int) ≠ (0 : Int)) ∧ ∀ (v : Int), v ∈ List.take (x_5.snd.snd + (1 : Int)).toNat (List.drop (x_4.snd.fst.getD x_4.snd.snd.toNat (0 : Int) + (1 : Int)).toNat (List.take (x_4.snd.fst.getD x_4.snd.snd.toNat (0 : Int) + (1 : Int) + ((mget x_1.snd.fst (x_4.snd.fst.getD x_4.snd.snd.toNat (0 : Int))).getD ((0 : Int), (0 : Int), (0 : Int), false)).fst).toNat x_1.fst.fst)) → v ≠ (0 : Int) → v - (1 : Int) ∈ x_5.snd.fst ++ [IntKind.i64.wrap ((List.drop (x_4.snd.fst.getD x_4.snd.snd.toNat (0 : Int) + (1 : Int)).toNat (List.take (x_4.snd.fst.getD x_4.snd.snd.toNat (0 : Int) + (1 : Int) + ((mget x_1.snd.fst (x_4.snd.fst.getD x_4.snd.snd.toNat (0 : Int))).getD ((0 : Int), (0 : Int), (0 : Int), false)).fst).toNat x_1.fst.fst)).getD x_5.snd.snd.toNat (0 : Int)) - (1 : Int)]) ∧ ((↑(List.drop (x_4.snd.fst.getD x_4.snd.snd.toNat (0 : Int) + (1 : Int)).toNat (List.take (x_4.snd.fst.getD x_4.snd.snd.toNat (0 : Int) + (1 : Int) + ((mget x_1.snd.fst (x_4.snd.fst.getD x_4.snd.snd.toNat (0 : Int))).getD ((0 : Int), (0 : Int), (0 : Int), false)).fst).toNat x_1.fst.fst)).length : Int) - (x_5.snd.snd + (1 : Int))).toNat < ((↑(List.drop (x_4.snd.fst.getD x_4.snd.snd.toNat (0 : Int) + (1 : Int)).toNat (List.take (x_4.snd.fst.getD x_4.snd.snd.toNat (0 : Int) + (1 : Int) + ((mget x_1.snd.fst (x_4.snd.fst.getD x_4.snd.snd.toNat (0 : Int))).getD ((0 : Int), (0 : Int), (0 : Int), false)).fst).toNat x_1.fst.fst)).length : Int) - x_5.snd.snd).toNat) ∧ ((!(mget x_5.fst (IntKind.i64.wrap ((List.drop (x_4.snd.fst.getD x_4.snd.snd.toNat (0 : Int) + (1 : Int)).toNat (List.take (x_4.snd.fst.getD x_4.snd.snd.toNat (0 : Int) + (1 : Int) + ((mget x_1.snd.fst (x_4.snd.fst.getD x_4.snd.snd.toNat (0 : Int))).getD ((0 : Int), (0 : Int), (0 : Int), false)).fst).toNat x_1.fst.fst)).getD x_5.snd.snd.toNat (0 : Int)) - (1 : Int))).getD false) = false → InR IntKind.i64 (x_5.snd.snd + (1 : Int)) ∧ ((0 : Int) ≤ x_5.snd.snd + (1 : Int) ∧ x_5.snd.snd + (1 : Int) ≤ (↑(List.drop (x_4.snd.fst.getD x_4.snd.snd.toNat (0 : Int) + (1 : Int)).toNat (List.take (x_4.snd.fst.getD x_4.snd.snd.toNat (0 : Int) + (1 : Int) + ((mget x_1.snd.fst (x_4.snd.fst.getD x_4.snd.snd.toNat (0 : Int))).getD ((0 : Int), (0 : Int), (0 : Int), false)).fst).toNat x_1.fst.fst)).length : Int) ∧ Seen x_5.fst x_5.snd.fst ∧ (∃ (k : List Int), x_5.snd.fst = x_4.snd.fst ++ k ∧ ∀ (x : Int), x ∈ k → x + (1 : Int) ∈ List.drop (x_4.snd.fst.getD x_4.snd.snd.toNat (0 : Int) + (1 : Int)).toNat (List.take (x_4.snd.fst.getD x_4.snd.snd.toNat (0 : Int) + (1 : Int) + ((mget x_1.snd.fst (x_4.snd.fst.getD x_4.snd.snd.toNat (0 : Int))).getD ((0 : Int), (0 : Int), (0 : Int), false)).fst).toNat x_1.fst.fst) ∧ x + (1 : Int) ≠ (0 : Int)) ∧ ∀ (v : Int), v ∈ List.take (x_5.snd.snd + (1 : Int)).toNat (List.drop (x_4.snd.fst.getD x_4.snd.snd.toNat (0 : Int) + (1 : Int)).toNat (List.take (x_4.snd.fst.getD x_4.snd.snd.toNat (0 : Int) + (1 : Int) + ((mget x_1.snd.fst (x_4.snd.fst.getD x_4.snd.snd.toNat (0 : Int))).getD ((0 : Int), (0 : Int), (0 : Int), false)).fst).toNat x_1.fst.fst)) → v ≠ (0 : Int) → v - (1 : Int) ∈ x_5.snd.fst) ∧ ((↑(List.drop (x_4.snd.fst.getD x_4.snd.snd.toNat (0 : Int) + (1 : Int)).toNat (List.take (x_4.snd.fst.getD x_4.snd.snd.toNat (0 : Int) + (1 : Int) + ((mget x_1.snd.fst (x_4.snd.fst.getD x_4.snd.snd.toNat (0 : Int))).getD ((0 : Int), (0 : Int), (0 : Int), false)).fst).toNat x_1.fst.fst)).length : Int) - (x_5.snd.snd + (1 : Int))).toNat < ((↑(List.drop (x_4.snd.fst.getD x_4.snd.snd.toNat (0 : Int) + (1 : Int)).toNat (List.take (x_4.snd.fst.getD x_4.snd.snd.toNat (0 : Int) + (1 : Int) + ((mget x_1.snd.fst (x_4.snd.fst.getD x_4.snd.snd.toNat (0 : Int))).getD ((0 : Int), (0 : Int), (0 : Int), false)).fst).toNat x_1.fst.fst)).length : Int) - x_5.snd.snd).toNat)) ∧ (decide ((List.drop (x_4.snd.fst.getD x_4.snd.snd.toNat (0 : Int) + (1 : Int)).toNat (List.take (x_4.snd.fst.getD x_4.snd.snd.toNat (0 : Int) + (1 : Int) + ((mget x_1.snd.fst (x_4.snd.fst.getD x_4.snd.snd.toNat (0 : Int))).getD ((0 : Int), (0 : Int), (0 : Int), false)).fst).toNat x_1.fst.fst)).getD x_5.snd.snd.toNat (0 : Int) ≠ (0 : Int)) = false → InR IntKind.i64 (x_5.snd.snd + (1 : Int)) ∧ ((0 : Int) ≤ x_5.snd.snd + (1 : Int) ∧ x_5.snd.snd + (1 : Int) ≤ (↑(List.drop (x_4.snd.fst.getD x_4.snd.snd.toNat (0 : Int) + (1 : Int)).toNat (List.take (x_4.snd.fst.getD x_4.snd.snd.toNat (0 : Int) + (1 : Int) + ((mget x_1.snd.fst (x_4.snd.fst.getD x_4.snd.snd.toNat (0 : Int))).getD ((0 : Int), (0 : Int), (0 : Int), false)).fst).toNat x_1.fst.fst)).length : Int) ∧ Seen x_5.fst x_5.snd.fst ∧ (∃ (k : List Int), x_5.snd.fst = x_4.snd.fst ++ k ∧ ∀ (x : Int), x ∈ k → x + (1 : Int) ∈ List.drop (x_4.snd.fst.getD x_4.snd.snd.toNat (0 : Int) + (1 : Int)).toNat (List.take (x_4.snd.fst.getD x_4.snd.snd.toNat (0 : Int) + (1 : Int) + ((mget x_1.snd.fst (x_4.snd.fst.getD x_4.snd.snd.toNat (0 : Int))).getD ((0 : Int), (0 : Int), (0 : Int), false)).fst).toNat x_1.fst.fst) ∧ x + (1 : Int) ≠ (0 : Int)) ∧ ∀ (v : Int), v ∈ List.take (x_5.snd.snd + (1 : Int)).toNat (List.drop (x_4.snd.fst.getD x_4.snd.snd.toNat (0 : Int) + (1 : Int)).toNat (List.take (x_4.snd.fst.getD x_4.snd.snd.toNat (0 : Int) + (1 : Int) + ((mget x_1.snd.fst (x_4.snd.fst.getD x_4.snd.snd.toNat (0 : Int))).getD ((0 : Int), (0 : Int), (0 : Int), false)).fst).toNat x_1.fst.fst)) → v ≠ (0 : Int) → v - (1 : Int) ∈ x_5.snd.fst) ∧ ((↑(List.drop (x_4.snd.fst.getD x_4.snd.snd.toNat (0 : Int) + (1 : Int)).toNat (List.take (x_4.snd.fst.getD x_4.snd.snd.toNat (0 : Int) + (1 : Int) + ((mget x_1.snd.fst (x_4.snd.fst.getD x_4.snd.snd.toNat (0 : Int))).getD ((0 : Int), (0 : Int), (0 : Int), false)).fst).toNat x_1.fst.fst)).length : Int) - (x_5.snd.snd + (1 : Int))).toNat < ((↑(List.drop (x_4.snd.fst.getD x_4.snd.snd.toNat (0 : Int) + (1 : Int)).toNat (List.take (x_4.snd.fst.getD x_4.snd.snd.toNat (0 : Int) + (1 : Int) + ((mget x_1.snd.fst (x_4.snd.fst.getD x_4.snd.snd.toNat (0 : Int))).getD ((0 : Int), (0 : Int), (0 : Int), false)).fst).toNat x_1.fst.fst)).length : Int) - x_5.snd.snd).toNat)) ∧ (decide (x_5.snd.snd < (↑(List.drop (x_4.snd.fst.getD x_4.snd.snd.toNat (0 : Int) + (1 : Int)).toNat (List.take (x_4.snd.fst.getD x_4.snd.snd.toNat (0 : Int) + (1 : Int) + ((mget x_1.snd.fst (x_4.snd.fst.getD x_4.snd.snd.toNat (0 : Int))).getD ((0 : Int), (0 : Int), (0 : Int), false)).fst).toNat x_1.fst.fst)).length : Int)) = false → InR IntKind.i64 (x_4.snd.snd + (1 : Int)) ∧ ((0 : Int) ≤ x_4.snd.snd + (1 : Int) ∧ x_4.snd.snd + (1 : Int) ≤ (↑x_5.snd.fst.length : Int) ∧ Seen x_5.fst x_5.snd.fst ∧ (∀ (x_6 : Int), x_6 ∈ x.snd → x_6 ∈ x_5.snd.fst) ∧ (∀ (x_6 : Int), x_6 ∈ x_5.snd.fst → Rch x.fst x.snd x_6) ∧ ∀ (x_6 : Int), x_6 ∈ List.take (x_4.snd.snd + (1 : Int)).toNat x_5.snd.fst → ∀ (y : Int), y ∈ outsA x.fst x_6 → y ∈ x_5.snd.fst) ∧ ((256 : Int) - (x_4.snd.snd + (1 : Int))).toNat < ((256 : Int) - x_4.snd.snd).toNat)) ∧ (decide (x_4.snd.snd < (↑x_4.snd.fst.length : Int)) = false → True ∧ sortI x_4.snd.fst = (reachF x.fst x.snd).fst ∧ (0 : Int) = (reachF x.fst x.snd).snd ∧ True))))))
theorem vcp_reach : pv_reach := by
 unfold pv_reach
 intro ⟨a, f⟩ ⟨⟨hb, hw⟩, hbf, hf⟩ _ tm
 unfold big at hb hbf
 simp only at hb hw hbf hf ⊢
 refine ⟨trivial, fun hc => ⟨fun _ => ?_, fun hn => by rw [hc] at hn; cases hn⟩, fun hc => ?_⟩
 ·have hc := of_decide_eq_true hc
  have e : fromFault a f = (checkF a).2.2 := by unfold fromFault; rw [if_pos hc]
  have e2 : reachF a f = ([], (checkF a).2.2) := by unfold reachF; rw [e, if_pos hc]
  rw [e2]
  exact ⟨rfl, rfl, trivial⟩
 have hc : (checkF a).2.2 = 0 := by simpa using of_decide_eq_false hc
 obtain ⟨hal, _, _, hz, _, _, _⟩ := checkF_in hc
 have hsl := spotsF_length a
 have hsp := spotsF_in2 a
 have hget := fun x => heads_get (spotsF_sorted a) x
 have hbl := beginsL_length (spotsF a).1
 refine ⟨trivial, ⟨by omega, by omega, trivial, rfl, rfl⟩, fun ⟨⟨a1, ⟨⟩, out⟩, m, i⟩ ⟨i0, i1, i2, i3, i4⟩ => ⟨fun hlt => ?_, fun hge => ?_⟩⟩
 ·simp only at i0 i1 i2 i3 i4 hlt ⊢
  have hlt := of_decide_eq_true hlt
  have hs := hsp _ (getD_mem ((0, 0, 0, 0, false) : Spot) i0 hlt)
  have ht := take_snoc ((0, 0, 0, 0, false) : Spot) i0 hlt
  rw [drop_cons ((0, 0, 0, 0, false) : Spot) i0 hlt] at i4
  simp only [headsFrom] at i4
  have hol : out.length ≤ 256 := by
   rw [i3]
   have := beginsL_length (List.take i.toNat (spotsF a).1)
   rw [List.length_take] at this
   omega
  rw [ht, begins_append, ← i3]
  generalize (spotsF a).1.getD i.toNat (0, 0, 0, 0, false) = s at *
  simp only [InR]
  refine ⟨i0, hlt, by omega, fun hf0 => ?_, fun hf0 => ?_⟩
  ·have hf0 : ¬ s.2.2.2.2 = true := by simpa using hf0
   have e : beginsL [s] = [s.1] := by simp only [beginsL]; rw [if_neg hf0]
   rw [if_neg hf0] at i4
   rw [e]
   unfold big
   simp only [List.length_singleton]
   exact ⟨by omega, by omega, ⟨by omega, by omega, i2, trivial, i4⟩, by omega⟩
  ·have hf0 : s.2.2.2.2 = true := by simpa using hf0
   have e : beginsL [s] = [] := by simp only [beginsL]; rw [if_pos hf0]
   rw [if_pos hf0] at i4
   rw [e, List.append_nil]
   exact ⟨by omega, ⟨by omega, by omega, i2, rfl, i4⟩, by omega⟩
 simp only at i0 i1 i2 i3 i4 hge ⊢
 have hge := of_decide_eq_false hge
 rw [drop_end hge] at i4
 have i4 : m = headsL (spotsF a).1 := i4
 subst i4 i2
 have hsome : ∀ x, (mget (headsL (spotsF a1).1) x).isSome = isB (spotsF a1).1 x := fun x => by rw [hget]; cases isB (spotsF a1).1 x <;> rfl
 simp only [hsome]
 refine ⟨⟨by omega, by omega, rfl⟩, fun j ⟨j0, j1, j2⟩ => ⟨fun hlt => ?_, fun hge => ⟨fun h => by simp at h, fun _ => ?_⟩⟩⟩
 ·have hlt := of_decide_eq_true hlt
  rw [drop_cons (0 : Int) j0 hlt, List.all_cons] at j2
  simp only [InR]
  refine ⟨j0, hlt, fun hn => ⟨fun _ => ?_, fun h => by simp at h⟩, fun hn => ⟨by omega, ⟨by omega, by omega, ?_⟩, by omega⟩⟩
  ·have hn : isB (spotsF a1).1 (f.getD j.toNat 0) = false := by simpa using hn
   rw [hn, Bool.false_and] at j2
   have e : fromFault a1 f = 5 := by unfold fromFault; rw [if_neg (by omega), ← j2]; rfl
   have e2 : reachF a1 f = ([], 5) := by unfold reachF; rw [e]; rfl
   rw [e2]
   exact ⟨rfl, rfl, trivial⟩
  ·have hn : isB (spotsF a1).1 (f.getD j.toNat 0) = true := by simpa using hn
   rw [hn, Bool.true_and] at j2
   exact j2
 rw [drop_end (of_decide_eq_false hge), List.all_nil] at j2
 have hfb : ∀ x ∈ f, isB (spotsF a1).1 x = true := List.all_eq_true.1 j2.symm
 have e0 : fromFault a1 f = 0 := fromFault_of hc hfb
 have e1 : reachF a1 f = (reachL a1 f, 0) := by unfold reachF; rw [e0]; rfl
 rw [e1]
 clear i0 i1 i3 hge j0 j1 j2
 have hrch : ∀ x, Rch a1 f x → 0 ≤ x ∧ x ≤ 255 := fun x hx => isB_range (hx.isB hw hc hfb)
 refine ⟨⟨by omega, by omega, Seen.new, fun x hx => by simp at hx, fun x hx => by cases hx⟩, fun ⟨m, o, i⟩ ⟨i0, i1, i2, i3, i4⟩ => ⟨fun hlt => ?_, fun hge => ?_⟩⟩
 ·simp only at i0 i1 i2 i3 i4 hlt ⊢
  have hlt := of_decide_eq_true hlt
  have ht := take_snoc (0 : Int) i0 hlt
  have hm := getD_mem (0 : Int) i0 hlt
  generalize f.getD i.toNat 0 = x at *
  have hol := nodup_len i2.nodup (fun y hy => hrch y (.base (i4 y hy)))
  rw [ht]
  unfold big
  simp only [InR, List.length_singleton]
  refine ⟨i0, hlt, fun _ => ⟨fun hn => ⟨by omega, by omega, ⟨by omega, by omega, i2.add hn, fun y hy => ?_, fun y hy => ?_⟩, by omega⟩, fun hn => ⟨by omega, ⟨by omega, by omega, i2, fun y hy => ?_, i4⟩, by omega⟩⟩⟩
  ·rcases List.mem_append.1 hy with hy | hy
   ·exact List.mem_append_left _ (i3 y hy)
   ·exact List.mem_append_right _ hy
  ·rcases List.mem_append.1 hy with hy | hy
   ·exact i4 y hy
   ·rw [List.mem_singleton.1 hy]; exact hm
  ·rcases List.mem_append.1 hy with hy | hy
   ·exact i3 y hy
   ·rw [List.mem_singleton.1 hy]; exact i2.mem hn
 simp only at i0 i1 i2 i3 i4 hge ⊢
 rw [take_end (of_decide_eq_false hge)] at i3
 refine ⟨⟨by omega, by omega, i2, i3, fun x hx => .base (i4 x hx), fun x hx => by simp at hx⟩, fun ⟨m2, o2, k⟩ ⟨k0, k1, k2, k3, k4, k5⟩ => ⟨fun hlt => ?_, fun hge => ?_⟩⟩
 ·clear i0 i1 i2 i3 i4 hge
  simp only at k0 k1 k2 k3 k4 k5 hlt ⊢
  have hlt := of_decide_eq_true hlt
  have ht := take_snoc (0 : Int) k0 hlt
  have hm := getD_mem (0 : Int) k0 hlt
  have hol := nodup_len k2.nodup (fun y hy => hrch y (k4 y hy))
  generalize hat : o2.getD k.toNat 0 = at_ at *
  have hib := (k4 at_ hm).isB hw hc hfb
  have hh : ((mget (headsL (spotsF a1).1) at_).getD (0, 0, 0, false)) = hdA a1 at_ := by rw [hget, if_pos hib]; rfl
  obtain ⟨l1, _, l3, l4, l5, l6⟩ := objA_length hib
  have hrf := refs_named hw hc _ (objA_in hib).1
  have hrs : List.drop (at_ + 1).toNat (List.take (at_ + 1 + (hdA a1 at_).1).toNat a1) = refsA a1 at_ := rfl
  have hout : ∀ y, y ∈ outsA a1 at_ ↔ (y + 1 ∈ refsA a1 at_ ∧ y + 1 ≠ 0) := by
   intro y
   unfold outsA
   simp only [List.mem_map, List.mem_filter, decide_eq_true_eq]
   constructor
   ·rintro ⟨v, ⟨hv, h0⟩, rfl⟩
    rw [Int.sub_add_cancel]
    exact ⟨hv, h0⟩
   ·rintro ⟨h1, h2⟩
    exact ⟨y + 1, ⟨h1, h2⟩, by omega⟩
  have hstep : ∀ y, y + 1 ∈ refsA a1 at_ → y + 1 ≠ 0 → Rch a1 f y := fun y h1 h2 => .step (k4 at_ hm) ((hout y).2 ⟨h1, h2⟩)
  rw [hh, hrs]
  have hwr : ∀ v ∈ refsA a1 at_, IntKind.i64.wrap v = v ∧ 0 ≤ v ∧ v ≤ 256 := fun v hv => by
   rcases hrf v hv with e | ⟨h1, h2, _⟩
   ·subst e; exact ⟨wrapI (by omega) (by omega), by omega, by omega⟩
   ·exact ⟨wrapI (by omega) (by omega), by omega, by omega⟩
  generalize hrs0 : refsA a1 at_ = rs at *
  simp only [InR]
  refine ⟨k0, hlt, by omega, fun _ => ⟨by omega, by omega, by omega, by omega, by omega, by omega, ⟨by omega, by omega, k2, ⟨[], by simp, fun x hx => by cases hx⟩, fun v hv => by simp at hv⟩, fun ⟨m3, o3, j⟩ ⟨j0, j1, j2, ⟨kk, j3, j4⟩, j5⟩ => ⟨fun hj => ?_, fun hj => ?_⟩⟩⟩
  ·simp only at j0 j1 j2 j3 j4 j5 hj ⊢
   have hj := of_decide_eq_true hj
   have ht2 := take_snoc (0 : Int) j0 hj
   have hv := getD_mem (0 : Int) j0 hj
   generalize rs.getD j.toNat 0 = v at *
   obtain ⟨w1, w2, w3⟩ := hwr v hv
   have hol3 := nodup_len j2.nodup (fun y hy => hrch y (by
    rw [j3] at hy
    rcases List.mem_append.1 hy with hy | hy
    ·exact k4 y hy
    ·exact hstep y (j4 y hy).1 (j4 y hy).2))
   rw [w1, ht2]
   unfold big
   simp only [List.length_singleton]
   refine ⟨j0, hj, fun hne => ⟨by omega, fun _ => ⟨fun hn => ⟨by omega, by omega, ⟨by omega, by omega, j2.add hn, ⟨kk ++ [v - 1], by rw [j3, List.append_assoc], fun y hy => ?_⟩, fun y hy hy0 => ?_⟩, by omega⟩, fun hn => ⟨by omega, ⟨by omega, by omega, j2, ⟨kk, j3, j4⟩, fun y hy hy0 => ?_⟩, by omega⟩⟩⟩, fun hne => ⟨by omega, ⟨by omega, by omega, j2, ⟨kk, j3, j4⟩, fun y hy hy0 => ?_⟩, by omega⟩⟩
   ·rcases List.mem_append.1 hy with hy | hy
    ·exact j4 y hy
    ·rw [List.mem_singleton.1 hy, Int.sub_add_cancel]
     exact ⟨hv, of_decide_eq_true hne⟩
   ·rcases List.mem_append.1 hy with hy | hy
    ·exact List.mem_append_left _ (j5 y hy hy0)
    ·rw [List.mem_singleton.1 hy]; simp
   ·rcases List.mem_append.1 hy with hy | hy
    ·exact j5 y hy hy0
    ·rw [List.mem_singleton.1 hy]; exact j2.mem hn
   ·rcases List.mem_append.1 hy with hy | hy
    ·exact j5 y hy hy0
    ·rw [List.mem_singleton.1 hy] at hy0
     exact absurd hy0 (by simpa using of_decide_eq_false hne)
  ·simp only at j0 j1 j2 j3 j4 j5 hj ⊢
   rw [take_end (of_decide_eq_false hj)] at j5
   have hlen3 : o2.length ≤ o3.length := by rw [j3]; simp
   have e3 : o3.take (k + 1).toNat = o2.take k.toNat ++ [at_] := by rw [j3, List.take_append_of_le_length (by omega), ht]
   rw [e3]
   refine ⟨by omega, ⟨by omega, by omega, j2, fun x hx => by rw [j3]; exact List.mem_append_left _ (k3 x hx), fun x hx => ?_, fun x hx y hy => ?_⟩, by omega⟩
   ·rw [j3] at hx
    rcases List.mem_append.1 hx with hx | hx
    ·exact k4 x hx
    ·exact hstep x (j4 x hx).1 (j4 x hx).2
   ·rcases List.mem_append.1 hx with hx | hx
    ·rw [j3]; exact List.mem_append_left _ (k5 x hx y hy)
    ·rw [List.mem_singleton.1 hx] at hy
     obtain ⟨q1, q2⟩ := (hout y).1 hy
     have := j5 _ q1 q2
     rwa [Int.add_sub_cancel] at this
 ·simp only at k0 k1 k2 k3 k4 k5 hge ⊢
  rw [take_end (of_decide_eq_false hge)] at k5
  exact ⟨trivial, (Full.mk k3 k4 k5).sorted hw hc hfb k2.nodup, trivial, trivial⟩
theorem e_reach : pv_reach = (fnVC Tryz.prog (tbl [(90, sp_walkCheck), (147, sp_walkSpots)] [(130, sp_sortI)]) an_reach Tryz.f138 sp_reach) := by kernel_rfl
theorem vc_reach : fnVC Tryz.prog (tbl [(90, sp_walkCheck), (147, sp_walkSpots)] [(130, sp_sortI)]) an_reach Tryz.f138 sp_reach := @Eq.mp _ _ @e_reach @vcp_reach
theorem ok_reach : sp_reach.ok Tryz.prog 138 := fn_sound (P := Tryz.prog) (ss := tbl [(90, sp_walkCheck), (147, sp_walkSpots)] [(130, sp_sortI)]) (ann := an_reach) (f := 138) (fn := Tryz.f138) (s := sp_reach) (tbl_cons ok_walkCheck (tbl_cons ok_walkSpots (tbl_row ok_sortI tbl_nil))) Tryz.func138 @vc_reach
end Go.Proofs.YtglchojglcobjaaGreat
