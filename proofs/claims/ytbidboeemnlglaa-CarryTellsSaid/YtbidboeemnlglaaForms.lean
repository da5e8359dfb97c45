/- Form and Alike, and what the reference says of them. -/
import Derived.Test.YtbidboeemnlglaaCames
import Derived.Test.YtbidboeemnlglaaRObjects
import Derived.Test.YtbidboeemnlglaaLists
import Derived.Test.YtbidboeemnlglaaSlices
import Derived.Test.YtbidboeemnlglaaWords
namespace Go.Proofs.Ytbidboeemnlglaa
open Go
set_option maxRecDepth 100000
set_option maxHeartbeats 1000000

theorem from_single {a f : List Int} (hw : ∀ x ∈ a, InR .u64 x) : fromF a [f] = fromFault a f := by
  unfold fromF fromFault
  rw [arena_check hw]
  by_cases h : (checkF a).2.2 ≠ 0
  · rw [if_pos h, if_pos h]
  · rw [if_neg h, if_neg h]
    have : ([f].all fun l => l.all (inL (beginsL (spotsF a).1))) = f.all (isB (spotsF a).1) := by
      simp only [List.all_cons, List.all_nil, Bool.and_true]
      congr 1
      funext x
      exact inL_begins x _
    rw [this]

abbrev ty_Form : Ty := .pair (.arr ty_Obj) (.arr ty_I)
def formObj (a o : List Int) (x : Int) : Obj := ((hdA a x).2.2.1, (refsA a x).map (fun v => place o (v - 1)), bodyA a x, false)
def formL (a f : List Int) : List Obj × List Int := ((cameL a f).map (formObj a (cameL a f)), f.map (place (cameL a f)))
def formF (a f : List Int) : (List Obj × List Int) × Int := (if fromFault a f ≠ 0 then ([], []) else formL a f, fromFault a f)

theorem set_cut {α : Type} {l R : List α} {k : Nat} {v : α} (hl : l.length = k) (hk : k < R.length) : (l ++ R.drop k).set k v = l ++ [v] ++ R.drop (k + 1) := by
  subst hl
  rw [List.drop_eq_getElem_cons hk, List.set_append_right _ _ (Nat.le_refl _), Nat.sub_self, List.set_cons_zero, List.append_assoc]
  rfl
theorem body_get {a : List Int} {x j : Int} (hx : isB (spotsF a).1 x = true) (h0 : 0 ≤ j) (hj : j < ((bodyA a x).length : Int)) : (bodyA a x).getD j.toNat 0 = a.getD (x + 1 + (hdA a x).1 + j).toNat 0 := by
  obtain ⟨l1, l2, l3, l4, l5, l6⟩ := objA_length hx
  have e : bodyA a x = (a.take (x + 1 + (hdA a x).1 + (hdA a x).2.1).toNat).drop (x + 1 + (hdA a x).1).toNat := rfl
  rw [e, List.getD_eq_getElem?_getD, List.getD_eq_getElem?_getD, List.getElem?_drop, List.getElem?_take, if_pos (by omega)]
  congr 2
  omega
theorem named_place (o : List Int) {l : List Int} {q : Int → Prop} (h : ∀ v ∈ l, v = 0 ∨ 1 ≤ v ∧ v ≤ 256 ∧ q v) : (l.map nameOf).map (place o) = l.map (fun v => place o (v - 1)) := by
  rw [List.map_map]
  refine List.map_congr_left fun v hv => ?_
  have : nameOf v = v - 1 := by
    unfold nameOf
    rcases h v hv with e | ⟨_, e, _⟩ <;> rw [if_neg (by omega)]
  simp only [Function.comp, this]

def an_form : Nat → Option LoopGen
  | 3000065 => some an_in
  | 3000135 => some an_in
  | 13600000003 => some { rd := [.dat 20 (.arr ty_W), .dat 2 (.map .u64 ty_I), .box 4 ty_Spot, .boxS 8900000900000 [.own 120 ty_Obj, .own 3 ty_I]], A := fun ((rs, m, s, f0) : List Int × List (Int × Int) × Spot × (List Obj × List Int)) => { cs := [.boxS 8900000900000 [.own 120 ty_Obj, .own 3 ty_I], .boxS 7 [.dat ty_I, .own 3 ty_I, .dat (.arr ty_W), .dat .bool], .dat 22 ty_I], inv := fun ((fm, o, j) : (List Obj × List Int) × Obj × Int) => fm = f0 ∧ 0 ≤ j ∧ j ≤ rs.length ∧ rs.length ≤ 256 ∧ o = (s.2.2.2.1, (rs.take j.toNat).map (fun v => (mget m v).getD 0), [], s.2.2.2.2), mu := fun ((_, _, j) : (List Obj × List Int) × Obj × Int) => (rs.length - j).toNat } }
  | 6 => some { rd := [.dat 0 (.arr ty_W), .dat 1 (.arr ty_I), .own 26 3 ty_I], A := fun ((a, f, o) : List Int × List Int × List Int) => { cs := [.boxS 8 [.own 120 ty_Obj, .own 3 ty_I], .dat 28 ty_I], inv := fun ((fm, i) : (List Obj × List Int) × Int) => 0 ≤ i ∧ i ≤ o.length ∧ fm.1 = (o.take i.toNat).map (formObj a o) ∧ fm.2 = [], mu := fun ((_, i) : (List Obj × List Int) × Int) => (o.length - i).toNat } }
  | 10 => some { rd := [.dat 0 (.arr ty_W), .own 6 3 ty_I, .dat 10 ty_I, .boxS 8 [.own 120 ty_Obj, .own 3 ty_I], .boxS 11 [.dat ty_I, .own 3 ty_I, .own 46 ty_W, .dat .bool]], A := fun ((a, o, x, f0, b0) : List Int × List Int × Int × (List Obj × List Int) × Obj) => { cs := [.boxS 8 [.own 120 ty_Obj, .own 3 ty_I], .boxS 11 [.dat ty_I, .own 3 ty_I, .own 46 ty_W, .dat .bool], .dat 41 ty_I], inv := fun ((fm, b, k) : (List Obj × List Int) × Obj × Int) => fm = f0 ∧ 0 ≤ k ∧ k ≤ (refsA a x).length ∧ b = (b0.1, ((refsA a x).take k.toNat).map (fun v => place o (v - 1)) ++ b0.2.1.drop k.toNat, b0.2.2.1, b0.2.2.2), mu := fun ((_, _, k) : (List Obj × List Int) × Obj × Int) => ((refsA a x).length - k).toNat } }
  | 17 => some { rd := [.dat 67 (.arr ty_I), .own 6 3 ty_I, .boxS 8 [.own 120 ty_Obj, .own 3 ty_I]], A := fun ((f, o, f0) : List Int × List Int × (List Obj × List Int)) => { cs := [.boxS 8 [.own 120 ty_Obj, .own 3 ty_I], .dat 69 ty_I], inv := fun ((fm, i) : (List Obj × List Int) × Int) => 0 ≤ i ∧ i ≤ f.length ∧ fm = (f0.1, (f.take i.toNat).map (place o)), mu := fun ((_, i) : (List Obj × List Int) × Int) => (f.length - i).toNat } }
  | _ => none
def sp_form : Spec := { Ts := [.arr ty_W, .arr ty_I], Rs := [.dat ty_Form, .dat ty_I], al := true, pre := fun _ => True, F := fun ((a, f) : List Int × List Int) => formF a f }

def sp_sameEq : Spec := { Ts := [ty_Obj, ty_Obj], Rs := [.dat .bool], pre := fun _ => True, F := fun (x : Obj × Obj) => decide (x.1 = x.2) }
theorem obj_eq (a b : Obj) : (decide (a.1 = b.1) && a.2.2.2 == b.2.2.2 && decide (a.2.1 = b.2.1) && decide (a.2.2.1 = b.2.2.1)) = decide (a = b) := by
  obtain ⟨a1, a2, a3, a4⟩ := a
  obtain ⟨b1, b2, b3, b4⟩ := b
  apply Bool.eq_iff_iff.2
  simp only [Bool.and_eq_true, decide_eq_true_eq, beq_iff_eq, Prod.mk.injEq]
  grind

def an_alike : Nat → Option LoopGen
  | 3000067 => some an_in
  | 6800000004 => some { rd := [.dat 15 (.arr ty_Obj), .dat 1 (.arr ty_Obj)], A := fun (g : List Obj × List Obj) => { cs := [.dat 17 ty_I], inv := fun (i : Int) => g.1.length = g.2.length ∧ 0 ≤ i ∧ i ≤ g.1.length ∧ g.1.take i.toNat = g.2.take i.toNat, mu := fun (i : Int) => (g.1.length - i).toNat } }
  | _ => none
def alikeF (a f b t : List Int) : Bool × Int := if fromFault a f ≠ 0 then (false, fromFault a f) else if fromFault b t ≠ 0 then (false, fromFault b t) else (decide (formL a f = formL b t), 0)
def sp_alike : Spec := { Ts := [.arr ty_W, .arr ty_I, .arr ty_W, .arr ty_I], Rs := [.dat .bool, .dat ty_I], pre := fun _ => True, F := fun ((a, f, b, t) : List Int × List Int × List Int × List Int) => alikeF a f b t }

def an_rFormOf : Nat → Option LoopGen
  | 4 => some { rd := [.dat 0 (.arr ty_W), .own 5 3 ty_I], A := fun ((a, o) : List Int × List Int) => { cs := [.boxS 6 [.own 120 ty_Obj, .own 3 ty_I], .dat 22 ty_I], inv := fun ((fm, i) : (List Obj × List Int) × Int) => 0 ≤ i ∧ i ≤ o.length ∧ fm.1 = (o.take i.toNat).map (formObj a o) ∧ fm.2 = [], mu := fun ((_, i) : (List Obj × List Int) × Int) => (o.length - i).toNat } }
  | 9 => some { rd := [.own 37 3 ty_I, .own 5 3 ty_I, .boxS 6 [.own 120 ty_Obj, .own 3 ty_I], .boxS 11 [.dat ty_I, .own 3 ty_I, .own 46 ty_W, .dat .bool]], A := fun ((ns, o, f0, b0) : List Int × List Int × (List Obj × List Int) × Obj) => { cs := [.boxS 6 [.own 120 ty_Obj, .own 3 ty_I], .boxS 11 [.dat ty_I, .own 3 ty_I, .own 46 ty_W, .dat .bool], .dat 39 ty_I], inv := fun ((fm, b, j) : (List Obj × List Int) × Obj × Int) => fm = f0 ∧ 0 ≤ j ∧ j ≤ ns.length ∧ ns.length ≤ 256 ∧ b = (b0.1, (ns.take j.toNat).map (place o), b0.2.2.1, b0.2.2.2), mu := fun ((_, _, j) : (List Obj × List Int) × Obj × Int) => (ns.length - j).toNat } }
  | 14 => some { rd := [.dat 0 (.arr ty_W), .dat 8 ty_I, .boxS 6 [.own 120 ty_Obj, .own 3 ty_I], .boxS 11 [.dat ty_I, .own 3 ty_I, .own 46 ty_W, .dat .bool]], A := fun ((a, x, f0, b0) : List Int × Int × (List Obj × List Int) × Obj) => { cs := [.boxS 6 [.own 120 ty_Obj, .own 3 ty_I], .boxS 11 [.dat ty_I, .own 3 ty_I, .own 46 ty_W, .dat .bool], .dat 54 ty_I], inv := fun ((fm, b, j) : (List Obj × List Int) × Obj × Int) => fm = f0 ∧ 0 ≤ j ∧ j ≤ (bodyA a x).length ∧ b = (b0.1, b0.2.1, (bodyA a x).take j.toNat, b0.2.2.2), mu := fun ((_, _, j) : (List Obj × List Int) × Obj × Int) => ((bodyA a x).length - j).toNat } }
  | 21 => some { rd := [.dat 80 (.arr ty_I), .own 5 3 ty_I, .boxS 6 [.own 120 ty_Obj, .own 3 ty_I]], A := fun ((f, o, f0) : List Int × List Int × (List Obj × List Int)) => { cs := [.boxS 6 [.own 120 ty_Obj, .own 3 ty_I], .dat 82 ty_I], inv := fun ((fm, i) : (List Obj × List Int) × Int) => 0 ≤ i ∧ i ≤ f.length ∧ fm = (f0.1, (f.take i.toNat).map (place o)), mu := fun ((_, i) : (List Obj × List Int) × Int) => (f.length - i).toNat } }
  | _ => none
def sp_rFormOf : Spec := { Ts := [.arr ty_W, .arr ty_I], Rs := [.dat ty_Form], al := true, pre := fun ((a, f) : List Int × List Int) => fromFault a f = 0, F := fun ((a, f) : List Int × List Int) => formL a f }
def pv_rFormOf : Prop :=
    ∀ (x : List Int × List Int), ((x.fst.length * (8 : Nat) ≤ big ∧ ∀ (x_1 : Int), x_1 ∈ x.fst → InR IntKind.u64 x_1) ∧ x.snd.length * (8 : Nat) ≤ big ∧ ∀ (x_1 : Int), x_1 ∈ x.snd → InR IntKind.i64 x_1) → fromFault x.fst x.snd = (0 : Int) → fromFault x.fst x.snd = (0 : Int) ∧ ((0 : Int) ≤ (0 : Int) ∧ (0 : Int) ≤ (↑(cameL x.fst x.snd).length : Int) ∧ ([] : List (Int × List Int × List Int × Bool)) = List.map (formObj x.fst (cameL x.fst x.snd)) (List.take (Int.toNat (0 : Int)) (cameL x.fst x.snd)) ∧ ([] : List Int) = ([] : List Int)) ∧ ∀ (x_1 : (List (Int × List Int × List Int × Bool) × List Int) × Int), (0 : Int) ≤ x_1.snd ∧ x_1.snd ≤ (↑(cameL x.fst x.snd).length : Int) ∧ x_1.fst.fst = List.map (formObj x.fst (cameL x.fst x.snd)) (List.take x_1.snd.toNat (cameL x.fst x.snd)) ∧ x_1.fst.snd = ([] : List Int) → (decide (x_1.snd < (↑(cameL x.fst x.snd).length : Int)) = true → (0 : Int) ≤ x_1.snd ∧ x_1.snd < (↑(cameL x.fst x.snd).length : Int) ∧ x_1.snd.toNat < (cameL x.fst x.snd).length ∧ True ∧ True ∧ (x_1.fst = x_1.fst ∧ (0 : Int) ≤ (0 : Int) ∧ (0 : Int) ≤ (↑(namedL x.fst ((cameL x.fst x.snd).getD x_1.snd.toNat (0 : Int)) (headAtL ((cameL x.fst x.snd).getD x_1.snd.toNat (0 : Int)) (spotsF x.fst).fst).fst).length : Int) ∧ (namedL x.fst ((cameL x.fst x.snd).getD x_1.snd.toNat (0 : Int)) (headAtL ((cameL x.fst x.snd).getD x_1.snd.toNat (0 : Int)) (spotsF x.fst).fst).fst).length ≤ (256 : Nat) ∧ ((headAtL ((cameL x.fst x.snd).getD x_1.snd.toNat (0 : Int)) (spotsF x.fst).fst).fst.snd.snd.fst, ([] : List Int), ([] : List Int), false) = ((headAtL ((cameL x.fst x.snd).getD x_1.snd.toNat (0 : Int)) (spotsF x.fst).fst).fst.snd.snd.fst, List.map (place (cameL x.fst x.snd)) (List.take (Int.toNat (0 : Int)) (namedL x.fst ((cameL x.fst x.snd).getD x_1.snd.toNat (0 : Int)) (headAtL ((cameL x.fst x.snd).getD x_1.snd.toNat (0 : Int)) (spotsF x.fst).fst).fst)), (([] : List Int), ([] : List Int), false).snd)) ∧ ∀ (x_2 : (List (Int × List Int × List Int × Bool) × List Int) × (Int × List Int × List Int × Bool) × Int), x_2.fst = x_1.fst ∧ (0 : Int) ≤ x_2.snd.snd ∧ x_2.snd.snd ≤ (↑(namedL x.fst ((cameL x.fst x.snd).getD x_1.snd.toNat (0 : Int)) (headAtL ((cameL x.fst x.snd).getD x_1.snd.toNat (0 : Int)) (spotsF x.fst).fst).fst).length : Int) ∧ (namedL x.fst ((cameL x.fst x.snd).getD x_1.snd.toNat (0 : Int)) (headAtL ((cameL x.fst x.snd).getD x_1.snd.toNat (0 : Int)) (spotsF x.fst).fst).fst).length ≤ (256 : Nat) ∧ x_2.snd.fst = ((headAtL ((cameL x.fst x.snd).getD x_1.snd.toNat (0 : Int)) (spotsF x.fst).fst).fst.snd.snd.fst, List.map (place (cameL x.fst x.snd)) (List.take x_2.snd.snd.toNat (namedL x.fst ((cameL x.fst x.snd).getD x_1.snd.toNat (0 : Int)) (headAtL ((cameL x.fst x.snd).getD x_1.snd.toNat (0 : Int)) (spotsF x.fst).fst).fst)), (([] : List Int), ([] : List Int), false).snd) → (decide (x_2.snd.snd < (↑(namedL x.fst ((cameL x.fst x.snd).getD x_1.snd.toNat (0 : Int)) (headAtL ((cameL x.fst x.snd).getD x_1.snd.toNat (0 : Int)) (spotsF x.fst).fst).fst).length : Int)) = true → (0 : Int) ≤ x_2.snd.snd ∧ x_2.snd.snd < (↑(namedL x.fst ((cameL x.fst x.snd).getD x_1.snd.toNat (0 : Int)) (headAtL ((cameL x.fst x.snd).getD x_1.snd.toNat (0 : Int)) (spotsF x.fst).fst).fst).length : Int) ∧ x_2.snd.snd.toNat < (namedL x.fst ((cameL x.fst x.snd).getD x_1.snd.toNat (0 : Int)) (headAtL ((cameL x.fst x.snd).getD x_1.snd.toNat (0 : Int)) (spotsF x.fst).fst).fst).length ∧ True ∧ (x_2.snd.fst.snd.fst.length + [place (cameL x.fst x.snd) ((namedL x.fst ((cameL x.fst x.snd).getD x_1.snd.toNat (0 : Int)) (headAtL ((cameL x.fst x.snd).getD x_1.snd.toNat (0 : Int)) (spotsF x.fst).fst).fst).getD x_2.snd.snd.toNat (0 : Int))].length) * (8 : Nat) ≤ big ∧ InR IntKind.i64 (x_2.snd.snd + (1 : Int)) ∧ (x_2.fst = x_1.fst ∧ (0 : Int) ≤ x_2.snd.snd + (1 : Int) ∧ x_2.snd.snd + (1 : Int) ≤ (↑(namedL x.fst ((cameL x.fst x.snd).getD x_1.snd.toNat (0 : Int)) (headAtL ((cameL x.fst x.snd).getD x_1.snd.toNat (0 : Int)) (spotsF x.fst).fst).fst).length : Int) ∧ (namedL x.fst ((cameL x.fst x.snd).getD x_1.snd.toNat (0 : Int)) (headAtL ((cameL x.fst x.snd).getD x_1.snd.toNat (0 : Int)) (spotsF x.fst).fst).fst).length ≤ (256 : Nat) ∧ (x_2.snd.fst.fst, x_2.snd.fst.snd.fst ++ [place (cameL x.fst x.snd) ((namedL x.fst ((cameL x.fst x.snd).getD x_1.snd.toNat (0 : Int)) (headAtL ((cameL x.fst x.snd).getD x_1.snd.toNat (0 : Int)) (spotsF x.fst).fst).fst).getD x_2.snd.snd.toNat (0 : Int))], x_2.snd.fst.snd.snd) = ((headAtL ((cameL x.fst x.snd).getD x_1.snd.toNat (0 : Int)) (spotsF x.fst).fst).fst.snd.snd.fst, List.map (place (cameL x.fst x.snd)) (List.take (x_2.snd.snd + (1 : Int)).toNat (namedL x.fst ((cameL x.fst x.snd).getD x_1.snd.toNat (0 : Int)) (headAtL ((cameL x.fst x.snd).getD x_1.snd.toNat (0 : Int)) (spotsF x.fst).fst).fst)), (([] : List Int), ([] : List Int), false).snd)) ∧ ((↑(namedL x.fst ((cameL x.fst x.snd).getD x_1.snd.toNat (0 : Int)) (headAtL ((cameL x.fst x.snd).getD x_1.snd.toNat (0 : Int)) (spotsF x.fst).fst).fst).length : Int) - (x_2.snd.snd + (1 : Int))).toNat < ((↑(namedL x.fst ((cameL x.fst x.snd).getD x_1.snd.toNat (0 : Int)) (headAtL ((cameL x.fst x.snd).getD x_1.snd.toNat (0 : Int)) (spotsF x.fst).fst).fst).length : Int) - x_2.snd.snd).toNat) ∧ (decide (x_2.snd.snd < (↑(namedL x.fst ((cameL x.fst x.snd).getD x_1.snd.toNat (0 : Int)) (headAtL ((cameL x.fst x.snd).getD x_1.snd.toNat (0 : Int)) (spotsF x.fst).fst).fst).length : Int)) = false → (x_2.fst = x_2.fst ∧ (0 : Int) ≤ (0 : Int) ∧ (0 : Int) ≤ (↑(bodyA x.fst ((cameL x.fst x.snd).getD x_1.snd.toNat (0 : Int))).length : Int) ∧ x_2.snd.fst = (x_2.snd.fst.fst, x_2.snd.fst.snd.fst, List.take (Int.toNat (0 : Int)) (bodyA x.fst ((cameL x.fst x.snd).getD x_1.snd.toNat (0 : Int))), x_2.snd.fst.snd.snd.snd)) ∧ ∀ (x_3 : (List (Int × List Int × List Int × Bool) × List Int) × (Int × List Int × List Int × Bool) × Int), x_3.fst = x_2.fst ∧ (0 : Int) ≤ x_3.snd.snd ∧ x_3.snd.snd ≤ (↑(bodyA x.fst ((cameL x.fst x.snd).getD x_1.snd.toNat (0 : Int))).length : Int) ∧ x_3.snd.fst = (x_2.snd.fst.fst, x_2.snd.fst.snd.fst, List.take x_3.snd.snd.toNat (bodyA x.fst ((cameL x.fst x.snd).getD x_1.snd.toNat (0 : Int))), x_2.snd.fst.snd.snd.snd) → (decide (x_3.snd.snd < (headAtL ((cameL x.fst x.snd).getD x_1.snd.toNat (0 : Int)) (spotsF x.fst).fst).fst.snd.fst) = true → InR IntKind.i64 ((cameL x.fst x.snd).getD x_1.snd.toNat (0 : Int) + (1 : Int)) ∧ InR IntKind.i64 ((cameL x.fst x.snd).getD x_1.snd.toNat (0 : Int) + (1 : Int) + (headAtL ((cameL x.fst x.snd).getD x_1.snd.toNat (0 : Int)) (spotsF x.fst).fst).fst.fst) ∧ InR IntKind.i64 ((cameL x.fst x.snd).getD x_1.snd.toNat (0 : Int) + (1 : Int) + (headAtL ((cameL x.fst x.snd).getD x_1.snd.toNat (0 : Int)) (spotsF x.fst).fst).fst.fst + x_3.snd.snd) ∧ (0 : Int) ≤ (cameL x.fst x.snd).getD x_1.snd.toNat (0 : Int) + (1 : Int) + (headAtL ((cameL x.fst x.snd).getD x_1.snd.toNat (0 : Int)) (spotsF x.fst).fst).fst.fst + x_3.snd.snd ∧ (cameL x.fst x.snd).getD x_1.snd.toNat (0 : Int) + (1 : Int) + (headAtL ((cameL x.fst x.snd).getD x_1.snd.toNat (0 : Int)) (spotsF x.fst).fst).fst.fst + x_3.snd.snd < (↑x.fst.length : Int) ∧ (x_3.snd.fst.snd.snd.fst.length + [x.fst.getD ((cameL x.fst x.snd).getD x_1.snd.toNat (0 : Int) + (1 : Int) + (headAtL ((cameL x.fst x.snd).getD x_1.snd.toNat (0 : Int)) (spotsF x.fst).fst).fst.fst + x_3.snd.snd).toNat (0 : Int)].length) * (8 : Nat) ≤ big ∧ InR IntKind.i64 (x_3.snd.snd + (1 : Int)) ∧ (x_3.fst = x_2.fst ∧ (0 : Int) ≤ x_3.snd.snd + (1 : Int) ∧ x_3.snd.snd + (1 : Int) ≤ (↑(bodyA x.fst ((cameL x.fst x.snd).getD x_1.snd.toNat (0 : Int))).length : Int) ∧ (x_3.snd.fst.fst, x_3.snd.fst.snd.fst, x_3.snd.fst.snd.snd.fst ++ [x.fst.getD ((cameL x.fst x.snd).getD x_1.snd.toNat (0 : Int) + (1 : Int) + (headAtL ((cameL x.fst x.snd).getD x_1.snd.toNat (0 : Int)) (spotsF x.fst).fst).fst.fst + x_3.snd.snd).toNat (0 : Int)], x_3.snd.fst.snd.snd.snd) = (x_2.snd.fst.fst, x_2.snd.fst.snd.fst, List.take (x_3.snd.snd + (1 : Int)).toNat (bodyA x.fst ((cameL x.fst x.snd).getD x_1.snd.toNat (0 : Int))), x_2.snd.fst.snd.snd.snd)) ∧ ((↑(bodyA x.fst ((cameL x.fst x.snd).getD x_1.snd.toNat (0 : Int))).length : Int) - (x_3.snd.snd + (1 : Int))).toNat < ((↑(bodyA x.fst ((cameL x.fst x.snd).getD x_1.snd.toNat (0 : Int))).length : Int) - x_3.snd.snd).toNat) ∧ (decide (x_3.snd.snd < (headAtL ((cameL x.fst x.snd).getD x_1.snd.toNat (0 : Int)) (spotsF x.fst).fst).fst.snd.fst) = false → (x_3.fst.fst.length + [x_3.snd.fst].length) * ((8 : Nat) + ((24 : Nat) + ((24 : Nat) + (8 : Nat)))) ≤ big ∧ InR IntKind.i64 (x_1.snd + (1 : Int)) ∧ ((0 : Int) ≤ x_1.snd + (1 : Int) ∧ x_1.snd + (1 : Int) ≤ (↑(cameL x.fst x.snd).length : Int) ∧ x_3.fst.fst ++ [x_3.snd.fst] = List.map (formObj x.fst (cameL x.fst x.snd)) (List.take (x_1.snd + (1 : Int)).toNat (cameL x.fst x.snd)) ∧ x_3.fst.snd = ([] : List Int)) ∧ ((↑(cameL x.fst x.snd).length : Int) - (x_1.snd + (1 : Int))).toNat < ((↑(cameL x.fst x.snd).length : Int) - x_1.snd).toNat))) ∧ (decide (x_1.snd < (↑(cameL x.fst x.snd).length : Int)) = false → ((0 : Int) ≤ (0 : Int) ∧ (0 : Int) ≤ (↑x.snd.length : Int) ∧ x_1.fst = (x_1.fst.fst, List.map (place (cameL x.fst x.snd)) (List.take (Int.toNat (0 : Int)) x.snd))) ∧ ∀ (x_2 : (List (Int × List Int × List Int × Bool) × List Int) × Int), (0 : Int) ≤ x_2.snd ∧ x_2.snd ≤ (↑x.snd.length : Int) ∧ x_2.fst = (x_1.fst.fst, List.map (place (cameL x.fst x.snd)) (List.take x_2.snd.toNat x.snd)) → (decide (x_2.snd < (↑x.snd.length : Int)) = true → (0 : Int) ≤ x_2.snd ∧ x_2.snd < (↑x.snd.length : Int) ∧ True ∧ (x_2.fst.snd.length + [place (cameL x.fst x.snd) (x.snd.getD x_2.snd.toNat (0 : Int))].length) * (8 : Nat) ≤ big ∧ InR IntKind.i64 (x_2.snd + (1 : Int)) ∧ ((0 : Int) ≤ x_2.snd + (1 : Int) ∧ x_2.snd + (1 : Int) ≤ (↑x.snd.length : Int) ∧ (x_2.fst.fst, x_2.fst.snd ++ [place (cameL x.fst x.snd) (x.snd.getD x_2.snd.toNat (0 : Int))]) = (x_1.fst.fst, List.map (place (cameL x.fst x.snd)) (List.take (x_2.snd + (1 : Int)).toNat x.snd))) ∧ ((↑x.snd.length : Int) - (x_2.snd + (1 : Int))).toNat < ((↑x.snd.length : Int) - x_2.snd).toNat) ∧ (decide (x_2.snd < (↑x.snd.length : Int)) = false → x_2.fst = formL x.fst x.snd ∧ True))
theorem vcp_rFormOf : pv_rFormOf := by
  unfold pv_rFormOf
  intro ⟨a, f⟩ ⟨⟨hb, hw⟩, hbf, hf⟩ h
  unfold big at hb hbf
  simp only at hb hw hbf hf h ⊢
  obtain ⟨hc, hfb⟩ := fromFault_ok h
  have hcm := came_is a f
  have hol := hcm.length hw hc hfb
  have hLF : formL a f = ((cameL a f).map (formObj a (cameL a f)), f.map (place (cameL a f))) := rfl
  rw [hLF]
  generalize cameL a f = o at *
  refine ⟨h, ⟨by omega, by omega, by simp, trivial⟩, fun ⟨⟨fo, ff⟩, i⟩ ⟨i0, i1, i2, i3⟩ => ⟨fun hlt => ?_, fun hge => ?_⟩⟩
  · simp only at i0 i1 i2 i3 hlt ⊢
    have hlt := of_decide_eq_true hlt
    have ht := take_snoc (0 : Int) i0 hlt
    have hm := getD_mem (0 : Int) i0 hlt
    have hib := (hcm.only _ hm).isB hw hc hfb
    obtain ⟨l1, l2, l3, l4, l5, l6⟩ := objA_length hib
    have hal := (isB_spot hib).2.2.2.2
    have hfol : fo.length ≤ 256 := by rw [i2]; simp; omega
    have hpl := named_place o (refs_named hw hc _ (objA_in hib).1)
    rw [ht]
    generalize o.getD i.toNat 0 = x at *
    have hrs : spotRefs a (x, hdA a x) = refsA a x := rfl
    have hne : namedL a x (headAtL x (spotsF a).1).1 = (refsA a x).map nameOf := rfl
    have hh : (headAtL x (spotsF a).1).1 = hdA a x := rfl
    have hO : formObj a o x = ((hdA a x).2.2.1, (refsA a x).map (fun v => place o (v - 1)), bodyA a x, false) := rfl
    rw [hrs] at hpl
    rw [hne, hh]
    have hnl : ((refsA a x).map nameOf).length = (refsA a x).length := List.length_map ..
    refine ⟨i0, hlt, by omega, trivial, trivial, ⟨by first | rfl | trivial, by omega, by omega, by omega, by simp⟩, fun ⟨fm1, b1, j⟩ ⟨jf, j0, j1, _, j2⟩ => ⟨fun hj => ?_, fun hj => ?_⟩⟩
    · simp only at jf j0 j1 j2 hj ⊢
      subst jf
      have hj := of_decide_eq_true hj
      have ht2 := take_snoc (0 : Int) j0 hj
      have hl : b1.2.1.length = j.toNat := by rw [j2]; simp; omega
      rw [ht2, List.map_append]
      unfold big
      simp only [InR, List.length_singleton]
      refine ⟨j0, hj, by omega, trivial, by omega, by omega, ⟨by first | rfl | trivial, by omega, by omega, by omega, ?_⟩, by omega⟩
      rw [j2]
      rfl
    · simp only at jf j0 j1 j2 hj ⊢
      subst jf
      rw [take_end (of_decide_eq_false hj), hpl] at j2
      subst j2
      simp only
      refine ⟨⟨by first | rfl | trivial, by omega, by omega, by simp⟩, fun ⟨fm2, b2, k⟩ ⟨kf, k0, k1, k2⟩ => ⟨fun hk => ?_, fun hk => ?_⟩⟩
      · simp only at kf k0 k1 k2 hk ⊢
        subst kf
        have hk : k < ((bodyA a x).length : Int) := by have := of_decide_eq_true hk; omega
        have ht3 := take_snoc (0 : Int) k0 hk
        have hbg := body_get hib k0 hk
        have hl : b2.2.2.1.length = k.toNat := by rw [k2]; simp; omega
        rw [← hbg, ht3]
        unfold big
        simp only [InR, List.length_singleton]
        refine ⟨by omega, by omega, by omega, by omega, by omega, by omega, by omega, ⟨by first | rfl | trivial, by omega, by omega, ?_⟩, by omega⟩
        rw [k2]
      · simp only at kf k0 k1 k2 hk ⊢
        subst kf
        have hk : ¬ k < ((bodyA a x).length : Int) := by have := of_decide_eq_false hk; omega
        rw [take_end hk] at k2
        subst k2
        rw [List.map_append, ← i2]
        unfold big
        simp only [InR, List.length_singleton]
        exact ⟨by omega, by omega, ⟨by omega, by omega, rfl, i3⟩, by omega⟩
  · simp only at i0 i1 i2 i3 hge ⊢
    rw [take_end (of_decide_eq_false hge)] at i2
    subst i2 i3
    refine ⟨⟨by omega, by omega, by simp⟩, fun ⟨⟨fo2, ff2⟩, k⟩ ⟨k0, k1, k2⟩ => ⟨fun hk => ?_, fun hk => ?_⟩⟩
    · simp only at k0 k1 k2 hk ⊢
      have hk := of_decide_eq_true hk
      have ht3 := take_snoc (0 : Int) k0 hk
      obtain ⟨e1, e2⟩ := Prod.mk.inj k2
      have hl : ff2.length = k.toNat := by rw [e2]; simp; omega
      rw [ht3, List.map_append, ← e2, e1]
      unfold big
      simp only [InR, List.length_singleton]
      exact ⟨k0, hk, trivial, by omega, by omega, ⟨by omega, by omega, rfl⟩, by omega⟩
    · simp only at k0 k1 k2 hk ⊢
      rw [take_end (of_decide_eq_false hk)] at k2
      exact ⟨k2, trivial⟩
theorem e_rFormOf : pv_rFormOf = (fnVC Try.prog (tbl [(19, sp_rCameTo), (38, sp_rHeadAt), (59, sp_rNamed), (45, sp_rPlace)]) an_rFormOf Try.f16 sp_rFormOf) := by kernel_rfl
theorem vc_rFormOf : fnVC Try.prog (tbl [(19, sp_rCameTo), (38, sp_rHeadAt), (59, sp_rNamed), (45, sp_rPlace)]) an_rFormOf Try.f16 sp_rFormOf := @Eq.mp _ _ @e_rFormOf @vcp_rFormOf
theorem ok_rFormOf : sp_rFormOf.ok Try.prog 16 := fn_sound (P := Try.prog) (ss := tbl [(19, sp_rCameTo), (38, sp_rHeadAt), (59, sp_rNamed), (45, sp_rPlace)]) (ann := an_rFormOf) (f := 16) (fn := Try.f16) (s := sp_rFormOf) (tbl_cons ok_rCameTo (tbl_cons ok_rHeadAt (tbl_cons ok_rNamed (tbl_cons ok_rPlace tbl_nil)))) Try.func16 @vc_rFormOf

def sp_rSameForm : Spec := { Ts := [ty_Form, ty_Form], Rs := [.dat .bool], pre := fun _ => True, F := fun (x : (List Obj × List Int) × (List Obj × List Int)) => decide (x.1 = x.2) }

def sp_lawSameTells : Spec := sp_law [.arr ty_W, .arr ty_I, .arr ty_W, .arr ty_I]

end Go.Proofs.Ytbidboeemnlglaa
