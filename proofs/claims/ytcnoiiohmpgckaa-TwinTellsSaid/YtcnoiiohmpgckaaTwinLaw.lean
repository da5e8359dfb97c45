
import Derived.Test.YtcnoiiohmpgckaaTwins2
namespace Go.Proofs.Ytcnoiiohmpgckaa
open Go
set_option maxRecDepth 100000
set_option maxHeartbeats 1000000
def bestAt (n : Int) (l : List Gap) (k : Int) (i : Int) : Prop := (k < 0 ∧ bestG n (l.take i.toNat) = (0, 0)) ∨ (0 ≤ k ∧ k < i ∧ bestG n (l.take i.toNat) = l.getD k.toNat (0, 0) ∧ n ≤ (l.getD k.toNat (0, 0)).2)
theorem give_cut {a : Int} : ∀ (l : List Room) (k : Int), l.Pairwise (fun r s => r.1 < s.1) → l.any (fun r => decide (r.1 = a)) = true →
    ∃ j : Nat, findFrom (fun r : Room => decide (r.1 = a)) k l = k + j ∧ l.take j ++ l.drop (j + 1) = l.filter (fun r => !decide (r.1 = a))
  | [], _, _, h => by simp at h
  | x :: l, k, hp, h => by
    obtain ⟨p1, p2⟩ := List.pairwise_cons.1 hp
    simp only [findFrom]
    by_cases hx : x.1 = a
    · refine ⟨0, by rw [if_pos (decide_eq_true hx)]; simp, ?_⟩
      have e : l.filter (fun r => !decide (r.1 = a)) = l := List.filter_eq_self.2 fun r hr => by
        have := p1 r hr
        rw [decide_eq_false (by omega : ¬ r.1 = a)]
        rfl
      simp [hx, e]
    · have h2 : l.any (fun r => decide (r.1 = a)) = true := by simpa [hx] using h
      obtain ⟨j, j1, j2⟩ := give_cut l (k + 1) p2 h2
      refine ⟨j + 1, by rw [if_neg (by simpa using hx), j1]; push_cast; omega, ?_⟩
      rw [List.filter_cons, if_pos (by rw [decide_eq_false hx]; rfl), ← j2]
      rfl
theorem give_is {o a : Int} {l : List Room} (hf : halvesF (o, l) = 0) (hp : l.Pairwise (fun r s => r.1 < s.1)) :
    giveTF (o, l) a = if l.any (fun r => decide (r.1 = a)) = true then ((o, l.filter (fun r => !decide (r.1 = a))), 0) else ((0, []), 5) := by
  have hF : giveTF (o, l) a = if halvesF (o, l) ≠ 0 then ((0, []), halvesF (o, l)) else if roomAt l a < 0 then ((0, []), 5) else ((o, cutG l (roomAt l a) (roomAt l a + 1)), 0) := rfl
  rw [hF, if_neg (by simpa using hf)]
  have hA := findFrom_any (fun r : Room => decide (r.1 = a)) l 0 (by omega)
  have hR : roomAt l a = findFrom (fun x : Room => decide (x.1 = a)) 0 l := rfl
  rw [← hR] at hA
  by_cases h : l.any (fun r => decide (r.1 = a)) = true
  · obtain ⟨j, j1, j2⟩ := give_cut l 0 hp h
    rw [← hR] at j1
    rw [if_pos h, if_neg (by omega), ← j2, j1]
    unfold cutG
    rw [show ((0 : Int) + (j : Int)).toNat = j by omega, show ((0 : Int) + (j : Int) + 1).toNat = j + 1 by omega]
  · rw [if_neg h, if_pos]
    rw [← hA] at h
    simpa using h
theorem best_step {n k i : Int} {l : List Gap} (hn : 1 ≤ n) (h0 : 0 ≤ i) (h1 : i < l.length) (hb : bestAt n l k i) :
    ((decide (n ≤ (l.getD i.toNat (0, 0)).2) && (decide (k < 0) || decide ((l.getD i.toNat (0, 0)).2 < (l.getD k.toNat (0, 0)).2))) = true → bestAt n l i (i + 1)) ∧
    ((decide (n ≤ (l.getD i.toNat (0, 0)).2) && (decide (k < 0) || decide ((l.getD i.toNat (0, 0)).2 < (l.getD k.toNat (0, 0)).2))) = false → bestAt n l k (i + 1)) := by
  unfold bestAt at *
  rw [take_snoc ((0, 0) : Gap) h0 h1, bestG_snoc]
  unfold bestStep
  rcases hb with ⟨b1, b2⟩ | ⟨b1, b2, b3, b4⟩
  · rw [b2, decide_eq_true b1, Bool.true_or, Bool.and_true]
    refine ⟨fun h => .inr ⟨h0, by omega, ?_, of_decide_eq_true h⟩, fun h => .inl ⟨b1, ?_⟩⟩
    · rw [if_pos ⟨of_decide_eq_true h, .inl rfl⟩]
    · rw [if_neg fun h2 => of_decide_eq_false h h2.1]
  · rw [b3, decide_eq_false (by omega : ¬ k < 0), Bool.false_or]
    simp only [Bool.and_eq_true, decide_eq_true_eq, Bool.and_eq_false_iff, decide_eq_false_iff_not]
    refine ⟨fun h => .inr ⟨h0, by omega, ?_, h.1⟩, fun h => .inr ⟨b1, by omega, ?_, b4⟩⟩
    · rw [if_pos ⟨h.1, .inr h.2⟩]
    · rw [if_neg fun h2 => by omega]
theorem open_ne {l : List Room} {a n : Int} (h : openR l a n = true) (hn : 1 ≤ n) (hr : ∀ r ∈ l, roomIn r) : ∀ r ∈ l, r.1 ≠ a := fun r hm he => by
  unfold openR at h
  simp only [Bool.not_eq_true', List.any_eq_false] at h
  have := h r hm
  have h2 := hr r hm
  unfold roomIn at h2
  simp only [meetsR, Bool.and_eq_true, decide_eq_true_eq, not_and] at this
  omega
def an_lawTwinTells : Nat → Option LoopGen
  | 21 => some { rd := [.box 4 ty_Halves, .dat 3 ty_I], A := fun ((h, a) : HalvesD × Int) => { cs := [.dat 23 ty_I, .boxS 24 [.dat ty_I, .own 52 ty_Room], .dat 25 .bool, .dat 147 ty_I], inv := fun ((w, (o, g), f, i) : Int × (Int × List Room) × Bool × Int) => 0 ≤ i ∧ i ≤ h.2.length ∧ 0 ≤ w ∧ w ≤ 256 * i ∧ w + wasteL (h.2.drop i.toNat) = wasteL h.2 ∧ o = h.1 ∧ g = (h.2.take i.toNat).filter (fun r => !decide (r.1 = a)) ∧ f = (h.2.take i.toNat).any (fun r => decide (r.1 = a)), mu := fun ((_, _, _, i) : Int × (Int × List Room) × Bool × Int) => (h.2.length - i).toNat } }
  | 36 => some { rd := [.box 22 (.arr ty_Gap), .box 6 ty_I], A := fun ((l, n) : List Gap × Int) => { cs := [.box 28 ty_I, .dat 234 ty_I], inv := fun ((k, i) : Int × Int) => 0 ≤ i ∧ i ≤ l.length ∧ -1 ≤ k ∧ bestAt n l k i, mu := fun ((_, i) : Int × Int) => (l.length - i).toNat } }
  | 44 => some { rd := [.box 6 ty_I], A := fun (n : Int) => { cs := [.box 31 ty_I], inv := fun (m : Int) => isPow m = true ∧ (m = 1 ∨ m / 2 < n), mu := fun (m : Int) => (1024 - m).toNat } }
  | 50 => some { rd := [.box 4 ty_Halves, .box 22 (.arr ty_Gap), .box 28 ty_I, .box 31 ty_I, .box 6 ty_I], A := fun ((h, l, k, m, n) : HalvesD × List Gap × Int × Int × Int) => { cs := [.boxS 32 [.dat ty_I, .own 52 ty_Room], .box 33 .bool, .dat 285 ty_I], inv := fun (((o, t), p, i) : (Int × List Room) × Bool × Int) => 0 ≤ i ∧ i ≤ h.2.length ∧ o = h.1 ∧ t.length ≤ i + 1 ∧ (p = false → t.length ≤ i) ∧ (p, t) = lawT ((l.getD k.toNat (0, 0)).1, m, n) (h.2.take i.toNat), mu := fun ((_, _, i) : (Int × List Room) × Bool × Int) => (h.2.length - i).toNat } }
  | 1000008 => some { rd := [], A := fun (_ : Unit) => { cs := [], inv := fun _ => True, mu := fun _ => 0 } }
  | 3000026 => some an_in
  | _ => none
def sp_lawTwinTells : Spec := sp_law [ty_Halves, ty_I, ty_I, ty_I]
def pv_lawTwinTells : Prop :=
    ∀ (x : (Int × List (Int × Int × Int)) × Int × Int × Int), (InR IntKind.i64 x.1.1 ∧ x.1.2.length * ((8 : Nat) + ((8 : Nat) + (8 : Nat))) ≤ big ∧ ∀ (x_1 : Int × Int × Int), x_1 ∈ x.1.2 → InR IntKind.i64 x_1.1 ∧ InR IntKind.i64 x_1.2.1 ∧ InR IntKind.i64 x_1.2.2) ∧ InR IntKind.i64 x.2.1 ∧ InR IntKind.i64 x.2.2.1 ∧ InR IntKind.i64 x.2.2.2 → (True ∧ x.1.2.length * ((8 : Nat) + ((8 : Nat) + (8 : Nat))) ≤ (140737488351232 : Nat) ∧ ∀ (x_1 : Int × Int × Int), x_1 ∈ x.1.2 → sp_room ty_Room x_1) ∧ True ∧ True ∧ True → True ∧ True ∧ True ∧ True ∧ True ∧ (((decide (x.2.1 < (0 : Int)) || decide ((8 : Int) < x.2.1)) = true → True ∧ ((!decide ((newHalvesF x.2.1).1 = ((0 : Int), ([] : List (Int × Int × Int)))) || decide ((newHalvesF x.2.1).2 ≠ (4 : Int))) = true → false = true ∧ True) ∧ ((!decide ((newHalvesF x.2.1).1 = ((0 : Int), ([] : List (Int × Int × Int)))) || decide ((newHalvesF x.2.1).2 ≠ (4 : Int))) = false → True)) ∧ ((decide (x.2.1 < (0 : Int)) || decide ((8 : Int) < x.2.1)) = false → True ∧ ((!decide ((newHalvesF x.2.1).1 = (x.2.1, ([] : List (Int × Int × Int)))) || decide ((newHalvesF x.2.1).2 ≠ (0 : Int))) = true → false = true ∧ True) ∧ ((!decide ((newHalvesF x.2.1).1 = (x.2.1, ([] : List (Int × Int × Int)))) || decide ((newHalvesF x.2.1).2 ≠ (0 : Int))) = false → True))) ∧ ∀ (x_1 : Unit), True → True ∧ True ∧ (decide (halvesF x.1 ≠ halvesF x.1) = true → false = true ∧ True) ∧ (decide (halvesF x.1 ≠ halvesF x.1) = false → (decide (halvesF x.1 ≠ (0 : Int)) = true → True ∧ ((decide ((takeTF x.1 x.2.2.1).1 = ((0 : Int), ([] : List (Int × Int × Int)))) && (decide ((takeTF x.1 x.2.2.1).2.1.1 = (0 : Int)) && decide ((takeTF x.1 x.2.2.1).2.1.2 = (0 : Int))) && decide ((takeTF x.1 x.2.2.1).2.2 = halvesF x.1)) = true → True) ∧ (decide ((takeTF x.1 x.2.2.1).1 = ((0 : Int), ([] : List (Int × Int × Int)))) && (decide ((takeTF x.1 x.2.2.1).2.1.1 = (0 : Int)) && decide ((takeTF x.1 x.2.2.1).2.1.2 = (0 : Int))) && decide ((takeTF x.1 x.2.2.1).2.2 = halvesF x.1) && decide ((giveTF x.1 x.2.2.2).1 = ((0 : Int), ([] : List (Int × Int × Int)))) && decide ((giveTF x.1 x.2.2.2).2 = halvesF x.1) && decide ((↑(gapsHF x.1).1.length : Int) = (0 : Int)) && decide ((gapsHF x.1).2 = halvesF x.1) && decide ((wasteF x.1).1 = (0 : Int)) && decide ((wasteF x.1).2 = halvesF x.1)) = true ∧ True) ∧ (decide (halvesF x.1 ≠ (0 : Int)) = false → ((0 : Int) ≤ x.1.1 ∧ x.1.1 ≤ (8 : Int) ∧ ∀ (r : Room), r ∈ x.1.2 → roomIn r) ∧ ((0 : Int) ≤ (0 : Int) ∧ (0 : Int) ≤ (↑x.1.2.length : Int) ∧ (0 : Int) ≤ (0 : Int) ∧ (0 : Int) ≤ (256 : Int) * (0 : Int) ∧ (0 : Int) + wasteL (List.drop (Int.toNat (0 : Int)) x.1.2) = wasteL x.1.2 ∧ x.1.1 = x.1.1 ∧ ([] : List (Int × Int × Int)) = List.filter (fun (r : Room) => !decide (r.1 = x.2.2.2)) (List.take (Int.toNat (0 : Int)) x.1.2) ∧ false = (List.take (Int.toNat (0 : Int)) x.1.2).any fun (r : Room) => decide (r.1 = x.2.2.2)) ∧ ∀ (x_2 : Int × (Int × List (Int × Int × Int)) × Bool × Int), ((0 : Int) ≤ x_2.2.2.2 ∧ x_2.2.2.2 ≤ (↑x.1.2.length : Int) ∧ (0 : Int) ≤ x_2.1 ∧ x_2.1 ≤ (256 : Int) * x_2.2.2.2 ∧ x_2.1 + wasteL (List.drop x_2.2.2.2.toNat x.1.2) = wasteL x.1.2 ∧ x_2.2.1.1 = x.1.1 ∧ x_2.2.1.2 = List.filter (fun (r : Room) => !decide (r.1 = x.2.2.2)) (List.take x_2.2.2.2.toNat x.1.2) ∧ x_2.2.2.1 = (List.take x_2.2.2.2.toNat x.1.2).any fun (r : Room) => decide (r.1 = x.2.2.2)) → (decide (x_2.2.2.2 < (↑x.1.2.length : Int)) = true → (0 : Int) ≤ x_2.2.2.2 ∧ x_2.2.2.2 < (↑x.1.2.length : Int) ∧ InR IntKind.i64 ((x.1.2.getD x_2.2.2.2.toNat ((0 : Int), (0 : Int), (0 : Int))).2.1 - (x.1.2.getD x_2.2.2.2.toNat ((0 : Int), (0 : Int), (0 : Int))).2.2) ∧ InR IntKind.i64 (x_2.1 + ((x.1.2.getD x_2.2.2.2.toNat ((0 : Int), (0 : Int), (0 : Int))).2.1 - (x.1.2.getD x_2.2.2.2.toNat ((0 : Int), (0 : Int), (0 : Int))).2.2)) ∧ (decide ((x.1.2.getD x_2.2.2.2.toNat ((0 : Int), (0 : Int), (0 : Int))).1 = x.2.2.2) = true → InR IntKind.i64 (x_2.2.2.2 + (1 : Int)) ∧ ((0 : Int) ≤ x_2.2.2.2 + (1 : Int) ∧ x_2.2.2.2 + (1 : Int) ≤ (↑x.1.2.length : Int) ∧ (0 : Int) ≤ x_2.1 + ((x.1.2.getD x_2.2.2.2.toNat ((0 : Int), (0 : Int), (0 : Int))).2.1 - (x.1.2.getD x_2.2.2.2.toNat ((0 : Int), (0 : Int), (0 : Int))).2.2) ∧ x_2.1 + ((x.1.2.getD x_2.2.2.2.toNat ((0 : Int), (0 : Int), (0 : Int))).2.1 - (x.1.2.getD x_2.2.2.2.toNat ((0 : Int), (0 : Int), (0 : Int))).2.2) ≤ (256 : Int) * (x_2.2.2.2 + (1 : Int)) ∧ x_2.1 + ((x.1.2.getD x_2.2.2.2.toNat ((0 : Int), (0 : Int), (0 : Int))).2.1 - (x.1.2.getD x_2.2.2.2.toNat ((0 : Int), (0 : Int), (0 : Int))).2.2) + wasteL (List.drop (x_2.2.2.2 + (1 : Int)).toNat x.1.2) = wasteL x.1.2 ∧ x_2.2.1.1 = x.1.1 ∧ x_2.2.1.2 = List.filter (fun (r : Room) => !decide (r.1 = x.2.2.2)) (List.take (x_2.2.2.2 + (1 : Int)).toNat x.1.2) ∧ true = (List.take (x_2.2.2.2 + (1 : Int)).toNat x.1.2).any fun (r : Room) => decide (r.1 = x.2.2.2)) ∧ ((↑x.1.2.length : Int) - (x_2.2.2.2 + (1 : Int))).toNat < ((↑x.1.2.length : Int) - x_2.2.2.2).toNat) ∧ (decide ((x.1.2.getD x_2.2.2.2.toNat ((0 : Int), (0 : Int), (0 : Int))).1 = x.2.2.2) = false → (x_2.2.1.2.length + [x.1.2.getD x_2.2.2.2.toNat ((0 : Int), (0 : Int), (0 : Int))].length) * ((8 : Nat) + ((8 : Nat) + (8 : Nat))) ≤ big ∧ InR IntKind.i64 (x_2.2.2.2 + (1 : Int)) ∧ ((0 : Int) ≤ x_2.2.2.2 + (1 : Int) ∧ x_2.2.2.2 + (1 : Int) ≤ (↑x.1.2.length : Int) ∧ (0 : Int) ≤ x_2.1 + ((x.1.2.getD x_2.2.2.2.toNat ((0 : Int), (0 : Int), (0 : Int))).2.1 - (x.1.2.getD x_2.2.2.2.toNat ((0 : Int), (0 : Int), (0 : Int))).2.2) ∧ x_2.1 + ((x.1.2.getD x_2.2.2.2.toNat ((0 : Int), (0 : Int), (0 : Int))).2.1 - (x.1.2.getD x_2.2.2.2.toNat ((0 : Int), (0 : Int), (0 : Int))).2.2) ≤ (256 : Int) * (x_2.2.2.2 + (1 : Int)) ∧ x_2.1 + ((x.1.2.getD x_2.2.2.2.toNat ((0 : Int), (0 : Int), (0 : Int))).2.1 - (x.1.2.getD x_2.2.2.2.toNat ((0 : Int), (0 : Int), (0 : Int))).2.2) + wasteL (List.drop (x_2.2.2.2 + (1 : Int)).toNat x.1.2) = wasteL x.1.2 ∧ x_2.2.1.1 = x.1.1 ∧ x_2.2.1.2 ++ [x.1.2.getD x_2.2.2.2.toNat ((0 : Int), (0 : Int), (0 : Int))] = List.filter (fun (r : Room) => !decide (r.1 = x.2.2.2)) (List.take (x_2.2.2.2 + (1 : Int)).toNat x.1.2) ∧ x_2.2.2.1 = (List.take (x_2.2.2.2 + (1 : Int)).toNat x.1.2).any fun (r : Room) => decide (r.1 = x.2.2.2)) ∧ ((↑x.1.2.length : Int) - (x_2.2.2.2 + (1 : Int))).toNat < ((↑x.1.2.length : Int) - x_2.2.2.2).toNat)) ∧ (decide (x_2.2.2.2 < (↑x.1.2.length : Int)) = false → True ∧ ((!decide ((gapsHF x.1).1 = gapsI x.1.2 (0 : Int) (allOf x.1.1)) || decide ((gapsHF x.1).2 ≠ (0 : Int)) || decide ((wasteF x.1).1 ≠ x_2.1) || decide ((wasteF x.1).2 ≠ (0 : Int))) = true → false = true ∧ True) ∧ ((!decide ((gapsHF x.1).1 = gapsI x.1.2 (0 : Int) (allOf x.1.1)) || decide ((gapsHF x.1).2 ≠ (0 : Int)) || decide ((wasteF x.1).1 ≠ x_2.1) || decide ((wasteF x.1).2 ≠ (0 : Int))) = false → ((!x_2.2.2.1) = true → True) ∧ (x_2.2.2.1 = true → (!x_2.2.2.1 && (!decide ((giveTF x.1 x.2.2.2).1 = ((0 : Int), ([] : List (Int × Int × Int)))) || decide ((giveTF x.1 x.2.2.2).2 ≠ (5 : Int)))) = false → True) ∧ ((!x_2.2.2.1 && (!decide ((giveTF x.1 x.2.2.2).1 = ((0 : Int), ([] : List (Int × Int × Int)))) || decide ((giveTF x.1 x.2.2.2).2 ≠ (5 : Int))) || x_2.2.2.1 && (!decide ((giveTF x.1 x.2.2.2).1 = x_2.2.1) || decide ((giveTF x.1 x.2.2.2).2 ≠ (0 : Int)))) = true → false = true ∧ True) ∧ ((!x_2.2.2.1 && (!decide ((giveTF x.1 x.2.2.2).1 = ((0 : Int), ([] : List (Int × Int × Int)))) || decide ((giveTF x.1 x.2.2.2).2 ≠ (5 : Int))) || x_2.2.2.1 && (!decide ((giveTF x.1 x.2.2.2).1 = x_2.2.1) || decide ((giveTF x.1 x.2.2.2).2 ≠ (0 : Int)))) = false → (decide (x.2.2.1 < (1 : Int)) = false → (0 : Int) ≤ x.1.1) ∧ (decide (x.2.2.1 < (1 : Int)) = false → x.1.1 < (↑IntKind.i64.bits : Int)) ∧ ((decide (x.2.2.1 < (1 : Int)) || decide (IntKind.i64.wrap ((1 : Int) * (2 : Int) ^ x.1.1.toNat) < x.2.2.1)) = true → True ∧ (decide ((takeTF x.1 x.2.2.1).1 = ((0 : Int), ([] : List (Int × Int × Int)))) && (decide ((takeTF x.1 x.2.2.1).2.1.1 = (0 : Int)) && decide ((takeTF x.1 x.2.2.1).2.1.2 = (0 : Int))) && decide ((takeTF x.1 x.2.2.1).2.2 = (4 : Int))) = true ∧ True) ∧ ((decide (x.2.2.1 < (1 : Int)) || decide (IntKind.i64.wrap ((1 : Int) * (2 : Int) ^ x.1.1.toNat) < x.2.2.1)) = false → ((0 : Int) ≤ (0 : Int) ∧ (0 : Int) ≤ (↑(gapsI x.1.2 (0 : Int) (allOf x.1.1)).length : Int) ∧ (-1 : Int) ≤ (-1 : Int) ∧ bestAt x.2.2.1 (gapsI x.1.2 (0 : Int) (allOf x.1.1)) (-1 : Int) (0 : Int)) ∧ ∀ (x_3 : Int × Int), (0 : Int) ≤ x_3.2 ∧ x_3.2 ≤ (↑(gapsI x.1.2 (0 : Int) (allOf x.1.1)).length : Int) ∧ (-1 : Int) ≤ x_3.1 ∧ bestAt x.2.2.1 (gapsI x.1.2 (0 : Int) (allOf x.1.1)) x_3.1 x_3.2 → (decide (x_3.2 < (↑(gapsI x.1.2 (0 : Int) (allOf x.1.1)).length : Int)) = true → (0 : Int) ≤ x_3.2 ∧ x_3.2 < (↑(gapsI x.1.2 (0 : Int) (allOf x.1.1)).length : Int) ∧ (decide (x_3.1 < (0 : Int)) = false → decide (x.2.2.1 ≤ ((gapsI x.1.2 (0 : Int) (allOf x.1.1)).getD x_3.2.toNat ((0 : Int), (0 : Int))).2) = true → (0 : Int) ≤ x_3.1) ∧ (decide (x_3.1 < (0 : Int)) = false → decide (x.2.2.1 ≤ ((gapsI x.1.2 (0 : Int) (allOf x.1.1)).getD x_3.2.toNat ((0 : Int), (0 : Int))).2) = true → x_3.1 < (↑(gapsI x.1.2 (0 : Int) (allOf x.1.1)).length : Int)) ∧ ((decide (x.2.2.1 ≤ ((gapsI x.1.2 (0 : Int) (allOf x.1.1)).getD x_3.2.toNat ((0 : Int), (0 : Int))).2) && (decide (x_3.1 < (0 : Int)) || decide (((gapsI x.1.2 (0 : Int) (allOf x.1.1)).getD x_3.2.toNat ((0 : Int), (0 : Int))).2 < ((gapsI x.1.2 (0 : Int) (allOf x.1.1)).getD x_3.1.toNat ((0 : Int), (0 : Int))).2))) = true → InR IntKind.i64 (x_3.2 + (1 : Int)) ∧ ((0 : Int) ≤ x_3.2 + (1 : Int) ∧ x_3.2 + (1 : Int) ≤ (↑(gapsI x.1.2 (0 : Int) (allOf x.1.1)).length : Int) ∧ (-1 : Int) ≤ x_3.2 ∧ bestAt x.2.2.1 (gapsI x.1.2 (0 : Int) (allOf x.1.1)) x_3.2 (x_3.2 + (1 : Int))) ∧ ((↑(gapsI x.1.2 (0 : Int) (allOf x.1.1)).length : Int) - (x_3.2 + (1 : Int))).toNat < ((↑(gapsI x.1.2 (0 : Int) (allOf x.1.1)).length : Int) - x_3.2).toNat) ∧ ((decide (x.2.2.1 ≤ ((gapsI x.1.2 (0 : Int) (allOf x.1.1)).getD x_3.2.toNat ((0 : Int), (0 : Int))).2) && (decide (x_3.1 < (0 : Int)) || decide (((gapsI x.1.2 (0 : Int) (allOf x.1.1)).getD x_3.2.toNat ((0 : Int), (0 : Int))).2 < ((gapsI x.1.2 (0 : Int) (allOf x.1.1)).getD x_3.1.toNat ((0 : Int), (0 : Int))).2))) = false → InR IntKind.i64 (x_3.2 + (1 : Int)) ∧ ((0 : Int) ≤ x_3.2 + (1 : Int) ∧ x_3.2 + (1 : Int) ≤ (↑(gapsI x.1.2 (0 : Int) (allOf x.1.1)).length : Int) ∧ (-1 : Int) ≤ x_3.1 ∧ bestAt x.2.2.1 (gapsI x.1.2 (0 : Int) (allOf x.1.1)) x_3.1 (x_3.2 + (1 : Int))) ∧ ((↑(gapsI x.1.2 (0 : Int) (allOf x.1.1)).length : Int) - (x_3.2 + (1 : Int))).toNat < ((↑(gapsI x.1.2 (0 : Int) (allOf x.1.1)).length : Int) - x_3.2).toNat)) ∧ (decide (x_3.2 < (↑(gapsI x.1.2 (0 : Int) (allOf x.1.1)).length : Int)) = false → (decide (x_3.1 < (0 : Int)) = true → True ∧ (decide ((takeTF x.1 x.2.2.1).1 = ((0 : Int), ([] : List (Int × Int × Int)))) && (decide ((takeTF x.1 x.2.2.1).2.1.1 = (0 : Int)) && decide ((takeTF x.1 x.2.2.1).2.1.2 = (0 : Int))) && decide ((takeTF x.1 x.2.2.1).2.2 = (7 : Int))) = true ∧ True) ∧ (decide (x_3.1 < (0 : Int)) = false → (isPow (1 : Int) = true ∧ ((1 : Int) = (1 : Int) ∨ (1 / 2 : Int) < x.2.2.1)) ∧ ∀ (x_4 : Int), isPow x_4 = true ∧ (x_4 = (1 : Int) ∨ x_4 / (2 : Int) < x.2.2.1) → (decide (x_4 < x.2.2.1) = true → InR IntKind.i64 (x_4 * (2 : Int)) ∧ (isPow (x_4 * (2 : Int)) = true ∧ (x_4 * (2 : Int) = (1 : Int) ∨ x_4 * (2 : Int) / (2 : Int) < x.2.2.1)) ∧ ((1024 : Int) - x_4 * (2 : Int)).toNat < ((1024 : Int) - x_4).toNat) ∧ (decide (x_4 < x.2.2.1) = false → ((0 : Int) ≤ (0 : Int) ∧ (0 : Int) ≤ (↑x.1.2.length : Int) ∧ x.1.1 = x.1.1 ∧ (↑(0 : Nat) : Int) ≤ (0 : Int) + (1 : Int) ∧ (false = false → (↑(0 : Nat) : Int) ≤ (0 : Int)) ∧ (false, ([] : List (Int × Int × Int))) = lawT (((gapsI x.1.2 (0 : Int) (allOf x.1.1)).getD x_3.1.toNat ((0 : Int), (0 : Int))).1, x_4, x.2.2.1) (List.take (Int.toNat (0 : Int)) x.1.2)) ∧ ∀ (x_5 : (Int × List (Int × Int × Int)) × Bool × Int), (0 : Int) ≤ x_5.2.2 ∧ x_5.2.2 ≤ (↑x.1.2.length : Int) ∧ x_5.1.1 = x.1.1 ∧ (↑x_5.1.2.length : Int) ≤ x_5.2.2 + (1 : Int) ∧ (x_5.2.1 = false → (↑x_5.1.2.length : Int) ≤ x_5.2.2) ∧ (x_5.2.1, x_5.1.2) = lawT (((gapsI x.1.2 (0 : Int) (allOf x.1.1)).getD x_3.1.toNat ((0 : Int), (0 : Int))).1, x_4, x.2.2.1) (List.take x_5.2.2.toNat x.1.2) → (decide (x_5.2.2 < (↑x.1.2.length : Int)) = true → (0 : Int) ≤ x_5.2.2 ∧ x_5.2.2 < (↑x.1.2.length : Int) ∧ (0 : Int) ≤ x_3.1 ∧ x_3.1 < (↑(gapsI x.1.2 (0 : Int) (allOf x.1.1)).length : Int) ∧ (decide (((gapsI x.1.2 (0 : Int) (allOf x.1.1)).getD x_3.1.toNat ((0 : Int), (0 : Int))).1 < (x.1.2.getD x_5.2.2.toNat ((0 : Int), (0 : Int), (0 : Int))).1) = true → ∀ (_ : Array Value), ((!x_5.2.1) = true → (0 : Int) ≤ x_3.1 ∧ x_3.1 < (↑(gapsI x.1.2 (0 : Int) (allOf x.1.1)).length : Int) ∧ (x_5.1.2.length + [(((gapsI x.1.2 (0 : Int) (allOf x.1.1)).getD x_3.1.toNat ((0 : Int), (0 : Int))).1, x_4, x.2.2.1)].length) * ((8 : Nat) + ((8 : Nat) + (8 : Nat))) ≤ big ∧ ((x_5.1.2 ++ [(((gapsI x.1.2 (0 : Int) (allOf x.1.1)).getD x_3.1.toNat ((0 : Int), (0 : Int))).1, x_4, x.2.2.1)]).length + [x.1.2.getD x_5.2.2.toNat ((0 : Int), (0 : Int), (0 : Int))].length) * ((8 : Nat) + ((8 : Nat) + (8 : Nat))) ≤ big ∧ InR IntKind.i64 (x_5.2.2 + (1 : Int)) ∧ ((0 : Int) ≤ x_5.2.2 + (1 : Int) ∧ x_5.2.2 + (1 : Int) ≤ (↑x.1.2.length : Int) ∧ x_5.1.1 = x.1.1 ∧ (↑(x_5.1.2 ++ [(((gapsI x.1.2 (0 : Int) (allOf x.1.1)).getD x_3.1.toNat ((0 : Int), (0 : Int))).1, x_4, x.2.2.1)] ++ [x.1.2.getD x_5.2.2.toNat ((0 : Int), (0 : Int), (0 : Int))]).length : Int) ≤ x_5.2.2 + (1 : Int) + (1 : Int) ∧ (true = false → (↑(x_5.1.2 ++ [(((gapsI x.1.2 (0 : Int) (allOf x.1.1)).getD x_3.1.toNat ((0 : Int), (0 : Int))).1, x_4, x.2.2.1)] ++ [x.1.2.getD x_5.2.2.toNat ((0 : Int), (0 : Int), (0 : Int))]).length : Int) ≤ x_5.2.2 + (1 : Int)) ∧ (true, x_5.1.2 ++ [(((gapsI x.1.2 (0 : Int) (allOf x.1.1)).getD x_3.1.toNat ((0 : Int), (0 : Int))).1, x_4, x.2.2.1)] ++ [x.1.2.getD x_5.2.2.toNat ((0 : Int), (0 : Int), (0 : Int))]) = lawT (((gapsI x.1.2 (0 : Int) (allOf x.1.1)).getD x_3.1.toNat ((0 : Int), (0 : Int))).1, x_4, x.2.2.1) (List.take (x_5.2.2 + (1 : Int)).toNat x.1.2)) ∧ ((↑x.1.2.length : Int) - (x_5.2.2 + (1 : Int))).toNat < ((↑x.1.2.length : Int) - x_5.2.2).toNat) ∧ ((!x_5.2.1) = false → (x_5.1.2.length + [x.1.2.getD x_5.2.2.toNat ((0 : Int), (0 : Int), (0 : Int))].length) * ((8 : Nat) + ((8 : Nat) + (8 : Nat))) ≤ big ∧ InR IntKind.i64 (x_5.2.2 + (1 : Int)) ∧ ((0 : Int) ≤ x_5.2.2 + (1 : Int) ∧ x_5.2.2 + (1 : Int) ≤ (↑x.1.2.length : Int) ∧ x_5.1.1 = x.1.1 ∧ (↑(x_5.1.2 ++ [x.1.2.getD x_5.2.2.toNat ((0 : Int), (0 : Int), (0 : Int))]).length : Int) ≤ x_5.2.2 + (1 : Int) + (1 : Int) ∧ (x_5.2.1 = false → (↑(x_5.1.2 ++ [x.1.2.getD x_5.2.2.toNat ((0 : Int), (0 : Int), (0 : Int))]).length : Int) ≤ x_5.2.2 + (1 : Int)) ∧ (x_5.2.1, x_5.1.2 ++ [x.1.2.getD x_5.2.2.toNat ((0 : Int), (0 : Int), (0 : Int))]) = lawT (((gapsI x.1.2 (0 : Int) (allOf x.1.1)).getD x_3.1.toNat ((0 : Int), (0 : Int))).1, x_4, x.2.2.1) (List.take (x_5.2.2 + (1 : Int)).toNat x.1.2)) ∧ ((↑x.1.2.length : Int) - (x_5.2.2 + (1 : Int))).toNat < ((↑x.1.2.length : Int) - x_5.2.2).toNat)) ∧ (decide (((gapsI x.1.2 (0 : Int) (allOf x.1.1)).getD x_3.1.toNat ((0 : Int), (0 : Int))).1 < (x.1.2.getD x_5.2.2.toNat ((0 : Int), (0 : Int), (0 : Int))).1) = false → (x_5.1.2.length + [x.1.2.getD x_5.2.2.toNat ((0 : Int), (0 : Int), (0 : Int))].length) * ((8 : Nat) + ((8 : Nat) + (8 : Nat))) ≤ big ∧ InR IntKind.i64 (x_5.2.2 + (1 : Int)) ∧ ((0 : Int) ≤ x_5.2.2 + (1 : Int) ∧ x_5.2.2 + (1 : Int) ≤ (↑x.1.2.length : Int) ∧ x_5.1.1 = x.1.1 ∧ (↑(x_5.1.2 ++ [x.1.2.getD x_5.2.2.toNat ((0 : Int), (0 : Int), (0 : Int))]).length : Int) ≤ x_5.2.2 + (1 : Int) + (1 : Int) ∧ (x_5.2.1 = false → (↑(x_5.1.2 ++ [x.1.2.getD x_5.2.2.toNat ((0 : Int), (0 : Int), (0 : Int))]).length : Int) ≤ x_5.2.2 + (1 : Int)) ∧ (x_5.2.1, x_5.1.2 ++ [x.1.2.getD x_5.2.2.toNat ((0 : Int), (0 : Int), (0 : Int))]) = lawT (((gapsI x.1.2 (0 : Int) (allOf x.1.1)).getD x_3.1.toNat ((0 : Int), (0 : Int))).1, x_4, x.2.2.1) (List.take (x_5.2.2 + (1 : Int)).toNat x.1.2)) ∧ ((↑x.1.2.length : Int) - (x_5.2.2 + (1 : Int))).toNat < ((↑x.1.2.length : Int) - x_5.2.2).toNat)) ∧ (decide (x_5.2.2 < (↑x.1.2.length : Int)) = false → ∀ (_ : Array Value), ((!x_5.2.1) = true → (0 : Int) ≤ x_3.1 ∧ x_3.1 < (↑(gapsI x.1.2 (0 : Int) (allOf x.1.1)).length : Int) ∧ (x_5.1.2.length + [(((gapsI x.1.2 (0 : Int) (allOf x.1.1)).getD x_3.1.toNat ((0 : Int), (0 : Int))).1, x_4, x.2.2.1)].length) * ((8 : Nat) + ((8 : Nat) + (8 : Nat))) ≤ big ∧ (decide ((takeTF x.1 x.2.2.1).2.2 = (0 : Int)) = true → (0 : Int) ≤ x_3.1) ∧ (decide ((takeTF x.1 x.2.2.1).2.2 = (0 : Int)) = true → x_3.1 < (↑(gapsI x.1.2 (0 : Int) (allOf x.1.1)).length : Int)) ∧ ((decide ((takeTF x.1 x.2.2.1).2.2 = (0 : Int)) && (decide ((takeTF x.1 x.2.2.1).2.1.1 = ((gapsI x.1.2 (0 : Int) (allOf x.1.1)).getD x_3.1.toNat ((0 : Int), (0 : Int))).1) && decide ((takeTF x.1 x.2.2.1).2.1.2 = x_4))) = true → True) ∧ (decide ((takeTF x.1 x.2.2.1).2.2 = (0 : Int)) && (decide ((takeTF x.1 x.2.2.1).2.1.1 = ((gapsI x.1.2 (0 : Int) (allOf x.1.1)).getD x_3.1.toNat ((0 : Int), (0 : Int))).1) && decide ((takeTF x.1 x.2.2.1).2.1.2 = x_4)) && decide ((takeTF x.1 x.2.2.1).1 = (x_5.1.1, x_5.1.2 ++ [(((gapsI x.1.2 (0 : Int) (allOf x.1.1)).getD x_3.1.toNat ((0 : Int), (0 : Int))).1, x_4, x.2.2.1)]))) = true ∧ True) ∧ ((!x_5.2.1) = false → (decide ((takeTF x.1 x.2.2.1).2.2 = (0 : Int)) = true → (0 : Int) ≤ x_3.1) ∧ (decide ((takeTF x.1 x.2.2.1).2.2 = (0 : Int)) = true → x_3.1 < (↑(gapsI x.1.2 (0 : Int) (allOf x.1.1)).length : Int)) ∧ ((decide ((takeTF x.1 x.2.2.1).2.2 = (0 : Int)) && (decide ((takeTF x.1 x.2.2.1).2.1.1 = ((gapsI x.1.2 (0 : Int) (allOf x.1.1)).getD x_3.1.toNat ((0 : Int), (0 : Int))).1) && decide ((takeTF x.1 x.2.2.1).2.1.2 = x_4))) = true → True) ∧ (decide ((takeTF x.1 x.2.2.1).2.2 = (0 : Int)) && (decide ((takeTF x.1 x.2.2.1).2.1.1 = ((gapsI x.1.2 (0 : Int) (allOf x.1.1)).getD x_3.1.toNat ((0 : Int), (0 : Int))).1) && decide ((takeTF x.1 x.2.2.1).2.1.2 = x_4)) && decide ((takeTF x.1 x.2.2.1).1 = x_5.1)) = true ∧ True)))))))))))
theorem vcp_lawTwinTells : pv_lawTwinTells := by
  unfold pv_lawTwinTells
  intro ⟨⟨o, l⟩, order, n, a⟩ ⟨⟨_, hb, _⟩, _⟩ hr
  unfold big at *
  simp only at hb hr ⊢
  have hNew : newHalvesF order = if order < 0 ∨ 8 < order then ((0, []), 4) else ((order, []), 0) := rfl
  have hG : gapsHF (o, l) = if halvesF (o, l) ≠ 0 then ([], halvesF (o, l)) else (gapsI l 0 (allOf o), 0) := rfl
  have hW : wasteF (o, l) = if halvesF (o, l) ≠ 0 then (0, halvesF (o, l)) else (wasteL l, 0) := rfl
  have hV : giveTF (o, l) a = if halvesF (o, l) ≠ 0 then ((0, []), halvesF (o, l)) else if roomAt l a < 0 then ((0, []), 5) else ((o, cutG l (roomAt l a) (roomAt l a + 1)), 0) := rfl
  have hT : takeTF (o, l) n = if halvesF (o, l) ≠ 0 then ((0, []), (0, 0), halvesF (o, l)) else if n < 1 ∨ allOf o < n then ((0, []), (0, 0), 4) else
    if (bestG n (gapsI l 0 (allOf o))).2 = 0 then ((0, []), (0, 0), 7) else
    ((o, insT ((bestG n (gapsI l 0 (allOf o))).1, pwOf n, n) l), ((bestG n (gapsI l 0 (allOf o))).1, pwOf n), 0) := rfl
  refine ⟨trivial, trivial, trivial, trivial, trivial, ⟨fun h => ⟨trivial, fun h2 => ?_, fun _ => trivial⟩, fun h => ⟨trivial, fun h2 => ?_, fun _ => trivial⟩⟩, fun _ _ => ⟨trivial, trivial, fun h => ?_, fun _ => ⟨fun h => ?_, fun h => ?_⟩⟩⟩
  · exfalso
    rw [hNew, if_pos (by simpa using h)] at h2
    simp at h2
  · exfalso
    rw [hNew, if_neg (by simpa using h)] at h2
    simp at h2
  · exact absurd rfl (of_decide_eq_true h)
  · have h := of_decide_eq_true h
    rw [hG, hW, hV, hT, if_pos h, if_pos h, if_pos h, if_pos h]
    simp
  have hf : halvesF (o, l) = 0 := by simpa using h
  clear h
  rw [if_neg (by simpa using hf)] at hG hW hT
  rw [hG, hW]
  obtain ⟨k1, k2, k3, k4, k5⟩ := halves_ok hf
  simp only at k1 k2 k3 k4 k5
  have k6 : ∀ r ∈ l, roomIn r := fun r hr => by have := k5 r hr; exact ⟨this.1, this.2.1, this.2.2.1, this.2.2.2.1⟩
  have k7 := startsT k4 k6
  rw [give_is hf k7, hT]
  obtain ⟨e1, e2, e3, e4⟩ := allOf_is k1 k2
  rw [e1]
  have hll := rooms_len l 0 k4 (fun r hr => by have := k5 r hr; omega) (by omega)
  have hgin : ∀ r ∈ gapsI l 0 (allOf o), isPow r.2 = true ∧ openR l r.1 r.2 = true := fun r hr => by
    have hr : r ∈ gapsT l (lgI (allOf o)) (0 : Int).toNat := hr
    obtain ⟨_, _, q, j, hj, ej⟩ := gapsT_in l _ _ r hr
    rw [show allOf o = ((2 ^ o.toNat : Nat) : Int) from rfl, lgI_pow (by omega)] at hj
    refine ⟨?_, q⟩
    rw [ej]
    exact pow_isPow (by omega)
  have hgl := gapsI_len (t := l) (a := 0) e2
  generalize gapsI l 0 (allOf o) = gs at *
  refine ⟨⟨k1, k2, k6⟩, ⟨by omega, by omega, by omega, by omega, by simp, trivial, by simp, by simp⟩, fun ⟨w, ⟨o1, g⟩, f, i⟩ ⟨i0, i1, i2, i3, i4, i5, i6, i7⟩ => ⟨fun hlt => ?_, fun hge => ?_⟩⟩
  · simp only at i0 i1 i2 i3 i4 i5 i6 i7 hlt ⊢
    have hlt := of_decide_eq_true hlt
    have hr := k5 _ (getD_mem ((0, 0, 0) : Room) i0 hlt)
    rw [drop_cons ((0, 0, 0) : Room) i0 hlt] at i4
    have hgl : g.length ≤ i.toNat := by
      rw [i6]
      refine Nat.le_trans (List.length_filter_le ..) ?_
      rw [List.length_take]
      omega
    rw [take_snoc ((0, 0, 0) : Room) i0 hlt, List.filter_append, List.any_append, ← i6, ← i7]
    simp only [wasteL, List.map_cons, List.sum_cons] at i4 ⊢
    generalize l.getD i.toNat (0, 0, 0) = r at *
    simp only [InR]
    refine ⟨i0, hlt, by omega, by omega, fun hc => ?_, fun hc => ?_⟩
    · have hc := of_decide_eq_true hc
      refine ⟨by omega, ⟨by omega, by omega, by omega, by omega, by omega, i5, by simp [hc], by simp [hc]⟩, by omega⟩
    · have hc := of_decide_eq_false hc
      refine ⟨by simp only [List.length_cons, List.length_nil]; omega, by omega, ⟨by omega, by omega, by omega, by omega, by omega, i5, by simp [hc], by simp [hc]⟩, by omega⟩
  simp only at i0 i1 i4 i5 i6 i7 hge ⊢
  have hge := of_decide_eq_false hge
  rw [take_end hge] at i6 i7
  rw [drop_end hge] at i4
  have i4 : w = wasteL l := by simpa [wasteL] using i4
  refine ⟨trivial, fun h => ?_, fun _ => ⟨fun _ => trivial, fun _ _ => trivial, fun h => ?_, fun _ => ?_⟩⟩
  · exfalso
    rw [i4] at h
    simp at h
  · exfalso
    rw [← i7, ← i6, ← i5] at h
    cases f <;> simp at h
  clear i4 i5 i6 i7 hge i0 i1
  refine ⟨fun _ => k1, fun _ => by rw [show ((IntKind.i64.bits : Nat) : Int) = 64 from rfl]; omega, fun h => ?_, fun h => ?_⟩
  · have h : n < 1 ∨ allOf o < n := by simpa using h
    rw [if_pos h]
    simp
  have hn1 : ¬ (n < 1 ∨ allOf o < n) := fun h2 => by
    rcases h2 with h2 | h2
    · rw [decide_eq_true h2] at h; cases h
    · rw [decide_eq_true h2, Bool.or_true] at h; cases h
  clear h
  rw [if_neg hn1]
  have hn2 : 1 ≤ n := by omega
  refine ⟨⟨by omega, by omega, by omega, .inl ⟨by omega, rfl⟩⟩, fun ⟨k, i⟩ ⟨i0, i1, i2, i3⟩ => ⟨fun hlt => ?_, fun hge => ?_⟩⟩
  · simp only at i0 i1 i2 i3 hlt ⊢
    have hlt := of_decide_eq_true hlt
    have hs := best_step hn2 i0 hlt i3
    have hk : k < gs.length := by
      rcases i3 with ⟨c, _⟩ | ⟨_, c, _⟩ <;> omega
    simp only [InR]
    exact ⟨i0, hlt, fun h _ => by have := of_decide_eq_false h; omega, fun _ _ => hk, fun hc => ⟨by omega, ⟨by omega, by omega, by omega, hs.1 hc⟩, by omega⟩, fun hc => ⟨by omega, ⟨by omega, by omega, by omega, hs.2 hc⟩, by omega⟩⟩
  simp only at i0 i1 i2 i3 hge ⊢
  have hge := of_decide_eq_false hge
  unfold bestAt at i3
  rw [take_end hge] at i3
  refine ⟨fun hk => ?_, fun hk => ?_⟩
  · have hk := of_decide_eq_true hk
    rcases i3 with ⟨_, c⟩ | ⟨c, _⟩
    · rw [c]
      simp
    · omega
  have hk := of_decide_eq_false hk
  obtain ⟨c1, c2, c3, c4⟩ : 0 ≤ k ∧ k < gs.length ∧ bestG n gs = gs.getD k.toNat (0, 0) ∧ n ≤ (gs.getD k.toNat (0, 0)).2 := by
    rcases i3 with ⟨c, _⟩ | ⟨c1, c2, c3, c4⟩
    · omega
    · exact ⟨c1, by omega, c3, c4⟩
  have c5 := hgin _ (getD_mem ((0, 0) : Gap) c1 c2)
  rw [c3]
  generalize gs.getD k.toNat (0, 0) = b at *
  rw [if_neg (by omega : ¬ b.2 = 0)]
  have hne := open_ne c5.2 (by omega) k6
  refine ⟨⟨by decide, by first | trivial | exact .inl trivial | exact .inl rfl⟩, fun m ⟨m1, m2⟩ => ⟨fun hlt => ?_, fun hge => ?_⟩⟩
  · have hlt := of_decide_eq_true hlt
    have := isPow_in m1
    simp only [InR]
    exact ⟨by omega, ⟨pow_twice m1 (by omega) hlt, .inr (by omega)⟩, by omega⟩
  have hm : m = pwOf n := pow_up m1 m2 (by have := of_decide_eq_false hge; omega) hn2
  rw [← hm]
  refine ⟨⟨by omega, by omega, trivial, by simp, by simp, by simp [lawT]⟩, fun ⟨⟨o2, t⟩, p, j⟩ ⟨j0, j1, j2, j3, j5, j4⟩ => ⟨fun hlt => ?_, fun hge => ?_⟩⟩
  · simp only at j0 j1 j2 j3 j4 j5 hlt ⊢
    have hlt := of_decide_eq_true hlt
    rw [take_snoc ((0, 0, 0) : Room) j0 hlt, lawT_snoc, ← j4]
    generalize l.getD j.toNat (0, 0, 0) = r at *
    simp only [InR, List.length_append, List.length_cons, List.length_nil]
    refine ⟨j0, hlt, c1, c2, fun hc _ => ⟨fun hp => ?_, fun hp => ?_⟩, fun hc => ?_⟩
    · have hp : p = false := by simpa using hp
      subst hp
      have j5 := j5 rfl
      refine ⟨c1, c2, by omega, by omega, by omega, ⟨by omega, by omega, j2, by omega, fun h => (by cases h), ?_⟩, by omega⟩
      rw [if_pos (of_decide_eq_true hc)]
      simp [addT]
    · have hp : p = true := by simpa using hp
      subst hp
      refine ⟨by omega, by omega, ⟨by omega, by omega, j2, by omega, fun h => (by cases h), ?_⟩, by omega⟩
      rw [if_pos (of_decide_eq_true hc)]
      simp [addT]
    · refine ⟨by omega, by omega, ⟨by omega, by omega, j2, by omega, fun h => (by have := j5 h; omega), ?_⟩, by omega⟩
      rw [if_neg (of_decide_eq_false hc)]
  simp only at j0 j1 j2 j3 j4 hge ⊢
  rw [take_end (of_decide_eq_false hge)] at j4
  have hE := lawT_end (x := (b.1, m, n)) k7 hne
  rw [← j4] at hE
  rw [← hE, j2]
  refine fun _ => ⟨fun hp => ?_, fun hp => ?_⟩
  · have hp : p = false := by simpa using hp
    subst hp
    refine ⟨c1, c2, by simp only [List.length_cons, List.length_nil]; omega, fun _ => c1, fun _ => c2, fun _ => trivial, ?_⟩
    simp [addT]
  · have hp : p = true := by simpa using hp
    subst hp
    refine ⟨fun _ => c1, fun _ => c2, fun _ => trivial, ?_⟩
    simp [addT]
theorem ok_lawTwinTells : sp_lawTwinTells.ok Try.prog 4 := fn_ok (ann := an_lawTwinTells) (tbl_cons ok_twinNew (tbl_cons ok_takeT (tbl_cons ok_giveT (tbl_cons ok_twinGaps (tbl_cons ok_waste (tbl_cons ok_rSameHalves (tbl_cons ok_rHalves (tbl_cons ok_twinCheck (tbl_cons ok_rHalfGaps (tbl_cons ok_rSameRuns tbl_nil)))))))))) Try.func4 (by kernel_rfl) vcp_lawTwinTells
end Go.Proofs.Ytcnoiiohmpgckaa
