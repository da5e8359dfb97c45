
import Derived.Test.YtcnoiiohmpgckaaStepDone
namespace Go.Proofs.Ytcnoiiohmpgckaa
open Go
set_option maxRecDepth 100000
set_option maxHeartbeats 1000000
theorem put_mem {l : List Int} {x y : Int} (h : GoodR l) (hx : 0 ≤ x ∧ x ≤ 255) : y ∈ putL l x ↔ y ∈ l ∨ y = x := by
  rw [← put_rising h.rise h.range hx, rising_mem, List.mem_append, List.mem_singleton]
  constructor
  · exact fun h => h.2.2
  · rintro (h1 | rfl)
    · have := h.range y h1
      exact ⟨by omega, by omega, .inl h1⟩
    · exact ⟨by omega, by omega, .inr rfl⟩
theorem grey_mem (b : List Int) (y : Int) : ∀ (ns g : List Int), GoodR g → (∀ z ∈ ns, 0 ≤ z ∧ z ≤ 255) → (y ∈ ns.foldl (greyT b) g ↔ y ∈ g ∨ (y ∈ ns ∧ ¬ y ∈ b))
  | [], g, _, _ => by simp
  | n :: ns, g, hg, hn => by
    have h0 := hn n (by simp)
    have hg1 : GoodR (greyT b g n) := by
      unfold greyT
      split
      · exact put_good hg h0
      · exact hg
    rw [List.foldl_cons, grey_mem b y ns _ hg1 fun z hz => hn z (by simp [hz])]
    have key : y ∈ greyT b g n ↔ y ∈ g ∨ (y = n ∧ ¬ y ∈ b) := by
      have hw : whiteB ([], g, b) n = true ↔ ¬ n ∈ g ∧ ¬ n ∈ b := by
        show (!inL g n && !inL b n) = true ↔ _
        rw [← inL_iff, ← inL_iff]
        simp
      unfold greyT
      split
      · rename_i h
        have h := hw.1 h
        rw [put_mem hg h0]
        constructor
        · rintro (h1 | rfl)
          · exact .inl h1
          · exact .inr ⟨rfl, h.2⟩
        · rintro (h1 | h1)
          · exact .inl h1
          · exact .inr h1.1
      · rename_i h
        constructor
        · exact .inl
        · rintro (h1 | ⟨rfl, h1⟩)
          · exact h1
          · apply Classical.byContradiction
            intro h2
            exact h (hw.2 ⟨h2, h1⟩)
    rw [key, List.mem_cons]
    constructor
    · rintro ((h1 | h1) | h1)
      · exact .inl h1
      · exact .inr ⟨.inl h1.1, h1.2⟩
      · exact .inr ⟨.inr h1.1, h1.2⟩
    · rintro (h1 | ⟨h1 | h1, h2⟩)
      · exact .inl (.inl h1)
      · exact .inl (.inr ⟨h1, h2⟩)
      · exact .inr ⟨h1, h2⟩
def an_lawStepTells : Nat → Option LoopGen
  | 11 => some { rd := [.box 4 ty_Tri, .own 90 3 ty_I], A := fun ((t, b) : Tri × List Int) => { cs := [.own 18 3 ty_I, .dat 92 ty_I], inv := fun ((o, i) : List Int × Int) => 0 ≤ i ∧ i ≤ b.length ∧ b.length ≤ 256 ∧ o = (b.take i.toNat).filter fun x => !inL t.2.2 x, mu := fun ((_, i) : List Int × Int) => (b.length - i).toNat } }
  | 21 => some { rd := [.own 21 3 ty_I, .own 22 3 ty_I, .dat 147 (.arr ty_I)], A := fun ((g, bl, n) : List Int × List Int × List Int) => { cs := [.own 21 3 ty_I, .dat 149 ty_I], inv := fun ((o, i) : List Int × Int) => 0 ≤ i ∧ i ≤ n.length ∧ n.length ≤ 256 ∧ o = g ++ (n.take i.toNat).filter fun k => decide (0 ≤ k) && !inL bl k, mu := fun ((_, i) : List Int × Int) => (n.length - i).toNat } }
  | 1000009 => some { rd := [], A := fun (_ : Unit) => { cs := [], inv := fun _ => True, mu := fun _ => 0 } }
  | _ => none
def sp_lawStepTells : Spec := sp_lawU [ty_Tri, ty_I, ty_I, ty_I]
def pv_lawStepTells : Prop :=
    ∀ (x : (List Int × List Int × List Int) × Int × Int × Int), ((x.1.1.length * 8 ≤ big ∧ ∀ (x_1 : Int), x_1 ∈ x.1.1 → InR IntKind.u64 x_1) ∧ (x.1.2.1.length * 8 ≤ big ∧ ∀ (x_1 : Int), x_1 ∈ x.1.2.1 → InR IntKind.i64 x_1) ∧ x.1.2.2.length * 8 ≤ big ∧ ∀ (x_1 : Int), x_1 ∈ x.1.2.2 → InR IntKind.i64 x_1) ∧ InR IntKind.i64 x.2.1 ∧ InR IntKind.i64 x.2.2.1 ∧ InR IntKind.i64 x.2.2.2 → (((x.1.1.length * 8 ≤ 140737488351232 ∧ ∀ (x_1 : Int), x_1 ∈ x.1.1 → sp_room ty_W x_1) ∧ (x.1.2.1.length * 8 ≤ 140737488351232 ∧ ∀ (x_1 : Int), x_1 ∈ x.1.2.1 → sp_room ty_I x_1) ∧ x.1.2.2.length * 8 ≤ 140737488351232 ∧ ∀ (x_1 : Int), x_1 ∈ x.1.2.2 → sp_room ty_I x_1) ∧ True ∧ True ∧ True) ∧ ((x.1.1.length ≤ 1048576 ∧ ∀ (x_1 : Int), x_1 ∈ x.1.1 → sp_small 1048576 ty_W x_1) ∧ (x.1.2.1.length ≤ 1048576 ∧ ∀ (x_1 : Int), x_1 ∈ x.1.2.1 → sp_small 1048576 ty_I x_1) ∧ x.1.2.2.length ≤ 1048576 ∧ ∀ (x_1 : Int), x_1 ∈ x.1.2.2 → sp_small 1048576 ty_I x_1) ∧ True ∧ True ∧ True → (x.1.2.1.length + x.1.2.2.length + 300) * 8 ≤ 140737488355328 ∧ (x.1.2.1.length + x.1.2.2.length + 1) * 8 ≤ 140737488355328 ∧ (x.1.2.1.length + x.1.2.2.length) * 8 ≤ 140737488355328 ∧ True ∧ (decide (triF x.1 ≠ 0) = true → True ∧ ((decide ((stepF x.1).1 = (([] : List Int), ([] : List Int), ([] : List Int))) && !(stepF x.1).2.1 && decide ((stepF x.1).2.2 = triF x.1)) = true → True) ∧ (decide ((stepF x.1).1 = (([] : List Int), ([] : List Int), ([] : List Int))) && !(stepF x.1).2.1 && decide ((stepF x.1).2.2 = triF x.1) && decide ((writeT x.1 x.2.1 x.2.2.1 x.2.2.2).1 = (([] : List Int), ([] : List Int), ([] : List Int))) && decide ((writeT x.1 x.2.1 x.2.2.1 x.2.2.2).2 = triF x.1) && decide ((↑(doneT x.1).1.length : Int) = 0) && decide ((doneT x.1).2 = triF x.1)) = true ∧ True) ∧ (decide (triF x.1 ≠ 0) = false → ((decide ((↑x.1.2.1.length : Int) = 0) = true → True ∧ ((0 : Int) ≤ 0 ∧ 0 ≤ (↑(beginsL (spotsF x.1.1).1).length : Int) ∧ (beginsL (spotsF x.1.1).1).length ≤ 256 ∧ ([] : List Int) = List.filter (fun (x_1 : Int) => !inL x.1.2.2 x_1) (List.take (Int.toNat 0) (beginsL (spotsF x.1.1).1))) ∧ ∀ (x_1 : List Int × Int), 0 ≤ x_1.2 ∧ x_1.2 ≤ (↑(beginsL (spotsF x.1.1).1).length : Int) ∧ (beginsL (spotsF x.1.1).1).length ≤ 256 ∧ x_1.1 = List.filter (fun (x_2 : Int) => !inL x.1.2.2 x_2) (List.take x_1.2.toNat (beginsL (spotsF x.1.1).1)) → (decide (x_1.2 < (↑(beginsL (spotsF x.1.1).1).length : Int)) = true → 0 ≤ x_1.2 ∧ x_1.2 < (↑(beginsL (spotsF x.1.1).1).length : Int) ∧ x_1.2.toNat < (beginsL (spotsF x.1.1).1).length ∧ True ∧ ((!inL x.1.2.2 ((beginsL (spotsF x.1.1).1).getD x_1.2.toNat 0)) = true → (x_1.1.length + [(beginsL (spotsF x.1.1).1).getD x_1.2.toNat 0].length) * 8 ≤ big ∧ InR IntKind.i64 (x_1.2 + 1) ∧ (0 ≤ x_1.2 + 1 ∧ x_1.2 + 1 ≤ (↑(beginsL (spotsF x.1.1).1).length : Int) ∧ (beginsL (spotsF x.1.1).1).length ≤ 256 ∧ x_1.1 ++ [(beginsL (spotsF x.1.1).1).getD x_1.2.toNat 0] = List.filter (fun (x_2 : Int) => !inL x.1.2.2 x_2) (List.take (x_1.2 + 1).toNat (beginsL (spotsF x.1.1).1))) ∧ ((↑(beginsL (spotsF x.1.1).1).length : Int) - (x_1.2 + 1)).toNat < ((↑(beginsL (spotsF x.1.1).1).length : Int) - x_1.2).toNat) ∧ ((!inL x.1.2.2 ((beginsL (spotsF x.1.1).1).getD x_1.2.toNat 0)) = false → InR IntKind.i64 (x_1.2 + 1) ∧ (0 ≤ x_1.2 + 1 ∧ x_1.2 + 1 ≤ (↑(beginsL (spotsF x.1.1).1).length : Int) ∧ (beginsL (spotsF x.1.1).1).length ≤ 256 ∧ x_1.1 = List.filter (fun (x_2 : Int) => !inL x.1.2.2 x_2) (List.take (x_1.2 + 1).toNat (beginsL (spotsF x.1.1).1))) ∧ ((↑(beginsL (spotsF x.1.1).1).length : Int) - (x_1.2 + 1)).toNat < ((↑(beginsL (spotsF x.1.1).1).length : Int) - x_1.2).toNat)) ∧ (decide (x_1.2 < (↑(beginsL (spotsF x.1.1).1).length : Int)) = false → True ∧ ((!decide ((stepF x.1).1 = x.1) || (stepF x.1).2.1 || decide ((stepF x.1).2.2 ≠ 0) || decide ((doneT x.1).2 ≠ 0)) = false → True) ∧ ((!decide ((stepF x.1).1 = x.1) || (stepF x.1).2.1 || decide ((stepF x.1).2.2 ≠ 0) || decide ((doneT x.1).2 ≠ 0) || !decide ((doneT x.1).1 = x_1.1)) = true → false = true ∧ True) ∧ ((!decide ((stepF x.1).1 = x.1) || (stepF x.1).2.1 || decide ((stepF x.1).2.2 ≠ 0) || decide ((doneT x.1).2 ≠ 0) || !decide ((doneT x.1).1 = x_1.1)) = false → True))) ∧ (decide ((↑x.1.2.1.length : Int) = 0) = false → (0 : Int) ≤ 1 ∧ 1 ≤ (↑x.1.2.1.length : Int) ∧ True ∧ True ∧ (0 : Int) ≤ 0 ∧ 0 < (↑x.1.2.1.length : Int) ∧ x.1.2.1 = x.1.2.1 ∧ (0 : Int) ≤ 0 ∧ 0 < (↑x.1.2.1.length : Int) ∧ x.1.2.1.getD (Int.toNat 0) 0 = x.1.2.1.getD (Int.toNat 0) 0 ∧ x.1.2.1.getD (Int.toNat 0) 0 = x.1.2.1.getD (Int.toNat 0) 0 ∧ [x.1.2.1.getD (Int.toNat 0) 0] = [x.1.2.1.getD (Int.toNat 0) 0] ∧ (x.1.2.2.length + [x.1.2.1.getD (Int.toNat 0) 0].length) * 8 ≤ big ∧ True ∧ (0 : Int) ≤ 0 ∧ 0 < (↑x.1.2.1.length : Int) ∧ True ∧ ((0 : Int) ≤ 0 ∧ 0 ≤ (↑(namedL x.1.1 (x.1.2.1.getD (Int.toNat 0) 0) (headAtL (x.1.2.1.getD (Int.toNat 0) 0) (spotsF x.1.1).1).1).length : Int) ∧ (namedL x.1.1 (x.1.2.1.getD (Int.toNat 0) 0) (headAtL (x.1.2.1.getD (Int.toNat 0) 0) (spotsF x.1.1).1).1).length ≤ 256 ∧ List.drop (Int.toNat 1) x.1.2.1 = List.drop (Int.toNat 1) x.1.2.1 ++ List.filter (fun (k : Int) => decide (0 ≤ k) && !inL (risingL (x.1.2.2 ++ [x.1.2.1.getD (Int.toNat 0) 0]) 256) k) (List.take (Int.toNat 0) (namedL x.1.1 (x.1.2.1.getD (Int.toNat 0) 0) (headAtL (x.1.2.1.getD (Int.toNat 0) 0) (spotsF x.1.1).1).1))) ∧ ∀ (x_1 : List Int × Int), 0 ≤ x_1.2 ∧ x_1.2 ≤ (↑(namedL x.1.1 (x.1.2.1.getD (Int.toNat 0) 0) (headAtL (x.1.2.1.getD (Int.toNat 0) 0) (spotsF x.1.1).1).1).length : Int) ∧ (namedL x.1.1 (x.1.2.1.getD (Int.toNat 0) 0) (headAtL (x.1.2.1.getD (Int.toNat 0) 0) (spotsF x.1.1).1).1).length ≤ 256 ∧ x_1.1 = List.drop (Int.toNat 1) x.1.2.1 ++ List.filter (fun (k : Int) => decide (0 ≤ k) && !inL (risingL (x.1.2.2 ++ [x.1.2.1.getD (Int.toNat 0) 0]) 256) k) (List.take x_1.2.toNat (namedL x.1.1 (x.1.2.1.getD (Int.toNat 0) 0) (headAtL (x.1.2.1.getD (Int.toNat 0) 0) (spotsF x.1.1).1).1)) → (decide (x_1.2 < (↑(namedL x.1.1 (x.1.2.1.getD (Int.toNat 0) 0) (headAtL (x.1.2.1.getD (Int.toNat 0) 0) (spotsF x.1.1).1).1).length : Int)) = true → 0 ≤ x_1.2 ∧ x_1.2 < (↑(namedL x.1.1 (x.1.2.1.getD (Int.toNat 0) 0) (headAtL (x.1.2.1.getD (Int.toNat 0) 0) (spotsF x.1.1).1).1).length : Int) ∧ (decide (0 ≤ (namedL x.1.1 (x.1.2.1.getD (Int.toNat 0) 0) (headAtL (x.1.2.1.getD (Int.toNat 0) 0) (spotsF x.1.1).1).1).getD x_1.2.toNat 0) = true → True) ∧ ((decide (0 ≤ (namedL x.1.1 (x.1.2.1.getD (Int.toNat 0) 0) (headAtL (x.1.2.1.getD (Int.toNat 0) 0) (spotsF x.1.1).1).1).getD x_1.2.toNat 0) && !inL (risingL (x.1.2.2 ++ [x.1.2.1.getD (Int.toNat 0) 0]) 256) ((namedL x.1.1 (x.1.2.1.getD (Int.toNat 0) 0) (headAtL (x.1.2.1.getD (Int.toNat 0) 0) (spotsF x.1.1).1).1).getD x_1.2.toNat 0)) = true → (x_1.1.length + [(namedL x.1.1 (x.1.2.1.getD (Int.toNat 0) 0) (headAtL (x.1.2.1.getD (Int.toNat 0) 0) (spotsF x.1.1).1).1).getD x_1.2.toNat 0].length) * 8 ≤ big ∧ InR IntKind.i64 (x_1.2 + 1) ∧ (0 ≤ x_1.2 + 1 ∧ x_1.2 + 1 ≤ (↑(namedL x.1.1 (x.1.2.1.getD (Int.toNat 0) 0) (headAtL (x.1.2.1.getD (Int.toNat 0) 0) (spotsF x.1.1).1).1).length : Int) ∧ (namedL x.1.1 (x.1.2.1.getD (Int.toNat 0) 0) (headAtL (x.1.2.1.getD (Int.toNat 0) 0) (spotsF x.1.1).1).1).length ≤ 256 ∧ x_1.1 ++ [(namedL x.1.1 (x.1.2.1.getD (Int.toNat 0) 0) (headAtL (x.1.2.1.getD (Int.toNat 0) 0) (spotsF x.1.1).1).1).getD x_1.2.toNat 0] = List.drop (Int.toNat 1) x.1.2.1 ++ List.filter (fun (k : Int) => decide (0 ≤ k) && !inL (risingL (x.1.2.2 ++ [x.1.2.1.getD (Int.toNat 0) 0]) 256) k) (List.take (x_1.2 + 1).toNat (namedL x.1.1 (x.1.2.1.getD (Int.toNat 0) 0) (headAtL (x.1.2.1.getD (Int.toNat 0) 0) (spotsF x.1.1).1).1))) ∧ ((↑(namedL x.1.1 (x.1.2.1.getD (Int.toNat 0) 0) (headAtL (x.1.2.1.getD (Int.toNat 0) 0) (spotsF x.1.1).1).1).length : Int) - (x_1.2 + 1)).toNat < ((↑(namedL x.1.1 (x.1.2.1.getD (Int.toNat 0) 0) (headAtL (x.1.2.1.getD (Int.toNat 0) 0) (spotsF x.1.1).1).1).length : Int) - x_1.2).toNat) ∧ ((decide (0 ≤ (namedL x.1.1 (x.1.2.1.getD (Int.toNat 0) 0) (headAtL (x.1.2.1.getD (Int.toNat 0) 0) (spotsF x.1.1).1).1).getD x_1.2.toNat 0) && !inL (risingL (x.1.2.2 ++ [x.1.2.1.getD (Int.toNat 0) 0]) 256) ((namedL x.1.1 (x.1.2.1.getD (Int.toNat 0) 0) (headAtL (x.1.2.1.getD (Int.toNat 0) 0) (spotsF x.1.1).1).1).getD x_1.2.toNat 0)) = false → InR IntKind.i64 (x_1.2 + 1) ∧ (0 ≤ x_1.2 + 1 ∧ x_1.2 + 1 ≤ (↑(namedL x.1.1 (x.1.2.1.getD (Int.toNat 0) 0) (headAtL (x.1.2.1.getD (Int.toNat 0) 0) (spotsF x.1.1).1).1).length : Int) ∧ (namedL x.1.1 (x.1.2.1.getD (Int.toNat 0) 0) (headAtL (x.1.2.1.getD (Int.toNat 0) 0) (spotsF x.1.1).1).1).length ≤ 256 ∧ x_1.1 = List.drop (Int.toNat 1) x.1.2.1 ++ List.filter (fun (k : Int) => decide (0 ≤ k) && !inL (risingL (x.1.2.2 ++ [x.1.2.1.getD (Int.toNat 0) 0]) 256) k) (List.take (x_1.2 + 1).toNat (namedL x.1.1 (x.1.2.1.getD (Int.toNat 0) 0) (headAtL (x.1.2.1.getD (Int.toNat 0) 0) (spotsF x.1.1).1).1))) ∧ ((↑(namedL x.1.1 (x.1.2.1.getD (Int.toNat 0) 0) (headAtL (x.1.2.1.getD (Int.toNat 0) 0) (spotsF x.1.1).1).1).length : Int) - (x_1.2 + 1)).toNat < ((↑(namedL x.1.1 (x.1.2.1.getD (Int.toNat 0) 0) (headAtL (x.1.2.1.getD (Int.toNat 0) 0) (spotsF x.1.1).1).1).length : Int) - x_1.2).toNat)) ∧ (decide (x_1.2 < (↑(namedL x.1.1 (x.1.2.1.getD (Int.toNat 0) 0) (headAtL (x.1.2.1.getD (Int.toNat 0) 0) (spotsF x.1.1).1).1).length : Int)) = false → True ∧ True ∧ ((!decide ((stepF x.1).1 = (x.1.1, risingL x_1.1 256, risingL (x.1.2.2 ++ [x.1.2.1.getD (Int.toNat 0) 0]) 256)) || !(stepF x.1).2.1 || decide ((stepF x.1).2.2 ≠ 0) || decide (0 < (↑(doneT x.1).1.length : Int)) || decide ((doneT x.1).2 ≠ 8)) = true → false = true ∧ True) ∧ ((!decide ((stepF x.1).1 = (x.1.1, risingL x_1.1 256, risingL (x.1.2.2 ++ [x.1.2.1.getD (Int.toNat 0) 0]) 256)) || !(stepF x.1).2.1 || decide ((stepF x.1).2.2 ≠ 0) || decide (0 < (↑(doneT x.1).1.length : Int)) || decide ((doneT x.1).2 ≠ 8)) = false → True)))) ∧ ∀ (x_1 : Unit), True → (checkF x.1.1).2.2 = 0 ∧ (decide ((writtenF x.1.1 x.2.1 x.2.2.1 x.2.2.2).2 ≠ 0) = true → True ∧ (decide ((writeT x.1 x.2.1 x.2.2.1 x.2.2.2).1 = (([] : List Int), ([] : List Int), ([] : List Int))) && decide ((writeT x.1 x.2.1 x.2.2.1 x.2.2.2).2 = (writtenF x.1.1 x.2.1 x.2.2.1 x.2.2.2).2)) = true ∧ True) ∧ (decide ((writtenF x.1.1 x.2.1 x.2.2.1 x.2.2.2).2 ≠ 0) = false → True ∧ (decide (0 ≤ x.2.2.2) = true → True) ∧ ((decide (0 ≤ x.2.2.2) && inL x.1.2.2 x.2.1) = true → True) ∧ ((decide (0 ≤ x.2.2.2) && inL x.1.2.2 x.2.1 && !inL x.1.2.2 x.2.2.2) = true → (x.1.2.1.length + [x.2.2.2].length) * 8 ≤ big ∧ (decide ((writeT x.1 x.2.1 x.2.2.1 x.2.2.2).2 = 0) = true → True) ∧ (decide ((writeT x.1 x.2.1 x.2.2.1 x.2.2.2).2 = 0) = true → True) ∧ (decide ((writeT x.1 x.2.1 x.2.2.1 x.2.2.2).2 = 0) && decide ((writeT x.1 x.2.1 x.2.2.1 x.2.2.2).1 = ((writtenF x.1.1 x.2.1 x.2.2.1 x.2.2.2).1, risingL (x.1.2.1 ++ [x.2.2.2]) 256, x.1.2.2))) = true ∧ True) ∧ ((decide (0 ≤ x.2.2.2) && inL x.1.2.2 x.2.1 && !inL x.1.2.2 x.2.2.2) = false → (decide ((writeT x.1 x.2.1 x.2.2.1 x.2.2.2).2 = 0) = true → True) ∧ (decide ((writeT x.1 x.2.1 x.2.2.1 x.2.2.2).2 = 0) = true → True) ∧ (decide ((writeT x.1 x.2.1 x.2.2.1 x.2.2.2).2 = 0) && decide ((writeT x.1 x.2.1 x.2.2.1 x.2.2.2).1 = ((writtenF x.1.1 x.2.1 x.2.2.1 x.2.2.2).1, risingL x.1.2.1 256, x.1.2.2))) = true ∧ True)))
theorem vcp_lawStepTells : pv_lawStepTells := by
  unfold pv_lawStepTells
  intro ⟨⟨a, g, b⟩, x, r, to⟩ ⟨⟨⟨hb, hw⟩, ⟨hbg, hg⟩, hbb, hbl⟩, hx, hr, ht⟩ ⟨_, ⟨⟨_, _⟩, ⟨hsg, _⟩, hsb, _⟩, _⟩
  unfold big at hb hbg hbb
  simp only at hb hw hbg hg hbb hbl hx hr ht hsg hsb ⊢
  have hS : stepF (a, g, b) = if triF (a, g, b) ≠ 0 then (([], [], []), false, triF (a, g, b)) else if g = [] then ((a, g, b), false, 0) else ((a, (outsA a (g.getD 0 0)).foldl (greyT (putL b (g.getD 0 0))) (g.drop 1), putL b (g.getD 0 0)), true, 0) := rfl
  have hD : doneT (a, g, b) = if triF (a, g, b) ≠ 0 then ([], triF (a, g, b)) else if 0 < g.length then ([], 8) else (doneL (a, g, b), 0) := rfl
  have hW : writeT (a, g, b) x r to = if triF (a, g, b) ≠ 0 then (([], [], []), triF (a, g, b)) else if (writtenF a x r to).2 ≠ 0 then (([], [], []), (writtenF a x r to).2) else (((writtenF a x r to).1, if 0 ≤ to ∧ inL b x = true ∧ whiteB (a, g, b) to = true then putL g to else g, b), 0) := rfl
  refine ⟨by omega, by omega, by omega, trivial, fun h => ?_, fun h => ⟨⟨fun h1 => ?_, fun h1 => ?_⟩, fun _ _ => ?_⟩⟩
  · have h := of_decide_eq_true h
    rw [hS, hD, hW, if_pos h, if_pos h, if_pos h]
    exact ⟨trivial, fun _ => trivial, by simp, trivial⟩
  all_goals have h := of_decide_eq_false h
  all_goals rw [if_neg h] at hS hD hW
  all_goals have h0 : triF (a, g, b) = 0 := by omega
  all_goals obtain ⟨hc, hgp, hbp, hgb, hbB, hdis, _⟩ := tri_ok h0
  · have h1 : g = [] := List.eq_nil_of_length_eq_zero (by have := of_decide_eq_true h1; omega)
    subst h1
    rw [if_pos rfl] at hS
    rw [if_neg (by simp)] at hD
    have hbl := beginsL_length (spotsF a).1
    have hsl := spotsF_length a
    have hdl : doneL (a, [], b) = (beginsL (spotsF a).1).filter fun x => !inL b x := rfl
    refine ⟨trivial, ⟨by omega, by omega, by omega, by simp⟩, fun ⟨o, i⟩ ⟨i0, i1, i2, i3⟩ => ⟨fun hlt => ?_, fun hge => ?_⟩⟩
    · simp only at i0 i1 i3 hlt ⊢
      have hlt := of_decide_eq_true hlt
      have hol := List.length_filter_le (fun x => !inL b x) (List.take i.toNat (beginsL (spotsF a).1))
      rw [← i3, List.length_take] at hol
      rw [take_snoc (0 : Int) i0 hlt, List.filter_append, ← i3]
      generalize (beginsL (spotsF a).1).getD i.toNat 0 = y at *
      unfold big
      simp only [InR, List.length_cons, List.length_nil]
      refine ⟨i0, hlt, by omega, trivial, fun hn => ⟨by omega, by omega, ⟨by omega, by omega, i2, ?_⟩, by omega⟩, fun hn => ⟨by omega, ⟨by omega, by omega, i2, ?_⟩, by omega⟩⟩
      · rw [List.filter_cons_of_pos (p := fun x => !inL b x) hn, List.filter_nil]
      · rw [List.filter_cons_of_neg (p := fun x => !inL b x) (by rw [hn]; simp), List.filter_nil, List.append_nil]
    · simp only at i3 hge ⊢
      rw [take_end (of_decide_eq_false hge), ← hdl] at i3
      rw [hS, hD, i3]
      exact ⟨trivial, fun _ => trivial, fun hn => by simp at hn, fun _ => trivial⟩
  · have hgl : 0 < g.length := by have := of_decide_eq_false h1; omega
    rw [if_neg (by intro e; rw [e] at hgl; cases hgl)] at hS
    rw [if_pos hgl] at hD
    have hm : g.getD 0 0 ∈ g := getD_mem (0 : Int) (i := 0) (by omega) (by omega)
    have hB := hgb _ hm
    have hGg : GoodR g := ⟨hgp, fun y hy => isB_range (hgb y hy)⟩
    have hGb : GoodR b := ⟨hbp, fun y hy => isB_range (hbB y hy)⟩
    have hrg := hGg.range _ hm
    have e1 : risingL (b ++ [g.getD 0 0]) 256 = putL b (g.getD 0 0) := put_rising hGb.rise hGb.range hrg
    have hGd : GoodR (g.drop 1) := ⟨hgp.sublist (List.drop_sublist 1 g), fun y hy => hGg.range y (List.mem_of_mem_drop hy)⟩
    have hno := fun y => named_outs (y := y) hw hc hB
    have hor : ∀ y ∈ outsA a (g.getD 0 0), 0 ≤ y ∧ y ≤ 255 := fun y hy => isB_range (outsA_isB hw hc hB hy)
    have hnl : (namedL a (g.getD 0 0) (headAtL (g.getD 0 0) (spotsF a).1).1).length ≤ 256 := by
      have hal := (isB_spot hB).2.2.2.2
      unfold namedL
      rw [List.length_map, List.length_drop, List.length_take]
      omega
    simp only [show Int.toNat 0 = 0 from rfl, show Int.toNat 1 = 1 from rfl, e1]
    generalize g.getD 0 0 = z at *
    generalize namedL a z (headAtL z (spotsF a).1).1 = n at *
    refine ⟨by omega, by omega, trivial, trivial, by omega, by omega, trivial, by omega, by omega, trivial, trivial, trivial, by simp only [List.length_cons, List.length_nil]; unfold big; omega, trivial, by omega, by omega, trivial, ⟨by omega, by omega, hnl, by simp⟩, fun ⟨o, i⟩ ⟨i0, i1, i2, i3⟩ => ⟨fun hlt => ?_, fun hge => ?_⟩⟩
    · simp only at i0 i1 i3 hlt ⊢
      have hlt := of_decide_eq_true hlt
      have hol := List.length_filter_le (fun k => decide (0 ≤ k) && !inL (putL b z) k) (n.take i.toNat)
      have hl := congrArg List.length i3
      have hdl : (g.drop 1).length ≤ g.length := by simp
      rw [List.length_append] at hl
      rw [List.length_take] at hol
      rw [take_snoc (0 : Int) i0 hlt, List.filter_append, ← List.append_assoc, ← i3]
      generalize n.getD i.toNat 0 = y at *
      unfold big
      simp only [InR, List.length_cons, List.length_nil]
      refine ⟨i0, hlt, fun _ => trivial, fun hn => ⟨by omega, by omega, ⟨by omega, by omega, i2, ?_⟩, by omega⟩, fun hn => ⟨by omega, ⟨by omega, by omega, i2, ?_⟩, by omega⟩⟩
      · rw [List.filter_cons_of_pos (p := fun k => decide (0 ≤ k) && !inL (putL b z) k) hn, List.filter_nil]
      · rw [List.filter_cons_of_neg (p := fun k => decide (0 ≤ k) && !inL (putL b z) k) (by rw [hn]; simp), List.filter_nil, List.append_nil]
    · simp only at i3 hge ⊢
      rw [take_end (of_decide_eq_false hge)] at i3
      have hgr := grey_good (putL b z) _ _ hGd hor
      have e2 : risingL o 256 = (outsA a z).foldl (greyT (putL b z)) (g.drop 1) := rise_uniq (rising_rise _ _) hgr.rise fun y => by
        rw [rising_mem, grey_mem _ _ _ _ hGd hor, i3, List.mem_append, List.mem_filter, Bool.and_eq_true, decide_eq_true_eq]
        have hy := hno y
        have hni : (!inL (putL b z) y) = true ↔ ¬ y ∈ putL b z := by rw [← inL_iff]; simp
        rw [hni]
        constructor
        · rintro ⟨_, _, h | ⟨h1, h2, h3⟩⟩
          · exact .inl h
          · exact .inr ⟨hy.1 ⟨h1, h2⟩, h3⟩
        · rintro (h | ⟨h1, h2⟩)
          · have := hGd.range y h
            exact ⟨by omega, by omega, .inl h⟩
          · have := hor y h1
            have h3 := hy.2 h1
            exact ⟨by omega, by omega, .inr ⟨h3.1, h3.2, h2⟩⟩
      rw [hS, hD, e2]
      exact ⟨trivial, trivial, fun hn => by simp at hn, fun _ => trivial⟩
  · have hGg : GoodR g := ⟨hgp, fun y hy => isB_range (hgb y hy)⟩
    have hwb : whiteB (a, g, b) to = (!inL g to && !inL b to) := rfl
    refine ⟨hc, fun h1 => ⟨trivial, ?_, trivial⟩, fun h1 => ⟨trivial, fun _ => trivial, fun _ => trivial, fun hn => ⟨?_, fun _ => trivial, fun _ => trivial, ?_, trivial⟩, fun hn => ⟨fun _ => trivial, fun _ => trivial, ?_, trivial⟩⟩⟩
    · rw [hW, if_pos (of_decide_eq_true h1)]
      simp
    · simp only [List.length_cons, List.length_nil]
      unfold big
      omega
    · have h1 := of_decide_eq_false h1
      rw [if_neg h1] at hW
      have hn : 0 ≤ to ∧ inL b x = true ∧ inL b to = false := by simpa [and_assoc] using hn
      have hto : 0 ≤ to ∧ to ≤ 255 := by
        have h3 : isB (spotsF a).1 to = true := by
          cases h5 : isB (spotsF a).1 to
          · exfalso
            by_cases h6 : isB (spotsF a).1 x = false
            · have : writtenF a x r to = ([], 5) := by unfold writtenF; rw [if_pos h6]
              rw [this] at h1
              exact h1 (by simp)
            · have : writtenF a x r to = ([], 4) := by unfold writtenF; rw [if_neg h6, if_pos (.inr (.inr ⟨by omega, h5⟩))]
              rw [this] at h1
              exact h1 (by simp)
          · rfl
        have := isB_range h3
        omega
      rw [put_rising hGg.rise hGg.range hto, hW, hwb, hn.2.2]
      by_cases hgt : inL g to = true
      · have e : putL g to = g := by unfold putL; rw [if_pos hgt]
        rw [e, hgt]
        simp
      · have hgt : inL g to = false := by simpa using hgt
        rw [hgt, if_pos ⟨hn.1, hn.2.1, rfl⟩]
        simp
    · have h1 := of_decide_eq_false h1
      rw [if_neg h1] at hW
      have e : risingL g 256 = g := rise_uniq (rising_rise _ _) hGg.rise (fun y => by
        rw [rising_mem]
        exact ⟨fun h => h.2.2, fun h => by have := hGg.range y h; exact ⟨by omega, by omega, h⟩⟩)
      rw [hW, e, if_neg (fun h3 => by
        rw [hwb] at h3
        have : (decide (0 ≤ to) && inL b x && !inL b to) = true := by
          obtain ⟨h4, h5, h6⟩ := h3
          simp only [Bool.and_eq_true] at h6
          simp [h4, h5, h6.2]
        rw [this] at hn
        cases hn)]
      simp
theorem ok_lawStepTells : sp_lawStepTells.ok Try.prog 10 := fn_ok (ann := an_lawStepTells) (tbl_cons ok_tStep (tbl_cons ok_tWrite (tbl_cons ok_tDone (tbl_cons ok_rTri (tbl_cons ok_rSameTri (tbl_cons ok_rBegins (tbl_cons ok_rIn (tbl_cons ok_eqInts (tbl_cons ok_cloneInts (tbl_cons ok_rRising (tbl_cons ok_rNamed (tbl_cons ok_rWritten tbl_nil)))))))))))) Try.func10 (by kernel_rfl) vcp_lawStepTells
end Go.Proofs.Ytcnoiiohmpgckaa
