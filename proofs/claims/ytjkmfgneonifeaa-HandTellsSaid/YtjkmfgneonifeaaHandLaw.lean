/- The law HandTells: what its one function computes. -/
import Derived.Test.YtjkmfgneonifeaaHands
namespace Go.Proofs.Ytjkmfgneonifeaa
open Go
set_option maxRecDepth 100000
set_option maxHeartbeats 1000000

theorem handOfFrom_eq (n : Int) : ∀ (l : List Slot) (k : Int), 0 ≤ k → k + l.length ≤ 65536 → (∀ s ∈ l, 0 ≤ s.1) →
    handOfFrom n k l = if k ≤ n % 65536 ∧ n % 65536 < k + l.length ∧ (l.getD (n % 65536 - k).toNat (0, false, 0)).2.1 = true ∧ handName (n % 65536) (l.getD (n % 65536 - k).toNat (0, false, 0)) = n then n % 65536 else -1
  | [], k, _, _, _ => by
    simp only [handOfFrom, List.length_nil]
    rw [if_neg (by omega)]
  | s :: l, k, h0, h1, h2 => by
    have ih := handOfFrom_eq n l (k + 1) (by omega) (by simp only [List.length_cons] at h1; omega) (fun t ht => h2 t (by simp [ht]))
    have hs := h2 s (by simp)
    simp only [List.length_cons] at *
    simp only [handOfFrom, ih]
    by_cases hk : n % 65536 = k
    · rw [hk]
      simp only [Int.sub_self, Int.toNat_zero, List.getD_cons_zero]
      by_cases hc : s.2.1 = true ∧ handName k s = n
      · rw [if_pos hc, if_pos ⟨by omega, by omega, hc⟩]
      · rw [if_neg hc, if_neg (by omega), if_neg (by intro h; exact hc h.2.2)]
    · have hc : ¬ (s.2.1 = true ∧ handName k s = n) := by
        rintro ⟨_, h⟩
        unfold handName at h
        omega
      rw [if_neg hc]
      by_cases hlt : k ≤ n % 65536
      · rw [show (n % 65536 - k).toNat = (n % 65536 - (k + 1)).toNat + 1 by omega, List.getD_cons_succ]
        congr 1
        simp only [eq_iff_iff]
        constructor
        · rintro ⟨_, q2, q3⟩; exact ⟨by omega, by omega, q3⟩
        · rintro ⟨_, q2, q3⟩; exact ⟨by omega, by omega, q3⟩
      · rw [if_neg (by omega), if_neg (by omega)]

theorem handOf_find {h : List Slot} {n : Int} (hf : handsF h = 0) : ((findF h n).2 = 0 ∧ handOfFrom n 0 h = (findF h n).1 ∧ 0 ≤ (findF h n).1 ∧ (findF h n).1 < h.length) ∨ (findF h n = (0, 9) ∧ handOfFrom n 0 h = -1) := by
  obtain ⟨z1, z2⟩ := handsF_zero hf
  have h1 := handOfFrom_eq n h 0 (by omega) (by omega) (fun s hs => (z2 s hs).1)
  simp only [Int.sub_zero, Int.zero_add] at h1
  unfold findF
  rw [if_neg (by omega), h1]
  by_cases hc : n % 65536 < h.length ∧ (h.getD (n % 65536).toNat (0, false, 0)).2.1 = true ∧ handName (n % 65536) (h.getD (n % 65536).toNat (0, false, 0)) = n
  · left
    rw [if_pos hc, if_pos ⟨by omega, hc⟩]
    exact ⟨rfl, rfl, by simp only; omega, hc.1⟩
  · right
    rw [if_neg hc, if_neg (fun q => hc q.2)]
    exact ⟨rfl, rfl⟩

theorem open_two {h : List Slot} (at_ : Int) (hf : handsF h = 0) :
    openF h at_ = if at_ < 0 ∨ 255 < at_ then ([], 0, 4) else if findFrom freeSlot 0 h < 0 then ([], 0, 7) else (h.set (findFrom freeSlot 0 h).toNat (opened h (findFrom freeSlot 0 h) at_), handName (findFrom freeSlot 0 h) (opened h (findFrom freeSlot 0 h) at_), 0) := by
  unfold openF
  rw [if_neg (by omega)]
  by_cases ht : at_ < 0 ∨ 255 < at_
  · rw [if_pos ht, if_pos (by unfold there; grind)]
  · rw [if_neg ht, if_neg (by unfold there; grind)]

def an_meet : LoopGen := { rd := [], A := fun _ => { cs := [], inv := fun _ => True, mu := fun _ => 0 } }
def an_lawHandTells : Nat → Option LoopGen
  | 1000008 => some an_meet
  | 20 => some { rd := [.dat 147 (.arr ty_Slot)], A := fun (h : List Slot) => { cs := [.own 25 29 ty_W, .dat 26 ty_I, .dat 149 ty_I], inv := fun ((live, free, i) : List Int × Int × Int) => 0 ≤ i ∧ i ≤ h.length ∧ handsF h = 0 ∧ live.length ≤ i ∧ live ++ liveFrom i (h.drop i.toNat) = liveFrom 0 h ∧ (if free < 0 then findFrom freeSlot i (h.drop i.toNat) else free) = findFrom freeSlot 0 h, mu := fun ((_, _, i) : List Int × Int × Int) => (h.length - i).toNat } }
  | 1000023 => some { rd := [.dat 147 (.arr ty_Slot), .dat 149 ty_I], wr := [25], A := fun ((h, i) : List Slot × Int) => { cs := [.own 25 29 ty_W, .dat 26 ty_I], inv := fun ((live, free) : List Int × Int) => live.length ≤ i + 1 ∧ live ++ liveFrom (i + 1) (h.drop (i + 1).toNat) = liveFrom 0 h ∧ (if free < 0 then findFrom freeSlot (i + 1) (h.drop (i + 1).toNat) else free) = findFrom freeSlot 0 h, mu := fun _ => 0 } }
  | 1000031 => some { rd := [.dat 2 ty_I, .dat 26 ty_I], A := fun ((at_, free) : Int × Int) => { cs := [.dat 29 ty_I], inv := fun (e : Int) => e = if at_ < 0 ∨ 255 < at_ then 4 else if free < 0 then 7 else 0, mu := fun _ => 0 } }
  | 1000035 => some an_meet
  | 1000043 => some an_meet
  | 55 => some { rd := [.dat 0 (.arr ty_Slot), .dat 4 (.arr ty_I)], wr := [33], A := fun ((h, to) : List Slot × List Int) => { cs := [.own 33 88 ty_Slot, .dat 309 ty_I], inv := fun ((out, i) : List Slot × Int) => 0 ≤ i ∧ i ≤ h.length ∧ handsF h = 0 ∧ to.length = 256 ∧ out = (h.take i.toNat).map (swapSlot to) ++ h.drop i.toNat, mu := fun ((_, i) : List Slot × Int) => (h.length - i).toNat } }
  | _ => none
def sp_lawHandTells : Spec := sp_law [.arr ty_Slot, ty_I, ty_I, ty_W, .arr ty_I]
def pv_lawHandTells : Prop :=
    ∀ (x : List (Int × Bool × Int) × Int × Int × Int × List Int),
  ((x.fst.length * ((8 : Nat) + ((8 : Nat) + (8 : Nat))) ≤ big ∧
        ∀ (x_1 : Int × Bool × Int), x_1 ∈ x.fst → InR IntKind.i64 x_1.fst ∧ True ∧ InR IntKind.i64 x_1.snd.snd) ∧
      InR IntKind.i64 x.snd.fst ∧
        InR IntKind.i64 x.snd.snd.fst ∧
          InR IntKind.u64 x.snd.snd.snd.fst ∧
            x.snd.snd.snd.snd.length * (8 : Nat) ≤ big ∧ ∀ (x_1 : Int), x_1 ∈ x.snd.snd.snd.snd → InR IntKind.i64 x_1) →
    True →
      True ∧
        True ∧
          True ∧
            True ∧
              True ∧
                True ∧
                  (((decide (x.snd.fst < (0 : Int)) || decide ((16 : Int) < x.snd.fst)) = true →
                        ((decide ((0 : Int) < (↑(newHandsF x.snd.fst).fst.length : Int)) ||
                                decide ((newHandsF x.snd.fst).snd ≠ (4 : Int))) =
                              true →
                            false = true ∧ True) ∧
                          ((decide ((0 : Int) < (↑(newHandsF x.snd.fst).fst.length : Int)) ||
                                decide ((newHandsF x.snd.fst).snd ≠ (4 : Int))) =
                              false →
                            True)) ∧
                      ((decide (x.snd.fst < (0 : Int)) || decide ((16 : Int) < x.snd.fst)) = false →
                        (decide ((newHandsF x.snd.fst).snd ≠ (0 : Int)) = false → (0 : Int) ≤ x.snd.fst) ∧
                          (decide ((newHandsF x.snd.fst).snd ≠ (0 : Int)) = false →
                              x.snd.fst.toNat * ((8 : Nat) + ((8 : Nat) + (8 : Nat))) ≤ big) ∧
                            (decide ((newHandsF x.snd.fst).snd ≠ (0 : Int)) = false → True) ∧
                              ((decide ((newHandsF x.snd.fst).snd ≠ (0 : Int)) ||
                                      !decide
                                          ((newHandsF x.snd.fst).fst =
                                            List.replicate x.snd.fst.toNat ((0 : Int), false, (0 : Int)))) =
                                    true →
                                  false = true ∧ True) ∧
                                ((decide ((newHandsF x.snd.fst).snd ≠ (0 : Int)) ||
                                      !decide
                                          ((newHandsF x.snd.fst).fst =
                                            List.replicate x.snd.fst.toNat ((0 : Int), false, (0 : Int)))) =
                                    false →
                                  True))) ∧
                    ∀ (x_1 : Unit),
                      True →
                        True ∧
                          True ∧
                            (decide (handsF x.fst ≠ handsF x.fst) = true → false = true ∧ True) ∧
                              (decide (handsF x.fst ≠ handsF x.fst) = false →
                                (decide (handsF x.fst ≠ (0 : Int)) = true →
                                    InR IntKind.i64
                                        ((↑(openF x.fst x.snd.snd.fst).fst.length : Int) +
                                          (↑(closeF x.fst x.snd.snd.snd.fst).fst.length : Int)) ∧
                                      InR IntKind.i64
                                          ((↑(openF x.fst x.snd.snd.fst).fst.length : Int) +
                                              (↑(closeF x.fst x.snd.snd.snd.fst).fst.length : Int) +
                                            (↑(swapF x.fst x.snd.snd.snd.snd).fst.length : Int)) ∧
                                        (decide
                                                              ((↑(openF x.fst x.snd.snd.fst).fst.length : Int) +
                                                                    (↑(closeF x.fst x.snd.snd.snd.fst).fst.length :
                                                                      Int) +
                                                                  (↑(swapF x.fst x.snd.snd.snd.snd).fst.length : Int) =
                                                                (0 : Int)) &&
                                                            decide ((openF x.fst x.snd.snd.fst).snd.fst = (0 : Int)) &&
                                                          decide ((lookF x.fst x.snd.snd.snd.fst).fst = (0 : Int)) &&
                                                        decide ((↑(liveF x.fst).fst.length : Int) = (0 : Int)) &&
                                                      decide ((openF x.fst x.snd.snd.fst).snd.snd = handsF x.fst) &&
                                                    decide ((lookF x.fst x.snd.snd.snd.fst).snd = handsF x.fst) &&
                                                  decide ((closeF x.fst x.snd.snd.snd.fst).snd = handsF x.fst) &&
                                                decide ((swapF x.fst x.snd.snd.snd.snd).snd = handsF x.fst) &&
                                              decide ((liveF x.fst).snd = handsF x.fst)) =
                                            true ∧
                                          True) ∧
                                  (decide (handsF x.fst ≠ (0 : Int)) = false →
                                    ((0 : Int) ≤ (0 : Int) ∧
                                        (0 : Int) ≤ (↑x.fst.length : Int) ∧
                                          handsF x.fst = (0 : Int) ∧
                                            (↑(0 : Nat) : Int) ≤ (0 : Int) ∧
                                              [] ++ liveFrom (0 : Int) (List.drop (Int.toNat (0 : Int)) x.fst) =
                                                  liveFrom (0 : Int) x.fst ∧
                                                (if (-1 : Int) < (0 : Int) then
                                                    findFrom freeSlot (0 : Int) (List.drop (Int.toNat (0 : Int)) x.fst)
                                                  else (-1 : Int)) =
                                                  findFrom freeSlot (0 : Int) x.fst) ∧
                                      ∀ (x_2 : List Int × Int × Int),
                                        (0 : Int) ≤ x_2.snd.snd ∧
                                            x_2.snd.snd ≤ (↑x.fst.length : Int) ∧
                                              handsF x.fst = (0 : Int) ∧
                                                (↑x_2.fst.length : Int) ≤ x_2.snd.snd ∧
                                                  x_2.fst ++ liveFrom x_2.snd.snd (List.drop x_2.snd.snd.toNat x.fst) =
                                                      liveFrom (0 : Int) x.fst ∧
                                                    (if x_2.snd.fst < (0 : Int) then
                                                        findFrom freeSlot x_2.snd.snd
                                                          (List.drop x_2.snd.snd.toNat x.fst)
                                                      else x_2.snd.fst) =
                                                      findFrom freeSlot (0 : Int) x.fst →
                                          (decide (x_2.snd.snd < (↑x.fst.length : Int)) = true →
                                              (0 : Int) ≤ x_2.snd.snd ∧
                                                x_2.snd.snd < (↑x.fst.length : Int) ∧
                                                  (((x.fst.getD x_2.snd.snd.toNat
                                                                ((0 : Int), false, (0 : Int))).snd.fst =
                                                          true →
                                                        ((0 : Int) ≤ x_2.snd.snd ∧
                                                            x_2.snd.snd < (65536 : Int) ∧
                                                              (0 : Int) ≤
                                                                  (x.fst.getD x_2.snd.snd.toNat
                                                                      ((0 : Int), false, (0 : Int))).fst ∧
                                                                (x.fst.getD x_2.snd.snd.toNat
                                                                      ((0 : Int), false, (0 : Int))).fst ≤
                                                                  (65535 : Int)) ∧
                                                          (x_2.fst.length +
                                                                  [handName x_2.snd.snd
                                                                        (x.fst.getD x_2.snd.snd.toNat
                                                                          ((0 : Int), false, (0 : Int)))].length) *
                                                                (8 : Nat) ≤
                                                              big ∧
                                                            (↑(x_2.fst ++
                                                                        [handName x_2.snd.snd
                                                                            (x.fst.getD x_2.snd.snd.toNat
                                                                              ((0 : Int), false, (0 : Int)))]).length :
                                                                  Int) ≤
                                                                x_2.snd.snd + (1 : Int) ∧
                                                              x_2.fst ++
                                                                      [handName x_2.snd.snd
                                                                          (x.fst.getD x_2.snd.snd.toNat
                                                                            ((0 : Int), false, (0 : Int)))] ++
                                                                    liveFrom (x_2.snd.snd + (1 : Int))
                                                                      (List.drop (x_2.snd.snd + (1 : Int)).toNat
                                                                        x.fst) =
                                                                  liveFrom (0 : Int) x.fst ∧
                                                                (if x_2.snd.fst < (0 : Int) then
                                                                    findFrom freeSlot (x_2.snd.snd + (1 : Int))
                                                                      (List.drop (x_2.snd.snd + (1 : Int)).toNat x.fst)
                                                                  else x_2.snd.fst) =
                                                                  findFrom freeSlot (0 : Int) x.fst) ∧
                                                      ((x.fst.getD x_2.snd.snd.toNat
                                                                ((0 : Int), false, (0 : Int))).snd.fst =
                                                          false →
                                                        ((decide (x_2.snd.fst < (0 : Int)) &&
                                                                decide
                                                                  ((x.fst.getD x_2.snd.snd.toNat
                                                                        ((0 : Int), false, (0 : Int))).fst <
                                                                    (65535 : Int))) =
                                                              true →
                                                            (↑x_2.fst.length : Int) ≤ x_2.snd.snd + (1 : Int) ∧
                                                              x_2.fst ++
                                                                    liveFrom (x_2.snd.snd + (1 : Int))
                                                                      (List.drop (x_2.snd.snd + (1 : Int)).toNat
                                                                        x.fst) =
                                                                  liveFrom (0 : Int) x.fst ∧
                                                                (if x_2.snd.snd < (0 : Int) then
                                                                    findFrom freeSlot (x_2.snd.snd + (1 : Int))
                                                                      (List.drop (x_2.snd.snd + (1 : Int)).toNat x.fst)
                                                                  else x_2.snd.snd) =
                                                                  findFrom freeSlot (0 : Int) x.fst) ∧
                                                          ((decide (x_2.snd.fst < (0 : Int)) &&
                                                                decide
                                                                  ((x.fst.getD x_2.snd.snd.toNat
                                                                        ((0 : Int), false, (0 : Int))).fst <
                                                                    (65535 : Int))) =
                                                              false →
                                                            (↑x_2.fst.length : Int) ≤ x_2.snd.snd + (1 : Int) ∧
                                                              x_2.fst ++
                                                                    liveFrom (x_2.snd.snd + (1 : Int))
                                                                      (List.drop (x_2.snd.snd + (1 : Int)).toNat
                                                                        x.fst) =
                                                                  liveFrom (0 : Int) x.fst ∧
                                                                (if x_2.snd.fst < (0 : Int) then
                                                                    findFrom freeSlot (x_2.snd.snd + (1 : Int))
                                                                      (List.drop (x_2.snd.snd + (1 : Int)).toNat x.fst)
                                                                  else x_2.snd.fst) =
                                                                  findFrom freeSlot (0 : Int) x.fst))) ∧
                                                    ∀ (x_3 : List Int × Int),
                                                      (↑x_3.fst.length : Int) ≤ x_2.snd.snd + (1 : Int) ∧
                                                          x_3.fst ++
                                                                liveFrom (x_2.snd.snd + (1 : Int))
                                                                  (List.drop (x_2.snd.snd + (1 : Int)).toNat x.fst) =
                                                              liveFrom (0 : Int) x.fst ∧
                                                            (if x_3.snd < (0 : Int) then
                                                                findFrom freeSlot (x_2.snd.snd + (1 : Int))
                                                                  (List.drop (x_2.snd.snd + (1 : Int)).toNat x.fst)
                                                              else x_3.snd) =
                                                              findFrom freeSlot (0 : Int) x.fst →
                                                        InR IntKind.i64 (x_2.snd.snd + (1 : Int)) ∧
                                                          ((0 : Int) ≤ x_2.snd.snd + (1 : Int) ∧
                                                              x_2.snd.snd + (1 : Int) ≤ (↑x.fst.length : Int) ∧
                                                                handsF x.fst = (0 : Int) ∧
                                                                  (↑x_3.fst.length : Int) ≤ x_2.snd.snd + (1 : Int) ∧
                                                                    x_3.fst ++
                                                                          liveFrom (x_2.snd.snd + (1 : Int))
                                                                            (List.drop (x_2.snd.snd + (1 : Int)).toNat
                                                                              x.fst) =
                                                                        liveFrom (0 : Int) x.fst ∧
                                                                      (if x_3.snd < (0 : Int) then
                                                                          findFrom freeSlot (x_2.snd.snd + (1 : Int))
                                                                            (List.drop (x_2.snd.snd + (1 : Int)).toNat
                                                                              x.fst)
                                                                        else x_3.snd) =
                                                                        findFrom freeSlot (0 : Int) x.fst) ∧
                                                            ((↑x.fst.length : Int) - (x_2.snd.snd + (1 : Int))).toNat <
                                                              ((↑x.fst.length : Int) - x_2.snd.snd).toNat) ∧
                                            (decide (x_2.snd.snd < (↑x.fst.length : Int)) = false →
                                              (decide ((liveF x.fst).snd ≠ (0 : Int)) = false → True) ∧
                                                ((decide ((liveF x.fst).snd ≠ (0 : Int)) ||
                                                        !decide ((liveF x.fst).fst = x_2.fst)) =
                                                      true →
                                                    false = true ∧ True) ∧
                                                  ((decide ((liveF x.fst).snd ≠ (0 : Int)) ||
                                                        !decide ((liveF x.fst).fst = x_2.fst)) =
                                                      false →
                                                    (((decide (x.snd.snd.fst < (0 : Int)) ||
                                                              decide ((255 : Int) < x.snd.snd.fst)) =
                                                            true →
                                                          (4 : Int) =
                                                            if
                                                                x.snd.snd.fst < (0 : Int) ∨
                                                                  (255 : Int) < x.snd.snd.fst then
                                                              (4 : Int)
                                                            else
                                                              if x_2.snd.fst < (0 : Int) then (7 : Int)
                                                              else (0 : Int)) ∧
                                                        ((decide (x.snd.snd.fst < (0 : Int)) ||
                                                              decide ((255 : Int) < x.snd.snd.fst)) =
                                                            false →
                                                          (decide (x_2.snd.fst < (0 : Int)) = true →
                                                              (7 : Int) =
                                                                if
                                                                    x.snd.snd.fst < (0 : Int) ∨
                                                                      (255 : Int) < x.snd.snd.fst then
                                                                  (4 : Int)
                                                                else
                                                                  if x_2.snd.fst < (0 : Int) then (7 : Int)
                                                                  else (0 : Int)) ∧
                                                            (decide (x_2.snd.fst < (0 : Int)) = false →
                                                              (0 : Int) =
                                                                if
                                                                    x.snd.snd.fst < (0 : Int) ∨
                                                                      (255 : Int) < x.snd.snd.fst then
                                                                  (4 : Int)
                                                                else
                                                                  if x_2.snd.fst < (0 : Int) then (7 : Int)
                                                                  else (0 : Int)))) ∧
                                                      ∀ (x_3 : Int),
                                                        (x_3 =
                                                            if
                                                                x.snd.snd.fst < (0 : Int) ∨
                                                                  (255 : Int) < x.snd.snd.fst then
                                                              (4 : Int)
                                                            else
                                                              if x_2.snd.fst < (0 : Int) then (7 : Int)
                                                              else (0 : Int)) →
                                                          ((decide (x_3 ≠ (0 : Int)) = true →
                                                                ((decide
                                                                            ((0 : Int) <
                                                                              (↑(openF x.fst x.snd.snd.fst).fst.length :
                                                                                Int)) ||
                                                                          decide
                                                                            ((openF x.fst x.snd.snd.fst).snd.fst ≠
                                                                              (0 : Int)) ||
                                                                        decide
                                                                          ((openF x.fst x.snd.snd.fst).snd.snd ≠ x_3)) =
                                                                      true →
                                                                    false = true ∧ True) ∧
                                                                  ((decide
                                                                            ((0 : Int) <
                                                                              (↑(openF x.fst x.snd.snd.fst).fst.length :
                                                                                Int)) ||
                                                                          decide
                                                                            ((openF x.fst x.snd.snd.fst).snd.fst ≠
                                                                              (0 : Int)) ||
                                                                        decide
                                                                          ((openF x.fst x.snd.snd.fst).snd.snd ≠ x_3)) =
                                                                      false →
                                                                    True)) ∧
                                                              (decide (x_3 ≠ (0 : Int)) = false →
                                                                True ∧
                                                                  (0 : Int) ≤ x_2.snd.fst ∧
                                                                    x_2.snd.fst < (↑x.fst.length : Int) ∧
                                                                      InR IntKind.i64
                                                                          ((x.fst.getD x_2.snd.fst.toNat
                                                                                ((0 : Int), false, (0 : Int))).fst +
                                                                            (1 : Int)) ∧
                                                                        (0 : Int) ≤ x_2.snd.fst ∧
                                                                          x_2.snd.fst < (↑x.fst.length : Int) ∧
                                                                            x_2.snd.fst.toNat < x.fst.length ∧
                                                                              (decide
                                                                                      ((openF x.fst
                                                                                              x.snd.snd.fst).snd.snd ≠
                                                                                        (0 : Int)) =
                                                                                    false →
                                                                                  True) ∧
                                                                                ((decide
                                                                                          ((openF x.fst
                                                                                                  x.snd.snd.fst).snd.snd ≠
                                                                                            (0 : Int)) ||
                                                                                        !decide
                                                                                            ((openF x.fst
                                                                                                  x.snd.snd.fst).fst =
                                                                                              x.fst.set
                                                                                                x_2.snd.fst.toNat
                                                                                                ((x.fst.getD
                                                                                                        x_2.snd.fst.toNat
                                                                                                        ((0 : Int),
                                                                                                          false,
                                                                                                          (0 :
                                                                                                            Int))).fst +
                                                                                                    (1 : Int),
                                                                                                  true,
                                                                                                  x.snd.snd.fst))) =
                                                                                      false →
                                                                                    (0 : Int) ≤ x_2.snd.fst) ∧
                                                                                  ((decide
                                                                                            ((openF x.fst
                                                                                                    x.snd.snd.fst).snd.snd ≠
                                                                                              (0 : Int)) ||
                                                                                          !decide
                                                                                              ((openF x.fst
                                                                                                    x.snd.snd.fst).fst =
                                                                                                x.fst.set
                                                                                                  x_2.snd.fst.toNat
                                                                                                  ((x.fst.getD
                                                                                                          x_2.snd.fst.toNat
                                                                                                          ((0 : Int),
                                                                                                            false,
                                                                                                            (0 :
                                                                                                              Int))).fst +
                                                                                                      (1 : Int),
                                                                                                    true,
                                                                                                    x.snd.snd.fst))) =
                                                                                        false →
                                                                                      x_2.snd.fst <
                                                                                        (↑(x.fst.set x_2.snd.fst.toNat
                                                                                                ((x.fst.getD
                                                                                                        x_2.snd.fst.toNat
                                                                                                        ((0 : Int),
                                                                                                          false,
                                                                                                          (0 :
                                                                                                            Int))).fst +
                                                                                                    (1 : Int),
                                                                                                  true,
                                                                                                  x.snd.snd.fst)).length :
                                                                                          Int)) ∧
                                                                                    ((decide
                                                                                              ((openF x.fst
                                                                                                      x.snd.snd.fst).snd.snd ≠
                                                                                                (0 : Int)) ||
                                                                                            !decide
                                                                                                ((openF x.fst
                                                                                                      x.snd.snd.fst).fst =
                                                                                                  x.fst.set
                                                                                                    x_2.snd.fst.toNat
                                                                                                    ((x.fst.getD
                                                                                                            x_2.snd.fst.toNat
                                                                                                            ((0 : Int),
                                                                                                              false,
                                                                                                              (0 :
                                                                                                                Int))).fst +
                                                                                                        (1 : Int),
                                                                                                      true,
                                                                                                      x.snd.snd.fst))) =
                                                                                          false →
                                                                                        x_2.snd.fst.toNat <
                                                                                          (x.fst.set x_2.snd.fst.toNat
                                                                                              ((x.fst.getD
                                                                                                      x_2.snd.fst.toNat
                                                                                                      ((0 : Int), false,
                                                                                                        (0 :
                                                                                                          Int))).fst +
                                                                                                  (1 : Int),
                                                                                                true,
                                                                                                x.snd.snd.fst)).length) ∧
                                                                                      ((decide
                                                                                                ((openF x.fst
                                                                                                        x.snd.snd.fst).snd.snd ≠
                                                                                                  (0 : Int)) ||
                                                                                              !decide
                                                                                                  ((openF x.fst
                                                                                                        x.snd.snd.fst).fst =
                                                                                                    x.fst.set
                                                                                                      x_2.snd.fst.toNat
                                                                                                      ((x.fst.getD
                                                                                                              x_2.snd.fst.toNat
                                                                                                              ((0 :
                                                                                                                  Int),
                                                                                                                false,
                                                                                                                (0 :
                                                                                                                  Int))).fst +
                                                                                                          (1 : Int),
                                                                                                        true,
                                                                                                        x.snd.snd.fst))) =
                                                                                            false →
                                                                                          (0 : Int) ≤ x_2.snd.fst ∧
                                                                                            x_2.snd.fst <
                                                                                                (65536 : Int) ∧
                                                                                              (0 : Int) ≤
                                                                                                  ((x.fst.set
                                                                                                          x_2.snd.fst.toNat
                                                                                                          ((x.fst.getD
                                                                                                                  x_2.snd.fst.toNat
                                                                                                                  ((0 :
                                                                                                                      Int),
                                                                                                                    false,
                                                                                                                    (0 :
                                                                                                                      Int))).fst +
                                                                                                              (1 : Int),
                                                                                                            true,
                                                                                                            x.snd.snd.fst)).getD
                                                                                                      x_2.snd.fst.toNat
                                                                                                      ((0 : Int), false,
                                                                                                        (0 :
                                                                                                          Int))).fst ∧
                                                                                                ((x.fst.set
                                                                                                          x_2.snd.fst.toNat
                                                                                                          ((x.fst.getD
                                                                                                                  x_2.snd.fst.toNat
                                                                                                                  ((0 :
                                                                                                                      Int),
                                                                                                                    false,
                                                                                                                    (0 :
                                                                                                                      Int))).fst +
                                                                                                              (1 : Int),
                                                                                                            true,
                                                                                                            x.snd.snd.fst)).getD
                                                                                                      x_2.snd.fst.toNat
                                                                                                      ((0 : Int), false,
                                                                                                        (0 :
                                                                                                          Int))).fst ≤
                                                                                                  (65535 : Int)) ∧
                                                                                        ((decide
                                                                                                    ((openF x.fst
                                                                                                            x.snd.snd.fst).snd.snd ≠
                                                                                                      (0 : Int)) ||
                                                                                                  !decide
                                                                                                      ((openF x.fst
                                                                                                            x.snd.snd.fst).fst =
                                                                                                        x.fst.set
                                                                                                          x_2.snd.fst.toNat
                                                                                                          ((x.fst.getD
                                                                                                                  x_2.snd.fst.toNat
                                                                                                                  ((0 :
                                                                                                                      Int),
                                                                                                                    false,
                                                                                                                    (0 :
                                                                                                                      Int))).fst +
                                                                                                              (1 : Int),
                                                                                                            true,
                                                                                                            x.snd.snd.fst)) ||
                                                                                                decide
                                                                                                  ((openF x.fst
                                                                                                          x.snd.snd.fst).snd.fst ≠
                                                                                                    handName x_2.snd.fst
                                                                                                      ((x.fst.set
                                                                                                            x_2.snd.fst.toNat
                                                                                                            ((x.fst.getD
                                                                                                                    x_2.snd.fst.toNat
                                                                                                                    ((0 :
                                                                                                                        Int),
                                                                                                                      false,
                                                                                                                      (0 :
                                                                                                                        Int))).fst +
                                                                                                                (1 :
                                                                                                                  Int),
                                                                                                              true,
                                                                                                              x.snd.snd.fst)).getD
                                                                                                        x_2.snd.fst.toNat
                                                                                                        ((0 : Int),
                                                                                                          false,
                                                                                                          (0 :
                                                                                                            Int))))) =
                                                                                              true →
                                                                                            false = true ∧ True) ∧
                                                                                          ((decide
                                                                                                    ((openF x.fst
                                                                                                            x.snd.snd.fst).snd.snd ≠
                                                                                                      (0 : Int)) ||
                                                                                                  !decide
                                                                                                      ((openF x.fst
                                                                                                            x.snd.snd.fst).fst =
                                                                                                        x.fst.set
                                                                                                          x_2.snd.fst.toNat
                                                                                                          ((x.fst.getD
                                                                                                                  x_2.snd.fst.toNat
                                                                                                                  ((0 :
                                                                                                                      Int),
                                                                                                                    false,
                                                                                                                    (0 :
                                                                                                                      Int))).fst +
                                                                                                              (1 : Int),
                                                                                                            true,
                                                                                                            x.snd.snd.fst)) ||
                                                                                                decide
                                                                                                  ((openF x.fst
                                                                                                          x.snd.snd.fst).snd.fst ≠
                                                                                                    handName x_2.snd.fst
                                                                                                      ((x.fst.set
                                                                                                            x_2.snd.fst.toNat
                                                                                                            ((x.fst.getD
                                                                                                                    x_2.snd.fst.toNat
                                                                                                                    ((0 :
                                                                                                                        Int),
                                                                                                                      false,
                                                                                                                      (0 :
                                                                                                                        Int))).fst +
                                                                                                                (1 :
                                                                                                                  Int),
                                                                                                              true,
                                                                                                              x.snd.snd.fst)).getD
                                                                                                        x_2.snd.fst.toNat
                                                                                                        ((0 : Int),
                                                                                                          false,
                                                                                                          (0 :
                                                                                                            Int))))) =
                                                                                              false →
                                                                                            True))) ∧
                                                            ∀ (x_4 : Unit),
                                                              True →
                                                                handsF x.fst = (0 : Int) ∧
                                                                  ((decide
                                                                            (handOfFrom x.snd.snd.snd.fst (0 : Int)
                                                                                x.fst <
                                                                              (0 : Int)) =
                                                                          true →
                                                                        ((decide
                                                                                      ((lookF x.fst
                                                                                            x.snd.snd.snd.fst).fst ≠
                                                                                        (0 : Int)) ||
                                                                                    decide
                                                                                      ((lookF x.fst
                                                                                            x.snd.snd.snd.fst).snd ≠
                                                                                        (9 : Int)) ||
                                                                                  decide
                                                                                    ((0 : Int) <
                                                                                      (↑(closeF x.fst
                                                                                                x.snd.snd.snd.fst).fst.length :
                                                                                        Int)) ||
                                                                                decide
                                                                                  ((closeF x.fst
                                                                                        x.snd.snd.snd.fst).snd ≠
                                                                                    (9 : Int))) =
                                                                              true →
                                                                            false = true ∧ True) ∧
                                                                          ((decide
                                                                                      ((lookF x.fst
                                                                                            x.snd.snd.snd.fst).fst ≠
                                                                                        (0 : Int)) ||
                                                                                    decide
                                                                                      ((lookF x.fst
                                                                                            x.snd.snd.snd.fst).snd ≠
                                                                                        (9 : Int)) ||
                                                                                  decide
                                                                                    ((0 : Int) <
                                                                                      (↑(closeF x.fst
                                                                                                x.snd.snd.snd.fst).fst.length :
                                                                                        Int)) ||
                                                                                decide
                                                                                  ((closeF x.fst
                                                                                        x.snd.snd.snd.fst).snd ≠
                                                                                    (9 : Int))) =
                                                                              false →
                                                                            True)) ∧
                                                                      (decide
                                                                            (handOfFrom x.snd.snd.snd.fst (0 : Int)
                                                                                x.fst <
                                                                              (0 : Int)) =
                                                                          false →
                                                                        True ∧
                                                                          (0 : Int) ≤
                                                                              handOfFrom x.snd.snd.snd.fst (0 : Int)
                                                                                x.fst ∧
                                                                            handOfFrom x.snd.snd.snd.fst (0 : Int)
                                                                                  x.fst <
                                                                                (↑x.fst.length : Int) ∧
                                                                              (0 : Int) ≤
                                                                                  handOfFrom x.snd.snd.snd.fst (0 : Int)
                                                                                    x.fst ∧
                                                                                handOfFrom x.snd.snd.snd.fst (0 : Int)
                                                                                      x.fst <
                                                                                    (↑x.fst.length : Int) ∧
                                                                                  (handOfFrom x.snd.snd.snd.fst
                                                                                          (0 : Int) x.fst).toNat <
                                                                                      x.fst.length ∧
                                                                                    (0 : Int) ≤
                                                                                        handOfFrom x.snd.snd.snd.fst
                                                                                          (0 : Int) x.fst ∧
                                                                                      handOfFrom x.snd.snd.snd.fst
                                                                                            (0 : Int) x.fst <
                                                                                          (↑x.fst.length : Int) ∧
                                                                                        ((decide
                                                                                                  ((lookF x.fst
                                                                                                        x.snd.snd.snd.fst).fst ≠
                                                                                                    (x.fst.getD
                                                                                                          (handOfFrom
                                                                                                              x.snd.snd.snd.fst
                                                                                                              (0 : Int)
                                                                                                              x.fst).toNat
                                                                                                          ((0 : Int),
                                                                                                            false,
                                                                                                            (0 :
                                                                                                              Int))).snd.snd) ||
                                                                                                decide
                                                                                                  ((lookF x.fst
                                                                                                        x.snd.snd.snd.fst).snd ≠
                                                                                                    (0 : Int))) =
                                                                                              false →
                                                                                            True) ∧
                                                                                          ((decide
                                                                                                        ((lookF x.fst
                                                                                                              x.snd.snd.snd.fst).fst ≠
                                                                                                          (x.fst.getD
                                                                                                                (handOfFrom
                                                                                                                    x.snd.snd.snd.fst
                                                                                                                    (0 :
                                                                                                                      Int)
                                                                                                                    x.fst).toNat
                                                                                                                ((0 :
                                                                                                                    Int),
                                                                                                                  false,
                                                                                                                  (0 :
                                                                                                                    Int))).snd.snd) ||
                                                                                                      decide
                                                                                                        ((lookF x.fst
                                                                                                              x.snd.snd.snd.fst).snd ≠
                                                                                                          (0 : Int)) ||
                                                                                                    !decide
                                                                                                        ((closeF x.fst
                                                                                                              x.snd.snd.snd.fst).fst =
                                                                                                          x.fst.set
                                                                                                            (handOfFrom
                                                                                                                x.snd.snd.snd.fst
                                                                                                                (0 :
                                                                                                                  Int)
                                                                                                                x.fst).toNat
                                                                                                            ((x.fst.getD
                                                                                                                  (handOfFrom
                                                                                                                      x.snd.snd.snd.fst
                                                                                                                      (0 :
                                                                                                                        Int)
                                                                                                                      x.fst).toNat
                                                                                                                  ((0 :
                                                                                                                      Int),
                                                                                                                    false,
                                                                                                                    (0 :
                                                                                                                      Int))).fst,
                                                                                                              false,
                                                                                                              (0 :
                                                                                                                Int))) ||
                                                                                                  decide
                                                                                                    ((closeF x.fst
                                                                                                          x.snd.snd.snd.fst).snd ≠
                                                                                                      (0 : Int))) =
                                                                                                true →
                                                                                              false = true ∧ True) ∧
                                                                                            ((decide
                                                                                                        ((lookF x.fst
                                                                                                              x.snd.snd.snd.fst).fst ≠
                                                                                                          (x.fst.getD
                                                                                                                (handOfFrom
                                                                                                                    x.snd.snd.snd.fst
                                                                                                                    (0 :
                                                                                                                      Int)
                                                                                                                    x.fst).toNat
                                                                                                                ((0 :
                                                                                                                    Int),
                                                                                                                  false,
                                                                                                                  (0 :
                                                                                                                    Int))).snd.snd) ||
                                                                                                      decide
                                                                                                        ((lookF x.fst
                                                                                                              x.snd.snd.snd.fst).snd ≠
                                                                                                          (0 : Int)) ||
                                                                                                    !decide
                                                                                                        ((closeF x.fst
                                                                                                              x.snd.snd.snd.fst).fst =
                                                                                                          x.fst.set
                                                                                                            (handOfFrom
                                                                                                                x.snd.snd.snd.fst
                                                                                                                (0 :
                                                                                                                  Int)
                                                                                                                x.fst).toNat
                                                                                                            ((x.fst.getD
                                                                                                                  (handOfFrom
                                                                                                                      x.snd.snd.snd.fst
                                                                                                                      (0 :
                                                                                                                        Int)
                                                                                                                      x.fst).toNat
                                                                                                                  ((0 :
                                                                                                                      Int),
                                                                                                                    false,
                                                                                                                    (0 :
                                                                                                                      Int))).fst,
                                                                                                              false,
                                                                                                              (0 :
                                                                                                                Int))) ||
                                                                                                  decide
                                                                                                    ((closeF x.fst
                                                                                                          x.snd.snd.snd.fst).snd ≠
                                                                                                      (0 : Int))) =
                                                                                                false →
                                                                                              True))) ∧
                                                                    ∀ (x_5 : Unit),
                                                                      True →
                                                                        (decide
                                                                                ((↑x.snd.snd.snd.snd.length : Int) ≠
                                                                                  (256 : Int)) =
                                                                              true →
                                                                            (decide
                                                                                    ((↑(swapF x.fst
                                                                                                x.snd.snd.snd.snd).fst.length :
                                                                                        Int) =
                                                                                      (0 : Int)) &&
                                                                                  decide
                                                                                    ((swapF x.fst
                                                                                          x.snd.snd.snd.snd).snd =
                                                                                      (3 : Int))) =
                                                                                true ∧
                                                                              True) ∧
                                                                          (decide
                                                                                ((↑x.snd.snd.snd.snd.length : Int) ≠
                                                                                  (256 : Int)) =
                                                                              false →
                                                                            (∀ (s : Int),
                                                                                s ∈ x.snd.snd.snd.snd →
                                                                                  (fun (x : Int) => True,
                                                                                        fun (x : Int) =>
                                                                                        decide (x < (0 : Int)) ||
                                                                                          decide ((255 : Int) < x)).fst
                                                                                    s) ∧
                                                                              ((x.snd.snd.snd.snd.any fun (x : Int) =>
                                                                                      decide (x < (0 : Int)) ||
                                                                                        decide ((255 : Int) < x)) =
                                                                                    true →
                                                                                  (decide
                                                                                          ((↑(swapF x.fst
                                                                                                      x.snd.snd.snd.snd).fst.length :
                                                                                              Int) =
                                                                                            (0 : Int)) &&
                                                                                        decide
                                                                                          ((swapF x.fst
                                                                                                x.snd.snd.snd.snd).snd =
                                                                                            (4 : Int))) =
                                                                                      true ∧
                                                                                    True) ∧
                                                                                ((x.snd.snd.snd.snd.any fun (x : Int) =>
                                                                                      decide (x < (0 : Int)) ||
                                                                                        decide ((255 : Int) < x)) =
                                                                                    false →
                                                                                  True ∧
                                                                                    ((0 : Int) ≤ (0 : Int) ∧
                                                                                        (0 : Int) ≤
                                                                                            (↑x.fst.length : Int) ∧
                                                                                          handsF x.fst = (0 : Int) ∧
                                                                                            x.snd.snd.snd.snd.length =
                                                                                                (256 : Nat) ∧
                                                                                              x.fst =
                                                                                                List.map
                                                                                                    (swapSlot
                                                                                                      x.snd.snd.snd.snd)
                                                                                                    (List.take
                                                                                                      (Int.toNat
                                                                                                        (0 : Int))
                                                                                                      x.fst) ++
                                                                                                  List.drop
                                                                                                    (Int.toNat
                                                                                                      (0 : Int))
                                                                                                    x.fst) ∧
                                                                                      ∀
                                                                                        (x_6 :
                                                                                          List (Int × Bool × Int) ×
                                                                                            Int),
                                                                                        (0 : Int) ≤ x_6.snd ∧
                                                                                            x_6.snd ≤
                                                                                                (↑x.fst.length : Int) ∧
                                                                                              handsF x.fst = (0 : Int) ∧
                                                                                                x.snd.snd.snd.snd.length =
                                                                                                    (256 : Nat) ∧
                                                                                                  x_6.fst =
                                                                                                    List.map
                                                                                                        (swapSlot
                                                                                                          x.snd.snd.snd.snd)
                                                                                                        (List.take
                                                                                                          x_6.snd.toNat
                                                                                                          x.fst) ++
                                                                                                      List.drop
                                                                                                        x_6.snd.toNat
                                                                                                        x.fst →
                                                                                          (decide
                                                                                                  (x_6.snd <
                                                                                                    (↑x.fst.length :
                                                                                                      Int)) =
                                                                                                true →
                                                                                              (0 : Int) ≤ x_6.snd ∧
                                                                                                x_6.snd <
                                                                                                    (↑x_6.fst.length :
                                                                                                      Int) ∧
                                                                                                  x_6.snd.toNat <
                                                                                                      x_6.fst.length ∧
                                                                                                    ((x_6.fst.getD
                                                                                                                x_6.snd.toNat
                                                                                                                ((0 :
                                                                                                                    Int),
                                                                                                                  false,
                                                                                                                  (0 :
                                                                                                                    Int))).snd.fst =
                                                                                                          true →
                                                                                                        (0 : Int) ≤
                                                                                                            x_6.snd ∧
                                                                                                          x_6.snd <
                                                                                                              (↑x_6.fst.length :
                                                                                                                Int) ∧
                                                                                                            x_6.snd.toNat <
                                                                                                                x_6.fst.length ∧
                                                                                                              (0 :
                                                                                                                    Int) ≤
                                                                                                                  (x_6.fst.getD
                                                                                                                        x_6.snd.toNat
                                                                                                                        ((0 :
                                                                                                                            Int),
                                                                                                                          false,
                                                                                                                          (0 :
                                                                                                                            Int))).snd.snd ∧
                                                                                                                (x_6.fst.getD
                                                                                                                          x_6.snd.toNat
                                                                                                                          ((0 :
                                                                                                                              Int),
                                                                                                                            false,
                                                                                                                            (0 :
                                                                                                                              Int))).snd.snd <
                                                                                                                    (↑x.snd.snd.snd.snd.length :
                                                                                                                      Int) ∧
                                                                                                                  (0 :
                                                                                                                        Int) ≤
                                                                                                                      x_6.snd ∧
                                                                                                                    x_6.snd <
                                                                                                                        (↑x_6.fst.length :
                                                                                                                          Int) ∧
                                                                                                                      x_6.snd.toNat <
                                                                                                                          x_6.fst.length ∧
                                                                                                                        InR
                                                                                                                            IntKind.i64
                                                                                                                            (x_6.snd +
                                                                                                                              (1 :
                                                                                                                                Int)) ∧
                                                                                                                          ((0 :
                                                                                                                                  Int) ≤
                                                                                                                                x_6.snd +
                                                                                                                                  (1 :
                                                                                                                                    Int) ∧
                                                                                                                              x_6.snd +
                                                                                                                                    (1 :
                                                                                                                                      Int) ≤
                                                                                                                                  (↑x.fst.length :
                                                                                                                                    Int) ∧
                                                                                                                                handsF
                                                                                                                                      x.fst =
                                                                                                                                    (0 :
                                                                                                                                      Int) ∧
                                                                                                                                  x.snd.snd.snd.snd.length =
                                                                                                                                      (256 :
                                                                                                                                        Nat) ∧
                                                                                                                                    x_6.fst.set
                                                                                                                                        x_6.snd.toNat
                                                                                                                                        ((x_6.fst.getD
                                                                                                                                              x_6.snd.toNat
                                                                                                                                              ((0 :
                                                                                                                                                  Int),
                                                                                                                                                false,
                                                                                                                                                (0 :
                                                                                                                                                  Int))).fst,
                                                                                                                                          (x_6.fst.getD
                                                                                                                                                x_6.snd.toNat
                                                                                                                                                ((0 :
                                                                                                                                                    Int),
                                                                                                                                                  false,
                                                                                                                                                  (0 :
                                                                                                                                                    Int))).snd.fst,
                                                                                                                                          x.snd.snd.snd.snd.getD
                                                                                                                                            (x_6.fst.getD
                                                                                                                                                    x_6.snd.toNat
                                                                                                                                                    ((0 :
                                                                                                                                                        Int),
                                                                                                                                                      false,
                                                                                                                                                      (0 :
                                                                                                                                                        Int))).snd.snd.toNat
                                                                                                                                            (0 :
                                                                                                                                              Int)) =
                                                                                                                                      List.map
                                                                                                                                          (swapSlot
                                                                                                                                            x.snd.snd.snd.snd)
                                                                                                                                          (List.take
                                                                                                                                            (x_6.snd +
                                                                                                                                                (1 :
                                                                                                                                                  Int)).toNat
                                                                                                                                            x.fst) ++
                                                                                                                                        List.drop
                                                                                                                                          (x_6.snd +
                                                                                                                                              (1 :
                                                                                                                                                Int)).toNat
                                                                                                                                          x.fst) ∧
                                                                                                                            ((↑x.fst.length :
                                                                                                                                    Int) -
                                                                                                                                  (x_6.snd +
                                                                                                                                    (1 :
                                                                                                                                      Int))).toNat <
                                                                                                                              ((↑x.fst.length :
                                                                                                                                    Int) -
                                                                                                                                  x_6.snd).toNat) ∧
                                                                                                      ((x_6.fst.getD
                                                                                                                x_6.snd.toNat
                                                                                                                ((0 :
                                                                                                                    Int),
                                                                                                                  false,
                                                                                                                  (0 :
                                                                                                                    Int))).snd.fst =
                                                                                                          false →
                                                                                                        InR IntKind.i64
                                                                                                            (x_6.snd +
                                                                                                              (1 :
                                                                                                                Int)) ∧
                                                                                                          ((0 : Int) ≤
                                                                                                                x_6.snd +
                                                                                                                  (1 :
                                                                                                                    Int) ∧
                                                                                                              x_6.snd +
                                                                                                                    (1 :
                                                                                                                      Int) ≤
                                                                                                                  (↑x.fst.length :
                                                                                                                    Int) ∧
                                                                                                                handsF
                                                                                                                      x.fst =
                                                                                                                    (0 :
                                                                                                                      Int) ∧
                                                                                                                  x.snd.snd.snd.snd.length =
                                                                                                                      (256 :
                                                                                                                        Nat) ∧
                                                                                                                    x_6.fst =
                                                                                                                      List.map
                                                                                                                          (swapSlot
                                                                                                                            x.snd.snd.snd.snd)
                                                                                                                          (List.take
                                                                                                                            (x_6.snd +
                                                                                                                                (1 :
                                                                                                                                  Int)).toNat
                                                                                                                            x.fst) ++
                                                                                                                        List.drop
                                                                                                                          (x_6.snd +
                                                                                                                              (1 :
                                                                                                                                Int)).toNat
                                                                                                                          x.fst) ∧
                                                                                                            ((↑x.fst.length :
                                                                                                                    Int) -
                                                                                                                  (x_6.snd +
                                                                                                                    (1 :
                                                                                                                      Int))).toNat <
                                                                                                              ((↑x.fst.length :
                                                                                                                    Int) -
                                                                                                                  x_6.snd).toNat)) ∧
                                                                                            (decide
                                                                                                  (x_6.snd <
                                                                                                    (↑x.fst.length :
                                                                                                      Int)) =
                                                                                                false →
                                                                                              (decide
                                                                                                      ((swapF x.fst
                                                                                                            x.snd.snd.snd.snd).snd =
                                                                                                        (0 : Int)) =
                                                                                                    true →
                                                                                                  True) ∧
                                                                                                (decide
                                                                                                        ((swapF x.fst
                                                                                                              x.snd.snd.snd.snd).snd =
                                                                                                          (0 : Int)) &&
                                                                                                      decide
                                                                                                        ((swapF x.fst
                                                                                                              x.snd.snd.snd.snd).fst =
                                                                                                          x_6.fst)) =
                                                                                                    true ∧
                                                                                                  True)))))))
theorem vcp_lawHandTells : pv_lawHandTells := by
  unfold pv_lawHandTells
  intro ⟨h, n, at_, nm, to⟩ ⟨⟨_, hw⟩, hn, hat, hnm, _, _⟩ _
  simp only [InR] at hn hat hnm
  simp only at *
  refine ⟨trivial, trivial, trivial, trivial, trivial, trivial, ⟨fun hc => ?_, fun hc => ?_⟩, fun _ _ => ⟨trivial, trivial, fun hc => by simp at hc, fun _ => ⟨fun hf => ?_, fun hf => ?_⟩⟩⟩
  · have : newHandsF n = ([], 4) := by unfold newHandsF; grind
    simp [this]
  · have : newHandsF n = (List.replicate n.toNat (0, false, 0), 0) ∧ 0 ≤ n ∧ n ≤ 16 := by unfold newHandsF; grind
    simp only [this.1, big]
    simp
    omega
  · have hf : handsF h ≠ 0 := by simpa using hf
    have e1 : openF h at_ = ([], 0, handsF h) := by unfold openF; rw [if_pos hf]
    have e2 : findF h nm = (0, handsF h) := by unfold findF; rw [if_pos hf]
    have e3 : closeF h nm = ([], handsF h) := by unfold closeF; rw [e2]; simp [hf]
    have e4 : lookF h nm = (0, handsF h) := by unfold lookF; rw [e2]; simp [hf]
    have e5 : swapF h to = ([], handsF h) := by unfold swapF; rw [if_pos hf]
    have e6 : liveF h = ([], handsF h) := by unfold liveF; rw [if_pos hf]
    simp [e1, e3, e4, e5, e6, InR]
  have hf : handsF h = 0 := by simpa using hf
  obtain ⟨z1, z2⟩ := handsF_zero hf
  refine ⟨⟨by omega, by omega, hf, by omega, by simp, by simp⟩, fun ⟨live, free, i⟩ ⟨h0, h1, _, h3, h4, h5⟩ => ⟨fun hlt => ?_, fun hge => ?_⟩⟩
  · have hlt : i < (h.length : Int) := by simpa using hlt
    simp only at *
    have hm := z2 _ (getD_mem ((0, false, 0) : Slot) h0 hlt)
    have e := drop_cons ((0, false, 0) : Slot) h0 hlt
    rw [e] at h4 h5
    simp only [liveFrom, findFrom] at h4 h5
    generalize h.getD i.toNat (0, false, 0) = s at *
    obtain ⟨g, o, a⟩ := s
    have hff : freeSlot (g, false, a) = decide (g < 65535) := by simp [freeSlot]
    have hft : freeSlot (g, true, a) = false := by simp [freeSlot]
    simp only [big, InR] at *
    refine ⟨h0, hlt, ⟨fun ho => ?_, fun ho => ⟨fun hc => ?_, fun hc => ?_⟩⟩, fun ⟨l2, f2⟩ ⟨q1, q2, q3⟩ => ⟨by omega, ⟨by omega, by omega, hf, q1, q2, q3⟩, by omega⟩⟩
    · subst ho
      refine ⟨⟨h0, by omega, hm.1, by omega⟩, by simp; omega, by simp; omega, by simpa using h4, by rw [hft, if_neg Bool.false_ne_true] at h5; exact h5⟩
    · subst ho
      simp only [Bool.and_eq_true, decide_eq_true_eq] at hc
      refine ⟨by omega, by simpa using h4, ?_⟩
      rw [if_neg (by omega)]
      rw [if_pos hc.1, if_pos (by rw [hff]; simp [hc.2])] at h5
      exact h5
    · subst ho
      refine ⟨by omega, by simpa using h4, ?_⟩
      by_cases hfr : free < 0
      · rw [if_pos hfr] at h5 ⊢
        rw [if_neg (by rw [hff]; simp at hc ⊢; omega)] at h5
        exact h5
      · rw [if_neg hfr] at h5 ⊢
        exact h5
  · have hge : ¬ i < (h.length : Int) := by simpa using hge
    simp only at *
    rw [drop_end hge] at h4 h5
    simp only [liveFrom, findFrom, List.append_nil] at h4 h5
    have hL : liveF h = (liveFrom 0 h, 0) := by unfold liveF; rw [if_neg (by omega)]
    have hO := open_two at_ hf
    have hr := findFrom_range freeSlot h 0
    have hg := fun q => findFrom_is freeSlot ((0, false, 0) : Slot) h 0 q (by omega)
    generalize findFrom freeSlot 0 h = fr at *
    refine ⟨fun _ => trivial, fun hc => by simp [hL, h4] at hc, fun _ => ⟨⟨fun hc => by rw [if_pos (by simpa using hc)], fun hc => ⟨fun hd => ?_, fun hd => ?_⟩⟩, fun e he => ⟨⟨fun hc => ?_, fun hc => ?_⟩, fun _ _ => ⟨hf, ⟨fun hc => ?_, fun hc => ?_⟩, fun _ _ => ⟨fun hc => ?_, fun hc => ⟨fun _ _ => trivial, fun ha => ?_, fun ha => ?_⟩⟩⟩⟩⟩⟩
    · rw [if_neg (by simp at hc; omega), if_pos (of_decide_eq_true hd)]
    · rw [if_neg (by simp at hc; omega), if_neg (of_decide_eq_false hd)]
    · have hc : e ≠ 0 := by simpa using hc
      have : openF h at_ = ([], 0, e) := by
        rw [hO, he]
        rw [he] at hc
        by_cases k1 : at_ < 0 ∨ 255 < at_
        · simp only [k1, if_true]
        · by_cases k2 : free < 0
          · have : fr < 0 := by rw [if_pos k2] at h5; omega
            simp only [k1, k2, this, if_true, if_false]
          · simp [k1, k2] at hc
      simp [this]
    · have hc : e = 0 := by simpa using hc
      rw [he] at hc
      have k1 : ¬ (at_ < 0 ∨ 255 < at_) := by intro k; rw [if_pos k] at hc; omega
      have k2 : ¬ free < 0 := by intro k; rw [if_neg k1, if_pos k] at hc; omega
      rw [if_neg k2] at h5
      subst h5
      rw [if_neg k1, if_neg k2] at hO
      have hgi := hg (by omega)
      simp only [Int.sub_zero] at hgi
      have hlt : free < h.length := by omega
      have hm := z2 _ (getD_mem ((0, false, 0) : Slot) (show 0 ≤ free by omega) hlt)
      have hgs : ∀ v : Slot, (h.set free.toNat v).getD free.toNat (0, false, 0) = v := fun v => by simp [show free.toNat < h.length by omega]
      simp only [hgs, List.length_set, hO, opened]
      unfold freeSlot at hgi
      generalize h.getD free.toNat (0, false, 0) = s at *
      simp only [Bool.and_eq_true, decide_eq_true_eq] at hgi
      simp [InR]
      omega
    · have hc : handOfFrom nm 0 h < 0 := of_decide_eq_true hc
      have hd : findF h nm = (0, 9) := by
        rcases handOf_find (n := nm) hf with k | k
        · omega
        · exact k.1
      simp [lookF, closeF, hd]
    · have hc : ¬ handOfFrom nm 0 h < 0 := of_decide_eq_false hc
      rcases handOf_find (n := nm) hf with k | k
      · obtain ⟨k1, k2, k3, k4⟩ := k
        rw [k2]
        simp [lookF, closeF, k1]
        omega
      · omega
    · have hc : to.length ≠ 256 := by simp at hc; omega
      have : swapF h to = ([], 3) := by unfold swapF; rw [if_neg (by omega), if_pos hc]
      simp [this]
    · have hc : to.length = 256 := by simp at hc; omega
      have : swapF h to = ([], 4) := by
        unfold swapF
        rw [if_neg (by omega), if_neg (by omega), if_pos]
        rw [← ha]
        congr 1
        funext v
        unfold there
        grind
      simp [this]
    · have hc : to.length = 256 := by simp at hc; omega
      have hS : swapF h to = (h.map (swapSlot to), 0) := by
        unfold swapF
        rw [if_neg (by omega), if_neg (by omega), if_neg]
        rw [Bool.not_eq_true, ← ha]
        congr 1
        funext v
        unfold there
        grind
      refine ⟨trivial, ⟨by omega, by omega, hf, hc, by simp⟩, fun ⟨out, i⟩ ⟨h0, h1, _, _, h4⟩ => ⟨fun hlt => ?_, fun hge => ?_⟩⟩
      · have hlt : i < (h.length : Int) := by simpa using hlt
        simp only at *
        have hm := z2 _ (getD_mem ((0, false, 0) : Slot) h0 hlt)
        have hlen : out.length = h.length := by rw [h4]; exact mapTo_len _ _ _
        have hget : out.getD i.toNat (0, false, 0) = h.getD i.toNat (0, false, 0) := by rw [h4]; exact mapTo_get _ _ _ _ (by omega)
        have hset := mapTo_set (swapSlot to) h ((0, false, 0) : Slot) i.toNat (by omega)
        have hkeep := mapTo_keep (swapSlot to) h ((0, false, 0) : Slot) i.toNat (by omega)
        rw [← h4] at hset hkeep
        rw [hget, show (i + 1).toNat = i.toNat + 1 by omega]
        refine ⟨h0, by omega, by omega, fun ho => ⟨h0, by omega, by omega, by omega, by omega, h0, by omega, by omega, by simp only [InR]; omega, ⟨by omega, by omega, hf, hc, ?_⟩, by omega⟩, fun ho => ⟨by simp only [InR]; omega, ⟨by omega, by omega, hf, hc, ?_⟩, by omega⟩⟩
        · rw [← hset]
          unfold swapSlot
          rw [if_pos ho]
        · apply hkeep
          unfold swapSlot
          rw [if_neg (by rw [ho]; simp)]
      · have hge : ¬ i < (h.length : Int) := by simpa using hge
        simp only at *
        rw [hS, h4, List.take_of_length_le (by omega), List.drop_of_length_le (by omega)]
        simp
theorem e_lawHandTells : pv_lawHandTells = fnVC Try.prog (tbl [(41, sp_handNew), (42, sp_handOpen), (43, sp_handLook), (44, sp_handClose), (45, sp_handSwap), (46, sp_handLive), (47, sp_sameHands), (48, sp_handsFault), (49, sp_handCheck), (50, sp_rHandName), (36, sp_eqWords), (51, sp_cloneHands), (52, sp_handOf), (53, sp_anyInt), (54, sp_outside)]) an_lawHandTells Try.f10 sp_lawHandTells := by kernel_rfl
theorem vc_lawHandTells : fnVC Try.prog (tbl [(41, sp_handNew), (42, sp_handOpen), (43, sp_handLook), (44, sp_handClose), (45, sp_handSwap), (46, sp_handLive), (47, sp_sameHands), (48, sp_handsFault), (49, sp_handCheck), (50, sp_rHandName), (36, sp_eqWords), (51, sp_cloneHands), (52, sp_handOf), (53, sp_anyInt), (54, sp_outside)]) an_lawHandTells Try.f10 sp_lawHandTells := @Eq.mp _ _ @e_lawHandTells @vcp_lawHandTells
theorem ok_lawHandTells : sp_lawHandTells.ok Try.prog 10 := fn_sound (P := Try.prog) (ss := tbl [(41, sp_handNew), (42, sp_handOpen), (43, sp_handLook), (44, sp_handClose), (45, sp_handSwap), (46, sp_handLive), (47, sp_sameHands), (48, sp_handsFault), (49, sp_handCheck), (50, sp_rHandName), (36, sp_eqWords), (51, sp_cloneHands), (52, sp_handOf), (53, sp_anyInt), (54, sp_outside)]) (ann := an_lawHandTells) (f := 10) (fn := Try.f10) (s := sp_lawHandTells) (tbl_cons ok_handNew (tbl_cons ok_handOpen (tbl_cons ok_handLook (tbl_cons ok_handClose (tbl_cons ok_handSwap (tbl_cons ok_handLive (tbl_cons ok_sameHands (tbl_cons ok_handsFault (tbl_cons ok_handCheck (tbl_cons ok_rHandName (tbl_cons ok_eqWords (tbl_cons ok_cloneHands (tbl_cons ok_handOf (tbl_cons ok_anyInt (tbl_cons ok_outside tbl_nil))))))))))))))) Try.func10 @vc_lawHandTells

end Go.Proofs.Ytjkmfgneonifeaa
