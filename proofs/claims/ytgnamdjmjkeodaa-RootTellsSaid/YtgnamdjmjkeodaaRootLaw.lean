/- The law RootTells: its contract. -/
import Derived.Test.YtgnamdjmjkeodaaRising
namespace Go.Proofs.Ytgnamdjmjkeodaa
open Go
set_option maxRecDepth 100000
set_option maxHeartbeats 1000000

theorem named_rising {r : List Int} {n : Int} (h : rootFault r n = 0) : compactI (sortI (r.filter fun v => !decide (v < 0))) = risingL r 256 := by
  obtain ⟨h1, h2⟩ := compactI_sorted (sortI_sorted (r.filter fun v => !decide (v < 0)))
  refine rising_eq h1 (fun x => ?_)
  rw [h2, sortI_mem, List.mem_filter]
  have ha := rootFault_any h
  have hn : n ≤ 256 := by
    unfold rootFault at h
    split at h <;> omega
  constructor
  · rintro ⟨h3, h4⟩
    have := withinI ha h3
    simp only [Bool.not_eq_true', decide_eq_false_iff_not] at h4
    exact ⟨by omega, by omega, h3⟩
  · rintro ⟨h3, _, h5⟩
    exact ⟨h5, by simp; omega⟩

def setCode (r : List Int) (n slot v : Int) : Int := if slot < 0 ∨ (r.length : Int) ≤ slot then 5 else if within v n = false then 4 else 0
def swapCode (n : Int) (to : List Int) : Int := if (to.length : Int) ≠ n then 3 else if (to.any fun v => !within v n) = true then 4 else 0

theorem setF_is {r : List Int} {n : Int} (slot v : Int) (he : rootFault r n = 0) : (rootSetF r n slot v).2 = setCode r n slot v ∧ (setCode r n slot v ≠ 0 → (rootSetF r n slot v).1 = []) ∧
    (setCode r n slot v = 0 → (rootSetF r n slot v).1.length = r.length ∧ ∀ i : Int, 0 ≤ i → i < r.length → (rootSetF r n slot v).1.getD i.toNat 0 = if i = slot then v else r.getD i.toNat 0) := by
  unfold rootSetF setCode
  rw [if_neg (by omega)]
  split
  · simp
  · split
    · simp
    · refine ⟨rfl, by simp, fun _ => ⟨by simp, fun i i0 i1 => ?_⟩⟩
      simp only [List.getD_eq_getElem?_getD, List.getElem?_set]
      by_cases hi : i = slot
      · subst hi
        rw [if_pos rfl, if_pos (by omega), if_pos rfl]
        rfl
      · rw [if_neg (by omega), if_neg hi]

theorem swapF_is {r : List Int} {n : Int} (to : List Int) (he : rootFault r n = 0) : (rootSwapF r n to).2 = swapCode n to ∧ (swapCode n to ≠ 0 → (rootSwapF r n to).1 = []) ∧
    (swapCode n to = 0 → (rootSwapF r n to).1.length = r.length ∧ (to.length : Int) = n ∧ ∀ i : Int, 0 ≤ i → i < r.length → (rootSwapF r n to).1.getD i.toNat 0 = swapI to (r.getD i.toNat 0)) := by
  unfold rootSwapF swapCode
  rw [if_neg (by omega)]
  split
  · simp
  · rename_i hl
    split
    · simp
    · refine ⟨rfl, by simp, fun _ => ⟨by simp, by omega, fun i i0 i1 => ?_⟩⟩
      simp only [List.getD_eq_getElem?_getD, List.getElem?_map]
      rw [List.getElem?_eq_getElem (by omega)]
      rfl

theorem fault_take {to : List Int} {n : Int} {k : Int} (h : rootFault (to.take (if 32 < k then 32 else k).toNat) n ≠ 0) (hn : 0 ≤ n ∧ n ≤ 256) : (to.any fun v => !within v n) = true := by
  have hk : (if 32 < k then 32 else k).toNat ≤ 32 := by split <;> omega
  generalize (if 32 < k then 32 else k).toNat = m at *
  unfold rootFault at h
  rw [if_neg (by omega), if_neg (by rw [List.length_take]; omega)] at h
  split at h
  · rename_i ha
    obtain ⟨x, hx, hw⟩ := List.any_eq_true.1 ha
    exact List.any_eq_true.2 ⟨x, List.mem_of_mem_take hx, hw⟩
  · exact absurd rfl h

def an_lawRoot : Nat → Option LoopGen
  | 1000013 => some { rd := [.dat 0 (.arr ty_I), .dat 2 ty_I, .dat 3 ty_I, .box 6 ty_I], A := fun ((r, slot, v, n) : List Int × Int × Int × Int) => { cs := [.dat 18 ty_I], inv := fun (c : Int) => c = setCode r n slot v, mu := fun _ => 0 } }
  | 1000026 => some { rd := [.dat 4 (.arr ty_I), .box 6 ty_I], A := fun ((to, n) : List Int × Int) => { cs := [.dat 20 ty_I], inv := fun (c : Int) => c = swapCode n to, mu := fun _ => 0 } }
  | 19 => some { rd := [.dat 0 (.arr ty_I)], A := fun (r : List Int) => { cs := [.dat 118 ty_I], inv := fun (i : Int) => 0 ≤ i ∧ i ≤ r.length, mu := fun (i : Int) => (r.length - i).toNat } }
  | 34 => some { rd := [.dat 0 (.arr ty_I)], A := fun (r : List Int) => { cs := [.dat 198 ty_I], inv := fun (i : Int) => 0 ≤ i ∧ i ≤ r.length, mu := fun (i : Int) => (r.length - i).toNat } }
  | _ => none
def sp_rootC4 : Spec := { Ts := [ty_I, .ref ty_I], Rs := [.dat .bool], pre := fun _ => True, F := fun ((v, n) : Int × Int) => !within v n }
def pv_rootC4 : Prop :=
    ∀ (x : Int × Int),
  InR IntKind.i64 x.fst ∧ InR IntKind.i64 x.snd →
    True → (decide (x.fst < (-1 : Int)) || decide (x.snd ≤ x.fst)) = !within x.fst x.snd ∧ True
theorem vcp_rootC4 : pv_rootC4 := by
  unfold pv_rootC4
  intro ⟨v, n⟩ _ _
  simp only [within]
  grind
theorem e_rootC4 : pv_rootC4 = fnVC Try.prog (tbl []) an_0 Try.f75 sp_rootC4 := by kernel_rfl
theorem vc_rootC4 : fnVC Try.prog (tbl []) an_0 Try.f75 sp_rootC4 := @Eq.mp _ _ @e_rootC4 @vcp_rootC4
theorem ok_rootC4 : sp_rootC4.ok Try.prog 75 := fn_sound (P := Try.prog) (ss := tbl []) (ann := an_0) (f := 75) (fn := Try.f75) (s := sp_rootC4) tbl_nil Try.func75 @vc_rootC4

def sp_lawRootTells : Spec := sp_law [.arr ty_I, ty_I, ty_I, ty_I, .arr ty_I]
def pv_lawRootTells : Prop :=
    ∀ (x : List Int × Int × Int × Int × List Int),
  ((x.fst.length * (8 : Nat) ≤ big ∧ ∀ (x_1 : Int), x_1 ∈ x.fst → InR IntKind.i64 x_1) ∧
      InR IntKind.i64 x.snd.fst ∧
        InR IntKind.i64 x.snd.snd.fst ∧
          InR IntKind.i64 x.snd.snd.snd.fst ∧
            x.snd.snd.snd.snd.length * (8 : Nat) ≤ big ∧ ∀ (x_1 : Int), x_1 ∈ x.snd.snd.snd.snd → InR IntKind.i64 x_1) →
    True →
      True ∧
        True ∧
          True ∧
            True ∧
              True ∧
                (decide (rootFault x.fst x.snd.fst ≠ rootFault x.fst x.snd.fst) = true → false = true ∧ True) ∧
                  (decide (rootFault x.fst x.snd.fst ≠ rootFault x.fst x.snd.fst) = false →
                    (decide (rootFault x.fst x.snd.fst ≠ (0 : Int)) = true →
                        InR IntKind.i64
                            ((↑(rootSetF x.fst x.snd.fst x.snd.snd.fst x.snd.snd.snd.fst).fst.length : Int) +
                              (↑(rootNamedF x.fst x.snd.fst).fst.length : Int)) ∧
                          InR IntKind.i64
                              ((↑(rootSetF x.fst x.snd.fst x.snd.snd.fst x.snd.snd.snd.fst).fst.length : Int) +
                                  (↑(rootNamedF x.fst x.snd.fst).fst.length : Int) +
                                (↑(rootSwapF x.fst x.snd.fst x.snd.snd.snd.snd).fst.length : Int)) ∧
                            (decide
                                        ((↑(rootSetF x.fst x.snd.fst x.snd.snd.fst x.snd.snd.snd.fst).fst.length :
                                                Int) +
                                              (↑(rootNamedF x.fst x.snd.fst).fst.length : Int) +
                                            (↑(rootSwapF x.fst x.snd.fst x.snd.snd.snd.snd).fst.length : Int) =
                                          (0 : Int)) &&
                                      decide
                                        ((rootSetF x.fst x.snd.fst x.snd.snd.fst x.snd.snd.snd.fst).snd =
                                          rootFault x.fst x.snd.fst) &&
                                    decide ((rootNamedF x.fst x.snd.fst).snd = rootFault x.fst x.snd.fst) &&
                                  decide
                                    ((rootSwapF x.fst x.snd.fst x.snd.snd.snd.snd).snd = rootFault x.fst x.snd.fst)) =
                                true ∧
                              True) ∧
                      (decide (rootFault x.fst x.snd.fst ≠ (0 : Int)) = false →
                        (decide ((rootNamedF x.fst x.snd.fst).snd ≠ (0 : Int)) = false → True) ∧
                          (decide ((rootNamedF x.fst x.snd.fst).snd ≠ (0 : Int)) = false → True) ∧
                            ((decide ((rootNamedF x.fst x.snd.fst).snd ≠ (0 : Int)) ||
                                    !decide ((rootNamedF x.fst x.snd.fst).fst = risingL x.fst (256 : Nat))) =
                                  true →
                                false = true ∧ True) ∧
                              ((decide ((rootNamedF x.fst x.snd.fst).snd ≠ (0 : Int)) ||
                                    !decide ((rootNamedF x.fst x.snd.fst).fst = risingL x.fst (256 : Nat))) =
                                  false →
                                (((decide (x.snd.snd.fst < (0 : Int)) ||
                                          decide ((↑x.fst.length : Int) ≤ x.snd.snd.fst)) =
                                        true →
                                      (5 : Int) = setCode x.fst x.snd.fst x.snd.snd.fst x.snd.snd.snd.fst) ∧
                                    ((decide (x.snd.snd.fst < (0 : Int)) ||
                                          decide ((↑x.fst.length : Int) ≤ x.snd.snd.fst)) =
                                        false →
                                      ((decide (x.snd.snd.snd.fst < (-1 : Int)) ||
                                              decide (x.snd.fst ≤ x.snd.snd.snd.fst)) =
                                            true →
                                          (4 : Int) = setCode x.fst x.snd.fst x.snd.snd.fst x.snd.snd.snd.fst) ∧
                                        ((decide (x.snd.snd.snd.fst < (-1 : Int)) ||
                                              decide (x.snd.fst ≤ x.snd.snd.snd.fst)) =
                                            false →
                                          (0 : Int) = setCode x.fst x.snd.fst x.snd.snd.fst x.snd.snd.snd.fst))) ∧
                                  ∀ (x_1 : Int),
                                    x_1 = setCode x.fst x.snd.fst x.snd.snd.fst x.snd.snd.snd.fst →
                                      ((decide ((rootSetF x.fst x.snd.fst x.snd.snd.fst x.snd.snd.snd.fst).snd ≠ x_1) ||
                                              decide (x_1 ≠ (0 : Int)) &&
                                                decide
                                                  ((0 : Int) <
                                                    (↑(rootSetF x.fst x.snd.fst x.snd.snd.fst
                                                              x.snd.snd.snd.fst).fst.length :
                                                      Int))) =
                                            true →
                                          false = true ∧ True) ∧
                                        ((decide
                                                ((rootSetF x.fst x.snd.fst x.snd.snd.fst x.snd.snd.snd.fst).snd ≠
                                                  x_1) ||
                                              decide (x_1 ≠ (0 : Int)) &&
                                                decide
                                                  ((0 : Int) <
                                                    (↑(rootSetF x.fst x.snd.fst x.snd.snd.fst
                                                              x.snd.snd.snd.fst).fst.length :
                                                      Int))) =
                                            false →
                                          ((0 : Int) ≤ (0 : Int) ∧ (0 : Int) ≤ (↑x.fst.length : Int)) ∧
                                            ∀ (x_2 : Int),
                                              (0 : Int) ≤ x_2 ∧ x_2 ≤ (↑x.fst.length : Int) →
                                                (decide (x_2 < (↑x.fst.length : Int)) = true →
                                                    (decide (x_2 = x.snd.snd.fst) = true →
                                                        decide
                                                              ((↑(rootSetF x.fst x.snd.fst x.snd.snd.fst
                                                                          x.snd.snd.snd.fst).fst.length :
                                                                  Int) ≠
                                                                (↑x.fst.length : Int)) =
                                                            false →
                                                          decide (x_1 = (0 : Int)) = true → (0 : Int) ≤ x_2) ∧
                                                      (decide (x_2 = x.snd.snd.fst) = true →
                                                          decide
                                                                ((↑(rootSetF x.fst x.snd.fst x.snd.snd.fst
                                                                            x.snd.snd.snd.fst).fst.length :
                                                                    Int) ≠
                                                                  (↑x.fst.length : Int)) =
                                                              false →
                                                            decide (x_1 = (0 : Int)) = true →
                                                              x_2 <
                                                                (↑(rootSetF x.fst x.snd.fst x.snd.snd.fst
                                                                          x.snd.snd.snd.fst).fst.length :
                                                                  Int)) ∧
                                                        (decide (x_2 = x.snd.snd.fst) = true →
                                                            decide
                                                                  ((↑(rootSetF x.fst x.snd.fst x.snd.snd.fst
                                                                              x.snd.snd.snd.fst).fst.length :
                                                                      Int) ≠
                                                                    (↑x.fst.length : Int)) =
                                                                false →
                                                              decide (x_1 = (0 : Int)) = true →
                                                                x_2.toNat <
                                                                  (rootSetF x.fst x.snd.fst x.snd.snd.fst
                                                                        x.snd.snd.snd.fst).fst.length) ∧
                                                          (decide (x_2 ≠ x.snd.snd.fst) = true →
                                                              (decide
                                                                      ((↑(rootSetF x.fst x.snd.fst x.snd.snd.fst
                                                                                  x.snd.snd.snd.fst).fst.length :
                                                                          Int) ≠
                                                                        (↑x.fst.length : Int)) ||
                                                                    decide (x_2 = x.snd.snd.fst) &&
                                                                      decide
                                                                        ((rootSetF x.fst x.snd.fst x.snd.snd.fst
                                                                                  x.snd.snd.snd.fst).fst.getD
                                                                            x_2.toNat (0 : Int) ≠
                                                                          x.snd.snd.snd.fst)) =
                                                                  false →
                                                                decide (x_1 = (0 : Int)) = true → (0 : Int) ≤ x_2) ∧
                                                            (decide (x_2 ≠ x.snd.snd.fst) = true →
                                                                (decide
                                                                        ((↑(rootSetF x.fst x.snd.fst x.snd.snd.fst
                                                                                    x.snd.snd.snd.fst).fst.length :
                                                                            Int) ≠
                                                                          (↑x.fst.length : Int)) ||
                                                                      decide (x_2 = x.snd.snd.fst) &&
                                                                        decide
                                                                          ((rootSetF x.fst x.snd.fst x.snd.snd.fst
                                                                                    x.snd.snd.snd.fst).fst.getD
                                                                              x_2.toNat (0 : Int) ≠
                                                                            x.snd.snd.snd.fst)) =
                                                                    false →
                                                                  decide (x_1 = (0 : Int)) = true →
                                                                    x_2 <
                                                                      (↑(rootSetF x.fst x.snd.fst x.snd.snd.fst
                                                                                x.snd.snd.snd.fst).fst.length :
                                                                        Int)) ∧
                                                              (decide (x_2 ≠ x.snd.snd.fst) = true →
                                                                  (decide
                                                                          ((↑(rootSetF x.fst x.snd.fst x.snd.snd.fst
                                                                                      x.snd.snd.snd.fst).fst.length :
                                                                              Int) ≠
                                                                            (↑x.fst.length : Int)) ||
                                                                        decide (x_2 = x.snd.snd.fst) &&
                                                                          decide
                                                                            ((rootSetF x.fst x.snd.fst x.snd.snd.fst
                                                                                      x.snd.snd.snd.fst).fst.getD
                                                                                x_2.toNat (0 : Int) ≠
                                                                              x.snd.snd.snd.fst)) =
                                                                      false →
                                                                    decide (x_1 = (0 : Int)) = true →
                                                                      x_2.toNat <
                                                                        (rootSetF x.fst x.snd.fst x.snd.snd.fst
                                                                              x.snd.snd.snd.fst).fst.length) ∧
                                                                (decide (x_2 ≠ x.snd.snd.fst) = true →
                                                                    (decide
                                                                            ((↑(rootSetF x.fst x.snd.fst x.snd.snd.fst
                                                                                        x.snd.snd.snd.fst).fst.length :
                                                                                Int) ≠
                                                                              (↑x.fst.length : Int)) ||
                                                                          decide (x_2 = x.snd.snd.fst) &&
                                                                            decide
                                                                              ((rootSetF x.fst x.snd.fst x.snd.snd.fst
                                                                                        x.snd.snd.snd.fst).fst.getD
                                                                                  x_2.toNat (0 : Int) ≠
                                                                                x.snd.snd.snd.fst)) =
                                                                        false →
                                                                      decide (x_1 = (0 : Int)) = true →
                                                                        (0 : Int) ≤ x_2) ∧
                                                                  (decide (x_2 ≠ x.snd.snd.fst) = true →
                                                                      (decide
                                                                              ((↑(rootSetF x.fst x.snd.fst x.snd.snd.fst
                                                                                          x.snd.snd.snd.fst).fst.length :
                                                                                  Int) ≠
                                                                                (↑x.fst.length : Int)) ||
                                                                            decide (x_2 = x.snd.snd.fst) &&
                                                                              decide
                                                                                ((rootSetF x.fst x.snd.fst x.snd.snd.fst
                                                                                          x.snd.snd.snd.fst).fst.getD
                                                                                    x_2.toNat (0 : Int) ≠
                                                                                  x.snd.snd.snd.fst)) =
                                                                          false →
                                                                        decide (x_1 = (0 : Int)) = true →
                                                                          x_2 < (↑x.fst.length : Int)) ∧
                                                                    ((decide (x_1 = (0 : Int)) &&
                                                                            (decide
                                                                                  ((↑(rootSetF x.fst x.snd.fst
                                                                                              x.snd.snd.fst
                                                                                              x.snd.snd.snd.fst).fst.length :
                                                                                      Int) ≠
                                                                                    (↑x.fst.length : Int)) ||
                                                                                decide (x_2 = x.snd.snd.fst) &&
                                                                                  decide
                                                                                    ((rootSetF x.fst x.snd.fst
                                                                                              x.snd.snd.fst
                                                                                              x.snd.snd.snd.fst).fst.getD
                                                                                        x_2.toNat (0 : Int) ≠
                                                                                      x.snd.snd.snd.fst) ||
                                                                              decide (x_2 ≠ x.snd.snd.fst) &&
                                                                                decide
                                                                                  ((rootSetF x.fst x.snd.fst
                                                                                            x.snd.snd.fst
                                                                                            x.snd.snd.snd.fst).fst.getD
                                                                                      x_2.toNat (0 : Int) ≠
                                                                                    x.fst.getD x_2.toNat (0 : Int)))) =
                                                                          true →
                                                                        false = true ∧ True) ∧
                                                                      ((decide (x_1 = (0 : Int)) &&
                                                                            (decide
                                                                                  ((↑(rootSetF x.fst x.snd.fst
                                                                                              x.snd.snd.fst
                                                                                              x.snd.snd.snd.fst).fst.length :
                                                                                      Int) ≠
                                                                                    (↑x.fst.length : Int)) ||
                                                                                decide (x_2 = x.snd.snd.fst) &&
                                                                                  decide
                                                                                    ((rootSetF x.fst x.snd.fst
                                                                                              x.snd.snd.fst
                                                                                              x.snd.snd.snd.fst).fst.getD
                                                                                        x_2.toNat (0 : Int) ≠
                                                                                      x.snd.snd.snd.fst) ||
                                                                              decide (x_2 ≠ x.snd.snd.fst) &&
                                                                                decide
                                                                                  ((rootSetF x.fst x.snd.fst
                                                                                            x.snd.snd.fst
                                                                                            x.snd.snd.snd.fst).fst.getD
                                                                                      x_2.toNat (0 : Int) ≠
                                                                                    x.fst.getD x_2.toNat (0 : Int)))) =
                                                                          false →
                                                                        InR IntKind.i64 (x_2 + (1 : Int)) ∧
                                                                          ((0 : Int) ≤ x_2 + (1 : Int) ∧
                                                                              x_2 + (1 : Int) ≤ (↑x.fst.length : Int)) ∧
                                                                            ((↑x.fst.length : Int) -
                                                                                  (x_2 + (1 : Int))).toNat <
                                                                              ((↑x.fst.length : Int) - x_2).toNat)) ∧
                                                  (decide (x_2 < (↑x.fst.length : Int)) = false →
                                                    ((decide ((↑x.snd.snd.snd.snd.length : Int) ≠ x.snd.fst) = true →
                                                          (3 : Int) = swapCode x.snd.fst x.snd.snd.snd.snd) ∧
                                                        (decide ((↑x.snd.snd.snd.snd.length : Int) ≠ x.snd.fst) =
                                                            false →
                                                          ((0 : Int) ≤
                                                              if (32 : Int) < (↑x.snd.snd.snd.snd.length : Int) then
                                                                (32 : Int)
                                                              else (↑x.snd.snd.snd.snd.length : Int)) ∧
                                                            (if (32 : Int) < (↑x.snd.snd.snd.snd.length : Int) then
                                                                  (32 : Int)
                                                                else (↑x.snd.snd.snd.snd.length : Int)) ≤
                                                                (↑x.snd.snd.snd.snd.length : Int) ∧
                                                              True ∧
                                                                (decide
                                                                        (rootFault
                                                                            (List.take
                                                                              (if
                                                                                    (32 : Int) <
                                                                                      (↑x.snd.snd.snd.snd.length :
                                                                                        Int) then
                                                                                  (32 : Int)
                                                                                else
                                                                                  (↑x.snd.snd.snd.snd.length :
                                                                                    Int)).toNat
                                                                              x.snd.snd.snd.snd)
                                                                            x.snd.fst ≠
                                                                          (0 : Int)) =
                                                                      false →
                                                                    ∀ (s : Int),
                                                                      s ∈ x.snd.snd.snd.snd →
                                                                        (fun (x : Int) => True, fun (x_3 : Int) =>
                                                                              !within x_3 x.snd.fst).fst
                                                                          s) ∧
                                                                  ((decide
                                                                            (rootFault
                                                                                (List.take
                                                                                  (if
                                                                                        (32 : Int) <
                                                                                          (↑x.snd.snd.snd.snd.length :
                                                                                            Int) then
                                                                                      (32 : Int)
                                                                                    else
                                                                                      (↑x.snd.snd.snd.snd.length :
                                                                                        Int)).toNat
                                                                                  x.snd.snd.snd.snd)
                                                                                x.snd.fst ≠
                                                                              (0 : Int)) ||
                                                                          x.snd.snd.snd.snd.any fun (x_3 : Int) =>
                                                                            !within x_3 x.snd.fst) =
                                                                        true →
                                                                      (4 : Int) =
                                                                        swapCode x.snd.fst x.snd.snd.snd.snd) ∧
                                                                    ((decide
                                                                            (rootFault
                                                                                (List.take
                                                                                  (if
                                                                                        (32 : Int) <
                                                                                          (↑x.snd.snd.snd.snd.length :
                                                                                            Int) then
                                                                                      (32 : Int)
                                                                                    else
                                                                                      (↑x.snd.snd.snd.snd.length :
                                                                                        Int)).toNat
                                                                                  x.snd.snd.snd.snd)
                                                                                x.snd.fst ≠
                                                                              (0 : Int)) ||
                                                                          x.snd.snd.snd.snd.any fun (x_3 : Int) =>
                                                                            !within x_3 x.snd.fst) =
                                                                        false →
                                                                      (0 : Int) =
                                                                        swapCode x.snd.fst x.snd.snd.snd.snd))) ∧
                                                      ∀ (x_3 : Int),
                                                        x_3 = swapCode x.snd.fst x.snd.snd.snd.snd →
                                                          (decide (x_3 ≠ (0 : Int)) = true →
                                                              (decide
                                                                      ((↑(rootSwapF x.fst x.snd.fst
                                                                                  x.snd.snd.snd.snd).fst.length :
                                                                          Int) =
                                                                        (0 : Int)) &&
                                                                    decide
                                                                      ((rootSwapF x.fst x.snd.fst
                                                                            x.snd.snd.snd.snd).snd =
                                                                        x_3)) =
                                                                  true ∧
                                                                True) ∧
                                                            (decide (x_3 ≠ (0 : Int)) = false →
                                                              ((decide
                                                                        ((rootSwapF x.fst x.snd.fst
                                                                              x.snd.snd.snd.snd).snd ≠
                                                                          (0 : Int)) ||
                                                                      decide
                                                                        ((↑(rootSwapF x.fst x.snd.fst
                                                                                    x.snd.snd.snd.snd).fst.length :
                                                                            Int) ≠
                                                                          (↑x.fst.length : Int))) =
                                                                    true →
                                                                  false = true ∧ True) ∧
                                                                ((decide
                                                                        ((rootSwapF x.fst x.snd.fst
                                                                              x.snd.snd.snd.snd).snd ≠
                                                                          (0 : Int)) ||
                                                                      decide
                                                                        ((↑(rootSwapF x.fst x.snd.fst
                                                                                    x.snd.snd.snd.snd).fst.length :
                                                                            Int) ≠
                                                                          (↑x.fst.length : Int))) =
                                                                    false →
                                                                  ((0 : Int) ≤ (0 : Int) ∧
                                                                      (0 : Int) ≤ (↑x.fst.length : Int)) ∧
                                                                    ∀ (x_4 : Int),
                                                                      (0 : Int) ≤ x_4 ∧ x_4 ≤ (↑x.fst.length : Int) →
                                                                        (decide (x_4 < (↑x.fst.length : Int)) = true →
                                                                            (0 : Int) ≤ x_4 ∧
                                                                              x_4 < (↑x.fst.length : Int) ∧
                                                                                (decide
                                                                                        (x.fst.getD x_4.toNat
                                                                                            (0 : Int) <
                                                                                          (0 : Int)) =
                                                                                      true →
                                                                                    (0 : Int) ≤ x_4) ∧
                                                                                  (decide
                                                                                          (x.fst.getD x_4.toNat
                                                                                              (0 : Int) <
                                                                                            (0 : Int)) =
                                                                                        true →
                                                                                      x_4 <
                                                                                        (↑(rootSwapF x.fst x.snd.fst
                                                                                                  x.snd.snd.snd.snd).fst.length :
                                                                                          Int)) ∧
                                                                                    (decide
                                                                                            (x.fst.getD x_4.toNat
                                                                                                (0 : Int) <
                                                                                              (0 : Int)) =
                                                                                          true →
                                                                                        x_4.toNat <
                                                                                          (rootSwapF x.fst x.snd.fst
                                                                                                x.snd.snd.snd.snd).fst.length) ∧
                                                                                      (decide
                                                                                              ((0 : Int) ≤
                                                                                                x.fst.getD x_4.toNat
                                                                                                  (0 : Int)) =
                                                                                            true →
                                                                                          (decide
                                                                                                  (x.fst.getD x_4.toNat
                                                                                                      (0 : Int) <
                                                                                                    (0 : Int)) &&
                                                                                                decide
                                                                                                  ((rootSwapF x.fst
                                                                                                            x.snd.fst
                                                                                                            x.snd.snd.snd.snd).fst.getD
                                                                                                      x_4.toNat
                                                                                                      (0 : Int) ≠
                                                                                                    (-1 : Int))) =
                                                                                              false →
                                                                                            (0 : Int) ≤ x_4) ∧
                                                                                        (decide
                                                                                                ((0 : Int) ≤
                                                                                                  x.fst.getD x_4.toNat
                                                                                                    (0 : Int)) =
                                                                                              true →
                                                                                            (decide
                                                                                                    (x.fst.getD
                                                                                                        x_4.toNat
                                                                                                        (0 : Int) <
                                                                                                      (0 : Int)) &&
                                                                                                  decide
                                                                                                    ((rootSwapF x.fst
                                                                                                              x.snd.fst
                                                                                                              x.snd.snd.snd.snd).fst.getD
                                                                                                        x_4.toNat
                                                                                                        (0 : Int) ≠
                                                                                                      (-1 : Int))) =
                                                                                                false →
                                                                                              x_4 <
                                                                                                (↑(rootSwapF x.fst
                                                                                                          x.snd.fst
                                                                                                          x.snd.snd.snd.snd).fst.length :
                                                                                                  Int)) ∧
                                                                                          (decide
                                                                                                  ((0 : Int) ≤
                                                                                                    x.fst.getD x_4.toNat
                                                                                                      (0 : Int)) =
                                                                                                true →
                                                                                              (decide
                                                                                                      (x.fst.getD
                                                                                                          x_4.toNat
                                                                                                          (0 : Int) <
                                                                                                        (0 : Int)) &&
                                                                                                    decide
                                                                                                      ((rootSwapF x.fst
                                                                                                                x.snd.fst
                                                                                                                x.snd.snd.snd.snd).fst.getD
                                                                                                          x_4.toNat
                                                                                                          (0 : Int) ≠
                                                                                                        (-1 : Int))) =
                                                                                                  false →
                                                                                                x_4.toNat <
                                                                                                  (rootSwapF x.fst
                                                                                                        x.snd.fst
                                                                                                        x.snd.snd.snd.snd).fst.length) ∧
                                                                                            (decide
                                                                                                    ((0 : Int) ≤
                                                                                                      x.fst.getD
                                                                                                        x_4.toNat
                                                                                                        (0 : Int)) =
                                                                                                  true →
                                                                                                (decide
                                                                                                        (x.fst.getD
                                                                                                            x_4.toNat
                                                                                                            (0 : Int) <
                                                                                                          (0 : Int)) &&
                                                                                                      decide
                                                                                                        ((rootSwapF
                                                                                                                  x.fst
                                                                                                                  x.snd.fst
                                                                                                                  x.snd.snd.snd.snd).fst.getD
                                                                                                            x_4.toNat
                                                                                                            (0 : Int) ≠
                                                                                                          (-1 : Int))) =
                                                                                                    false →
                                                                                                  (0 : Int) ≤
                                                                                                    x.fst.getD x_4.toNat
                                                                                                      (0 : Int)) ∧
                                                                                              (decide
                                                                                                      ((0 : Int) ≤
                                                                                                        x.fst.getD
                                                                                                          x_4.toNat
                                                                                                          (0 : Int)) =
                                                                                                    true →
                                                                                                  (decide
                                                                                                          (x.fst.getD
                                                                                                              x_4.toNat
                                                                                                              (0 :
                                                                                                                Int) <
                                                                                                            (0 :
                                                                                                              Int)) &&
                                                                                                        decide
                                                                                                          ((rootSwapF
                                                                                                                    x.fst
                                                                                                                    x.snd.fst
                                                                                                                    x.snd.snd.snd.snd).fst.getD
                                                                                                              x_4.toNat
                                                                                                              (0 :
                                                                                                                Int) ≠
                                                                                                            (-1 :
                                                                                                              Int))) =
                                                                                                      false →
                                                                                                    x.fst.getD x_4.toNat
                                                                                                        (0 : Int) <
                                                                                                      (↑x.snd.snd.snd.snd.length :
                                                                                                        Int)) ∧
                                                                                                ((decide
                                                                                                            (x.fst.getD
                                                                                                                x_4.toNat
                                                                                                                (0 :
                                                                                                                  Int) <
                                                                                                              (0 :
                                                                                                                Int)) &&
                                                                                                          decide
                                                                                                            ((rootSwapF
                                                                                                                      x.fst
                                                                                                                      x.snd.fst
                                                                                                                      x.snd.snd.snd.snd).fst.getD
                                                                                                                x_4.toNat
                                                                                                                (0 :
                                                                                                                  Int) ≠
                                                                                                              (-1 :
                                                                                                                Int)) ||
                                                                                                        decide
                                                                                                            ((0 : Int) ≤
                                                                                                              x.fst.getD
                                                                                                                x_4.toNat
                                                                                                                (0 :
                                                                                                                  Int)) &&
                                                                                                          decide
                                                                                                            ((rootSwapF
                                                                                                                      x.fst
                                                                                                                      x.snd.fst
                                                                                                                      x.snd.snd.snd.snd).fst.getD
                                                                                                                x_4.toNat
                                                                                                                (0 :
                                                                                                                  Int) ≠
                                                                                                              x.snd.snd.snd.snd.getD
                                                                                                                (x.fst.getD
                                                                                                                    x_4.toNat
                                                                                                                    (0 :
                                                                                                                      Int)).toNat
                                                                                                                (0 :
                                                                                                                  Int))) =
                                                                                                      true →
                                                                                                    false = true ∧
                                                                                                      True) ∧
                                                                                                  ((decide
                                                                                                            (x.fst.getD
                                                                                                                x_4.toNat
                                                                                                                (0 :
                                                                                                                  Int) <
                                                                                                              (0 :
                                                                                                                Int)) &&
                                                                                                          decide
                                                                                                            ((rootSwapF
                                                                                                                      x.fst
                                                                                                                      x.snd.fst
                                                                                                                      x.snd.snd.snd.snd).fst.getD
                                                                                                                x_4.toNat
                                                                                                                (0 :
                                                                                                                  Int) ≠
                                                                                                              (-1 :
                                                                                                                Int)) ||
                                                                                                        decide
                                                                                                            ((0 : Int) ≤
                                                                                                              x.fst.getD
                                                                                                                x_4.toNat
                                                                                                                (0 :
                                                                                                                  Int)) &&
                                                                                                          decide
                                                                                                            ((rootSwapF
                                                                                                                      x.fst
                                                                                                                      x.snd.fst
                                                                                                                      x.snd.snd.snd.snd).fst.getD
                                                                                                                x_4.toNat
                                                                                                                (0 :
                                                                                                                  Int) ≠
                                                                                                              x.snd.snd.snd.snd.getD
                                                                                                                (x.fst.getD
                                                                                                                    x_4.toNat
                                                                                                                    (0 :
                                                                                                                      Int)).toNat
                                                                                                                (0 :
                                                                                                                  Int))) =
                                                                                                      false →
                                                                                                    InR IntKind.i64
                                                                                                        (x_4 +
                                                                                                          (1 : Int)) ∧
                                                                                                      ((0 : Int) ≤
                                                                                                            x_4 +
                                                                                                              (1 :
                                                                                                                Int) ∧
                                                                                                          x_4 +
                                                                                                              (1 :
                                                                                                                Int) ≤
                                                                                                            (↑x.fst.length :
                                                                                                              Int)) ∧
                                                                                                        ((↑x.fst.length :
                                                                                                                Int) -
                                                                                                              (x_4 +
                                                                                                                (1 :
                                                                                                                  Int))).toNat <
                                                                                                          ((↑x.fst.length :
                                                                                                                Int) -
                                                                                                              x_4).toNat)) ∧
                                                                          (decide (x_4 < (↑x.fst.length : Int)) =
                                                                              false →
                                                                            true = true ∧ True))))))))
theorem vcp_lawRootTells : pv_lawRootTells := by
  unfold pv_lawRootTells
  intro ⟨r, n, slot, v, to⟩ ⟨⟨hb, hr⟩, hn, hsl, hv, hb2, hto⟩ _
  unfold big at hb hb2
  simp only at *
  refine ⟨trivial, trivial, trivial, trivial, trivial, fun h => absurd rfl (of_decide_eq_true h), fun _ => ⟨fun he => ?_, fun he => ?_⟩⟩
  · have he := of_decide_eq_true he
    have e1 : rootSetF r n slot v = ([], rootFault r n) := by unfold rootSetF; rw [if_pos he]
    have e2 : rootNamedF r n = ([], rootFault r n) := by unfold rootNamedF; rw [if_pos he]
    have e3 : rootSwapF r n to = ([], rootFault r n) := by unfold rootSwapF; rw [if_pos he]
    rw [e1, e2, e3]
    simp [InR]
  have he : rootFault r n = 0 := Classical.byContradiction (of_decide_eq_false he)
  have e2 : rootNamedF r n = (risingL r 256, 0) := by unfold rootNamedF; rw [if_neg (by omega), named_rising he]
  have ha := rootFault_any he
  have hrw : ∀ x ∈ r, -1 ≤ x ∧ x < n := fun x hx => withinI ha hx
  have hn2 : 0 ≤ n ∧ n ≤ 256 := by
    unfold rootFault at he
    split at he <;> omega
  obtain ⟨f1, f2, f3⟩ := setF_is slot v he
  obtain ⟨g1, g2, g3⟩ := swapF_is to he
  rw [e2]
  generalize rootSetF r n slot v = A at *
  generalize rootSwapF r n to = B at *
  refine ⟨fun _ => trivial, fun _ => trivial, fun h => by simp at h, fun _ => ⟨⟨fun h => ?_, fun h => ⟨fun h2 => ?_, fun h2 => ?_⟩⟩, fun c hc => ⟨fun h => ?_, fun _ => ⟨⟨by omega, by omega⟩, fun i ⟨i0, i1⟩ => ⟨fun hlt => ?_, fun hge => ?_⟩⟩⟩⟩⟩
  · simp only [setCode]; grind
  · simp only [setCode, within]; grind
  · simp only [setCode, within]; grind
  · subst hc
    rw [f1] at h
    by_cases hz : setCode r n slot v = 0
    · simp [hz] at h
    · rw [f2 hz] at h
      simp at h
  · have hlt := of_decide_eq_true hlt
    subst hc
    refine ⟨fun _ _ _ => i0, fun _ _ hz => ?_, fun _ _ hz => ?_, fun _ _ _ => i0, fun _ _ hz => ?_, fun _ _ hz => ?_, fun _ _ _ => i0, fun _ _ hz => ?_, fun h => ?_, fun _ => ⟨by simp only [InR]; omega, ⟨by omega, by omega⟩, by omega⟩⟩
    · have := (f3 (of_decide_eq_true hz)).1; omega
    · have := (f3 (of_decide_eq_true hz)).1; omega
    · have := (f3 (of_decide_eq_true hz)).1; omega
    · have := (f3 (of_decide_eq_true hz)).1; omega
    · omega
    · simp only [Bool.and_eq_true, decide_eq_true_eq] at h
      obtain ⟨hz, h⟩ := h
      obtain ⟨k1, k2⟩ := f3 hz
      rw [k2 i i0 hlt, k1] at h
      split at h <;> simp_all
  · refine ⟨⟨fun h => ?_, fun h => ⟨by split <;> omega, by split <;> omega, trivial, fun _ _ _ => trivial, fun h2 => ?_, fun h2 => ?_⟩⟩, fun c2 hc2 => ⟨fun h => ?_, fun h => ⟨fun h2 => ?_, fun _ => ⟨⟨by omega, by omega⟩, fun i ⟨i0, i1⟩ => ⟨fun hlt => ?_, fun _ => ⟨trivial, trivial⟩⟩⟩⟩⟩⟩
    · unfold swapCode
      rw [if_pos (of_decide_eq_true h)]
    · unfold swapCode
      rw [if_neg (of_decide_eq_false h)]
      rw [if_pos]
      simp only [Bool.or_eq_true] at h2
      rcases h2 with h2 | h2
      · exact fault_take (of_decide_eq_true h2) hn2
      · exact h2
    · unfold swapCode
      rw [if_neg (of_decide_eq_false h)]
      rw [if_neg]
      have := ((Bool.or_eq_false_iff).1 h2).2
      rw [this]
      simp
    · subst hc2
      have h := of_decide_eq_true h
      rw [g1, g2 h]
      simp
    · subst hc2
      have h : swapCode n to = 0 := Classical.byContradiction (of_decide_eq_false h)
      obtain ⟨k1, k2, k3⟩ := g3 h
      rw [g1, h, k1] at h2
      simp at h2
    · subst hc2
      have h : swapCode n to = 0 := Classical.byContradiction (of_decide_eq_false h)
      obtain ⟨k1, k2, k3⟩ := g3 h
      have hlt := of_decide_eq_true hlt
      have hm := hrw _ (getD_mem (0 : Int) i0 hlt)
      have k3 := k3 i i0 hlt
      rw [k1, k3]
      refine ⟨i0, hlt, fun _ => i0, fun _ => hlt, fun _ => by omega, fun _ _ => i0, fun _ _ => hlt, fun _ _ => by omega, fun h _ => of_decide_eq_true h, fun _ _ => by omega, fun h => ?_, fun _ => ⟨by simp only [InR]; omega, ⟨by omega, by omega⟩, by omega⟩⟩
      unfold swapI at h
      generalize r.getD i.toNat 0 = y at *
      by_cases h0 : 0 ≤ y
      · rw [if_pos h0, decide_eq_false (show ¬ y < 0 by omega)] at h
        simp at h
      · rw [if_neg h0, decide_eq_false h0, decide_eq_false (show ¬ y ≠ -1 by omega)] at h
        simp at h
theorem e_lawRootTells : pv_lawRootTells = fnVC Try.prog (tbl [(69, sp_rootSet), (70, sp_rootNamed), (71, sp_rootSwap), (72, sp_rRoots), (73, sp_rootCheck), (68, sp_rRising), (20, sp_eqInts), (74, sp_anyI), (75, sp_rootC4)]) an_lawRoot Try.f10 sp_lawRootTells := by kernel_rfl
theorem vc_lawRootTells : fnVC Try.prog (tbl [(69, sp_rootSet), (70, sp_rootNamed), (71, sp_rootSwap), (72, sp_rRoots), (73, sp_rootCheck), (68, sp_rRising), (20, sp_eqInts), (74, sp_anyI), (75, sp_rootC4)]) an_lawRoot Try.f10 sp_lawRootTells := @Eq.mp _ _ @e_lawRootTells @vcp_lawRootTells
theorem ok_lawRootTells : sp_lawRootTells.ok Try.prog 10 := fn_sound (P := Try.prog) (ss := tbl [(69, sp_rootSet), (70, sp_rootNamed), (71, sp_rootSwap), (72, sp_rRoots), (73, sp_rootCheck), (68, sp_rRising), (20, sp_eqInts), (74, sp_anyI), (75, sp_rootC4)]) (ann := an_lawRoot) (f := 10) (fn := Try.f10) (s := sp_lawRootTells) (tbl_cons ok_rootSet (tbl_cons ok_rootNamed (tbl_cons ok_rootSwap (tbl_cons ok_rRoots (tbl_cons ok_rootCheck (tbl_cons ok_rRising (tbl_cons ok_eqInts (tbl_cons ok_anyI (tbl_cons ok_rootC4 tbl_nil))))))))) Try.func10 @vc_lawRootTells
