/- The numbers of package api. -/
import Derived.Test.YtjkmfgneonifeaaSlices
namespace Go.Proofs.Ytjkmfgneonifeaa
open Go
set_option maxRecDepth 100000
set_option maxHeartbeats 1000000

def an_names : Nat → Option LoopGen
  | 3 => some { rd := [], A := fun _ => { cs := [.dat 9 ty_I], inv := fun (i : Int) => 0 ≤ i ∧ i ≤ 10, mu := fun (i : Int) => (10 - i).toNat } }
  | 10 => some { rd := [], A := fun _ => { cs := [.dat 22 ty_I], inv := fun (i : Int) => 0 ≤ i ∧ i ≤ 13, mu := fun (i : Int) => (13 - i).toNat } }
  | _ => none
def sp_lawNames : Spec := sp_law []
def pv_lawNames : Prop :=
    ∀ (x : Unit),
  True →
    True →
      ((0 : Int) ≤ (0 : Int) ∧ (0 : Int) ≤ (10 : Int)) ∧
        ∀ (x : Int),
          (0 : Int) ≤ x ∧ x ≤ (10 : Int) →
            (decide
                    (x <
                      (↑[(0 : Int), (1 : Int), (2 : Int), (3 : Int), (4 : Int), (5 : Int), (6 : Int), (7 : Int),
                              (8 : Int), (9 : Int)].length :
                        Int)) =
                  true →
                (0 : Int) ≤ x ∧
                  x <
                      (↑[(0 : Int), (1 : Int), (2 : Int), (3 : Int), (4 : Int), (5 : Int), (6 : Int), (7 : Int),
                              (8 : Int), (9 : Int)].length :
                        Int) ∧
                    x.toNat <
                        [(0 : Int), (1 : Int), (2 : Int), (3 : Int), (4 : Int), (5 : Int), (6 : Int), (7 : Int),
                            (8 : Int), (9 : Int)].length ∧
                      (decide
                              ([(0 : Int), (1 : Int), (2 : Int), (3 : Int), (4 : Int), (5 : Int), (6 : Int), (7 : Int),
                                      (8 : Int), (9 : Int)].getD
                                  x.toNat (0 : Int) ≠
                                x) =
                            true →
                          false = true ∧ True) ∧
                        (decide
                              ([(0 : Int), (1 : Int), (2 : Int), (3 : Int), (4 : Int), (5 : Int), (6 : Int), (7 : Int),
                                      (8 : Int), (9 : Int)].getD
                                  x.toNat (0 : Int) ≠
                                x) =
                            false →
                          InR IntKind.i64 (x + (1 : Int)) ∧
                            ((0 : Int) ≤ x + (1 : Int) ∧ x + (1 : Int) ≤ (10 : Int)) ∧
                              ((10 : Int) - (x + (1 : Int))).toNat < ((10 : Int) - x).toNat)) ∧
              (decide
                    (x <
                      (↑[(0 : Int), (1 : Int), (2 : Int), (3 : Int), (4 : Int), (5 : Int), (6 : Int), (7 : Int),
                              (8 : Int), (9 : Int)].length :
                        Int)) =
                  false →
                ((0 : Int) ≤ (0 : Int) ∧ (0 : Int) ≤ (13 : Int)) ∧
                  ∀ (x : Int),
                    (0 : Int) ≤ x ∧ x ≤ (13 : Int) →
                      (decide
                              (x <
                                (↑[(1 : Int), (2 : Int), (3 : Int), (4 : Int), (5 : Int), (6 : Int), (7 : Int),
                                        (8 : Int), (9 : Int), (10 : Int), (11 : Int), (12 : Int), (13 : Int)].length :
                                  Int)) =
                            true →
                          (0 : Int) ≤ x ∧
                            x <
                                (↑[(1 : Int), (2 : Int), (3 : Int), (4 : Int), (5 : Int), (6 : Int), (7 : Int),
                                        (8 : Int), (9 : Int), (10 : Int), (11 : Int), (12 : Int), (13 : Int)].length :
                                  Int) ∧
                              x.toNat <
                                  [(1 : Int), (2 : Int), (3 : Int), (4 : Int), (5 : Int), (6 : Int), (7 : Int),
                                      (8 : Int), (9 : Int), (10 : Int), (11 : Int), (12 : Int), (13 : Int)].length ∧
                                InR IntKind.i64 (x + (1 : Int)) ∧
                                  (decide
                                          ([(1 : Int), (2 : Int), (3 : Int), (4 : Int), (5 : Int), (6 : Int), (7 : Int),
                                                  (8 : Int), (9 : Int), (10 : Int), (11 : Int), (12 : Int),
                                                  (13 : Int)].getD
                                              x.toNat (0 : Int) ≠
                                            x + (1 : Int)) =
                                        true →
                                      false = true ∧ True) ∧
                                    (decide
                                          ([(1 : Int), (2 : Int), (3 : Int), (4 : Int), (5 : Int), (6 : Int), (7 : Int),
                                                  (8 : Int), (9 : Int), (10 : Int), (11 : Int), (12 : Int),
                                                  (13 : Int)].getD
                                              x.toNat (0 : Int) ≠
                                            x + (1 : Int)) =
                                        false →
                                      InR IntKind.i64 (x + (1 : Int)) ∧
                                        ((0 : Int) ≤ x + (1 : Int) ∧ x + (1 : Int) ≤ (13 : Int)) ∧
                                          ((13 : Int) - (x + (1 : Int))).toNat < ((13 : Int) - x).toNat)) ∧
                        (decide
                              (x <
                                (↑[(1 : Int), (2 : Int), (3 : Int), (4 : Int), (5 : Int), (6 : Int), (7 : Int),
                                        (8 : Int), (9 : Int), (10 : Int), (11 : Int), (12 : Int), (13 : Int)].length :
                                  Int)) =
                            false →
                          True ∧
                            decide
                                  ([(256 : Int), (32 : Int), (16 : Int), (1000000 : Int), (16 : Int), (65535 : Int),
                                      (32 : Int), (200 : Int), (100 : Int), (16 : Int), (60 : Int)] =
                                    [(256 : Int), (32 : Int), (16 : Int), (1000000 : Int), (16 : Int), (65535 : Int),
                                      (32 : Int), (200 : Int), (100 : Int), (16 : Int), (60 : Int)]) =
                                true ∧
                              True))
theorem vcp_lawNames : pv_lawNames := by
  unfold pv_lawNames
  have k1 : ∀ i : Nat, i < 10 → [(0 : Int), 1, 2, 3, 4, 5, 6, 7, 8, 9].getD i 0 = (i : Int) := by decide
  have k2 : ∀ i : Nat, i < 13 → [(1 : Int), 2, 3, 4, 5, 6, 7, 8, 9, 10, 11, 12, 13].getD i 0 = (i : Int) + 1 := by decide
  have c1 : ((([0, 1, 2, 3, 4, 5, 6, 7, 8, 9] : List Int).length : Nat) : Int) = 10 := by decide
  have c2 : ((([1, 2, 3, 4, 5, 6, 7, 8, 9, 10, 11, 12, 13] : List Int).length : Nat) : Int) = 13 := by decide
  intro _ _ _
  refine ⟨by omega, ?_⟩
  intro x hx
  rw [c1, c2]
  refine ⟨fun h => ?_, fun h => ?_⟩
  · have h1 := of_decide_eq_true h
    have hk := k1 x.toNat (by omega)
    rw [hk]
    refine ⟨by omega, by omega, by simp; omega, ?_, ?_⟩
    · intro h2; have := of_decide_eq_true h2; omega
    · intro _
      refine ⟨?_, by omega, by omega⟩
      grind [InR]
  · refine ⟨by omega, ?_⟩
    intro x hx
    refine ⟨fun h => ?_, fun _ => ?_⟩
    · have h1 := of_decide_eq_true h
      have hk := k2 x.toNat (by omega)
      rw [hk]
      refine ⟨by omega, by omega, by simp; omega, ?_, ?_, ?_⟩
      · grind [InR]
      · intro h2; have := of_decide_eq_true h2; omega
      · intro _
        refine ⟨?_, by omega, by omega⟩
        grind [InR]
    · exact ⟨trivial, by decide, trivial⟩
theorem e_lawNames : pv_lawNames = fnVC Try.prog (tbl [(12, sp_eqInts)]) an_names Try.f3 sp_lawNames := by kernel_rfl
theorem vc_lawNames : fnVC Try.prog (tbl [(12, sp_eqInts)]) an_names Try.f3 sp_lawNames := @Eq.mp _ _ @e_lawNames @vcp_lawNames
theorem ok_lawNames : sp_lawNames.ok Try.prog 3 := fn_sound (P := Try.prog) (ss := tbl [(12, sp_eqInts)]) (ann := an_names) (f := 3) (fn := Try.f3) (s := sp_lawNames) (tbl_cons ok_eqInts tbl_nil) Try.func3 @vc_lawNames

end Go.Proofs.Ytjkmfgneonifeaa
