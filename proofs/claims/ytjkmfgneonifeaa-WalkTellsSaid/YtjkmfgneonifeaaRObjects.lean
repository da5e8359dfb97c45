/- Contracts of what the reference says of arenas: ArenaFault, ObjectsOf, SameObjects; slices.Equal on spots. -/
import Derived.Test.YtjkmfgneonifeaaRArena
namespace Go.Proofs.Ytjkmfgneonifeaa
open Go
set_option maxRecDepth 100000
set_option maxHeartbeats 1000000

def sp_rSameInts : Spec := { Ts := [.arr ty_I, .arr ty_I], Rs := [.dat .bool], pre := fun _ => True, F := fun (x : List Int × List Int) => decide (x.1 = x.2) }
def an_rSameInts : Nat → Option LoopGen
  | 4 => some { rd := [.dat 0 (.arr ty_I), .dat 1 (.arr ty_I)], A := fun (g : List Int × List Int) => { cs := [.dat 13 ty_I], inv := fun (i : Int) => g.1.length = g.2.length ∧ 0 ≤ i ∧ i ≤ g.1.length ∧ g.1.take i.toNat = g.2.take i.toNat, mu := fun (i : Int) => (g.1.length - i).toNat } }
  | _ => none
def pv_rSameInts : Prop :=
    ∀ (x : List Int × List Int),
  ((x.fst.length * (8 : Nat) ≤ big ∧ ∀ (x_1 : Int), x_1 ∈ x.fst → InR IntKind.i64 x_1) ∧
      x.snd.length * (8 : Nat) ≤ big ∧ ∀ (x_1 : Int), x_1 ∈ x.snd → InR IntKind.i64 x_1) →
    True →
      (decide ((↑x.fst.length : Int) ≠ (↑x.snd.length : Int)) = true → false = decide (x.fst = x.snd) ∧ True) ∧
        (decide ((↑x.fst.length : Int) ≠ (↑x.snd.length : Int)) = false →
          (x.fst.length = x.snd.length ∧
              (0 : Int) ≤ (0 : Int) ∧
                (0 : Int) ≤ (↑x.fst.length : Int) ∧
                  List.take (Int.toNat (0 : Int)) x.fst = List.take (Int.toNat (0 : Int)) x.snd) ∧
            ∀ (x_1 : Int),
              x.fst.length = x.snd.length ∧
                  (0 : Int) ≤ x_1 ∧
                    x_1 ≤ (↑x.fst.length : Int) ∧ List.take x_1.toNat x.fst = List.take x_1.toNat x.snd →
                (decide (x_1 < (↑x.fst.length : Int)) = true →
                    (0 : Int) ≤ x_1 ∧
                      x_1 < (↑x.fst.length : Int) ∧
                        (0 : Int) ≤ x_1 ∧
                          x_1 < (↑x.snd.length : Int) ∧
                            (decide (x.fst.getD x_1.toNat (0 : Int) ≠ x.snd.getD x_1.toNat (0 : Int)) = true →
                                false = decide (x.fst = x.snd) ∧ True) ∧
                              (decide (x.fst.getD x_1.toNat (0 : Int) ≠ x.snd.getD x_1.toNat (0 : Int)) = false →
                                InR IntKind.i64 (x_1 + (1 : Int)) ∧
                                  (x.fst.length = x.snd.length ∧
                                      (0 : Int) ≤ x_1 + (1 : Int) ∧
                                        x_1 + (1 : Int) ≤ (↑x.fst.length : Int) ∧
                                          List.take (x_1 + (1 : Int)).toNat x.fst =
                                            List.take (x_1 + (1 : Int)).toNat x.snd) ∧
                                    ((↑x.fst.length : Int) - (x_1 + (1 : Int))).toNat <
                                      ((↑x.fst.length : Int) - x_1).toNat)) ∧
                  (decide (x_1 < (↑x.fst.length : Int)) = false → true = decide (x.fst = x.snd) ∧ True))
theorem vcp_rSameInts : pv_rSameInts := by
  unfold pv_rSameInts
  intro x hw _
  refine ⟨fun h => ?_, fun h => ?_⟩
  · have h : x.1.length ≠ x.2.length := by have := of_decide_eq_true h; omega
    have : x.1 ≠ x.2 := fun e => h (by rw [e])
    simp [this]
  have hl : x.1.length = x.2.length := by have := of_decide_eq_false h; omega
  refine ⟨⟨hl, by omega, by omega, by simp⟩, fun i ⟨_, h0, h1, ht⟩ => ⟨fun hlt => ?_, fun hge => ?_⟩⟩
  · have hlt : i < x.1.length := by simpa using hlt
    refine ⟨h0, hlt, h0, by omega, fun hne => ?_, fun he => ?_⟩
    · have hne : x.1.getD i.toNat 0 ≠ x.2.getD i.toNat 0 := by simpa using hne
      have : x.1 ≠ x.2 := fun e => hne (by rw [e])
      simp [this]
    · have he : x.1.getD i.toNat 0 = x.2.getD i.toNat 0 := by simpa using he
      have hb := hw.1.1
      unfold big at hb
      refine ⟨by simp only [InR]; omega, ⟨hl, by omega, by omega, ?_⟩, by omega⟩
      rw [show (i + 1).toNat = i.toNat + 1 by omega]
      exact take_step hl (by omega) ht he
  · have hge : ¬ i < x.1.length := by simpa using hge
    have hi : i.toNat = x.1.length := by omega
    rw [hi, List.take_of_length_le (Nat.le_refl _), List.take_of_length_le (by omega)] at ht
    simp [ht]
theorem e_rSameInts : pv_rSameInts = fnVC Try.prog (tbl []) an_rSameInts Try.f90 sp_rSameInts := by kernel_rfl
theorem vc_rSameInts : fnVC Try.prog (tbl []) an_rSameInts Try.f90 sp_rSameInts := @Eq.mp _ _ @e_rSameInts @vcp_rSameInts
theorem ok_rSameInts : sp_rSameInts.ok Try.prog 90 := fn_sound (P := Try.prog) (ss := tbl []) (ann := an_rSameInts) (f := 90) (fn := Try.f90) (s := sp_rSameInts) tbl_nil Try.func90 @vc_rSameInts

def sp_rSameWords : Spec := { Ts := [.arr ty_W, .arr ty_W], Rs := [.dat .bool], pre := fun _ => True, F := fun (x : List Int × List Int) => decide (x.1 = x.2) }
def an_rSameWords : Nat → Option LoopGen
  | 4 => some { rd := [.dat 0 (.arr ty_W), .dat 1 (.arr ty_W)], A := fun (g : List Int × List Int) => { cs := [.dat 13 ty_I], inv := fun (i : Int) => g.1.length = g.2.length ∧ 0 ≤ i ∧ i ≤ g.1.length ∧ g.1.take i.toNat = g.2.take i.toNat, mu := fun (i : Int) => (g.1.length - i).toNat } }
  | _ => none
def pv_rSameWords : Prop :=
    ∀ (x : List Int × List Int),
  ((x.fst.length * (8 : Nat) ≤ big ∧ ∀ (x_1 : Int), x_1 ∈ x.fst → InR IntKind.u64 x_1) ∧
      x.snd.length * (8 : Nat) ≤ big ∧ ∀ (x_1 : Int), x_1 ∈ x.snd → InR IntKind.u64 x_1) →
    True →
      (decide ((↑x.fst.length : Int) ≠ (↑x.snd.length : Int)) = true → false = decide (x.fst = x.snd) ∧ True) ∧
        (decide ((↑x.fst.length : Int) ≠ (↑x.snd.length : Int)) = false →
          (x.fst.length = x.snd.length ∧
              (0 : Int) ≤ (0 : Int) ∧
                (0 : Int) ≤ (↑x.fst.length : Int) ∧
                  List.take (Int.toNat (0 : Int)) x.fst = List.take (Int.toNat (0 : Int)) x.snd) ∧
            ∀ (x_1 : Int),
              x.fst.length = x.snd.length ∧
                  (0 : Int) ≤ x_1 ∧
                    x_1 ≤ (↑x.fst.length : Int) ∧ List.take x_1.toNat x.fst = List.take x_1.toNat x.snd →
                (decide (x_1 < (↑x.fst.length : Int)) = true →
                    (0 : Int) ≤ x_1 ∧
                      x_1 < (↑x.fst.length : Int) ∧
                        (0 : Int) ≤ x_1 ∧
                          x_1 < (↑x.snd.length : Int) ∧
                            (decide (x.fst.getD x_1.toNat (0 : Int) ≠ x.snd.getD x_1.toNat (0 : Int)) = true →
                                false = decide (x.fst = x.snd) ∧ True) ∧
                              (decide (x.fst.getD x_1.toNat (0 : Int) ≠ x.snd.getD x_1.toNat (0 : Int)) = false →
                                InR IntKind.i64 (x_1 + (1 : Int)) ∧
                                  (x.fst.length = x.snd.length ∧
                                      (0 : Int) ≤ x_1 + (1 : Int) ∧
                                        x_1 + (1 : Int) ≤ (↑x.fst.length : Int) ∧
                                          List.take (x_1 + (1 : Int)).toNat x.fst =
                                            List.take (x_1 + (1 : Int)).toNat x.snd) ∧
                                    ((↑x.fst.length : Int) - (x_1 + (1 : Int))).toNat <
                                      ((↑x.fst.length : Int) - x_1).toNat)) ∧
                  (decide (x_1 < (↑x.fst.length : Int)) = false → true = decide (x.fst = x.snd) ∧ True))
theorem vcp_rSameWords : pv_rSameWords := by
  unfold pv_rSameWords
  intro x hw _
  refine ⟨fun h => ?_, fun h => ?_⟩
  · have h : x.1.length ≠ x.2.length := by have := of_decide_eq_true h; omega
    have : x.1 ≠ x.2 := fun e => h (by rw [e])
    simp [this]
  have hl : x.1.length = x.2.length := by have := of_decide_eq_false h; omega
  refine ⟨⟨hl, by omega, by omega, by simp⟩, fun i ⟨_, h0, h1, ht⟩ => ⟨fun hlt => ?_, fun hge => ?_⟩⟩
  · have hlt : i < x.1.length := by simpa using hlt
    refine ⟨h0, hlt, h0, by omega, fun hne => ?_, fun he => ?_⟩
    · have hne : x.1.getD i.toNat 0 ≠ x.2.getD i.toNat 0 := by simpa using hne
      have : x.1 ≠ x.2 := fun e => hne (by rw [e])
      simp [this]
    · have he : x.1.getD i.toNat 0 = x.2.getD i.toNat 0 := by simpa using he
      have hb := hw.1.1
      unfold big at hb
      refine ⟨by simp only [InR]; omega, ⟨hl, by omega, by omega, ?_⟩, by omega⟩
      rw [show (i + 1).toNat = i.toNat + 1 by omega]
      exact take_step hl (by omega) ht he
  · have hge : ¬ i < x.1.length := by simpa using hge
    have hi : i.toNat = x.1.length := by omega
    rw [hi, List.take_of_length_le (Nat.le_refl _), List.take_of_length_le (by omega)] at ht
    simp [ht]
theorem e_rSameWords : pv_rSameWords = fnVC Try.prog (tbl []) an_rSameWords Try.f91 sp_rSameWords := by kernel_rfl
theorem vc_rSameWords : fnVC Try.prog (tbl []) an_rSameWords Try.f91 sp_rSameWords := @Eq.mp _ _ @e_rSameWords @vcp_rSameWords
theorem ok_rSameWords : sp_rSameWords.ok Try.prog 91 := fn_sound (P := Try.prog) (ss := tbl []) (ann := an_rSameWords) (f := 91) (fn := Try.f91) (s := sp_rSameWords) tbl_nil Try.func91 @vc_rSameWords

theorem obj_ne (a b : Obj) : (decide (a.1 ≠ b.1) || !a.2.2.2 == b.2.2.2 || !decide (a.2.1 = b.2.1) || !decide (a.2.2.1 = b.2.2.1)) = decide (a ≠ b) := by
  obtain ⟨a1, a2, a3, a4⟩ := a
  obtain ⟨b1, b2, b3, b4⟩ := b
  apply Bool.eq_iff_iff.2
  simp only [Bool.or_eq_true, decide_eq_true_eq, Bool.not_eq_true', beq_eq_false_iff_ne, decide_eq_false_iff_not, ne_eq, Prod.mk.injEq]
  grind

theorem spot_ne (a b : Spot) : (!(decide (a.1 = b.1) && (decide (a.2.1 = b.2.1) && (decide (a.2.2.1 = b.2.2.1) && (decide (a.2.2.2.1 = b.2.2.2.1) && a.2.2.2.2 == b.2.2.2.2))))) = decide (a ≠ b) := by
  obtain ⟨a1, a2, a3, a4, a5⟩ := a
  obtain ⟨b1, b2, b3, b4, b5⟩ := b
  apply Bool.eq_iff_iff.2
  simp only [Bool.and_eq_true, Bool.not_eq_true', Bool.and_eq_false_iff, decide_eq_true_eq, decide_eq_false_iff_not, beq_eq_false_iff_ne, ne_eq, Prod.mk.injEq]
  grind

def sp_rSameObjects : Spec := { Ts := [.arr ty_Obj, .arr ty_Obj], Rs := [.dat .bool], pre := fun _ => True, F := fun (x : List Obj × List Obj) => decide (x.1 = x.2) }
def an_rSameObjects : Nat → Option LoopGen
  | 4 => some { rd := [.dat 13 (.arr ty_Obj), .dat 1 (.arr ty_Obj)], A := fun (g : List Obj × List Obj) => { cs := [.dat 15 ty_I], inv := fun (i : Int) => g.1.length = g.2.length ∧ 0 ≤ i ∧ i ≤ g.1.length ∧ g.1.take i.toNat = g.2.take i.toNat, mu := fun (i : Int) => (g.1.length - i).toNat } }
  | _ => none
def pv_rSameObjects : Prop :=
    ∀ (x : List (Int × List Int × List Int × Bool) × List (Int × List Int × List Int × Bool)),
  ((x.fst.length * ((8 : Nat) + ((24 : Nat) + ((24 : Nat) + (8 : Nat)))) ≤ big ∧
        ∀ (x_1 : Int × List Int × List Int × Bool),
          x_1 ∈ x.fst →
            InR IntKind.i64 x_1.fst ∧
              (x_1.snd.fst.length * (8 : Nat) ≤ big ∧ ∀ (x : Int), x ∈ x_1.snd.fst → InR IntKind.i64 x) ∧
                (x_1.snd.snd.fst.length * (8 : Nat) ≤ big ∧ ∀ (x : Int), x ∈ x_1.snd.snd.fst → InR IntKind.u64 x) ∧
                  True) ∧
      x.snd.length * ((8 : Nat) + ((24 : Nat) + ((24 : Nat) + (8 : Nat)))) ≤ big ∧
        ∀ (x_1 : Int × List Int × List Int × Bool),
          x_1 ∈ x.snd →
            InR IntKind.i64 x_1.fst ∧
              (x_1.snd.fst.length * (8 : Nat) ≤ big ∧ ∀ (x : Int), x ∈ x_1.snd.fst → InR IntKind.i64 x) ∧
                (x_1.snd.snd.fst.length * (8 : Nat) ≤ big ∧ ∀ (x : Int), x ∈ x_1.snd.snd.fst → InR IntKind.u64 x) ∧
                  True) →
    True →
      (decide ((↑x.fst.length : Int) ≠ (↑x.snd.length : Int)) = true → false = decide (x.fst = x.snd) ∧ True) ∧
        (decide ((↑x.fst.length : Int) ≠ (↑x.snd.length : Int)) = false →
          (x.fst.length = x.snd.length ∧
              (0 : Int) ≤ (0 : Int) ∧
                (0 : Int) ≤ (↑x.fst.length : Int) ∧
                  List.take (Int.toNat (0 : Int)) x.fst = List.take (Int.toNat (0 : Int)) x.snd) ∧
            ∀ (x_1 : Int),
              x.fst.length = x.snd.length ∧
                  (0 : Int) ≤ x_1 ∧
                    x_1 ≤ (↑x.fst.length : Int) ∧ List.take x_1.toNat x.fst = List.take x_1.toNat x.snd →
                (decide (x_1 < (↑x.fst.length : Int)) = true →
                    (0 : Int) ≤ x_1 ∧
                      x_1 < (↑x.fst.length : Int) ∧
                        (0 : Int) ≤ x_1 ∧
                          x_1 < (↑x.snd.length : Int) ∧
                            ((decide
                                      ((x.fst.getD x_1.toNat ((0 : Int), ([] : List Int), ([] : List Int), false)).fst ≠
                                        (x.snd.getD x_1.toNat
                                            ((0 : Int), ([] : List Int), ([] : List Int), false)).fst) ||
                                    !(x.fst.getD x_1.toNat
                                                ((0 : Int), ([] : List Int), ([] : List Int), false)).snd.snd.snd ==
                                        (x.snd.getD x_1.toNat
                                                ((0 : Int), ([] : List Int), ([] : List Int), false)).snd.snd.snd) =
                                  false →
                                True) ∧
                              ((decide
                                          ((x.fst.getD x_1.toNat
                                                ((0 : Int), ([] : List Int), ([] : List Int), false)).fst ≠
                                            (x.snd.getD x_1.toNat
                                                ((0 : Int), ([] : List Int), ([] : List Int), false)).fst) ||
                                        !(x.fst.getD x_1.toNat
                                                    ((0 : Int), ([] : List Int), ([] : List Int), false)).snd.snd.snd ==
                                            (x.snd.getD x_1.toNat
                                                    ((0 : Int), ([] : List Int), ([] : List Int), false)).snd.snd.snd ||
                                      !decide
                                          ((x.fst.getD x_1.toNat
                                                  ((0 : Int), ([] : List Int), ([] : List Int), false)).snd.fst =
                                            (x.snd.getD x_1.toNat
                                                  ((0 : Int), ([] : List Int), ([] : List Int), false)).snd.fst)) =
                                    false →
                                  True) ∧
                                ((decide
                                              ((x.fst.getD x_1.toNat
                                                    ((0 : Int), ([] : List Int), ([] : List Int), false)).fst ≠
                                                (x.snd.getD x_1.toNat
                                                    ((0 : Int), ([] : List Int), ([] : List Int), false)).fst) ||
                                            !(x.fst.getD x_1.toNat
                                                        ((0 : Int), ([] : List Int), ([] : List Int),
                                                          false)).snd.snd.snd ==
                                                (x.snd.getD x_1.toNat
                                                        ((0 : Int), ([] : List Int), ([] : List Int),
                                                          false)).snd.snd.snd ||
                                          !decide
                                              ((x.fst.getD x_1.toNat
                                                      ((0 : Int), ([] : List Int), ([] : List Int), false)).snd.fst =
                                                (x.snd.getD x_1.toNat
                                                      ((0 : Int), ([] : List Int), ([] : List Int), false)).snd.fst) ||
                                        !decide
                                            ((x.fst.getD x_1.toNat
                                                      ((0 : Int), ([] : List Int), ([] : List Int),
                                                        false)).snd.snd.fst =
                                              (x.snd.getD x_1.toNat
                                                      ((0 : Int), ([] : List Int), ([] : List Int),
                                                        false)).snd.snd.fst)) =
                                      true →
                                    false = decide (x.fst = x.snd) ∧ True) ∧
                                  ((decide
                                              ((x.fst.getD x_1.toNat
                                                    ((0 : Int), ([] : List Int), ([] : List Int), false)).fst ≠
                                                (x.snd.getD x_1.toNat
                                                    ((0 : Int), ([] : List Int), ([] : List Int), false)).fst) ||
                                            !(x.fst.getD x_1.toNat
                                                        ((0 : Int), ([] : List Int), ([] : List Int),
                                                          false)).snd.snd.snd ==
                                                (x.snd.getD x_1.toNat
                                                        ((0 : Int), ([] : List Int), ([] : List Int),
                                                          false)).snd.snd.snd ||
                                          !decide
                                              ((x.fst.getD x_1.toNat
                                                      ((0 : Int), ([] : List Int), ([] : List Int), false)).snd.fst =
                                                (x.snd.getD x_1.toNat
                                                      ((0 : Int), ([] : List Int), ([] : List Int), false)).snd.fst) ||
                                        !decide
                                            ((x.fst.getD x_1.toNat
                                                      ((0 : Int), ([] : List Int), ([] : List Int),
                                                        false)).snd.snd.fst =
                                              (x.snd.getD x_1.toNat
                                                      ((0 : Int), ([] : List Int), ([] : List Int),
                                                        false)).snd.snd.fst)) =
                                      false →
                                    InR IntKind.i64 (x_1 + (1 : Int)) ∧
                                      (x.fst.length = x.snd.length ∧
                                          (0 : Int) ≤ x_1 + (1 : Int) ∧
                                            x_1 + (1 : Int) ≤ (↑x.fst.length : Int) ∧
                                              List.take (x_1 + (1 : Int)).toNat x.fst =
                                                List.take (x_1 + (1 : Int)).toNat x.snd) ∧
                                        ((↑x.fst.length : Int) - (x_1 + (1 : Int))).toNat <
                                          ((↑x.fst.length : Int) - x_1).toNat)) ∧
                  (decide (x_1 < (↑x.fst.length : Int)) = false → true = decide (x.fst = x.snd) ∧ True))
theorem vcp_rSameObjects : pv_rSameObjects := by
  unfold pv_rSameObjects
  intro x hw _
  refine ⟨fun h => ?_, fun h => ?_⟩
  · have h : x.1.length ≠ x.2.length := by have := of_decide_eq_true h; omega
    have : x.1 ≠ x.2 := fun e => h (by rw [e])
    simp [this]
  have hl : x.1.length = x.2.length := by have := of_decide_eq_false h; omega
  refine ⟨⟨hl, by omega, by omega, by simp⟩, fun i ⟨_, h0, h1, ht⟩ => ⟨fun hlt => ?_, fun hge => ?_⟩⟩
  · have hlt : i < x.1.length := by simpa using hlt
    rw [obj_ne]
    refine ⟨h0, hlt, h0, by omega, fun _ => trivial, fun _ => trivial, fun hne => ?_, fun he => ?_⟩
    · have hne : x.1.getD i.toNat (0, [], [], false) ≠ x.2.getD i.toNat (0, [], [], false) := by simpa using hne
      have : x.1 ≠ x.2 := fun e => hne (by rw [e])
      simp [this]
    · have he : x.1.getD i.toNat (0, [], [], false) = x.2.getD i.toNat (0, [], [], false) := by simpa using he
      have hb := hw.1.1
      unfold big at hb
      refine ⟨by simp only [InR]; omega, ⟨hl, by omega, by omega, ?_⟩, by omega⟩
      rw [show (i + 1).toNat = i.toNat + 1 by omega]
      exact take_step hl (by omega) ht he
  · have hge : ¬ i < x.1.length := by simpa using hge
    have hi : i.toNat = x.1.length := by omega
    rw [hi, List.take_of_length_le (Nat.le_refl _), List.take_of_length_le (by omega)] at ht
    simp [ht]
theorem e_rSameObjects : pv_rSameObjects = fnVC Try.prog (tbl [(90, sp_rSameInts), (91, sp_rSameWords)]) an_rSameObjects Try.f62 sp_rSameObjects := by kernel_rfl
theorem vc_rSameObjects : fnVC Try.prog (tbl [(90, sp_rSameInts), (91, sp_rSameWords)]) an_rSameObjects Try.f62 sp_rSameObjects := @Eq.mp _ _ @e_rSameObjects @vcp_rSameObjects
theorem ok_rSameObjects : sp_rSameObjects.ok Try.prog 62 := fn_sound (P := Try.prog) (ss := tbl [(90, sp_rSameInts), (91, sp_rSameWords)]) (ann := an_rSameObjects) (f := 62) (fn := Try.f62) (s := sp_rSameObjects) (tbl_cons ok_rSameInts (tbl_cons ok_rSameWords tbl_nil)) Try.func62 @vc_rSameObjects

def sp_eqSpots : Spec := { Ts := [.arr ty_Spot, .arr ty_Spot], Rs := [.dat .bool], pre := fun _ => True, F := fun (x : List Spot × List Spot) => decide (x.1 = x.2) }
def an_eqSpots : Nat → Option LoopGen
  | 4 => some { rd := [.dat 0 (.arr ty_Spot), .dat 1 (.arr ty_Spot)], A := fun (g : List Spot × List Spot) => { cs := [.dat 13 ty_I], inv := fun (i : Int) => g.1.length = g.2.length ∧ 0 ≤ i ∧ i ≤ g.1.length ∧ g.1.take i.toNat = g.2.take i.toNat, mu := fun (i : Int) => (g.1.length - i).toNat } }
  | _ => none
def pv_eqSpots : Prop :=
    ∀ (x : List (Int × Int × Int × Int × Bool) × List (Int × Int × Int × Int × Bool)),
  ((x.fst.length * ((8 : Nat) + ((8 : Nat) + ((8 : Nat) + ((8 : Nat) + (8 : Nat))))) ≤ big ∧
        ∀ (x_1 : Int × Int × Int × Int × Bool),
          x_1 ∈ x.fst →
            InR IntKind.i64 x_1.fst ∧
              InR IntKind.i64 x_1.snd.fst ∧
                InR IntKind.i64 x_1.snd.snd.fst ∧ InR IntKind.i64 x_1.snd.snd.snd.fst ∧ True) ∧
      x.snd.length * ((8 : Nat) + ((8 : Nat) + ((8 : Nat) + ((8 : Nat) + (8 : Nat))))) ≤ big ∧
        ∀ (x_1 : Int × Int × Int × Int × Bool),
          x_1 ∈ x.snd →
            InR IntKind.i64 x_1.fst ∧
              InR IntKind.i64 x_1.snd.fst ∧
                InR IntKind.i64 x_1.snd.snd.fst ∧ InR IntKind.i64 x_1.snd.snd.snd.fst ∧ True) →
    True →
      (decide ((↑x.fst.length : Int) ≠ (↑x.snd.length : Int)) = true → false = decide (x.fst = x.snd) ∧ True) ∧
        (decide ((↑x.fst.length : Int) ≠ (↑x.snd.length : Int)) = false →
          (x.fst.length = x.snd.length ∧
              (0 : Int) ≤ (0 : Int) ∧
                (0 : Int) ≤ (↑x.fst.length : Int) ∧
                  List.take (Int.toNat (0 : Int)) x.fst = List.take (Int.toNat (0 : Int)) x.snd) ∧
            ∀ (x_1 : Int),
              x.fst.length = x.snd.length ∧
                  (0 : Int) ≤ x_1 ∧
                    x_1 ≤ (↑x.fst.length : Int) ∧ List.take x_1.toNat x.fst = List.take x_1.toNat x.snd →
                (decide (x_1 < (↑x.fst.length : Int)) = true →
                    (0 : Int) ≤ x_1 ∧
                      x_1 < (↑x.fst.length : Int) ∧
                        (0 : Int) ≤ x_1 ∧
                          x_1 < (↑x.snd.length : Int) ∧
                            ((!(decide
                                        ((x.fst.getD x_1.toNat
                                              ((0 : Int), (0 : Int), (0 : Int), (0 : Int), false)).fst =
                                          (x.snd.getD x_1.toNat
                                              ((0 : Int), (0 : Int), (0 : Int), (0 : Int), false)).fst) &&
                                      (decide
                                          ((x.fst.getD x_1.toNat
                                                  ((0 : Int), (0 : Int), (0 : Int), (0 : Int), false)).snd.fst =
                                            (x.snd.getD x_1.toNat
                                                  ((0 : Int), (0 : Int), (0 : Int), (0 : Int), false)).snd.fst) &&
                                        (decide
                                            ((x.fst.getD x_1.toNat
                                                      ((0 : Int), (0 : Int), (0 : Int), (0 : Int), false)).snd.snd.fst =
                                              (x.snd.getD x_1.toNat
                                                      ((0 : Int), (0 : Int), (0 : Int), (0 : Int),
                                                        false)).snd.snd.fst) &&
                                          (decide
                                              ((x.fst.getD x_1.toNat
                                                          ((0 : Int), (0 : Int), (0 : Int), (0 : Int),
                                                            false)).snd.snd.snd.fst =
                                                (x.snd.getD x_1.toNat
                                                          ((0 : Int), (0 : Int), (0 : Int), (0 : Int),
                                                            false)).snd.snd.snd.fst) &&
                                            (x.fst.getD x_1.toNat
                                                        ((0 : Int), (0 : Int), (0 : Int), (0 : Int),
                                                          false)).snd.snd.snd.snd ==
                                              (x.snd.getD x_1.toNat
                                                        ((0 : Int), (0 : Int), (0 : Int), (0 : Int),
                                                          false)).snd.snd.snd.snd))))) =
                                  true →
                                false = decide (x.fst = x.snd) ∧ True) ∧
                              ((!(decide
                                        ((x.fst.getD x_1.toNat
                                              ((0 : Int), (0 : Int), (0 : Int), (0 : Int), false)).fst =
                                          (x.snd.getD x_1.toNat
                                              ((0 : Int), (0 : Int), (0 : Int), (0 : Int), false)).fst) &&
                                      (decide
                                          ((x.fst.getD x_1.toNat
                                                  ((0 : Int), (0 : Int), (0 : Int), (0 : Int), false)).snd.fst =
                                            (x.snd.getD x_1.toNat
                                                  ((0 : Int), (0 : Int), (0 : Int), (0 : Int), false)).snd.fst) &&
                                        (decide
                                            ((x.fst.getD x_1.toNat
                                                      ((0 : Int), (0 : Int), (0 : Int), (0 : Int), false)).snd.snd.fst =
                                              (x.snd.getD x_1.toNat
                                                      ((0 : Int), (0 : Int), (0 : Int), (0 : Int),
                                                        false)).snd.snd.fst) &&
                                          (decide
                                              ((x.fst.getD x_1.toNat
                                                          ((0 : Int), (0 : Int), (0 : Int), (0 : Int),
                                                            false)).snd.snd.snd.fst =
                                                (x.snd.getD x_1.toNat
                                                          ((0 : Int), (0 : Int), (0 : Int), (0 : Int),
                                                            false)).snd.snd.snd.fst) &&
                                            (x.fst.getD x_1.toNat
                                                        ((0 : Int), (0 : Int), (0 : Int), (0 : Int),
                                                          false)).snd.snd.snd.snd ==
                                              (x.snd.getD x_1.toNat
                                                        ((0 : Int), (0 : Int), (0 : Int), (0 : Int),
                                                          false)).snd.snd.snd.snd))))) =
                                  false →
                                InR IntKind.i64 (x_1 + (1 : Int)) ∧
                                  (x.fst.length = x.snd.length ∧
                                      (0 : Int) ≤ x_1 + (1 : Int) ∧
                                        x_1 + (1 : Int) ≤ (↑x.fst.length : Int) ∧
                                          List.take (x_1 + (1 : Int)).toNat x.fst =
                                            List.take (x_1 + (1 : Int)).toNat x.snd) ∧
                                    ((↑x.fst.length : Int) - (x_1 + (1 : Int))).toNat <
                                      ((↑x.fst.length : Int) - x_1).toNat)) ∧
                  (decide (x_1 < (↑x.fst.length : Int)) = false → true = decide (x.fst = x.snd) ∧ True))
theorem vcp_eqSpots : pv_eqSpots := by
  unfold pv_eqSpots
  intro x hw _
  refine ⟨fun h => ?_, fun h => ?_⟩
  · have h : x.1.length ≠ x.2.length := by have := of_decide_eq_true h; omega
    have : x.1 ≠ x.2 := fun e => h (by rw [e])
    simp [this]
  have hl : x.1.length = x.2.length := by have := of_decide_eq_false h; omega
  refine ⟨⟨hl, by omega, by omega, by simp⟩, fun i ⟨_, h0, h1, ht⟩ => ⟨fun hlt => ?_, fun hge => ?_⟩⟩
  · have hlt : i < x.1.length := by simpa using hlt
    rw [spot_ne]
    refine ⟨h0, hlt, h0, by omega, fun hne => ?_, fun he => ?_⟩
    · have hne : x.1.getD i.toNat (0, 0, 0, 0, false) ≠ x.2.getD i.toNat (0, 0, 0, 0, false) := by simpa using hne
      have : x.1 ≠ x.2 := fun e => hne (by rw [e])
      simp [this]
    · have he : x.1.getD i.toNat (0, 0, 0, 0, false) = x.2.getD i.toNat (0, 0, 0, 0, false) := by simpa using he
      have hb := hw.1.1
      unfold big at hb
      refine ⟨by simp only [InR]; omega, ⟨hl, by omega, by omega, ?_⟩, by omega⟩
      rw [show (i + 1).toNat = i.toNat + 1 by omega]
      exact take_step hl (by omega) ht he
  · have hge : ¬ i < x.1.length := by simpa using hge
    have hi : i.toNat = x.1.length := by omega
    rw [hi, List.take_of_length_le (Nat.le_refl _), List.take_of_length_le (by omega)] at ht
    simp [ht]
theorem e_eqSpots : pv_eqSpots = fnVC Try.prog (tbl []) an_eqSpots Try.f59 sp_eqSpots := by kernel_rfl
theorem vc_eqSpots : fnVC Try.prog (tbl []) an_eqSpots Try.f59 sp_eqSpots := @Eq.mp _ _ @e_eqSpots @vcp_eqSpots
theorem ok_eqSpots : sp_eqSpots.ok Try.prog 59 := fn_sound (P := Try.prog) (ss := tbl []) (ann := an_eqSpots) (f := 59) (fn := Try.f59) (s := sp_eqSpots) tbl_nil Try.func59 @vc_eqSpots

theorem beginsL_length : ∀ l : List Spot, (beginsL l).length ≤ l.length
  | [] => by simp [beginsL]
  | s :: l => by
    have := beginsL_length l
    simp only [beginsL]
    split <;> simp <;> omega

def namesIn (all : List Int) (rs : List Int) : Bool := rs.all fun to => decide (to = -1) || inL all to
def arenaOK (a : List Int) (l : List Spot) (all : List Int) : List Int → Bool
  | [] => true
  | at_ :: r => namesIn all (namedL a at_ (headAtL at_ l).1) && arenaOK a l all r
def arenaF (a : List Int) : Int := if (spotsF a).2 ≠ 0 then (spotsF a).2 else if arenaOK a (spotsF a).1 (beginsL (spotsF a).1) (beginsL (spotsF a).1) = true then 0 else 5
def an_rArenaFault : Nat → Option LoopGen
  | 6 => some { rd := [.own 20 3 ty_I, .dat 0 (.arr ty_W)], A := fun ((all, a) : List Int × List Int) => { cs := [.dat 22 ty_I], inv := fun (i : Int) => 0 ≤ i ∧ i ≤ all.length ∧ all.length ≤ 256 ∧ a.length ≤ 256 ∧ arenaOK a (spotsF a).1 all (all.drop i.toNat) = arenaOK a (spotsF a).1 all all, mu := fun (i : Int) => (all.length - i).toNat } }
  | 9 => some { rd := [.own 28 3 ty_I, .own 20 3 ty_I], A := fun ((rs, all) : List Int × List Int) => { cs := [.dat 30 ty_I], inv := fun (j : Int) => 0 ≤ j ∧ j ≤ rs.length ∧ rs.length ≤ 256 ∧ namesIn all (rs.drop j.toNat) = namesIn all rs, mu := fun (j : Int) => (rs.length - j).toNat } }
  | _ => none
def sp_rArenaFault : Spec := { Ts := [.arr ty_W], Rs := [.dat ty_I], pre := fun _ => True, F := arenaF }
def pv_rArenaFault : Prop :=
    ∀ (x : List Int),
  (x.length * (8 : Nat) ≤ big ∧ ∀ (x_1 : Int), x_1 ∈ x → InR IntKind.u64 x_1) →
    True →
      True ∧
        (decide ((spotsF x).snd ≠ (0 : Int)) = true → (spotsF x).snd = arenaF x ∧ True) ∧
          (decide ((spotsF x).snd ≠ (0 : Int)) = false →
            True ∧
              ((0 : Int) ≤ (0 : Int) ∧
                  (0 : Int) ≤ (↑(beginsL (spotsF x).fst).length : Int) ∧
                    (beginsL (spotsF x).fst).length ≤ (256 : Nat) ∧
                      x.length ≤ (256 : Nat) ∧
                        arenaOK x (spotsF x).fst (beginsL (spotsF x).fst)
                            (List.drop (Int.toNat (0 : Int)) (beginsL (spotsF x).fst)) =
                          arenaOK x (spotsF x).fst (beginsL (spotsF x).fst) (beginsL (spotsF x).fst)) ∧
                ∀ (x_1 : Int),
                  (0 : Int) ≤ x_1 ∧
                      x_1 ≤ (↑(beginsL (spotsF x).fst).length : Int) ∧
                        (beginsL (spotsF x).fst).length ≤ (256 : Nat) ∧
                          x.length ≤ (256 : Nat) ∧
                            arenaOK x (spotsF x).fst (beginsL (spotsF x).fst)
                                (List.drop x_1.toNat (beginsL (spotsF x).fst)) =
                              arenaOK x (spotsF x).fst (beginsL (spotsF x).fst) (beginsL (spotsF x).fst) →
                    (decide (x_1 < (↑(beginsL (spotsF x).fst).length : Int)) = true →
                        (0 : Int) ≤ x_1 ∧
                          x_1 < (↑(beginsL (spotsF x).fst).length : Int) ∧
                            x_1.toNat < (beginsL (spotsF x).fst).length ∧
                              True ∧
                                ((0 : Int) ≤ (0 : Int) ∧
                                    (0 : Int) ≤
                                        (↑(namedL x ((beginsL (spotsF x).fst).getD x_1.toNat (0 : Int))
                                                (headAtL ((beginsL (spotsF x).fst).getD x_1.toNat (0 : Int))
                                                    (spotsF x).fst).fst).length :
                                          Int) ∧
                                      (namedL x ((beginsL (spotsF x).fst).getD x_1.toNat (0 : Int))
                                              (headAtL ((beginsL (spotsF x).fst).getD x_1.toNat (0 : Int))
                                                  (spotsF x).fst).fst).length ≤
                                          (256 : Nat) ∧
                                        namesIn (beginsL (spotsF x).fst)
                                            (List.drop (Int.toNat (0 : Int))
                                              (namedL x ((beginsL (spotsF x).fst).getD x_1.toNat (0 : Int))
                                                (headAtL ((beginsL (spotsF x).fst).getD x_1.toNat (0 : Int))
                                                    (spotsF x).fst).fst)) =
                                          namesIn (beginsL (spotsF x).fst)
                                            (namedL x ((beginsL (spotsF x).fst).getD x_1.toNat (0 : Int))
                                              (headAtL ((beginsL (spotsF x).fst).getD x_1.toNat (0 : Int))
                                                  (spotsF x).fst).fst)) ∧
                                  ∀ (x_2 : Int),
                                    (0 : Int) ≤ x_2 ∧
                                        x_2 ≤
                                            (↑(namedL x ((beginsL (spotsF x).fst).getD x_1.toNat (0 : Int))
                                                    (headAtL ((beginsL (spotsF x).fst).getD x_1.toNat (0 : Int))
                                                        (spotsF x).fst).fst).length :
                                              Int) ∧
                                          (namedL x ((beginsL (spotsF x).fst).getD x_1.toNat (0 : Int))
                                                  (headAtL ((beginsL (spotsF x).fst).getD x_1.toNat (0 : Int))
                                                      (spotsF x).fst).fst).length ≤
                                              (256 : Nat) ∧
                                            namesIn (beginsL (spotsF x).fst)
                                                (List.drop x_2.toNat
                                                  (namedL x ((beginsL (spotsF x).fst).getD x_1.toNat (0 : Int))
                                                    (headAtL ((beginsL (spotsF x).fst).getD x_1.toNat (0 : Int))
                                                        (spotsF x).fst).fst)) =
                                              namesIn (beginsL (spotsF x).fst)
                                                (namedL x ((beginsL (spotsF x).fst).getD x_1.toNat (0 : Int))
                                                  (headAtL ((beginsL (spotsF x).fst).getD x_1.toNat (0 : Int))
                                                      (spotsF x).fst).fst) →
                                      (decide
                                              (x_2 <
                                                (↑(namedL x ((beginsL (spotsF x).fst).getD x_1.toNat (0 : Int))
                                                        (headAtL ((beginsL (spotsF x).fst).getD x_1.toNat (0 : Int))
                                                            (spotsF x).fst).fst).length :
                                                  Int)) =
                                            true →
                                          (0 : Int) ≤ x_2 ∧
                                            x_2 <
                                                (↑(namedL x ((beginsL (spotsF x).fst).getD x_1.toNat (0 : Int))
                                                        (headAtL ((beginsL (spotsF x).fst).getD x_1.toNat (0 : Int))
                                                            (spotsF x).fst).fst).length :
                                                  Int) ∧
                                              x_2.toNat <
                                                  (namedL x ((beginsL (spotsF x).fst).getD x_1.toNat (0 : Int))
                                                      (headAtL ((beginsL (spotsF x).fst).getD x_1.toNat (0 : Int))
                                                          (spotsF x).fst).fst).length ∧
                                                (decide
                                                        ((namedL x ((beginsL (spotsF x).fst).getD x_1.toNat (0 : Int))
                                                                (headAtL
                                                                    ((beginsL (spotsF x).fst).getD x_1.toNat (0 : Int))
                                                                    (spotsF x).fst).fst).getD
                                                            x_2.toNat (0 : Int) ≠
                                                          (-1 : Int)) =
                                                      true →
                                                    True) ∧
                                                  ((decide
                                                            ((namedL x
                                                                    ((beginsL (spotsF x).fst).getD x_1.toNat (0 : Int))
                                                                    (headAtL
                                                                        ((beginsL (spotsF x).fst).getD x_1.toNat
                                                                          (0 : Int))
                                                                        (spotsF x).fst).fst).getD
                                                                x_2.toNat (0 : Int) ≠
                                                              (-1 : Int)) &&
                                                          !inL (beginsL (spotsF x).fst)
                                                              ((namedL x
                                                                    ((beginsL (spotsF x).fst).getD x_1.toNat (0 : Int))
                                                                    (headAtL
                                                                        ((beginsL (spotsF x).fst).getD x_1.toNat
                                                                          (0 : Int))
                                                                        (spotsF x).fst).fst).getD
                                                                x_2.toNat (0 : Int))) =
                                                        true →
                                                      (5 : Int) = arenaF x ∧ True) ∧
                                                    ((decide
                                                            ((namedL x
                                                                    ((beginsL (spotsF x).fst).getD x_1.toNat (0 : Int))
                                                                    (headAtL
                                                                        ((beginsL (spotsF x).fst).getD x_1.toNat
                                                                          (0 : Int))
                                                                        (spotsF x).fst).fst).getD
                                                                x_2.toNat (0 : Int) ≠
                                                              (-1 : Int)) &&
                                                          !inL (beginsL (spotsF x).fst)
                                                              ((namedL x
                                                                    ((beginsL (spotsF x).fst).getD x_1.toNat (0 : Int))
                                                                    (headAtL
                                                                        ((beginsL (spotsF x).fst).getD x_1.toNat
                                                                          (0 : Int))
                                                                        (spotsF x).fst).fst).getD
                                                                x_2.toNat (0 : Int))) =
                                                        false →
                                                      InR IntKind.i64 (x_2 + (1 : Int)) ∧
                                                        ((0 : Int) ≤ x_2 + (1 : Int) ∧
                                                            x_2 + (1 : Int) ≤
                                                                (↑(namedL x
                                                                        ((beginsL (spotsF x).fst).getD x_1.toNat
                                                                          (0 : Int))
                                                                        (headAtL
                                                                            ((beginsL (spotsF x).fst).getD x_1.toNat
                                                                              (0 : Int))
                                                                            (spotsF x).fst).fst).length :
                                                                  Int) ∧
                                                              (namedL x
                                                                      ((beginsL (spotsF x).fst).getD x_1.toNat
                                                                        (0 : Int))
                                                                      (headAtL
                                                                          ((beginsL (spotsF x).fst).getD x_1.toNat
                                                                            (0 : Int))
                                                                          (spotsF x).fst).fst).length ≤
                                                                  (256 : Nat) ∧
                                                                namesIn (beginsL (spotsF x).fst)
                                                                    (List.drop (x_2 + (1 : Int)).toNat
                                                                      (namedL x
                                                                        ((beginsL (spotsF x).fst).getD x_1.toNat
                                                                          (0 : Int))
                                                                        (headAtL
                                                                            ((beginsL (spotsF x).fst).getD x_1.toNat
                                                                              (0 : Int))
                                                                            (spotsF x).fst).fst)) =
                                                                  namesIn (beginsL (spotsF x).fst)
                                                                    (namedL x
                                                                      ((beginsL (spotsF x).fst).getD x_1.toNat
                                                                        (0 : Int))
                                                                      (headAtL
                                                                          ((beginsL (spotsF x).fst).getD x_1.toNat
                                                                            (0 : Int))
                                                                          (spotsF x).fst).fst)) ∧
                                                          ((↑(namedL x
                                                                        ((beginsL (spotsF x).fst).getD x_1.toNat
                                                                          (0 : Int))
                                                                        (headAtL
                                                                            ((beginsL (spotsF x).fst).getD x_1.toNat
                                                                              (0 : Int))
                                                                            (spotsF x).fst).fst).length :
                                                                  Int) -
                                                                (x_2 + (1 : Int))).toNat <
                                                            ((↑(namedL x
                                                                        ((beginsL (spotsF x).fst).getD x_1.toNat
                                                                          (0 : Int))
                                                                        (headAtL
                                                                            ((beginsL (spotsF x).fst).getD x_1.toNat
                                                                              (0 : Int))
                                                                            (spotsF x).fst).fst).length :
                                                                  Int) -
                                                                x_2).toNat)) ∧
                                        (decide
                                              (x_2 <
                                                (↑(namedL x ((beginsL (spotsF x).fst).getD x_1.toNat (0 : Int))
                                                        (headAtL ((beginsL (spotsF x).fst).getD x_1.toNat (0 : Int))
                                                            (spotsF x).fst).fst).length :
                                                  Int)) =
                                            false →
                                          InR IntKind.i64 (x_1 + (1 : Int)) ∧
                                            ((0 : Int) ≤ x_1 + (1 : Int) ∧
                                                x_1 + (1 : Int) ≤ (↑(beginsL (spotsF x).fst).length : Int) ∧
                                                  (beginsL (spotsF x).fst).length ≤ (256 : Nat) ∧
                                                    x.length ≤ (256 : Nat) ∧
                                                      arenaOK x (spotsF x).fst (beginsL (spotsF x).fst)
                                                          (List.drop (x_1 + (1 : Int)).toNat (beginsL (spotsF x).fst)) =
                                                        arenaOK x (spotsF x).fst (beginsL (spotsF x).fst)
                                                          (beginsL (spotsF x).fst)) ∧
                                              ((↑(beginsL (spotsF x).fst).length : Int) - (x_1 + (1 : Int))).toNat <
                                                ((↑(beginsL (spotsF x).fst).length : Int) - x_1).toNat)) ∧
                      (decide (x_1 < (↑(beginsL (spotsF x).fst).length : Int)) = false →
                        (0 : Int) = arenaF x ∧ True))
theorem vcp_rArenaFault : pv_rArenaFault := by
  unfold pv_rArenaFault
  intro a _ _
  have hlen := spotsF_length a
  have hbl := beginsL_length (spotsF a).1
  have hF : arenaF a = if (spotsF a).2 ≠ 0 then (spotsF a).2 else if arenaOK a (spotsF a).1 (beginsL (spotsF a).1) (beginsL (spotsF a).1) = true then 0 else 5 := rfl
  generalize beginsL (spotsF a).1 = all at *
  refine ⟨trivial, fun hc => ?_, fun hc => ?_⟩
  · have hc : (spotsF a).2 ≠ 0 := by simpa using hc
    rw [hF, if_pos hc]
    exact ⟨rfl, trivial⟩
  have hc : (spotsF a).2 = 0 := by simpa using hc
  rw [if_neg (by omega)] at hF
  have hal := (spotsF_in hc).1
  have hnl : ∀ at_ h, (namedL a at_ h).length ≤ 256 := fun at_ h => by simp only [namedL, List.length_map, List.length_drop, List.length_take]; omega
  generalize hl : (spotsF a).1 = l at *
  refine ⟨trivial, ⟨by omega, by omega, by omega, hal, rfl⟩, fun i ⟨h0, h1, _, _, h2⟩ => ⟨fun hlt => ?_, fun hge => ?_⟩⟩
  · have hlt : i < (all.length : Int) := by simpa using hlt
    rw [drop_cons (0 : Int) h0 hlt] at h2
    simp only [arenaOK] at h2
    have hnl := hnl (all.getD i.toNat 0) (headAtL (all.getD i.toNat 0) l).1
    generalize namedL a (all.getD i.toNat 0) (headAtL (all.getD i.toNat 0) l).1 = rs at *
    refine ⟨h0, hlt, by omega, trivial, ⟨by omega, by omega, hnl, rfl⟩, fun j ⟨g0, g1, _, g2⟩ => ⟨fun hlt => ?_, fun hge => ?_⟩⟩
    · have hlt : j < (rs.length : Int) := by simpa using hlt
      rw [drop_cons (0 : Int) g0 hlt] at g2
      simp only [namesIn, List.all_cons] at g2
      generalize rs.getD j.toNat 0 = v at *
      have hv : (decide (v ≠ -1) && !inL all v) = !(decide (v = -1) || inL all v) := by simp
      rw [hv]
      simp only [InR]
      refine ⟨g0, hlt, by omega, fun _ => trivial, fun hv => ?_, fun hv => ?_⟩
      · have hv : (decide (v = -1) || inL all v) = false := by simpa using hv
        rw [hv, Bool.false_and] at g2
        have g2 : namesIn all rs = false := g2.symm
        rw [g2, Bool.false_and] at h2
        rw [hF, if_neg (by rw [← h2]; simp)]
        exact ⟨rfl, trivial⟩
      · have hv : (decide (v = -1) || inL all v) = true := by
          cases h : (decide (v = -1) || inL all v)
          · rw [h] at hv; cases hv
          · rfl
        rw [hv, Bool.true_and] at g2
        exact ⟨by omega, ⟨by omega, by omega, hnl, g2⟩, by omega⟩
    · rw [drop_end (by simpa using hge)] at g2
      have g2 : namesIn all rs = true := g2.symm
      rw [g2, Bool.true_and] at h2
      simp only [InR]
      exact ⟨by omega, ⟨by omega, by omega, by omega, hal, h2⟩, by omega⟩
  · rw [drop_end (by simpa using hge)] at h2
    have h2 : arenaOK a l all all = true := h2.symm
    rw [hF, if_pos h2]
    exact ⟨rfl, trivial⟩
theorem e_rArenaFault : pv_rArenaFault = fnVC Try.prog (tbl [(58, sp_rSpots), (87, sp_rBegins), (88, sp_rNamed), (89, sp_rIn)]) an_rArenaFault Try.f60 sp_rArenaFault := by kernel_rfl
theorem vc_rArenaFault : fnVC Try.prog (tbl [(58, sp_rSpots), (87, sp_rBegins), (88, sp_rNamed), (89, sp_rIn)]) an_rArenaFault Try.f60 sp_rArenaFault := @Eq.mp _ _ @e_rArenaFault @vcp_rArenaFault
theorem ok_rArenaFault : sp_rArenaFault.ok Try.prog 60 := fn_sound (P := Try.prog) (ss := tbl [(58, sp_rSpots), (87, sp_rBegins), (88, sp_rNamed), (89, sp_rIn)]) (ann := an_rArenaFault) (f := 60) (fn := Try.f60) (s := sp_rArenaFault) (tbl_cons ok_rSpots (tbl_cons ok_rBegins (tbl_cons ok_rNamed (tbl_cons ok_rIn tbl_nil)))) Try.func60 @vc_rArenaFault

theorem spotsF_in2 (a : List Int) : ∀ s ∈ (spotsF a).1, a.length ≤ 256 ∧ spotIn a s ∧ headFault s.2 = 0 := by
  intro s hs
  have hz : (spotsF a).2 = 0 := by
    unfold spotsF at hs ⊢
    split at hs
    · simp at hs
    · rename_i cl
      rw [if_neg cl]
      cases h : spotsS 0 a with
      | none => rw [h] at hs; simp at hs
      | some l => rfl
  have h := spotsF_in hz
  exact ⟨h.1, (h.2 s hs).1, (h.2 s hs).2⟩

def objR (a : List Int) (l : List Spot) (all : List Int) (s : Spot) : Obj :=
  (s.2.2.2.1, if s.2.2.2.2 = true then [] else (namedL a s.1 (headAtL s.1 l).1).map (place all), spotBody a s, s.2.2.2.2)
def an_rObjectsOf : Nat → Option LoopGen
  | 4 => some { rd := [.own 20 106 ty_Spot], A := fun (l : List Spot) => { cs := [.own 5 3 ty_I, .dat 22 ty_I], inv := fun ((out, i) : List Int × Int) => 0 ≤ i ∧ i ≤ l.length ∧ l.length ≤ 256 ∧ out = (l.take i.toNat).map (·.1), mu := fun ((_, i) : List Int × Int) => (l.length - i).toNat } }
  | 10 => some { rd := [.own 32 106 ty_Spot, .own 5 3 ty_I, .dat 0 (.arr ty_W)], A := fun ((l, all, a) : List Spot × List Int × List Int) => { cs := [.own 8 101 ty_Obj, .dat 34 ty_I], inv := fun ((out, i) : List Obj × Int) => 0 ≤ i ∧ i ≤ l.length ∧ l.length ≤ 256 ∧ out = (l.take i.toNat).map (objR a l all), mu := fun ((_, i) : List Obj × Int) => (l.length - i).toNat } }
  | 1000014 => some { rd := [.own 32 106 ty_Spot, .own 5 3 ty_I, .dat 0 (.arr ty_W), .box 10 ty_Spot], A := fun ((l, all, a, s) : List Spot × List Int × List Int × Spot) => { cs := [.boxS 11 [.dat ty_I, .own 3 ty_I, .own 29 ty_W, .dat .bool]], inv := fun (o : Obj) => o = (s.2.2.2.1, if s.2.2.2.2 = true then [] else (namedL a s.1 (headAtL s.1 l).1).map (place all), [], s.2.2.2.2), mu := fun _ => 0 } }
  | 15 => some { rd := [.own 52 3 ty_I, .own 5 3 ty_I, .box 10 ty_Spot], A := fun ((rs, all, s) : List Int × List Int × Spot) => { cs := [.boxS 11 [.dat ty_I, .own 3 ty_I, .own 29 ty_W, .dat .bool], .dat 54 ty_I], inv := fun ((o, j) : Obj × Int) => 0 ≤ j ∧ j ≤ rs.length ∧ rs.length ≤ 256 ∧ o = (s.2.2.2.1, (rs.take j.toNat).map (place all), [], s.2.2.2.2), mu := fun ((_, j) : Obj × Int) => (rs.length - j).toNat } }
  | 20 => some { rd := [.dat 0 (.arr ty_W), .box 10 ty_Spot, .boxS 11 [.dat ty_I, .own 3 ty_I, .own 29 ty_W, .dat .bool]], A := fun ((a, s, o0) : List Int × Spot × Obj) => { cs := [.boxS 11 [.dat ty_I, .own 3 ty_I, .own 29 ty_W, .dat .bool], .dat 70 ty_I], inv := fun ((o, k) : Obj × Int) => 0 ≤ k ∧ k ≤ s.2.2.1 ∧ a.length ≤ 256 ∧ spotIn a s ∧ o = (o0.1, o0.2.1, (a.take (s.1 + 1 + s.2.1 + k).toNat).drop (s.1 + 1 + s.2.1).toNat, o0.2.2.2), mu := fun ((_, k) : Obj × Int) => (s.2.2.1 - k).toNat } }
  | _ => none
def sp_rObjectsOf : Spec := { Ts := [.arr ty_W], Rs := [.dat (.arr ty_Obj)], al := true, pre := fun _ => True, F := fun (a : List Int) => (spotsF a).1.map (objR a (spotsF a).1 ((spotsF a).1.map (·.1))) }
def pv_rObjectsOf : Prop :=
    ∀ (x : List Int),
  (x.length * (8 : Nat) ≤ big ∧ ∀ (x_1 : Int), x_1 ∈ x → InR IntKind.u64 x_1) →
    True →
      True ∧
        ((0 : Int) ≤ (0 : Int) ∧
            (0 : Int) ≤ (↑(spotsF x).fst.length : Int) ∧
              (spotsF x).fst.length ≤ (256 : Nat) ∧
                ([] : List Int) = List.map (fun (x : Spot) => x.fst) (List.take (Int.toNat (0 : Int)) (spotsF x).fst)) ∧
          ∀ (x_1 : List Int × Int),
            (0 : Int) ≤ x_1.snd ∧
                x_1.snd ≤ (↑(spotsF x).fst.length : Int) ∧
                  (spotsF x).fst.length ≤ (256 : Nat) ∧
                    x_1.fst = List.map (fun (x : Spot) => x.fst) (List.take x_1.snd.toNat (spotsF x).fst) →
              (decide (x_1.snd < (↑(spotsF x).fst.length : Int)) = true →
                  (0 : Int) ≤ x_1.snd ∧
                    x_1.snd < (↑(spotsF x).fst.length : Int) ∧
                      x_1.snd.toNat < (spotsF x).fst.length ∧
                        (x_1.fst.length +
                                [((spotsF x).fst.getD x_1.snd.toNat
                                        ((0 : Int), (0 : Int), (0 : Int), (0 : Int), false)).fst].length) *
                              (8 : Nat) ≤
                            big ∧
                          InR IntKind.i64 (x_1.snd + (1 : Int)) ∧
                            ((0 : Int) ≤ x_1.snd + (1 : Int) ∧
                                x_1.snd + (1 : Int) ≤ (↑(spotsF x).fst.length : Int) ∧
                                  (spotsF x).fst.length ≤ (256 : Nat) ∧
                                    x_1.fst ++
                                        [((spotsF x).fst.getD x_1.snd.toNat
                                              ((0 : Int), (0 : Int), (0 : Int), (0 : Int), false)).fst] =
                                      List.map (fun (x : Spot) => x.fst)
                                        (List.take (x_1.snd + (1 : Int)).toNat (spotsF x).fst)) ∧
                              ((↑(spotsF x).fst.length : Int) - (x_1.snd + (1 : Int))).toNat <
                                ((↑(spotsF x).fst.length : Int) - x_1.snd).toNat) ∧
                (decide (x_1.snd < (↑(spotsF x).fst.length : Int)) = false →
                  ((0 : Int) ≤ (0 : Int) ∧
                      (0 : Int) ≤ (↑(spotsF x).fst.length : Int) ∧
                        (spotsF x).fst.length ≤ (256 : Nat) ∧
                          ([] : List (Int × List Int × List Int × Bool)) =
                            List.map (objR x (spotsF x).fst x_1.fst) (List.take (Int.toNat (0 : Int)) (spotsF x).fst)) ∧
                    ∀ (x_2 : List (Int × List Int × List Int × Bool) × Int),
                      (0 : Int) ≤ x_2.snd ∧
                          x_2.snd ≤ (↑(spotsF x).fst.length : Int) ∧
                            (spotsF x).fst.length ≤ (256 : Nat) ∧
                              x_2.fst =
                                List.map (objR x (spotsF x).fst x_1.fst) (List.take x_2.snd.toNat (spotsF x).fst) →
                        (decide (x_2.snd < (↑(spotsF x).fst.length : Int)) = true →
                            (0 : Int) ≤ x_2.snd ∧
                              x_2.snd < (↑(spotsF x).fst.length : Int) ∧
                                x_2.snd.toNat < (spotsF x).fst.length ∧
                                  (((!((spotsF x).fst.getD x_2.snd.toNat
                                                      ((0 : Int), (0 : Int), (0 : Int), (0 : Int),
                                                        false)).snd.snd.snd.snd) =
                                          true →
                                        True ∧
                                          ((0 : Int) ≤ (0 : Int) ∧
                                              (0 : Int) ≤
                                                  (↑(namedL x
                                                          ((spotsF x).fst.getD x_2.snd.toNat
                                                              ((0 : Int), (0 : Int), (0 : Int), (0 : Int), false)).fst
                                                          (headAtL
                                                              ((spotsF x).fst.getD x_2.snd.toNat
                                                                  ((0 : Int), (0 : Int), (0 : Int), (0 : Int),
                                                                    false)).fst
                                                              (spotsF x).fst).fst).length :
                                                    Int) ∧
                                                (namedL x
                                                        ((spotsF x).fst.getD x_2.snd.toNat
                                                            ((0 : Int), (0 : Int), (0 : Int), (0 : Int), false)).fst
                                                        (headAtL
                                                            ((spotsF x).fst.getD x_2.snd.toNat
                                                                ((0 : Int), (0 : Int), (0 : Int), (0 : Int), false)).fst
                                                            (spotsF x).fst).fst).length ≤
                                                    (256 : Nat) ∧
                                                  (((spotsF x).fst.getD x_2.snd.toNat
                                                                ((0 : Int), (0 : Int), (0 : Int), (0 : Int),
                                                                  false)).snd.snd.snd.fst,
                                                      ([] : List Int), ([] : List Int),
                                                      ((spotsF x).fst.getD x_2.snd.toNat
                                                                ((0 : Int), (0 : Int), (0 : Int), (0 : Int),
                                                                  false)).snd.snd.snd.snd) =
                                                    (((spotsF x).fst.getD x_2.snd.toNat
                                                                ((0 : Int), (0 : Int), (0 : Int), (0 : Int),
                                                                  false)).snd.snd.snd.fst,
                                                      List.map (place x_1.fst)
                                                        (List.take (Int.toNat (0 : Int))
                                                          (namedL x
                                                            ((spotsF x).fst.getD x_2.snd.toNat
                                                                ((0 : Int), (0 : Int), (0 : Int), (0 : Int), false)).fst
                                                            (headAtL
                                                                ((spotsF x).fst.getD x_2.snd.toNat
                                                                    ((0 : Int), (0 : Int), (0 : Int), (0 : Int),
                                                                      false)).fst
                                                                (spotsF x).fst).fst)),
                                                      ([] : List Int),
                                                      ((spotsF x).fst.getD x_2.snd.toNat
                                                                ((0 : Int), (0 : Int), (0 : Int), (0 : Int),
                                                                  false)).snd.snd.snd.snd)) ∧
                                            ∀ (x_3 : (Int × List Int × List Int × Bool) × Int),
                                              (0 : Int) ≤ x_3.snd ∧
                                                  x_3.snd ≤
                                                      (↑(namedL x
                                                              ((spotsF x).fst.getD x_2.snd.toNat
                                                                  ((0 : Int), (0 : Int), (0 : Int), (0 : Int),
                                                                    false)).fst
                                                              (headAtL
                                                                  ((spotsF x).fst.getD x_2.snd.toNat
                                                                      ((0 : Int), (0 : Int), (0 : Int), (0 : Int),
                                                                        false)).fst
                                                                  (spotsF x).fst).fst).length :
                                                        Int) ∧
                                                    (namedL x
                                                            ((spotsF x).fst.getD x_2.snd.toNat
                                                                ((0 : Int), (0 : Int), (0 : Int), (0 : Int), false)).fst
                                                            (headAtL
                                                                ((spotsF x).fst.getD x_2.snd.toNat
                                                                    ((0 : Int), (0 : Int), (0 : Int), (0 : Int),
                                                                      false)).fst
                                                                (spotsF x).fst).fst).length ≤
                                                        (256 : Nat) ∧
                                                      x_3.fst =
                                                        (((spotsF x).fst.getD x_2.snd.toNat
                                                                    ((0 : Int), (0 : Int), (0 : Int), (0 : Int),
                                                                      false)).snd.snd.snd.fst,
                                                          List.map (place x_1.fst)
                                                            (List.take x_3.snd.toNat
                                                              (namedL x
                                                                ((spotsF x).fst.getD x_2.snd.toNat
                                                                    ((0 : Int), (0 : Int), (0 : Int), (0 : Int),
                                                                      false)).fst
                                                                (headAtL
                                                                    ((spotsF x).fst.getD x_2.snd.toNat
                                                                        ((0 : Int), (0 : Int), (0 : Int), (0 : Int),
                                                                          false)).fst
                                                                    (spotsF x).fst).fst)),
                                                          ([] : List Int),
                                                          ((spotsF x).fst.getD x_2.snd.toNat
                                                                    ((0 : Int), (0 : Int), (0 : Int), (0 : Int),
                                                                      false)).snd.snd.snd.snd) →
                                                (decide
                                                        (x_3.snd <
                                                          (↑(namedL x
                                                                  ((spotsF x).fst.getD x_2.snd.toNat
                                                                      ((0 : Int), (0 : Int), (0 : Int), (0 : Int),
                                                                        false)).fst
                                                                  (headAtL
                                                                      ((spotsF x).fst.getD x_2.snd.toNat
                                                                          ((0 : Int), (0 : Int), (0 : Int), (0 : Int),
                                                                            false)).fst
                                                                      (spotsF x).fst).fst).length :
                                                            Int)) =
                                                      true →
                                                    (0 : Int) ≤ x_3.snd ∧
                                                      x_3.snd <
                                                          (↑(namedL x
                                                                  ((spotsF x).fst.getD x_2.snd.toNat
                                                                      ((0 : Int), (0 : Int), (0 : Int), (0 : Int),
                                                                        false)).fst
                                                                  (headAtL
                                                                      ((spotsF x).fst.getD x_2.snd.toNat
                                                                          ((0 : Int), (0 : Int), (0 : Int), (0 : Int),
                                                                            false)).fst
                                                                      (spotsF x).fst).fst).length :
                                                            Int) ∧
                                                        x_3.snd.toNat <
                                                            (namedL x
                                                                ((spotsF x).fst.getD x_2.snd.toNat
                                                                    ((0 : Int), (0 : Int), (0 : Int), (0 : Int),
                                                                      false)).fst
                                                                (headAtL
                                                                    ((spotsF x).fst.getD x_2.snd.toNat
                                                                        ((0 : Int), (0 : Int), (0 : Int), (0 : Int),
                                                                          false)).fst
                                                                    (spotsF x).fst).fst).length ∧
                                                          True ∧
                                                            (x_3.fst.snd.fst.length +
                                                                    [place x_1.fst
                                                                          ((namedL x
                                                                                ((spotsF x).fst.getD x_2.snd.toNat
                                                                                    ((0 : Int), (0 : Int), (0 : Int),
                                                                                      (0 : Int), false)).fst
                                                                                (headAtL
                                                                                    ((spotsF x).fst.getD x_2.snd.toNat
                                                                                        ((0 : Int), (0 : Int),
                                                                                          (0 : Int), (0 : Int),
                                                                                          false)).fst
                                                                                    (spotsF x).fst).fst).getD
                                                                            x_3.snd.toNat (0 : Int))].length) *
                                                                  (8 : Nat) ≤
                                                                big ∧
                                                              InR IntKind.i64 (x_3.snd + (1 : Int)) ∧
                                                                ((0 : Int) ≤ x_3.snd + (1 : Int) ∧
                                                                    x_3.snd + (1 : Int) ≤
                                                                        (↑(namedL x
                                                                                ((spotsF x).fst.getD x_2.snd.toNat
                                                                                    ((0 : Int), (0 : Int), (0 : Int),
                                                                                      (0 : Int), false)).fst
                                                                                (headAtL
                                                                                    ((spotsF x).fst.getD x_2.snd.toNat
                                                                                        ((0 : Int), (0 : Int),
                                                                                          (0 : Int), (0 : Int),
                                                                                          false)).fst
                                                                                    (spotsF x).fst).fst).length :
                                                                          Int) ∧
                                                                      (namedL x
                                                                              ((spotsF x).fst.getD x_2.snd.toNat
                                                                                  ((0 : Int), (0 : Int), (0 : Int),
                                                                                    (0 : Int), false)).fst
                                                                              (headAtL
                                                                                  ((spotsF x).fst.getD x_2.snd.toNat
                                                                                      ((0 : Int), (0 : Int), (0 : Int),
                                                                                        (0 : Int), false)).fst
                                                                                  (spotsF x).fst).fst).length ≤
                                                                          (256 : Nat) ∧
                                                                        (x_3.fst.fst,
                                                                            x_3.fst.snd.fst ++
                                                                              [place x_1.fst
                                                                                  ((namedL x
                                                                                        ((spotsF x).fst.getD
                                                                                            x_2.snd.toNat
                                                                                            ((0 : Int), (0 : Int),
                                                                                              (0 : Int), (0 : Int),
                                                                                              false)).fst
                                                                                        (headAtL
                                                                                            ((spotsF x).fst.getD
                                                                                                x_2.snd.toNat
                                                                                                ((0 : Int), (0 : Int),
                                                                                                  (0 : Int), (0 : Int),
                                                                                                  false)).fst
                                                                                            (spotsF x).fst).fst).getD
                                                                                    x_3.snd.toNat (0 : Int))],
                                                                            x_3.fst.snd.snd) =
                                                                          (((spotsF x).fst.getD x_2.snd.toNat
                                                                                      ((0 : Int), (0 : Int), (0 : Int),
                                                                                        (0 : Int),
                                                                                        false)).snd.snd.snd.fst,
                                                                            List.map (place x_1.fst)
                                                                              (List.take (x_3.snd + (1 : Int)).toNat
                                                                                (namedL x
                                                                                  ((spotsF x).fst.getD x_2.snd.toNat
                                                                                      ((0 : Int), (0 : Int), (0 : Int),
                                                                                        (0 : Int), false)).fst
                                                                                  (headAtL
                                                                                      ((spotsF x).fst.getD x_2.snd.toNat
                                                                                          ((0 : Int), (0 : Int),
                                                                                            (0 : Int), (0 : Int),
                                                                                            false)).fst
                                                                                      (spotsF x).fst).fst)),
                                                                            ([] : List Int),
                                                                            ((spotsF x).fst.getD x_2.snd.toNat
                                                                                      ((0 : Int), (0 : Int), (0 : Int),
                                                                                        (0 : Int),
                                                                                        false)).snd.snd.snd.snd)) ∧
                                                                  ((↑(namedL x
                                                                                ((spotsF x).fst.getD x_2.snd.toNat
                                                                                    ((0 : Int), (0 : Int), (0 : Int),
                                                                                      (0 : Int), false)).fst
                                                                                (headAtL
                                                                                    ((spotsF x).fst.getD x_2.snd.toNat
                                                                                        ((0 : Int), (0 : Int),
                                                                                          (0 : Int), (0 : Int),
                                                                                          false)).fst
                                                                                    (spotsF x).fst).fst).length :
                                                                          Int) -
                                                                        (x_3.snd + (1 : Int))).toNat <
                                                                    ((↑(namedL x
                                                                                ((spotsF x).fst.getD x_2.snd.toNat
                                                                                    ((0 : Int), (0 : Int), (0 : Int),
                                                                                      (0 : Int), false)).fst
                                                                                (headAtL
                                                                                    ((spotsF x).fst.getD x_2.snd.toNat
                                                                                        ((0 : Int), (0 : Int),
                                                                                          (0 : Int), (0 : Int),
                                                                                          false)).fst
                                                                                    (spotsF x).fst).fst).length :
                                                                          Int) -
                                                                        x_3.snd).toNat) ∧
                                                  (decide
                                                        (x_3.snd <
                                                          (↑(namedL x
                                                                  ((spotsF x).fst.getD x_2.snd.toNat
                                                                      ((0 : Int), (0 : Int), (0 : Int), (0 : Int),
                                                                        false)).fst
                                                                  (headAtL
                                                                      ((spotsF x).fst.getD x_2.snd.toNat
                                                                          ((0 : Int), (0 : Int), (0 : Int), (0 : Int),
                                                                            false)).fst
                                                                      (spotsF x).fst).fst).length :
                                                            Int)) =
                                                      false →
                                                    x_3.fst =
                                                      (((spotsF x).fst.getD x_2.snd.toNat
                                                                  ((0 : Int), (0 : Int), (0 : Int), (0 : Int),
                                                                    false)).snd.snd.snd.fst,
                                                        if
                                                            ((spotsF x).fst.getD x_2.snd.toNat
                                                                        ((0 : Int), (0 : Int), (0 : Int), (0 : Int),
                                                                          false)).snd.snd.snd.snd =
                                                              true then
                                                          ([] : List Int)
                                                        else
                                                          List.map (place x_1.fst)
                                                            (namedL x
                                                              ((spotsF x).fst.getD x_2.snd.toNat
                                                                  ((0 : Int), (0 : Int), (0 : Int), (0 : Int),
                                                                    false)).fst
                                                              (headAtL
                                                                  ((spotsF x).fst.getD x_2.snd.toNat
                                                                      ((0 : Int), (0 : Int), (0 : Int), (0 : Int),
                                                                        false)).fst
                                                                  (spotsF x).fst).fst),
                                                        ([] : List Int),
                                                        ((spotsF x).fst.getD x_2.snd.toNat
                                                                  ((0 : Int), (0 : Int), (0 : Int), (0 : Int),
                                                                    false)).snd.snd.snd.snd))) ∧
                                      ((!((spotsF x).fst.getD x_2.snd.toNat
                                                      ((0 : Int), (0 : Int), (0 : Int), (0 : Int),
                                                        false)).snd.snd.snd.snd) =
                                          false →
                                        (((spotsF x).fst.getD x_2.snd.toNat
                                                      ((0 : Int), (0 : Int), (0 : Int), (0 : Int),
                                                        false)).snd.snd.snd.fst,
                                            ([] : List Int), ([] : List Int),
                                            ((spotsF x).fst.getD x_2.snd.toNat
                                                      ((0 : Int), (0 : Int), (0 : Int), (0 : Int),
                                                        false)).snd.snd.snd.snd) =
                                          (((spotsF x).fst.getD x_2.snd.toNat
                                                      ((0 : Int), (0 : Int), (0 : Int), (0 : Int),
                                                        false)).snd.snd.snd.fst,
                                            if
                                                ((spotsF x).fst.getD x_2.snd.toNat
                                                            ((0 : Int), (0 : Int), (0 : Int), (0 : Int),
                                                              false)).snd.snd.snd.snd =
                                                  true then
                                              ([] : List Int)
                                            else
                                              List.map (place x_1.fst)
                                                (namedL x
                                                  ((spotsF x).fst.getD x_2.snd.toNat
                                                      ((0 : Int), (0 : Int), (0 : Int), (0 : Int), false)).fst
                                                  (headAtL
                                                      ((spotsF x).fst.getD x_2.snd.toNat
                                                          ((0 : Int), (0 : Int), (0 : Int), (0 : Int), false)).fst
                                                      (spotsF x).fst).fst),
                                            ([] : List Int),
                                            ((spotsF x).fst.getD x_2.snd.toNat
                                                      ((0 : Int), (0 : Int), (0 : Int), (0 : Int),
                                                        false)).snd.snd.snd.snd))) ∧
                                    ∀ (x_3 : Int × List Int × List Int × Bool),
                                      x_3 =
                                          (((spotsF x).fst.getD x_2.snd.toNat
                                                      ((0 : Int), (0 : Int), (0 : Int), (0 : Int),
                                                        false)).snd.snd.snd.fst,
                                            if
                                                ((spotsF x).fst.getD x_2.snd.toNat
                                                            ((0 : Int), (0 : Int), (0 : Int), (0 : Int),
                                                              false)).snd.snd.snd.snd =
                                                  true then
                                              ([] : List Int)
                                            else
                                              List.map (place x_1.fst)
                                                (namedL x
                                                  ((spotsF x).fst.getD x_2.snd.toNat
                                                      ((0 : Int), (0 : Int), (0 : Int), (0 : Int), false)).fst
                                                  (headAtL
                                                      ((spotsF x).fst.getD x_2.snd.toNat
                                                          ((0 : Int), (0 : Int), (0 : Int), (0 : Int), false)).fst
                                                      (spotsF x).fst).fst),
                                            ([] : List Int),
                                            ((spotsF x).fst.getD x_2.snd.toNat
                                                      ((0 : Int), (0 : Int), (0 : Int), (0 : Int),
                                                        false)).snd.snd.snd.snd) →
                                        ((0 : Int) ≤ (0 : Int) ∧
                                            (0 : Int) ≤
                                                ((spotsF x).fst.getD x_2.snd.toNat
                                                        ((0 : Int), (0 : Int), (0 : Int), (0 : Int),
                                                          false)).snd.snd.fst ∧
                                              x.length ≤ (256 : Nat) ∧
                                                spotIn x
                                                    ((spotsF x).fst.getD x_2.snd.toNat
                                                      ((0 : Int), (0 : Int), (0 : Int), (0 : Int), false)) ∧
                                                  x_3 =
                                                    (x_3.fst, x_3.snd.fst,
                                                      List.drop
                                                        (((spotsF x).fst.getD x_2.snd.toNat
                                                                  ((0 : Int), (0 : Int), (0 : Int), (0 : Int),
                                                                    false)).fst +
                                                              (1 : Int) +
                                                            ((spotsF x).fst.getD x_2.snd.toNat
                                                                  ((0 : Int), (0 : Int), (0 : Int), (0 : Int),
                                                                    false)).snd.fst).toNat
                                                        (List.take
                                                          (((spotsF x).fst.getD x_2.snd.toNat
                                                                      ((0 : Int), (0 : Int), (0 : Int), (0 : Int),
                                                                        false)).fst +
                                                                  (1 : Int) +
                                                                ((spotsF x).fst.getD x_2.snd.toNat
                                                                      ((0 : Int), (0 : Int), (0 : Int), (0 : Int),
                                                                        false)).snd.fst +
                                                              (0 : Int)).toNat
                                                          x),
                                                      x_3.snd.snd.snd)) ∧
                                          ∀ (x_4 : (Int × List Int × List Int × Bool) × Int),
                                            (0 : Int) ≤ x_4.snd ∧
                                                x_4.snd ≤
                                                    ((spotsF x).fst.getD x_2.snd.toNat
                                                            ((0 : Int), (0 : Int), (0 : Int), (0 : Int),
                                                              false)).snd.snd.fst ∧
                                                  x.length ≤ (256 : Nat) ∧
                                                    spotIn x
                                                        ((spotsF x).fst.getD x_2.snd.toNat
                                                          ((0 : Int), (0 : Int), (0 : Int), (0 : Int), false)) ∧
                                                      x_4.fst =
                                                        (x_3.fst, x_3.snd.fst,
                                                          List.drop
                                                            (((spotsF x).fst.getD x_2.snd.toNat
                                                                      ((0 : Int), (0 : Int), (0 : Int), (0 : Int),
                                                                        false)).fst +
                                                                  (1 : Int) +
                                                                ((spotsF x).fst.getD x_2.snd.toNat
                                                                      ((0 : Int), (0 : Int), (0 : Int), (0 : Int),
                                                                        false)).snd.fst).toNat
                                                            (List.take
                                                              (((spotsF x).fst.getD x_2.snd.toNat
                                                                          ((0 : Int), (0 : Int), (0 : Int), (0 : Int),
                                                                            false)).fst +
                                                                      (1 : Int) +
                                                                    ((spotsF x).fst.getD x_2.snd.toNat
                                                                          ((0 : Int), (0 : Int), (0 : Int), (0 : Int),
                                                                            false)).snd.fst +
                                                                  x_4.snd).toNat
                                                              x),
                                                          x_3.snd.snd.snd) →
                                              (decide
                                                      (x_4.snd <
                                                        ((spotsF x).fst.getD x_2.snd.toNat
                                                                ((0 : Int), (0 : Int), (0 : Int), (0 : Int),
                                                                  false)).snd.snd.fst) =
                                                    true →
                                                  InR IntKind.i64
                                                      (((spotsF x).fst.getD x_2.snd.toNat
                                                            ((0 : Int), (0 : Int), (0 : Int), (0 : Int), false)).fst +
                                                        (1 : Int)) ∧
                                                    InR IntKind.i64
                                                        (((spotsF x).fst.getD x_2.snd.toNat
                                                                ((0 : Int), (0 : Int), (0 : Int), (0 : Int),
                                                                  false)).fst +
                                                            (1 : Int) +
                                                          ((spotsF x).fst.getD x_2.snd.toNat
                                                                ((0 : Int), (0 : Int), (0 : Int), (0 : Int),
                                                                  false)).snd.fst) ∧
                                                      InR IntKind.i64
                                                          (((spotsF x).fst.getD x_2.snd.toNat
                                                                    ((0 : Int), (0 : Int), (0 : Int), (0 : Int),
                                                                      false)).fst +
                                                                (1 : Int) +
                                                              ((spotsF x).fst.getD x_2.snd.toNat
                                                                    ((0 : Int), (0 : Int), (0 : Int), (0 : Int),
                                                                      false)).snd.fst +
                                                            x_4.snd) ∧
                                                        (0 : Int) ≤
                                                            ((spotsF x).fst.getD x_2.snd.toNat
                                                                      ((0 : Int), (0 : Int), (0 : Int), (0 : Int),
                                                                        false)).fst +
                                                                  (1 : Int) +
                                                                ((spotsF x).fst.getD x_2.snd.toNat
                                                                      ((0 : Int), (0 : Int), (0 : Int), (0 : Int),
                                                                        false)).snd.fst +
                                                              x_4.snd ∧
                                                          ((spotsF x).fst.getD x_2.snd.toNat
                                                                        ((0 : Int), (0 : Int), (0 : Int), (0 : Int),
                                                                          false)).fst +
                                                                    (1 : Int) +
                                                                  ((spotsF x).fst.getD x_2.snd.toNat
                                                                        ((0 : Int), (0 : Int), (0 : Int), (0 : Int),
                                                                          false)).snd.fst +
                                                                x_4.snd <
                                                              (↑x.length : Int) ∧
                                                            (x_4.fst.snd.snd.fst.length +
                                                                    [x.getD
                                                                          (((spotsF x).fst.getD x_2.snd.toNat
                                                                                      ((0 : Int), (0 : Int), (0 : Int),
                                                                                        (0 : Int), false)).fst +
                                                                                  (1 : Int) +
                                                                                ((spotsF x).fst.getD x_2.snd.toNat
                                                                                      ((0 : Int), (0 : Int), (0 : Int),
                                                                                        (0 : Int), false)).snd.fst +
                                                                              x_4.snd).toNat
                                                                          (0 : Int)].length) *
                                                                  (8 : Nat) ≤
                                                                big ∧
                                                              InR IntKind.i64 (x_4.snd + (1 : Int)) ∧
                                                                ((0 : Int) ≤ x_4.snd + (1 : Int) ∧
                                                                    x_4.snd + (1 : Int) ≤
                                                                        ((spotsF x).fst.getD x_2.snd.toNat
                                                                                ((0 : Int), (0 : Int), (0 : Int),
                                                                                  (0 : Int), false)).snd.snd.fst ∧
                                                                      x.length ≤ (256 : Nat) ∧
                                                                        spotIn x
                                                                            ((spotsF x).fst.getD x_2.snd.toNat
                                                                              ((0 : Int), (0 : Int), (0 : Int),
                                                                                (0 : Int), false)) ∧
                                                                          (x_4.fst.fst, x_4.fst.snd.fst,
                                                                              x_4.fst.snd.snd.fst ++
                                                                                [x.getD
                                                                                    (((spotsF x).fst.getD x_2.snd.toNat
                                                                                                ((0 : Int), (0 : Int),
                                                                                                  (0 : Int), (0 : Int),
                                                                                                  false)).fst +
                                                                                            (1 : Int) +
                                                                                          ((spotsF x).fst.getD
                                                                                                x_2.snd.toNat
                                                                                                ((0 : Int), (0 : Int),
                                                                                                  (0 : Int), (0 : Int),
                                                                                                  false)).snd.fst +
                                                                                        x_4.snd).toNat
                                                                                    (0 : Int)],
                                                                              x_4.fst.snd.snd.snd) =
                                                                            (x_3.fst, x_3.snd.fst,
                                                                              List.drop
                                                                                (((spotsF x).fst.getD x_2.snd.toNat
                                                                                          ((0 : Int), (0 : Int),
                                                                                            (0 : Int), (0 : Int),
                                                                                            false)).fst +
                                                                                      (1 : Int) +
                                                                                    ((spotsF x).fst.getD x_2.snd.toNat
                                                                                          ((0 : Int), (0 : Int),
                                                                                            (0 : Int), (0 : Int),
                                                                                            false)).snd.fst).toNat
                                                                                (List.take
                                                                                  (((spotsF x).fst.getD x_2.snd.toNat
                                                                                              ((0 : Int), (0 : Int),
                                                                                                (0 : Int), (0 : Int),
                                                                                                false)).fst +
                                                                                          (1 : Int) +
                                                                                        ((spotsF x).fst.getD
                                                                                              x_2.snd.toNat
                                                                                              ((0 : Int), (0 : Int),
                                                                                                (0 : Int), (0 : Int),
                                                                                                false)).snd.fst +
                                                                                      (x_4.snd + (1 : Int))).toNat
                                                                                  x),
                                                                              x_3.snd.snd.snd)) ∧
                                                                  (((spotsF x).fst.getD x_2.snd.toNat
                                                                                ((0 : Int), (0 : Int), (0 : Int),
                                                                                  (0 : Int), false)).snd.snd.fst -
                                                                        (x_4.snd + (1 : Int))).toNat <
                                                                    (((spotsF x).fst.getD x_2.snd.toNat
                                                                                ((0 : Int), (0 : Int), (0 : Int),
                                                                                  (0 : Int), false)).snd.snd.fst -
                                                                        x_4.snd).toNat) ∧
                                                (decide
                                                      (x_4.snd <
                                                        ((spotsF x).fst.getD x_2.snd.toNat
                                                                ((0 : Int), (0 : Int), (0 : Int), (0 : Int),
                                                                  false)).snd.snd.fst) =
                                                    false →
                                                  (x_2.fst.length + [x_4.fst].length) *
                                                        ((8 : Nat) + ((24 : Nat) + ((24 : Nat) + (8 : Nat)))) ≤
                                                      big ∧
                                                    InR IntKind.i64 (x_2.snd + (1 : Int)) ∧
                                                      ((0 : Int) ≤ x_2.snd + (1 : Int) ∧
                                                          x_2.snd + (1 : Int) ≤ (↑(spotsF x).fst.length : Int) ∧
                                                            (spotsF x).fst.length ≤ (256 : Nat) ∧
                                                              x_2.fst ++ [x_4.fst] =
                                                                List.map (objR x (spotsF x).fst x_1.fst)
                                                                  (List.take (x_2.snd + (1 : Int)).toNat
                                                                    (spotsF x).fst)) ∧
                                                        ((↑(spotsF x).fst.length : Int) - (x_2.snd + (1 : Int))).toNat <
                                                          ((↑(spotsF x).fst.length : Int) - x_2.snd).toNat)) ∧
                          (decide (x_2.snd < (↑(spotsF x).fst.length : Int)) = false →
                            x_2.fst =
                                List.map (objR x (spotsF x).fst (List.map (fun (x : Spot) => x.fst) (spotsF x).fst))
                                  (spotsF x).fst ∧
                              True))
theorem vcp_rObjectsOf : pv_rObjectsOf := by
  unfold pv_rObjectsOf
  intro a _ _
  have hlen := spotsF_length a
  have hin := spotsF_in2 a
  generalize (spotsF a).1 = l at *
  refine ⟨trivial, ⟨by omega, by omega, hlen, by simp⟩, fun ⟨all, i⟩ ⟨h0, h1, _, h2⟩ => ⟨fun hlt => ?_, fun hge => ?_⟩⟩
  · have hlt : i < (l.length : Int) := of_decide_eq_true hlt
    simp only at h0 h1 h2 hlt ⊢
    have e := take_snoc ((0, 0, 0, 0, false) : Spot) h0 hlt
    have hl : all.length = i.toNat := by rw [h2]; simp; omega
    unfold big
    simp only [InR, List.length_cons, List.length_nil]
    refine ⟨h0, hlt, by omega, by omega, by omega, ⟨by omega, by omega, hlen, ?_⟩, by omega⟩
    rw [e, List.map_append, ← h2]
    rfl
  have hge : ¬ i < (l.length : Int) := of_decide_eq_false hge
  simp only at h0 h1 h2 ⊢
  rw [take_end hge] at h2
  rw [← h2]
  refine ⟨⟨by omega, by omega, hlen, by simp⟩, fun ⟨out, j⟩ ⟨g0, g1, _, g2⟩ => ⟨fun hlt => ?_, fun hge => ?_⟩⟩
  · have hlt : j < (l.length : Int) := of_decide_eq_true hlt
    simp only at g0 g1 g2 hlt ⊢
    have e := take_snoc ((0, 0, 0, 0, false) : Spot) g0 hlt
    obtain ⟨hal, hsp, hf⟩ := hin _ (getD_mem ((0, 0, 0, 0, false) : Spot) g0 hlt)
    have hol : out.length = j.toNat := by rw [g2]; simp; omega
    rw [e, List.map_append, ← g2]
    generalize l.getD j.toNat (0, 0, 0, 0, false) = s at *
    have hR : objR a l all s = (s.2.2.2.1, if s.2.2.2.2 = true then [] else (namedL a s.1 (headAtL s.1 l).1).map (place all), spotBody a s, s.2.2.2.2) := rfl
    have hnl : (namedL a s.1 (headAtL s.1 l).1).length ≤ 256 := by simp only [namedL, List.length_map, List.length_drop, List.length_take]; omega
    simp only [List.map_cons, List.map_nil]
    rw [hR]
    generalize namedL a s.1 (headAtL s.1 l).1 = rs at *
    unfold big
    simp only [InR, List.length_cons, List.length_nil]
    have hs' := hsp
    unfold spotIn at hs'
    refine ⟨g0, hlt, by omega, ⟨fun hc => ?_, fun hc => ?_⟩, fun o ho => ⟨⟨by omega, by omega, hal, hsp, ?_⟩, fun ⟨o1, k⟩ ⟨k0, k1, _, _, k2⟩ => ⟨fun hk => ?_, fun hk => ?_⟩⟩⟩
    · have hc : ¬ s.2.2.2.2 = true := by simpa using hc
      refine ⟨trivial, ⟨by omega, by omega, hnl, by simp⟩, fun ⟨o, t⟩ ⟨t0, t1, _, t2⟩ => ⟨fun htl => ?_, fun htg => ?_⟩⟩
      · have htl : t < (rs.length : Int) := of_decide_eq_true htl
        simp only at t0 t1 t2 ⊢
        have e2 := take_snoc (0 : Int) t0 htl
        have hl : o.2.1.length = t.toNat := by rw [t2]; simp; omega
        refine ⟨t0, htl, by omega, trivial, by omega, by omega, ⟨by omega, by omega, hnl, ?_⟩, by omega⟩
        rw [e2, List.map_append, t2]
        rfl
      · have htg : ¬ t < (rs.length : Int) := of_decide_eq_false htg
        simp only at t0 t1 t2
        rw [t2, take_end htg, if_neg hc]
    · have hc : s.2.2.2.2 = true := by simpa using hc
      rw [if_pos hc]
    · rw [Int.add_zero, List.drop_of_length_le (by rw [List.length_take]; omega)]
      rw [ho]
    · have hk : k < s.2.2.1 := of_decide_eq_true hk
      simp only at k0 k1 k2 ⊢
      have hs := slice_snoc (a := a) (p := (s.1 + 1 + s.2.1).toNat) (q := (s.1 + 1 + s.2.1 + k).toNat) 0 (by omega) (by omega)
      rw [show (s.1 + 1 + s.2.1 + k).toNat + 1 = (s.1 + 1 + s.2.1 + (k + 1)).toNat by omega] at hs
      have hl : o1.2.2.1.length ≤ 256 := by rw [k2]; simp; omega
      refine ⟨by omega, by omega, by omega, by omega, by omega, by omega, by omega, ⟨by omega, by omega, hal, hsp, ?_⟩, by omega⟩
      rw [hs, k2]
    · have hk : ¬ k < s.2.2.1 := of_decide_eq_false hk
      simp only at k0 k1 k2 ⊢
      refine ⟨by omega, by omega, ⟨by omega, by omega, hlen, ?_⟩, by omega⟩
      rw [k2, ho, show k = s.2.2.1 by omega]
      rfl
  · have hge : ¬ j < (l.length : Int) := of_decide_eq_false hge
    simp only at g0 g1 g2
    rw [take_end hge] at g2
    rw [g2]
    exact ⟨rfl, trivial⟩
theorem e_rObjectsOf : pv_rObjectsOf = fnVC Try.prog (tbl [(58, sp_rSpots), (88, sp_rNamed), (92, sp_rPlace)]) an_rObjectsOf Try.f63 sp_rObjectsOf := by kernel_rfl
theorem vc_rObjectsOf : fnVC Try.prog (tbl [(58, sp_rSpots), (88, sp_rNamed), (92, sp_rPlace)]) an_rObjectsOf Try.f63 sp_rObjectsOf := @Eq.mp _ _ @e_rObjectsOf @vcp_rObjectsOf
theorem ok_rObjectsOf : sp_rObjectsOf.ok Try.prog 63 := fn_sound (P := Try.prog) (ss := tbl [(58, sp_rSpots), (88, sp_rNamed), (92, sp_rPlace)]) (ann := an_rObjectsOf) (f := 63) (fn := Try.f63) (s := sp_rObjectsOf) (tbl_cons ok_rSpots (tbl_cons ok_rNamed (tbl_cons ok_rPlace tbl_nil))) Try.func63 @vc_rObjectsOf

end Go.Proofs.Ytjkmfgneonifeaa
