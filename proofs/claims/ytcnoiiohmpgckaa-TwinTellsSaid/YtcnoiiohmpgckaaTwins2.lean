
import Derived.Test.YtcnoiiohmpgckaaTwins
namespace Go.Proofs.Ytcnoiiohmpgckaa
open Go
set_option maxRecDepth 100000
set_option maxHeartbeats 1000000
theorem allOf_step {i : Int} (h0 : 0 ≤ i) (h : i < 8) : IntKind.i64.wrap (allOf i * 2) = allOf (i + 1) := by
  have : i = 0 ∨ i = 1 ∨ i = 2 ∨ i = 3 ∨ i = 4 ∨ i = 5 ∨ i = 6 ∨ i = 7 := by omega
  rcases this with rfl | rfl | rfl | rfl | rfl | rfl | rfl | rfl <;> decide
theorem pow_le2 {a b : Nat} : ((2 ^ a : Nat) : Int) ≤ ((2 ^ b : Nat) : Int) ↔ a ≤ b := by
  rw [Int.ofNat_le]
  exact Nat.pow_le_pow_iff_right (by omega)
theorem pow_lt2 {a b : Nat} : ((2 ^ a : Nat) : Int) < ((2 ^ b : Nat) : Int) ↔ a < b := by
  rw [Int.ofNat_lt]
  exact Nat.pow_lt_pow_iff_right (by omega)
theorem pow_256 {a : Nat} (h : a ≤ 8) : 1 ≤ ((2 ^ a : Nat) : Int) ∧ ((2 ^ a : Nat) : Int) ≤ 256 := by
  have h1 := (pow_le2 (a := a) (b := 8)).2 h
  have h2 : 0 < 2 ^ a := Nat.pow_pos (by omega)
  rw [show ((2 ^ 8 : Nat) : Int) = 256 from rfl] at h1
  omega
theorem pow_next (a : Nat) : ((2 ^ (a + 1) : Nat) : Int) = 2 * ((2 ^ a : Nat) : Int) := by
  rw [Nat.pow_succ]
  omega
def an_rHalves : Nat → Option LoopGen
  | 5 => some { rd := [.box 1 ty_Halves], A := fun (h : HalvesD) => { cs := [.dat 3 ty_I, .dat 19 ty_I], inv := fun ((all, i) : Int × Int) => 0 ≤ i ∧ i ≤ h.1 ∧ h.1 ≤ 8 ∧ all = allOf i, mu := fun ((_, i) : Int × Int) => (h.1 - i).toNat } }
  | 10 => some { rd := [.box 1 ty_Halves, .dat 3 ty_I], A := fun ((h, all) : HalvesD × Int) => { cs := [.dat 4 ty_I, .dat 27 ty_I], inv := fun ((e, i) : Int × Int) => 0 ≤ i ∧ i ≤ h.2.length ∧ 0 ≤ e ∧ e ≤ 512 ∧ roomScan all e (h.2.drop i.toNat) = roomScan all 0 h.2, mu := fun ((_, i) : Int × Int) => (h.2.length - i).toNat } }
  | 14 => some { rd := [.dat 3 ty_I, .box 6 ty_Room], A := fun ((all, r) : Int × Room) => { cs := [.dat 7 .bool, .dat 8 ty_I], inv := fun ((ok, n) : Bool × Int) => (∃ j k : Nat, j ≤ k + 1 ∧ k ≤ 8 ∧ n = ((2 ^ j : Nat) : Int) ∧ all = ((2 ^ k : Nat) : Int)) ∧ ok = (isPow r.2.1 && decide (r.2.1 < n)), mu := fun ((_, n) : Bool × Int) => (1024 - n).toNat } }
  | 2000000 => some { rd := [], A := fun _ => { cs := [], inv := fun _ => True, mu := fun _ => 0 } }
  | _ => none
def sp_rHalves : Spec := { Ts := [ty_Halves], Rs := [.dat ty_I], pre := fun _ => True, F := halvesF }
def pv_rHalves : Prop :=
    ∀ (x : Int × List (Int × Int × Int)), (InR IntKind.i64 x.1 ∧ x.2.length * ((8 : Nat) + ((8 : Nat) + (8 : Nat))) ≤ big ∧ ∀ (x_1 : Int × Int × Int), x_1 ∈ x.2 → InR IntKind.i64 x_1.1 ∧ InR IntKind.i64 x_1.2.1 ∧ InR IntKind.i64 x_1.2.2) → True → ((decide (x.1 < (0 : Int)) || decide ((8 : Int) < x.1)) = true → (4 : Int) = halvesF x ∧ True) ∧ ((decide (x.1 < (0 : Int)) || decide ((8 : Int) < x.1)) = false → ((0 : Int) ≤ (0 : Int) ∧ (0 : Int) ≤ x.1 ∧ x.1 ≤ (8 : Int) ∧ (1 : Int) = allOf (0 : Int)) ∧ ∀ (x_1 : Int × Int), (0 : Int) ≤ x_1.2 ∧ x_1.2 ≤ x.1 ∧ x.1 ≤ (8 : Int) ∧ x_1.1 = allOf x_1.2 → (decide (x_1.2 < x.1) = true → ((0 : Int) ≤ IntKind.i64.wrap (x_1.2 + (1 : Int)) ∧ IntKind.i64.wrap (x_1.2 + (1 : Int)) ≤ x.1 ∧ x.1 ≤ (8 : Int) ∧ IntKind.i64.wrap (x_1.1 * (2 : Int)) = allOf (IntKind.i64.wrap (x_1.2 + (1 : Int)))) ∧ (x.1 - IntKind.i64.wrap (x_1.2 + (1 : Int))).toNat < (x.1 - x_1.2).toNat) ∧ (decide (x_1.2 < x.1) = false → ((0 : Int) ≤ (0 : Int) ∧ (0 : Int) ≤ (↑x.2.length : Int) ∧ (0 : Int) ≤ (0 : Int) ∧ (0 : Int) ≤ (512 : Int) ∧ roomScan x_1.1 (0 : Int) (List.drop (Int.toNat (0 : Int)) x.2) = roomScan x_1.1 (0 : Int) x.2) ∧ ∀ (x_2 : Int × Int), (0 : Int) ≤ x_2.2 ∧ x_2.2 ≤ (↑x.2.length : Int) ∧ (0 : Int) ≤ x_2.1 ∧ x_2.1 ≤ (512 : Int) ∧ roomScan x_1.1 x_2.1 (List.drop x_2.2.toNat x.2) = roomScan x_1.1 (0 : Int) x.2 → (decide (x_2.2 < (↑x.2.length : Int)) = true → (0 : Int) ≤ x_2.2 ∧ x_2.2 < (↑x.2.length : Int) ∧ ((∃ (j : Nat), ∃ (k : Nat), j ≤ k + (1 : Nat) ∧ k ≤ (8 : Nat) ∧ (1 : Int) = (↑((2 : Nat) ^ j) : Int) ∧ x_1.1 = (↑((2 : Nat) ^ k) : Int)) ∧ false = (isPow (x.2.getD x_2.2.toNat ((0 : Int), (0 : Int), (0 : Int))).2.1 && decide ((x.2.getD x_2.2.toNat ((0 : Int), (0 : Int), (0 : Int))).2.1 < (1 : Int)))) ∧ ∀ (x_3 : Bool × Int), (∃ (j : Nat), ∃ (k : Nat), j ≤ k + (1 : Nat) ∧ k ≤ (8 : Nat) ∧ x_3.2 = (↑((2 : Nat) ^ j) : Int) ∧ x_1.1 = (↑((2 : Nat) ^ k) : Int)) ∧ x_3.1 = (isPow (x.2.getD x_2.2.toNat ((0 : Int), (0 : Int), (0 : Int))).2.1 && decide ((x.2.getD x_2.2.toNat ((0 : Int), (0 : Int), (0 : Int))).2.1 < x_3.2)) → (decide (x_3.2 ≤ x_1.1) = true → ((∃ (j : Nat), ∃ (k : Nat), j ≤ k + (1 : Nat) ∧ k ≤ (8 : Nat) ∧ IntKind.i64.wrap (x_3.2 * (2 : Int)) = (↑((2 : Nat) ^ j) : Int) ∧ x_1.1 = (↑((2 : Nat) ^ k) : Int)) ∧ (x_3.1 || decide ((x.2.getD x_2.2.toNat ((0 : Int), (0 : Int), (0 : Int))).2.1 = x_3.2)) = (isPow (x.2.getD x_2.2.toNat ((0 : Int), (0 : Int), (0 : Int))).2.1 && decide ((x.2.getD x_2.2.toNat ((0 : Int), (0 : Int), (0 : Int))).2.1 < IntKind.i64.wrap (x_3.2 * (2 : Int))))) ∧ ((1024 : Int) - IntKind.i64.wrap (x_3.2 * (2 : Int))).toNat < ((1024 : Int) - x_3.2).toNat) ∧ (decide (x_3.2 ≤ x_1.1) = false → ((!x_3.1 || decide ((x.2.getD x_2.2.toNat ((0 : Int), (0 : Int), (0 : Int))).1 < x_2.1) || decide (IntKind.i64.wrap (x_1.1 - (x.2.getD x_2.2.toNat ((0 : Int), (0 : Int), (0 : Int))).2.1) < (x.2.getD x_2.2.toNat ((0 : Int), (0 : Int), (0 : Int))).1)) = false → (0 : Int) ≤ (x.2.getD x_2.2.toNat ((0 : Int), (0 : Int), (0 : Int))).1) ∧ ((!x_3.1 || decide ((x.2.getD x_2.2.toNat ((0 : Int), (0 : Int), (0 : Int))).1 < x_2.1) || decide (IntKind.i64.wrap (x_1.1 - (x.2.getD x_2.2.toNat ((0 : Int), (0 : Int), (0 : Int))).2.1) < (x.2.getD x_2.2.toNat ((0 : Int), (0 : Int), (0 : Int))).1)) = false → (0 : Int) < (x.2.getD x_2.2.toNat ((0 : Int), (0 : Int), (0 : Int))).2.1) ∧ ((!x_3.1 || decide ((x.2.getD x_2.2.toNat ((0 : Int), (0 : Int), (0 : Int))).1 < x_2.1) || decide (IntKind.i64.wrap (x_1.1 - (x.2.getD x_2.2.toNat ((0 : Int), (0 : Int), (0 : Int))).2.1) < (x.2.getD x_2.2.toNat ((0 : Int), (0 : Int), (0 : Int))).1) || decide ((x.2.getD x_2.2.toNat ((0 : Int), (0 : Int), (0 : Int))).1 % (x.2.getD x_2.2.toNat ((0 : Int), (0 : Int), (0 : Int))).2.1 ≠ (0 : Int)) || decide ((x.2.getD x_2.2.toNat ((0 : Int), (0 : Int), (0 : Int))).2.1 < (x.2.getD x_2.2.toNat ((0 : Int), (0 : Int), (0 : Int))).2.2) || decide (IntKind.i64.wrap ((2 : Int) * (x.2.getD x_2.2.toNat ((0 : Int), (0 : Int), (0 : Int))).2.2) ≤ (x.2.getD x_2.2.toNat ((0 : Int), (0 : Int), (0 : Int))).2.1) && decide ((1 : Int) < (x.2.getD x_2.2.toNat ((0 : Int), (0 : Int), (0 : Int))).2.1) || decide ((x.2.getD x_2.2.toNat ((0 : Int), (0 : Int), (0 : Int))).2.2 < (1 : Int))) = true → (3 : Int) = halvesF x ∧ True) ∧ ((!x_3.1 || decide ((x.2.getD x_2.2.toNat ((0 : Int), (0 : Int), (0 : Int))).1 < x_2.1) || decide (IntKind.i64.wrap (x_1.1 - (x.2.getD x_2.2.toNat ((0 : Int), (0 : Int), (0 : Int))).2.1) < (x.2.getD x_2.2.toNat ((0 : Int), (0 : Int), (0 : Int))).1) || decide ((x.2.getD x_2.2.toNat ((0 : Int), (0 : Int), (0 : Int))).1 % (x.2.getD x_2.2.toNat ((0 : Int), (0 : Int), (0 : Int))).2.1 ≠ (0 : Int)) || decide ((x.2.getD x_2.2.toNat ((0 : Int), (0 : Int), (0 : Int))).2.1 < (x.2.getD x_2.2.toNat ((0 : Int), (0 : Int), (0 : Int))).2.2) || decide (IntKind.i64.wrap ((2 : Int) * (x.2.getD x_2.2.toNat ((0 : Int), (0 : Int), (0 : Int))).2.2) ≤ (x.2.getD x_2.2.toNat ((0 : Int), (0 : Int), (0 : Int))).2.1) && decide ((1 : Int) < (x.2.getD x_2.2.toNat ((0 : Int), (0 : Int), (0 : Int))).2.1) || decide ((x.2.getD x_2.2.toNat ((0 : Int), (0 : Int), (0 : Int))).2.2 < (1 : Int))) = false → ((0 : Int) ≤ IntKind.i64.wrap (x_2.2 + (1 : Int)) ∧ IntKind.i64.wrap (x_2.2 + (1 : Int)) ≤ (↑x.2.length : Int) ∧ (0 : Int) ≤ IntKind.i64.wrap ((x.2.getD x_2.2.toNat ((0 : Int), (0 : Int), (0 : Int))).1 + (x.2.getD x_2.2.toNat ((0 : Int), (0 : Int), (0 : Int))).2.1) ∧ IntKind.i64.wrap ((x.2.getD x_2.2.toNat ((0 : Int), (0 : Int), (0 : Int))).1 + (x.2.getD x_2.2.toNat ((0 : Int), (0 : Int), (0 : Int))).2.1) ≤ (512 : Int) ∧ roomScan x_1.1 (IntKind.i64.wrap ((x.2.getD x_2.2.toNat ((0 : Int), (0 : Int), (0 : Int))).1 + (x.2.getD x_2.2.toNat ((0 : Int), (0 : Int), (0 : Int))).2.1)) (List.drop (IntKind.i64.wrap (x_2.2 + (1 : Int))).toNat x.2) = roomScan x_1.1 (0 : Int) x.2) ∧ ((↑x.2.length : Int) - IntKind.i64.wrap (x_2.2 + (1 : Int))).toNat < ((↑x.2.length : Int) - x_2.2).toNat))) ∧ (decide (x_2.2 < (↑x.2.length : Int)) = false → (0 : Int) = halvesF x ∧ True)))
theorem vcp_rHalves : pv_rHalves := by
  unfold pv_rHalves
  intro ⟨o, l⟩ ⟨_, hb, hlr⟩ _
  unfold big at hb
  simp only at hb hlr ⊢
  have hF : halvesF (o, l) = if o < 0 ∨ 8 < o then 4 else roomScan (allOf o) 0 l := rfl
  rw [hF]
  refine ⟨fun h => ?_, fun h => ?_⟩
  · have h : o < 0 ∨ 8 < o := by simpa using h
    rw [if_pos h]
    exact ⟨rfl, trivial⟩
  have h : ¬ (o < 0 ∨ 8 < o) := by simpa using h
  rw [if_neg h]
  refine ⟨⟨by omega, by omega, by omega, by decide⟩, fun ⟨all, i⟩ ⟨i0, i1, i2, i3⟩ => ⟨fun hlt => ?_, fun hge => ?_⟩⟩
  · simp only at i0 i1 i3 hlt ⊢
    have hlt := of_decide_eq_true hlt
    rw [wrapI (by omega) (by omega), i3, allOf_step i0 (by omega)]
    exact ⟨⟨by omega, by omega, by omega, rfl⟩, by omega⟩
  simp only at i0 i1 i3 hge ⊢
  have hio : i = o := by have := of_decide_eq_false hge; omega
  subst hio
  obtain ⟨_, e2, e3, e4⟩ := allOf_is i0 i2
  rw [← i3] at e2 e3 e4 ⊢
  obtain ⟨k, hk, hkk⟩ := isPow_pow e2
  refine ⟨⟨by omega, by omega, by omega, by omega, by simp⟩, fun ⟨e, j⟩ ⟨j0, j1, j2, j3, j4⟩ => ⟨fun hlt => ?_, fun hge => ?_⟩⟩
  · simp only at j0 j1 j2 j3 j4 hlt ⊢
    have hlt := of_decide_eq_true hlt
    have hr := hlr _ (getD_mem ((0, 0, 0) : Room) j0 hlt)
    rw [drop_cons ((0, 0, 0) : Room) j0 hlt] at j4
    simp only [roomScan] at j4
    generalize l.getD j.toNat (0, 0, 0) = r at *
    obtain ⟨A, L, U⟩ := r
    simp only at hr j4 ⊢
    refine ⟨j0, hlt, ⟨⟨0, k, by omega, hk, rfl, hkk⟩, ?_⟩, fun ⟨ok, n⟩ ⟨⟨a, b, h1, h2, h3, h4⟩, h5⟩ => ⟨fun hle => ?_, fun hgt => ?_⟩⟩
    · cases hp : isPow L
      · rfl
      · have := isPow_in hp
        rw [decide_eq_false (by omega)]
        rfl
    · simp only at h3 h5 hle ⊢
      have hle := of_decide_eq_true hle
      rw [h3, h4, pow_le2] at hle
      have hp := pow_256 (a := a) (by omega)
      rw [h3, wrapI (by omega) (by omega), show ((2 ^ a : Nat) : Int) * 2 = ((2 ^ (a + 1) : Nat) : Int) by rw [pow_next]; omega]
      rw [h3] at h5
      refine ⟨⟨⟨a + 1, b, by omega, h2, rfl, h4⟩, ?_⟩, by rw [pow_next]; omega⟩
      rw [h5]
      cases hpl : isPow L
      · rw [Bool.false_and, Bool.false_and, Bool.false_or, decide_eq_false]
        intro e
        rw [e, pow_isPow (by omega)] at hpl
        cases hpl
      · obtain ⟨c, _, rfl⟩ := isPow_pow hpl
        rw [Bool.true_and, Bool.true_and, Bool.eq_iff_iff]
        simp only [Bool.or_eq_true, decide_eq_true_eq, pow_lt2]
        constructor
        · rintro (h6 | h6)
          · omega
          · have : c ≤ a := pow_le2.1 (by omega)
            omega
        · intro h6
          by_cases h7 : c < a
          · exact .inl h7
          · have : c = a := by omega
            rw [this]
            exact .inr rfl
    · simp only at h3 h5 hgt ⊢
      have hgt := of_decide_eq_false hgt
      rw [h3, h4, pow_le2] at hgt
      have hab : a = b + 1 := by omega
      have hok : ok = (isPow L && decide (L ≤ all)) := by
        rw [h5, h3]
        cases hpl : isPow L
        · rfl
        · obtain ⟨c, _, rfl⟩ := isPow_pow hpl
          rw [Bool.true_and, Bool.true_and, h4, Bool.eq_iff_iff]
          simp only [decide_eq_true_eq, pow_lt2, pow_le2]
          omega
      rw [hok]
      have hpre : (!(isPow L && decide (L ≤ all)) || decide (A < e) || decide (IntKind.i64.wrap (all - L) < A)) = false → isPow L = true ∧ 1 ≤ L ∧ L ≤ all ∧ e ≤ A ∧ A ≤ all - L := by
        intro hc
        simp only [Bool.or_eq_false_iff, Bool.not_eq_false', Bool.and_eq_true, decide_eq_true_eq, decide_eq_false_iff_not] at hc
        obtain ⟨⟨⟨c1, c2⟩, c3⟩, c4⟩ := hc
        have := isPow_in c1
        rw [wrapI (by omega) (by omega)] at c4
        exact ⟨c1, by omega, c2, by omega, by omega⟩
      have hU : 1 ≤ U → U ≤ 256 → IntKind.i64.wrap (2 * U) = 2 * U := fun _ _ => wrapI (by omega) (by omega)
      refine ⟨fun hc => ?_, fun hc => ?_, fun hc => ?_, fun hc => ?_⟩
      · have := hpre hc
        omega
      · have := hpre hc
        omega
      · rw [if_neg] at j4
        · exact ⟨j4, trivial⟩
        · rintro ⟨hp, he⟩
          obtain ⟨p1, p2, p3, p4, p5, p6, p7, p8⟩ := piece_in hp
          simp only at p1 p2 p3 p4 p5 p6 p7 p8 he
          rw [p1, decide_eq_true p3, decide_eq_false (by omega : ¬ A < e), wrapI (by omega) (by omega), decide_eq_false (by omega : ¬ all - L < A), decide_eq_false (by simpa using p6), decide_eq_false (by omega : ¬ L < U), hU (by omega) (by omega), decide_eq_false (by omega : ¬ U < 1), decide_eq_false (by omega : ¬ 2 * U ≤ L)] at hc
          simp at hc
      · rw [Bool.or_eq_false_iff, Bool.or_eq_false_iff, Bool.or_eq_false_iff, Bool.or_eq_false_iff] at hc
        obtain ⟨⟨⟨⟨c1, c2⟩, c3⟩, c4⟩, c5⟩ := hc
        obtain ⟨p1, p2, p3, p4, p5⟩ := hpre c1
        have c3 := of_decide_eq_false c3
        have c5 := of_decide_eq_false c5
        rw [hU (by omega) (by omega)] at c4
        have c6 : L / 2 < U := by
          by_cases hL : 1 < L
          · rw [decide_eq_true hL, Bool.and_true] at c4
            have := of_decide_eq_false c4
            omega
          · omega
        have c2 : A % L = 0 := by simpa using of_decide_eq_false c2
        rw [if_pos ⟨by
          simp only [pieceF]
          rw [p1, decide_eq_true p3, decide_eq_true (by omega : 0 ≤ A), decide_eq_true p5, decide_eq_true c2, decide_eq_true (by omega : U ≤ L), decide_eq_true c6]
          rfl, p4⟩] at j4
        rw [wrapI (by omega) (by omega), wrapI (by omega) (by omega)]
        exact ⟨⟨by omega, by omega, by omega, by omega, j4⟩, by omega⟩
  · simp only at j4 hge ⊢
    rw [drop_end (of_decide_eq_false hge)] at j4
    rw [← j4]
    exact ⟨rfl, trivial⟩
theorem ok_rHalves : sp_rHalves.ok Try.prog 22 := fn_ok (ann := an_rHalves) tbl_nil Try.func22 (by kernel_rfl) vcp_rHalves
def an_rOpen : Nat → Option LoopGen
  | 2 => some { rd := [.box 3 ty_Halves, .dat 1 ty_I, .dat 2 ty_I], A := fun ((h, a, n) : HalvesD × Int × Int) => { cs := [.dat 13 ty_I], inv := fun (i : Int) => 0 ≤ i ∧ i ≤ h.2.length ∧ openR (h.2.drop i.toNat) a n = openR h.2 a n, mu := fun (i : Int) => (h.2.length - i).toNat } }
  | 5 => some { rd := [.box 8 ty_Room, .dat 1 ty_I, .dat 2 ty_I], A := fun ((r, a, n) : Room × Int × Int) => { cs := [.dat 19 ty_I], inv := fun (k : Int) => 0 ≤ k ∧ k ≤ r.2.1 ∧ ∀ j : Int, 0 ≤ j → j < k → ¬ (a ≤ r.1 + j ∧ r.1 + j < a + n), mu := fun (k : Int) => (r.2.1 - k).toNat } }
  | _ => none
def sp_rOpen : Spec := { Ts := [ty_Halves, ty_I, ty_I], Rs := [.dat .bool], pre := fun ((h, a, n) : HalvesD × Int × Int) => 0 ≤ a ∧ a ≤ 256 ∧ 1 ≤ n ∧ n ≤ 512 ∧ ∀ r ∈ h.2, roomIn r, F := fun ((h, a, n) : HalvesD × Int × Int) => openR h.2 a n }
def pv_rOpen : Prop :=
    ∀ (x : (Int × List (Int × Int × Int)) × Int × Int), (InR IntKind.i64 x.1.1 ∧ x.1.2.length * (8 + (8 + 8)) ≤ big ∧ ∀ (x_1 : Int × Int × Int), x_1 ∈ x.1.2 → InR IntKind.i64 x_1.1 ∧ InR IntKind.i64 x_1.2.1 ∧ InR IntKind.i64 x_1.2.2) ∧ InR IntKind.i64 x.2.1 ∧ InR IntKind.i64 x.2.2 → (0 ≤ x.2.1 ∧ x.2.1 ≤ 256 ∧ 1 ≤ x.2.2 ∧ x.2.2 ≤ 512 ∧ ∀ (r : Room), r ∈ x.1.2 → roomIn r) → ((0 : Int) ≤ 0 ∧ 0 ≤ (↑x.1.2.length : Int) ∧ openR (List.drop (Int.toNat 0) x.1.2) x.2.1 x.2.2 = openR x.1.2 x.2.1 x.2.2) ∧ ∀ (x_1 : Int), 0 ≤ x_1 ∧ x_1 ≤ (↑x.1.2.length : Int) ∧ openR (List.drop x_1.toNat x.1.2) x.2.1 x.2.2 = openR x.1.2 x.2.1 x.2.2 → (decide (x_1 < (↑x.1.2.length : Int)) = true → 0 ≤ x_1 ∧ x_1 < (↑x.1.2.length : Int) ∧ ((0 : Int) ≤ 0 ∧ 0 ≤ (x.1.2.getD x_1.toNat (0, 0, 0)).2.1 ∧ ∀ (j : Int), 0 ≤ j → j < 0 → ¬(x.2.1 ≤ (x.1.2.getD x_1.toNat (0, 0, 0)).1 + j ∧ (x.1.2.getD x_1.toNat (0, 0, 0)).1 + j < x.2.1 + x.2.2)) ∧ ∀ (x_2 : Int), (0 ≤ x_2 ∧ x_2 ≤ (x.1.2.getD x_1.toNat (0, 0, 0)).2.1 ∧ ∀ (j : Int), 0 ≤ j → j < x_2 → ¬(x.2.1 ≤ (x.1.2.getD x_1.toNat (0, 0, 0)).1 + j ∧ (x.1.2.getD x_1.toNat (0, 0, 0)).1 + j < x.2.1 + x.2.2)) → (decide (x_2 < (x.1.2.getD x_1.toNat (0, 0, 0)).2.1) = true → InR IntKind.i64 ((x.1.2.getD x_1.toNat (0, 0, 0)).1 + x_2) ∧ (decide (x.2.1 ≤ (x.1.2.getD x_1.toNat (0, 0, 0)).1 + x_2) = true → InR IntKind.i64 ((x.1.2.getD x_1.toNat (0, 0, 0)).1 + x_2)) ∧ (decide (x.2.1 ≤ (x.1.2.getD x_1.toNat (0, 0, 0)).1 + x_2) = true → InR IntKind.i64 (x.2.1 + x.2.2)) ∧ ((decide (x.2.1 ≤ (x.1.2.getD x_1.toNat (0, 0, 0)).1 + x_2) && decide ((x.1.2.getD x_1.toNat (0, 0, 0)).1 + x_2 < x.2.1 + x.2.2)) = true → false = openR x.1.2 x.2.1 x.2.2 ∧ True) ∧ ((decide (x.2.1 ≤ (x.1.2.getD x_1.toNat (0, 0, 0)).1 + x_2) && decide ((x.1.2.getD x_1.toNat (0, 0, 0)).1 + x_2 < x.2.1 + x.2.2)) = false → InR IntKind.i64 (x_2 + 1) ∧ (0 ≤ x_2 + 1 ∧ x_2 + 1 ≤ (x.1.2.getD x_1.toNat (0, 0, 0)).2.1 ∧ ∀ (j : Int), 0 ≤ j → j < x_2 + 1 → ¬(x.2.1 ≤ (x.1.2.getD x_1.toNat (0, 0, 0)).1 + j ∧ (x.1.2.getD x_1.toNat (0, 0, 0)).1 + j < x.2.1 + x.2.2)) ∧ ((x.1.2.getD x_1.toNat (0, 0, 0)).2.1 - (x_2 + 1)).toNat < ((x.1.2.getD x_1.toNat (0, 0, 0)).2.1 - x_2).toNat)) ∧ (decide (x_2 < (x.1.2.getD x_1.toNat (0, 0, 0)).2.1) = false → InR IntKind.i64 (x_1 + 1) ∧ (0 ≤ x_1 + 1 ∧ x_1 + 1 ≤ (↑x.1.2.length : Int) ∧ openR (List.drop (x_1 + 1).toNat x.1.2) x.2.1 x.2.2 = openR x.1.2 x.2.1 x.2.2) ∧ ((↑x.1.2.length : Int) - (x_1 + 1)).toNat < ((↑x.1.2.length : Int) - x_1).toNat)) ∧ (decide (x_1 < (↑x.1.2.length : Int)) = false → true = openR x.1.2 x.2.1 x.2.2 ∧ True)
theorem vcp_rOpen : pv_rOpen := by
  unfold pv_rOpen
  intro ⟨⟨o, l⟩, a, n⟩ ⟨⟨_, hb, _⟩, _⟩ ⟨h1, h2, h3, h4, h5⟩
  unfold big at hb
  simp only at hb h1 h2 h3 h4 h5 ⊢
  refine ⟨⟨by omega, by omega, by first | trivial | rfl⟩, fun i ⟨i0, i1, i2⟩ => ⟨fun hlt => ?_, fun hge => ?_⟩⟩
  · have hlt := of_decide_eq_true hlt
    have hr := h5 _ (getD_mem ((0, 0, 0) : Room) i0 hlt)
    rw [drop_cons ((0, 0, 0) : Room) i0 hlt] at i2
    generalize l.getD i.toNat (0, 0, 0) = r at *
    unfold roomIn at hr
    have hcons : openR (r :: List.drop (i + 1).toNat l) a n = (!meetsR a n r && openR (List.drop (i + 1).toNat l) a n) := by
      unfold openR
      rw [List.any_cons, Bool.not_or]
    rw [hcons] at i2
    simp only [InR]
    refine ⟨i0, hlt, ⟨by omega, by omega, fun j _ _ => by omega⟩, fun k ⟨k0, k1, k2⟩ => ⟨fun hk => ?_, fun hk => ?_⟩⟩
    · have hk := of_decide_eq_true hk
      refine ⟨by omega, fun _ => by omega, fun _ => by omega, fun hc => ?_, fun hc => ⟨by omega, ⟨by omega, by omega, fun j j0 j1 => ?_⟩, by omega⟩⟩
      · simp only [Bool.and_eq_true, decide_eq_true_eq] at hc
        have : meetsR a n r = true := by
          simp only [meetsR, Bool.and_eq_true, decide_eq_true_eq]
          omega
        rw [this] at i2
        exact ⟨i2, trivial⟩
      · by_cases hjk : j = k
        · subst hjk
          intro h6
          rw [decide_eq_true h6.1, decide_eq_true h6.2] at hc
          cases hc
        · exact k2 j j0 (by omega)
    · have hk := of_decide_eq_false hk
      have : meetsR a n r = false := by
        cases hm : meetsR a n r
        · rfl
        · exfalso
          simp only [meetsR, Bool.and_eq_true, decide_eq_true_eq] at hm
          by_cases h6 : a ≤ r.1
          · exact k2 0 (by omega) (by omega) ⟨by omega, by omega⟩
          · exact k2 (a - r.1) (by omega) (by omega) ⟨by omega, by omega⟩
      rw [this, Bool.not_false, Bool.true_and] at i2
      exact ⟨by omega, ⟨by omega, by omega, i2⟩, by omega⟩
  · rw [drop_end (of_decide_eq_false hge)] at i2
    rw [← i2]
    exact ⟨rfl, trivial⟩
theorem ok_rOpen : sp_rOpen.ok Try.prog 82 := fn_ok (ann := an_rOpen) tbl_nil Try.func82 (by kernel_rfl) vcp_rOpen
def an_rHalfGaps : Nat → Option LoopGen
  | 4 => some { rd := [.box 1 ty_Halves, .dat 3 ty_I], A := fun ((h, all) : HalvesD × Int) => { cs := [.own 4 39 ty_Gap, .dat 12 ty_I], inv := fun ((o, i) : List Gap × Int) => 0 ≤ i ∧ i ≤ all ∧ (o.length : Int) ≤ 9 * i ∧ o = (List.range i.toNat).flatMap (atT h.2 h.1.toNat), mu := fun ((_, i) : List Gap × Int) => (all - i).toNat } }
  | 7 => some { rd := [.box 1 ty_Halves, .dat 3 ty_I, .own 4 39 ty_Gap, .dat 5 ty_I], A := fun ((h, all, o0, a) : HalvesD × Int × List Gap × Int) => { cs := [.own 4 39 ty_Gap, .dat 6 ty_I], inv := fun ((o, n) : List Gap × Int) => ∃ j : Nat, j ≤ h.1.toNat + 1 ∧ n = ((2 ^ j : Nat) : Int) ∧ (o.length : Int) ≤ o0.length + j ∧ o = o0 ++ (List.range j).flatMap (oneT h.2 h.1.toNat a.toNat), mu := fun ((_, n) : List Gap × Int) => (1024 - n).toNat } }
  | _ => none
def sp_rHalfGaps : Spec := { Ts := [ty_Halves], Rs := [.dat (.arr ty_Gap)], al := true, pre := fun (h : HalvesD) => 0 ≤ h.1 ∧ h.1 ≤ 8 ∧ ∀ r ∈ h.2, roomIn r, F := fun (h : HalvesD) => gapsI h.2 0 (allOf h.1) }
def pv_rHalfGaps : Prop :=
    ∀ (x : Int × List (Int × Int × Int)), (InR IntKind.i64 x.1 ∧ x.2.length * ((8 : Nat) + ((8 : Nat) + (8 : Nat))) ≤ big ∧ ∀ (x_1 : Int × Int × Int), x_1 ∈ x.2 → InR IntKind.i64 x_1.1 ∧ InR IntKind.i64 x_1.2.1 ∧ InR IntKind.i64 x_1.2.2) → ((0 : Int) ≤ x.1 ∧ x.1 ≤ (8 : Int) ∧ ∀ (r : Room), r ∈ x.2 → roomIn r) → (0 : Int) ≤ x.1 ∧ x.1 < (↑IntKind.i64.bits : Int) ∧ ((0 : Int) ≤ (0 : Int) ∧ (0 : Int) ≤ IntKind.i64.wrap ((1 : Int) * (2 : Int) ^ x.1.toNat) ∧ (↑(0 : Nat) : Int) ≤ (9 : Int) * (0 : Int) ∧ ([] : List (Int × Int)) = List.flatMap (atT x.2 x.1.toNat) (List.range (Int.toNat (0 : Int)))) ∧ ∀ (x_1 : List (Int × Int) × Int), (0 : Int) ≤ x_1.2 ∧ x_1.2 ≤ IntKind.i64.wrap ((1 : Int) * (2 : Int) ^ x.1.toNat) ∧ (↑x_1.1.length : Int) ≤ (9 : Int) * x_1.2 ∧ x_1.1 = List.flatMap (atT x.2 x.1.toNat) (List.range x_1.2.toNat) → (decide (x_1.2 < IntKind.i64.wrap ((1 : Int) * (2 : Int) ^ x.1.toNat)) = true → (∃ (j : Nat), j ≤ x.1.toNat + (1 : Nat) ∧ (1 : Int) = (↑((2 : Nat) ^ j) : Int) ∧ (↑x_1.1.length : Int) ≤ (↑x_1.1.length : Int) + (↑j : Int) ∧ x_1.1 = x_1.1 ++ List.flatMap (oneT x.2 x.1.toNat x_1.2.toNat) (List.range j)) ∧ ∀ (x_2 : List (Int × Int) × Int), (∃ (j : Nat), j ≤ x.1.toNat + (1 : Nat) ∧ x_2.2 = (↑((2 : Nat) ^ j) : Int) ∧ (↑x_2.1.length : Int) ≤ (↑x_1.1.length : Int) + (↑j : Int) ∧ x_2.1 = x_1.1 ++ List.flatMap (oneT x.2 x.1.toNat x_1.2.toNat) (List.range j)) → (decide (x_2.2 ≤ IntKind.i64.wrap ((1 : Int) * (2 : Int) ^ x.1.toNat)) = true → InR IntKind.i64 ((2 : Int) * x_2.2) ∧ (0 : Int) ≤ x_1.2 ∧ (0 : Int) < x_2.2 ∧ (decide (x_1.2 % x_2.2 = (0 : Int)) = true → (0 : Int) ≤ x_1.2 ∧ x_1.2 ≤ (256 : Int) ∧ (1 : Int) ≤ x_2.2 ∧ x_2.2 ≤ (512 : Int) ∧ ∀ (r : Room), r ∈ x.2 → roomIn r) ∧ (decide (IntKind.i64.wrap ((1 : Int) * (2 : Int) ^ x.1.toNat) < (2 : Int) * x_2.2) = false → (decide (x_1.2 % x_2.2 = (0 : Int)) && openR x.2 x_1.2 x_2.2) = true → (0 : Int) ≤ x_1.2) ∧ (decide (IntKind.i64.wrap ((1 : Int) * (2 : Int) ^ x.1.toNat) < (2 : Int) * x_2.2) = false → (decide (x_1.2 % x_2.2 = (0 : Int)) && openR x.2 x_1.2 x_2.2) = true → (0 : Int) < (2 : Int) * x_2.2) ∧ (decide (IntKind.i64.wrap ((1 : Int) * (2 : Int) ^ x.1.toNat) < (2 : Int) * x_2.2) = false → (decide (x_1.2 % x_2.2 = (0 : Int)) && openR x.2 x_1.2 x_2.2) = true → InR IntKind.i64 (x_1.2 / ((2 : Int) * x_2.2) * ((2 : Int) * x_2.2))) ∧ (decide (IntKind.i64.wrap ((1 : Int) * (2 : Int) ^ x.1.toNat) < (2 : Int) * x_2.2) = false → (decide (x_1.2 % x_2.2 = (0 : Int)) && openR x.2 x_1.2 x_2.2) = true → (0 : Int) ≤ x_1.2 / ((2 : Int) * x_2.2) * ((2 : Int) * x_2.2) ∧ x_1.2 / ((2 : Int) * x_2.2) * ((2 : Int) * x_2.2) ≤ (256 : Int) ∧ (1 : Int) ≤ (2 : Int) * x_2.2 ∧ (2 : Int) * x_2.2 ≤ (512 : Int) ∧ ∀ (r : Room), r ∈ x.2 → roomIn r) ∧ ((decide (x_1.2 % x_2.2 = (0 : Int)) && openR x.2 x_1.2 x_2.2 && (decide (IntKind.i64.wrap ((1 : Int) * (2 : Int) ^ x.1.toNat) < (2 : Int) * x_2.2) || !openR x.2 (x_1.2 / ((2 : Int) * x_2.2) * ((2 : Int) * x_2.2)) ((2 : Int) * x_2.2))) = true → (x_2.1.length + [(x_1.2, x_2.2)].length) * ((8 : Nat) + (8 : Nat)) ≤ big ∧ InR IntKind.i64 (x_2.2 * (2 : Int)) ∧ (∃ (j : Nat), j ≤ x.1.toNat + (1 : Nat) ∧ x_2.2 * (2 : Int) = (↑((2 : Nat) ^ j) : Int) ∧ (↑(x_2.1 ++ [(x_1.2, x_2.2)]).length : Int) ≤ (↑x_1.1.length : Int) + (↑j : Int) ∧ x_2.1 ++ [(x_1.2, x_2.2)] = x_1.1 ++ List.flatMap (oneT x.2 x.1.toNat x_1.2.toNat) (List.range j)) ∧ ((1024 : Int) - x_2.2 * (2 : Int)).toNat < ((1024 : Int) - x_2.2).toNat) ∧ ((decide (x_1.2 % x_2.2 = (0 : Int)) && openR x.2 x_1.2 x_2.2 && (decide (IntKind.i64.wrap ((1 : Int) * (2 : Int) ^ x.1.toNat) < (2 : Int) * x_2.2) || !openR x.2 (x_1.2 / ((2 : Int) * x_2.2) * ((2 : Int) * x_2.2)) ((2 : Int) * x_2.2))) = false → InR IntKind.i64 (x_2.2 * (2 : Int)) ∧ (∃ (j : Nat), j ≤ x.1.toNat + (1 : Nat) ∧ x_2.2 * (2 : Int) = (↑((2 : Nat) ^ j) : Int) ∧ (↑x_2.1.length : Int) ≤ (↑x_1.1.length : Int) + (↑j : Int) ∧ x_2.1 = x_1.1 ++ List.flatMap (oneT x.2 x.1.toNat x_1.2.toNat) (List.range j)) ∧ ((1024 : Int) - x_2.2 * (2 : Int)).toNat < ((1024 : Int) - x_2.2).toNat)) ∧ (decide (x_2.2 ≤ IntKind.i64.wrap ((1 : Int) * (2 : Int) ^ x.1.toNat)) = false → InR IntKind.i64 (x_1.2 + (1 : Int)) ∧ ((0 : Int) ≤ x_1.2 + (1 : Int) ∧ x_1.2 + (1 : Int) ≤ IntKind.i64.wrap ((1 : Int) * (2 : Int) ^ x.1.toNat) ∧ (↑x_2.1.length : Int) ≤ (9 : Int) * (x_1.2 + (1 : Int)) ∧ x_2.1 = List.flatMap (atT x.2 x.1.toNat) (List.range (x_1.2 + (1 : Int)).toNat)) ∧ (IntKind.i64.wrap ((1 : Int) * (2 : Int) ^ x.1.toNat) - (x_1.2 + (1 : Int))).toNat < (IntKind.i64.wrap ((1 : Int) * (2 : Int) ^ x.1.toNat) - x_1.2).toNat)) ∧ (decide (x_1.2 < IntKind.i64.wrap ((1 : Int) * (2 : Int) ^ x.1.toNat)) = false → x_1.1 = gapsI x.2 (0 : Int) (allOf x.1) ∧ True)
theorem vcp_rHalfGaps : pv_rHalfGaps := by
  unfold pv_rHalfGaps
  intro ⟨o, l⟩ _ ⟨h1, h2, h3⟩
  simp only at h1 h2 h3 ⊢
  obtain ⟨e1, e2, e3, e4⟩ := allOf_is h1 h2
  rw [e1]
  have eA : allOf o = ((2 ^ o.toNat : Nat) : Int) := rfl
  refine ⟨h1, by rw [show ((IntKind.i64.bits : Nat) : Int) = 64 from rfl]; omega, ⟨by omega, by omega, by omega, by simp⟩, fun ⟨g, a⟩ ⟨a0, a1, a2, a3⟩ => ⟨fun hlt => ?_, fun hge => ?_⟩⟩
  · simp only at a0 a1 a2 a3 hlt ⊢
    have hlt := of_decide_eq_true hlt
    obtain ⟨A, rfl⟩ := Int.eq_ofNat_of_zero_le a0
    rw [Int.toNat_natCast] at *
    refine ⟨⟨0, by omega, rfl, by omega, by simp⟩, fun ⟨g2, n⟩ ⟨j, j1, j2, j3, j4⟩ => ⟨fun hle => ?_, fun hgt => ?_⟩⟩
    · simp only at j2 j3 j4 hle ⊢
      have hle := of_decide_eq_true hle
      rw [j2, eA, pow_le2] at hle
      have hp := pow_256 (a := j) (by omega)
      have hn := pow_next j
      have c1 : ((A : Int) % n = 0) ↔ A % 2 ^ j = 0 := by
        rw [j2]
        omega
      have c2 : (allOf o < 2 * n) ↔ j = o.toNat := by
        rw [j2, ← hn, eA, pow_lt2]
        omega
      have c3 : (A : Int) / (2 * n) * (2 * n) = ((A / 2 ^ (j + 1) * 2 ^ (j + 1) : Nat) : Int) := by
        rw [j2, ← hn]
        push_cast
        rfl
      have c4 : A / 2 ^ (j + 1) * 2 ^ (j + 1) ≤ A := Nat.div_mul_le_self _ _
      have hc : (decide ((A : Int) % n = 0) && openR l (A : Int) n && (decide (allOf o < 2 * n) || !openR l ((A : Int) / (2 * n) * (2 * n)) (2 * n))) = condT l o.toNat A j := by
        unfold condT
        rw [c3, decide_eq_decide.2 c1, decide_eq_decide.2 c2, j2, ← hn]
      have hsnoc : (List.range (j + 1)).flatMap (oneT l o.toNat A) = (List.range j).flatMap (oneT l o.toNat A) ++ oneT l o.toNat A j := by
        rw [List.range_succ, List.flatMap_append]
        simp
      rw [hc, c3]
      rw [j2]
      simp only [InR]
      unfold big
      refine ⟨by omega, by omega, by omega, fun _ => ⟨by omega, by omega, by omega, by omega, h3⟩, fun _ _ => by omega, fun _ _ => by omega, fun _ _ => by omega, fun _ _ => ⟨by omega, by omega, by omega, by omega, h3⟩, fun hcc => ?_, fun hcc => ?_⟩
      · have e : oneT l o.toNat A j = [((A : Int), ((2 ^ j : Nat) : Int))] := by unfold oneT; rw [if_pos hcc]
        refine ⟨by simp only [List.length_cons, List.length_nil]; omega, by omega, ⟨j + 1, by omega, by omega, by simp only [List.length_append, List.length_cons, List.length_nil]; omega, ?_⟩, by omega⟩
        rw [hsnoc, e, j4, List.append_assoc]
      · have e : oneT l o.toNat A j = [] := by unfold oneT; rw [if_neg (by rw [hcc]; simp)]
        refine ⟨by omega, ⟨j + 1, by omega, by omega, by omega, ?_⟩, by omega⟩
        rw [hsnoc, e, List.append_nil]
        exact j4
    · simp only at j2 j3 j4 hgt ⊢
      have hgt := of_decide_eq_false hgt
      rw [j2, eA, pow_le2] at hgt
      have hj : j = o.toNat + 1 := by omega
      subst hj
      simp only [InR]
      refine ⟨by omega, ⟨by omega, by omega, by omega, ?_⟩, by omega⟩
      rw [show ((A : Int) + 1).toNat = A + 1 by omega, List.range_succ, List.flatMap_append, ← a3, j4]
      simp [atT]
  · simp only at a0 a1 a3 hge ⊢
    have hge := of_decide_eq_false hge
    have hae : a = allOf o := by omega
    rw [hae, eA, Int.toNat_natCast] at a3
    have hN : o.toNat ≤ 8 := by omega
    unfold gapsI
    rw [eA, lgI_pow hN, show (0 : Int).toNat = 0 from rfl, ← part_gaps l o.toNat 0 (Nat.zero_mod _), a3]
    unfold partT
    simp only [Nat.zero_add]
    exact ⟨trivial, trivial⟩
theorem ok_rHalfGaps : sp_rHalfGaps.ok Try.prog 24 := fn_ok (ann := an_rHalfGaps) (tbl_cons ok_rOpen tbl_nil) Try.func24 (by kernel_rfl) vcp_rHalfGaps
theorem room_ne (x y : Room) : (!(decide (x.1 = y.1) && (decide (x.2.1 = y.2.1) && decide (x.2.2 = y.2.2)))) = decide (x ≠ y) := by
  obtain ⟨a, b, c⟩ := x
  obtain ⟨d, e, f⟩ := y
  simp only [ne_eq, Prod.mk.injEq]
  grind
def an_rSameHalves : Nat → Option LoopGen
  | 4 => some { rd := [.box 2 ty_Halves, .box 3 ty_Halves], A := fun ((x, y) : HalvesD × HalvesD) => { cs := [.dat 23 ty_I], inv := fun (i : Int) => x.1 = y.1 ∧ x.2.length = y.2.length ∧ 0 ≤ i ∧ i ≤ x.2.length ∧ x.2.take i.toNat = y.2.take i.toNat, mu := fun (i : Int) => (x.2.length - i).toNat } }
  | _ => none
def sp_rSameHalves : Spec := { Ts := [ty_Halves, ty_Halves], Rs := [.dat .bool], pre := fun _ => True, F := fun (x : HalvesD × HalvesD) => decide (x.1 = x.2) }
def pv_rSameHalves : Prop :=
    ∀ (x : (Int × List (Int × Int × Int)) × Int × List (Int × Int × Int)), ((InR IntKind.i64 x.1.1 ∧ x.1.2.length * (8 + (8 + 8)) ≤ big ∧ ∀ (x_1 : Int × Int × Int), x_1 ∈ x.1.2 → InR IntKind.i64 x_1.1 ∧ InR IntKind.i64 x_1.2.1 ∧ InR IntKind.i64 x_1.2.2) ∧ InR IntKind.i64 x.2.1 ∧ x.2.2.length * (8 + (8 + 8)) ≤ big ∧ ∀ (x_1 : Int × Int × Int), x_1 ∈ x.2.2 → InR IntKind.i64 x_1.1 ∧ InR IntKind.i64 x_1.2.1 ∧ InR IntKind.i64 x_1.2.2) → True → ((decide (x.1.1 ≠ x.2.1) || decide ((↑x.1.2.length : Int) ≠ (↑x.2.2.length : Int))) = true → false = decide (x.1 = x.2) ∧ True) ∧ ((decide (x.1.1 ≠ x.2.1) || decide ((↑x.1.2.length : Int) ≠ (↑x.2.2.length : Int))) = false → (x.1.1 = x.2.1 ∧ x.1.2.length = x.2.2.length ∧ (0 : Int) ≤ 0 ∧ 0 ≤ (↑x.1.2.length : Int) ∧ List.take (Int.toNat 0) x.1.2 = List.take (Int.toNat 0) x.2.2) ∧ ∀ (x_1 : Int), x.1.1 = x.2.1 ∧ x.1.2.length = x.2.2.length ∧ 0 ≤ x_1 ∧ x_1 ≤ (↑x.1.2.length : Int) ∧ List.take x_1.toNat x.1.2 = List.take x_1.toNat x.2.2 → (decide (x_1 < (↑x.1.2.length : Int)) = true → 0 ≤ x_1 ∧ x_1 < (↑x.1.2.length : Int) ∧ 0 ≤ x_1 ∧ x_1 < (↑x.2.2.length : Int) ∧ ((!(decide ((x.1.2.getD x_1.toNat (0, 0, 0)).1 = (x.2.2.getD x_1.toNat (0, 0, 0)).1) && (decide ((x.1.2.getD x_1.toNat (0, 0, 0)).2.1 = (x.2.2.getD x_1.toNat (0, 0, 0)).2.1) && decide ((x.1.2.getD x_1.toNat (0, 0, 0)).2.2 = (x.2.2.getD x_1.toNat (0, 0, 0)).2.2)))) = true → false = decide (x.1 = x.2) ∧ True) ∧ ((!(decide ((x.1.2.getD x_1.toNat (0, 0, 0)).1 = (x.2.2.getD x_1.toNat (0, 0, 0)).1) && (decide ((x.1.2.getD x_1.toNat (0, 0, 0)).2.1 = (x.2.2.getD x_1.toNat (0, 0, 0)).2.1) && decide ((x.1.2.getD x_1.toNat (0, 0, 0)).2.2 = (x.2.2.getD x_1.toNat (0, 0, 0)).2.2)))) = false → InR IntKind.i64 (x_1 + 1) ∧ (x.1.1 = x.2.1 ∧ x.1.2.length = x.2.2.length ∧ 0 ≤ x_1 + 1 ∧ x_1 + 1 ≤ (↑x.1.2.length : Int) ∧ List.take (x_1 + 1).toNat x.1.2 = List.take (x_1 + 1).toNat x.2.2) ∧ ((↑x.1.2.length : Int) - (x_1 + 1)).toNat < ((↑x.1.2.length : Int) - x_1).toNat)) ∧ (decide (x_1 < (↑x.1.2.length : Int)) = false → true = decide (x.1 = x.2) ∧ True))
theorem vcp_rSameHalves : pv_rSameHalves := by
  unfold pv_rSameHalves
  intro ⟨⟨a, x⟩, b, y⟩ hw _
  have hb := hw.1.2.1
  unfold big at hb
  simp only at hb ⊢
  refine ⟨fun h => ?_, fun h => ?_⟩
  · rw [decide_eq_false]
    · exact ⟨rfl, trivial⟩
    · rintro e
      obtain ⟨rfl, rfl⟩ := Prod.mk.inj e
      simp at h
  have h : a = b ∧ x.length = y.length := by
    simp only [Bool.or_eq_false_iff, decide_eq_false_iff_not, ne_eq, Classical.not_not] at h
    exact ⟨h.1, by omega⟩
  obtain ⟨rfl, hl⟩ := h
  refine ⟨⟨rfl, hl, by omega, by omega, by simp⟩, fun i ⟨_, _, h0, h1, ht⟩ => ⟨fun hlt => ?_, fun hge => ?_⟩⟩
  · have hlt := of_decide_eq_true hlt
    rw [room_ne]
    refine ⟨h0, hlt, h0, by omega, fun hne => ?_, fun he => ?_⟩
    · have hne := of_decide_eq_true hne
      rw [decide_eq_false]
      · exact ⟨rfl, trivial⟩
      · rintro e
        obtain ⟨_, rfl⟩ := Prod.mk.inj e
        exact hne rfl
    · have he : x.getD i.toNat (0, 0, 0) = y.getD i.toNat (0, 0, 0) := by simpa using he
      refine ⟨by simp only [InR]; omega, ⟨rfl, hl, by omega, by omega, ?_⟩, by omega⟩
      rw [take_snoc ((0, 0, 0) : Room) h0 hlt, take_snoc ((0, 0, 0) : Room) h0 (by omega), ht, he]
  · have hge := of_decide_eq_false hge
    rw [take_end hge, take_end (by omega)] at ht
    subst ht
    simp
theorem ok_rSameHalves : sp_rSameHalves.ok Try.prog 21 := fn_ok (ann := an_rSameHalves) tbl_nil Try.func21 (by kernel_rfl) vcp_rSameHalves
theorem startsT {l : List Room} (h : l.Pairwise (fun r s => r.1 + r.2.1 ≤ s.1)) (h2 : ∀ r ∈ l, roomIn r) : l.Pairwise (fun r s => r.1 < s.1) := by
  induction l with
  | nil => exact List.Pairwise.nil
  | cons r l ih =>
    obtain ⟨p1, p2⟩ := List.pairwise_cons.1 h
    refine List.pairwise_cons.2 ⟨fun s hs => ?_, ih p2 fun s hs => h2 s (List.mem_cons_of_mem _ hs)⟩
    have := p1 s hs
    have h3 := h2 r List.mem_cons_self
    unfold roomIn at h3
    omega
def takeTF (h : HalvesD) (n : Int) : HalvesD × Gap × Int :=
  if halvesF h ≠ 0 then ((0, []), (0, 0), halvesF h) else if n < 1 ∨ allOf h.1 < n then ((0, []), (0, 0), 4) else
  if (bestG n (gapsI h.2 0 (allOf h.1))).2 = 0 then ((0, []), (0, 0), 7) else
  ((h.1, insT ((bestG n (gapsI h.2 0 (allOf h.1))).1, pwOf n, n) h.2), ((bestG n (gapsI h.2 0 (allOf h.1))).1, pwOf n), 0)
def an_takeT : Nat → Option LoopGen
  | 8 => some { rd := [.dat 36 (.arr ty_Gap), .dat 1 ty_I], A := fun ((l, n) : List Gap × Int) => { cs := [.box 9 ty_Gap, .dat 38 ty_I], inv := fun ((b, i) : Gap × Int) => 0 ≤ i ∧ i ≤ l.length ∧ b = bestG n (l.take i.toNat), mu := fun ((_, i) : Gap × Int) => (l.length - i).toNat } }
  | 15 => some { rd := [.box 9 ty_Gap, .dat 1 ty_I], A := fun ((b0, n) : Gap × Int) => { cs := [.box 9 ty_Gap], inv := fun (b : Gap) => b.1 = b0.1 ∧ isPow b.2 = true ∧ n ≤ b.2 ∧ 1 ≤ n, mu := fun (b : Gap) => b.2.toNat } }
  | 18 => some { rd := [.box 2 ty_Halves, .box 9 ty_Gap], A := fun ((h, b) : HalvesD × Gap) => { cs := [.dat 12 ty_I], inv := fun (i : Int) => 0 ≤ i ∧ i ≤ h.2.length ∧ ∀ r ∈ h.2.take i.toNat, r.1 < b.1, mu := fun (i : Int) => (h.2.length - i).toNat } }
  | 5000020 => some { rd := [.box 2 ty_Halves, .box 9 ty_Gap, .dat 12 ty_I, .dat 1 ty_I], A := fun ((h, b, i, n) : HalvesD × Gap × Int × Int) => { cs := [.boxS 2 [.dat ty_I, .own 52 ty_Room]], inv := fun ((o, l) : Int × List Room) => o = h.1 ∧ l = insG h.2 [(b.1, b.2, n)] i, mu := fun _ => 0 } }
  | _ => none
def sp_takeT : Spec := { Ts := [ty_Halves, ty_I], Rs := [.dat ty_Halves, .dat ty_Gap, .dat ty_I], al := true, pre := fun _ => True, F := fun ((h, n) : HalvesD × Int) => takeTF h n }
def pv_takeT : Prop :=
    ∀ (x : (Int × List (Int × Int × Int)) × Int), (InR IntKind.i64 x.1.1 ∧ x.1.2.length * (8 + (8 + 8)) ≤ big ∧ ∀ (x_1 : Int × Int × Int), x_1 ∈ x.1.2 → InR IntKind.i64 x_1.1 ∧ InR IntKind.i64 x_1.2.1 ∧ InR IntKind.i64 x_1.2.2) ∧ InR IntKind.i64 x.2 → True → True ∧ (decide ((gapsHF x.1).2 ≠ 0) = true → (0, ([] : List (Int × Int × Int))) = (takeTF x.1 x.2).1 ∧ (0, 0) = (takeTF x.1 x.2).2.1 ∧ (gapsHF x.1).2 = (takeTF x.1 x.2).2.2 ∧ True) ∧ (decide ((gapsHF x.1).2 ≠ 0) = false → (decide (x.2 < 1) = false → 0 ≤ x.1.1) ∧ (decide (x.2 < 1) = false → x.1.1 < (↑IntKind.i64.bits : Int)) ∧ ((decide (x.2 < 1) || decide (IntKind.i64.wrap (1 * 2 ^ x.1.1.toNat) < x.2)) = true → (0, ([] : List (Int × Int × Int))) = (takeTF x.1 x.2).1 ∧ (0, 0) = (takeTF x.1 x.2).2.1 ∧ 4 = (takeTF x.1 x.2).2.2 ∧ True) ∧ ((decide (x.2 < 1) || decide (IntKind.i64.wrap (1 * 2 ^ x.1.1.toNat) < x.2)) = false → ((0 : Int) ≤ 0 ∧ 0 ≤ (↑(gapsHF x.1).1.length : Int) ∧ (0, 0) = bestG x.2 (List.take (Int.toNat 0) (gapsHF x.1).1)) ∧ ∀ (x_1 : (Int × Int) × Int), 0 ≤ x_1.2 ∧ x_1.2 ≤ (↑(gapsHF x.1).1.length : Int) ∧ x_1.1 = bestG x.2 (List.take x_1.2.toNat (gapsHF x.1).1) → (decide (x_1.2 < (↑(gapsHF x.1).1.length : Int)) = true → 0 ≤ x_1.2 ∧ x_1.2 < (↑(gapsHF x.1).1.length : Int) ∧ ((decide (x.2 ≤ ((gapsHF x.1).1.getD x_1.2.toNat (0, 0)).2) && (decide (x_1.1.2 = 0) || decide (((gapsHF x.1).1.getD x_1.2.toNat (0, 0)).2 < x_1.1.2))) = true → InR IntKind.i64 (x_1.2 + 1) ∧ (0 ≤ x_1.2 + 1 ∧ x_1.2 + 1 ≤ (↑(gapsHF x.1).1.length : Int) ∧ (gapsHF x.1).1.getD x_1.2.toNat (0, 0) = bestG x.2 (List.take (x_1.2 + 1).toNat (gapsHF x.1).1)) ∧ ((↑(gapsHF x.1).1.length : Int) - (x_1.2 + 1)).toNat < ((↑(gapsHF x.1).1.length : Int) - x_1.2).toNat) ∧ ((decide (x.2 ≤ ((gapsHF x.1).1.getD x_1.2.toNat (0, 0)).2) && (decide (x_1.1.2 = 0) || decide (((gapsHF x.1).1.getD x_1.2.toNat (0, 0)).2 < x_1.1.2))) = false → InR IntKind.i64 (x_1.2 + 1) ∧ (0 ≤ x_1.2 + 1 ∧ x_1.2 + 1 ≤ (↑(gapsHF x.1).1.length : Int) ∧ x_1.1 = bestG x.2 (List.take (x_1.2 + 1).toNat (gapsHF x.1).1)) ∧ ((↑(gapsHF x.1).1.length : Int) - (x_1.2 + 1)).toNat < ((↑(gapsHF x.1).1.length : Int) - x_1.2).toNat)) ∧ (decide (x_1.2 < (↑(gapsHF x.1).1.length : Int)) = false → (decide (x_1.1.2 = 0) = true → (0, ([] : List (Int × Int × Int))) = (takeTF x.1 x.2).1 ∧ (0, 0) = (takeTF x.1 x.2).2.1 ∧ 7 = (takeTF x.1 x.2).2.2 ∧ True) ∧ (decide (x_1.1.2 = 0) = false → (x_1.1.1 = x_1.1.1 ∧ isPow x_1.1.2 = true ∧ x.2 ≤ x_1.1.2 ∧ 1 ≤ x.2) ∧ ∀ (x_2 : Int × Int), x_2.1 = x_1.1.1 ∧ isPow x_2.2 = true ∧ x.2 ≤ x_2.2 ∧ 1 ≤ x.2 → 0 ≤ x_2.2 ∧ (0 : Int) < 2 ∧ (decide (x.2 ≤ x_2.2 / 2) = true → 0 ≤ x_2.2 ∧ (0 : Int) < 2 ∧ (x_2.1 = x_1.1.1 ∧ isPow (x_2.2 / 2) = true ∧ x.2 ≤ x_2.2 / 2 ∧ 1 ≤ x.2) ∧ (x_2.2 / 2).toNat < x_2.2.toNat) ∧ (decide (x.2 ≤ x_2.2 / 2) = false → ((0 : Int) ≤ 0 ∧ 0 ≤ (↑x.1.2.length : Int) ∧ ∀ (r : Room), r ∈ List.take (Int.toNat 0) x.1.2 → r.1 < x_2.1) ∧ ∀ (x_3 : Int), (0 ≤ x_3 ∧ x_3 ≤ (↑x.1.2.length : Int) ∧ ∀ (r : Room), r ∈ List.take x_3.toNat x.1.2 → r.1 < x_2.1) → (decide (x_3 < (↑x.1.2.length : Int)) = true → 0 ≤ x_3) ∧ (decide (x_3 < (↑x.1.2.length : Int)) = true → x_3 < (↑x.1.2.length : Int)) ∧ ((decide (x_3 < (↑x.1.2.length : Int)) && decide ((x.1.2.getD x_3.toNat (0, 0, 0)).1 < x_2.1)) = true → InR IntKind.i64 (x_3 + 1) ∧ (0 ≤ x_3 + 1 ∧ x_3 + 1 ≤ (↑x.1.2.length : Int) ∧ ∀ (r : Room), r ∈ List.take (x_3 + 1).toNat x.1.2 → r.1 < x_2.1) ∧ ((↑x.1.2.length : Int) - (x_3 + 1)).toNat < ((↑x.1.2.length : Int) - x_3).toNat) ∧ ((decide (x_3 < (↑x.1.2.length : Int)) && decide ((x.1.2.getD x_3.toNat (0, 0, 0)).1 < x_2.1)) = false → (((True ∧ ((((((0 < [(x_2.1, x_2.2, x.2)].length ∧ 0 ≤ x_3 ∧ x_3 ≤ (↑x.1.2.length : Int) ∧ (x.1.2.length + [(x_2.1, x_2.2, x.2)].length) * (8 + (8 + 8)) ≤ big) ∧ (x.1.1 = x.1.1 ∧ insG x.1.2 [(x_2.1, x_2.2, x.2)] x_3 = insG x.1.2 [(x_2.1, x_2.2, x.2)] x_3) ∧ True) ∧ True) ∧ True) ∧ True) ∧ True) ∧ ((((((0 < [(x_2.1, x_2.2, x.2)].length ∧ 0 ≤ x_3 ∧ x_3 ≤ (↑x.1.2.length : Int) ∧ (x.1.2.length + [(x_2.1, x_2.2, x.2)].length) * (8 + (8 + 8)) ≤ big) ∧ (x.1.1 = x.1.1 ∧ insG x.1.2 [(x_2.1, x_2.2, x.2)] x_3 = insG x.1.2 [(x_2.1, x_2.2, x.2)] x_3) ∧ True) ∧ True) ∧ True) ∧ True) ∧ True) ∧ True) ∧ ((True ∧ (((((0 < [(x_2.1, x_2.2, x.2)].length ∧ 0 ≤ x_3 ∧ x_3 ≤ (↑x.1.2.length : Int) ∧ (x.1.2.length + [(x_2.1, x_2.2, x.2)].length) * (8 + (8 + 8)) ≤ big) ∧ (x.1.1 = x.1.1 ∧ insG x.1.2 [(x_2.1, x_2.2, x.2)] x_3 = insG x.1.2 [(x_2.1, x_2.2, x.2)] x_3) ∧ True) ∧ True) ∧ True) ∧ True) ∧ True) ∧ ((True ∧ ((((0 < [(x_2.1, x_2.2, x.2)].length ∧ 0 ≤ x_3 ∧ x_3 ≤ (↑x.1.2.length : Int) ∧ (x.1.2.length + [(x_2.1, x_2.2, x.2)].length) * (8 + (8 + 8)) ≤ big) ∧ (x.1.1 = x.1.1 ∧ insG x.1.2 [(x_2.1, x_2.2, x.2)] x_3 = insG x.1.2 [(x_2.1, x_2.2, x.2)] x_3) ∧ True) ∧ True) ∧ True) ∧ True) ∧ ((True ∧ (((0 < [(x_2.1, x_2.2, x.2)].length ∧ 0 ≤ x_3 ∧ x_3 ≤ (↑x.1.2.length : Int) ∧ (x.1.2.length + [(x_2.1, x_2.2, x.2)].length) * (8 + (8 + 8)) ≤ big) ∧ (x.1.1 = x.1.1 ∧ insG x.1.2 [(x_2.1, x_2.2, x.2)] x_3 = insG x.1.2 [(x_2.1, x_2.2, x.2)] x_3) ∧ True) ∧ True) ∧ True) ∧ ((True ∧ ((0 < [(x_2.1, x_2.2, x.2)].length ∧ 0 ≤ x_3 ∧ x_3 ≤ (↑x.1.2.length : Int) ∧ (x.1.2.length + [(x_2.1, x_2.2, x.2)].length) * (8 + (8 + 8)) ≤ big) ∧ (x.1.1 = x.1.1 ∧ insG x.1.2 [(x_2.1, x_2.2, x.2)] x_3 = insG x.1.2 [(x_2.1, x_2.2, x.2)] x_3) ∧ True) ∧ True) ∧ True) ∧ True) ∧ True) ∧ True) ∧ ((True ∧ (((((0 < [(x_2.1, x_2.2, x.2)].length ∧ 0 ≤ x_3 ∧ x_3 ≤ (↑x.1.2.length : Int) ∧ (x.1.2.length + [(x_2.1, x_2.2, x.2)].length) * (8 + (8 + 8)) ≤ big) ∧ (x.1.1 = x.1.1 ∧ insG x.1.2 [(x_2.1, x_2.2, x.2)] x_3 = insG x.1.2 [(x_2.1, x_2.2, x.2)] x_3) ∧ True) ∧ True) ∧ True) ∧ True) ∧ True) ∧ ((True ∧ ((((0 < [(x_2.1, x_2.2, x.2)].length ∧ 0 ≤ x_3 ∧ x_3 ≤ (↑x.1.2.length : Int) ∧ (x.1.2.length + [(x_2.1, x_2.2, x.2)].length) * (8 + (8 + 8)) ≤ big) ∧ (x.1.1 = x.1.1 ∧ insG x.1.2 [(x_2.1, x_2.2, x.2)] x_3 = insG x.1.2 [(x_2.1, x_2.2, x.2)] x_3) ∧ True) ∧ True) ∧ True) ∧ True) ∧ ((True ∧ (((0 < [(x_2.1, x_2.2, x.2)].length ∧ 0 ≤ x_3 ∧ x_3 ≤ (↑x.1.2.length : Int) ∧ (x.1.2.length + [(x_2.1, x_2.2, x.2)].length) * (8 + (8 + 8)) ≤ big) ∧ (x.1.1 = x.1.1 ∧ insG x.1.2 [(x_2.1, x_2.2, x.2)] x_3 = insG x.1.2 [(x_2.1, x_2.2, x.2)] x_3) ∧ True) ∧ True) ∧ True) ∧ ((True ∧ ((0 < [(x_2.1, x_2.2, x.2)].length ∧ 0 ≤ x_3 ∧ x_3 ≤ (↑x.1.2.length : Int) ∧ (x.1.2.length + [(x_2.1, x_2.2, x.2)].length) * (8 + (8 + 8)) ≤ big) ∧ (x.1.1 = x.1.1 ∧ insG x.1.2 [(x_2.1, x_2.2, x.2)] x_3 = insG x.1.2 [(x_2.1, x_2.2, x.2)] x_3) ∧ True) ∧ True) ∧ True) ∧ True) ∧ True) ∧ True) ∧ True) ∧ (((True ∧ (((((0 < [(x_2.1, x_2.2, x.2)].length ∧ 0 ≤ x_3 ∧ x_3 ≤ (↑x.1.2.length : Int) ∧ (x.1.2.length + [(x_2.1, x_2.2, x.2)].length) * (8 + (8 + 8)) ≤ big) ∧ (x.1.1 = x.1.1 ∧ insG x.1.2 [(x_2.1, x_2.2, x.2)] x_3 = insG x.1.2 [(x_2.1, x_2.2, x.2)] x_3) ∧ True) ∧ True) ∧ True) ∧ True) ∧ True) ∧ ((True ∧ ((((0 < [(x_2.1, x_2.2, x.2)].length ∧ 0 ≤ x_3 ∧ x_3 ≤ (↑x.1.2.length : Int) ∧ (x.1.2.length + [(x_2.1, x_2.2, x.2)].length) * (8 + (8 + 8)) ≤ big) ∧ (x.1.1 = x.1.1 ∧ insG x.1.2 [(x_2.1, x_2.2, x.2)] x_3 = insG x.1.2 [(x_2.1, x_2.2, x.2)] x_3) ∧ True) ∧ True) ∧ True) ∧ True) ∧ ((True ∧ (((0 < [(x_2.1, x_2.2, x.2)].length ∧ 0 ≤ x_3 ∧ x_3 ≤ (↑x.1.2.length : Int) ∧ (x.1.2.length + [(x_2.1, x_2.2, x.2)].length) * (8 + (8 + 8)) ≤ big) ∧ (x.1.1 = x.1.1 ∧ insG x.1.2 [(x_2.1, x_2.2, x.2)] x_3 = insG x.1.2 [(x_2.1, x_2.2, x.2)] x_3) ∧ True) ∧ True) ∧ True) ∧ ((True ∧ ((0 < [(x_2.1, x_2.2, x.2)].length ∧ 0 ≤ x_3 ∧ x_3 ≤ (↑x.1.2.length : Int) ∧ (x.1.2.length + [(x_2.1, x_2.2, x.2)].length) * (8 + (8 + 8)) ≤ big) ∧ (x.1.1 = x.1.1 ∧ insG x.1.2 [(x_2.1, x_2.2, x.2)] x_3 = insG x.1.2 [(x_2.1, x_2.2, x.2)] x_3) ∧ True) ∧ True) ∧ True) ∧ True) ∧ True) ∧ True) ∧ (((True ∧ ((((0 < [(x_2.1, x_2.2, x.2)].length ∧ 0 ≤ x_3 ∧ x_3 ≤ (↑x.1.2.length : Int) ∧ (x.1.2.length + [(x_2.1, x_2.2, x.2)].length) * (8 + (8 + 8)) ≤ big) ∧ (x.1.1 = x.1.1 ∧ insG x.1.2 [(x_2.1, x_2.2, x.2)] x_3 = insG x.1.2 [(x_2.1, x_2.2, x.2)] x_3) ∧ True) ∧ True) ∧ True) ∧ True) ∧ ((True ∧ (((0 < [(x_2.1, x_2.2, x.2)].length ∧ 0 ≤ x_3 ∧ x_3 ≤ (↑x.1.2.length : Int) ∧ (x.1.2.length + [(x_2.1, x_2.2, x.2)].length) * (8 + (8 + 8)) ≤ big) ∧ (x.1.1 = x.1.1 ∧ insG x.1.2 [(x_2.1, x_2.2, x.2)] x_3 = insG x.1.2 [(x_2.1, x_2.2, x.2)] x_3) ∧ True) ∧ True) ∧ True) ∧ ((True ∧ ((0 < [(x_2.1, x_2.2, x.2)].length ∧ 0 ≤ x_3 ∧ x_3 ≤ (↑x.1.2.length : Int) ∧ (x.1.2.length + [(x_2.1, x_2.2, x.2)].length) * (8 + (8 + 8)) ≤ big) ∧ (x.1.1 = x.1.1 ∧ insG x.1.2 [(x_2.1, x_2.2, x.2)] x_3 = insG x.1.2 [(x_2.1, x_2.2, x.2)] x_3) ∧ True) ∧ True) ∧ True) ∧ True) ∧ True) ∧ (((True ∧ (((0 < [(x_2.1, x_2.2, x.2)].length ∧ 0 ≤ x_3 ∧ x_3 ≤ (↑x.1.2.length : Int) ∧ (x.1.2.length + [(x_2.1, x_2.2, x.2)].length) * (8 + (8 + 8)) ≤ big) ∧ (x.1.1 = x.1.1 ∧ insG x.1.2 [(x_2.1, x_2.2, x.2)] x_3 = insG x.1.2 [(x_2.1, x_2.2, x.2)] x_3) ∧ True) ∧ True) ∧ True) ∧ ((True ∧ ((0 < [(x_2.1, x_2.2, x.2)].length ∧ 0 ≤ x_3 ∧ x_3 ≤ (↑x.1.2.length : Int) ∧ (x.1.2.length + [(x_2.1, x_2.2, x.2)].length) * (8 + (8 + 8)) ≤ big) ∧ (x.1.1 = x.1.1 ∧ insG x.1.2 [(x_2.1, x_2.2, x.2)] x_3 = insG x.1.2 [(x_2.1, x_2.2, x.2)] x_3) ∧ True) ∧ True) ∧ True) ∧ True) ∧ (((True ∧ ((0 < [(x_2.1, x_2.2, x.2)].length ∧ 0 ≤ x_3 ∧ x_3 ≤ (↑x.1.2.length : Int) ∧ (x.1.2.length + [(x_2.1, x_2.2, x.2)].length) * (8 + (8 + 8)) ≤ big) ∧ (x.1.1 = x.1.1 ∧ insG x.1.2 [(x_2.1, x_2.2, x.2)] x_3 = insG x.1.2 [(x_2.1, x_2.2, x.2)] x_3) ∧ True) ∧ True) ∧ True) ∧ True) ∧ True) ∧ True) ∧ True) ∧ (((True ∧ (((((0 < [(x_2.1, x_2.2, x.2)].length ∧ 0 ≤ x_3 ∧ x_3 ≤ (↑x.1.2.length : Int) ∧ (x.1.2.length + [(x_2.1, x_2.2, x.2)].length) * (8 + (8 + 8)) ≤ big) ∧ (x.1.1 = x.1.1 ∧ insG x.1.2 [(x_2.1, x_2.2, x.2)] x_3 = insG x.1.2 [(x_2.1, x_2.2, x.2)] x_3) ∧ True) ∧ True) ∧ True) ∧ True) ∧ True) ∧ ((True ∧ ((((0 < [(x_2.1, x_2.2, x.2)].length ∧ 0 ≤ x_3 ∧ x_3 ≤ (↑x.1.2.length : Int) ∧ (x.1.2.length + [(x_2.1, x_2.2, x.2)].length) * (8 + (8 + 8)) ≤ big) ∧ (x.1.1 = x.1.1 ∧ insG x.1.2 [(x_2.1, x_2.2, x.2)] x_3 = insG x.1.2 [(x_2.1, x_2.2, x.2)] x_3) ∧ True) ∧ True) ∧ True) ∧ True) ∧ ((True ∧ (((0 < [(x_2.1, x_2.2, x.2)].length ∧ 0 ≤ x_3 ∧ x_3 ≤ (↑x.1.2.length : Int) ∧ (x.1.2.length + [(x_2.1, x_2.2, x.2)].length) * (8 + (8 + 8)) ≤ big) ∧ (x.1.1 = x.1.1 ∧ insG x.1.2 [(x_2.1, x_2.2, x.2)] x_3 = insG x.1.2 [(x_2.1, x_2.2, x.2)] x_3) ∧ True) ∧ True) ∧ True) ∧ ((True ∧ ((0 < [(x_2.1, x_2.2, x.2)].length ∧ 0 ≤ x_3 ∧ x_3 ≤ (↑x.1.2.length : Int) ∧ (x.1.2.length + [(x_2.1, x_2.2, x.2)].length) * (8 + (8 + 8)) ≤ big) ∧ (x.1.1 = x.1.1 ∧ insG x.1.2 [(x_2.1, x_2.2, x.2)] x_3 = insG x.1.2 [(x_2.1, x_2.2, x.2)] x_3) ∧ True) ∧ True) ∧ True) ∧ True) ∧ True) ∧ True) ∧ (((True ∧ ((((0 < [(x_2.1, x_2.2, x.2)].length ∧ 0 ≤ x_3 ∧ x_3 ≤ (↑x.1.2.length : Int) ∧ (x.1.2.length + [(x_2.1, x_2.2, x.2)].length) * (8 + (8 + 8)) ≤ big) ∧ (x.1.1 = x.1.1 ∧ insG x.1.2 [(x_2.1, x_2.2, x.2)] x_3 = insG x.1.2 [(x_2.1, x_2.2, x.2)] x_3) ∧ True) ∧ True) ∧ True) ∧ True) ∧ ((True ∧ (((0 < [(x_2.1, x_2.2, x.2)].length ∧ 0 ≤ x_3 ∧ x_3 ≤ (↑x.1.2.length : Int) ∧ (x.1.2.length + [(x_2.1, x_2.2, x.2)].length) * (8 + (8 + 8)) ≤ big) ∧ (x.1.1 = x.1.1 ∧ insG x.1.2 [(x_2.1, x_2.2, x.2)] x_3 = insG x.1.2 [(x_2.1, x_2.2, x.2)] x_3) ∧ True) ∧ True) ∧ True) ∧ ((True ∧ ((0 < [(x_2.1, x_2.2, x.2)].length ∧ 0 ≤ x_3 ∧ x_3 ≤ (↑x.1.2.length : Int) ∧ (x.1.2.length + [(x_2.1, x_2.2, x.2)].length) * (8 + (8 + 8)) ≤ big) ∧ (x.1.1 = x.1.1 ∧ insG x.1.2 [(x_2.1, x_2.2, x.2)] x_3 = insG x.1.2 [(x_2.1, x_2.2, x.2)] x_3) ∧ True) ∧ True) ∧ True) ∧ True) ∧ True) ∧ (((True ∧ (((0 < [(x_2.1, x_2.2, x.2)].length ∧ 0 ≤ x_3 ∧ x_3 ≤ (↑x.1.2.length : Int) ∧ (x.1.2.length + [(x_2.1, x_2.2, x.2)].length) * (8 + (8 + 8)) ≤ big) ∧ (x.1.1 = x.1.1 ∧ insG x.1.2 [(x_2.1, x_2.2, x.2)] x_3 = insG x.1.2 [(x_2.1, x_2.2, x.2)] x_3) ∧ True) ∧ True) ∧ True) ∧ ((True ∧ ((0 < [(x_2.1, x_2.2, x.2)].length ∧ 0 ≤ x_3 ∧ x_3 ≤ (↑x.1.2.length : Int) ∧ (x.1.2.length + [(x_2.1, x_2.2, x.2)].length) * (8 + (8 + 8)) ≤ big) ∧ (x.1.1 = x.1.1 ∧ insG x.1.2 [(x_2.1, x_2.2, x.2)] x_3 = insG x.1.2 [(x_2.1, x_2.2, x.2)] x_3) ∧ True) ∧ True) ∧ True) ∧ True) ∧ (((True ∧ ((0 < [(x_2.1, x_2.2, x.2)].length ∧ 0 ≤ x_3 ∧ x_3 ≤ (↑x.1.2.length : Int) ∧ (x.1.2.length + [(x_2.1, x_2.2, x.2)].length) * (8 + (8 + 8)) ≤ big) ∧ (x.1.1 = x.1.1 ∧ insG x.1.2 [(x_2.1, x_2.2, x.2)] x_3 = insG x.1.2 [(x_2.1, x_2.2, x.2)] x_3) ∧ True) ∧ True) ∧ True) ∧ True) ∧ True) ∧ True) ∧ True) ∧ True) ∧ ∀ (x_4 : Int × List (Int × Int × Int)), x_4.1 = x.1.1 ∧ x_4.2 = insG x.1.2 [(x_2.1, x_2.2, x.2)] x_3 → x_2.1 = x_2.1 ∧ x_2.2 = x_2.2 ∧ x_4 = (takeTF x.1 x.2).1 ∧ x_2 = (takeTF x.1 x.2).2.1 ∧ 0 = (takeTF x.1 x.2).2.2 ∧ True))))))
theorem vcp_takeT : pv_takeT := by
  unfold pv_takeT
  intro ⟨⟨o, l⟩, n⟩ ⟨⟨_, hb, _⟩, hn⟩ _
  unfold big at hb
  simp only at hb hn ⊢
  have hG : gapsHF (o, l) = if halvesF (o, l) ≠ 0 then ([], halvesF (o, l)) else (gapsI l 0 (allOf o), 0) := rfl
  have hT : takeTF (o, l) n = if halvesF (o, l) ≠ 0 then ((0, []), (0, 0), halvesF (o, l)) else if n < 1 ∨ allOf o < n then ((0, []), (0, 0), 4) else
    if (bestG n (gapsI l 0 (allOf o))).2 = 0 then ((0, []), (0, 0), 7) else
    ((o, insT ((bestG n (gapsI l 0 (allOf o))).1, pwOf n, n) l), ((bestG n (gapsI l 0 (allOf o))).1, pwOf n), 0) := rfl
  by_cases hf : halvesF (o, l) ≠ 0
  · rw [hG, hT, if_pos hf, if_pos hf]
    exact ⟨trivial, fun _ => ⟨rfl, rfl, rfl, trivial⟩, fun h => absurd (of_decide_eq_false h) (by simpa using hf)⟩
  rw [if_neg hf] at hG hT
  rw [hG, hT]
  obtain ⟨k1, k2, k3, k4, k5⟩ := halves_ok (h := (o, l)) (by omega)
  simp only at k1 k2 k3 k4 k5
  obtain ⟨e1, e2, e3, e4⟩ := allOf_is k1 k2
  rw [e1]
  have hll := rooms_len l 0 k4 (fun r hr => by have := k5 r hr; omega) (by omega)
  have hgin : ∀ r ∈ gapsI l 0 (allOf o), isPow r.2 = true := fun r hr => by
    have hr : r ∈ gapsT l (lgI (allOf o)) (0 : Int).toNat := hr
    obtain ⟨_, _, _, j, hj, ej⟩ := gapsT_in l _ _ r hr
    rw [show allOf o = ((2 ^ o.toNat : Nat) : Int) from rfl, lgI_pow (by omega)] at hj
    rw [ej]
    exact pow_isPow (by omega)
  have hgl := gapsI_len (t := l) (a := 0) e2
  generalize gapsI l 0 (allOf o) = gs at *
  refine ⟨trivial, fun h => absurd rfl (of_decide_eq_true h), fun _ => ⟨fun _ => k1, fun _ => by rw [show ((IntKind.i64.bits : Nat) : Int) = 64 from rfl]; omega, fun h => ?_, fun h => ⟨⟨by omega, by omega, rfl⟩, fun ⟨b, i⟩ ⟨i0, i1, i2⟩ => ⟨fun hlt => ?_, fun hge => ?_⟩⟩⟩⟩
  · have h : n < 1 ∨ allOf o < n := by simpa using h
    rw [if_pos h]
    exact ⟨rfl, rfl, rfl, trivial⟩
  all_goals have hn1 : ¬ (n < 1 ∨ allOf o < n) := by
              intro h2
              rcases h2 with h2 | h2
              · rw [decide_eq_true h2] at h; cases h
              · rw [decide_eq_true h2, Bool.or_true] at h; cases h
  · simp only at i0 i1 i2 hlt ⊢
    have hlt := of_decide_eq_true hlt
    rw [take_snoc ((0, 0) : Gap) i0 hlt, bestG_snoc, ← i2]
    generalize gs.getD i.toNat (0, 0) = r at *
    unfold bestStep
    simp only [InR]
    refine ⟨i0, hlt, fun hc => ⟨by omega, ⟨by omega, by omega, ?_⟩, by omega⟩, fun hc => ⟨by omega, ⟨by omega, by omega, ?_⟩, by omega⟩⟩
    · rw [if_pos (by simpa using hc)]
    · rw [if_neg (fun h2 => by
        have : (decide (n ≤ r.2) && (decide (b.2 = 0) || decide (r.2 < b.2))) = true := by simpa using h2
        rw [this] at hc
        cases hc)]
  · simp only at i2 hge ⊢
    rw [take_end (of_decide_eq_false hge)] at i2
    rw [if_neg hn1, ← i2]
    refine ⟨fun h0 => ?_, fun h0 => ?_⟩
    · rw [if_pos (of_decide_eq_true h0)]
      exact ⟨rfl, rfl, rfl, trivial⟩
    have h0 := of_decide_eq_false h0
    rw [if_neg h0]
    have hbb : b ∈ gs ∧ n ≤ b.2 := by
      rcases bestG_in (n := n) (by omega) gs gs (fun _ h => h) with h2 | h2
      · rw [← i2] at h2
        rw [h2] at h0
        exact absurd rfl h0
      · rw [← i2] at h2
        exact h2
    refine ⟨⟨by first | trivial | rfl, hgin b hbb.1, hbb.2, by omega⟩, fun ⟨c1, c2⟩ ⟨c3, c4, c5, c6⟩ => ?_⟩
    simp only at c3 c4 c5 ⊢
    refine ⟨by omega, by omega, fun hle => ?_, fun hgt => ?_⟩
    · have hle := of_decide_eq_true hle
      have hph := pow_half c4 c6 hle
      exact ⟨by omega, by omega, ⟨c3, hph.1, hle, c6⟩, by omega⟩
    have hgt := of_decide_eq_false hgt
    have hc2 : c2 = pwOf n := pow_end c4 c6 c5 (by omega)
    refine ⟨⟨by omega, by omega, by simp⟩, fun j ⟨j0, j1, j2⟩ => ⟨fun _ => j0, fun h2 => of_decide_eq_true h2, fun hc => ?_, fun hc => ?_⟩⟩
    · simp only [Bool.and_eq_true, decide_eq_true_eq] at hc
      refine ⟨by simp only [InR]; omega, ⟨by omega, by omega, fun r hr => ?_⟩, by omega⟩
      rw [take_snoc ((0, 0, 0) : Room) j0 hc.1] at hr
      rcases List.mem_append.1 hr with hr | hr
      · exact j2 r hr
      · rw [List.mem_singleton.1 hr]
        exact hc.2
    · have q1 : 0 < [((c1, c2, n) : Room)].length := by simp
      have q2 : (l.length + [((c1, c2, n) : Room)].length) * (8 + (8 + 8)) ≤ big := by
        simp only [List.length_cons, List.length_nil]
        unfold big
        omega
      refine ⟨?_, fun ⟨o2, l2⟩ ⟨x1, x2⟩ => ?_⟩
      · repeat' apply And.intro
        all_goals first | assumption | exact True.intro | rfl
      · simp only at x1 x2 ⊢
        have hins : insG l [(c1, c2, n)] j = insT (c1, c2, n) l := by
          have := insT_at (x := (c1, c2, n)) (l := l) (i := j.toNat) j2 (by
            by_cases h3 : j < l.length
            · refine .inr ⟨by omega, fun h4 => ?_⟩
              rw [decide_eq_true h3, decide_eq_true h4] at hc
              cases hc
            · exact .inl (by omega))
          rw [this]
          rfl
        rw [x1, x2, hins, hc2, ← c3]
        simp
theorem ok_takeT : sp_takeT.ok Try.prog 17 := fn_ok (ann := an_takeT) (tbl_cons ok_twinGaps (tbl_cons ok_cloneRooms (tbl_row ok_insRoom tbl_nil))) Try.func17 (by kernel_rfl) vcp_takeT
end Go.Proofs.Ytcnoiiohmpgckaa
