/- Package pin; the reference's PinsFault, Pinned, PinList, SamePins; the law PinTells. -/
import Derived.Test.YtbidboeemnlglaaRowPin
namespace Go.Proofs.Ytbidboeemnlglaa
open Go
set_option maxRecDepth 100000
set_option maxHeartbeats 1000000

theorem ahead_scan {p : List Pin} {i : Int} (h0 : 0 ≤ i) (h : i < p.length) : pinScan (ahead p i) (p.drop i.toNat) = if badPin (p.getD i.toNat (0, 0)) = true then 4 else if (p.getD i.toNat (0, 0)).1 ≤ ahead p i then 3 else pinScan (ahead p (i + 1)) (p.drop (i + 1).toNat) := by
  rw [drop_cons ((0, 0) : Pin) h0 h]
  have e : ahead p (i + 1) = (p.getD i.toNat (0, 0)).1 := by
    unfold ahead
    rw [if_pos (by omega), show (i + 1 - 1) = i by omega]
  rw [e]
  rfl

def sp_pinThere : Spec := { Ts := [ty_I], Rs := [.dat .bool], pre := fun _ => True, F := fun (v : Int) => decide (0 ≤ v) && decide (v < 256) }
def pv_pinThere : Prop :=
    ∀ (x : Int), InR IntKind.i64 x → True → (decide ((0 : Int) ≤ x) && decide (x < (256 : Int))) = (decide ((0 : Int) ≤ x) && decide (x < (256 : Int))) ∧ True
theorem vcp_pinThere : pv_pinThere := by
  unfold pv_pinThere
  intro v _ _
  simp
theorem e_pinThere : pv_pinThere = (fnVC Try.prog (tbl []) an_0 Try.f158 sp_pinThere) := by kernel_rfl
theorem vc_pinThere : fnVC Try.prog (tbl []) an_0 Try.f158 sp_pinThere := @Eq.mp _ _ @e_pinThere @vcp_pinThere
theorem ok_pinThere : sp_pinThere.ok Try.prog 158 := fn_sound (P := Try.prog) (ss := tbl []) (ann := an_0) (f := 158) (fn := Try.f158) (s := sp_pinThere) tbl_nil Try.func158 @vc_pinThere

def an_pinCheck : Nat → Option LoopGen
  | 4 => some { rd := [.dat 8 (.arr ty_Pin)], A := fun (p : List Pin) => { cs := [.dat 10 ty_I], inv := fun (i : Int) => 0 ≤ i ∧ i ≤ p.length ∧ pinScan (ahead p i) (p.drop i.toNat) = pinScan (-1) p, mu := fun (i : Int) => (p.length - i).toNat } }
  | _ => none
def sp_pinCheck : Spec := { Ts := [.arr ty_Pin], Rs := [.dat ty_I], pre := fun _ => True, F := fun (p : List Pin) => pinsF p }
def pv_pinCheck : Prop :=
    ∀ (x : List (Int × Int)), (x.length * ((8 : Nat) + (8 : Nat)) ≤ big ∧ ∀ (x_1 : Int × Int), x_1 ∈ x → InR IntKind.i64 x_1.fst ∧ InR IntKind.i64 x_1.snd) → True → (decide ((16 : Int) < (↑x.length : Int)) = true → (2 : Int) = pinsF x ∧ True) ∧ (decide ((16 : Int) < (↑x.length : Int)) = false → ((0 : Int) ≤ (0 : Int) ∧ (0 : Int) ≤ (↑x.length : Int) ∧ pinScan (ahead x (0 : Int)) (List.drop (Int.toNat (0 : Int)) x) = pinScan (-1 : Int) x) ∧ ∀ (x_1 : Int), (0 : Int) ≤ x_1 ∧ x_1 ≤ (↑x.length : Int) ∧ pinScan (ahead x x_1) (List.drop x_1.toNat x) = pinScan (-1 : Int) x → (decide (x_1 < (↑x.length : Int)) = true → (0 : Int) ≤ x_1 ∧ x_1 < (↑x.length : Int) ∧ True ∧ ((!(decide ((0 : Int) ≤ (x.getD x_1.toNat ((0 : Int), (0 : Int))).fst) && decide ((x.getD x_1.toNat ((0 : Int), (0 : Int))).fst < (256 : Int))) || decide ((x.getD x_1.toNat ((0 : Int), (0 : Int))).snd < (1 : Int)) || decide ((1000000 : Int) < (x.getD x_1.toNat ((0 : Int), (0 : Int))).snd)) = true → (4 : Int) = pinsF x ∧ True) ∧ ((!(decide ((0 : Int) ≤ (x.getD x_1.toNat ((0 : Int), (0 : Int))).fst) && decide ((x.getD x_1.toNat ((0 : Int), (0 : Int))).fst < (256 : Int))) || decide ((x.getD x_1.toNat ((0 : Int), (0 : Int))).snd < (1 : Int)) || decide ((1000000 : Int) < (x.getD x_1.toNat ((0 : Int), (0 : Int))).snd)) = false → (decide ((0 : Int) < x_1) = true → InR IntKind.i64 (x_1 - (1 : Int))) ∧ (decide ((0 : Int) < x_1) = true → (0 : Int) ≤ x_1 - (1 : Int)) ∧ (decide ((0 : Int) < x_1) = true → x_1 - (1 : Int) < (↑x.length : Int)) ∧ ((decide ((0 : Int) < x_1) && decide ((x.getD x_1.toNat ((0 : Int), (0 : Int))).fst ≤ (x.getD (x_1 - (1 : Int)).toNat ((0 : Int), (0 : Int))).fst)) = true → (3 : Int) = pinsF x ∧ True) ∧ ((decide ((0 : Int) < x_1) && decide ((x.getD x_1.toNat ((0 : Int), (0 : Int))).fst ≤ (x.getD (x_1 - (1 : Int)).toNat ((0 : Int), (0 : Int))).fst)) = false → InR IntKind.i64 (x_1 + (1 : Int)) ∧ ((0 : Int) ≤ x_1 + (1 : Int) ∧ x_1 + (1 : Int) ≤ (↑x.length : Int) ∧ pinScan (ahead x (x_1 + (1 : Int))) (List.drop (x_1 + (1 : Int)).toNat x) = pinScan (-1 : Int) x) ∧ ((↑x.length : Int) - (x_1 + (1 : Int))).toNat < ((↑x.length : Int) - x_1).toNat))) ∧ (decide (x_1 < (↑x.length : Int)) = false → (0 : Int) = pinsF x ∧ True))
theorem vcp_pinCheck : pv_pinCheck := by
  unfold pv_pinCheck
  intro p ⟨hb, _⟩ _
  unfold big at hb
  have hF : pinsF p = if 16 < p.length then 2 else pinScan (-1) p := rfl
  refine ⟨fun h => ?_, fun h => ?_⟩
  · rw [hF, if_pos (by have := of_decide_eq_true h; omega)]
    exact ⟨rfl, trivial⟩
  have hl : ¬ 16 < p.length := by have := of_decide_eq_false h; omega
  rw [hF, if_neg hl]
  refine ⟨⟨by omega, by omega, rfl⟩, fun i ⟨i0, i1, i2⟩ => ⟨fun hlt => ?_, fun hge => ?_⟩⟩
  · have hlt := of_decide_eq_true hlt
    rw [ahead_scan i0 hlt] at i2
    have hp : 0 < i → ahead p i = (p.getD (i - 1).toNat (0, 0)).1 := fun h => if_pos h
    have hn : ¬ 0 < i → ahead p i = -1 := fun h => if_neg h
    generalize p.getD i.toNat (0, 0) = x at *
    generalize p.getD (i - 1).toNat (0, 0) = y at *
    generalize ahead p i = q at *
    have hbad : (!(decide (0 ≤ x.1) && decide (x.1 < 256)) || decide (x.2 < 1) || decide (1000000 < x.2)) = badPin x := by
      unfold badPin
      grind
    rw [hbad]
    refine ⟨i0, hlt, trivial, fun hc => ?_, fun hc => ⟨fun _ => by simp only [InR]; omega, fun h => by have := of_decide_eq_true h; omega, fun _ => by omega, fun h2 => ?_, fun h2 => ⟨by simp only [InR]; omega, ⟨by omega, by omega, ?_⟩, by omega⟩⟩⟩
    · rw [if_pos hc] at i2
      exact ⟨i2, trivial⟩
    · rw [if_neg (by rw [hc]; simp)] at i2
      simp only [Bool.and_eq_true, decide_eq_true_eq] at h2
      rw [if_pos (by rw [hp h2.1]; exact h2.2)] at i2
      exact ⟨i2, trivial⟩
    · rw [if_neg (by rw [hc]; simp)] at i2
      have hx : 0 ≤ x.1 := by
        simp only [badPin, Bool.or_eq_false_iff, decide_eq_false_iff_not] at hc
        omega
      rw [if_neg] at i2
      · exact i2
      · intro h3
        by_cases h4 : 0 < i
        · rw [hp h4] at h3
          have : (decide (0 < i) && decide (x.1 ≤ y.1)) = true := by simp [h4, h3]
          rw [this] at h2
          cases h2
        · rw [hn h4] at h3
          omega
  · rw [drop_end (of_decide_eq_false hge)] at i2
    exact ⟨i2, trivial⟩
theorem e_pinCheck : pv_pinCheck = (fnVC Try.prog (tbl [(158, sp_pinThere)]) an_pinCheck Try.f119 sp_pinCheck) := by kernel_rfl
theorem vc_pinCheck : fnVC Try.prog (tbl [(158, sp_pinThere)]) an_pinCheck Try.f119 sp_pinCheck := @Eq.mp _ _ @e_pinCheck @vcp_pinCheck
theorem ok_pinCheck : sp_pinCheck.ok Try.prog 119 := fn_sound (P := Try.prog) (ss := tbl [(158, sp_pinThere)]) (ann := an_pinCheck) (f := 119) (fn := Try.f119) (s := sp_pinCheck) (tbl_cons ok_pinThere tbl_nil) Try.func119 @vc_pinCheck

def sp_pinsFault : Spec := { Ts := [.arr ty_Pin], Rs := [.dat ty_I], pre := fun _ => True, F := fun (p : List Pin) => pinsF p }
def pv_pinsFault : Prop :=
    ∀ (x : List (Int × Int)), (x.length * ((8 : Nat) + (8 : Nat)) ≤ big ∧ ∀ (x_1 : Int × Int), x_1 ∈ x → InR IntKind.i64 x_1.fst ∧ InR IntKind.i64 x_1.snd) → True → (decide ((16 : Int) < (↑x.length : Int)) = true → (2 : Int) = pinsF x ∧ True) ∧ (decide ((16 : Int) < (↑x.length : Int)) = false → ((0 : Int) ≤ (0 : Int) ∧ (0 : Int) ≤ (↑x.length : Int) ∧ pinScan (ahead x (0 : Int)) (List.drop (Int.toNat (0 : Int)) x) = pinScan (-1 : Int) x) ∧ ∀ (x_1 : Int), (0 : Int) ≤ x_1 ∧ x_1 ≤ (↑x.length : Int) ∧ pinScan (ahead x x_1) (List.drop x_1.toNat x) = pinScan (-1 : Int) x → (decide (x_1 < (↑x.length : Int)) = true → (0 : Int) ≤ x_1 ∧ x_1 < (↑x.length : Int) ∧ ((decide ((x.getD x_1.toNat ((0 : Int), (0 : Int))).fst < (0 : Int)) || decide ((255 : Int) < (x.getD x_1.toNat ((0 : Int), (0 : Int))).fst) || decide ((x.getD x_1.toNat ((0 : Int), (0 : Int))).snd < (1 : Int)) || decide ((1000000 : Int) < (x.getD x_1.toNat ((0 : Int), (0 : Int))).snd)) = true → (4 : Int) = pinsF x ∧ True) ∧ ((decide ((x.getD x_1.toNat ((0 : Int), (0 : Int))).fst < (0 : Int)) || decide ((255 : Int) < (x.getD x_1.toNat ((0 : Int), (0 : Int))).fst) || decide ((x.getD x_1.toNat ((0 : Int), (0 : Int))).snd < (1 : Int)) || decide ((1000000 : Int) < (x.getD x_1.toNat ((0 : Int), (0 : Int))).snd)) = false → (decide ((0 : Int) < x_1) = true → InR IntKind.i64 (x_1 - (1 : Int))) ∧ (decide ((0 : Int) < x_1) = true → (0 : Int) ≤ x_1 - (1 : Int)) ∧ (decide ((0 : Int) < x_1) = true → x_1 - (1 : Int) < (↑x.length : Int)) ∧ ((decide ((0 : Int) < x_1) && decide ((x.getD x_1.toNat ((0 : Int), (0 : Int))).fst ≤ (x.getD (x_1 - (1 : Int)).toNat ((0 : Int), (0 : Int))).fst)) = true → (3 : Int) = pinsF x ∧ True) ∧ ((decide ((0 : Int) < x_1) && decide ((x.getD x_1.toNat ((0 : Int), (0 : Int))).fst ≤ (x.getD (x_1 - (1 : Int)).toNat ((0 : Int), (0 : Int))).fst)) = false → InR IntKind.i64 (x_1 + (1 : Int)) ∧ ((0 : Int) ≤ x_1 + (1 : Int) ∧ x_1 + (1 : Int) ≤ (↑x.length : Int) ∧ pinScan (ahead x (x_1 + (1 : Int))) (List.drop (x_1 + (1 : Int)).toNat x) = pinScan (-1 : Int) x) ∧ ((↑x.length : Int) - (x_1 + (1 : Int))).toNat < ((↑x.length : Int) - x_1).toNat))) ∧ (decide (x_1 < (↑x.length : Int)) = false → (0 : Int) = pinsF x ∧ True))
theorem vcp_pinsFault : pv_pinsFault := by
  unfold pv_pinsFault
  intro p ⟨hb, _⟩ _
  unfold big at hb
  have hF : pinsF p = if 16 < p.length then 2 else pinScan (-1) p := rfl
  refine ⟨fun h => ?_, fun h => ?_⟩
  · rw [hF, if_pos (by have := of_decide_eq_true h; omega)]
    exact ⟨rfl, trivial⟩
  have hl : ¬ 16 < p.length := by have := of_decide_eq_false h; omega
  rw [hF, if_neg hl]
  refine ⟨⟨by omega, by omega, rfl⟩, fun i ⟨i0, i1, i2⟩ => ⟨fun hlt => ?_, fun hge => ?_⟩⟩
  · have hlt := of_decide_eq_true hlt
    rw [ahead_scan i0 hlt] at i2
    have hp : 0 < i → ahead p i = (p.getD (i - 1).toNat (0, 0)).1 := fun h => if_pos h
    have hn : ¬ 0 < i → ahead p i = -1 := fun h => if_neg h
    generalize p.getD i.toNat (0, 0) = x at *
    generalize p.getD (i - 1).toNat (0, 0) = y at *
    generalize ahead p i = q at *
    have hbad : (decide (x.1 < 0) || decide (255 < x.1) || decide (x.2 < 1) || decide (1000000 < x.2)) = badPin x := by
      unfold badPin
      grind
    rw [hbad]
    refine ⟨i0, hlt, fun hc => ?_, fun hc => ⟨fun _ => by simp only [InR]; omega, fun h => by have := of_decide_eq_true h; omega, fun _ => by omega, fun h2 => ?_, fun h2 => ⟨by simp only [InR]; omega, ⟨by omega, by omega, ?_⟩, by omega⟩⟩⟩
    · rw [if_pos hc] at i2
      exact ⟨i2, trivial⟩
    · rw [if_neg (by rw [hc]; simp)] at i2
      simp only [Bool.and_eq_true, decide_eq_true_eq] at h2
      rw [if_pos (by rw [hp h2.1]; exact h2.2)] at i2
      exact ⟨i2, trivial⟩
    · rw [if_neg (by rw [hc]; simp)] at i2
      have hx : 0 ≤ x.1 := by
        simp only [badPin, Bool.or_eq_false_iff, decide_eq_false_iff_not] at hc
        omega
      rw [if_neg] at i2
      · exact i2
      · intro h3
        by_cases h4 : 0 < i
        · rw [hp h4] at h3
          have : (decide (0 < i) && decide (x.1 ≤ y.1)) = true := by simp [h4, h3]
          rw [this] at h2
          cases h2
        · rw [hn h4] at h3
          omega
  · rw [drop_end (of_decide_eq_false hge)] at i2
    exact ⟨i2, trivial⟩
theorem e_pinsFault : pv_pinsFault = (fnVC Try.prog (tbl []) an_pinCheck Try.f107 sp_pinsFault) := by kernel_rfl
theorem vc_pinsFault : fnVC Try.prog (tbl []) an_pinCheck Try.f107 sp_pinsFault := @Eq.mp _ _ @e_pinsFault @vcp_pinsFault
theorem ok_pinsFault : sp_pinsFault.ok Try.prog 107 := fn_sound (P := Try.prog) (ss := tbl []) (ann := an_pinCheck) (f := 107) (fn := Try.f107) (s := sp_pinsFault) tbl_nil Try.func107 @vc_pinsFault

def cmpL (x y : Int) : Int := if x < y then -1 else if y < x then 1 else 0
def sp_cmpI : Spec := { Ts := [ty_I, ty_I], Rs := [.dat ty_I], pre := fun _ => True, F := fun ((x, y) : Int × Int) => cmpL x y }

def sp_findC : Spec := { Ts := [ty_Pin, ty_I], Rs := [.dat ty_I], pre := fun _ => True, F := fun ((x, y) : Pin × Int) => cmpL x.1 y }

theorem cmpL_lt (x y : Int) : decide (cmpL x y < 0) = decide (x < y) := by
  unfold cmpL
  grind
theorem cmpL_eq (x y : Int) : decide (cmpL x y = 0) = decide (x = y) := by
  unfold cmpL
  grind

def findP (p : List Pin) (k : Int) : Int × Bool × Int := if pinsF p ≠ 0 then (0, false, pinsF p) else if (decide (0 ≤ k) && decide (k < 256)) = false then (0, false, 4) else (lowP p k, hasP p k, 0)
def an_find : Nat → Option LoopGen
  | 3000000 => some an_in
  | 100000003 => some { rd := [.dat 0 (.arr ty_Pin), .dat 1 ty_I], A := fun ((p, x) : List Pin × Int) => { cs := [.dat 9 ty_I, .dat 10 ty_I], inv := fun ((lo, hi) : Int × Int) => 0 ≤ lo ∧ lo ≤ hi ∧ hi ≤ p.length ∧ (∀ j : Nat, (j : Int) < lo → (p.map Prod.fst).getD j 0 < x) ∧ (∀ j : Nat, hi ≤ j → j < p.length → x ≤ (p.map Prod.fst).getD j 0), mu := fun ((lo, hi) : Int × Int) => (hi - lo).toNat } }
  | _ => none
def sp_find : Spec := { Ts := [.arr ty_Pin, ty_I], Rs := [.dat ty_I, .dat .bool, .dat ty_I], pre := fun _ => True, F := fun ((p, k) : List Pin × Int) => findP p k }

theorem findP_ok {p : List Pin} {k : Int} (h : (findP p k).2.2 = 0) : pinsF p = 0 ∧ 0 ≤ k ∧ k ≤ 255 ∧ findP p k = (lowP p k, hasP p k, 0) := by
  unfold findP at h ⊢
  split at h
  · rename_i h1; exact absurd h h1
  · rename_i h1
    split at h
    · cases h
    · rename_i h2
      rw [if_neg h1, if_neg h2]
      have h2 : (decide (0 ≤ k) && decide (k < 256)) = true := by simpa using h2
      simp only [Bool.and_eq_true, decide_eq_true_eq] at h2
      exact ⟨by omega, h2.1, by omega, rfl⟩
theorem findP_bad {p : List Pin} {k : Int} (h : (findP p k).2.2 ≠ 0) : (findP p k).2.1 = false := by
  unfold findP at h ⊢
  split
  · rfl
  · rename_i h1
    split
    · rfl
    · rename_i h2
      rw [if_neg h1, if_neg h2] at h
      exact absurd rfl h

/-- Where a word's pin is, or would be. -/
theorem find_parts {p : List Pin} {k : Int} (h : (findP p k).2.2 = 0) : ∃ A B : List Pin, findP p k = ((A.length : Int), hasP p k, 0) ∧ lowP p k = A.length ∧ p.length ≤ 16 ∧ (∀ x ∈ A, x.1 < k) ∧ (∀ x ∈ B, k < x.1) ∧
    ((hasP p k = false ∧ manyP p k = 0 ∧ p = A ++ B) ∨ (hasP p k = true ∧ 1 ≤ manyP p k ∧ manyP p k ≤ 1000000 ∧ p = A ++ (k, manyP p k) :: B)) := by
  obtain ⟨h1, h2, h3, h4⟩ := findP_ok h
  obtain ⟨h5, h6, h7⟩ := pins_ok h1
  obtain ⟨A, B, a1, a2, a3, a4⟩ := low_parts h6 k
  refine ⟨A, B, by rw [h4, a3], a3, h5, a1, a2, ?_⟩
  rcases a4 with ⟨b1, b2⟩ | ⟨v, b1, b2⟩
  · refine .inl ⟨?_, ?_, b2⟩
    · rw [hasP_get h6, b1]; rfl
    · unfold manyP; rw [b1]; rfl
  · have hm : manyP p k = v := by unfold manyP; rw [b1]; rfl
    have hv := h7 (k, v) (by rw [b2]; simp)
    refine .inr ⟨?_, ?_, ?_, by rw [hm]; exact b2⟩
    · rw [hasP_get h6, b1]; rfl
    · rw [hm]; exact hv.2.2.1
    · rw [hm]; exact hv.2.2.2

theorem get_at {A B : List Pin} {x : Pin} : (A ++ x :: B).getD ((A.length : Int)).toNat (0, 0) = x := by simp
theorem set_at {A B : List Pin} {x : Pin} (y : Pin) : (A ++ x :: B).set ((A.length : Int)).toNat y = A ++ y :: B := by simp
theorem ins_at {A B : List Pin} (x : Pin) : insG (A ++ B) [x] (A.length : Int) = A ++ x :: B := by simp [insG]
theorem cut_at {A B : List Pin} {x : Pin} : cutG (A ++ x :: B) (A.length : Int) ((A.length : Int) + 1) = A ++ B := by
  unfold cutG
  rw [show ((A.length : Int) + 1).toNat = A.length + 1 by omega]
  simp

def sp_many : Spec := { Ts := [.arr ty_Pin, ty_I], Rs := [.dat ty_I, .dat ty_I], pre := fun _ => True, F := fun ((p, k) : List Pin × Int) => ((if (findP p k).2.2 = 0 then manyP p k else 0, (findP p k).2.2) : Int × Int) }

def sp_clonePins : Spec := { Ts := [.arr ty_Pin], Rs := [.own 164 ty_Pin], pre := fun _ => True, F := fun (x : List Pin) => x }

def addP (p : List Pin) (k : Int) : List Pin × Int × Int :=
  if (findP p k).2.2 ≠ 0 then ([], 0, (findP p k).2.2) else if manyP p k = 1000000 ∨ (hasP p k = false ∧ p.length = 16) then ([], 0, 7)
  else ((if hasP p k = true then p.set (lowP p k).toNat (k, manyP p k + 1) else insG p [(k, 1)] (lowP p k)), manyP p k + 1, 0)
def sp_add : Spec := { Ts := [.arr ty_Pin, ty_I], Rs := [.own 164 ty_Pin, .dat ty_I, .dat ty_I], pre := fun _ => True, F := fun ((p, k) : List Pin × Int) => addP p k }

def dropP (p : List Pin) (k : Int) : List Pin × Int × Int :=
  if (findP p k).2.2 ≠ 0 then ([], 0, (findP p k).2.2) else if hasP p k = false then ([], 0, 5)
  else ((if manyP p k = 1 then cutG p (lowP p k) (lowP p k + 1) else p.set (lowP p k).toNat (k, manyP p k - 1)), manyP p k - 1, 0)
def sp_drop : Spec := { Ts := [.arr ty_Pin, ty_I], Rs := [.own 164 ty_Pin, .dat ty_I, .dat ty_I], pre := fun _ => True, F := fun ((p, k) : List Pin × Int) => dropP p k }

def an_pinned : Nat → Option LoopGen
  | 3 => some { rd := [.dat 7 (.arr ty_Pin)], A := fun (p : List Pin) => { cs := [.map 6 .i64 ty_I, .dat 9 ty_I], inv := fun ((m, i) : List (Int × Int) × Int) => 0 ≤ i ∧ i ≤ p.length ∧ m = putAll [] (p.take i.toNat), mu := fun ((_, i) : List (Int × Int) × Int) => (p.length - i).toNat } }
  | _ => none
def sp_pinned : Spec := { Ts := [.arr ty_Pin], Rs := [.map .i64 ty_I], pre := fun _ => True, F := fun (p : List Pin) => putAll [] p }

def an_pinList : Nat → Option LoopGen
  | 3 => some { rd := [.dat 0 (.map .i64 ty_I)], A := fun (m : List (Int × Int)) => { cs := [.own 3 164 ty_Pin, .dat 5 ty_I], inv := fun ((out, i) : List Pin × Int) => 0 ≤ i ∧ i ≤ 256 ∧ out = pinUp m i.toNat ∧ out.length ≤ i.toNat, mu := fun ((_, i) : List Pin × Int) => (256 - i).toNat } }
  | _ => none
def sp_pinList : Spec := { Ts := [.map .i64 ty_I], Rs := [.own 164 ty_Pin], pre := fun _ => True, F := fun (m : List (Int × Int)) => pinList m }

def an_samePins : Nat → Option LoopGen
  | 4 => some { rd := [.dat 0 (.arr ty_Pin), .dat 1 (.arr ty_Pin)], A := fun ((a, b) : List Pin × List Pin) => { cs := [.dat 13 ty_I], inv := fun (i : Int) => a.length = b.length ∧ 0 ≤ i ∧ i ≤ a.length ∧ a.take i.toNat = b.take i.toNat, mu := fun (i : Int) => (a.length - i).toNat } }
  | _ => none
def sp_samePins : Spec := { Ts := [.arr ty_Pin, .arr ty_Pin], Rs := [.dat .bool], pre := fun _ => True, F := fun (x : List Pin × List Pin) => decide (x.1 = x.2) }
theorem pin_ne (a b : Pin) : (!(decide (a.1 = b.1) && decide (a.2 = b.2))) = decide (a ≠ b) := by
  obtain ⟨a1, a2⟩ := a
  obtain ⟨b1, b2⟩ := b
  apply Bool.eq_iff_iff.2
  simp only [Bool.and_eq_true, Bool.not_eq_true', Bool.and_eq_false_iff, decide_eq_true_eq, decide_eq_false_iff_not, ne_eq, Prod.mk.injEq]
  grind
def pv_samePins : Prop :=
    ∀ (x : List (Int × Int) × List (Int × Int)), ((x.fst.length * ((8 : Nat) + (8 : Nat)) ≤ big ∧ ∀ (x_1 : Int × Int), x_1 ∈ x.fst → InR IntKind.i64 x_1.fst ∧ InR IntKind.i64 x_1.snd) ∧ x.snd.length * ((8 : Nat) + (8 : Nat)) ≤ big ∧ ∀ (x_1 : Int × Int), x_1 ∈ x.snd → InR IntKind.i64 x_1.fst ∧ InR IntKind.i64 x_1.snd) → True → (decide ((↑x.fst.length : Int) ≠ (↑x.snd.length : Int)) = true → false = decide (x.fst = x.snd) ∧ True) ∧ (decide ((↑x.fst.length : Int) ≠ (↑x.snd.length : Int)) = false → (x.fst.length = x.snd.length ∧ (0 : Int) ≤ (0 : Int) ∧ (0 : Int) ≤ (↑x.fst.length : Int) ∧ List.take (Int.toNat (0 : Int)) x.fst = List.take (Int.toNat (0 : Int)) x.snd) ∧ ∀ (x_1 : Int), x.fst.length = x.snd.length ∧ (0 : Int) ≤ x_1 ∧ x_1 ≤ (↑x.fst.length : Int) ∧ List.take x_1.toNat x.fst = List.take x_1.toNat x.snd → (decide (x_1 < (↑x.fst.length : Int)) = true → (0 : Int) ≤ x_1 ∧ x_1 < (↑x.fst.length : Int) ∧ (0 : Int) ≤ x_1 ∧ x_1 < (↑x.snd.length : Int) ∧ ((!(decide ((x.fst.getD x_1.toNat ((0 : Int), (0 : Int))).fst = (x.snd.getD x_1.toNat ((0 : Int), (0 : Int))).fst) && decide ((x.fst.getD x_1.toNat ((0 : Int), (0 : Int))).snd = (x.snd.getD x_1.toNat ((0 : Int), (0 : Int))).snd))) = true → false = decide (x.fst = x.snd) ∧ True) ∧ ((!(decide ((x.fst.getD x_1.toNat ((0 : Int), (0 : Int))).fst = (x.snd.getD x_1.toNat ((0 : Int), (0 : Int))).fst) && decide ((x.fst.getD x_1.toNat ((0 : Int), (0 : Int))).snd = (x.snd.getD x_1.toNat ((0 : Int), (0 : Int))).snd))) = false → InR IntKind.i64 (x_1 + (1 : Int)) ∧ (x.fst.length = x.snd.length ∧ (0 : Int) ≤ x_1 + (1 : Int) ∧ x_1 + (1 : Int) ≤ (↑x.fst.length : Int) ∧ List.take (x_1 + (1 : Int)).toNat x.fst = List.take (x_1 + (1 : Int)).toNat x.snd) ∧ ((↑x.fst.length : Int) - (x_1 + (1 : Int))).toNat < ((↑x.fst.length : Int) - x_1).toNat)) ∧ (decide (x_1 < (↑x.fst.length : Int)) = false → true = decide (x.fst = x.snd) ∧ True))
theorem vcp_samePins : pv_samePins := by
  unfold pv_samePins
  intro x hw _
  refine ⟨fun h => ?_, fun h => ?_⟩
  · have h : x.1.length ≠ x.2.length := by have := of_decide_eq_true h; omega
    have : x.1 ≠ x.2 := fun e => h (by rw [e])
    simp [this]
  have hl : x.1.length = x.2.length := by have := of_decide_eq_false h; omega
  refine ⟨⟨hl, by omega, by omega, by simp⟩, fun i ⟨_, h0, h1, ht⟩ => ⟨fun hlt => ?_, fun hge => ?_⟩⟩
  · have hlt : i < x.1.length := by simpa using hlt
    rw [pin_ne]
    refine ⟨h0, hlt, h0, by omega, fun hne => ?_, fun he => ?_⟩
    · have hne : x.1.getD i.toNat (0, 0) ≠ x.2.getD i.toNat (0, 0) := by simpa using hne
      have : x.1 ≠ x.2 := fun e => hne (by rw [e])
      simp [this]
    · have he : x.1.getD i.toNat (0, 0) = x.2.getD i.toNat (0, 0) := by simpa using he
      have hb := hw.1.1
      unfold big at hb
      refine ⟨by simp only [InR]; omega, ⟨hl, by omega, by omega, ?_⟩, by omega⟩
      rw [show (i + 1).toNat = i.toNat + 1 by omega]
      exact take_step hl (by omega) ht he
  · have hge : ¬ i < x.1.length := by simpa using hge
    have hi : i.toNat = x.1.length := by omega
    rw [hi, List.take_of_length_le (Nat.le_refl _), List.take_of_length_le (by omega)] at ht
    simp [ht]
theorem e_samePins : pv_samePins = (fnVC Try.prog (tbl []) an_samePins Try.f114 sp_samePins) := by kernel_rfl
theorem vc_samePins : fnVC Try.prog (tbl []) an_samePins Try.f114 sp_samePins := @Eq.mp _ _ @e_samePins @vcp_samePins
theorem ok_samePins : sp_samePins.ok Try.prog 114 := fn_sound (P := Try.prog) (ss := tbl []) (ann := an_samePins) (f := 114) (fn := Try.f114) (s := sp_samePins) tbl_nil Try.func114 @vc_samePins

/-- What is done to pins that are right. -/
theorem pins_law {p : List Pin} {k : Int} (h0 : pinsF p = 0) (hk : 0 ≤ k) (hk2 : k ≤ 255) : (findP p k).2.2 = 0 ∧ putAll [] p = p ∧ 0 ≤ manyP p k ∧ manyP p k ≤ 1000000 ∧
    (manyP p k = 1000000 ∨ (manyP p k = 0 ∧ p.length = 16) → addP p k = ([], 0, 7)) ∧
    (¬ (manyP p k = 1000000 ∨ (manyP p k = 0 ∧ p.length = 16)) → addP p k = (pinList (mput p k (manyP p k + 1)), manyP p k + 1, 0)) ∧
    (manyP p k = 0 → dropP p k = ([], 0, 5)) ∧ (manyP p k ≠ 0 → dropP p k = (pinList (mput p k (manyP p k - 1)), manyP p k - 1, 0)) := by
  have hF : findP p k = (lowP p k, hasP p k, 0) := by
    unfold findP
    rw [if_neg (by omega), if_neg (by simp; omega)]
  have hz : (findP p k).2.2 = 0 := by rw [hF]
  obtain ⟨h5, h6, h7⟩ := pins_ok h0
  obtain ⟨A, B, e, e2, hl, hA, hB, h1⟩ := find_parts hz
  refine ⟨hz, putAll_self h6, ?_⟩
  unfold addP dropP
  have hz' : ¬ ((findP p k).2.2 ≠ 0) := by omega
  rw [if_neg hz', if_neg hz', e2]
  rcases h1 with ⟨h1, h2, h3⟩ | ⟨h1, h2, h2', h3⟩
  · rw [h1, h2, if_pos rfl]
    have hAB : (A ++ B).Pairwise (fun x y => x.1 < y.1) := by rw [← h3]; exact h6
    have hab := List.pairwise_append.1 hAB
    refine ⟨by omega, by omega, fun h => ?_, fun h => ?_, fun _ => rfl, fun h => absurd rfl h⟩
    · rw [if_pos (h.imp id fun h => ⟨rfl, h.2⟩)]
    · rw [if_neg (fun h4 => h (h4.imp id fun h4 => ⟨rfl, h4.2⟩)), if_neg (by simp), h3, ins_at]
      have : pinList (mput (A ++ B) k (0 + 1)) = A ++ (k, 1) :: B := by
        refine pinList_is ?_ (fun x hx => ?_) (fun j _ _ => ?_)
        · refine List.pairwise_append.2 ⟨hab.1, List.pairwise_cons.2 ⟨hB, hab.2.1⟩, fun x hx y hy => ?_⟩
          rcases List.mem_cons.1 hy with rfl | hy
          · exact hA x hx
          · exact hab.2.2 x hx y hy
        · rcases List.mem_append.1 hx with hx | hx
          · have := h7 x (by rw [h3]; simp [hx]); omega
          · rcases List.mem_cons.1 hx with rfl | hx
            · simp only; omega
            · have := h7 x (by rw [h3]; simp [hx]); omega
        · rw [many_put, many_mid hA]
          rfl
      rw [this]
  · rw [h1, if_neg (show ¬ ((true : Bool) = false) by simp)]
    generalize hv : manyP p k = v at *
    have hAB : (A ++ (k, v) :: B).Pairwise (fun x y => x.1 < y.1) := by rw [← h3]; exact h6
    have hab := List.pairwise_append.1 hAB
    have hcb := List.pairwise_cons.1 hab.2.1
    have mid : ∀ u, 1 ≤ u → pinList (mput p k u) = A ++ (k, u) :: B := fun u hu => by
      refine pinList_is ?_ (fun x hx => ?_) (fun j _ _ => ?_)
      · refine List.pairwise_append.2 ⟨hab.1, List.pairwise_cons.2 ⟨hB, hcb.2⟩, fun x hx y hy => ?_⟩
        rcases List.mem_cons.1 hy with rfl | hy
        · exact hA x hx
        · exact hab.2.2 x hx y (by simp [hy])
      · rcases List.mem_append.1 hx with hx | hx
        · have := h7 x (by rw [h3]; simp [hx]); omega
        · rcases List.mem_cons.1 hx with rfl | hx
          · simp only; omega
          · have := h7 x (by rw [h3]; simp [hx]); omega
      · rw [many_put, h3, many_mid hA, many_mid hA]
        split <;> rfl
    refine ⟨by omega, by omega, fun h => ?_, fun h => ?_, fun h => by omega, fun _ => ?_⟩
    · have h : v = 1000000 := by rcases h with h | h <;> omega
      rw [if_pos (.inl h)]
    · have hno : ¬ (v = 1000000 ∨ (true = false ∧ p.length = 16)) := by
        rintro (h4 | h4)
        · exact h (.inl h4)
        · exact absurd h4.1 (by simp)
      rw [if_neg hno, if_pos rfl, mid (v + 1) (by omega), h3, set_at]
    · by_cases h : v = 1
      · rw [if_pos h, h3, cut_at, ← h3]
        have : pinList (mput p k (v - 1)) = A ++ B := by
          refine pinList_is ?_ (fun x hx => ?_) (fun j _ _ => ?_)
          · exact List.pairwise_append.2 ⟨hab.1, hcb.2, fun x hx y hy => hab.2.2 x hx y (by simp [hy])⟩
          · rcases List.mem_append.1 hx with hx | hx
            · have := h7 x (by rw [h3]; simp [hx]); omega
            · have := h7 x (by rw [h3]; simp [hx]); omega
          · rw [many_put, h3, many_mid hA]
            split
            · rename_i hj
              subst hj
              rw [many_out hA hB]
              omega
            · rfl
        rw [this]
      · rw [if_neg h, mid (v - 1) (by omega), h3, set_at]

theorem pinList_back (p : List Pin) (k a b : Int) : pinList (mput (mput p k a) k b) = pinList (mput p k b) :=
  pinList_congr fun j => by rw [many_put, many_put, many_put]; split <;> rfl
theorem pinList_twice (p : List Pin) (k a b c : Int) : pinList (mput (mput (mput p k a) k b) k c) = pinList (mput p k c) :=
  pinList_congr fun j => by rw [many_put, many_put, many_put, many_put]; split <;> rfl

def sp_lawPinTells : Spec := sp_law [.arr ty_Pin, ty_I]

end Go.Proofs.Ytbidboeemnlglaa
