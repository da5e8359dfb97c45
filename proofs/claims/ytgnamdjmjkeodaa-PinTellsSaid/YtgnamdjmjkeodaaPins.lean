/- Package pin; the reference's PinsFault, Pinned, PinList, SamePins; the law PinTells. -/
import Derived.Test.YtgnamdjmjkeodaaRowPin
namespace Go.Proofs.Ytgnamdjmjkeodaa
open Go
set_option maxRecDepth 100000
set_option maxHeartbeats 1000000

theorem ahead_scan {p : List Pin} {i : Int} (h0 : 0 ≤ i) (h : i < p.length) : pinScan (ahead p i) (p.drop i.toNat) = if badPin (p.getD i.toNat (0, 0)) = true then 4 else if (p.getD i.toNat (0, 0)).1 ≤ ahead p i then 3 else pinScan (ahead p (i + 1)) (p.drop (i + 1).toNat) := by
  rw [drop_cons ((0, 0) : Pin) h0 h]
  have e : ahead p (i + 1) = (p.getD i.toNat (0, 0)).1 := by
    unfold ahead
    rw [if_pos (by omega), show (i + 1 - 1) = i by omega]
  rw [e]
  rfl

def sp_pinThere : Spec := { Ts := [ty_I], Rs := [.dat .bool], pre := fun _ => True, F := fun (v : Int) => decide (0 ≤ v) && decide (v < 256) }
def pv_pinThere : Prop :=
    ∀ (x : Int), InR IntKind.i64 x → True → (decide ((0 : Int) ≤ x) && decide (x < (256 : Int))) = (decide ((0 : Int) ≤ x) && decide (x < (256 : Int))) ∧ True
theorem vcp_pinThere : pv_pinThere := by
  unfold pv_pinThere
  intro v _ _
  simp
theorem e_pinThere : pv_pinThere = (fnVC Try.prog (tbl []) an_0 Try.f108 sp_pinThere) := by kernel_rfl
theorem vc_pinThere : fnVC Try.prog (tbl []) an_0 Try.f108 sp_pinThere := @Eq.mp _ _ @e_pinThere @vcp_pinThere
theorem ok_pinThere : sp_pinThere.ok Try.prog 108 := fn_sound (P := Try.prog) (ss := tbl []) (ann := an_0) (f := 108) (fn := Try.f108) (s := sp_pinThere) tbl_nil Try.func108 @vc_pinThere

def an_pinCheck : Nat → Option LoopGen
  | 4 => some { rd := [.dat 8 (.arr ty_Pin)], A := fun (p : List Pin) => { cs := [.dat 10 ty_I], inv := fun (i : Int) => 0 ≤ i ∧ i ≤ p.length ∧ pinScan (ahead p i) (p.drop i.toNat) = pinScan (-1) p, mu := fun (i : Int) => (p.length - i).toNat } }
  | _ => none
def sp_pinCheck : Spec := { Ts := [.arr ty_Pin], Rs := [.dat ty_I], pre := fun _ => True, F := fun (p : List Pin) => pinsF p }
def pv_pinCheck : Prop :=
    ∀ (x : List (Int × Int)), (x.length * ((8 : Nat) + (8 : Nat)) ≤ big ∧ ∀ (x_1 : Int × Int), x_1 ∈ x → InR IntKind.i64 x_1.fst ∧ InR IntKind.i64 x_1.snd) → True → (decide ((16 : Int) < (↑x.length : Int)) = true → (2 : Int) = pinsF x ∧ True) ∧ (decide ((16 : Int) < (↑x.length : Int)) = false → ((0 : Int) ≤ (0 : Int) ∧ (0 : Int) ≤ (↑x.length : Int) ∧ pinScan (ahead x (0 : Int)) (List.drop (Int.toNat (0 : Int)) x) = pinScan (-1 : Int) x) ∧ ∀ (x_1 : Int), (0 : Int) ≤ x_1 ∧ x_1 ≤ (↑x.length : Int) ∧ pinScan (ahead x x_1) (List.drop x_1.toNat x) = pinScan (-1 : Int) x → (decide (x_1 < (↑x.length : Int)) = true → (0 : Int) ≤ x_1 ∧ x_1 < (↑x.length : Int) ∧ True ∧ ((!(decide ((0 : Int) ≤ (x.getD x_1.toNat ((0 : Int), (0 : Int))).fst) && decide ((x.getD x_1.toNat ((0 : Int), (0 : Int))).fst < (256 : Int))) || decide ((x.getD x_1.toNat ((0 : Int), (0 : Int))).snd < (1 : Int)) || decide ((1000000 : Int) < (x.getD x_1.toNat ((0 : Int), (0 : Int))).snd)) = true → (4 : Int) = pinsF x ∧ True) ∧ ((!(decide ((0 : Int) ≤ (x.getD x_1.toNat ((0 : Int), (0 : Int))).fst) && decide ((x.getD x_1.toNat ((0 : Int), (0 : Int))).fst < (256 : Int))) || decide ((x.getD x_1.toNat ((0 : Int), (0 : Int))).snd < (1 : Int)) || decide ((1000000 : Int) < (x.getD x_1.toNat ((0 : Int), (0 : Int))).snd)) = false → (decide ((0 : Int) < x_1) = true → InR IntKind.i64 (x_1 - (1 : Int))) ∧ (decide ((0 : Int) < x_1) = true → (0 : Int) ≤ x_1 - (1 : Int)) ∧ (decide ((0 : Int) < x_1) = true → x_1 - (1 : Int) < (↑x.length : Int)) ∧ ((decide ((0 : Int) < x_1) && decide ((x.getD x_1.toNat ((0 : Int), (0 : Int))).fst ≤ (x.getD (x_1 - (1 : Int)).toNat ((0 : Int), (0 : Int))).fst)) = true → (3 : Int) = pinsF x ∧ True) ∧ ((decide ((0 : Int) < x_1) && decide ((x.getD x_1.toNat ((0 : Int), (0 : Int))).fst ≤ (x.getD (x_1 - (1 : Int)).toNat ((0 : Int), (0 : Int))).fst)) = false → InR IntKind.i64 (x_1 + (1 : Int)) ∧ ((0 : Int) ≤ x_1 + (1 : Int) ∧ x_1 + (1 : Int) ≤ (↑x.length : Int) ∧ pinScan (ahead x (x_1 + (1 : Int))) (List.drop (x_1 + (1 : Int)).toNat x) = pinScan (-1 : Int) x) ∧ ((↑x.length : Int) - (x_1 + (1 : Int))).toNat < ((↑x.length : Int) - x_1).toNat))) ∧ (decide (x_1 < (↑x.length : Int)) = false → (0 : Int) = pinsF x ∧ True))
theorem vcp_pinCheck : pv_pinCheck := by
  unfold pv_pinCheck
  intro p ⟨hb, _⟩ _
  unfold big at hb
  have hF : pinsF p = if 16 < p.length then 2 else pinScan (-1) p := rfl
  refine ⟨fun h => ?_, fun h => ?_⟩
  · rw [hF, if_pos (by have := of_decide_eq_true h; omega)]
    exact ⟨rfl, trivial⟩
  have hl : ¬ 16 < p.length := by have := of_decide_eq_false h; omega
  rw [hF, if_neg hl]
  refine ⟨⟨by omega, by omega, rfl⟩, fun i ⟨i0, i1, i2⟩ => ⟨fun hlt => ?_, fun hge => ?_⟩⟩
  · have hlt := of_decide_eq_true hlt
    rw [ahead_scan i0 hlt] at i2
    have hp : 0 < i → ahead p i = (p.getD (i - 1).toNat (0, 0)).1 := fun h => if_pos h
    have hn : ¬ 0 < i → ahead p i = -1 := fun h => if_neg h
    generalize p.getD i.toNat (0, 0) = x at *
    generalize p.getD (i - 1).toNat (0, 0) = y at *
    generalize ahead p i = q at *
    have hbad : (!(decide (0 ≤ x.1) && decide (x.1 < 256)) || decide (x.2 < 1) || decide (1000000 < x.2)) = badPin x := by
      unfold badPin
      grind
    rw [hbad]
    refine ⟨i0, hlt, trivial, fun hc => ?_, fun hc => ⟨fun _ => by simp only [InR]; omega, fun h => by have := of_decide_eq_true h; omega, fun _ => by omega, fun h2 => ?_, fun h2 => ⟨by simp only [InR]; omega, ⟨by omega, by omega, ?_⟩, by omega⟩⟩⟩
    · rw [if_pos hc] at i2
      exact ⟨i2, trivial⟩
    · rw [if_neg (by rw [hc]; simp)] at i2
      simp only [Bool.and_eq_true, decide_eq_true_eq] at h2
      rw [if_pos (by rw [hp h2.1]; exact h2.2)] at i2
      exact ⟨i2, trivial⟩
    · rw [if_neg (by rw [hc]; simp)] at i2
      have hx : 0 ≤ x.1 := by
        simp only [badPin, Bool.or_eq_false_iff, decide_eq_false_iff_not] at hc
        omega
      rw [if_neg] at i2
      · exact i2
      · intro h3
        by_cases h4 : 0 < i
        · rw [hp h4] at h3
          have : (decide (0 < i) && decide (x.1 ≤ y.1)) = true := by simp [h4, h3]
          rw [this] at h2
          cases h2
        · rw [hn h4] at h3
          omega
  · rw [drop_end (of_decide_eq_false hge)] at i2
    exact ⟨i2, trivial⟩
theorem e_pinCheck : pv_pinCheck = (fnVC Try.prog (tbl [(108, sp_pinThere)]) an_pinCheck Try.f31 sp_pinCheck) := by kernel_rfl
theorem vc_pinCheck : fnVC Try.prog (tbl [(108, sp_pinThere)]) an_pinCheck Try.f31 sp_pinCheck := @Eq.mp _ _ @e_pinCheck @vcp_pinCheck
theorem ok_pinCheck : sp_pinCheck.ok Try.prog 31 := fn_sound (P := Try.prog) (ss := tbl [(108, sp_pinThere)]) (ann := an_pinCheck) (f := 31) (fn := Try.f31) (s := sp_pinCheck) (tbl_cons ok_pinThere tbl_nil) Try.func31 @vc_pinCheck

def sp_pinsFault : Spec := { Ts := [.arr ty_Pin], Rs := [.dat ty_I], pre := fun _ => True, F := fun (p : List Pin) => pinsF p }
def pv_pinsFault : Prop :=
    ∀ (x : List (Int × Int)), (x.length * ((8 : Nat) + (8 : Nat)) ≤ big ∧ ∀ (x_1 : Int × Int), x_1 ∈ x → InR IntKind.i64 x_1.fst ∧ InR IntKind.i64 x_1.snd) → True → (decide ((16 : Int) < (↑x.length : Int)) = true → (2 : Int) = pinsF x ∧ True) ∧ (decide ((16 : Int) < (↑x.length : Int)) = false → ((0 : Int) ≤ (0 : Int) ∧ (0 : Int) ≤ (↑x.length : Int) ∧ pinScan (ahead x (0 : Int)) (List.drop (Int.toNat (0 : Int)) x) = pinScan (-1 : Int) x) ∧ ∀ (x_1 : Int), (0 : Int) ≤ x_1 ∧ x_1 ≤ (↑x.length : Int) ∧ pinScan (ahead x x_1) (List.drop x_1.toNat x) = pinScan (-1 : Int) x → (decide (x_1 < (↑x.length : Int)) = true → (0 : Int) ≤ x_1 ∧ x_1 < (↑x.length : Int) ∧ ((decide ((x.getD x_1.toNat ((0 : Int), (0 : Int))).fst < (0 : Int)) || decide ((255 : Int) < (x.getD x_1.toNat ((0 : Int), (0 : Int))).fst) || decide ((x.getD x_1.toNat ((0 : Int), (0 : Int))).snd < (1 : Int)) || decide ((1000000 : Int) < (x.getD x_1.toNat ((0 : Int), (0 : Int))).snd)) = true → (4 : Int) = pinsF x ∧ True) ∧ ((decide ((x.getD x_1.toNat ((0 : Int), (0 : Int))).fst < (0 : Int)) || decide ((255 : Int) < (x.getD x_1.toNat ((0 : Int), (0 : Int))).fst) || decide ((x.getD x_1.toNat ((0 : Int), (0 : Int))).snd < (1 : Int)) || decide ((1000000 : Int) < (x.getD x_1.toNat ((0 : Int), (0 : Int))).snd)) = false → (decide ((0 : Int) < x_1) = true → InR IntKind.i64 (x_1 - (1 : Int))) ∧ (decide ((0 : Int) < x_1) = true → (0 : Int) ≤ x_1 - (1 : Int)) ∧ (decide ((0 : Int) < x_1) = true → x_1 - (1 : Int) < (↑x.length : Int)) ∧ ((decide ((0 : Int) < x_1) && decide ((x.getD x_1.toNat ((0 : Int), (0 : Int))).fst ≤ (x.getD (x_1 - (1 : Int)).toNat ((0 : Int), (0 : Int))).fst)) = true → (3 : Int) = pinsF x ∧ True) ∧ ((decide ((0 : Int) < x_1) && decide ((x.getD x_1.toNat ((0 : Int), (0 : Int))).fst ≤ (x.getD (x_1 - (1 : Int)).toNat ((0 : Int), (0 : Int))).fst)) = false → InR IntKind.i64 (x_1 + (1 : Int)) ∧ ((0 : Int) ≤ x_1 + (1 : Int) ∧ x_1 + (1 : Int) ≤ (↑x.length : Int) ∧ pinScan (ahead x (x_1 + (1 : Int))) (List.drop (x_1 + (1 : Int)).toNat x) = pinScan (-1 : Int) x) ∧ ((↑x.length : Int) - (x_1 + (1 : Int))).toNat < ((↑x.length : Int) - x_1).toNat))) ∧ (decide (x_1 < (↑x.length : Int)) = false → (0 : Int) = pinsF x ∧ True))
theorem vcp_pinsFault : pv_pinsFault := by
  unfold pv_pinsFault
  intro p ⟨hb, _⟩ _
  unfold big at hb
  have hF : pinsF p = if 16 < p.length then 2 else pinScan (-1) p := rfl
  refine ⟨fun h => ?_, fun h => ?_⟩
  · rw [hF, if_pos (by have := of_decide_eq_true h; omega)]
    exact ⟨rfl, trivial⟩
  have hl : ¬ 16 < p.length := by have := of_decide_eq_false h; omega
  rw [hF, if_neg hl]
  refine ⟨⟨by omega, by omega, rfl⟩, fun i ⟨i0, i1, i2⟩ => ⟨fun hlt => ?_, fun hge => ?_⟩⟩
  · have hlt := of_decide_eq_true hlt
    rw [ahead_scan i0 hlt] at i2
    have hp : 0 < i → ahead p i = (p.getD (i - 1).toNat (0, 0)).1 := fun h => if_pos h
    have hn : ¬ 0 < i → ahead p i = -1 := fun h => if_neg h
    generalize p.getD i.toNat (0, 0) = x at *
    generalize p.getD (i - 1).toNat (0, 0) = y at *
    generalize ahead p i = q at *
    have hbad : (decide (x.1 < 0) || decide (255 < x.1) || decide (x.2 < 1) || decide (1000000 < x.2)) = badPin x := by
      unfold badPin
      grind
    rw [hbad]
    refine ⟨i0, hlt, fun hc => ?_, fun hc => ⟨fun _ => by simp only [InR]; omega, fun h => by have := of_decide_eq_true h; omega, fun _ => by omega, fun h2 => ?_, fun h2 => ⟨by simp only [InR]; omega, ⟨by omega, by omega, ?_⟩, by omega⟩⟩⟩
    · rw [if_pos hc] at i2
      exact ⟨i2, trivial⟩
    · rw [if_neg (by rw [hc]; simp)] at i2
      simp only [Bool.and_eq_true, decide_eq_true_eq] at h2
      rw [if_pos (by rw [hp h2.1]; exact h2.2)] at i2
      exact ⟨i2, trivial⟩
    · rw [if_neg (by rw [hc]; simp)] at i2
      have hx : 0 ≤ x.1 := by
        simp only [badPin, Bool.or_eq_false_iff, decide_eq_false_iff_not] at hc
        omega
      rw [if_neg] at i2
      · exact i2
      · intro h3
        by_cases h4 : 0 < i
        · rw [hp h4] at h3
          have : (decide (0 < i) && decide (x.1 ≤ y.1)) = true := by simp [h4, h3]
          rw [this] at h2
          cases h2
        · rw [hn h4] at h3
          omega
  · rw [drop_end (of_decide_eq_false hge)] at i2
    exact ⟨i2, trivial⟩
theorem e_pinsFault : pv_pinsFault = (fnVC Try.prog (tbl []) an_pinCheck Try.f30 sp_pinsFault) := by kernel_rfl
theorem vc_pinsFault : fnVC Try.prog (tbl []) an_pinCheck Try.f30 sp_pinsFault := @Eq.mp _ _ @e_pinsFault @vcp_pinsFault
theorem ok_pinsFault : sp_pinsFault.ok Try.prog 30 := fn_sound (P := Try.prog) (ss := tbl []) (ann := an_pinCheck) (f := 30) (fn := Try.f30) (s := sp_pinsFault) tbl_nil Try.func30 @vc_pinsFault

def cmpL (x y : Int) : Int := if x < y then -1 else if y < x then 1 else 0
def sp_cmpI : Spec := { Ts := [ty_I, ty_I], Rs := [.dat ty_I], pre := fun _ => True, F := fun ((x, y) : Int × Int) => cmpL x y }
def pv_cmpI : Prop :=
    ∀ (x : Int × Int), InR IntKind.i64 x.fst ∧ InR IntKind.i64 x.snd → True → True ∧ True ∧ (false = true → (false = true → (0 : Int) = cmpL x.fst x.snd ∧ True) ∧ (false = false → (-1 : Int) = cmpL x.fst x.snd ∧ True)) ∧ (false = false → (false = true → (1 : Int) = cmpL x.fst x.snd ∧ True) ∧ (false = false → (decide (x.fst < x.snd) = true → (-1 : Int) = cmpL x.fst x.snd ∧ True) ∧ (decide (x.fst < x.snd) = false → (decide (x.snd < x.fst) = true → (1 : Int) = cmpL x.fst x.snd ∧ True) ∧ (decide (x.snd < x.fst) = false → (0 : Int) = cmpL x.fst x.snd ∧ True))))
theorem vcp_cmpI : pv_cmpI := by
  unfold pv_cmpI
  intro ⟨x, y⟩ _ _
  simp only [cmpL]
  grind
theorem e_cmpI : pv_cmpI = (fnVC Try.prog (tbl [(205, sp_isNaN2)]) an_0 Try.f179 sp_cmpI) := by kernel_rfl
theorem vc_cmpI : fnVC Try.prog (tbl [(205, sp_isNaN2)]) an_0 Try.f179 sp_cmpI := @Eq.mp _ _ @e_cmpI @vcp_cmpI
theorem ok_cmpI : sp_cmpI.ok Try.prog 179 := fn_sound (P := Try.prog) (ss := tbl [(205, sp_isNaN2)]) (ann := an_0) (f := 179) (fn := Try.f179) (s := sp_cmpI) (tbl_cons ok_isNaN2 tbl_nil) Try.func179 @vc_cmpI

def sp_findC : Spec := { Ts := [ty_Pin, ty_I], Rs := [.dat ty_I], pre := fun _ => True, F := fun ((x, y) : Pin × Int) => cmpL x.1 y }
def pv_findC : Prop :=
    ∀ (x : (Int × Int) × Int), (InR IntKind.i64 x.fst.fst ∧ InR IntKind.i64 x.fst.snd) ∧ InR IntKind.i64 x.snd → True → True ∧ cmpL x.fst.fst x.snd = cmpL x.fst.fst x.snd ∧ True
theorem vcp_findC : pv_findC := by
  unfold pv_findC
  intro ⟨x, y⟩ _ _
  exact ⟨trivial, rfl, trivial⟩
theorem e_findC : pv_findC = (fnVC Try.prog (tbl [(179, sp_cmpI)]) an_0 Try.f178 sp_findC) := by kernel_rfl
theorem vc_findC : fnVC Try.prog (tbl [(179, sp_cmpI)]) an_0 Try.f178 sp_findC := @Eq.mp _ _ @e_findC @vcp_findC
theorem ok_findC : sp_findC.ok Try.prog 178 := fn_sound (P := Try.prog) (ss := tbl [(179, sp_cmpI)]) (ann := an_0) (f := 178) (fn := Try.f178) (s := sp_findC) (tbl_cons ok_cmpI tbl_nil) Try.func178 @vc_findC

theorem cmpL_lt (x y : Int) : decide (cmpL x y < 0) = decide (x < y) := by
  unfold cmpL
  grind
theorem cmpL_eq (x y : Int) : decide (cmpL x y = 0) = decide (x = y) := by
  unfold cmpL
  grind

def findP (p : List Pin) (k : Int) : Int × Bool × Int := if pinsF p ≠ 0 then (0, false, pinsF p) else if (decide (0 ≤ k) && decide (k < 256)) = false then (0, false, 4) else (lowP p k, hasP p k, 0)
def an_find : Nat → Option LoopGen
  | 3000177 => some an_in
  | 17800000003 => some { rd := [.dat 0 (.arr ty_Pin), .dat 1 ty_I], A := fun ((p, x) : List Pin × Int) => { cs := [.dat 9 ty_I, .dat 10 ty_I], inv := fun ((lo, hi) : Int × Int) => 0 ≤ lo ∧ lo ≤ hi ∧ hi ≤ p.length ∧ (∀ j : Nat, (j : Int) < lo → (p.map Prod.fst).getD j 0 < x) ∧ (∀ j : Nat, hi ≤ j → j < p.length → x ≤ (p.map Prod.fst).getD j 0), mu := fun ((lo, hi) : Int × Int) => (hi - lo).toNat } }
  | _ => none
def sp_find : Spec := { Ts := [.arr ty_Pin, ty_I], Rs := [.dat ty_I, .dat .bool, .dat ty_I], pre := fun _ => True, F := fun ((p, k) : List Pin × Int) => findP p k }
def pv_find : Prop :=
    ∀ (x : List (Int × Int) × Int), (x.fst.length * ((8 : Nat) + (8 : Nat)) ≤ big ∧ ∀ (x_1 : Int × Int), x_1 ∈ x.fst → InR IntKind.i64 x_1.fst ∧ InR IntKind.i64 x_1.snd) ∧ InR IntKind.i64 x.snd → True → True ∧ (decide (pinsF x.fst = (0 : Int)) = true → True) ∧ ((decide (pinsF x.fst = (0 : Int)) && !(decide ((0 : Int) ≤ x.snd) && decide (x.snd < (256 : Int)))) = true → (decide ((4 : Int) ≠ (0 : Int)) = true → (0 : Int) = (findP x.fst x.snd).fst ∧ false = (findP x.fst x.snd).snd.fst ∧ (4 : Int) = (findP x.fst x.snd).snd.snd ∧ True) ∧ (decide ((4 : Int) ≠ (0 : Int)) = false → ∀ (tm : Array Value), ((0 : Int) ≤ (0 : Int) ∧ (0 : Int) ≤ (↑x.fst.length : Int) ∧ (↑x.fst.length : Int) ≤ (↑x.fst.length : Int) ∧ (∀ (j : Nat), (↑j : Int) < (0 : Int) → (List.map Prod.fst x.fst).getD j (0 : Int) < x.snd) ∧ ∀ (j : Nat), (↑x.fst.length : Int) ≤ (↑j : Int) → j < x.fst.length → x.snd ≤ (List.map Prod.fst x.fst).getD j (0 : Int)) ∧ ∀ (x_1 : Int × Int), ((0 : Int) ≤ x_1.fst ∧ x_1.fst ≤ x_1.snd ∧ x_1.snd ≤ (↑x.fst.length : Int) ∧ (∀ (j : Nat), (↑j : Int) < x_1.fst → (List.map Prod.fst x.fst).getD j (0 : Int) < x.snd) ∧ ∀ (j : Nat), x_1.snd ≤ (↑j : Int) → j < x.fst.length → x.snd ≤ (List.map Prod.fst x.fst).getD j (0 : Int)) → (decide (x_1.fst < x_1.snd) = true → InR IntKind.i64 (x_1.fst + x_1.snd) ∧ (0 : Int) ≤ (1 : Int) ∧ (1 : Int) < (↑IntKind.u64.bits : Int) ∧ (0 : Int) ≤ IntKind.i64.wrap (IntKind.u64.wrap (x_1.fst + x_1.snd) / (2 : Int) ^ Int.toNat (1 : Int)) ∧ IntKind.i64.wrap (IntKind.u64.wrap (x_1.fst + x_1.snd) / (2 : Int) ^ Int.toNat (1 : Int)) < (↑x.fst.length : Int) ∧ True ∧ (decide (cmpL (x.fst.getD (IntKind.i64.wrap (IntKind.u64.wrap (x_1.fst + x_1.snd) / (2 : Int) ^ Int.toNat (1 : Int))).toNat ((0 : Int), (0 : Int))).fst x.snd < (0 : Int)) = true → InR IntKind.i64 (IntKind.i64.wrap (IntKind.u64.wrap (x_1.fst + x_1.snd) / (2 : Int) ^ Int.toNat (1 : Int)) + (1 : Int)) ∧ ((0 : Int) ≤ IntKind.i64.wrap (IntKind.u64.wrap (x_1.fst + x_1.snd) / (2 : Int) ^ Int.toNat (1 : Int)) + (1 : Int) ∧ IntKind.i64.wrap (IntKind.u64.wrap (x_1.fst + x_1.snd) / (2 : Int) ^ Int.toNat (1 : Int)) + (1 : Int) ≤ x_1.snd ∧ x_1.snd ≤ (↑x.fst.length : Int) ∧ (∀ (j : Nat), (↑j : Int) < IntKind.i64.wrap (IntKind.u64.wrap (x_1.fst + x_1.snd) / (2 : Int) ^ Int.toNat (1 : Int)) + (1 : Int) → (List.map Prod.fst x.fst).getD j (0 : Int) < x.snd) ∧ ∀ (j : Nat), x_1.snd ≤ (↑j : Int) → j < x.fst.length → x.snd ≤ (List.map Prod.fst x.fst).getD j (0 : Int)) ∧ (x_1.snd - (IntKind.i64.wrap (IntKind.u64.wrap (x_1.fst + x_1.snd) / (2 : Int) ^ Int.toNat (1 : Int)) + (1 : Int))).toNat < (x_1.snd - x_1.fst).toNat) ∧ (decide (cmpL (x.fst.getD (IntKind.i64.wrap (IntKind.u64.wrap (x_1.fst + x_1.snd) / (2 : Int) ^ Int.toNat (1 : Int))).toNat ((0 : Int), (0 : Int))).fst x.snd < (0 : Int)) = false → ((0 : Int) ≤ x_1.fst ∧ x_1.fst ≤ IntKind.i64.wrap (IntKind.u64.wrap (x_1.fst + x_1.snd) / (2 : Int) ^ Int.toNat (1 : Int)) ∧ IntKind.i64.wrap (IntKind.u64.wrap (x_1.fst + x_1.snd) / (2 : Int) ^ Int.toNat (1 : Int)) ≤ (↑x.fst.length : Int) ∧ (∀ (j : Nat), (↑j : Int) < x_1.fst → (List.map Prod.fst x.fst).getD j (0 : Int) < x.snd) ∧ ∀ (j : Nat), IntKind.i64.wrap (IntKind.u64.wrap (x_1.fst + x_1.snd) / (2 : Int) ^ Int.toNat (1 : Int)) ≤ (↑j : Int) → j < x.fst.length → x.snd ≤ (List.map Prod.fst x.fst).getD j (0 : Int)) ∧ (IntKind.i64.wrap (IntKind.u64.wrap (x_1.fst + x_1.snd) / (2 : Int) ^ Int.toNat (1 : Int)) - x_1.fst).toNat < (x_1.snd - x_1.fst).toNat)) ∧ (decide (x_1.fst < x_1.snd) = false → (decide (x_1.fst < (↑x.fst.length : Int)) = true → (0 : Int) ≤ x_1.fst) ∧ (decide (x_1.fst < (↑x.fst.length : Int)) = true → x_1.fst < (↑x.fst.length : Int)) ∧ (decide (x_1.fst < (↑x.fst.length : Int)) = true → True) ∧ x_1.fst = (findP x.fst x.snd).fst ∧ (decide (x_1.fst < (↑x.fst.length : Int)) && decide (cmpL (x.fst.getD x_1.fst.toNat ((0 : Int), (0 : Int))).fst x.snd = (0 : Int))) = (findP x.fst x.snd).snd.fst ∧ (0 : Int) = (findP x.fst x.snd).snd.snd ∧ True))) ∧ ((decide (pinsF x.fst = (0 : Int)) && !(decide ((0 : Int) ≤ x.snd) && decide (x.snd < (256 : Int)))) = false → (decide (pinsF x.fst ≠ (0 : Int)) = true → (0 : Int) = (findP x.fst x.snd).fst ∧ false = (findP x.fst x.snd).snd.fst ∧ pinsF x.fst = (findP x.fst x.snd).snd.snd ∧ True) ∧ (decide (pinsF x.fst ≠ (0 : Int)) = false → ∀ (tm : Array Value), ((0 : Int) ≤ (0 : Int) ∧ (0 : Int) ≤ (↑x.fst.length : Int) ∧ (↑x.fst.length : Int) ≤ (↑x.fst.length : Int) ∧ (∀ (j : Nat), (↑j : Int) < (0 : Int) → (List.map Prod.fst x.fst).getD j (0 : Int) < x.snd) ∧ ∀ (j : Nat), (↑x.fst.length : Int) ≤ (↑j : Int) → j < x.fst.length → x.snd ≤ (List.map Prod.fst x.fst).getD j (0 : Int)) ∧ ∀ (x_1 : Int × Int), ((0 : Int) ≤ x_1.fst ∧ x_1.fst ≤ x_1.snd ∧ x_1.snd ≤ (↑x.fst.length : Int) ∧ (∀ (j : Nat), (↑j : Int) < x_1.fst → (List.map Prod.fst x.fst).getD j (0 : Int) < x.snd) ∧ ∀ (j : Nat), x_1.snd ≤ (↑j : Int) → j < x.fst.length → x.snd ≤ (List.map Prod.fst x.fst).getD j (0 : Int)) → (decide (x_1.fst < x_1.snd) = true → InR IntKind.i64 (x_1.fst + x_1.snd) ∧ (0 : Int) ≤ (1 : Int) ∧ (1 : Int) < (↑IntKind.u64.bits : Int) ∧ (0 : Int) ≤ IntKind.i64.wrap (IntKind.u64.wrap (x_1.fst + x_1.snd) / (2 : Int) ^ Int.toNat (1 : Int)) ∧ IntKind.i64.wrap (IntKind.u64.wrap (x_1.fst + x_1.snd) / (2 : Int) ^ Int.toNat (1 : Int)) < (↑x.fst.length : Int) ∧ True ∧ (decide (cmpL (x.fst.getD (IntKind.i64.wrap (IntKind.u64.wrap (x_1.fst + x_1.snd) / (2 : Int) ^ Int.toNat (1 : Int))).toNat ((0 : Int), (0 : Int))).fst x.snd < (0 : Int)) = true → InR IntKind.i64 (IntKind.i64.wrap (IntKind.u64.wrap (x_1.fst + x_1.snd) / (2 : Int) ^ Int.toNat (1 : Int)) + (1 : Int)) ∧ ((0 : Int) ≤ IntKind.i64.wrap (IntKind.u64.wrap (x_1.fst + x_1.snd) / (2 : Int) ^ Int.toNat (1 : Int)) + (1 : Int) ∧ IntKind.i64.wrap (IntKind.u64.wrap (x_1.fst + x_1.snd) / (2 : Int) ^ Int.toNat (1 : Int)) + (1 : Int) ≤ x_1.snd ∧ x_1.snd ≤ (↑x.fst.length : Int) ∧ (∀ (j : Nat), (↑j : Int) < IntKind.i64.wrap (IntKind.u64.wrap (x_1.fst + x_1.snd) / (2 : Int) ^ Int.toNat (1 : Int)) + (1 : Int) → (List.map Prod.fst x.fst).getD j (0 : Int) < x.snd) ∧ ∀ (j : Nat), x_1.snd ≤ (↑j : Int) → j < x.fst.length → x.snd ≤ (List.map Prod.fst x.fst).getD j (0 : Int)) ∧ (x_1.snd - (IntKind.i64.wrap (IntKind.u64.wrap (x_1.fst + x_1.snd) / (2 : Int) ^ Int.toNat (1 : Int)) + (1 : Int))).toNat < (x_1.snd - x_1.fst).toNat) ∧ (decide (cmpL (x.fst.getD (IntKind.i64.wrap (IntKind.u64.wrap (x_1.fst + x_1.snd) / (2 : Int) ^ Int.toNat (1 : Int))).toNat ((0 : Int), (0 : Int))).fst x.snd < (0 : Int)) = false → ((0 : Int) ≤ x_1.fst ∧ x_1.fst ≤ IntKind.i64.wrap (IntKind.u64.wrap (x_1.fst + x_1.snd) / (2 : Int) ^ Int.toNat (1 : Int)) ∧ IntKind.i64.wrap (IntKind.u64.wrap (x_1.fst + x_1.snd) / (2 : Int) ^ Int.toNat (1 : Int)) ≤ (↑x.fst.length : Int) ∧ (∀ (j : Nat), (↑j : Int) < x_1.fst → (List.map Prod.fst x.fst).getD j (0 : Int) < x.snd) ∧ ∀ (j : Nat), IntKind.i64.wrap (IntKind.u64.wrap (x_1.fst + x_1.snd) / (2 : Int) ^ Int.toNat (1 : Int)) ≤ (↑j : Int) → j < x.fst.length → x.snd ≤ (List.map Prod.fst x.fst).getD j (0 : Int)) ∧ (IntKind.i64.wrap (IntKind.u64.wrap (x_1.fst + x_1.snd) / (2 : Int) ^ Int.toNat (1 : Int)) - x_1.fst).toNat < (x_1.snd - x_1.fst).toNat)) ∧ (decide (x_1.fst < x_1.snd) = false → (decide (x_1.fst < (↑x.fst.length : Int)) = true → (0 : Int) ≤ x_1.fst) ∧ (decide (x_1.fst < (↑x.fst.length : Int)) = true → x_1.fst < (↑x.fst.length : Int)) ∧ (decide (x_1.fst < (↑x.fst.length : Int)) = true → True) ∧ x_1.fst = (findP x.fst x.snd).fst ∧ (decide (x_1.fst < (↑x.fst.length : Int)) && decide (cmpL (x.fst.getD x_1.fst.toNat ((0 : Int), (0 : Int))).fst x.snd = (0 : Int))) = (findP x.fst x.snd).snd.fst ∧ (0 : Int) = (findP x.fst x.snd).snd.snd ∧ True)))
theorem vcp_find : pv_find := by
  unfold pv_find
  intro ⟨p, k⟩ ⟨⟨hb, _⟩, hk⟩ _
  unfold big at hb
  simp only at hb hk ⊢
  have hF : findP p k = if pinsF p ≠ 0 then (0, false, pinsF p) else if (decide (0 ≤ k) && decide (k < 256)) = false then (0, false, 4) else (lowP p k, hasP p k, 0) := rfl
  rw [hF]
  refine ⟨trivial, fun _ => trivial, fun h => ⟨fun _ => ?_, fun h4 => absurd h4 (by decide)⟩, fun h => ⟨fun h1 => ?_, fun h1 tm => ?_⟩⟩
  · simp only [Bool.and_eq_true, decide_eq_true_eq, Bool.not_eq_true'] at h
    rw [if_neg (by omega), if_pos h.2]
    refine ⟨?_, ?_, ?_, trivial⟩ <;> first | trivial | rfl
  · rw [if_pos (of_decide_eq_true h1)]
    refine ⟨?_, ?_, ?_, trivial⟩ <;> first | trivial | rfl
  have h0 : pinsF p = 0 := by simpa using of_decide_eq_false h1
  have hth : (decide (0 ≤ k) && decide (k < 256)) = true := by
    rw [decide_eq_true h0, Bool.true_and, Bool.not_eq_false'] at h
    exact h
  rw [if_neg (by omega), if_neg (by rw [hth]; simp)]
  obtain ⟨_, hp, _⟩ := pins_ok h0
  have hs : (p.map Prod.fst).Pairwise (· ≤ ·) := List.pairwise_map.2 (hp.imp fun h => Int.le_of_lt h)
  have hll : (p.map Prod.fst).length = p.length := List.length_map _
  simp only [cmpL_lt, cmpL_eq, ← fst_getD]
  obtain ⟨l, hl⟩ : ∃ l, l = p.map Prod.fst := ⟨_, rfl⟩
  have hlo : lowP p k = lowI l k := by rw [hl]; rfl
  have hha : hasP p k = inL l k := by rw [hl]; rfl
  rw [hlo, hha]
  rw [← hl] at hs hll ⊢
  rw [← hll] at hb ⊢
  refine ⟨⟨by omega, by omega, by omega, fun j hj => by omega, fun j h2 h3 => by omega⟩, fun ⟨lo, hi⟩ ⟨q1, q2, q3, q4, q5⟩ => ⟨fun hlt => ?_, fun hge => ?_⟩⟩
  · simp only at q1 q2 q3 q4 q5 hlt ⊢
    have hlt := of_decide_eq_true hlt
    have hm : IntKind.i64.wrap (IntKind.u64.wrap (lo + hi) / 2 ^ Int.toNat 1) = (lo + hi) / 2 := by
      rw [wrapU (by omega) (by omega), show (2 : Int) ^ Int.toNat 1 = 2 from rfl, wrapI (by omega) (by omega)]
    simp only [hm]
    have hm1 : lo ≤ (lo + hi) / 2 ∧ (lo + hi) / 2 < hi := by omega
    generalize (lo + hi) / 2 = m at *
    simp only [InR]
    refine ⟨by omega, by omega, by decide, by omega, by omega, trivial, fun hc => ⟨by omega, ⟨by omega, by omega, by omega, fun j hj => ?_, q5⟩, by omega⟩, fun hc => ⟨⟨by omega, by omega, by omega, q4, fun j h1 h2 => ?_⟩, by omega⟩⟩
    · have hc := of_decide_eq_true hc
      have := sorted_getD hs (i := j) (j := m.toNat) (by omega) (by omega)
      omega
    · have hc := of_decide_eq_false hc
      have := sorted_getD hs (i := m.toNat) (j := j) (by omega) (by omega)
      omega
  · simp only at q1 q2 q3 q4 q5 hge ⊢
    have hge := of_decide_eq_false hge
    have he : hi = lo := by omega
    subst he
    obtain ⟨n, rfl⟩ : ∃ n : Nat, hi = n := ⟨hi.toNat, by omega⟩
    have h1 : ∀ j : Nat, j < n → l.getD j 0 < k := fun j hj => q4 j (by omega)
    have h2 : ∀ j : Nat, n ≤ j → j < l.length → k ≤ l.getD j 0 := fun j h1 h2 => q5 j (by omega) h2
    rw [low_is (by omega) h1 h2, low_in hs h1 h2]
    refine ⟨fun _ => by omega, fun h => of_decide_eq_true h, fun _ => trivial, by first | trivial | rfl, ?_, by first | trivial | rfl, trivial⟩
    simp
theorem e_find : pv_find = (fnVC Try.prog (tbl [(31, sp_pinCheck), (108, sp_pinThere), (178, sp_findC)]) an_find Try.f104 sp_find) := by kernel_rfl
theorem vc_find : fnVC Try.prog (tbl [(31, sp_pinCheck), (108, sp_pinThere), (178, sp_findC)]) an_find Try.f104 sp_find := @Eq.mp _ _ @e_find @vcp_find
theorem ok_find : sp_find.ok Try.prog 104 := fn_sound (P := Try.prog) (ss := tbl [(31, sp_pinCheck), (108, sp_pinThere), (178, sp_findC)]) (ann := an_find) (f := 104) (fn := Try.f104) (s := sp_find) (tbl_cons ok_pinCheck (tbl_cons ok_pinThere (tbl_cons ok_findC tbl_nil))) Try.func104 @vc_find

theorem findP_ok {p : List Pin} {k : Int} (h : (findP p k).2.2 = 0) : pinsF p = 0 ∧ 0 ≤ k ∧ k ≤ 255 ∧ findP p k = (lowP p k, hasP p k, 0) := by
  unfold findP at h ⊢
  split at h
  · rename_i h1; exact absurd h h1
  · rename_i h1
    split at h
    · cases h
    · rename_i h2
      rw [if_neg h1, if_neg h2]
      have h2 : (decide (0 ≤ k) && decide (k < 256)) = true := by simpa using h2
      simp only [Bool.and_eq_true, decide_eq_true_eq] at h2
      exact ⟨by omega, h2.1, by omega, rfl⟩
theorem findP_bad {p : List Pin} {k : Int} (h : (findP p k).2.2 ≠ 0) : (findP p k).2.1 = false := by
  unfold findP at h ⊢
  split
  · rfl
  · rename_i h1
    split
    · rfl
    · rename_i h2
      rw [if_neg h1, if_neg h2] at h
      exact absurd rfl h

/-- Where a word's pin is, or would be. -/
theorem find_parts {p : List Pin} {k : Int} (h : (findP p k).2.2 = 0) : ∃ A B : List Pin, findP p k = ((A.length : Int), hasP p k, 0) ∧ lowP p k = A.length ∧ p.length ≤ 16 ∧ (∀ x ∈ A, x.1 < k) ∧ (∀ x ∈ B, k < x.1) ∧
    ((hasP p k = false ∧ manyP p k = 0 ∧ p = A ++ B) ∨ (hasP p k = true ∧ 1 ≤ manyP p k ∧ manyP p k ≤ 1000000 ∧ p = A ++ (k, manyP p k) :: B)) := by
  obtain ⟨h1, h2, h3, h4⟩ := findP_ok h
  obtain ⟨h5, h6, h7⟩ := pins_ok h1
  obtain ⟨A, B, a1, a2, a3, a4⟩ := low_parts h6 k
  refine ⟨A, B, by rw [h4, a3], a3, h5, a1, a2, ?_⟩
  rcases a4 with ⟨b1, b2⟩ | ⟨v, b1, b2⟩
  · refine .inl ⟨?_, ?_, b2⟩
    · rw [hasP_get h6, b1]; rfl
    · unfold manyP; rw [b1]; rfl
  · have hm : manyP p k = v := by unfold manyP; rw [b1]; rfl
    have hv := h7 (k, v) (by rw [b2]; simp)
    refine .inr ⟨?_, ?_, ?_, by rw [hm]; exact b2⟩
    · rw [hasP_get h6, b1]; rfl
    · rw [hm]; exact hv.2.2.1
    · rw [hm]; exact hv.2.2.2

theorem get_at {A B : List Pin} {x : Pin} : (A ++ x :: B).getD ((A.length : Int)).toNat (0, 0) = x := by simp
theorem set_at {A B : List Pin} {x : Pin} (y : Pin) : (A ++ x :: B).set ((A.length : Int)).toNat y = A ++ y :: B := by simp
theorem ins_at {A B : List Pin} (x : Pin) : insG (A ++ B) [x] (A.length : Int) = A ++ x :: B := by simp [insG]
theorem cut_at {A B : List Pin} {x : Pin} : cutG (A ++ x :: B) (A.length : Int) ((A.length : Int) + 1) = A ++ B := by
  unfold cutG
  rw [show ((A.length : Int) + 1).toNat = A.length + 1 by omega]
  simp

def sp_many : Spec := { Ts := [.arr ty_Pin, ty_I], Rs := [.dat ty_I, .dat ty_I], pre := fun _ => True, F := fun ((p, k) : List Pin × Int) => ((if (findP p k).2.2 = 0 then manyP p k else 0, (findP p k).2.2) : Int × Int) }
def pv_many : Prop :=
    ∀ (x : List (Int × Int) × Int), (x.fst.length * ((8 : Nat) + (8 : Nat)) ≤ big ∧ ∀ (x_1 : Int × Int), x_1 ∈ x.fst → InR IntKind.i64 x_1.fst ∧ InR IntKind.i64 x_1.snd) ∧ InR IntKind.i64 x.snd → True → True ∧ ((!(findP x.fst x.snd).snd.fst) = true → ((0 : Int) = if (findP x.fst x.snd).snd.snd = (0 : Int) then manyP x.fst x.snd else (0 : Int)) ∧ (findP x.fst x.snd).snd.snd = (findP x.fst x.snd).snd.snd ∧ True) ∧ ((!(findP x.fst x.snd).snd.fst) = false → (0 : Int) ≤ (findP x.fst x.snd).fst ∧ (findP x.fst x.snd).fst < (↑x.fst.length : Int) ∧ ((x.fst.getD (findP x.fst x.snd).fst.toNat ((0 : Int), (0 : Int))).snd = if (findP x.fst x.snd).snd.snd = (0 : Int) then manyP x.fst x.snd else (0 : Int)) ∧ (findP x.fst x.snd).snd.snd = (findP x.fst x.snd).snd.snd ∧ True)
theorem vcp_many : pv_many := by
  unfold pv_many
  intro ⟨p, k⟩ _ _
  simp only
  refine ⟨trivial, fun h => ?_, fun h => ?_⟩
  · refine ⟨?_, by first | trivial | rfl, trivial⟩
    by_cases h0 : (findP p k).2.2 = 0
    · rw [if_pos h0]
      obtain ⟨A, B, e, _, _, _, _, h1⟩ := find_parts h0
      rw [e] at h
      rcases h1 with h1 | h1
      · exact h1.2.1.symm
      · rw [h1.1] at h; cases h
    · rw [if_neg h0]
  · have h0 : (findP p k).2.2 = 0 := by
      by_cases h0 : (findP p k).2.2 = 0
      · exact h0
      · rw [findP_bad h0] at h; cases h
    rw [if_pos h0]
    obtain ⟨A, B, e, _, _, _, _, h1⟩ := find_parts h0
    rw [e] at h ⊢
    rcases h1 with h1 | ⟨_, h2, h3, h4⟩
    · simp only at h; rw [h1.1] at h; cases h
    · generalize manyP p k = v at *
      subst h4
      rw [get_at]
      refine ⟨by omega, by simp; omega, by first | trivial | rfl, by first | trivial | rfl, trivial⟩
theorem e_many : pv_many = (fnVC Try.prog (tbl [(104, sp_find)]) an_0 Try.f27 sp_many) := by kernel_rfl
theorem vc_many : fnVC Try.prog (tbl [(104, sp_find)]) an_0 Try.f27 sp_many := @Eq.mp _ _ @e_many @vcp_many
theorem ok_many : sp_many.ok Try.prog 27 := fn_sound (P := Try.prog) (ss := tbl [(104, sp_find)]) (ann := an_0) (f := 27) (fn := Try.f27) (s := sp_many) (tbl_cons ok_find tbl_nil) Try.func27 @vc_many

def sp_clonePins : Spec := { Ts := [.arr ty_Pin], Rs := [.own 155 ty_Pin], pre := fun _ => True, F := fun (x : List Pin) => x }
def pv_clonePins : Prop :=
    ∀ (x : List (Int × Int)), (x.length * ((8 : Nat) + (8 : Nat)) ≤ big ∧ ∀ (x_1 : Int × Int), x_1 ∈ x → InR IntKind.i64 x_1.fst ∧ InR IntKind.i64 x_1.snd) → True → (x = ([] : List (Int × Int)) → ([] : List (Int × Int)) = x ∧ True) ∧ (True → ((0 : Nat) + x.length) * ((8 : Nat) + (8 : Nat)) ≤ big ∧ ([] : List (Int × Int)) ++ x = x ∧ True)
theorem vcp_clonePins : pv_clonePins := by
  unfold pv_clonePins
  intro x ⟨hb, _⟩ _
  simp [hb]
theorem e_clonePins : pv_clonePins = (fnVC Try.prog (tbl []) an_0 Try.f105 sp_clonePins) := by kernel_rfl
theorem vc_clonePins : fnVC Try.prog (tbl []) an_0 Try.f105 sp_clonePins := @Eq.mp _ _ @e_clonePins @vcp_clonePins
theorem ok_clonePins : sp_clonePins.ok Try.prog 105 := fn_sound (P := Try.prog) (ss := tbl []) (ann := an_0) (f := 105) (fn := Try.f105) (s := sp_clonePins) tbl_nil Try.func105 @vc_clonePins

def addP (p : List Pin) (k : Int) : List Pin × Int × Int :=
  if (findP p k).2.2 ≠ 0 then ([], 0, (findP p k).2.2) else if manyP p k = 1000000 ∨ (hasP p k = false ∧ p.length = 16) then ([], 0, 7)
  else ((if hasP p k = true then p.set (lowP p k).toNat (k, manyP p k + 1) else insG p [(k, 1)] (lowP p k)), manyP p k + 1, 0)
def sp_add : Spec := { Ts := [.arr ty_Pin, ty_I], Rs := [.own 155 ty_Pin, .dat ty_I, .dat ty_I], pre := fun _ => True, F := fun ((p, k) : List Pin × Int) => addP p k }
def pv_add : Prop :=
    ∀ (x : List (Int × Int) × Int), (x.fst.length * ((8 : Nat) + (8 : Nat)) ≤ big ∧ ∀ (x_1 : Int × Int), x_1 ∈ x.fst → InR IntKind.i64 x_1.fst ∧ InR IntKind.i64 x_1.snd) ∧ InR IntKind.i64 x.snd → True → True ∧ (decide ((findP x.fst x.snd).snd.snd ≠ (0 : Int)) = true → ([] : List (Int × Int)) = (addP x.fst x.snd).fst ∧ (0 : Int) = (addP x.fst x.snd).snd.fst ∧ (findP x.fst x.snd).snd.snd = (addP x.fst x.snd).snd.snd ∧ True) ∧ (decide ((findP x.fst x.snd).snd.snd ≠ (0 : Int)) = false → ((findP x.fst x.snd).snd.fst = true → (0 : Int) ≤ (findP x.fst x.snd).fst) ∧ ((findP x.fst x.snd).snd.fst = true → (findP x.fst x.snd).fst < (↑x.fst.length : Int)) ∧ (((findP x.fst x.snd).snd.fst && decide ((x.fst.getD (findP x.fst x.snd).fst.toNat ((0 : Int), (0 : Int))).snd = (1000000 : Int)) || !(findP x.fst x.snd).snd.fst && decide ((↑x.fst.length : Int) = (16 : Int))) = true → ([] : List (Int × Int)) = (addP x.fst x.snd).fst ∧ (0 : Int) = (addP x.fst x.snd).snd.fst ∧ (7 : Int) = (addP x.fst x.snd).snd.snd ∧ True) ∧ (((findP x.fst x.snd).snd.fst && decide ((x.fst.getD (findP x.fst x.snd).fst.toNat ((0 : Int), (0 : Int))).snd = (1000000 : Int)) || !(findP x.fst x.snd).snd.fst && decide ((↑x.fst.length : Int) = (16 : Int))) = false → True ∧ ((!(findP x.fst x.snd).snd.fst) = true → ((0 : Nat) < [(x.snd, (0 : Int))].length ∧ (0 : Int) ≤ (findP x.fst x.snd).fst ∧ (findP x.fst x.snd).fst ≤ (↑x.fst.length : Int) ∧ (x.fst.length + [(x.snd, (0 : Int))].length) * ((8 : Nat) + (8 : Nat)) ≤ big) ∧ (0 : Int) ≤ (findP x.fst x.snd).fst ∧ (findP x.fst x.snd).fst < (↑(insG x.fst [(x.snd, (0 : Int))] (findP x.fst x.snd).fst).length : Int) ∧ (findP x.fst x.snd).fst.toNat < (insG x.fst [(x.snd, (0 : Int))] (findP x.fst x.snd).fst).length ∧ InR IntKind.i64 (((insG x.fst [(x.snd, (0 : Int))] (findP x.fst x.snd).fst).getD (findP x.fst x.snd).fst.toNat ((0 : Int), (0 : Int))).snd + (1 : Int)) ∧ (0 : Int) ≤ (findP x.fst x.snd).fst ∧ (findP x.fst x.snd).fst < (↑(insG x.fst [(x.snd, (0 : Int))] (findP x.fst x.snd).fst).length : Int) ∧ (findP x.fst x.snd).fst.toNat < (insG x.fst [(x.snd, (0 : Int))] (findP x.fst x.snd).fst).length ∧ (0 : Int) ≤ (findP x.fst x.snd).fst ∧ (findP x.fst x.snd).fst < (↑((insG x.fst [(x.snd, (0 : Int))] (findP x.fst x.snd).fst).set (findP x.fst x.snd).fst.toNat (((insG x.fst [(x.snd, (0 : Int))] (findP x.fst x.snd).fst).getD (findP x.fst x.snd).fst.toNat ((0 : Int), (0 : Int))).fst, ((insG x.fst [(x.snd, (0 : Int))] (findP x.fst x.snd).fst).getD (findP x.fst x.snd).fst.toNat ((0 : Int), (0 : Int))).snd + (1 : Int))).length : Int) ∧ (findP x.fst x.snd).fst.toNat < ((insG x.fst [(x.snd, (0 : Int))] (findP x.fst x.snd).fst).set (findP x.fst x.snd).fst.toNat (((insG x.fst [(x.snd, (0 : Int))] (findP x.fst x.snd).fst).getD (findP x.fst x.snd).fst.toNat ((0 : Int), (0 : Int))).fst, ((insG x.fst [(x.snd, (0 : Int))] (findP x.fst x.snd).fst).getD (findP x.fst x.snd).fst.toNat ((0 : Int), (0 : Int))).snd + (1 : Int))).length ∧ (insG x.fst [(x.snd, (0 : Int))] (findP x.fst x.snd).fst).set (findP x.fst x.snd).fst.toNat (((insG x.fst [(x.snd, (0 : Int))] (findP x.fst x.snd).fst).getD (findP x.fst x.snd).fst.toNat ((0 : Int), (0 : Int))).fst, ((insG x.fst [(x.snd, (0 : Int))] (findP x.fst x.snd).fst).getD (findP x.fst x.snd).fst.toNat ((0 : Int), (0 : Int))).snd + (1 : Int)) = (addP x.fst x.snd).fst ∧ (((insG x.fst [(x.snd, (0 : Int))] (findP x.fst x.snd).fst).set (findP x.fst x.snd).fst.toNat (((insG x.fst [(x.snd, (0 : Int))] (findP x.fst x.snd).fst).getD (findP x.fst x.snd).fst.toNat ((0 : Int), (0 : Int))).fst, ((insG x.fst [(x.snd, (0 : Int))] (findP x.fst x.snd).fst).getD (findP x.fst x.snd).fst.toNat ((0 : Int), (0 : Int))).snd + (1 : Int))).getD (findP x.fst x.snd).fst.toNat ((0 : Int), (0 : Int))).snd = (addP x.fst x.snd).snd.fst ∧ (0 : Int) = (addP x.fst x.snd).snd.snd ∧ True) ∧ ((!(findP x.fst x.snd).snd.fst) = false → (0 : Int) ≤ (findP x.fst x.snd).fst ∧ (findP x.fst x.snd).fst < (↑x.fst.length : Int) ∧ (findP x.fst x.snd).fst.toNat < x.fst.length ∧ InR IntKind.i64 ((x.fst.getD (findP x.fst x.snd).fst.toNat ((0 : Int), (0 : Int))).snd + (1 : Int)) ∧ (0 : Int) ≤ (findP x.fst x.snd).fst ∧ (findP x.fst x.snd).fst < (↑x.fst.length : Int) ∧ (findP x.fst x.snd).fst.toNat < x.fst.length ∧ (0 : Int) ≤ (findP x.fst x.snd).fst ∧ (findP x.fst x.snd).fst < (↑(x.fst.set (findP x.fst x.snd).fst.toNat ((x.fst.getD (findP x.fst x.snd).fst.toNat ((0 : Int), (0 : Int))).fst, (x.fst.getD (findP x.fst x.snd).fst.toNat ((0 : Int), (0 : Int))).snd + (1 : Int))).length : Int) ∧ (findP x.fst x.snd).fst.toNat < (x.fst.set (findP x.fst x.snd).fst.toNat ((x.fst.getD (findP x.fst x.snd).fst.toNat ((0 : Int), (0 : Int))).fst, (x.fst.getD (findP x.fst x.snd).fst.toNat ((0 : Int), (0 : Int))).snd + (1 : Int))).length ∧ x.fst.set (findP x.fst x.snd).fst.toNat ((x.fst.getD (findP x.fst x.snd).fst.toNat ((0 : Int), (0 : Int))).fst, (x.fst.getD (findP x.fst x.snd).fst.toNat ((0 : Int), (0 : Int))).snd + (1 : Int)) = (addP x.fst x.snd).fst ∧ ((x.fst.set (findP x.fst x.snd).fst.toNat ((x.fst.getD (findP x.fst x.snd).fst.toNat ((0 : Int), (0 : Int))).fst, (x.fst.getD (findP x.fst x.snd).fst.toNat ((0 : Int), (0 : Int))).snd + (1 : Int))).getD (findP x.fst x.snd).fst.toNat ((0 : Int), (0 : Int))).snd = (addP x.fst x.snd).snd.fst ∧ (0 : Int) = (addP x.fst x.snd).snd.snd ∧ True)))
theorem vcp_add : pv_add := by
  unfold pv_add
  intro ⟨p, k⟩ ⟨⟨hb, _⟩, _⟩ _
  unfold big at hb
  simp only at hb ⊢
  have hF : addP p k = if (findP p k).2.2 ≠ 0 then ([], 0, (findP p k).2.2) else if manyP p k = 1000000 ∨ (hasP p k = false ∧ p.length = 16) then ([], 0, 7)
    else ((if hasP p k = true then p.set (lowP p k).toNat (k, manyP p k + 1) else insG p [(k, 1)] (lowP p k)), manyP p k + 1, 0) := rfl
  rw [hF]
  refine ⟨trivial, fun h => ?_, fun h => ?_⟩
  · rw [if_pos (of_decide_eq_true h)]
    exact ⟨by first | trivial | rfl, by first | trivial | rfl, by first | trivial | rfl, trivial⟩
  have h0 : (findP p k).2.2 = 0 := by simpa using of_decide_eq_false h
  rw [if_neg (by omega)]
  obtain ⟨A, B, e, e2, hl, _, _, h1⟩ := find_parts h0
  rw [e, e2]
  simp only
  rcases h1 with ⟨h1, h2, h3⟩ | ⟨h1, h2, h2', h3⟩
  · rw [h1, h2]
    subst h3
    refine ⟨(fun h => by cases h), (fun h => by cases h), fun h => ?_, fun h => ⟨trivial, fun _ => ?_, (fun h => by cases h)⟩⟩
    · have h : (A ++ B).length = 16 := by
        have : (((A ++ B).length : Nat) : Int) = 16 := by simpa using h
        omega
      rw [if_pos (.inr ⟨rfl, h⟩)]
      exact ⟨by first | trivial | rfl, by first | trivial | rfl, by first | trivial | rfl, trivial⟩
    · have h : ¬ (A ++ B).length = 16 := by
        intro h4
        simp only [Bool.not_false, Bool.true_and, Bool.false_and, Bool.false_or, decide_eq_false_iff_not] at h
        exact h (by omega)
      have hno : ¬ ((0 : Int) = 1000000 ∨ (false = false ∧ (A ++ B).length = 16)) := by
        rintro (h4 | h4)
        · omega
        · exact h h4.2
      rw [if_neg hno, if_neg (by simp), ins_at, ins_at, get_at, set_at, get_at]
      simp only [InR, List.length_append, List.length_cons, List.length_nil] at *
      unfold big
      refine ⟨⟨by omega, by omega, by omega, by omega⟩, by omega, by omega, by omega, by omega, by omega, by omega, by omega, by omega, by omega, by omega, ?_, ?_, trivial, trivial⟩ <;> first | trivial | rfl
  · rw [h1]
    generalize manyP p k = v at *
    subst h3
    rw [get_at]
    refine ⟨fun _ => by omega, fun _ => by simp; omega, fun h => ?_, fun h => ⟨trivial, (fun h => by cases h), fun _ => ?_⟩⟩
    · have h : v = 1000000 := by simpa using h
      rw [if_pos (.inl h)]
      exact ⟨by first | trivial | rfl, by first | trivial | rfl, by first | trivial | rfl, trivial⟩
    · have h : v ≠ 1000000 := by simpa using h
      have hno : ¬ (v = 1000000 ∨ (true = false ∧ (A ++ (k, v) :: B).length = 16)) := by
        rintro (h4 | h4)
        · exact h h4
        · exact absurd h4.1 (by simp)
      rw [if_neg hno, if_pos rfl, set_at, get_at]
      simp only [InR, List.length_append, List.length_cons, List.length_nil] at *
      refine ⟨by omega, by omega, by omega, by omega, by omega, by omega, by omega, by omega, by omega, by omega, ?_, ?_, trivial, trivial⟩ <;> first | trivial | rfl
theorem e_add : pv_add = (fnVC Try.prog (tbl [(104, sp_find), (105, sp_clonePins)] [(106, sp_insPin)]) an_0 Try.f28 sp_add) := by kernel_rfl
theorem vc_add : fnVC Try.prog (tbl [(104, sp_find), (105, sp_clonePins)] [(106, sp_insPin)]) an_0 Try.f28 sp_add := @Eq.mp _ _ @e_add @vcp_add
theorem ok_add : sp_add.ok Try.prog 28 := fn_sound (P := Try.prog) (ss := tbl [(104, sp_find), (105, sp_clonePins)] [(106, sp_insPin)]) (ann := an_0) (f := 28) (fn := Try.f28) (s := sp_add) (tbl_cons ok_find (tbl_cons ok_clonePins (tbl_row ok_insPin tbl_nil))) Try.func28 @vc_add

def dropP (p : List Pin) (k : Int) : List Pin × Int × Int :=
  if (findP p k).2.2 ≠ 0 then ([], 0, (findP p k).2.2) else if hasP p k = false then ([], 0, 5)
  else ((if manyP p k = 1 then cutG p (lowP p k) (lowP p k + 1) else p.set (lowP p k).toNat (k, manyP p k - 1)), manyP p k - 1, 0)
def sp_drop : Spec := { Ts := [.arr ty_Pin, ty_I], Rs := [.own 155 ty_Pin, .dat ty_I, .dat ty_I], pre := fun _ => True, F := fun ((p, k) : List Pin × Int) => dropP p k }
def pv_drop : Prop :=
    ∀ (x : List (Int × Int) × Int), (x.fst.length * ((8 : Nat) + (8 : Nat)) ≤ big ∧ ∀ (x_1 : Int × Int), x_1 ∈ x.fst → InR IntKind.i64 x_1.fst ∧ InR IntKind.i64 x_1.snd) ∧ InR IntKind.i64 x.snd → True → True ∧ (decide ((findP x.fst x.snd).snd.snd ≠ (0 : Int)) = true → ([] : List (Int × Int)) = (dropP x.fst x.snd).fst ∧ (0 : Int) = (dropP x.fst x.snd).snd.fst ∧ (findP x.fst x.snd).snd.snd = (dropP x.fst x.snd).snd.snd ∧ True) ∧ (decide ((findP x.fst x.snd).snd.snd ≠ (0 : Int)) = false → ((!(findP x.fst x.snd).snd.fst) = true → ([] : List (Int × Int)) = (dropP x.fst x.snd).fst ∧ (0 : Int) = (dropP x.fst x.snd).snd.fst ∧ (5 : Int) = (dropP x.fst x.snd).snd.snd ∧ True) ∧ ((!(findP x.fst x.snd).snd.fst) = false → True ∧ (0 : Int) ≤ (findP x.fst x.snd).fst ∧ (findP x.fst x.snd).fst < (↑x.fst.length : Int) ∧ (findP x.fst x.snd).fst.toNat < x.fst.length ∧ InR IntKind.i64 ((x.fst.getD (findP x.fst x.snd).fst.toNat ((0 : Int), (0 : Int))).snd - (1 : Int)) ∧ (0 : Int) ≤ (findP x.fst x.snd).fst ∧ (findP x.fst x.snd).fst < (↑x.fst.length : Int) ∧ (findP x.fst x.snd).fst.toNat < x.fst.length ∧ (0 : Int) ≤ (findP x.fst x.snd).fst ∧ (findP x.fst x.snd).fst < (↑(x.fst.set (findP x.fst x.snd).fst.toNat ((x.fst.getD (findP x.fst x.snd).fst.toNat ((0 : Int), (0 : Int))).fst, (x.fst.getD (findP x.fst x.snd).fst.toNat ((0 : Int), (0 : Int))).snd - (1 : Int))).length : Int) ∧ (findP x.fst x.snd).fst.toNat < (x.fst.set (findP x.fst x.snd).fst.toNat ((x.fst.getD (findP x.fst x.snd).fst.toNat ((0 : Int), (0 : Int))).fst, (x.fst.getD (findP x.fst x.snd).fst.toNat ((0 : Int), (0 : Int))).snd - (1 : Int))).length ∧ (decide (((x.fst.set (findP x.fst x.snd).fst.toNat ((x.fst.getD (findP x.fst x.snd).fst.toNat ((0 : Int), (0 : Int))).fst, (x.fst.getD (findP x.fst x.snd).fst.toNat ((0 : Int), (0 : Int))).snd - (1 : Int))).getD (findP x.fst x.snd).fst.toNat ((0 : Int), (0 : Int))).snd = (0 : Int)) = true → InR IntKind.i64 ((findP x.fst x.snd).fst + (1 : Int)) ∧ ((0 : Int) ≤ (findP x.fst x.snd).fst ∧ (findP x.fst x.snd).fst < (findP x.fst x.snd).fst + (1 : Int) ∧ (findP x.fst x.snd).fst + (1 : Int) ≤ (↑(x.fst.set (findP x.fst x.snd).fst.toNat ((x.fst.getD (findP x.fst x.snd).fst.toNat ((0 : Int), (0 : Int))).fst, (x.fst.getD (findP x.fst x.snd).fst.toNat ((0 : Int), (0 : Int))).snd - (1 : Int))).length : Int)) ∧ cutG (x.fst.set (findP x.fst x.snd).fst.toNat ((x.fst.getD (findP x.fst x.snd).fst.toNat ((0 : Int), (0 : Int))).fst, (x.fst.getD (findP x.fst x.snd).fst.toNat ((0 : Int), (0 : Int))).snd - (1 : Int))) (findP x.fst x.snd).fst ((findP x.fst x.snd).fst + (1 : Int)) = (dropP x.fst x.snd).fst ∧ ((x.fst.set (findP x.fst x.snd).fst.toNat ((x.fst.getD (findP x.fst x.snd).fst.toNat ((0 : Int), (0 : Int))).fst, (x.fst.getD (findP x.fst x.snd).fst.toNat ((0 : Int), (0 : Int))).snd - (1 : Int))).getD (findP x.fst x.snd).fst.toNat ((0 : Int), (0 : Int))).snd = (dropP x.fst x.snd).snd.fst ∧ (0 : Int) = (dropP x.fst x.snd).snd.snd ∧ True) ∧ (decide (((x.fst.set (findP x.fst x.snd).fst.toNat ((x.fst.getD (findP x.fst x.snd).fst.toNat ((0 : Int), (0 : Int))).fst, (x.fst.getD (findP x.fst x.snd).fst.toNat ((0 : Int), (0 : Int))).snd - (1 : Int))).getD (findP x.fst x.snd).fst.toNat ((0 : Int), (0 : Int))).snd = (0 : Int)) = false → x.fst.set (findP x.fst x.snd).fst.toNat ((x.fst.getD (findP x.fst x.snd).fst.toNat ((0 : Int), (0 : Int))).fst, (x.fst.getD (findP x.fst x.snd).fst.toNat ((0 : Int), (0 : Int))).snd - (1 : Int)) = (dropP x.fst x.snd).fst ∧ ((x.fst.set (findP x.fst x.snd).fst.toNat ((x.fst.getD (findP x.fst x.snd).fst.toNat ((0 : Int), (0 : Int))).fst, (x.fst.getD (findP x.fst x.snd).fst.toNat ((0 : Int), (0 : Int))).snd - (1 : Int))).getD (findP x.fst x.snd).fst.toNat ((0 : Int), (0 : Int))).snd = (dropP x.fst x.snd).snd.fst ∧ (0 : Int) = (dropP x.fst x.snd).snd.snd ∧ True)))
theorem vcp_drop : pv_drop := by
  unfold pv_drop
  intro ⟨p, k⟩ ⟨⟨hb, _⟩, _⟩ _
  unfold big at hb
  simp only at hb ⊢
  have hF : dropP p k = if (findP p k).2.2 ≠ 0 then ([], 0, (findP p k).2.2) else if hasP p k = false then ([], 0, 5)
    else ((if manyP p k = 1 then cutG p (lowP p k) (lowP p k + 1) else p.set (lowP p k).toNat (k, manyP p k - 1)), manyP p k - 1, 0) := rfl
  rw [hF]
  refine ⟨trivial, fun h => ?_, fun h => ?_⟩
  · rw [if_pos (of_decide_eq_true h)]
    exact ⟨by first | trivial | rfl, by first | trivial | rfl, by first | trivial | rfl, trivial⟩
  have h0 : (findP p k).2.2 = 0 := by simpa using of_decide_eq_false h
  rw [if_neg (by omega)]
  obtain ⟨A, B, e, e2, hl, _, _, h1⟩ := find_parts h0
  rw [e, e2]
  simp only
  rcases h1 with ⟨h1, h2, h3⟩ | ⟨h1, h2, h2', h3⟩
  · rw [h1, if_pos rfl]
    exact ⟨fun _ => ⟨by first | trivial | rfl, by first | trivial | rfl, by first | trivial | rfl, trivial⟩, fun h => by cases h⟩
  · rw [h1, if_neg (by simp)]
    generalize manyP p k = v at *
    subst h3
    rw [get_at, set_at, get_at, cut_at, cut_at]
    simp only [InR, List.length_append, List.length_cons, List.length_nil] at *
    refine ⟨(fun h => by cases h), fun _ => ⟨trivial, by omega, by omega, by omega, by omega, by omega, by omega, by omega, by omega, by omega, by omega, fun h => ?_, fun h => ?_⟩⟩
    · have h : v - 1 = 0 := of_decide_eq_true h
      rw [if_pos (by omega)]
      exact ⟨by omega, ⟨by omega, by omega, by omega⟩, by first | trivial | rfl, by first | trivial | rfl, by first | trivial | rfl, trivial⟩
    · have h : ¬ v - 1 = 0 := of_decide_eq_false h
      rw [if_neg (by omega)]
      exact ⟨by first | trivial | rfl, by first | trivial | rfl, by first | trivial | rfl, trivial⟩
theorem e_drop : pv_drop = (fnVC Try.prog (tbl [(104, sp_find), (105, sp_clonePins)] [(107, sp_delPin)]) an_0 Try.f29 sp_drop) := by kernel_rfl
theorem vc_drop : fnVC Try.prog (tbl [(104, sp_find), (105, sp_clonePins)] [(107, sp_delPin)]) an_0 Try.f29 sp_drop := @Eq.mp _ _ @e_drop @vcp_drop
theorem ok_drop : sp_drop.ok Try.prog 29 := fn_sound (P := Try.prog) (ss := tbl [(104, sp_find), (105, sp_clonePins)] [(107, sp_delPin)]) (ann := an_0) (f := 29) (fn := Try.f29) (s := sp_drop) (tbl_cons ok_find (tbl_cons ok_clonePins (tbl_row ok_delPin tbl_nil))) Try.func29 @vc_drop

def an_pinned : Nat → Option LoopGen
  | 3 => some { rd := [.dat 7 (.arr ty_Pin)], A := fun (p : List Pin) => { cs := [.map 6 .i64 ty_I, .dat 9 ty_I], inv := fun ((m, i) : List (Int × Int) × Int) => 0 ≤ i ∧ i ≤ p.length ∧ m = putAll [] (p.take i.toNat), mu := fun ((_, i) : List (Int × Int) × Int) => (p.length - i).toNat } }
  | _ => none
def sp_pinned : Spec := { Ts := [.arr ty_Pin], Rs := [.map .i64 ty_I], pre := fun _ => True, F := fun (p : List Pin) => putAll [] p }
def pv_pinned : Prop :=
    ∀ (x : List (Int × Int)), (x.length * ((8 : Nat) + (8 : Nat)) ≤ big ∧ ∀ (x_1 : Int × Int), x_1 ∈ x → InR IntKind.i64 x_1.fst ∧ InR IntKind.i64 x_1.snd) → True → ((0 : Int) ≤ (0 : Int) ∧ (0 : Int) ≤ (↑x.length : Int) ∧ ([] : List (Int × Int)) = putAll ([] : List Pin) (List.take (Int.toNat (0 : Int)) x)) ∧ ∀ (x_1 : List (Int × Int) × Int), (0 : Int) ≤ x_1.snd ∧ x_1.snd ≤ (↑x.length : Int) ∧ x_1.fst = putAll ([] : List Pin) (List.take x_1.snd.toNat x) → (decide (x_1.snd < (↑x.length : Int)) = true → (0 : Int) ≤ x_1.snd ∧ x_1.snd < (↑x.length : Int) ∧ InR IntKind.i64 (x_1.snd + (1 : Int)) ∧ ((0 : Int) ≤ x_1.snd + (1 : Int) ∧ x_1.snd + (1 : Int) ≤ (↑x.length : Int) ∧ mput x_1.fst (x.getD x_1.snd.toNat ((0 : Int), (0 : Int))).fst (x.getD x_1.snd.toNat ((0 : Int), (0 : Int))).snd = putAll ([] : List Pin) (List.take (x_1.snd + (1 : Int)).toNat x)) ∧ ((↑x.length : Int) - (x_1.snd + (1 : Int))).toNat < ((↑x.length : Int) - x_1.snd).toNat) ∧ (decide (x_1.snd < (↑x.length : Int)) = false → x_1.fst = putAll ([] : List Pin) x ∧ True)
theorem vcp_pinned : pv_pinned := by
  unfold pv_pinned
  intro p ⟨hb, _⟩ _
  unfold big at hb
  refine ⟨⟨by omega, by omega, by first | trivial | rfl⟩, fun ⟨m, i⟩ ⟨i0, i1, i2⟩ => ⟨fun hlt => ?_, fun hge => ?_⟩⟩
  · simp only at i0 i1 i2 hlt ⊢
    have hlt := of_decide_eq_true hlt
    have hs := take_snoc ((0, 0) : Pin) i0 hlt
    simp only [InR]
    refine ⟨i0, hlt, by omega, ⟨by omega, by omega, ?_⟩, by omega⟩
    rw [hs, i2]
    unfold putAll
    rw [List.foldl_append]
    rfl
  · simp only at i0 i1 i2 hge ⊢
    rw [take_end (of_decide_eq_false hge)] at i2
    exact ⟨i2, trivial⟩
theorem e_pinned : pv_pinned = (fnVC Try.prog (tbl []) an_pinned Try.f32 sp_pinned) := by kernel_rfl
theorem vc_pinned : fnVC Try.prog (tbl []) an_pinned Try.f32 sp_pinned := @Eq.mp _ _ @e_pinned @vcp_pinned
theorem ok_pinned : sp_pinned.ok Try.prog 32 := fn_sound (P := Try.prog) (ss := tbl []) (ann := an_pinned) (f := 32) (fn := Try.f32) (s := sp_pinned) tbl_nil Try.func32 @vc_pinned

def an_pinList : Nat → Option LoopGen
  | 3 => some { rd := [.dat 0 (.map .i64 ty_I)], A := fun (m : List (Int × Int)) => { cs := [.own 3 155 ty_Pin, .dat 5 ty_I], inv := fun ((out, i) : List Pin × Int) => 0 ≤ i ∧ i ≤ 256 ∧ out = pinUp m i.toNat ∧ out.length ≤ i.toNat, mu := fun ((_, i) : List Pin × Int) => (256 - i).toNat } }
  | _ => none
def sp_pinList : Spec := { Ts := [.map .i64 ty_I], Rs := [.own 155 ty_Pin], pre := fun _ => True, F := fun (m : List (Int × Int)) => pinList m }
def pv_pinList : Prop :=
    ∀ (x : List (Int × Int)), (∀ (x_1 : Int × Int), x_1 ∈ x → InR IntKind.i64 x_1.fst ∧ InR IntKind.i64 x_1.snd) → True → ((0 : Int) ≤ (0 : Int) ∧ (0 : Int) ≤ (256 : Int) ∧ ([] : List (Int × Int)) = pinUp x (Int.toNat (0 : Int)) ∧ (0 : Nat) ≤ Int.toNat (0 : Int)) ∧ ∀ (x_1 : List (Int × Int) × Int), (0 : Int) ≤ x_1.snd ∧ x_1.snd ≤ (256 : Int) ∧ x_1.fst = pinUp x x_1.snd.toNat ∧ x_1.fst.length ≤ x_1.snd.toNat → (decide (x_1.snd < (256 : Int)) = true → (decide ((0 : Int) < (mget x x_1.snd).getD (0 : Int)) = true → (x_1.fst.length + [(x_1.snd, (mget x x_1.snd).getD (0 : Int))].length) * ((8 : Nat) + (8 : Nat)) ≤ big ∧ InR IntKind.i64 (x_1.snd + (1 : Int)) ∧ ((0 : Int) ≤ x_1.snd + (1 : Int) ∧ x_1.snd + (1 : Int) ≤ (256 : Int) ∧ x_1.fst ++ [(x_1.snd, (mget x x_1.snd).getD (0 : Int))] = pinUp x (x_1.snd + (1 : Int)).toNat ∧ (x_1.fst ++ [(x_1.snd, (mget x x_1.snd).getD (0 : Int))]).length ≤ (x_1.snd + (1 : Int)).toNat) ∧ ((256 : Int) - (x_1.snd + (1 : Int))).toNat < ((256 : Int) - x_1.snd).toNat) ∧ (decide ((0 : Int) < (mget x x_1.snd).getD (0 : Int)) = false → InR IntKind.i64 (x_1.snd + (1 : Int)) ∧ ((0 : Int) ≤ x_1.snd + (1 : Int) ∧ x_1.snd + (1 : Int) ≤ (256 : Int) ∧ x_1.fst = pinUp x (x_1.snd + (1 : Int)).toNat ∧ x_1.fst.length ≤ (x_1.snd + (1 : Int)).toNat) ∧ ((256 : Int) - (x_1.snd + (1 : Int))).toNat < ((256 : Int) - x_1.snd).toNat)) ∧ (decide (x_1.snd < (256 : Int)) = false → x_1.fst = pinList x ∧ True)
theorem vcp_pinList : pv_pinList := by
  unfold pv_pinList
  intro m hm _
  refine ⟨⟨by omega, by omega, rfl, by simp⟩, fun ⟨out, i⟩ ⟨i0, i1, i2, i3⟩ => ⟨fun hlt => ?_, fun hge => ?_⟩⟩
  · simp only at i0 i1 i2 i3 hlt ⊢
    have hlt := of_decide_eq_true hlt
    obtain ⟨n, rfl⟩ : ∃ n : Nat, i = n := ⟨i.toNat, by omega⟩
    rw [show ((n : Int) + 1).toNat = n + 1 by omega, pinUp_succ]
    simp only [Int.toNat_natCast] at i2 i3
    have e : ∀ b, (mget m (n : Int)).getD 0 = b → manyP m n = b := fun b h => h
    generalize (mget m (n : Int)).getD 0 = v at *
    have e := e v rfl
    simp only [InR]
    refine ⟨fun hc => ⟨by simp only [List.length_cons, List.length_nil]; unfold big; omega, by omega, ⟨by omega, by omega, ?_, by simp; omega⟩, by omega⟩, fun hc => ⟨by omega, ⟨by omega, by omega, ?_, by omega⟩, by omega⟩⟩
    · have hc := of_decide_eq_true hc
      unfold pinAt
      rw [e, if_pos hc, i2]
    · have hc := of_decide_eq_false hc
      unfold pinAt
      rw [e, if_neg hc, List.append_nil, i2]
  · simp only at i0 i1 i2 i3 hge ⊢
    have hge := of_decide_eq_false hge
    have : i = 256 := by omega
    subst this
    exact ⟨i2, trivial⟩
theorem e_pinList : pv_pinList = (fnVC Try.prog (tbl []) an_pinList Try.f34 sp_pinList) := by kernel_rfl
theorem vc_pinList : fnVC Try.prog (tbl []) an_pinList Try.f34 sp_pinList := @Eq.mp _ _ @e_pinList @vcp_pinList
theorem ok_pinList : sp_pinList.ok Try.prog 34 := fn_sound (P := Try.prog) (ss := tbl []) (ann := an_pinList) (f := 34) (fn := Try.f34) (s := sp_pinList) tbl_nil Try.func34 @vc_pinList

def an_samePins : Nat → Option LoopGen
  | 4 => some { rd := [.dat 0 (.arr ty_Pin), .dat 1 (.arr ty_Pin)], A := fun ((a, b) : List Pin × List Pin) => { cs := [.dat 13 ty_I], inv := fun (i : Int) => a.length = b.length ∧ 0 ≤ i ∧ i ≤ a.length ∧ a.take i.toNat = b.take i.toNat, mu := fun (i : Int) => (a.length - i).toNat } }
  | _ => none
def sp_samePins : Spec := { Ts := [.arr ty_Pin, .arr ty_Pin], Rs := [.dat .bool], pre := fun _ => True, F := fun (x : List Pin × List Pin) => decide (x.1 = x.2) }
theorem pin_ne (a b : Pin) : (!(decide (a.1 = b.1) && decide (a.2 = b.2))) = decide (a ≠ b) := by
  obtain ⟨a1, a2⟩ := a
  obtain ⟨b1, b2⟩ := b
  apply Bool.eq_iff_iff.2
  simp only [Bool.and_eq_true, Bool.not_eq_true', Bool.and_eq_false_iff, decide_eq_true_eq, decide_eq_false_iff_not, ne_eq, Prod.mk.injEq]
  grind
def pv_samePins : Prop :=
    ∀ (x : List (Int × Int) × List (Int × Int)), ((x.fst.length * ((8 : Nat) + (8 : Nat)) ≤ big ∧ ∀ (x_1 : Int × Int), x_1 ∈ x.fst → InR IntKind.i64 x_1.fst ∧ InR IntKind.i64 x_1.snd) ∧ x.snd.length * ((8 : Nat) + (8 : Nat)) ≤ big ∧ ∀ (x_1 : Int × Int), x_1 ∈ x.snd → InR IntKind.i64 x_1.fst ∧ InR IntKind.i64 x_1.snd) → True → (decide ((↑x.fst.length : Int) ≠ (↑x.snd.length : Int)) = true → false = decide (x.fst = x.snd) ∧ True) ∧ (decide ((↑x.fst.length : Int) ≠ (↑x.snd.length : Int)) = false → (x.fst.length = x.snd.length ∧ (0 : Int) ≤ (0 : Int) ∧ (0 : Int) ≤ (↑x.fst.length : Int) ∧ List.take (Int.toNat (0 : Int)) x.fst = List.take (Int.toNat (0 : Int)) x.snd) ∧ ∀ (x_1 : Int), x.fst.length = x.snd.length ∧ (0 : Int) ≤ x_1 ∧ x_1 ≤ (↑x.fst.length : Int) ∧ List.take x_1.toNat x.fst = List.take x_1.toNat x.snd → (decide (x_1 < (↑x.fst.length : Int)) = true → (0 : Int) ≤ x_1 ∧ x_1 < (↑x.fst.length : Int) ∧ (0 : Int) ≤ x_1 ∧ x_1 < (↑x.snd.length : Int) ∧ ((!(decide ((x.fst.getD x_1.toNat ((0 : Int), (0 : Int))).fst = (x.snd.getD x_1.toNat ((0 : Int), (0 : Int))).fst) && decide ((x.fst.getD x_1.toNat ((0 : Int), (0 : Int))).snd = (x.snd.getD x_1.toNat ((0 : Int), (0 : Int))).snd))) = true → false = decide (x.fst = x.snd) ∧ True) ∧ ((!(decide ((x.fst.getD x_1.toNat ((0 : Int), (0 : Int))).fst = (x.snd.getD x_1.toNat ((0 : Int), (0 : Int))).fst) && decide ((x.fst.getD x_1.toNat ((0 : Int), (0 : Int))).snd = (x.snd.getD x_1.toNat ((0 : Int), (0 : Int))).snd))) = false → InR IntKind.i64 (x_1 + (1 : Int)) ∧ (x.fst.length = x.snd.length ∧ (0 : Int) ≤ x_1 + (1 : Int) ∧ x_1 + (1 : Int) ≤ (↑x.fst.length : Int) ∧ List.take (x_1 + (1 : Int)).toNat x.fst = List.take (x_1 + (1 : Int)).toNat x.snd) ∧ ((↑x.fst.length : Int) - (x_1 + (1 : Int))).toNat < ((↑x.fst.length : Int) - x_1).toNat)) ∧ (decide (x_1 < (↑x.fst.length : Int)) = false → true = decide (x.fst = x.snd) ∧ True))
theorem vcp_samePins : pv_samePins := by
  unfold pv_samePins
  intro x hw _
  refine ⟨fun h => ?_, fun h => ?_⟩
  · have h : x.1.length ≠ x.2.length := by have := of_decide_eq_true h; omega
    have : x.1 ≠ x.2 := fun e => h (by rw [e])
    simp [this]
  have hl : x.1.length = x.2.length := by have := of_decide_eq_false h; omega
  refine ⟨⟨hl, by omega, by omega, by simp⟩, fun i ⟨_, h0, h1, ht⟩ => ⟨fun hlt => ?_, fun hge => ?_⟩⟩
  · have hlt : i < x.1.length := by simpa using hlt
    rw [pin_ne]
    refine ⟨h0, hlt, h0, by omega, fun hne => ?_, fun he => ?_⟩
    · have hne : x.1.getD i.toNat (0, 0) ≠ x.2.getD i.toNat (0, 0) := by simpa using hne
      have : x.1 ≠ x.2 := fun e => hne (by rw [e])
      simp [this]
    · have he : x.1.getD i.toNat (0, 0) = x.2.getD i.toNat (0, 0) := by simpa using he
      have hb := hw.1.1
      unfold big at hb
      refine ⟨by simp only [InR]; omega, ⟨hl, by omega, by omega, ?_⟩, by omega⟩
      rw [show (i + 1).toNat = i.toNat + 1 by omega]
      exact take_step hl (by omega) ht he
  · have hge : ¬ i < x.1.length := by simpa using hge
    have hi : i.toNat = x.1.length := by omega
    rw [hi, List.take_of_length_le (Nat.le_refl _), List.take_of_length_le (by omega)] at ht
    simp [ht]
theorem e_samePins : pv_samePins = (fnVC Try.prog (tbl []) an_samePins Try.f33 sp_samePins) := by kernel_rfl
theorem vc_samePins : fnVC Try.prog (tbl []) an_samePins Try.f33 sp_samePins := @Eq.mp _ _ @e_samePins @vcp_samePins
theorem ok_samePins : sp_samePins.ok Try.prog 33 := fn_sound (P := Try.prog) (ss := tbl []) (ann := an_samePins) (f := 33) (fn := Try.f33) (s := sp_samePins) tbl_nil Try.func33 @vc_samePins

/-- What is done to pins that are right. -/
theorem pins_law {p : List Pin} {k : Int} (h0 : pinsF p = 0) (hk : 0 ≤ k) (hk2 : k ≤ 255) : (findP p k).2.2 = 0 ∧ putAll [] p = p ∧ 0 ≤ manyP p k ∧ manyP p k ≤ 1000000 ∧
    (manyP p k = 1000000 ∨ (manyP p k = 0 ∧ p.length = 16) → addP p k = ([], 0, 7)) ∧
    (¬ (manyP p k = 1000000 ∨ (manyP p k = 0 ∧ p.length = 16)) → addP p k = (pinList (mput p k (manyP p k + 1)), manyP p k + 1, 0)) ∧
    (manyP p k = 0 → dropP p k = ([], 0, 5)) ∧ (manyP p k ≠ 0 → dropP p k = (pinList (mput p k (manyP p k - 1)), manyP p k - 1, 0)) := by
  have hF : findP p k = (lowP p k, hasP p k, 0) := by
    unfold findP
    rw [if_neg (by omega), if_neg (by simp; omega)]
  have hz : (findP p k).2.2 = 0 := by rw [hF]
  obtain ⟨h5, h6, h7⟩ := pins_ok h0
  obtain ⟨A, B, e, e2, hl, hA, hB, h1⟩ := find_parts hz
  refine ⟨hz, putAll_self h6, ?_⟩
  unfold addP dropP
  have hz' : ¬ ((findP p k).2.2 ≠ 0) := by omega
  rw [if_neg hz', if_neg hz', e2]
  rcases h1 with ⟨h1, h2, h3⟩ | ⟨h1, h2, h2', h3⟩
  · rw [h1, h2, if_pos rfl]
    have hAB : (A ++ B).Pairwise (fun x y => x.1 < y.1) := by rw [← h3]; exact h6
    have hab := List.pairwise_append.1 hAB
    refine ⟨by omega, by omega, fun h => ?_, fun h => ?_, fun _ => rfl, fun h => absurd rfl h⟩
    · rw [if_pos (h.imp id fun h => ⟨rfl, h.2⟩)]
    · rw [if_neg (fun h4 => h (h4.imp id fun h4 => ⟨rfl, h4.2⟩)), if_neg (by simp), h3, ins_at]
      have : pinList (mput (A ++ B) k (0 + 1)) = A ++ (k, 1) :: B := by
        refine pinList_is ?_ (fun x hx => ?_) (fun j _ _ => ?_)
        · refine List.pairwise_append.2 ⟨hab.1, List.pairwise_cons.2 ⟨hB, hab.2.1⟩, fun x hx y hy => ?_⟩
          rcases List.mem_cons.1 hy with rfl | hy
          · exact hA x hx
          · exact hab.2.2 x hx y hy
        · rcases List.mem_append.1 hx with hx | hx
          · have := h7 x (by rw [h3]; simp [hx]); omega
          · rcases List.mem_cons.1 hx with rfl | hx
            · simp only; omega
            · have := h7 x (by rw [h3]; simp [hx]); omega
        · rw [many_put, many_mid hA]
          rfl
      rw [this]
  · rw [h1, if_neg (show ¬ ((true : Bool) = false) by simp)]
    generalize hv : manyP p k = v at *
    have hAB : (A ++ (k, v) :: B).Pairwise (fun x y => x.1 < y.1) := by rw [← h3]; exact h6
    have hab := List.pairwise_append.1 hAB
    have hcb := List.pairwise_cons.1 hab.2.1
    have mid : ∀ u, 1 ≤ u → pinList (mput p k u) = A ++ (k, u) :: B := fun u hu => by
      refine pinList_is ?_ (fun x hx => ?_) (fun j _ _ => ?_)
      · refine List.pairwise_append.2 ⟨hab.1, List.pairwise_cons.2 ⟨hB, hcb.2⟩, fun x hx y hy => ?_⟩
        rcases List.mem_cons.1 hy with rfl | hy
        · exact hA x hx
        · exact hab.2.2 x hx y (by simp [hy])
      · rcases List.mem_append.1 hx with hx | hx
        · have := h7 x (by rw [h3]; simp [hx]); omega
        · rcases List.mem_cons.1 hx with rfl | hx
          · simp only; omega
          · have := h7 x (by rw [h3]; simp [hx]); omega
      · rw [many_put, h3, many_mid hA, many_mid hA]
        split <;> rfl
    refine ⟨by omega, by omega, fun h => ?_, fun h => ?_, fun h => by omega, fun _ => ?_⟩
    · have h : v = 1000000 := by rcases h with h | h <;> omega
      rw [if_pos (.inl h)]
    · have hno : ¬ (v = 1000000 ∨ (true = false ∧ p.length = 16)) := by
        rintro (h4 | h4)
        · exact h (.inl h4)
        · exact absurd h4.1 (by simp)
      rw [if_neg hno, if_pos rfl, mid (v + 1) (by omega), h3, set_at]
    · by_cases h : v = 1
      · rw [if_pos h, h3, cut_at, ← h3]
        have : pinList (mput p k (v - 1)) = A ++ B := by
          refine pinList_is ?_ (fun x hx => ?_) (fun j _ _ => ?_)
          · exact List.pairwise_append.2 ⟨hab.1, hcb.2, fun x hx y hy => hab.2.2 x hx y (by simp [hy])⟩
          · rcases List.mem_append.1 hx with hx | hx
            · have := h7 x (by rw [h3]; simp [hx]); omega
            · have := h7 x (by rw [h3]; simp [hx]); omega
          · rw [many_put, h3, many_mid hA]
            split
            · rename_i hj
              subst hj
              rw [many_out hA hB]
              omega
            · rfl
        rw [this]
      · rw [if_neg h, mid (v - 1) (by omega), h3, set_at]

theorem pinList_back (p : List Pin) (k a b : Int) : pinList (mput (mput p k a) k b) = pinList (mput p k b) :=
  pinList_congr fun j => by rw [many_put, many_put, many_put]; split <;> rfl
theorem pinList_twice (p : List Pin) (k a b c : Int) : pinList (mput (mput (mput p k a) k b) k c) = pinList (mput p k c) :=
  pinList_congr fun j => by rw [many_put, many_put, many_put, many_put]; split <;> rfl

def sp_lawPinTells : Spec := sp_law [.arr ty_Pin, ty_I]
def pv_lawPinTells : Prop :=
    ∀ (x : List (Int × Int) × Int), (x.fst.length * ((8 : Nat) + (8 : Nat)) ≤ big ∧ ∀ (x_1 : Int × Int), x_1 ∈ x.fst → InR IntKind.i64 x_1.fst ∧ InR IntKind.i64 x_1.snd) ∧ InR IntKind.i64 x.snd → (x.fst.length * ((8 : Nat) + (8 : Nat)) ≤ (140737488351232 : Nat) ∧ ∀ (x_1 : Int × Int), x_1 ∈ x.fst → sp_room ty_Pin x_1) ∧ True → True ∧ True ∧ True ∧ True ∧ True ∧ (decide (pinsF x.fst ≠ pinsF x.fst) = true → false = true ∧ True) ∧ (decide (pinsF x.fst ≠ pinsF x.fst) = false → ((decide (pinsF x.fst = (0 : Int)) && (decide (x.snd < (0 : Int)) || decide ((255 : Int) < x.snd))) = true → (decide ((4 : Int) ≠ (0 : Int)) = true → (decide ((if (findP x.fst x.snd).snd.snd = (0 : Int) then manyP x.fst x.snd else (0 : Int)) = (0 : Int)) && decide ((findP x.fst x.snd).snd.snd = (4 : Int)) && decide ((↑(addP x.fst x.snd).fst.length : Int) = (0 : Int)) && decide ((addP x.fst x.snd).snd.fst = (0 : Int)) && decide ((addP x.fst x.snd).snd.snd = (4 : Int)) && decide ((↑(dropP x.fst x.snd).fst.length : Int) = (0 : Int)) && decide ((dropP x.fst x.snd).snd.fst = (0 : Int)) && decide ((dropP x.fst x.snd).snd.snd = (4 : Int))) = true ∧ True) ∧ (decide ((4 : Int) ≠ (0 : Int)) = false → True ∧ ((decide ((if (findP x.fst x.snd).snd.snd = (0 : Int) then manyP x.fst x.snd else (0 : Int)) ≠ (mget (putAll ([] : List Pin) x.fst) x.snd).getD (0 : Int)) || decide ((findP x.fst x.snd).snd.snd ≠ (0 : Int))) = true → false = true ∧ True) ∧ ((decide ((if (findP x.fst x.snd).snd.snd = (0 : Int) then manyP x.fst x.snd else (0 : Int)) ≠ (mget (putAll ([] : List Pin) x.fst) x.snd).getD (0 : Int)) || decide ((findP x.fst x.snd).snd.snd ≠ (0 : Int))) = false → ((decide ((mget (putAll ([] : List Pin) x.fst) x.snd).getD (0 : Int) = (1000000 : Int)) || decide ((mget (putAll ([] : List Pin) x.fst) x.snd).getD (0 : Int) = (0 : Int)) && decide ((↑x.fst.length : Int) = (16 : Int))) = true → ((decide ((0 : Int) < (↑(addP x.fst x.snd).fst.length : Int)) || decide ((addP x.fst x.snd).snd.fst ≠ (0 : Int)) || decide ((addP x.fst x.snd).snd.snd ≠ (7 : Int))) = true → false = true ∧ True) ∧ ((decide ((0 : Int) < (↑(addP x.fst x.snd).fst.length : Int)) || decide ((addP x.fst x.snd).snd.fst ≠ (0 : Int)) || decide ((addP x.fst x.snd).snd.snd ≠ (7 : Int))) = false → (decide ((mget (putAll ([] : List Pin) x.fst) x.snd).getD (0 : Int) = (0 : Int)) = true → (decide ((↑(dropP x.fst x.snd).fst.length : Int) = (0 : Int)) && decide ((dropP x.fst x.snd).snd.fst = (0 : Int)) && decide ((dropP x.fst x.snd).snd.snd = (5 : Int))) = true ∧ True) ∧ (decide ((mget (putAll ([] : List Pin) x.fst) x.snd).getD (0 : Int) = (0 : Int)) = false → InR IntKind.i64 ((mget (putAll ([] : List Pin) x.fst) x.snd).getD (0 : Int) - (1 : Int)) ∧ True ∧ True ∧ (decide ((dropP x.fst x.snd).fst = pinList (mput (putAll ([] : List Pin) x.fst) x.snd ((mget (putAll ([] : List Pin) x.fst) x.snd).getD (0 : Int) - (1 : Int)))) && decide ((dropP x.fst x.snd).snd.fst = (mget (mput (putAll ([] : List Pin) x.fst) x.snd ((mget (putAll ([] : List Pin) x.fst) x.snd).getD (0 : Int) - (1 : Int))) x.snd).getD (0 : Int)) && decide ((dropP x.fst x.snd).snd.snd = (0 : Int))) = true ∧ True))) ∧ ((decide ((mget (putAll ([] : List Pin) x.fst) x.snd).getD (0 : Int) = (1000000 : Int)) || decide ((mget (putAll ([] : List Pin) x.fst) x.snd).getD (0 : Int) = (0 : Int)) && decide ((↑x.fst.length : Int) = (16 : Int))) = false → InR IntKind.i64 ((mget (putAll ([] : List Pin) x.fst) x.snd).getD (0 : Int) + (1 : Int)) ∧ True ∧ True ∧ ((!decide ((addP x.fst x.snd).fst = pinList (mput (putAll ([] : List Pin) x.fst) x.snd ((mget (putAll ([] : List Pin) x.fst) x.snd).getD (0 : Int) + (1 : Int)))) || decide ((addP x.fst x.snd).snd.fst ≠ (mget (mput (putAll ([] : List Pin) x.fst) x.snd ((mget (putAll ([] : List Pin) x.fst) x.snd).getD (0 : Int) + (1 : Int))) x.snd).getD (0 : Int)) || decide ((addP x.fst x.snd).snd.snd ≠ (0 : Int))) = true → false = true ∧ True) ∧ ((!decide ((addP x.fst x.snd).fst = pinList (mput (putAll ([] : List Pin) x.fst) x.snd ((mget (putAll ([] : List Pin) x.fst) x.snd).getD (0 : Int) + (1 : Int)))) || decide ((addP x.fst x.snd).snd.fst ≠ (mget (mput (putAll ([] : List Pin) x.fst) x.snd ((mget (putAll ([] : List Pin) x.fst) x.snd).getD (0 : Int) + (1 : Int))) x.snd).getD (0 : Int)) || decide ((addP x.fst x.snd).snd.snd ≠ (0 : Int))) = false → InR IntKind.i64 ((mget (mput (putAll ([] : List Pin) x.fst) x.snd ((mget (putAll ([] : List Pin) x.fst) x.snd).getD (0 : Int) + (1 : Int))) x.snd).getD (0 : Int) - (1 : Int)) ∧ (decide ((mget (mput (mput (putAll ([] : List Pin) x.fst) x.snd ((mget (putAll ([] : List Pin) x.fst) x.snd).getD (0 : Int) + (1 : Int))) x.snd ((mget (mput (putAll ([] : List Pin) x.fst) x.snd ((mget (putAll ([] : List Pin) x.fst) x.snd).getD (0 : Int) + (1 : Int))) x.snd).getD (0 : Int) - (1 : Int))) x.snd).getD (0 : Int) = (0 : Int)) = true → (decide ((↑(dropP x.fst x.snd).fst.length : Int) = (0 : Int)) && decide ((dropP x.fst x.snd).snd.fst = (0 : Int)) && decide ((dropP x.fst x.snd).snd.snd = (5 : Int))) = true ∧ True) ∧ (decide ((mget (mput (mput (putAll ([] : List Pin) x.fst) x.snd ((mget (putAll ([] : List Pin) x.fst) x.snd).getD (0 : Int) + (1 : Int))) x.snd ((mget (mput (putAll ([] : List Pin) x.fst) x.snd ((mget (putAll ([] : List Pin) x.fst) x.snd).getD (0 : Int) + (1 : Int))) x.snd).getD (0 : Int) - (1 : Int))) x.snd).getD (0 : Int) = (0 : Int)) = false → InR IntKind.i64 ((mget (mput (mput (putAll ([] : List Pin) x.fst) x.snd ((mget (putAll ([] : List Pin) x.fst) x.snd).getD (0 : Int) + (1 : Int))) x.snd ((mget (mput (putAll ([] : List Pin) x.fst) x.snd ((mget (putAll ([] : List Pin) x.fst) x.snd).getD (0 : Int) + (1 : Int))) x.snd).getD (0 : Int) - (1 : Int))) x.snd).getD (0 : Int) - (1 : Int)) ∧ True ∧ True ∧ (decide ((dropP x.fst x.snd).fst = pinList (mput (mput (mput (putAll ([] : List Pin) x.fst) x.snd ((mget (putAll ([] : List Pin) x.fst) x.snd).getD (0 : Int) + (1 : Int))) x.snd ((mget (mput (putAll ([] : List Pin) x.fst) x.snd ((mget (putAll ([] : List Pin) x.fst) x.snd).getD (0 : Int) + (1 : Int))) x.snd).getD (0 : Int) - (1 : Int))) x.snd ((mget (mput (mput (putAll ([] : List Pin) x.fst) x.snd ((mget (putAll ([] : List Pin) x.fst) x.snd).getD (0 : Int) + (1 : Int))) x.snd ((mget (mput (putAll ([] : List Pin) x.fst) x.snd ((mget (putAll ([] : List Pin) x.fst) x.snd).getD (0 : Int) + (1 : Int))) x.snd).getD (0 : Int) - (1 : Int))) x.snd).getD (0 : Int) - (1 : Int)))) && decide ((dropP x.fst x.snd).snd.fst = (mget (mput (mput (mput (putAll ([] : List Pin) x.fst) x.snd ((mget (putAll ([] : List Pin) x.fst) x.snd).getD (0 : Int) + (1 : Int))) x.snd ((mget (mput (putAll ([] : List Pin) x.fst) x.snd ((mget (putAll ([] : List Pin) x.fst) x.snd).getD (0 : Int) + (1 : Int))) x.snd).getD (0 : Int) - (1 : Int))) x.snd ((mget (mput (mput (putAll ([] : List Pin) x.fst) x.snd ((mget (putAll ([] : List Pin) x.fst) x.snd).getD (0 : Int) + (1 : Int))) x.snd ((mget (mput (putAll ([] : List Pin) x.fst) x.snd ((mget (putAll ([] : List Pin) x.fst) x.snd).getD (0 : Int) + (1 : Int))) x.snd).getD (0 : Int) - (1 : Int))) x.snd).getD (0 : Int) - (1 : Int))) x.snd).getD (0 : Int)) && decide ((dropP x.fst x.snd).snd.snd = (0 : Int))) = true ∧ True)))))) ∧ ((decide (pinsF x.fst = (0 : Int)) && (decide (x.snd < (0 : Int)) || decide ((255 : Int) < x.snd))) = false → (decide (pinsF x.fst ≠ (0 : Int)) = true → (decide ((if (findP x.fst x.snd).snd.snd = (0 : Int) then manyP x.fst x.snd else (0 : Int)) = (0 : Int)) && decide ((findP x.fst x.snd).snd.snd = pinsF x.fst) && decide ((↑(addP x.fst x.snd).fst.length : Int) = (0 : Int)) && decide ((addP x.fst x.snd).snd.fst = (0 : Int)) && decide ((addP x.fst x.snd).snd.snd = pinsF x.fst) && decide ((↑(dropP x.fst x.snd).fst.length : Int) = (0 : Int)) && decide ((dropP x.fst x.snd).snd.fst = (0 : Int)) && decide ((dropP x.fst x.snd).snd.snd = pinsF x.fst)) = true ∧ True) ∧ (decide (pinsF x.fst ≠ (0 : Int)) = false → True ∧ ((decide ((if (findP x.fst x.snd).snd.snd = (0 : Int) then manyP x.fst x.snd else (0 : Int)) ≠ (mget (putAll ([] : List Pin) x.fst) x.snd).getD (0 : Int)) || decide ((findP x.fst x.snd).snd.snd ≠ (0 : Int))) = true → false = true ∧ True) ∧ ((decide ((if (findP x.fst x.snd).snd.snd = (0 : Int) then manyP x.fst x.snd else (0 : Int)) ≠ (mget (putAll ([] : List Pin) x.fst) x.snd).getD (0 : Int)) || decide ((findP x.fst x.snd).snd.snd ≠ (0 : Int))) = false → ((decide ((mget (putAll ([] : List Pin) x.fst) x.snd).getD (0 : Int) = (1000000 : Int)) || decide ((mget (putAll ([] : List Pin) x.fst) x.snd).getD (0 : Int) = (0 : Int)) && decide ((↑x.fst.length : Int) = (16 : Int))) = true → ((decide ((0 : Int) < (↑(addP x.fst x.snd).fst.length : Int)) || decide ((addP x.fst x.snd).snd.fst ≠ (0 : Int)) || decide ((addP x.fst x.snd).snd.snd ≠ (7 : Int))) = true → false = true ∧ True) ∧ ((decide ((0 : Int) < (↑(addP x.fst x.snd).fst.length : Int)) || decide ((addP x.fst x.snd).snd.fst ≠ (0 : Int)) || decide ((addP x.fst x.snd).snd.snd ≠ (7 : Int))) = false → (decide ((mget (putAll ([] : List Pin) x.fst) x.snd).getD (0 : Int) = (0 : Int)) = true → (decide ((↑(dropP x.fst x.snd).fst.length : Int) = (0 : Int)) && decide ((dropP x.fst x.snd).snd.fst = (0 : Int)) && decide ((dropP x.fst x.snd).snd.snd = (5 : Int))) = true ∧ True) ∧ (decide ((mget (putAll ([] : List Pin) x.fst) x.snd).getD (0 : Int) = (0 : Int)) = false → InR IntKind.i64 ((mget (putAll ([] : List Pin) x.fst) x.snd).getD (0 : Int) - (1 : Int)) ∧ True ∧ True ∧ (decide ((dropP x.fst x.snd).fst = pinList (mput (putAll ([] : List Pin) x.fst) x.snd ((mget (putAll ([] : List Pin) x.fst) x.snd).getD (0 : Int) - (1 : Int)))) && decide ((dropP x.fst x.snd).snd.fst = (mget (mput (putAll ([] : List Pin) x.fst) x.snd ((mget (putAll ([] : List Pin) x.fst) x.snd).getD (0 : Int) - (1 : Int))) x.snd).getD (0 : Int)) && decide ((dropP x.fst x.snd).snd.snd = (0 : Int))) = true ∧ True))) ∧ ((decide ((mget (putAll ([] : List Pin) x.fst) x.snd).getD (0 : Int) = (1000000 : Int)) || decide ((mget (putAll ([] : List Pin) x.fst) x.snd).getD (0 : Int) = (0 : Int)) && decide ((↑x.fst.length : Int) = (16 : Int))) = false → InR IntKind.i64 ((mget (putAll ([] : List Pin) x.fst) x.snd).getD (0 : Int) + (1 : Int)) ∧ True ∧ True ∧ ((!decide ((addP x.fst x.snd).fst = pinList (mput (putAll ([] : List Pin) x.fst) x.snd ((mget (putAll ([] : List Pin) x.fst) x.snd).getD (0 : Int) + (1 : Int)))) || decide ((addP x.fst x.snd).snd.fst ≠ (mget (mput (putAll ([] : List Pin) x.fst) x.snd ((mget (putAll ([] : List Pin) x.fst) x.snd).getD (0 : Int) + (1 : Int))) x.snd).getD (0 : Int)) || decide ((addP x.fst x.snd).snd.snd ≠ (0 : Int))) = true → false = true ∧ True) ∧ ((!decide ((addP x.fst x.snd).fst = pinList (mput (putAll ([] : List Pin) x.fst) x.snd ((mget (putAll ([] : List Pin) x.fst) x.snd).getD (0 : Int) + (1 : Int)))) || decide ((addP x.fst x.snd).snd.fst ≠ (mget (mput (putAll ([] : List Pin) x.fst) x.snd ((mget (putAll ([] : List Pin) x.fst) x.snd).getD (0 : Int) + (1 : Int))) x.snd).getD (0 : Int)) || decide ((addP x.fst x.snd).snd.snd ≠ (0 : Int))) = false → InR IntKind.i64 ((mget (mput (putAll ([] : List Pin) x.fst) x.snd ((mget (putAll ([] : List Pin) x.fst) x.snd).getD (0 : Int) + (1 : Int))) x.snd).getD (0 : Int) - (1 : Int)) ∧ (decide ((mget (mput (mput (putAll ([] : List Pin) x.fst) x.snd ((mget (putAll ([] : List Pin) x.fst) x.snd).getD (0 : Int) + (1 : Int))) x.snd ((mget (mput (putAll ([] : List Pin) x.fst) x.snd ((mget (putAll ([] : List Pin) x.fst) x.snd).getD (0 : Int) + (1 : Int))) x.snd).getD (0 : Int) - (1 : Int))) x.snd).getD (0 : Int) = (0 : Int)) = true → (decide ((↑(dropP x.fst x.snd).fst.length : Int) = (0 : Int)) && decide ((dropP x.fst x.snd).snd.fst = (0 : Int)) && decide ((dropP x.fst x.snd).snd.snd = (5 : Int))) = true ∧ True) ∧ (decide ((mget (mput (mput (putAll ([] : List Pin) x.fst) x.snd ((mget (putAll ([] : List Pin) x.fst) x.snd).getD (0 : Int) + (1 : Int))) x.snd ((mget (mput (putAll ([] : List Pin) x.fst) x.snd ((mget (putAll ([] : List Pin) x.fst) x.snd).getD (0 : Int) + (1 : Int))) x.snd).getD (0 : Int) - (1 : Int))) x.snd).getD (0 : Int) = (0 : Int)) = false → InR IntKind.i64 ((mget (mput (mput (putAll ([] : List Pin) x.fst) x.snd ((mget (putAll ([] : List Pin) x.fst) x.snd).getD (0 : Int) + (1 : Int))) x.snd ((mget (mput (putAll ([] : List Pin) x.fst) x.snd ((mget (putAll ([] : List Pin) x.fst) x.snd).getD (0 : Int) + (1 : Int))) x.snd).getD (0 : Int) - (1 : Int))) x.snd).getD (0 : Int) - (1 : Int)) ∧ True ∧ True ∧ (decide ((dropP x.fst x.snd).fst = pinList (mput (mput (mput (putAll ([] : List Pin) x.fst) x.snd ((mget (putAll ([] : List Pin) x.fst) x.snd).getD (0 : Int) + (1 : Int))) x.snd ((mget (mput (putAll ([] : List Pin) x.fst) x.snd ((mget (putAll ([] : List Pin) x.fst) x.snd).getD (0 : Int) + (1 : Int))) x.snd).getD (0 : Int) - (1 : Int))) x.snd ((mget (mput (mput (putAll ([] : List Pin) x.fst) x.snd ((mget (putAll ([] : List Pin) x.fst) x.snd).getD (0 : Int) + (1 : Int))) x.snd ((mget (mput (putAll ([] : List Pin) x.fst) x.snd ((mget (putAll ([] : List Pin) x.fst) x.snd).getD (0 : Int) + (1 : Int))) x.snd).getD (0 : Int) - (1 : Int))) x.snd).getD (0 : Int) - (1 : Int)))) && decide ((dropP x.fst x.snd).snd.fst = (mget (mput (mput (mput (putAll ([] : List Pin) x.fst) x.snd ((mget (putAll ([] : List Pin) x.fst) x.snd).getD (0 : Int) + (1 : Int))) x.snd ((mget (mput (putAll ([] : List Pin) x.fst) x.snd ((mget (putAll ([] : List Pin) x.fst) x.snd).getD (0 : Int) + (1 : Int))) x.snd).getD (0 : Int) - (1 : Int))) x.snd ((mget (mput (mput (putAll ([] : List Pin) x.fst) x.snd ((mget (putAll ([] : List Pin) x.fst) x.snd).getD (0 : Int) + (1 : Int))) x.snd ((mget (mput (putAll ([] : List Pin) x.fst) x.snd ((mget (putAll ([] : List Pin) x.fst) x.snd).getD (0 : Int) + (1 : Int))) x.snd).getD (0 : Int) - (1 : Int))) x.snd).getD (0 : Int) - (1 : Int))) x.snd).getD (0 : Int)) && decide ((dropP x.fst x.snd).snd.snd = (0 : Int))) = true ∧ True)))))))
theorem vcp_lawPinTells : pv_lawPinTells := by
  unfold pv_lawPinTells
  intro ⟨p, k⟩ ⟨⟨hb, _⟩, hk⟩ _
  simp only at hb hk ⊢
  refine ⟨trivial, trivial, trivial, trivial, trivial, fun h => absurd rfl (of_decide_eq_true h), fun _ => ⟨fun h => ⟨fun _ => ?_, fun h4 => absurd h4 (by decide)⟩, fun h => ⟨fun h1 => ?_, fun h1 => ?_⟩⟩⟩
  · have hF : findP p k = (0, false, 4) := by
      simp only [Bool.and_eq_true, decide_eq_true_eq, Bool.or_eq_true] at h
      unfold findP
      rw [if_neg (by omega), if_pos (by simp; omega)]
    have hA : addP p k = ([], 0, 4) := by unfold addP; rw [hF]; rfl
    have hD : dropP p k = ([], 0, 4) := by unfold dropP; rw [hF]; rfl
    rw [hF, hA, hD]
    simp
  · have h1 : pinsF p ≠ 0 := of_decide_eq_true h1
    have hF : findP p k = (0, false, pinsF p) := by
      unfold findP
      rw [if_pos h1]
    have hA : addP p k = ([], 0, pinsF p) := by unfold addP; rw [hF]; simp only; rw [if_pos h1]
    have hD : dropP p k = ([], 0, pinsF p) := by unfold dropP; rw [hF]; simp only; rw [if_pos h1]
    rw [hF, hA, hD]
    simp [h1]
  have h0 : pinsF p = 0 := by simpa using of_decide_eq_false h1
  have hkr : 0 ≤ k ∧ k ≤ 255 := by
    rw [decide_eq_true h0, Bool.true_and] at h
    simp at h
    omega
  obtain ⟨k1, k2, k3, k4, k5, k6, k7, k8⟩ := pins_law h0 hkr.1 hkr.2
  have hm : ∀ x : List Pin, (mget x k).getD 0 = manyP x k := fun _ => rfl
  simp only [k2, hm, k1, many_put, pinList_back, pinList_twice, if_true]
  generalize manyP p k = n at *
  refine ⟨trivial, fun h => by simp at h, fun _ => ⟨fun hc => ?_, fun hc => ?_⟩⟩
  · have hc : n = 1000000 ∨ (n = 0 ∧ p.length = 16) := by
      simp only [Bool.or_eq_true, Bool.and_eq_true, decide_eq_true_eq] at hc
      omega
    rw [k5 hc]
    refine ⟨fun h => by simp at h, fun _ => ⟨fun h => ?_, fun h => ?_⟩⟩
    · rw [k7 (of_decide_eq_true h)]
      simp
    · have h := of_decide_eq_false h
      rw [k8 h]
      simp only [InR]
      refine ⟨by omega, trivial, trivial, by simp, trivial⟩
  · have hc : ¬ (n = 1000000 ∨ (n = 0 ∧ p.length = 16)) := by
      simp only [Bool.or_eq_false_iff, Bool.and_eq_false_iff, decide_eq_false_iff_not] at hc
      omega
    rw [k6 hc]
    simp only [InR]
    refine ⟨by omega, trivial, trivial, fun h => by simp at h, fun _ => ⟨by omega, fun h => ?_, fun h => ?_⟩⟩
    · have h := of_decide_eq_true h
      rw [k7 (by omega)]
      simp
    · have h := of_decide_eq_false h
      rw [k8 (by omega)]
      refine ⟨by omega, trivial, trivial, ?_, trivial⟩
      simp only [show n + 1 - 1 - 1 = n - 1 by omega]
      simp
theorem e_lawPinTells : pv_lawPinTells = (fnVC Try.prog (tbl [(27, sp_many), (28, sp_add), (29, sp_drop), (30, sp_pinsFault), (31, sp_pinCheck), (32, sp_pinned), (34, sp_pinList), (33, sp_samePins)]) an_0 Try.f5 sp_lawPinTells) := by kernel_rfl
theorem vc_lawPinTells : fnVC Try.prog (tbl [(27, sp_many), (28, sp_add), (29, sp_drop), (30, sp_pinsFault), (31, sp_pinCheck), (32, sp_pinned), (34, sp_pinList), (33, sp_samePins)]) an_0 Try.f5 sp_lawPinTells := @Eq.mp _ _ @e_lawPinTells @vcp_lawPinTells
theorem ok_lawPinTells : sp_lawPinTells.ok Try.prog 5 := fn_sound (P := Try.prog) (ss := tbl [(27, sp_many), (28, sp_add), (29, sp_drop), (30, sp_pinsFault), (31, sp_pinCheck), (32, sp_pinned), (34, sp_pinList), (33, sp_samePins)]) (ann := an_0) (f := 5) (fn := Try.f5) (s := sp_lawPinTells) (tbl_cons ok_many (tbl_cons ok_add (tbl_cons ok_drop (tbl_cons ok_pinsFault (tbl_cons ok_pinCheck (tbl_cons ok_pinned (tbl_cons ok_pinList (tbl_cons ok_samePins tbl_nil)))))))) Try.func5 @vc_lawPinTells

end Go.Proofs.Ytgnamdjmjkeodaa
