
import Derived.Test.YtglchojglcobjaaGreatRowPin
namespace Go.Proofs.YtglchojglcobjaaGreat
open Go
set_option maxRecDepth 100000
set_option maxHeartbeats 1000000
theorem ahead_scan {p : List Pin} {i : Int} (h0 : 0 ≤ i) (h : i < p.length) : pinScan (ahead p i) (p.drop i.toNat) = if badPin (p.getD i.toNat (0, 0)) = true then 4 else if (p.getD i.toNat (0, 0)).1 ≤ ahead p i then 3 else pinScan (ahead p (i + 1)) (p.drop (i + 1).toNat) := by
 rw [drop_cons ((0, 0) : Pin) h0 h]
 have e : ahead p (i + 1) = (p.getD i.toNat (0, 0)).1 := by
  unfold ahead
  rw [if_pos (by omega), show (i + 1 - 1) = i by omega]
 rw [e]
 rfl
def sp_pinThere : Spec := { Ts := [ty_I], Rs := [.dat .bool], pre := fun _ => True, F := fun (v : Int) => decide (0 ≤ v) && decide (v < 256) }
def pv_pinThere : Prop :=
  ∀ (x : Int), InR IntKind.i64 x → True → (decide ((0 : Int) ≤ x) && decide (x < (256 : Int))) = (decide ((0 : Int) ≤ x) && decide (x < (256 : Int))) ∧ True
theorem vcp_pinThere : pv_pinThere := by
 unfold pv_pinThere
 intro v _ _
 simp
theorem e_pinThere : pv_pinThere = (fnVC Tryz.prog (tbl []) an_0 Tryz.f127 sp_pinThere) := by kernel_rfl
theorem vc_pinThere : fnVC Tryz.prog (tbl []) an_0 Tryz.f127 sp_pinThere := @Eq.mp _ _ @e_pinThere @vcp_pinThere
theorem ok_pinThere : sp_pinThere.ok Tryz.prog 127 := fn_sound (P := Tryz.prog) (ss := tbl []) (ann := an_0) (f := 127) (fn := Tryz.f127) (s := sp_pinThere) tbl_nil Tryz.func127 @vc_pinThere
def an_pinCheck : Nat → Option LoopGen
 | 4 => some { rd := [.dat 8 (.arr ty_Pin)], A := fun (p : List Pin) => { cs := [.dat 10 ty_I], inv := fun (i : Int) => 0 ≤ i ∧ i ≤ p.length ∧ pinScan (ahead p i) (p.drop i.toNat) = pinScan (-1) p, mu := fun (i : Int) => (p.length - i).toNat } }
 | _ => none
def sp_pinCheck : Spec := { Ts := [.arr ty_Pin], Rs := [.dat ty_I], pre := fun _ => True, F := fun (p : List Pin) => pinsF p }
def pv_pinCheck : Prop :=
  ∀ (x : List (Int × Int)), (x.length * ((8 : Nat) + (8 : Nat)) ≤ big ∧ ∀ (x_1 : Int × Int), x_1 ∈ x → InR IntKind.i64 x_1.fst ∧ InR IntKind.i64 x_1.snd) → True → (decide ((16 : Int) < (↑x.length : Int)) = true → (2 : Int) = pinsF x ∧ True) ∧ (decide ((16 : Int) < (↑x.length : Int)) = false → ((0 : Int) ≤ (0 : Int) ∧ (0 : Int) ≤ (↑x.length : Int) ∧ pinScan (ahead x (0 : Int)) (List.drop (Int.toNat (0 : Int)) x) = pinScan (-1 : Int) x) ∧ ∀ (x_1 : Int), (0 : Int) ≤ x_1 ∧ x_1 ≤ (↑x.length : Int) ∧ pinScan (ahead x x_1) (List.drop x_1.toNat x) = pinScan (-1 : Int) x → (decide (x_1 < (↑x.length : Int)) = true → (0 : Int) ≤ x_1 ∧ x_1 < (↑x.length : Int) ∧ True ∧ ((!(decide ((0 : Int) ≤ (x.getD x_1.toNat ((0 : Int), (0 : Int))).fst) && decide ((x.getD x_1.toNat ((0 : Int), (0 : Int))).fst < (256 : Int))) || decide ((x.getD x_1.toNat ((0 : Int), (0 : Int))).snd < (1 : Int)) || decide ((1000000 : Int) < (x.getD x_1.toNat ((0 : Int), (0 : Int))).snd)) = true → (4 : Int) = pinsF x ∧ True) ∧ ((!(decide ((0 : Int) ≤ (x.getD x_1.toNat ((0 : Int), (0 : Int))).fst) && decide ((x.getD x_1.toNat ((0 : Int), (0 : Int))).fst < (256 : Int))) || decide ((x.getD x_1.toNat ((0 : Int), (0 : Int))).snd < (1 : Int)) || decide ((1000000 : Int) < (x.getD x_1.toNat ((0 : Int), (0 : Int))).snd)) = false → (decide ((0 : Int) < x_1) = true → InR IntKind.i64 (x_1 - (1 : Int))) ∧ (decide ((0 : Int) < x_1) = true → (0 : Int) ≤ x_1 - (1 : Int)) ∧ (decide ((0 : Int) < x_1) = true → x_1 - (1 : Int) < (↑x.length : Int)) ∧ ((decide ((0 : Int) < x_1) && decide ((x.getD x_1.toNat ((0 : Int), (0 : Int))).fst ≤ (x.getD (x_1 - (1 : Int)).toNat ((0 : Int), (0 : Int))).fst)) = true → (3 : Int) = pinsF x ∧ True) ∧ ((decide ((0 : Int) < x_1) && decide ((x.getD x_1.toNat ((0 : Int), (0 : Int))).fst ≤ (x.getD (x_1 - (1 : Int)).toNat ((0 : Int), (0 : Int))).fst)) = false → InR IntKind.i64 (x_1 + (1 : Int)) ∧ ((0 : Int) ≤ x_1 + (1 : Int) ∧ x_1 + (1 : Int) ≤ (↑x.length : Int) ∧ pinScan (ahead x (x_1 + (1 : Int))) (List.drop (x_1 + (1 : Int)).toNat x) = pinScan (-1 : Int) x) ∧ ((↑x.length : Int) - (x_1 + (1 : Int))).toNat < ((↑x.length : Int) - x_1).toNat))) ∧ (decide (x_1 < (↑x.length : Int)) = false → (0 : Int) = pinsF x ∧ True))
theorem vcp_pinCheck : pv_pinCheck := by
 unfold pv_pinCheck
 intro p ⟨hb, _⟩ _
 unfold big at hb
 have hF : pinsF p = if 16 < p.length then 2 else pinScan (-1) p := rfl
 refine ⟨fun h => ?_, fun h => ?_⟩
 ·rw [hF, if_pos (by have := of_decide_eq_true h; omega)]
  exact ⟨rfl, trivial⟩
 have hl : ¬ 16 < p.length := by have := of_decide_eq_false h; omega
 rw [hF, if_neg hl]
 refine ⟨⟨by omega, by omega, rfl⟩, fun i ⟨i0, i1, i2⟩ => ⟨fun hlt => ?_, fun hge => ?_⟩⟩
 ·have hlt := of_decide_eq_true hlt
  rw [ahead_scan i0 hlt] at i2
  have hp : 0 < i → ahead p i = (p.getD (i - 1).toNat (0, 0)).1 := fun h => if_pos h
  have hn : ¬ 0 < i → ahead p i = -1 := fun h => if_neg h
  generalize p.getD i.toNat (0, 0) = x at *
  generalize p.getD (i - 1).toNat (0, 0) = y at *
  generalize ahead p i = q at *
  have hbad : (!(decide (0 ≤ x.1) && decide (x.1 < 256)) || decide (x.2 < 1) || decide (1000000 < x.2)) = badPin x := by
   unfold badPin
   grind
  rw [hbad]
  refine ⟨i0, hlt, trivial, fun hc => ?_, fun hc => ⟨fun _ => by simp only [InR]; omega, fun h => by have := of_decide_eq_true h; omega, fun _ => by omega, fun h2 => ?_, fun h2 => ⟨by simp only [InR]; omega, ⟨by omega, by omega, ?_⟩, by omega⟩⟩⟩
  ·rw [if_pos hc] at i2
   exact ⟨i2, trivial⟩
  ·rw [if_neg (by rw [hc]; simp)] at i2
   simp only [Bool.and_eq_true, decide_eq_true_eq] at h2
   rw [if_pos (by rw [hp h2.1]; exact h2.2)] at i2
   exact ⟨i2, trivial⟩
  ·rw [if_neg (by rw [hc]; simp)] at i2
   have hx : 0 ≤ x.1 := by
    simp only [badPin, Bool.or_eq_false_iff, decide_eq_false_iff_not] at hc
    omega
   rw [if_neg] at i2
   ·exact i2
   ·intro h3
    by_cases h4 : 0 < i
    ·rw [hp h4] at h3
     have : (decide (0 < i) && decide (x.1 ≤ y.1)) = true := by simp [h4, h3]
     rw [this] at h2
     cases h2
    ·rw [hn h4] at h3
     omega
 ·rw [drop_end (of_decide_eq_false hge)] at i2
  exact ⟨i2, trivial⟩
theorem e_pinCheck : pv_pinCheck = (fnVC Tryz.prog (tbl [(127, sp_pinThere)]) an_pinCheck Tryz.f92 sp_pinCheck) := by kernel_rfl
theorem vc_pinCheck : fnVC Tryz.prog (tbl [(127, sp_pinThere)]) an_pinCheck Tryz.f92 sp_pinCheck := @Eq.mp _ _ @e_pinCheck @vcp_pinCheck
theorem ok_pinCheck : sp_pinCheck.ok Tryz.prog 92 := fn_sound (P := Tryz.prog) (ss := tbl [(127, sp_pinThere)]) (ann := an_pinCheck) (f := 92) (fn := Tryz.f92) (s := sp_pinCheck) (tbl_cons ok_pinThere tbl_nil) Tryz.func92 @vc_pinCheck
def sp_pinsFault : Spec := { Ts := [.arr ty_Pin], Rs := [.dat ty_I], pre := fun _ => True, F := fun (p : List Pin) => pinsF p }
def pv_pinsFault : Prop :=
  ∀ (x : List (Int × Int)), (x.length * ((8 : Nat) + (8 : Nat)) ≤ big ∧ ∀ (x_1 : Int × Int), x_1 ∈ x → InR IntKind.i64 x_1.fst ∧ InR IntKind.i64 x_1.snd) → True → (decide ((16 : Int) < (↑x.length : Int)) = true → (2 : Int) = pinsF x ∧ True) ∧ (decide ((16 : Int) < (↑x.length : Int)) = false → ((0 : Int) ≤ (0 : Int) ∧ (0 : Int) ≤ (↑x.length : Int) ∧ pinScan (ahead x (0 : Int)) (List.drop (Int.toNat (0 : Int)) x) = pinScan (-1 : Int) x) ∧ ∀ (x_1 : Int), (0 : Int) ≤ x_1 ∧ x_1 ≤ (↑x.length : Int) ∧ pinScan (ahead x x_1) (List.drop x_1.toNat x) = pinScan (-1 : Int) x → (decide (x_1 < (↑x.length : Int)) = true → (0 : Int) ≤ x_1 ∧ x_1 < (↑x.length : Int) ∧ ((decide ((x.getD x_1.toNat ((0 : Int), (0 : Int))).fst < (0 : Int)) || decide ((255 : Int) < (x.getD x_1.toNat ((0 : Int), (0 : Int))).fst) || decide ((x.getD x_1.toNat ((0 : Int), (0 : Int))).snd < (1 : Int)) || decide ((1000000 : Int) < (x.getD x_1.toNat ((0 : Int), (0 : Int))).snd)) = true → (4 : Int) = pinsF x ∧ True) ∧ ((decide ((x.getD x_1.toNat ((0 : Int), (0 : Int))).fst < (0 : Int)) || decide ((255 : Int) < (x.getD x_1.toNat ((0 : Int), (0 : Int))).fst) || decide ((x.getD x_1.toNat ((0 : Int), (0 : Int))).snd < (1 : Int)) || decide ((1000000 : Int) < (x.getD x_1.toNat ((0 : Int), (0 : Int))).snd)) = false → (decide ((0 : Int) < x_1) = true → InR IntKind.i64 (x_1 - (1 : Int))) ∧ (decide ((0 : Int) < x_1) = true → (0 : Int) ≤ x_1 - (1 : Int)) ∧ (decide ((0 : Int) < x_1) = true → x_1 - (1 : Int) < (↑x.length : Int)) ∧ ((decide ((0 : Int) < x_1) && decide ((x.getD x_1.toNat ((0 : Int), (0 : Int))).fst ≤ (x.getD (x_1 - (1 : Int)).toNat ((0 : Int), (0 : Int))).fst)) = true → (3 : Int) = pinsF x ∧ True) ∧ ((decide ((0 : Int) < x_1) && decide ((x.getD x_1.toNat ((0 : Int), (0 : Int))).fst ≤ (x.getD (x_1 - (1 : Int)).toNat ((0 : Int), (0 : Int))).fst)) = false → InR IntKind.i64 (x_1 + (1 : Int)) ∧ ((0 : Int) ≤ x_1 + (1 : Int) ∧ x_1 + (1 : Int) ≤ (↑x.length : Int) ∧ pinScan (ahead x (x_1 + (1 : Int))) (List.drop (x_1 + (1 : Int)).toNat x) = pinScan (-1 : Int) x) ∧ ((↑x.length : Int) - (x_1 + (1 : Int))).toNat < ((↑x.length : Int) - x_1).toNat))) ∧ (decide (x_1 < (↑x.length : Int)) = false → (0 : Int) = pinsF x ∧ True))
theorem vcp_pinsFault : pv_pinsFault := by
 unfold pv_pinsFault
 intro p ⟨hb, _⟩ _
 unfold big at hb
 have hF : pinsF p = if 16 < p.length then 2 else pinScan (-1) p := rfl
 refine ⟨fun h => ?_, fun h => ?_⟩
 ·rw [hF, if_pos (by have := of_decide_eq_true h; omega)]
  exact ⟨rfl, trivial⟩
 have hl : ¬ 16 < p.length := by have := of_decide_eq_false h; omega
 rw [hF, if_neg hl]
 refine ⟨⟨by omega, by omega, rfl⟩, fun i ⟨i0, i1, i2⟩ => ⟨fun hlt => ?_, fun hge => ?_⟩⟩
 ·have hlt := of_decide_eq_true hlt
  rw [ahead_scan i0 hlt] at i2
  have hp : 0 < i → ahead p i = (p.getD (i - 1).toNat (0, 0)).1 := fun h => if_pos h
  have hn : ¬ 0 < i → ahead p i = -1 := fun h => if_neg h
  generalize p.getD i.toNat (0, 0) = x at *
  generalize p.getD (i - 1).toNat (0, 0) = y at *
  generalize ahead p i = q at *
  have hbad : (decide (x.1 < 0) || decide (255 < x.1) || decide (x.2 < 1) || decide (1000000 < x.2)) = badPin x := by
   unfold badPin
   grind
  rw [hbad]
  refine ⟨i0, hlt, fun hc => ?_, fun hc => ⟨fun _ => by simp only [InR]; omega, fun h => by have := of_decide_eq_true h; omega, fun _ => by omega, fun h2 => ?_, fun h2 => ⟨by simp only [InR]; omega, ⟨by omega, by omega, ?_⟩, by omega⟩⟩⟩
  ·rw [if_pos hc] at i2
   exact ⟨i2, trivial⟩
  ·rw [if_neg (by rw [hc]; simp)] at i2
   simp only [Bool.and_eq_true, decide_eq_true_eq] at h2
   rw [if_pos (by rw [hp h2.1]; exact h2.2)] at i2
   exact ⟨i2, trivial⟩
  ·rw [if_neg (by rw [hc]; simp)] at i2
   have hx : 0 ≤ x.1 := by
    simp only [badPin, Bool.or_eq_false_iff, decide_eq_false_iff_not] at hc
    omega
   rw [if_neg] at i2
   ·exact i2
   ·intro h3
    by_cases h4 : 0 < i
    ·rw [hp h4] at h3
     have : (decide (0 < i) && decide (x.1 ≤ y.1)) = true := by simp [h4, h3]
     rw [this] at h2
     cases h2
    ·rw [hn h4] at h3
     omega
 ·rw [drop_end (of_decide_eq_false hge)] at i2
  exact ⟨i2, trivial⟩
theorem e_pinsFault : pv_pinsFault = (fnVC Tryz.prog (tbl []) an_pinCheck Tryz.f38 sp_pinsFault) := by kernel_rfl
theorem vc_pinsFault : fnVC Tryz.prog (tbl []) an_pinCheck Tryz.f38 sp_pinsFault := @Eq.mp _ _ @e_pinsFault @vcp_pinsFault
theorem ok_pinsFault : sp_pinsFault.ok Tryz.prog 38 := fn_sound (P := Tryz.prog) (ss := tbl []) (ann := an_pinCheck) (f := 38) (fn := Tryz.f38) (s := sp_pinsFault) tbl_nil Tryz.func38 @vc_pinsFault
def sp_clonePins : Spec := { Ts := [.arr ty_Pin], Rs := [.own 89 ty_Pin], pre := fun _ => True, F := fun (x : List Pin) => x }
def pv_clonePins : Prop :=
  ∀ (x : List (Int × Int)), (x.length * ((8 : Nat) + (8 : Nat)) ≤ big ∧ ∀ (x_1 : Int × Int), x_1 ∈ x → InR IntKind.i64 x_1.fst ∧ InR IntKind.i64 x_1.snd) → True → (x = ([] : List (Int × Int)) → ([] : List (Int × Int)) = x ∧ True) ∧ (True → ((0 : Nat) + x.length) * ((8 : Nat) + (8 : Nat)) ≤ big ∧ ([] : List (Int × Int)) ++ x = x ∧ True)
theorem vcp_clonePins : pv_clonePins := by
 unfold pv_clonePins
 intro x ⟨hb, _⟩ _
 simp [hb]
theorem e_clonePins : pv_clonePins = (fnVC Tryz.prog (tbl []) an_0 Tryz.f98 sp_clonePins) := by kernel_rfl
theorem vc_clonePins : fnVC Tryz.prog (tbl []) an_0 Tryz.f98 sp_clonePins := @Eq.mp _ _ @e_clonePins @vcp_clonePins
theorem ok_clonePins : sp_clonePins.ok Tryz.prog 98 := fn_sound (P := Tryz.prog) (ss := tbl []) (ann := an_0) (f := 98) (fn := Tryz.f98) (s := sp_clonePins) tbl_nil Tryz.func98 @vc_clonePins
end Go.Proofs.YtglchojglcobjaaGreat
