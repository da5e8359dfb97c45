
import Derived.Test.YtglchojglcobjaaGreatWords
import Derived.Test.YtglchojglcobjaaGreatFinds
namespace Go.Proofs.YtglchojglcobjaaGreat
open Go
set_option maxRecDepth 100000
set_option maxHeartbeats 1000000
abbrev ty_Slot : Ty := .pair ty_I (.pair .bool ty_I)
abbrev Slot := Int × Bool × Int
def sp_idxInt : Spec := { Ts := [.arr ty_I, .fn ty_I .bool], Rs := [.dat ty_I], pre := fun ((l, g) : List Int × (Int → Prop) × (Int → Bool)) => ∀ s ∈ l, g.1 s, F := fun ((l, g) : List Int × (Int → Prop) × (Int → Bool)) => findFrom g.2 0 l }
def an_idxInt : Nat → Option LoopGen
 | 2 => some { rd := [.dat 0 (.arr ty_I), .dat 1 (.fn ty_I .bool)], A := fun ((l, g) : List Int × (Int → Prop) × (Int → Bool)) => { cs := [.dat 8 ty_I], inv := fun (i : Int) => 0 ≤ i ∧ i ≤ l.length ∧ findFrom g.2 i (l.drop i.toNat) = findFrom g.2 0 l, mu := fun (i : Int) => (l.length - i).toNat } }
 | _ => none
def pv_idxInt : Prop :=
  ∀ (x : List Int × (Int → Prop) × (Int → Bool)), (x.fst.length * (8 : Nat) ≤ big ∧ ∀ (x_1 : Int), x_1 ∈ x.fst → InR IntKind.i64 x_1) ∧ True → (∀ (s : Int), s ∈ x.fst → x.snd.fst s) → ((0 : Int) ≤ (0 : Int) ∧ (0 : Int) ≤ (↑x.fst.length : Int) ∧ findFrom x.snd.snd (0 : Int) (List.drop (Int.toNat (0 : Int)) x.fst) = findFrom x.snd.snd (0 : Int) x.fst) ∧ ∀ (x_1 : Int), (0 : Int) ≤ x_1 ∧ x_1 ≤ (↑x.fst.length : Int) ∧ findFrom x.snd.snd x_1 (List.drop x_1.toNat x.fst) = findFrom x.snd.snd (0 : Int) x.fst → (decide (x_1 < (↑x.fst.length : Int)) = true → (0 : Int) ≤ x_1 ∧ x_1 < (↑x.fst.length : Int) ∧ x.snd.fst (x.fst.getD x_1.toNat (0 : Int)) ∧ (x.snd.snd (x.fst.getD x_1.toNat (0 : Int)) = true → x_1 = findFrom x.snd.snd (0 : Int) x.fst ∧ True) ∧ (x.snd.snd (x.fst.getD x_1.toNat (0 : Int)) = false → InR IntKind.i64 (x_1 + (1 : Int)) ∧ ((0 : Int) ≤ x_1 + (1 : Int) ∧ x_1 + (1 : Int) ≤ (↑x.fst.length : Int) ∧ findFrom x.snd.snd (x_1 + (1 : Int)) (List.drop (x_1 + (1 : Int)).toNat x.fst) = findFrom x.snd.snd (0 : Int) x.fst) ∧ ((↑x.fst.length : Int) - (x_1 + (1 : Int))).toNat < ((↑x.fst.length : Int) - x_1).toNat)) ∧ (decide (x_1 < (↑x.fst.length : Int)) = false → (-1 : Int) = findFrom x.snd.snd (0 : Int) x.fst ∧ True)
theorem vcp_idxInt : pv_idxInt := by
 unfold pv_idxInt
 intro ⟨l, g⟩ ⟨⟨hl, _⟩, _⟩ hp
 unfold big at *
 refine ⟨⟨by omega, by omega, by simp⟩, fun i ⟨h0, h1, h2⟩ => ⟨fun hlt => ?_, fun hge => ?_⟩⟩
 ·have hlt : i < (l.length : Int) := by simpa using hlt
  have e := drop_cons (0 : Int) h0 hlt
  have hm := hp _ (getD_mem (0 : Int) h0 hlt)
  simp only at *
  rw [e] at h2
  simp only [findFrom] at h2
  refine ⟨h0, hlt, hm, fun hc => ?_, fun hc => ?_⟩
  ·rw [if_pos hc] at h2
   exact ⟨h2, trivial⟩
  ·rw [if_neg (by rw [hc]; simp)] at h2
   exact ⟨by simp only [InR]; omega, ⟨by omega, by omega, h2⟩, by omega⟩
 ·rw [drop_end (by simpa using hge)] at h2
  exact ⟨h2, trivial⟩
theorem e_idxInt : pv_idxInt = (fnVC Tryz.prog (tbl []) an_idxInt Tryz.f150 sp_idxInt) := by kernel_rfl
theorem vc_idxInt : fnVC Tryz.prog (tbl []) an_idxInt Tryz.f150 sp_idxInt := @Eq.mp _ _ @e_idxInt @vcp_idxInt
theorem ok_idxInt : sp_idxInt.ok Tryz.prog 150 := fn_sound (P := Tryz.prog) (ss := tbl []) (ann := an_idxInt) (f := 150) (fn := Tryz.f150) (s := sp_idxInt) tbl_nil Tryz.func150 @vc_idxInt
def sp_anyInt : Spec := { Ts := [.arr ty_I, .fn ty_I .bool], Rs := [.dat .bool], pre := fun ((l, g) : List Int × (Int → Prop) × (Int → Bool)) => ∀ s ∈ l, g.1 s, F := fun ((l, g) : List Int × (Int → Prop) × (Int → Bool)) => l.any g.2 }
def pv_anyInt : Prop :=
  ∀ (x : List Int × (Int → Prop) × (Int → Bool)), (x.fst.length * (8 : Nat) ≤ big ∧ ∀ (x_1 : Int), x_1 ∈ x.fst → InR IntKind.i64 x_1) ∧ True → (∀ (s : Int), s ∈ x.fst → x.snd.fst s) → (∀ (s : Int), s ∈ x.fst → x.snd.fst s) ∧ decide ((0 : Int) ≤ findFrom x.snd.snd (0 : Int) x.fst) = x.fst.any x.snd.snd ∧ True
theorem vcp_anyInt : pv_anyInt := by
 unfold pv_anyInt
 intro ⟨l, g⟩ _ hp
 exact ⟨hp, findFrom_any g.2 l 0 (by omega), trivial⟩
theorem e_anyInt : pv_anyInt = (fnVC Tryz.prog (tbl [(150, sp_idxInt)]) an_0 Tryz.f124 sp_anyInt) := by kernel_rfl
theorem vc_anyInt : fnVC Tryz.prog (tbl [(150, sp_idxInt)]) an_0 Tryz.f124 sp_anyInt := @Eq.mp _ _ @e_anyInt @vcp_anyInt
theorem ok_anyInt : sp_anyInt.ok Tryz.prog 124 := fn_sound (P := Tryz.prog) (ss := tbl [(150, sp_idxInt)]) (ann := an_0) (f := 124) (fn := Tryz.f124) (s := sp_anyInt) (tbl_cons ok_idxInt tbl_nil) Tryz.func124 @vc_anyInt
def sp_cloneHands : Spec := { Ts := [.arr ty_Slot], Rs := [.own 87 ty_Slot], pre := fun _ => True, F := fun (x : List Slot) => x }
def pv_cloneHands : Prop :=
  ∀ (x : List (Int × Bool × Int)), (x.length * ((8 : Nat) + ((8 : Nat) + (8 : Nat))) ≤ big ∧ ∀ (x_1 : Int × Bool × Int), x_1 ∈ x → InR IntKind.i64 x_1.fst ∧ True ∧ InR IntKind.i64 x_1.snd.snd) → True → (x = ([] : List (Int × Bool × Int)) → ([] : List (Int × Bool × Int)) = x ∧ True) ∧ (True → ((0 : Nat) + x.length) * ((8 : Nat) + ((8 : Nat) + (8 : Nat))) ≤ big ∧ ([] : List (Int × Bool × Int)) ++ x = x ∧ True)
theorem vcp_cloneHands : pv_cloneHands := by
 unfold pv_cloneHands
 intro x ⟨hb, _⟩ _
 simp [hb]
theorem e_cloneHands : pv_cloneHands = (fnVC Tryz.prog (tbl []) an_0 Tryz.f99 sp_cloneHands) := by kernel_rfl
theorem vc_cloneHands : fnVC Tryz.prog (tbl []) an_0 Tryz.f99 sp_cloneHands := @Eq.mp _ _ @e_cloneHands @vcp_cloneHands
theorem ok_cloneHands : sp_cloneHands.ok Tryz.prog 99 := fn_sound (P := Tryz.prog) (ss := tbl []) (ann := an_0) (f := 99) (fn := Tryz.f99) (s := sp_cloneHands) tbl_nil Tryz.func99 @vc_cloneHands
def there (v : Int) : Bool := decide (0 ≤ v) && decide (v < 256)
def sp_handThere : Spec := { Ts := [ty_I], Rs := [.dat .bool], pre := fun _ => True, F := there }
def pv_handThere : Prop :=
  ∀ (x : Int), InR IntKind.i64 x → True → (decide ((0 : Int) ≤ x) && decide (x < (256 : Int))) = there x ∧ True
theorem vcp_handThere : pv_handThere := by
 unfold pv_handThere
 intro v _ _
 simp [there]
theorem e_handThere : pv_handThere = (fnVC Tryz.prog (tbl []) an_0 Tryz.f111 sp_handThere) := by kernel_rfl
theorem vc_handThere : fnVC Tryz.prog (tbl []) an_0 Tryz.f111 sp_handThere := @Eq.mp _ _ @e_handThere @vcp_handThere
theorem ok_handThere : sp_handThere.ok Tryz.prog 111 := fn_sound (P := Tryz.prog) (ss := tbl []) (ann := an_0) (f := 111) (fn := Tryz.f111) (s := sp_handThere) tbl_nil Tryz.func111 @vc_handThere
def sp_notThere : Spec := { Ts := [ty_I], Rs := [.dat .bool], pre := fun _ => True, F := fun (v : Int) => !there v }
def pv_notThere : Prop :=
  ∀ (x : Int), InR IntKind.i64 x → True → True ∧ (!there x) = !there x ∧ True
theorem vcp_notThere : pv_notThere := by
 unfold pv_notThere
 intro v _ _
 simp
theorem e_notThere : pv_notThere = (fnVC Tryz.prog (tbl [(111, sp_handThere)]) an_0 Tryz.f141 sp_notThere) := by kernel_rfl
theorem vc_notThere : fnVC Tryz.prog (tbl [(111, sp_handThere)]) an_0 Tryz.f141 sp_notThere := @Eq.mp _ _ @e_notThere @vcp_notThere
theorem ok_notThere : sp_notThere.ok Tryz.prog 141 := fn_sound (P := Tryz.prog) (ss := tbl [(111, sp_handThere)]) (ann := an_0) (f := 141) (fn := Tryz.f141) (s := sp_notThere) (tbl_cons ok_handThere tbl_nil) Tryz.func141 @vc_notThere
def slotBad (s : Slot) : Int := if s.1 < 0 ∨ 65535 < s.1 ∨ s.2.2 < 0 ∨ 255 < s.2.2 then 4 else if (s.2.1 = true ∧ s.1 = 0) ∨ (s.2.1 = false ∧ s.2.2 ≠ 0) then 3 else 0
def slotsFault : List Slot → Int
 | [] => 0
 | s :: l => if slotBad s ≠ 0 then slotBad s else slotsFault l
def handsF (h : List Slot) : Int := if 16 < h.length then 2 else slotsFault h
def sp_handCheck : Spec := { Ts := [.arr ty_Slot], Rs := [.dat ty_I], pre := fun _ => True, F := handsF }
def an_handCheck : Nat → Option LoopGen
 | 4 => some { rd := [.dat 8 (.arr ty_Slot)], A := fun (h : List Slot) => { cs := [.dat 10 ty_I], inv := fun (i : Int) => 0 ≤ i ∧ i ≤ h.length ∧ h.length ≤ 16 ∧ slotsFault (h.drop i.toNat) = slotsFault h, mu := fun (i : Int) => (h.length - i).toNat } }
 | _ => none
def pv_handCheck : Prop :=
  ∀ (x : List (Int × Bool × Int)), (x.length * ((8 : Nat) + ((8 : Nat) + (8 : Nat))) ≤ big ∧ ∀ (x_1 : Int × Bool × Int), x_1 ∈ x → InR IntKind.i64 x_1.fst ∧ True ∧ InR IntKind.i64 x_1.snd.snd) → True → (decide ((16 : Int) < (↑x.length : Int)) = true → (2 : Int) = handsF x ∧ True) ∧ (decide ((16 : Int) < (↑x.length : Int)) = false → ((0 : Int) ≤ (0 : Int) ∧ (0 : Int) ≤ (↑x.length : Int) ∧ x.length ≤ (16 : Nat) ∧ slotsFault (List.drop (Int.toNat (0 : Int)) x) = slotsFault x) ∧ ∀ (x_1 : Int), (0 : Int) ≤ x_1 ∧ x_1 ≤ (↑x.length : Int) ∧ x.length ≤ (16 : Nat) ∧ slotsFault (List.drop x_1.toNat x) = slotsFault x → (decide (x_1 < (↑x.length : Int)) = true → (0 : Int) ≤ x_1 ∧ x_1 < (↑x.length : Int) ∧ ((decide ((x.getD x_1.toNat ((0 : Int), false, (0 : Int))).fst < (0 : Int)) || decide ((65535 : Int) < (x.getD x_1.toNat ((0 : Int), false, (0 : Int))).fst)) = false → True) ∧ ((decide ((x.getD x_1.toNat ((0 : Int), false, (0 : Int))).fst < (0 : Int)) || decide ((65535 : Int) < (x.getD x_1.toNat ((0 : Int), false, (0 : Int))).fst) || !there (x.getD x_1.toNat ((0 : Int), false, (0 : Int))).snd.snd) = true → (4 : Int) = handsF x ∧ True) ∧ ((decide ((x.getD x_1.toNat ((0 : Int), false, (0 : Int))).fst < (0 : Int)) || decide ((65535 : Int) < (x.getD x_1.toNat ((0 : Int), false, (0 : Int))).fst) || !there (x.getD x_1.toNat ((0 : Int), false, (0 : Int))).snd.snd) = false → (((x.getD x_1.toNat ((0 : Int), false, (0 : Int))).snd.fst && decide ((x.getD x_1.toNat ((0 : Int), false, (0 : Int))).fst = (0 : Int)) || !(x.getD x_1.toNat ((0 : Int), false, (0 : Int))).snd.fst && decide ((x.getD x_1.toNat ((0 : Int), false, (0 : Int))).snd.snd ≠ (0 : Int))) = true → (3 : Int) = handsF x ∧ True) ∧ (((x.getD x_1.toNat ((0 : Int), false, (0 : Int))).snd.fst && decide ((x.getD x_1.toNat ((0 : Int), false, (0 : Int))).fst = (0 : Int)) || !(x.getD x_1.toNat ((0 : Int), false, (0 : Int))).snd.fst && decide ((x.getD x_1.toNat ((0 : Int), false, (0 : Int))).snd.snd ≠ (0 : Int))) = false → InR IntKind.i64 (x_1 + (1 : Int)) ∧ ((0 : Int) ≤ x_1 + (1 : Int) ∧ x_1 + (1 : Int) ≤ (↑x.length : Int) ∧ x.length ≤ (16 : Nat) ∧ slotsFault (List.drop (x_1 + (1 : Int)).toNat x) = slotsFault x) ∧ ((↑x.length : Int) - (x_1 + (1 : Int))).toNat < ((↑x.length : Int) - x_1).toNat))) ∧ (decide (x_1 < (↑x.length : Int)) = false → (0 : Int) = handsF x ∧ True))
theorem vcp_handCheck : pv_handCheck := by
 unfold pv_handCheck
 intro h ⟨hb, hw⟩ _
 unfold big at *
 refine ⟨fun hl => ?_, fun hl => ⟨⟨by omega, by omega, by have := of_decide_eq_false hl; omega, by simp⟩, fun i ⟨h0, h1, h2, h3⟩ => ⟨fun hlt => ?_, fun hge => ?_⟩⟩⟩
 ·have := of_decide_eq_true hl
  unfold handsF
  rw [if_pos (by omega)]
  exact ⟨rfl, trivial⟩
 ·have hlt : i < (h.length : Int) := by simpa using hlt
  have e := drop_cons ((0, false, 0) : Slot) h0 hlt
  have hF : handsF h = slotsFault h := by unfold handsF; rw [if_neg (by omega)]
  rw [hF, ← h3, e]
  simp only [slotsFault, slotBad, there, InR]
  generalize h.getD i.toNat (0, false, 0) = s at *
  obtain ⟨g, o, a⟩ := s
  simp only
  cases o <;> grind
 ·have hF : handsF h = slotsFault h := by unfold handsF; rw [if_neg (by omega)]
  rw [drop_end (by simpa using hge)] at h3
  rw [hF, ← h3]
  exact ⟨rfl, trivial⟩
theorem e_handCheck : pv_handCheck = (fnVC Tryz.prog (tbl [(111, sp_handThere)]) an_handCheck Tryz.f93 sp_handCheck) := by kernel_rfl
theorem vc_handCheck : fnVC Tryz.prog (tbl [(111, sp_handThere)]) an_handCheck Tryz.f93 sp_handCheck := @Eq.mp _ _ @e_handCheck @vcp_handCheck
theorem ok_handCheck : sp_handCheck.ok Tryz.prog 93 := fn_sound (P := Tryz.prog) (ss := tbl [(111, sp_handThere)]) (ann := an_handCheck) (f := 93) (fn := Tryz.f93) (s := sp_handCheck) (tbl_cons ok_handThere tbl_nil) Tryz.func93 @vc_handCheck
def sp_handsFault : Spec := sp_handCheck
def pv_handsFault : Prop :=
  ∀ (x : List (Int × Bool × Int)), (x.length * ((8 : Nat) + ((8 : Nat) + (8 : Nat))) ≤ big ∧ ∀ (x_1 : Int × Bool × Int), x_1 ∈ x → InR IntKind.i64 x_1.fst ∧ True ∧ InR IntKind.i64 x_1.snd.snd) → True → (decide ((16 : Int) < (↑x.length : Int)) = true → (2 : Int) = handsF x ∧ True) ∧ (decide ((16 : Int) < (↑x.length : Int)) = false → ((0 : Int) ≤ (0 : Int) ∧ (0 : Int) ≤ (↑x.length : Int) ∧ x.length ≤ (16 : Nat) ∧ slotsFault (List.drop (Int.toNat (0 : Int)) x) = slotsFault x) ∧ ∀ (x_1 : Int), (0 : Int) ≤ x_1 ∧ x_1 ≤ (↑x.length : Int) ∧ x.length ≤ (16 : Nat) ∧ slotsFault (List.drop x_1.toNat x) = slotsFault x → (decide (x_1 < (↑x.length : Int)) = true → (0 : Int) ≤ x_1 ∧ x_1 < (↑x.length : Int) ∧ ((decide ((x.getD x_1.toNat ((0 : Int), false, (0 : Int))).fst < (0 : Int)) || decide ((65535 : Int) < (x.getD x_1.toNat ((0 : Int), false, (0 : Int))).fst) || decide ((x.getD x_1.toNat ((0 : Int), false, (0 : Int))).snd.snd < (0 : Int)) || decide ((255 : Int) < (x.getD x_1.toNat ((0 : Int), false, (0 : Int))).snd.snd)) = true → (4 : Int) = handsF x ∧ True) ∧ ((decide ((x.getD x_1.toNat ((0 : Int), false, (0 : Int))).fst < (0 : Int)) || decide ((65535 : Int) < (x.getD x_1.toNat ((0 : Int), false, (0 : Int))).fst) || decide ((x.getD x_1.toNat ((0 : Int), false, (0 : Int))).snd.snd < (0 : Int)) || decide ((255 : Int) < (x.getD x_1.toNat ((0 : Int), false, (0 : Int))).snd.snd)) = false → (((x.getD x_1.toNat ((0 : Int), false, (0 : Int))).snd.fst && decide ((x.getD x_1.toNat ((0 : Int), false, (0 : Int))).fst = (0 : Int)) || !(x.getD x_1.toNat ((0 : Int), false, (0 : Int))).snd.fst && decide ((x.getD x_1.toNat ((0 : Int), false, (0 : Int))).snd.snd ≠ (0 : Int))) = true → (3 : Int) = handsF x ∧ True) ∧ (((x.getD x_1.toNat ((0 : Int), false, (0 : Int))).snd.fst && decide ((x.getD x_1.toNat ((0 : Int), false, (0 : Int))).fst = (0 : Int)) || !(x.getD x_1.toNat ((0 : Int), false, (0 : Int))).snd.fst && decide ((x.getD x_1.toNat ((0 : Int), false, (0 : Int))).snd.snd ≠ (0 : Int))) = false → InR IntKind.i64 (x_1 + (1 : Int)) ∧ ((0 : Int) ≤ x_1 + (1 : Int) ∧ x_1 + (1 : Int) ≤ (↑x.length : Int) ∧ x.length ≤ (16 : Nat) ∧ slotsFault (List.drop (x_1 + (1 : Int)).toNat x) = slotsFault x) ∧ ((↑x.length : Int) - (x_1 + (1 : Int))).toNat < ((↑x.length : Int) - x_1).toNat))) ∧ (decide (x_1 < (↑x.length : Int)) = false → (0 : Int) = handsF x ∧ True))
theorem vcp_handsFault : pv_handsFault := by
 unfold pv_handsFault
 intro h ⟨hb, hw⟩ _
 unfold big at *
 refine ⟨fun hl => ?_, fun hl => ⟨⟨by omega, by omega, by have := of_decide_eq_false hl; omega, by simp⟩, fun i ⟨h0, h1, h2, h3⟩ => ⟨fun hlt => ?_, fun hge => ?_⟩⟩⟩
 ·have := of_decide_eq_true hl
  unfold handsF
  rw [if_pos (by omega)]
  exact ⟨rfl, trivial⟩
 ·have hlt : i < (h.length : Int) := by simpa using hlt
  have e := drop_cons ((0, false, 0) : Slot) h0 hlt
  have hF : handsF h = slotsFault h := by unfold handsF; rw [if_neg (by omega)]
  rw [hF, ← h3, e]
  simp only [slotsFault, slotBad, there, InR]
  generalize h.getD i.toNat (0, false, 0) = s at *
  obtain ⟨g, o, a⟩ := s
  simp only
  cases o <;> grind
 ·have hF : handsF h = slotsFault h := by unfold handsF; rw [if_neg (by omega)]
  rw [drop_end (by simpa using hge)] at h3
  rw [hF, ← h3]
  exact ⟨rfl, trivial⟩
theorem e_handsFault : pv_handsFault = (fnVC Tryz.prog (tbl []) an_handCheck Tryz.f39 sp_handsFault) := by kernel_rfl
theorem vc_handsFault : fnVC Tryz.prog (tbl []) an_handCheck Tryz.f39 sp_handsFault := @Eq.mp _ _ @e_handsFault @vcp_handsFault
theorem ok_handsFault : sp_handsFault.ok Tryz.prog 39 := fn_sound (P := Tryz.prog) (ss := tbl []) (ann := an_handCheck) (f := 39) (fn := Tryz.f39) (s := sp_handsFault) tbl_nil Tryz.func39 @vc_handsFault
theorem slotsFault_zero : ∀ {h : List Slot}, slotsFault h = 0 → ∀ s ∈ h, slotBad s = 0
 | [], _ => by simp
 | x :: l, h => by
  simp only [slotsFault] at h
  split at h
  ·omega
  ·intro s hs
   rcases List.mem_cons.1 hs with rfl | hs
   ·omega
   ·exact slotsFault_zero h s hs
theorem handsF_zero {h : List Slot} (hf : handsF h = 0) : h.length ≤ 16 ∧ ∀ s ∈ h, 0 ≤ s.1 ∧ s.1 ≤ 65535 ∧ 0 ≤ s.2.2 ∧ s.2.2 ≤ 255 := by
 unfold handsF at hf
 split at hf
 ·omega
 ·refine ⟨by omega, fun s hs => ?_⟩
  have := slotsFault_zero hf s hs
  unfold slotBad at this
  split at this <;> omega
theorem mapTo_len {α : Type} (f : α → α) (h : List α) (i : Nat) : ((h.take i).map f ++ h.drop i).length = h.length := by simp; omega
theorem mapTo_get {α : Type} (f : α → α) (h : List α) (d : α) (i : Nat) (hi : i < h.length) : ((h.take i).map f ++ h.drop i).getD i d = h.getD i d := by
 simp only [List.getD_eq_getElem?_getD]
 rw [List.getElem?_append_right (by simp; omega)]
 simp [show min i h.length = i by omega]
theorem mapTo_set {α : Type} (f : α → α) (h : List α) (d : α) (i : Nat) (hi : i < h.length) : ((h.take i).map f ++ h.drop i).set i (f (h.getD i d)) = (h.take (i + 1)).map f ++ h.drop (i + 1) := by
 have l1 : ((h.take i).map f).length = i := by simp; omega
 rw [List.set_append_right _ _ (by omega), l1, Nat.sub_self, List.drop_eq_getElem_cons hi, List.set_cons_zero, List.take_succ_eq_append_getElem hi, List.map_append, List.append_assoc]
 simp [hi]
theorem mapTo_keep {α : Type} (f : α → α) (h : List α) (d : α) (i : Nat) (hi : i < h.length) (hf : f (h.getD i d) = h.getD i d) : (h.take i).map f ++ h.drop i = (h.take (i + 1)).map f ++ h.drop (i + 1) := by
 rw [← mapTo_set f h d i hi, hf]
 apply List.ext_getElem?
 intro j
 rw [List.getElem?_set]
 split
 ·rename_i e
  subst e
  have := mapTo_get f h d i hi
  rw [if_pos (by rw [mapTo_len]; exact hi)]
  simp only [List.getD_eq_getElem?_getD] at this
  have hl : i < ((h.take i).map f ++ h.drop i).length := by rw [mapTo_len]; exact hi
  rw [List.getElem?_eq_getElem hl] at this ⊢
  simp only [Option.getD_some] at this
  rw [this]
  simp [hi]
 ·rfl
def swapSlot (to : List Int) (s : Slot) : Slot := if s.2.1 = true then (s.1, s.2.1, to.getD s.2.2.toNat 0) else s
def swapF (h : List Slot) (to : List Int) : List Slot × Int := if handsF h ≠ 0 then ([], handsF h) else if to.length ≠ 256 then ([], 3) else if (to.any fun v => !there v) = true then ([], 4) else (h.map (swapSlot to), 0)
def sp_handSwap : Spec := { Ts := [.arr ty_Slot, .arr ty_I], Rs := [.own 87 ty_Slot, .dat ty_I], pre := fun _ => True, F := fun ((h, to) : List Slot × List Int) => swapF h to }
def an_handSwap : Nat → Option LoopGen
 | 10 => some { rd := [.dat 0 (.arr ty_Slot), .dat 1 (.arr ty_I)], wr := [7, 25], A := fun ((h, to) : List Slot × List Int) => { cs := [.own 7 87 ty_Slot, .same 25 7, .dat 27 ty_I], inv := fun ((out, _, i) : List Slot × Unit × Int) => 0 ≤ i ∧ i ≤ h.length ∧ handsF h = 0 ∧ to.length = 256 ∧ out = (h.take i.toNat).map (swapSlot to) ++ h.drop i.toNat, mu := fun ((_, _, i) : List Slot × Unit × Int) => (h.length - i).toNat } }
 | 1000013 => some { rd := [.dat 0 (.arr ty_Slot), .dat 1 (.arr ty_I), .dat 27 ty_I], wr := [7, 25], A := fun ((h, to, i) : List Slot × List Int × Int) => { cs := [.own 7 87 ty_Slot, .same 25 7], inv := fun ((out, _) : List Slot × Unit) => out = (h.take (i.toNat + 1)).map (swapSlot to) ++ h.drop (i.toNat + 1), mu := fun _ => 0 } }
 | _ => none
def pv_handSwap : Prop :=
  ∀ (x : List (Int × Bool × Int) × List Int), ((x.fst.length * ((8 : Nat) + ((8 : Nat) + (8 : Nat))) ≤ big ∧ ∀ (x_1 : Int × Bool × Int), x_1 ∈ x.fst → InR IntKind.i64 x_1.fst ∧ True ∧ InR IntKind.i64 x_1.snd.snd) ∧ x.snd.length * (8 : Nat) ≤ big ∧ ∀ (x_1 : Int), x_1 ∈ x.snd → InR IntKind.i64 x_1) → True → True ∧ (decide (handsF x.fst ≠ (0 : Int)) = true → ([] : List (Int × Bool × Int)) = (swapF x.fst x.snd).fst ∧ handsF x.fst = (swapF x.fst x.snd).snd ∧ True) ∧ (decide (handsF x.fst ≠ (0 : Int)) = false → (decide ((↑x.snd.length : Int) ≠ (256 : Int)) = true → ([] : List (Int × Bool × Int)) = (swapF x.fst x.snd).fst ∧ (3 : Int) = (swapF x.fst x.snd).snd ∧ True) ∧ (decide ((↑x.snd.length : Int) ≠ (256 : Int)) = false → (∀ (s : Int), s ∈ x.snd → (fun (_ : Int) => True, fun (x : Int) => !there x).fst s) ∧ ((x.snd.any fun (x : Int) => !there x) = true → ([] : List (Int × Bool × Int)) = (swapF x.fst x.snd).fst ∧ (4 : Int) = (swapF x.fst x.snd).snd ∧ True) ∧ ((x.snd.any fun (x : Int) => !there x) = false → True ∧ ((0 : Int) ≤ (0 : Int) ∧ (0 : Int) ≤ (↑x.fst.length : Int) ∧ handsF x.fst = (0 : Int) ∧ x.snd.length = (256 : Nat) ∧ x.fst = List.map (swapSlot x.snd) (List.take (Int.toNat (0 : Int)) x.fst) ++ List.drop (Int.toNat (0 : Int)) x.fst) ∧ ∀ (x_1 : List (Int × Bool × Int) × Unit × Int), (0 : Int) ≤ x_1.snd.snd ∧ x_1.snd.snd ≤ (↑x.fst.length : Int) ∧ handsF x.fst = (0 : Int) ∧ x.snd.length = (256 : Nat) ∧ x_1.fst = List.map (swapSlot x.snd) (List.take x_1.snd.snd.toNat x.fst) ++ List.drop x_1.snd.snd.toNat x.fst → (decide (x_1.snd.snd < (↑x.fst.length : Int)) = true → (0 : Int) ≤ x_1.snd.snd ∧ x_1.snd.snd < (↑x_1.fst.length : Int) ∧ x_1.snd.snd.toNat < x_1.fst.length ∧ (((x_1.fst.getD x_1.snd.snd.toNat ((0 : Int), false, (0 : Int))).snd.fst = true → (0 : Int) ≤ (x_1.fst.getD x_1.snd.snd.toNat ((0 : Int), false, (0 : Int))).snd.snd ∧ (x_1.fst.getD x_1.snd.snd.toNat ((0 : Int), false, (0 : Int))).snd.snd < (↑x.snd.length : Int) ∧ (0 : Int) ≤ x_1.snd.snd ∧ x_1.snd.snd < (↑x_1.fst.length : Int) ∧ x_1.snd.snd.toNat < x_1.fst.length ∧ x_1.fst.set x_1.snd.snd.toNat ((x_1.fst.getD x_1.snd.snd.toNat ((0 : Int), false, (0 : Int))).fst, (x_1.fst.getD x_1.snd.snd.toNat ((0 : Int), false, (0 : Int))).snd.fst, x.snd.getD (x_1.fst.getD x_1.snd.snd.toNat ((0 : Int), false, (0 : Int))).snd.snd.toNat (0 : Int)) = List.map (swapSlot x.snd) (List.take (x_1.snd.snd.toNat + (1 : Nat)) x.fst) ++ List.drop (x_1.snd.snd.toNat + (1 : Nat)) x.fst) ∧ ((x_1.fst.getD x_1.snd.snd.toNat ((0 : Int), false, (0 : Int))).snd.fst = false → x_1.fst = List.map (swapSlot x.snd) (List.take (x_1.snd.snd.toNat + (1 : Nat)) x.fst) ++ List.drop (x_1.snd.snd.toNat + (1 : Nat)) x.fst)) ∧ ∀ (x_2 : List (Int × Bool × Int) × Unit), x_2.fst = List.map (swapSlot x.snd) (List.take (x_1.snd.snd.toNat + (1 : Nat)) x.fst) ++ List.drop (x_1.snd.snd.toNat + (1 : Nat)) x.fst → InR IntKind.i64 (x_1.snd.snd + (1 : Int)) ∧ ((0 : Int) ≤ x_1.snd.snd + (1 : Int) ∧ x_1.snd.snd + (1 : Int) ≤ (↑x.fst.length : Int) ∧ handsF x.fst = (0 : Int) ∧ x.snd.length = (256 : Nat) ∧ x_2.fst = List.map (swapSlot x.snd) (List.take (x_1.snd.snd + (1 : Int)).toNat x.fst) ++ List.drop (x_1.snd.snd + (1 : Int)).toNat x.fst) ∧ ((↑x.fst.length : Int) - (x_1.snd.snd + (1 : Int))).toNat < ((↑x.fst.length : Int) - x_1.snd.snd).toNat) ∧ (decide (x_1.snd.snd < (↑x.fst.length : Int)) = false → x_1.fst = (swapF x.fst x.snd).fst ∧ (0 : Int) = (swapF x.fst x.snd).snd ∧ True))))
theorem vcp_handSwap : pv_handSwap := by
 unfold pv_handSwap
 intro ⟨h, to⟩ ⟨⟨_, hw⟩, hto, _⟩ _
 simp only at *
 refine ⟨trivial, fun hf => by unfold swapF; grind, fun hf => ⟨fun hl => by unfold swapF; grind, fun hl => ⟨fun _ _ => trivial, fun ha => by unfold swapF; grind, fun ha => ?_⟩⟩⟩
 have hf : handsF h = 0 := by simpa using hf
 have hl : to.length = 256 := by
  have : ((to.length : Nat) : Int) = 256 := by simpa using hl
  omega
 obtain ⟨z1, z2⟩ := handsF_zero hf
 have hS : swapF h to = (h.map (swapSlot to), 0) := by unfold swapF; rw [if_neg (by omega), if_neg (by omega), if_neg (by rw [ha]; simp)]
 refine ⟨trivial, ⟨by omega, by omega, hf, hl, by simp⟩, fun ⟨out, u, i⟩ ⟨h0, h1, _, _, h4⟩ => ⟨fun hlt => ?_, fun hge => ?_⟩⟩
 ·have hlt : i < (h.length : Int) := by simpa using hlt
  simp only at *
  have hm := z2 _ (getD_mem ((0, false, 0) : Slot) h0 hlt)
  have hlen : out.length = h.length := by rw [h4]; exact mapTo_len _ _ _
  have hget : out.getD i.toNat (0, false, 0) = h.getD i.toNat (0, false, 0) := by rw [h4]; exact mapTo_get _ _ _ _ (by omega)
  have hset := mapTo_set (swapSlot to) h ((0, false, 0) : Slot) i.toNat (by omega)
  have hkeep := mapTo_keep (swapSlot to) h ((0, false, 0) : Slot) i.toNat (by omega)
  rw [← h4] at hset hkeep
  rw [hget]
  refine ⟨h0, by omega, by omega, ⟨fun ho => ⟨by omega, by omega, h0, by omega, by omega, ?_⟩, fun ho => ?_⟩, fun ⟨o2, _⟩ e2 => ⟨by simp only [InR]; omega, ⟨by omega, by omega, hf, hl, ?_⟩, by omega⟩⟩
  ·rw [← hset]
   unfold swapSlot
   rw [if_pos ho]
  ·apply hkeep
   unfold swapSlot
   rw [if_neg (by rw [ho]; simp)]
  ·rw [show (i + 1).toNat = i.toNat + 1 by omega]
   exact e2
 ·have hge : ¬ i < (h.length : Int) := by simpa using hge
  simp only at *
  rw [hS, h4, List.take_of_length_le (by omega), List.drop_of_length_le (by omega)]
  simp
theorem e_handSwap : pv_handSwap = (fnVC Tryz.prog (tbl [(93, sp_handCheck), (124, sp_anyInt), (141, sp_notThere), (99, sp_cloneHands)]) an_handSwap Tryz.f106 sp_handSwap) := by kernel_rfl
theorem vc_handSwap : fnVC Tryz.prog (tbl [(93, sp_handCheck), (124, sp_anyInt), (141, sp_notThere), (99, sp_cloneHands)]) an_handSwap Tryz.f106 sp_handSwap := @Eq.mp _ _ @e_handSwap @vcp_handSwap
theorem ok_handSwap : sp_handSwap.ok Tryz.prog 106 := fn_sound (P := Tryz.prog) (ss := tbl [(93, sp_handCheck), (124, sp_anyInt), (141, sp_notThere), (99, sp_cloneHands)]) (ann := an_handSwap) (f := 106) (fn := Tryz.f106) (s := sp_handSwap) (tbl_cons ok_handCheck (tbl_cons ok_anyInt (tbl_cons ok_notThere (tbl_cons ok_cloneHands tbl_nil)))) Tryz.func106 @vc_handSwap
end Go.Proofs.YtglchojglcobjaaGreat
