/- Contracts of package hand and of what the reference says of hands; and the law HandTells. -/
import Derived.Test.YtbidboeemnlglaaWords
import Derived.Test.YtbidboeemnlglaaFinds
namespace Go.Proofs.Ytbidboeemnlglaa
open Go
set_option maxRecDepth 100000
set_option maxHeartbeats 1000000

abbrev ty_Slot : Ty := .pair ty_I (.pair .bool ty_I)
abbrev Slot := Int × Bool × Int

def sp_idxSlot : Spec := { Ts := [.arr ty_Slot, .fn ty_Slot .bool], Rs := [.dat ty_I], pre := fun ((l, g) : List Slot × (Slot → Prop) × (Slot → Bool)) => ∀ s ∈ l, g.1 s, F := fun ((l, g) : List Slot × (Slot → Prop) × (Slot → Bool)) => findFrom g.2 0 l }
def an_idxSlot : Nat → Option LoopGen
  | 2 => some { rd := [.dat 0 (.arr ty_Slot), .dat 1 (.fn ty_Slot .bool)], A := fun ((l, g) : List Slot × (Slot → Prop) × (Slot → Bool)) => { cs := [.dat 8 ty_I], inv := fun (i : Int) => 0 ≤ i ∧ i ≤ l.length ∧ findFrom g.2 i (l.drop i.toNat) = findFrom g.2 0 l, mu := fun (i : Int) => (l.length - i).toNat } }
  | _ => none

def sp_idxInt : Spec := { Ts := [.arr ty_I, .fn ty_I .bool], Rs := [.dat ty_I], pre := fun ((l, g) : List Int × (Int → Prop) × (Int → Bool)) => ∀ s ∈ l, g.1 s, F := fun ((l, g) : List Int × (Int → Prop) × (Int → Bool)) => findFrom g.2 0 l }
def an_idxInt : Nat → Option LoopGen
  | 2 => some { rd := [.dat 0 (.arr ty_I), .dat 1 (.fn ty_I .bool)], A := fun ((l, g) : List Int × (Int → Prop) × (Int → Bool)) => { cs := [.dat 8 ty_I], inv := fun (i : Int) => 0 ≤ i ∧ i ≤ l.length ∧ findFrom g.2 i (l.drop i.toNat) = findFrom g.2 0 l, mu := fun (i : Int) => (l.length - i).toNat } }
  | _ => none

def sp_anyInt : Spec := { Ts := [.arr ty_I, .fn ty_I .bool], Rs := [.dat .bool], pre := fun ((l, g) : List Int × (Int → Prop) × (Int → Bool)) => ∀ s ∈ l, g.1 s, F := fun ((l, g) : List Int × (Int → Prop) × (Int → Bool)) => l.any g.2 }

def sp_cloneHands : Spec := { Ts := [.arr ty_Slot], Rs := [.own 166 ty_Slot], pre := fun _ => True, F := fun (x : List Slot) => x }

def there (v : Int) : Bool := decide (0 ≤ v) && decide (v < 256)
def sp_handThere : Spec := { Ts := [ty_I], Rs := [.dat .bool], pre := fun _ => True, F := there }
def pv_handThere : Prop :=
    ∀ (x : Int), InR IntKind.i64 x → True → (decide ((0 : Int) ≤ x) && decide (x < (256 : Int))) = there x ∧ True
theorem vcp_handThere : pv_handThere := by
  unfold pv_handThere
  intro v _ _
  simp [there]
theorem e_handThere : pv_handThere = (fnVC Try.prog (tbl []) an_0 Try.f159 sp_handThere) := by kernel_rfl
theorem vc_handThere : fnVC Try.prog (tbl []) an_0 Try.f159 sp_handThere := @Eq.mp _ _ @e_handThere @vcp_handThere
theorem ok_handThere : sp_handThere.ok Try.prog 159 := fn_sound (P := Try.prog) (ss := tbl []) (ann := an_0) (f := 159) (fn := Try.f159) (s := sp_handThere) tbl_nil Try.func159 @vc_handThere

def sp_notThere : Spec := { Ts := [ty_I], Rs := [.dat .bool], pre := fun _ => True, F := fun (v : Int) => !there v }

def sp_outside : Spec := { Ts := [ty_I], Rs := [.dat .bool], pre := fun _ => True, F := fun (v : Int) => decide (v < 0) || decide (255 < v) }

def freeSlot (s : Slot) : Bool := !s.2.1 && decide (s.1 < 65535)
def sp_freeSlot : Spec := { Ts := [ty_Slot], Rs := [.dat .bool], pre := fun _ => True, F := freeSlot }

def slotBad (s : Slot) : Int := if s.1 < 0 ∨ 65535 < s.1 ∨ s.2.2 < 0 ∨ 255 < s.2.2 then 4 else if (s.2.1 = true ∧ s.1 = 0) ∨ (s.2.1 = false ∧ s.2.2 ≠ 0) then 3 else 0
def slotsFault : List Slot → Int
  | [] => 0
  | s :: l => if slotBad s ≠ 0 then slotBad s else slotsFault l
def handsF (h : List Slot) : Int := if 16 < h.length then 2 else slotsFault h

def sp_handCheck : Spec := { Ts := [.arr ty_Slot], Rs := [.dat ty_I], pre := fun _ => True, F := handsF }
def an_handCheck : Nat → Option LoopGen
  | 4 => some { rd := [.dat 8 (.arr ty_Slot)], A := fun (h : List Slot) => { cs := [.dat 10 ty_I], inv := fun (i : Int) => 0 ≤ i ∧ i ≤ h.length ∧ h.length ≤ 16 ∧ slotsFault (h.drop i.toNat) = slotsFault h, mu := fun (i : Int) => (h.length - i).toNat } }
  | _ => none
def pv_handCheck : Prop :=
    ∀ (x : List (Int × Bool × Int)), (x.length * ((8 : Nat) + ((8 : Nat) + (8 : Nat))) ≤ big ∧ ∀ (x_1 : Int × Bool × Int), x_1 ∈ x → InR IntKind.i64 x_1.fst ∧ True ∧ InR IntKind.i64 x_1.snd.snd) → True → (decide ((16 : Int) < (↑x.length : Int)) = true → (2 : Int) = handsF x ∧ True) ∧ (decide ((16 : Int) < (↑x.length : Int)) = false → ((0 : Int) ≤ (0 : Int) ∧ (0 : Int) ≤ (↑x.length : Int) ∧ x.length ≤ (16 : Nat) ∧ slotsFault (List.drop (Int.toNat (0 : Int)) x) = slotsFault x) ∧ ∀ (x_1 : Int), (0 : Int) ≤ x_1 ∧ x_1 ≤ (↑x.length : Int) ∧ x.length ≤ (16 : Nat) ∧ slotsFault (List.drop x_1.toNat x) = slotsFault x → (decide (x_1 < (↑x.length : Int)) = true → (0 : Int) ≤ x_1 ∧ x_1 < (↑x.length : Int) ∧ ((decide ((x.getD x_1.toNat ((0 : Int), false, (0 : Int))).fst < (0 : Int)) || decide ((65535 : Int) < (x.getD x_1.toNat ((0 : Int), false, (0 : Int))).fst)) = false → True) ∧ ((decide ((x.getD x_1.toNat ((0 : Int), false, (0 : Int))).fst < (0 : Int)) || decide ((65535 : Int) < (x.getD x_1.toNat ((0 : Int), false, (0 : Int))).fst) || !there (x.getD x_1.toNat ((0 : Int), false, (0 : Int))).snd.snd) = true → (4 : Int) = handsF x ∧ True) ∧ ((decide ((x.getD x_1.toNat ((0 : Int), false, (0 : Int))).fst < (0 : Int)) || decide ((65535 : Int) < (x.getD x_1.toNat ((0 : Int), false, (0 : Int))).fst) || !there (x.getD x_1.toNat ((0 : Int), false, (0 : Int))).snd.snd) = false → (((x.getD x_1.toNat ((0 : Int), false, (0 : Int))).snd.fst && decide ((x.getD x_1.toNat ((0 : Int), false, (0 : Int))).fst = (0 : Int)) || !(x.getD x_1.toNat ((0 : Int), false, (0 : Int))).snd.fst && decide ((x.getD x_1.toNat ((0 : Int), false, (0 : Int))).snd.snd ≠ (0 : Int))) = true → (3 : Int) = handsF x ∧ True) ∧ (((x.getD x_1.toNat ((0 : Int), false, (0 : Int))).snd.fst && decide ((x.getD x_1.toNat ((0 : Int), false, (0 : Int))).fst = (0 : Int)) || !(x.getD x_1.toNat ((0 : Int), false, (0 : Int))).snd.fst && decide ((x.getD x_1.toNat ((0 : Int), false, (0 : Int))).snd.snd ≠ (0 : Int))) = false → InR IntKind.i64 (x_1 + (1 : Int)) ∧ ((0 : Int) ≤ x_1 + (1 : Int) ∧ x_1 + (1 : Int) ≤ (↑x.length : Int) ∧ x.length ≤ (16 : Nat) ∧ slotsFault (List.drop (x_1 + (1 : Int)).toNat x) = slotsFault x) ∧ ((↑x.length : Int) - (x_1 + (1 : Int))).toNat < ((↑x.length : Int) - x_1).toNat))) ∧ (decide (x_1 < (↑x.length : Int)) = false → (0 : Int) = handsF x ∧ True))
theorem vcp_handCheck : pv_handCheck := by
  unfold pv_handCheck
  intro h ⟨hb, hw⟩ _
  unfold big at *
  refine ⟨fun hl => ?_, fun hl => ⟨⟨by omega, by omega, by have := of_decide_eq_false hl; omega, by simp⟩, fun i ⟨h0, h1, h2, h3⟩ => ⟨fun hlt => ?_, fun hge => ?_⟩⟩⟩
  · have := of_decide_eq_true hl
    unfold handsF
    rw [if_pos (by omega)]
    exact ⟨rfl, trivial⟩
  · have hlt : i < (h.length : Int) := by simpa using hlt
    have e := drop_cons ((0, false, 0) : Slot) h0 hlt
    have hF : handsF h = slotsFault h := by unfold handsF; rw [if_neg (by omega)]
    rw [hF, ← h3, e]
    simp only [slotsFault, slotBad, there, InR]
    generalize h.getD i.toNat (0, false, 0) = s at *
    obtain ⟨g, o, a⟩ := s
    simp only
    cases o <;> grind
  · have hF : handsF h = slotsFault h := by unfold handsF; rw [if_neg (by omega)]
    rw [drop_end (by simpa using hge)] at h3
    rw [hF, ← h3]
    exact ⟨rfl, trivial⟩
theorem e_handCheck : pv_handCheck = (fnVC Try.prog (tbl [(159, sp_handThere)]) an_handCheck Try.f120 sp_handCheck) := by kernel_rfl
theorem vc_handCheck : fnVC Try.prog (tbl [(159, sp_handThere)]) an_handCheck Try.f120 sp_handCheck := @Eq.mp _ _ @e_handCheck @vcp_handCheck
theorem ok_handCheck : sp_handCheck.ok Try.prog 120 := fn_sound (P := Try.prog) (ss := tbl [(159, sp_handThere)]) (ann := an_handCheck) (f := 120) (fn := Try.f120) (s := sp_handCheck) (tbl_cons ok_handThere tbl_nil) Try.func120 @vc_handCheck

def sp_handsFault : Spec := sp_handCheck
def pv_handsFault : Prop :=
    ∀ (x : List (Int × Bool × Int)), (x.length * ((8 : Nat) + ((8 : Nat) + (8 : Nat))) ≤ big ∧ ∀ (x_1 : Int × Bool × Int), x_1 ∈ x → InR IntKind.i64 x_1.fst ∧ True ∧ InR IntKind.i64 x_1.snd.snd) → True → (decide ((16 : Int) < (↑x.length : Int)) = true → (2 : Int) = handsF x ∧ True) ∧ (decide ((16 : Int) < (↑x.length : Int)) = false → ((0 : Int) ≤ (0 : Int) ∧ (0 : Int) ≤ (↑x.length : Int) ∧ x.length ≤ (16 : Nat) ∧ slotsFault (List.drop (Int.toNat (0 : Int)) x) = slotsFault x) ∧ ∀ (x_1 : Int), (0 : Int) ≤ x_1 ∧ x_1 ≤ (↑x.length : Int) ∧ x.length ≤ (16 : Nat) ∧ slotsFault (List.drop x_1.toNat x) = slotsFault x → (decide (x_1 < (↑x.length : Int)) = true → (0 : Int) ≤ x_1 ∧ x_1 < (↑x.length : Int) ∧ ((decide ((x.getD x_1.toNat ((0 : Int), false, (0 : Int))).fst < (0 : Int)) || decide ((65535 : Int) < (x.getD x_1.toNat ((0 : Int), false, (0 : Int))).fst) || decide ((x.getD x_1.toNat ((0 : Int), false, (0 : Int))).snd.snd < (0 : Int)) || decide ((255 : Int) < (x.getD x_1.toNat ((0 : Int), false, (0 : Int))).snd.snd)) = true → (4 : Int) = handsF x ∧ True) ∧ ((decide ((x.getD x_1.toNat ((0 : Int), false, (0 : Int))).fst < (0 : Int)) || decide ((65535 : Int) < (x.getD x_1.toNat ((0 : Int), false, (0 : Int))).fst) || decide ((x.getD x_1.toNat ((0 : Int), false, (0 : Int))).snd.snd < (0 : Int)) || decide ((255 : Int) < (x.getD x_1.toNat ((0 : Int), false, (0 : Int))).snd.snd)) = false → (((x.getD x_1.toNat ((0 : Int), false, (0 : Int))).snd.fst && decide ((x.getD x_1.toNat ((0 : Int), false, (0 : Int))).fst = (0 : Int)) || !(x.getD x_1.toNat ((0 : Int), false, (0 : Int))).snd.fst && decide ((x.getD x_1.toNat ((0 : Int), false, (0 : Int))).snd.snd ≠ (0 : Int))) = true → (3 : Int) = handsF x ∧ True) ∧ (((x.getD x_1.toNat ((0 : Int), false, (0 : Int))).snd.fst && decide ((x.getD x_1.toNat ((0 : Int), false, (0 : Int))).fst = (0 : Int)) || !(x.getD x_1.toNat ((0 : Int), false, (0 : Int))).snd.fst && decide ((x.getD x_1.toNat ((0 : Int), false, (0 : Int))).snd.snd ≠ (0 : Int))) = false → InR IntKind.i64 (x_1 + (1 : Int)) ∧ ((0 : Int) ≤ x_1 + (1 : Int) ∧ x_1 + (1 : Int) ≤ (↑x.length : Int) ∧ x.length ≤ (16 : Nat) ∧ slotsFault (List.drop (x_1 + (1 : Int)).toNat x) = slotsFault x) ∧ ((↑x.length : Int) - (x_1 + (1 : Int))).toNat < ((↑x.length : Int) - x_1).toNat))) ∧ (decide (x_1 < (↑x.length : Int)) = false → (0 : Int) = handsF x ∧ True))
theorem vcp_handsFault : pv_handsFault := by
  unfold pv_handsFault
  intro h ⟨hb, hw⟩ _
  unfold big at *
  refine ⟨fun hl => ?_, fun hl => ⟨⟨by omega, by omega, by have := of_decide_eq_false hl; omega, by simp⟩, fun i ⟨h0, h1, h2, h3⟩ => ⟨fun hlt => ?_, fun hge => ?_⟩⟩⟩
  · have := of_decide_eq_true hl
    unfold handsF
    rw [if_pos (by omega)]
    exact ⟨rfl, trivial⟩
  · have hlt : i < (h.length : Int) := by simpa using hlt
    have e := drop_cons ((0, false, 0) : Slot) h0 hlt
    have hF : handsF h = slotsFault h := by unfold handsF; rw [if_neg (by omega)]
    rw [hF, ← h3, e]
    simp only [slotsFault, slotBad, there, InR]
    generalize h.getD i.toNat (0, false, 0) = s at *
    obtain ⟨g, o, a⟩ := s
    simp only
    cases o <;> grind
  · have hF : handsF h = slotsFault h := by unfold handsF; rw [if_neg (by omega)]
    rw [drop_end (by simpa using hge)] at h3
    rw [hF, ← h3]
    exact ⟨rfl, trivial⟩
theorem e_handsFault : pv_handsFault = (fnVC Try.prog (tbl []) an_handCheck Try.f108 sp_handsFault) := by kernel_rfl
theorem vc_handsFault : fnVC Try.prog (tbl []) an_handCheck Try.f108 sp_handsFault := @Eq.mp _ _ @e_handsFault @vcp_handsFault
theorem ok_handsFault : sp_handsFault.ok Try.prog 108 := fn_sound (P := Try.prog) (ss := tbl []) (ann := an_handCheck) (f := 108) (fn := Try.f108) (s := sp_handsFault) tbl_nil Try.func108 @vc_handsFault

def handName (i : Int) (s : Slot) : Int := i + 65536 * s.1
def sp_handName : Spec := { Ts := [ty_I, ty_Slot], Rs := [.dat ty_W], pre := fun ((i, s) : Int × Slot) => 0 ≤ i ∧ i < 65536 ∧ 0 ≤ s.1 ∧ s.1 ≤ 65535, F := fun ((i, s) : Int × Slot) => handName i s }

def sp_rHandName : Spec := sp_handName

theorem slotsFault_zero : ∀ {h : List Slot}, slotsFault h = 0 → ∀ s ∈ h, slotBad s = 0
  | [], _ => by simp
  | x :: l, h => by
    simp only [slotsFault] at h
    split at h
    · omega
    · intro s hs
      rcases List.mem_cons.1 hs with rfl | hs
      · omega
      · exact slotsFault_zero h s hs

theorem handsF_zero {h : List Slot} (hf : handsF h = 0) : h.length ≤ 16 ∧ ∀ s ∈ h, 0 ≤ s.1 ∧ s.1 ≤ 65535 ∧ 0 ≤ s.2.2 ∧ s.2.2 ≤ 255 := by
  unfold handsF at hf
  split at hf
  · omega
  · refine ⟨by omega, fun s hs => ?_⟩
    have := slotsFault_zero hf s hs
    unfold slotBad at this
    split at this <;> omega

/-- The slot of a name. -/
def findF (h : List Slot) (n : Int) : Int × Int :=
  if handsF h ≠ 0 then (0, handsF h) else if n % 65536 < h.length ∧ (h.getD (n % 65536).toNat (0, false, 0)).2.1 = true ∧ handName (n % 65536) (h.getD (n % 65536).toNat (0, false, 0)) = n then (n % 65536, 0) else (0, 9)
def sp_handFind : Spec := { Ts := [.arr ty_Slot, ty_W], Rs := [.dat ty_I, .dat ty_I], pre := fun _ => True, F := fun ((h, n) : List Slot × Int) => findF h n }

def lookF (h : List Slot) (n : Int) : Int × Int := if (findF h n).2 ≠ 0 then (0, (findF h n).2) else ((h.getD (findF h n).1.toNat (0, false, 0)).2.2, 0)
def sp_handLook : Spec := { Ts := [.arr ty_Slot, ty_W], Rs := [.dat ty_I, .dat ty_I], pre := fun _ => True, F := fun ((h, n) : List Slot × Int) => lookF h n }

def closeF (h : List Slot) (n : Int) : List Slot × Int := if (findF h n).2 ≠ 0 then ([], (findF h n).2) else (h.set (findF h n).1.toNat ((h.getD (findF h n).1.toNat (0, false, 0)).1, false, 0), 0)
def sp_handClose : Spec := { Ts := [.arr ty_Slot, ty_W], Rs := [.own 166 ty_Slot, .dat ty_I], pre := fun _ => True, F := fun ((h, n) : List Slot × Int) => closeF h n }

def newHandsF (n : Int) : List Slot × Int := if n < 0 ∨ 16 < n then ([], 4) else (List.replicate n.toNat (0, false, 0), 0)
def sp_handNew : Spec := { Ts := [ty_I], Rs := [.own 166 ty_Slot, .dat ty_I], pre := fun _ => True, F := newHandsF }
def pv_handNew : Prop :=
    ∀ (x : Int), InR IntKind.i64 x → True → ((decide (x < (0 : Int)) || decide ((16 : Int) < x)) = true → ([] : List (Int × Bool × Int)) = (newHandsF x).fst ∧ (4 : Int) = (newHandsF x).snd ∧ True) ∧ ((decide (x < (0 : Int)) || decide ((16 : Int) < x)) = false → (0 : Int) ≤ x ∧ x.toNat * ((8 : Nat) + ((8 : Nat) + (8 : Nat))) ≤ big ∧ List.replicate x.toNat ((0 : Int), false, (0 : Int)) = (newHandsF x).fst ∧ (0 : Int) = (newHandsF x).snd ∧ True)
theorem vcp_handNew : pv_handNew := by
  unfold pv_handNew
  intro n hw _
  simp only [InR, newHandsF, big] at *
  grind
theorem e_handNew : pv_handNew = (fnVC Try.prog (tbl []) an_0 Try.f116 sp_handNew) := by kernel_rfl
theorem vc_handNew : fnVC Try.prog (tbl []) an_0 Try.f116 sp_handNew := @Eq.mp _ _ @e_handNew @vcp_handNew
theorem ok_handNew : sp_handNew.ok Try.prog 116 := fn_sound (P := Try.prog) (ss := tbl []) (ann := an_0) (f := 116) (fn := Try.f116) (s := sp_handNew) tbl_nil Try.func116 @vc_handNew

def opened (h : List Slot) (i at_ : Int) : Slot := ((h.getD i.toNat (0, false, 0)).1 + 1, true, at_)
def openF (h : List Slot) (at_ : Int) : List Slot × Int × Int :=
  if handsF h ≠ 0 then ([], 0, handsF h) else if there at_ = false then ([], 0, 4) else if findFrom freeSlot 0 h < 0 then ([], 0, 7)
  else (h.set (findFrom freeSlot 0 h).toNat (opened h (findFrom freeSlot 0 h) at_), handName (findFrom freeSlot 0 h) (opened h (findFrom freeSlot 0 h) at_), 0)
def an_handOpen : Nat → Option LoopGen
  | 1000003 => some { rd := [.dat 0 (.arr ty_Slot), .dat 1 ty_I], A := fun ((h, at_) : List Slot × Int) => { cs := [.dat 7 ty_I], inv := fun (e : Int) => e = if handsF h ≠ 0 then handsF h else if there at_ = false then 4 else 0, mu := fun _ => 0 } }
  | _ => none
def sp_handOpen : Spec := { Ts := [.arr ty_Slot, ty_I], Rs := [.own 166 ty_Slot, .dat ty_W, .dat ty_I], pre := fun _ => True, F := fun ((h, at_) : List Slot × Int) => openF h at_ }

theorem mapTo_len {α : Type} (f : α → α) (h : List α) (i : Nat) : ((h.take i).map f ++ h.drop i).length = h.length := by simp; omega
theorem mapTo_get {α : Type} (f : α → α) (h : List α) (d : α) (i : Nat) (hi : i < h.length) : ((h.take i).map f ++ h.drop i).getD i d = h.getD i d := by
  simp only [List.getD_eq_getElem?_getD]
  rw [List.getElem?_append_right (by simp; omega)]
  simp [show min i h.length = i by omega]
theorem mapTo_set {α : Type} (f : α → α) (h : List α) (d : α) (i : Nat) (hi : i < h.length) : ((h.take i).map f ++ h.drop i).set i (f (h.getD i d)) = (h.take (i + 1)).map f ++ h.drop (i + 1) := by
  have l1 : ((h.take i).map f).length = i := by simp; omega
  rw [List.set_append_right _ _ (by omega), l1, Nat.sub_self, List.drop_eq_getElem_cons hi, List.set_cons_zero, List.take_succ_eq_append_getElem hi, List.map_append, List.append_assoc]
  simp [hi]
theorem mapTo_keep {α : Type} (f : α → α) (h : List α) (d : α) (i : Nat) (hi : i < h.length) (hf : f (h.getD i d) = h.getD i d) : (h.take i).map f ++ h.drop i = (h.take (i + 1)).map f ++ h.drop (i + 1) := by
  rw [← mapTo_set f h d i hi, hf]
  apply List.ext_getElem?
  intro j
  rw [List.getElem?_set]
  split
  · rename_i e
    subst e
    have := mapTo_get f h d i hi
    rw [if_pos (by rw [mapTo_len]; exact hi)]
    simp only [List.getD_eq_getElem?_getD] at this
    have hl : i < ((h.take i).map f ++ h.drop i).length := by rw [mapTo_len]; exact hi
    rw [List.getElem?_eq_getElem hl] at this ⊢
    simp only [Option.getD_some] at this
    rw [this]
    simp [hi]
  · rfl

def swapSlot (to : List Int) (s : Slot) : Slot := if s.2.1 = true then (s.1, s.2.1, to.getD s.2.2.toNat 0) else s
def swapF (h : List Slot) (to : List Int) : List Slot × Int := if handsF h ≠ 0 then ([], handsF h) else if to.length ≠ 256 then ([], 3) else if (to.any fun v => !there v) = true then ([], 4) else (h.map (swapSlot to), 0)
def sp_handSwap : Spec := { Ts := [.arr ty_Slot, .arr ty_I], Rs := [.own 166 ty_Slot, .dat ty_I], pre := fun _ => True, F := fun ((h, to) : List Slot × List Int) => swapF h to }
def an_handSwap : Nat → Option LoopGen
  | 10 => some { rd := [.dat 0 (.arr ty_Slot), .dat 1 (.arr ty_I)], wr := [7, 25], A := fun ((h, to) : List Slot × List Int) => { cs := [.own 7 166 ty_Slot, .same 25 7, .dat 27 ty_I], inv := fun ((out, _, i) : List Slot × Unit × Int) => 0 ≤ i ∧ i ≤ h.length ∧ handsF h = 0 ∧ to.length = 256 ∧ out = (h.take i.toNat).map (swapSlot to) ++ h.drop i.toNat, mu := fun ((_, _, i) : List Slot × Unit × Int) => (h.length - i).toNat } }
  | 1000013 => some { rd := [.dat 0 (.arr ty_Slot), .dat 1 (.arr ty_I), .dat 27 ty_I], wr := [7, 25], A := fun ((h, to, i) : List Slot × List Int × Int) => { cs := [.own 7 166 ty_Slot, .same 25 7], inv := fun ((out, _) : List Slot × Unit) => out = (h.take (i.toNat + 1)).map (swapSlot to) ++ h.drop (i.toNat + 1), mu := fun _ => 0 } }
  | _ => none

def liveFrom : Int → List Slot → List Int
  | _, [] => []
  | k, s :: l => if s.2.1 = true then handName k s :: liveFrom (k + 1) l else liveFrom (k + 1) l
def liveF (h : List Slot) : List Int × Int := if handsF h ≠ 0 then ([], handsF h) else (liveFrom 0 h, 0)
def sp_handLive : Spec := { Ts := [.arr ty_Slot], Rs := [.own 46 ty_W, .dat ty_I], pre := fun _ => True, F := liveF }
def an_handLive : Nat → Option LoopGen
  | 6 => some { rd := [.dat 13 (.arr ty_Slot)], A := fun (h : List Slot) => { cs := [.own 5 46 ty_W, .dat 15 ty_I], inv := fun ((out, i) : List Int × Int) => 0 ≤ i ∧ i ≤ h.length ∧ handsF h = 0 ∧ out.length ≤ i ∧ out ++ liveFrom i (h.drop i.toNat) = liveFrom 0 h, mu := fun ((_, i) : List Int × Int) => (h.length - i).toNat } }
  | _ => none

def sp_sameHands : Spec := { Ts := [.arr ty_Slot, .arr ty_Slot], Rs := [.dat .bool], pre := fun _ => True, F := fun (x : List Slot × List Slot) => decide (x.1 = x.2) }
def an_sameHands : Nat → Option LoopGen
  | 4 => some { rd := [.dat 0 (.arr ty_Slot), .dat 1 (.arr ty_Slot)], A := fun (g : List Slot × List Slot) => { cs := [.dat 13 ty_I], inv := fun (i : Int) => g.1.length = g.2.length ∧ 0 ≤ i ∧ i ≤ g.1.length ∧ g.1.take i.toNat = g.2.take i.toNat, mu := fun (i : Int) => (g.1.length - i).toNat } }
  | _ => none
def pv_sameHands : Prop :=
    ∀ (x : List (Int × Bool × Int) × List (Int × Bool × Int)), ((x.fst.length * ((8 : Nat) + ((8 : Nat) + (8 : Nat))) ≤ big ∧ ∀ (x_1 : Int × Bool × Int), x_1 ∈ x.fst → InR IntKind.i64 x_1.fst ∧ True ∧ InR IntKind.i64 x_1.snd.snd) ∧ x.snd.length * ((8 : Nat) + ((8 : Nat) + (8 : Nat))) ≤ big ∧ ∀ (x_1 : Int × Bool × Int), x_1 ∈ x.snd → InR IntKind.i64 x_1.fst ∧ True ∧ InR IntKind.i64 x_1.snd.snd) → True → (decide ((↑x.fst.length : Int) ≠ (↑x.snd.length : Int)) = true → false = decide (x.fst = x.snd) ∧ True) ∧ (decide ((↑x.fst.length : Int) ≠ (↑x.snd.length : Int)) = false → (x.fst.length = x.snd.length ∧ (0 : Int) ≤ (0 : Int) ∧ (0 : Int) ≤ (↑x.fst.length : Int) ∧ List.take (Int.toNat (0 : Int)) x.fst = List.take (Int.toNat (0 : Int)) x.snd) ∧ ∀ (x_1 : Int), x.fst.length = x.snd.length ∧ (0 : Int) ≤ x_1 ∧ x_1 ≤ (↑x.fst.length : Int) ∧ List.take x_1.toNat x.fst = List.take x_1.toNat x.snd → (decide (x_1 < (↑x.fst.length : Int)) = true → (0 : Int) ≤ x_1 ∧ x_1 < (↑x.fst.length : Int) ∧ (0 : Int) ≤ x_1 ∧ x_1 < (↑x.snd.length : Int) ∧ ((!(decide ((x.fst.getD x_1.toNat ((0 : Int), false, (0 : Int))).fst = (x.snd.getD x_1.toNat ((0 : Int), false, (0 : Int))).fst) && ((x.fst.getD x_1.toNat ((0 : Int), false, (0 : Int))).snd.fst == (x.snd.getD x_1.toNat ((0 : Int), false, (0 : Int))).snd.fst && decide ((x.fst.getD x_1.toNat ((0 : Int), false, (0 : Int))).snd.snd = (x.snd.getD x_1.toNat ((0 : Int), false, (0 : Int))).snd.snd)))) = true → false = decide (x.fst = x.snd) ∧ True) ∧ ((!(decide ((x.fst.getD x_1.toNat ((0 : Int), false, (0 : Int))).fst = (x.snd.getD x_1.toNat ((0 : Int), false, (0 : Int))).fst) && ((x.fst.getD x_1.toNat ((0 : Int), false, (0 : Int))).snd.fst == (x.snd.getD x_1.toNat ((0 : Int), false, (0 : Int))).snd.fst && decide ((x.fst.getD x_1.toNat ((0 : Int), false, (0 : Int))).snd.snd = (x.snd.getD x_1.toNat ((0 : Int), false, (0 : Int))).snd.snd)))) = false → InR IntKind.i64 (x_1 + (1 : Int)) ∧ (x.fst.length = x.snd.length ∧ (0 : Int) ≤ x_1 + (1 : Int) ∧ x_1 + (1 : Int) ≤ (↑x.fst.length : Int) ∧ List.take (x_1 + (1 : Int)).toNat x.fst = List.take (x_1 + (1 : Int)).toNat x.snd) ∧ ((↑x.fst.length : Int) - (x_1 + (1 : Int))).toNat < ((↑x.fst.length : Int) - x_1).toNat)) ∧ (decide (x_1 < (↑x.fst.length : Int)) = false → true = decide (x.fst = x.snd) ∧ True))
theorem vcp_sameHands : pv_sameHands := by
  unfold pv_sameHands
  intro ⟨a, b⟩ ⟨⟨hb, _⟩, _⟩ _
  unfold big at hb
  simp only at *
  refine ⟨fun h => ?_, fun h => ?_⟩
  · have h : a.length ≠ b.length := by have := of_decide_eq_true h; omega
    have : a ≠ b := fun e => h (by rw [e])
    simp [this]
  have hl : a.length = b.length := by have := of_decide_eq_false h; omega
  refine ⟨⟨hl, by omega, by omega, by simp⟩, fun i ⟨_, h0, h1, ht⟩ => ⟨fun hlt => ?_, fun hge => ?_⟩⟩
  · have hlt : i < a.length := by simpa using hlt
    have key : ∀ s t : Slot, (!(decide (s.1 = t.1) && (s.2.1 == t.2.1 && decide (s.2.2 = t.2.2)))) = decide (s ≠ t) := by
      rintro ⟨s1, s2, s3⟩ ⟨t1, t2, t3⟩
      simp only [ne_eq, Prod.mk.injEq]
      by_cases e1 : s1 = t1 <;> by_cases e2 : s2 = t2 <;> by_cases e3 : s3 = t3 <;> simp [e1, e2, e3]
    simp only [key]
    refine ⟨h0, hlt, h0, by omega, fun hne => ?_, fun he => ?_⟩
    · have hne : a.getD i.toNat (0, false, 0) ≠ b.getD i.toNat (0, false, 0) := of_decide_eq_true hne
      have : a ≠ b := fun e => hne (by rw [e])
      simp [this]
    · have he : a.getD i.toNat (0, false, 0) = b.getD i.toNat (0, false, 0) := Classical.not_not.1 (of_decide_eq_false he)
      refine ⟨by simp only [InR]; omega, ⟨hl, by omega, by omega, ?_⟩, by omega⟩
      rw [show (i + 1).toNat = i.toNat + 1 by omega]
      exact take_step hl (by omega) ht he
  · have hge : ¬ i < a.length := by simpa using hge
    have hi : i.toNat = a.length := by omega
    rw [hi, List.take_of_length_le (Nat.le_refl _), List.take_of_length_le (by omega)] at ht
    simp [ht]
theorem e_sameHands : pv_sameHands = (fnVC Try.prog (tbl []) an_sameHands Try.f115 sp_sameHands) := by kernel_rfl
theorem vc_sameHands : fnVC Try.prog (tbl []) an_sameHands Try.f115 sp_sameHands := @Eq.mp _ _ @e_sameHands @vcp_sameHands
theorem ok_sameHands : sp_sameHands.ok Try.prog 115 := fn_sound (P := Try.prog) (ss := tbl []) (ann := an_sameHands) (f := 115) (fn := Try.f115) (s := sp_sameHands) tbl_nil Try.func115 @vc_sameHands

def handOfFrom (n : Int) : Int → List Slot → Int
  | _, [] => -1
  | k, s :: l => if s.2.1 = true ∧ handName k s = n then k else handOfFrom n (k + 1) l
def sp_handOf : Spec := { Ts := [.arr ty_Slot, ty_W], Rs := [.dat ty_I], pre := fun ((h, _) : List Slot × Int) => handsF h = 0, F := fun ((h, n) : List Slot × Int) => handOfFrom n 0 h }
def an_handOf : Nat → Option LoopGen
  | 2 => some { rd := [.dat 7 (.arr ty_Slot), .dat 1 ty_W], A := fun ((h, n) : List Slot × Int) => { cs := [.dat 9 ty_I], inv := fun (i : Int) => 0 ≤ i ∧ i ≤ h.length ∧ handsF h = 0 ∧ handOfFrom n i (h.drop i.toNat) = handOfFrom n 0 h, mu := fun (i : Int) => (h.length - i).toNat } }
  | _ => none

end Go.Proofs.Ytbidboeemnlglaa
