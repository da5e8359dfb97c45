/- Contracts of package hand and of what the reference says of hands; and the law HandTells. -/
import Derived.Test.YtjkmfgneonifeaaWords
namespace Go.Proofs.Ytjkmfgneonifeaa
open Go
set_option maxRecDepth 100000
set_option maxHeartbeats 1000000

abbrev ty_Slot : Ty := .pair ty_I (.pair .bool ty_I)
abbrev Slot := Int × Bool × Int

/-- The place, from k on, of the first that is so; -1: there is none. -/
def findFrom {α : Type} (f : α → Bool) : Int → List α → Int
  | _, [] => -1
  | k, x :: l => if f x then k else findFrom f (k + 1) l

theorem findFrom_range {α : Type} (f : α → Bool) : ∀ (l : List α) (k : Int), findFrom f k l = -1 ∨ (k ≤ findFrom f k l ∧ findFrom f k l < k + l.length)
  | [], _ => .inl rfl
  | x :: l, k => by
    have ih := findFrom_range f l (k + 1)
    simp only [findFrom, List.length_cons]
    split
    · right; omega
    · rcases ih with h | h
      · exact .inl h
      · right; omega

theorem findFrom_lt {α : Type} (f : α → Bool) (_ : α) (l : List α) (k : Int) (_ : 0 ≤ k) : findFrom f k l < k + l.length := by
  rcases findFrom_range f l k with h | h <;> omega

theorem findFrom_is {α : Type} (f : α → Bool) (d : α) : ∀ (l : List α) (k : Int), 0 ≤ findFrom f k l → 0 ≤ k → f (l.getD (findFrom f k l - k).toNat d) = true
  | [], _, h, _ => by simp [findFrom] at h
  | x :: l, k, h, hk => by
    have hr := findFrom_range f l (k + 1)
    have ih := findFrom_is f d l (k + 1)
    simp only [findFrom] at h ⊢
    split at h
    · rename_i hx
      rw [if_pos hx]
      simpa using hx
    · rename_i hx
      rw [if_neg hx]
      have := ih h (by omega)
      rw [show (findFrom f (k + 1) l - k).toNat = (findFrom f (k + 1) l - (k + 1)).toNat + 1 by omega]
      simpa using this

theorem findFrom_any {α : Type} (f : α → Bool) : ∀ (l : List α) (k : Int), 0 ≤ k → (decide (0 ≤ findFrom f k l) = l.any f)
  | [], _, _ => rfl
  | x :: l, k, h => by
    have ih := findFrom_any f l (k + 1) (by omega)
    simp only [findFrom, List.any_cons]
    by_cases hx : f x = true
    · simp [hx, h]
    · have hx : f x = false := by simpa using hx
      simp only [hx, Bool.false_eq_true, if_false, Bool.false_or]
      exact ih

def sp_idxSlot : Spec := { Ts := [.arr ty_Slot, .fn ty_Slot .bool], Rs := [.dat ty_I], pre := fun ((l, g) : List Slot × (Slot → Prop) × (Slot → Bool)) => ∀ s ∈ l, g.1 s, F := fun ((l, g) : List Slot × (Slot → Prop) × (Slot → Bool)) => findFrom g.2 0 l }
def an_idxSlot : Nat → Option LoopGen
  | 2 => some { rd := [.dat 0 (.arr ty_Slot), .dat 1 (.fn ty_Slot .bool)], A := fun ((l, g) : List Slot × (Slot → Prop) × (Slot → Bool)) => { cs := [.dat 8 ty_I], inv := fun (i : Int) => 0 ≤ i ∧ i ≤ l.length ∧ findFrom g.2 i (l.drop i.toNat) = findFrom g.2 0 l, mu := fun (i : Int) => (l.length - i).toNat } }
  | _ => none
def pv_idxSlot : Prop :=
    ∀ (x : List (Int × Bool × Int) × (Int × Bool × Int → Prop) × (Int × Bool × Int → Bool)),
  (x.fst.length * ((8 : Nat) + ((8 : Nat) + (8 : Nat))) ≤ big ∧
        ∀ (x_1 : Int × Bool × Int), x_1 ∈ x.fst → InR IntKind.i64 x_1.fst ∧ True ∧ InR IntKind.i64 x_1.snd.snd) ∧
      True →
    (∀ (s : Slot), s ∈ x.fst → x.snd.fst s) →
      ((0 : Int) ≤ (0 : Int) ∧
          (0 : Int) ≤ (↑x.fst.length : Int) ∧
            findFrom x.snd.snd (0 : Int) (List.drop (Int.toNat (0 : Int)) x.fst) = findFrom x.snd.snd (0 : Int) x.fst) ∧
        ∀ (x_1 : Int),
          (0 : Int) ≤ x_1 ∧
              x_1 ≤ (↑x.fst.length : Int) ∧
                findFrom x.snd.snd x_1 (List.drop x_1.toNat x.fst) = findFrom x.snd.snd (0 : Int) x.fst →
            (decide (x_1 < (↑x.fst.length : Int)) = true →
                (0 : Int) ≤ x_1 ∧
                  x_1 < (↑x.fst.length : Int) ∧
                    x.snd.fst (x.fst.getD x_1.toNat ((0 : Int), false, (0 : Int))) ∧
                      (x.snd.snd (x.fst.getD x_1.toNat ((0 : Int), false, (0 : Int))) = true →
                          x_1 = findFrom x.snd.snd (0 : Int) x.fst ∧ True) ∧
                        (x.snd.snd (x.fst.getD x_1.toNat ((0 : Int), false, (0 : Int))) = false →
                          InR IntKind.i64 (x_1 + (1 : Int)) ∧
                            ((0 : Int) ≤ x_1 + (1 : Int) ∧
                                x_1 + (1 : Int) ≤ (↑x.fst.length : Int) ∧
                                  findFrom x.snd.snd (x_1 + (1 : Int)) (List.drop (x_1 + (1 : Int)).toNat x.fst) =
                                    findFrom x.snd.snd (0 : Int) x.fst) ∧
                              ((↑x.fst.length : Int) - (x_1 + (1 : Int))).toNat <
                                ((↑x.fst.length : Int) - x_1).toNat)) ∧
              (decide (x_1 < (↑x.fst.length : Int)) = false →
                (-1 : Int) = findFrom x.snd.snd (0 : Int) x.fst ∧ True)
theorem vcp_idxSlot : pv_idxSlot := by
  unfold pv_idxSlot
  intro ⟨l, g⟩ ⟨⟨hl, _⟩, _⟩ hp
  unfold big at *
  refine ⟨⟨by omega, by omega, by simp⟩, fun i ⟨h0, h1, h2⟩ => ⟨fun hlt => ?_, fun hge => ?_⟩⟩
  · have hlt : i < (l.length : Int) := by simpa using hlt
    have e := drop_cons ((0, false, 0) : Slot) h0 hlt
    have hm := hp _ (getD_mem ((0, false, 0) : Slot) h0 hlt)
    simp only at *
    rw [e] at h2
    simp only [findFrom] at h2
    refine ⟨h0, hlt, hm, fun hc => ?_, fun hc => ?_⟩
    · rw [if_pos hc] at h2
      exact ⟨h2, trivial⟩
    · rw [if_neg (by rw [hc]; simp)] at h2
      exact ⟨by simp only [InR]; omega, ⟨by omega, by omega, h2⟩, by omega⟩
  · rw [drop_end (by simpa using hge)] at h2
    exact ⟨h2, trivial⟩
theorem e_idxSlot : pv_idxSlot = fnVC Try.prog (tbl []) an_idxSlot Try.f77 sp_idxSlot := by kernel_rfl
theorem vc_idxSlot : fnVC Try.prog (tbl []) an_idxSlot Try.f77 sp_idxSlot := @Eq.mp _ _ @e_idxSlot @vcp_idxSlot
theorem ok_idxSlot : sp_idxSlot.ok Try.prog 77 := fn_sound (P := Try.prog) (ss := tbl []) (ann := an_idxSlot) (f := 77) (fn := Try.f77) (s := sp_idxSlot) tbl_nil Try.func77 @vc_idxSlot

def sp_idxInt : Spec := { Ts := [.arr ty_I, .fn ty_I .bool], Rs := [.dat ty_I], pre := fun ((l, g) : List Int × (Int → Prop) × (Int → Bool)) => ∀ s ∈ l, g.1 s, F := fun ((l, g) : List Int × (Int → Prop) × (Int → Bool)) => findFrom g.2 0 l }
def an_idxInt : Nat → Option LoopGen
  | 2 => some { rd := [.dat 0 (.arr ty_I), .dat 1 (.fn ty_I .bool)], A := fun ((l, g) : List Int × (Int → Prop) × (Int → Bool)) => { cs := [.dat 8 ty_I], inv := fun (i : Int) => 0 ≤ i ∧ i ≤ l.length ∧ findFrom g.2 i (l.drop i.toNat) = findFrom g.2 0 l, mu := fun (i : Int) => (l.length - i).toNat } }
  | _ => none
def pv_idxInt : Prop :=
    ∀ (x : List Int × (Int → Prop) × (Int → Bool)),
  (x.fst.length * (8 : Nat) ≤ big ∧ ∀ (x_1 : Int), x_1 ∈ x.fst → InR IntKind.i64 x_1) ∧ True →
    (∀ (s : Int), s ∈ x.fst → x.snd.fst s) →
      ((0 : Int) ≤ (0 : Int) ∧
          (0 : Int) ≤ (↑x.fst.length : Int) ∧
            findFrom x.snd.snd (0 : Int) (List.drop (Int.toNat (0 : Int)) x.fst) = findFrom x.snd.snd (0 : Int) x.fst) ∧
        ∀ (x_1 : Int),
          (0 : Int) ≤ x_1 ∧
              x_1 ≤ (↑x.fst.length : Int) ∧
                findFrom x.snd.snd x_1 (List.drop x_1.toNat x.fst) = findFrom x.snd.snd (0 : Int) x.fst →
            (decide (x_1 < (↑x.fst.length : Int)) = true →
                (0 : Int) ≤ x_1 ∧
                  x_1 < (↑x.fst.length : Int) ∧
                    x.snd.fst (x.fst.getD x_1.toNat (0 : Int)) ∧
                      (x.snd.snd (x.fst.getD x_1.toNat (0 : Int)) = true →
                          x_1 = findFrom x.snd.snd (0 : Int) x.fst ∧ True) ∧
                        (x.snd.snd (x.fst.getD x_1.toNat (0 : Int)) = false →
                          InR IntKind.i64 (x_1 + (1 : Int)) ∧
                            ((0 : Int) ≤ x_1 + (1 : Int) ∧
                                x_1 + (1 : Int) ≤ (↑x.fst.length : Int) ∧
                                  findFrom x.snd.snd (x_1 + (1 : Int)) (List.drop (x_1 + (1 : Int)).toNat x.fst) =
                                    findFrom x.snd.snd (0 : Int) x.fst) ∧
                              ((↑x.fst.length : Int) - (x_1 + (1 : Int))).toNat <
                                ((↑x.fst.length : Int) - x_1).toNat)) ∧
              (decide (x_1 < (↑x.fst.length : Int)) = false →
                (-1 : Int) = findFrom x.snd.snd (0 : Int) x.fst ∧ True)
theorem vcp_idxInt : pv_idxInt := by
  unfold pv_idxInt
  intro ⟨l, g⟩ ⟨⟨hl, _⟩, _⟩ hp
  unfold big at *
  refine ⟨⟨by omega, by omega, by simp⟩, fun i ⟨h0, h1, h2⟩ => ⟨fun hlt => ?_, fun hge => ?_⟩⟩
  · have hlt : i < (l.length : Int) := by simpa using hlt
    have e := drop_cons (0 : Int) h0 hlt
    have hm := hp _ (getD_mem (0 : Int) h0 hlt)
    simp only at *
    rw [e] at h2
    simp only [findFrom] at h2
    refine ⟨h0, hlt, hm, fun hc => ?_, fun hc => ?_⟩
    · rw [if_pos hc] at h2
      exact ⟨h2, trivial⟩
    · rw [if_neg (by rw [hc]; simp)] at h2
      exact ⟨by simp only [InR]; omega, ⟨by omega, by omega, h2⟩, by omega⟩
  · rw [drop_end (by simpa using hge)] at h2
    exact ⟨h2, trivial⟩
theorem e_idxInt : pv_idxInt = fnVC Try.prog (tbl []) an_idxInt Try.f82 sp_idxInt := by kernel_rfl
theorem vc_idxInt : fnVC Try.prog (tbl []) an_idxInt Try.f82 sp_idxInt := @Eq.mp _ _ @e_idxInt @vcp_idxInt
theorem ok_idxInt : sp_idxInt.ok Try.prog 82 := fn_sound (P := Try.prog) (ss := tbl []) (ann := an_idxInt) (f := 82) (fn := Try.f82) (s := sp_idxInt) tbl_nil Try.func82 @vc_idxInt

def sp_anyInt : Spec := { Ts := [.arr ty_I, .fn ty_I .bool], Rs := [.dat .bool], pre := fun ((l, g) : List Int × (Int → Prop) × (Int → Bool)) => ∀ s ∈ l, g.1 s, F := fun ((l, g) : List Int × (Int → Prop) × (Int → Bool)) => l.any g.2 }
def pv_anyInt : Prop :=
    ∀ (x : List Int × (Int → Prop) × (Int → Bool)),
  (x.fst.length * (8 : Nat) ≤ big ∧ ∀ (x_1 : Int), x_1 ∈ x.fst → InR IntKind.i64 x_1) ∧ True →
    (∀ (s : Int), s ∈ x.fst → x.snd.fst s) →
      (∀ (s : Int), s ∈ x.fst → x.snd.fst s) ∧
        decide ((0 : Int) ≤ findFrom x.snd.snd (0 : Int) x.fst) = x.fst.any x.snd.snd ∧ True
theorem vcp_anyInt : pv_anyInt := by
  unfold pv_anyInt
  intro ⟨l, g⟩ _ hp
  exact ⟨hp, findFrom_any g.2 l 0 (by omega), trivial⟩
theorem e_anyInt : pv_anyInt = fnVC Try.prog (tbl [(82, sp_idxInt)]) an_0 Try.f53 sp_anyInt := by kernel_rfl
theorem vc_anyInt : fnVC Try.prog (tbl [(82, sp_idxInt)]) an_0 Try.f53 sp_anyInt := @Eq.mp _ _ @e_anyInt @vcp_anyInt
theorem ok_anyInt : sp_anyInt.ok Try.prog 53 := fn_sound (P := Try.prog) (ss := tbl [(82, sp_idxInt)]) (ann := an_0) (f := 53) (fn := Try.f53) (s := sp_anyInt) (tbl_cons ok_idxInt tbl_nil) Try.func53 @vc_anyInt

def sp_cloneHands : Spec := { Ts := [.arr ty_Slot], Rs := [.own 88 ty_Slot], pre := fun _ => True, F := fun (x : List Slot) => x }
def pv_cloneHands : Prop :=
    ∀ (x : List (Int × Bool × Int)),
  (x.length * ((8 : Nat) + ((8 : Nat) + (8 : Nat))) ≤ big ∧
      ∀ (x_1 : Int × Bool × Int), x_1 ∈ x → InR IntKind.i64 x_1.fst ∧ True ∧ InR IntKind.i64 x_1.snd.snd) →
    True →
      (x = [] → [] = x ∧ True) ∧
        (True → ((0 : Nat) + x.length) * ((8 : Nat) + ((8 : Nat) + (8 : Nat))) ≤ big ∧ [] ++ x = x ∧ True)
theorem vcp_cloneHands : pv_cloneHands := by
  unfold pv_cloneHands
  intro x ⟨hb, _⟩ _
  simp [hb]
theorem e_cloneHands : pv_cloneHands = fnVC Try.prog (tbl []) an_0 Try.f51 sp_cloneHands := by kernel_rfl
theorem vc_cloneHands : fnVC Try.prog (tbl []) an_0 Try.f51 sp_cloneHands := @Eq.mp _ _ @e_cloneHands @vcp_cloneHands
theorem ok_cloneHands : sp_cloneHands.ok Try.prog 51 := fn_sound (P := Try.prog) (ss := tbl []) (ann := an_0) (f := 51) (fn := Try.f51) (s := sp_cloneHands) tbl_nil Try.func51 @vc_cloneHands

def there (v : Int) : Bool := decide (0 ≤ v) && decide (v < 256)
def sp_handThere : Spec := { Ts := [ty_I], Rs := [.dat .bool], pre := fun _ => True, F := there }
def pv_handThere : Prop :=
    ∀ (x : Int),
  InR IntKind.i64 x → True → (decide ((0 : Int) ≤ x) && decide (x < (256 : Int))) = there x ∧ True
theorem vcp_handThere : pv_handThere := by
  unfold pv_handThere
  intro v _ _
  simp [there]
theorem e_handThere : pv_handThere = fnVC Try.prog (tbl []) an_0 Try.f76 sp_handThere := by kernel_rfl
theorem vc_handThere : fnVC Try.prog (tbl []) an_0 Try.f76 sp_handThere := @Eq.mp _ _ @e_handThere @vcp_handThere
theorem ok_handThere : sp_handThere.ok Try.prog 76 := fn_sound (P := Try.prog) (ss := tbl []) (ann := an_0) (f := 76) (fn := Try.f76) (s := sp_handThere) tbl_nil Try.func76 @vc_handThere

def sp_notThere : Spec := { Ts := [ty_I], Rs := [.dat .bool], pre := fun _ => True, F := fun (v : Int) => !there v }
def pv_notThere : Prop :=
    ∀ (x : Int), InR IntKind.i64 x → True → True ∧ (!there x) = !there x ∧ True
theorem vcp_notThere : pv_notThere := by
  unfold pv_notThere
  intro v _ _
  simp
theorem e_notThere : pv_notThere = fnVC Try.prog (tbl [(76, sp_handThere)]) an_0 Try.f81 sp_notThere := by kernel_rfl
theorem vc_notThere : fnVC Try.prog (tbl [(76, sp_handThere)]) an_0 Try.f81 sp_notThere := @Eq.mp _ _ @e_notThere @vcp_notThere
theorem ok_notThere : sp_notThere.ok Try.prog 81 := fn_sound (P := Try.prog) (ss := tbl [(76, sp_handThere)]) (ann := an_0) (f := 81) (fn := Try.f81) (s := sp_notThere) (tbl_cons ok_handThere tbl_nil) Try.func81 @vc_notThere

def sp_outside : Spec := { Ts := [ty_I], Rs := [.dat .bool], pre := fun _ => True, F := fun (v : Int) => decide (v < 0) || decide (255 < v) }
def pv_outside : Prop :=
    ∀ (x : Int),
  InR IntKind.i64 x →
    True →
      (decide (x < (0 : Int)) || decide ((255 : Int) < x)) = (decide (x < (0 : Int)) || decide ((255 : Int) < x)) ∧
        True
theorem vcp_outside : pv_outside := by
  unfold pv_outside
  intro v _ _
  simp
theorem e_outside : pv_outside = fnVC Try.prog (tbl []) an_0 Try.f54 sp_outside := by kernel_rfl
theorem vc_outside : fnVC Try.prog (tbl []) an_0 Try.f54 sp_outside := @Eq.mp _ _ @e_outside @vcp_outside
theorem ok_outside : sp_outside.ok Try.prog 54 := fn_sound (P := Try.prog) (ss := tbl []) (ann := an_0) (f := 54) (fn := Try.f54) (s := sp_outside) tbl_nil Try.func54 @vc_outside

def freeSlot (s : Slot) : Bool := !s.2.1 && decide (s.1 < 65535)
def sp_freeSlot : Spec := { Ts := [ty_Slot], Rs := [.dat .bool], pre := fun _ => True, F := freeSlot }
def pv_freeSlot : Prop :=
    ∀ (x : Int × Bool × Int),
  InR IntKind.i64 x.fst ∧ True ∧ InR IntKind.i64 x.snd.snd →
    True → (!x.snd.fst && decide (x.fst < (65535 : Int))) = freeSlot x ∧ True
theorem vcp_freeSlot : pv_freeSlot := by
  unfold pv_freeSlot
  intro s _ _
  simp [freeSlot]
theorem e_freeSlot : pv_freeSlot = fnVC Try.prog (tbl []) an_0 Try.f78 sp_freeSlot := by kernel_rfl
theorem vc_freeSlot : fnVC Try.prog (tbl []) an_0 Try.f78 sp_freeSlot := @Eq.mp _ _ @e_freeSlot @vcp_freeSlot
theorem ok_freeSlot : sp_freeSlot.ok Try.prog 78 := fn_sound (P := Try.prog) (ss := tbl []) (ann := an_0) (f := 78) (fn := Try.f78) (s := sp_freeSlot) tbl_nil Try.func78 @vc_freeSlot

def slotBad (s : Slot) : Int := if s.1 < 0 ∨ 65535 < s.1 ∨ s.2.2 < 0 ∨ 255 < s.2.2 then 4 else if (s.2.1 = true ∧ s.1 = 0) ∨ (s.2.1 = false ∧ s.2.2 ≠ 0) then 3 else 0
def slotsFault : List Slot → Int
  | [] => 0
  | s :: l => if slotBad s ≠ 0 then slotBad s else slotsFault l
def handsF (h : List Slot) : Int := if 16 < h.length then 2 else slotsFault h

def sp_handCheck : Spec := { Ts := [.arr ty_Slot], Rs := [.dat ty_I], pre := fun _ => True, F := handsF }
def an_handCheck : Nat → Option LoopGen
  | 4 => some { rd := [.dat 8 (.arr ty_Slot)], A := fun (h : List Slot) => { cs := [.dat 10 ty_I], inv := fun (i : Int) => 0 ≤ i ∧ i ≤ h.length ∧ h.length ≤ 16 ∧ slotsFault (h.drop i.toNat) = slotsFault h, mu := fun (i : Int) => (h.length - i).toNat } }
  | _ => none
def pv_handCheck : Prop :=
    ∀ (x : List (Int × Bool × Int)),
  (x.length * ((8 : Nat) + ((8 : Nat) + (8 : Nat))) ≤ big ∧
      ∀ (x_1 : Int × Bool × Int), x_1 ∈ x → InR IntKind.i64 x_1.fst ∧ True ∧ InR IntKind.i64 x_1.snd.snd) →
    True →
      (decide ((16 : Int) < (↑x.length : Int)) = true → (2 : Int) = handsF x ∧ True) ∧
        (decide ((16 : Int) < (↑x.length : Int)) = false →
          ((0 : Int) ≤ (0 : Int) ∧
              (0 : Int) ≤ (↑x.length : Int) ∧
                x.length ≤ (16 : Nat) ∧ slotsFault (List.drop (Int.toNat (0 : Int)) x) = slotsFault x) ∧
            ∀ (x_1 : Int),
              (0 : Int) ≤ x_1 ∧
                  x_1 ≤ (↑x.length : Int) ∧ x.length ≤ (16 : Nat) ∧ slotsFault (List.drop x_1.toNat x) = slotsFault x →
                (decide (x_1 < (↑x.length : Int)) = true →
                    (0 : Int) ≤ x_1 ∧
                      x_1 < (↑x.length : Int) ∧
                        ((decide ((x.getD x_1.toNat ((0 : Int), false, (0 : Int))).fst < (0 : Int)) ||
                                decide ((65535 : Int) < (x.getD x_1.toNat ((0 : Int), false, (0 : Int))).fst)) =
                              false →
                            True) ∧
                          ((decide ((x.getD x_1.toNat ((0 : Int), false, (0 : Int))).fst < (0 : Int)) ||
                                    decide ((65535 : Int) < (x.getD x_1.toNat ((0 : Int), false, (0 : Int))).fst) ||
                                  !there (x.getD x_1.toNat ((0 : Int), false, (0 : Int))).snd.snd) =
                                true →
                              (4 : Int) = handsF x ∧ True) ∧
                            ((decide ((x.getD x_1.toNat ((0 : Int), false, (0 : Int))).fst < (0 : Int)) ||
                                    decide ((65535 : Int) < (x.getD x_1.toNat ((0 : Int), false, (0 : Int))).fst) ||
                                  !there (x.getD x_1.toNat ((0 : Int), false, (0 : Int))).snd.snd) =
                                false →
                              (((x.getD x_1.toNat ((0 : Int), false, (0 : Int))).snd.fst &&
                                        decide ((x.getD x_1.toNat ((0 : Int), false, (0 : Int))).fst = (0 : Int)) ||
                                      !(x.getD x_1.toNat ((0 : Int), false, (0 : Int))).snd.fst &&
                                        decide ((x.getD x_1.toNat ((0 : Int), false, (0 : Int))).snd.snd ≠ (0 : Int))) =
                                    true →
                                  (3 : Int) = handsF x ∧ True) ∧
                                (((x.getD x_1.toNat ((0 : Int), false, (0 : Int))).snd.fst &&
                                        decide ((x.getD x_1.toNat ((0 : Int), false, (0 : Int))).fst = (0 : Int)) ||
                                      !(x.getD x_1.toNat ((0 : Int), false, (0 : Int))).snd.fst &&
                                        decide ((x.getD x_1.toNat ((0 : Int), false, (0 : Int))).snd.snd ≠ (0 : Int))) =
                                    false →
                                  InR IntKind.i64 (x_1 + (1 : Int)) ∧
                                    ((0 : Int) ≤ x_1 + (1 : Int) ∧
                                        x_1 + (1 : Int) ≤ (↑x.length : Int) ∧
                                          x.length ≤ (16 : Nat) ∧
                                            slotsFault (List.drop (x_1 + (1 : Int)).toNat x) = slotsFault x) ∧
                                      ((↑x.length : Int) - (x_1 + (1 : Int))).toNat <
                                        ((↑x.length : Int) - x_1).toNat))) ∧
                  (decide (x_1 < (↑x.length : Int)) = false → (0 : Int) = handsF x ∧ True))
theorem vcp_handCheck : pv_handCheck := by
  unfold pv_handCheck
  intro h ⟨hb, hw⟩ _
  unfold big at *
  refine ⟨fun hl => ?_, fun hl => ⟨⟨by omega, by omega, by have := of_decide_eq_false hl; omega, by simp⟩, fun i ⟨h0, h1, h2, h3⟩ => ⟨fun hlt => ?_, fun hge => ?_⟩⟩⟩
  · have := of_decide_eq_true hl
    unfold handsF
    rw [if_pos (by omega)]
    exact ⟨rfl, trivial⟩
  · have hlt : i < (h.length : Int) := by simpa using hlt
    have e := drop_cons ((0, false, 0) : Slot) h0 hlt
    have hF : handsF h = slotsFault h := by unfold handsF; rw [if_neg (by omega)]
    rw [hF, ← h3, e]
    simp only [slotsFault, slotBad, there, InR]
    generalize h.getD i.toNat (0, false, 0) = s at *
    obtain ⟨g, o, a⟩ := s
    simp only
    cases o <;> grind
  · have hF : handsF h = slotsFault h := by unfold handsF; rw [if_neg (by omega)]
    rw [drop_end (by simpa using hge)] at h3
    rw [hF, ← h3]
    exact ⟨rfl, trivial⟩
theorem e_handCheck : pv_handCheck = fnVC Try.prog (tbl [(76, sp_handThere)]) an_handCheck Try.f49 sp_handCheck := by kernel_rfl
theorem vc_handCheck : fnVC Try.prog (tbl [(76, sp_handThere)]) an_handCheck Try.f49 sp_handCheck := @Eq.mp _ _ @e_handCheck @vcp_handCheck
theorem ok_handCheck : sp_handCheck.ok Try.prog 49 := fn_sound (P := Try.prog) (ss := tbl [(76, sp_handThere)]) (ann := an_handCheck) (f := 49) (fn := Try.f49) (s := sp_handCheck) (tbl_cons ok_handThere tbl_nil) Try.func49 @vc_handCheck

def sp_handsFault : Spec := sp_handCheck
def pv_handsFault : Prop :=
    ∀ (x : List (Int × Bool × Int)),
  (x.length * ((8 : Nat) + ((8 : Nat) + (8 : Nat))) ≤ big ∧
      ∀ (x_1 : Int × Bool × Int), x_1 ∈ x → InR IntKind.i64 x_1.fst ∧ True ∧ InR IntKind.i64 x_1.snd.snd) →
    True →
      (decide ((16 : Int) < (↑x.length : Int)) = true → (2 : Int) = handsF x ∧ True) ∧
        (decide ((16 : Int) < (↑x.length : Int)) = false →
          ((0 : Int) ≤ (0 : Int) ∧
              (0 : Int) ≤ (↑x.length : Int) ∧
                x.length ≤ (16 : Nat) ∧ slotsFault (List.drop (Int.toNat (0 : Int)) x) = slotsFault x) ∧
            ∀ (x_1 : Int),
              (0 : Int) ≤ x_1 ∧
                  x_1 ≤ (↑x.length : Int) ∧ x.length ≤ (16 : Nat) ∧ slotsFault (List.drop x_1.toNat x) = slotsFault x →
                (decide (x_1 < (↑x.length : Int)) = true →
                    (0 : Int) ≤ x_1 ∧
                      x_1 < (↑x.length : Int) ∧
                        ((decide ((x.getD x_1.toNat ((0 : Int), false, (0 : Int))).fst < (0 : Int)) ||
                                    decide ((65535 : Int) < (x.getD x_1.toNat ((0 : Int), false, (0 : Int))).fst) ||
                                  decide ((x.getD x_1.toNat ((0 : Int), false, (0 : Int))).snd.snd < (0 : Int)) ||
                                decide ((255 : Int) < (x.getD x_1.toNat ((0 : Int), false, (0 : Int))).snd.snd)) =
                              true →
                            (4 : Int) = handsF x ∧ True) ∧
                          ((decide ((x.getD x_1.toNat ((0 : Int), false, (0 : Int))).fst < (0 : Int)) ||
                                    decide ((65535 : Int) < (x.getD x_1.toNat ((0 : Int), false, (0 : Int))).fst) ||
                                  decide ((x.getD x_1.toNat ((0 : Int), false, (0 : Int))).snd.snd < (0 : Int)) ||
                                decide ((255 : Int) < (x.getD x_1.toNat ((0 : Int), false, (0 : Int))).snd.snd)) =
                              false →
                            (((x.getD x_1.toNat ((0 : Int), false, (0 : Int))).snd.fst &&
                                      decide ((x.getD x_1.toNat ((0 : Int), false, (0 : Int))).fst = (0 : Int)) ||
                                    !(x.getD x_1.toNat ((0 : Int), false, (0 : Int))).snd.fst &&
                                      decide ((x.getD x_1.toNat ((0 : Int), false, (0 : Int))).snd.snd ≠ (0 : Int))) =
                                  true →
                                (3 : Int) = handsF x ∧ True) ∧
                              (((x.getD x_1.toNat ((0 : Int), false, (0 : Int))).snd.fst &&
                                      decide ((x.getD x_1.toNat ((0 : Int), false, (0 : Int))).fst = (0 : Int)) ||
                                    !(x.getD x_1.toNat ((0 : Int), false, (0 : Int))).snd.fst &&
                                      decide ((x.getD x_1.toNat ((0 : Int), false, (0 : Int))).snd.snd ≠ (0 : Int))) =
                                  false →
                                InR IntKind.i64 (x_1 + (1 : Int)) ∧
                                  ((0 : Int) ≤ x_1 + (1 : Int) ∧
                                      x_1 + (1 : Int) ≤ (↑x.length : Int) ∧
                                        x.length ≤ (16 : Nat) ∧
                                          slotsFault (List.drop (x_1 + (1 : Int)).toNat x) = slotsFault x) ∧
                                    ((↑x.length : Int) - (x_1 + (1 : Int))).toNat < ((↑x.length : Int) - x_1).toNat))) ∧
                  (decide (x_1 < (↑x.length : Int)) = false → (0 : Int) = handsF x ∧ True))
theorem vcp_handsFault : pv_handsFault := by
  unfold pv_handsFault
  intro h ⟨hb, hw⟩ _
  unfold big at *
  refine ⟨fun hl => ?_, fun hl => ⟨⟨by omega, by omega, by have := of_decide_eq_false hl; omega, by simp⟩, fun i ⟨h0, h1, h2, h3⟩ => ⟨fun hlt => ?_, fun hge => ?_⟩⟩⟩
  · have := of_decide_eq_true hl
    unfold handsF
    rw [if_pos (by omega)]
    exact ⟨rfl, trivial⟩
  · have hlt : i < (h.length : Int) := by simpa using hlt
    have e := drop_cons ((0, false, 0) : Slot) h0 hlt
    have hF : handsF h = slotsFault h := by unfold handsF; rw [if_neg (by omega)]
    rw [hF, ← h3, e]
    simp only [slotsFault, slotBad, there, InR]
    generalize h.getD i.toNat (0, false, 0) = s at *
    obtain ⟨g, o, a⟩ := s
    simp only
    cases o <;> grind
  · have hF : handsF h = slotsFault h := by unfold handsF; rw [if_neg (by omega)]
    rw [drop_end (by simpa using hge)] at h3
    rw [hF, ← h3]
    exact ⟨rfl, trivial⟩
theorem e_handsFault : pv_handsFault = fnVC Try.prog (tbl []) an_handCheck Try.f48 sp_handsFault := by kernel_rfl
theorem vc_handsFault : fnVC Try.prog (tbl []) an_handCheck Try.f48 sp_handsFault := @Eq.mp _ _ @e_handsFault @vcp_handsFault
theorem ok_handsFault : sp_handsFault.ok Try.prog 48 := fn_sound (P := Try.prog) (ss := tbl []) (ann := an_handCheck) (f := 48) (fn := Try.f48) (s := sp_handsFault) tbl_nil Try.func48 @vc_handsFault

def handName (i : Int) (s : Slot) : Int := i + 65536 * s.1
def sp_handName : Spec := { Ts := [ty_I, ty_Slot], Rs := [.dat ty_W], pre := fun ((i, s) : Int × Slot) => 0 ≤ i ∧ i < 65536 ∧ 0 ≤ s.1 ∧ s.1 ≤ 65535, F := fun ((i, s) : Int × Slot) => handName i s }
def pv_handName : Prop :=
    ∀ (x : Int × Int × Bool × Int),
  InR IntKind.i64 x.fst ∧ InR IntKind.i64 x.snd.fst ∧ True ∧ InR IntKind.i64 x.snd.snd.snd →
    (0 : Int) ≤ x.fst ∧ x.fst < (65536 : Int) ∧ (0 : Int) ≤ x.snd.fst ∧ x.snd.fst ≤ (65535 : Int) →
      (0 : Int) ≤ (16 : Int) ∧
        (16 : Int) < (↑IntKind.u64.bits : Int) ∧
          (↑((IntKind.u64.wrap x.fst).toNat |||
                    (IntKind.u64.wrap (IntKind.u64.wrap x.snd.fst * (2 : Int) ^ Int.toNat (16 : Int))).toNat) :
                Int) =
              handName x.fst x.snd ∧
            True
theorem vcp_handName : pv_handName := by
  unfold pv_handName
  intro ⟨i, s⟩ _ ⟨h0, h1, h2, h3⟩
  simp only at *
  refine ⟨by omega, by rw [bitsU]; omega, ?_, trivial⟩
  have e : (2 : Int) ^ Int.toNat 16 = 65536 := rfl
  have e3 : (2 : Int) ^ 16 = 65536 := rfl
  have k := lor_add (a := i) (b := s.1) (i := 16) h0 h2 (by rw [e3]; omega)
  rw [e3] at k
  rw [wrapU (n := i) (by omega) (by omega), wrapU (n := s.1) h2 (by omega), e, wrapU (n := s.1 * 65536) (by omega) (by omega), k]
  simp only [handName]
  omega
theorem e_handName : pv_handName = fnVC Try.prog (tbl []) an_0 Try.f79 sp_handName := by kernel_rfl
theorem vc_handName : fnVC Try.prog (tbl []) an_0 Try.f79 sp_handName := @Eq.mp _ _ @e_handName @vcp_handName
theorem ok_handName : sp_handName.ok Try.prog 79 := fn_sound (P := Try.prog) (ss := tbl []) (ann := an_0) (f := 79) (fn := Try.f79) (s := sp_handName) tbl_nil Try.func79 @vc_handName

def sp_rHandName : Spec := sp_handName
def pv_rHandName : Prop :=
    ∀ (x : Int × Int × Bool × Int),
  InR IntKind.i64 x.fst ∧ InR IntKind.i64 x.snd.fst ∧ True ∧ InR IntKind.i64 x.snd.snd.snd →
    (0 : Int) ≤ x.fst ∧ x.fst < (65536 : Int) ∧ (0 : Int) ≤ x.snd.fst ∧ x.snd.fst ≤ (65535 : Int) →
      InR IntKind.u64 ((65536 : Int) * IntKind.u64.wrap x.snd.fst) ∧
        InR IntKind.u64 (IntKind.u64.wrap x.fst + (65536 : Int) * IntKind.u64.wrap x.snd.fst) ∧
          IntKind.u64.wrap x.fst + (65536 : Int) * IntKind.u64.wrap x.snd.fst = handName x.fst x.snd ∧ True
theorem vcp_rHandName : pv_rHandName := by
  unfold pv_rHandName
  intro ⟨i, s⟩ _ ⟨h0, h1, h2, h3⟩
  simp only at *
  rw [wrapU (n := i) (by omega) (by omega), wrapU (n := s.1) h2 (by omega)]
  simp only [handName, InR]
  repeat' apply And.intro
  all_goals first | exact trivial | omega
theorem e_rHandName : pv_rHandName = fnVC Try.prog (tbl []) an_0 Try.f50 sp_rHandName := by kernel_rfl
theorem vc_rHandName : fnVC Try.prog (tbl []) an_0 Try.f50 sp_rHandName := @Eq.mp _ _ @e_rHandName @vcp_rHandName
theorem ok_rHandName : sp_rHandName.ok Try.prog 50 := fn_sound (P := Try.prog) (ss := tbl []) (ann := an_0) (f := 50) (fn := Try.f50) (s := sp_rHandName) tbl_nil Try.func50 @vc_rHandName

theorem slotsFault_zero : ∀ {h : List Slot}, slotsFault h = 0 → ∀ s ∈ h, slotBad s = 0
  | [], _ => by simp
  | x :: l, h => by
    simp only [slotsFault] at h
    split at h
    · omega
    · intro s hs
      rcases List.mem_cons.1 hs with rfl | hs
      · omega
      · exact slotsFault_zero h s hs

theorem handsF_zero {h : List Slot} (hf : handsF h = 0) : h.length ≤ 16 ∧ ∀ s ∈ h, 0 ≤ s.1 ∧ s.1 ≤ 65535 ∧ 0 ≤ s.2.2 ∧ s.2.2 ≤ 255 := by
  unfold handsF at hf
  split at hf
  · omega
  · refine ⟨by omega, fun s hs => ?_⟩
    have := slotsFault_zero hf s hs
    unfold slotBad at this
    split at this <;> omega

/-- The slot of a name. -/
def findF (h : List Slot) (n : Int) : Int × Int :=
  if handsF h ≠ 0 then (0, handsF h) else if n % 65536 < h.length ∧ (h.getD (n % 65536).toNat (0, false, 0)).2.1 = true ∧ handName (n % 65536) (h.getD (n % 65536).toNat (0, false, 0)) = n then (n % 65536, 0) else (0, 9)
def sp_handFind : Spec := { Ts := [.arr ty_Slot, ty_W], Rs := [.dat ty_I, .dat ty_I], pre := fun _ => True, F := fun ((h, n) : List Slot × Int) => findF h n }
def pv_handFind : Prop :=
    ∀ (x : List (Int × Bool × Int) × Int),
  (x.fst.length * ((8 : Nat) + ((8 : Nat) + (8 : Nat))) ≤ big ∧
        ∀ (x_1 : Int × Bool × Int), x_1 ∈ x.fst → InR IntKind.i64 x_1.fst ∧ True ∧ InR IntKind.i64 x_1.snd.snd) ∧
      InR IntKind.u64 x.snd →
    True →
      True ∧
        (decide (handsF x.fst ≠ (0 : Int)) = true →
            (0 : Int) = (findF x.fst x.snd).fst ∧ handsF x.fst = (findF x.fst x.snd).snd ∧ True) ∧
          (decide (handsF x.fst ≠ (0 : Int)) = false →
            (decide (IntKind.u64.wrap (↑x.fst.length : Int) ≤ (↑(x.snd.toNat &&& Int.toNat (65535 : Int)) : Int)) =
                  false →
                (0 : Int) ≤ (↑(x.snd.toNat &&& Int.toNat (65535 : Int)) : Int)) ∧
              (decide (IntKind.u64.wrap (↑x.fst.length : Int) ≤ (↑(x.snd.toNat &&& Int.toNat (65535 : Int)) : Int)) =
                    false →
                  (↑(x.snd.toNat &&& Int.toNat (65535 : Int)) : Int) < (↑x.fst.length : Int)) ∧
                ((decide
                          (IntKind.u64.wrap (↑x.fst.length : Int) ≤
                            (↑(x.snd.toNat &&& Int.toNat (65535 : Int)) : Int)) ||
                        !(x.fst.getD (↑(x.snd.toNat &&& Int.toNat (65535 : Int)) : Int).toNat
                                ((0 : Int), false, (0 : Int))).snd.fst) =
                      false →
                    (0 : Int) ≤ (↑(x.snd.toNat &&& Int.toNat (65535 : Int)) : Int)) ∧
                  ((decide
                            (IntKind.u64.wrap (↑x.fst.length : Int) ≤
                              (↑(x.snd.toNat &&& Int.toNat (65535 : Int)) : Int)) ||
                          !(x.fst.getD (↑(x.snd.toNat &&& Int.toNat (65535 : Int)) : Int).toNat
                                  ((0 : Int), false, (0 : Int))).snd.fst) =
                        false →
                      (↑(x.snd.toNat &&& Int.toNat (65535 : Int)) : Int) < (↑x.fst.length : Int)) ∧
                    ((decide
                              (IntKind.u64.wrap (↑x.fst.length : Int) ≤
                                (↑(x.snd.toNat &&& Int.toNat (65535 : Int)) : Int)) ||
                            !(x.fst.getD (↑(x.snd.toNat &&& Int.toNat (65535 : Int)) : Int).toNat
                                    ((0 : Int), false, (0 : Int))).snd.fst) =
                          false →
                        (0 : Int) ≤ IntKind.i64.wrap (↑(x.snd.toNat &&& Int.toNat (65535 : Int)) : Int) ∧
                          IntKind.i64.wrap (↑(x.snd.toNat &&& Int.toNat (65535 : Int)) : Int) < (65536 : Int) ∧
                            (0 : Int) ≤
                                (x.fst.getD (↑(x.snd.toNat &&& Int.toNat (65535 : Int)) : Int).toNat
                                    ((0 : Int), false, (0 : Int))).fst ∧
                              (x.fst.getD (↑(x.snd.toNat &&& Int.toNat (65535 : Int)) : Int).toNat
                                    ((0 : Int), false, (0 : Int))).fst ≤
                                (65535 : Int)) ∧
                      ((decide
                                  (IntKind.u64.wrap (↑x.fst.length : Int) ≤
                                    (↑(x.snd.toNat &&& Int.toNat (65535 : Int)) : Int)) ||
                                !(x.fst.getD (↑(x.snd.toNat &&& Int.toNat (65535 : Int)) : Int).toNat
                                        ((0 : Int), false, (0 : Int))).snd.fst ||
                              decide
                                (handName (IntKind.i64.wrap (↑(x.snd.toNat &&& Int.toNat (65535 : Int)) : Int))
                                    (x.fst.getD (↑(x.snd.toNat &&& Int.toNat (65535 : Int)) : Int).toNat
                                      ((0 : Int), false, (0 : Int))) ≠
                                  x.snd)) =
                            true →
                          (0 : Int) = (findF x.fst x.snd).fst ∧ (9 : Int) = (findF x.fst x.snd).snd ∧ True) ∧
                        ((decide
                                  (IntKind.u64.wrap (↑x.fst.length : Int) ≤
                                    (↑(x.snd.toNat &&& Int.toNat (65535 : Int)) : Int)) ||
                                !(x.fst.getD (↑(x.snd.toNat &&& Int.toNat (65535 : Int)) : Int).toNat
                                        ((0 : Int), false, (0 : Int))).snd.fst ||
                              decide
                                (handName (IntKind.i64.wrap (↑(x.snd.toNat &&& Int.toNat (65535 : Int)) : Int))
                                    (x.fst.getD (↑(x.snd.toNat &&& Int.toNat (65535 : Int)) : Int).toNat
                                      ((0 : Int), false, (0 : Int))) ≠
                                  x.snd)) =
                            false →
                          IntKind.i64.wrap (↑(x.snd.toNat &&& Int.toNat (65535 : Int)) : Int) =
                              (findF x.fst x.snd).fst ∧
                            (0 : Int) = (findF x.fst x.snd).snd ∧ True))
theorem vcp_handFind : pv_handFind := by
  unfold pv_handFind
  intro ⟨h, n⟩ ⟨⟨hb, hw⟩, hn⟩ _
  simp only [InR] at hn
  have hand : ((n.toNat &&& Int.toNat 65535 : Nat) : Int) = n % 65536 := by
    have := land_mod hn.1 16
    simpa using this
  simp only at *
  rw [hand]
  have h0 : 0 ≤ n % 65536 := by omega
  have h1 : n % 65536 < 65536 := by omega
  rw [wrapI (n := n % 65536) (by omega) (by omega)]
  have hl : IntKind.u64.wrap (h.length : Int) = h.length := wrapU (by omega) (by unfold big at hb; omega)
  rw [hl]
  simp only [findF]
  refine ⟨trivial, fun hf => by grind, fun hf => ?_⟩
  have hf : handsF h = 0 := by simpa using hf
  obtain ⟨z1, z2⟩ := handsF_zero hf
  have hm : n % 65536 < h.length → 0 ≤ (h.getD (n % 65536).toNat (0, false, 0)).1 ∧ (h.getD (n % 65536).toNat (0, false, 0)).1 ≤ 65535 := fun hlt => by
    have := z2 _ (getD_mem (0, false, 0) h0 hlt)
    omega
  generalize h.getD (n % 65536).toNat (0, false, 0) = s at *
  generalize n % 65536 = i at *
  simp only [hf, handName]
  obtain ⟨g, o, a⟩ := s
  cases o <;> simp only at * <;> grind
theorem e_handFind : pv_handFind = fnVC Try.prog (tbl [(49, sp_handCheck), (79, sp_handName)]) an_0 Try.f80 sp_handFind := by kernel_rfl
theorem vc_handFind : fnVC Try.prog (tbl [(49, sp_handCheck), (79, sp_handName)]) an_0 Try.f80 sp_handFind := @Eq.mp _ _ @e_handFind @vcp_handFind
theorem ok_handFind : sp_handFind.ok Try.prog 80 := fn_sound (P := Try.prog) (ss := tbl [(49, sp_handCheck), (79, sp_handName)]) (ann := an_0) (f := 80) (fn := Try.f80) (s := sp_handFind) (tbl_cons ok_handCheck (tbl_cons ok_handName tbl_nil)) Try.func80 @vc_handFind

def lookF (h : List Slot) (n : Int) : Int × Int := if (findF h n).2 ≠ 0 then (0, (findF h n).2) else ((h.getD (findF h n).1.toNat (0, false, 0)).2.2, 0)
def sp_handLook : Spec := { Ts := [.arr ty_Slot, ty_W], Rs := [.dat ty_I, .dat ty_I], pre := fun _ => True, F := fun ((h, n) : List Slot × Int) => lookF h n }
def pv_handLook : Prop :=
    ∀ (x : List (Int × Bool × Int) × Int),
  (x.fst.length * ((8 : Nat) + ((8 : Nat) + (8 : Nat))) ≤ big ∧
        ∀ (x_1 : Int × Bool × Int), x_1 ∈ x.fst → InR IntKind.i64 x_1.fst ∧ True ∧ InR IntKind.i64 x_1.snd.snd) ∧
      InR IntKind.u64 x.snd →
    True →
      True ∧
        (decide ((findF x.fst x.snd).snd ≠ (0 : Int)) = true →
            (0 : Int) = (lookF x.fst x.snd).fst ∧ (findF x.fst x.snd).snd = (lookF x.fst x.snd).snd ∧ True) ∧
          (decide ((findF x.fst x.snd).snd ≠ (0 : Int)) = false →
            (0 : Int) ≤ (findF x.fst x.snd).fst ∧
              (findF x.fst x.snd).fst < (↑x.fst.length : Int) ∧
                (x.fst.getD (findF x.fst x.snd).fst.toNat ((0 : Int), false, (0 : Int))).snd.snd =
                    (lookF x.fst x.snd).fst ∧
                  (0 : Int) = (lookF x.fst x.snd).snd ∧ True)
theorem vcp_handLook : pv_handLook := by
  unfold pv_handLook
  intro ⟨h, n⟩ ⟨_, hn⟩ _
  simp only [InR] at hn
  have hr : (findF h n).2 = 0 → 0 ≤ (findF h n).1 ∧ (findF h n).1 < h.length := by
    unfold findF
    grind
  simp only [lookF] at *
  generalize findF h n = f at *
  grind
theorem e_handLook : pv_handLook = fnVC Try.prog (tbl [(80, sp_handFind)]) an_0 Try.f43 sp_handLook := by kernel_rfl
theorem vc_handLook : fnVC Try.prog (tbl [(80, sp_handFind)]) an_0 Try.f43 sp_handLook := @Eq.mp _ _ @e_handLook @vcp_handLook
theorem ok_handLook : sp_handLook.ok Try.prog 43 := fn_sound (P := Try.prog) (ss := tbl [(80, sp_handFind)]) (ann := an_0) (f := 43) (fn := Try.f43) (s := sp_handLook) (tbl_cons ok_handFind tbl_nil) Try.func43 @vc_handLook

def closeF (h : List Slot) (n : Int) : List Slot × Int := if (findF h n).2 ≠ 0 then ([], (findF h n).2) else (h.set (findF h n).1.toNat ((h.getD (findF h n).1.toNat (0, false, 0)).1, false, 0), 0)
def sp_handClose : Spec := { Ts := [.arr ty_Slot, ty_W], Rs := [.own 88 ty_Slot, .dat ty_I], pre := fun _ => True, F := fun ((h, n) : List Slot × Int) => closeF h n }
def pv_handClose : Prop :=
    ∀ (x : List (Int × Bool × Int) × Int),
  (x.fst.length * ((8 : Nat) + ((8 : Nat) + (8 : Nat))) ≤ big ∧
        ∀ (x_1 : Int × Bool × Int), x_1 ∈ x.fst → InR IntKind.i64 x_1.fst ∧ True ∧ InR IntKind.i64 x_1.snd.snd) ∧
      InR IntKind.u64 x.snd →
    True →
      True ∧
        (decide ((findF x.fst x.snd).snd ≠ (0 : Int)) = true →
            [] = (closeF x.fst x.snd).fst ∧ (findF x.fst x.snd).snd = (closeF x.fst x.snd).snd ∧ True) ∧
          (decide ((findF x.fst x.snd).snd ≠ (0 : Int)) = false →
            True ∧
              (0 : Int) ≤ (findF x.fst x.snd).fst ∧
                (findF x.fst x.snd).fst < (↑x.fst.length : Int) ∧
                  (0 : Int) ≤ (findF x.fst x.snd).fst ∧
                    (findF x.fst x.snd).fst < (↑x.fst.length : Int) ∧
                      (findF x.fst x.snd).fst.toNat < x.fst.length ∧
                        x.fst.set (findF x.fst x.snd).fst.toNat
                              ((x.fst.getD (findF x.fst x.snd).fst.toNat ((0 : Int), false, (0 : Int))).fst, false,
                                (0 : Int)) =
                            (closeF x.fst x.snd).fst ∧
                          (0 : Int) = (closeF x.fst x.snd).snd ∧ True)
theorem vcp_handClose : pv_handClose := by
  unfold pv_handClose
  intro ⟨h, n⟩ ⟨_, hn⟩ _
  simp only [InR] at hn
  have hr : (findF h n).2 = 0 → 0 ≤ (findF h n).1 ∧ (findF h n).1 < h.length := by
    unfold findF
    grind
  simp only [closeF] at *
  generalize findF h n = f at *
  grind
theorem e_handClose : pv_handClose = fnVC Try.prog (tbl [(80, sp_handFind), (51, sp_cloneHands)]) an_0 Try.f44 sp_handClose := by kernel_rfl
theorem vc_handClose : fnVC Try.prog (tbl [(80, sp_handFind), (51, sp_cloneHands)]) an_0 Try.f44 sp_handClose := @Eq.mp _ _ @e_handClose @vcp_handClose
theorem ok_handClose : sp_handClose.ok Try.prog 44 := fn_sound (P := Try.prog) (ss := tbl [(80, sp_handFind), (51, sp_cloneHands)]) (ann := an_0) (f := 44) (fn := Try.f44) (s := sp_handClose) (tbl_cons ok_handFind (tbl_cons ok_cloneHands tbl_nil)) Try.func44 @vc_handClose

def newHandsF (n : Int) : List Slot × Int := if n < 0 ∨ 16 < n then ([], 4) else (List.replicate n.toNat (0, false, 0), 0)
def sp_handNew : Spec := { Ts := [ty_I], Rs := [.own 88 ty_Slot, .dat ty_I], pre := fun _ => True, F := newHandsF }
def pv_handNew : Prop :=
    ∀ (x : Int),
  InR IntKind.i64 x →
    True →
      ((decide (x < (0 : Int)) || decide ((16 : Int) < x)) = true →
          [] = (newHandsF x).fst ∧ (4 : Int) = (newHandsF x).snd ∧ True) ∧
        ((decide (x < (0 : Int)) || decide ((16 : Int) < x)) = false →
          (0 : Int) ≤ x ∧
            x.toNat * ((8 : Nat) + ((8 : Nat) + (8 : Nat))) ≤ big ∧
              List.replicate x.toNat ((0 : Int), false, (0 : Int)) = (newHandsF x).fst ∧
                (0 : Int) = (newHandsF x).snd ∧ True)
theorem vcp_handNew : pv_handNew := by
  unfold pv_handNew
  intro n hw _
  simp only [InR, newHandsF, big] at *
  grind
theorem e_handNew : pv_handNew = fnVC Try.prog (tbl []) an_0 Try.f41 sp_handNew := by kernel_rfl
theorem vc_handNew : fnVC Try.prog (tbl []) an_0 Try.f41 sp_handNew := @Eq.mp _ _ @e_handNew @vcp_handNew
theorem ok_handNew : sp_handNew.ok Try.prog 41 := fn_sound (P := Try.prog) (ss := tbl []) (ann := an_0) (f := 41) (fn := Try.f41) (s := sp_handNew) tbl_nil Try.func41 @vc_handNew

def opened (h : List Slot) (i at_ : Int) : Slot := ((h.getD i.toNat (0, false, 0)).1 + 1, true, at_)
def openF (h : List Slot) (at_ : Int) : List Slot × Int × Int :=
  if handsF h ≠ 0 then ([], 0, handsF h) else if there at_ = false then ([], 0, 4) else if findFrom freeSlot 0 h < 0 then ([], 0, 7)
  else (h.set (findFrom freeSlot 0 h).toNat (opened h (findFrom freeSlot 0 h) at_), handName (findFrom freeSlot 0 h) (opened h (findFrom freeSlot 0 h) at_), 0)
def an_handOpen : Nat → Option LoopGen
  | 1000003 => some { rd := [.dat 0 (.arr ty_Slot), .dat 1 ty_I], A := fun ((h, at_) : List Slot × Int) => { cs := [.dat 7 ty_I], inv := fun (e : Int) => e = if handsF h ≠ 0 then handsF h else if there at_ = false then 4 else 0, mu := fun _ => 0 } }
  | _ => none
def sp_handOpen : Spec := { Ts := [.arr ty_Slot, ty_I], Rs := [.own 88 ty_Slot, .dat ty_W, .dat ty_I], pre := fun _ => True, F := fun ((h, at_) : List Slot × Int) => openF h at_ }
def pv_handOpen : Prop :=
    ∀ (x : List (Int × Bool × Int) × Int),
  (x.fst.length * ((8 : Nat) + ((8 : Nat) + (8 : Nat))) ≤ big ∧
        ∀ (x_1 : Int × Bool × Int), x_1 ∈ x.fst → InR IntKind.i64 x_1.fst ∧ True ∧ InR IntKind.i64 x_1.snd.snd) ∧
      InR IntKind.i64 x.snd →
    True →
      True ∧
        (decide (handsF x.fst = (0 : Int)) = true → True) ∧
          (((decide (handsF x.fst = (0 : Int)) && !there x.snd) = true →
                (4 : Int) =
                  if handsF x.fst ≠ (0 : Int) then handsF x.fst
                  else if there x.snd = false then (4 : Int) else (0 : Int)) ∧
              ((decide (handsF x.fst = (0 : Int)) && !there x.snd) = false →
                handsF x.fst =
                  if handsF x.fst ≠ (0 : Int) then handsF x.fst
                  else if there x.snd = false then (4 : Int) else (0 : Int))) ∧
            ∀ (x_1 : Int),
              (x_1 =
                  if handsF x.fst ≠ (0 : Int) then handsF x.fst
                  else if there x.snd = false then (4 : Int) else (0 : Int)) →
                (decide (x_1 ≠ (0 : Int)) = true →
                    [] = (openF x.fst x.snd).fst ∧
                      (0 : Int) = (openF x.fst x.snd).snd.fst ∧ x_1 = (openF x.fst x.snd).snd.snd ∧ True) ∧
                  (decide (x_1 ≠ (0 : Int)) = false →
                    (∀ (s : Slot),
                        s ∈ x.fst →
                          (fun (x : Int × Bool × Int) => True, fun (x : Int × Bool × Int) => freeSlot x).fst s) ∧
                      (decide (findFrom (fun (x : Int × Bool × Int) => freeSlot x) (0 : Int) x.fst < (0 : Int)) = true →
                          [] = (openF x.fst x.snd).fst ∧
                            (0 : Int) = (openF x.fst x.snd).snd.fst ∧ (7 : Int) = (openF x.fst x.snd).snd.snd ∧ True) ∧
                        (decide (findFrom (fun (x : Int × Bool × Int) => freeSlot x) (0 : Int) x.fst < (0 : Int)) =
                            false →
                          True ∧
                            (0 : Int) ≤ findFrom (fun (x : Int × Bool × Int) => freeSlot x) (0 : Int) x.fst ∧
                              findFrom (fun (x : Int × Bool × Int) => freeSlot x) (0 : Int) x.fst <
                                  (↑x.fst.length : Int) ∧
                                InR IntKind.i64
                                    ((x.fst.getD
                                          (findFrom (fun (x : Int × Bool × Int) => freeSlot x) (0 : Int) x.fst).toNat
                                          ((0 : Int), false, (0 : Int))).fst +
                                      (1 : Int)) ∧
                                  (0 : Int) ≤ findFrom (fun (x : Int × Bool × Int) => freeSlot x) (0 : Int) x.fst ∧
                                    findFrom (fun (x : Int × Bool × Int) => freeSlot x) (0 : Int) x.fst <
                                        (↑x.fst.length : Int) ∧
                                      (findFrom (fun (x : Int × Bool × Int) => freeSlot x) (0 : Int) x.fst).toNat <
                                          x.fst.length ∧
                                        (0 : Int) ≤
                                            findFrom (fun (x : Int × Bool × Int) => freeSlot x) (0 : Int) x.fst ∧
                                          findFrom (fun (x : Int × Bool × Int) => freeSlot x) (0 : Int) x.fst <
                                              (↑(x.fst.set
                                                      (findFrom (fun (x : Int × Bool × Int) => freeSlot x) (0 : Int)
                                                          x.fst).toNat
                                                      ((x.fst.getD
                                                              (findFrom (fun (x : Int × Bool × Int) => freeSlot x)
                                                                  (0 : Int) x.fst).toNat
                                                              ((0 : Int), false, (0 : Int))).fst +
                                                          (1 : Int),
                                                        true, x.snd)).length :
                                                Int) ∧
                                            (findFrom (fun (x : Int × Bool × Int) => freeSlot x) (0 : Int)
                                                    x.fst).toNat <
                                                (x.fst.set
                                                    (findFrom (fun (x : Int × Bool × Int) => freeSlot x) (0 : Int)
                                                        x.fst).toNat
                                                    ((x.fst.getD
                                                            (findFrom (fun (x : Int × Bool × Int) => freeSlot x)
                                                                (0 : Int) x.fst).toNat
                                                            ((0 : Int), false, (0 : Int))).fst +
                                                        (1 : Int),
                                                      true, x.snd)).length ∧
                                              ((0 : Int) ≤
                                                    findFrom (fun (x : Int × Bool × Int) => freeSlot x) (0 : Int)
                                                      x.fst ∧
                                                  findFrom (fun (x : Int × Bool × Int) => freeSlot x) (0 : Int) x.fst <
                                                      (65536 : Int) ∧
                                                    (0 : Int) ≤
                                                        ((x.fst.set
                                                                (findFrom (fun (x : Int × Bool × Int) => freeSlot x)
                                                                    (0 : Int) x.fst).toNat
                                                                ((x.fst.getD
                                                                        (findFrom
                                                                            (fun (x : Int × Bool × Int) => freeSlot x)
                                                                            (0 : Int) x.fst).toNat
                                                                        ((0 : Int), false, (0 : Int))).fst +
                                                                    (1 : Int),
                                                                  true, x.snd)).getD
                                                            (findFrom (fun (x : Int × Bool × Int) => freeSlot x)
                                                                (0 : Int) x.fst).toNat
                                                            ((0 : Int), false, (0 : Int))).fst ∧
                                                      ((x.fst.set
                                                                (findFrom (fun (x : Int × Bool × Int) => freeSlot x)
                                                                    (0 : Int) x.fst).toNat
                                                                ((x.fst.getD
                                                                        (findFrom
                                                                            (fun (x : Int × Bool × Int) => freeSlot x)
                                                                            (0 : Int) x.fst).toNat
                                                                        ((0 : Int), false, (0 : Int))).fst +
                                                                    (1 : Int),
                                                                  true, x.snd)).getD
                                                            (findFrom (fun (x : Int × Bool × Int) => freeSlot x)
                                                                (0 : Int) x.fst).toNat
                                                            ((0 : Int), false, (0 : Int))).fst ≤
                                                        (65535 : Int)) ∧
                                                x.fst.set
                                                      (findFrom (fun (x : Int × Bool × Int) => freeSlot x) (0 : Int)
                                                          x.fst).toNat
                                                      ((x.fst.getD
                                                              (findFrom (fun (x : Int × Bool × Int) => freeSlot x)
                                                                  (0 : Int) x.fst).toNat
                                                              ((0 : Int), false, (0 : Int))).fst +
                                                          (1 : Int),
                                                        true, x.snd) =
                                                    (openF x.fst x.snd).fst ∧
                                                  handName
                                                        (findFrom (fun (x : Int × Bool × Int) => freeSlot x) (0 : Int)
                                                          x.fst)
                                                        ((x.fst.set
                                                              (findFrom (fun (x : Int × Bool × Int) => freeSlot x)
                                                                  (0 : Int) x.fst).toNat
                                                              ((x.fst.getD
                                                                      (findFrom
                                                                          (fun (x : Int × Bool × Int) => freeSlot x)
                                                                          (0 : Int) x.fst).toNat
                                                                      ((0 : Int), false, (0 : Int))).fst +
                                                                  (1 : Int),
                                                                true, x.snd)).getD
                                                          (findFrom (fun (x : Int × Bool × Int) => freeSlot x) (0 : Int)
                                                              x.fst).toNat
                                                          ((0 : Int), false, (0 : Int))) =
                                                      (openF x.fst x.snd).snd.fst ∧
                                                    (0 : Int) = (openF x.fst x.snd).snd.snd ∧ True))
theorem vcp_handOpen : pv_handOpen := by
  unfold pv_handOpen
  intro ⟨h, at_⟩ ⟨⟨_, hw⟩, ha⟩ _
  simp only at *
  refine ⟨trivial, fun _ => trivial, ⟨fun hc => by grind, fun hc => by grind⟩, fun e he => ⟨fun hz => by unfold openF; grind, fun hz => ?_⟩⟩
  have hz : e = 0 := by simpa using hz
  have hf : handsF h = 0 := by grind
  have ht : there at_ = true := by grind
  obtain ⟨z1, z2⟩ := handsF_zero hf
  have hO : openF h at_ = if findFrom freeSlot 0 h < 0 then ([], 0, 7) else (h.set (findFrom freeSlot 0 h).toNat (opened h (findFrom freeSlot 0 h) at_), handName (findFrom freeSlot 0 h) (opened h (findFrom freeSlot 0 h) at_), 0) := by
    unfold openF
    simp [hf, ht]
  rw [hO]
  have hk := findFrom_lt freeSlot ((0, false, 0) : Slot) h 0 (by omega)
  have hr := findFrom_range freeSlot h 0
  have hg := fun q => findFrom_is freeSlot ((0, false, 0) : Slot) h 0 q (by omega)
  generalize findFrom freeSlot 0 h = i at *
  refine ⟨fun _ _ => trivial, fun hi => by rw [if_pos (of_decide_eq_true hi)]; exact ⟨rfl, rfl, rfl, trivial⟩, fun hi => ?_⟩
  have hi : 0 ≤ i := by have := of_decide_eq_false hi; omega
  have hlt : i < h.length := by omega
  have hgi := hg hi
  have hm := z2 _ (getD_mem ((0, false, 0) : Slot) hi hlt)
  simp only [Int.sub_zero] at hgi
  rw [if_neg (by omega)]
  have hgs : ∀ v : Slot, (h.set i.toNat v).getD i.toNat (0, false, 0) = v := fun v => by simp [show i.toNat < h.length by omega]
  simp only [hgs, List.length_set, opened]
  unfold freeSlot at hgi
  generalize h.getD i.toNat (0, false, 0) = s at *
  simp only [Bool.and_eq_true, decide_eq_true_eq] at hgi
  refine ⟨trivial, by omega, by omega, by simp only [InR]; omega, by omega, by omega, by omega, by omega, by omega, by omega, ⟨by omega, by omega, by omega, by omega⟩, by simp⟩
theorem e_handOpen : pv_handOpen = fnVC Try.prog (tbl [(49, sp_handCheck), (76, sp_handThere), (77, sp_idxSlot), (51, sp_cloneHands), (79, sp_handName), (78, sp_freeSlot)]) an_handOpen Try.f42 sp_handOpen := by kernel_rfl
theorem vc_handOpen : fnVC Try.prog (tbl [(49, sp_handCheck), (76, sp_handThere), (77, sp_idxSlot), (51, sp_cloneHands), (79, sp_handName), (78, sp_freeSlot)]) an_handOpen Try.f42 sp_handOpen := @Eq.mp _ _ @e_handOpen @vcp_handOpen
theorem ok_handOpen : sp_handOpen.ok Try.prog 42 := fn_sound (P := Try.prog) (ss := tbl [(49, sp_handCheck), (76, sp_handThere), (77, sp_idxSlot), (51, sp_cloneHands), (79, sp_handName), (78, sp_freeSlot)]) (ann := an_handOpen) (f := 42) (fn := Try.f42) (s := sp_handOpen) (tbl_cons ok_handCheck (tbl_cons ok_handThere (tbl_cons ok_idxSlot (tbl_cons ok_cloneHands (tbl_cons ok_handName (tbl_cons ok_freeSlot tbl_nil)))))) Try.func42 @vc_handOpen

theorem mapTo_len {α : Type} (f : α → α) (h : List α) (i : Nat) : ((h.take i).map f ++ h.drop i).length = h.length := by simp; omega
theorem mapTo_get {α : Type} (f : α → α) (h : List α) (d : α) (i : Nat) (hi : i < h.length) : ((h.take i).map f ++ h.drop i).getD i d = h.getD i d := by
  simp only [List.getD_eq_getElem?_getD]
  rw [List.getElem?_append_right (by simp; omega)]
  simp [show min i h.length = i by omega]
theorem mapTo_set {α : Type} (f : α → α) (h : List α) (d : α) (i : Nat) (hi : i < h.length) : ((h.take i).map f ++ h.drop i).set i (f (h.getD i d)) = (h.take (i + 1)).map f ++ h.drop (i + 1) := by
  have l1 : ((h.take i).map f).length = i := by simp; omega
  rw [List.set_append_right _ _ (by omega), l1, Nat.sub_self, List.drop_eq_getElem_cons hi, List.set_cons_zero, List.take_succ_eq_append_getElem hi, List.map_append, List.append_assoc]
  simp [hi]
theorem mapTo_keep {α : Type} (f : α → α) (h : List α) (d : α) (i : Nat) (hi : i < h.length) (hf : f (h.getD i d) = h.getD i d) : (h.take i).map f ++ h.drop i = (h.take (i + 1)).map f ++ h.drop (i + 1) := by
  rw [← mapTo_set f h d i hi, hf]
  apply List.ext_getElem?
  intro j
  rw [List.getElem?_set]
  split
  · rename_i e
    subst e
    have := mapTo_get f h d i hi
    rw [if_pos (by rw [mapTo_len]; exact hi)]
    simp only [List.getD_eq_getElem?_getD] at this
    have hl : i < ((h.take i).map f ++ h.drop i).length := by rw [mapTo_len]; exact hi
    rw [List.getElem?_eq_getElem hl] at this ⊢
    simp only [Option.getD_some] at this
    rw [this]
    simp [hi]
  · rfl

def swapSlot (to : List Int) (s : Slot) : Slot := if s.2.1 = true then (s.1, s.2.1, to.getD s.2.2.toNat 0) else s
def swapF (h : List Slot) (to : List Int) : List Slot × Int := if handsF h ≠ 0 then ([], handsF h) else if to.length ≠ 256 then ([], 3) else if (to.any fun v => !there v) = true then ([], 4) else (h.map (swapSlot to), 0)
def sp_handSwap : Spec := { Ts := [.arr ty_Slot, .arr ty_I], Rs := [.own 88 ty_Slot, .dat ty_I], pre := fun _ => True, F := fun ((h, to) : List Slot × List Int) => swapF h to }
def an_handSwap : Nat → Option LoopGen
  | 10 => some { rd := [.dat 0 (.arr ty_Slot), .dat 1 (.arr ty_I)], wr := [7, 25], A := fun ((h, to) : List Slot × List Int) => { cs := [.own 7 88 ty_Slot, .same 25 7, .dat 27 ty_I], inv := fun ((out, _, i) : List Slot × Unit × Int) => 0 ≤ i ∧ i ≤ h.length ∧ handsF h = 0 ∧ to.length = 256 ∧ out = (h.take i.toNat).map (swapSlot to) ++ h.drop i.toNat, mu := fun ((_, _, i) : List Slot × Unit × Int) => (h.length - i).toNat } }
  | 1000013 => some { rd := [.dat 0 (.arr ty_Slot), .dat 1 (.arr ty_I), .dat 27 ty_I], wr := [7, 25], A := fun ((h, to, i) : List Slot × List Int × Int) => { cs := [.own 7 88 ty_Slot, .same 25 7], inv := fun ((out, _) : List Slot × Unit) => out = (h.take (i.toNat + 1)).map (swapSlot to) ++ h.drop (i.toNat + 1), mu := fun _ => 0 } }
  | _ => none
def pv_handSwap : Prop :=
    ∀ (x : List (Int × Bool × Int) × List Int),
  ((x.fst.length * ((8 : Nat) + ((8 : Nat) + (8 : Nat))) ≤ big ∧
        ∀ (x_1 : Int × Bool × Int), x_1 ∈ x.fst → InR IntKind.i64 x_1.fst ∧ True ∧ InR IntKind.i64 x_1.snd.snd) ∧
      x.snd.length * (8 : Nat) ≤ big ∧ ∀ (x_1 : Int), x_1 ∈ x.snd → InR IntKind.i64 x_1) →
    True →
      True ∧
        (decide (handsF x.fst ≠ (0 : Int)) = true →
            [] = (swapF x.fst x.snd).fst ∧ handsF x.fst = (swapF x.fst x.snd).snd ∧ True) ∧
          (decide (handsF x.fst ≠ (0 : Int)) = false →
            (decide ((↑x.snd.length : Int) ≠ (256 : Int)) = true →
                [] = (swapF x.fst x.snd).fst ∧ (3 : Int) = (swapF x.fst x.snd).snd ∧ True) ∧
              (decide ((↑x.snd.length : Int) ≠ (256 : Int)) = false →
                (∀ (s : Int), s ∈ x.snd → (fun (x : Int) => True, fun (x : Int) => !there x).fst s) ∧
                  ((x.snd.any fun (x : Int) => !there x) = true →
                      [] = (swapF x.fst x.snd).fst ∧ (4 : Int) = (swapF x.fst x.snd).snd ∧ True) ∧
                    ((x.snd.any fun (x : Int) => !there x) = false →
                      True ∧
                        ((0 : Int) ≤ (0 : Int) ∧
                            (0 : Int) ≤ (↑x.fst.length : Int) ∧
                              handsF x.fst = (0 : Int) ∧
                                x.snd.length = (256 : Nat) ∧
                                  x.fst =
                                    List.map (swapSlot x.snd) (List.take (Int.toNat (0 : Int)) x.fst) ++
                                      List.drop (Int.toNat (0 : Int)) x.fst) ∧
                          ∀ (x_1 : List (Int × Bool × Int) × Unit × Int),
                            (0 : Int) ≤ x_1.snd.snd ∧
                                x_1.snd.snd ≤ (↑x.fst.length : Int) ∧
                                  handsF x.fst = (0 : Int) ∧
                                    x.snd.length = (256 : Nat) ∧
                                      x_1.fst =
                                        List.map (swapSlot x.snd) (List.take x_1.snd.snd.toNat x.fst) ++
                                          List.drop x_1.snd.snd.toNat x.fst →
                              (decide (x_1.snd.snd < (↑x.fst.length : Int)) = true →
                                  (0 : Int) ≤ x_1.snd.snd ∧
                                    x_1.snd.snd < (↑x_1.fst.length : Int) ∧
                                      x_1.snd.snd.toNat < x_1.fst.length ∧
                                        (((x_1.fst.getD x_1.snd.snd.toNat ((0 : Int), false, (0 : Int))).snd.fst =
                                                true →
                                              (0 : Int) ≤
                                                  (x_1.fst.getD x_1.snd.snd.toNat
                                                        ((0 : Int), false, (0 : Int))).snd.snd ∧
                                                (x_1.fst.getD x_1.snd.snd.toNat ((0 : Int), false, (0 : Int))).snd.snd <
                                                    (↑x.snd.length : Int) ∧
                                                  (0 : Int) ≤ x_1.snd.snd ∧
                                                    x_1.snd.snd < (↑x_1.fst.length : Int) ∧
                                                      x_1.snd.snd.toNat < x_1.fst.length ∧
                                                        x_1.fst.set x_1.snd.snd.toNat
                                                            ((x_1.fst.getD x_1.snd.snd.toNat
                                                                  ((0 : Int), false, (0 : Int))).fst,
                                                              (x_1.fst.getD x_1.snd.snd.toNat
                                                                    ((0 : Int), false, (0 : Int))).snd.fst,
                                                              x.snd.getD
                                                                (x_1.fst.getD x_1.snd.snd.toNat
                                                                        ((0 : Int), false, (0 : Int))).snd.snd.toNat
                                                                (0 : Int)) =
                                                          List.map (swapSlot x.snd)
                                                              (List.take (x_1.snd.snd.toNat + (1 : Nat)) x.fst) ++
                                                            List.drop (x_1.snd.snd.toNat + (1 : Nat)) x.fst) ∧
                                            ((x_1.fst.getD x_1.snd.snd.toNat ((0 : Int), false, (0 : Int))).snd.fst =
                                                false →
                                              x_1.fst =
                                                List.map (swapSlot x.snd)
                                                    (List.take (x_1.snd.snd.toNat + (1 : Nat)) x.fst) ++
                                                  List.drop (x_1.snd.snd.toNat + (1 : Nat)) x.fst)) ∧
                                          ∀ (x_2 : List (Int × Bool × Int) × Unit),
                                            x_2.fst =
                                                List.map (swapSlot x.snd)
                                                    (List.take (x_1.snd.snd.toNat + (1 : Nat)) x.fst) ++
                                                  List.drop (x_1.snd.snd.toNat + (1 : Nat)) x.fst →
                                              InR IntKind.i64 (x_1.snd.snd + (1 : Int)) ∧
                                                ((0 : Int) ≤ x_1.snd.snd + (1 : Int) ∧
                                                    x_1.snd.snd + (1 : Int) ≤ (↑x.fst.length : Int) ∧
                                                      handsF x.fst = (0 : Int) ∧
                                                        x.snd.length = (256 : Nat) ∧
                                                          x_2.fst =
                                                            List.map (swapSlot x.snd)
                                                                (List.take (x_1.snd.snd + (1 : Int)).toNat x.fst) ++
                                                              List.drop (x_1.snd.snd + (1 : Int)).toNat x.fst) ∧
                                                  ((↑x.fst.length : Int) - (x_1.snd.snd + (1 : Int))).toNat <
                                                    ((↑x.fst.length : Int) - x_1.snd.snd).toNat) ∧
                                (decide (x_1.snd.snd < (↑x.fst.length : Int)) = false →
                                  x_1.fst = (swapF x.fst x.snd).fst ∧
                                    (0 : Int) = (swapF x.fst x.snd).snd ∧ True))))
theorem vcp_handSwap : pv_handSwap := by
  unfold pv_handSwap
  intro ⟨h, to⟩ ⟨⟨_, hw⟩, hto, _⟩ _
  simp only at *
  refine ⟨trivial, fun hf => by unfold swapF; grind, fun hf => ⟨fun hl => by unfold swapF; grind, fun hl => ⟨fun _ _ => trivial, fun ha => by unfold swapF; grind, fun ha => ?_⟩⟩⟩
  have hf : handsF h = 0 := by simpa using hf
  have hl : to.length = 256 := by have : ((to.length : Nat) : Int) = 256 := by simpa using hl
                                  omega
  obtain ⟨z1, z2⟩ := handsF_zero hf
  have hS : swapF h to = (h.map (swapSlot to), 0) := by unfold swapF; rw [if_neg (by omega), if_neg (by omega), if_neg (by rw [ha]; simp)]
  refine ⟨trivial, ⟨by omega, by omega, hf, hl, by simp⟩, fun ⟨out, u, i⟩ ⟨h0, h1, _, _, h4⟩ => ⟨fun hlt => ?_, fun hge => ?_⟩⟩
  · have hlt : i < (h.length : Int) := by simpa using hlt
    simp only at *
    have hm := z2 _ (getD_mem ((0, false, 0) : Slot) h0 hlt)
    have hlen : out.length = h.length := by rw [h4]; exact mapTo_len _ _ _
    have hget : out.getD i.toNat (0, false, 0) = h.getD i.toNat (0, false, 0) := by rw [h4]; exact mapTo_get _ _ _ _ (by omega)
    have hset := mapTo_set (swapSlot to) h ((0, false, 0) : Slot) i.toNat (by omega)
    have hkeep := mapTo_keep (swapSlot to) h ((0, false, 0) : Slot) i.toNat (by omega)
    rw [← h4] at hset hkeep
    rw [hget]
    refine ⟨h0, by omega, by omega, ⟨fun ho => ⟨by omega, by omega, h0, by omega, by omega, ?_⟩, fun ho => ?_⟩, fun ⟨o2, _⟩ e2 => ⟨by simp only [InR]; omega, ⟨by omega, by omega, hf, hl, ?_⟩, by omega⟩⟩
    · rw [← hset]
      unfold swapSlot
      rw [if_pos ho]
    · apply hkeep
      unfold swapSlot
      rw [if_neg (by rw [ho]; simp)]
    · rw [show (i + 1).toNat = i.toNat + 1 by omega]
      exact e2
  · have hge : ¬ i < (h.length : Int) := by simpa using hge
    simp only at *
    rw [hS, h4, List.take_of_length_le (by omega), List.drop_of_length_le (by omega)]
    simp
theorem e_handSwap : pv_handSwap = fnVC Try.prog (tbl [(49, sp_handCheck), (53, sp_anyInt), (81, sp_notThere), (51, sp_cloneHands)]) an_handSwap Try.f45 sp_handSwap := by kernel_rfl
theorem vc_handSwap : fnVC Try.prog (tbl [(49, sp_handCheck), (53, sp_anyInt), (81, sp_notThere), (51, sp_cloneHands)]) an_handSwap Try.f45 sp_handSwap := @Eq.mp _ _ @e_handSwap @vcp_handSwap
theorem ok_handSwap : sp_handSwap.ok Try.prog 45 := fn_sound (P := Try.prog) (ss := tbl [(49, sp_handCheck), (53, sp_anyInt), (81, sp_notThere), (51, sp_cloneHands)]) (ann := an_handSwap) (f := 45) (fn := Try.f45) (s := sp_handSwap) (tbl_cons ok_handCheck (tbl_cons ok_anyInt (tbl_cons ok_notThere (tbl_cons ok_cloneHands tbl_nil)))) Try.func45 @vc_handSwap

def liveFrom : Int → List Slot → List Int
  | _, [] => []
  | k, s :: l => if s.2.1 = true then handName k s :: liveFrom (k + 1) l else liveFrom (k + 1) l
def liveF (h : List Slot) : List Int × Int := if handsF h ≠ 0 then ([], handsF h) else (liveFrom 0 h, 0)
def sp_handLive : Spec := { Ts := [.arr ty_Slot], Rs := [.own 29 ty_W, .dat ty_I], pre := fun _ => True, F := liveF }
def an_handLive : Nat → Option LoopGen
  | 6 => some { rd := [.dat 13 (.arr ty_Slot)], A := fun (h : List Slot) => { cs := [.own 5 29 ty_W, .dat 15 ty_I], inv := fun ((out, i) : List Int × Int) => 0 ≤ i ∧ i ≤ h.length ∧ handsF h = 0 ∧ out.length ≤ i ∧ out ++ liveFrom i (h.drop i.toNat) = liveFrom 0 h, mu := fun ((_, i) : List Int × Int) => (h.length - i).toNat } }
  | _ => none
def pv_handLive : Prop :=
    ∀ (x : List (Int × Bool × Int)),
  (x.length * ((8 : Nat) + ((8 : Nat) + (8 : Nat))) ≤ big ∧
      ∀ (x_1 : Int × Bool × Int), x_1 ∈ x → InR IntKind.i64 x_1.fst ∧ True ∧ InR IntKind.i64 x_1.snd.snd) →
    True →
      True ∧
        (decide (handsF x ≠ (0 : Int)) = true → [] = (liveF x).fst ∧ handsF x = (liveF x).snd ∧ True) ∧
          (decide (handsF x ≠ (0 : Int)) = false →
            ((0 : Int) ≤ (0 : Int) ∧
                (0 : Int) ≤ (↑x.length : Int) ∧
                  handsF x = (0 : Int) ∧
                    (↑(0 : Nat) : Int) ≤ (0 : Int) ∧
                      [] ++ liveFrom (0 : Int) (List.drop (Int.toNat (0 : Int)) x) = liveFrom (0 : Int) x) ∧
              ∀ (x_1 : List Int × Int),
                (0 : Int) ≤ x_1.snd ∧
                    x_1.snd ≤ (↑x.length : Int) ∧
                      handsF x = (0 : Int) ∧
                        (↑x_1.fst.length : Int) ≤ x_1.snd ∧
                          x_1.fst ++ liveFrom x_1.snd (List.drop x_1.snd.toNat x) = liveFrom (0 : Int) x →
                  (decide (x_1.snd < (↑x.length : Int)) = true →
                      (0 : Int) ≤ x_1.snd ∧
                        x_1.snd < (↑x.length : Int) ∧
                          ((x.getD x_1.snd.toNat ((0 : Int), false, (0 : Int))).snd.fst = true →
                              ((0 : Int) ≤ x_1.snd ∧
                                  x_1.snd < (65536 : Int) ∧
                                    (0 : Int) ≤ (x.getD x_1.snd.toNat ((0 : Int), false, (0 : Int))).fst ∧
                                      (x.getD x_1.snd.toNat ((0 : Int), false, (0 : Int))).fst ≤ (65535 : Int)) ∧
                                (x_1.fst.length +
                                        [handName x_1.snd
                                              (x.getD x_1.snd.toNat ((0 : Int), false, (0 : Int)))].length) *
                                      (8 : Nat) ≤
                                    big ∧
                                  InR IntKind.i64 (x_1.snd + (1 : Int)) ∧
                                    ((0 : Int) ≤ x_1.snd + (1 : Int) ∧
                                        x_1.snd + (1 : Int) ≤ (↑x.length : Int) ∧
                                          handsF x = (0 : Int) ∧
                                            (↑(x_1.fst ++
                                                        [handName x_1.snd
                                                            (x.getD x_1.snd.toNat
                                                              ((0 : Int), false, (0 : Int)))]).length :
                                                  Int) ≤
                                                x_1.snd + (1 : Int) ∧
                                              x_1.fst ++
                                                    [handName x_1.snd
                                                        (x.getD x_1.snd.toNat ((0 : Int), false, (0 : Int)))] ++
                                                  liveFrom (x_1.snd + (1 : Int))
                                                    (List.drop (x_1.snd + (1 : Int)).toNat x) =
                                                liveFrom (0 : Int) x) ∧
                                      ((↑x.length : Int) - (x_1.snd + (1 : Int))).toNat <
                                        ((↑x.length : Int) - x_1.snd).toNat) ∧
                            ((x.getD x_1.snd.toNat ((0 : Int), false, (0 : Int))).snd.fst = false →
                              InR IntKind.i64 (x_1.snd + (1 : Int)) ∧
                                ((0 : Int) ≤ x_1.snd + (1 : Int) ∧
                                    x_1.snd + (1 : Int) ≤ (↑x.length : Int) ∧
                                      handsF x = (0 : Int) ∧
                                        (↑x_1.fst.length : Int) ≤ x_1.snd + (1 : Int) ∧
                                          x_1.fst ++
                                              liveFrom (x_1.snd + (1 : Int)) (List.drop (x_1.snd + (1 : Int)).toNat x) =
                                            liveFrom (0 : Int) x) ∧
                                  ((↑x.length : Int) - (x_1.snd + (1 : Int))).toNat <
                                    ((↑x.length : Int) - x_1.snd).toNat)) ∧
                    (decide (x_1.snd < (↑x.length : Int)) = false →
                      x_1.fst = (liveF x).fst ∧ (0 : Int) = (liveF x).snd ∧ True))
theorem vcp_handLive : pv_handLive := by
  unfold pv_handLive
  intro h ⟨hb, _⟩ _
  refine ⟨trivial, fun hf => by unfold liveF; grind, fun hf => ?_⟩
  have hf : handsF h = 0 := by simpa using hf
  obtain ⟨z1, z2⟩ := handsF_zero hf
  have hL : liveF h = (liveFrom 0 h, 0) := by unfold liveF; rw [if_neg (by omega)]
  refine ⟨⟨by omega, by omega, hf, by omega, by simp⟩, fun ⟨out, i⟩ ⟨h0, h1, _, h3, h4⟩ => ⟨fun hlt => ?_, fun hge => ?_⟩⟩
  · have hlt : i < (h.length : Int) := by simpa using hlt
    simp only at *
    have hm := z2 _ (getD_mem ((0, false, 0) : Slot) h0 hlt)
    rw [drop_cons ((0, false, 0) : Slot) h0 hlt] at h4
    simp only [liveFrom] at h4
    generalize h.getD i.toNat (0, false, 0) = s at *
    unfold big
    refine ⟨h0, hlt, fun ho => ⟨⟨h0, by omega, hm.1, by omega⟩, by simp; omega, by simp only [InR]; omega, ⟨by omega, by omega, hf, by simp; omega, ?_⟩, by omega⟩, fun ho => ⟨by simp only [InR]; omega, ⟨by omega, by omega, hf, by omega, ?_⟩, by omega⟩⟩
    · rw [if_pos ho] at h4
      simpa using h4
    · rw [if_neg (by rw [ho]; simp)] at h4
      exact h4
  · have hge : ¬ i < (h.length : Int) := by simpa using hge
    simp only at *
    rw [drop_end hge] at h4
    simp only [liveFrom, List.append_nil] at h4
    rw [hL, h4]
    simp
theorem e_handLive : pv_handLive = fnVC Try.prog (tbl [(49, sp_handCheck), (79, sp_handName)]) an_handLive Try.f46 sp_handLive := by kernel_rfl
theorem vc_handLive : fnVC Try.prog (tbl [(49, sp_handCheck), (79, sp_handName)]) an_handLive Try.f46 sp_handLive := @Eq.mp _ _ @e_handLive @vcp_handLive
theorem ok_handLive : sp_handLive.ok Try.prog 46 := fn_sound (P := Try.prog) (ss := tbl [(49, sp_handCheck), (79, sp_handName)]) (ann := an_handLive) (f := 46) (fn := Try.f46) (s := sp_handLive) (tbl_cons ok_handCheck (tbl_cons ok_handName tbl_nil)) Try.func46 @vc_handLive

def sp_sameHands : Spec := { Ts := [.arr ty_Slot, .arr ty_Slot], Rs := [.dat .bool], pre := fun _ => True, F := fun (x : List Slot × List Slot) => decide (x.1 = x.2) }
def an_sameHands : Nat → Option LoopGen
  | 4 => some { rd := [.dat 0 (.arr ty_Slot), .dat 1 (.arr ty_Slot)], A := fun (g : List Slot × List Slot) => { cs := [.dat 13 ty_I], inv := fun (i : Int) => g.1.length = g.2.length ∧ 0 ≤ i ∧ i ≤ g.1.length ∧ g.1.take i.toNat = g.2.take i.toNat, mu := fun (i : Int) => (g.1.length - i).toNat } }
  | _ => none
def pv_sameHands : Prop :=
    ∀ (x : List (Int × Bool × Int) × List (Int × Bool × Int)),
  ((x.fst.length * ((8 : Nat) + ((8 : Nat) + (8 : Nat))) ≤ big ∧
        ∀ (x_1 : Int × Bool × Int), x_1 ∈ x.fst → InR IntKind.i64 x_1.fst ∧ True ∧ InR IntKind.i64 x_1.snd.snd) ∧
      x.snd.length * ((8 : Nat) + ((8 : Nat) + (8 : Nat))) ≤ big ∧
        ∀ (x_1 : Int × Bool × Int), x_1 ∈ x.snd → InR IntKind.i64 x_1.fst ∧ True ∧ InR IntKind.i64 x_1.snd.snd) →
    True →
      (decide ((↑x.fst.length : Int) ≠ (↑x.snd.length : Int)) = true → false = decide (x.fst = x.snd) ∧ True) ∧
        (decide ((↑x.fst.length : Int) ≠ (↑x.snd.length : Int)) = false →
          (x.fst.length = x.snd.length ∧
              (0 : Int) ≤ (0 : Int) ∧
                (0 : Int) ≤ (↑x.fst.length : Int) ∧
                  List.take (Int.toNat (0 : Int)) x.fst = List.take (Int.toNat (0 : Int)) x.snd) ∧
            ∀ (x_1 : Int),
              x.fst.length = x.snd.length ∧
                  (0 : Int) ≤ x_1 ∧
                    x_1 ≤ (↑x.fst.length : Int) ∧ List.take x_1.toNat x.fst = List.take x_1.toNat x.snd →
                (decide (x_1 < (↑x.fst.length : Int)) = true →
                    (0 : Int) ≤ x_1 ∧
                      x_1 < (↑x.fst.length : Int) ∧
                        (0 : Int) ≤ x_1 ∧
                          x_1 < (↑x.snd.length : Int) ∧
                            ((!(decide
                                        ((x.fst.getD x_1.toNat ((0 : Int), false, (0 : Int))).fst =
                                          (x.snd.getD x_1.toNat ((0 : Int), false, (0 : Int))).fst) &&
                                      ((x.fst.getD x_1.toNat ((0 : Int), false, (0 : Int))).snd.fst ==
                                          (x.snd.getD x_1.toNat ((0 : Int), false, (0 : Int))).snd.fst &&
                                        decide
                                          ((x.fst.getD x_1.toNat ((0 : Int), false, (0 : Int))).snd.snd =
                                            (x.snd.getD x_1.toNat ((0 : Int), false, (0 : Int))).snd.snd)))) =
                                  true →
                                false = decide (x.fst = x.snd) ∧ True) ∧
                              ((!(decide
                                        ((x.fst.getD x_1.toNat ((0 : Int), false, (0 : Int))).fst =
                                          (x.snd.getD x_1.toNat ((0 : Int), false, (0 : Int))).fst) &&
                                      ((x.fst.getD x_1.toNat ((0 : Int), false, (0 : Int))).snd.fst ==
                                          (x.snd.getD x_1.toNat ((0 : Int), false, (0 : Int))).snd.fst &&
                                        decide
                                          ((x.fst.getD x_1.toNat ((0 : Int), false, (0 : Int))).snd.snd =
                                            (x.snd.getD x_1.toNat ((0 : Int), false, (0 : Int))).snd.snd)))) =
                                  false →
                                InR IntKind.i64 (x_1 + (1 : Int)) ∧
                                  (x.fst.length = x.snd.length ∧
                                      (0 : Int) ≤ x_1 + (1 : Int) ∧
                                        x_1 + (1 : Int) ≤ (↑x.fst.length : Int) ∧
                                          List.take (x_1 + (1 : Int)).toNat x.fst =
                                            List.take (x_1 + (1 : Int)).toNat x.snd) ∧
                                    ((↑x.fst.length : Int) - (x_1 + (1 : Int))).toNat <
                                      ((↑x.fst.length : Int) - x_1).toNat)) ∧
                  (decide (x_1 < (↑x.fst.length : Int)) = false → true = decide (x.fst = x.snd) ∧ True))
theorem vcp_sameHands : pv_sameHands := by
  unfold pv_sameHands
  intro ⟨a, b⟩ ⟨⟨hb, _⟩, _⟩ _
  unfold big at hb
  simp only at *
  refine ⟨fun h => ?_, fun h => ?_⟩
  · have h : a.length ≠ b.length := by have := of_decide_eq_true h; omega
    have : a ≠ b := fun e => h (by rw [e])
    simp [this]
  have hl : a.length = b.length := by have := of_decide_eq_false h; omega
  refine ⟨⟨hl, by omega, by omega, by simp⟩, fun i ⟨_, h0, h1, ht⟩ => ⟨fun hlt => ?_, fun hge => ?_⟩⟩
  · have hlt : i < a.length := by simpa using hlt
    have key : ∀ s t : Slot, (!(decide (s.1 = t.1) && (s.2.1 == t.2.1 && decide (s.2.2 = t.2.2)))) = decide (s ≠ t) := by
      rintro ⟨s1, s2, s3⟩ ⟨t1, t2, t3⟩
      simp only [ne_eq, Prod.mk.injEq]
      by_cases e1 : s1 = t1 <;> by_cases e2 : s2 = t2 <;> by_cases e3 : s3 = t3 <;> simp [e1, e2, e3]
    simp only [key]
    refine ⟨h0, hlt, h0, by omega, fun hne => ?_, fun he => ?_⟩
    · have hne : a.getD i.toNat (0, false, 0) ≠ b.getD i.toNat (0, false, 0) := of_decide_eq_true hne
      have : a ≠ b := fun e => hne (by rw [e])
      simp [this]
    · have he : a.getD i.toNat (0, false, 0) = b.getD i.toNat (0, false, 0) := Classical.not_not.1 (of_decide_eq_false he)
      refine ⟨by simp only [InR]; omega, ⟨hl, by omega, by omega, ?_⟩, by omega⟩
      rw [show (i + 1).toNat = i.toNat + 1 by omega]
      exact take_step hl (by omega) ht he
  · have hge : ¬ i < a.length := by simpa using hge
    have hi : i.toNat = a.length := by omega
    rw [hi, List.take_of_length_le (Nat.le_refl _), List.take_of_length_le (by omega)] at ht
    simp [ht]
theorem e_sameHands : pv_sameHands = fnVC Try.prog (tbl []) an_sameHands Try.f47 sp_sameHands := by kernel_rfl
theorem vc_sameHands : fnVC Try.prog (tbl []) an_sameHands Try.f47 sp_sameHands := @Eq.mp _ _ @e_sameHands @vcp_sameHands
theorem ok_sameHands : sp_sameHands.ok Try.prog 47 := fn_sound (P := Try.prog) (ss := tbl []) (ann := an_sameHands) (f := 47) (fn := Try.f47) (s := sp_sameHands) tbl_nil Try.func47 @vc_sameHands

def handOfFrom (n : Int) : Int → List Slot → Int
  | _, [] => -1
  | k, s :: l => if s.2.1 = true ∧ handName k s = n then k else handOfFrom n (k + 1) l
def sp_handOf : Spec := { Ts := [.arr ty_Slot, ty_W], Rs := [.dat ty_I], pre := fun ((h, _) : List Slot × Int) => handsF h = 0, F := fun ((h, n) : List Slot × Int) => handOfFrom n 0 h }
def an_handOf : Nat → Option LoopGen
  | 2 => some { rd := [.dat 7 (.arr ty_Slot), .dat 1 ty_W], A := fun ((h, n) : List Slot × Int) => { cs := [.dat 9 ty_I], inv := fun (i : Int) => 0 ≤ i ∧ i ≤ h.length ∧ handsF h = 0 ∧ handOfFrom n i (h.drop i.toNat) = handOfFrom n 0 h, mu := fun (i : Int) => (h.length - i).toNat } }
  | _ => none
def pv_handOf : Prop :=
    ∀ (x : List (Int × Bool × Int) × Int),
  (x.fst.length * ((8 : Nat) + ((8 : Nat) + (8 : Nat))) ≤ big ∧
        ∀ (x_1 : Int × Bool × Int), x_1 ∈ x.fst → InR IntKind.i64 x_1.fst ∧ True ∧ InR IntKind.i64 x_1.snd.snd) ∧
      InR IntKind.u64 x.snd →
    handsF x.fst = (0 : Int) →
      ((0 : Int) ≤ (0 : Int) ∧
          (0 : Int) ≤ (↑x.fst.length : Int) ∧
            handsF x.fst = (0 : Int) ∧
              handOfFrom x.snd (0 : Int) (List.drop (Int.toNat (0 : Int)) x.fst) = handOfFrom x.snd (0 : Int) x.fst) ∧
        ∀ (x_1 : Int),
          (0 : Int) ≤ x_1 ∧
              x_1 ≤ (↑x.fst.length : Int) ∧
                handsF x.fst = (0 : Int) ∧
                  handOfFrom x.snd x_1 (List.drop x_1.toNat x.fst) = handOfFrom x.snd (0 : Int) x.fst →
            (decide (x_1 < (↑x.fst.length : Int)) = true →
                (0 : Int) ≤ x_1 ∧
                  x_1 < (↑x.fst.length : Int) ∧
                    ((x.fst.getD x_1.toNat ((0 : Int), false, (0 : Int))).snd.fst = true →
                        (0 : Int) ≤ x_1 ∧
                          x_1 < (65536 : Int) ∧
                            (0 : Int) ≤ (x.fst.getD x_1.toNat ((0 : Int), false, (0 : Int))).fst ∧
                              (x.fst.getD x_1.toNat ((0 : Int), false, (0 : Int))).fst ≤ (65535 : Int)) ∧
                      (((x.fst.getD x_1.toNat ((0 : Int), false, (0 : Int))).snd.fst &&
                              decide (handName x_1 (x.fst.getD x_1.toNat ((0 : Int), false, (0 : Int))) = x.snd)) =
                            true →
                          x_1 = handOfFrom x.snd (0 : Int) x.fst ∧ True) ∧
                        (((x.fst.getD x_1.toNat ((0 : Int), false, (0 : Int))).snd.fst &&
                              decide (handName x_1 (x.fst.getD x_1.toNat ((0 : Int), false, (0 : Int))) = x.snd)) =
                            false →
                          InR IntKind.i64 (x_1 + (1 : Int)) ∧
                            ((0 : Int) ≤ x_1 + (1 : Int) ∧
                                x_1 + (1 : Int) ≤ (↑x.fst.length : Int) ∧
                                  handsF x.fst = (0 : Int) ∧
                                    handOfFrom x.snd (x_1 + (1 : Int)) (List.drop (x_1 + (1 : Int)).toNat x.fst) =
                                      handOfFrom x.snd (0 : Int) x.fst) ∧
                              ((↑x.fst.length : Int) - (x_1 + (1 : Int))).toNat <
                                ((↑x.fst.length : Int) - x_1).toNat)) ∧
              (decide (x_1 < (↑x.fst.length : Int)) = false →
                (-1 : Int) = handOfFrom x.snd (0 : Int) x.fst ∧ True)
theorem vcp_handOf : pv_handOf := by
  unfold pv_handOf
  intro ⟨h, n⟩ ⟨⟨_, _⟩, _⟩ hf
  simp only at *
  obtain ⟨z1, z2⟩ := handsF_zero hf
  refine ⟨⟨by omega, by omega, hf, by simp⟩, fun i ⟨h0, h1, _, h3⟩ => ⟨fun hlt => ?_, fun hge => ?_⟩⟩
  · have hlt : i < (h.length : Int) := by simpa using hlt
    have hm := z2 _ (getD_mem ((0, false, 0) : Slot) h0 hlt)
    rw [drop_cons ((0, false, 0) : Slot) h0 hlt] at h3
    simp only [handOfFrom] at h3
    generalize h.getD i.toNat (0, false, 0) = s at *
    refine ⟨h0, hlt, fun _ => ⟨h0, by omega, hm.1, by omega⟩, fun hc => ?_, fun hc => ⟨by simp only [InR]; omega, ⟨by omega, by omega, hf, ?_⟩, by omega⟩⟩
    · rw [if_pos (by simpa using hc)] at h3
      exact ⟨h3, trivial⟩
    · rw [if_neg (by simpa using hc)] at h3
      exact h3
  · have hge : ¬ i < (h.length : Int) := by simpa using hge
    rw [drop_end hge] at h3
    exact ⟨h3, trivial⟩
theorem e_handOf : pv_handOf = fnVC Try.prog (tbl [(50, sp_rHandName)]) an_handOf Try.f52 sp_handOf := by kernel_rfl
theorem vc_handOf : fnVC Try.prog (tbl [(50, sp_rHandName)]) an_handOf Try.f52 sp_handOf := @Eq.mp _ _ @e_handOf @vcp_handOf
theorem ok_handOf : sp_handOf.ok Try.prog 52 := fn_sound (P := Try.prog) (ss := tbl [(50, sp_rHandName)]) (ann := an_handOf) (f := 52) (fn := Try.f52) (s := sp_handOf) (tbl_cons ok_rHandName tbl_nil) Try.func52 @vc_handOf

end Go.Proofs.Ytjkmfgneonifeaa
