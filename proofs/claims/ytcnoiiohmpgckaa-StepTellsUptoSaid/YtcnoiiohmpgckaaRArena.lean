
import Derived.Test.YtcnoiiohmpgckaaWalks
import Derived.Test.YtcnoiiohmpgckaaInts
namespace Go.Proofs.Ytcnoiiohmpgckaa
open Go
set_option maxRecDepth 100000
set_option maxHeartbeats 1000000
def sp_rSpots : Spec := { Ts := [.arr ty_W], Rs := [.own 158 ty_Spot, .dat ty_I], pre := fun _ => True, F := spotsF }
def an_rSpots : Nat → Option LoopGen
  | 6 => some { rd := [.dat 12 (.arr ty_W)], A := fun (a : List Int) => { cs := [.own 4 158 ty_Spot, .dat 5 ty_I, .dat 14 ty_I], inv := fun ((out, nx, at_) : List Spot × Int × Int) => a.length ≤ 256 ∧ 0 ≤ at_ ∧ at_ ≤ a.length ∧ at_ ≤ nx ∧ nx ≤ a.length ∧ out.length ≤ at_ ∧ spotsS 0 a = (spotsS nx (a.drop nx.toNat)).map (out ++ ·), mu := fun ((_, _, at_) : List Spot × Int × Int) => (a.length - at_).toNat } }
  | _ => none
def pv_rSpots : Prop :=
    ∀ (x : List Int), (x.length * 8 ≤ big ∧ ∀ (x_1 : Int), x_1 ∈ x → InR IntKind.u64 x_1) → True → (decide (256 < (↑x.length : Int)) = true → ([] : List (Int × Int × Int × Int × Bool)) = (spotsF x).1 ∧ 2 = (spotsF x).2 ∧ True) ∧ (decide (256 < (↑x.length : Int)) = false → (x.length ≤ 256 ∧ (0 : Int) ≤ 0 ∧ 0 ≤ (↑x.length : Int) ∧ (0 : Int) ≤ 0 ∧ 0 ≤ (↑x.length : Int) ∧ (↑0 : Int) ≤ 0 ∧ spotsS 0 x = Option.map (fun (x : List Spot) => ([] : List (Int × Int × Int × Int × Bool)) ++ x) (spotsS 0 (List.drop (Int.toNat 0) x))) ∧ ∀ (x_1 : List (Int × Int × Int × Int × Bool) × Int × Int), x.length ≤ 256 ∧ 0 ≤ x_1.2.2 ∧ x_1.2.2 ≤ (↑x.length : Int) ∧ x_1.2.2 ≤ x_1.2.1 ∧ x_1.2.1 ≤ (↑x.length : Int) ∧ (↑x_1.1.length : Int) ≤ x_1.2.2 ∧ spotsS 0 x = Option.map (fun (x : List Spot) => x_1.1 ++ x) (spotsS x_1.2.1 (List.drop x_1.2.1.toNat x)) → (decide (x_1.2.2 < (↑x.length : Int)) = true → (decide (x_1.2.2 ≠ x_1.2.1) = true → InR IntKind.i64 (x_1.2.2 + 1) ∧ (x.length ≤ 256 ∧ 0 ≤ x_1.2.2 + 1 ∧ x_1.2.2 + 1 ≤ (↑x.length : Int) ∧ x_1.2.2 + 1 ≤ x_1.2.1 ∧ x_1.2.1 ≤ (↑x.length : Int) ∧ (↑x_1.1.length : Int) ≤ x_1.2.2 + 1 ∧ spotsS 0 x = Option.map (fun (x : List Spot) => x_1.1 ++ x) (spotsS x_1.2.1 (List.drop x_1.2.1.toNat x))) ∧ ((↑x.length : Int) - (x_1.2.2 + 1)).toNat < ((↑x.length : Int) - x_1.2.2).toNat) ∧ (decide (x_1.2.2 ≠ x_1.2.1) = false → 0 ≤ x_1.2.2 ∧ x_1.2.2 < (↑x.length : Int) ∧ True ∧ ((!isHead (x.getD x_1.2.2.toNat 0)) = false → InR IntKind.i64 (1 + (if isHead (x.getD x_1.2.2.toNat 0) = true then headOf (x.getD x_1.2.2.toNat 0) else headNone).1) ∧ InR IntKind.i64 (1 + (if isHead (x.getD x_1.2.2.toNat 0) = true then headOf (x.getD x_1.2.2.toNat 0) else headNone).1 + (if isHead (x.getD x_1.2.2.toNat 0) = true then headOf (x.getD x_1.2.2.toNat 0) else headNone).2.1)) ∧ ((!isHead (x.getD x_1.2.2.toNat 0)) = false → InR IntKind.i64 (x_1.2.2 + headLong (if isHead (x.getD x_1.2.2.toNat 0) = true then headOf (x.getD x_1.2.2.toNat 0) else headNone))) ∧ ((!isHead (x.getD x_1.2.2.toNat 0) || decide ((↑x.length : Int) < x_1.2.2 + headLong (if isHead (x.getD x_1.2.2.toNat 0) = true then headOf (x.getD x_1.2.2.toNat 0) else headNone))) = true → ([] : List (Int × Int × Int × Int × Bool)) = (spotsF x).1 ∧ 3 = (spotsF x).2 ∧ True) ∧ ((!isHead (x.getD x_1.2.2.toNat 0) || decide ((↑x.length : Int) < x_1.2.2 + headLong (if isHead (x.getD x_1.2.2.toNat 0) = true then headOf (x.getD x_1.2.2.toNat 0) else headNone))) = false → (x_1.1.length + [(x_1.2.2, if isHead (x.getD x_1.2.2.toNat 0) = true then headOf (x.getD x_1.2.2.toNat 0) else headNone)].length) * (8 + (8 + (8 + (8 + 8)))) ≤ big ∧ (InR IntKind.i64 (1 + (if isHead (x.getD x_1.2.2.toNat 0) = true then headOf (x.getD x_1.2.2.toNat 0) else headNone).1) ∧ InR IntKind.i64 (1 + (if isHead (x.getD x_1.2.2.toNat 0) = true then headOf (x.getD x_1.2.2.toNat 0) else headNone).1 + (if isHead (x.getD x_1.2.2.toNat 0) = true then headOf (x.getD x_1.2.2.toNat 0) else headNone).2.1)) ∧ InR IntKind.i64 (x_1.2.2 + headLong (if isHead (x.getD x_1.2.2.toNat 0) = true then headOf (x.getD x_1.2.2.toNat 0) else headNone)) ∧ InR IntKind.i64 (x_1.2.2 + 1) ∧ (x.length ≤ 256 ∧ 0 ≤ x_1.2.2 + 1 ∧ x_1.2.2 + 1 ≤ (↑x.length : Int) ∧ x_1.2.2 + 1 ≤ x_1.2.2 + headLong (if isHead (x.getD x_1.2.2.toNat 0) = true then headOf (x.getD x_1.2.2.toNat 0) else headNone) ∧ x_1.2.2 + headLong (if isHead (x.getD x_1.2.2.toNat 0) = true then headOf (x.getD x_1.2.2.toNat 0) else headNone) ≤ (↑x.length : Int) ∧ (↑(x_1.1 ++ [(x_1.2.2, if isHead (x.getD x_1.2.2.toNat 0) = true then headOf (x.getD x_1.2.2.toNat 0) else headNone)]).length : Int) ≤ x_1.2.2 + 1 ∧ spotsS 0 x = Option.map (fun (x_2 : List Spot) => x_1.1 ++ [(x_1.2.2, if isHead (x.getD x_1.2.2.toNat 0) = true then headOf (x.getD x_1.2.2.toNat 0) else headNone)] ++ x_2) (spotsS (x_1.2.2 + headLong (if isHead (x.getD x_1.2.2.toNat 0) = true then headOf (x.getD x_1.2.2.toNat 0) else headNone)) (List.drop (x_1.2.2 + headLong (if isHead (x.getD x_1.2.2.toNat 0) = true then headOf (x.getD x_1.2.2.toNat 0) else headNone)).toNat x))) ∧ ((↑x.length : Int) - (x_1.2.2 + 1)).toNat < ((↑x.length : Int) - x_1.2.2).toNat))) ∧ (decide (x_1.2.2 < (↑x.length : Int)) = false → x_1.1 = (spotsF x).1 ∧ 0 = (spotsF x).2 ∧ True))
theorem vcp_rSpots : pv_rSpots := by
  unfold pv_rSpots
  intro a ⟨hb, hw⟩ _
  by_cases cl : 256 < a.length
  · have e : spotsF a = ([], 2) := by unfold spotsF; rw [if_pos cl]
    simp [e]
    omega
  have eF : spotsF a = match spotsS 0 a with | none => ([], 3) | some l => (l, 0) := by unfold spotsF; rw [if_neg cl]; rfl
  refine ⟨fun h => by simp at h; omega, fun _ => ⟨⟨by omega, by omega, by omega, by omega, by omega, by simp, by simp⟩, fun ⟨out, nx, k⟩ ⟨_, h0, h1, h4, h5, h2, h3⟩ => ⟨fun hlt0 => ?_, fun hge => ?_⟩⟩⟩
  · have hlt : k < (a.length : Int) := of_decide_eq_true hlt0
    clear hlt0
    simp only at h0 h1 h2 h3 h4 h5 hlt ⊢
    refine ⟨fun hne => ?_, fun heq => ?_⟩
    · have hne : k ≠ nx := by simpa using hne
      simp only [InR]
      exact ⟨by omega, ⟨by omega, by omega, by omega, by omega, by omega, by omega, h3⟩, by omega⟩
    have heq : k = nx := by simpa using heq
    subst heq
    rw [drop_cons (0 : Int) h0 hlt] at h3
    have hdl : (((a.getD k.toNat 0 :: a.drop (k + 1).toNat).length : Nat) : Int) = a.length - k := by rw [List.length_cons, List.length_drop]; omega
    have hdd : ∀ n : Int, 0 ≤ n → (a.getD k.toNat 0 :: a.drop (k + 1).toNat).drop n.toNat = a.drop (k + n).toNat := fun n hn => by
      rw [← drop_cons (0 : Int) h0 hlt, List.drop_drop]
      congr 1
      omega
    generalize a.getD k.toNat 0 = v at *
    by_cases g1 : isHead v = true
    · have hl := isHead_long g1
      have hf : headFault (headOf v) = 0 := by
        have := g1
        simp only [isHead, Bool.and_eq_true, beq_iff_eq] at this
        exact this.2
      have hz := headFault_zero hf
      have hL : headLong (headOf v) = 1 + (headOf v).1 + (headOf v).2.1 := rfl
      simp only [g1, if_true, Bool.not_true, Bool.false_or, InR]
      refine ⟨h0, hlt, trivial, fun _ => ⟨by omega, by omega⟩, fun _ => by omega, fun hc => ?_, fun hc => ?_⟩
      · have hc := of_decide_eq_true hc
        rw [spotsS_none (by rintro ⟨_, g2⟩; omega)] at h3
        rw [eF, h3]
        exact ⟨rfl, rfl, trivial⟩
      · have hc := of_decide_eq_false hc
        rw [spotsS_cons g1 (by omega), hdd _ (by omega), Option.map_map] at h3
        unfold big
        simp only [List.length_append, List.length_cons, List.length_nil]
        refine ⟨by omega, ⟨by omega, by omega⟩, by omega, by omega, ⟨by omega, by omega, by omega, by omega, by omega, by omega, ?_⟩, by omega⟩
        rw [h3]
        congr 1
        funext x
        simp
    · have g1' : isHead v = false := by simpa using g1
      rw [spotsS_none (fun h => g1 h.1)] at h3
      simp only [g1', Bool.not_false, Bool.true_or]
      refine ⟨h0, hlt, trivial, fun h => by simp at h, fun h => by simp at h, fun _ => ?_, fun h => by simp at h⟩
      rw [eF, h3]
      exact ⟨rfl, rfl, trivial⟩
  · have hge : ¬ k < (a.length : Int) := by simpa using hge
    simp only at *
    rw [drop_end (by omega)] at h3
    simp only [spotsS, Option.map_some, List.append_nil] at h3
    rw [eF, h3]
    exact ⟨rfl, rfl, trivial⟩
theorem ok_rSpots : sp_rSpots.ok Try.prog 87 := fn_ok (ann := an_rSpots) (tbl_cons ok_rHeadRead (tbl_cons ok_rHeadLong tbl_nil)) Try.func87 (by kernel_rfl) vcp_rSpots
def headAtL (at_ : Int) : List Spot → Head × Bool
  | [] => (headNone, false)
  | s :: l => if s.1 = at_ ∧ s.2.2.2.2 = false then (s.2, true) else headAtL at_ l
theorem headAtL_in (at_ : Int) : ∀ (l : List Spot), headAtL at_ l = (headNone, false) ∨ ∃ s ∈ l, s.1 = at_ ∧ s.2.2.2.2 = false ∧ headAtL at_ l = (s.2, true)
  | [] => .inl rfl
  | s :: l => by
    simp only [headAtL]
    split
    · rename_i h
      exact .inr ⟨s, by simp, h.1, h.2, rfl⟩
    · rcases headAtL_in at_ l with h | ⟨t, h1, h2⟩
      · exact .inl h
      · exact .inr ⟨t, by simp [h1], h2⟩
def an_rHeadAt : Nat → Option LoopGen
  | 3 => some { rd := [.own 15 158 ty_Spot, .dat 1 ty_I], A := fun ((l, at_) : List Spot × Int) => { cs := [.box 4 ty_Head, .dat 17 ty_I], inv := fun ((_, i) : Head × Int) => 0 ≤ i ∧ i ≤ l.length ∧ l.length ≤ 256 ∧ headAtL at_ (l.drop i.toNat) = headAtL at_ l, mu := fun ((_, i) : Head × Int) => (l.length - i).toNat } }
  | _ => none
def sp_rHeadAt : Spec := { Ts := [.arr ty_W, ty_I], Rs := [.dat ty_Head, .dat .bool], pre := fun _ => True, F := fun ((a, at_) : List Int × Int) => headAtL at_ (spotsF a).1 }
def pv_rHeadAt : Prop :=
    ∀ (x : List Int × Int), (x.1.length * 8 ≤ big ∧ ∀ (x_1 : Int), x_1 ∈ x.1 → InR IntKind.u64 x_1) ∧ InR IntKind.i64 x.2 → True → True ∧ ((0 : Int) ≤ 0 ∧ 0 ≤ (↑(spotsF x.1).1.length : Int) ∧ (spotsF x.1).1.length ≤ 256 ∧ headAtL x.2 (List.drop (Int.toNat 0) (spotsF x.1).1) = headAtL x.2 (spotsF x.1).1) ∧ ∀ (x_1 : (Int × Int × Int × Bool) × Int), 0 ≤ x_1.2 ∧ x_1.2 ≤ (↑(spotsF x.1).1.length : Int) ∧ (spotsF x.1).1.length ≤ 256 ∧ headAtL x.2 (List.drop x_1.2.toNat (spotsF x.1).1) = headAtL x.2 (spotsF x.1).1 → (decide (x_1.2 < (↑(spotsF x.1).1.length : Int)) = true → 0 ≤ x_1.2 ∧ x_1.2 < (↑(spotsF x.1).1.length : Int) ∧ x_1.2.toNat < (spotsF x.1).1.length ∧ ((decide (((spotsF x.1).1.getD x_1.2.toNat (0, 0, 0, 0, false)).1 = x.2) && !((spotsF x.1).1.getD x_1.2.toNat (0, 0, 0, 0, false)).2.2.2.2) = true → ((spotsF x.1).1.getD x_1.2.toNat (0, 0, 0, 0, false)).2 = (headAtL x.2 (spotsF x.1).1).1 ∧ true = (headAtL x.2 (spotsF x.1).1).2 ∧ True) ∧ ((decide (((spotsF x.1).1.getD x_1.2.toNat (0, 0, 0, 0, false)).1 = x.2) && !((spotsF x.1).1.getD x_1.2.toNat (0, 0, 0, 0, false)).2.2.2.2) = false → InR IntKind.i64 (x_1.2 + 1) ∧ (0 ≤ x_1.2 + 1 ∧ x_1.2 + 1 ≤ (↑(spotsF x.1).1.length : Int) ∧ (spotsF x.1).1.length ≤ 256 ∧ headAtL x.2 (List.drop (x_1.2 + 1).toNat (spotsF x.1).1) = headAtL x.2 (spotsF x.1).1) ∧ ((↑(spotsF x.1).1.length : Int) - (x_1.2 + 1)).toNat < ((↑(spotsF x.1).1.length : Int) - x_1.2).toNat)) ∧ (decide (x_1.2 < (↑(spotsF x.1).1.length : Int)) = false → (0, 0, 0, false) = (headAtL x.2 (spotsF x.1).1).1 ∧ false = (headAtL x.2 (spotsF x.1).1).2 ∧ True)
theorem vcp_rHeadAt : pv_rHeadAt := by
  unfold pv_rHeadAt
  intro ⟨a, at_⟩ _ _
  have hlen := spotsF_length a
  simp only at *
  generalize (spotsF a).1 = l at *
  refine ⟨trivial, ⟨by omega, by omega, hlen, by simp⟩, fun ⟨_, i⟩ ⟨h0, h1, _, h2⟩ => ⟨fun hlt => ?_, fun hge => ?_⟩⟩
  · have hlt : i < (l.length : Int) := by simpa using hlt
    simp only at h0 h1 h2 ⊢
    rw [drop_cons ((0, 0, 0, 0, false) : Spot) h0 hlt] at h2
    simp only [headAtL] at h2
    generalize l.getD i.toNat (0, 0, 0, 0, false) = s at *
    simp only [InR]
    refine ⟨h0, hlt, by omega, fun hc => ?_, fun hc => ?_⟩
    · have hc : s.1 = at_ ∧ s.2.2.2.2 = false := by simpa using hc
      rw [if_pos hc] at h2
      rw [← h2]
      exact ⟨rfl, rfl, trivial⟩
    · have hc : ¬ (s.1 = at_ ∧ s.2.2.2.2 = false) := by
        rintro ⟨g1, g2⟩
        rw [g1, g2] at hc
        simp at hc
      rw [if_neg hc] at h2
      exact ⟨by omega, ⟨by omega, by omega, hlen, h2⟩, by omega⟩
  · rw [drop_end (by simpa using hge)] at h2
    rw [← h2]
    exact ⟨rfl, rfl, trivial⟩
theorem ok_rHeadAt : sp_rHeadAt.ok Try.prog 56 := fn_ok (ann := an_rHeadAt) (tbl_cons ok_rSpots tbl_nil) Try.func56 (by kernel_rfl) vcp_rHeadAt
theorem slice_snoc {α : Type} {a : List α} {p q : Nat} (d : α) (h : p ≤ q) (hq : q < a.length) : (a.take (q + 1)).drop p = (a.take q).drop p ++ [a.getD q d] := by
  rw [List.take_succ_eq_append_getElem hq, List.drop_append_of_le_length (by rw [List.length_take]; omega)]
  simp [hq]
def nameOf (v : Int) : Int := (if 256 < v then 9999 else v) - 1
def namedL (a : List Int) (at_ : Int) (h : Head) : List Int := ((a.take (at_ + 1 + h.1).toNat).drop (at_ + 1).toNat).map nameOf
def an_rNamed : Nat → Option LoopGen
  | 4 => some { rd := [.dat 0 (.arr ty_W), .dat 1 ty_I, .dat 17 ty_I], A := fun ((a, at_, n) : List Int × Int × Int) => { cs := [.own 7 3 ty_I, .dat 18 ty_I], inv := fun ((out, k) : List Int × Int) => 0 ≤ k ∧ k ≤ n ∧ out.length = k ∧ (0 < n → 0 ≤ at_ ∧ at_ + 1 + n ≤ a.length ∧ a.length ≤ 256) ∧ out = ((a.take (at_ + 1 + k).toNat).drop (at_ + 1).toNat).map nameOf, mu := fun ((_, k) : List Int × Int) => (n - k).toNat } }
  | _ => none
def sp_rNamed : Spec := { Ts := [.arr ty_W, ty_I], Rs := [.own 3 ty_I], pre := fun _ => True, F := fun ((a, at_) : List Int × Int) => namedL a at_ (headAtL at_ (spotsF a).1).1 }
def pv_rNamed : Prop :=
    ∀ (x : List Int × Int), (x.1.length * 8 ≤ big ∧ ∀ (x_1 : Int), x_1 ∈ x.1 → InR IntKind.u64 x_1) ∧ InR IntKind.i64 x.2 → True → True ∧ ((0 : Int) ≤ 0 ∧ 0 ≤ (headAtL x.2 (spotsF x.1).1).1.1 ∧ (↑0 : Int) = 0 ∧ (0 < (headAtL x.2 (spotsF x.1).1).1.1 → 0 ≤ x.2 ∧ x.2 + 1 + (headAtL x.2 (spotsF x.1).1).1.1 ≤ (↑x.1.length : Int) ∧ x.1.length ≤ 256) ∧ ([] : List Int) = List.map nameOf (List.drop (x.2 + 1).toNat (List.take (x.2 + 1 + 0).toNat x.1))) ∧ ∀ (x_1 : List Int × Int), 0 ≤ x_1.2 ∧ x_1.2 ≤ (headAtL x.2 (spotsF x.1).1).1.1 ∧ (↑x_1.1.length : Int) = x_1.2 ∧ (0 < (headAtL x.2 (spotsF x.1).1).1.1 → 0 ≤ x.2 ∧ x.2 + 1 + (headAtL x.2 (spotsF x.1).1).1.1 ≤ (↑x.1.length : Int) ∧ x.1.length ≤ 256) ∧ x_1.1 = List.map nameOf (List.drop (x.2 + 1).toNat (List.take (x.2 + 1 + x_1.2).toNat x.1)) → (decide (x_1.2 < (headAtL x.2 (spotsF x.1).1).1.1) = true → InR IntKind.i64 (x.2 + 1) ∧ InR IntKind.i64 (x.2 + 1 + x_1.2) ∧ 0 ≤ x.2 + 1 + x_1.2 ∧ x.2 + 1 + x_1.2 < (↑x.1.length : Int) ∧ (decide (256 < x.1.getD (x.2 + 1 + x_1.2).toNat 0) = true → InR IntKind.i64 (IntKind.i64.wrap 9999 - 1) ∧ (x_1.1.length + [IntKind.i64.wrap 9999 - 1].length) * 8 ≤ big ∧ InR IntKind.i64 (x_1.2 + 1) ∧ (0 ≤ x_1.2 + 1 ∧ x_1.2 + 1 ≤ (headAtL x.2 (spotsF x.1).1).1.1 ∧ (↑(x_1.1 ++ [IntKind.i64.wrap 9999 - 1]).length : Int) = x_1.2 + 1 ∧ (0 < (headAtL x.2 (spotsF x.1).1).1.1 → 0 ≤ x.2 ∧ x.2 + 1 + (headAtL x.2 (spotsF x.1).1).1.1 ≤ (↑x.1.length : Int) ∧ x.1.length ≤ 256) ∧ x_1.1 ++ [IntKind.i64.wrap 9999 - 1] = List.map nameOf (List.drop (x.2 + 1).toNat (List.take (x.2 + 1 + (x_1.2 + 1)).toNat x.1))) ∧ ((headAtL x.2 (spotsF x.1).1).1.1 - (x_1.2 + 1)).toNat < ((headAtL x.2 (spotsF x.1).1).1.1 - x_1.2).toNat) ∧ (decide (256 < x.1.getD (x.2 + 1 + x_1.2).toNat 0) = false → InR IntKind.i64 (IntKind.i64.wrap (x.1.getD (x.2 + 1 + x_1.2).toNat 0) - 1) ∧ (x_1.1.length + [IntKind.i64.wrap (x.1.getD (x.2 + 1 + x_1.2).toNat 0) - 1].length) * 8 ≤ big ∧ InR IntKind.i64 (x_1.2 + 1) ∧ (0 ≤ x_1.2 + 1 ∧ x_1.2 + 1 ≤ (headAtL x.2 (spotsF x.1).1).1.1 ∧ (↑(x_1.1 ++ [IntKind.i64.wrap (x.1.getD (x.2 + 1 + x_1.2).toNat 0) - 1]).length : Int) = x_1.2 + 1 ∧ (0 < (headAtL x.2 (spotsF x.1).1).1.1 → 0 ≤ x.2 ∧ x.2 + 1 + (headAtL x.2 (spotsF x.1).1).1.1 ≤ (↑x.1.length : Int) ∧ x.1.length ≤ 256) ∧ x_1.1 ++ [IntKind.i64.wrap (x.1.getD (x.2 + 1 + x_1.2).toNat 0) - 1] = List.map nameOf (List.drop (x.2 + 1).toNat (List.take (x.2 + 1 + (x_1.2 + 1)).toNat x.1))) ∧ ((headAtL x.2 (spotsF x.1).1).1.1 - (x_1.2 + 1)).toNat < ((headAtL x.2 (spotsF x.1).1).1.1 - x_1.2).toNat)) ∧ (decide (x_1.2 < (headAtL x.2 (spotsF x.1).1).1.1) = false → x_1.1 = namedL x.1 x.2 (headAtL x.2 (spotsF x.1).1).1 ∧ True)
theorem vcp_rNamed : pv_rNamed := by
  unfold pv_rNamed
  intro ⟨a, at_⟩ ⟨⟨hb, hw⟩, _⟩ _
  have hin : 0 ≤ (headAtL at_ (spotsF a).1).1.1 ∧ (0 < (headAtL at_ (spotsF a).1).1.1 → 0 ≤ at_ ∧ at_ + 1 + (headAtL at_ (spotsF a).1).1.1 ≤ a.length ∧ a.length ≤ 256) := by
    rcases headAtL_in at_ (spotsF a).1 with e | ⟨s, h1, h2, _, e⟩
    · rw [e]; simp [headNone]
    · rw [e]
      have hz : (spotsF a).2 = 0 := by
        unfold spotsF at h1 ⊢
        split at h1
        · simp at h1
        · rename_i cl
          rw [if_neg cl]
          cases hs : spotsS 0 a with
          | none => rw [hs] at h1; simp at h1
          | some l => rfl
      obtain ⟨k1, k2⟩ := spotsF_in hz
      have := (k2 s h1).1
      unfold spotIn at this
      simp only
      omega
  have hF : namedL a at_ (headAtL at_ (spotsF a).1).1 = ((a.take (at_ + 1 + (headAtL at_ (spotsF a).1).1.1).toNat).drop (at_ + 1).toNat).map nameOf := rfl
  simp only at *
  rw [hF]
  generalize (headAtL at_ (spotsF a).1).1.1 = n at *
  clear hF
  obtain ⟨hn, hin⟩ := hin
  refine ⟨trivial, ⟨by omega, hn, by simp, hin, ?_⟩, fun ⟨out, k⟩ ⟨h0, h1, h2, _, h3⟩ => ⟨fun hlt => ?_, fun hge => ?_⟩⟩
  · rw [Int.add_zero, List.drop_of_length_le (by rw [List.length_take]; omega)]
    rfl
  · have hlt : k < n := of_decide_eq_true hlt
    simp only at h0 h1 h2 h3 ⊢
    obtain ⟨q1, q2, q3⟩ := hin (by omega)
    have hs := slice_snoc (a := a) (p := (at_ + 1).toNat) (q := (at_ + 1 + k).toNat) 0 (by omega) (by omega)
    rw [show (at_ + 1 + k).toNat + 1 = (at_ + 1 + (k + 1)).toNat by omega] at hs
    have hv := hw _ (getD_mem (0 : Int) (xs := a) (i := at_ + 1 + k) (by omega) (by omega))
    rw [hs, List.map_append, ← h3]
    generalize a.getD (at_ + 1 + k).toNat 0 = v at *
    unfold big
    simp only [InR] at hv
    simp only [InR, List.length_append, List.length_cons, List.length_nil]
    refine ⟨by omega, by omega, by omega, by omega, fun hc => ?_, fun hc => ?_⟩
    · have hc := of_decide_eq_true hc
      rw [wrapI (by omega) (by omega)]
      exact ⟨by omega, by omega, by omega, ⟨by omega, by omega, by omega, hin, by simp [nameOf, hc]⟩, by omega⟩
    · have hc := of_decide_eq_false hc
      rw [wrapI (by omega) (by omega)]
      exact ⟨by omega, by omega, by omega, ⟨by omega, by omega, by omega, hin, by simp [nameOf, hc]⟩, by omega⟩
  · have hge : ¬ k < n := of_decide_eq_false hge
    simp only at h0 h1 h2 h3
    rw [h3, show k = n by omega]
    exact ⟨rfl, trivial⟩
theorem ok_rNamed : sp_rNamed.ok Try.prog 69 := fn_ok (ann := an_rNamed) (tbl_cons ok_rHeadAt tbl_nil) Try.func69 (by kernel_rfl) vcp_rNamed
def beginsL : List Spot → List Int
  | [] => []
  | s :: l => if s.2.2.2.2 = true then beginsL l else s.1 :: beginsL l
def an_rBegins : Nat → Option LoopGen
  | 4 => some { rd := [.own 13 158 ty_Spot], A := fun (l : List Spot) => { cs := [.own 5 3 ty_I, .dat 15 ty_I], inv := fun ((out, i) : List Int × Int) => 0 ≤ i ∧ i ≤ l.length ∧ l.length ≤ 256 ∧ out.length ≤ i ∧ out ++ beginsL (l.drop i.toNat) = beginsL l, mu := fun ((_, i) : List Int × Int) => (l.length - i).toNat } }
  | _ => none
def sp_rBegins : Spec := { Ts := [.arr ty_W], Rs := [.own 3 ty_I], pre := fun _ => True, F := fun (a : List Int) => beginsL (spotsF a).1 }
def pv_rBegins : Prop :=
    ∀ (x : List Int), (x.length * 8 ≤ big ∧ ∀ (x_1 : Int), x_1 ∈ x → InR IntKind.u64 x_1) → True → True ∧ ((0 : Int) ≤ 0 ∧ 0 ≤ (↑(spotsF x).1.length : Int) ∧ (spotsF x).1.length ≤ 256 ∧ (↑0 : Int) ≤ 0 ∧ ([] : List Int) ++ beginsL (List.drop (Int.toNat 0) (spotsF x).1) = beginsL (spotsF x).1) ∧ ∀ (x_1 : List Int × Int), 0 ≤ x_1.2 ∧ x_1.2 ≤ (↑(spotsF x).1.length : Int) ∧ (spotsF x).1.length ≤ 256 ∧ (↑x_1.1.length : Int) ≤ x_1.2 ∧ x_1.1 ++ beginsL (List.drop x_1.2.toNat (spotsF x).1) = beginsL (spotsF x).1 → (decide (x_1.2 < (↑(spotsF x).1.length : Int)) = true → 0 ≤ x_1.2 ∧ x_1.2 < (↑(spotsF x).1.length : Int) ∧ x_1.2.toNat < (spotsF x).1.length ∧ ((!((spotsF x).1.getD x_1.2.toNat (0, 0, 0, 0, false)).2.2.2.2) = true → (x_1.1.length + [((spotsF x).1.getD x_1.2.toNat (0, 0, 0, 0, false)).1].length) * 8 ≤ big ∧ InR IntKind.i64 (x_1.2 + 1) ∧ (0 ≤ x_1.2 + 1 ∧ x_1.2 + 1 ≤ (↑(spotsF x).1.length : Int) ∧ (spotsF x).1.length ≤ 256 ∧ (↑(x_1.1 ++ [((spotsF x).1.getD x_1.2.toNat (0, 0, 0, 0, false)).1]).length : Int) ≤ x_1.2 + 1 ∧ x_1.1 ++ [((spotsF x).1.getD x_1.2.toNat (0, 0, 0, 0, false)).1] ++ beginsL (List.drop (x_1.2 + 1).toNat (spotsF x).1) = beginsL (spotsF x).1) ∧ ((↑(spotsF x).1.length : Int) - (x_1.2 + 1)).toNat < ((↑(spotsF x).1.length : Int) - x_1.2).toNat) ∧ ((!((spotsF x).1.getD x_1.2.toNat (0, 0, 0, 0, false)).2.2.2.2) = false → InR IntKind.i64 (x_1.2 + 1) ∧ (0 ≤ x_1.2 + 1 ∧ x_1.2 + 1 ≤ (↑(spotsF x).1.length : Int) ∧ (spotsF x).1.length ≤ 256 ∧ (↑x_1.1.length : Int) ≤ x_1.2 + 1 ∧ x_1.1 ++ beginsL (List.drop (x_1.2 + 1).toNat (spotsF x).1) = beginsL (spotsF x).1) ∧ ((↑(spotsF x).1.length : Int) - (x_1.2 + 1)).toNat < ((↑(spotsF x).1.length : Int) - x_1.2).toNat)) ∧ (decide (x_1.2 < (↑(spotsF x).1.length : Int)) = false → x_1.1 = beginsL (spotsF x).1 ∧ True)
theorem vcp_rBegins : pv_rBegins := by
  unfold pv_rBegins
  intro a _ _
  have hlen := spotsF_length a
  generalize (spotsF a).1 = l at *
  refine ⟨trivial, ⟨by omega, by omega, hlen, by simp, by simp⟩, fun ⟨out, i⟩ ⟨h0, h1, _, h3, h2⟩ => ⟨fun hlt => ?_, fun hge => ?_⟩⟩
  · have hlt : i < (l.length : Int) := by simpa using hlt
    simp only at *
    rw [drop_cons ((0, 0, 0, 0, false) : Spot) h0 hlt] at h2
    simp only [beginsL] at h2
    generalize l.getD i.toNat (0, 0, 0, 0, false) = s at *
    unfold big
    simp only [InR, List.length_append, List.length_cons, List.length_nil]
    refine ⟨h0, hlt, by omega, fun hc => ?_, fun hc => ?_⟩
    · have hc : ¬ s.2.2.2.2 = true := by simpa using hc
      rw [if_neg hc] at h2
      exact ⟨by omega, by omega, ⟨by omega, by omega, hlen, by omega, by rw [List.append_assoc]; exact h2⟩, by omega⟩
    · have hc : s.2.2.2.2 = true := by simpa using hc
      rw [if_pos hc] at h2
      exact ⟨by omega, ⟨by omega, by omega, hlen, by omega, h2⟩, by omega⟩
  · rw [drop_end (by simpa using hge)] at h2
    simp only [beginsL, List.append_nil] at h2
    exact ⟨h2, trivial⟩
theorem ok_rBegins : sp_rBegins.ok Try.prog 31 := fn_ok (ann := an_rBegins) (tbl_cons ok_rSpots tbl_nil) Try.func31 (by kernel_rfl) vcp_rBegins
end Go.Proofs.Ytcnoiiohmpgckaa
