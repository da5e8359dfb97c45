
import Derived.Test.YtcnoiiohmpgckaaCames
import Derived.Test.YtcnoiiohmpgckaaRObjects
import Derived.Test.YtcnoiiohmpgckaaConcats
import Derived.Test.YtcnoiiohmpgckaaWords
namespace Go.Proofs.Ytcnoiiohmpgckaa
open Go
set_option maxRecDepth 100000
set_option maxHeartbeats 1000000
abbrev ty_Tri : Ty := .pair (.arr ty_W) (.pair (.arr ty_I) (.arr ty_I))
abbrev Tri := List Int × List Int × List Int
def sp_tRises : Spec := { Ts := [.arr ty_I], Rs := [.dat .bool], pre := fun _ => True, F := risesL }
def pv_tRises : Prop :=
    ∀ (x : List Int), (x.length * (8 : Nat) ≤ big ∧ ∀ (x_1 : Int), x_1 ∈ x → InR IntKind.i64 x_1) → True → ((1 : Int) ≤ (1 : Int) ∧ (1 : Int) ≤ (↑x.length : Int) + (1 : Int) ∧ risesL (List.drop ((1 : Int) - (1 : Int)).toNat x) = risesL x) ∧ ∀ (x_1 : Int), (1 : Int) ≤ x_1 ∧ x_1 ≤ (↑x.length : Int) + (1 : Int) ∧ risesL (List.drop (x_1 - (1 : Int)).toNat x) = risesL x → (decide (x_1 < (↑x.length : Int)) = true → InR IntKind.i64 (x_1 - (1 : Int)) ∧ (0 : Int) ≤ x_1 - (1 : Int) ∧ x_1 - (1 : Int) < (↑x.length : Int) ∧ (0 : Int) ≤ x_1 ∧ x_1 < (↑x.length : Int) ∧ (decide (x.getD x_1.toNat (0 : Int) ≤ x.getD (x_1 - (1 : Int)).toNat (0 : Int)) = true → false = risesL x ∧ True) ∧ (decide (x.getD x_1.toNat (0 : Int) ≤ x.getD (x_1 - (1 : Int)).toNat (0 : Int)) = false → InR IntKind.i64 (x_1 + (1 : Int)) ∧ ((1 : Int) ≤ x_1 + (1 : Int) ∧ x_1 + (1 : Int) ≤ (↑x.length : Int) + (1 : Int) ∧ risesL (List.drop (x_1 + (1 : Int) - (1 : Int)).toNat x) = risesL x) ∧ ((↑x.length : Int) - (x_1 + (1 : Int))).toNat < ((↑x.length : Int) - x_1).toNat)) ∧ (decide (x_1 < (↑x.length : Int)) = false → true = risesL x ∧ True)
theorem vcp_tRises : pv_tRises := by
  unfold pv_tRises
  intro l ⟨hb, _⟩ _
  unfold big at hb
  refine ⟨⟨by omega, by omega, rfl⟩, fun i ⟨h0, h1, h2⟩ => ⟨fun hlt => ?_, fun hge => ?_⟩⟩
  · have hlt : i < (l.length : Int) := of_decide_eq_true hlt
    have e1 := drop_cons (0 : Int) (xs := l) (i := i - 1) (by omega) (by omega)
    have e2 := drop_cons (0 : Int) (xs := l) (i := i) (by omega) hlt
    rw [show i - 1 + 1 = i by omega] at e1
    simp only [InR] at h2 ⊢
    rw [e1, e2] at h2
    simp only [risesL] at h2
    rw [← e2] at h2
    refine ⟨by omega, by omega, by omega, by omega, hlt, fun hc => ?_, fun hc => ⟨by omega, ⟨by omega, by omega, ?_⟩, by omega⟩⟩
    · have hc := of_decide_eq_true hc
      rw [← h2, decide_eq_false (by omega)]
      exact ⟨rfl, trivial⟩
    · have hc := of_decide_eq_false hc
      rw [decide_eq_true (by omega), Bool.true_and] at h2
      rw [show i + 1 - 1 = i by omega]
      exact h2
  · have hge : ¬ i < (l.length : Int) := of_decide_eq_false hge
    rw [risesL_short (by rw [List.length_drop]; omega)] at h2
    exact ⟨h2, trivial⟩
theorem ok_tRises : sp_tRises.ok Try.prog 106 := fn_ok (ann := an_rises) tbl_nil Try.func106 (by kernel_rfl) vcp_tRises
def an_tObjects : Nat → Option LoopGen
  | 4 => some { rd := [.own 14 158 ty_Spot], A := fun (l : List Spot) => { cs := [.map 13 .i64 ty_Head, .dat 16 ty_I], inv := fun ((m, i) : List (Int × Head) × Int) => 0 ≤ i ∧ i ≤ l.length ∧ headsFrom m (l.drop i.toNat) = headsL l, mu := fun ((_, i) : List (Int × Head) × Int) => (l.length - i).toNat } }
  | _ => none
def sp_tObjects : Spec := { Ts := [.arr ty_W], Rs := [.map .i64 ty_Head], pre := fun _ => True, F := fun (a : List Int) => headsL (spotsF a).1 }
def pv_tObjects : Prop :=
    ∀ (x : List Int), (x.length * 8 ≤ big ∧ ∀ (x_1 : Int), x_1 ∈ x → InR IntKind.u64 x_1) → True → True ∧ ((0 : Int) ≤ 0 ∧ 0 ≤ (↑(spotsF x).1.length : Int) ∧ headsFrom ([] : List (Int × Int × Int × Int × Bool)) (List.drop (Int.toNat 0) (spotsF x).1) = headsL (spotsF x).1) ∧ ∀ (x_1 : List (Int × Int × Int × Int × Bool) × Int), 0 ≤ x_1.2 ∧ x_1.2 ≤ (↑(spotsF x).1.length : Int) ∧ headsFrom x_1.1 (List.drop x_1.2.toNat (spotsF x).1) = headsL (spotsF x).1 → (decide (x_1.2 < (↑(spotsF x).1.length : Int)) = true → 0 ≤ x_1.2 ∧ x_1.2 < (↑(spotsF x).1.length : Int) ∧ x_1.2.toNat < (spotsF x).1.length ∧ ((!((spotsF x).1.getD x_1.2.toNat (0, 0, 0, 0, false)).2.2.2.2) = true → InR IntKind.i64 (x_1.2 + 1) ∧ (0 ≤ x_1.2 + 1 ∧ x_1.2 + 1 ≤ (↑(spotsF x).1.length : Int) ∧ headsFrom (mput x_1.1 ((spotsF x).1.getD x_1.2.toNat (0, 0, 0, 0, false)).1 ((spotsF x).1.getD x_1.2.toNat (0, 0, 0, 0, false)).2) (List.drop (x_1.2 + 1).toNat (spotsF x).1) = headsL (spotsF x).1) ∧ ((↑(spotsF x).1.length : Int) - (x_1.2 + 1)).toNat < ((↑(spotsF x).1.length : Int) - x_1.2).toNat) ∧ ((!((spotsF x).1.getD x_1.2.toNat (0, 0, 0, 0, false)).2.2.2.2) = false → InR IntKind.i64 (x_1.2 + 1) ∧ (0 ≤ x_1.2 + 1 ∧ x_1.2 + 1 ≤ (↑(spotsF x).1.length : Int) ∧ headsFrom x_1.1 (List.drop (x_1.2 + 1).toNat (spotsF x).1) = headsL (spotsF x).1) ∧ ((↑(spotsF x).1.length : Int) - (x_1.2 + 1)).toNat < ((↑(spotsF x).1.length : Int) - x_1.2).toNat)) ∧ (decide (x_1.2 < (↑(spotsF x).1.length : Int)) = false → x_1.1 = headsL (spotsF x).1 ∧ True)
theorem vcp_tObjects : pv_tObjects := by
  unfold pv_tObjects
  intro a ⟨hb, _⟩ _
  have hsl := spotsF_length a
  refine ⟨trivial, ⟨by omega, by omega, by first | trivial | rfl⟩, fun ⟨m, i⟩ ⟨i0, i1, i4⟩ => ⟨fun hlt => ?_, fun hge => ?_⟩⟩
  · simp only at i0 i1 i4 hlt ⊢
    have hlt := of_decide_eq_true hlt
    rw [drop_cons ((0, 0, 0, 0, false) : Spot) i0 hlt] at i4
    simp only [headsFrom] at i4
    generalize (spotsF a).1.getD i.toNat (0, 0, 0, 0, false) = s at *
    simp only [InR]
    refine ⟨i0, hlt, by omega, fun hf0 => ?_, fun hf0 => ?_⟩
    · have hf0 : ¬ s.2.2.2.2 = true := by simpa using hf0
      rw [if_neg hf0] at i4
      exact ⟨by omega, ⟨by omega, by omega, i4⟩, by omega⟩
    · have hf0 : s.2.2.2.2 = true := by simpa using hf0
      rw [if_pos hf0] at i4
      exact ⟨by omega, ⟨by omega, by omega, i4⟩, by omega⟩
  · simp only at i0 i1 i4 hge ⊢
    rw [drop_end (of_decide_eq_false hge)] at i4
    exact ⟨i4, trivial⟩
theorem ok_tObjects : sp_tObjects.ok Try.prog 107 := fn_ok (ann := an_tObjects) (tbl_cons ok_walkSpots tbl_nil) Try.func107 (by kernel_rfl) vcp_tObjects
def an_tNamed : Nat → Option LoopGen
  | 3 => some { rd := [.dat 18 (.arr ty_W)], A := fun (r : List Int) => { cs := [.own 7 3 ty_I, .dat 20 ty_I], inv := fun ((out, i) : List Int × Int) => 0 ≤ i ∧ i ≤ r.length ∧ (∀ v ∈ r, v ≤ 256) ∧ r.length ≤ 256 ∧ out = ((r.take i.toNat).filter fun v => decide (v ≠ 0)).map (· - 1), mu := fun ((_, i) : List Int × Int) => (r.length - i).toNat } }
  | _ => none
def sp_tNamed : Spec := { Ts := [.arr ty_W, ty_I, ty_Head], Rs := [.own 3 ty_I], pre := fun ((a, x, h) : List Int × Int × Head) => (checkF a).2.2 = 0 ∧ isB (spotsF a).1 x = true ∧ h = hdA a x, F := fun ((a, x, h) : List Int × Int × Head) => outsA a x }
def pv_tNamed : Prop :=
    ∀ (x : List Int × Int × Int × Int × Int × Bool), (x.1.length * 8 ≤ big ∧ ∀ (x_1 : Int), x_1 ∈ x.1 → InR IntKind.u64 x_1) ∧ InR IntKind.i64 x.2.1 ∧ InR IntKind.i64 x.2.2.1 ∧ InR IntKind.i64 x.2.2.2.1 ∧ InR IntKind.i64 x.2.2.2.2.1 ∧ True → (checkF x.1).2.2 = 0 ∧ isB (spotsF x.1).1 x.2.1 = true ∧ x.2.2 = hdA x.1 x.2.1 → InR IntKind.i64 (x.2.1 + 1) ∧ InR IntKind.i64 (x.2.1 + 1) ∧ InR IntKind.i64 (x.2.1 + 1 + x.2.2.1) ∧ 0 ≤ x.2.1 + 1 ∧ x.2.1 + 1 ≤ x.2.1 + 1 + x.2.2.1 ∧ x.2.1 + 1 + x.2.2.1 ≤ (↑x.1.length : Int) ∧ ((0 : Int) ≤ 0 ∧ 0 ≤ (↑(List.drop (x.2.1 + 1).toNat (List.take (x.2.1 + 1 + x.2.2.1).toNat x.1)).length : Int) ∧ (∀ (v : Int), v ∈ List.drop (x.2.1 + 1).toNat (List.take (x.2.1 + 1 + x.2.2.1).toNat x.1) → v ≤ 256) ∧ (List.drop (x.2.1 + 1).toNat (List.take (x.2.1 + 1 + x.2.2.1).toNat x.1)).length ≤ 256 ∧ ([] : List Int) = List.map (fun (x : Int) => x - 1) (List.filter (fun (v : Int) => decide (v ≠ 0)) (List.take (Int.toNat 0) (List.drop (x.2.1 + 1).toNat (List.take (x.2.1 + 1 + x.2.2.1).toNat x.1))))) ∧ ∀ (x_1 : List Int × Int), 0 ≤ x_1.2 ∧ x_1.2 ≤ (↑(List.drop (x.2.1 + 1).toNat (List.take (x.2.1 + 1 + x.2.2.1).toNat x.1)).length : Int) ∧ (∀ (v : Int), v ∈ List.drop (x.2.1 + 1).toNat (List.take (x.2.1 + 1 + x.2.2.1).toNat x.1) → v ≤ 256) ∧ (List.drop (x.2.1 + 1).toNat (List.take (x.2.1 + 1 + x.2.2.1).toNat x.1)).length ≤ 256 ∧ x_1.1 = List.map (fun (x : Int) => x - 1) (List.filter (fun (v : Int) => decide (v ≠ 0)) (List.take x_1.2.toNat (List.drop (x.2.1 + 1).toNat (List.take (x.2.1 + 1 + x.2.2.1).toNat x.1)))) → (decide (x_1.2 < (↑(List.drop (x.2.1 + 1).toNat (List.take (x.2.1 + 1 + x.2.2.1).toNat x.1)).length : Int)) = true → 0 ≤ x_1.2 ∧ x_1.2 < (↑(List.drop (x.2.1 + 1).toNat (List.take (x.2.1 + 1 + x.2.2.1).toNat x.1)).length : Int) ∧ (decide ((List.drop (x.2.1 + 1).toNat (List.take (x.2.1 + 1 + x.2.2.1).toNat x.1)).getD x_1.2.toNat (0 : Int) ≠ 0) = true → InR IntKind.i64 (IntKind.i64.wrap ((List.drop (x.2.1 + 1).toNat (List.take (x.2.1 + 1 + x.2.2.1).toNat x.1)).getD x_1.2.toNat 0) - 1) ∧ (x_1.1.length + [IntKind.i64.wrap ((List.drop (x.2.1 + 1).toNat (List.take (x.2.1 + 1 + x.2.2.1).toNat x.1)).getD x_1.2.toNat 0) - 1].length) * 8 ≤ big ∧ InR IntKind.i64 (x_1.2 + 1) ∧ (0 ≤ x_1.2 + 1 ∧ x_1.2 + 1 ≤ (↑(List.drop (x.2.1 + 1).toNat (List.take (x.2.1 + 1 + x.2.2.1).toNat x.1)).length : Int) ∧ (∀ (v : Int), v ∈ List.drop (x.2.1 + 1).toNat (List.take (x.2.1 + 1 + x.2.2.1).toNat x.1) → v ≤ 256) ∧ (List.drop (x.2.1 + 1).toNat (List.take (x.2.1 + 1 + x.2.2.1).toNat x.1)).length ≤ 256 ∧ x_1.1 ++ [IntKind.i64.wrap ((List.drop (x.2.1 + 1).toNat (List.take (x.2.1 + 1 + x.2.2.1).toNat x.1)).getD x_1.2.toNat 0) - 1] = List.map (fun (x : Int) => x - 1) (List.filter (fun (v : Int) => decide (v ≠ 0)) (List.take (x_1.2 + 1).toNat (List.drop (x.2.1 + 1).toNat (List.take (x.2.1 + 1 + x.2.2.1).toNat x.1))))) ∧ ((↑(List.drop (x.2.1 + 1).toNat (List.take (x.2.1 + 1 + x.2.2.1).toNat x.1)).length : Int) - (x_1.2 + 1)).toNat < ((↑(List.drop (x.2.1 + 1).toNat (List.take (x.2.1 + 1 + x.2.2.1).toNat x.1)).length : Int) - x_1.2).toNat) ∧ (decide ((List.drop (x.2.1 + 1).toNat (List.take (x.2.1 + 1 + x.2.2.1).toNat x.1)).getD x_1.2.toNat (0 : Int) ≠ 0) = false → InR IntKind.i64 (x_1.2 + 1) ∧ (0 ≤ x_1.2 + 1 ∧ x_1.2 + 1 ≤ (↑(List.drop (x.2.1 + 1).toNat (List.take (x.2.1 + 1 + x.2.2.1).toNat x.1)).length : Int) ∧ (∀ (v : Int), v ∈ List.drop (x.2.1 + 1).toNat (List.take (x.2.1 + 1 + x.2.2.1).toNat x.1) → v ≤ 256) ∧ (List.drop (x.2.1 + 1).toNat (List.take (x.2.1 + 1 + x.2.2.1).toNat x.1)).length ≤ 256 ∧ x_1.1 = List.map (fun (x : Int) => x - 1) (List.filter (fun (v : Int) => decide (v ≠ 0)) (List.take (x_1.2 + 1).toNat (List.drop (x.2.1 + 1).toNat (List.take (x.2.1 + 1 + x.2.2.1).toNat x.1))))) ∧ ((↑(List.drop (x.2.1 + 1).toNat (List.take (x.2.1 + 1 + x.2.2.1).toNat x.1)).length : Int) - (x_1.2 + 1)).toNat < ((↑(List.drop (x.2.1 + 1).toNat (List.take (x.2.1 + 1 + x.2.2.1).toNat x.1)).length : Int) - x_1.2).toNat)) ∧ (decide (x_1.2 < (↑(List.drop (x.2.1 + 1).toNat (List.take (x.2.1 + 1 + x.2.2.1).toNat x.1)).length : Int)) = false → x_1.1 = outsA x.1 x.2.1 ∧ True)
theorem vcp_tNamed : pv_tNamed := by
  unfold pv_tNamed
  intro ⟨a, x, h⟩ ⟨⟨hb, hw⟩, hx, _⟩ ⟨hc, hB, hh⟩
  unfold big at hb
  simp only at hb hw hx hc hB hh ⊢
  subst hh
  obtain ⟨k1, k2, k3, k4, k5, k6⟩ := objA_length hB
  have hal := (isB_spot hB).2.2.2.2
  have hrf : ∀ v ∈ refsA a x, 0 ≤ v ∧ v ≤ 256 := fun v hv => by
    rcases refs_named hw hc _ (objA_in hB).1 v hv with h | h <;> omega
  have hF : outsA a x = ((refsA a x).filter fun v => decide (v ≠ 0)).map (· - 1) := rfl
  have e : List.drop (x + 1).toNat (List.take (x + 1 + (hdA a x).1).toNat a) = refsA a x := rfl
  simp only [e, hF]
  have hrl : (refsA a x).length ≤ 256 := by omega
  generalize refsA a x = r at *
  simp only [InR]
  refine ⟨by omega, by omega, by omega, by omega, by omega, by omega, ⟨by omega, by omega, fun v hv => (hrf v hv).2, hrl, by first | trivial | rfl⟩, fun ⟨out, i⟩ ⟨i0, i1, _, _, i4⟩ => ⟨fun hlt => ?_, fun hge => ?_⟩⟩
  · simp only at i0 i1 i4 hlt ⊢
    have hlt := of_decide_eq_true hlt
    have hv := hrf _ (getD_mem (0 : Int) i0 hlt)
    have ht := take_snoc (0 : Int) i0 hlt
    have hol : out.length ≤ i.toNat := by
      rw [i4, List.length_map]
      exact Nat.le_trans (List.length_filter_le _ _) (by simp; omega)
    rw [ht, List.filter_append, List.map_append, ← i4]
    generalize r.getD i.toNat 0 = v at *
    have hwr : IntKind.i64.wrap v = v := wrapI (by omega) (by omega)
    rw [hwr]
    refine ⟨i0, hlt, fun hn => ⟨by omega, by simp only [List.length_cons, List.length_nil]; unfold big; omega, by omega, ⟨by omega, by omega, fun v hv => (hrf v hv).2, hrl, ?_⟩, by omega⟩, fun hn => ⟨by omega, ⟨by omega, by omega, fun v hv => (hrf v hv).2, hrl, ?_⟩, by omega⟩⟩
    · have hn : v ≠ 0 := of_decide_eq_true hn
      simp [hn]
    · have hn : v = 0 := by simpa using hn
      simp [hn]
  · simp only at i0 i1 i4 hge ⊢
    have hge := of_decide_eq_false hge
    rw [List.take_of_length_le (by omega)] at i4
    exact ⟨i4, trivial⟩
theorem ok_tNamed : sp_tNamed.ok Try.prog 110 := fn_ok (ann := an_tNamed) tbl_nil Try.func110 (by kernel_rfl) vcp_tNamed
def whiteB (t : Tri) (x : Int) : Bool := !inL t.2.1 x && !inL t.2.2 x
def sp_white : Spec := { Ts := [ty_Tri, ty_I], Rs := [.dat .bool], pre := fun _ => True, F := fun ((t, x) : Tri × Int) => whiteB t x }
def pv_white : Prop :=
    ∀ (x : (List Int × List Int × List Int) × Int), ((x.1.1.length * 8 ≤ big ∧ ∀ (x_1 : Int), x_1 ∈ x.1.1 → InR IntKind.u64 x_1) ∧ (x.1.2.1.length * 8 ≤ big ∧ ∀ (x_1 : Int), x_1 ∈ x.1.2.1 → InR IntKind.i64 x_1) ∧ x.1.2.2.length * 8 ≤ big ∧ ∀ (x_1 : Int), x_1 ∈ x.1.2.2 → InR IntKind.i64 x_1) ∧ InR IntKind.i64 x.2 → True → True ∧ ((!inL x.1.2.1 x.2) = true → True) ∧ (!inL x.1.2.1 x.2 && !inL x.1.2.2 x.2) = whiteB x.1 x.2 ∧ True
theorem vcp_white : pv_white := by
  unfold pv_white
  intro ⟨t, x⟩ _ _
  exact ⟨trivial, fun _ => trivial, rfl, trivial⟩
theorem ok_white : sp_white.ok Try.prog 112 := fn_ok (ann := an_0) (tbl_cons ok_hasI tbl_nil) Try.func112 (by kernel_rfl) vcp_white
def sp_tCheck1 : Spec := { Ts := [ty_I, .ref ty_Tri], Rs := [.dat .bool], pre := fun _ => True, F := fun ((x, t) : Int × Tri) => inL t.2.2 x }
def pv_tCheck1 : Prop :=
    ∀ (x : Int × List Int × List Int × List Int), (InR IntKind.i64 x.1 ∧ (x.2.1.length * 8 ≤ big ∧ ∀ (x_1 : Int), x_1 ∈ x.2.1 → InR IntKind.u64 x_1) ∧ (x.2.2.1.length * 8 ≤ big ∧ ∀ (x_1 : Int), x_1 ∈ x.2.2.1 → InR IntKind.i64 x_1) ∧ x.2.2.2.length * 8 ≤ big ∧ ∀ (x_1 : Int), x_1 ∈ x.2.2.2 → InR IntKind.i64 x_1) → True → True ∧ inL x.2.2.2 x.1 = inL x.2.2.2 x.1 ∧ True
theorem vcp_tCheck1 : pv_tCheck1 := by
  unfold pv_tCheck1
  intro ⟨x, t⟩ _ _
  exact ⟨trivial, rfl, trivial⟩
theorem ok_tCheck1 : sp_tCheck1.ok Try.prog 109 := fn_ok (ann := an_0) (tbl_cons ok_hasI tbl_nil) Try.func109 (by kernel_rfl) vcp_tCheck1
def sp_tCheck2 : Spec := { Ts := [ty_I, .ref ty_Tri], Rs := [.dat .bool], pre := fun _ => True, F := fun ((x, t) : Int × Tri) => whiteB t x }
def pv_tCheck2 : Prop :=
    ∀ (x : Int × List Int × List Int × List Int), (InR IntKind.i64 x.1 ∧ (x.2.1.length * 8 ≤ big ∧ ∀ (x_1 : Int), x_1 ∈ x.2.1 → InR IntKind.u64 x_1) ∧ (x.2.2.1.length * 8 ≤ big ∧ ∀ (x_1 : Int), x_1 ∈ x.2.2.1 → InR IntKind.i64 x_1) ∧ x.2.2.2.length * 8 ≤ big ∧ ∀ (x_1 : Int), x_1 ∈ x.2.2.2 → InR IntKind.i64 x_1) → True → True ∧ whiteB x.2 x.1 = whiteB x.2 x.1 ∧ True
theorem vcp_tCheck2 : pv_tCheck2 := by
  unfold pv_tCheck2
  intro ⟨x, t⟩ _ _
  exact ⟨trivial, rfl, trivial⟩
theorem ok_tCheck2 : sp_tCheck2.ok Try.prog 111 := fn_ok (ann := an_0) (tbl_cons ok_white tbl_nil) Try.func111 (by kernel_rfl) vcp_tCheck2
theorem from_pair {a f p : List Int} (hw : ∀ x ∈ a, InR .u64 x) : fromF a [f, p] = fromFault a (f ++ p) := by
  have e : inL (beginsL (spotsF a).1) = isB (spotsF a).1 := funext fun n => inL_begins n _
  unfold fromF fromFault
  rw [arena_check hw, e]
  simp only [List.all_cons, List.all_nil, Bool.and_true, List.all_append]
def heldT (t : Tri) (x : Int) : Bool := (outsA t.1 x).any (whiteB t)
def triF (t : Tri) : Int := if (checkF t.1).2.2 ≠ 0 then (checkF t.1).2.2 else if (risesL t.2.1 && risesL t.2.2) = false then 3 else if (t.2.1 ++ t.2.2).all (isB (spotsF t.1).1) = false then 5 else if t.2.1.any (inL t.2.2) = true then 6 else if t.2.2.any (heldT t) = true then 8 else 0
def an_tCheck : Nat → Option LoopGen
  | 8 => some { rd := [.own 35 3 ty_I, .map 29 .i64 ty_Head], A := fun ((l, m) : List Int × List (Int × Head)) => { cs := [.dat 37 ty_I], inv := fun (i : Int) => 0 ≤ i ∧ i ≤ l.length ∧ ((l.drop i.toNat).all fun x => (mget m x).isSome) = (l.all fun x => (mget m x).isSome), mu := fun (i : Int) => (l.length - i).toNat } }
  | 17 => some { rd := [.dat 55 (.arr ty_I), .box 1 ty_Tri], A := fun ((l, t) : List Int × Tri) => { cs := [.dat 57 ty_I], inv := fun (i : Int) => 0 ≤ i ∧ i ≤ l.length ∧ (l.drop i.toNat).any (heldT t) = l.any (heldT t), mu := fun (i : Int) => (l.length - i).toNat } }
  | _ => none
def sp_tCheck : Spec := { Ts := [ty_Tri], Rs := [.dat ty_I], pre := fun (t : Tri) => (t.2.1.length + t.2.2.length) * 8 ≤ 140737488355328, F := triF }
def pv_tCheck : Prop :=
    ∀ (x : List Int × List Int × List Int), ((x.1.length * 8 ≤ big ∧ ∀ (x_1 : Int), x_1 ∈ x.1 → InR IntKind.u64 x_1) ∧ (x.2.1.length * 8 ≤ big ∧ ∀ (x_1 : Int), x_1 ∈ x.2.1 → InR IntKind.i64 x_1) ∧ x.2.2.length * 8 ≤ big ∧ ∀ (x_1 : Int), x_1 ∈ x.2.2 → InR IntKind.i64 x_1) → (x.2.1.length + x.2.2.length) * 8 ≤ 140737488355328 → True ∧ (decide ((checkF x.1).2.2 ≠ 0) = true → (checkF x.1).2.2 = triF x ∧ True) ∧ (decide ((checkF x.1).2.2 ≠ 0) = false → True ∧ ((!risesL x.2.1) = false → True) ∧ ((!risesL x.2.1 || !risesL x.2.2) = true → 3 = triF x ∧ True) ∧ ((!risesL x.2.1 || !risesL x.2.2) = false → True ∧ [x.2.1, x.2.2].flatten.length * 8 ≤ big ∧ ((0 : Int) ≤ 0 ∧ 0 ≤ (↑[x.2.1, x.2.2].flatten.length : Int) ∧ ((List.drop (Int.toNat 0) [x.2.1, x.2.2].flatten).all fun (x_1 : Int) => (mget (headsL (spotsF x.1).1) x_1).isSome) = [x.2.1, x.2.2].flatten.all fun (x_1 : Int) => (mget (headsL (spotsF x.1).1) x_1).isSome) ∧ ∀ (x_1 : Int), (0 ≤ x_1 ∧ x_1 ≤ (↑[x.2.1, x.2.2].flatten.length : Int) ∧ ((List.drop x_1.toNat [x.2.1, x.2.2].flatten).all fun (x_2 : Int) => (mget (headsL (spotsF x.1).1) x_2).isSome) = [x.2.1, x.2.2].flatten.all fun (x_2 : Int) => (mget (headsL (spotsF x.1).1) x_2).isSome) → (decide (x_1 < (↑[x.2.1, x.2.2].flatten.length : Int)) = true → 0 ≤ x_1 ∧ x_1 < (↑[x.2.1, x.2.2].flatten.length : Int) ∧ x_1.toNat < [x.2.1, x.2.2].flatten.length ∧ ((!(mget (headsL (spotsF x.1).1) ([x.2.1, x.2.2].flatten.getD x_1.toNat 0)).isSome) = true → 5 = triF x ∧ True) ∧ ((!(mget (headsL (spotsF x.1).1) ([x.2.1, x.2.2].flatten.getD x_1.toNat 0)).isSome) = false → InR IntKind.i64 (x_1 + 1) ∧ (0 ≤ x_1 + 1 ∧ x_1 + 1 ≤ (↑[x.2.1, x.2.2].flatten.length : Int) ∧ ((List.drop (x_1 + 1).toNat [x.2.1, x.2.2].flatten).all fun (x_2 : Int) => (mget (headsL (spotsF x.1).1) x_2).isSome) = [x.2.1, x.2.2].flatten.all fun (x_2 : Int) => (mget (headsL (spotsF x.1).1) x_2).isSome) ∧ ((↑[x.2.1, x.2.2].flatten.length : Int) - (x_1 + 1)).toNat < ((↑[x.2.1, x.2.2].flatten.length : Int) - x_1).toNat)) ∧ (decide (x_1 < (↑[x.2.1, x.2.2].flatten.length : Int)) = false → (∀ (s : Int), s ∈ x.2.1 → (fun (_ : Int) => True, fun (x_2 : Int) => inL x.2.2 x_2).1 s) ∧ ((x.2.1.any fun (x_2 : Int) => inL x.2.2 x_2) = true → 6 = triF x ∧ True) ∧ ((x.2.1.any fun (x_2 : Int) => inL x.2.2 x_2) = false → ((0 : Int) ≤ 0 ∧ 0 ≤ (↑x.2.2.length : Int) ∧ (List.drop (Int.toNat 0) x.2.2).any (heldT x) = x.2.2.any (heldT x)) ∧ ∀ (x_2 : Int), 0 ≤ x_2 ∧ x_2 ≤ (↑x.2.2.length : Int) ∧ (List.drop x_2.toNat x.2.2).any (heldT x) = x.2.2.any (heldT x) → (decide (x_2 < (↑x.2.2.length : Int)) = true → 0 ≤ x_2 ∧ x_2 < (↑x.2.2.length : Int) ∧ ((checkF x.1).2.2 = 0 ∧ isB (spotsF x.1).1 (x.2.2.getD x_2.toNat 0) = true ∧ (mget (headsL (spotsF x.1).1) (x.2.2.getD x_2.toNat 0)).getD (0, 0, 0, false) = hdA x.1 (x.2.2.getD x_2.toNat 0)) ∧ (∀ (s : Int), s ∈ outsA x.1 (x.2.2.getD x_2.toNat 0) → (fun (_ : Int) => True, fun (x_3 : Int) => whiteB x x_3).1 s) ∧ (((outsA x.1 (x.2.2.getD x_2.toNat 0)).any fun (x_3 : Int) => whiteB x x_3) = true → 8 = triF x ∧ True) ∧ (((outsA x.1 (x.2.2.getD x_2.toNat 0)).any fun (x_3 : Int) => whiteB x x_3) = false → InR IntKind.i64 (x_2 + 1) ∧ (0 ≤ x_2 + 1 ∧ x_2 + 1 ≤ (↑x.2.2.length : Int) ∧ (List.drop (x_2 + 1).toNat x.2.2).any (heldT x) = x.2.2.any (heldT x)) ∧ ((↑x.2.2.length : Int) - (x_2 + 1)).toNat < ((↑x.2.2.length : Int) - x_2).toNat)) ∧ (decide (x_2 < (↑x.2.2.length : Int)) = false → 0 = triF x ∧ True)))))
theorem vcp_tCheck : pv_tCheck := by
  unfold pv_tCheck
  intro ⟨a, g, b⟩ ⟨⟨hb, hw⟩, ⟨hbg, hg⟩, hbb, hbl⟩ hpre
  unfold big at hb hbg hbb
  simp only at hb hw hbg hg hbb hbl hpre ⊢
  have hF : triF (a, g, b) = if (checkF a).2.2 ≠ 0 then (checkF a).2.2 else if (risesL g && risesL b) = false then 3 else if (g ++ b).all (isB (spotsF a).1) = false then 5 else if g.any (inL b) = true then 6 else if b.any (heldT (a, g, b)) = true then 8 else 0 := rfl
  have hget := fun x => heads_get (spotsF_sorted a) x
  have hsome : ∀ x, (mget (headsL (spotsF a).1) x).isSome = isB (spotsF a).1 x := fun x => by rw [hget]; cases isB (spotsF a).1 x <;> rfl
  have hfl : [g, b].flatten = g ++ b := by simp
  simp only [hsome, hfl]
  have hgl : (g ++ b).length = g.length + b.length := List.length_append ..
  refine ⟨trivial, fun h => ?_, fun h => ⟨trivial, fun _ => trivial, fun h2 => ?_, fun h2 => ⟨trivial, by unfold big; omega, ⟨by omega, by omega, by first | rfl | trivial⟩, fun i ⟨i0, i1, i2⟩ => ⟨fun hlt => ?_, fun hge => ⟨fun _ _ => trivial, fun h6 => ?_, fun h6 => ⟨⟨by omega, by omega, by first | rfl | trivial⟩, fun k ⟨k0, k1, k2⟩ => ⟨fun hlt3 => ?_, fun hge3 => ?_⟩⟩⟩⟩⟩⟩⟩
  · rw [hF, if_pos (of_decide_eq_true h)]
    exact ⟨rfl, trivial⟩
  · rw [hF, if_neg (of_decide_eq_false h), if_pos (by cases h3 : risesL g <;> cases h4 : risesL b <;> simp_all)]
    exact ⟨rfl, trivial⟩
  all_goals have hc := of_decide_eq_false h
  all_goals have hr : ¬ (risesL g && risesL b) = false := by cases h3 : risesL g <;> cases h4 : risesL b <;> simp_all
  all_goals rw [hF, if_neg hc, if_neg hr]
  · have hlt := of_decide_eq_true hlt
    rw [drop_cons (0 : Int) i0 hlt, List.all_cons] at i2
    simp only [InR]
    refine ⟨i0, hlt, by omega, fun hn => ?_, fun hn => ⟨by omega, ⟨by omega, by omega, ?_⟩, by omega⟩⟩
    · have hn : isB (spotsF a).1 ((g ++ b).getD i.toNat 0) = false := by simpa using hn
      rw [hn, Bool.false_and] at i2
      rw [if_pos i2.symm]
      exact ⟨rfl, trivial⟩
    · have hn : isB (spotsF a).1 ((g ++ b).getD i.toNat 0) = true := by simpa using hn
      rw [hn, Bool.true_and] at i2
      exact i2
  all_goals rw [drop_end (of_decide_eq_false hge), List.all_nil] at i2
  all_goals have hob : (g ++ b).all (isB (spotsF a).1) = true := i2.symm
  all_goals rw [if_neg (by rw [hob]; simp)]
  · rw [if_pos h6]
    exact ⟨rfl, trivial⟩
  all_goals have h6 : ¬ g.any (inL b) = true := by
              intro e
              have h6 : (g.any fun x => inL b x) = false := h6
              rw [show (g.any fun x => inL b x) = g.any (inL b) from rfl, e] at h6
              cases h6
  all_goals rw [if_neg h6]
  · have hlt3 := of_decide_eq_true hlt3
    rw [drop_cons (0 : Int) k0 hlt3, List.any_cons] at k2
    have hib := List.all_eq_true.1 hob _ (List.mem_append_right g (getD_mem (0 : Int) k0 hlt3))
    have e : heldT (a, g, b) (b.getD k.toNat 0) = (outsA a (b.getD k.toNat 0)).any (whiteB (a, g, b)) := rfl
    generalize b.getD k.toNat 0 = x at *
    simp only [InR]
    refine ⟨k0, hlt3, ⟨by omega, hib, by rw [hget, if_pos hib]; rfl⟩, fun _ _ => trivial, fun hh => ?_, fun hh => ⟨by omega, ⟨by omega, by omega, ?_⟩, by omega⟩⟩
    · have hh : (outsA a x).any (whiteB (a, g, b)) = true := hh
      rw [e, hh, Bool.true_or] at k2
      rw [if_pos k2.symm]
      exact ⟨rfl, trivial⟩
    · have hh : (outsA a x).any (whiteB (a, g, b)) = false := hh
      rw [e, hh, Bool.false_or] at k2
      exact k2
  · rw [drop_end (of_decide_eq_false hge3), List.any_nil] at k2
    rw [if_neg (by rw [← k2]; simp)]
    exact ⟨rfl, trivial⟩
theorem ok_tCheck : sp_tCheck.ok Try.prog 45 := fn_ok (ann := an_tCheck) (tbl_cons ok_walkCheck (tbl_cons ok_tRises (tbl_cons ok_tObjects (tbl_cons ok_concatInts (tbl_cons ok_tNamed (tbl_cons ok_tCheck1 (tbl_cons ok_tCheck2 (tbl_cons ok_anyI tbl_nil)))))))) Try.func45 (by kernel_rfl) vcp_tCheck
def an_rTri : Nat → Option LoopGen
  | 10 => some { rd := [.dat 39 (.arr ty_I), .box 1 ty_Tri], A := fun ((l, t) : List Int × Tri) => { cs := [.dat 41 ty_I], inv := fun (i : Int) => 0 ≤ i ∧ i ≤ l.length ∧ (l.drop i.toNat).any (inL t.2.2) = l.any (inL t.2.2), mu := fun (i : Int) => (l.length - i).toNat } }
  | 16 => some { rd := [.dat 51 (.arr ty_I), .box 1 ty_Tri], A := fun ((l, t) : List Int × Tri) => { cs := [.dat 53 ty_I], inv := fun (i : Int) => 0 ≤ i ∧ i ≤ l.length ∧ (l.drop i.toNat).any (heldT t) = l.any (heldT t), mu := fun (i : Int) => (l.length - i).toNat } }
  | 19 => some { rd := [.own 60 3 ty_I, .box 1 ty_Tri], A := fun ((ns, t) : List Int × Tri) => { cs := [.dat 62 ty_I], inv := fun (j : Int) => 0 ≤ j ∧ j ≤ ns.length ∧ ∀ y ∈ ns.take j.toNat, 0 ≤ y → whiteB t y = false, mu := fun (j : Int) => (ns.length - j).toNat } }
  | _ => none
def sp_rTri : Spec := { Ts := [ty_Tri], Rs := [.dat ty_I], pre := fun _ => True, F := triF }
def pv_rTri : Prop :=
    ∀ (x : List Int × List Int × List Int), ((x.1.length * 8 ≤ big ∧ ∀ (x_1 : Int), x_1 ∈ x.1 → InR IntKind.u64 x_1) ∧ (x.2.1.length * 8 ≤ big ∧ ∀ (x_1 : Int), x_1 ∈ x.2.1 → InR IntKind.i64 x_1) ∧ x.2.2.length * 8 ≤ big ∧ ∀ (x_1 : Int), x_1 ∈ x.2.2 → InR IntKind.i64 x_1) → True → True ∧ (decide (arenaF x.1 ≠ 0) = true → arenaF x.1 = triF x ∧ True) ∧ (decide (arenaF x.1 ≠ 0) = false → True ∧ ((!risesL x.2.1) = false → True) ∧ ((!risesL x.2.1 || !risesL x.2.2) = true → 3 = triF x ∧ True) ∧ ((!risesL x.2.1 || !risesL x.2.2) = false → True ∧ (decide (fromF x.1 [x.2.1, x.2.2] ≠ 0) = true → fromF x.1 [x.2.1, x.2.2] = triF x ∧ True) ∧ (decide (fromF x.1 [x.2.1, x.2.2] ≠ 0) = false → ((0 : Int) ≤ 0 ∧ 0 ≤ (↑x.2.1.length : Int) ∧ (List.drop (Int.toNat 0) x.2.1).any (inL x.2.2) = x.2.1.any (inL x.2.2)) ∧ ∀ (x_1 : Int), 0 ≤ x_1 ∧ x_1 ≤ (↑x.2.1.length : Int) ∧ (List.drop x_1.toNat x.2.1).any (inL x.2.2) = x.2.1.any (inL x.2.2) → (decide (x_1 < (↑x.2.1.length : Int)) = true → 0 ≤ x_1 ∧ x_1 < (↑x.2.1.length : Int) ∧ True ∧ (inL x.2.2 (x.2.1.getD x_1.toNat 0) = true → 6 = triF x ∧ True) ∧ (inL x.2.2 (x.2.1.getD x_1.toNat 0) = false → InR IntKind.i64 (x_1 + 1) ∧ (0 ≤ x_1 + 1 ∧ x_1 + 1 ≤ (↑x.2.1.length : Int) ∧ (List.drop (x_1 + 1).toNat x.2.1).any (inL x.2.2) = x.2.1.any (inL x.2.2)) ∧ ((↑x.2.1.length : Int) - (x_1 + 1)).toNat < ((↑x.2.1.length : Int) - x_1).toNat)) ∧ (decide (x_1 < (↑x.2.1.length : Int)) = false → ((0 : Int) ≤ 0 ∧ 0 ≤ (↑x.2.2.length : Int) ∧ (List.drop (Int.toNat 0) x.2.2).any (heldT x) = x.2.2.any (heldT x)) ∧ ∀ (x_2 : Int), 0 ≤ x_2 ∧ x_2 ≤ (↑x.2.2.length : Int) ∧ (List.drop x_2.toNat x.2.2).any (heldT x) = x.2.2.any (heldT x) → (decide (x_2 < (↑x.2.2.length : Int)) = true → 0 ≤ x_2 ∧ x_2 < (↑x.2.2.length : Int) ∧ True ∧ ((0 : Int) ≤ 0 ∧ 0 ≤ (↑(namedL x.1 (x.2.2.getD x_2.toNat 0) (headAtL (x.2.2.getD x_2.toNat 0) (spotsF x.1).1).1).length : Int) ∧ ∀ (y : Int), y ∈ List.take (Int.toNat 0) (namedL x.1 (x.2.2.getD x_2.toNat 0) (headAtL (x.2.2.getD x_2.toNat 0) (spotsF x.1).1).1) → 0 ≤ y → whiteB x y = false) ∧ ∀ (x_3 : Int), (0 ≤ x_3 ∧ x_3 ≤ (↑(namedL x.1 (x.2.2.getD x_2.toNat 0) (headAtL (x.2.2.getD x_2.toNat 0) (spotsF x.1).1).1).length : Int) ∧ ∀ (y : Int), y ∈ List.take x_3.toNat (namedL x.1 (x.2.2.getD x_2.toNat 0) (headAtL (x.2.2.getD x_2.toNat 0) (spotsF x.1).1).1) → 0 ≤ y → whiteB x y = false) → (decide (x_3 < (↑(namedL x.1 (x.2.2.getD x_2.toNat 0) (headAtL (x.2.2.getD x_2.toNat 0) (spotsF x.1).1).1).length : Int)) = true → 0 ≤ x_3 ∧ x_3 < (↑(namedL x.1 (x.2.2.getD x_2.toNat 0) (headAtL (x.2.2.getD x_2.toNat 0) (spotsF x.1).1).1).length : Int) ∧ x_3.toNat < (namedL x.1 (x.2.2.getD x_2.toNat 0) (headAtL (x.2.2.getD x_2.toNat 0) (spotsF x.1).1).1).length ∧ (decide (0 ≤ (namedL x.1 (x.2.2.getD x_2.toNat 0) (headAtL (x.2.2.getD x_2.toNat 0) (spotsF x.1).1).1).getD x_3.toNat 0) = true → True) ∧ ((decide (0 ≤ (namedL x.1 (x.2.2.getD x_2.toNat 0) (headAtL (x.2.2.getD x_2.toNat 0) (spotsF x.1).1).1).getD x_3.toNat 0) && !inL x.2.1 ((namedL x.1 (x.2.2.getD x_2.toNat 0) (headAtL (x.2.2.getD x_2.toNat 0) (spotsF x.1).1).1).getD x_3.toNat 0)) = true → True) ∧ ((decide (0 ≤ (namedL x.1 (x.2.2.getD x_2.toNat 0) (headAtL (x.2.2.getD x_2.toNat 0) (spotsF x.1).1).1).getD x_3.toNat 0) && !inL x.2.1 ((namedL x.1 (x.2.2.getD x_2.toNat 0) (headAtL (x.2.2.getD x_2.toNat 0) (spotsF x.1).1).1).getD x_3.toNat 0) && !inL x.2.2 ((namedL x.1 (x.2.2.getD x_2.toNat 0) (headAtL (x.2.2.getD x_2.toNat 0) (spotsF x.1).1).1).getD x_3.toNat 0)) = true → 8 = triF x ∧ True) ∧ ((decide (0 ≤ (namedL x.1 (x.2.2.getD x_2.toNat 0) (headAtL (x.2.2.getD x_2.toNat 0) (spotsF x.1).1).1).getD x_3.toNat 0) && !inL x.2.1 ((namedL x.1 (x.2.2.getD x_2.toNat 0) (headAtL (x.2.2.getD x_2.toNat 0) (spotsF x.1).1).1).getD x_3.toNat 0) && !inL x.2.2 ((namedL x.1 (x.2.2.getD x_2.toNat 0) (headAtL (x.2.2.getD x_2.toNat 0) (spotsF x.1).1).1).getD x_3.toNat 0)) = false → InR IntKind.i64 (x_3 + 1) ∧ (0 ≤ x_3 + 1 ∧ x_3 + 1 ≤ (↑(namedL x.1 (x.2.2.getD x_2.toNat 0) (headAtL (x.2.2.getD x_2.toNat 0) (spotsF x.1).1).1).length : Int) ∧ ∀ (y : Int), y ∈ List.take (x_3 + 1).toNat (namedL x.1 (x.2.2.getD x_2.toNat 0) (headAtL (x.2.2.getD x_2.toNat 0) (spotsF x.1).1).1) → 0 ≤ y → whiteB x y = false) ∧ ((↑(namedL x.1 (x.2.2.getD x_2.toNat 0) (headAtL (x.2.2.getD x_2.toNat 0) (spotsF x.1).1).1).length : Int) - (x_3 + 1)).toNat < ((↑(namedL x.1 (x.2.2.getD x_2.toNat 0) (headAtL (x.2.2.getD x_2.toNat 0) (spotsF x.1).1).1).length : Int) - x_3).toNat)) ∧ (decide (x_3 < (↑(namedL x.1 (x.2.2.getD x_2.toNat 0) (headAtL (x.2.2.getD x_2.toNat 0) (spotsF x.1).1).1).length : Int)) = false → InR IntKind.i64 (x_2 + 1) ∧ (0 ≤ x_2 + 1 ∧ x_2 + 1 ≤ (↑x.2.2.length : Int) ∧ (List.drop (x_2 + 1).toNat x.2.2).any (heldT x) = x.2.2.any (heldT x)) ∧ ((↑x.2.2.length : Int) - (x_2 + 1)).toNat < ((↑x.2.2.length : Int) - x_2).toNat)) ∧ (decide (x_2 < (↑x.2.2.length : Int)) = false → 0 = triF x ∧ True)))))
theorem vcp_rTri : pv_rTri := by
  unfold pv_rTri
  intro ⟨a, g, b⟩ ⟨⟨hb, hw⟩, ⟨hbg, hg⟩, hbb, hbl⟩ _
  unfold big at hb hbg hbb
  simp only at hb hw hbg hg hbb hbl ⊢
  rw [from_pair hw, arena_check hw]
  have hF : triF (a, g, b) = if (checkF a).2.2 ≠ 0 then (checkF a).2.2 else if (risesL g && risesL b) = false then 3 else if (g ++ b).all (isB (spotsF a).1) = false then 5 else if g.any (inL b) = true then 6 else if b.any (heldT (a, g, b)) = true then 8 else 0 := rfl
  refine ⟨trivial, fun h => ?_, fun h => ⟨trivial, fun _ => trivial, fun h2 => ?_, fun h2 => ⟨trivial, fun h3 => ?_, fun h3 => ⟨⟨by omega, by omega, by first | rfl | trivial⟩, fun j ⟨j0, j1, j2⟩ => ⟨fun hlt2 => ?_, fun hge2 => ⟨⟨by omega, by omega, by first | rfl | trivial⟩, fun k ⟨k0, k1, k2⟩ => ⟨fun hlt3 => ?_, fun hge3 => ?_⟩⟩⟩⟩⟩⟩⟩
  · rw [hF, if_pos (of_decide_eq_true h)]
    exact ⟨rfl, trivial⟩
  · rw [hF, if_neg (of_decide_eq_false h), if_pos (by cases h3 : risesL g <;> cases h4 : risesL b <;> simp_all)]
    exact ⟨rfl, trivial⟩
  all_goals have hc := of_decide_eq_false h
  all_goals have hr : ¬ (risesL g && risesL b) = false := by cases h5 : risesL g <;> cases h4 : risesL b <;> simp_all
  all_goals have hff : fromFault a (g ++ b) = if (g ++ b).all (isB (spotsF a).1) = true then 0 else 5 := by unfold fromFault; rw [if_neg hc]
  all_goals rw [hF, if_neg hc, if_neg hr]
  · have h3 := of_decide_eq_true h3
    have hob : (g ++ b).all (isB (spotsF a).1) = false := by
      cases h4 : (g ++ b).all (isB (spotsF a).1)
      · rfl
      · rw [hff, if_pos h4] at h3; exact absurd rfl h3
    rw [hff, if_neg (by rw [hob]; simp), if_pos hob]
    exact ⟨rfl, trivial⟩
  all_goals have hob : (g ++ b).all (isB (spotsF a).1) = true := by
              have h3 := of_decide_eq_false h3
              cases h4 : (g ++ b).all (isB (spotsF a).1)
              · rw [hff, if_neg (by rw [h4]; simp)] at h3; simp at h3
              · rfl
  all_goals rw [if_neg (by rw [hob]; simp)]
  · have hlt2 := of_decide_eq_true hlt2
    rw [drop_cons (0 : Int) j0 hlt2, List.any_cons] at j2
    simp only [InR]
    refine ⟨j0, hlt2, trivial, fun hn => ?_, fun hn => ⟨by omega, ⟨by omega, by omega, ?_⟩, by omega⟩⟩
    · rw [hn, Bool.true_or] at j2
      rw [if_pos j2.symm]
      exact ⟨rfl, trivial⟩
    · rw [hn, Bool.false_or] at j2
      exact j2
  all_goals rw [drop_end (of_decide_eq_false hge2), List.any_nil] at j2
  all_goals rw [if_neg (by rw [← j2]; simp)]
  · have hlt3 := of_decide_eq_true hlt3
    rw [drop_cons (0 : Int) k0 hlt3, List.any_cons] at k2
    have hib := List.all_eq_true.1 hob _ (List.mem_append_right g (getD_mem (0 : Int) k0 hlt3))
    have e : heldT (a, g, b) (b.getD k.toNat 0) = (outsA a (b.getD k.toNat 0)).any (whiteB (a, g, b)) := rfl
    have ewh : ∀ y, whiteB (a, g, b) y = (!inL g y && !inL b y) := fun _ => rfl
    generalize b.getD k.toNat 0 = x at *
    have hno := fun y => named_outs hw (by omega) hib (y := y)
    have hnl : (namedL a x (headAtL x (spotsF a).1).1).length ≤ a.length := by
      unfold namedL
      rw [List.length_map, List.length_drop, List.length_take]
      omega
    generalize namedL a x (headAtL x (spotsF a).1).1 = ns at *
    simp only [InR]
    refine ⟨k0, hlt3, trivial, ⟨by omega, by omega, fun y hy => by simp at hy⟩, fun i ⟨i0, i1, i2⟩ => ⟨fun hlt => ?_, fun hge => ?_⟩⟩
    · have hlt := of_decide_eq_true hlt
      have hm := getD_mem (0 : Int) i0 hlt
      have ht := take_snoc (0 : Int) i0 hlt
      rw [ht]
      generalize ns.getD i.toNat 0 = y at *
      refine ⟨i0, hlt, by omega, fun _ => trivial, fun _ => trivial, fun hh => ?_, fun hh => ⟨by omega, ⟨by omega, by omega, ?_⟩, by omega⟩⟩
      · simp only [Bool.and_eq_true, decide_eq_true_eq] at hh
        obtain ⟨⟨hy0, hyg⟩, hyb⟩ := hh
        have : heldT (a, g, b) x = true := by
          rw [e]
          exact List.any_eq_true.2 ⟨y, (hno y).1 ⟨hm, hy0⟩, by rw [ewh, hyg, hyb]; rfl⟩
        rw [this, Bool.true_or] at k2
        rw [if_pos k2.symm]
        exact ⟨rfl, trivial⟩
      · intro z hz hz0
        rcases List.mem_append.1 hz with hz | hz
        · exact i2 z hz hz0
        · have hz := List.mem_singleton.1 hz
          subst hz
          rw [decide_eq_true hz0, Bool.true_and] at hh
          rw [ewh]
          exact hh
    · have hge := of_decide_eq_false hge
      rw [List.take_of_length_le (by omega)] at i2
      have : heldT (a, g, b) x = false := by
        rw [e, List.any_eq_false]
        intro y hy
        obtain ⟨q1, q2⟩ := (hno y).2 hy
        rw [i2 y q1 q2]
        simp
      rw [this, Bool.false_or] at k2
      exact ⟨by omega, ⟨by omega, by omega, k2⟩, by omega⟩
  · rw [drop_end (of_decide_eq_false hge3), List.any_nil] at k2
    rw [if_neg (by rw [← k2]; simp)]
    exact ⟨rfl, trivial⟩
theorem ok_rTri : sp_rTri.ok Try.prog 46 := fn_ok (ann := an_rTri) (tbl_cons ok_rArenaFault (tbl_cons ok_rRises (tbl_cons ok_rFrom (tbl_cons ok_rIn (tbl_cons ok_rNamed tbl_nil))))) Try.func46 (by kernel_rfl) vcp_rTri
def sp_rSameTri : Spec := { Ts := [ty_Tri, ty_Tri], Rs := [.dat .bool], pre := fun _ => True, F := fun (x : Tri × Tri) => decide (x.1 = x.2) }
def pv_rSameTri : Prop :=
    ∀ (x : (List Int × List Int × List Int) × List Int × List Int × List Int), (((x.1.1.length * 8 ≤ big ∧ ∀ (x_1 : Int), x_1 ∈ x.1.1 → InR IntKind.u64 x_1) ∧ (x.1.2.1.length * 8 ≤ big ∧ ∀ (x_1 : Int), x_1 ∈ x.1.2.1 → InR IntKind.i64 x_1) ∧ x.1.2.2.length * 8 ≤ big ∧ ∀ (x_1 : Int), x_1 ∈ x.1.2.2 → InR IntKind.i64 x_1) ∧ (x.2.1.length * 8 ≤ big ∧ ∀ (x_1 : Int), x_1 ∈ x.2.1 → InR IntKind.u64 x_1) ∧ (x.2.2.1.length * 8 ≤ big ∧ ∀ (x_1 : Int), x_1 ∈ x.2.2.1 → InR IntKind.i64 x_1) ∧ x.2.2.2.length * 8 ≤ big ∧ ∀ (x_1 : Int), x_1 ∈ x.2.2.2 → InR IntKind.i64 x_1) → True → True ∧ (decide (x.1.1 = x.2.1) = true → True) ∧ ((decide (x.1.1 = x.2.1) && decide (x.1.2.1 = x.2.2.1)) = true → True) ∧ (decide (x.1.1 = x.2.1) && decide (x.1.2.1 = x.2.2.1) && decide (x.1.2.2 = x.2.2.2)) = decide (x.1 = x.2) ∧ True
theorem vcp_rSameTri : pv_rSameTri := by
  unfold pv_rSameTri
  intro ⟨⟨a1, a2, a3⟩, b1, b2, b3⟩ _ _
  refine ⟨trivial, fun _ => trivial, fun _ => trivial, ?_, trivial⟩
  apply Bool.eq_iff_iff.2
  simp only [Bool.and_eq_true, decide_eq_true_eq, Prod.mk.injEq]
  grind
theorem ok_rSameTri : sp_rSameTri.ok Try.prog 47 := fn_ok (ann := an_0) (tbl_cons ok_rSameWords (tbl_cons ok_rSameInts tbl_nil)) Try.func47 (by kernel_rfl) vcp_rSameTri
end Go.Proofs.Ytcnoiiohmpgckaa
