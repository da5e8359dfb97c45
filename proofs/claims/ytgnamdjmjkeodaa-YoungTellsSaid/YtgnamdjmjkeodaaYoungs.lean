/- Package young: Check; the reference's AgesFault, SameAges, Written. -/
import Derived.Test.YtgnamdjmjkeodaaFaints
import Derived.Test.YtgnamdjmjkeodaaWords
import Derived.Test.YtgnamdjmjkeodaaRObjects
namespace Go.Proofs.Ytgnamdjmjkeodaa
open Go
set_option maxRecDepth 100000
set_option maxHeartbeats 1000000

abbrev ty_Ages : Ty := .pair (.arr ty_W) (.pair (.arr ty_I) (.arr ty_I))
abbrev Ages := List Int × List Int × List Int

def sp_yRises : Spec := { Ts := [.arr ty_I], Rs := [.dat .bool], pre := fun _ => True, F := risesL }
def pv_yRises : Prop :=
    ∀ (x : List Int), (x.length * (8 : Nat) ≤ big ∧ ∀ (x_1 : Int), x_1 ∈ x → InR IntKind.i64 x_1) → True → ((1 : Int) ≤ (1 : Int) ∧ (1 : Int) ≤ (↑x.length : Int) + (1 : Int) ∧ risesL (List.drop ((1 : Int) - (1 : Int)).toNat x) = risesL x) ∧ ∀ (x_1 : Int), (1 : Int) ≤ x_1 ∧ x_1 ≤ (↑x.length : Int) + (1 : Int) ∧ risesL (List.drop (x_1 - (1 : Int)).toNat x) = risesL x → (decide (x_1 < (↑x.length : Int)) = true → InR IntKind.i64 (x_1 - (1 : Int)) ∧ (0 : Int) ≤ x_1 - (1 : Int) ∧ x_1 - (1 : Int) < (↑x.length : Int) ∧ (0 : Int) ≤ x_1 ∧ x_1 < (↑x.length : Int) ∧ (decide (x.getD x_1.toNat (0 : Int) ≤ x.getD (x_1 - (1 : Int)).toNat (0 : Int)) = true → false = risesL x ∧ True) ∧ (decide (x.getD x_1.toNat (0 : Int) ≤ x.getD (x_1 - (1 : Int)).toNat (0 : Int)) = false → InR IntKind.i64 (x_1 + (1 : Int)) ∧ ((1 : Int) ≤ x_1 + (1 : Int) ∧ x_1 + (1 : Int) ≤ (↑x.length : Int) + (1 : Int) ∧ risesL (List.drop (x_1 + (1 : Int) - (1 : Int)).toNat x) = risesL x) ∧ ((↑x.length : Int) - (x_1 + (1 : Int))).toNat < ((↑x.length : Int) - x_1).toNat)) ∧ (decide (x_1 < (↑x.length : Int)) = false → true = risesL x ∧ True)
theorem vcp_yRises : pv_yRises := by
  unfold pv_yRises
  intro l ⟨hb, _⟩ _
  unfold big at hb
  refine ⟨⟨by omega, by omega, rfl⟩, fun i ⟨h0, h1, h2⟩ => ⟨fun hlt => ?_, fun hge => ?_⟩⟩
  · have hlt : i < (l.length : Int) := of_decide_eq_true hlt
    have e1 := drop_cons (0 : Int) (xs := l) (i := i - 1) (by omega) (by omega)
    have e2 := drop_cons (0 : Int) (xs := l) (i := i) (by omega) hlt
    rw [show i - 1 + 1 = i by omega] at e1
    simp only [InR] at h2 ⊢
    rw [e1, e2] at h2
    simp only [risesL] at h2
    rw [← e2] at h2
    refine ⟨by omega, by omega, by omega, by omega, hlt, fun hc => ?_, fun hc => ⟨by omega, ⟨by omega, by omega, ?_⟩, by omega⟩⟩
    · have hc := of_decide_eq_true hc
      rw [← h2, decide_eq_false (by omega)]
      exact ⟨rfl, trivial⟩
    · have hc := of_decide_eq_false hc
      rw [decide_eq_true (by omega), Bool.true_and] at h2
      rw [show i + 1 - 1 = i by omega]
      exact h2
  · have hge : ¬ i < (l.length : Int) := of_decide_eq_false hge
    rw [risesL_short (by rw [List.length_drop]; omega)] at h2
    exact ⟨h2, trivial⟩
theorem e_yRises : pv_yRises = fnVC Try.prog (tbl []) an_rises Try.f135 sp_yRises := by kernel_rfl
theorem vc_yRises : fnVC Try.prog (tbl []) an_rises Try.f135 sp_yRises := @Eq.mp _ _ @e_yRises @vcp_yRises
theorem ok_yRises : sp_yRises.ok Try.prog 135 := fn_sound (P := Try.prog) (ss := tbl []) (ann := an_rises) (f := 135) (fn := Try.f135) (s := sp_yRises) tbl_nil Try.func135 @vc_yRises

def an_yObjects : Nat → Option LoopGen
  | 4 => some { rd := [.own 14 78 ty_Spot], A := fun (l : List Spot) => { cs := [.map 13 .i64 ty_Head, .dat 16 ty_I], inv := fun ((m, i) : List (Int × Head) × Int) => 0 ≤ i ∧ i ≤ l.length ∧ headsFrom m (l.drop i.toNat) = headsL l, mu := fun ((_, i) : List (Int × Head) × Int) => (l.length - i).toNat } }
  | _ => none
def sp_yObjects : Spec := { Ts := [.arr ty_W], Rs := [.map .i64 ty_Head], pre := fun _ => True, F := fun (a : List Int) => headsL (spotsF a).1 }
def pv_yObjects : Prop :=
    ∀ (x : List Int), (x.length * (8 : Nat) ≤ big ∧ ∀ (x_1 : Int), x_1 ∈ x → InR IntKind.u64 x_1) → True → True ∧ ((0 : Int) ≤ (0 : Int) ∧ (0 : Int) ≤ (↑(spotsF x).fst.length : Int) ∧ headsFrom ([] : List (Int × Int × Int × Int × Bool)) (List.drop (Int.toNat (0 : Int)) (spotsF x).fst) = headsL (spotsF x).fst) ∧ ∀ (x_1 : List (Int × Int × Int × Int × Bool) × Int), (0 : Int) ≤ x_1.snd ∧ x_1.snd ≤ (↑(spotsF x).fst.length : Int) ∧ headsFrom x_1.fst (List.drop x_1.snd.toNat (spotsF x).fst) = headsL (spotsF x).fst → (decide (x_1.snd < (↑(spotsF x).fst.length : Int)) = true → (0 : Int) ≤ x_1.snd ∧ x_1.snd < (↑(spotsF x).fst.length : Int) ∧ x_1.snd.toNat < (spotsF x).fst.length ∧ ((!((spotsF x).fst.getD x_1.snd.toNat ((0 : Int), (0 : Int), (0 : Int), (0 : Int), false)).snd.snd.snd.snd) = true → InR IntKind.i64 (x_1.snd + (1 : Int)) ∧ ((0 : Int) ≤ x_1.snd + (1 : Int) ∧ x_1.snd + (1 : Int) ≤ (↑(spotsF x).fst.length : Int) ∧ headsFrom (mput x_1.fst ((spotsF x).fst.getD x_1.snd.toNat ((0 : Int), (0 : Int), (0 : Int), (0 : Int), false)).fst ((spotsF x).fst.getD x_1.snd.toNat ((0 : Int), (0 : Int), (0 : Int), (0 : Int), false)).snd) (List.drop (x_1.snd + (1 : Int)).toNat (spotsF x).fst) = headsL (spotsF x).fst) ∧ ((↑(spotsF x).fst.length : Int) - (x_1.snd + (1 : Int))).toNat < ((↑(spotsF x).fst.length : Int) - x_1.snd).toNat) ∧ ((!((spotsF x).fst.getD x_1.snd.toNat ((0 : Int), (0 : Int), (0 : Int), (0 : Int), false)).snd.snd.snd.snd) = false → InR IntKind.i64 (x_1.snd + (1 : Int)) ∧ ((0 : Int) ≤ x_1.snd + (1 : Int) ∧ x_1.snd + (1 : Int) ≤ (↑(spotsF x).fst.length : Int) ∧ headsFrom x_1.fst (List.drop (x_1.snd + (1 : Int)).toNat (spotsF x).fst) = headsL (spotsF x).fst) ∧ ((↑(spotsF x).fst.length : Int) - (x_1.snd + (1 : Int))).toNat < ((↑(spotsF x).fst.length : Int) - x_1.snd).toNat)) ∧ (decide (x_1.snd < (↑(spotsF x).fst.length : Int)) = false → x_1.fst = headsL (spotsF x).fst ∧ True)
theorem vcp_yObjects : pv_yObjects := by
  unfold pv_yObjects
  intro a ⟨hb, _⟩ _
  have hsl := spotsF_length a
  refine ⟨trivial, ⟨by omega, by omega, by first | trivial | rfl⟩, fun ⟨m, i⟩ ⟨i0, i1, i4⟩ => ⟨fun hlt => ?_, fun hge => ?_⟩⟩
  · simp only at i0 i1 i4 hlt ⊢
    have hlt := of_decide_eq_true hlt
    rw [drop_cons ((0, 0, 0, 0, false) : Spot) i0 hlt] at i4
    simp only [headsFrom] at i4
    generalize (spotsF a).1.getD i.toNat (0, 0, 0, 0, false) = s at *
    simp only [InR]
    refine ⟨i0, hlt, by omega, fun hf0 => ?_, fun hf0 => ?_⟩
    · have hf0 : ¬ s.2.2.2.2 = true := by simpa using hf0
      rw [if_neg hf0] at i4
      exact ⟨by omega, ⟨by omega, by omega, i4⟩, by omega⟩
    · have hf0 : s.2.2.2.2 = true := by simpa using hf0
      rw [if_pos hf0] at i4
      exact ⟨by omega, ⟨by omega, by omega, i4⟩, by omega⟩
  · simp only at i0 i1 i4 hge ⊢
    rw [drop_end (of_decide_eq_false hge)] at i4
    exact ⟨i4, trivial⟩
theorem e_yObjects : pv_yObjects = fnVC Try.prog (tbl [(96, sp_walkSpots)]) an_yObjects Try.f130 sp_yObjects := by kernel_rfl
theorem vc_yObjects : fnVC Try.prog (tbl [(96, sp_walkSpots)]) an_yObjects Try.f130 sp_yObjects := @Eq.mp _ _ @e_yObjects @vcp_yObjects
theorem ok_yObjects : sp_yObjects.ok Try.prog 130 := fn_sound (P := Try.prog) (ss := tbl [(96, sp_walkSpots)]) (ann := an_yObjects) (f := 130) (fn := Try.f130) (s := sp_yObjects) (tbl_cons ok_walkSpots tbl_nil) Try.func130 @vc_yObjects

def an_yNamed : Nat → Option LoopGen
  | 3 => some { rd := [.dat 18 (.arr ty_W)], A := fun (r : List Int) => { cs := [.own 7 3 ty_I, .dat 20 ty_I], inv := fun ((out, i) : List Int × Int) => 0 ≤ i ∧ i ≤ r.length ∧ (∀ v ∈ r, v ≤ 256) ∧ r.length ≤ 256 ∧ out = ((r.take i.toNat).filter fun v => decide (v ≠ 0)).map (· - 1), mu := fun ((_, i) : List Int × Int) => (r.length - i).toNat } }
  | _ => none
def sp_yNamed : Spec := { Ts := [.arr ty_W, ty_I, ty_Head], Rs := [.own 3 ty_I], pre := fun ((a, x, h) : List Int × Int × Head) => (checkF a).2.2 = 0 ∧ isB (spotsF a).1 x = true ∧ h = hdA a x, F := fun ((a, x, h) : List Int × Int × Head) => outsA a x }
def pv_yNamed : Prop :=
    ∀ (x : List Int × Int × Int × Int × Int × Bool), (x.fst.length * (8 : Nat) ≤ big ∧ ∀ (x_1 : Int), x_1 ∈ x.fst → InR IntKind.u64 x_1) ∧ InR IntKind.i64 x.snd.fst ∧ InR IntKind.i64 x.snd.snd.fst ∧ InR IntKind.i64 x.snd.snd.snd.fst ∧ InR IntKind.i64 x.snd.snd.snd.snd.fst ∧ True → (checkF x.fst).snd.snd = (0 : Int) ∧ isB (spotsF x.fst).fst x.snd.fst = true ∧ x.snd.snd = hdA x.fst x.snd.fst → InR IntKind.i64 (x.snd.fst + (1 : Int)) ∧ InR IntKind.i64 (x.snd.fst + (1 : Int)) ∧ InR IntKind.i64 (x.snd.fst + (1 : Int) + x.snd.snd.fst) ∧ (0 : Int) ≤ x.snd.fst + (1 : Int) ∧ x.snd.fst + (1 : Int) ≤ x.snd.fst + (1 : Int) + x.snd.snd.fst ∧ x.snd.fst + (1 : Int) + x.snd.snd.fst ≤ (↑x.fst.length : Int) ∧ ((0 : Int) ≤ (0 : Int) ∧ (0 : Int) ≤ (↑(List.drop (x.snd.fst + (1 : Int)).toNat (List.take (x.snd.fst + (1 : Int) + x.snd.snd.fst).toNat x.fst)).length : Int) ∧ (∀ (v : Int), v ∈ List.drop (x.snd.fst + (1 : Int)).toNat (List.take (x.snd.fst + (1 : Int) + x.snd.snd.fst).toNat x.fst) → v ≤ (256 : Int)) ∧ (List.drop (x.snd.fst + (1 : Int)).toNat (List.take (x.snd.fst + (1 : Int) + x.snd.snd.fst).toNat x.fst)).length ≤ (256 : Nat) ∧ ([] : List Int) = List.map (fun (x : Int) => x - (1 : Int)) (List.filter (fun (v : Int) => decide (v ≠ (0 : Int))) (List.take (Int.toNat (0 : Int)) (List.drop (x.snd.fst + (1 : Int)).toNat (List.take (x.snd.fst + (1 : Int) + x.snd.snd.fst).toNat x.fst))))) ∧ ∀ (x_1 : List Int × Int), (0 : Int) ≤ x_1.snd ∧ x_1.snd ≤ (↑(List.drop (x.snd.fst + (1 : Int)).toNat (List.take (x.snd.fst + (1 : Int) + x.snd.snd.fst).toNat x.fst)).length : Int) ∧ (∀ (v : Int), v ∈ List.drop (x.snd.fst + (1 : Int)).toNat (List.take (x.snd.fst + (1 : Int) + x.snd.snd.fst).toNat x.fst) → v ≤ (256 : Int)) ∧ (List.drop (x.snd.fst + (1 : Int)).toNat (List.take (x.snd.fst + (1 : Int) + x.snd.snd.fst).toNat x.fst)).length ≤ (256 : Nat) ∧ x_1.fst = List.map (fun (x : Int) => x - (1 : Int)) (List.filter (fun (v : Int) => decide (v ≠ (0 : Int))) (List.take x_1.snd.toNat (List.drop (x.snd.fst + (1 : Int)).toNat (List.take (x.snd.fst + (1 : Int) + x.snd.snd.fst).toNat x.fst)))) → (decide (x_1.snd < (↑(List.drop (x.snd.fst + (1 : Int)).toNat (List.take (x.snd.fst + (1 : Int) + x.snd.snd.fst).toNat x.fst)).length : Int)) = true → (0 : Int) ≤ x_1.snd ∧ x_1.snd < (↑(List.drop (x.snd.fst + (1 : Int)).toNat (List.take (x.snd.fst + (1 : Int) + x.snd.snd.fst).toNat x.fst)).length : Int) ∧ (decide ((List.drop (x.snd.fst + (1 : Int)).toNat (List.take (x.snd.fst + (1 : Int) + x.snd.snd.fst).toNat x.fst)).getD x_1.snd.toNat (0 : Int) ≠ (0 : Int)) = true → InR IntKind.i64 (IntKind.i64.wrap ((List.drop (x.snd.fst + (1 : Int)).toNat (List.take (x.snd.fst + (1 : Int) + x.snd.snd.fst).toNat x.fst)).getD x_1.snd.toNat (0 : Int)) - (1 : Int)) ∧ (x_1.fst.length + [IntKind.i64.wrap ((List.drop (x.snd.fst + (1 : Int)).toNat (List.take (x.snd.fst + (1 : Int) + x.snd.snd.fst).toNat x.fst)).getD x_1.snd.toNat (0 : Int)) - (1 : Int)].length) * (8 : Nat) ≤ big ∧ InR IntKind.i64 (x_1.snd + (1 : Int)) ∧ ((0 : Int) ≤ x_1.snd + (1 : Int) ∧ x_1.snd + (1 : Int) ≤ (↑(List.drop (x.snd.fst + (1 : Int)).toNat (List.take (x.snd.fst + (1 : Int) + x.snd.snd.fst).toNat x.fst)).length : Int) ∧ (∀ (v : Int), v ∈ List.drop (x.snd.fst + (1 : Int)).toNat (List.take (x.snd.fst + (1 : Int) + x.snd.snd.fst).toNat x.fst) → v ≤ (256 : Int)) ∧ (List.drop (x.snd.fst + (1 : Int)).toNat (List.take (x.snd.fst + (1 : Int) + x.snd.snd.fst).toNat x.fst)).length ≤ (256 : Nat) ∧ x_1.fst ++ [IntKind.i64.wrap ((List.drop (x.snd.fst + (1 : Int)).toNat (List.take (x.snd.fst + (1 : Int) + x.snd.snd.fst).toNat x.fst)).getD x_1.snd.toNat (0 : Int)) - (1 : Int)] = List.map (fun (x : Int) => x - (1 : Int)) (List.filter (fun (v : Int) => decide (v ≠ (0 : Int))) (List.take (x_1.snd + (1 : Int)).toNat (List.drop (x.snd.fst + (1 : Int)).toNat (List.take (x.snd.fst + (1 : Int) + x.snd.snd.fst).toNat x.fst))))) ∧ ((↑(List.drop (x.snd.fst + (1 : Int)).toNat (List.take (x.snd.fst + (1 : Int) + x.snd.snd.fst).toNat x.fst)).length : Int) - (x_1.snd + (1 : Int))).toNat < ((↑(List.drop (x.snd.fst + (1 : Int)).toNat (List.take (x.snd.fst + (1 : Int) + x.snd.snd.fst).toNat x.fst)).length : Int) - x_1.snd).toNat) ∧ (decide ((List.drop (x.snd.fst + (1 : Int)).toNat (List.take (x.snd.fst + (1 : Int) + x.snd.snd.fst).toNat x.fst)).getD x_1.snd.toNat (0 : Int) ≠ (0 : Int)) = false → InR IntKind.i64 (x_1.snd + (1 : Int)) ∧ ((0 : Int) ≤ x_1.snd + (1 : Int) ∧ x_1.snd + (1 : Int) ≤ (↑(List.drop (x.snd.fst + (1 : Int)).toNat (List.take (x.snd.fst + (1 : Int) + x.snd.snd.fst).toNat x.fst)).length : Int) ∧ (∀ (v : Int), v ∈ List.drop (x.snd.fst + (1 : Int)).toNat (List.take (x.snd.fst + (1 : Int) + x.snd.snd.fst).toNat x.fst) → v ≤ (256 : Int)) ∧ (List.drop (x.snd.fst + (1 : Int)).toNat (List.take (x.snd.fst + (1 : Int) + x.snd.snd.fst).toNat x.fst)).length ≤ (256 : Nat) ∧ x_1.fst = List.map (fun (x : Int) => x - (1 : Int)) (List.filter (fun (v : Int) => decide (v ≠ (0 : Int))) (List.take (x_1.snd + (1 : Int)).toNat (List.drop (x.snd.fst + (1 : Int)).toNat (List.take (x.snd.fst + (1 : Int) + x.snd.snd.fst).toNat x.fst))))) ∧ ((↑(List.drop (x.snd.fst + (1 : Int)).toNat (List.take (x.snd.fst + (1 : Int) + x.snd.snd.fst).toNat x.fst)).length : Int) - (x_1.snd + (1 : Int))).toNat < ((↑(List.drop (x.snd.fst + (1 : Int)).toNat (List.take (x.snd.fst + (1 : Int) + x.snd.snd.fst).toNat x.fst)).length : Int) - x_1.snd).toNat)) ∧ (decide (x_1.snd < (↑(List.drop (x.snd.fst + (1 : Int)).toNat (List.take (x.snd.fst + (1 : Int) + x.snd.snd.fst).toNat x.fst)).length : Int)) = false → x_1.fst = outsA x.fst x.snd.fst ∧ True)
theorem vcp_yNamed : pv_yNamed := by
  unfold pv_yNamed
  intro ⟨a, x, h⟩ ⟨⟨hb, hw⟩, hx, _⟩ ⟨hc, hB, hh⟩
  unfold big at hb
  simp only at hb hw hx hc hB hh ⊢
  subst hh
  obtain ⟨k1, k2, k3, k4, k5, k6⟩ := objA_length hB
  have hal := (isB_spot hB).2.2.2.2
  have hrf : ∀ v ∈ refsA a x, 0 ≤ v ∧ v ≤ 256 := fun v hv => by
    rcases refs_named hw hc _ (objA_in hB).1 v hv with h | h <;> omega
  have hF : outsA a x = ((refsA a x).filter fun v => decide (v ≠ 0)).map (· - 1) := rfl
  have e : List.drop (x + 1).toNat (List.take (x + 1 + (hdA a x).1).toNat a) = refsA a x := rfl
  simp only [e, hF]
  have hrl : (refsA a x).length ≤ 256 := by omega
  generalize refsA a x = r at *
  simp only [InR]
  refine ⟨by omega, by omega, by omega, by omega, by omega, by omega, ⟨by omega, by omega, fun v hv => (hrf v hv).2, hrl, by first | trivial | rfl⟩, fun ⟨out, i⟩ ⟨i0, i1, _, _, i4⟩ => ⟨fun hlt => ?_, fun hge => ?_⟩⟩
  · simp only at i0 i1 i4 hlt ⊢
    have hlt := of_decide_eq_true hlt
    have hv := hrf _ (getD_mem (0 : Int) i0 hlt)
    have ht := take_snoc (0 : Int) i0 hlt
    have hol : out.length ≤ i.toNat := by
      rw [i4, List.length_map]
      exact Nat.le_trans (List.length_filter_le _ _) (by simp; omega)
    rw [ht, List.filter_append, List.map_append, ← i4]
    generalize r.getD i.toNat 0 = v at *
    have hwr : IntKind.i64.wrap v = v := wrapI (by omega) (by omega)
    rw [hwr]
    refine ⟨i0, hlt, fun hn => ⟨by omega, by simp only [List.length_cons, List.length_nil]; unfold big; omega, by omega, ⟨by omega, by omega, fun v hv => (hrf v hv).2, hrl, ?_⟩, by omega⟩, fun hn => ⟨by omega, ⟨by omega, by omega, fun v hv => (hrf v hv).2, hrl, ?_⟩, by omega⟩⟩
    · have hn : v ≠ 0 := of_decide_eq_true hn
      simp [hn]
    · have hn : v = 0 := by simpa using hn
      simp [hn]
  · simp only at i0 i1 i4 hge ⊢
    have hge := of_decide_eq_false hge
    rw [List.take_of_length_le (by omega)] at i4
    exact ⟨i4, trivial⟩
theorem e_yNamed : pv_yNamed = fnVC Try.prog (tbl []) an_yNamed Try.f136 sp_yNamed := by kernel_rfl
theorem vc_yNamed : fnVC Try.prog (tbl []) an_yNamed Try.f136 sp_yNamed := @Eq.mp _ _ @e_yNamed @vcp_yNamed
theorem ok_yNamed : sp_yNamed.ok Try.prog 136 := fn_sound (P := Try.prog) (ss := tbl []) (ann := an_yNamed) (f := 136) (fn := Try.f136) (s := sp_yNamed) tbl_nil Try.func136 @vc_yNamed

def sp_yCheckC : Spec := { Ts := [ty_I, .ref ty_Ages], Rs := [.dat .bool], pre := fun _ => True, F := fun ((x, g) : Int × Ages) => !inL g.2.1 x }
def pv_yCheckC : Prop :=
    ∀ (x : Int × List Int × List Int × List Int), (InR IntKind.i64 x.fst ∧ (x.snd.fst.length * (8 : Nat) ≤ big ∧ ∀ (x_1 : Int), x_1 ∈ x.snd.fst → InR IntKind.u64 x_1) ∧ (x.snd.snd.fst.length * (8 : Nat) ≤ big ∧ ∀ (x_1 : Int), x_1 ∈ x.snd.snd.fst → InR IntKind.i64 x_1) ∧ x.snd.snd.snd.length * (8 : Nat) ≤ big ∧ ∀ (x_1 : Int), x_1 ∈ x.snd.snd.snd → InR IntKind.i64 x_1) → True → True ∧ (!inL x.snd.snd.fst x.fst) = !inL x.snd.snd.fst x.fst ∧ True
theorem vcp_yCheckC : pv_yCheckC := by
  unfold pv_yCheckC
  intro ⟨x, g⟩ _ _
  simp
theorem e_yCheckC : pv_yCheckC = fnVC Try.prog (tbl [(132, sp_hasI)]) an_0 Try.f137 sp_yCheckC := by kernel_rfl
theorem vc_yCheckC : fnVC Try.prog (tbl [(132, sp_hasI)]) an_0 Try.f137 sp_yCheckC := @Eq.mp _ _ @e_yCheckC @vcp_yCheckC
theorem ok_yCheckC : sp_yCheckC.ok Try.prog 137 := fn_sound (P := Try.prog) (ss := tbl [(132, sp_hasI)]) (ann := an_0) (f := 137) (fn := Try.f137) (s := sp_yCheckC) (tbl_cons ok_hasI tbl_nil) Try.func137 @vc_yCheckC

def heldB (g : Ages) (x : Int) : Bool := !inL g.2.2 x && (outsA g.1 x).any fun to => !inL g.2.1 to
def agesF (g : Ages) : Int := if (checkF g.1).2.2 ≠ 0 then (checkF g.1).2.2 else if (risesL g.2.1 && risesL g.2.2) = false then 3 else if g.2.1.all (isB (spotsF g.1).1) = false then 5 else if g.2.2.all (inL g.2.1) = false then 5 else if g.2.1.any (heldB g) = true then 8 else 0
def an_yCheck : Nat → Option LoopGen
  | 8 => some { rd := [.dat 33 (.arr ty_I), .map 31 .i64 ty_Head], A := fun ((l, m) : List Int × List (Int × Head)) => { cs := [.dat 35 ty_I], inv := fun (i : Int) => 0 ≤ i ∧ i ≤ l.length ∧ ((l.drop i.toNat).all fun x => (mget m x).isSome) = (l.all fun x => (mget m x).isSome), mu := fun (i : Int) => (l.length - i).toNat } }
  | 15 => some { rd := [.dat 49 (.arr ty_I), .box 1 ty_Ages], A := fun ((l, g) : List Int × Ages) => { cs := [.dat 51 ty_I], inv := fun (i : Int) => 0 ≤ i ∧ i ≤ l.length ∧ (l.drop i.toNat).all (inL g.2.1) = l.all (inL g.2.1), mu := fun (i : Int) => (l.length - i).toNat } }
  | 21 => some { rd := [.dat 62 (.arr ty_I), .box 1 ty_Ages], A := fun ((l, g) : List Int × Ages) => { cs := [.dat 64 ty_I], inv := fun (i : Int) => 0 ≤ i ∧ i ≤ l.length ∧ (l.drop i.toNat).any (heldB g) = l.any (heldB g), mu := fun (i : Int) => (l.length - i).toNat } }
  | _ => none
def sp_yCheck : Spec := { Ts := [ty_Ages], Rs := [.dat ty_I], pre := fun _ => True, F := agesF }
def pv_yCheck : Prop :=
    ∀ (x : List Int × List Int × List Int), ((x.fst.length * (8 : Nat) ≤ big ∧ ∀ (x_1 : Int), x_1 ∈ x.fst → InR IntKind.u64 x_1) ∧ (x.snd.fst.length * (8 : Nat) ≤ big ∧ ∀ (x_1 : Int), x_1 ∈ x.snd.fst → InR IntKind.i64 x_1) ∧ x.snd.snd.length * (8 : Nat) ≤ big ∧ ∀ (x_1 : Int), x_1 ∈ x.snd.snd → InR IntKind.i64 x_1) → True → True ∧ (decide ((checkF x.fst).snd.snd ≠ (0 : Int)) = true → (checkF x.fst).snd.snd = agesF x ∧ True) ∧ (decide ((checkF x.fst).snd.snd ≠ (0 : Int)) = false → True ∧ ((!risesL x.snd.fst) = false → True) ∧ ((!risesL x.snd.fst || !risesL x.snd.snd) = true → (3 : Int) = agesF x ∧ True) ∧ ((!risesL x.snd.fst || !risesL x.snd.snd) = false → True ∧ ((0 : Int) ≤ (0 : Int) ∧ (0 : Int) ≤ (↑x.snd.fst.length : Int) ∧ ((List.drop (Int.toNat (0 : Int)) x.snd.fst).all fun (x_1 : Int) => (mget (headsL (spotsF x.fst).fst) x_1).isSome) = x.snd.fst.all fun (x_1 : Int) => (mget (headsL (spotsF x.fst).fst) x_1).isSome) ∧ ∀ (x_1 : Int), ((0 : Int) ≤ x_1 ∧ x_1 ≤ (↑x.snd.fst.length : Int) ∧ ((List.drop x_1.toNat x.snd.fst).all fun (x_2 : Int) => (mget (headsL (spotsF x.fst).fst) x_2).isSome) = x.snd.fst.all fun (x_2 : Int) => (mget (headsL (spotsF x.fst).fst) x_2).isSome) → (decide (x_1 < (↑x.snd.fst.length : Int)) = true → (0 : Int) ≤ x_1 ∧ x_1 < (↑x.snd.fst.length : Int) ∧ ((!(mget (headsL (spotsF x.fst).fst) (x.snd.fst.getD x_1.toNat (0 : Int))).isSome) = true → (5 : Int) = agesF x ∧ True) ∧ ((!(mget (headsL (spotsF x.fst).fst) (x.snd.fst.getD x_1.toNat (0 : Int))).isSome) = false → InR IntKind.i64 (x_1 + (1 : Int)) ∧ ((0 : Int) ≤ x_1 + (1 : Int) ∧ x_1 + (1 : Int) ≤ (↑x.snd.fst.length : Int) ∧ ((List.drop (x_1 + (1 : Int)).toNat x.snd.fst).all fun (x_2 : Int) => (mget (headsL (spotsF x.fst).fst) x_2).isSome) = x.snd.fst.all fun (x_2 : Int) => (mget (headsL (spotsF x.fst).fst) x_2).isSome) ∧ ((↑x.snd.fst.length : Int) - (x_1 + (1 : Int))).toNat < ((↑x.snd.fst.length : Int) - x_1).toNat)) ∧ (decide (x_1 < (↑x.snd.fst.length : Int)) = false → ((0 : Int) ≤ (0 : Int) ∧ (0 : Int) ≤ (↑x.snd.snd.length : Int) ∧ (List.drop (Int.toNat (0 : Int)) x.snd.snd).all (inL x.snd.fst) = x.snd.snd.all (inL x.snd.fst)) ∧ ∀ (x_2 : Int), (0 : Int) ≤ x_2 ∧ x_2 ≤ (↑x.snd.snd.length : Int) ∧ (List.drop x_2.toNat x.snd.snd).all (inL x.snd.fst) = x.snd.snd.all (inL x.snd.fst) → (decide (x_2 < (↑x.snd.snd.length : Int)) = true → (0 : Int) ≤ x_2 ∧ x_2 < (↑x.snd.snd.length : Int) ∧ True ∧ ((!inL x.snd.fst (x.snd.snd.getD x_2.toNat (0 : Int))) = true → (5 : Int) = agesF x ∧ True) ∧ ((!inL x.snd.fst (x.snd.snd.getD x_2.toNat (0 : Int))) = false → InR IntKind.i64 (x_2 + (1 : Int)) ∧ ((0 : Int) ≤ x_2 + (1 : Int) ∧ x_2 + (1 : Int) ≤ (↑x.snd.snd.length : Int) ∧ (List.drop (x_2 + (1 : Int)).toNat x.snd.snd).all (inL x.snd.fst) = x.snd.snd.all (inL x.snd.fst)) ∧ ((↑x.snd.snd.length : Int) - (x_2 + (1 : Int))).toNat < ((↑x.snd.snd.length : Int) - x_2).toNat)) ∧ (decide (x_2 < (↑x.snd.snd.length : Int)) = false → ((0 : Int) ≤ (0 : Int) ∧ (0 : Int) ≤ (↑x.snd.fst.length : Int) ∧ (List.drop (Int.toNat (0 : Int)) x.snd.fst).any (heldB x) = x.snd.fst.any (heldB x)) ∧ ∀ (x_3 : Int), (0 : Int) ≤ x_3 ∧ x_3 ≤ (↑x.snd.fst.length : Int) ∧ (List.drop x_3.toNat x.snd.fst).any (heldB x) = x.snd.fst.any (heldB x) → (decide (x_3 < (↑x.snd.fst.length : Int)) = true → (0 : Int) ≤ x_3 ∧ x_3 < (↑x.snd.fst.length : Int) ∧ True ∧ ((!inL x.snd.snd (x.snd.fst.getD x_3.toNat (0 : Int))) = true → (checkF x.fst).snd.snd = (0 : Int) ∧ isB (spotsF x.fst).fst (x.snd.fst.getD x_3.toNat (0 : Int)) = true ∧ (mget (headsL (spotsF x.fst).fst) (x.snd.fst.getD x_3.toNat (0 : Int))).getD ((0 : Int), (0 : Int), (0 : Int), false) = hdA x.fst (x.snd.fst.getD x_3.toNat (0 : Int))) ∧ ((!inL x.snd.snd (x.snd.fst.getD x_3.toNat (0 : Int))) = true → ∀ (s : Int), s ∈ outsA x.fst (x.snd.fst.getD x_3.toNat (0 : Int)) → (fun (x : Int) => True, fun (x_4 : Int) => !inL x.snd.fst x_4).fst s) ∧ ((!inL x.snd.snd (x.snd.fst.getD x_3.toNat (0 : Int)) && (outsA x.fst (x.snd.fst.getD x_3.toNat (0 : Int))).any fun (x_4 : Int) => !inL x.snd.fst x_4) = true → (8 : Int) = agesF x ∧ True) ∧ ((!inL x.snd.snd (x.snd.fst.getD x_3.toNat (0 : Int)) && (outsA x.fst (x.snd.fst.getD x_3.toNat (0 : Int))).any fun (x_4 : Int) => !inL x.snd.fst x_4) = false → InR IntKind.i64 (x_3 + (1 : Int)) ∧ ((0 : Int) ≤ x_3 + (1 : Int) ∧ x_3 + (1 : Int) ≤ (↑x.snd.fst.length : Int) ∧ (List.drop (x_3 + (1 : Int)).toNat x.snd.fst).any (heldB x) = x.snd.fst.any (heldB x)) ∧ ((↑x.snd.fst.length : Int) - (x_3 + (1 : Int))).toNat < ((↑x.snd.fst.length : Int) - x_3).toNat)) ∧ (decide (x_3 < (↑x.snd.fst.length : Int)) = false → (0 : Int) = agesF x ∧ True)))))
theorem vcp_yCheck : pv_yCheck := by
  unfold pv_yCheck
  intro ⟨a, old, nt⟩ ⟨⟨hb, hw⟩, ⟨hbo, ho⟩, hbn, hn⟩ _
  unfold big at hb hbo hbn
  simp only at hb hw hbo ho hbn hn ⊢
  have hF : agesF (a, old, nt) = if (checkF a).2.2 ≠ 0 then (checkF a).2.2 else if (risesL old && risesL nt) = false then 3 else if old.all (isB (spotsF a).1) = false then 5 else if nt.all (inL old) = false then 5 else if old.any (heldB (a, old, nt)) = true then 8 else 0 := rfl
  have hget := fun x => heads_get (spotsF_sorted a) x
  have hsome : ∀ x, (mget (headsL (spotsF a).1) x).isSome = isB (spotsF a).1 x := fun x => by rw [hget]; cases isB (spotsF a).1 x <;> rfl
  simp only [hsome]
  refine ⟨trivial, fun h => ?_, fun h => ⟨trivial, fun _ => trivial, fun h2 => ?_, fun h2 => ⟨trivial, ⟨by omega, by omega, rfl⟩, fun i ⟨i0, i1, i2⟩ => ⟨fun hlt => ?_, fun hge => ⟨⟨by omega, by omega, rfl⟩, fun j ⟨j0, j1, j2⟩ => ⟨fun hlt2 => ?_, fun hge2 => ⟨⟨by omega, by omega, rfl⟩, fun k ⟨k0, k1, k2⟩ => ⟨fun hlt3 => ?_, fun hge3 => ?_⟩⟩⟩⟩⟩⟩⟩⟩
  · rw [hF, if_pos (of_decide_eq_true h)]
    exact ⟨rfl, trivial⟩
  · rw [hF, if_neg (of_decide_eq_false h), if_pos (by cases h3 : risesL old <;> cases h4 : risesL nt <;> simp_all)]
    exact ⟨rfl, trivial⟩
  all_goals have hc := of_decide_eq_false h
  all_goals have hr : ¬ (risesL old && risesL nt) = false := by cases h3 : risesL old <;> cases h4 : risesL nt <;> simp_all
  all_goals rw [hF, if_neg hc, if_neg hr]
  · have hlt := of_decide_eq_true hlt
    rw [drop_cons (0 : Int) i0 hlt, List.all_cons] at i2
    simp only [InR]
    refine ⟨i0, hlt, fun hn => ?_, fun hn => ⟨by omega, ⟨by omega, by omega, ?_⟩, by omega⟩⟩
    · have hn : isB (spotsF a).1 (old.getD i.toNat 0) = false := by simpa using hn
      rw [hn, Bool.false_and] at i2
      rw [if_pos i2.symm]
      exact ⟨rfl, trivial⟩
    · have hn : isB (spotsF a).1 (old.getD i.toNat 0) = true := by simpa using hn
      rw [hn, Bool.true_and] at i2
      exact i2
  all_goals rw [drop_end (of_decide_eq_false hge), List.all_nil] at i2
  all_goals have hob : old.all (isB (spotsF a).1) = true := i2.symm
  all_goals rw [if_neg (by rw [hob]; simp)]
  · have hlt2 := of_decide_eq_true hlt2
    rw [drop_cons (0 : Int) j0 hlt2, List.all_cons] at j2
    simp only [InR]
    refine ⟨j0, hlt2, trivial, fun hn => ?_, fun hn => ⟨by omega, ⟨by omega, by omega, ?_⟩, by omega⟩⟩
    · have hn : inL old (nt.getD j.toNat 0) = false := by simpa using hn
      rw [hn, Bool.false_and] at j2
      rw [if_pos j2.symm]
      exact ⟨rfl, trivial⟩
    · have hn : inL old (nt.getD j.toNat 0) = true := by simpa using hn
      rw [hn, Bool.true_and] at j2
      exact j2
  all_goals rw [drop_end (of_decide_eq_false hge2), List.all_nil] at j2
  all_goals rw [if_neg (by rw [← j2]; simp)]
  · have hlt3 := of_decide_eq_true hlt3
    rw [drop_cons (0 : Int) k0 hlt3, List.any_cons] at k2
    have hib := List.all_eq_true.1 hob _ (getD_mem (0 : Int) k0 hlt3)
    have e : heldB (a, old, nt) (old.getD k.toNat 0) = (!inL nt (old.getD k.toNat 0) && (outsA a (old.getD k.toNat 0)).any fun to => !inL old to) := rfl
    generalize old.getD k.toNat 0 = x at *
    simp only [InR]
    refine ⟨k0, hlt3, trivial, fun _ => ⟨by omega, hib, by rw [hget, if_pos hib]; rfl⟩, fun _ _ _ => trivial, fun hh => ?_, fun hh => ⟨by omega, ⟨by omega, by omega, ?_⟩, by omega⟩⟩
    · rw [e, hh, Bool.true_or] at k2
      rw [if_pos k2.symm]
      exact ⟨rfl, trivial⟩
    · rw [e, hh, Bool.false_or] at k2
      exact k2
  · rw [drop_end (of_decide_eq_false hge3), List.any_nil] at k2
    rw [if_neg (by rw [← k2]; simp)]
    exact ⟨rfl, trivial⟩
theorem e_yCheck : pv_yCheck = fnVC Try.prog (tbl [(134, sp_walkCheck), (135, sp_yRises), (130, sp_yObjects), (132, sp_hasI), (136, sp_yNamed), (137, sp_yCheckC), (74, sp_anyI)]) an_yCheck Try.f64 sp_yCheck := by kernel_rfl
theorem vc_yCheck : fnVC Try.prog (tbl [(134, sp_walkCheck), (135, sp_yRises), (130, sp_yObjects), (132, sp_hasI), (136, sp_yNamed), (137, sp_yCheckC), (74, sp_anyI)]) an_yCheck Try.f64 sp_yCheck := @Eq.mp _ _ @e_yCheck @vcp_yCheck
theorem ok_yCheck : sp_yCheck.ok Try.prog 64 := fn_sound (P := Try.prog) (ss := tbl [(134, sp_walkCheck), (135, sp_yRises), (130, sp_yObjects), (132, sp_hasI), (136, sp_yNamed), (137, sp_yCheckC), (74, sp_anyI)]) (ann := an_yCheck) (f := 64) (fn := Try.f64) (s := sp_yCheck) (tbl_cons ok_walkCheck (tbl_cons ok_yRises (tbl_cons ok_yObjects (tbl_cons ok_hasI (tbl_cons ok_yNamed (tbl_cons ok_yCheckC (tbl_cons ok_anyI tbl_nil))))))) Try.func64 @vc_yCheck

def an_rAges : Nat → Option LoopGen
  | 10 => some { rd := [.dat 37 (.arr ty_I), .box 1 ty_Ages], A := fun ((l, g) : List Int × Ages) => { cs := [.dat 39 ty_I], inv := fun (i : Int) => 0 ≤ i ∧ i ≤ l.length ∧ (l.drop i.toNat).all (inL g.2.1) = l.all (inL g.2.1), mu := fun (i : Int) => (l.length - i).toNat } }
  | 16 => some { rd := [.dat 50 (.arr ty_I), .box 1 ty_Ages], A := fun ((l, g) : List Int × Ages) => { cs := [.dat 52 ty_I], inv := fun (i : Int) => 0 ≤ i ∧ i ≤ l.length ∧ (l.drop i.toNat).any (heldB g) = l.any (heldB g), mu := fun (i : Int) => (l.length - i).toNat } }
  | 19 => some { rd := [.own 59 3 ty_I, .box 1 ty_Ages, .dat 8 ty_I], A := fun ((ns, g, x) : List Int × Ages × Int) => { cs := [.dat 61 ty_I], inv := fun (j : Int) => 0 ≤ j ∧ j ≤ ns.length ∧ (inL g.2.2 x = true ∨ ∀ y ∈ ns.take j.toNat, 0 ≤ y → y ∈ g.2.1), mu := fun (j : Int) => (ns.length - j).toNat } }
  | _ => none
def sp_rAges : Spec := { Ts := [ty_Ages], Rs := [.dat ty_I], pre := fun _ => True, F := agesF }
def pv_rAges : Prop :=
    ∀ (x : List Int × List Int × List Int), ((x.fst.length * (8 : Nat) ≤ big ∧ ∀ (x_1 : Int), x_1 ∈ x.fst → InR IntKind.u64 x_1) ∧ (x.snd.fst.length * (8 : Nat) ≤ big ∧ ∀ (x_1 : Int), x_1 ∈ x.snd.fst → InR IntKind.i64 x_1) ∧ x.snd.snd.length * (8 : Nat) ≤ big ∧ ∀ (x_1 : Int), x_1 ∈ x.snd.snd → InR IntKind.i64 x_1) → True → True ∧ (decide (arenaF x.fst ≠ (0 : Int)) = true → arenaF x.fst = agesF x ∧ True) ∧ (decide (arenaF x.fst ≠ (0 : Int)) = false → True ∧ ((!risesL x.snd.fst) = false → True) ∧ ((!risesL x.snd.fst || !risesL x.snd.snd) = true → (3 : Int) = agesF x ∧ True) ∧ ((!risesL x.snd.fst || !risesL x.snd.snd) = false → True ∧ (decide (fromF x.fst [x.snd.fst] ≠ (0 : Int)) = true → fromF x.fst [x.snd.fst] = agesF x ∧ True) ∧ (decide (fromF x.fst [x.snd.fst] ≠ (0 : Int)) = false → ((0 : Int) ≤ (0 : Int) ∧ (0 : Int) ≤ (↑x.snd.snd.length : Int) ∧ (List.drop (Int.toNat (0 : Int)) x.snd.snd).all (inL x.snd.fst) = x.snd.snd.all (inL x.snd.fst)) ∧ ∀ (x_1 : Int), (0 : Int) ≤ x_1 ∧ x_1 ≤ (↑x.snd.snd.length : Int) ∧ (List.drop x_1.toNat x.snd.snd).all (inL x.snd.fst) = x.snd.snd.all (inL x.snd.fst) → (decide (x_1 < (↑x.snd.snd.length : Int)) = true → (0 : Int) ≤ x_1 ∧ x_1 < (↑x.snd.snd.length : Int) ∧ True ∧ ((!inL x.snd.fst (x.snd.snd.getD x_1.toNat (0 : Int))) = true → (5 : Int) = agesF x ∧ True) ∧ ((!inL x.snd.fst (x.snd.snd.getD x_1.toNat (0 : Int))) = false → InR IntKind.i64 (x_1 + (1 : Int)) ∧ ((0 : Int) ≤ x_1 + (1 : Int) ∧ x_1 + (1 : Int) ≤ (↑x.snd.snd.length : Int) ∧ (List.drop (x_1 + (1 : Int)).toNat x.snd.snd).all (inL x.snd.fst) = x.snd.snd.all (inL x.snd.fst)) ∧ ((↑x.snd.snd.length : Int) - (x_1 + (1 : Int))).toNat < ((↑x.snd.snd.length : Int) - x_1).toNat)) ∧ (decide (x_1 < (↑x.snd.snd.length : Int)) = false → ((0 : Int) ≤ (0 : Int) ∧ (0 : Int) ≤ (↑x.snd.fst.length : Int) ∧ (List.drop (Int.toNat (0 : Int)) x.snd.fst).any (heldB x) = x.snd.fst.any (heldB x)) ∧ ∀ (x_2 : Int), (0 : Int) ≤ x_2 ∧ x_2 ≤ (↑x.snd.fst.length : Int) ∧ (List.drop x_2.toNat x.snd.fst).any (heldB x) = x.snd.fst.any (heldB x) → (decide (x_2 < (↑x.snd.fst.length : Int)) = true → (0 : Int) ≤ x_2 ∧ x_2 < (↑x.snd.fst.length : Int) ∧ True ∧ ((0 : Int) ≤ (0 : Int) ∧ (0 : Int) ≤ (↑(namedL x.fst (x.snd.fst.getD x_2.toNat (0 : Int)) (headAtL (x.snd.fst.getD x_2.toNat (0 : Int)) (spotsF x.fst).fst).fst).length : Int) ∧ (inL x.snd.snd (x.snd.fst.getD x_2.toNat (0 : Int)) = true ∨ ∀ (y : Int), y ∈ List.take (Int.toNat (0 : Int)) (namedL x.fst (x.snd.fst.getD x_2.toNat (0 : Int)) (headAtL (x.snd.fst.getD x_2.toNat (0 : Int)) (spotsF x.fst).fst).fst) → (0 : Int) ≤ y → y ∈ x.snd.fst)) ∧ ∀ (x_3 : Int), (0 : Int) ≤ x_3 ∧ x_3 ≤ (↑(namedL x.fst (x.snd.fst.getD x_2.toNat (0 : Int)) (headAtL (x.snd.fst.getD x_2.toNat (0 : Int)) (spotsF x.fst).fst).fst).length : Int) ∧ (inL x.snd.snd (x.snd.fst.getD x_2.toNat (0 : Int)) = true ∨ ∀ (y : Int), y ∈ List.take x_3.toNat (namedL x.fst (x.snd.fst.getD x_2.toNat (0 : Int)) (headAtL (x.snd.fst.getD x_2.toNat (0 : Int)) (spotsF x.fst).fst).fst) → (0 : Int) ≤ y → y ∈ x.snd.fst) → (decide (x_3 < (↑(namedL x.fst (x.snd.fst.getD x_2.toNat (0 : Int)) (headAtL (x.snd.fst.getD x_2.toNat (0 : Int)) (spotsF x.fst).fst).fst).length : Int)) = true → (0 : Int) ≤ x_3 ∧ x_3 < (↑(namedL x.fst (x.snd.fst.getD x_2.toNat (0 : Int)) (headAtL (x.snd.fst.getD x_2.toNat (0 : Int)) (spotsF x.fst).fst).fst).length : Int) ∧ x_3.toNat < (namedL x.fst (x.snd.fst.getD x_2.toNat (0 : Int)) (headAtL (x.snd.fst.getD x_2.toNat (0 : Int)) (spotsF x.fst).fst).fst).length ∧ (decide ((0 : Int) ≤ (namedL x.fst (x.snd.fst.getD x_2.toNat (0 : Int)) (headAtL (x.snd.fst.getD x_2.toNat (0 : Int)) (spotsF x.fst).fst).fst).getD x_3.toNat (0 : Int)) = true → True) ∧ ((decide ((0 : Int) ≤ (namedL x.fst (x.snd.fst.getD x_2.toNat (0 : Int)) (headAtL (x.snd.fst.getD x_2.toNat (0 : Int)) (spotsF x.fst).fst).fst).getD x_3.toNat (0 : Int)) && !inL x.snd.fst ((namedL x.fst (x.snd.fst.getD x_2.toNat (0 : Int)) (headAtL (x.snd.fst.getD x_2.toNat (0 : Int)) (spotsF x.fst).fst).fst).getD x_3.toNat (0 : Int))) = true → True) ∧ ((decide ((0 : Int) ≤ (namedL x.fst (x.snd.fst.getD x_2.toNat (0 : Int)) (headAtL (x.snd.fst.getD x_2.toNat (0 : Int)) (spotsF x.fst).fst).fst).getD x_3.toNat (0 : Int)) && !inL x.snd.fst ((namedL x.fst (x.snd.fst.getD x_2.toNat (0 : Int)) (headAtL (x.snd.fst.getD x_2.toNat (0 : Int)) (spotsF x.fst).fst).fst).getD x_3.toNat (0 : Int)) && !inL x.snd.snd (x.snd.fst.getD x_2.toNat (0 : Int))) = true → (8 : Int) = agesF x ∧ True) ∧ ((decide ((0 : Int) ≤ (namedL x.fst (x.snd.fst.getD x_2.toNat (0 : Int)) (headAtL (x.snd.fst.getD x_2.toNat (0 : Int)) (spotsF x.fst).fst).fst).getD x_3.toNat (0 : Int)) && !inL x.snd.fst ((namedL x.fst (x.snd.fst.getD x_2.toNat (0 : Int)) (headAtL (x.snd.fst.getD x_2.toNat (0 : Int)) (spotsF x.fst).fst).fst).getD x_3.toNat (0 : Int)) && !inL x.snd.snd (x.snd.fst.getD x_2.toNat (0 : Int))) = false → InR IntKind.i64 (x_3 + (1 : Int)) ∧ ((0 : Int) ≤ x_3 + (1 : Int) ∧ x_3 + (1 : Int) ≤ (↑(namedL x.fst (x.snd.fst.getD x_2.toNat (0 : Int)) (headAtL (x.snd.fst.getD x_2.toNat (0 : Int)) (spotsF x.fst).fst).fst).length : Int) ∧ (inL x.snd.snd (x.snd.fst.getD x_2.toNat (0 : Int)) = true ∨ ∀ (y : Int), y ∈ List.take (x_3 + (1 : Int)).toNat (namedL x.fst (x.snd.fst.getD x_2.toNat (0 : Int)) (headAtL (x.snd.fst.getD x_2.toNat (0 : Int)) (spotsF x.fst).fst).fst) → (0 : Int) ≤ y → y ∈ x.snd.fst)) ∧ ((↑(namedL x.fst (x.snd.fst.getD x_2.toNat (0 : Int)) (headAtL (x.snd.fst.getD x_2.toNat (0 : Int)) (spotsF x.fst).fst).fst).length : Int) - (x_3 + (1 : Int))).toNat < ((↑(namedL x.fst (x.snd.fst.getD x_2.toNat (0 : Int)) (headAtL (x.snd.fst.getD x_2.toNat (0 : Int)) (spotsF x.fst).fst).fst).length : Int) - x_3).toNat)) ∧ (decide (x_3 < (↑(namedL x.fst (x.snd.fst.getD x_2.toNat (0 : Int)) (headAtL (x.snd.fst.getD x_2.toNat (0 : Int)) (spotsF x.fst).fst).fst).length : Int)) = false → InR IntKind.i64 (x_2 + (1 : Int)) ∧ ((0 : Int) ≤ x_2 + (1 : Int) ∧ x_2 + (1 : Int) ≤ (↑x.snd.fst.length : Int) ∧ (List.drop (x_2 + (1 : Int)).toNat x.snd.fst).any (heldB x) = x.snd.fst.any (heldB x)) ∧ ((↑x.snd.fst.length : Int) - (x_2 + (1 : Int))).toNat < ((↑x.snd.fst.length : Int) - x_2).toNat)) ∧ (decide (x_2 < (↑x.snd.fst.length : Int)) = false → (0 : Int) = agesF x ∧ True)))))
theorem vcp_rAges : pv_rAges := by
  unfold pv_rAges
  intro ⟨a, old, nt⟩ ⟨⟨hb, hw⟩, ⟨hbo, ho⟩, hbn, hn⟩ _
  unfold big at hb hbo hbn
  simp only at hb hw hbo ho hbn hn ⊢
  rw [from_one hw, arena_check hw]
  have hF : agesF (a, old, nt) = if (checkF a).2.2 ≠ 0 then (checkF a).2.2 else if (risesL old && risesL nt) = false then 3 else if old.all (isB (spotsF a).1) = false then 5 else if nt.all (inL old) = false then 5 else if old.any (heldB (a, old, nt)) = true then 8 else 0 := rfl
  have hobOf : (¬ (checkF a).2.2 ≠ 0) → decide (fromFault a old ≠ 0) = false → old.all (isB (spotsF a).1) = true := by
    intro hc h3
    unfold fromFault at h3
    rw [if_neg hc] at h3
    cases h4 : old.all (isB (spotsF a).1)
    · rw [h4] at h3; simp at h3
    · rfl
  refine ⟨trivial, fun h => ?_, fun h => ⟨trivial, fun _ => trivial, fun h2 => ?_, fun h2 => ⟨trivial, fun h3 => ?_, fun h3 => ⟨⟨by omega, by omega, rfl⟩, fun j ⟨j0, j1, j2⟩ => ⟨fun hlt2 => ?_, fun hge2 => ⟨⟨by omega, by omega, rfl⟩, fun k ⟨k0, k1, k2⟩ => ⟨fun hlt3 => ?_, fun hge3 => ?_⟩⟩⟩⟩⟩⟩⟩
  · rw [hF, if_pos (of_decide_eq_true h)]
    exact ⟨rfl, trivial⟩
  · rw [hF, if_neg (of_decide_eq_false h), if_pos (by cases h3 : risesL old <;> cases h4 : risesL nt <;> simp_all)]
    exact ⟨rfl, trivial⟩
  all_goals have hc := of_decide_eq_false h
  all_goals have hr : ¬ (risesL old && risesL nt) = false := by cases h5 : risesL old <;> cases h4 : risesL nt <;> simp_all
  all_goals have hff : fromFault a old = if old.all (isB (spotsF a).1) = true then 0 else 5 := by unfold fromFault; rw [if_neg hc]
  all_goals rw [hF, if_neg hc, if_neg hr]
  · have h3 := of_decide_eq_true h3
    have hob : old.all (isB (spotsF a).1) = false := by
      cases h4 : old.all (isB (spotsF a).1)
      · rfl
      · rw [hff, if_pos h4] at h3; exact absurd rfl h3
    rw [hff, if_neg (by rw [hob]; simp), if_pos hob]
    exact ⟨rfl, trivial⟩
  all_goals have hob := hobOf hc h3
  all_goals rw [if_neg (by rw [hob]; simp)]
  · have hlt2 := of_decide_eq_true hlt2
    rw [drop_cons (0 : Int) j0 hlt2, List.all_cons] at j2
    simp only [InR]
    refine ⟨j0, hlt2, trivial, fun hn => ?_, fun hn => ⟨by omega, ⟨by omega, by omega, ?_⟩, by omega⟩⟩
    · have hn : inL old (nt.getD j.toNat 0) = false := by simpa using hn
      rw [hn, Bool.false_and] at j2
      rw [if_pos j2.symm]
      exact ⟨rfl, trivial⟩
    · have hn : inL old (nt.getD j.toNat 0) = true := by simpa using hn
      rw [hn, Bool.true_and] at j2
      exact j2
  all_goals rw [drop_end (of_decide_eq_false hge2), List.all_nil] at j2
  all_goals rw [if_neg (by rw [← j2]; simp)]
  · have hlt3 := of_decide_eq_true hlt3
    rw [drop_cons (0 : Int) k0 hlt3, List.any_cons] at k2
    have hib := List.all_eq_true.1 hob _ (getD_mem (0 : Int) k0 hlt3)
    have e : heldB (a, old, nt) (old.getD k.toNat 0) = (!inL nt (old.getD k.toNat 0) && (outsA a (old.getD k.toNat 0)).any fun to => !inL old to) := rfl
    generalize old.getD k.toNat 0 = x at *
    have hno := fun y => named_outs hw (by omega) hib (y := y)
    have hnl : (namedL a x (headAtL x (spotsF a).1).1).length ≤ a.length := by
      unfold namedL
      rw [List.length_map, List.length_drop, List.length_take]
      omega
    generalize namedL a x (headAtL x (spotsF a).1).1 = ns at *
    simp only [InR]
    refine ⟨k0, hlt3, trivial, ⟨by omega, by omega, .inr fun y hy => by simp at hy⟩, fun i ⟨i0, i1, i2⟩ => ⟨fun hlt => ?_, fun hge => ?_⟩⟩
    · have hlt := of_decide_eq_true hlt
      have hm := getD_mem (0 : Int) i0 hlt
      have ht := take_snoc (0 : Int) i0 hlt
      rw [ht]
      generalize ns.getD i.toNat 0 = y at *
      refine ⟨i0, hlt, by omega, fun _ => trivial, fun _ => trivial, fun hh => ?_, fun hh => ⟨by omega, ⟨by omega, by omega, ?_⟩, by omega⟩⟩
      · simp only [Bool.and_eq_true, decide_eq_true_eq] at hh
        obtain ⟨⟨hy0, hyo⟩, hxn⟩ := hh
        have hyo2 := (hno y).1 ⟨hm, hy0⟩
        have : heldB (a, old, nt) x = true := by
          rw [e, hxn, Bool.true_and]
          exact List.any_eq_true.2 ⟨y, hyo2, hyo⟩
        rw [this, Bool.true_or] at k2
        rw [if_pos k2.symm]
        exact ⟨rfl, trivial⟩
      · rcases i2 with i2 | i2
        · exact .inl i2
        · by_cases hx : inL nt x = true
          · exact .inl hx
          · right
            intro z hz hz0
            rcases List.mem_append.1 hz with hz | hz
            · exact i2 z hz hz0
            · have hz := List.mem_singleton.1 hz
              subst hz
              cases h6 : inL old z
              · rw [h6] at hh
                simp [hz0, hx] at hh
              · exact inL_iff.1 h6
    · have hge := of_decide_eq_false hge
      rw [List.take_of_length_le (by omega)] at i2
      have hh : heldB (a, old, nt) x = false := by
        rw [e]
        rcases i2 with i2 | i2
        · rw [i2]; rfl
        · have : ((outsA a x).any fun to => !inL old to) = false := by
            rw [List.any_eq_false]
            intro to hto
            have h7 := (hno to).2 hto
            rw [inL_iff.2 (i2 to h7.1 h7.2)]
            simp
          rw [this, Bool.and_false]
      rw [hh, Bool.false_or] at k2
      exact ⟨by omega, ⟨by omega, by omega, k2⟩, by omega⟩
  · rw [drop_end (of_decide_eq_false hge3), List.any_nil] at k2
    rw [if_neg (by rw [← k2]; simp)]
    exact ⟨rfl, trivial⟩
theorem e_rAges : pv_rAges = fnVC Try.prog (tbl [(39, sp_rArenaFault), (101, sp_rRises), (78, sp_rFrom), (48, sp_rIn), (49, sp_rNamed)]) an_rAges Try.f63 sp_rAges := by kernel_rfl
theorem vc_rAges : fnVC Try.prog (tbl [(39, sp_rArenaFault), (101, sp_rRises), (78, sp_rFrom), (48, sp_rIn), (49, sp_rNamed)]) an_rAges Try.f63 sp_rAges := @Eq.mp _ _ @e_rAges @vcp_rAges
theorem ok_rAges : sp_rAges.ok Try.prog 63 := fn_sound (P := Try.prog) (ss := tbl [(39, sp_rArenaFault), (101, sp_rRises), (78, sp_rFrom), (48, sp_rIn), (49, sp_rNamed)]) (ann := an_rAges) (f := 63) (fn := Try.f63) (s := sp_rAges) (tbl_cons ok_rArenaFault (tbl_cons ok_rRises (tbl_cons ok_rFrom (tbl_cons ok_rIn (tbl_cons ok_rNamed tbl_nil))))) Try.func63 @vc_rAges

def sp_rSameAges : Spec := { Ts := [ty_Ages, ty_Ages], Rs := [.dat .bool], pre := fun _ => True, F := fun ((x, y) : Ages × Ages) => decide (x = y) }
def pv_rSameAges : Prop :=
    ∀ (x : (List Int × List Int × List Int) × List Int × List Int × List Int), (((x.fst.fst.length * (8 : Nat) ≤ big ∧ ∀ (x_1 : Int), x_1 ∈ x.fst.fst → InR IntKind.u64 x_1) ∧ (x.fst.snd.fst.length * (8 : Nat) ≤ big ∧ ∀ (x_1 : Int), x_1 ∈ x.fst.snd.fst → InR IntKind.i64 x_1) ∧ x.fst.snd.snd.length * (8 : Nat) ≤ big ∧ ∀ (x_1 : Int), x_1 ∈ x.fst.snd.snd → InR IntKind.i64 x_1) ∧ (x.snd.fst.length * (8 : Nat) ≤ big ∧ ∀ (x_1 : Int), x_1 ∈ x.snd.fst → InR IntKind.u64 x_1) ∧ (x.snd.snd.fst.length * (8 : Nat) ≤ big ∧ ∀ (x_1 : Int), x_1 ∈ x.snd.snd.fst → InR IntKind.i64 x_1) ∧ x.snd.snd.snd.length * (8 : Nat) ≤ big ∧ ∀ (x_1 : Int), x_1 ∈ x.snd.snd.snd → InR IntKind.i64 x_1) → True → True ∧ (decide (x.fst.fst = x.snd.fst) = true → True) ∧ ((decide (x.fst.fst = x.snd.fst) && decide (x.fst.snd.fst = x.snd.snd.fst)) = true → True) ∧ (decide (x.fst.fst = x.snd.fst) && decide (x.fst.snd.fst = x.snd.snd.fst) && decide (x.fst.snd.snd = x.snd.snd.snd)) = decide (x.fst = x.snd) ∧ True
theorem vcp_rSameAges : pv_rSameAges := by
  unfold pv_rSameAges
  intro ⟨⟨a, o, n⟩, ⟨b, p, q⟩⟩ _ _
  refine ⟨trivial, fun _ => trivial, fun _ => trivial, ?_, trivial⟩
  by_cases e1 : a = b <;> by_cases e2 : o = p <;> by_cases e3 : n = q <;> simp [e1, e2, e3]
theorem e_rSameAges : pv_rSameAges = fnVC Try.prog (tbl [(138, sp_rSameWords), (139, sp_rSameInts)]) an_0 Try.f66 sp_rSameAges := by kernel_rfl
theorem vc_rSameAges : fnVC Try.prog (tbl [(138, sp_rSameWords), (139, sp_rSameInts)]) an_0 Try.f66 sp_rSameAges := @Eq.mp _ _ @e_rSameAges @vcp_rSameAges
theorem ok_rSameAges : sp_rSameAges.ok Try.prog 66 := fn_sound (P := Try.prog) (ss := tbl [(138, sp_rSameWords), (139, sp_rSameInts)]) (ann := an_0) (f := 66) (fn := Try.f66) (s := sp_rSameAges) (tbl_cons ok_rSameWords (tbl_cons ok_rSameInts tbl_nil)) Try.func66 @vc_rSameAges

def writtenF (a : List Int) (x r to : Int) : List Int × Int := if isB (spotsF a).1 x = false then ([], 5) else if r < 0 ∨ (hdA a x).1 ≤ r ∨ (to ≠ -1 ∧ isB (spotsF a).1 to = false) then ([], 4) else (a.set (x + 1 + r).toNat (to + 1), 0)
def an_rWritten : Nat → Option LoopGen
  | 10 => some { rd := [.dat 0 (.arr ty_W), .dat 1 ty_I, .dat 2 ty_I, .dat 54 ty_I], wr := [14], A := fun ((a, x, r, n) : List Int × Int × Int × Int) => { cs := [.own 14 39 ty_W, .dat 55 ty_I], inv := fun ((w, i) : List Int × Int) => 0 ≤ i ∧ i ≤ n ∧ n ≤ 256 ∧ 0 ≤ x ∧ 0 ≤ r ∧ x + 1 + r < a.length ∧ a.length ≤ 256 ∧ w = a.set (x + 1 + r).toNat i, mu := fun ((_, i) : List Int × Int) => (n - i).toNat } }
  | _ => none
def sp_rWritten : Spec := { Ts := [.arr ty_W, ty_I, ty_I, ty_I], Rs := [.own 39 ty_W, .dat ty_I], pre := fun ((a, _) : List Int × Int × Int × Int) => (checkF a).2.2 = 0, F := fun ((a, x, r, to) : List Int × Int × Int × Int) => writtenF a x r to }
def pv_rWritten : Prop :=
    ∀ (x : List Int × Int × Int × Int), (x.fst.length * (8 : Nat) ≤ big ∧ ∀ (x_1 : Int), x_1 ∈ x.fst → InR IntKind.u64 x_1) ∧ InR IntKind.i64 x.snd.fst ∧ InR IntKind.i64 x.snd.snd.fst ∧ InR IntKind.i64 x.snd.snd.snd → (checkF x.fst).snd.snd = (0 : Int) → True ∧ ((!(headAtL x.snd.fst (spotsF x.fst).fst).snd) = true → ([] : List Int) = (writtenF x.fst x.snd.fst x.snd.snd.fst x.snd.snd.snd).fst ∧ (5 : Int) = (writtenF x.fst x.snd.fst x.snd.snd.fst x.snd.snd.snd).snd ∧ True) ∧ ((!(headAtL x.snd.fst (spotsF x.fst).fst).snd) = false → True ∧ ((decide (x.snd.snd.fst < (0 : Int)) || decide ((headAtL x.snd.fst (spotsF x.fst).fst).fst.fst ≤ x.snd.snd.fst) || decide (x.snd.snd.snd ≠ (-1 : Int)) && !(headAtL x.snd.snd.snd (spotsF x.fst).fst).snd) = true → ([] : List Int) = (writtenF x.fst x.snd.fst x.snd.snd.fst x.snd.snd.snd).fst ∧ (4 : Int) = (writtenF x.fst x.snd.fst x.snd.snd.fst x.snd.snd.snd).snd ∧ True) ∧ ((decide (x.snd.snd.fst < (0 : Int)) || decide ((headAtL x.snd.fst (spotsF x.fst).fst).fst.fst ≤ x.snd.snd.fst) || decide (x.snd.snd.snd ≠ (-1 : Int)) && !(headAtL x.snd.snd.snd (spotsF x.fst).fst).snd) = false → True ∧ InR IntKind.i64 (x.snd.fst + (1 : Int)) ∧ InR IntKind.i64 (x.snd.fst + (1 : Int) + x.snd.snd.fst) ∧ (0 : Int) ≤ x.snd.fst + (1 : Int) + x.snd.snd.fst ∧ x.snd.fst + (1 : Int) + x.snd.snd.fst < (↑x.fst.length : Int) ∧ (x.snd.fst + (1 : Int) + x.snd.snd.fst).toNat < x.fst.length ∧ InR IntKind.i64 (x.snd.snd.snd + (1 : Int)) ∧ ((0 : Int) ≤ (0 : Int) ∧ (0 : Int) ≤ x.snd.snd.snd + (1 : Int) ∧ x.snd.snd.snd + (1 : Int) ≤ (256 : Int) ∧ (0 : Int) ≤ x.snd.fst ∧ (0 : Int) ≤ x.snd.snd.fst ∧ x.snd.fst + (1 : Int) + x.snd.snd.fst < (↑x.fst.length : Int) ∧ x.fst.length ≤ (256 : Nat) ∧ x.fst.set (x.snd.fst + (1 : Int) + x.snd.snd.fst).toNat (0 : Int) = x.fst.set (x.snd.fst + (1 : Int) + x.snd.snd.fst).toNat (0 : Int)) ∧ ∀ (x_1 : List Int × Int), (0 : Int) ≤ x_1.snd ∧ x_1.snd ≤ x.snd.snd.snd + (1 : Int) ∧ x.snd.snd.snd + (1 : Int) ≤ (256 : Int) ∧ (0 : Int) ≤ x.snd.fst ∧ (0 : Int) ≤ x.snd.snd.fst ∧ x.snd.fst + (1 : Int) + x.snd.snd.fst < (↑x.fst.length : Int) ∧ x.fst.length ≤ (256 : Nat) ∧ x_1.fst = x.fst.set (x.snd.fst + (1 : Int) + x.snd.snd.fst).toNat x_1.snd → (decide (x_1.snd < x.snd.snd.snd + (1 : Int)) = true → InR IntKind.i64 (x.snd.fst + (1 : Int)) ∧ InR IntKind.i64 (x.snd.fst + (1 : Int) + x.snd.snd.fst) ∧ (0 : Int) ≤ x.snd.fst + (1 : Int) + x.snd.snd.fst ∧ x.snd.fst + (1 : Int) + x.snd.snd.fst < (↑x_1.fst.length : Int) ∧ (x.snd.fst + (1 : Int) + x.snd.snd.fst).toNat < x_1.fst.length ∧ InR IntKind.u64 (x_1.fst.getD (x.snd.fst + (1 : Int) + x.snd.snd.fst).toNat (0 : Int) + (1 : Int)) ∧ (0 : Int) ≤ x.snd.fst + (1 : Int) + x.snd.snd.fst ∧ x.snd.fst + (1 : Int) + x.snd.snd.fst < (↑x_1.fst.length : Int) ∧ (x.snd.fst + (1 : Int) + x.snd.snd.fst).toNat < x_1.fst.length ∧ InR IntKind.i64 (x_1.snd + (1 : Int)) ∧ ((0 : Int) ≤ x_1.snd + (1 : Int) ∧ x_1.snd + (1 : Int) ≤ x.snd.snd.snd + (1 : Int) ∧ x.snd.snd.snd + (1 : Int) ≤ (256 : Int) ∧ (0 : Int) ≤ x.snd.fst ∧ (0 : Int) ≤ x.snd.snd.fst ∧ x.snd.fst + (1 : Int) + x.snd.snd.fst < (↑x.fst.length : Int) ∧ x.fst.length ≤ (256 : Nat) ∧ x_1.fst.set (x.snd.fst + (1 : Int) + x.snd.snd.fst).toNat (x_1.fst.getD (x.snd.fst + (1 : Int) + x.snd.snd.fst).toNat (0 : Int) + (1 : Int)) = x.fst.set (x.snd.fst + (1 : Int) + x.snd.snd.fst).toNat (x_1.snd + (1 : Int))) ∧ (x.snd.snd.snd + (1 : Int) - (x_1.snd + (1 : Int))).toNat < (x.snd.snd.snd + (1 : Int) - x_1.snd).toNat) ∧ (decide (x_1.snd < x.snd.snd.snd + (1 : Int)) = false → x_1.fst = (writtenF x.fst x.snd.fst x.snd.snd.fst x.snd.snd.snd).fst ∧ (0 : Int) = (writtenF x.fst x.snd.fst x.snd.snd.fst x.snd.snd.snd).snd ∧ True)))
theorem vcp_rWritten : pv_rWritten := by
  unfold pv_rWritten
  intro ⟨a, x, r, to⟩ ⟨⟨hb, hw⟩, hx, hr, ht⟩ hc
  simp only at hb hw hx hr ht hc ⊢
  have e : ∀ y, (headAtL y (spotsF a).1).2 = isB (spotsF a).1 y := fun _ => rfl
  have e2 : (headAtL x (spotsF a).1).1 = hdA a x := rfl
  simp only [e, e2]
  have hF : writtenF a x r to = if isB (spotsF a).1 x = false then ([], 5) else if r < 0 ∨ (hdA a x).1 ≤ r ∨ (to ≠ -1 ∧ isB (spotsF a).1 to = false) then ([], 4) else (a.set (x + 1 + r).toNat (to + 1), 0) := rfl
  rw [hF]
  refine ⟨trivial, fun h => ?_, fun h => ⟨trivial, fun h2 => ?_, fun h2 => ?_⟩⟩
  · rw [if_pos (by simpa using h)]
    exact ⟨rfl, rfl, trivial⟩
  · have h : isB (spotsF a).1 x = true := by simpa using h
    rw [if_neg (by rw [h]; simp), if_pos (by simpa [or_assoc] using h2)]
    exact ⟨rfl, rfl, trivial⟩
  have h : isB (spotsF a).1 x = true := by simpa using h
  have h2 : ¬ (r < 0 ∨ (hdA a x).1 ≤ r ∨ (to ≠ -1 ∧ isB (spotsF a).1 to = false)) := by
    intro h3
    have : (decide (r < 0) || decide ((hdA a x).1 ≤ r) || decide (to ≠ -1) && !isB (spotsF a).1 to) = true := by simpa [or_assoc] using h3
    rw [this] at h2
    cases h2
  rw [if_neg (by rw [h]; simp), if_neg h2]
  obtain ⟨k1, k2, k3, k4, k5, k6⟩ := objA_length h
  have hal := (isB_spot h).2.2.2.2
  have hto : -1 ≤ to ∧ to ≤ 255 := by
    by_cases h3 : to = -1
    · omega
    · have h4 : isB (spotsF a).1 to = true := by
        cases h5 : isB (spotsF a).1 to
        · exact absurd (.inr (.inr ⟨h3, h5⟩)) h2
        · rfl
      have := isB_range h4
      omega
  have hr0 : 0 ≤ r ∧ r < (hdA a x).1 := by omega
  have hkl : (x + 1 + r).toNat < a.length := by omega
  simp only [InR]
  refine ⟨trivial, by omega, by omega, by omega, by omega, hkl, by omega, ⟨by omega, by omega, by omega, by omega, by omega, by omega, hal, by first | trivial | rfl⟩, fun ⟨w, i⟩ ⟨i0, i1, i2, i3, i4, i5, i6, i7⟩ => ⟨fun hlt => ?_, fun hge => ?_⟩⟩
  · simp only at i0 i1 i2 i3 i4 i5 i6 i7 hlt ⊢
    have hlt := of_decide_eq_true hlt
    have hwl : w.length = a.length := by rw [i7]; simp
    have hwg : w.getD (x + 1 + r).toNat 0 = i := by rw [i7, List.getD_eq_getElem?_getD]; simp [hkl]
    rw [hwg]
    refine ⟨by omega, by omega, by omega, by omega, by omega, by omega, by omega, by omega, by omega, by omega, ⟨by omega, by omega, by omega, by omega, by omega, by omega, hal, ?_⟩, by omega⟩
    rw [i7, List.set_set]
  · simp only at i0 i1 i2 i3 i4 i5 i6 i7 hge ⊢
    have hge := of_decide_eq_false hge
    rw [i7, show i = to + 1 by omega]
    exact ⟨by first | trivial | rfl, by first | trivial | rfl, trivial⟩
theorem e_rWritten : pv_rWritten = fnVC Try.prog (tbl [(46, sp_rHeadAt), (42, sp_refClone)]) an_rWritten Try.f65 sp_rWritten := by kernel_rfl
theorem vc_rWritten : fnVC Try.prog (tbl [(46, sp_rHeadAt), (42, sp_refClone)]) an_rWritten Try.f65 sp_rWritten := @Eq.mp _ _ @e_rWritten @vcp_rWritten
theorem ok_rWritten : sp_rWritten.ok Try.prog 65 := fn_sound (P := Try.prog) (ss := tbl [(46, sp_rHeadAt), (42, sp_refClone)]) (ann := an_rWritten) (f := 65) (fn := Try.f65) (s := sp_rWritten) (tbl_cons ok_rHeadAt (tbl_cons ok_refClone tbl_nil)) Try.func65 @vc_rWritten

end Go.Proofs.Ytgnamdjmjkeodaa
