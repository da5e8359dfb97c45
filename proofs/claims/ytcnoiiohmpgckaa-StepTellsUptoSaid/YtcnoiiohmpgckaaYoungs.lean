
import Derived.Test.YtcnoiiohmpgckaaFaints
import Derived.Test.YtcnoiiohmpgckaaWords
import Derived.Test.YtcnoiiohmpgckaaRObjects
namespace Go.Proofs.Ytcnoiiohmpgckaa
open Go
set_option maxRecDepth 100000
set_option maxHeartbeats 1000000
def writtenF (a : List Int) (x r to : Int) : List Int × Int := if isB (spotsF a).1 x = false then ([], 5) else if r < 0 ∨ (hdA a x).1 ≤ r ∨ (to ≠ -1 ∧ isB (spotsF a).1 to = false) then ([], 4) else (a.set (x + 1 + r).toNat (to + 1), 0)
def an_rWritten : Nat → Option LoopGen
  | 10 => some { rd := [.dat 0 (.arr ty_W), .dat 1 ty_I, .dat 2 ty_I, .dat 54 ty_I], wr := [14], A := fun ((a, x, r, n) : List Int × Int × Int × Int) => { cs := [.own 14 76 ty_W, .dat 55 ty_I], inv := fun ((w, i) : List Int × Int) => 0 ≤ i ∧ i ≤ n ∧ n ≤ 256 ∧ 0 ≤ x ∧ 0 ≤ r ∧ x + 1 + r < a.length ∧ a.length ≤ 256 ∧ w = a.set (x + 1 + r).toNat i, mu := fun ((_, i) : List Int × Int) => (n - i).toNat } }
  | _ => none
def sp_rWritten : Spec := { Ts := [.arr ty_W, ty_I, ty_I, ty_I], Rs := [.own 76 ty_W, .dat ty_I], pre := fun ((a, _) : List Int × Int × Int × Int) => (checkF a).2.2 = 0, F := fun ((a, x, r, to) : List Int × Int × Int × Int) => writtenF a x r to }
def pv_rWritten : Prop :=
    ∀ (x : List Int × Int × Int × Int), (x.1.length * 8 ≤ big ∧ ∀ (x_1 : Int), x_1 ∈ x.1 → InR IntKind.u64 x_1) ∧ InR IntKind.i64 x.2.1 ∧ InR IntKind.i64 x.2.2.1 ∧ InR IntKind.i64 x.2.2.2 → (checkF x.1).2.2 = 0 → True ∧ ((!(headAtL x.2.1 (spotsF x.1).1).2) = true → ([] : List Int) = (writtenF x.1 x.2.1 x.2.2.1 x.2.2.2).1 ∧ 5 = (writtenF x.1 x.2.1 x.2.2.1 x.2.2.2).2 ∧ True) ∧ ((!(headAtL x.2.1 (spotsF x.1).1).2) = false → True ∧ ((decide (x.2.2.1 < 0) || decide ((headAtL x.2.1 (spotsF x.1).1).1.1 ≤ x.2.2.1) || decide (x.2.2.2 ≠ (-1)) && !(headAtL x.2.2.2 (spotsF x.1).1).2) = true → ([] : List Int) = (writtenF x.1 x.2.1 x.2.2.1 x.2.2.2).1 ∧ 4 = (writtenF x.1 x.2.1 x.2.2.1 x.2.2.2).2 ∧ True) ∧ ((decide (x.2.2.1 < 0) || decide ((headAtL x.2.1 (spotsF x.1).1).1.1 ≤ x.2.2.1) || decide (x.2.2.2 ≠ (-1)) && !(headAtL x.2.2.2 (spotsF x.1).1).2) = false → True ∧ InR IntKind.i64 (x.2.1 + 1) ∧ InR IntKind.i64 (x.2.1 + 1 + x.2.2.1) ∧ 0 ≤ x.2.1 + 1 + x.2.2.1 ∧ x.2.1 + 1 + x.2.2.1 < (↑x.1.length : Int) ∧ (x.2.1 + 1 + x.2.2.1).toNat < x.1.length ∧ InR IntKind.i64 (x.2.2.2 + 1) ∧ ((0 : Int) ≤ 0 ∧ 0 ≤ x.2.2.2 + 1 ∧ x.2.2.2 + 1 ≤ 256 ∧ 0 ≤ x.2.1 ∧ 0 ≤ x.2.2.1 ∧ x.2.1 + 1 + x.2.2.1 < (↑x.1.length : Int) ∧ x.1.length ≤ 256 ∧ x.1.set (x.2.1 + 1 + x.2.2.1).toNat 0 = x.1.set (x.2.1 + 1 + x.2.2.1).toNat 0) ∧ ∀ (x_1 : List Int × Int), 0 ≤ x_1.2 ∧ x_1.2 ≤ x.2.2.2 + 1 ∧ x.2.2.2 + 1 ≤ 256 ∧ 0 ≤ x.2.1 ∧ 0 ≤ x.2.2.1 ∧ x.2.1 + 1 + x.2.2.1 < (↑x.1.length : Int) ∧ x.1.length ≤ 256 ∧ x_1.1 = x.1.set (x.2.1 + 1 + x.2.2.1).toNat x_1.2 → (decide (x_1.2 < x.2.2.2 + 1) = true → InR IntKind.i64 (x.2.1 + 1) ∧ InR IntKind.i64 (x.2.1 + 1 + x.2.2.1) ∧ 0 ≤ x.2.1 + 1 + x.2.2.1 ∧ x.2.1 + 1 + x.2.2.1 < (↑x_1.1.length : Int) ∧ (x.2.1 + 1 + x.2.2.1).toNat < x_1.1.length ∧ InR IntKind.u64 (x_1.1.getD (x.2.1 + 1 + x.2.2.1).toNat 0 + 1) ∧ 0 ≤ x.2.1 + 1 + x.2.2.1 ∧ x.2.1 + 1 + x.2.2.1 < (↑x_1.1.length : Int) ∧ (x.2.1 + 1 + x.2.2.1).toNat < x_1.1.length ∧ InR IntKind.i64 (x_1.2 + 1) ∧ (0 ≤ x_1.2 + 1 ∧ x_1.2 + 1 ≤ x.2.2.2 + 1 ∧ x.2.2.2 + 1 ≤ 256 ∧ 0 ≤ x.2.1 ∧ 0 ≤ x.2.2.1 ∧ x.2.1 + 1 + x.2.2.1 < (↑x.1.length : Int) ∧ x.1.length ≤ 256 ∧ x_1.1.set (x.2.1 + 1 + x.2.2.1).toNat (x_1.1.getD (x.2.1 + 1 + x.2.2.1).toNat 0 + 1) = x.1.set (x.2.1 + 1 + x.2.2.1).toNat (x_1.2 + 1)) ∧ (x.2.2.2 + 1 - (x_1.2 + 1)).toNat < (x.2.2.2 + 1 - x_1.2).toNat) ∧ (decide (x_1.2 < x.2.2.2 + 1) = false → x_1.1 = (writtenF x.1 x.2.1 x.2.2.1 x.2.2.2).1 ∧ 0 = (writtenF x.1 x.2.1 x.2.2.1 x.2.2.2).2 ∧ True)))
theorem vcp_rWritten : pv_rWritten := by
  unfold pv_rWritten
  intro ⟨a, x, r, to⟩ ⟨⟨hb, hw⟩, hx, hr, ht⟩ hc
  simp only at hb hw hx hr ht hc ⊢
  have e : ∀ y, (headAtL y (spotsF a).1).2 = isB (spotsF a).1 y := fun _ => rfl
  have e2 : (headAtL x (spotsF a).1).1 = hdA a x := rfl
  simp only [e, e2]
  have hF : writtenF a x r to = if isB (spotsF a).1 x = false then ([], 5) else if r < 0 ∨ (hdA a x).1 ≤ r ∨ (to ≠ -1 ∧ isB (spotsF a).1 to = false) then ([], 4) else (a.set (x + 1 + r).toNat (to + 1), 0) := rfl
  rw [hF]
  refine ⟨trivial, fun h => ?_, fun h => ⟨trivial, fun h2 => ?_, fun h2 => ?_⟩⟩
  · rw [if_pos (by simpa using h)]
    exact ⟨rfl, rfl, trivial⟩
  · have h : isB (spotsF a).1 x = true := by simpa using h
    rw [if_neg (by rw [h]; simp), if_pos (by simpa [or_assoc] using h2)]
    exact ⟨rfl, rfl, trivial⟩
  have h : isB (spotsF a).1 x = true := by simpa using h
  have h2 : ¬ (r < 0 ∨ (hdA a x).1 ≤ r ∨ (to ≠ -1 ∧ isB (spotsF a).1 to = false)) := by
    intro h3
    have : (decide (r < 0) || decide ((hdA a x).1 ≤ r) || decide (to ≠ -1) && !isB (spotsF a).1 to) = true := by simpa [or_assoc] using h3
    rw [this] at h2
    cases h2
  rw [if_neg (by rw [h]; simp), if_neg h2]
  obtain ⟨k1, k2, k3, k4, k5, k6⟩ := objA_length h
  have hal := (isB_spot h).2.2.2.2
  have hto : -1 ≤ to ∧ to ≤ 255 := by
    by_cases h3 : to = -1
    · omega
    · have h4 : isB (spotsF a).1 to = true := by
        cases h5 : isB (spotsF a).1 to
        · exact absurd (.inr (.inr ⟨h3, h5⟩)) h2
        · rfl
      have := isB_range h4
      omega
  have hr0 : 0 ≤ r ∧ r < (hdA a x).1 := by omega
  have hkl : (x + 1 + r).toNat < a.length := by omega
  simp only [InR]
  refine ⟨trivial, by omega, by omega, by omega, by omega, hkl, by omega, ⟨by omega, by omega, by omega, by omega, by omega, by omega, hal, by first | trivial | rfl⟩, fun ⟨w, i⟩ ⟨i0, i1, i2, i3, i4, i5, i6, i7⟩ => ⟨fun hlt => ?_, fun hge => ?_⟩⟩
  · simp only at i0 i1 i2 i3 i4 i5 i6 i7 hlt ⊢
    have hlt := of_decide_eq_true hlt
    have hwl : w.length = a.length := by rw [i7]; simp
    have hwg : w.getD (x + 1 + r).toNat 0 = i := by rw [i7, List.getD_eq_getElem?_getD]; simp [hkl]
    rw [hwg]
    refine ⟨by omega, by omega, by omega, by omega, by omega, by omega, by omega, by omega, by omega, by omega, ⟨by omega, by omega, by omega, by omega, by omega, by omega, hal, ?_⟩, by omega⟩
    rw [i7, List.set_set]
  · simp only at i0 i1 i2 i3 i4 i5 i6 i7 hge ⊢
    have hge := of_decide_eq_false hge
    rw [i7, show i = to + 1 by omega]
    exact ⟨by first | trivial | rfl, by first | trivial | rfl, trivial⟩
theorem ok_rWritten : sp_rWritten.ok Try.prog 70 := fn_ok (ann := an_rWritten) (tbl_cons ok_rHeadAt (tbl_cons ok_refClone tbl_nil)) Try.func70 (by kernel_rfl) vcp_rWritten
end Go.Proofs.Ytcnoiiohmpgckaa
