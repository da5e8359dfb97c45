
import Derived.Test.YtcnoiiohmpgckaaRising
import Derived.Test.YtcnoiiohmpgckaaInts
namespace Go.Proofs.Ytcnoiiohmpgckaa
open Go
set_option maxRecDepth 100000
set_option maxHeartbeats 1000000
def sp_isNaN1 : Spec := { Ts := [ty_I], Rs := [.dat .bool], pre := fun _ => True, F := fun _ => false }
def pv_isNaN1 : Prop :=
    ∀ (x : Int), InR IntKind.i64 x → True → decide (x ≠ x) = false ∧ True
theorem vcp_isNaN1 : pv_isNaN1 := by
  unfold pv_isNaN1
  intro x _ _
  simp
theorem ok_isNaN1 : sp_isNaN1.ok Try.prog 198 := fn_ok (ann := an_0) tbl_nil Try.func198 (by kernel_rfl) vcp_isNaN1
def sp_isNaN2 : Spec := { Ts := [ty_I], Rs := [.dat .bool], pre := fun _ => True, F := fun _ => false }
def pv_isNaN2 : Prop :=
    ∀ (x : Int), InR IntKind.i64 x → True → decide (x ≠ x) = false ∧ True
theorem vcp_isNaN2 : pv_isNaN2 := by
  unfold pv_isNaN2
  intro x _ _
  simp
theorem ok_isNaN2 : sp_isNaN2.ok Try.prog 207 := fn_ok (ann := an_0) tbl_nil Try.func207 (by kernel_rfl) vcp_isNaN2
def sp_lessI : Spec := { Ts := [ty_I, ty_I], Rs := [.dat .bool], pre := fun _ => True, F := fun ((x, y) : Int × Int) => decide (x < y) }
def pv_lessI : Prop :=
    ∀ (x : Int × Int), InR IntKind.i64 x.1 ∧ InR IntKind.i64 x.2 → True → True ∧ (false = true → True) ∧ (false && !false || decide (x.1 < x.2)) = decide (x.1 < x.2) ∧ True
theorem vcp_lessI : pv_lessI := by
  unfold pv_lessI
  intro ⟨x, y⟩ _ _
  simp
theorem ok_lessI : sp_lessI.ok Try.prog 178 := fn_ok (ann := an_0) (tbl_cons ok_isNaN2 tbl_nil) Try.func178 (by kernel_rfl) vcp_lessI
def lowI (l : List Int) (x : Int) : Int := ((l.filter fun y => decide (y < x)).length : Int)
theorem low_is {l : List Int} {x : Int} {lo : Nat} (hlo : lo ≤ l.length) (h1 : ∀ j : Nat, j < lo → l.getD j 0 < x) (h2 : ∀ j : Nat, lo ≤ j → j < l.length → x ≤ l.getD j 0) : lowI l x = lo := by
  unfold lowI
  have e : l.filter (fun y => decide (y < x)) = l.take lo := by
    have e1 : l = l.take lo ++ l.drop lo := (List.take_append_drop lo l).symm
    have e2 : (l.take lo).filter (fun y => decide (y < x)) = l.take lo := by
      rw [List.filter_eq_self]
      intro y hy
      obtain ⟨j, hj, rfl⟩ := List.mem_iff_getElem.1 hy
      have hj2 : j < lo ∧ j < l.length := by simp at hj; omega
      have := h1 j hj2.1
      rw [List.getD_eq_getElem?_getD, List.getElem?_eq_getElem hj2.2] at this
      simpa using this
    have e3 : (l.drop lo).filter (fun y => decide (y < x)) = [] := by
      rw [List.filter_eq_nil_iff]
      intro y hy
      obtain ⟨j, hj, rfl⟩ := List.mem_iff_getElem.1 hy
      have hj2 : lo + j < l.length := by simp at hj; omega
      have := h2 (lo + j) (by omega) hj2
      rw [List.getD_eq_getElem?_getD, List.getElem?_eq_getElem hj2] at this
      simp at this ⊢
      omega
    conv => lhs; rw [e1]
    rw [List.filter_append, e2, e3, List.append_nil]
  rw [e, List.length_take, Nat.min_eq_left hlo]
theorem low_in {l : List Int} {x : Int} {lo : Nat} (hs : l.Pairwise (· ≤ ·)) (h1 : ∀ j : Nat, j < lo → l.getD j 0 < x) (h2 : ∀ j : Nat, lo ≤ j → j < l.length → x ≤ l.getD j 0) : inL l x = (decide (lo < l.length) && decide (l.getD lo 0 = x)) := by
  by_cases h : lo < l.length ∧ l.getD lo 0 = x
  · rw [decide_eq_true h.1, decide_eq_true h.2]
    refine inL_iff.2 ?_
    rw [← h.2, List.getD_eq_getElem?_getD, List.getElem?_eq_getElem h.1]
    simp
  · have e : (decide (lo < l.length) && decide (l.getD lo 0 = x)) = false := by
      by_cases h3 : lo < l.length
      · by_cases h4 : l.getD lo 0 = x
        · exact absurd ⟨h3, h4⟩ h
        · rw [decide_eq_false h4, Bool.and_false]
      · rw [decide_eq_false h3, Bool.false_and]
    rw [e]
    cases hx : inL l x
    · rfl
    · exfalso
      obtain ⟨j, hj, e2⟩ := List.mem_iff_getElem.1 (inL_iff.1 hx)
      have ej : l.getD j 0 = x := by rw [List.getD_eq_getElem?_getD, List.getElem?_eq_getElem hj]; simpa using e2
      rcases Nat.lt_or_ge j lo with hlt | hge
      · have := h1 j hlt; omega
      · have hlo : lo < l.length := by omega
        have h5 := h2 lo (Nat.le_refl _) hlo
        have h6 : l.getD lo 0 ≤ l.getD j 0 := by
          rcases Nat.lt_or_ge lo j with h7 | h7
          · have := List.pairwise_iff_getElem.1 hs lo j hlo hj h7
            rw [List.getD_eq_getElem?_getD, List.getElem?_eq_getElem hlo, List.getD_eq_getElem?_getD, List.getElem?_eq_getElem hj]
            simpa using this
          · have : j = lo := by omega
            subst this
            exact Int.le_refl _
        exact h ⟨hlo, by omega⟩
theorem sorted_getD {l : List Int} (hs : l.Pairwise (· ≤ ·)) {i j : Nat} (h : i ≤ j) (hj : j < l.length) : l.getD i 0 ≤ l.getD j 0 := by
  rcases Nat.lt_or_ge i j with h7 | h7
  · have := List.pairwise_iff_getElem.1 hs i j (by omega) hj h7
    rw [List.getD_eq_getElem?_getD, List.getElem?_eq_getElem (show i < l.length by omega), List.getD_eq_getElem?_getD, List.getElem?_eq_getElem hj]
    simpa using this
  · have : j = i := by omega
    subst this
    exact Int.le_refl _
def an_bsI : Nat → Option LoopGen
  | 3 => some { rd := [.dat 0 (.arr ty_I), .dat 1 ty_I], A := fun ((l, x) : List Int × Int) => { cs := [.dat 7 ty_I, .dat 8 ty_I], inv := fun ((lo, hi) : Int × Int) => 0 ≤ lo ∧ lo ≤ hi ∧ hi ≤ l.length ∧ (∀ j : Nat, (j : Int) < lo → l.getD j 0 < x) ∧ (∀ j : Nat, hi ≤ j → j < l.length → x ≤ l.getD j 0), mu := fun ((lo, hi) : Int × Int) => (hi - lo).toNat } }
  | _ => none
def sp_bsI : Spec := { Ts := [.arr ty_I, ty_I], Rs := [.dat ty_I, .dat .bool], pre := fun ((l, _) : List Int × Int) => l.Pairwise (· ≤ ·), F := fun ((l, x) : List Int × Int) => (lowI l x, inL l x) }
def pv_bsI : Prop :=
    ∀ (x : List Int × Int), (x.1.length * 8 ≤ big ∧ ∀ (x_1 : Int), x_1 ∈ x.1 → InR IntKind.i64 x_1) ∧ InR IntKind.i64 x.2 → List.Pairwise (fun (x1 x2 : Int) => x1 ≤ x2) x.1 → ((0 : Int) ≤ 0 ∧ 0 ≤ (↑x.1.length : Int) ∧ (↑x.1.length : Int) ≤ (↑x.1.length : Int) ∧ (∀ (j : Nat), (↑j : Int) < 0 → x.1.getD j 0 < x.2) ∧ ∀ (j : Nat), (↑x.1.length : Int) ≤ (↑j : Int) → j < x.1.length → x.2 ≤ x.1.getD j 0) ∧ ∀ (x_1 : Int × Int), (0 ≤ x_1.1 ∧ x_1.1 ≤ x_1.2 ∧ x_1.2 ≤ (↑x.1.length : Int) ∧ (∀ (j : Nat), (↑j : Int) < x_1.1 → x.1.getD j 0 < x.2) ∧ ∀ (j : Nat), x_1.2 ≤ (↑j : Int) → j < x.1.length → x.2 ≤ x.1.getD j 0) → (decide (x_1.1 < x_1.2) = true → InR IntKind.i64 (x_1.1 + x_1.2) ∧ (0 : Int) ≤ 1 ∧ 1 < (↑IntKind.u64.bits : Int) ∧ 0 ≤ IntKind.i64.wrap (IntKind.u64.wrap (x_1.1 + x_1.2) / 2 ^ Int.toNat 1) ∧ IntKind.i64.wrap (IntKind.u64.wrap (x_1.1 + x_1.2) / 2 ^ Int.toNat 1) < (↑x.1.length : Int) ∧ True ∧ (decide (x.1.getD (IntKind.i64.wrap (IntKind.u64.wrap (x_1.1 + x_1.2) / 2 ^ Int.toNat 1)).toNat 0 < x.2) = true → InR IntKind.i64 (IntKind.i64.wrap (IntKind.u64.wrap (x_1.1 + x_1.2) / 2 ^ Int.toNat 1) + 1) ∧ (0 ≤ IntKind.i64.wrap (IntKind.u64.wrap (x_1.1 + x_1.2) / 2 ^ Int.toNat 1) + 1 ∧ IntKind.i64.wrap (IntKind.u64.wrap (x_1.1 + x_1.2) / 2 ^ Int.toNat 1) + 1 ≤ x_1.2 ∧ x_1.2 ≤ (↑x.1.length : Int) ∧ (∀ (j : Nat), (↑j : Int) < IntKind.i64.wrap (IntKind.u64.wrap (x_1.1 + x_1.2) / 2 ^ Int.toNat 1) + 1 → x.1.getD j 0 < x.2) ∧ ∀ (j : Nat), x_1.2 ≤ (↑j : Int) → j < x.1.length → x.2 ≤ x.1.getD j 0) ∧ (x_1.2 - (IntKind.i64.wrap (IntKind.u64.wrap (x_1.1 + x_1.2) / 2 ^ Int.toNat 1) + 1)).toNat < (x_1.2 - x_1.1).toNat) ∧ (decide (x.1.getD (IntKind.i64.wrap (IntKind.u64.wrap (x_1.1 + x_1.2) / 2 ^ Int.toNat 1)).toNat 0 < x.2) = false → (0 ≤ x_1.1 ∧ x_1.1 ≤ IntKind.i64.wrap (IntKind.u64.wrap (x_1.1 + x_1.2) / 2 ^ Int.toNat 1) ∧ IntKind.i64.wrap (IntKind.u64.wrap (x_1.1 + x_1.2) / 2 ^ Int.toNat 1) ≤ (↑x.1.length : Int) ∧ (∀ (j : Nat), (↑j : Int) < x_1.1 → x.1.getD j 0 < x.2) ∧ ∀ (j : Nat), IntKind.i64.wrap (IntKind.u64.wrap (x_1.1 + x_1.2) / 2 ^ Int.toNat 1) ≤ (↑j : Int) → j < x.1.length → x.2 ≤ x.1.getD j 0) ∧ (IntKind.i64.wrap (IntKind.u64.wrap (x_1.1 + x_1.2) / 2 ^ Int.toNat 1) - x_1.1).toNat < (x_1.2 - x_1.1).toNat)) ∧ (decide (x_1.1 < x_1.2) = false → (decide (x_1.1 < (↑x.1.length : Int)) = true → 0 ≤ x_1.1) ∧ (decide (x_1.1 < (↑x.1.length : Int)) = true → x_1.1 < (↑x.1.length : Int)) ∧ (decide (x.1.getD x_1.1.toNat 0 = x.2) = false → decide (x_1.1 < (↑x.1.length : Int)) = true → 0 ≤ x_1.1) ∧ (decide (x.1.getD x_1.1.toNat 0 = x.2) = false → decide (x_1.1 < (↑x.1.length : Int)) = true → x_1.1 < (↑x.1.length : Int)) ∧ (decide (x.1.getD x_1.1.toNat 0 = x.2) = false → decide (x_1.1 < (↑x.1.length : Int)) = true → True) ∧ (false = true → decide (x.1.getD x_1.1.toNat 0 = x.2) = false → decide (x_1.1 < (↑x.1.length : Int)) = true → True) ∧ x_1.1 = lowI x.1 x.2 ∧ (decide (x_1.1 < (↑x.1.length : Int)) && (decide (x.1.getD x_1.1.toNat 0 = x.2) || false && false)) = inL x.1 x.2 ∧ True)
theorem vcp_bsI : pv_bsI := by
  unfold pv_bsI
  intro ⟨l, x⟩ ⟨⟨hb, _⟩, _⟩ hs
  unfold big at hb
  simp only at hb hs ⊢
  refine ⟨⟨by omega, by omega, by omega, fun j hj => by omega, fun j h1 h2 => by omega⟩, fun ⟨lo, hi⟩ ⟨q1, q2, q3, q4, q5⟩ => ⟨fun hlt => ?_, fun hge => ?_⟩⟩
  · simp only at q1 q2 q3 q4 q5 hlt ⊢
    have hlt := of_decide_eq_true hlt
    have hm : IntKind.i64.wrap (IntKind.u64.wrap (lo + hi) / 2 ^ Int.toNat 1) = (lo + hi) / 2 := by
      rw [wrapU (by omega) (by omega), show (2 : Int) ^ Int.toNat 1 = 2 from rfl, wrapI (by omega) (by omega)]
    simp only [hm]
    have hm1 : lo ≤ (lo + hi) / 2 ∧ (lo + hi) / 2 < hi := by omega
    generalize (lo + hi) / 2 = m at *
    simp only [InR]
    refine ⟨by omega, by omega, by decide, by omega, by omega, trivial, fun hc => ⟨by omega, ⟨by omega, by omega, by omega, fun j hj => ?_, q5⟩, by omega⟩, fun hc => ⟨⟨by omega, by omega, by omega, q4, fun j h1 h2 => ?_⟩, by omega⟩⟩
    · have hc := of_decide_eq_true hc
      have := sorted_getD hs (i := j) (j := m.toNat) (by omega) (by omega)
      omega
    · have hc := of_decide_eq_false hc
      have := sorted_getD hs (i := m.toNat) (j := j) (by omega) (by omega)
      omega
  · simp only at q1 q2 q3 q4 q5 hge ⊢
    have hge := of_decide_eq_false hge
    have he : hi = lo := by omega
    subst he
    obtain ⟨n, rfl⟩ : ∃ n : Nat, hi = n := ⟨hi.toNat, by omega⟩
    have h1 : ∀ j : Nat, j < n → l.getD j 0 < x := fun j hj => q4 j (by omega)
    have h2 : ∀ j : Nat, n ≤ j → j < l.length → x ≤ l.getD j 0 := fun j h1 h2 => q5 j (by omega) h2
    rw [low_is (by omega) h1 h2, low_in hs h1 h2]
    refine ⟨fun _ => by omega, fun h => of_decide_eq_true h, fun _ _ => by omega, fun _ h => of_decide_eq_true h, fun _ _ => trivial, fun h => (by cases h), by first | trivial | rfl, ?_, trivial⟩
    simp
theorem ok_bsI : sp_bsI.ok Try.prog 165 := fn_ok (ann := an_bsI) (tbl_cons ok_lessI (tbl_cons ok_isNaN1 tbl_nil)) Try.func165 (by kernel_rfl) vcp_bsI
end Go.Proofs.Ytcnoiiohmpgckaa
