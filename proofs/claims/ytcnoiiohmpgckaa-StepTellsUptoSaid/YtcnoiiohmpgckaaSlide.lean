
import Derived.Test.YtcnoiiohmpgckaaPlanSame
namespace Go.Proofs.Ytcnoiiohmpgckaa
open Go
set_option maxRecDepth 100000
set_option maxHeartbeats 1000000
theorem spotsS_head (at_ : Int) (l : List Int) (r : List Spot) (h : spotsS at_ l = some r) : ∀ s ∈ r, at_ ≤ s.1 ∧ s.2 = headOf (l.getD (s.1 - at_).toNat 0) ∧ isHead (l.getD (s.1 - at_).toNat 0) = true := by
  induction at_, l using spotsS.induct generalizing r with
  | case1 at_ =>
    simp only [spotsS, Option.some.injEq] at h
    subst h
    simp
  | case2 at_ v l hv ih =>
    rw [spotsS_cons hv.1 hv.2] at h
    obtain ⟨r', hr, rfl⟩ := Option.map_eq_some_iff.1 h
    have hl := isHead_long hv.1
    intro s hs
    rcases List.mem_cons.1 hs with rfl | hs
    · simp only [Int.sub_self]
      exact ⟨Int.le_refl _, rfl, hv.1⟩
    · obtain ⟨h1, h2, h3⟩ := ih r' hr s hs
      have e : ((v :: l).drop (headLong (headOf v)).toNat).getD (s.1 - (at_ + headLong (headOf v))).toNat 0 = (v :: l).getD (s.1 - at_).toNat 0 := by
        rw [List.getD_eq_getElem?_getD, List.getElem?_drop, List.getD_eq_getElem?_getD]
        congr 2
        omega
      rw [e] at h2 h3
      exact ⟨by omega, h2, h3⟩
  | case3 at_ v l hv =>
    rw [spotsS_none hv] at h
    cases h
theorem spotsF_head {a : List Int} : ∀ s ∈ (spotsF a).1, s.2 = headOf (a.getD s.1.toNat 0) ∧ isHead (a.getD s.1.toNat 0) = true := by
  unfold spotsF
  split
  · intro s hs; cases hs
  · cases h : spotsS 0 a with
    | none => intro s hs; cases hs
    | some l =>
      intro s hs
      have := spotsS_head 0 a l h s hs
      rw [Int.sub_zero] at this
      exact this.2
def hdA (a : List Int) (at_ : Int) : Head := (headAtL at_ (spotsF a).1).1
def refsA (a : List Int) (at_ : Int) : List Int := spotRefs a (at_, hdA a at_)
def bodyA (a : List Int) (at_ : Int) : List Int := spotBody a (at_, hdA a at_)
theorem objA_in {a : List Int} {at_ : Int} (h : isB (spotsF a).1 at_ = true) : (at_, hdA a at_) ∈ (spotsF a).1 ∧ spotIn a (at_, hdA a at_) ∧ headFault (hdA a at_) = 0 ∧ hdA a at_ = headOf (a.getD at_.toNat 0) ∧ isHead (a.getD at_.toNat 0) = true ∧ (hdA a at_).2.2.2 = false := by
  unfold isB hdA at *
  rcases headAtL_in at_ (spotsF a).1 with e | ⟨s, h1, h2, h3, e⟩
  · rw [e] at h; cases h
  · rw [e]
    have e2 : (at_, s.2) = s := by rw [← h2]
    rw [e2]
    obtain ⟨_, k2, k3⟩ := spotsF_in2 a s h1
    obtain ⟨k4, k5⟩ := spotsF_head s h1
    rw [h2] at k4 k5
    exact ⟨h1, k2, k3, k4, k5, h3⟩
theorem objA_length {a : List Int} {at_ : Int} (h : isB (spotsF a).1 at_ = true) : ((refsA a at_).length : Int) = (hdA a at_).1 ∧ ((bodyA a at_).length : Int) = (hdA a at_).2.1 ∧ 0 ≤ at_ ∧ at_ + 1 + (hdA a at_).1 + (hdA a at_).2.1 ≤ a.length ∧ 0 ≤ (hdA a at_).1 ∧ 0 ≤ (hdA a at_).2.1 := by
  obtain ⟨_, k2, _⟩ := objA_in h
  unfold spotIn at k2
  simp only at k2
  refine ⟨?_, ?_, by omega, by omega, by omega, by omega⟩
  · unfold refsA spotRefs
    rw [List.length_drop, List.length_take]
    simp only
    omega
  · unfold bodyA spotBody
    rw [List.length_drop, List.length_take]
    simp only
    omega
structure Plan (a keep pinned long : List Int) : Prop where
  chk : (checkF a).2.2 = 0
  al : a.length ≤ 256
  isb : ∀ x ∈ keep, isB (spotsF a).1 x = true
  pre : planPre keep long
  lg : ∀ i : Nat, i < keep.length → long.getD i 0 = 1 + (hdA a (keep.getD i 0)).1 + (hdA a (keep.getD i 0)).2.1
  le : ∀ i : Nat, i < keep.length → endS pinned keep long i ≤ toS pinned keep long i ∧ toS pinned keep long i + long.getD i 0 ≤ (a.length : Int)
  en : endS pinned keep long keep.length ≤ (a.length : Int)
  rs : keep.Pairwise (· < ·)
end Go.Proofs.Ytcnoiiohmpgckaa
