
import Derived.Test.YtcnoiiohmpgckaaRObjects
namespace Go.Proofs.Ytcnoiiohmpgckaa
open Go
set_option maxRecDepth 100000
set_option maxHeartbeats 1000000
theorem spotsS_sorted (at_ : Int) (l : List Int) (r : List Spot) (h : spotsS at_ l = some r) : r.Pairwise (fun s t => s.1 < t.1) := by
  induction at_, l using spotsS.induct generalizing r with
  | case1 at_ =>
    simp only [spotsS, Option.some.injEq] at h
    subst h
    exact List.Pairwise.nil
  | case2 at_ v l hv ih =>
    rw [spotsS_cons hv.1 hv.2] at h
    obtain ⟨r', hr, rfl⟩ := Option.map_eq_some_iff.1 h
    have hl := isHead_long hv.1
    refine List.pairwise_cons.2 ⟨fun t ht => ?_, ih r' hr⟩
    have := (spotsS_in _ _ _ hr t ht).1
    simp only
    omega
  | case3 at_ v l hv =>
    rw [spotsS_none hv] at h
    cases h
theorem spotsF_sorted (a : List Int) : (spotsF a).1.Pairwise (fun s t => s.1 < t.1) := by
  unfold spotsF
  split
  · exact List.Pairwise.nil
  · cases h : spotsS 0 a with
    | none => exact List.Pairwise.nil
    | some l => exact spotsS_sorted 0 a l h
theorem mget_mput {α : Type} (k k' : Int) (x : α) : ∀ (m : List (Int × α)), mget (mput m k x) k' = if k' = k then some x else mget m k'
  | [] => by
    simp only [mput, mget]
    by_cases h : k = k'
    · simp [h]
    · simp [h, Ne.symm h]
  | y :: m => by
    have ih := mget_mput k k' x m
    simp only [mput]
    by_cases hy : y.1 = k
    · rw [if_pos hy]
      simp only [mget]
      by_cases h : k = k'
      · simp [h]
      · simp [h, Ne.symm h, hy]
    · rw [if_neg hy]
      simp only [mget, ih]
      by_cases h : y.1 = k'
      · have : k' ≠ k := fun e => hy (h.trans e)
        simp [h, this]
      · simp [h]
def plOf (v : Int) : Int → List Spot → Option Int
  | _, [] => none
  | i, s :: l => if s.2.2.2.2 = false ∧ s.1 + 1 = v then some i else plOf v (i + 1) l
theorem plOf_none {v : Int} : ∀ (l : List Spot) (i : Int), (∀ s ∈ l, s.1 + 1 ≠ v) → plOf v i l = none
  | [], _, _ => rfl
  | s :: l, i, h => by
    simp only [plOf]
    rw [if_neg (fun e => h s (by simp) e.2)]
    exact plOf_none l (i + 1) (fun t ht => h t (by simp [ht]))
theorem places_get (v : Int) : ∀ (l : List Spot) (m : List (Int × Int)) (i : Int), l.Pairwise (fun s t => s.1 < t.1) → mget (placesFrom m i l) v = (plOf v i l).or (mget m v)
  | [], m, i, _ => rfl
  | s :: l, m, i, h => by
    obtain ⟨h1, h2⟩ := List.pairwise_cons.1 h
    simp only [placesFrom, plOf]
    rw [places_get v l _ (i + 1) h2]
    cases hf : s.2.2.2.2
    · simp only [Bool.false_eq_true, if_false, true_and]
      rw [mget_mput]
      by_cases hv : s.1 + 1 = v
      · rw [plOf_none l (i + 1) (fun t ht e => by have := h1 t ht; omega), if_pos hv, if_pos hv.symm]
        rfl
      · rw [if_neg hv, if_neg (fun e => hv e.symm)]
    · simp
theorem plOf_some (v : Int) : ∀ (l : List Spot) (i : Int), (plOf v i l).isSome = inL (beginsL l) (v - 1)
  | [], _ => rfl
  | s :: l, i => by
    have ih := plOf_some v l (i + 1)
    simp only [plOf, beginsL]
    cases hf : s.2.2.2.2
    · simp only [true_and, Bool.false_eq_true, if_false, inL, List.any_cons]
      by_cases hv : s.1 + 1 = v
      · rw [if_pos hv]
        simp
        left; omega
      · rw [if_neg hv, ih]
        have : ¬ s.1 = v - 1 := by omega
        simp [this, inL]
    · simp [ih]
theorem inL_begins_lt (n : Int) : ∀ (l : List Spot), (∀ s ∈ l, 0 ≤ s.1 ∧ s.1 ≤ 255) → (n < 0 ∨ 255 < n) → inL (beginsL l) n = false
  | [], _, _ => rfl
  | s :: l, h, hn => by
    have ih := inL_begins_lt n l (fun t ht => h t (by simp [ht])) hn
    have hs := h s (by simp)
    simp only [beginsL]
    split
    · exact ih
    · simp only [inL, List.any_cons] at ih ⊢
      rw [ih]
      simp
      omega
theorem places_is {l : List Spot} (hs : l.Pairwise (fun s t => s.1 < t.1)) (hr : ∀ s ∈ l, 0 ≤ s.1 ∧ s.1 ≤ 255) {v : Int} (hv : 0 ≤ v) :
    (decide (nameOf v = -1) || inL (beginsL l) (nameOf v)) = (mget (placesF l) v).isSome := by
  unfold placesF
  rw [places_get v l _ 0 hs]
  by_cases h0 : v = 0
  · subst h0
    cases h : plOf 0 0 l <;> simp [nameOf, mget]
  · have e1 : mget [((0 : Int), (-1 : Int))] v = none := by simp [mget, Ne.symm h0]
    rw [e1, Option.or_none, plOf_some]
    by_cases hb : 256 < v
    · have : nameOf v = 9998 := by simp [nameOf, hb]
      rw [this, inL_begins_lt 9998 l hr (by omega), inL_begins_lt (v - 1) l hr (by omega)]
      rfl
    · have : nameOf v = v - 1 := by simp [nameOf, hb]
      rw [this]
      have : ¬ v - 1 = -1 := by omega
      simp [this]
theorem headAtL_of : ∀ {l : List Spot} {s : Spot}, l.Pairwise (fun s t => s.1 < t.1) → s ∈ l → s.2.2.2.2 = false → headAtL s.1 l = (s.2, true)
  | t :: l, s, hs, hm, hf => by
    obtain ⟨h1, h2⟩ := List.pairwise_cons.1 hs
    simp only [headAtL]
    rcases List.mem_cons.1 hm with rfl | hm
    · rw [if_pos ⟨rfl, hf⟩]
    · rw [if_neg (fun e => by have := h1 s hm; omega)]
      exact headAtL_of h2 hm hf
theorem named_refs (a : List Int) (s : Spot) : namedL a s.1 s.2 = (spotRefs a s).map nameOf := rfl
theorem refs_free {a : List Int} {s : Spot} (hf : s.2.2.2.2 = true) (h : headFault s.2 = 0) : spotRefs a s = [] := by
  have := (headFault_zero h).2.2.2.2.2 hf
  unfold spotRefs
  rw [this.1]
  apply List.drop_of_length_le
  rw [List.length_take, Int.add_zero]
  omega
theorem spotRefs_nonneg {a : List Int} {s : Spot} (hw : ∀ x ∈ a, InR .u64 x) : ∀ v ∈ spotRefs a s, 0 ≤ v := by
  intro v hv
  exact (hw v (List.mem_of_mem_take (List.mem_of_mem_drop hv))).1
theorem arena_refs {a : List Int} (hw : ∀ x ∈ a, InR .u64 x) {l : List Spot} (hs : l.Pairwise (fun s t => s.1 < t.1)) (hr : ∀ s ∈ l, 0 ≤ s.1 ∧ s.1 ≤ 255) (hf : ∀ s ∈ l, headFault s.2 = 0) :
    ∀ (l' : List Spot), (∀ s ∈ l', s ∈ l) → arenaOK a l (beginsL l) (beginsL l') = refsOK (placesF l) a l'
  | [], _ => rfl
  | s :: l', h => by
    have ih := arena_refs hw hs hr hf l' (fun t ht => h t (by simp [ht]))
    have hm := h s (by simp)
    simp only [beginsL]
    unfold refsOK at ih ⊢
    rw [List.all_cons]
    cases hfr : s.2.2.2.2
    · simp only [Bool.false_eq_true, if_false, arenaOK]
      rw [headAtL_of hs hm hfr, named_refs, ih]
      congr 1
      unfold namesIn
      rw [List.all_map]
      apply Bool.eq_iff_iff.2
      rw [List.all_eq_true, List.all_eq_true]
      constructor
      · intro hh v hv
        rw [← places_is hs hr (spotRefs_nonneg hw v hv)]
        exact hh v hv
      · intro hh v hv
        have := hh v hv
        rw [← places_is hs hr (spotRefs_nonneg hw v hv)] at this
        exact this
    · simp only [if_true]
      rw [ih, refs_free hfr (hf s hm)]
      rfl
theorem spots_range {a : List Int} : ∀ s ∈ (spotsF a).1, 0 ≤ s.1 ∧ s.1 ≤ 255 := by
  intro s hs
  obtain ⟨h1, h2, h3⟩ := spotsF_in2 a s hs
  unfold spotIn at h2
  omega
theorem arena_check {a : List Int} (hw : ∀ x ∈ a, InR .u64 x) : arenaF a = (checkF a).2.2 := by
  unfold arenaF checkF
  rw [arena_refs hw (spotsF_sorted a) spots_range (fun s hs => (spotsF_in2 a s hs).2.2) (spotsF a).1 (fun _ h => h)]
  split
  · rfl
  · split <;> rfl
def isB (l : List Spot) (at_ : Int) : Bool := (headAtL at_ l).2
theorem inL_begins (n : Int) : ∀ l : List Spot, inL (beginsL l) n = isB l n
  | [] => rfl
  | s :: l => by
    have ih := inL_begins n l
    unfold isB at ih ⊢
    simp only [beginsL, headAtL]
    cases hf : s.2.2.2.2
    · simp only [Bool.false_eq_true, if_false, and_true, inL, List.any_cons]
      by_cases hv : s.1 = n
      · rw [if_pos hv]
        simp [hv]
      · rw [if_neg hv]
        simp only [inL] at ih
        rw [← ih]
        simp [hv]
    · simp only [if_true, and_false, if_false, Bool.true_eq_false]
      exact ih
theorem refs_named {a : List Int} (hw : ∀ x ∈ a, InR .u64 x) (hc : (checkF a).2.2 = 0) : ∀ s ∈ (spotsF a).1, ∀ v ∈ spotRefs a s, v = 0 ∨ 1 ≤ v ∧ v ≤ 256 ∧ isB (spotsF a).1 (v - 1) = true := by
  intro s hs v hv
  obtain ⟨_, _, _, _, _, hok, _⟩ := checkF_in hc
  have h1 := List.all_eq_true.1 (List.all_eq_true.1 hok s hs) v hv
  have h0 := spotRefs_nonneg hw v hv
  rw [← places_is (spotsF_sorted a) spots_range h0] at h1
  by_cases hz : v = 0
  · exact .inl hz
  refine .inr ?_
  have hr : ∀ n, inL (beginsL (spotsF a).1) n = true → 0 ≤ n ∧ n ≤ 255 := fun n hn => by
    refine ⟨Int.not_lt.1 fun h => ?_, Int.not_lt.1 fun h => ?_⟩
    · rw [inL_begins_lt n _ spots_range (.inl h)] at hn; cases hn
    · rw [inL_begins_lt n _ spots_range (.inr h)] at hn; cases hn
  unfold nameOf at h1
  split at h1
  · have h2 : inL (beginsL (spotsF a).1) (9999 - 1) = true := by simpa using h1
    have := hr _ h2
    omega
  · have h2 : inL (beginsL (spotsF a).1) (v - 1) = true := by
      rcases Bool.or_eq_true _ _ ▸ h1 with h | h
      · have := of_decide_eq_true h; omega
      · exact h
    have := hr _ h2
    refine ⟨by omega, by omega, ?_⟩
    rw [← inL_begins]
    exact h2
theorem isB_spot {a : List Int} {at_ : Int} (h : isB (spotsF a).1 at_ = true) : (at_, (headAtL at_ (spotsF a).1).1) ∈ (spotsF a).1 ∧ spotIn a (at_, (headAtL at_ (spotsF a).1).1) ∧ headFault (headAtL at_ (spotsF a).1).1 = 0 ∧ (headAtL at_ (spotsF a).1).1.2.2.2 = false ∧ a.length ≤ 256 := by
  rcases headAtL_in at_ (spotsF a).1 with e | ⟨s, h1, h2, h3, e⟩
  · unfold isB at h
    rw [e] at h
    cases h
  · obtain ⟨k1, k2, k3⟩ := spotsF_in2 a s h1
    rw [e]
    simp only
    subst h2
    exact ⟨h1, k2, k3, h3, k1⟩
end Go.Proofs.Ytcnoiiohmpgckaa
