/- Walks and the reference agree; and the law WalkTells. -/
import Derived.Test.YtjkmfgneonifeaaRObjects
namespace Go.Proofs.Ytjkmfgneonifeaa
open Go
set_option maxRecDepth 100000
set_option maxHeartbeats 1000000

theorem spotsS_sorted (at_ : Int) (l : List Int) (r : List Spot) (h : spotsS at_ l = some r) : r.Pairwise (fun s t => s.1 < t.1) := by
  induction at_, l using spotsS.induct generalizing r with
  | case1 at_ =>
    simp only [spotsS, Option.some.injEq] at h
    subst h
    exact List.Pairwise.nil
  | case2 at_ v l hv ih =>
    rw [spotsS_cons hv.1 hv.2] at h
    obtain ⟨r', hr, rfl⟩ := Option.map_eq_some_iff.1 h
    have hl := isHead_long hv.1
    refine List.pairwise_cons.2 ⟨fun t ht => ?_, ih r' hr⟩
    have := (spotsS_in _ _ _ hr t ht).1
    simp only
    omega
  | case3 at_ v l hv =>
    rw [spotsS_none hv] at h
    cases h

theorem spotsF_sorted (a : List Int) : (spotsF a).1.Pairwise (fun s t => s.1 < t.1) := by
  unfold spotsF
  split
  · exact List.Pairwise.nil
  · cases h : spotsS 0 a with
    | none => exact List.Pairwise.nil
    | some l => exact spotsS_sorted 0 a l h

theorem mget_mput {α : Type} (k k' : Int) (x : α) : ∀ (m : List (Int × α)), mget (mput m k x) k' = if k' = k then some x else mget m k'
  | [] => by
    simp only [mput, mget]
    by_cases h : k = k'
    · simp [h]
    · simp [h, Ne.symm h]
  | y :: m => by
    have ih := mget_mput k k' x m
    simp only [mput]
    by_cases hy : y.1 = k
    · rw [if_pos hy]
      simp only [mget]
      by_cases h : k = k'
      · simp [h]
      · simp [h, Ne.symm h, hy]
    · rw [if_neg hy]
      simp only [mget, ih]
      by_cases h : y.1 = k'
      · have : k' ≠ k := fun e => hy (h.trans e)
        simp [h, this]
      · simp [h]

/-- The number of the object, not free, that a word names. -/
def plOf (v : Int) : Int → List Spot → Option Int
  | _, [] => none
  | i, s :: l => if s.2.2.2.2 = false ∧ s.1 + 1 = v then some i else plOf v (i + 1) l

theorem plOf_none {v : Int} : ∀ (l : List Spot) (i : Int), (∀ s ∈ l, s.1 + 1 ≠ v) → plOf v i l = none
  | [], _, _ => rfl
  | s :: l, i, h => by
    simp only [plOf]
    rw [if_neg (fun e => h s (by simp) e.2)]
    exact plOf_none l (i + 1) (fun t ht => h t (by simp [ht]))

theorem places_get (v : Int) : ∀ (l : List Spot) (m : List (Int × Int)) (i : Int), l.Pairwise (fun s t => s.1 < t.1) → mget (placesFrom m i l) v = (plOf v i l).or (mget m v)
  | [], m, i, _ => rfl
  | s :: l, m, i, h => by
    obtain ⟨h1, h2⟩ := List.pairwise_cons.1 h
    simp only [placesFrom, plOf]
    rw [places_get v l _ (i + 1) h2]
    cases hf : s.2.2.2.2
    · simp only [Bool.false_eq_true, if_false, true_and]
      rw [mget_mput]
      by_cases hv : s.1 + 1 = v
      · rw [plOf_none l (i + 1) (fun t ht e => by have := h1 t ht; omega), if_pos hv, if_pos hv.symm]
        rfl
      · rw [if_neg hv, if_neg (fun e => hv e.symm)]
    · simp

theorem plOf_place {v : Int} : ∀ (l : List Spot) (i k : Int), l.Pairwise (fun s t => s.1 < t.1) → plOf v i l = some k → findFrom (fun x => decide (x = v - 1)) i (l.map (·.1)) = k
  | [], _, _, _, h => by cases h
  | s :: l, i, k, hs, h => by
    obtain ⟨h1, h2⟩ := List.pairwise_cons.1 hs
    simp only [plOf] at h
    simp only [List.map_cons, findFrom]
    split at h
    · rename_i hc
      injection h with h
      rw [if_pos (by simp; omega)]
      exact h
    · have ih := plOf_place l (i + 1) k h2 h
      by_cases hv : s.1 = v - 1
      · rw [plOf_none l (i + 1) (fun t ht e => by have := h1 t ht; omega)] at h
        cases h
      · rw [if_neg (by simp [hv])]
        exact ih

theorem plOf_some (v : Int) : ∀ (l : List Spot) (i : Int), (plOf v i l).isSome = inL (beginsL l) (v - 1)
  | [], _ => rfl
  | s :: l, i => by
    have ih := plOf_some v l (i + 1)
    simp only [plOf, beginsL]
    cases hf : s.2.2.2.2
    · simp only [true_and, Bool.false_eq_true, if_false, inL, List.any_cons]
      by_cases hv : s.1 + 1 = v
      · rw [if_pos hv]
        simp
        left; omega
      · rw [if_neg hv, ih]
        have : ¬ s.1 = v - 1 := by omega
        simp [this, inL]
    · simp [ih]

theorem inL_begins_lt (n : Int) : ∀ (l : List Spot), (∀ s ∈ l, 0 ≤ s.1 ∧ s.1 ≤ 255) → (n < 0 ∨ 255 < n) → inL (beginsL l) n = false
  | [], _, _ => rfl
  | s :: l, h, hn => by
    have ih := inL_begins_lt n l (fun t ht => h t (by simp [ht])) hn
    have hs := h s (by simp)
    simp only [beginsL]
    split
    · exact ih
    · simp only [inL, List.any_cons] at ih ⊢
      rw [ih]
      simp
      omega

/-- What a word names: known to the map, or to the list. -/
theorem places_is {l : List Spot} (hs : l.Pairwise (fun s t => s.1 < t.1)) (hr : ∀ s ∈ l, 0 ≤ s.1 ∧ s.1 ≤ 255) {v : Int} (hv : 0 ≤ v) :
    (decide (nameOf v = -1) || inL (beginsL l) (nameOf v)) = (mget (placesF l) v).isSome := by
  unfold placesF
  rw [places_get v l _ 0 hs]
  by_cases h0 : v = 0
  · subst h0
    cases h : plOf 0 0 l <;> simp [nameOf, mget]
  · have e1 : mget [((0 : Int), (-1 : Int))] v = none := by simp [mget, Ne.symm h0]
    rw [e1, Option.or_none, plOf_some]
    by_cases hb : 256 < v
    · have : nameOf v = 9998 := by simp [nameOf, hb]
      rw [this, inL_begins_lt 9998 l hr (by omega), inL_begins_lt (v - 1) l hr (by omega)]
      rfl
    · have : nameOf v = v - 1 := by simp [nameOf, hb]
      rw [this]
      have : ¬ v - 1 = -1 := by omega
      simp [this]

theorem findFrom_no {α : Type} {f : α → Bool} : ∀ (l : List α) (k : Int), (∀ x ∈ l, f x = false) → findFrom f k l = -1
  | [], _, _ => rfl
  | x :: l, k, h => by
    simp only [findFrom]
    rw [if_neg (by rw [h x (by simp)]; simp)]
    exact findFrom_no l (k + 1) (fun y hy => h y (by simp [hy]))

/-- .. and its number. -/
theorem places_num {l : List Spot} (hs : l.Pairwise (fun s t => s.1 < t.1)) (hr : ∀ s ∈ l, 0 ≤ s.1 ∧ s.1 ≤ 255) {v : Int} (hv : 0 ≤ v) (h : (mget (placesF l) v).isSome = true) : (mget (placesF l) v).getD 0 = place (l.map (·.1)) (nameOf v) := by
  have h' := h
  unfold placesF at h ⊢
  rw [places_get v l _ 0 hs] at h ⊢
  by_cases h0 : v = 0
  · subst h0
    rw [plOf_none l 0 (fun t ht e => by have := hr t ht; omega)]
    have e : place (l.map (·.1)) (nameOf 0) = -1 := findFrom_no _ _ (fun x hx => by
      obtain ⟨t, ht, rfl⟩ := List.mem_map.1 hx
      have := hr t ht
      simp [nameOf]
      omega)
    rw [e]
    rfl
  · have e1 : mget [((0 : Int), (-1 : Int))] v = none := by simp [mget, Ne.symm h0]
    rw [e1, Option.or_none] at h ⊢
    obtain ⟨k, hk⟩ := Option.isSome_iff_exists.1 h
    have hle : ¬ 256 < v := by
      intro hb
      rw [plOf_some, inL_begins_lt (v - 1) l hr (by omega)] at h
      cases h
    have : nameOf v = v - 1 := by simp [nameOf, hle]
    rw [this]
    unfold place
    rw [plOf_place l 0 k hs hk, hk]
    rfl

theorem headAtL_of : ∀ {l : List Spot} {s : Spot}, l.Pairwise (fun s t => s.1 < t.1) → s ∈ l → s.2.2.2.2 = false → headAtL s.1 l = (s.2, true)
  | t :: l, s, hs, hm, hf => by
    obtain ⟨h1, h2⟩ := List.pairwise_cons.1 hs
    simp only [headAtL]
    rcases List.mem_cons.1 hm with rfl | hm
    · rw [if_pos ⟨rfl, hf⟩]
    · rw [if_neg (fun e => by have := h1 s hm; omega)]
      exact headAtL_of h2 hm hf

theorem named_refs (a : List Int) (s : Spot) : namedL a s.1 s.2 = (spotRefs a s).map nameOf := rfl

theorem refs_free {a : List Int} {s : Spot} (hf : s.2.2.2.2 = true) (h : headFault s.2 = 0) : spotRefs a s = [] := by
  have := (headFault_zero h).2.2.2.2.2 hf
  unfold spotRefs
  rw [this.1]
  apply List.drop_of_length_le
  rw [List.length_take, Int.add_zero]
  omega

theorem spotRefs_nonneg {a : List Int} {s : Spot} (hw : ∀ x ∈ a, InR .u64 x) : ∀ v ∈ spotRefs a s, 0 ≤ v := by
  intro v hv
  exact (hw v (List.mem_of_mem_take (List.mem_of_mem_drop hv))).1

theorem arena_refs {a : List Int} (hw : ∀ x ∈ a, InR .u64 x) {l : List Spot} (hs : l.Pairwise (fun s t => s.1 < t.1)) (hr : ∀ s ∈ l, 0 ≤ s.1 ∧ s.1 ≤ 255) (hf : ∀ s ∈ l, headFault s.2 = 0) :
    ∀ (l' : List Spot), (∀ s ∈ l', s ∈ l) → arenaOK a l (beginsL l) (beginsL l') = refsOK (placesF l) a l'
  | [], _ => rfl
  | s :: l', h => by
    have ih := arena_refs hw hs hr hf l' (fun t ht => h t (by simp [ht]))
    have hm := h s (by simp)
    simp only [beginsL]
    unfold refsOK at ih ⊢
    rw [List.all_cons]
    cases hfr : s.2.2.2.2
    · simp only [Bool.false_eq_true, if_false, arenaOK]
      rw [headAtL_of hs hm hfr, named_refs, ih]
      congr 1
      unfold namesIn
      rw [List.all_map]
      apply Bool.eq_iff_iff.2
      rw [List.all_eq_true, List.all_eq_true]
      constructor
      · intro hh v hv
        rw [← places_is hs hr (spotRefs_nonneg hw v hv)]
        exact hh v hv
      · intro hh v hv
        have := hh v hv
        rw [← places_is hs hr (spotRefs_nonneg hw v hv)] at this
        exact this
    · simp only [if_true]
      rw [ih, refs_free hfr (hf s hm)]
      rfl

theorem spots_range {a : List Int} : ∀ s ∈ (spotsF a).1, 0 ≤ s.1 ∧ s.1 ≤ 255 := by
  intro s hs
  obtain ⟨h1, h2, h3⟩ := spotsF_in2 a s hs
  unfold spotIn at h2
  omega

theorem arena_check {a : List Int} (hw : ∀ x ∈ a, InR .u64 x) : arenaF a = (checkF a).2.2 := by
  unfold arenaF checkF
  rw [arena_refs hw (spotsF_sorted a) spots_range (fun s hs => (spotsF_in2 a s hs).2.2) (spotsF a).1 (fun _ h => h)]
  split
  · rfl
  · split <;> rfl

theorem objects_same {a : List Int} (hw : ∀ x ∈ a, InR .u64 x) (h : (checkF a).2.2 = 0) : ∀ s ∈ (spotsF a).1, objectF a s (placesF (spotsF a).1) = objR a (spotsF a).1 ((spotsF a).1.map (·.1)) s := by
  intro s hs
  obtain ⟨_, _, _, _, _, hok, _⟩ := checkF_in h
  unfold objectF objR
  congr 2
  cases hfr : s.2.2.2.2
  · simp only [Bool.false_eq_true, if_false]
    rw [headAtL_of (spotsF_sorted a) hs hfr, named_refs, List.map_map]
    apply List.map_congr_left
    intro v hv
    have h1 := List.all_eq_true.1 (List.all_eq_true.1 hok s hs) v hv
    exact places_num (spotsF_sorted a) spots_range (spotRefs_nonneg hw v hv) h1
  · simp only [if_true]
    rw [refs_free hfr (spotsF_in2 a s hs).2.2]
    rfl

def an_lawWalkTells : Nat → Option LoopGen
  | 17 => some { rd := [.dat 0 (.arr ty_W), .dat 1 ty_I], A := fun ((a, at_) : List Int × Int) => { cs := [.dat 101 ty_I], inv := fun (i : Int) => 0 ≤ i ∧ i ≤ (spotsF a).1.length ∧ findFrom (fun s : Spot => decide (s.1 = at_)) i ((spotsF a).1.drop i.toNat) = findFrom (fun s : Spot => decide (s.1 = at_)) 0 (spotsF a).1, mu := fun (i : Int) => ((spotsF a).1.length - i).toNat } }
  | _ => none
def sp_lawWalkTells : Spec := sp_law [.arr ty_W, ty_I]
def pv_lawWalkTells : Prop :=
    ∀ (x : List Int × Int),
  (x.fst.length * (8 : Nat) ≤ big ∧ ∀ (x_1 : Int), x_1 ∈ x.fst → InR IntKind.u64 x_1) ∧ InR IntKind.i64 x.snd →
    True →
      True ∧
        True ∧
          True ∧
            True ∧
              (decide ((spotsF x.fst).snd = (0 : Int)) = true →
                  decide ((spotsF x.fst).snd ≠ (spotsF x.fst).snd) = false → True) ∧
                ((decide ((spotsF x.fst).snd ≠ (spotsF x.fst).snd) ||
                          decide ((spotsF x.fst).snd = (0 : Int)) &&
                            !decide ((spotsF x.fst).fst = (spotsF x.fst).fst) ||
                        decide ((spotsF x.fst).snd ≠ (0 : Int)) &&
                          decide ((0 : Int) < (↑(spotsF x.fst).fst.length : Int))) =
                      true →
                    false = true ∧ True) ∧
                  ((decide ((spotsF x.fst).snd ≠ (spotsF x.fst).snd) ||
                          decide ((spotsF x.fst).snd = (0 : Int)) &&
                            !decide ((spotsF x.fst).fst = (spotsF x.fst).fst) ||
                        decide ((spotsF x.fst).snd ≠ (0 : Int)) &&
                          decide ((0 : Int) < (↑(spotsF x.fst).fst.length : Int))) =
                      false →
                    True ∧
                      True ∧
                        (decide ((checkF x.fst).snd.snd ≠ arenaF x.fst) = true → false = true ∧ True) ∧
                          (decide ((checkF x.fst).snd.snd ≠ arenaF x.fst) = false →
                            (decide (arenaF x.fst ≠ (0 : Int)) = true →
                                ((decide ((↑(objectsF x.fst).fst.length : Int) = (0 : Int)) &&
                                        decide ((objectsF x.fst).snd = arenaF x.fst)) =
                                      true →
                                    True) ∧
                                  (decide ((↑(objectsF x.fst).fst.length : Int) = (0 : Int)) &&
                                            decide ((objectsF x.fst).snd = arenaF x.fst) &&
                                          decide
                                            ([(atF x.fst x.snd).fst] =
                                              [((0 : Int), ([] : List Int), ([] : List Int), false)]) &&
                                        decide ((atF x.fst x.snd).snd = arenaF x.fst)) =
                                      true ∧
                                    True) ∧
                              (decide (arenaF x.fst ≠ (0 : Int)) = false →
                                True ∧
                                  (decide ((objectsF x.fst).snd ≠ (0 : Int)) = false → True) ∧
                                    ((decide ((objectsF x.fst).snd ≠ (0 : Int)) ||
                                            !decide
                                                ((objectsF x.fst).fst =
                                                  List.map
                                                    (objR x.fst (spotsF x.fst).fst
                                                      (List.map (fun (x : Spot) => x.fst) (spotsF x.fst).fst))
                                                    (spotsF x.fst).fst)) =
                                          true →
                                        false = true ∧ True) ∧
                                      ((decide ((objectsF x.fst).snd ≠ (0 : Int)) ||
                                            !decide
                                                ((objectsF x.fst).fst =
                                                  List.map
                                                    (objR x.fst (spotsF x.fst).fst
                                                      (List.map (fun (x : Spot) => x.fst) (spotsF x.fst).fst))
                                                    (spotsF x.fst).fst)) =
                                          false →
                                        ((0 : Int) ≤ (0 : Int) ∧
                                            (0 : Int) ≤ (↑(spotsF x.fst).fst.length : Int) ∧
                                              findFrom (fun (s : Spot) => decide (s.fst = x.snd)) (0 : Int)
                                                  (List.drop (Int.toNat (0 : Int)) (spotsF x.fst).fst) =
                                                findFrom (fun (s : Spot) => decide (s.fst = x.snd)) (0 : Int)
                                                  (spotsF x.fst).fst) ∧
                                          ∀ (x_1 : Int),
                                            (0 : Int) ≤ x_1 ∧
                                                x_1 ≤ (↑(spotsF x.fst).fst.length : Int) ∧
                                                  findFrom (fun (s : Spot) => decide (s.fst = x.snd)) x_1
                                                      (List.drop x_1.toNat (spotsF x.fst).fst) =
                                                    findFrom (fun (s : Spot) => decide (s.fst = x.snd)) (0 : Int)
                                                      (spotsF x.fst).fst →
                                              (decide (x_1 < (↑(spotsF x.fst).fst.length : Int)) = true →
                                                  (0 : Int) ≤ x_1 ∧
                                                    x_1 < (↑(spotsF x.fst).fst.length : Int) ∧
                                                      x_1.toNat < (spotsF x.fst).fst.length ∧
                                                        (decide
                                                                (((spotsF x.fst).fst.getD x_1.toNat
                                                                      ((0 : Int), (0 : Int), (0 : Int), (0 : Int),
                                                                        false)).fst =
                                                                  x.snd) =
                                                              true →
                                                            (decide ((atF x.fst x.snd).snd = (0 : Int)) = true →
                                                                InR IntKind.i64 (x_1 + (1 : Int))) ∧
                                                              (decide ((atF x.fst x.snd).snd = (0 : Int)) = true →
                                                                  (0 : Int) ≤ x_1) ∧
                                                                (decide ((atF x.fst x.snd).snd = (0 : Int)) = true →
                                                                    x_1 ≤ x_1 + (1 : Int)) ∧
                                                                  (decide ((atF x.fst x.snd).snd = (0 : Int)) = true →
                                                                      x_1 + (1 : Int) ≤
                                                                        (↑(List.map
                                                                                (objR x.fst (spotsF x.fst).fst
                                                                                  (List.map (fun (x : Spot) => x.fst)
                                                                                    (spotsF x.fst).fst))
                                                                                (spotsF x.fst).fst).length :
                                                                          Int)) ∧
                                                                    (decide ((atF x.fst x.snd).snd = (0 : Int)) = true →
                                                                        True) ∧
                                                                      (decide ((atF x.fst x.snd).snd = (0 : Int)) &&
                                                                            decide
                                                                              ([(atF x.fst x.snd).fst] =
                                                                                List.drop x_1.toNat
                                                                                  (List.take (x_1 + (1 : Int)).toNat
                                                                                    (List.map
                                                                                      (objR x.fst (spotsF x.fst).fst
                                                                                        (List.map
                                                                                          (fun (x : Spot) => x.fst)
                                                                                          (spotsF x.fst).fst))
                                                                                      (spotsF x.fst).fst)))) =
                                                                          true ∧
                                                                        True) ∧
                                                          (decide
                                                                (((spotsF x.fst).fst.getD x_1.toNat
                                                                      ((0 : Int), (0 : Int), (0 : Int), (0 : Int),
                                                                        false)).fst =
                                                                  x.snd) =
                                                              false →
                                                            InR IntKind.i64 (x_1 + (1 : Int)) ∧
                                                              ((0 : Int) ≤ x_1 + (1 : Int) ∧
                                                                  x_1 + (1 : Int) ≤ (↑(spotsF x.fst).fst.length : Int) ∧
                                                                    findFrom (fun (s : Spot) => decide (s.fst = x.snd))
                                                                        (x_1 + (1 : Int))
                                                                        (List.drop (x_1 + (1 : Int)).toNat
                                                                          (spotsF x.fst).fst) =
                                                                      findFrom
                                                                        (fun (s : Spot) => decide (s.fst = x.snd))
                                                                        (0 : Int) (spotsF x.fst).fst) ∧
                                                                ((↑(spotsF x.fst).fst.length : Int) -
                                                                      (x_1 + (1 : Int))).toNat <
                                                                  ((↑(spotsF x.fst).fst.length : Int) - x_1).toNat)) ∧
                                                (decide (x_1 < (↑(spotsF x.fst).fst.length : Int)) = false →
                                                  (decide ((atF x.fst x.snd).snd = (5 : Int)) = true → True) ∧
                                                    (decide ((atF x.fst x.snd).snd = (5 : Int)) &&
                                                          decide
                                                            ([(atF x.fst x.snd).fst] =
                                                              [((0 : Int), ([] : List Int), ([] : List Int), false)])) =
                                                        true ∧
                                                      True)))))
theorem vcp_lawWalkTells : pv_lawWalkTells := by
  unfold pv_lawWalkTells
  intro ⟨a, at_⟩ ⟨⟨hb, hw⟩, _⟩ _
  simp only at hb hw ⊢
  have hlen := spotsF_length a
  rw [arena_check hw]
  have hO : objectsF a = if (checkF a).2.2 ≠ 0 then ([], (checkF a).2.2) else ((checkF a).1.map fun s => objectF a s (checkF a).2.1, 0) := rfl
  have hA : atF a at_ = if (checkF a).2.2 ≠ 0 then (objNone, (checkF a).2.2) else if findFrom (fun s => decide (s.1 = at_)) 0 (checkF a).1 < 0 then (objNone, 5)
      else (objectF a ((checkF a).1.getD (findFrom (fun s => decide (s.1 = at_)) 0 (checkF a).1).toNat (0, 0, 0, 0, false)) (checkF a).2.1, 0) := rfl
  have hsame := objects_same (a := a) hw
  have hin := checkF_in (a := a)
  have hspe : (spotsF a).2 ≠ 0 → (spotsF a).1 = [] := by
    intro h
    unfold spotsF at h ⊢
    split
    · rfl
    · rename_i cl
      rw [if_neg cl] at h
      cases hs : spotsS 0 a with
      | none => rfl
      | some l => rw [hs] at h; simp at h
  refine ⟨trivial, trivial, trivial, trivial, fun _ _ => trivial, fun hc => ?_, fun _ => ⟨trivial, trivial, fun hc => ?_, fun _ => ⟨fun hc => ?_, fun hc => ?_⟩⟩⟩
  · exfalso
    by_cases hz : (spotsF a).2 = 0
    · simp [hz] at hc
    · rw [hspe hz] at hc
      simp [hz] at hc
  · simp at hc
  · have hc : (checkF a).2.2 ≠ 0 := by simpa using hc
    rw [if_pos hc] at hO hA
    rw [hO, hA]
    simp [objNone]
  · have hc : (checkF a).2.2 = 0 := by simpa using hc
    obtain ⟨_, _, e1, _, e2, _, _⟩ := hin hc
    rw [if_neg (by omega), e1, e2] at hO hA
    rw [hO]
    have hmap : (spotsF a).1.map (fun s => objectF a s (placesF (spotsF a).1)) = (spotsF a).1.map (objR a (spotsF a).1 ((spotsF a).1.map (·.1))) := List.map_congr_left (hsame hc)
    rw [hmap]
    refine ⟨trivial, fun _ => trivial, fun h => by simp at h, fun _ => ⟨⟨by omega, by omega, by simp⟩, fun i ⟨h0, h1, h2⟩ => ⟨fun hlt => ?_, fun hge => ?_⟩⟩⟩
    · have hlt : i < ((spotsF a).1.length : Int) := of_decide_eq_true hlt
      have hm := getD_mem ((0, 0, 0, 0, false) : Spot) h0 hlt
      rw [drop_cons ((0, 0, 0, 0, false) : Spot) h0 hlt] at h2
      simp only [findFrom] at h2
      simp only [InR]
      refine ⟨h0, hlt, by omega, fun he => ?_, fun he => ?_⟩
      · rw [if_pos he] at h2
        rw [if_neg (by omega), ← h2] at hA
        have hA2 : (atF a at_).2 = 0 := by rw [hA]
        have hA1 : (atF a at_).1 = objR a (spotsF a).1 ((spotsF a).1.map (·.1)) ((spotsF a).1.getD i.toNat (0, 0, 0, 0, false)) := by rw [hA]; exact hsame hc _ hm
        refine ⟨fun _ => by omega, fun _ => h0, fun _ => by omega, fun _ => by rw [List.length_map]; omega, fun _ => trivial, ?_, trivial⟩
        rw [hA2, hA1]
        have hs := slice_snoc (a := (spotsF a).1.map (objR a (spotsF a).1 ((spotsF a).1.map (·.1)))) (p := i.toNat) (q := i.toNat) objNone (Nat.le_refl _) (by rw [List.length_map]; omega)
        rw [show (i + 1).toNat = i.toNat + 1 by omega, hs, List.drop_of_length_le (by rw [List.length_take]; omega)]
        have hi : i.toNat < (spotsF a).1.length := by omega
        simp [hi]
      · rw [if_neg (by rw [he]; simp)] at h2
        exact ⟨by omega, ⟨by omega, by omega, h2⟩, by omega⟩
    · rw [drop_end (of_decide_eq_false hge)] at h2
      rw [if_pos (by rw [← h2]; simp [findFrom])] at hA
      rw [hA]
      exact ⟨fun _ => trivial, by simp [objNone], trivial⟩
theorem e_lawWalkTells : pv_lawWalkTells = fnVC Try.prog (tbl [(55, sp_walkSpots), (56, sp_walkObjects), (57, sp_walkAt), (58, sp_rSpots), (59, sp_eqSpots), (60, sp_rArenaFault), (61, sp_walkCheck), (62, sp_rSameObjects), (63, sp_rObjectsOf)]) an_lawWalkTells Try.f11 sp_lawWalkTells := by kernel_rfl
theorem vc_lawWalkTells : fnVC Try.prog (tbl [(55, sp_walkSpots), (56, sp_walkObjects), (57, sp_walkAt), (58, sp_rSpots), (59, sp_eqSpots), (60, sp_rArenaFault), (61, sp_walkCheck), (62, sp_rSameObjects), (63, sp_rObjectsOf)]) an_lawWalkTells Try.f11 sp_lawWalkTells := @Eq.mp _ _ @e_lawWalkTells @vcp_lawWalkTells
theorem ok_lawWalkTells : sp_lawWalkTells.ok Try.prog 11 := fn_sound (P := Try.prog) (ss := tbl [(55, sp_walkSpots), (56, sp_walkObjects), (57, sp_walkAt), (58, sp_rSpots), (59, sp_eqSpots), (60, sp_rArenaFault), (61, sp_walkCheck), (62, sp_rSameObjects), (63, sp_rObjectsOf)]) (ann := an_lawWalkTells) (f := 11) (fn := Try.f11) (s := sp_lawWalkTells) (tbl_cons ok_walkSpots (tbl_cons ok_walkObjects (tbl_cons ok_walkAt (tbl_cons ok_rSpots (tbl_cons ok_eqSpots (tbl_cons ok_rArenaFault (tbl_cons ok_walkCheck (tbl_cons ok_rSameObjects (tbl_cons ok_rObjectsOf tbl_nil))))))))) Try.func11 @vc_lawWalkTells

end Go.Proofs.Ytjkmfgneonifeaa
