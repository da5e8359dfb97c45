/- What carry.Copy lays, and that it is what the document's Laid gives of the form. -/
import Derived.Test.YtbidboeemnlglaaForms
import Derived.Test.YtbidboeemnlglaaPlan
import Derived.Test.YtbidboeemnlglaaLays
namespace Go.Proofs.Ytbidboeemnlglaa
open Go

def lgA (a : List Int) (x : Int) : Int := lgOf (spotsF a).1 x
def endA (a : List Int) : List Int → Int
  | [] => 0
  | x :: l => lgA a x + endA a l
def tosA (a o : List Int) (n : Nat) : List Int := (List.range n).map fun k => endA a (o.take k)
def rawA (a : List Int) (x : Int) : List Int := a.getD x.toNat 0 :: (refsA a x ++ bodyA a x)
def lkA (a o : List Int) (v : Int) : Int := if v = 0 then 0 else endA a (o.take (place o (v - 1)).toNat) + 1
def lnkA (a o : List Int) (x : Int) : List Int := a.getD x.toNat 0 :: ((refsA a x).map (lkA a o) ++ bodyA a x)
def nowA (a o : List Int) : Nat → List (Int × Int)
  | 0 => [(0, 0)]
  | i + 1 => mput (nowA a o i) (o.getD i 0 + 1) (endA a (o.take i) + 1)

theorem lgA_ok (a : List Int) (x : Int) : 1 ≤ lgA a x ∧ lgA a x ≤ 256 := lg_ok a x
theorem lgA_is {a : List Int} (x : Int) : lgA a x = 1 + (hdA a x).1 + (hdA a x).2.1 := rfl
theorem endA_append (a : List Int) : ∀ (l k : List Int), endA a (l ++ k) = endA a l + endA a k
  | [], k => by simp [endA]
  | x :: l, k => by
    have := endA_append a l k
    simp only [List.cons_append, endA]
    omega
theorem endA_snoc (a l : List Int) (x : Int) : endA a (l ++ [x]) = endA a l + lgA a x := by rw [endA_append]; simp [endA]
theorem endA_range (a : List Int) : ∀ l : List Int, (l.length : Int) ≤ endA a l ∧ endA a l ≤ 256 * l.length
  | [] => by simp [endA]
  | x :: l => by
    have := endA_range a l
    have := lgA_ok a x
    simp only [endA, List.length_cons]
    omega
theorem endA_sum (a : List Int) : ∀ l : List Int, endA a l = (l.map (lgA a)).sum
  | [] => rfl
  | x :: l => by simp [endA, endA_sum a l]
theorem endA_perm {a l k : List Int} (h : l.Perm k) : endA a l = endA a k := by
  induction h with
  | nil => rfl
  | cons x _ ih => simp only [endA, ih]
  | swap x y l => simp only [endA]; omega
  | trans _ _ h1 h2 => exact h1.trans h2

theorem findFrom_nodup : ∀ {l : List Int} (k : Int) {i : Nat}, l.Nodup → i < l.length → findFrom (fun x => decide (x = l.getD i 0)) k l = k + i
  | x :: l, k, 0, _, _ => by simp [findFrom]
  | x :: l, k, i + 1, hd, hi => by
    obtain ⟨h1, h2⟩ := List.nodup_cons.1 hd
    have hi : i < l.length := by simpa using hi
    have hm : l.getD i 0 ∈ l := by simpa using getD_mem (0 : Int) (Int.natCast_nonneg i) (by omega : (i : Int) < (l.length : Int))
    have hg : (x :: l).getD (i + 1) 0 = l.getD i 0 := rfl
    have hne : ¬ decide (x = l.getD i 0) = true := by
      intro e
      rw [of_decide_eq_true e] at h1
      exact h1 hm
    rw [hg]
    simp only [findFrom]
    rw [if_neg hne, findFrom_nodup (k + 1) h2 hi]
    omega
theorem place_nodup {l : List Int} (hd : l.Nodup) {i : Nat} (hi : i < l.length) : place l (l.getD i 0) = i := by
  unfold place
  rw [findFrom_nodup 0 hd hi]
  omega
theorem place_of {l : List Int} {x : Int} (h : x ∈ l) : 0 ≤ place l x ∧ place l x < l.length ∧ l.getD (place l x).toNat 0 = x := by
  have h1 := findFrom_any (fun y : Int => decide (y = x)) l 0 (by omega)
  have h2 : l.any (fun y => decide (y = x)) = true := List.any_eq_true.2 ⟨x, h, by simp⟩
  rw [h2] at h1
  have h3 : 0 ≤ place l x := of_decide_eq_true h1
  have h4 := findFrom_is (fun y => decide (y = x)) 0 l 0 h3 (by omega)
  have h5 := findFrom_lt (fun y => decide (y = x)) 0 l 0 (by omega)
  refine ⟨h3, by unfold place; omega, ?_⟩
  rw [Int.sub_zero] at h4
  exact of_decide_eq_true h4
theorem place_not {l : List Int} {x : Int} (h : ¬ x ∈ l) : place l x = -1 := findFrom_no _ _ fun y hy => decide_eq_false (fun e => h (e ▸ hy))

theorem now_get {a o : List Int} (hd : o.Nodup) (h0 : ∀ x ∈ o, 0 ≤ x) (v : Int) : ∀ i : Nat, i ≤ o.length → mget (nowA a o i) v = if v = 0 then some 0 else if v - 1 ∈ o.take i then some (endA a (o.take (place o (v - 1)).toNat) + 1) else none
  | 0, _ => by
    simp only [nowA, mget, List.take_zero, List.not_mem_nil, if_false]
    by_cases h : v = 0
    · rw [if_pos h, if_pos h.symm]
    · rw [if_neg h, if_neg (Ne.symm h)]
  | i + 1, hi => by
    have ih := now_get (a := a) hd h0 v i (by omega)
    have hm : o.getD i 0 ∈ o := by simpa using getD_mem (0 : Int) (Int.natCast_nonneg i) (by omega : (i : Int) < (o.length : Int))
    have hx := h0 _ hm
    have hp := place_nodup hd (by omega : i < o.length)
    have ht : o.take (i + 1) = o.take i ++ [o.getD i 0] := by
      have := take_snoc (0 : Int) (Int.natCast_nonneg i) (by omega : (i : Int) < (o.length : Int))
      simpa using this
    simp only [nowA]
    rw [mget_mput, ht]
    by_cases h : v = o.getD i 0 + 1
    · rw [if_pos h, if_neg (by omega), if_pos (by rw [h]; simp)]
      rw [show v - 1 = o.getD i 0 by omega, hp]
      rfl
    · rw [if_neg h, ih]
      have : (v - 1 ∈ o.take i ++ [o.getD i 0]) ↔ v - 1 ∈ o.take i := by
        rw [List.mem_append, List.mem_singleton]
        constructor
        · rintro (h1 | h1)
          · exact h1
          · omega
        · exact .inl
      simp only [this]

/-- What all have come to: nothing is lacking. -/
theorem cameN_full {a f : List Int} (hw : ∀ x ∈ a, InR .u64 x) (hc : (checkF a).2.2 = 0) (hf : ∀ x ∈ f, isB (spotsF a).1 x = true) : ∀ (n i : Nat) (o : List Int), Came a f o → (∀ x ∈ o.take i, ∀ y ∈ outsA a x, y ∈ o) → i ≤ o.length → 257 ≤ n + i → ∀ x ∈ cameN a n i o, ∀ y ∈ outsA a x, y ∈ cameN a n i o
  | 0, i, o, h, _, hi, hn => by have := h.length hw hc hf; omega
  | n + 1, i, o, h, h2, hi, hn => by
    rw [cameN]
    split
    · rename_i hlt
      have hm : o.getD i 0 ∈ o := by simpa using getD_mem (0 : Int) (Int.natCast_nonneg i) (by omega : (i : Int) < (o.length : Int))
      obtain ⟨k, h3, h4⟩ := comes_pre (outsV (refsA a (o.getD i 0))) o
      have h5 := comes_all (outsV (refsA a (o.getD i 0))) o
      refine cameN_full hw hc hf n (i + 1) _ (h.comes hm _ fun v hv => hv) (fun x hx y hy => ?_) ?_ (by omega)
      · have ht : o.take (i + 1) = o.take i ++ [o.getD i 0] := by
          have := take_snoc (0 : Int) (Int.natCast_nonneg i) (by omega : (i : Int) < (o.length : Int))
          simpa using this
        rw [h3, List.take_append_of_le_length (by omega), ht] at hx
        rcases List.mem_append.1 hx with hx | hx
        · rw [h3]; exact List.mem_append_left _ (h2 x hx y hy)
        · rw [List.mem_singleton.1 hx] at hy
          exact h5 y hy
      · rw [h3, List.length_append]; omega
    · rename_i hlt
      rw [List.take_of_length_le (by omega)] at h2
      exact h2
theorem came_full {a f : List Int} (h : fromFault a f = 0) (hw : ∀ x ∈ a, InR .u64 x) : Full a f (cameL a f) := by
  obtain ⟨hc, hfb⟩ := fromFault_ok h
  refine ⟨fun x hx => came_from hx, (came_is a f).only, ?_⟩
  unfold cameL
  exact cameN_full hw hc hfb 257 0 _ (Came.first fun _ h => h) (fun x hx => by simp at hx) (by omega) (by omega)
theorem came_end {a f : List Int} (h : fromFault a f = 0) (hw : ∀ x ∈ a, InR .u64 x) : endA a (reachL a f) = endA a (cameL a f) := by
  obtain ⟨hc, hfb⟩ := fromFault_ok h
  rw [← (came_full h hw).sorted hw hc hfb (came_is a f).nodup]
  exact endA_perm (List.mergeSort_perm _ _)

/-- What the words of an object are when its Refs are turned. -/
structure Carr (a o : List Int) : Prop where
  nodup : o.Nodup
  isB : ∀ x ∈ o, isB (spotsF a).1 x = true
  refs : ∀ x ∈ o, ∀ v ∈ refsA a x, v = 0 ∨ (1 ≤ v ∧ v ≤ 256 ∧ v - 1 ∈ o)
  head : ∀ x ∈ o, headWord (hdA a x) = a.getD x.toNat 0

theorem came_carr {a f : List Int} (h : fromFault a f = 0) (hw : ∀ x ∈ a, InR .u64 x) : Carr a (cameL a f) := by
  obtain ⟨hc, hfb⟩ := fromFault_ok h
  have hB : ∀ x ∈ cameL a f, isB (spotsF a).1 x = true := fun x hx => ((came_is a f).only x hx).isB hw hc hfb
  refine ⟨(came_is a f).nodup, hB, fun x hx v hv => ?_, fun x hx => ?_⟩
  · rcases refs_named hw hc _ (objA_in (hB x hx)).1 v hv with e | ⟨e1, e2, _⟩
    · exact .inl e
    · refine .inr ⟨e1, e2, (came_full h hw).all x hx _ ?_⟩
      unfold outsA
      exact List.mem_map.2 ⟨v, List.mem_filter.2 ⟨hv, decide_eq_true (by omega)⟩, rfl⟩
  · obtain ⟨_, _, _, h4, h5, _⟩ := objA_in (hB x hx)
    obtain ⟨_, _, l3, l4, l5, l6⟩ := objA_length (hB x hx)
    rw [h4]
    exact headWord_headOf h5 (hw _ (getD_mem (0 : Int) l3 (by omega))).1

theorem raw_length {a o : List Int} (h : Carr a o) {x : Int} (hx : x ∈ o) : ((rawA a x).length : Int) = lgA a x := by
  obtain ⟨l1, l2, _⟩ := objA_length (h.isB x hx)
  rw [lgA_is]
  unfold rawA
  simp only [List.length_cons, List.length_append]
  omega
theorem lnk_length {a o : List Int} (h : Carr a o) {x : Int} (hx : x ∈ o) : ((lnkA a o x).length : Int) = lgA a x := by
  obtain ⟨l1, l2, _⟩ := objA_length (h.isB x hx)
  rw [lgA_is]
  unfold lnkA
  simp only [List.length_cons, List.length_append, List.length_map]
  omega
theorem raws_length {a o : List Int} (h : Carr a o) : ∀ l : List Int, (∀ x ∈ l, x ∈ o) → ((l.flatMap (rawA a)).length : Int) = endA a l
  | [], _ => rfl
  | x :: l, hl => by
    have h1 := raws_length h l (fun y hy => hl y (by simp [hy]))
    have h2 := raw_length h (hl x (by simp))
    simp only [List.flatMap_cons, List.length_append, endA]
    omega
theorem lnks_length {a o : List Int} (h : Carr a o) : ∀ l : List Int, (∀ x ∈ l, x ∈ o) → ((l.flatMap (lnkA a o)).length : Int) = endA a l
  | [], _ => rfl
  | x :: l, hl => by
    have h1 := lnks_length h l (fun y hy => hl y (by simp [hy]))
    have h2 := lnk_length h (hl x (by simp))
    simp only [List.flatMap_cons, List.length_append, endA]
    omega

/-- The document's Laid of the form. -/
theorem formObj_long {a o : List Int} (h : Carr a o) {x : Int} (hx : x ∈ o) : objLong (formObj a o x) = lgA a x := by
  obtain ⟨l1, l2, _⟩ := objA_length (h.isB x hx)
  rw [lgA_is]
  unfold objLong formObj
  simp only [List.length_map]
  omega
theorem formObj_head {a o : List Int} (h : Carr a o) {x : Int} (hx : x ∈ o) : objHead (formObj a o x) = hdA a x := by
  obtain ⟨l1, l2, _⟩ := objA_length (h.isB x hx)
  have h6 := (objA_in (h.isB x hx)).2.2.2.2.2
  unfold objHead formObj
  simp only [List.length_map]
  rw [l1, l2, ← h6]
theorem forms_end {a o : List Int} (h : Carr a o) : ∀ l : List Int, (∀ x ∈ l, x ∈ o) → endOf (l.map (formObj a o)) = endA a l
  | [], _ => rfl
  | x :: l, hl => by
    have h1 := forms_end h l (fun y hy => hl y (by simp [hy]))
    have h2 := formObj_long h (hl x (by simp))
    simp only [List.map_cons, endOf, endA]
    omega
theorem forms_fault {a o : List Int} (h : Carr a o) : ∀ l : List Int, (∀ x ∈ l, x ∈ o) → laysFault (l.map (formObj a o)) = 0
  | [], _ => rfl
  | x :: l, hl => by
    have h1 := forms_fault h l (fun y hy => hl y (by simp [hy]))
    have h2 := formObj_head h (hl x (by simp))
    have h3 := (objA_in (h.isB x (hl x (by simp)))).2.2.1
    simp only [List.map_cons, laysFault]
    rw [h2, if_neg (by omega)]
    exact h1
theorem forms_laid {a o : List Int} (h : Carr a o) {n : Int} (hn0 : 0 ≤ n) (hn1 : n ≤ 256) (he : endA a o ≤ n) : layF (o.map (formObj a o)) n = (o.flatMap (lnkA a o) ++ layTail (n - endA a o), 0) := by
  have hend := forms_end h o fun _ hx => hx
  have hft := forms_fault h o fun _ hx => hx
  have h0 : ∀ x ∈ o, 0 ≤ x := fun x hx => (isB_range (h.isB x hx)).1
  have hneg : place o (-1) = -1 := place_not fun hm => by have := h0 _ hm; omega
  have hbad : ((o.map (formObj a o)).any fun ob => ob.2.1.any (refBad (o.map (formObj a o)))) = false := by
    rw [List.any_eq_false]
    intro ob hob
    obtain ⟨x, hx, rfl⟩ := List.mem_map.1 hob
    rw [Bool.not_eq_true, List.any_eq_false]
    intro k hk
    have hk : k ∈ (refsA a x).map (fun v => place o (v - 1)) := hk
    obtain ⟨v, hv, rfl⟩ := List.mem_map.1 hk
    unfold refBad
    rcases h.refs x hx v hv with e | ⟨_, _, e⟩
    · subst e
      rw [show (0 : Int) - 1 = -1 by omega, hneg]
      simp
    · obtain ⟨p1, p2, p3⟩ := place_of e
      have hfr : ((o.map (formObj a o)).getD (place o (v - 1)).toNat (0, [], [], false)).2.2.2 = false := by
        rw [List.getD_eq_getElem?_getD, List.getElem?_map, List.getElem?_eq_getElem (by omega)]
        rfl
      rw [hfr, List.length_map]
      simp only [Bool.or_false, Bool.and_eq_true, Bool.or_eq_true, decide_eq_true_eq, not_and, not_or]
      intro _
      omega
  unfold layF
  rw [if_neg (by omega), if_neg (by omega), hend, if_neg (by omega), if_neg (by rw [hbad]; simp)]
  congr 2
  rw [List.flatMap_map]
  have hbg : ∀ k, k < o.length → (beginsOf 0 (o.map (formObj a o))).getD k 0 = endA a (o.take k) := fun k hk => by
    rw [beginsOf_get _ 0 k (by simpa using hk), ← List.map_take, forms_end h _ fun x hx => List.mem_of_mem_take hx]
    omega
  have hword : ∀ x ∈ o, objWords (beginsOf 0 (o.map (formObj a o))) (formObj a o x) = lnkA a o x := by
    intro x hx
    have h1 := formObj_head h hx
    have h2 := h.head x hx
    have h3 : (formObj a o x).2.1 = (refsA a x).map (fun v => place o (v - 1)) := rfl
    have h4 : (formObj a o x).2.2.1 = bodyA a x := rfl
    unfold objWords lnkA
    rw [h1, h2, h3, h4, List.map_map]
    congr 2
    refine List.map_congr_left fun v hv => ?_
    simp only [Function.comp, refWord, lkA]
    rcases h.refs x hx v hv with e | ⟨_, _, e⟩
    · subst e
      rw [show (0 : Int) - 1 = -1 by omega, hneg, if_pos rfl, if_pos rfl]
    · obtain ⟨p1, p2, p3⟩ := place_of e
      rw [if_neg (by omega), if_neg (by omega), hbg _ (by omega)]
  have : ∀ l : List Int, (∀ x ∈ l, x ∈ o) → l.flatMap (fun x => objWords (beginsOf 0 (o.map (formObj a o))) (formObj a o x)) = l.flatMap (lnkA a o) := by
    intro l
    induction l with
    | nil => intro _; rfl
    | cons x l ih =>
      intro hl
      rw [List.flatMap_cons, List.flatMap_cons, hword x (hl x (by simp)), ih fun y hy => hl y (by simp [hy])]
  exact this o fun _ hx => hx

theorem at_body_length {a : List Int} (hc : (checkF a).2.2 = 0) {x : Int} (hx : isB (spotsF a).1 x = true) : (atF a x).1.2.2.1.length = (bodyA a x).length := by
  obtain ⟨_, _, e⟩ := at_obj hc hx
  rw [e]
  rfl
theorem endA_take_le (a : List Int) (l : List Int) (k : Nat) : endA a (l.take k) ≤ endA a l := by
  have h := endA_append a (l.take k) (l.drop k)
  rw [List.take_append_drop] at h
  have := endA_range a (l.drop k)
  omega
theorem tosA_snoc (a o : List Int) (n : Nat) : tosA a o (n + 1) = tosA a o n ++ [endA a (o.take n)] := by
  unfold tosA
  rw [List.range_succ, List.map_append]
  rfl
theorem tosA_get (a o : List Int) {n k : Nat} (h : k < n) : (tosA a o n).getD k 0 = endA a (o.take k) := by
  unfold tosA
  rw [List.getD_eq_getElem?_getD, List.getElem?_map, List.getElem?_range h]
  rfl
theorem tosA_length (a o : List Int) (n : Nat) : (tosA a o n).length = n := by simp [tosA]

theorem raw_words {a o : List Int} (h : Carr a o) {x : Int} (hx : x ∈ o) : (a.take (x + lgA a x).toNat).drop x.toNat = rawA a x := by
  obtain ⟨l1, l2, l3, l4, l5, l6⟩ := objA_length (h.isB x hx)
  have hw := objA_words (h.isB x hx)
  unfold rawA
  rw [← hw, lgA_is, List.drop_take]
  congr 1
  omega

theorem copy_step {a o : List Int} (h : Carr a o) {n i : Int} (i0 : 0 ≤ i) (hlt : i < (o.length : Int)) (he : endA a o ≤ n) {out : List Int} (hout : out = (o.take i.toNat).flatMap (rawA a) ++ List.replicate (n - endA a (o.take i.toNat)).toNat 0) :
    out.take (endA a (o.take i.toNat)).toNat ++ ((rawA a (o.getD i.toNat 0)).take (min (rawA a (o.getD i.toNat 0)).length (out.length - (endA a (o.take i.toNat)).toNat)) ++ out.drop ((endA a (o.take i.toNat)).toNat + min (rawA a (o.getD i.toNat 0)).length (out.length - (endA a (o.take i.toNat)).toNat))) =
      (o.take i.toNat ++ [o.getD i.toNat 0]).flatMap (rawA a) ++ List.replicate (n - (endA a (o.take i.toNat) + lgA a (o.getD i.toNat 0))).toNat 0 := by
  have hm := getD_mem (0 : Int) i0 hlt
  have hpl := raws_length h (o.take i.toNat) (fun x hx => List.mem_of_mem_take hx)
  have hr := raw_length h hm
  have ht := take_snoc (0 : Int) i0 hlt
  have hle := endA_take_le a o (i + 1).toNat
  rw [ht, endA_snoc] at hle
  have hE := endA_range a (o.take i.toNat)
  rw [List.flatMap_append, List.flatMap_cons, List.flatMap_nil, List.append_nil]
  generalize endA a (o.take i.toNat) = e at *
  generalize (o.take i.toNat).flatMap (rawA a) = P at *
  generalize lgA a (o.getD i.toNat 0) = g at *
  generalize rawA a (o.getD i.toNat 0) = R at *
  have hol : out.length = P.length + (n - e).toNat := by rw [hout]; simp
  have hmin : min R.length (out.length - e.toNat) = R.length := by omega
  rw [hmin, List.take_of_length_le (Nat.le_refl _), hout, show e.toNat = P.length by omega, List.take_left, List.drop_append, List.drop_of_length_le (by omega), List.nil_append, List.drop_replicate, List.append_assoc]
  congr 3
  omega

theorem at_mid {P A B : List Int} {h v w : Int} {m : Nat} (hm : m = P.length + 1 + A.length) : (P ++ h :: (A ++ v :: B)).getD m 0 = v ∧ (P ++ h :: (A ++ v :: B)).set m w = P ++ h :: (A ++ w :: B) ∧ m < (P ++ h :: (A ++ v :: B)).length := by
  have e : ∀ u, P ++ h :: (A ++ u :: B) = (P ++ h :: A) ++ u :: B := fun u => by simp
  have hl : (P ++ h :: A).length = m := by simp; omega
  rw [e, e, ← hl]
  refine ⟨?_, ?_, ?_⟩
  · rw [List.getD_eq_getElem?_getD, List.getElem?_append_right (Nat.le_refl _), Nat.sub_self]; rfl
  · rw [List.set_append_right _ _ (Nat.le_refl _), Nat.sub_self, List.set_cons_zero]
  · simp only [List.length_append, List.length_cons]; omega
theorem tail_set {L : List Int} {n e : Int} (hl : (L.length : Int) = e) (h : e < n) (w : Int) : (L ++ List.replicate (n - e).toNat 0).set e.toNat w = L ++ w :: List.replicate (n - e - 1).toNat 0 := by
  rw [show e.toNat = L.length by omega, List.set_append_right _ _ (Nat.le_refl _), Nat.sub_self, show (n - e).toNat = (n - e - 1).toNat + 1 by omega, List.replicate_succ, List.set_cons_zero]
theorem now_lk {a o : List Int} (h : Carr a o) {x v : Int} (hx : x ∈ o) (hv : v ∈ refsA a x) : (mget (nowA a o o.length) v).getD 0 = lkA a o v := by
  rw [now_get h.nodup (fun y hy => (isB_range (h.isB y hy)).1) v o.length (Nat.le_refl _), List.take_of_length_le (Nat.le_refl _)]
  unfold lkA
  rcases h.refs x hx v hv with e | ⟨_, _, e⟩
  · rw [if_pos e, if_pos e]; rfl
  · by_cases h0 : v = 0
    · rw [if_pos h0, if_pos h0]; rfl
    · rw [if_neg h0, if_neg h0, if_pos e]; rfl
end Go.Proofs.Ytbidboeemnlglaa
