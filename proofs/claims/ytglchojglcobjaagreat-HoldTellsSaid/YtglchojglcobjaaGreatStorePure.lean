
import Derived.Test.YtglchojglcobjaaGreatJoinPure
import Derived.Test.YtglchojglcobjaaGreatStores
namespace Go.Proofs.YtglchojglcobjaaGreat
open Go
def nilStore : StoreD := ([], [], [], [])
def pinsOf (s : StoreD) : List Int := s.2.2.1.map (·.1)
def keepS (s : StoreD) : List Int := reachL s.1 (fromS s ++ pinsOf s)
def longS (s : StoreD) : List Int := (keepS s).map (lgOf (spotsF s.1).1)
def toT (s : StoreD) (x : Int) : Int := (planS (keepS s) (longS s) (pinsOf s)).getD (place (keepS s) x).toNat 0
def slidA (s : StoreD) : List Int := (slidR s.1 (keepS s) (pinsOf s)).1
def rootTo (s : StoreD) (v : Int) : Int := if 0 ≤ v then toT s v else v
def handTo (s : StoreD) (h : Slot) : Slot := if h.2.1 = true then (h.1, h.2.1, toT s h.2.2) else h
def sweptS (s : StoreD) : StoreD := (slidA s, s.2.1.map (rootTo s), s.2.2.1, s.2.2.2.map (handTo s))
def freeS (s : StoreD) : Int := sumG (gapsL false [] (spotsF (slidA s)).1)
def collectT (s : StoreD) : StoreD × Int := (sweptS s, freeS s)
structure Right (s : StoreD) : Prop where
 w : ∀ x ∈ s.1, InR .u64 x
 chk : (checkF s.1).2.2 = 0
 root : rootFault s.2.1 s.1.length = 0
 pin : pinsF s.2.2.1 = 0
 hand : handsF s.2.2.2 = 0
 nam : ∀ x ∈ namesS s, isB (spotsF s.1).1 x = true
theorem right_of {s : StoreD} (hw : ∀ x ∈ s.1, InR .u64 x) (h : storeF s = 0) : Right s := by
 unfold storeF at h
 split at h
 ·omega
 rename_i h0
 split at h
 ·omega
 rename_i h1
 split at h
 ·omega
 rename_i h2
 split at h
 ·omega
 rename_i h3
 exact ⟨hw, by omega, by omega, by omega, by omega, (fromFault_ok h).2⟩
section
variable {s : StoreD}
theorem Right.pinsRise (h : Right s) : (pinsOf s).Pairwise (· < ·) := List.pairwise_map.2 (pins_ok h.pin).2.1
theorem Right.pinsIn (h : Right s) : ∀ x ∈ pinsOf s, x ∈ namesS s := fun x hx => List.mem_append_right _ hx
theorem Right.froms (h : Right s) : ∀ x ∈ fromS s ++ pinsOf s, x ∈ namesS s := fun x hx => by
 rcases List.mem_append.1 hx with hx | hx
 ·exact (fromS_mem h.root).1 hx
 ·exact h.pinsIn x hx
theorem Right.fault (h : Right s) : fromFault s.1 (fromS s ++ pinsOf s) = 0 := fromFault_of h.chk fun x hx => h.nam x (h.froms x hx)
theorem Right.keep (h : Right s) : risesL (pinsOf s) = true := pairwise_risesL h.pinsRise
theorem Right.longs (h : Right s) : longsF s.1 (keepS s) (pinsOf s) = (longS s, 0) := clean_longs h.w h.fault h.keep
theorem Right.plan (h : Right s) : Plan s.1 (keepS s) (pinsOf s) (longS s) := by
 have := plan_of (a := s.1) (keep := keepS s) (pinned := pinsOf s) (by rw [h.longs])
 rw [h.longs] at this
 exact this
theorem Right.good (h : Right s) (to : List Int) : ((keepS s).all fun x => goodR (keepS s) to (refsA s.1 x)) = true := clean_good h.w h.fault to
theorem Right.clean (h : Right s) : cleanF s.1 (fromS s) (pinsOf s) = (slidA s, (fromS s).map (toT s), 0) := by
 unfold cleanF
 rw [if_neg (by rw [h.fault]; simp), if_neg (by rw [h.keep]; simp), (clean_slide h.w h.fault h.keep).1]
 rfl
theorem Right.slid (h : Right s) : slidA s = slidW s.1 (keepS s) (planS (keepS s) (longS s) (pinsOf s)) (pinsOf s) (longS s) (planGapsL s.1.length (keepS s) (longS s) (pinsOf s)) := by
 have hg := h.good (planS (keepS s) ((keepS s).map (lgOf (spotsF s.1).1)) (pinsOf s))
 unfold slidA slidR
 rw [if_pos hg]
 rfl
theorem Right.slidOK (h : Right s) : (checkF (slidA s)).2.2 = 0 ∧ (slidA s).length = s.1.length ∧ (spotsF (slidA s)).1 = slidS s.1 (keepS s) (pinsOf s) (longS s) := by
 rw [h.slid, slid_check h.plan (h.good _)]
 exact ⟨rfl, slidW_length _ h.plan, by rw [slid_spots _ h.plan]⟩
theorem Right.keepIn (h : Right s) {x : Int} (hx : x ∈ namesS s) : x ∈ keepS s := by
 obtain ⟨k1, k2⟩ := fromFault_ok h.fault
 exact (reach_mem h.w k1 k2).2 (.base (List.mem_append_left _ ((fromS_mem h.root).2 hx)))
theorem Right.toIn (h : Right s) {x : Int} (hx : x ∈ namesS s) : 0 ≤ toT s x ∧ toT s x < s.1.length := by
 have hp := place_in (h.keepIn hx)
 have hP := h.plan
 have hi : (place (keepS s) x).toNat < (keepS s).length := by omega
 unfold toT
 rw [planS_get hi]
 have h1 := hP.le _ hi
 have h2 := (endS_range (pinsOf s) hP.pre _ (Nat.le_of_lt hi)).1
 have h3 := hP.lg _ hi
 obtain ⟨_, _, _, _, l5, l6⟩ := objA_length (hP.isb _ (keep_mem hi))
 omega
theorem Right.nameIn (h : Right s) {x : Int} (hx : x ∈ namesS s) : 0 ≤ x ∧ x < s.1.length := by
 obtain ⟨_, _, l3, l4, l5, l6⟩ := objA_length (h.nam x hx)
 omega
theorem Right.al (h : Right s) : s.1.length ≤ 256 := (checkF_in h.chk).1
theorem Right.reached (h : Right s) : reachL s.1 (risingL (namesS s) 256) = keepS s := by
 have hr := names_range h.root h.pin h.hand
 have hm : ∀ x, x ∈ risingL (namesS s) 256 ↔ x ∈ namesS s := fun x => by
  rw [rising_mem]
  exact ⟨fun h => h.2.2, fun hx => ⟨(hr x hx).1, by have := (hr x hx).2; omega, hx⟩⟩
 obtain ⟨k1, k2⟩ := fromFault_ok h.fault
 refine rise_uniq (reach_rise _ _) (reach_rise _ _) fun x => ?_
 rw [reach_mem h.w h.chk (fun y hy => h.nam y ((hm y).1 hy)), keepS, reach_mem h.w k1 k2]
 exact ⟨fun hx => hx.mono fun y hy => .base (List.mem_append_left _ ((fromS_mem h.root).2 ((hm y).1 hy))), fun hx => hx.mono fun y hy => .base ((hm y).2 (h.froms y hy))⟩
theorem Right.fromOK (h : Right s) : fromFault s.1 (risingL (namesS s) 256) = 0 := fromFault_of h.chk fun x hx => h.nam x (rising_mem.1 hx).2.2
theorem Right.free (h : Right s) : freeS s + ((keepS s).map (lgOf (spotsF s.1).1)).sum = s.1.length := by
 obtain ⟨h1, h2, h3⟩ := h.slidOK
 have h4 := free_sum (checkF_in h1).2.2.2.1
 unfold freeS
 rw [← h2, ← slidS_sum (pinned := pinsOf s) (long := longS s) h.plan.isb, ← h3]
 exact h4
end
def setAll (arr f : List Int) (g : Int → Int) : List Int := f.foldl (fun r x => r.set x.toNat (g x)) arr
theorem setAll_snoc (arr f : List Int) (x : Int) (g : Int → Int) : setAll arr (f ++ [x]) g = (setAll arr f g).set x.toNat (g x) := by simp [setAll]
theorem setAll_length (g : Int → Int) : ∀ (f arr : List Int), (setAll arr f g).length = arr.length
 | [], _ => rfl
 | x :: f, arr => by
  have := setAll_length g f (arr.set x.toNat (g x))
  simp only [setAll, List.foldl_cons] at this ⊢
  rw [this, List.length_set]
theorem setAll_get (g : Int → Int) {k : Int} (h0 : 0 ≤ k) : ∀ (f arr : List Int), (∀ x ∈ f, 0 ≤ x) → k < arr.length → (setAll arr f g).getD k.toNat 0 = if k ∈ f then g k else arr.getD k.toNat 0
 | [], arr, _, _ => by simp [setAll]
 | x :: f, arr, hf, hk => by
  have ih := setAll_get g h0 f (arr.set x.toNat (g x)) (fun y hy => hf y (List.mem_cons_of_mem _ hy)) (by rw [List.length_set]; exact hk)
  have hx := hf x List.mem_cons_self
  have e : setAll arr (x :: f) g = setAll (arr.set x.toNat (g x)) f g := rfl
  rw [e, ih]
  by_cases h1 : k ∈ f
  ·rw [if_pos h1, if_pos (List.mem_cons_of_mem _ h1)]
  ·rw [if_neg h1]
   by_cases h2 : x = k
   ·subst h2
    rw [if_pos List.mem_cons_self, List.getD_eq_getElem?_getD, List.getElem?_set, if_pos rfl, if_pos (by omega)]
    rfl
   ·rw [if_neg (by simp [h1, Ne.symm h2]), List.getD_eq_getElem?_getD, List.getElem?_set_ne (by omega), ← List.getD_eq_getElem?_getD]
theorem setAll_mem (g : Int → Int) {v : Int} : ∀ (f arr : List Int), v ∈ setAll arr f g → v ∈ arr ∨ ∃ x ∈ f, v = g x
 | [], _, h => .inl h
 | x :: f, arr, h => by
  rcases setAll_mem g f _ h with h | ⟨y, hy, e⟩
  ·rcases List.mem_or_eq_of_mem_set h with h | h
   ·exact .inl h
   ·exact .inr ⟨x, List.mem_cons_self, h⟩
  ·exact .inr ⟨y, List.mem_cons_of_mem _ hy, e⟩
section
variable {s : StoreD}
theorem Right.swapRoots (h : Right s) : rootSwapF s.2.1 s.1.length (setAll (List.replicate s.1.length 0) (fromS s) (toT s)) = (s.2.1.map (rootTo s), 0) := by
 have hfm := fun x => (fromS_mem (s := s) h.root (x := x))
 unfold rootSwapF
 rw [if_neg (by rw [h.root]; simp), if_neg (by rw [setAll_length, List.length_replicate]; simp), if_neg]
 ·refine congrArg (·, (0 : Int)) (List.map_congr_left fun v hv => ?_)
  unfold swapI rootTo
  by_cases h0 : 0 ≤ v
  ·rw [if_pos h0, if_pos h0]
   have hn : v ∈ namesS s := List.mem_append_left _ (List.mem_append_left _ (List.mem_filter.2 ⟨hv, by simpa using h0⟩))
   rw [setAll_get _ h0 _ _ (fun x hx => (h.nameIn ((hfm x).1 hx)).1) (by rw [List.length_replicate]; exact (h.nameIn hn).2), if_pos ((hfm v).2 hn)]
  ·rw [if_neg h0, if_neg h0]
 ·intro hc
  obtain ⟨v, hv, hb⟩ := List.any_eq_true.1 hc
  rcases setAll_mem _ _ _ hv with hv | ⟨x, hx, rfl⟩
  ·have := (List.mem_replicate.1 hv)
   have h2 := this.2
   have h1 := this.1
   subst h2
   unfold within at hb
   simp only [Bool.not_eq_true', Bool.and_eq_false_iff, decide_eq_false_iff_not] at hb
   omega
  ·have := h.toIn ((hfm x).1 hx)
   unfold within at hb
   simp only [Bool.not_eq_true', Bool.and_eq_false_iff, decide_eq_false_iff_not] at hb
   omega
theorem Right.swapHands (h : Right s) : swapF s.2.2.2 (setAll (List.replicate 256 0) (fromS s) (toT s)) = (s.2.2.2.map (handTo s), 0) := by
 have hfm := fun x => (fromS_mem (s := s) h.root (x := x))
 have hal := h.al
 unfold swapF
 rw [if_neg (by rw [h.hand]; simp), if_neg (by rw [setAll_length, List.length_replicate]; simp), if_neg]
 ·refine congrArg (·, (0 : Int)) (List.map_congr_left fun v hv => ?_)
  unfold swapSlot handTo
  by_cases h0 : v.2.1 = true
  ·rw [if_pos h0, if_pos h0]
   have hn : v.2.2 ∈ namesS s := List.mem_append_left _ (List.mem_append_right _ (List.mem_map.2 ⟨v, List.mem_filter.2 ⟨hv, by simpa using h0⟩, rfl⟩))
   have h2 := h.nameIn hn
   rw [setAll_get _ h2.1 _ _ (fun x hx => (h.nameIn ((hfm x).1 hx)).1) (by rw [List.length_replicate]; omega), if_pos ((hfm _).2 hn)]
  ·rw [if_neg h0, if_neg h0]
 ·intro hc
  obtain ⟨v, hv, hb⟩ := List.any_eq_true.1 hc
  rcases setAll_mem _ _ _ hv with hv | ⟨x, hx, rfl⟩
  ·have h2 := (List.mem_replicate.1 hv).2
   subst h2
   simp [there] at hb
  ·have := h.toIn ((hfm x).1 hx)
   simp [there] at hb
   omega
end
theorem Right.fromLen {s : StoreD} (h : Right s) : (fromS s).length ≤ 64 := by
 obtain ⟨q1, q2, q3⟩ := store_small h.root h.pin h.hand
 have e1 := rootNamed_len s.2.1 s.1.length
 have e2 := openS_len s.2.2.2
 have e3 : (fromS s).length ≤ (sortI ((rootNamedF s.2.1 s.1.length).1 ++ openS s.2.2.2 ++ s.2.2.1.map (·.1))).length := compact_len _
 rw [sortI_length] at e3
 simp only [List.length_append, List.length_map] at e3
 omega
theorem Right.small {s : StoreD} (h : Right s) : s.2.1.length ≤ 32 ∧ s.2.2.1.length ≤ 16 ∧ s.2.2.2.length ≤ 16 := store_small h.root h.pin h.hand
theorem Right.gaps {s : StoreD} (h : Right s) : gapsGF (slidA s) = (gapsL false [] (spotsF (slidA s)).1, 0) ∧ (∀ r ∈ gapsL false [] (spotsF (slidA s)).1, 0 ≤ r.1 ∧ 1 ≤ r.2 ∧ r.2 ≤ 256) ∧ (gapsL false [] (spotsF (slidA s)).1).length ≤ 256 := by
 obtain ⟨hz, hl, _⟩ := h.slidOK
 obtain ⟨g1, g2⟩ := gaps_in (checkF_in hz).2.2.2.1
 have hal := h.al
 refine ⟨by unfold gapsGF; rw [if_neg (by omega)], fun r hr => ?_, g2⟩
 have := g1 r hr
 omega
theorem map_getD {f : List Int} {g : Int → Int} {i : Int} (h0 : 0 ≤ i) (h1 : i < f.length) : (f.map g).getD i.toNat 0 = g (f.getD i.toNat 0) := by
 have : i.toNat < f.length := by omega
 simp [List.getD_eq_getElem?_getD, this]
theorem sumG_take {l : List Gap} {i : Int} (h0 : 0 ≤ i) (h1 : i < l.length) : sumG (l.take (i + 1).toNat) = sumG (l.take i.toNat) + (l.getD i.toNat (0, 0)).2 := by
 rw [take_snoc ((0, 0) : Gap) h0 h1, sumG_snoc]
structure ObjAt (s : StoreD) (x : Int) : Prop where
 isb : isB (spotsF s.1).1 x = true
 at_ : atF s.1 x = (objectF s.1 (x, hdA s.1 x) (checkF s.1).2.1, 0)
 refs : ((atF s.1 x).1.2.1.length : Int) = (hdA s.1 x).1
 body : ((atF s.1 x).1.2.2.1.length : Int) = (hdA s.1 x).2.1
 x0 : 0 ≤ x
 r0 : 0 ≤ (hdA s.1 x).1
 b0 : 0 ≤ (hdA s.1 x).2.1
 fit : x + 1 + (hdA s.1 x).1 + (hdA s.1 x).2.1 ≤ s.1.length
theorem Right.rootNam {s : StoreD} (h : Right s) {k : Int} (h0 : 0 ≤ k) (h1 : k < s.2.1.length) (h2 : 0 ≤ s.2.1.getD k.toNat 0) : s.2.1.getD k.toNat 0 ∈ namesS s :=
 List.mem_append_left _ (List.mem_append_left _ (List.mem_filter.2 ⟨getD_mem (0 : Int) h0 h1, by simpa using h2⟩))
theorem Right.handNam {s : StoreD} (h : Right s) {k : Int} (h0 : 0 ≤ k) (h1 : k < s.2.2.2.length) (h2 : (s.2.2.2.getD k.toNat (0, false, 0)).2.1 = true) : (s.2.2.2.getD k.toNat (0, false, 0)).2.2 ∈ namesS s :=
 List.mem_append_left _ (List.mem_append_right _ (List.mem_map.2 ⟨_, List.mem_filter.2 ⟨getD_mem ((0, false, 0) : Slot) h0 h1, by simpa using h2⟩, rfl⟩))
end Go.Proofs.YtglchojglcobjaaGreat
