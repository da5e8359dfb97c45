/- Gaps and the reference agree; and the law GapTells. -/
import Derived.Test.YtgnamdjmjkeodaaGapsRef
import Derived.Test.YtgnamdjmjkeodaaWalkLaw
namespace Go.Proofs.Ytgnamdjmjkeodaa
open Go
set_option maxRecDepth 100000
set_option maxHeartbeats 1000000

theorem setRun_get (fr : List Bool) (at_ : Nat) (b : Bool) (i : Nat) : ∀ n, (setRun fr at_ b n).getD i false = if at_ ≤ i ∧ i < at_ + n ∧ i < fr.length then b else fr.getD i false
  | 0 => by
    have : ¬ (at_ ≤ i ∧ i < at_ + 0 ∧ i < fr.length) := by omega
    rw [if_neg this]
    rfl
  | n + 1 => by
    have ih := setRun_get fr at_ b i n
    have hl := setRun_length fr at_ b n
    simp only [setRun]
    by_cases hi : i = at_ + n
    · by_cases hlen : i < fr.length
      · rw [if_pos (by omega)]
        simp [← hi, hl, hlen]
      · rw [if_neg (by omega)]
        simp [hlen, show ¬ i < (setRun fr at_ b n).length by omega]
    · have e : ((setRun fr at_ b n).set (at_ + n) b).getD i false = (setRun fr at_ b n).getD i false := by
        simp [List.getElem?_set, Ne.symm hi]
      rw [e, ih]
      by_cases hc : at_ ≤ i ∧ i < at_ + n ∧ i < fr.length
      · rw [if_pos hc, if_pos (by omega)]
      · rw [if_neg hc, if_neg (by omega)]

/-- Is a word free? -/
def tileAt (k : Int) : List Spot → Bool
  | [] => false
  | x :: r => if k < x.1 + headLong x.2 then x.2.2.2.2 else tileAt k r

theorem flags_get : ∀ (r : List Spot) (s e : Int) (fr : List Bool), Tiles s e r → 0 ≤ s → e ≤ fr.length → s ≤ e ∧ ∀ k : Int, 0 ≤ k → k < e → (flagsL fr r).getD k.toNat false = if k < s then fr.getD k.toNat false else tileAt k r
  | [], s, e, fr, h, _, _ => by
    have : s = e := h
    subst this
    refine ⟨Int.le_refl _, fun k _ hk => ?_⟩
    rw [if_pos hk]
    rfl
  | x :: r, s, e, fr, ⟨h1, h2, h3⟩, h0, hl => by
    have ih := flags_get r (s + headLong x.2) e (setRun fr x.1.toNat x.2.2.2.2 (headLong x.2).toNat) h3 (by omega) (by rw [setRun_length]; exact hl)
    refine ⟨by omega, fun k k0 k1 => ?_⟩
    simp only [flagsL, tileAt]
    rw [ih.2 k k0 k1, setRun_get]
    by_cases hk : k < s
    · rw [if_pos (by omega), if_neg (by omega), if_pos hk]
    · rw [if_neg hk]
      by_cases hk2 : k < s + headLong x.2
      · rw [if_pos hk2, if_pos (by omega), if_pos (by omega)]
      · rw [if_neg hk2, if_neg (by omega)]

theorem bump_bump {out : List Gap} {a b : Int} (h : 0 < out.length) : bumpL (bumpL out a) b = bumpL out (a + b) := by
  unfold bumpL
  simp [show out.length - 1 < out.length by omega, Int.add_assoc]

theorem bump_snoc (out : List Gap) (k a b : Int) : bumpL (out ++ [(k, a)]) b = out ++ [(k, a + b)] := by
  unfold bumpL
  simp

theorem runs_more (f : Int → Bool) : ∀ (n m : Nat) (k : Int) (out : List Gap), 0 < out.length → 0 < k → (∀ i, k - 1 ≤ i → i < k + n → f i = true) → runsGo f (n + m) k out = runsGo f m (k + n) (if n = 0 then out else bumpL out n)
  | 0, m, k, out, _, _, _ => by simp
  | n + 1, m, k, out, h1, h2, h3 => by
    rw [show n + 1 + m = (n + m) + 1 by omega]
    simp only [runsGo]
    rw [if_pos (h3 k (by omega) (by omega)), if_pos (by rw [h3 (k - 1) (by omega) (by omega)]; simp; omega)]
    rw [runs_more f n m (k + 1) (bumpL out 1) (by rw [bumpL_length]; exact h1) (by omega) (fun i hi hj => h3 i (by omega) (by omega))]
    rw [if_neg (by omega : ¬ n + 1 = 0), show k + 1 + (n : Int) = k + ((n + 1 : Nat) : Int) by omega]
    congr 1
    by_cases hn : n = 0
    · subst hn; simp
    · rw [if_neg hn, bump_bump h1]
      congr 1
      omega

theorem runs_free (f : Int → Bool) : ∀ (n m : Nat) (k : Int) (out : List Gap), (∀ i, k ≤ i → i < k + n → f i = false) → runsGo f (n + m) k out = runsGo f m (k + n) out
  | 0, m, k, out, _ => by simp
  | n + 1, m, k, out, h => by
    rw [show n + 1 + m = (n + m) + 1 by omega]
    simp only [runsGo]
    rw [if_neg (by rw [h k (by omega) (by omega)]; simp), runs_free f n m (k + 1) out (fun i hi hj => h i (by omega) (by omega)), show k + 1 + (n : Int) = k + ((n + 1 : Nat) : Int) by omega]

theorem runs_tiles (f : Int → Bool) : ∀ (r : List Spot) (s e : Int) (out : List Gap), Tiles s e r → 0 ≤ s → (∀ k, s ≤ k → k < e → f k = tileAt k r) → ((decide (0 < s) && f (s - 1)) = true → 0 < out.length) →
    s ≤ e ∧ runsGo f (e - s).toNat s out = gapsL (decide (0 < s) && f (s - 1)) out r
  | [], s, e, out, h, _, _, _ => by
    have : s = e := h
    subst this
    rw [Int.sub_self]
    exact ⟨Int.le_refl _, rfl⟩
  | x :: r, s, e, out, ⟨h1, h2, h3⟩, h0, hf, ho => by
    have hx : ∀ k, s ≤ k → k < s + headLong x.2 → k < e → f k = x.2.2.2.2 := fun k k0 k1 k2 => by
      rw [hf k k0 k2]
      simp only [tileAt]
      rw [if_pos (by omega)]
    have hr : s + headLong x.2 ≤ e → ∀ k, s + headLong x.2 ≤ k → k < e → f k = tileAt k r := fun _ k k0 k1 => by
      rw [hf k (by omega) k1]
      simp only [tileAt]
      rw [if_neg (by omega)]
    have hle : s + headLong x.2 ≤ e := by
      have : ∀ (r : List Spot) (s e : Int), Tiles s e r → s ≤ e := by
        intro r
        induction r with
        | nil => intro s e h; exact Int.le_of_eq h
        | cons y r ih => intro s e ⟨_, q2, q3⟩; have := ih _ _ q3; omega
      exact this r _ _ h3
    refine ⟨by omega, ?_⟩
    have hprev : (decide (0 < s + headLong x.2) && f (s + headLong x.2 - 1)) = x.2.2.2.2 := by
      rw [hx _ (by omega) (by omega) (by omega)]
      simp
      omega
    obtain ⟨L, hL⟩ := Int.eq_ofNat_of_zero_le (show 0 ≤ headLong x.2 by omega)
    rw [show (e - s).toNat = L + (e - (s + headLong x.2)).toNat by omega]
    simp only [gapsL]
    cases hfr : x.2.2.2.2
    · rw [hfr] at hx hprev
      rw [runs_free f L _ s out (fun i hi hj => hx i hi (by omega) (by omega)), ← hL]
      have ih := runs_tiles f r (s + headLong x.2) e out h3 (by omega) (hr hle) (fun h => by rw [hprev] at h; cases h)
      rw [ih.2, hprev]
      simp
    · rw [hfr] at hx hprev
      have hL1 : L = (L - 1) + 1 := by omega
      have step : runsGo f (L + (e - (s + headLong x.2)).toNat) s out = runsGo f (e - (s + headLong x.2)).toNat (s + headLong x.2) (if (decide (0 < s) && f (s - 1)) = true then bumpL out (headLong x.2) else out ++ [(x.1, headLong x.2)]) := by
        rw [show L + (e - (s + headLong x.2)).toNat = ((L - 1) + (e - (s + headLong x.2)).toNat) + 1 by omega]
        simp only [runsGo]
        rw [if_pos (hx s (by omega) (by omega) (by omega))]
        rw [runs_more f (L - 1) _ (s + 1) _ (by
          split
          · rename_i hp
            rw [bumpL_length]
            exact ho hp
          · simp) (by omega) (fun i hi hj => hx i (by omega) (by omega) (by omega))]
        rw [show s + 1 + ((L - 1 : Nat) : Int) = s + headLong x.2 by omega]
        congr 1
        by_cases hp : (decide (0 < s) && f (s - 1)) = true
        · rw [if_pos hp, if_pos hp]
          by_cases hz : L - 1 = 0
          · rw [if_pos hz]
            congr 1
            omega
          · rw [if_neg hz, bump_bump (ho hp)]
            congr 1
            omega
        · rw [if_neg hp, if_neg hp]
          by_cases hz : L - 1 = 0
          · rw [if_pos hz, h1]
            congr 3
            omega
          · rw [if_neg hz, bump_snoc, h1]
            congr 3
            omega
      rw [step]
      have ih := runs_tiles f r (s + headLong x.2) e (if (decide (0 < s) && f (s - 1)) = true then bumpL out (headLong x.2) else out ++ [(x.1, headLong x.2)]) h3 (by omega) (hr hle) (fun _ => by
        split
        · rename_i hp
          rw [bumpL_length]
          exact ho hp
        · simp)
      rw [ih.2, hprev]
      simp

theorem gaps_same {a : List Int} (h : (spotsF a).2 = 0) : gapsOfL a = gapsL false [] (spotsF a).1 := by
  have ht := spotsF_tiles h
  have hfl := flags_get (spotsF a).1 0 a.length (List.replicate (a.length + 1) false) ht (Int.le_refl _) (by simp; omega)
  have hr := runs_tiles (fun k => (flagsL (List.replicate (a.length + 1) false) (spotsF a).1).getD k.toNat false) (spotsF a).1 0 a.length [] ht (Int.le_refl _) (fun k k0 k1 => by
    rw [hfl.2 k k0 k1, if_neg (by omega)]) (fun h => by simp at h)
  have h2 := hr.2
  rw [show ((a.length : Int) - 0).toNat = a.length by omega] at h2
  unfold gapsOfL
  rw [h2]
  simp

/-- How long the free object at a word is; 0: there is none. -/
def roomL (at_ : Int) : Int → List Spot → Int
  | r, [] => r
  | r, s :: l => roomL at_ (if s.1 = at_ ∧ s.2.2.2.2 = true then headLong s.2 else r) l

theorem roomL_none (at_ : Int) : ∀ (l : List Spot) (r : Int), (∀ s ∈ l, s.1 ≠ at_) → roomL at_ r l = r
  | [], _, _ => rfl
  | s :: l, r, h => by
    simp only [roomL]
    rw [if_neg (fun e => h s (by simp) e.1)]
    exact roomL_none at_ l r (fun t ht => h t (by simp [ht]))

theorem roomL_no (at_ : Int) : ∀ (l : List Spot) (r : Int), (∀ s ∈ l, ¬ (s.1 = at_ ∧ s.2.2.2.2 = true)) → roomL at_ r l = r
  | [], _, _ => rfl
  | s :: l, r, h => by
    simp only [roomL]
    rw [if_neg (h s (by simp))]
    exact roomL_no at_ l r (fun t ht => h t (by simp [ht]))
theorem roomL_of {at_ : Int} : ∀ (l : List Spot) (r : Int) (s : Spot), l.Pairwise (fun s t => s.1 < t.1) → s ∈ l → s.1 = at_ → s.2.2.2.2 = true → roomL at_ r l = headLong s.2
  | t :: l, r, s, hs, hm, h1, h2 => by
    obtain ⟨p1, p2⟩ := List.pairwise_cons.1 hs
    simp only [roomL]
    rcases List.mem_cons.1 hm with rfl | hm
    · rw [if_pos ⟨h1, h2⟩]
      exact roomL_none at_ l _ (fun u hu e => by have := p1 u hu; omega)
    · exact roomL_of l _ s p2 hm h1 h2
theorem findG_no {l : List Spot} {at_ : Int} {fr : Bool} (h : (findG l at_ fr).2 = false) : ∀ s ∈ l, ¬ (s.1 = at_ ∧ s.2.2.2.2 = fr) := by
  intro s hs ⟨h1, h2⟩
  have ha := findFrom_any (fun s : Spot => decide (s.1 = at_) && s.2.2.2.2 == fr) l 0 (by omega)
  have : (l.any fun s : Spot => decide (s.1 = at_) && s.2.2.2.2 == fr) = true := List.any_eq_true.2 ⟨s, hs, by simp [h1, h2]⟩
  rw [this] at ha
  have ha := of_decide_eq_true ha
  unfold findG at h
  rw [if_neg (by omega)] at h
  cases h
theorem headAtL_find {l : List Spot} (hs : l.Pairwise (fun s t => s.1 < t.1)) (at_ : Int) : (headAtL at_ l).2 = (findG l at_ false).2 ∧ ((findG l at_ false).2 = true → (headAtL at_ l).1 = (findG l at_ false).1.2) := by
  cases h : (findG l at_ false).2
  · rcases headAtL_in at_ l with e | ⟨s, h1, h2, h3, _⟩
    · rw [e]; exact ⟨rfl, fun h => by cases h⟩
    · exact absurd ⟨h2, h3⟩ (findG_no h s h1)
  · obtain ⟨q1, q2, q3⟩ := findG_in l at_ false h
    have := headAtL_of hs q1 q3
    rw [q2] at this
    rw [this]
    exact ⟨rfl, fun _ => rfl⟩

theorem fillL_set {b : List Int} {at_ n v k : Int} {i : Nat} (x : Int) (h : i < at_.toNat) (hl : at_.toNat ≤ b.length) : fillL (b.set i x) at_ n v k = (fillL b at_ n v k).set i x := by
  unfold fillL putAt
  rw [List.take_set, List.drop_set, if_pos (by omega), List.set_append, if_pos (by rw [List.length_take]; omega)]
theorem emptiedL_set {b : List Int} {at_ n : Int} {i : Nat} (x : Int) (h : i < at_.toNat) (hl : at_.toNat ≤ b.length) : emptiedL (b.set i x) at_ n = (emptiedL b at_ n).set i x := by
  unfold emptiedL
  split
  · rw [fillL_set x h hl, List.set_comm _ _ (by omega)]
  · rfl
theorem fillL_get {b : List Int} {at_ n : Int} {i : Nat} (h : at_.toNat ≤ i) (h2 : i < at_.toNat + n.toNat) (hl : at_.toNat + n.toNat ≤ b.length) : (fillL b at_ n 0 n).getD i 0 = 0 := by
  unfold fillL putAt
  have e : (List.take at_.toNat b).length = at_.toNat := by rw [List.length_take]; omega
  rw [List.getD_eq_getElem?_getD, List.getElem?_append_right (by omega), e, List.getElem?_append_left (by simp; omega)]
  rw [List.take_of_length_le (by simp), List.getElem?_replicate]
  split <;> rfl
theorem emptiedL_get {b : List Int} {at_ n : Int} {i : Nat} (h : i < at_.toNat) (hl : at_.toNat ≤ b.length) : (emptiedL b at_ n).getD i 0 = b.getD i 0 := by
  unfold emptiedL
  split
  · unfold fillL putAt
    rw [List.getD_eq_getElem?_getD, List.getElem?_set_ne (by omega), List.getElem?_append_left (by rw [List.length_take]; omega), List.getElem?_take, if_pos h]
    rfl
  · rfl
theorem take_words {a : List Int} {at_ L n : Int} (hp : layPre a at_ L) (h1 : 1 ≤ n) (h2 : n ≤ L) (hw : Int) :
    (emptiedL (emptiedL a at_ L) (at_ + n) (L - n)).set at_.toNat hw = emptiedL ((fillL a at_ L 0 L).set at_.toNat hw) (at_ + n) (L - n) ∧
    ∀ j, 1 ≤ j → j < n → ((emptiedL (emptiedL a at_ L) (at_ + n) (L - n)).set at_.toNat hw).getD (at_ + j).toNat 0 = 0 := by
  obtain ⟨p1, p2, p3, p4⟩ := hp
  have hl := fillL_length a at_ L 0 L p1 p3 p2 (by omega)
  have hE : emptiedL a at_ L = (fillL a at_ L 0 L).set at_.toNat (headWord (0, L - 1, 0, true)) := by unfold emptiedL; rw [if_pos (by omega)]
  rw [hE, emptiedL_set _ (by omega) (by omega), emptiedL_set _ (by omega) (by omega), List.set_set]
  refine ⟨rfl, fun j h3 h4 => ?_⟩
  rw [List.getD_eq_getElem?_getD, List.getElem?_set_ne (by omega), ← List.getD_eq_getElem?_getD, emptiedL_get (by omega) (by omega)]
  exact fillL_get (by omega) (by omega) (by omega)
theorem set_same {w : List Int} {i : Nat} (h : w.getD i 0 = 0) : w.set i 0 = w := by
  apply List.ext_getElem?
  intro k
  rw [List.getElem?_set]
  split
  · rename_i e
    subst e
    rw [List.getD_eq_getElem?_getD] at h
    split
    · rename_i hk
      rw [List.getElem?_eq_getElem hk] at h ⊢
      exact congrArg some h.symm
    · rename_i hk
      rw [List.getElem?_eq_none (by omega)]
  · rfl

def lawHeld (a : List Int) (l : List Spot) (at_ : Int) (b : List Int) : Bool := b.any fun by_ => decide (by_ ≠ at_) && inL (namedL a by_ (headAtL by_ l).1) at_
theorem held_same {a : List Int} (hw : ∀ x ∈ a, InR .u64 x) {l : List Spot} (hs : l.Pairwise (fun s t => s.1 < t.1)) (hf : ∀ s ∈ l, headFault s.2 = 0) {at_ : Int} (h0 : 0 ≤ at_) (h1 : at_ ≤ 255) :
    ∀ l', (∀ s ∈ l', s ∈ l) → lawHeld a l at_ (beginsL l') = l'.any fun s => decide (s.1 ≠ at_) && (spotRefs a s).any fun x => decide (at_ + 1 = x)
  | [], _ => rfl
  | s :: l', h => by
    have ih := held_same hw hs hf h0 h1 l' (fun t ht => h t (by simp [ht]))
    have hm := h s (by simp)
    unfold lawHeld at ih ⊢
    simp only [beginsL]
    rw [List.any_cons]
    cases hfr : s.2.2.2.2
    · simp only [Bool.false_eq_true, if_false]
      rw [List.any_cons, ih, headAtL_of hs hm hfr, named_refs]
      congr 2
      unfold inL
      rw [List.any_map]
      apply Bool.eq_iff_iff.2
      rw [List.any_eq_true, List.any_eq_true]
      constructor
      · rintro ⟨v, hv, e⟩
        refine ⟨v, hv, ?_⟩
        have hv0 := spotRefs_nonneg hw v hv
        have e := of_decide_eq_true e
        simp only [nameOf] at e
        apply decide_eq_true
        split at e <;> omega
      · rintro ⟨v, hv, e⟩
        refine ⟨v, hv, ?_⟩
        have e := of_decide_eq_true e
        simp only [Function.comp, nameOf]
        apply decide_eq_true
        rw [if_neg (by omega)]
        omega
    · simp only [if_true]
      rw [ih, refs_free hfr (hf s hm)]
      simp
def err0 (h : Head) : Int := if headFault h = 0 ∧ h.2.2.2 = true then 3 else headFault h
theorem takeF_bad {a : List Int} (h : (checkF a).2.2 ≠ 0) (at_ : Int) (hd : Head) : takeF a at_ hd = ([], if err0 hd = 0 then (checkF a).2.2 else err0 hd) := by
  unfold takeF err0
  by_cases h1 : headFault hd = 0
  · cases h2 : hd.2.2.2
    · simp [h, h1]
    · simp [h, h1]
  · simp [h1]
def takeErr (e r n : Int) : Int := if e ≠ 0 then e else if r = 0 then 5 else if r < n then 7 else 0
theorem takeF_good {a : List Int} (hz : (checkF a).2.2 = 0) (at_ : Int) (h : Head) :
    takeF a at_ h = (if takeErr (err0 h) (roomL at_ 0 (spotsF a).1) (headLong h) ≠ 0 then [] else emptiedL ((fillL a at_ (roomL at_ 0 (spotsF a).1) 0 (roomL at_ 0 (spotsF a).1)).set at_.toNat (headWord h)) (at_ + headLong h) (roomL at_ 0 (spotsF a).1 - headLong h), takeErr (err0 h) (roomL at_ 0 (spotsF a).1) (headLong h)) ∧
    (takeErr (err0 h) (roomL at_ 0 (spotsF a).1) (headLong h) = 0 → layPre a at_ (roomL at_ 0 (spotsF a).1) ∧ 1 ≤ headLong h ∧ headLong h ≤ roomL at_ 0 (spotsF a).1 ∧ headFault h = 0) := by
  obtain ⟨_, hal, hsp⟩ := gspots_ok hz
  have hF : takeF a at_ h = if headFault h ≠ 0 then ([], headFault h) else if h.2.2.2 = true then ([], 3) else if (checkF a).2.2 ≠ 0 then ([], (checkF a).2.2)
    else if (findG (spotsF a).1 at_ true).2 = false then ([], 5) else if headLong (findG (spotsF a).1 at_ true).1.2 < headLong h then ([], 7)
    else (emptiedL ((fillL a at_ (headLong (findG (spotsF a).1 at_ true).1.2) 0 (headLong (findG (spotsF a).1 at_ true).1.2)).set at_.toNat (headWord h)) (at_ + headLong h) (headLong (findG (spotsF a).1 at_ true).1.2 - headLong h), 0) := rfl
  rw [hF]
  by_cases h1 : headFault h = 0
  · rw [if_neg (by omega)]
    have hz1 := headFault_zero h1
    have hn : headLong h = 1 + h.1 + h.2.1 := rfl
    cases h2 : h.2.2.2
    · have e0 : err0 h = 0 := by unfold err0; rw [h2, if_neg (by simp), h1]
      rw [e0, if_neg (by simp), if_neg (by omega)]
      cases h3 : (findG (spotsF a).1 at_ true).2
      · rw [roomL_no at_ _ 0 (findG_no h3), if_pos rfl]
        have e1 : takeErr 0 0 (headLong h) = 5 := rfl
        rw [e1, if_pos (by omega)]
        exact ⟨rfl, fun h => by omega⟩
      · obtain ⟨q1, q2, q3⟩ := findG_in (spotsF a).1 at_ true h3
        rw [roomL_of _ 0 _ (spotsF_sorted a) q1 q2 q3, if_neg (by simp)]
        obtain ⟨hin, hh⟩ := hsp _ q1
        have hz2 := headFault_zero hh
        have hL : headLong (findG (spotsF a).1 at_ true).1.2 = 1 + (findG (spotsF a).1 at_ true).1.2.1 + (findG (spotsF a).1 at_ true).1.2.2.1 := rfl
        unfold spotIn at hin
        rw [q2] at hin
        generalize headLong (findG (spotsF a).1 at_ true).1.2 = L at *
        by_cases h4 : L < headLong h
        · have e1 : takeErr 0 L (headLong h) = 7 := by unfold takeErr; rw [if_neg (by omega), if_neg (by omega), if_pos h4]
          rw [e1, if_pos h4, if_pos (by omega)]
          exact ⟨rfl, fun h => by omega⟩
        · have e1 : takeErr 0 L (headLong h) = 0 := by unfold takeErr; rw [if_neg (by omega), if_neg (by omega), if_neg h4]
          rw [e1, if_neg h4, if_neg (by omega)]
          exact ⟨rfl, fun _ => ⟨⟨by omega, by omega, by omega, hal⟩, by omega, by omega, h1⟩⟩
    · have e0 : err0 h = 3 := by unfold err0; rw [h2, if_pos ⟨h1, rfl⟩]
      rw [e0, if_pos rfl]
      have e1 : ∀ r, takeErr 3 r (headLong h) = 3 := fun _ => rfl
      rw [e1, if_pos (by omega)]
      exact ⟨rfl, fun h => by omega⟩
  · have e0 : err0 h = headFault h := by unfold err0; rw [if_neg (fun e => h1 e.1)]
    have e1 : ∀ r, takeErr (headFault h) r (headLong h) = headFault h := fun _ => by unfold takeErr; rw [if_pos h1]
    rw [e0, if_pos h1, e1, if_pos h1]
    exact ⟨rfl, fun h => absurd h h1⟩
def an_lawGapTells : Nat → Option LoopGen
  | 1000008 => some { rd := [.box 5 ty_Head, .dat 16 ty_I], A := fun ((h, e) : Head × Int) => { cs := [.dat 16 ty_I], inv := fun (c : Int) => c = if e = 0 ∧ h.2.2.2 = true then 3 else e, mu := fun _ => 0 } }
  | 1000010 => some { rd := [.dat 16 ty_I, .dat 15 ty_I], A := fun ((e, b) : Int × Int) => { cs := [.dat 16 ty_I], inv := fun (c : Int) => c = if e = 0 then b else e, mu := fun _ => 0 } }
  | 16 => some { rd := [.own 107 72 ty_Gap, .own 18 39 ty_W], A := fun ((g, b0) : List Gap × List Int) => { cs := [.own 18 39 ty_W, .dat 109 ty_I], inv := fun ((b, i) : List Int × Int) => 0 ≤ i ∧ i ≤ g.length ∧ g.length ≤ 256 ∧ b.length ≤ 256 ∧ gapsIn b.length g ∧ b = (g.take i.toNat).foldl (fun a r => emptiedL a r.1 r.2) b0, mu := fun ((_, i) : List Int × Int) => (g.length - i).toNat } }
  | 25 => some { rd := [.own 143 78 ty_Spot, .dat 1 ty_I], A := fun ((l, at_) : List Spot × Int) => { cs := [.dat 23 ty_I, .dat 145 ty_I], inv := fun ((r, i) : Int × Int) => 0 ≤ i ∧ i ≤ l.length ∧ l.length ≤ 256 ∧ (∀ s ∈ l, headFault s.2 = 0) ∧ roomL at_ r (l.drop i.toNat) = roomL at_ 0 l, mu := fun ((_, i) : Int × Int) => (l.length - i).toNat } }
  | 1000028 => some { rd := [.box 25 ty_Spot, .dat 23 ty_I, .dat 1 ty_I], A := fun ((s, r, at_) : Spot × Int × Int) => { cs := [.dat 23 ty_I], inv := fun (c : Int) => c = if s.1 = at_ ∧ s.2.2.2.2 = true then headLong s.2 else r, mu := fun _ => 0 } }
  | 1000032 => some { rd := [.dat 16 ty_I, .dat 23 ty_I, .dat 26 ty_I], A := fun ((e, r, n) : Int × Int × Int) => { cs := [.dat 16 ty_I], inv := fun (c : Int) => c = if e ≠ 0 then e else if r = 0 then 5 else if r < n then 7 else 0, mu := fun _ => 0 } }
  | 1000037 => some { rd := [], A := fun _ => { cs := [], inv := fun _ => True, mu := fun _ => 0 } }
  | 42 => some { rd := [.own 27 39 ty_W, .dat 1 ty_I, .dat 26 ty_I], wr := [27], A := fun ((w0, at_, n) : List Int × Int × Int) => { cs := [.own 27 39 ty_W, .dat 28 ty_I], inv := fun ((w, k) : List Int × Int) => 1 ≤ k ∧ 0 ≤ at_ ∧ at_ + n ≤ w0.length ∧ w0.length ≤ 256 ∧ (∀ j : Int, 1 ≤ j → j < n → w0.getD (at_ + j).toNat 0 = 0) ∧ w = w0, mu := fun ((_, k) : List Int × Int) => (n - k).toNat } }
  | 51 => some { rd := [.own 234 3 ty_I, .dat 0 (.arr ty_W), .dat 1 ty_I], A := fun ((b, a, at_) : List Int × List Int × Int) => { cs := [.dat 236 ty_I], inv := fun (i : Int) => 0 ≤ i ∧ i ≤ b.length ∧ b.length ≤ 256 ∧ lawHeld a (spotsF a).1 at_ (b.drop i.toNat) = lawHeld a (spotsF a).1 at_ b, mu := fun (i : Int) => (b.length - i).toNat } }
  | _ => none
def sp_lawGapTells : Spec := sp_law [.arr ty_W, ty_I, ty_Head]
def pv_lawGapTells : Prop :=
    ∀ (x : List Int × Int × Int × Int × Int × Bool),
  (x.fst.length * (8 : Nat) ≤ big ∧ ∀ (x_1 : Int), x_1 ∈ x.fst → InR IntKind.u64 x_1) ∧
      InR IntKind.i64 x.snd.fst ∧
        InR IntKind.i64 x.snd.snd.fst ∧
          InR IntKind.i64 x.snd.snd.snd.fst ∧ InR IntKind.i64 x.snd.snd.snd.snd.fst ∧ True →
    True →
      True ∧
        True ∧
          True ∧
            True ∧
              True ∧
                True ∧
                  (((decide (headFault x.snd.snd = (0 : Int)) && x.snd.snd.snd.snd.snd) = true →
                        (3 : Int) =
                          if headFault x.snd.snd = (0 : Int) ∧ x.snd.snd.snd.snd.snd = true then (3 : Int)
                          else headFault x.snd.snd) ∧
                      ((decide (headFault x.snd.snd = (0 : Int)) && x.snd.snd.snd.snd.snd) = false →
                        headFault x.snd.snd =
                          if headFault x.snd.snd = (0 : Int) ∧ x.snd.snd.snd.snd.snd = true then (3 : Int)
                          else headFault x.snd.snd)) ∧
                    ∀ (x_1 : Int),
                      (x_1 =
                          if headFault x.snd.snd = (0 : Int) ∧ x.snd.snd.snd.snd.snd = true then (3 : Int)
                          else headFault x.snd.snd) →
                        ((decide (x_1 = (0 : Int)) = true →
                              arenaF x.fst = if x_1 = (0 : Int) then arenaF x.fst else x_1) ∧
                            (decide (x_1 = (0 : Int)) = false → x_1 = if x_1 = (0 : Int) then arenaF x.fst else x_1)) ∧
                          ∀ (x_2 : Int),
                            (x_2 = if x_1 = (0 : Int) then arenaF x.fst else x_1) →
                              (decide (arenaF x.fst ≠ (0 : Int)) = true →
                                  InR IntKind.i64
                                      ((↑(gapsGF x.fst).fst.length : Int) + (↑(joinF x.fst).fst.length : Int)) ∧
                                    InR IntKind.i64
                                        ((↑(gapsGF x.fst).fst.length : Int) + (↑(joinF x.fst).fst.length : Int) +
                                          (↑(takeF x.fst x.snd.fst x.snd.snd).fst.length : Int)) ∧
                                      InR IntKind.i64
                                          ((↑(gapsGF x.fst).fst.length : Int) + (↑(joinF x.fst).fst.length : Int) +
                                              (↑(takeF x.fst x.snd.fst x.snd.snd).fst.length : Int) +
                                            (↑(giveF x.fst x.snd.fst).fst.length : Int)) ∧
                                        (decide
                                                      ((↑(gapsGF x.fst).fst.length : Int) +
                                                              (↑(joinF x.fst).fst.length : Int) +
                                                            (↑(takeF x.fst x.snd.fst x.snd.snd).fst.length : Int) +
                                                          (↑(giveF x.fst x.snd.fst).fst.length : Int) =
                                                        (0 : Int)) &&
                                                    decide ((gapsGF x.fst).snd = arenaF x.fst) &&
                                                  decide ((joinF x.fst).snd = arenaF x.fst) &&
                                                decide ((takeF x.fst x.snd.fst x.snd.snd).snd = x_2) &&
                                              decide ((giveF x.fst x.snd.fst).snd = arenaF x.fst)) =
                                            true ∧
                                          True) ∧
                                (decide (arenaF x.fst ≠ (0 : Int)) = false →
                                  x.fst.length ≤ (256 : Nat) ∧
                                    True ∧
                                      ((0 : Int) ≤ (0 : Int) ∧
                                          (0 : Int) ≤ (↑(gapsOfL x.fst).length : Int) ∧
                                            (gapsOfL x.fst).length ≤ (256 : Nat) ∧
                                              x.fst.length ≤ (256 : Nat) ∧
                                                gapsIn (↑x.fst.length : Int) (gapsOfL x.fst) ∧
                                                  x.fst =
                                                    List.foldl (fun (a : List Int) (r : Gap) => emptiedL a r.fst r.snd)
                                                      x.fst (List.take (Int.toNat (0 : Int)) (gapsOfL x.fst))) ∧
                                        ∀ (x_3 : List Int × Int),
                                          (0 : Int) ≤ x_3.snd ∧
                                              x_3.snd ≤ (↑(gapsOfL x.fst).length : Int) ∧
                                                (gapsOfL x.fst).length ≤ (256 : Nat) ∧
                                                  x_3.fst.length ≤ (256 : Nat) ∧
                                                    gapsIn (↑x_3.fst.length : Int) (gapsOfL x.fst) ∧
                                                      x_3.fst =
                                                        List.foldl
                                                          (fun (a : List Int) (r : Gap) => emptiedL a r.fst r.snd) x.fst
                                                          (List.take x_3.snd.toNat (gapsOfL x.fst)) →
                                            (decide (x_3.snd < (↑(gapsOfL x.fst).length : Int)) = true →
                                                (0 : Int) ≤ x_3.snd ∧
                                                  x_3.snd < (↑(gapsOfL x.fst).length : Int) ∧
                                                    x_3.snd.toNat < (gapsOfL x.fst).length ∧
                                                      layPre x_3.fst
                                                          ((gapsOfL x.fst).getD x_3.snd.toNat
                                                              ((0 : Int), (0 : Int))).fst
                                                          ((gapsOfL x.fst).getD x_3.snd.toNat
                                                              ((0 : Int), (0 : Int))).snd ∧
                                                        InR IntKind.i64 (x_3.snd + (1 : Int)) ∧
                                                          ((0 : Int) ≤ x_3.snd + (1 : Int) ∧
                                                              x_3.snd + (1 : Int) ≤ (↑(gapsOfL x.fst).length : Int) ∧
                                                                (gapsOfL x.fst).length ≤ (256 : Nat) ∧
                                                                  (emptiedL x_3.fst
                                                                          ((gapsOfL x.fst).getD x_3.snd.toNat
                                                                              ((0 : Int), (0 : Int))).fst
                                                                          ((gapsOfL x.fst).getD x_3.snd.toNat
                                                                              ((0 : Int), (0 : Int))).snd).length ≤
                                                                      (256 : Nat) ∧
                                                                    gapsIn
                                                                        (↑(emptiedL x_3.fst
                                                                                ((gapsOfL x.fst).getD x_3.snd.toNat
                                                                                    ((0 : Int), (0 : Int))).fst
                                                                                ((gapsOfL x.fst).getD x_3.snd.toNat
                                                                                    ((0 : Int),
                                                                                      (0 : Int))).snd).length :
                                                                          Int)
                                                                        (gapsOfL x.fst) ∧
                                                                      emptiedL x_3.fst
                                                                          ((gapsOfL x.fst).getD x_3.snd.toNat
                                                                              ((0 : Int), (0 : Int))).fst
                                                                          ((gapsOfL x.fst).getD x_3.snd.toNat
                                                                              ((0 : Int), (0 : Int))).snd =
                                                                        List.foldl
                                                                          (fun (a : List Int) (r : Gap) =>
                                                                            emptiedL a r.fst r.snd)
                                                                          x.fst
                                                                          (List.take (x_3.snd + (1 : Int)).toNat
                                                                            (gapsOfL x.fst))) ∧
                                                            ((↑(gapsOfL x.fst).length : Int) -
                                                                  (x_3.snd + (1 : Int))).toNat <
                                                              ((↑(gapsOfL x.fst).length : Int) - x_3.snd).toNat) ∧
                                              (decide (x_3.snd < (↑(gapsOfL x.fst).length : Int)) = false →
                                                True ∧
                                                  ((!decide ((gapsGF x.fst).fst = gapsOfL x.fst) ||
                                                          decide ((gapsGF x.fst).snd ≠ (0 : Int))) =
                                                        false →
                                                      True) ∧
                                                    ((!decide ((gapsGF x.fst).fst = gapsOfL x.fst) ||
                                                                decide ((gapsGF x.fst).snd ≠ (0 : Int)) ||
                                                              !decide ((joinF x.fst).fst = x_3.fst) ||
                                                            decide ((joinF x.fst).snd ≠ (0 : Int))) =
                                                          true →
                                                        false = true ∧ True) ∧
                                                      ((!decide ((gapsGF x.fst).fst = gapsOfL x.fst) ||
                                                                decide ((gapsGF x.fst).snd ≠ (0 : Int)) ||
                                                              !decide ((joinF x.fst).fst = x_3.fst) ||
                                                            decide ((joinF x.fst).snd ≠ (0 : Int))) =
                                                          false →
                                                        True ∧
                                                          ((0 : Int) ≤ (0 : Int) ∧
                                                              (0 : Int) ≤ (↑(spotsF x.fst).fst.length : Int) ∧
                                                                (spotsF x.fst).fst.length ≤ (256 : Nat) ∧
                                                                  (∀ (s : Spot),
                                                                      s ∈ (spotsF x.fst).fst →
                                                                        headFault s.snd = (0 : Int)) ∧
                                                                    roomL x.snd.fst (0 : Int)
                                                                        (List.drop (Int.toNat (0 : Int))
                                                                          (spotsF x.fst).fst) =
                                                                      roomL x.snd.fst (0 : Int) (spotsF x.fst).fst) ∧
                                                            ∀ (x_4 : Int × Int),
                                                              (0 : Int) ≤ x_4.snd ∧
                                                                  x_4.snd ≤ (↑(spotsF x.fst).fst.length : Int) ∧
                                                                    (spotsF x.fst).fst.length ≤ (256 : Nat) ∧
                                                                      (∀ (s : Spot),
                                                                          s ∈ (spotsF x.fst).fst →
                                                                            headFault s.snd = (0 : Int)) ∧
                                                                        roomL x.snd.fst x_4.fst
                                                                            (List.drop x_4.snd.toNat
                                                                              (spotsF x.fst).fst) =
                                                                          roomL x.snd.fst (0 : Int) (spotsF x.fst).fst →
                                                                (decide (x_4.snd < (↑(spotsF x.fst).fst.length : Int)) =
                                                                      true →
                                                                    (0 : Int) ≤ x_4.snd ∧
                                                                      x_4.snd < (↑(spotsF x.fst).fst.length : Int) ∧
                                                                        x_4.snd.toNat < (spotsF x.fst).fst.length ∧
                                                                          (((decide
                                                                                      (((spotsF x.fst).fst.getD
                                                                                            x_4.snd.toNat
                                                                                            ((0 : Int), (0 : Int),
                                                                                              (0 : Int), (0 : Int),
                                                                                              false)).fst =
                                                                                        x.snd.fst) &&
                                                                                    ((spotsF x.fst).fst.getD
                                                                                              x_4.snd.toNat
                                                                                              ((0 : Int), (0 : Int),
                                                                                                (0 : Int), (0 : Int),
                                                                                                false)).snd.snd.snd.snd) =
                                                                                  true →
                                                                                True ∧
                                                                                  headLongW
                                                                                      ((spotsF x.fst).fst.getD
                                                                                          x_4.snd.toNat
                                                                                          ((0 : Int), (0 : Int),
                                                                                            (0 : Int), (0 : Int),
                                                                                            false)).snd =
                                                                                    if
                                                                                        ((spotsF x.fst).fst.getD
                                                                                                x_4.snd.toNat
                                                                                                ((0 : Int), (0 : Int),
                                                                                                  (0 : Int), (0 : Int),
                                                                                                  false)).fst =
                                                                                            x.snd.fst ∧
                                                                                          ((spotsF x.fst).fst.getD
                                                                                                      x_4.snd.toNat
                                                                                                      ((0 : Int),
                                                                                                        (0 : Int),
                                                                                                        (0 : Int),
                                                                                                        (0 : Int),
                                                                                                        false)).snd.snd.snd.snd =
                                                                                            true then
                                                                                      headLong
                                                                                        ((spotsF x.fst).fst.getD
                                                                                            x_4.snd.toNat
                                                                                            ((0 : Int), (0 : Int),
                                                                                              (0 : Int), (0 : Int),
                                                                                              false)).snd
                                                                                    else x_4.fst) ∧
                                                                              ((decide
                                                                                      (((spotsF x.fst).fst.getD
                                                                                            x_4.snd.toNat
                                                                                            ((0 : Int), (0 : Int),
                                                                                              (0 : Int), (0 : Int),
                                                                                              false)).fst =
                                                                                        x.snd.fst) &&
                                                                                    ((spotsF x.fst).fst.getD
                                                                                              x_4.snd.toNat
                                                                                              ((0 : Int), (0 : Int),
                                                                                                (0 : Int), (0 : Int),
                                                                                                false)).snd.snd.snd.snd) =
                                                                                  false →
                                                                                x_4.fst =
                                                                                  if
                                                                                      ((spotsF x.fst).fst.getD
                                                                                              x_4.snd.toNat
                                                                                              ((0 : Int), (0 : Int),
                                                                                                (0 : Int), (0 : Int),
                                                                                                false)).fst =
                                                                                          x.snd.fst ∧
                                                                                        ((spotsF x.fst).fst.getD
                                                                                                    x_4.snd.toNat
                                                                                                    ((0 : Int),
                                                                                                      (0 : Int),
                                                                                                      (0 : Int),
                                                                                                      (0 : Int),
                                                                                                      false)).snd.snd.snd.snd =
                                                                                          true then
                                                                                    headLong
                                                                                      ((spotsF x.fst).fst.getD
                                                                                          x_4.snd.toNat
                                                                                          ((0 : Int), (0 : Int),
                                                                                            (0 : Int), (0 : Int),
                                                                                            false)).snd
                                                                                  else x_4.fst)) ∧
                                                                            ∀ (x_5 : Int),
                                                                              (x_5 =
                                                                                  if
                                                                                      ((spotsF x.fst).fst.getD
                                                                                              x_4.snd.toNat
                                                                                              ((0 : Int), (0 : Int),
                                                                                                (0 : Int), (0 : Int),
                                                                                                false)).fst =
                                                                                          x.snd.fst ∧
                                                                                        ((spotsF x.fst).fst.getD
                                                                                                    x_4.snd.toNat
                                                                                                    ((0 : Int),
                                                                                                      (0 : Int),
                                                                                                      (0 : Int),
                                                                                                      (0 : Int),
                                                                                                      false)).snd.snd.snd.snd =
                                                                                          true then
                                                                                    headLong
                                                                                      ((spotsF x.fst).fst.getD
                                                                                          x_4.snd.toNat
                                                                                          ((0 : Int), (0 : Int),
                                                                                            (0 : Int), (0 : Int),
                                                                                            false)).snd
                                                                                  else x_4.fst) →
                                                                                InR IntKind.i64 (x_4.snd + (1 : Int)) ∧
                                                                                  ((0 : Int) ≤ x_4.snd + (1 : Int) ∧
                                                                                      x_4.snd + (1 : Int) ≤
                                                                                          (↑(spotsF x.fst).fst.length :
                                                                                            Int) ∧
                                                                                        (spotsF x.fst).fst.length ≤
                                                                                            (256 : Nat) ∧
                                                                                          (∀ (s : Spot),
                                                                                              s ∈ (spotsF x.fst).fst →
                                                                                                headFault s.snd =
                                                                                                  (0 : Int)) ∧
                                                                                            roomL x.snd.fst x_5
                                                                                                (List.drop
                                                                                                  (x_4.snd +
                                                                                                      (1 : Int)).toNat
                                                                                                  (spotsF x.fst).fst) =
                                                                                              roomL x.snd.fst (0 : Int)
                                                                                                (spotsF x.fst).fst) ∧
                                                                                    ((↑(spotsF x.fst).fst.length :
                                                                                            Int) -
                                                                                          (x_4.snd + (1 : Int))).toNat <
                                                                                      ((↑(spotsF x.fst).fst.length :
                                                                                            Int) -
                                                                                          x_4.snd).toNat) ∧
                                                                  (decide
                                                                        (x_4.snd < (↑(spotsF x.fst).fst.length : Int)) =
                                                                      false →
                                                                    True ∧
                                                                      ((decide (x_2 ≠ (0 : Int)) = true →
                                                                            x_2 =
                                                                              if x_2 ≠ (0 : Int) then x_2
                                                                              else
                                                                                if x_4.fst = (0 : Int) then (5 : Int)
                                                                                else
                                                                                  if x_4.fst < headLongW x.snd.snd then
                                                                                    (7 : Int)
                                                                                  else (0 : Int)) ∧
                                                                          (decide (x_2 ≠ (0 : Int)) = false →
                                                                            (decide (x_4.fst = (0 : Int)) = true →
                                                                                (5 : Int) =
                                                                                  if x_2 ≠ (0 : Int) then x_2
                                                                                  else
                                                                                    if x_4.fst = (0 : Int) then
                                                                                      (5 : Int)
                                                                                    else
                                                                                      if
                                                                                          x_4.fst <
                                                                                            headLongW x.snd.snd then
                                                                                        (7 : Int)
                                                                                      else (0 : Int)) ∧
                                                                              (decide (x_4.fst = (0 : Int)) = false →
                                                                                (decide
                                                                                        (x_4.fst <
                                                                                          headLongW x.snd.snd) =
                                                                                      true →
                                                                                    (7 : Int) =
                                                                                      if x_2 ≠ (0 : Int) then x_2
                                                                                      else
                                                                                        if x_4.fst = (0 : Int) then
                                                                                          (5 : Int)
                                                                                        else
                                                                                          if
                                                                                              x_4.fst <
                                                                                                headLongW x.snd.snd then
                                                                                            (7 : Int)
                                                                                          else (0 : Int)) ∧
                                                                                  (decide
                                                                                        (x_4.fst <
                                                                                          headLongW x.snd.snd) =
                                                                                      false →
                                                                                    x_2 =
                                                                                      if x_2 ≠ (0 : Int) then x_2
                                                                                      else
                                                                                        if x_4.fst = (0 : Int) then
                                                                                          (5 : Int)
                                                                                        else
                                                                                          if
                                                                                              x_4.fst <
                                                                                                headLongW x.snd.snd then
                                                                                            (7 : Int)
                                                                                          else (0 : Int))))) ∧
                                                                        ∀ (x_5 : Int),
                                                                          (x_5 =
                                                                              if x_2 ≠ (0 : Int) then x_2
                                                                              else
                                                                                if x_4.fst = (0 : Int) then (5 : Int)
                                                                                else
                                                                                  if x_4.fst < headLongW x.snd.snd then
                                                                                    (7 : Int)
                                                                                  else (0 : Int)) →
                                                                            ((decide (x_5 ≠ (0 : Int)) = true →
                                                                                  ((decide
                                                                                            ((0 : Int) <
                                                                                              (↑(takeF x.fst x.snd.fst
                                                                                                        x.snd.snd).fst.length :
                                                                                                Int)) ||
                                                                                          decide
                                                                                            ((takeF x.fst x.snd.fst
                                                                                                  x.snd.snd).snd ≠
                                                                                              x_5)) =
                                                                                        true →
                                                                                      false = true ∧ True) ∧
                                                                                    ((decide
                                                                                            ((0 : Int) <
                                                                                              (↑(takeF x.fst x.snd.fst
                                                                                                        x.snd.snd).fst.length :
                                                                                                Int)) ||
                                                                                          decide
                                                                                            ((takeF x.fst x.snd.fst
                                                                                                  x.snd.snd).snd ≠
                                                                                              x_5)) =
                                                                                        false →
                                                                                      True)) ∧
                                                                                (decide (x_5 ≠ (0 : Int)) = false →
                                                                                  layPre x.fst x.snd.fst x_4.fst ∧
                                                                                    InR IntKind.i64
                                                                                        (x.snd.fst +
                                                                                          headLongW x.snd.snd) ∧
                                                                                      InR IntKind.i64
                                                                                          (x_4.fst -
                                                                                            headLongW x.snd.snd) ∧
                                                                                        layPre
                                                                                            (emptiedL x.fst x.snd.fst
                                                                                              x_4.fst)
                                                                                            (x.snd.fst +
                                                                                              headLongW x.snd.snd)
                                                                                            (x_4.fst -
                                                                                              headLongW x.snd.snd) ∧
                                                                                          headFault x.snd.snd =
                                                                                              (0 : Int) ∧
                                                                                            (0 : Int) ≤ x.snd.fst ∧
                                                                                              x.snd.fst <
                                                                                                  (↑(emptiedL
                                                                                                          (emptiedL
                                                                                                            x.fst
                                                                                                            x.snd.fst
                                                                                                            x_4.fst)
                                                                                                          (x.snd.fst +
                                                                                                            headLongW
                                                                                                              x.snd.snd)
                                                                                                          (x_4.fst -
                                                                                                            headLongW
                                                                                                              x.snd.snd)).length :
                                                                                                    Int) ∧
                                                                                                x.snd.fst.toNat <
                                                                                                    (emptiedL
                                                                                                        (emptiedL x.fst
                                                                                                          x.snd.fst
                                                                                                          x_4.fst)
                                                                                                        (x.snd.fst +
                                                                                                          headLongW
                                                                                                            x.snd.snd)
                                                                                                        (x_4.fst -
                                                                                                          headLongW
                                                                                                            x.snd.snd)).length ∧
                                                                                                  ((1 : Int) ≤
                                                                                                        (1 : Int) ∧
                                                                                                      (0 : Int) ≤
                                                                                                          x.snd.fst ∧
                                                                                                        x.snd.fst +
                                                                                                              headLongW
                                                                                                                x.snd.snd ≤
                                                                                                            (↑((emptiedL
                                                                                                                        (emptiedL
                                                                                                                          x.fst
                                                                                                                          x.snd.fst
                                                                                                                          x_4.fst)
                                                                                                                        (x.snd.fst +
                                                                                                                          headLongW
                                                                                                                            x.snd.snd)
                                                                                                                        (x_4.fst -
                                                                                                                          headLongW
                                                                                                                            x.snd.snd)).set
                                                                                                                    x.snd.fst.toNat
                                                                                                                    (headWord
                                                                                                                      x.snd.snd)).length :
                                                                                                              Int) ∧
                                                                                                          ((emptiedL
                                                                                                                      (emptiedL
                                                                                                                        x.fst
                                                                                                                        x.snd.fst
                                                                                                                        x_4.fst)
                                                                                                                      (x.snd.fst +
                                                                                                                        headLongW
                                                                                                                          x.snd.snd)
                                                                                                                      (x_4.fst -
                                                                                                                        headLongW
                                                                                                                          x.snd.snd)).set
                                                                                                                  x.snd.fst.toNat
                                                                                                                  (headWord
                                                                                                                    x.snd.snd)).length ≤
                                                                                                              (256 :
                                                                                                                Nat) ∧
                                                                                                            (∀
                                                                                                                (j :
                                                                                                                  Int),
                                                                                                                (1 :
                                                                                                                      Int) ≤
                                                                                                                    j →
                                                                                                                  j <
                                                                                                                      headLongW
                                                                                                                        x.snd.snd →
                                                                                                                    ((emptiedL
                                                                                                                                (emptiedL
                                                                                                                                  x.fst
                                                                                                                                  x.snd.fst
                                                                                                                                  x_4.fst)
                                                                                                                                (x.snd.fst +
                                                                                                                                  headLongW
                                                                                                                                    x.snd.snd)
                                                                                                                                (x_4.fst -
                                                                                                                                  headLongW
                                                                                                                                    x.snd.snd)).set
                                                                                                                            x.snd.fst.toNat
                                                                                                                            (headWord
                                                                                                                              x.snd.snd)).getD
                                                                                                                        (x.snd.fst +
                                                                                                                            j).toNat
                                                                                                                        (0 :
                                                                                                                          Int) =
                                                                                                                      (0 :
                                                                                                                        Int)) ∧
                                                                                                              (emptiedL
                                                                                                                      (emptiedL
                                                                                                                        x.fst
                                                                                                                        x.snd.fst
                                                                                                                        x_4.fst)
                                                                                                                      (x.snd.fst +
                                                                                                                        headLongW
                                                                                                                          x.snd.snd)
                                                                                                                      (x_4.fst -
                                                                                                                        headLongW
                                                                                                                          x.snd.snd)).set
                                                                                                                  x.snd.fst.toNat
                                                                                                                  (headWord
                                                                                                                    x.snd.snd) =
                                                                                                                (emptiedL
                                                                                                                      (emptiedL
                                                                                                                        x.fst
                                                                                                                        x.snd.fst
                                                                                                                        x_4.fst)
                                                                                                                      (x.snd.fst +
                                                                                                                        headLongW
                                                                                                                          x.snd.snd)
                                                                                                                      (x_4.fst -
                                                                                                                        headLongW
                                                                                                                          x.snd.snd)).set
                                                                                                                  x.snd.fst.toNat
                                                                                                                  (headWord
                                                                                                                    x.snd.snd)) ∧
                                                                                                    ∀
                                                                                                      (x_6 :
                                                                                                        List Int × Int),
                                                                                                      (1 : Int) ≤
                                                                                                            x_6.snd ∧
                                                                                                          (0 : Int) ≤
                                                                                                              x.snd.fst ∧
                                                                                                            x.snd.fst +
                                                                                                                  headLongW
                                                                                                                    x.snd.snd ≤
                                                                                                                (↑((emptiedL
                                                                                                                            (emptiedL
                                                                                                                              x.fst
                                                                                                                              x.snd.fst
                                                                                                                              x_4.fst)
                                                                                                                            (x.snd.fst +
                                                                                                                              headLongW
                                                                                                                                x.snd.snd)
                                                                                                                            (x_4.fst -
                                                                                                                              headLongW
                                                                                                                                x.snd.snd)).set
                                                                                                                        x.snd.fst.toNat
                                                                                                                        (headWord
                                                                                                                          x.snd.snd)).length :
                                                                                                                  Int) ∧
                                                                                                              ((emptiedL
                                                                                                                          (emptiedL
                                                                                                                            x.fst
                                                                                                                            x.snd.fst
                                                                                                                            x_4.fst)
                                                                                                                          (x.snd.fst +
                                                                                                                            headLongW
                                                                                                                              x.snd.snd)
                                                                                                                          (x_4.fst -
                                                                                                                            headLongW
                                                                                                                              x.snd.snd)).set
                                                                                                                      x.snd.fst.toNat
                                                                                                                      (headWord
                                                                                                                        x.snd.snd)).length ≤
                                                                                                                  (256 :
                                                                                                                    Nat) ∧
                                                                                                                (∀
                                                                                                                    (j :
                                                                                                                      Int),
                                                                                                                    (1 :
                                                                                                                          Int) ≤
                                                                                                                        j →
                                                                                                                      j <
                                                                                                                          headLongW
                                                                                                                            x.snd.snd →
                                                                                                                        ((emptiedL
                                                                                                                                    (emptiedL
                                                                                                                                      x.fst
                                                                                                                                      x.snd.fst
                                                                                                                                      x_4.fst)
                                                                                                                                    (x.snd.fst +
                                                                                                                                      headLongW
                                                                                                                                        x.snd.snd)
                                                                                                                                    (x_4.fst -
                                                                                                                                      headLongW
                                                                                                                                        x.snd.snd)).set
                                                                                                                                x.snd.fst.toNat
                                                                                                                                (headWord
                                                                                                                                  x.snd.snd)).getD
                                                                                                                            (x.snd.fst +
                                                                                                                                j).toNat
                                                                                                                            (0 :
                                                                                                                              Int) =
                                                                                                                          (0 :
                                                                                                                            Int)) ∧
                                                                                                                  x_6.fst =
                                                                                                                    (emptiedL
                                                                                                                          (emptiedL
                                                                                                                            x.fst
                                                                                                                            x.snd.fst
                                                                                                                            x_4.fst)
                                                                                                                          (x.snd.fst +
                                                                                                                            headLongW
                                                                                                                              x.snd.snd)
                                                                                                                          (x_4.fst -
                                                                                                                            headLongW
                                                                                                                              x.snd.snd)).set
                                                                                                                      x.snd.fst.toNat
                                                                                                                      (headWord
                                                                                                                        x.snd.snd) →
                                                                                                        (decide
                                                                                                                (x_6.snd <
                                                                                                                  headLongW
                                                                                                                    x.snd.snd) =
                                                                                                              true →
                                                                                                            InR
                                                                                                                IntKind.i64
                                                                                                                (x.snd.fst +
                                                                                                                  x_6.snd) ∧
                                                                                                              (0 :
                                                                                                                    Int) ≤
                                                                                                                  x.snd.fst +
                                                                                                                    x_6.snd ∧
                                                                                                                x.snd.fst +
                                                                                                                      x_6.snd <
                                                                                                                    (↑x_6.fst.length :
                                                                                                                      Int) ∧
                                                                                                                  (x.snd.fst +
                                                                                                                          x_6.snd).toNat <
                                                                                                                      x_6.fst.length ∧
                                                                                                                    InR
                                                                                                                        IntKind.i64
                                                                                                                        (x_6.snd +
                                                                                                                          (1 :
                                                                                                                            Int)) ∧
                                                                                                                      ((1 :
                                                                                                                              Int) ≤
                                                                                                                            x_6.snd +
                                                                                                                              (1 :
                                                                                                                                Int) ∧
                                                                                                                          (0 :
                                                                                                                                Int) ≤
                                                                                                                              x.snd.fst ∧
                                                                                                                            x.snd.fst +
                                                                                                                                  headLongW
                                                                                                                                    x.snd.snd ≤
                                                                                                                                (↑((emptiedL
                                                                                                                                            (emptiedL
                                                                                                                                              x.fst
                                                                                                                                              x.snd.fst
                                                                                                                                              x_4.fst)
                                                                                                                                            (x.snd.fst +
                                                                                                                                              headLongW
                                                                                                                                                x.snd.snd)
                                                                                                                                            (x_4.fst -
                                                                                                                                              headLongW
                                                                                                                                                x.snd.snd)).set
                                                                                                                                        x.snd.fst.toNat
                                                                                                                                        (headWord
                                                                                                                                          x.snd.snd)).length :
                                                                                                                                  Int) ∧
                                                                                                                              ((emptiedL
                                                                                                                                          (emptiedL
                                                                                                                                            x.fst
                                                                                                                                            x.snd.fst
                                                                                                                                            x_4.fst)
                                                                                                                                          (x.snd.fst +
                                                                                                                                            headLongW
                                                                                                                                              x.snd.snd)
                                                                                                                                          (x_4.fst -
                                                                                                                                            headLongW
                                                                                                                                              x.snd.snd)).set
                                                                                                                                      x.snd.fst.toNat
                                                                                                                                      (headWord
                                                                                                                                        x.snd.snd)).length ≤
                                                                                                                                  (256 :
                                                                                                                                    Nat) ∧
                                                                                                                                (∀
                                                                                                                                    (j :
                                                                                                                                      Int),
                                                                                                                                    (1 :
                                                                                                                                          Int) ≤
                                                                                                                                        j →
                                                                                                                                      j <
                                                                                                                                          headLongW
                                                                                                                                            x.snd.snd →
                                                                                                                                        ((emptiedL
                                                                                                                                                    (emptiedL
                                                                                                                                                      x.fst
                                                                                                                                                      x.snd.fst
                                                                                                                                                      x_4.fst)
                                                                                                                                                    (x.snd.fst +
                                                                                                                                                      headLongW
                                                                                                                                                        x.snd.snd)
                                                                                                                                                    (x_4.fst -
                                                                                                                                                      headLongW
                                                                                                                                                        x.snd.snd)).set
                                                                                                                                                x.snd.fst.toNat
                                                                                                                                                (headWord
                                                                                                                                                  x.snd.snd)).getD
                                                                                                                                            (x.snd.fst +
                                                                                                                                                j).toNat
                                                                                                                                            (0 :
                                                                                                                                              Int) =
                                                                                                                                          (0 :
                                                                                                                                            Int)) ∧
                                                                                                                                  x_6.fst.set
                                                                                                                                      (x.snd.fst +
                                                                                                                                          x_6.snd).toNat
                                                                                                                                      (0 :
                                                                                                                                        Int) =
                                                                                                                                    (emptiedL
                                                                                                                                          (emptiedL
                                                                                                                                            x.fst
                                                                                                                                            x.snd.fst
                                                                                                                                            x_4.fst)
                                                                                                                                          (x.snd.fst +
                                                                                                                                            headLongW
                                                                                                                                              x.snd.snd)
                                                                                                                                          (x_4.fst -
                                                                                                                                            headLongW
                                                                                                                                              x.snd.snd)).set
                                                                                                                                      x.snd.fst.toNat
                                                                                                                                      (headWord
                                                                                                                                        x.snd.snd)) ∧
                                                                                                                        (headLongW
                                                                                                                                x.snd.snd -
                                                                                                                              (x_6.snd +
                                                                                                                                (1 :
                                                                                                                                  Int))).toNat <
                                                                                                                          (headLongW
                                                                                                                                x.snd.snd -
                                                                                                                              x_6.snd).toNat) ∧
                                                                                                          (decide
                                                                                                                (x_6.snd <
                                                                                                                  headLongW
                                                                                                                    x.snd.snd) =
                                                                                                              false →
                                                                                                            (decide
                                                                                                                    ((takeF
                                                                                                                          x.fst
                                                                                                                          x.snd.fst
                                                                                                                          x.snd.snd).snd ≠
                                                                                                                      (0 :
                                                                                                                        Int)) =
                                                                                                                  false →
                                                                                                                True) ∧
                                                                                                              ((decide
                                                                                                                        ((takeF
                                                                                                                              x.fst
                                                                                                                              x.snd.fst
                                                                                                                              x.snd.snd).snd ≠
                                                                                                                          (0 :
                                                                                                                            Int)) ||
                                                                                                                      !decide
                                                                                                                          ((takeF
                                                                                                                                x.fst
                                                                                                                                x.snd.fst
                                                                                                                                x.snd.snd).fst =
                                                                                                                            x_6.fst)) =
                                                                                                                    true →
                                                                                                                  false =
                                                                                                                      true ∧
                                                                                                                    True) ∧
                                                                                                                ((decide
                                                                                                                        ((takeF
                                                                                                                              x.fst
                                                                                                                              x.snd.fst
                                                                                                                              x.snd.snd).snd ≠
                                                                                                                          (0 :
                                                                                                                            Int)) ||
                                                                                                                      !decide
                                                                                                                          ((takeF
                                                                                                                                x.fst
                                                                                                                                x.snd.fst
                                                                                                                                x.snd.snd).fst =
                                                                                                                            x_6.fst)) =
                                                                                                                    false →
                                                                                                                  True)))) ∧
                                                                              ∀ (x_6 : Unit),
                                                                                True →
                                                                                  True ∧
                                                                                    ((!(headAtL x.snd.fst
                                                                                                (spotsF
                                                                                                    x.fst).fst).snd) =
                                                                                          true →
                                                                                        (decide
                                                                                                ((↑(giveF x.fst
                                                                                                            x.snd.fst).fst.length :
                                                                                                    Int) =
                                                                                                  (0 : Int)) &&
                                                                                              decide
                                                                                                ((giveF x.fst
                                                                                                      x.snd.fst).snd =
                                                                                                  (5 : Int))) =
                                                                                            true ∧
                                                                                          True) ∧
                                                                                      ((!(headAtL x.snd.fst
                                                                                                (spotsF
                                                                                                    x.fst).fst).snd) =
                                                                                          false →
                                                                                        True ∧
                                                                                          ((0 : Int) ≤ (0 : Int) ∧
                                                                                              (0 : Int) ≤
                                                                                                  (↑(beginsL
                                                                                                          (spotsF
                                                                                                              x.fst).fst).length :
                                                                                                    Int) ∧
                                                                                                (beginsL
                                                                                                        (spotsF
                                                                                                            x.fst).fst).length ≤
                                                                                                    (256 : Nat) ∧
                                                                                                  lawHeld x.fst
                                                                                                      (spotsF x.fst).fst
                                                                                                      x.snd.fst
                                                                                                      (List.drop
                                                                                                        (Int.toNat
                                                                                                          (0 : Int))
                                                                                                        (beginsL
                                                                                                          (spotsF
                                                                                                              x.fst).fst)) =
                                                                                                    lawHeld x.fst
                                                                                                      (spotsF x.fst).fst
                                                                                                      x.snd.fst
                                                                                                      (beginsL
                                                                                                        (spotsF
                                                                                                            x.fst).fst)) ∧
                                                                                            ∀ (x_7 : Int),
                                                                                              (0 : Int) ≤ x_7 ∧
                                                                                                  x_7 ≤
                                                                                                      (↑(beginsL
                                                                                                              (spotsF
                                                                                                                  x.fst).fst).length :
                                                                                                        Int) ∧
                                                                                                    (beginsL
                                                                                                            (spotsF
                                                                                                                x.fst).fst).length ≤
                                                                                                        (256 : Nat) ∧
                                                                                                      lawHeld x.fst
                                                                                                          (spotsF
                                                                                                              x.fst).fst
                                                                                                          x.snd.fst
                                                                                                          (List.drop
                                                                                                            x_7.toNat
                                                                                                            (beginsL
                                                                                                              (spotsF
                                                                                                                  x.fst).fst)) =
                                                                                                        lawHeld x.fst
                                                                                                          (spotsF
                                                                                                              x.fst).fst
                                                                                                          x.snd.fst
                                                                                                          (beginsL
                                                                                                            (spotsF
                                                                                                                x.fst).fst) →
                                                                                                (decide
                                                                                                        (x_7 <
                                                                                                          (↑(beginsL
                                                                                                                  (spotsF
                                                                                                                      x.fst).fst).length :
                                                                                                            Int)) =
                                                                                                      true →
                                                                                                    (0 : Int) ≤ x_7 ∧
                                                                                                      x_7 <
                                                                                                          (↑(beginsL
                                                                                                                  (spotsF
                                                                                                                      x.fst).fst).length :
                                                                                                            Int) ∧
                                                                                                        x_7.toNat <
                                                                                                            (beginsL
                                                                                                                (spotsF
                                                                                                                    x.fst).fst).length ∧
                                                                                                          (decide
                                                                                                                  ((beginsL
                                                                                                                          (spotsF
                                                                                                                              x.fst).fst).getD
                                                                                                                      x_7.toNat
                                                                                                                      (0 :
                                                                                                                        Int) ≠
                                                                                                                    x.snd.fst) =
                                                                                                                true →
                                                                                                              True) ∧
                                                                                                            (decide
                                                                                                                    ((beginsL
                                                                                                                            (spotsF
                                                                                                                                x.fst).fst).getD
                                                                                                                        x_7.toNat
                                                                                                                        (0 :
                                                                                                                          Int) ≠
                                                                                                                      x.snd.fst) =
                                                                                                                  true →
                                                                                                                True) ∧
                                                                                                              ((decide
                                                                                                                        ((beginsL
                                                                                                                                (spotsF
                                                                                                                                    x.fst).fst).getD
                                                                                                                            x_7.toNat
                                                                                                                            (0 :
                                                                                                                              Int) ≠
                                                                                                                          x.snd.fst) &&
                                                                                                                      inL
                                                                                                                        (namedL
                                                                                                                          x.fst
                                                                                                                          ((beginsL
                                                                                                                                (spotsF
                                                                                                                                    x.fst).fst).getD
                                                                                                                            x_7.toNat
                                                                                                                            (0 :
                                                                                                                              Int))
                                                                                                                          (headAtL
                                                                                                                              ((beginsL
                                                                                                                                    (spotsF
                                                                                                                                        x.fst).fst).getD
                                                                                                                                x_7.toNat
                                                                                                                                (0 :
                                                                                                                                  Int))
                                                                                                                              (spotsF
                                                                                                                                  x.fst).fst).fst)
                                                                                                                        x.snd.fst) =
                                                                                                                    true →
                                                                                                                  (decide
                                                                                                                          ((↑(giveF
                                                                                                                                      x.fst
                                                                                                                                      x.snd.fst).fst.length :
                                                                                                                              Int) =
                                                                                                                            (0 :
                                                                                                                              Int)) &&
                                                                                                                        decide
                                                                                                                          ((giveF
                                                                                                                                x.fst
                                                                                                                                x.snd.fst).snd =
                                                                                                                            (8 :
                                                                                                                              Int))) =
                                                                                                                      true ∧
                                                                                                                    True) ∧
                                                                                                                ((decide
                                                                                                                        ((beginsL
                                                                                                                                (spotsF
                                                                                                                                    x.fst).fst).getD
                                                                                                                            x_7.toNat
                                                                                                                            (0 :
                                                                                                                              Int) ≠
                                                                                                                          x.snd.fst) &&
                                                                                                                      inL
                                                                                                                        (namedL
                                                                                                                          x.fst
                                                                                                                          ((beginsL
                                                                                                                                (spotsF
                                                                                                                                    x.fst).fst).getD
                                                                                                                            x_7.toNat
                                                                                                                            (0 :
                                                                                                                              Int))
                                                                                                                          (headAtL
                                                                                                                              ((beginsL
                                                                                                                                    (spotsF
                                                                                                                                        x.fst).fst).getD
                                                                                                                                x_7.toNat
                                                                                                                                (0 :
                                                                                                                                  Int))
                                                                                                                              (spotsF
                                                                                                                                  x.fst).fst).fst)
                                                                                                                        x.snd.fst) =
                                                                                                                    false →
                                                                                                                  InR
                                                                                                                      IntKind.i64
                                                                                                                      (x_7 +
                                                                                                                        (1 :
                                                                                                                          Int)) ∧
                                                                                                                    ((0 :
                                                                                                                            Int) ≤
                                                                                                                          x_7 +
                                                                                                                            (1 :
                                                                                                                              Int) ∧
                                                                                                                        x_7 +
                                                                                                                              (1 :
                                                                                                                                Int) ≤
                                                                                                                            (↑(beginsL
                                                                                                                                    (spotsF
                                                                                                                                        x.fst).fst).length :
                                                                                                                              Int) ∧
                                                                                                                          (beginsL
                                                                                                                                  (spotsF
                                                                                                                                      x.fst).fst).length ≤
                                                                                                                              (256 :
                                                                                                                                Nat) ∧
                                                                                                                            lawHeld
                                                                                                                                x.fst
                                                                                                                                (spotsF
                                                                                                                                    x.fst).fst
                                                                                                                                x.snd.fst
                                                                                                                                (List.drop
                                                                                                                                  (x_7 +
                                                                                                                                      (1 :
                                                                                                                                        Int)).toNat
                                                                                                                                  (beginsL
                                                                                                                                    (spotsF
                                                                                                                                        x.fst).fst)) =
                                                                                                                              lawHeld
                                                                                                                                x.fst
                                                                                                                                (spotsF
                                                                                                                                    x.fst).fst
                                                                                                                                x.snd.fst
                                                                                                                                (beginsL
                                                                                                                                  (spotsF
                                                                                                                                      x.fst).fst)) ∧
                                                                                                                      ((↑(beginsL
                                                                                                                                    (spotsF
                                                                                                                                        x.fst).fst).length :
                                                                                                                              Int) -
                                                                                                                            (x_7 +
                                                                                                                              (1 :
                                                                                                                                Int))).toNat <
                                                                                                                        ((↑(beginsL
                                                                                                                                    (spotsF
                                                                                                                                        x.fst).fst).length :
                                                                                                                              Int) -
                                                                                                                            x_7).toNat)) ∧
                                                                                                  (decide
                                                                                                        (x_7 <
                                                                                                          (↑(beginsL
                                                                                                                  (spotsF
                                                                                                                      x.fst).fst).length :
                                                                                                            Int)) =
                                                                                                      false →
                                                                                                    (decide
                                                                                                            ((giveF
                                                                                                                  x.fst
                                                                                                                  x.snd.fst).snd =
                                                                                                              (0 :
                                                                                                                Int)) =
                                                                                                          true →
                                                                                                        True) ∧
                                                                                                      (decide
                                                                                                              ((giveF
                                                                                                                    x.fst
                                                                                                                    x.snd.fst).snd =
                                                                                                                (0 :
                                                                                                                  Int)) =
                                                                                                            true →
                                                                                                          layPre x.fst
                                                                                                            x.snd.fst
                                                                                                            (headLongW
                                                                                                              (headAtL
                                                                                                                  x.snd.fst
                                                                                                                  (spotsF
                                                                                                                      x.fst).fst).fst)) ∧
                                                                                                        (decide
                                                                                                                ((giveF
                                                                                                                      x.fst
                                                                                                                      x.snd.fst).snd =
                                                                                                                  (0 :
                                                                                                                    Int)) =
                                                                                                              true →
                                                                                                            True) ∧
                                                                                                          (decide
                                                                                                                  ((giveF
                                                                                                                        x.fst
                                                                                                                        x.snd.fst).snd =
                                                                                                                    (0 :
                                                                                                                      Int)) &&
                                                                                                                decide
                                                                                                                  ((giveF
                                                                                                                        x.fst
                                                                                                                        x.snd.fst).fst =
                                                                                                                    emptiedL
                                                                                                                      x.fst
                                                                                                                      x.snd.fst
                                                                                                                      (headLongW
                                                                                                                        (headAtL
                                                                                                                            x.snd.fst
                                                                                                                            (spotsF
                                                                                                                                x.fst).fst).fst))) =
                                                                                                              true ∧
                                                                                                            True))))))
theorem vcp_lawGapTells : pv_lawGapTells := by
  unfold pv_lawGapTells
  intro ⟨a, at_, h⟩ ⟨⟨hb, hw⟩, hat, _, h1r, h2r, _⟩ _
  simp only at hb hw hat h1r h2r ⊢
  rw [arena_check hw]
  refine ⟨trivial, trivial, trivial, trivial, trivial, trivial, ⟨fun hc => ?_, fun hc => ?_⟩, fun x1 hx1 => ⟨⟨fun hc => ?_, fun hc => ?_⟩, fun x2 hx2 => ⟨fun hc => ?_, fun hc => ?_⟩⟩⟩
  · simp only [Bool.and_eq_true, decide_eq_true_eq] at hc
    rw [if_pos hc]
  · rw [if_neg (fun e => by rw [decide_eq_true e.1, e.2] at hc; cases hc)]
  · rw [if_pos (of_decide_eq_true hc)]
  · rw [if_neg (of_decide_eq_false hc)]
  · have hc := of_decide_eq_true hc
    have e1 : gapsGF a = ([], (checkF a).2.2) := by unfold gapsGF; rw [if_pos hc]
    have e2 : joinF a = ([], (checkF a).2.2) := by unfold joinF; rw [if_pos hc]
    have e4 : giveF a at_ = ([], (checkF a).2.2) := by unfold giveF; rw [if_pos hc]
    have e5 : x1 = err0 h := hx1
    rw [takeF_bad hc, e1, e2, e4, hx2, e5]
    simp [InR]
  have hc : (checkF a).2.2 = 0 := by simpa using of_decide_eq_false hc
  obtain ⟨hal, _, hs3, hs4, _, _, hs5⟩ := checkF_in hc
  rw [hs3] at hs5
  have hlen := spotsF_length a
  have e1 : gapsGF a = (gapsL false [] (spotsF a).1, 0) := by unfold gapsGF; rw [if_neg (by omega)]
  have e2 : joinF a = ((gapsL false [] (spotsF a).1).foldl (fun a r => emptiedL a r.1 r.2) a, 0) := by unfold joinF; rw [if_neg (by omega)]
  have e3 := takeF_good hc at_ h
  have e0 : x1 = err0 h := hx1
  have e02 : x2 = err0 h := by
    rw [hx2, hc, e0]
    split
    · rename_i h; exact h.symm
    · rfl
  obtain ⟨g1, g2⟩ := gaps_in hs4
  rw [gaps_same hs4, e1, e2]
  subst e02
  generalize gapsL false [] (spotsF a).1 = g at *
  refine ⟨hal, trivial, ⟨by omega, by omega, g2, hal, g1, rfl⟩, fun ⟨b, i⟩ ⟨q0, q1, _, q2, q3, q4⟩ => ⟨fun hlt => ?_, fun hge => ?_⟩⟩
  · have hlt : i < (g.length : Int) := of_decide_eq_true hlt
    simp only at q0 q1 q2 q3 q4 ⊢
    have e := take_snoc ((0, 0) : Gap) q0 hlt
    have hr := q3 _ (getD_mem ((0, 0) : Gap) q0 hlt)
    rw [e, List.foldl_append, ← q4]
    generalize g.getD i.toNat (0, 0) = r at *
    have hp : layPre b r.1 r.2 := ⟨hr.1, by omega, hr.2.2, q2⟩
    rw [emptiedL_length hp]
    simp only [InR]
    exact ⟨q0, hlt, by omega, hp, by omega, ⟨by omega, by omega, g2, q2, q3, rfl⟩, by omega⟩
  have hge : ¬ i < (g.length : Int) := of_decide_eq_false hge
  simp only at q4 ⊢
  rw [take_end hge] at q4
  refine ⟨trivial, fun _ => trivial, fun hc => ?_, fun _ => ⟨trivial, ⟨by omega, by omega, hlen, fun s hs => (hs5 s hs).2, rfl⟩, fun ⟨r, i⟩ ⟨i0, i1, _, _, i2⟩ => ⟨fun hlt => ?_, fun hge => ?_⟩⟩⟩
  · exfalso
    simp [q4] at hc
  · have hlt : i < ((spotsF a).1.length : Int) := of_decide_eq_true hlt
    simp only at i0 i1 i2 ⊢
    rw [drop_cons ((0, 0, 0, 0, false) : Spot) i0 hlt] at i2
    simp only [roomL] at i2
    obtain ⟨hin, hh⟩ := hs5 _ (getD_mem ((0, 0, 0, 0, false) : Spot) i0 hlt)
    have hz := headFault_zero hh
    generalize (spotsF a).1.getD i.toNat (0, 0, 0, 0, false) = s at *
    simp only [InR]
    refine ⟨i0, hlt, by omega, ⟨fun hc => ?_, fun hc => ?_⟩, fun x hx => ⟨by omega, ⟨by omega, by omega, hlen, fun s hs => (hs5 s hs).2, ?_⟩, by omega⟩⟩
    · simp only [Bool.and_eq_true, decide_eq_true_eq] at hc
      rw [if_pos hc]
      exact ⟨trivial, headLongW_is hh⟩
    · rw [if_neg (fun e => by rw [decide_eq_true e.1, e.2] at hc; cases hc)]
    · rw [hx]
      exact i2
  have hge : ¬ i < ((spotsF a).1.length : Int) := of_decide_eq_false hge
  simp only at i2 ⊢
  rw [drop_end hge] at i2
  simp only [roomL] at i2
  subst i2
  obtain ⟨t1, t2⟩ := e3
  rw [t1]
  have hw0 : err0 h = 0 → headLongW h = headLong h := fun z => by
    unfold err0 at z
    split at z
    · omega
    · exact headLongW_is z
  have hX : (if err0 h ≠ 0 then err0 h else if roomL at_ 0 (spotsF a).1 = 0 then 5 else if roomL at_ 0 (spotsF a).1 < headLongW h then 7 else 0) = takeErr (err0 h) (roomL at_ 0 (spotsF a).1) (headLong h) := by
    unfold takeErr
    split
    · rfl
    · rename_i z
      rw [hw0 (by omega)]
  refine ⟨trivial, ⟨fun c1 => ?_, fun c1 => ⟨fun c2 => ?_, fun c2 => ⟨fun c3 => ?_, fun c3 => ?_⟩⟩⟩, fun x5 hx5 => ⟨⟨fun hc => ⟨fun hd => ?_, fun _ => trivial⟩, fun hc => ?_⟩, fun _ _ => ?_⟩⟩
  · rw [if_pos (of_decide_eq_true c1)]
  · rw [if_neg (of_decide_eq_false c1), if_pos (of_decide_eq_true c2)]
  · rw [if_neg (of_decide_eq_false c1), if_neg (of_decide_eq_false c2), if_pos (of_decide_eq_true c3)]
  · rw [if_neg (of_decide_eq_false c1), if_neg (of_decide_eq_false c2), if_neg (of_decide_eq_false c3)]
    simpa using of_decide_eq_false c1
  · exfalso
    rw [hX] at hx5
    subst hx5
    rw [if_pos (of_decide_eq_true hc)] at hd
    simp at hd
  · rw [hX] at hx5
    subst hx5
    have hz : takeErr (err0 h) (roomL at_ 0 (spotsF a).1) (headLong h) = 0 := by simpa using of_decide_eq_false hc
    obtain ⟨p, n1, n2, hh⟩ := t2 hz
    rw [headLongW_is hh, hz, if_neg (by simp)]
    have tw := take_words p n1 n2 (headWord h)
    have l1 := emptiedL_length p
    generalize roomL at_ 0 (spotsF a).1 = L at *
    generalize headLong h = n at *
    have pp : layPre (emptiedL a at_ L) (at_ + n) (L - n) := by
      obtain ⟨p1, p2, p3, p4⟩ := p
      exact ⟨by omega, by omega, by omega, by omega⟩
    have l2 := emptiedL_length pp
    have l3 : ((emptiedL (emptiedL a at_ L) (at_ + n) (L - n)).set at_.toNat (headWord h)).length = a.length := by rw [List.length_set, l2, l1]
    obtain ⟨p1, p2, p3, p4⟩ := p
    obtain ⟨tw1, tw2⟩ := tw
    rw [← tw1]
    generalize (emptiedL (emptiedL a at_ L) (at_ + n) (L - n)).set at_.toNat (headWord h) = w at *
    simp only [InR]
    refine ⟨⟨p1, p2, p3, p4⟩, by omega, by omega, pp, hh, p1, by omega, by omega, ⟨by omega, p1, by omega, by omega, tw2, trivial⟩, fun ⟨w', k⟩ ⟨q1, _, _, _, q2, q3⟩ => ⟨fun hlt => ?_, fun hge => ⟨fun _ => trivial, fun hd => ?_, fun _ => trivial⟩⟩⟩
    · have hlt : k < n := of_decide_eq_true hlt
      simp only at q1 q2 q3 ⊢
      subst q3
      rw [set_same (q2 k q1 hlt)]
      exact ⟨by omega, by omega, by omega, by omega, by omega, ⟨by omega, p1, by omega, by omega, q2, rfl⟩, by omega⟩
    · exfalso
      simp only at q3
      subst q3
      simp at hd
  · obtain ⟨k1, k2⟩ := headAtL_find (spotsF_sorted a) at_
    rw [k1]
    have e4 : giveF a at_ = if (findG (spotsF a).1 at_ false).2 = false then ([], 5)
      else if ((spotsF a).1.any fun s => decide (s.1 ≠ at_) && (spotRefs a s).any fun x => decide (at_ + 1 = x)) = true then ([], 8) else (emptiedL a at_ (headLong (findG (spotsF a).1 at_ false).1.2), 0) := by
      unfold giveF
      rw [if_neg (by omega)]
    rw [e4]
    refine ⟨trivial, fun hc => ?_, fun hc => ?_⟩
    · have hc : (findG (spotsF a).1 at_ false).2 = false := by simpa using hc
      rw [if_pos hc]
      simp
    · have hc : (findG (spotsF a).1 at_ false).2 = true := by simpa using hc
      obtain ⟨q1, q2, q3⟩ := findG_in (spotsF a).1 at_ false hc
      obtain ⟨hin, hh⟩ := hs5 _ q1
      have hr := spots_range _ q1
      have hbl := beginsL_length (spotsF a).1
      rw [k2 hc, headLongW_is hh, if_neg (by rw [hc]; simp), ← held_same hw (spotsF_sorted a) (fun s hs => (hs5 s hs).2) (by omega) (by omega) (spotsF a).1 (fun s hs => hs)]
      have hz := headFault_zero hh
      have hL : headLong (findG (spotsF a).1 at_ false).1.2 = 1 + (findG (spotsF a).1 at_ false).1.2.1 + (findG (spotsF a).1 at_ false).1.2.2.1 := rfl
      unfold spotIn at hin
      rw [q2] at hin hr
      generalize headLong (findG (spotsF a).1 at_ false).1.2 = L at *
      have pL : layPre a at_ L := ⟨by omega, by omega, by omega, hal⟩
      generalize hB : beginsL (spotsF a).1 = B at *
      refine ⟨trivial, ⟨by omega, by omega, by omega, rfl⟩, fun i ⟨i0, i1, _, i2⟩ => ⟨fun hlt => ?_, fun hge => ?_⟩⟩
      · have hlt : i < (B.length : Int) := of_decide_eq_true hlt
        rw [drop_cons (0 : Int) i0 hlt] at i2
        have e : ∀ x l, lawHeld a (spotsF a).1 at_ (x :: l) = (decide (x ≠ at_) && inL (namedL a x (headAtL x (spotsF a).1).1) at_ || lawHeld a (spotsF a).1 at_ l) := fun _ _ => rfl
        rw [e] at i2
        simp only [InR]
        refine ⟨i0, hlt, by omega, fun _ => trivial, fun _ => trivial, fun hc => ?_, fun hc => ?_⟩
        · rw [hc, Bool.true_or] at i2
          rw [← i2]
          simp
        · rw [hc, Bool.false_or] at i2
          exact ⟨by omega, ⟨by omega, by omega, by omega, i2⟩, by omega⟩
      · have hge : ¬ i < (B.length : Int) := of_decide_eq_false hge
        rw [drop_end hge] at i2
        have i2 : lawHeld a (spotsF a).1 at_ B = false := i2.symm
        rw [i2]
        simp
        exact pL
theorem e_lawGapTells : pv_lawGapTells = fnVC Try.prog (tbl [(35, sp_gapsGaps), (36, sp_gapJoin), (37, sp_gapTake), (38, sp_gapGive), (39, sp_rArenaFault), (40, sp_rHeadFault), (41, sp_rGapsOf), (42, sp_refClone), (43, sp_rEmptied), (25, sp_rSameRuns), (19, sp_eqWords), (44, sp_rSpots), (17, sp_rHeadLongW), (45, sp_rHeadWord), (46, sp_rHeadAt), (47, sp_rBegins), (49, sp_rNamed), (48, sp_rIn)]) an_lawGapTells Try.f6 sp_lawGapTells := by kernel_rfl
theorem vc_lawGapTells : fnVC Try.prog (tbl [(35, sp_gapsGaps), (36, sp_gapJoin), (37, sp_gapTake), (38, sp_gapGive), (39, sp_rArenaFault), (40, sp_rHeadFault), (41, sp_rGapsOf), (42, sp_refClone), (43, sp_rEmptied), (25, sp_rSameRuns), (19, sp_eqWords), (44, sp_rSpots), (17, sp_rHeadLongW), (45, sp_rHeadWord), (46, sp_rHeadAt), (47, sp_rBegins), (49, sp_rNamed), (48, sp_rIn)]) an_lawGapTells Try.f6 sp_lawGapTells := @Eq.mp _ _ @e_lawGapTells @vcp_lawGapTells
theorem ok_lawGapTells : sp_lawGapTells.ok Try.prog 6 := fn_sound (P := Try.prog) (ss := tbl [(35, sp_gapsGaps), (36, sp_gapJoin), (37, sp_gapTake), (38, sp_gapGive), (39, sp_rArenaFault), (40, sp_rHeadFault), (41, sp_rGapsOf), (42, sp_refClone), (43, sp_rEmptied), (25, sp_rSameRuns), (19, sp_eqWords), (44, sp_rSpots), (17, sp_rHeadLongW), (45, sp_rHeadWord), (46, sp_rHeadAt), (47, sp_rBegins), (49, sp_rNamed), (48, sp_rIn)]) (ann := an_lawGapTells) (f := 6) (fn := Try.f6) (s := sp_lawGapTells) (tbl_cons ok_gapsGaps (tbl_cons ok_gapJoin (tbl_cons ok_gapTake (tbl_cons ok_gapGive (tbl_cons ok_rArenaFault (tbl_cons ok_rHeadFault (tbl_cons ok_rGapsOf (tbl_cons ok_refClone (tbl_cons ok_rEmptied (tbl_cons ok_rSameRuns (tbl_cons ok_eqWords (tbl_cons ok_rSpots (tbl_cons ok_rHeadLongW (tbl_cons ok_rHeadWord (tbl_cons ok_rHeadAt (tbl_cons ok_rBegins (tbl_cons ok_rNamed (tbl_cons ok_rIn tbl_nil)))))))))))))))))) Try.func6 @vc_lawGapTells

end Go.Proofs.Ytgnamdjmjkeodaa
