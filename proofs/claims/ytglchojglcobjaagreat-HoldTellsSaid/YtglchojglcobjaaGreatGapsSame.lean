
import Derived.Test.YtglchojglcobjaaGreatGapsRef
import Derived.Test.YtglchojglcobjaaGreatWalkSame
namespace Go.Proofs.YtglchojglcobjaaGreat
open Go
set_option maxRecDepth 100000
set_option maxHeartbeats 1000000
theorem setRun_get (fr : List Bool) (at_ : Nat) (b : Bool) (i : Nat) : ∀ n, (setRun fr at_ b n).getD i false = if at_ ≤ i ∧ i < at_ + n ∧ i < fr.length then b else fr.getD i false
 | 0 => by
  have : ¬ (at_ ≤ i ∧ i < at_ + 0 ∧ i < fr.length) := by omega
  rw [if_neg this]
  rfl
 | n + 1 => by
  have ih := setRun_get fr at_ b i n
  have hl := setRun_length fr at_ b n
  simp only [setRun]
  by_cases hi : i = at_ + n
  ·by_cases hlen : i < fr.length
   ·rw [if_pos (by omega)]
    simp [← hi, hl, hlen]
   ·rw [if_neg (by omega)]
    simp [hlen, show ¬ i < (setRun fr at_ b n).length by omega]
  ·have e : ((setRun fr at_ b n).set (at_ + n) b).getD i false = (setRun fr at_ b n).getD i false := by
    simp [List.getElem?_set, Ne.symm hi]
   rw [e, ih]
   by_cases hc : at_ ≤ i ∧ i < at_ + n ∧ i < fr.length
   ·rw [if_pos hc, if_pos (by omega)]
   ·rw [if_neg hc, if_neg (by omega)]
def tileAt (k : Int) : List Spot → Bool
 | [] => false
 | x :: r => if k < x.1 + headLong x.2 then x.2.2.2.2 else tileAt k r
theorem flags_get : ∀ (r : List Spot) (s e : Int) (fr : List Bool), Tiles s e r → 0 ≤ s → e ≤ fr.length → s ≤ e ∧ ∀ k : Int, 0 ≤ k → k < e → (flagsL fr r).getD k.toNat false = if k < s then fr.getD k.toNat false else tileAt k r
 | [], s, e, fr, h, _, _ => by
  have : s = e := h
  subst this
  refine ⟨Int.le_refl _, fun k _ hk => ?_⟩
  rw [if_pos hk]
  rfl
 | x :: r, s, e, fr, ⟨h1, h2, h3⟩, h0, hl => by
  have ih := flags_get r (s + headLong x.2) e (setRun fr x.1.toNat x.2.2.2.2 (headLong x.2).toNat) h3 (by omega) (by rw [setRun_length]; exact hl)
  refine ⟨by omega, fun k k0 k1 => ?_⟩
  simp only [flagsL, tileAt]
  rw [ih.2 k k0 k1, setRun_get]
  by_cases hk : k < s
  ·rw [if_pos (by omega), if_neg (by omega), if_pos hk]
  ·rw [if_neg hk]
   by_cases hk2 : k < s + headLong x.2
   ·rw [if_pos hk2, if_pos (by omega), if_pos (by omega)]
   ·rw [if_neg hk2, if_neg (by omega)]
theorem bump_bump {out : List Gap} {a b : Int} (h : 0 < out.length) : bumpL (bumpL out a) b = bumpL out (a + b) := by
 unfold bumpL
 simp [show out.length - 1 < out.length by omega, Int.add_assoc]
theorem bump_snoc (out : List Gap) (k a b : Int) : bumpL (out ++ [(k, a)]) b = out ++ [(k, a + b)] := by
 unfold bumpL
 simp
theorem runs_more (f : Int → Bool) : ∀ (n m : Nat) (k : Int) (out : List Gap), 0 < out.length → 0 < k → (∀ i, k - 1 ≤ i → i < k + n → f i = true) → runsGo f (n + m) k out = runsGo f m (k + n) (if n = 0 then out else bumpL out n)
 | 0, m, k, out, _, _, _ => by simp
 | n + 1, m, k, out, h1, h2, h3 => by
  rw [show n + 1 + m = (n + m) + 1 by omega]
  simp only [runsGo]
  rw [if_pos (h3 k (by omega) (by omega)), if_pos (by rw [h3 (k - 1) (by omega) (by omega)]; simp; omega)]
  rw [runs_more f n m (k + 1) (bumpL out 1) (by rw [bumpL_length]; exact h1) (by omega) (fun i hi hj => h3 i (by omega) (by omega))]
  rw [if_neg (by omega : ¬ n + 1 = 0), show k + 1 + (n : Int) = k + ((n + 1 : Nat) : Int) by omega]
  congr 1
  by_cases hn : n = 0
  ·subst hn; simp
  ·rw [if_neg hn, bump_bump h1]
   congr 1
   omega
theorem runs_free (f : Int → Bool) : ∀ (n m : Nat) (k : Int) (out : List Gap), (∀ i, k ≤ i → i < k + n → f i = false) → runsGo f (n + m) k out = runsGo f m (k + n) out
 | 0, m, k, out, _ => by simp
 | n + 1, m, k, out, h => by
  rw [show n + 1 + m = (n + m) + 1 by omega]
  simp only [runsGo]
  rw [if_neg (by rw [h k (by omega) (by omega)]; simp), runs_free f n m (k + 1) out (fun i hi hj => h i (by omega) (by omega)), show k + 1 + (n : Int) = k + ((n + 1 : Nat) : Int) by omega]
theorem runs_tiles (f : Int → Bool) : ∀ (r : List Spot) (s e : Int) (out : List Gap), Tiles s e r → 0 ≤ s → (∀ k, s ≤ k → k < e → f k = tileAt k r) → ((decide (0 < s) && f (s - 1)) = true → 0 < out.length) →
  s ≤ e ∧ runsGo f (e - s).toNat s out = gapsL (decide (0 < s) && f (s - 1)) out r
 | [], s, e, out, h, _, _, _ => by
  have : s = e := h
  subst this
  rw [Int.sub_self]
  exact ⟨Int.le_refl _, rfl⟩
 | x :: r, s, e, out, ⟨h1, h2, h3⟩, h0, hf, ho => by
  have hx : ∀ k, s ≤ k → k < s + headLong x.2 → k < e → f k = x.2.2.2.2 := fun k k0 k1 k2 => by
   rw [hf k k0 k2]
   simp only [tileAt]
   rw [if_pos (by omega)]
  have hr : s + headLong x.2 ≤ e → ∀ k, s + headLong x.2 ≤ k → k < e → f k = tileAt k r := fun _ k k0 k1 => by
   rw [hf k (by omega) k1]
   simp only [tileAt]
   rw [if_neg (by omega)]
  have hle : s + headLong x.2 ≤ e := by
   have : ∀ (r : List Spot) (s e : Int), Tiles s e r → s ≤ e := by
    intro r
    induction r with
    | nil => intro s e h; exact Int.le_of_eq h
    | cons y r ih => intro s e ⟨_, q2, q3⟩; have := ih _ _ q3; omega
   exact this r _ _ h3
  refine ⟨by omega, ?_⟩
  have hprev : (decide (0 < s + headLong x.2) && f (s + headLong x.2 - 1)) = x.2.2.2.2 := by
   rw [hx _ (by omega) (by omega) (by omega)]
   simp
   omega
  obtain ⟨L, hL⟩ := Int.eq_ofNat_of_zero_le (show 0 ≤ headLong x.2 by omega)
  rw [show (e - s).toNat = L + (e - (s + headLong x.2)).toNat by omega]
  simp only [gapsL]
  cases hfr : x.2.2.2.2
  ·rw [hfr] at hx hprev
   rw [runs_free f L _ s out (fun i hi hj => hx i hi (by omega) (by omega)), ← hL]
   have ih := runs_tiles f r (s + headLong x.2) e out h3 (by omega) (hr hle) (fun h => by rw [hprev] at h; cases h)
   rw [ih.2, hprev]
   simp
  ·rw [hfr] at hx hprev
   have hL1 : L = (L - 1) + 1 := by omega
   have step : runsGo f (L + (e - (s + headLong x.2)).toNat) s out = runsGo f (e - (s + headLong x.2)).toNat (s + headLong x.2) (if (decide (0 < s) && f (s - 1)) = true then bumpL out (headLong x.2) else out ++ [(x.1, headLong x.2)]) := by
    rw [show L + (e - (s + headLong x.2)).toNat = ((L - 1) + (e - (s + headLong x.2)).toNat) + 1 by omega]
    simp only [runsGo]
    rw [if_pos (hx s (by omega) (by omega) (by omega))]
    rw [runs_more f (L - 1) _ (s + 1) _ (by
     split
     ·rename_i hp
      rw [bumpL_length]
      exact ho hp
     ·simp) (by omega) (fun i hi hj => hx i (by omega) (by omega) (by omega))]
    rw [show s + 1 + ((L - 1 : Nat) : Int) = s + headLong x.2 by omega]
    congr 1
    by_cases hp : (decide (0 < s) && f (s - 1)) = true
    ·rw [if_pos hp, if_pos hp]
     by_cases hz : L - 1 = 0
     ·rw [if_pos hz]
      congr 1
      omega
     ·rw [if_neg hz, bump_bump (ho hp)]
      congr 1
      omega
    ·rw [if_neg hp, if_neg hp]
     by_cases hz : L - 1 = 0
     ·rw [if_pos hz, h1]
      congr 3
      omega
     ·rw [if_neg hz, bump_snoc, h1]
      congr 3
      omega
   rw [step]
   have ih := runs_tiles f r (s + headLong x.2) e (if (decide (0 < s) && f (s - 1)) = true then bumpL out (headLong x.2) else out ++ [(x.1, headLong x.2)]) h3 (by omega) (hr hle) (fun _ => by
    split
    ·rename_i hp
     rw [bumpL_length]
     exact ho hp
    ·simp)
   rw [ih.2, hprev]
   simp
theorem gaps_same {a : List Int} (h : (spotsF a).2 = 0) : gapsOfL a = gapsL false [] (spotsF a).1 := by
 have ht := spotsF_tiles h
 have hfl := flags_get (spotsF a).1 0 a.length (List.replicate (a.length + 1) false) ht (Int.le_refl _) (by simp; omega)
 have hr := runs_tiles (fun k => (flagsL (List.replicate (a.length + 1) false) (spotsF a).1).getD k.toNat false) (spotsF a).1 0 a.length [] ht (Int.le_refl _) (fun k k0 k1 => by
  rw [hfl.2 k k0 k1, if_neg (by omega)]) (fun h => by simp at h)
 have h2 := hr.2
 rw [show ((a.length : Int) - 0).toNat = a.length by omega] at h2
 unfold gapsOfL
 rw [h2]
 simp
theorem findG_no {l : List Spot} {at_ : Int} {fr : Bool} (h : (findG l at_ fr).2 = false) : ∀ s ∈ l, ¬ (s.1 = at_ ∧ s.2.2.2.2 = fr) := by
 intro s hs ⟨h1, h2⟩
 have ha := findFrom_any (fun s : Spot => decide (s.1 = at_) && s.2.2.2.2 == fr) l 0 (by omega)
 have : (l.any fun s : Spot => decide (s.1 = at_) && s.2.2.2.2 == fr) = true := List.any_eq_true.2 ⟨s, hs, by simp [h1, h2]⟩
 rw [this] at ha
 have ha := of_decide_eq_true ha
 unfold findG at h
 rw [if_neg (by omega)] at h
 cases h
theorem headAtL_find {l : List Spot} (hs : l.Pairwise (fun s t => s.1 < t.1)) (at_ : Int) : (headAtL at_ l).2 = (findG l at_ false).2 ∧ ((findG l at_ false).2 = true → (headAtL at_ l).1 = (findG l at_ false).1.2) := by
 cases h : (findG l at_ false).2
 ·rcases headAtL_in at_ l with e | ⟨s, h1, h2, h3, _⟩
  ·rw [e]; exact ⟨rfl, fun h => by cases h⟩
  ·exact absurd ⟨h2, h3⟩ (findG_no h s h1)
 ·obtain ⟨q1, q2, q3⟩ := findG_in l at_ false h
  have := headAtL_of hs q1 q3
  rw [q2] at this
  rw [this]
  exact ⟨rfl, fun _ => rfl⟩
end Go.Proofs.YtglchojglcobjaaGreat
