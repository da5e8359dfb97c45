
import Derived.Test.YtglchojglcobjaaGreatPlanSame
namespace Go.Proofs.YtglchojglcobjaaGreat
open Go
set_option maxRecDepth 100000
set_option maxHeartbeats 1000000
theorem headWord_headOf {v : Int} (h : isHead v = true) (h0 : 0 ≤ v) : headWord (headOf v) = v := by
 simp only [isHead, Bool.and_eq_true, decide_eq_true_eq] at h
 have h1 := h.1
 have e : headWord (headOf v) = v % 65536 + 65536 * (v / 65536 % 65536) + 4294967296 * (v / 4294967296 % 65536) + (if v / 281474976710656 = 1 then 281474976710656 else 0) := by
  unfold headWord headOf
  by_cases hc : v / 281474976710656 = 1 <;> simp [hc]
 rw [e]
 split <;> omega
theorem spotsS_head (at_ : Int) (l : List Int) (r : List Spot) (h : spotsS at_ l = some r) : ∀ s ∈ r, at_ ≤ s.1 ∧ s.2 = headOf (l.getD (s.1 - at_).toNat 0) ∧ isHead (l.getD (s.1 - at_).toNat 0) = true := by
 induction at_, l using spotsS.induct generalizing r with
 | case1 at_ =>
  simp only [spotsS, Option.some.injEq] at h
  subst h
  simp
 | case2 at_ v l hv ih =>
  rw [spotsS_cons hv.1 hv.2] at h
  obtain ⟨r', hr, rfl⟩ := Option.map_eq_some_iff.1 h
  have hl := isHead_long hv.1
  intro s hs
  rcases List.mem_cons.1 hs with rfl | hs
  ·simp only [Int.sub_self]
   exact ⟨Int.le_refl _, rfl, hv.1⟩
  ·obtain ⟨h1, h2, h3⟩ := ih r' hr s hs
   have e : ((v :: l).drop (headLong (headOf v)).toNat).getD (s.1 - (at_ + headLong (headOf v))).toNat 0 = (v :: l).getD (s.1 - at_).toNat 0 := by
    rw [List.getD_eq_getElem?_getD, List.getElem?_drop, List.getD_eq_getElem?_getD]
    congr 2
    omega
   rw [e] at h2 h3
   exact ⟨by omega, h2, h3⟩
 | case3 at_ v l hv =>
  rw [spotsS_none hv] at h
  cases h
theorem spotsF_head {a : List Int} : ∀ s ∈ (spotsF a).1, s.2 = headOf (a.getD s.1.toNat 0) ∧ isHead (a.getD s.1.toNat 0) = true := by
 unfold spotsF
 split
 ·intro s hs; cases hs
 ·cases h : spotsS 0 a with
  | none => intro s hs; cases hs
  | some l =>
   intro s hs
   have := spotsS_head 0 a l h s hs
   rw [Int.sub_zero] at this
   exact this.2
def hdA (a : List Int) (at_ : Int) : Head := (headAtL at_ (spotsF a).1).1
def refsA (a : List Int) (at_ : Int) : List Int := spotRefs a (at_, hdA a at_)
def bodyA (a : List Int) (at_ : Int) : List Int := spotBody a (at_, hdA a at_)
theorem objA_in {a : List Int} {at_ : Int} (h : isB (spotsF a).1 at_ = true) : (at_, hdA a at_) ∈ (spotsF a).1 ∧ spotIn a (at_, hdA a at_) ∧ headFault (hdA a at_) = 0 ∧ hdA a at_ = headOf (a.getD at_.toNat 0) ∧ isHead (a.getD at_.toNat 0) = true ∧ (hdA a at_).2.2.2 = false := by
 unfold isB hdA at *
 rcases headAtL_in at_ (spotsF a).1 with e | ⟨s, h1, h2, h3, e⟩
 ·rw [e] at h; cases h
 ·rw [e]
  have e2 : (at_, s.2) = s := by rw [← h2]
  rw [e2]
  obtain ⟨_, k2, k3⟩ := spotsF_in2 a s h1
  obtain ⟨k4, k5⟩ := spotsF_head s h1
  rw [h2] at k4 k5
  exact ⟨h1, k2, k3, k4, k5, h3⟩
theorem objA_length {a : List Int} {at_ : Int} (h : isB (spotsF a).1 at_ = true) : ((refsA a at_).length : Int) = (hdA a at_).1 ∧ ((bodyA a at_).length : Int) = (hdA a at_).2.1 ∧ 0 ≤ at_ ∧ at_ + 1 + (hdA a at_).1 + (hdA a at_).2.1 ≤ a.length ∧ 0 ≤ (hdA a at_).1 ∧ 0 ≤ (hdA a at_).2.1 := by
 obtain ⟨_, k2, _⟩ := objA_in h
 unfold spotIn at k2
 simp only at k2
 refine ⟨?_, ?_, by omega, by omega, by omega, by omega⟩
 ·unfold refsA spotRefs
  rw [List.length_drop, List.length_take]
  simp only
  omega
 ·unfold bodyA spotBody
  rw [List.length_drop, List.length_take]
  simp only
  omega
theorem objA_words {a : List Int} {at_ : Int} (h : isB (spotsF a).1 at_ = true) : (a.drop at_.toNat).take (1 + (hdA a at_).1 + (hdA a at_).2.1).toNat = a.getD at_.toNat 0 :: (refsA a at_ ++ bodyA a at_) := by
 obtain ⟨l1, l2, l3, l4, l5, l6⟩ := objA_length h
 unfold refsA bodyA spotRefs spotBody
 simp only
 rw [drop_cons (0 : Int) l3 (by omega), show (1 + (hdA a at_).1 + (hdA a at_).2.1).toNat = ((hdA a at_).1 + (hdA a at_).2.1).toNat + 1 by omega, List.take_succ_cons]
 congr 1
 generalize (hdA a at_).1 = r at *
 generalize (hdA a at_).2.1 = b at *
 rw [List.drop_take, List.drop_take, show (r + b).toNat = r.toNat + b.toNat by omega, show (at_ + 1 + r).toNat - (at_ + 1).toNat = r.toNat by omega, show (at_ + 1 + r + b).toNat - (at_ + 1 + r).toNat = b.toNat by omega,
  List.take_add, List.drop_drop, show (at_ + 1).toNat + r.toNat = (at_ + 1 + r).toNat by omega]
def refTo (keep to : List Int) (v : Int) : Option Int := if v = 0 then some 0 else if inL keep (v - 1) = true then some (to.getD (place keep (v - 1)).toNat 0 + 1) else none
def mapTo (keep to : List Int) (v : Int) : Int := (refTo keep to v).getD 0
def goodR (keep to l : List Int) : Bool := l.all fun v => (refTo keep to v).isSome
def pieceW (a keep to : List Int) (at_ : Int) : List Int := a.getD at_.toNat 0 :: ((refsA a at_).map (mapTo keep to) ++ bodyA a at_)
def gapW (pinned keep long : List Int) (i : Nat) : List Int := List.replicate (toS pinned keep long i - endS pinned keep long i).toNat 0
def slidUp (a keep to pinned long : List Int) : Nat → List Int
 | 0 => []
 | i + 1 => slidUp a keep to pinned long i ++ (gapW pinned keep long i ++ pieceW a keep to (keep.getD i 0))
def freeSet (w : List Int) (r : Gap) : List Int := w.set r.1.toNat (headWord (0, r.2 - 1, 0, true))
def slidW (a keep to pinned long : List Int) (g : List Gap) : List Int :=
 g.foldl freeSet (slidUp a keep to pinned long keep.length ++ List.replicate ((a.length : Int) - endS pinned keep long keep.length).toNat 0)
def slideF (a keep pinned : List Int) : List Int × List Int × Int :=
 if (longsF a keep pinned).2 ≠ 0 then ([], [], (longsF a keep pinned).2)
 else if (keep.all fun at_ => goodR keep (planS keep (longsF a keep pinned).1 pinned) (refsA a at_)) = true then
  (slidW a keep (planS keep (longsF a keep pinned).1 pinned) pinned (longsF a keep pinned).1 (planGapsL a.length keep (longsF a keep pinned).1 pinned), planS keep (longsF a keep pinned).1 pinned, 0)
 else ([], [], 8)
structure Plan (a keep pinned long : List Int) : Prop where
 chk : (checkF a).2.2 = 0
 al : a.length ≤ 256
 isb : ∀ x ∈ keep, isB (spotsF a).1 x = true
 pre : planPre keep long
 lg : ∀ i : Nat, i < keep.length → long.getD i 0 = 1 + (hdA a (keep.getD i 0)).1 + (hdA a (keep.getD i 0)).2.1
 le : ∀ i : Nat, i < keep.length → endS pinned keep long i ≤ toS pinned keep long i ∧ toS pinned keep long i + long.getD i 0 ≤ (a.length : Int)
 en : endS pinned keep long keep.length ≤ (a.length : Int)
 rs : keep.Pairwise (· < ·)
theorem plan_of {a keep pinned : List Int} (h : (longsF a keep pinned).2 = 0) : Plan a keep pinned (longsF a keep pinned).1 := by
 obtain ⟨k1, k2, _, k4, _, k6⟩ := longs_ok h
 obtain ⟨d1, d2⟩ := keep_disj h
 have hp := longs_pre h
 rw [k6] at hp ⊢
 have hG : ∀ k : Nat, k < keep.length → (keep.map (lgOf (spotsF a).1)).getD k 0 = lgOf (spotsF a).1 (keep.getD k 0) := by
  intro k hk
  rw [List.getD_eq_getElem?_getD, List.getElem?_map, List.getD_eq_getElem?_getD, List.getElem?_eq_getElem hk]
  rfl
 have hle := endS_le (pinned := pinned) hp d1 d2
 have hto : ∀ i : Nat, i < keep.length → endS pinned keep (keep.map (lgOf (spotsF a).1)) i ≤ toS pinned keep (keep.map (lgOf (spotsF a).1)) i ∧ toS pinned keep (keep.map (lgOf (spotsF a).1)) i + (keep.map (lgOf (spotsF a).1)).getD i 0 ≤ (a.length : Int) := fun i hi => by
  have h1 := toS_ge (hle i hi)
  have h2 := d2 i hi
  omega
 refine ⟨k1, (checkF_in k1).1, k4, hp, fun i hi => by rw [hG i hi]; rfl, hto, ?_, risesL_pairwise k2⟩
 cases hn : keep.length with
 | zero => simp [endS]
 | succ n =>
  have := hto n (by omega)
  show toS pinned keep (keep.map (lgOf (spotsF a).1)) n + (keep.map (lgOf (spotsF a).1)).getD n 0 ≤ _
  exact this.2
theorem pieceW_length {a keep to : List Int} {at_ : Int} (h : isB (spotsF a).1 at_ = true) : ((pieceW a keep to at_).length : Int) = 1 + (hdA a at_).1 + (hdA a at_).2.1 := by
 obtain ⟨l1, l2, _⟩ := objA_length h
 unfold pieceW
 simp only [List.length_cons, List.length_append, List.length_map]
 omega
theorem keep_mem {keep : List Int} {i : Nat} (h : i < keep.length) : keep.getD i 0 ∈ keep := by
 have := getD_mem (0 : Int) (xs := keep) (i := i) (by omega) (by omega)
 simpa only [Int.toNat_natCast] using this
theorem slidUp_length {a keep pinned long : List Int} (to : List Int) (hP : Plan a keep pinned long) : ∀ i : Nat, i ≤ keep.length → ((slidUp a keep to pinned long i).length : Int) = endS pinned keep long i
 | 0, _ => rfl
 | i + 1, hi => by
  have ih := slidUp_length to hP i (by omega)
  have h1 := pieceW_length (keep := keep) (to := to) (hP.isb _ (keep_mem (i := i) (by omega)))
  have h2 := hP.le i (by omega)
  have h3 := hP.lg i (by omega)
  have hE : endS pinned keep long (i + 1) = toS pinned keep long i + long.getD i 0 := rfl
  simp only [slidUp, List.length_append, gapW, List.length_replicate]
  omega
def nowUp (keep to : List Int) : Nat → List (Int × Int)
 | 0 => [(0, 0)]
 | i + 1 => mput (nowUp keep to i) (keep.getD i 0 + 1) (to.getD i 0 + 1)
theorem findFrom_snoc {α : Type} (f : α → Bool) (x : α) : ∀ (l : List α) (k : Int), findFrom f k (l ++ [x]) = if l.any f = true then findFrom f k l else if f x = true then k + l.length else -1
 | [], k => by simp [findFrom]
 | y :: l, k => by
  have ih := findFrom_snoc f x l (k + 1)
  simp only [List.cons_append, findFrom, List.any_cons, ih]
  by_cases hy : f y = true
  ·simp [hy]
  ·have hy : f y = false := by simpa using hy
   simp only [hy, Bool.false_eq_true, if_false, Bool.false_or, List.length_cons]
   split
   ·rfl
   ·split
    ·omega
    ·rfl
theorem nowUp_get {keep to : List Int} (hk : keep.Pairwise (· < ·)) (h0 : ∀ x ∈ keep, 0 ≤ x) (v : Int) : ∀ i : Nat, i ≤ keep.length → mget (nowUp keep to i) v = if v = 0 then some 0 else if inL (keep.take i) (v - 1) = true then some (to.getD (place (keep.take i) (v - 1)).toNat 0 + 1) else none
 | 0, _ => by
  simp only [nowUp, mget, List.take_zero, inL, List.any_nil, Bool.false_eq_true, if_false]
  by_cases hv : v = 0
  ·simp [hv]
  ·simp [hv, Ne.symm hv]
 | i + 1, hi => by
  have ih := nowUp_get (to := to) hk h0 v i (by omega)
  have hx := h0 _ (keep_mem (i := i) (by omega))
  have ht : keep.take (i + 1) = keep.take i ++ [keep.getD i 0] := by
   rw [List.take_succ_eq_append_getElem (by omega)]
   congr 2
   rw [List.getD_eq_getElem?_getD, List.getElem?_eq_getElem (by omega)]
   rfl
  have hnot : inL (keep.take i) (keep.getD i 0) = false := by
   unfold inL
   rw [List.any_eq_false]
   intro y hy
   obtain ⟨j, hj, rfl⟩ := List.mem_iff_getElem.1 hy
   rw [List.length_take] at hj
   have := List.pairwise_iff_getElem.1 hk j i (by omega) (by omega) (by omega)
   rw [List.getElem_take]
   simp only [decide_eq_true_eq]
   rw [List.getD_eq_getElem?_getD, List.getElem?_eq_getElem (by omega)]
   simp only [Option.getD_some]
   omega
  simp only [nowUp]
  rw [mget_mput, ih, ht]
  unfold place inL
  rw [findFrom_snoc, List.any_append]
  simp only [List.any_cons, List.any_nil, Bool.or_false, List.length_take]
  by_cases hv : v = keep.getD i 0 + 1
  ·rw [if_pos hv, if_neg (by omega)]
   have e : v - 1 = keep.getD i 0 := by omega
   rw [e]
   unfold inL at hnot
   rw [hnot]
   simp only [decide_true, Bool.or_true, if_true, Bool.false_eq_true, if_false]
   rw [show (0 + ((min i keep.length : Nat) : Int)).toNat = i by omega]
  ·rw [if_neg hv]
   have e : decide (keep.getD i 0 = v - 1) = false := decide_eq_false (by omega)
   rw [e, Bool.or_false]
   split
   ·rfl
   ·split
    ·rfl
    ·rfl
theorem nowUp_is {keep to : List Int} (hk : keep.Pairwise (· < ·)) (h0 : ∀ x ∈ keep, 0 ≤ x) (v : Int) : mget (nowUp keep to keep.length) v = refTo keep to v := by
 rw [nowUp_get hk h0 v keep.length (Nat.le_refl _), List.take_length]
 rfl
theorem sorted_uniq : ∀ {l : List Spot} {s t : Spot}, l.Pairwise (fun s t => s.1 < t.1) → s ∈ l → t ∈ l → s.1 = t.1 → s = t
 | x :: l, s, t, h, hs, ht, e => by
  obtain ⟨h1, h2⟩ := List.pairwise_cons.1 h
  rcases List.mem_cons.1 hs with hs | hs <;> rcases List.mem_cons.1 ht with ht | ht
  ·rw [hs, ht]
  ·have := h1 t ht; subst hs; omega
  ·have := h1 s hs; subst ht; omega
  ·exact sorted_uniq h2 hs ht e
theorem at_lens {a : List Int} {at_ : Int} (hc : (checkF a).2.2 = 0) (h : isB (spotsF a).1 at_ = true) : (atF a at_).1.2.1.length = (refsA a at_).length ∧ (atF a at_).1.2.2.1.length = (bodyA a at_).length := by
 obtain ⟨k1, _⟩ := objA_in h
 obtain ⟨_, _, e3, _⟩ := checkF_in hc
 have hany : ((spotsF a).1.any fun s : Spot => decide (s.1 = at_)) = true := List.any_eq_true.2 ⟨_, k1, by simp⟩
 have hpos := findFrom_any (fun s : Spot => decide (s.1 = at_)) (spotsF a).1 0 (by omega)
 rw [hany] at hpos
 have hpos := of_decide_eq_true hpos
 have hlt := findFrom_lt (fun s : Spot => decide (s.1 = at_)) (0, 0, 0, 0, false) (spotsF a).1 0 (by omega)
 have his := findFrom_is (fun s : Spot => decide (s.1 = at_)) (0, 0, 0, 0, false) (spotsF a).1 0 hpos (by omega)
 rw [Int.sub_zero] at his
 have hm := getD_mem ((0, 0, 0, 0, false) : Spot) (xs := (spotsF a).1) hpos (by omega)
 have e := sorted_uniq (spotsF_sorted a) hm k1 (of_decide_eq_true his)
 unfold atF
 rw [if_neg (by omega), e3, if_neg (by omega), e]
 unfold objectF refsA bodyA
 exact ⟨by rw [List.length_map], rfl⟩
theorem set_mid {A B : List Int} {x : Int} (y : Int) {n : Nat} (h : n = A.length) : (A ++ x :: B).set n y = A ++ y :: B := by
 rw [h, List.set_append_right _ _ (Nat.le_refl _)]
 simp
theorem get_mid {A B : List Int} {x : Int} {n : Nat} (h : n = A.length) : (A ++ x :: B).getD n 0 = x := by
 rw [h, List.getD_eq_getElem?_getD, List.getElem?_append_right (Nat.le_refl _)]
 simp
theorem gapsUp_in {a keep pinned long : List Int} (hP : Plan a keep pinned long) : ∀ i : Nat, i ≤ keep.length → ∀ r ∈ gapsUp pinned keep long i, 0 ≤ r.1 ∧ 1 ≤ r.2 ∧ r.1 + r.2 ≤ (a.length : Int)
 | 0, _, r, hr => by cases hr
 | i + 1, hi, r, hr => by
  simp only [gapsUp] at hr
  rcases List.mem_append.1 hr with hr | hr
  ·exact gapsUp_in hP i (by omega) r hr
  ·have h1 := hP.le i (by omega)
   have h2 := hP.lg i (by omega)
   have h3 := endS_range pinned hP.pre i (by omega)
   obtain ⟨_, _, _, l4, l5, l6⟩ := objA_length (hP.isb _ (keep_mem (i := i) (by omega)))
   split at hr
   ·simp only [List.mem_singleton] at hr
    subst hr
    simp only
    omega
   ·cases hr
theorem planGaps_in {a keep pinned long : List Int} (hP : Plan a keep pinned long) : ∀ r ∈ planGapsL a.length keep long pinned, 0 ≤ r.1 ∧ 1 ≤ r.2 ∧ r.1 + r.2 ≤ (a.length : Int) := by
 intro r hr
 unfold planGapsL at hr
 rcases List.mem_append.1 hr with hr | hr
 ·exact gapsUp_in hP _ (Nat.le_refl _) r hr
 ·have h3 := endS_range pinned hP.pre keep.length (Nat.le_refl _)
  split at hr
  ·simp only [List.mem_singleton] at hr
   subst hr
   simp only
   omega
  ·cases hr
theorem planGaps_length (n : Int) (keep long pinned : List Int) : (planGapsL n keep long pinned).length ≤ keep.length + 1 := by
 have := gapsUp_length pinned keep long keep.length
 unfold planGapsL
 rw [List.length_append]
 split <;> simp <;> omega
def an_slide : Nat → Option LoopGen
 | 6 => some { rd := [.dat 39 (.arr ty_I), .own 9 3 ty_I], A := fun ((keep, to) : List Int × List Int) => { cs := [.map 37 .u64 ty_W, .dat 41 ty_I], inv := fun ((m, i) : List (Int × Int) × Int) => 0 ≤ i ∧ i ≤ keep.length ∧ m = nowUp keep to i.toNat, mu := fun ((_, i) : List (Int × Int) × Int) => (keep.length - i).toNat } }
 | 12 => some { rd := [.dat 60 (.arr ty_I), .own 9 3 ty_I, .dat 0 (.arr ty_W), .dat 2 (.arr ty_I)], wr := [14], A := fun ((keep, to, a, pinned) : List Int × List Int × List Int × List Int) => { cs := [.own 14 50 ty_W, .dat 62 ty_I], inv := fun ((w, i) : List Int × Int) => 0 ≤ i ∧ i ≤ keep.length ∧ ((keep.drop i.toNat).all fun at_ => goodR keep to (refsA a at_)) = (keep.all fun at_ => goodR keep to (refsA a at_)) ∧ w = slidUp a keep to pinned (longsF a keep pinned).1 i.toNat ++ List.replicate ((a.length : Int) - endS pinned keep (longsF a keep pinned).1 i.toNat).toNat 0, mu := fun ((_, i) : List Int × Int) => (keep.length - i).toNat } }
 | 18 => some { rd := [.dat 60 (.arr ty_I), .own 9 3 ty_I, .dat 0 (.arr ty_W), .dat 2 (.arr ty_I), .dat 15 ty_I, .dat 99 ty_I], wr := [14, 19], A := fun ((keep, to, a, pinned, i, n) : List Int × List Int × List Int × List Int × Int × Int) => { cs := [.own 14 50 ty_W, .part 19 14 ty_W, .dat 100 ty_I], inv := fun ((w, pt, k) : List Int × (Nat × Nat) × Int) => 0 ≤ k ∧ k ≤ n ∧ pt.1 = (toS pinned keep (longsF a keep pinned).1 i.toNat).toNat ∧ (pt.2 : Int) = (longsF a keep pinned).1.getD i.toNat 0 ∧ goodR keep to ((refsA a (keep.getD i.toNat 0)).drop k.toNat) = goodR keep to (refsA a (keep.getD i.toNat 0)) ∧
   w = (slidUp a keep to pinned (longsF a keep pinned).1 i.toNat ++ (gapW pinned keep (longsF a keep pinned).1 i.toNat ++ a.getD (keep.getD i.toNat 0).toNat 0 :: ((refsA a (keep.getD i.toNat 0)).take k.toNat).map (mapTo keep to))) ++ ((refsA a (keep.getD i.toNat 0)).drop k.toNat ++ (bodyA a (keep.getD i.toNat 0) ++ List.replicate ((a.length : Int) - endS pinned keep (longsF a keep pinned).1 (i.toNat + 1)).toNat 0)), mu := fun ((_, _, k) : List Int × (Nat × Nat) × Int) => (n - k).toNat } }
 | 28 => some { rd := [.own 129 42 ty_Gap, .own 14 50 ty_W], wr := [14], A := fun ((g, w0) : List Gap × List Int) => { cs := [.own 14 50 ty_W, .dat 131 ty_I], inv := fun ((w, i) : List Int × Int) => 0 ≤ i ∧ i ≤ g.length ∧ w.length = w0.length ∧ w = (g.take i.toNat).foldl freeSet w0, mu := fun ((_, i) : List Int × Int) => (g.length - i).toNat } }
 | _ => none
def sp_slide : Spec := { Ts := [.arr ty_W, .arr ty_I, .arr ty_I], Rs := [.own 50 ty_W, .own 3 ty_I, .dat ty_I], pre := fun _ => True, F := fun ((a, keep, pinned) : List Int × List Int × List Int) => slideF a keep pinned }
def pv_slide : Prop :=
  ∀ (x : List Int × List Int × List Int), ((x.fst.length * (8 : Nat) ≤ big ∧ ∀ (x_1 : Int), x_1 ∈ x.fst → InR IntKind.u64 x_1) ∧ (x.snd.fst.length * (8 : Nat) ≤ big ∧ ∀ (x_1 : Int), x_1 ∈ x.snd.fst → InR IntKind.i64 x_1) ∧ x.snd.snd.length * (8 : Nat) ≤ big ∧ ∀ (x_1 : Int), x_1 ∈ x.snd.snd → InR IntKind.i64 x_1) → True → True ∧ (decide ((longsF x.fst x.snd.fst x.snd.snd).snd ≠ (0 : Int)) = true → ([] : List Int) = (slideF x.fst x.snd.fst x.snd.snd).fst ∧ ([] : List Int) = (slideF x.fst x.snd.fst x.snd.snd).snd.fst ∧ (longsF x.fst x.snd.fst x.snd.snd).snd = (slideF x.fst x.snd.fst x.snd.snd).snd.snd ∧ True) ∧ (decide ((longsF x.fst x.snd.fst x.snd.snd).snd ≠ (0 : Int)) = false → ((0 : Int) ≤ (0 : Int) ∧ (0 : Int) ≤ (↑x.snd.fst.length : Int) ∧ mput ([] : List (Int × Int)) (0 : Int) (0 : Int) = nowUp x.snd.fst (if (longsF x.fst x.snd.fst x.snd.snd).snd ≠ (0 : Int) then ([] : List Int) else planS x.snd.fst (longsF x.fst x.snd.fst x.snd.snd).fst x.snd.snd) (Int.toNat (0 : Int))) ∧ ∀ (x_1 : List (Int × Int) × Int), (0 : Int) ≤ x_1.snd ∧ x_1.snd ≤ (↑x.snd.fst.length : Int) ∧ x_1.fst = nowUp x.snd.fst (if (longsF x.fst x.snd.fst x.snd.snd).snd ≠ (0 : Int) then ([] : List Int) else planS x.snd.fst (longsF x.fst x.snd.fst x.snd.snd).fst x.snd.snd) x_1.snd.toNat → (decide (x_1.snd < (↑x.snd.fst.length : Int)) = true → (0 : Int) ≤ x_1.snd ∧ x_1.snd < (↑x.snd.fst.length : Int) ∧ InR IntKind.u64 (IntKind.u64.wrap (x.snd.fst.getD x_1.snd.toNat (0 : Int)) + (1 : Int)) ∧ (0 : Int) ≤ x_1.snd ∧ x_1.snd < (↑(if (longsF x.fst x.snd.fst x.snd.snd).snd ≠ (0 : Int) then ([] : List Int) else planS x.snd.fst (longsF x.fst x.snd.fst x.snd.snd).fst x.snd.snd).length : Int) ∧ x_1.snd.toNat < (if (longsF x.fst x.snd.fst x.snd.snd).snd ≠ (0 : Int) then ([] : List Int) else planS x.snd.fst (longsF x.fst x.snd.fst x.snd.snd).fst x.snd.snd).length ∧ InR IntKind.u64 (IntKind.u64.wrap ((if (longsF x.fst x.snd.fst x.snd.snd).snd ≠ (0 : Int) then ([] : List Int) else planS x.snd.fst (longsF x.fst x.snd.fst x.snd.snd).fst x.snd.snd).getD x_1.snd.toNat (0 : Int)) + (1 : Int)) ∧ InR IntKind.i64 (x_1.snd + (1 : Int)) ∧ ((0 : Int) ≤ x_1.snd + (1 : Int) ∧ x_1.snd + (1 : Int) ≤ (↑x.snd.fst.length : Int) ∧ mput x_1.fst (IntKind.u64.wrap (x.snd.fst.getD x_1.snd.toNat (0 : Int)) + (1 : Int)) (IntKind.u64.wrap ((if (longsF x.fst x.snd.fst x.snd.snd).snd ≠ (0 : Int) then ([] : List Int) else planS x.snd.fst (longsF x.fst x.snd.fst x.snd.snd).fst x.snd.snd).getD x_1.snd.toNat (0 : Int)) + (1 : Int)) = nowUp x.snd.fst (if (longsF x.fst x.snd.fst x.snd.snd).snd ≠ (0 : Int) then ([] : List Int) else planS x.snd.fst (longsF x.fst x.snd.fst x.snd.snd).fst x.snd.snd) (x_1.snd + (1 : Int)).toNat) ∧ ((↑x.snd.fst.length : Int) - (x_1.snd + (1 : Int))).toNat < ((↑x.snd.fst.length : Int) - x_1.snd).toNat) ∧ (decide (x_1.snd < (↑x.snd.fst.length : Int)) = false → (0 : Int) ≤ (↑x.fst.length : Int) ∧ (↑x.fst.length : Int).toNat * (8 : Nat) ≤ big ∧ ((0 : Int) ≤ (0 : Int) ∧ (0 : Int) ≤ (↑x.snd.fst.length : Int) ∧ (((List.drop (Int.toNat (0 : Int)) x.snd.fst).all fun (at_ : Int) => goodR x.snd.fst (if (longsF x.fst x.snd.fst x.snd.snd).snd ≠ (0 : Int) then ([] : List Int) else planS x.snd.fst (longsF x.fst x.snd.fst x.snd.snd).fst x.snd.snd) (refsA x.fst at_)) = x.snd.fst.all fun (at_ : Int) => goodR x.snd.fst (if (longsF x.fst x.snd.fst x.snd.snd).snd ≠ (0 : Int) then ([] : List Int) else planS x.snd.fst (longsF x.fst x.snd.fst x.snd.snd).fst x.snd.snd) (refsA x.fst at_)) ∧ List.replicate (↑x.fst.length : Int).toNat (0 : Int) = slidUp x.fst x.snd.fst (if (longsF x.fst x.snd.fst x.snd.snd).snd ≠ (0 : Int) then ([] : List Int) else planS x.snd.fst (longsF x.fst x.snd.fst x.snd.snd).fst x.snd.snd) x.snd.snd (longsF x.fst x.snd.fst x.snd.snd).fst (Int.toNat (0 : Int)) ++ List.replicate ((↑x.fst.length : Int) - endS x.snd.snd x.snd.fst (longsF x.fst x.snd.fst x.snd.snd).fst (Int.toNat (0 : Int))).toNat (0 : Int)) ∧ ∀ (x_2 : List Int × Int), (0 : Int) ≤ x_2.snd ∧ x_2.snd ≤ (↑x.snd.fst.length : Int) ∧ (((List.drop x_2.snd.toNat x.snd.fst).all fun (at_ : Int) => goodR x.snd.fst (if (longsF x.fst x.snd.fst x.snd.snd).snd ≠ (0 : Int) then ([] : List Int) else planS x.snd.fst (longsF x.fst x.snd.fst x.snd.snd).fst x.snd.snd) (refsA x.fst at_)) = x.snd.fst.all fun (at_ : Int) => goodR x.snd.fst (if (longsF x.fst x.snd.fst x.snd.snd).snd ≠ (0 : Int) then ([] : List Int) else planS x.snd.fst (longsF x.fst x.snd.fst x.snd.snd).fst x.snd.snd) (refsA x.fst at_)) ∧ x_2.fst = slidUp x.fst x.snd.fst (if (longsF x.fst x.snd.fst x.snd.snd).snd ≠ (0 : Int) then ([] : List Int) else planS x.snd.fst (longsF x.fst x.snd.fst x.snd.snd).fst x.snd.snd) x.snd.snd (longsF x.fst x.snd.fst x.snd.snd).fst x_2.snd.toNat ++ List.replicate ((↑x.fst.length : Int) - endS x.snd.snd x.snd.fst (longsF x.fst x.snd.fst x.snd.snd).fst x_2.snd.toNat).toNat (0 : Int) → (decide (x_2.snd < (↑x.snd.fst.length : Int)) = true → (0 : Int) ≤ x_2.snd ∧ x_2.snd < (↑x.snd.fst.length : Int) ∧ True ∧ (0 : Int) ≤ x_2.snd ∧ x_2.snd < (↑(if (longsF x.fst x.snd.fst x.snd.snd).snd ≠ (0 : Int) then ([] : List Int) else planS x.snd.fst (longsF x.fst x.snd.fst x.snd.snd).fst x.snd.snd).length : Int) ∧ x_2.snd.toNat < (if (longsF x.fst x.snd.fst x.snd.snd).snd ≠ (0 : Int) then ([] : List Int) else planS x.snd.fst (longsF x.fst x.snd.fst x.snd.snd).fst x.snd.snd).length ∧ (0 : Int) ≤ x_2.snd ∧ x_2.snd < (↑(if (longsF x.fst x.snd.fst x.snd.snd).snd ≠ (0 : Int) then ([] : List Int) else planS x.snd.fst (longsF x.fst x.snd.fst x.snd.snd).fst x.snd.snd).length : Int) ∧ x_2.snd.toNat < (if (longsF x.fst x.snd.fst x.snd.snd).snd ≠ (0 : Int) then ([] : List Int) else planS x.snd.fst (longsF x.fst x.snd.fst x.snd.snd).fst x.snd.snd).length ∧ InR IntKind.i64 ((if (longsF x.fst x.snd.fst x.snd.snd).snd ≠ (0 : Int) then ([] : List Int) else planS x.snd.fst (longsF x.fst x.snd.fst x.snd.snd).fst x.snd.snd).getD x_2.snd.toNat (0 : Int) + (1 : Int)) ∧ InR IntKind.i64 ((if (longsF x.fst x.snd.fst x.snd.snd).snd ≠ (0 : Int) then ([] : List Int) else planS x.snd.fst (longsF x.fst x.snd.fst x.snd.snd).fst x.snd.snd).getD x_2.snd.toNat (0 : Int) + (1 : Int) + (↑(atF x.fst (x.snd.fst.getD x_2.snd.toNat (0 : Int))).fst.snd.fst.length : Int)) ∧ InR IntKind.i64 ((if (longsF x.fst x.snd.fst x.snd.snd).snd ≠ (0 : Int) then ([] : List Int) else planS x.snd.fst (longsF x.fst x.snd.fst x.snd.snd).fst x.snd.snd).getD x_2.snd.toNat (0 : Int) + (1 : Int) + (↑(atF x.fst (x.snd.fst.getD x_2.snd.toNat (0 : Int))).fst.snd.fst.length : Int) + (↑(atF x.fst (x.snd.fst.getD x_2.snd.toNat (0 : Int))).fst.snd.snd.fst.length : Int)) ∧ (0 : Int) ≤ (if (longsF x.fst x.snd.fst x.snd.snd).snd ≠ (0 : Int) then ([] : List Int) else planS x.snd.fst (longsF x.fst x.snd.fst x.snd.snd).fst x.snd.snd).getD x_2.snd.toNat (0 : Int) ∧ (if (longsF x.fst x.snd.fst x.snd.snd).snd ≠ (0 : Int) then ([] : List Int) else planS x.snd.fst (longsF x.fst x.snd.fst x.snd.snd).fst x.snd.snd).getD x_2.snd.toNat (0 : Int) ≤ (if (longsF x.fst x.snd.fst x.snd.snd).snd ≠ (0 : Int) then ([] : List Int) else planS x.snd.fst (longsF x.fst x.snd.fst x.snd.snd).fst x.snd.snd).getD x_2.snd.toNat (0 : Int) + (1 : Int) + (↑(atF x.fst (x.snd.fst.getD x_2.snd.toNat (0 : Int))).fst.snd.fst.length : Int) + (↑(atF x.fst (x.snd.fst.getD x_2.snd.toNat (0 : Int))).fst.snd.snd.fst.length : Int) ∧ (if (longsF x.fst x.snd.fst x.snd.snd).snd ≠ (0 : Int) then ([] : List Int) else planS x.snd.fst (longsF x.fst x.snd.fst x.snd.snd).fst x.snd.snd).getD x_2.snd.toNat (0 : Int) + (1 : Int) + (↑(atF x.fst (x.snd.fst.getD x_2.snd.toNat (0 : Int))).fst.snd.fst.length : Int) + (↑(atF x.fst (x.snd.fst.getD x_2.snd.toNat (0 : Int))).fst.snd.snd.fst.length : Int) ≤ (↑x_2.fst.length : Int) ∧ (0 : Int) ≤ x.snd.fst.getD x_2.snd.toNat (0 : Int) ∧ x.snd.fst.getD x_2.snd.toNat (0 : Int) ≤ (↑x.fst.length : Int) ∧ ((if (longsF x.fst x.snd.fst x.snd.snd).snd ≠ (0 : Int) then ([] : List Int) else planS x.snd.fst (longsF x.fst x.snd.fst x.snd.snd).fst x.snd.snd).getD x_2.snd.toNat (0 : Int)).toNat + (((if (longsF x.fst x.snd.fst x.snd.snd).snd ≠ (0 : Int) then ([] : List Int) else planS x.snd.fst (longsF x.fst x.snd.fst x.snd.snd).fst x.snd.snd).getD x_2.snd.toNat (0 : Int) + (1 : Int) + (↑(atF x.fst (x.snd.fst.getD x_2.snd.toNat (0 : Int))).fst.snd.fst.length : Int) + (↑(atF x.fst (x.snd.fst.getD x_2.snd.toNat (0 : Int))).fst.snd.snd.fst.length : Int)).toNat - ((if (longsF x.fst x.snd.fst x.snd.snd).snd ≠ (0 : Int) then ([] : List Int) else planS x.snd.fst (longsF x.fst x.snd.fst x.snd.snd).fst x.snd.snd).getD x_2.snd.toNat (0 : Int)).toNat) ≤ x_2.fst.length ∧ ((0 : Int) ≤ (0 : Int) ∧ (0 : Int) ≤ (↑(atF x.fst (x.snd.fst.getD x_2.snd.toNat (0 : Int))).fst.snd.fst.length : Int) ∧ ((if (longsF x.fst x.snd.fst x.snd.snd).snd ≠ (0 : Int) then ([] : List Int) else planS x.snd.fst (longsF x.fst x.snd.fst x.snd.snd).fst x.snd.snd).getD x_2.snd.toNat (0 : Int)).toNat = (toS x.snd.snd x.snd.fst (longsF x.fst x.snd.fst x.snd.snd).fst x_2.snd.toNat).toNat ∧ (↑(((if (longsF x.fst x.snd.fst x.snd.snd).snd ≠ (0 : Int) then ([] : List Int) else planS x.snd.fst (longsF x.fst x.snd.fst x.snd.snd).fst x.snd.snd).getD x_2.snd.toNat (0 : Int) + (1 : Int) + (↑(atF x.fst (x.snd.fst.getD x_2.snd.toNat (0 : Int))).fst.snd.fst.length : Int) + (↑(atF x.fst (x.snd.fst.getD x_2.snd.toNat (0 : Int))).fst.snd.snd.fst.length : Int)).toNat - ((if (longsF x.fst x.snd.fst x.snd.snd).snd ≠ (0 : Int) then ([] : List Int) else planS x.snd.fst (longsF x.fst x.snd.fst x.snd.snd).fst x.snd.snd).getD x_2.snd.toNat (0 : Int)).toNat) : Int) = (longsF x.fst x.snd.fst x.snd.snd).fst.getD x_2.snd.toNat (0 : Int) ∧ goodR x.snd.fst (if (longsF x.fst x.snd.fst x.snd.snd).snd ≠ (0 : Int) then ([] : List Int) else planS x.snd.fst (longsF x.fst x.snd.fst x.snd.snd).fst x.snd.snd) (List.drop (Int.toNat (0 : Int)) (refsA x.fst (x.snd.fst.getD x_2.snd.toNat (0 : Int)))) = goodR x.snd.fst (if (longsF x.fst x.snd.fst x.snd.snd).snd ≠ (0 : Int) then ([] : List Int) else planS x.snd.fst (longsF x.fst x.snd.fst x.snd.snd).fst x.snd.snd) (refsA x.fst (x.snd.fst.getD x_2.snd.toNat (0 : Int))) ∧ List.take ((if (longsF x.fst x.snd.fst x.snd.snd).snd ≠ (0 : Int) then ([] : List Int) else planS x.snd.fst (longsF x.fst x.snd.fst x.snd.snd).fst x.snd.snd).getD x_2.snd.toNat (0 : Int)).toNat x_2.fst ++ (List.take (min (List.drop (x.snd.fst.getD x_2.snd.toNat (0 : Int)).toNat x.fst).length (((if (longsF x.fst x.snd.fst x.snd.snd).snd ≠ (0 : Int) then ([] : List Int) else planS x.snd.fst (longsF x.fst x.snd.fst x.snd.snd).fst x.snd.snd).getD x_2.snd.toNat (0 : Int) + (1 : Int) + (↑(atF x.fst (x.snd.fst.getD x_2.snd.toNat (0 : Int))).fst.snd.fst.length : Int) + (↑(atF x.fst (x.snd.fst.getD x_2.snd.toNat (0 : Int))).fst.snd.snd.fst.length : Int)).toNat - ((if (longsF x.fst x.snd.fst x.snd.snd).snd ≠ (0 : Int) then ([] : List Int) else planS x.snd.fst (longsF x.fst x.snd.fst x.snd.snd).fst x.snd.snd).getD x_2.snd.toNat (0 : Int)).toNat)) (List.drop (x.snd.fst.getD x_2.snd.toNat (0 : Int)).toNat x.fst) ++ List.drop (((if (longsF x.fst x.snd.fst x.snd.snd).snd ≠ (0 : Int) then ([] : List Int) else planS x.snd.fst (longsF x.fst x.snd.fst x.snd.snd).fst x.snd.snd).getD x_2.snd.toNat (0 : Int)).toNat + min (List.drop (x.snd.fst.getD x_2.snd.toNat (0 : Int)).toNat x.fst).length (((if (longsF x.fst x.snd.fst x.snd.snd).snd ≠ (0 : Int) then ([] : List Int) else planS x.snd.fst (longsF x.fst x.snd.fst x.snd.snd).fst x.snd.snd).getD x_2.snd.toNat (0 : Int) + (1 : Int) + (↑(atF x.fst (x.snd.fst.getD x_2.snd.toNat (0 : Int))).fst.snd.fst.length : Int) + (↑(atF x.fst (x.snd.fst.getD x_2.snd.toNat (0 : Int))).fst.snd.snd.fst.length : Int)).toNat - ((if (longsF x.fst x.snd.fst x.snd.snd).snd ≠ (0 : Int) then ([] : List Int) else planS x.snd.fst (longsF x.fst x.snd.fst x.snd.snd).fst x.snd.snd).getD x_2.snd.toNat (0 : Int)).toNat)) x_2.fst) = slidUp x.fst x.snd.fst (if (longsF x.fst x.snd.fst x.snd.snd).snd ≠ (0 : Int) then ([] : List Int) else planS x.snd.fst (longsF x.fst x.snd.fst x.snd.snd).fst x.snd.snd) x.snd.snd (longsF x.fst x.snd.fst x.snd.snd).fst x_2.snd.toNat ++ (gapW x.snd.snd x.snd.fst (longsF x.fst x.snd.fst x.snd.snd).fst x_2.snd.toNat ++ x.fst.getD (x.snd.fst.getD x_2.snd.toNat (0 : Int)).toNat (0 : Int) :: List.map (mapTo x.snd.fst (if (longsF x.fst x.snd.fst x.snd.snd).snd ≠ (0 : Int) then ([] : List Int) else planS x.snd.fst (longsF x.fst x.snd.fst x.snd.snd).fst x.snd.snd)) (List.take (Int.toNat (0 : Int)) (refsA x.fst (x.snd.fst.getD x_2.snd.toNat (0 : Int))))) ++ (List.drop (Int.toNat (0 : Int)) (refsA x.fst (x.snd.fst.getD x_2.snd.toNat (0 : Int))) ++ (bodyA x.fst (x.snd.fst.getD x_2.snd.toNat (0 : Int)) ++ List.replicate ((↑x.fst.length : Int) - endS x.snd.snd x.snd.fst (longsF x.fst x.snd.fst x.snd.snd).fst (x_2.snd.toNat + (1 : Nat))).toNat (0 : Int)))) ∧ ∀ (x_3 : List Int × (Nat × Nat) × Int), (0 : Int) ≤ x_3.snd.snd ∧ x_3.snd.snd ≤ (↑(atF x.fst (x.snd.fst.getD x_2.snd.toNat (0 : Int))).fst.snd.fst.length : Int) ∧ x_3.snd.fst.fst = (toS x.snd.snd x.snd.fst (longsF x.fst x.snd.fst x.snd.snd).fst x_2.snd.toNat).toNat ∧ (↑x_3.snd.fst.snd : Int) = (longsF x.fst x.snd.fst x.snd.snd).fst.getD x_2.snd.toNat (0 : Int) ∧ goodR x.snd.fst (if (longsF x.fst x.snd.fst x.snd.snd).snd ≠ (0 : Int) then ([] : List Int) else planS x.snd.fst (longsF x.fst x.snd.fst x.snd.snd).fst x.snd.snd) (List.drop x_3.snd.snd.toNat (refsA x.fst (x.snd.fst.getD x_2.snd.toNat (0 : Int)))) = goodR x.snd.fst (if (longsF x.fst x.snd.fst x.snd.snd).snd ≠ (0 : Int) then ([] : List Int) else planS x.snd.fst (longsF x.fst x.snd.fst x.snd.snd).fst x.snd.snd) (refsA x.fst (x.snd.fst.getD x_2.snd.toNat (0 : Int))) ∧ x_3.fst = slidUp x.fst x.snd.fst (if (longsF x.fst x.snd.fst x.snd.snd).snd ≠ (0 : Int) then ([] : List Int) else planS x.snd.fst (longsF x.fst x.snd.fst x.snd.snd).fst x.snd.snd) x.snd.snd (longsF x.fst x.snd.fst x.snd.snd).fst x_2.snd.toNat ++ (gapW x.snd.snd x.snd.fst (longsF x.fst x.snd.fst x.snd.snd).fst x_2.snd.toNat ++ x.fst.getD (x.snd.fst.getD x_2.snd.toNat (0 : Int)).toNat (0 : Int) :: List.map (mapTo x.snd.fst (if (longsF x.fst x.snd.fst x.snd.snd).snd ≠ (0 : Int) then ([] : List Int) else planS x.snd.fst (longsF x.fst x.snd.fst x.snd.snd).fst x.snd.snd)) (List.take x_3.snd.snd.toNat (refsA x.fst (x.snd.fst.getD x_2.snd.toNat (0 : Int))))) ++ (List.drop x_3.snd.snd.toNat (refsA x.fst (x.snd.fst.getD x_2.snd.toNat (0 : Int))) ++ (bodyA x.fst (x.snd.fst.getD x_2.snd.toNat (0 : Int)) ++ List.replicate ((↑x.fst.length : Int) - endS x.snd.snd x.snd.fst (longsF x.fst x.snd.fst x.snd.snd).fst (x_2.snd.toNat + (1 : Nat))).toNat (0 : Int))) → (decide (x_3.snd.snd < (↑(atF x.fst (x.snd.fst.getD x_2.snd.toNat (0 : Int))).fst.snd.fst.length : Int)) = true → InR IntKind.i64 ((1 : Int) + x_3.snd.snd) ∧ (0 : Int) ≤ (1 : Int) + x_3.snd.snd ∧ (1 : Int) + x_3.snd.snd < (↑x_3.snd.fst.snd : Int) ∧ x_3.snd.fst.fst + ((1 : Int) + x_3.snd.snd).toNat < x_3.fst.length ∧ ((!(mget x_1.fst (x_3.fst.getD (x_3.snd.fst.fst + ((1 : Int) + x_3.snd.snd).toNat) (0 : Int))).isSome) = true → ([] : List Int) = (slideF x.fst x.snd.fst x.snd.snd).fst ∧ ([] : List Int) = (slideF x.fst x.snd.fst x.snd.snd).snd.fst ∧ (8 : Int) = (slideF x.fst x.snd.fst x.snd.snd).snd.snd ∧ True) ∧ ((!(mget x_1.fst (x_3.fst.getD (x_3.snd.fst.fst + ((1 : Int) + x_3.snd.snd).toNat) (0 : Int))).isSome) = false → InR IntKind.i64 ((1 : Int) + x_3.snd.snd) ∧ (0 : Int) ≤ (1 : Int) + x_3.snd.snd ∧ (1 : Int) + x_3.snd.snd < (↑x_3.snd.fst.snd : Int) ∧ x_3.snd.fst.fst + ((1 : Int) + x_3.snd.snd).toNat < x_3.fst.length ∧ InR IntKind.i64 (x_3.snd.snd + (1 : Int)) ∧ ((0 : Int) ≤ x_3.snd.snd + (1 : Int) ∧ x_3.snd.snd + (1 : Int) ≤ (↑(atF x.fst (x.snd.fst.getD x_2.snd.toNat (0 : Int))).fst.snd.fst.length : Int) ∧ x_3.snd.fst.fst = (toS x.snd.snd x.snd.fst (longsF x.fst x.snd.fst x.snd.snd).fst x_2.snd.toNat).toNat ∧ (↑x_3.snd.fst.snd : Int) = (longsF x.fst x.snd.fst x.snd.snd).fst.getD x_2.snd.toNat (0 : Int) ∧ goodR x.snd.fst (if (longsF x.fst x.snd.fst x.snd.snd).snd ≠ (0 : Int) then ([] : List Int) else planS x.snd.fst (longsF x.fst x.snd.fst x.snd.snd).fst x.snd.snd) (List.drop (x_3.snd.snd + (1 : Int)).toNat (refsA x.fst (x.snd.fst.getD x_2.snd.toNat (0 : Int)))) = goodR x.snd.fst (if (longsF x.fst x.snd.fst x.snd.snd).snd ≠ (0 : Int) then ([] : List Int) else planS x.snd.fst (longsF x.fst x.snd.fst x.snd.snd).fst x.snd.snd) (refsA x.fst (x.snd.fst.getD x_2.snd.toNat (0 : Int))) ∧ x_3.fst.set (x_3.snd.fst.fst + ((1 : Int) + x_3.snd.snd).toNat) ((mget x_1.fst (x_3.fst.getD (x_3.snd.fst.fst + ((1 : Int) + x_3.snd.snd).toNat) (0 : Int))).getD (0 : Int)) = slidUp x.fst x.snd.fst (if (longsF x.fst x.snd.fst x.snd.snd).snd ≠ (0 : Int) then ([] : List Int) else planS x.snd.fst (longsF x.fst x.snd.fst x.snd.snd).fst x.snd.snd) x.snd.snd (longsF x.fst x.snd.fst x.snd.snd).fst x_2.snd.toNat ++ (gapW x.snd.snd x.snd.fst (longsF x.fst x.snd.fst x.snd.snd).fst x_2.snd.toNat ++ x.fst.getD (x.snd.fst.getD x_2.snd.toNat (0 : Int)).toNat (0 : Int) :: List.map (mapTo x.snd.fst (if (longsF x.fst x.snd.fst x.snd.snd).snd ≠ (0 : Int) then ([] : List Int) else planS x.snd.fst (longsF x.fst x.snd.fst x.snd.snd).fst x.snd.snd)) (List.take (x_3.snd.snd + (1 : Int)).toNat (refsA x.fst (x.snd.fst.getD x_2.snd.toNat (0 : Int))))) ++ (List.drop (x_3.snd.snd + (1 : Int)).toNat (refsA x.fst (x.snd.fst.getD x_2.snd.toNat (0 : Int))) ++ (bodyA x.fst (x.snd.fst.getD x_2.snd.toNat (0 : Int)) ++ List.replicate ((↑x.fst.length : Int) - endS x.snd.snd x.snd.fst (longsF x.fst x.snd.fst x.snd.snd).fst (x_2.snd.toNat + (1 : Nat))).toNat (0 : Int)))) ∧ ((↑(atF x.fst (x.snd.fst.getD x_2.snd.toNat (0 : Int))).fst.snd.fst.length : Int) - (x_3.snd.snd + (1 : Int))).toNat < ((↑(atF x.fst (x.snd.fst.getD x_2.snd.toNat (0 : Int))).fst.snd.fst.length : Int) - x_3.snd.snd).toNat)) ∧ (decide (x_3.snd.snd < (↑(atF x.fst (x.snd.fst.getD x_2.snd.toNat (0 : Int))).fst.snd.fst.length : Int)) = false → InR IntKind.i64 (x_2.snd + (1 : Int)) ∧ ((0 : Int) ≤ x_2.snd + (1 : Int) ∧ x_2.snd + (1 : Int) ≤ (↑x.snd.fst.length : Int) ∧ (((List.drop (x_2.snd + (1 : Int)).toNat x.snd.fst).all fun (at_ : Int) => goodR x.snd.fst (if (longsF x.fst x.snd.fst x.snd.snd).snd ≠ (0 : Int) then ([] : List Int) else planS x.snd.fst (longsF x.fst x.snd.fst x.snd.snd).fst x.snd.snd) (refsA x.fst at_)) = x.snd.fst.all fun (at_ : Int) => goodR x.snd.fst (if (longsF x.fst x.snd.fst x.snd.snd).snd ≠ (0 : Int) then ([] : List Int) else planS x.snd.fst (longsF x.fst x.snd.fst x.snd.snd).fst x.snd.snd) (refsA x.fst at_)) ∧ x_3.fst = slidUp x.fst x.snd.fst (if (longsF x.fst x.snd.fst x.snd.snd).snd ≠ (0 : Int) then ([] : List Int) else planS x.snd.fst (longsF x.fst x.snd.fst x.snd.snd).fst x.snd.snd) x.snd.snd (longsF x.fst x.snd.fst x.snd.snd).fst (x_2.snd + (1 : Int)).toNat ++ List.replicate ((↑x.fst.length : Int) - endS x.snd.snd x.snd.fst (longsF x.fst x.snd.fst x.snd.snd).fst (x_2.snd + (1 : Int)).toNat).toNat (0 : Int)) ∧ ((↑x.snd.fst.length : Int) - (x_2.snd + (1 : Int))).toNat < ((↑x.snd.fst.length : Int) - x_2.snd).toNat)) ∧ (decide (x_2.snd < (↑x.snd.fst.length : Int)) = false → True ∧ ((0 : Int) ≤ (0 : Int) ∧ (0 : Int) ≤ (↑(planGapsF x.fst x.snd.fst x.snd.snd).fst.length : Int) ∧ x_2.fst.length = x_2.fst.length ∧ x_2.fst = List.foldl freeSet x_2.fst (List.take (Int.toNat (0 : Int)) (planGapsF x.fst x.snd.fst x.snd.snd).fst)) ∧ ∀ (x_3 : List Int × Int), (0 : Int) ≤ x_3.snd ∧ x_3.snd ≤ (↑(planGapsF x.fst x.snd.fst x.snd.snd).fst.length : Int) ∧ x_3.fst.length = x_2.fst.length ∧ x_3.fst = List.foldl freeSet x_2.fst (List.take x_3.snd.toNat (planGapsF x.fst x.snd.fst x.snd.snd).fst) → (decide (x_3.snd < (↑(planGapsF x.fst x.snd.fst x.snd.snd).fst.length : Int)) = true → (0 : Int) ≤ x_3.snd ∧ x_3.snd < (↑(planGapsF x.fst x.snd.fst x.snd.snd).fst.length : Int) ∧ x_3.snd.toNat < (planGapsF x.fst x.snd.fst x.snd.snd).fst.length ∧ InR IntKind.i64 (((planGapsF x.fst x.snd.fst x.snd.snd).fst.getD x_3.snd.toNat ((0 : Int), (0 : Int))).snd - (1 : Int)) ∧ True ∧ (0 : Int) ≤ ((planGapsF x.fst x.snd.fst x.snd.snd).fst.getD x_3.snd.toNat ((0 : Int), (0 : Int))).fst ∧ ((planGapsF x.fst x.snd.fst x.snd.snd).fst.getD x_3.snd.toNat ((0 : Int), (0 : Int))).fst < (↑x_3.fst.length : Int) ∧ ((planGapsF x.fst x.snd.fst x.snd.snd).fst.getD x_3.snd.toNat ((0 : Int), (0 : Int))).fst.toNat < x_3.fst.length ∧ InR IntKind.i64 (x_3.snd + (1 : Int)) ∧ ((0 : Int) ≤ x_3.snd + (1 : Int) ∧ x_3.snd + (1 : Int) ≤ (↑(planGapsF x.fst x.snd.fst x.snd.snd).fst.length : Int) ∧ (x_3.fst.set ((planGapsF x.fst x.snd.fst x.snd.snd).fst.getD x_3.snd.toNat ((0 : Int), (0 : Int))).fst.toNat (if headFault ((0 : Int), ((planGapsF x.fst x.snd.fst x.snd.snd).fst.getD x_3.snd.toNat ((0 : Int), (0 : Int))).snd - (1 : Int), (0 : Int), true) = (0 : Int) then headWord ((0 : Int), ((planGapsF x.fst x.snd.fst x.snd.snd).fst.getD x_3.snd.toNat ((0 : Int), (0 : Int))).snd - (1 : Int), (0 : Int), true) else (0 : Int))).length = x_2.fst.length ∧ x_3.fst.set ((planGapsF x.fst x.snd.fst x.snd.snd).fst.getD x_3.snd.toNat ((0 : Int), (0 : Int))).fst.toNat (if headFault ((0 : Int), ((planGapsF x.fst x.snd.fst x.snd.snd).fst.getD x_3.snd.toNat ((0 : Int), (0 : Int))).snd - (1 : Int), (0 : Int), true) = (0 : Int) then headWord ((0 : Int), ((planGapsF x.fst x.snd.fst x.snd.snd).fst.getD x_3.snd.toNat ((0 : Int), (0 : Int))).snd - (1 : Int), (0 : Int), true) else (0 : Int)) = List.foldl freeSet x_2.fst (List.take (x_3.snd + (1 : Int)).toNat (planGapsF x.fst x.snd.fst x.snd.snd).fst)) ∧ ((↑(planGapsF x.fst x.snd.fst x.snd.snd).fst.length : Int) - (x_3.snd + (1 : Int))).toNat < ((↑(planGapsF x.fst x.snd.fst x.snd.snd).fst.length : Int) - x_3.snd).toNat) ∧ (decide (x_3.snd < (↑(planGapsF x.fst x.snd.fst x.snd.snd).fst.length : Int)) = false → x_3.fst = (slideF x.fst x.snd.fst x.snd.snd).fst ∧ (if (longsF x.fst x.snd.fst x.snd.snd).snd ≠ (0 : Int) then ([] : List Int) else planS x.snd.fst (longsF x.fst x.snd.fst x.snd.snd).fst x.snd.snd) = (slideF x.fst x.snd.fst x.snd.snd).snd.fst ∧ (0 : Int) = (slideF x.fst x.snd.fst x.snd.snd).snd.snd ∧ True))))
theorem vcp_slide : pv_slide := by
 unfold pv_slide
 intro ⟨a, keep, pinned⟩ ⟨⟨hb, hw⟩, _⟩ _
 unfold big at hb
 simp only at hb hw ⊢
 have hF : slideF a keep pinned = if (longsF a keep pinned).2 ≠ 0 then ([], [], (longsF a keep pinned).2)
  else if (keep.all fun at_ => goodR keep (planS keep (longsF a keep pinned).1 pinned) (refsA a at_)) = true then
   (slidW a keep (planS keep (longsF a keep pinned).1 pinned) pinned (longsF a keep pinned).1 (planGapsL a.length keep (longsF a keep pinned).1 pinned), planS keep (longsF a keep pinned).1 pinned, 0)
  else ([], [], 8) := rfl
 rw [hF]
 refine ⟨trivial, fun hc => ?_, fun hc => ?_⟩
 ·rw [if_pos (of_decide_eq_true hc)]
  exact ⟨rfl, rfl, rfl, trivial⟩
 have hz : (longsF a keep pinned).2 = 0 := by simpa using of_decide_eq_false hc
 have hP := plan_of hz
 have hG : planGapsF a keep pinned = (planGapsL a.length keep (longsF a keep pinned).1 pinned, 0) := by
  unfold planGapsF
  rw [if_neg (by omega), hz]
 rw [if_neg (by omega), if_neg (by omega), hG]
 clear hF hG hc hz
 generalize (longsF a keep pinned).1 = long at *
 have hto : (planS keep long pinned).length = keep.length := by simp [planS]
 have htg : ∀ i : Nat, i < keep.length → (planS keep long pinned).getD i 0 = toS pinned keep long i := by
  intro i hi
  unfold planS
  rw [List.getD_eq_getElem?_getD, List.getElem?_map, List.getElem?_range hi]
  rfl
 have hk0 : ∀ x ∈ keep, 0 ≤ x := fun x hx => (hP.pre.2.2.1 x hx).1
 have hkl := hP.pre.2.1
 have hlong := hP.pre.1
 have hal := hP.al
 have hgi := planGaps_in hP
 have hgl := planGaps_length a.length keep long pinned
 rw [hto]
 generalize planS keep long pinned = to at *
 generalize planGapsL a.length keep long pinned = g at *
 refine ⟨⟨by omega, by omega, rfl⟩, fun ⟨m, i⟩ ⟨h0, h1, h2⟩ => ⟨fun hlt => ?_, fun hge => ?_⟩⟩
 ·have hlt' : i < (keep.length : Int) := of_decide_eq_true hlt
  simp only at h0 h1 h2 ⊢
  have hx := hP.pre.2.2.1 _ (getD_mem (0 : Int) h0 hlt')
  have ht := toS_range pinned hP.pre (i := i.toNat) (by omega)
  rw [← htg i.toNat (by omega)] at ht
  rw [wrapU (n := keep.getD i.toNat 0) (by omega) (by omega), wrapU (n := to.getD i.toNat 0) (by omega) (by omega)]
  simp only [InR]
  refine ⟨h0, hlt', by omega, h0, by omega, by omega, by omega, by omega, ⟨by omega, by omega, ?_⟩, by omega⟩
  rw [show (i + 1).toNat = i.toNat + 1 by omega, h2]
  rfl
 have hge : ¬ i < (keep.length : Int) := of_decide_eq_false hge
 simp only at h0 h1 h2 ⊢
 rw [show i.toNat = keep.length by omega] at h2
 subst h2
 clear h0 h1 hge
 unfold big
 refine ⟨by omega, by omega, ⟨by omega, by omega, rfl, ?_⟩, fun ⟨w, i⟩ ⟨b0, b1, b2, b3⟩ => ⟨fun hlt => ?_, fun hge => ?_⟩⟩
 ·simp [slidUp, endS]
 ·have hlt' : i < (keep.length : Int) := of_decide_eq_true hlt
  simp only at b0 b1 b2 b3 ⊢
  have hib := hP.isb _ (getD_mem (0 : Int) b0 hlt')
  obtain ⟨l1, l2, l3, l4, l5, l6⟩ := objA_length hib
  obtain ⟨o1, o2⟩ := at_lens hP.chk hib
  have hle := hP.le i.toNat (by omega)
  have hlg := hP.lg i.toNat (by omega)
  have hul := slidUp_length to hP i.toNat (by omega)
  have hE0 := endS_range pinned hP.pre i.toNat (by omega)
  have hE1 : endS pinned keep long (i.toNat + 1) = toS pinned keep long i.toNat + long.getD i.toNat 0 := rfl
  have hwl : w.length = a.length := by
   rw [b3, List.length_append, List.length_replicate]
   omega
  rw [drop_cons (0 : Int) b0 hlt', List.all_cons, show (i + 1).toNat = i.toNat + 1 by omega] at b2
  have hup : slidUp a keep to pinned long (i.toNat + 1) = slidUp a keep to pinned long i.toNat ++ (gapW pinned keep long i.toNat ++ pieceW a keep to (keep.getD i.toNat 0)) := rfl
  have hpw : pieceW a keep to (keep.getD i.toNat 0) = a.getD (keep.getD i.toNat 0).toNat 0 :: ((refsA a (keep.getD i.toNat 0)).map (mapTo keep to) ++ bodyA a (keep.getD i.toNat 0)) := rfl
  have hgw : (gapW pinned keep long i.toNat).length = (toS pinned keep long i.toNat - endS pinned keep long i.toNat).toNat := by simp [gapW]
  have hgd : gapW pinned keep long i.toNat = List.replicate (toS pinned keep long i.toNat - endS pinned keep long i.toNat).toNat 0 := rfl
  have howd := objA_words hib
  rw [htg i.toNat (by omega), o1, o2, show (i + 1).toNat = i.toNat + 1 by omega, hup, hpw]
  clear hup hpw o1 o2 hib
  generalize keep.getD i.toNat 0 = at_ at *
  have hfst : (hdA a at_).1 = ((refsA a at_).length : Int) := l1.symm
  have hsnd : (hdA a at_).2.1 = ((bodyA a at_).length : Int) := l2.symm
  rw [hfst, hsnd] at hlg howd l4
  generalize refsA a at_ = rs at *
  generalize bodyA a at_ = bd at *
  rw [hlg] at hle hE1 ⊢
  rw [hE1]
  generalize hS : slidUp a keep to pinned long i.toNat = S at *
  generalize gapW pinned keep long i.toNat = G at *
  generalize toS pinned keep long i.toNat = t at *
  generalize endS pinned keep long i.toNat = e at *
  have hmin : min (a.drop at_.toNat).length ((t + 1 + (rs.length : Int) + (bd.length : Int)).toNat - t.toNat) = (1 + (rs.length : Int) + (bd.length : Int)).toNat := by
   rw [List.length_drop]
   omega
  simp only [InR]
  refine ⟨b0, hlt', trivial, b0, by omega, by omega, b0, by omega, by omega, by omega, by omega, by omega, by omega, by omega, by omega, by omega, by omega, by omega,
   ⟨by omega, by omega, trivial, by omega, rfl, ?_⟩, fun ⟨w', ⟨p1, p2⟩, k⟩ ⟨c0, c1, c2, c3, c4, c5⟩ => ⟨fun hk => ?_, fun hk => ?_⟩⟩
  ·rw [hmin, howd]
   have ht1 : w.take t.toNat = S ++ G := by
    rw [b3, List.take_append, List.take_of_length_le (by omega), List.take_replicate, hgd]
    congr 2
    omega
   have ht2 : w.drop (t.toNat + (1 + (rs.length : Int) + (bd.length : Int)).toNat) = List.replicate ((a.length : Int) - (t + (1 + (rs.length : Int) + (bd.length : Int)))).toNat 0 := by
    rw [b3, List.drop_append, List.drop_of_length_le (by omega), List.nil_append, List.drop_replicate]
    congr 1
    omega
   rw [ht1, ht2]
   simp [List.append_assoc]
  ·have hk : k < (rs.length : Int) := of_decide_eq_true hk
   simp only at c0 c1 c2 c3 c4 c5 ⊢
   rw [drop_cons (0 : Int) c0 hk] at c4 c5
   have hsn := take_snoc (0 : Int) c0 hk
   rw [hsn, List.map_append]
   generalize rs.getD k.toNat 0 = x at *
   have hA : (S ++ (G ++ a.getD at_.toNat 0 :: (rs.take k.toNat).map (mapTo keep to))).length = p1 + (1 + k).toNat := by
    simp only [List.length_append, List.length_cons, List.length_map, List.length_take]
    omega
   have hw' : w'.length = a.length := by
    rw [c5]
    simp only [List.length_append, List.length_cons, List.length_map, List.length_take, List.length_drop, List.length_replicate]
    omega
   rw [List.cons_append] at c5
   have hget : w'.getD (p1 + (1 + k).toNat) 0 = x := by rw [c5]; exact get_mid hA.symm
   have hset : ∀ y, w'.set (p1 + (1 + k).toNat) y = (S ++ (G ++ a.getD at_.toNat 0 :: (rs.take k.toNat).map (mapTo keep to))) ++ y :: (rs.drop (k + 1).toNat ++ (bd ++ List.replicate ((a.length : Int) - (t + (1 + (rs.length : Int) + (bd.length : Int)))).toNat 0)) := fun y => by
    rw [c5]; exact set_mid y hA.symm
   rw [hget, hset, nowUp_is hP.rs hk0]
   have hg1 : goodR keep to (x :: rs.drop (k + 1).toNat) = ((refTo keep to x).isSome && goodR keep to (rs.drop (k + 1).toNat)) := rfl
   rw [hg1] at c4
   refine ⟨by omega, by omega, by omega, by omega, fun hn => ?_, fun hn => ⟨by omega, by omega, by omega, by omega, by omega, ⟨by omega, by omega, c2, c3, ?_, ?_⟩, by omega⟩⟩
   ·have hn : (refTo keep to x).isSome = false := by simpa using hn
    rw [hn, Bool.false_and] at c4
    rw [← c4, Bool.false_and] at b2
    rw [if_neg (by rw [← b2]; simp)]
    exact ⟨rfl, rfl, rfl, trivial⟩
   ·have hn : (refTo keep to x).isSome = true := by simpa using hn
    rw [hn, Bool.true_and] at c4
    exact c4
   ·have hm : [x].map (mapTo keep to) = [(refTo keep to x).getD 0] := rfl
    rw [hm]
    simp [List.append_assoc]
  ·have hk : ¬ k < (rs.length : Int) := of_decide_eq_false hk
   simp only at c0 c1 c2 c3 c4 c5 ⊢
   rw [drop_end hk] at c4 c5
   rw [take_end hk] at c5
   have hg0 : goodR keep to [] = true := rfl
   rw [hg0] at c4
   rw [← c4, Bool.true_and] at b2
   refine ⟨by omega, ⟨by omega, by omega, b2, ?_⟩, by omega⟩
   rw [c5]
   simp [List.append_assoc]
 ·have hge : ¬ i < (keep.length : Int) := of_decide_eq_false hge
  simp only at b0 b1 b2 b3 ⊢
  rw [drop_end hge, List.all_nil] at b2
  rw [if_pos b2.symm]
  rw [show i.toNat = keep.length by omega] at b3
  have hul := slidUp_length to hP keep.length (Nat.le_refl _)
  have hE0 := endS_range pinned hP.pre keep.length (Nat.le_refl _)
  have hen := hP.en
  have hwl : w.length = a.length := by
   rw [b3, List.length_append, List.length_replicate]
   omega
  have hW : slidW a keep to pinned long g = g.foldl freeSet w := by
   rw [b3]
   rfl
  rw [hW]
  refine ⟨trivial, ⟨by omega, by omega, trivial, rfl⟩, fun ⟨w', j⟩ ⟨d0, d1, d2, d3⟩ => ⟨fun hj => ?_, fun hj => ?_⟩⟩
  ·have hj : j < (g.length : Int) := of_decide_eq_true hj
   simp only at d0 d1 d2 d3 ⊢
   have hr := hgi _ (getD_mem ((0, 0) : Gap) d0 hj)
   have hsn := take_snoc ((0, 0) : Gap) d0 hj
   rw [hsn, List.foldl_append, ← d3]
   generalize g.getD j.toNat (0, 0) = r at *
   have hh : headFault (0, r.2 - 1, 0, true) = 0 := by
    simp [headFault, headLong]
    omega
   rw [if_pos hh, List.length_set]
   simp only [InR]
   exact ⟨d0, hj, by omega, by omega, trivial, hr.1, by omega, by omega, by omega, ⟨by omega, by omega, d2, rfl⟩, by omega⟩
  ·have hj : ¬ j < (g.length : Int) := of_decide_eq_false hj
   simp only at d3 ⊢
   rw [take_end hj] at d3
   exact ⟨d3, trivial, trivial, trivial⟩
theorem e_slide : pv_slide = (fnVC Tryz.prog (tbl [(161, sp_planTo), (83, sp_walkAt), (162, sp_planGaps), (134, sp_headWord)]) an_slide Tryz.f139 sp_slide) := by kernel_rfl
theorem vc_slide : fnVC Tryz.prog (tbl [(161, sp_planTo), (83, sp_walkAt), (162, sp_planGaps), (134, sp_headWord)]) an_slide Tryz.f139 sp_slide := @Eq.mp _ _ @e_slide @vcp_slide
theorem ok_slide : sp_slide.ok Tryz.prog 139 := fn_sound (P := Tryz.prog) (ss := tbl [(161, sp_planTo), (83, sp_walkAt), (162, sp_planGaps), (134, sp_headWord)]) (ann := an_slide) (f := 139) (fn := Tryz.f139) (s := sp_slide) (tbl_cons ok_planTo (tbl_cons ok_walkAt (tbl_cons ok_planGaps (tbl_cons ok_headWord tbl_nil)))) Tryz.func139 @vc_slide
end Go.Proofs.YtglchojglcobjaaGreat
