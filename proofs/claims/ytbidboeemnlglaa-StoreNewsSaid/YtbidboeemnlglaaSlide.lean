/- Contracts of slide.Slide and of the reference's Slid. -/
import Derived.Test.YtbidboeemnlglaaPlanSame
namespace Go.Proofs.Ytbidboeemnlglaa
open Go
set_option maxRecDepth 100000
set_option maxHeartbeats 1000000

theorem headWord_headOf {v : Int} (h : isHead v = true) (h0 : 0 ≤ v) : headWord (headOf v) = v := by
  simp only [isHead, Bool.and_eq_true, decide_eq_true_eq] at h
  have h1 := h.1
  have e : headWord (headOf v) = v % 65536 + 65536 * (v / 65536 % 65536) + 4294967296 * (v / 4294967296 % 65536) + (if v / 281474976710656 = 1 then 281474976710656 else 0) := by
    unfold headWord headOf
    by_cases hc : v / 281474976710656 = 1 <;> simp [hc]
  rw [e]
  split <;> omega
theorem spotsS_head (at_ : Int) (l : List Int) (r : List Spot) (h : spotsS at_ l = some r) : ∀ s ∈ r, at_ ≤ s.1 ∧ s.2 = headOf (l.getD (s.1 - at_).toNat 0) ∧ isHead (l.getD (s.1 - at_).toNat 0) = true := by
  induction at_, l using spotsS.induct generalizing r with
  | case1 at_ =>
    simp only [spotsS, Option.some.injEq] at h
    subst h
    simp
  | case2 at_ v l hv ih =>
    rw [spotsS_cons hv.1 hv.2] at h
    obtain ⟨r', hr, rfl⟩ := Option.map_eq_some_iff.1 h
    have hl := isHead_long hv.1
    intro s hs
    rcases List.mem_cons.1 hs with rfl | hs
    · simp only [Int.sub_self]
      exact ⟨Int.le_refl _, rfl, hv.1⟩
    · obtain ⟨h1, h2, h3⟩ := ih r' hr s hs
      have e : ((v :: l).drop (headLong (headOf v)).toNat).getD (s.1 - (at_ + headLong (headOf v))).toNat 0 = (v :: l).getD (s.1 - at_).toNat 0 := by
        rw [List.getD_eq_getElem?_getD, List.getElem?_drop, List.getD_eq_getElem?_getD]
        congr 2
        omega
      rw [e] at h2 h3
      exact ⟨by omega, h2, h3⟩
  | case3 at_ v l hv =>
    rw [spotsS_none hv] at h
    cases h
theorem spotsF_head {a : List Int} : ∀ s ∈ (spotsF a).1, s.2 = headOf (a.getD s.1.toNat 0) ∧ isHead (a.getD s.1.toNat 0) = true := by
  unfold spotsF
  split
  · intro s hs; cases hs
  · cases h : spotsS 0 a with
    | none => intro s hs; cases hs
    | some l =>
      intro s hs
      have := spotsS_head 0 a l h s hs
      rw [Int.sub_zero] at this
      exact this.2

/-- An object's head, the words of its Refs, of its Body. -/
def hdA (a : List Int) (at_ : Int) : Head := (headAtL at_ (spotsF a).1).1
def refsA (a : List Int) (at_ : Int) : List Int := spotRefs a (at_, hdA a at_)
def bodyA (a : List Int) (at_ : Int) : List Int := spotBody a (at_, hdA a at_)
theorem objA_in {a : List Int} {at_ : Int} (h : isB (spotsF a).1 at_ = true) : (at_, hdA a at_) ∈ (spotsF a).1 ∧ spotIn a (at_, hdA a at_) ∧ headFault (hdA a at_) = 0 ∧ hdA a at_ = headOf (a.getD at_.toNat 0) ∧ isHead (a.getD at_.toNat 0) = true ∧ (hdA a at_).2.2.2 = false := by
  unfold isB hdA at *
  rcases headAtL_in at_ (spotsF a).1 with e | ⟨s, h1, h2, h3, e⟩
  · rw [e] at h; cases h
  · rw [e]
    have e2 : (at_, s.2) = s := by rw [← h2]
    rw [e2]
    obtain ⟨_, k2, k3⟩ := spotsF_in2 a s h1
    obtain ⟨k4, k5⟩ := spotsF_head s h1
    rw [h2] at k4 k5
    exact ⟨h1, k2, k3, k4, k5, h3⟩
theorem objA_length {a : List Int} {at_ : Int} (h : isB (spotsF a).1 at_ = true) : ((refsA a at_).length : Int) = (hdA a at_).1 ∧ ((bodyA a at_).length : Int) = (hdA a at_).2.1 ∧ 0 ≤ at_ ∧ at_ + 1 + (hdA a at_).1 + (hdA a at_).2.1 ≤ a.length ∧ 0 ≤ (hdA a at_).1 ∧ 0 ≤ (hdA a at_).2.1 := by
  obtain ⟨_, k2, _⟩ := objA_in h
  unfold spotIn at k2
  simp only at k2
  refine ⟨?_, ?_, by omega, by omega, by omega, by omega⟩
  · unfold refsA spotRefs
    rw [List.length_drop, List.length_take]
    simp only
    omega
  · unfold bodyA spotBody
    rw [List.length_drop, List.length_take]
    simp only
    omega
/-- The object's words are its head's, its Refs', its Body's. -/
theorem objA_words {a : List Int} {at_ : Int} (h : isB (spotsF a).1 at_ = true) : (a.drop at_.toNat).take (1 + (hdA a at_).1 + (hdA a at_).2.1).toNat = a.getD at_.toNat 0 :: (refsA a at_ ++ bodyA a at_) := by
  obtain ⟨l1, l2, l3, l4, l5, l6⟩ := objA_length h
  unfold refsA bodyA spotRefs spotBody
  simp only
  rw [drop_cons (0 : Int) l3 (by omega), show (1 + (hdA a at_).1 + (hdA a at_).2.1).toNat = ((hdA a at_).1 + (hdA a at_).2.1).toNat + 1 by omega, List.take_succ_cons]
  congr 1
  generalize (hdA a at_).1 = r at *
  generalize (hdA a at_).2.1 = b at *
  rw [List.drop_take, List.drop_take, show (r + b).toNat = r.toNat + b.toNat by omega, show (at_ + 1 + r).toNat - (at_ + 1).toNat = r.toNat by omega, show (at_ + 1 + r + b).toNat - (at_ + 1 + r).toNat = b.toNat by omega,
    List.take_add, List.drop_drop, show (at_ + 1).toNat + r.toNat = (at_ + 1 + r).toNat by omega]

/-- What a Ref's word is, where it goes. -/
def refTo (keep to : List Int) (v : Int) : Option Int := if v = 0 then some 0 else if inL keep (v - 1) = true then some (to.getD (place keep (v - 1)).toNat 0 + 1) else none
def mapTo (keep to : List Int) (v : Int) : Int := (refTo keep to v).getD 0
def goodR (keep to l : List Int) : Bool := l.all fun v => (refTo keep to v).isSome
def pieceW (a keep to : List Int) (at_ : Int) : List Int := a.getD at_.toNat 0 :: ((refsA a at_).map (mapTo keep to) ++ bodyA a at_)
def gapW (pinned keep long : List Int) (i : Nat) : List Int := List.replicate (toS pinned keep long i - endS pinned keep long i).toNat 0
def slidUp (a keep to pinned long : List Int) : Nat → List Int
  | 0 => []
  | i + 1 => slidUp a keep to pinned long i ++ (gapW pinned keep long i ++ pieceW a keep to (keep.getD i 0))
def freeSet (w : List Int) (r : Gap) : List Int := w.set r.1.toNat (headWord (0, r.2 - 1, 0, true))
def slidW (a keep to pinned long : List Int) (g : List Gap) : List Int :=
  g.foldl freeSet (slidUp a keep to pinned long keep.length ++ List.replicate ((a.length : Int) - endS pinned keep long keep.length).toNat 0)
def slideF (a keep pinned : List Int) : List Int × List Int × Int :=
  if (longsF a keep pinned).2 ≠ 0 then ([], [], (longsF a keep pinned).2)
  else if (keep.all fun at_ => goodR keep (planS keep (longsF a keep pinned).1 pinned) (refsA a at_)) = true then
    (slidW a keep (planS keep (longsF a keep pinned).1 pinned) pinned (longsF a keep pinned).1 (planGapsL a.length keep (longsF a keep pinned).1 pinned), planS keep (longsF a keep pinned).1 pinned, 0)
  else ([], [], 8)

/-- What is known where a plan is made. -/
structure Plan (a keep pinned long : List Int) : Prop where
  chk : (checkF a).2.2 = 0
  al : a.length ≤ 256
  isb : ∀ x ∈ keep, isB (spotsF a).1 x = true
  pre : planPre keep long
  lg : ∀ i : Nat, i < keep.length → long.getD i 0 = 1 + (hdA a (keep.getD i 0)).1 + (hdA a (keep.getD i 0)).2.1
  le : ∀ i : Nat, i < keep.length → endS pinned keep long i ≤ toS pinned keep long i ∧ toS pinned keep long i + long.getD i 0 ≤ (a.length : Int)
  en : endS pinned keep long keep.length ≤ (a.length : Int)
  rs : keep.Pairwise (· < ·)
theorem plan_of {a keep pinned : List Int} (h : (longsF a keep pinned).2 = 0) : Plan a keep pinned (longsF a keep pinned).1 := by
  obtain ⟨k1, k2, _, k4, _, k6⟩ := longs_ok h
  obtain ⟨d1, d2⟩ := keep_disj h
  have hp := longs_pre h
  rw [k6] at hp ⊢
  have hG : ∀ k : Nat, k < keep.length → (keep.map (lgOf (spotsF a).1)).getD k 0 = lgOf (spotsF a).1 (keep.getD k 0) := by
    intro k hk
    rw [List.getD_eq_getElem?_getD, List.getElem?_map, List.getD_eq_getElem?_getD, List.getElem?_eq_getElem hk]
    rfl
  have hle := endS_le (pinned := pinned) hp d1 d2
  have hto : ∀ i : Nat, i < keep.length → endS pinned keep (keep.map (lgOf (spotsF a).1)) i ≤ toS pinned keep (keep.map (lgOf (spotsF a).1)) i ∧ toS pinned keep (keep.map (lgOf (spotsF a).1)) i + (keep.map (lgOf (spotsF a).1)).getD i 0 ≤ (a.length : Int) := fun i hi => by
    have h1 := toS_ge (hle i hi)
    have h2 := d2 i hi
    omega
  refine ⟨k1, (checkF_in k1).1, k4, hp, fun i hi => by rw [hG i hi]; rfl, hto, ?_, risesL_pairwise k2⟩
  cases hn : keep.length with
  | zero => simp [endS]
  | succ n =>
    have := hto n (by omega)
    show toS pinned keep (keep.map (lgOf (spotsF a).1)) n + (keep.map (lgOf (spotsF a).1)).getD n 0 ≤ _
    exact this.2

theorem pieceW_length {a keep to : List Int} {at_ : Int} (h : isB (spotsF a).1 at_ = true) : ((pieceW a keep to at_).length : Int) = 1 + (hdA a at_).1 + (hdA a at_).2.1 := by
  obtain ⟨l1, l2, _⟩ := objA_length h
  unfold pieceW
  simp only [List.length_cons, List.length_append, List.length_map]
  omega
theorem keep_mem {keep : List Int} {i : Nat} (h : i < keep.length) : keep.getD i 0 ∈ keep := by
  have := getD_mem (0 : Int) (xs := keep) (i := i) (by omega) (by omega)
  simpa only [Int.toNat_natCast] using this
theorem slidUp_length {a keep pinned long : List Int} (to : List Int) (hP : Plan a keep pinned long) : ∀ i : Nat, i ≤ keep.length → ((slidUp a keep to pinned long i).length : Int) = endS pinned keep long i
  | 0, _ => rfl
  | i + 1, hi => by
    have ih := slidUp_length to hP i (by omega)
    have h1 := pieceW_length (keep := keep) (to := to) (hP.isb _ (keep_mem (i := i) (by omega)))
    have h2 := hP.le i (by omega)
    have h3 := hP.lg i (by omega)
    have hE : endS pinned keep long (i + 1) = toS pinned keep long i + long.getD i 0 := rfl
    simp only [slidUp, List.length_append, gapW, List.length_replicate]
    omega

/-- The map of where the words go. -/
def nowUp (keep to : List Int) : Nat → List (Int × Int)
  | 0 => [(0, 0)]
  | i + 1 => mput (nowUp keep to i) (keep.getD i 0 + 1) (to.getD i 0 + 1)
theorem findFrom_snoc {α : Type} (f : α → Bool) (x : α) : ∀ (l : List α) (k : Int), findFrom f k (l ++ [x]) = if l.any f = true then findFrom f k l else if f x = true then k + l.length else -1
  | [], k => by simp [findFrom]
  | y :: l, k => by
    have ih := findFrom_snoc f x l (k + 1)
    simp only [List.cons_append, findFrom, List.any_cons, ih]
    by_cases hy : f y = true
    · simp [hy]
    · have hy : f y = false := by simpa using hy
      simp only [hy, Bool.false_eq_true, if_false, Bool.false_or, List.length_cons]
      split
      · rfl
      · split
        · omega
        · rfl
theorem nowUp_get {keep to : List Int} (hk : keep.Pairwise (· < ·)) (h0 : ∀ x ∈ keep, 0 ≤ x) (v : Int) : ∀ i : Nat, i ≤ keep.length → mget (nowUp keep to i) v = if v = 0 then some 0 else if inL (keep.take i) (v - 1) = true then some (to.getD (place (keep.take i) (v - 1)).toNat 0 + 1) else none
  | 0, _ => by
    simp only [nowUp, mget, List.take_zero, inL, List.any_nil, Bool.false_eq_true, if_false]
    by_cases hv : v = 0
    · simp [hv]
    · simp [hv, Ne.symm hv]
  | i + 1, hi => by
    have ih := nowUp_get (to := to) hk h0 v i (by omega)
    have hx := h0 _ (keep_mem (i := i) (by omega))
    have ht : keep.take (i + 1) = keep.take i ++ [keep.getD i 0] := by
      rw [List.take_succ_eq_append_getElem (by omega)]
      congr 2
      rw [List.getD_eq_getElem?_getD, List.getElem?_eq_getElem (by omega)]
      rfl
    have hnot : inL (keep.take i) (keep.getD i 0) = false := by
      unfold inL
      rw [List.any_eq_false]
      intro y hy
      obtain ⟨j, hj, rfl⟩ := List.mem_iff_getElem.1 hy
      rw [List.length_take] at hj
      have := List.pairwise_iff_getElem.1 hk j i (by omega) (by omega) (by omega)
      rw [List.getElem_take]
      simp only [decide_eq_true_eq]
      rw [List.getD_eq_getElem?_getD, List.getElem?_eq_getElem (by omega)]
      simp only [Option.getD_some]
      omega
    simp only [nowUp]
    rw [mget_mput, ih, ht]
    unfold place inL
    rw [findFrom_snoc, List.any_append]
    simp only [List.any_cons, List.any_nil, Bool.or_false, List.length_take]
    by_cases hv : v = keep.getD i 0 + 1
    · rw [if_pos hv, if_neg (by omega)]
      have e : v - 1 = keep.getD i 0 := by omega
      rw [e]
      unfold inL at hnot
      rw [hnot]
      simp only [decide_true, Bool.or_true, if_true, Bool.false_eq_true, if_false]
      rw [show (0 + ((min i keep.length : Nat) : Int)).toNat = i by omega]
    · rw [if_neg hv]
      have e : decide (keep.getD i 0 = v - 1) = false := decide_eq_false (by omega)
      rw [e, Bool.or_false]
      split
      · rfl
      · split
        · rfl
        · rfl
theorem nowUp_is {keep to : List Int} (hk : keep.Pairwise (· < ·)) (h0 : ∀ x ∈ keep, 0 ≤ x) (v : Int) : mget (nowUp keep to keep.length) v = refTo keep to v := by
  rw [nowUp_get hk h0 v keep.length (Nat.le_refl _), List.take_length]
  rfl

theorem sorted_uniq : ∀ {l : List Spot} {s t : Spot}, l.Pairwise (fun s t => s.1 < t.1) → s ∈ l → t ∈ l → s.1 = t.1 → s = t
  | x :: l, s, t, h, hs, ht, e => by
    obtain ⟨h1, h2⟩ := List.pairwise_cons.1 h
    rcases List.mem_cons.1 hs with hs | hs <;> rcases List.mem_cons.1 ht with ht | ht
    · rw [hs, ht]
    · have := h1 t ht; subst hs; omega
    · have := h1 s hs; subst ht; omega
    · exact sorted_uniq h2 hs ht e
theorem at_lens {a : List Int} {at_ : Int} (hc : (checkF a).2.2 = 0) (h : isB (spotsF a).1 at_ = true) : (atF a at_).1.2.1.length = (refsA a at_).length ∧ (atF a at_).1.2.2.1.length = (bodyA a at_).length := by
  obtain ⟨k1, _⟩ := objA_in h
  obtain ⟨_, _, e3, _⟩ := checkF_in hc
  have hany : ((spotsF a).1.any fun s : Spot => decide (s.1 = at_)) = true := List.any_eq_true.2 ⟨_, k1, by simp⟩
  have hpos := findFrom_any (fun s : Spot => decide (s.1 = at_)) (spotsF a).1 0 (by omega)
  rw [hany] at hpos
  have hpos := of_decide_eq_true hpos
  have hlt := findFrom_lt (fun s : Spot => decide (s.1 = at_)) (0, 0, 0, 0, false) (spotsF a).1 0 (by omega)
  have his := findFrom_is (fun s : Spot => decide (s.1 = at_)) (0, 0, 0, 0, false) (spotsF a).1 0 hpos (by omega)
  rw [Int.sub_zero] at his
  have hm := getD_mem ((0, 0, 0, 0, false) : Spot) (xs := (spotsF a).1) hpos (by omega)
  have e := sorted_uniq (spotsF_sorted a) hm k1 (of_decide_eq_true his)
  unfold atF
  rw [if_neg (by omega), e3, if_neg (by omega), e]
  unfold objectF refsA bodyA
  exact ⟨by rw [List.length_map], rfl⟩
theorem set_mid {A B : List Int} {x : Int} (y : Int) {n : Nat} (h : n = A.length) : (A ++ x :: B).set n y = A ++ y :: B := by
  rw [h, List.set_append_right _ _ (Nat.le_refl _)]
  simp
theorem get_mid {A B : List Int} {x : Int} {n : Nat} (h : n = A.length) : (A ++ x :: B).getD n 0 = x := by
  rw [h, List.getD_eq_getElem?_getD, List.getElem?_append_right (Nat.le_refl _)]
  simp
theorem gapsUp_in {a keep pinned long : List Int} (hP : Plan a keep pinned long) : ∀ i : Nat, i ≤ keep.length → ∀ r ∈ gapsUp pinned keep long i, 0 ≤ r.1 ∧ 1 ≤ r.2 ∧ r.1 + r.2 ≤ (a.length : Int)
  | 0, _, r, hr => by cases hr
  | i + 1, hi, r, hr => by
    simp only [gapsUp] at hr
    rcases List.mem_append.1 hr with hr | hr
    · exact gapsUp_in hP i (by omega) r hr
    · have h1 := hP.le i (by omega)
      have h2 := hP.lg i (by omega)
      have h3 := endS_range pinned hP.pre i (by omega)
      obtain ⟨_, _, _, l4, l5, l6⟩ := objA_length (hP.isb _ (keep_mem (i := i) (by omega)))
      split at hr
      · simp only [List.mem_singleton] at hr
        subst hr
        simp only
        omega
      · cases hr
theorem planGaps_in {a keep pinned long : List Int} (hP : Plan a keep pinned long) : ∀ r ∈ planGapsL a.length keep long pinned, 0 ≤ r.1 ∧ 1 ≤ r.2 ∧ r.1 + r.2 ≤ (a.length : Int) := by
  intro r hr
  unfold planGapsL at hr
  rcases List.mem_append.1 hr with hr | hr
  · exact gapsUp_in hP _ (Nat.le_refl _) r hr
  · have h3 := endS_range pinned hP.pre keep.length (Nat.le_refl _)
    split at hr
    · simp only [List.mem_singleton] at hr
      subst hr
      simp only
      omega
    · cases hr
theorem planGaps_length (n : Int) (keep long pinned : List Int) : (planGapsL n keep long pinned).length ≤ keep.length + 1 := by
  have := gapsUp_length pinned keep long keep.length
  unfold planGapsL
  rw [List.length_append]
  split <;> simp <;> omega

def an_slide : Nat → Option LoopGen
  | 6 => some { rd := [.dat 39 (.arr ty_I), .own 9 3 ty_I], A := fun ((keep, to) : List Int × List Int) => { cs := [.map 37 .u64 ty_W, .dat 41 ty_I], inv := fun ((m, i) : List (Int × Int) × Int) => 0 ≤ i ∧ i ≤ keep.length ∧ m = nowUp keep to i.toNat, mu := fun ((_, i) : List (Int × Int) × Int) => (keep.length - i).toNat } }
  | 12 => some { rd := [.dat 60 (.arr ty_I), .own 9 3 ty_I, .dat 0 (.arr ty_W), .dat 2 (.arr ty_I)], wr := [14], A := fun ((keep, to, a, pinned) : List Int × List Int × List Int × List Int) => { cs := [.own 14 46 ty_W, .dat 62 ty_I], inv := fun ((w, i) : List Int × Int) => 0 ≤ i ∧ i ≤ keep.length ∧ ((keep.drop i.toNat).all fun at_ => goodR keep to (refsA a at_)) = (keep.all fun at_ => goodR keep to (refsA a at_)) ∧ w = slidUp a keep to pinned (longsF a keep pinned).1 i.toNat ++ List.replicate ((a.length : Int) - endS pinned keep (longsF a keep pinned).1 i.toNat).toNat 0, mu := fun ((_, i) : List Int × Int) => (keep.length - i).toNat } }
  | 18 => some { rd := [.dat 60 (.arr ty_I), .own 9 3 ty_I, .dat 0 (.arr ty_W), .dat 2 (.arr ty_I), .dat 15 ty_I, .dat 99 ty_I], wr := [14, 19], A := fun ((keep, to, a, pinned, i, n) : List Int × List Int × List Int × List Int × Int × Int) => { cs := [.own 14 46 ty_W, .part 19 14 ty_W, .dat 100 ty_I], inv := fun ((w, pt, k) : List Int × (Nat × Nat) × Int) => 0 ≤ k ∧ k ≤ n ∧ pt.1 = (toS pinned keep (longsF a keep pinned).1 i.toNat).toNat ∧ (pt.2 : Int) = (longsF a keep pinned).1.getD i.toNat 0 ∧ goodR keep to ((refsA a (keep.getD i.toNat 0)).drop k.toNat) = goodR keep to (refsA a (keep.getD i.toNat 0)) ∧
      w = (slidUp a keep to pinned (longsF a keep pinned).1 i.toNat ++ (gapW pinned keep (longsF a keep pinned).1 i.toNat ++ a.getD (keep.getD i.toNat 0).toNat 0 :: ((refsA a (keep.getD i.toNat 0)).take k.toNat).map (mapTo keep to))) ++ ((refsA a (keep.getD i.toNat 0)).drop k.toNat ++ (bodyA a (keep.getD i.toNat 0) ++ List.replicate ((a.length : Int) - endS pinned keep (longsF a keep pinned).1 (i.toNat + 1)).toNat 0)), mu := fun ((_, _, k) : List Int × (Nat × Nat) × Int) => (n - k).toNat } }
  | 28 => some { rd := [.own 129 159 ty_Gap, .own 14 46 ty_W], wr := [14], A := fun ((g, w0) : List Gap × List Int) => { cs := [.own 14 46 ty_W, .dat 131 ty_I], inv := fun ((w, i) : List Int × Int) => 0 ≤ i ∧ i ≤ g.length ∧ w.length = w0.length ∧ w = (g.take i.toNat).foldl freeSet w0, mu := fun ((_, i) : List Int × Int) => (g.length - i).toNat } }
  | _ => none
def sp_slide : Spec := { Ts := [.arr ty_W, .arr ty_I, .arr ty_I], Rs := [.own 46 ty_W, .own 3 ty_I, .dat ty_I], pre := fun _ => True, F := fun ((a, keep, pinned) : List Int × List Int × List Int) => slideF a keep pinned }

end Go.Proofs.Ytbidboeemnlglaa
