/- Contracts of package plan, and of what the reference says of plans. -/
import Derived.Test.YtbidboeemnlglaaLists
import Derived.Test.YtbidboeemnlglaaGapsSame
namespace Go.Proofs.Ytbidboeemnlglaa
open Go
set_option maxRecDepth 100000
set_option maxHeartbeats 1000000

def lgOf (l : List Spot) (at_ : Int) : Int := headLong (headAtL at_ l).1
def longsF (a keep pinned : List Int) : List Int × Int :=
  if (checkF a).2.2 ≠ 0 then ([], (checkF a).2.2) else if (risesL keep && risesL pinned) = false then ([], 3)
  else if (keep.all (isB (spotsF a).1)) = false then ([], 5) else if (pinned.all (inL keep)) = false then ([], 5) else (keep.map (lgOf (spotsF a).1), 0)

theorem isB_find {l : List Spot} (hs : l.Pairwise (fun s t => s.1 < t.1)) (at_ : Int) :
    (findFrom (fun s : Spot => decide (s.1 = at_) && !s.2.2.2.2) 0 l < 0 → isB l at_ = false) ∧
    (¬ findFrom (fun s : Spot => decide (s.1 = at_) && !s.2.2.2.2) 0 l < 0 → isB l at_ = true ∧ findFrom (fun s : Spot => decide (s.1 = at_) && !s.2.2.2.2) 0 l < (l.length : Int) ∧
      (l.getD (findFrom (fun s : Spot => decide (s.1 = at_) && !s.2.2.2.2) 0 l).toNat (0, 0, 0, 0, false)).2 = (headAtL at_ l).1 ∧ l.getD (findFrom (fun s : Spot => decide (s.1 = at_) && !s.2.2.2.2) 0 l).toNat (0, 0, 0, 0, false) ∈ l) := by
  have hf : (fun s : Spot => decide (s.1 = at_) && !s.2.2.2.2) = (fun s : Spot => decide (s.1 = at_) && s.2.2.2.2 == false) := by
    funext s
    cases s.2.2.2.2 <;> rfl
  obtain ⟨k1, k2⟩ := headAtL_find hs at_
  have hlt := findFrom_lt (fun s : Spot => decide (s.1 = at_) && s.2.2.2.2 == false) (0, 0, 0, 0, false) l 0 (by omega)
  rw [hf]
  unfold isB
  refine ⟨fun h => ?_, fun h => ?_⟩
  · rw [k1]
    unfold findG
    rw [if_pos h]
  · have e : findG l at_ false = (l.getD (findFrom (fun s : Spot => decide (s.1 = at_) && s.2.2.2.2 == false) 0 l).toNat (0, 0, 0, 0, false), true) := by
      unfold findG
      rw [if_neg h]
    have k3 := k2 (by rw [e])
    rw [k1, k3, e]
    exact ⟨rfl, by omega, rfl, getD_mem _ (by omega) (by omega)⟩

def sp_longIs : Spec := { Ts := [ty_Spot, .ref ty_I], Rs := [.dat .bool], pre := fun _ => True, F := fun ((s, at_) : Spot × Int) => decide (s.1 = at_) && !s.2.2.2.2 }

def sp_longNot : Spec := { Ts := [ty_I, .ref (.arr ty_I)], Rs := [.dat .bool], pre := fun _ => True, F := fun ((at_, keep) : Int × List Int) => !inL keep at_ }

def an_longs : Nat → Option LoopGen
  | 9 => some { rd := [.own 9 155 ty_Spot, .dat 35 (.arr ty_I)], A := fun ((l, keep) : List Spot × List Int) => { cs := [.own 11 3 ty_I, .dat 37 ty_I], inv := fun ((out, i) : List Int × Int) => 0 ≤ i ∧ i ≤ keep.length ∧ (keep.drop i.toNat).all (isB l) = keep.all (isB l) ∧ out = (keep.take i.toNat).map (lgOf l), mu := fun ((_, i) : List Int × Int) => (keep.length - i).toNat } }
  | _ => none
def sp_longs : Spec := { Ts := [.arr ty_W, .arr ty_I, .arr ty_I], Rs := [.own 3 ty_I, .dat ty_I], pre := fun _ => True, F := fun ((a, keep, pinned) : List Int × List Int × List Int) => longsF a keep pinned }

/-- Where the words that are filled end, behind the first i; where the i-th goes. -/
def endS (pinned keep long : List Int) : Nat → Int
  | 0 => 0
  | i + 1 => (if inL pinned (keep.getD i 0) = true then keep.getD i 0 else endS pinned keep long i) + long.getD i 0
def toS (pinned keep long : List Int) (i : Nat) : Int := if inL pinned (keep.getD i 0) = true then keep.getD i 0 else endS pinned keep long i
def planS (keep long pinned : List Int) : List Int := (List.range keep.length).map (toS pinned keep long)
def planPre (keep long : List Int) : Prop := long.length = keep.length ∧ keep.length ≤ 256 ∧ (∀ x ∈ keep, 0 ≤ x ∧ x ≤ 255) ∧ ∀ n ∈ long, 1 ≤ n ∧ n ≤ 256
theorem endS_range {keep long : List Int} (pinned : List Int) (h : planPre keep long) : ∀ i : Nat, i ≤ keep.length → 0 ≤ endS pinned keep long i ∧ endS pinned keep long i ≤ 512 * i
  | 0, _ => by simp [endS]
  | i + 1, hi => by
    have ih := endS_range pinned h i (by omega)
    obtain ⟨h1, h2, h3, h4⟩ := h
    have k1 := h3 _ (getD_mem (0 : Int) (xs := keep) (i := i) (by omega) (by omega))
    have k2 := h4 _ (getD_mem (0 : Int) (xs := long) (i := i) (by omega) (by omega))
    simp only [Int.toNat_natCast] at k1 k2
    simp only [endS]
    split <;> omega
theorem toS_range {keep long : List Int} (pinned : List Int) (h : planPre keep long) {i : Nat} (hi : i < keep.length) : 0 ≤ toS pinned keep long i ∧ toS pinned keep long i ≤ 512 * i + 255 := by
  have h0 := endS_range pinned h i (by omega)
  have k1 := h.2.2.1 _ (getD_mem (0 : Int) (xs := keep) (i := i) (by omega) (by omega))
  simp only [Int.toNat_natCast] at k1
  unfold toS
  split <;> omega

def an_slid : Nat → Option LoopGen
  | 4 => some { rd := [.dat 11 (.arr ty_I), .dat 1 (.arr ty_I), .dat 2 (.arr ty_I)], A := fun ((keep, long, pinned) : List Int × List Int × List Int) => { cs := [.own 7 3 ty_I, .dat 8 ty_I, .dat 13 ty_I], inv := fun ((out, e, i) : List Int × Int × Int) => 0 ≤ i ∧ i ≤ keep.length ∧ out = (List.range i.toNat).map (toS pinned keep long) ∧ e = endS pinned keep long i.toNat, mu := fun ((_, _, i) : List Int × Int × Int) => (keep.length - i).toNat } }
  | _ => none
def sp_slid : Spec := { Ts := [.arr ty_I, .arr ty_I, .arr ty_I], Rs := [.own 3 ty_I], pre := fun ((keep, long, _) : List Int × List Int × List Int) => planPre keep long, F := fun ((keep, long, pinned) : List Int × List Int × List Int) => planS keep long pinned }

def sp_planTo : Spec := { Ts := [.arr ty_W, .arr ty_I, .arr ty_I], Rs := [.own 3 ty_I, .dat ty_I], pre := fun _ => True, F := fun ((a, keep, pinned) : List Int × List Int × List Int) => ((if (longsF a keep pinned).2 ≠ 0 then [] else planS keep (longsF a keep pinned).1 pinned, (longsF a keep pinned).2) : List Int × Int) }
theorem risesL_pairwise : ∀ {l : List Int}, risesL l = true → l.Pairwise (· < ·)
  | [], _ => List.Pairwise.nil
  | [x], _ => by simp
  | x :: y :: l, h => by
    simp only [risesL, Bool.and_eq_true, decide_eq_true_eq] at h
    have ih := risesL_pairwise h.2
    refine List.pairwise_cons.2 ⟨fun z hz => ?_, ih⟩
    rcases List.mem_cons.1 hz with rfl | hz
    · exact h.1
    · have := (List.pairwise_cons.1 ih).1 z hz
      omega
theorem pairwise_length : ∀ {l : List Int} {s : Int}, l.Pairwise (· < ·) → (∀ x ∈ l, s ≤ x ∧ x ≤ 255) → s ≤ 256 → (l.length : Int) ≤ 256 - s
  | [], s, _, _, h => by simp; omega
  | x :: l, s, hp, hr, _ => by
    obtain ⟨h1, h2⟩ := List.pairwise_cons.1 hp
    have h3 := hr x (by simp)
    have ih := pairwise_length (s := x + 1) h2 (fun y hy => by have := h1 y hy; have := hr y (by simp [hy]); omega) (by omega)
    simp only [List.length_cons]
    omega
theorem isB_in {a : List Int} {at_ : Int} (h : isB (spotsF a).1 at_ = true) : ∃ s ∈ (spotsF a).1, s.1 = at_ ∧ s.2.2.2.2 = false ∧ lgOf (spotsF a).1 at_ = headLong s.2 := by
  unfold isB lgOf at *
  rcases headAtL_in at_ (spotsF a).1 with e | ⟨s, h1, h2, h3, e⟩
  · rw [e] at h; cases h
  · exact ⟨s, h1, h2, h3, by rw [e]⟩
/-- What is known where a plan can be made. -/
theorem longs_ok {a keep pinned : List Int} (h : (longsF a keep pinned).2 = 0) : (checkF a).2.2 = 0 ∧ risesL keep = true ∧ risesL pinned = true ∧ (∀ x ∈ keep, isB (spotsF a).1 x = true) ∧ (∀ x ∈ pinned, inL keep x = true) ∧ (longsF a keep pinned).1 = keep.map (lgOf (spotsF a).1) := by
  unfold longsF at *
  by_cases h1 : (checkF a).2.2 ≠ 0
  · rw [if_pos h1] at h; exact absurd h h1
  rw [if_neg h1] at h ⊢
  by_cases h2 : (risesL keep && risesL pinned) = false
  · rw [if_pos h2] at h; simp at h
  rw [if_neg h2] at h ⊢
  by_cases h3 : (keep.all (isB (spotsF a).1)) = false
  · rw [if_pos h3] at h; simp at h
  rw [if_neg h3] at h ⊢
  by_cases h4 : (pinned.all (inL keep)) = false
  · rw [if_pos h4] at h; simp at h
  rw [if_neg h4]
  have h2 : risesL keep = true ∧ risesL pinned = true := by simpa using h2
  have h3 : keep.all (isB (spotsF a).1) = true := by simpa using h3
  have h4 : pinned.all (inL keep) = true := by simpa using h4
  exact ⟨by omega, h2.1, h2.2, fun x hx => List.all_eq_true.1 h3 x hx, fun x hx => List.all_eq_true.1 h4 x hx, rfl⟩
theorem longs_pre {a keep pinned : List Int} (h : (longsF a keep pinned).2 = 0) : planPre keep (longsF a keep pinned).1 := by
  obtain ⟨_, h2, _, h4, _, h6⟩ := longs_ok h
  have hr : ∀ x ∈ keep, 0 ≤ x ∧ x ≤ 255 := fun x hx => by
    obtain ⟨s, h1, h2, _⟩ := isB_in (h4 x hx)
    have := spots_range s h1
    omega
  have hl := pairwise_length (risesL_pairwise h2) hr (by omega)
  refine ⟨by rw [h6]; simp, by omega, hr, fun n hn => ?_⟩
  rw [h6] at hn
  obtain ⟨x, hx, rfl⟩ := List.mem_map.1 hn
  obtain ⟨s, h1, _, _, e⟩ := isB_in (h4 x hx)
  have hz := headFault_zero (spotsF_in2 a s h1).2.2
  rw [e]
  unfold headLong
  omega

/-- The gaps ahead of the first i. -/
def gapsUp (pinned keep long : List Int) : Nat → List Gap
  | 0 => []
  | i + 1 => gapsUp pinned keep long i ++ (if endS pinned keep long i < toS pinned keep long i then [(endS pinned keep long i, toS pinned keep long i - endS pinned keep long i)] else [])
theorem gapsUp_length (pinned keep long : List Int) : ∀ i, (gapsUp pinned keep long i).length ≤ i
  | 0 => by simp [gapsUp]
  | i + 1 => by
    have := gapsUp_length pinned keep long i
    simp only [gapsUp, List.length_append]
    split <;> simp <;> omega
def planGapsL (n : Int) (keep long pinned : List Int) : List Gap := gapsUp pinned keep long keep.length ++ (if endS pinned keep long keep.length < n then [(endS pinned keep long keep.length, n - endS pinned keep long keep.length)] else [])
def planGapsF (a keep pinned : List Int) : List Gap × Int := (if (longsF a keep pinned).2 ≠ 0 then [] else planGapsL a.length keep (longsF a keep pinned).1 pinned, (longsF a keep pinned).2)
def an_planGaps : Nat → Option LoopGen
  | 3000187 => some an_in
  | 8 => some { rd := [.own 8 3 ty_I, .own 29 3 ty_I, .dat 1 (.arr ty_I), .dat 2 (.arr ty_I)], A := fun ((long, to, keep, pinned) : List Int × List Int × List Int × List Int) => { cs := [.boxS 10 [.own 159 ty_Gap], .box 11 ty_I, .dat 31 ty_I], inv := fun ((out, e, i) : List Gap × Int × Int) => 0 ≤ i ∧ i ≤ keep.length ∧ to = planS keep long pinned ∧ out = gapsUp pinned keep long i.toNat ∧ e = endS pinned keep long i.toNat, mu := fun ((_, _, i) : List Gap × Int × Int) => (keep.length - i).toNat } }
  | _ => none
def sp_planGaps : Spec := { Ts := [.arr ty_W, .arr ty_I, .arr ty_I], Rs := [.own 159 ty_Gap, .dat ty_I], pre := fun _ => True, F := fun ((a, keep, pinned) : List Int × List Int × List Int) => planGapsF a keep pinned }

def planFault (a keep pinned : List Int) : Int := if arenaF a ≠ 0 then arenaF a else if (risesL keep && risesL pinned) = false then 3 else if (keep.all (inL (beginsL (spotsF a).1))) = false then 5 else if (pinned.all (inL keep)) = false then 5 else 0
def an_planFault : Nat → Option LoopGen
  | 10 => some { rd := [.dat 31 (.arr ty_I), .dat 1 (.arr ty_I)], A := fun ((pinned, keep) : List Int × List Int) => { cs := [.dat 33 ty_I], inv := fun (i : Int) => 0 ≤ i ∧ i ≤ pinned.length ∧ (pinned.drop i.toNat).all (inL keep) = pinned.all (inL keep), mu := fun (i : Int) => (pinned.length - i).toNat } }
  | _ => none
def sp_planFault : Spec := { Ts := [.arr ty_W, .arr ty_I, .arr ty_I], Rs := [.dat ty_I], pre := fun _ => True, F := fun ((a, keep, pinned) : List Int × List Int × List Int) => planFault a keep pinned }

theorem headAt_ok (a : List Int) (at_ : Int) : headFault (headAtL at_ (spotsF a).1).1 = 0 := by
  rcases headAtL_in at_ (spotsF a).1 with e | ⟨s, h1, _, _, e⟩
  · rw [e]; rfl
  · rw [e]; exact (spotsF_in2 a s h1).2.2
theorem lg_ok (a : List Int) (at_ : Int) : 1 ≤ lgOf (spotsF a).1 at_ ∧ lgOf (spotsF a).1 at_ ≤ 256 := by
  have := headFault_zero (headAt_ok a at_)
  unfold lgOf headLong
  omega
def an_planned : Nat → Option LoopGen
  | 3 => some { rd := [.dat 0 (.arr ty_W), .dat 13 (.arr ty_I), .dat 2 (.arr ty_I)], A := fun ((a, keep, pinned) : List Int × List Int × List Int) => { cs := [.own 7 3 ty_I, .dat 15 ty_I], inv := fun ((out, i) : List Int × Int) => 0 ≤ i ∧ i ≤ keep.length ∧ out = (List.range i.toNat).map (toS pinned keep (keep.map (lgOf (spotsF a).1))), mu := fun ((_, i) : List Int × Int) => (keep.length - i).toNat } }
  | 9 => some { rd := [.dat 0 (.arr ty_W), .dat 1 (.arr ty_I), .dat 2 (.arr ty_I), .dat 8 ty_I], A := fun ((a, keep, pinned, i) : List Int × List Int × List Int × Int) => { cs := [.dat 9 ty_I, .dat 10 ty_I], inv := fun ((s, k) : Int × Int) => -1 ≤ k ∧ k < i ∧ 0 ≤ s ∧ s + endS pinned keep (keep.map (lgOf (spotsF a).1)) (k + 1).toNat = endS pinned keep (keep.map (lgOf (spotsF a).1)) i.toNat, mu := fun ((_, k) : Int × Int) => (k + 1).toNat } }
  | _ => none
def sp_planned : Spec := { Ts := [.arr ty_W, .arr ty_I, .arr ty_I], Rs := [.own 3 ty_I], pre := fun ((a, keep, _) : List Int × List Int × List Int) => planPre keep (keep.map (lgOf (spotsF a).1)), F := fun ((a, keep, pinned) : List Int × List Int × List Int) => planS keep (keep.map (lgOf (spotsF a).1)) pinned }

def covS (l : List Spot) (keep to : List Int) (k : Int) : Bool := (List.range keep.length).any fun i => decide (to.getD i 0 ≤ k) && decide (k < to.getD i 0 + lgOf l (keep.getD i 0))
def an_planFree : Nat → Option LoopGen
  | 2 => some { rd := [.dat 0 ty_I, .dat 10 (.arr ty_I), .dat 2 (.ref (.arr ty_W)), .dat 3 (.ref (.arr ty_I))], A := fun ((k, keep, a, to) : Int × List Int × List Int × List Int) => { cs := [.dat 12 ty_I], inv := fun (i : Int) => 0 ≤ i ∧ i ≤ keep.length ∧ ((List.range i.toNat).any fun i => decide (to.getD i 0 ≤ k) && decide (k < to.getD i 0 + lgOf (spotsF a).1 (keep.getD i 0))) = false, mu := fun (i : Int) => (keep.length - i).toNat } }
  | _ => none
def sp_planFree : Spec := { Ts := [ty_I, .ref (.arr ty_I), .ref (.arr ty_W), .ref (.arr ty_I)], Rs := [.dat .bool], pre := fun ((_, keep, _, to) : Int × List Int × List Int × List Int) => to.length = keep.length ∧ keep.length ≤ 256 ∧ ∀ x ∈ to, 0 ≤ x ∧ x ≤ 200000, F := fun ((k, keep, a, to) : Int × List Int × List Int × List Int) => !covS (spotsF a).1 keep to k }

def sp_rPlanGaps : Spec := { Ts := [.arr ty_W, .arr ty_I, .arr ty_I], Rs := [.own 159 ty_Gap], pre := fun ((a, keep, _) : List Int × List Int × List Int) => a.length ≤ 256 ∧ planPre keep (keep.map (lgOf (spotsF a).1)), F := fun ((a, keep, pinned) : List Int × List Int × List Int) => runsGo (fun k => !covS (spotsF a).1 keep (planS keep (keep.map (lgOf (spotsF a).1)) pinned) k) a.length 0 [] }

end Go.Proofs.Ytbidboeemnlglaa
