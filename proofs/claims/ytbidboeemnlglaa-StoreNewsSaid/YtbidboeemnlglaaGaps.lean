/- Contracts of package gap: Gaps, Join, Take, Give. -/
import Derived.Test.YtbidboeemnlglaaWalks
namespace Go.Proofs.Ytbidboeemnlglaa
open Go
set_option maxRecDepth 100000
set_option maxHeartbeats 1000000

abbrev ty_Gap : Ty := .pair ty_I ty_I
abbrev Gap := Int × Int

def sp_gapLong : Spec := { Ts := [ty_Head], Rs := [.dat ty_I], pre := fun _ => True, F := fun (h : Head) => (if headFault h = 0 then headLong h else 0 : Int) }

def gspotsF (a : List Int) : List Spot × Int := if (checkF a).2.2 ≠ 0 then ([], (checkF a).2.2) else ((spotsF a).1, 0)
def sp_gapSpots : Spec := { Ts := [.arr ty_W], Rs := [.own 155 ty_Spot, .dat ty_I], pre := fun _ => True, F := gspotsF }

/-- The last stretch is n longer. -/
def bumpL (out : List Gap) (n : Int) : List Gap := out.set (out.length - 1) ((out.getD (out.length - 1) (0, 0)).1, (out.getD (out.length - 1) (0, 0)).2 + n)
def gapsL : Bool → List Gap → List Spot → List Gap
  | _, out, [] => out
  | p, out, s :: l => gapsL s.2.2.2.2 (if s.2.2.2.2 = true then (if p = true then bumpL out (headLong s.2) else out ++ [(s.1, headLong s.2)]) else out) l
theorem bumpL_length (out : List Gap) (n : Int) : (bumpL out n).length = out.length := by simp [bumpL]

def lastFree (l : List Spot) (i : Int) : Bool := decide (0 < i) && (l.getD (i - 1).toNat (0, 0, 0, 0, false)).2.2.2.2
def an_gapGaps : Nat → Option LoopGen
  | 3 => some { rd := [.dat 6 (.arr ty_Spot)], A := fun (l : List Spot) => { cs := [.own 3 159 ty_Gap, .dat 8 ty_I], inv := fun ((out, i) : List Gap × Int) => 0 ≤ i ∧ i ≤ l.length ∧ l.length ≤ 256 ∧ (∀ s ∈ l, headFault s.2 = 0) ∧ out.length ≤ i ∧ (lastFree l i = true → 0 < out.length) ∧ (∀ r ∈ out, 0 ≤ r.2 ∧ r.2 ≤ 256 * i) ∧ gapsL (lastFree l i) out (l.drop i.toNat) = gapsL false [] l, mu := fun ((_, i) : List Gap × Int) => (l.length - i).toNat } }
  | _ => none
def sp_gapGaps : Spec := { Ts := [.arr ty_Spot], Rs := [.own 159 ty_Gap], pre := fun (l : List Spot) => l.length ≤ 256 ∧ ∀ s ∈ l, headFault s.2 = 0, F := fun (l : List Spot) => gapsL false [] l }

def gapsGF (a : List Int) : List Gap × Int := if (checkF a).2.2 ≠ 0 then ([], (checkF a).2.2) else (gapsL false [] (spotsF a).1, 0)
def sp_gapsGaps : Spec := { Ts := [.arr ty_W], Rs := [.own 159 ty_Gap, .dat ty_I], pre := fun _ => True, F := gapsGF }

/-- A stretch becomes one free object. -/
def emptiedL (a : List Int) (at_ n : Int) : List Int := if 0 < n then (fillL a at_ n 0 n).set at_.toNat (headWord (0, n - 1, 0, true)) else a
def layPre (a : List Int) (at_ n : Int) : Prop := 0 ≤ at_ ∧ 0 ≤ n ∧ at_ + n ≤ a.length ∧ a.length ≤ 256
theorem fillF_ok {a : List Int} {at_ n v : Int} (h : layPre a at_ n) : fillF a at_ n v = (fillL a at_ n v n, 0) := by
  obtain ⟨h1, h2, h3, h4⟩ := h
  have : stretchF a.length n [at_] = 0 := by
    rw [stretch1, if_neg (by omega), if_pos]
    rw [stretchOK_iff]
    omega
  unfold fillF
  rw [if_pos this]

def sp_lay1 : Spec := { Ts := [.arr ty_W, ty_I, ty_I], Rs := [.own 46 ty_W], pre := fun ((a, at_, n) : List Int × Int × Int) => layPre a at_ n ∧ 1 ≤ n, F := fun ((a, at_, n) : List Int × Int × Int) => emptiedL a at_ n }

def sp_layA : Spec := { Ts := [.arr ty_W, ty_I, ty_I], Rs := [.dat (.arr ty_W)], al := true, pre := fun ((a, at_, n) : List Int × Int × Int) => layPre a at_ n, F := fun ((a, at_, n) : List Int × Int × Int) => emptiedL a at_ n }

def joinF (a : List Int) : List Int × Int := if (checkF a).2.2 ≠ 0 then ([], (checkF a).2.2) else ((gapsL false [] (spotsF a).1).foldl (fun a r => emptiedL a r.1 r.2) a, 0)
theorem emptiedL_length {a : List Int} {at_ n : Int} (h : layPre a at_ n) : (emptiedL a at_ n).length = a.length := by
  obtain ⟨p1, p2, p3, p4⟩ := h
  unfold emptiedL
  split
  · rw [List.length_set]
    exact fillL_length a at_ n 0 n p1 p3 p2 (by omega)
  · rfl
/-- The objects lie one behind the other, from s to e. -/
def Tiles : Int → Int → List Spot → Prop
  | s, e, [] => s = e
  | s, e, x :: r => x.1 = s ∧ 1 ≤ headLong x.2 ∧ Tiles (s + headLong x.2) e r

theorem spotsS_tiles (at_ : Int) (l : List Int) (r : List Spot) (h : spotsS at_ l = some r) : Tiles at_ (at_ + l.length) r := by
  induction at_, l using spotsS.induct generalizing r with
  | case1 at_ =>
    simp only [spotsS, Option.some.injEq] at h
    subst h
    simp [Tiles]
  | case2 at_ v l hv ih =>
    rw [spotsS_cons hv.1 hv.2] at h
    obtain ⟨r', hr, rfl⟩ := Option.map_eq_some_iff.1 h
    have hl := isHead_long hv.1
    have h2 := ih r' hr
    refine ⟨rfl, hl.1, ?_⟩
    have e : at_ + headLong (headOf v) + (((v :: l).drop (headLong (headOf v)).toNat).length : Nat) = at_ + ((v :: l).length : Nat) := by
      rw [List.length_drop]
      have := hv.2
      omega
    rw [e] at h2
    exact h2
  | case3 at_ v l hv =>
    rw [spotsS_none hv] at h
    cases h

theorem spotsF_tiles {a : List Int} (h : (spotsF a).2 = 0) : Tiles 0 a.length (spotsF a).1 := by
  unfold spotsF at h ⊢
  split at h
  · simp at h
  rename_i cl
  rw [if_neg cl]
  cases e : spotsS 0 a with
  | none => rw [e] at h; simp at h
  | some l =>
    have := spotsS_tiles 0 a l e
    rw [Int.zero_add] at this
    exact this

/-- The stretches lie within so many words. -/
def gapsIn (n : Int) (l : List Gap) : Prop := ∀ r ∈ l, 0 ≤ r.1 ∧ 1 ≤ r.2 ∧ r.1 + r.2 ≤ n

theorem gapsL_in : ∀ (l : List Spot) (s e : Int) (p : Bool) (out : List Gap), Tiles s e l → 0 ≤ s → gapsIn s out → (p = true → 0 < out.length ∧ (out.getD (out.length - 1) (0, 0)).1 + (out.getD (out.length - 1) (0, 0)).2 = s) → gapsIn e (gapsL p out l) ∧ s ≤ e
  | [], s, e, p, out, ht, h0, ho, _ => by
    have : s = e := ht
    subst this
    exact ⟨ho, Int.le_refl _⟩
  | x :: l, s, e, p, out, ⟨h1, h2, h3⟩, h0, ho, hp => by
    simp only [gapsL]
    have up : gapsIn (s + headLong x.2) out := fun r hr => by have := ho r hr; omega
    cases hf : x.2.2.2.2
    · have ih := gapsL_in l _ e false out h3 (by omega) up (fun h => by cases h)
      simp only [Bool.false_eq_true, if_false]
      exact ⟨ih.1, by omega⟩
    · simp only [if_true]
      cases p
      · have ih := gapsL_in l _ e true (out ++ [(x.1, headLong x.2)]) h3 (by omega) (fun r hr => by
          rcases List.mem_append.1 hr with hr | hr
          · exact up r hr
          · simp only [List.mem_singleton] at hr
            subst hr
            simp only
            omega) (fun _ => ⟨by simp, by simp; omega⟩)
        simp only [Bool.false_eq_true, if_false]
        exact ⟨ih.1, by omega⟩
      · obtain ⟨q1, q2⟩ := hp rfl
        have hlast := ho _ (getD_mem ((0, 0) : Gap) (xs := out) (i := (out.length : Int) - 1) (by omega) (by omega))
        rw [show ((out.length : Int) - 1).toNat = out.length - 1 by omega] at hlast
        have ih := gapsL_in l _ e true (bumpL out (headLong x.2)) h3 (by omega) (fun r hr => by
          rcases List.mem_or_eq_of_mem_set hr with hr | rfl
          · exact up r hr
          · simp only
            omega) (fun _ => ⟨by rw [bumpL_length]; exact q1, by
              rw [bumpL_length]
              unfold bumpL
              simp [show out.length - 1 < out.length by omega]
              simp [show out.length - 1 < out.length by omega] at q2
              omega⟩)
        simp only [if_true]
        exact ⟨ih.1, by omega⟩

theorem gapsL_length : ∀ (l : List Spot) (p : Bool) (out : List Gap), (gapsL p out l).length ≤ out.length + l.length
  | [], _, _ => by simp [gapsL]
  | x :: l, p, out => by
    have h1 := gapsL_length l x.2.2.2.2 (if x.2.2.2.2 = true then (if p = true then bumpL out (headLong x.2) else out ++ [(x.1, headLong x.2)]) else out)
    simp only [gapsL, List.length_cons]
    have : (if x.2.2.2.2 = true then (if p = true then bumpL out (headLong x.2) else out ++ [(x.1, headLong x.2)]) else out).length ≤ out.length + 1 := by
      split
      · split
        · rw [bumpL_length]; omega
        · simp
      · omega
    omega

theorem gaps_in {a : List Int} (h : (spotsF a).2 = 0) : gapsIn a.length (gapsL false [] (spotsF a).1) ∧ (gapsL false [] (spotsF a).1).length ≤ 256 := by
  have h1 := gapsL_in _ 0 a.length false [] (spotsF_tiles h) (Int.le_refl _) (fun r hr => by cases hr) (fun h => by cases h)
  have h2 := gapsL_length (spotsF a).1 false []
  have h3 := spotsF_length a
  exact ⟨h1.1, by simp at h2; omega⟩

def an_gapJoin : Nat → Option LoopGen
  | 6 => some { rd := [.own 19 159 ty_Gap, .own 0 46 ty_W], A := fun ((g, b) : List Gap × List Int) => { cs := [.own 0 46 ty_W, .dat 21 ty_I], inv := fun ((a, i) : List Int × Int) => 0 ≤ i ∧ i ≤ g.length ∧ g.length ≤ 256 ∧ a.length ≤ 256 ∧ gapsIn a.length g ∧ a = (g.take i.toNat).foldl (fun a r => emptiedL a r.1 r.2) b, mu := fun ((_, i) : List Int × Int) => (g.length - i).toNat } }
  | _ => none
def sp_gapJoin : Spec := { Ts := [.arr ty_W], Rs := [.own 46 ty_W, .dat ty_I], pre := fun _ => True, F := joinF }

def findG (l : List Spot) (at_ : Int) (fr : Bool) : Spot × Bool :=
  if findFrom (fun s : Spot => decide (s.1 = at_) && s.2.2.2.2 == fr) 0 l < 0 then ((0, 0, 0, 0, false), false) else (l.getD (findFrom (fun s : Spot => decide (s.1 = at_) && s.2.2.2.2 == fr) 0 l).toNat (0, 0, 0, 0, false), true)
def sp_gapIs : Spec := { Ts := [ty_Spot, .ref ty_I, .ref .bool], Rs := [.dat .bool], pre := fun _ => True, F := fun ((s, at_, fr) : Spot × Int × Bool) => decide (s.1 = at_) && s.2.2.2.2 == fr }

def sp_gapFind : Spec := { Ts := [.arr ty_Spot, ty_I, .bool], Rs := [.dat ty_Spot, .dat .bool], pre := fun _ => True, F := fun ((l, at_, fr) : List Spot × Int × Bool) => findG l at_ fr }

theorem findG_in (l : List Spot) (at_ : Int) (fr : Bool) (h : (findG l at_ fr).2 = true) : (findG l at_ fr).1 ∈ l ∧ (findG l at_ fr).1.1 = at_ ∧ (findG l at_ fr).1.2.2.2.2 = fr := by
  have hlt := findFrom_lt (fun s : Spot => decide (s.1 = at_) && s.2.2.2.2 == fr) (0, 0, 0, 0, false) l 0 (by omega)
  have his := findFrom_is (fun s : Spot => decide (s.1 = at_) && s.2.2.2.2 == fr) (0, 0, 0, 0, false) l 0
  unfold findG at h ⊢
  split at h
  · cases h
  · rename_i hn
    rw [if_neg hn]
    have his := his (by omega) (by omega)
    rw [Int.sub_zero] at his
    simp only [Bool.and_eq_true, decide_eq_true_eq, beq_iff_eq] at his
    exact ⟨getD_mem _ (by omega) (by omega), his.1, his.2⟩

theorem gspots_fault {a : List Int} : (gspotsF a).2 = (checkF a).2.2 := by
  unfold gspotsF
  split
  · rfl
  · simp only; omega
theorem gspots_ok {a : List Int} (h : (checkF a).2.2 = 0) : (gspotsF a).1 = (spotsF a).1 ∧ a.length ≤ 256 ∧ ∀ s ∈ (spotsF a).1, spotIn a s ∧ headFault s.2 = 0 := by
  obtain ⟨h1, _, h3, _, _, _, h5⟩ := checkF_in h
  rw [h3] at h5
  unfold gspotsF
  rw [if_neg (by omega)]
  exact ⟨rfl, h1, h5⟩

def sp_idxW : Spec := { Ts := [.arr ty_W, ty_W], Rs := [.dat ty_I], pre := fun _ => True, F := fun ((l, v) : List Int × Int) => findFrom (fun x => decide (v = x)) 0 l }
def an_idxW : Nat → Option LoopGen
  | 2 => some { rd := [.dat 0 (.arr ty_W), .dat 1 ty_W], A := fun ((l, v) : List Int × Int) => { cs := [.dat 8 ty_I], inv := fun (i : Int) => 0 ≤ i ∧ i ≤ l.length ∧ findFrom (fun x => decide (v = x)) i (l.drop i.toNat) = findFrom (fun x => decide (v = x)) 0 l, mu := fun (i : Int) => (l.length - i).toNat } }
  | _ => none

def sp_hasW : Spec := { Ts := [.arr ty_W, ty_W], Rs := [.dat .bool], pre := fun _ => True, F := fun ((l, v) : List Int × Int) => l.any fun x => decide (v = x) }

def takeF (a : List Int) (at_ : Int) (h : Head) : List Int × Int :=
  if headFault h ≠ 0 then ([], headFault h) else if h.2.2.2 = true then ([], 3) else if (checkF a).2.2 ≠ 0 then ([], (checkF a).2.2)
  else if (findG (spotsF a).1 at_ true).2 = false then ([], 5) else if headLong (findG (spotsF a).1 at_ true).1.2 < headLong h then ([], 7)
  else (emptiedL ((fillL a at_ (headLong (findG (spotsF a).1 at_ true).1.2) 0 (headLong (findG (spotsF a).1 at_ true).1.2)).set at_.toNat (headWord h)) (at_ + headLong h) (headLong (findG (spotsF a).1 at_ true).1.2 - headLong h), 0)
def sp_gapTake : Spec := { Ts := [.arr ty_W, ty_I, ty_Head], Rs := [.dat (.arr ty_W), .dat ty_I], al := true, pre := fun _ => True, F := fun ((a, at_, h) : List Int × Int × Head) => takeF a at_ h }

def giveF (a : List Int) (at_ : Int) : List Int × Int :=
  if (checkF a).2.2 ≠ 0 then ([], (checkF a).2.2) else if (findG (spotsF a).1 at_ false).2 = false then ([], 5)
  else if ((spotsF a).1.any fun s => decide (s.1 ≠ at_) && (spotRefs a s).any fun x => decide (at_ + 1 = x)) = true then ([], 8) else (emptiedL a at_ (headLong (findG (spotsF a).1 at_ false).1.2), 0)
def an_gapGive : Nat → Option LoopGen
  | 8 => some { rd := [.own 28 155 ty_Spot, .dat 0 (.arr ty_W), .dat 1 ty_I], A := fun ((l, a, at_) : List Spot × List Int × Int) => { cs := [.dat 30 ty_I], inv := fun (i : Int) => 0 ≤ i ∧ i ≤ l.length ∧ l.length ≤ 256 ∧ a.length ≤ 256 ∧ 0 ≤ at_ ∧ at_ ≤ 256 ∧ (∀ s ∈ l, spotIn a s) ∧ ((l.drop i.toNat).any fun s => decide (s.1 ≠ at_) && (spotRefs a s).any fun x => decide (at_ + 1 = x)) = (l.any fun s => decide (s.1 ≠ at_) && (spotRefs a s).any fun x => decide (at_ + 1 = x)), mu := fun (i : Int) => (l.length - i).toNat } }
  | _ => none
def sp_gapGive : Spec := { Ts := [.arr ty_W, ty_I], Rs := [.dat (.arr ty_W), .dat ty_I], al := true, pre := fun _ => True, F := fun ((a, at_) : List Int × Int) => giveF a at_ }

end Go.Proofs.Ytbidboeemnlglaa
