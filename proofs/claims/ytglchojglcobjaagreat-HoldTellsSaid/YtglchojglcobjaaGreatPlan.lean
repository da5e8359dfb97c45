
import Derived.Test.YtglchojglcobjaaGreatLists
import Derived.Test.YtglchojglcobjaaGreatGapsSame
namespace Go.Proofs.YtglchojglcobjaaGreat
open Go
set_option maxRecDepth 100000
set_option maxHeartbeats 1000000
def lgOf (l : List Spot) (at_ : Int) : Int := headLong (headAtL at_ l).1
def longsF (a keep pinned : List Int) : List Int × Int :=
 if (checkF a).2.2 ≠ 0 then ([], (checkF a).2.2) else if (risesL keep && risesL pinned) = false then ([], 3)
 else if (keep.all (isB (spotsF a).1)) = false then ([], 5) else if (pinned.all (inL keep)) = false then ([], 5) else (keep.map (lgOf (spotsF a).1), 0)
theorem isB_find {l : List Spot} (hs : l.Pairwise (fun s t => s.1 < t.1)) (at_ : Int) :
  (findFrom (fun s : Spot => decide (s.1 = at_) && !s.2.2.2.2) 0 l < 0 → isB l at_ = false) ∧
  (¬ findFrom (fun s : Spot => decide (s.1 = at_) && !s.2.2.2.2) 0 l < 0 → isB l at_ = true ∧ findFrom (fun s : Spot => decide (s.1 = at_) && !s.2.2.2.2) 0 l < (l.length : Int) ∧
   (l.getD (findFrom (fun s : Spot => decide (s.1 = at_) && !s.2.2.2.2) 0 l).toNat (0, 0, 0, 0, false)).2 = (headAtL at_ l).1 ∧ l.getD (findFrom (fun s : Spot => decide (s.1 = at_) && !s.2.2.2.2) 0 l).toNat (0, 0, 0, 0, false) ∈ l) := by
 have hf : (fun s : Spot => decide (s.1 = at_) && !s.2.2.2.2) = (fun s : Spot => decide (s.1 = at_) && s.2.2.2.2 == false) := by
  funext s
  cases s.2.2.2.2 <;> rfl
 obtain ⟨k1, k2⟩ := headAtL_find hs at_
 have hlt := findFrom_lt (fun s : Spot => decide (s.1 = at_) && s.2.2.2.2 == false) (0, 0, 0, 0, false) l 0 (by omega)
 rw [hf]
 unfold isB
 refine ⟨fun h => ?_, fun h => ?_⟩
 ·rw [k1]
  unfold findG
  rw [if_pos h]
 ·have e : findG l at_ false = (l.getD (findFrom (fun s : Spot => decide (s.1 = at_) && s.2.2.2.2 == false) 0 l).toNat (0, 0, 0, 0, false), true) := by
   unfold findG
   rw [if_neg h]
  have k3 := k2 (by rw [e])
  rw [k1, k3, e]
  exact ⟨rfl, by omega, rfl, getD_mem _ (by omega) (by omega)⟩
def sp_longIs : Spec := { Ts := [ty_Spot, .ref ty_I], Rs := [.dat .bool], pre := fun _ => True, F := fun ((s, at_) : Spot × Int) => decide (s.1 = at_) && !s.2.2.2.2 }
def pv_longIs : Prop :=
  ∀ (x : (Int × Int × Int × Int × Bool) × Int), (InR IntKind.i64 x.fst.fst ∧ InR IntKind.i64 x.fst.snd.fst ∧ InR IntKind.i64 x.fst.snd.snd.fst ∧ InR IntKind.i64 x.fst.snd.snd.snd.fst ∧ True) ∧ InR IntKind.i64 x.snd → True → (decide (x.fst.fst = x.snd) && !x.fst.snd.snd.snd.snd) = (decide (x.fst.fst = x.snd) && !x.fst.snd.snd.snd.snd) ∧ True
theorem vcp_longIs : pv_longIs := by
 unfold pv_longIs
 intro ⟨s, at_⟩ _ _
 simp
theorem e_longIs : pv_longIs = (fnVC Tryz.prog (tbl []) an_0 Tryz.f187 sp_longIs) := by kernel_rfl
theorem vc_longIs : fnVC Tryz.prog (tbl []) an_0 Tryz.f187 sp_longIs := @Eq.mp _ _ @e_longIs @vcp_longIs
theorem ok_longIs : sp_longIs.ok Tryz.prog 187 := fn_sound (P := Tryz.prog) (ss := tbl []) (ann := an_0) (f := 187) (fn := Tryz.f187) (s := sp_longIs) tbl_nil Tryz.func187 @vc_longIs
def sp_longNot : Spec := { Ts := [ty_I, .ref (.arr ty_I)], Rs := [.dat .bool], pre := fun _ => True, F := fun ((at_, keep) : Int × List Int) => !inL keep at_ }
def pv_longNot : Prop :=
  ∀ (x : Int × List Int), (InR IntKind.i64 x.fst ∧ x.snd.length * (8 : Nat) ≤ big ∧ ∀ (x_1 : Int), x_1 ∈ x.snd → InR IntKind.i64 x_1) → True → True ∧ (!inL x.snd x.fst) = !inL x.snd x.fst ∧ True
theorem vcp_longNot : pv_longNot := by
 unfold pv_longNot
 intro _ _ _
 exact ⟨trivial, rfl, trivial⟩
theorem e_longNot : pv_longNot = (fnVC Tryz.prog (tbl [(81, sp_hasI)]) an_0 Tryz.f188 sp_longNot) := by kernel_rfl
theorem vc_longNot : fnVC Tryz.prog (tbl [(81, sp_hasI)]) an_0 Tryz.f188 sp_longNot := @Eq.mp _ _ @e_longNot @vcp_longNot
theorem ok_longNot : sp_longNot.ok Tryz.prog 188 := fn_sound (P := Tryz.prog) (ss := tbl [(81, sp_hasI)]) (ann := an_0) (f := 188) (fn := Tryz.f188) (s := sp_longNot) (tbl_cons ok_hasI tbl_nil) Tryz.func188 @vc_longNot
def an_longs : Nat → Option LoopGen
 | 9 => some { rd := [.own 9 95 ty_Spot, .dat 35 (.arr ty_I)], A := fun ((l, keep) : List Spot × List Int) => { cs := [.own 11 3 ty_I, .dat 37 ty_I], inv := fun ((out, i) : List Int × Int) => 0 ≤ i ∧ i ≤ keep.length ∧ (keep.drop i.toNat).all (isB l) = keep.all (isB l) ∧ out = (keep.take i.toNat).map (lgOf l), mu := fun ((_, i) : List Int × Int) => (keep.length - i).toNat } }
 | _ => none
def sp_longs : Spec := { Ts := [.arr ty_W, .arr ty_I, .arr ty_I], Rs := [.own 3 ty_I, .dat ty_I], pre := fun _ => True, F := fun ((a, keep, pinned) : List Int × List Int × List Int) => longsF a keep pinned }
def pv_longs : Prop :=
  ∀ (x : List Int × List Int × List Int), ((x.fst.length * (8 : Nat) ≤ big ∧ ∀ (x_1 : Int), x_1 ∈ x.fst → InR IntKind.u64 x_1) ∧ (x.snd.fst.length * (8 : Nat) ≤ big ∧ ∀ (x_1 : Int), x_1 ∈ x.snd.fst → InR IntKind.i64 x_1) ∧ x.snd.snd.length * (8 : Nat) ≤ big ∧ ∀ (x_1 : Int), x_1 ∈ x.snd.snd → InR IntKind.i64 x_1) → True → True ∧ (decide ((checkF x.fst).snd.snd ≠ (0 : Int)) = true → ([] : List Int) = (longsF x.fst x.snd.fst x.snd.snd).fst ∧ (checkF x.fst).snd.snd = (longsF x.fst x.snd.fst x.snd.snd).snd ∧ True) ∧ (decide ((checkF x.fst).snd.snd ≠ (0 : Int)) = false → True ∧ ((!risesL x.snd.fst) = false → True) ∧ ((!risesL x.snd.fst || !risesL x.snd.snd) = true → ([] : List Int) = (longsF x.fst x.snd.fst x.snd.snd).fst ∧ (3 : Int) = (longsF x.fst x.snd.fst x.snd.snd).snd ∧ True) ∧ ((!risesL x.snd.fst || !risesL x.snd.snd) = false → True ∧ ((0 : Int) ≤ (0 : Int) ∧ (0 : Int) ≤ (↑x.snd.fst.length : Int) ∧ (List.drop (Int.toNat (0 : Int)) x.snd.fst).all (isB (spotsF x.fst).fst) = x.snd.fst.all (isB (spotsF x.fst).fst) ∧ ([] : List Int) = List.map (lgOf (spotsF x.fst).fst) (List.take (Int.toNat (0 : Int)) x.snd.fst)) ∧ ∀ (x_1 : List Int × Int), (0 : Int) ≤ x_1.snd ∧ x_1.snd ≤ (↑x.snd.fst.length : Int) ∧ (List.drop x_1.snd.toNat x.snd.fst).all (isB (spotsF x.fst).fst) = x.snd.fst.all (isB (spotsF x.fst).fst) ∧ x_1.fst = List.map (lgOf (spotsF x.fst).fst) (List.take x_1.snd.toNat x.snd.fst) → (decide (x_1.snd < (↑x.snd.fst.length : Int)) = true → (0 : Int) ≤ x_1.snd ∧ x_1.snd < (↑x.snd.fst.length : Int) ∧ (∀ (s : Spot), s ∈ (spotsF x.fst).fst → (fun (_ : Int × Int × Int × Int × Bool) => True, fun (x_2 : Int × Int × Int × Int × Bool) => decide (x_2.fst = x.snd.fst.getD x_1.snd.toNat (0 : Int)) && !x_2.snd.snd.snd.snd).fst s) ∧ (decide (findFrom (fun (x_2 : Int × Int × Int × Int × Bool) => decide (x_2.fst = x.snd.fst.getD x_1.snd.toNat (0 : Int)) && !x_2.snd.snd.snd.snd) (0 : Int) (spotsF x.fst).fst < (0 : Int)) = true → ([] : List Int) = (longsF x.fst x.snd.fst x.snd.snd).fst ∧ (5 : Int) = (longsF x.fst x.snd.fst x.snd.snd).snd ∧ True) ∧ (decide (findFrom (fun (x_2 : Int × Int × Int × Int × Bool) => decide (x_2.fst = x.snd.fst.getD x_1.snd.toNat (0 : Int)) && !x_2.snd.snd.snd.snd) (0 : Int) (spotsF x.fst).fst < (0 : Int)) = false → (0 : Int) ≤ findFrom (fun (x_2 : Int × Int × Int × Int × Bool) => decide (x_2.fst = x.snd.fst.getD x_1.snd.toNat (0 : Int)) && !x_2.snd.snd.snd.snd) (0 : Int) (spotsF x.fst).fst ∧ findFrom (fun (x_2 : Int × Int × Int × Int × Bool) => decide (x_2.fst = x.snd.fst.getD x_1.snd.toNat (0 : Int)) && !x_2.snd.snd.snd.snd) (0 : Int) (spotsF x.fst).fst < (↑(spotsF x.fst).fst.length : Int) ∧ (findFrom (fun (x_2 : Int × Int × Int × Int × Bool) => decide (x_2.fst = x.snd.fst.getD x_1.snd.toNat (0 : Int)) && !x_2.snd.snd.snd.snd) (0 : Int) (spotsF x.fst).fst).toNat < (spotsF x.fst).fst.length ∧ True ∧ (x_1.fst.length + [if headFault ((spotsF x.fst).fst.getD (findFrom (fun (x_2 : Int × Int × Int × Int × Bool) => decide (x_2.fst = x.snd.fst.getD x_1.snd.toNat (0 : Int)) && !x_2.snd.snd.snd.snd) (0 : Int) (spotsF x.fst).fst).toNat ((0 : Int), (0 : Int), (0 : Int), (0 : Int), false)).snd = (0 : Int) then headLong ((spotsF x.fst).fst.getD (findFrom (fun (x_2 : Int × Int × Int × Int × Bool) => decide (x_2.fst = x.snd.fst.getD x_1.snd.toNat (0 : Int)) && !x_2.snd.snd.snd.snd) (0 : Int) (spotsF x.fst).fst).toNat ((0 : Int), (0 : Int), (0 : Int), (0 : Int), false)).snd else (0 : Int)].length) * (8 : Nat) ≤ big ∧ InR IntKind.i64 (x_1.snd + (1 : Int)) ∧ ((0 : Int) ≤ x_1.snd + (1 : Int) ∧ x_1.snd + (1 : Int) ≤ (↑x.snd.fst.length : Int) ∧ (List.drop (x_1.snd + (1 : Int)).toNat x.snd.fst).all (isB (spotsF x.fst).fst) = x.snd.fst.all (isB (spotsF x.fst).fst) ∧ x_1.fst ++ [if headFault ((spotsF x.fst).fst.getD (findFrom (fun (x_2 : Int × Int × Int × Int × Bool) => decide (x_2.fst = x.snd.fst.getD x_1.snd.toNat (0 : Int)) && !x_2.snd.snd.snd.snd) (0 : Int) (spotsF x.fst).fst).toNat ((0 : Int), (0 : Int), (0 : Int), (0 : Int), false)).snd = (0 : Int) then headLong ((spotsF x.fst).fst.getD (findFrom (fun (x_2 : Int × Int × Int × Int × Bool) => decide (x_2.fst = x.snd.fst.getD x_1.snd.toNat (0 : Int)) && !x_2.snd.snd.snd.snd) (0 : Int) (spotsF x.fst).fst).toNat ((0 : Int), (0 : Int), (0 : Int), (0 : Int), false)).snd else (0 : Int)] = List.map (lgOf (spotsF x.fst).fst) (List.take (x_1.snd + (1 : Int)).toNat x.snd.fst)) ∧ ((↑x.snd.fst.length : Int) - (x_1.snd + (1 : Int))).toNat < ((↑x.snd.fst.length : Int) - x_1.snd).toNat)) ∧ (decide (x_1.snd < (↑x.snd.fst.length : Int)) = false → (∀ (s : Int), s ∈ x.snd.snd → (fun (_ : Int) => True, fun (x_2 : Int) => !inL x.snd.fst x_2).fst s) ∧ ((x.snd.snd.any fun (x_2 : Int) => !inL x.snd.fst x_2) = true → ([] : List Int) = (longsF x.fst x.snd.fst x.snd.snd).fst ∧ (5 : Int) = (longsF x.fst x.snd.fst x.snd.snd).snd ∧ True) ∧ ((x.snd.snd.any fun (x_2 : Int) => !inL x.snd.fst x_2) = false → x_1.fst = (longsF x.fst x.snd.fst x.snd.snd).fst ∧ (0 : Int) = (longsF x.fst x.snd.fst x.snd.snd).snd ∧ True))))
theorem vcp_longs : pv_longs := by
 unfold pv_longs
 intro ⟨a, keep, pinned⟩ ⟨_, ⟨hb, _⟩, _⟩ _
 unfold big at hb
 simp only at hb ⊢
 have hF : longsF a keep pinned = if (checkF a).2.2 ≠ 0 then ([], (checkF a).2.2) else if (risesL keep && risesL pinned) = false then ([], 3)
  else if (keep.all (isB (spotsF a).1)) = false then ([], 5) else if (pinned.all (inL keep)) = false then ([], 5) else (keep.map (lgOf (spotsF a).1), 0) := rfl
 rw [hF]
 refine ⟨trivial, fun hc => ?_, fun hc => ⟨trivial, fun _ => trivial, fun hr => ?_, fun hr => ⟨trivial, ⟨by omega, by omega, rfl, rfl⟩, fun ⟨out, i⟩ ⟨h0, h1, h2, h3⟩ => ⟨fun hlt => ?_, fun hge => ?_⟩⟩⟩⟩
 ·rw [if_pos (of_decide_eq_true hc)]
  exact ⟨rfl, rfl, trivial⟩
 ·rw [if_neg (of_decide_eq_false hc), if_pos (by revert hr; cases risesL keep <;> cases risesL pinned <;> simp)]
  exact ⟨rfl, rfl, trivial⟩
 ·have hlt : i < (keep.length : Int) := of_decide_eq_true hlt
  simp only at h0 h1 h2 h3 ⊢
  rw [if_neg (of_decide_eq_false hc), if_neg (by revert hr; cases risesL keep <;> cases risesL pinned <;> simp)]
  rw [drop_cons (0 : Int) h0 hlt, List.all_cons] at h2
  have hts := take_snoc (0 : Int) h0 hlt
  obtain ⟨f1, f2⟩ := isB_find (spotsF_sorted a) (keep.getD i.toNat 0)
  rw [hts]
  generalize keep.getD i.toNat 0 = at_ at *
  refine ⟨h0, hlt, fun _ _ => trivial, fun hn => ?_, fun hn => ?_⟩
  ·rw [f1 (of_decide_eq_true hn), Bool.false_and] at h2
   rw [if_pos h2.symm]
   exact ⟨rfl, rfl, trivial⟩
  ·obtain ⟨g1, g2, g3, g4⟩ := f2 (of_decide_eq_false hn)
   have hn : ¬ findFrom (fun s : Spot => decide (s.1 = at_) && !s.2.2.2.2) 0 (spotsF a).1 < 0 := of_decide_eq_false hn
   rw [g1, Bool.true_and] at h2
   have hh := (spotsF_in2 a _ g4).2.2
   rw [g3] at hh ⊢
   rw [if_pos hh]
   have hl : out.length = i.toNat := by rw [h3, List.length_map, List.length_take]; omega
   unfold big
   simp only [InR, List.length_cons, List.length_nil]
   refine ⟨Int.not_lt.1 hn, g2, (Int.toNat_lt (Int.not_lt.1 hn)).2 g2, trivial, by omega, by omega, ⟨by omega, by omega, h2, ?_⟩, by omega⟩
   rw [List.map_append, ← h3]
   rfl
 ·have hge : ¬ i < (keep.length : Int) := of_decide_eq_false hge
  simp only at h2 h3 ⊢
  rw [drop_end hge, List.all_nil] at h2
  rw [take_end hge] at h3
  rw [if_neg (of_decide_eq_false hc), if_neg (by revert hr; cases risesL keep <;> cases risesL pinned <;> simp), if_neg (by rw [← h2]; simp)]
  have e : (pinned.any fun at_ => !inL keep at_) = !(pinned.all (inL keep)) := by rw [List.not_all_eq_any_not]
  refine ⟨fun _ _ => trivial, fun hp => ?_, fun hp => ?_⟩
  ·rw [e] at hp
   rw [if_pos (by simpa using hp)]
   exact ⟨rfl, rfl, trivial⟩
  ·rw [e] at hp
   rw [if_neg (by simpa using hp)]
   exact ⟨h3, rfl, trivial⟩
theorem e_longs : pv_longs = (fnVC Tryz.prog (tbl [(90, sp_walkCheck), (186, sp_rises), (147, sp_walkSpots), (118, sp_idxSpot), (187, sp_longIs), (100, sp_headLongC), (124, sp_anyI), (188, sp_longNot)]) an_longs Tryz.f177 sp_longs) := by kernel_rfl
theorem vc_longs : fnVC Tryz.prog (tbl [(90, sp_walkCheck), (186, sp_rises), (147, sp_walkSpots), (118, sp_idxSpot), (187, sp_longIs), (100, sp_headLongC), (124, sp_anyI), (188, sp_longNot)]) an_longs Tryz.f177 sp_longs := @Eq.mp _ _ @e_longs @vcp_longs
theorem ok_longs : sp_longs.ok Tryz.prog 177 := fn_sound (P := Tryz.prog) (ss := tbl [(90, sp_walkCheck), (186, sp_rises), (147, sp_walkSpots), (118, sp_idxSpot), (187, sp_longIs), (100, sp_headLongC), (124, sp_anyI), (188, sp_longNot)]) (ann := an_longs) (f := 177) (fn := Tryz.f177) (s := sp_longs) (tbl_cons ok_walkCheck (tbl_cons ok_rises (tbl_cons ok_walkSpots (tbl_cons ok_idxSpot (tbl_cons ok_longIs (tbl_cons ok_headLongC (tbl_cons ok_anyI (tbl_cons ok_longNot tbl_nil)))))))) Tryz.func177 @vc_longs
def endS (pinned keep long : List Int) : Nat → Int
 | 0 => 0
 | i + 1 => (if inL pinned (keep.getD i 0) = true then keep.getD i 0 else endS pinned keep long i) + long.getD i 0
def toS (pinned keep long : List Int) (i : Nat) : Int := if inL pinned (keep.getD i 0) = true then keep.getD i 0 else endS pinned keep long i
def planS (keep long pinned : List Int) : List Int := (List.range keep.length).map (toS pinned keep long)
def planPre (keep long : List Int) : Prop := long.length = keep.length ∧ keep.length ≤ 256 ∧ (∀ x ∈ keep, 0 ≤ x ∧ x ≤ 255) ∧ ∀ n ∈ long, 1 ≤ n ∧ n ≤ 256
theorem endS_range {keep long : List Int} (pinned : List Int) (h : planPre keep long) : ∀ i : Nat, i ≤ keep.length → 0 ≤ endS pinned keep long i ∧ endS pinned keep long i ≤ 512 * i
 | 0, _ => by simp [endS]
 | i + 1, hi => by
  have ih := endS_range pinned h i (by omega)
  obtain ⟨h1, h2, h3, h4⟩ := h
  have k1 := h3 _ (getD_mem (0 : Int) (xs := keep) (i := i) (by omega) (by omega))
  have k2 := h4 _ (getD_mem (0 : Int) (xs := long) (i := i) (by omega) (by omega))
  simp only [Int.toNat_natCast] at k1 k2
  simp only [endS]
  split <;> omega
theorem toS_range {keep long : List Int} (pinned : List Int) (h : planPre keep long) {i : Nat} (hi : i < keep.length) : 0 ≤ toS pinned keep long i ∧ toS pinned keep long i ≤ 512 * i + 255 := by
 have h0 := endS_range pinned h i (by omega)
 have k1 := h.2.2.1 _ (getD_mem (0 : Int) (xs := keep) (i := i) (by omega) (by omega))
 simp only [Int.toNat_natCast] at k1
 unfold toS
 split <;> omega
def an_slid : Nat → Option LoopGen
 | 4 => some { rd := [.dat 11 (.arr ty_I), .dat 1 (.arr ty_I), .dat 2 (.arr ty_I)], A := fun ((keep, long, pinned) : List Int × List Int × List Int) => { cs := [.own 7 3 ty_I, .dat 8 ty_I, .dat 13 ty_I], inv := fun ((out, e, i) : List Int × Int × Int) => 0 ≤ i ∧ i ≤ keep.length ∧ out = (List.range i.toNat).map (toS pinned keep long) ∧ e = endS pinned keep long i.toNat, mu := fun ((_, _, i) : List Int × Int × Int) => (keep.length - i).toNat } }
 | _ => none
def sp_slid : Spec := { Ts := [.arr ty_I, .arr ty_I, .arr ty_I], Rs := [.own 3 ty_I], pre := fun ((keep, long, _) : List Int × List Int × List Int) => planPre keep long, F := fun ((keep, long, pinned) : List Int × List Int × List Int) => planS keep long pinned }
def pv_slid : Prop :=
  ∀ (x : List Int × List Int × List Int), ((x.fst.length * (8 : Nat) ≤ big ∧ ∀ (x_1 : Int), x_1 ∈ x.fst → InR IntKind.i64 x_1) ∧ (x.snd.fst.length * (8 : Nat) ≤ big ∧ ∀ (x_1 : Int), x_1 ∈ x.snd.fst → InR IntKind.i64 x_1) ∧ x.snd.snd.length * (8 : Nat) ≤ big ∧ ∀ (x_1 : Int), x_1 ∈ x.snd.snd → InR IntKind.i64 x_1) → planPre x.fst x.snd.fst → ((0 : Int) ≤ (0 : Int) ∧ (0 : Int) ≤ (↑x.fst.length : Int) ∧ ([] : List Int) = List.map (toS x.snd.snd x.fst x.snd.fst) (List.range (Int.toNat (0 : Int))) ∧ (0 : Int) = endS x.snd.snd x.fst x.snd.fst (Int.toNat (0 : Int))) ∧ ∀ (x_1 : List Int × Int × Int), (0 : Int) ≤ x_1.snd.snd ∧ x_1.snd.snd ≤ (↑x.fst.length : Int) ∧ x_1.fst = List.map (toS x.snd.snd x.fst x.snd.fst) (List.range x_1.snd.snd.toNat) ∧ x_1.snd.fst = endS x.snd.snd x.fst x.snd.fst x_1.snd.snd.toNat → (decide (x_1.snd.snd < (↑x.fst.length : Int)) = true → (0 : Int) ≤ x_1.snd.snd ∧ x_1.snd.snd < (↑x.fst.length : Int) ∧ True ∧ ((!inL x.snd.snd (x.fst.getD x_1.snd.snd.toNat (0 : Int))) = true → (x_1.fst.length + [x_1.snd.fst].length) * (8 : Nat) ≤ big ∧ (0 : Int) ≤ x_1.snd.snd ∧ x_1.snd.snd < (↑x.snd.fst.length : Int) ∧ InR IntKind.i64 (x_1.snd.fst + x.snd.fst.getD x_1.snd.snd.toNat (0 : Int)) ∧ InR IntKind.i64 (x_1.snd.snd + (1 : Int)) ∧ ((0 : Int) ≤ x_1.snd.snd + (1 : Int) ∧ x_1.snd.snd + (1 : Int) ≤ (↑x.fst.length : Int) ∧ x_1.fst ++ [x_1.snd.fst] = List.map (toS x.snd.snd x.fst x.snd.fst) (List.range (x_1.snd.snd + (1 : Int)).toNat) ∧ x_1.snd.fst + x.snd.fst.getD x_1.snd.snd.toNat (0 : Int) = endS x.snd.snd x.fst x.snd.fst (x_1.snd.snd + (1 : Int)).toNat) ∧ ((↑x.fst.length : Int) - (x_1.snd.snd + (1 : Int))).toNat < ((↑x.fst.length : Int) - x_1.snd.snd).toNat) ∧ ((!inL x.snd.snd (x.fst.getD x_1.snd.snd.toNat (0 : Int))) = false → (x_1.fst.length + [x.fst.getD x_1.snd.snd.toNat (0 : Int)].length) * (8 : Nat) ≤ big ∧ (0 : Int) ≤ x_1.snd.snd ∧ x_1.snd.snd < (↑x.snd.fst.length : Int) ∧ InR IntKind.i64 (x.fst.getD x_1.snd.snd.toNat (0 : Int) + x.snd.fst.getD x_1.snd.snd.toNat (0 : Int)) ∧ InR IntKind.i64 (x_1.snd.snd + (1 : Int)) ∧ ((0 : Int) ≤ x_1.snd.snd + (1 : Int) ∧ x_1.snd.snd + (1 : Int) ≤ (↑x.fst.length : Int) ∧ x_1.fst ++ [x.fst.getD x_1.snd.snd.toNat (0 : Int)] = List.map (toS x.snd.snd x.fst x.snd.fst) (List.range (x_1.snd.snd + (1 : Int)).toNat) ∧ x.fst.getD x_1.snd.snd.toNat (0 : Int) + x.snd.fst.getD x_1.snd.snd.toNat (0 : Int) = endS x.snd.snd x.fst x.snd.fst (x_1.snd.snd + (1 : Int)).toNat) ∧ ((↑x.fst.length : Int) - (x_1.snd.snd + (1 : Int))).toNat < ((↑x.fst.length : Int) - x_1.snd.snd).toNat)) ∧ (decide (x_1.snd.snd < (↑x.fst.length : Int)) = false → x_1.fst = planS x.fst x.snd.fst x.snd.snd ∧ True)
theorem vcp_slid : pv_slid := by
 unfold pv_slid
 intro ⟨keep, long, pinned⟩ _ hp
 have hp' := hp
 obtain ⟨p1, p2, p3, p4⟩ := hp'
 simp only at p1 p2 p3 p4 hp ⊢
 refine ⟨⟨by omega, by omega, rfl, rfl⟩, fun ⟨out, e, i⟩ ⟨h0, h1, h2, h3⟩ => ⟨fun hlt => ?_, fun hge => ?_⟩⟩
 ·have hlt' : i < (keep.length : Int) := of_decide_eq_true hlt
  simp only at h0 h1 h2 h3 ⊢
  have ht := toS_range pinned hp (i := i.toNat) (by omega)
  have he := endS_range pinned hp (i.toNat + 1) (by omega)
  have k1 := p3 _ (getD_mem (0 : Int) h0 hlt')
  have k2 := p4 _ (getD_mem (0 : Int) (xs := long) h0 (by omega))
  have hs : out ++ [toS pinned keep long i.toNat] = (List.range (i + 1).toNat).map (toS pinned keep long) := by
   rw [show (i + 1).toNat = i.toNat + 1 by omega, List.range_succ, List.map_append, ← h2]
   rfl
  have hE : endS pinned keep long (i + 1).toNat = toS pinned keep long i.toNat + long.getD i.toNat 0 := by
   rw [show (i + 1).toNat = i.toNat + 1 by omega]
   rfl
  have hl : out.length = i.toNat := by rw [h2]; simp
  rw [hE, ← hs]
  subst h3
  unfold big
  simp only [InR, List.length_cons, List.length_nil]
  have hT : toS pinned keep long i.toNat = if inL pinned (keep.getD i.toNat 0) = true then keep.getD i.toNat 0 else endS pinned keep long i.toNat := rfl
  have hE' : endS pinned keep long (i.toNat + 1) = toS pinned keep long i.toNat + long.getD i.toNat 0 := rfl
  rw [hE'] at he
  refine ⟨h0, hlt', trivial, fun hc => ?_, fun hc => ?_⟩
  ·have hc : inL pinned (keep.getD i.toNat 0) = false := by simpa using hc
   rw [if_neg (by rw [hc]; simp)] at hT
   rw [hT] at he ⊢
   exact ⟨by omega, h0, by omega, by omega, by omega, ⟨by omega, by omega, rfl, rfl⟩, by omega⟩
  ·have hc : inL pinned (keep.getD i.toNat 0) = true := by simpa using hc
   rw [if_pos hc] at hT
   rw [hT] at he ⊢
   exact ⟨by omega, h0, by omega, by omega, by omega, ⟨by omega, by omega, rfl, rfl⟩, by omega⟩
 ·have hge : ¬ i < (keep.length : Int) := of_decide_eq_false hge
  simp only at h0 h1 h2
  rw [h2, show i.toNat = keep.length by omega]
  exact ⟨rfl, trivial⟩
theorem e_slid : pv_slid = (fnVC Tryz.prog (tbl [(81, sp_hasI)]) an_slid Tryz.f178 sp_slid) := by kernel_rfl
theorem vc_slid : fnVC Tryz.prog (tbl [(81, sp_hasI)]) an_slid Tryz.f178 sp_slid := @Eq.mp _ _ @e_slid @vcp_slid
theorem ok_slid : sp_slid.ok Tryz.prog 178 := fn_sound (P := Tryz.prog) (ss := tbl [(81, sp_hasI)]) (ann := an_slid) (f := 178) (fn := Tryz.f178) (s := sp_slid) (tbl_cons ok_hasI tbl_nil) Tryz.func178 @vc_slid
def sp_planTo : Spec := { Ts := [.arr ty_W, .arr ty_I, .arr ty_I], Rs := [.own 3 ty_I, .dat ty_I], pre := fun _ => True, F := fun ((a, keep, pinned) : List Int × List Int × List Int) => ((if (longsF a keep pinned).2 ≠ 0 then [] else planS keep (longsF a keep pinned).1 pinned, (longsF a keep pinned).2) : List Int × Int) }
theorem risesL_pairwise : ∀ {l : List Int}, risesL l = true → l.Pairwise (· < ·)
 | [], _ => List.Pairwise.nil
 | [x], _ => by simp
 | x :: y :: l, h => by
  simp only [risesL, Bool.and_eq_true, decide_eq_true_eq] at h
  have ih := risesL_pairwise h.2
  refine List.pairwise_cons.2 ⟨fun z hz => ?_, ih⟩
  rcases List.mem_cons.1 hz with rfl | hz
  ·exact h.1
  ·have := (List.pairwise_cons.1 ih).1 z hz
   omega
theorem pairwise_length : ∀ {l : List Int} {s : Int}, l.Pairwise (· < ·) → (∀ x ∈ l, s ≤ x ∧ x ≤ 255) → s ≤ 256 → (l.length : Int) ≤ 256 - s
 | [], s, _, _, h => by simp; omega
 | x :: l, s, hp, hr, _ => by
  obtain ⟨h1, h2⟩ := List.pairwise_cons.1 hp
  have h3 := hr x (by simp)
  have ih := pairwise_length (s := x + 1) h2 (fun y hy => by have := h1 y hy; have := hr y (by simp [hy]); omega) (by omega)
  simp only [List.length_cons]
  omega
theorem isB_in {a : List Int} {at_ : Int} (h : isB (spotsF a).1 at_ = true) : ∃ s ∈ (spotsF a).1, s.1 = at_ ∧ s.2.2.2.2 = false ∧ lgOf (spotsF a).1 at_ = headLong s.2 := by
 unfold isB lgOf at *
 rcases headAtL_in at_ (spotsF a).1 with e | ⟨s, h1, h2, h3, e⟩
 ·rw [e] at h; cases h
 ·exact ⟨s, h1, h2, h3, by rw [e]⟩
theorem longs_ok {a keep pinned : List Int} (h : (longsF a keep pinned).2 = 0) : (checkF a).2.2 = 0 ∧ risesL keep = true ∧ risesL pinned = true ∧ (∀ x ∈ keep, isB (spotsF a).1 x = true) ∧ (∀ x ∈ pinned, inL keep x = true) ∧ (longsF a keep pinned).1 = keep.map (lgOf (spotsF a).1) := by
 unfold longsF at *
 by_cases h1 : (checkF a).2.2 ≠ 0
 ·rw [if_pos h1] at h; exact absurd h h1
 rw [if_neg h1] at h ⊢
 by_cases h2 : (risesL keep && risesL pinned) = false
 ·rw [if_pos h2] at h; simp at h
 rw [if_neg h2] at h ⊢
 by_cases h3 : (keep.all (isB (spotsF a).1)) = false
 ·rw [if_pos h3] at h; simp at h
 rw [if_neg h3] at h ⊢
 by_cases h4 : (pinned.all (inL keep)) = false
 ·rw [if_pos h4] at h; simp at h
 rw [if_neg h4]
 have h2 : risesL keep = true ∧ risesL pinned = true := by simpa using h2
 have h3 : keep.all (isB (spotsF a).1) = true := by simpa using h3
 have h4 : pinned.all (inL keep) = true := by simpa using h4
 exact ⟨by omega, h2.1, h2.2, fun x hx => List.all_eq_true.1 h3 x hx, fun x hx => List.all_eq_true.1 h4 x hx, rfl⟩
theorem longs_pre {a keep pinned : List Int} (h : (longsF a keep pinned).2 = 0) : planPre keep (longsF a keep pinned).1 := by
 obtain ⟨_, h2, _, h4, _, h6⟩ := longs_ok h
 have hr : ∀ x ∈ keep, 0 ≤ x ∧ x ≤ 255 := fun x hx => by
  obtain ⟨s, h1, h2, _⟩ := isB_in (h4 x hx)
  have := spots_range s h1
  omega
 have hl := pairwise_length (risesL_pairwise h2) hr (by omega)
 refine ⟨by rw [h6]; simp, by omega, hr, fun n hn => ?_⟩
 rw [h6] at hn
 obtain ⟨x, hx, rfl⟩ := List.mem_map.1 hn
 obtain ⟨s, h1, _, _, e⟩ := isB_in (h4 x hx)
 have hz := headFault_zero (spotsF_in2 a s h1).2.2
 rw [e]
 unfold headLong
 omega
def pv_planTo : Prop :=
  ∀ (x : List Int × List Int × List Int), ((x.fst.length * (8 : Nat) ≤ big ∧ ∀ (x_1 : Int), x_1 ∈ x.fst → InR IntKind.u64 x_1) ∧ (x.snd.fst.length * (8 : Nat) ≤ big ∧ ∀ (x_1 : Int), x_1 ∈ x.snd.fst → InR IntKind.i64 x_1) ∧ x.snd.snd.length * (8 : Nat) ≤ big ∧ ∀ (x_1 : Int), x_1 ∈ x.snd.snd → InR IntKind.i64 x_1) → True → True ∧ (decide ((longsF x.fst x.snd.fst x.snd.snd).snd ≠ (0 : Int)) = true → (([] : List Int) = if (longsF x.fst x.snd.fst x.snd.snd).snd ≠ (0 : Int) then ([] : List Int) else planS x.snd.fst (longsF x.fst x.snd.fst x.snd.snd).fst x.snd.snd) ∧ (longsF x.fst x.snd.fst x.snd.snd).snd = (longsF x.fst x.snd.fst x.snd.snd).snd ∧ True) ∧ (decide ((longsF x.fst x.snd.fst x.snd.snd).snd ≠ (0 : Int)) = false → planPre x.snd.fst (longsF x.fst x.snd.fst x.snd.snd).fst ∧ (planS x.snd.fst (longsF x.fst x.snd.fst x.snd.snd).fst x.snd.snd = if (longsF x.fst x.snd.fst x.snd.snd).snd ≠ (0 : Int) then ([] : List Int) else planS x.snd.fst (longsF x.fst x.snd.fst x.snd.snd).fst x.snd.snd) ∧ (0 : Int) = (longsF x.fst x.snd.fst x.snd.snd).snd ∧ True)
theorem vcp_planTo : pv_planTo := by
 unfold pv_planTo
 intro ⟨a, keep, pinned⟩ _ _
 simp only
 refine ⟨trivial, fun hc => ?_, fun hc => ?_⟩
 ·rw [if_pos (of_decide_eq_true hc)]
  exact ⟨rfl, trivial, trivial⟩
 ·have hz : (longsF a keep pinned).2 = 0 := by simpa using of_decide_eq_false hc
  rw [if_neg (by omega)]
  exact ⟨longs_pre hz, rfl, hz.symm, trivial⟩
theorem e_planTo : pv_planTo = (fnVC Tryz.prog (tbl [(177, sp_longs), (178, sp_slid)]) an_0 Tryz.f161 sp_planTo) := by kernel_rfl
theorem vc_planTo : fnVC Tryz.prog (tbl [(177, sp_longs), (178, sp_slid)]) an_0 Tryz.f161 sp_planTo := @Eq.mp _ _ @e_planTo @vcp_planTo
theorem ok_planTo : sp_planTo.ok Tryz.prog 161 := fn_sound (P := Tryz.prog) (ss := tbl [(177, sp_longs), (178, sp_slid)]) (ann := an_0) (f := 161) (fn := Tryz.f161) (s := sp_planTo) (tbl_cons ok_longs (tbl_cons ok_slid tbl_nil)) Tryz.func161 @vc_planTo
def gapsUp (pinned keep long : List Int) : Nat → List Gap
 | 0 => []
 | i + 1 => gapsUp pinned keep long i ++ (if endS pinned keep long i < toS pinned keep long i then [(endS pinned keep long i, toS pinned keep long i - endS pinned keep long i)] else [])
theorem gapsUp_length (pinned keep long : List Int) : ∀ i, (gapsUp pinned keep long i).length ≤ i
 | 0 => by simp [gapsUp]
 | i + 1 => by
  have := gapsUp_length pinned keep long i
  simp only [gapsUp, List.length_append]
  split <;> simp <;> omega
def planGapsL (n : Int) (keep long pinned : List Int) : List Gap := gapsUp pinned keep long keep.length ++ (if endS pinned keep long keep.length < n then [(endS pinned keep long keep.length, n - endS pinned keep long keep.length)] else [])
def planGapsF (a keep pinned : List Int) : List Gap × Int := (if (longsF a keep pinned).2 ≠ 0 then [] else planGapsL a.length keep (longsF a keep pinned).1 pinned, (longsF a keep pinned).2)
def an_planGaps : Nat → Option LoopGen
 | 3000179 => some an_in
 | 8 => some { rd := [.own 8 3 ty_I, .own 29 3 ty_I, .dat 1 (.arr ty_I), .dat 2 (.arr ty_I)], A := fun ((long, to, keep, pinned) : List Int × List Int × List Int × List Int) => { cs := [.boxS 10 [.own 42 ty_Gap], .box 11 ty_I, .dat 31 ty_I], inv := fun ((out, e, i) : List Gap × Int × Int) => 0 ≤ i ∧ i ≤ keep.length ∧ to = planS keep long pinned ∧ out = gapsUp pinned keep long i.toNat ∧ e = endS pinned keep long i.toNat, mu := fun ((_, _, i) : List Gap × Int × Int) => (keep.length - i).toNat } }
 | _ => none
def sp_planGaps : Spec := { Ts := [.arr ty_W, .arr ty_I, .arr ty_I], Rs := [.own 42 ty_Gap, .dat ty_I], pre := fun _ => True, F := fun ((a, keep, pinned) : List Int × List Int × List Int) => planGapsF a keep pinned }
def pv_planGaps : Prop :=
  ∀ (x : List Int × List Int × List Int), ((x.fst.length * (8 : Nat) ≤ big ∧ ∀ (x_1 : Int), x_1 ∈ x.fst → InR IntKind.u64 x_1) ∧ (x.snd.fst.length * (8 : Nat) ≤ big ∧ ∀ (x_1 : Int), x_1 ∈ x.snd.fst → InR IntKind.i64 x_1) ∧ x.snd.snd.length * (8 : Nat) ≤ big ∧ ∀ (x_1 : Int), x_1 ∈ x.snd.snd → InR IntKind.i64 x_1) → True → True ∧ (decide ((longsF x.fst x.snd.fst x.snd.snd).snd ≠ (0 : Int)) = true → ([] : List (Int × Int)) = (planGapsF x.fst x.snd.fst x.snd.snd).fst ∧ (longsF x.fst x.snd.fst x.snd.snd).snd = (planGapsF x.fst x.snd.fst x.snd.snd).snd ∧ True) ∧ (decide ((longsF x.fst x.snd.fst x.snd.snd).snd ≠ (0 : Int)) = false → planPre x.snd.fst (longsF x.fst x.snd.fst x.snd.snd).fst ∧ ((0 : Int) ≤ (0 : Int) ∧ (0 : Int) ≤ (↑x.snd.fst.length : Int) ∧ planS x.snd.fst (longsF x.fst x.snd.fst x.snd.snd).fst x.snd.snd = planS x.snd.fst (longsF x.fst x.snd.fst x.snd.snd).fst x.snd.snd ∧ ([] : List (Int × Int)) = gapsUp x.snd.snd x.snd.fst (longsF x.fst x.snd.fst x.snd.snd).fst (Int.toNat (0 : Int)) ∧ (0 : Int) = endS x.snd.snd x.snd.fst (longsF x.fst x.snd.fst x.snd.snd).fst (Int.toNat (0 : Int))) ∧ ∀ (x_1 : List (Int × Int) × Int × Int), (0 : Int) ≤ x_1.snd.snd ∧ x_1.snd.snd ≤ (↑x.snd.fst.length : Int) ∧ planS x.snd.fst (longsF x.fst x.snd.fst x.snd.snd).fst x.snd.snd = planS x.snd.fst (longsF x.fst x.snd.fst x.snd.snd).fst x.snd.snd ∧ x_1.fst = gapsUp x.snd.snd x.snd.fst (longsF x.fst x.snd.fst x.snd.snd).fst x_1.snd.snd.toNat ∧ x_1.snd.fst = endS x.snd.snd x.snd.fst (longsF x.fst x.snd.fst x.snd.snd).fst x_1.snd.snd.toNat → (decide (x_1.snd.snd < (↑(planS x.snd.fst (longsF x.fst x.snd.fst x.snd.snd).fst x.snd.snd).length : Int)) = true → (0 : Int) ≤ x_1.snd.snd ∧ x_1.snd.snd < (↑(planS x.snd.fst (longsF x.fst x.snd.fst x.snd.snd).fst x.snd.snd).length : Int) ∧ x_1.snd.snd.toNat < (planS x.snd.fst (longsF x.fst x.snd.fst x.snd.snd).fst x.snd.snd).length ∧ ∀ (_ : Array Value), (decide (x_1.snd.fst < (planS x.snd.fst (longsF x.fst x.snd.fst x.snd.snd).fst x.snd.snd).getD x_1.snd.snd.toNat (0 : Int)) = true → InR IntKind.i64 ((planS x.snd.fst (longsF x.fst x.snd.fst x.snd.snd).fst x.snd.snd).getD x_1.snd.snd.toNat (0 : Int) - x_1.snd.fst) ∧ (x_1.fst.length + [(x_1.snd.fst, (planS x.snd.fst (longsF x.fst x.snd.fst x.snd.snd).fst x.snd.snd).getD x_1.snd.snd.toNat (0 : Int) - x_1.snd.fst)].length) * ((8 : Nat) + (8 : Nat)) ≤ big ∧ (0 : Int) ≤ x_1.snd.snd ∧ x_1.snd.snd < (↑(longsF x.fst x.snd.fst x.snd.snd).fst.length : Int) ∧ x_1.snd.snd.toNat < (longsF x.fst x.snd.fst x.snd.snd).fst.length ∧ InR IntKind.i64 ((planS x.snd.fst (longsF x.fst x.snd.fst x.snd.snd).fst x.snd.snd).getD x_1.snd.snd.toNat (0 : Int) + (longsF x.fst x.snd.fst x.snd.snd).fst.getD x_1.snd.snd.toNat (0 : Int)) ∧ InR IntKind.i64 (x_1.snd.snd + (1 : Int)) ∧ ((0 : Int) ≤ x_1.snd.snd + (1 : Int) ∧ x_1.snd.snd + (1 : Int) ≤ (↑x.snd.fst.length : Int) ∧ planS x.snd.fst (longsF x.fst x.snd.fst x.snd.snd).fst x.snd.snd = planS x.snd.fst (longsF x.fst x.snd.fst x.snd.snd).fst x.snd.snd ∧ x_1.fst ++ [(x_1.snd.fst, (planS x.snd.fst (longsF x.fst x.snd.fst x.snd.snd).fst x.snd.snd).getD x_1.snd.snd.toNat (0 : Int) - x_1.snd.fst)] = gapsUp x.snd.snd x.snd.fst (longsF x.fst x.snd.fst x.snd.snd).fst (x_1.snd.snd + (1 : Int)).toNat ∧ (planS x.snd.fst (longsF x.fst x.snd.fst x.snd.snd).fst x.snd.snd).getD x_1.snd.snd.toNat (0 : Int) + (longsF x.fst x.snd.fst x.snd.snd).fst.getD x_1.snd.snd.toNat (0 : Int) = endS x.snd.snd x.snd.fst (longsF x.fst x.snd.fst x.snd.snd).fst (x_1.snd.snd + (1 : Int)).toNat) ∧ ((↑x.snd.fst.length : Int) - (x_1.snd.snd + (1 : Int))).toNat < ((↑x.snd.fst.length : Int) - x_1.snd.snd).toNat) ∧ (decide (x_1.snd.fst < (planS x.snd.fst (longsF x.fst x.snd.fst x.snd.snd).fst x.snd.snd).getD x_1.snd.snd.toNat (0 : Int)) = false → (0 : Int) ≤ x_1.snd.snd ∧ x_1.snd.snd < (↑(longsF x.fst x.snd.fst x.snd.snd).fst.length : Int) ∧ x_1.snd.snd.toNat < (longsF x.fst x.snd.fst x.snd.snd).fst.length ∧ InR IntKind.i64 ((planS x.snd.fst (longsF x.fst x.snd.fst x.snd.snd).fst x.snd.snd).getD x_1.snd.snd.toNat (0 : Int) + (longsF x.fst x.snd.fst x.snd.snd).fst.getD x_1.snd.snd.toNat (0 : Int)) ∧ InR IntKind.i64 (x_1.snd.snd + (1 : Int)) ∧ ((0 : Int) ≤ x_1.snd.snd + (1 : Int) ∧ x_1.snd.snd + (1 : Int) ≤ (↑x.snd.fst.length : Int) ∧ planS x.snd.fst (longsF x.fst x.snd.fst x.snd.snd).fst x.snd.snd = planS x.snd.fst (longsF x.fst x.snd.fst x.snd.snd).fst x.snd.snd ∧ x_1.fst = gapsUp x.snd.snd x.snd.fst (longsF x.fst x.snd.fst x.snd.snd).fst (x_1.snd.snd + (1 : Int)).toNat ∧ (planS x.snd.fst (longsF x.fst x.snd.fst x.snd.snd).fst x.snd.snd).getD x_1.snd.snd.toNat (0 : Int) + (longsF x.fst x.snd.fst x.snd.snd).fst.getD x_1.snd.snd.toNat (0 : Int) = endS x.snd.snd x.snd.fst (longsF x.fst x.snd.fst x.snd.snd).fst (x_1.snd.snd + (1 : Int)).toNat) ∧ ((↑x.snd.fst.length : Int) - (x_1.snd.snd + (1 : Int))).toNat < ((↑x.snd.fst.length : Int) - x_1.snd.snd).toNat)) ∧ (decide (x_1.snd.snd < (↑(planS x.snd.fst (longsF x.fst x.snd.fst x.snd.snd).fst x.snd.snd).length : Int)) = false → ∀ (_ : Array Value), (decide (x_1.snd.fst < (↑x.fst.length : Int)) = true → InR IntKind.i64 ((↑x.fst.length : Int) - x_1.snd.fst) ∧ (x_1.fst.length + [(x_1.snd.fst, (↑x.fst.length : Int) - x_1.snd.fst)].length) * ((8 : Nat) + (8 : Nat)) ≤ big ∧ x_1.fst ++ [(x_1.snd.fst, (↑x.fst.length : Int) - x_1.snd.fst)] = (planGapsF x.fst x.snd.fst x.snd.snd).fst ∧ (0 : Int) = (planGapsF x.fst x.snd.fst x.snd.snd).snd ∧ True) ∧ (decide (x_1.snd.fst < (↑x.fst.length : Int)) = false → x_1.fst = (planGapsF x.fst x.snd.fst x.snd.snd).fst ∧ (0 : Int) = (planGapsF x.fst x.snd.fst x.snd.snd).snd ∧ True)))
theorem vcp_planGaps : pv_planGaps := by
 unfold pv_planGaps
 intro ⟨a, keep, pinned⟩ ⟨⟨ha, _⟩, _⟩ _
 unfold big at ha
 simp only at ha ⊢
 have hF : planGapsF a keep pinned = (if (longsF a keep pinned).2 ≠ 0 then [] else planGapsL a.length keep (longsF a keep pinned).1 pinned, (longsF a keep pinned).2) := rfl
 rw [hF]
 refine ⟨trivial, fun hc => ?_, fun hc => ?_⟩
 ·rw [if_pos (of_decide_eq_true hc)]
  exact ⟨rfl, rfl, trivial⟩
 have hz : (longsF a keep pinned).2 = 0 := by simpa using of_decide_eq_false hc
 have hp := longs_pre hz
 rw [if_neg (by omega), hz]
 generalize (longsF a keep pinned).1 = long at *
 have hlen : (planS keep long pinned).length = keep.length := by simp [planS]
 have hp' := hp
 obtain ⟨p1, p2, p3, p4⟩ := hp'
 rw [hlen]
 refine ⟨hp, ⟨by omega, by omega, trivial, rfl, rfl⟩, fun ⟨out, e, i⟩ ⟨h0, h1, _, h2, h3⟩ => ⟨fun hlt => ?_, fun hge => ?_⟩⟩
 ·have hlt' : i < (keep.length : Int) := of_decide_eq_true hlt
  simp only at h0 h1 h2 h3 ⊢
  have ht := toS_range pinned hp (i := i.toNat) (by omega)
  have he := endS_range pinned hp i.toNat (by omega)
  have he' := endS_range pinned hp (i.toNat + 1) (by omega)
  have hE' : endS pinned keep long (i.toNat + 1) = toS pinned keep long i.toNat + long.getD i.toNat 0 := rfl
  have hg : (planS keep long pinned).getD i.toNat 0 = toS pinned keep long i.toNat := by
   unfold planS
   rw [List.getD_eq_getElem?_getD, List.getElem?_map, List.getElem?_range (by omega)]
   rfl
  have hl := gapsUp_length pinned keep long i.toNat
  rw [← h2] at hl
  have hs : (i + 1).toNat = i.toNat + 1 := by omega
  have hG : gapsUp pinned keep long (i.toNat + 1) = out ++ (if endS pinned keep long i.toNat < toS pinned keep long i.toNat then [(endS pinned keep long i.toNat, toS pinned keep long i.toNat - endS pinned keep long i.toNat)] else []) := by
   rw [h2]
   rfl
  rw [hg, hs, hG, hE', ← h3]
  rw [hE'] at he'
  rw [← h3] at he
  unfold big
  simp only [InR, List.length_cons, List.length_nil]
  refine ⟨h0, hlt', by omega, fun _ => ⟨fun hc => ?_, fun hc => ?_⟩⟩
  ·rw [if_pos (of_decide_eq_true hc)]
   exact ⟨by omega, by omega, h0, by omega, by omega, by omega, by omega, ⟨by omega, by omega, trivial, rfl, trivial⟩, by omega⟩
  ·rw [if_neg (of_decide_eq_false hc), List.append_nil]
   exact ⟨h0, by omega, by omega, by omega, by omega, ⟨by omega, by omega, trivial, rfl, trivial⟩, by omega⟩
 ·have hge : ¬ i < (keep.length : Int) := of_decide_eq_false hge
  simp only at h0 h1 h2 h3 ⊢
  have hi : i.toNat = keep.length := by omega
  rw [hi] at h2 h3
  have he := endS_range pinned hp keep.length (by omega)
  have hl := gapsUp_length pinned keep long keep.length
  have hP : planGapsL a.length keep long pinned = out ++ (if endS pinned keep long keep.length < a.length then [(endS pinned keep long keep.length, a.length - endS pinned keep long keep.length)] else []) := by
   rw [h2]
   rfl
  rw [← h2] at hl
  rw [hP, ← h3]
  rw [← h3] at he
  unfold big
  simp only [InR, List.length_cons, List.length_nil]
  refine fun _ => ⟨fun hc => ?_, fun hc => ?_⟩
  ·rw [if_pos (of_decide_eq_true hc)]
   exact ⟨by omega, by omega, rfl, trivial, trivial⟩
  ·rw [if_neg (of_decide_eq_false hc), List.append_nil]
   exact ⟨rfl, trivial, trivial⟩
theorem e_planGaps : pv_planGaps = (fnVC Tryz.prog (tbl [(177, sp_longs), (178, sp_slid)]) an_planGaps Tryz.f162 sp_planGaps) := by kernel_rfl
theorem vc_planGaps : fnVC Tryz.prog (tbl [(177, sp_longs), (178, sp_slid)]) an_planGaps Tryz.f162 sp_planGaps := @Eq.mp _ _ @e_planGaps @vcp_planGaps
theorem ok_planGaps : sp_planGaps.ok Tryz.prog 162 := fn_sound (P := Tryz.prog) (ss := tbl [(177, sp_longs), (178, sp_slid)]) (ann := an_planGaps) (f := 162) (fn := Tryz.f162) (s := sp_planGaps) (tbl_cons ok_longs (tbl_cons ok_slid tbl_nil)) Tryz.func162 @vc_planGaps
theorem headAt_ok (a : List Int) (at_ : Int) : headFault (headAtL at_ (spotsF a).1).1 = 0 := by
 rcases headAtL_in at_ (spotsF a).1 with e | ⟨s, h1, _, _, e⟩
 ·rw [e]; rfl
 ·rw [e]; exact (spotsF_in2 a s h1).2.2
theorem lg_ok (a : List Int) (at_ : Int) : 1 ≤ lgOf (spotsF a).1 at_ ∧ lgOf (spotsF a).1 at_ ≤ 256 := by
 have := headFault_zero (headAt_ok a at_)
 unfold lgOf headLong
 omega
def an_planned : Nat → Option LoopGen
 | 3 => some { rd := [.dat 0 (.arr ty_W), .dat 13 (.arr ty_I), .dat 2 (.arr ty_I)], A := fun ((a, keep, pinned) : List Int × List Int × List Int) => { cs := [.own 7 3 ty_I, .dat 15 ty_I], inv := fun ((out, i) : List Int × Int) => 0 ≤ i ∧ i ≤ keep.length ∧ out = (List.range i.toNat).map (toS pinned keep (keep.map (lgOf (spotsF a).1))), mu := fun ((_, i) : List Int × Int) => (keep.length - i).toNat } }
 | 9 => some { rd := [.dat 0 (.arr ty_W), .dat 1 (.arr ty_I), .dat 2 (.arr ty_I), .dat 8 ty_I], A := fun ((a, keep, pinned, i) : List Int × List Int × List Int × Int) => { cs := [.dat 9 ty_I, .dat 10 ty_I], inv := fun ((s, k) : Int × Int) => -1 ≤ k ∧ k < i ∧ 0 ≤ s ∧ s + endS pinned keep (keep.map (lgOf (spotsF a).1)) (k + 1).toNat = endS pinned keep (keep.map (lgOf (spotsF a).1)) i.toNat, mu := fun ((_, k) : Int × Int) => (k + 1).toNat } }
 | _ => none
def sp_planned : Spec := { Ts := [.arr ty_W, .arr ty_I, .arr ty_I], Rs := [.own 3 ty_I], pre := fun ((a, keep, _) : List Int × List Int × List Int) => planPre keep (keep.map (lgOf (spotsF a).1)), F := fun ((a, keep, pinned) : List Int × List Int × List Int) => planS keep (keep.map (lgOf (spotsF a).1)) pinned }
def pv_planned : Prop :=
  ∀ (x : List Int × List Int × List Int), ((x.fst.length * (8 : Nat) ≤ big ∧ ∀ (x_1 : Int), x_1 ∈ x.fst → InR IntKind.u64 x_1) ∧ (x.snd.fst.length * (8 : Nat) ≤ big ∧ ∀ (x_1 : Int), x_1 ∈ x.snd.fst → InR IntKind.i64 x_1) ∧ x.snd.snd.length * (8 : Nat) ≤ big ∧ ∀ (x_1 : Int), x_1 ∈ x.snd.snd → InR IntKind.i64 x_1) → planPre x.snd.fst (List.map (lgOf (spotsF x.fst).fst) x.snd.fst) → ((0 : Int) ≤ (0 : Int) ∧ (0 : Int) ≤ (↑x.snd.fst.length : Int) ∧ ([] : List Int) = List.map (toS x.snd.snd x.snd.fst (List.map (lgOf (spotsF x.fst).fst) x.snd.fst)) (List.range (Int.toNat (0 : Int)))) ∧ ∀ (x_1 : List Int × Int), (0 : Int) ≤ x_1.snd ∧ x_1.snd ≤ (↑x.snd.fst.length : Int) ∧ x_1.fst = List.map (toS x.snd.snd x.snd.fst (List.map (lgOf (spotsF x.fst).fst) x.snd.fst)) (List.range x_1.snd.toNat) → (decide (x_1.snd < (↑x.snd.fst.length : Int)) = true → (0 : Int) ≤ x_1.snd ∧ x_1.snd < (↑x.snd.fst.length : Int) ∧ True ∧ (inL x.snd.snd (x.snd.fst.getD x_1.snd.toNat (0 : Int)) = true → (0 : Int) ≤ x_1.snd ∧ x_1.snd < (↑x.snd.fst.length : Int) ∧ (x_1.fst.length + [x.snd.fst.getD x_1.snd.toNat (0 : Int)].length) * (8 : Nat) ≤ big ∧ InR IntKind.i64 (x_1.snd + (1 : Int)) ∧ ((0 : Int) ≤ x_1.snd + (1 : Int) ∧ x_1.snd + (1 : Int) ≤ (↑x.snd.fst.length : Int) ∧ x_1.fst ++ [x.snd.fst.getD x_1.snd.toNat (0 : Int)] = List.map (toS x.snd.snd x.snd.fst (List.map (lgOf (spotsF x.fst).fst) x.snd.fst)) (List.range (x_1.snd + (1 : Int)).toNat)) ∧ ((↑x.snd.fst.length : Int) - (x_1.snd + (1 : Int))).toNat < ((↑x.snd.fst.length : Int) - x_1.snd).toNat) ∧ (inL x.snd.snd (x.snd.fst.getD x_1.snd.toNat (0 : Int)) = false → InR IntKind.i64 (x_1.snd - (1 : Int)) ∧ ((-1 : Int) ≤ x_1.snd - (1 : Int) ∧ x_1.snd - (1 : Int) < x_1.snd ∧ (0 : Int) ≤ (0 : Int) ∧ (0 : Int) + endS x.snd.snd x.snd.fst (List.map (lgOf (spotsF x.fst).fst) x.snd.fst) (x_1.snd - (1 : Int) + (1 : Int)).toNat = endS x.snd.snd x.snd.fst (List.map (lgOf (spotsF x.fst).fst) x.snd.fst) x_1.snd.toNat) ∧ ∀ (x_2 : Int × Int), (-1 : Int) ≤ x_2.snd ∧ x_2.snd < x_1.snd ∧ (0 : Int) ≤ x_2.fst ∧ x_2.fst + endS x.snd.snd x.snd.fst (List.map (lgOf (spotsF x.fst).fst) x.snd.fst) (x_2.snd + (1 : Int)).toNat = endS x.snd.snd x.snd.fst (List.map (lgOf (spotsF x.fst).fst) x.snd.fst) x_1.snd.toNat → (decide ((0 : Int) ≤ x_2.snd) = true → (0 : Int) ≤ x_2.snd ∧ x_2.snd < (↑x.snd.fst.length : Int) ∧ True ∧ (InR IntKind.i64 ((1 : Int) + (headAtL (x.snd.fst.getD x_2.snd.toNat (0 : Int)) (spotsF x.fst).fst).fst.fst) ∧ InR IntKind.i64 ((1 : Int) + (headAtL (x.snd.fst.getD x_2.snd.toNat (0 : Int)) (spotsF x.fst).fst).fst.fst + (headAtL (x.snd.fst.getD x_2.snd.toNat (0 : Int)) (spotsF x.fst).fst).fst.snd.fst)) ∧ InR IntKind.i64 (x_2.fst + headLong (headAtL (x.snd.fst.getD x_2.snd.toNat (0 : Int)) (spotsF x.fst).fst).fst) ∧ (0 : Int) ≤ x_2.snd ∧ x_2.snd < (↑x.snd.fst.length : Int) ∧ True ∧ (inL x.snd.snd (x.snd.fst.getD x_2.snd.toNat (0 : Int)) = true → (0 : Int) ≤ x_2.snd ∧ x_2.snd < (↑x.snd.fst.length : Int) ∧ InR IntKind.i64 (x_2.fst + headLong (headAtL (x.snd.fst.getD x_2.snd.toNat (0 : Int)) (spotsF x.fst).fst).fst + x.snd.fst.getD x_2.snd.toNat (0 : Int)) ∧ (x_1.fst.length + [x_2.fst + headLong (headAtL (x.snd.fst.getD x_2.snd.toNat (0 : Int)) (spotsF x.fst).fst).fst + x.snd.fst.getD x_2.snd.toNat (0 : Int)].length) * (8 : Nat) ≤ big ∧ InR IntKind.i64 (x_1.snd + (1 : Int)) ∧ ((0 : Int) ≤ x_1.snd + (1 : Int) ∧ x_1.snd + (1 : Int) ≤ (↑x.snd.fst.length : Int) ∧ x_1.fst ++ [x_2.fst + headLong (headAtL (x.snd.fst.getD x_2.snd.toNat (0 : Int)) (spotsF x.fst).fst).fst + x.snd.fst.getD x_2.snd.toNat (0 : Int)] = List.map (toS x.snd.snd x.snd.fst (List.map (lgOf (spotsF x.fst).fst) x.snd.fst)) (List.range (x_1.snd + (1 : Int)).toNat)) ∧ ((↑x.snd.fst.length : Int) - (x_1.snd + (1 : Int))).toNat < ((↑x.snd.fst.length : Int) - x_1.snd).toNat) ∧ (inL x.snd.snd (x.snd.fst.getD x_2.snd.toNat (0 : Int)) = false → InR IntKind.i64 (x_2.snd - (1 : Int)) ∧ ((-1 : Int) ≤ x_2.snd - (1 : Int) ∧ x_2.snd - (1 : Int) < x_1.snd ∧ (0 : Int) ≤ x_2.fst + headLong (headAtL (x.snd.fst.getD x_2.snd.toNat (0 : Int)) (spotsF x.fst).fst).fst ∧ x_2.fst + headLong (headAtL (x.snd.fst.getD x_2.snd.toNat (0 : Int)) (spotsF x.fst).fst).fst + endS x.snd.snd x.snd.fst (List.map (lgOf (spotsF x.fst).fst) x.snd.fst) (x_2.snd - (1 : Int) + (1 : Int)).toNat = endS x.snd.snd x.snd.fst (List.map (lgOf (spotsF x.fst).fst) x.snd.fst) x_1.snd.toNat) ∧ (x_2.snd - (1 : Int) + (1 : Int)).toNat < (x_2.snd + (1 : Int)).toNat)) ∧ (decide ((0 : Int) ≤ x_2.snd) = false → (x_1.fst.length + [x_2.fst].length) * (8 : Nat) ≤ big ∧ InR IntKind.i64 (x_1.snd + (1 : Int)) ∧ ((0 : Int) ≤ x_1.snd + (1 : Int) ∧ x_1.snd + (1 : Int) ≤ (↑x.snd.fst.length : Int) ∧ x_1.fst ++ [x_2.fst] = List.map (toS x.snd.snd x.snd.fst (List.map (lgOf (spotsF x.fst).fst) x.snd.fst)) (List.range (x_1.snd + (1 : Int)).toNat)) ∧ ((↑x.snd.fst.length : Int) - (x_1.snd + (1 : Int))).toNat < ((↑x.snd.fst.length : Int) - x_1.snd).toNat))) ∧ (decide (x_1.snd < (↑x.snd.fst.length : Int)) = false → x_1.fst = planS x.snd.fst (List.map (lgOf (spotsF x.fst).fst) x.snd.fst) x.snd.snd ∧ True)
theorem vcp_planned : pv_planned := by
 unfold pv_planned
 intro ⟨a, keep, pinned⟩ _ hp
 have hp' := hp
 obtain ⟨p1, p2, p3, p4⟩ := hp'
 simp only at p1 p2 p3 p4 hp ⊢
 have hG : ∀ k : Nat, k < keep.length → (keep.map (lgOf (spotsF a).1)).getD k 0 = headLong (headAtL (keep.getD k 0) (spotsF a).1).1 := by
  intro k hk
  rw [List.getD_eq_getElem?_getD, List.getElem?_map, List.getD_eq_getElem?_getD, List.getElem?_eq_getElem hk]
  rfl
 have hH := fun x => headFault_zero (headAt_ok a x)
 have hrg := fun i hi => endS_range (i := i) pinned hp hi
 have hE : ∀ i : Nat, endS pinned keep (keep.map (lgOf (spotsF a).1)) (i + 1) = toS pinned keep (keep.map (lgOf (spotsF a).1)) i + (keep.map (lgOf (spotsF a).1)).getD i 0 := fun _ => rfl
 have hT : ∀ i : Nat, toS pinned keep (keep.map (lgOf (spotsF a).1)) i = if inL pinned (keep.getD i 0) = true then keep.getD i 0 else endS pinned keep (keep.map (lgOf (spotsF a).1)) i := fun _ => rfl
 have hP : planS keep (keep.map (lgOf (spotsF a).1)) pinned = (List.range keep.length).map (toS pinned keep (keep.map (lgOf (spotsF a).1))) := rfl
 rw [hP]
 clear hP
 generalize keep.map (lgOf (spotsF a).1) = long at *
 unfold big
 simp only [InR]
 refine ⟨⟨by omega, by omega, rfl⟩, fun ⟨out, i⟩ ⟨h0, h1, h2⟩ => ⟨fun hlt => ?_, fun hge => ?_⟩⟩
 ·have hlt' : i < (keep.length : Int) := of_decide_eq_true hlt
  simp only at h0 h1 h2 ⊢
  have hl : out.length = i.toNat := by rw [h2]; simp
  have hs : (List.range (i + 1).toNat).map (toS pinned keep long) = out ++ [toS pinned keep long i.toNat] := by
   rw [show (i + 1).toNat = i.toNat + 1 by omega, List.range_succ, List.map_append, ← h2]
   rfl
  have hri := hrg i.toNat (by omega)
  rw [hs, hT]
  simp only [List.length_cons, List.length_nil]
  refine ⟨h0, hlt', trivial, fun hc => ?_, fun hc => ?_⟩
  ·rw [if_pos hc]
   exact ⟨h0, hlt', by omega, by omega, ⟨by omega, by omega, rfl⟩, by omega⟩
  ·rw [if_neg (by rw [hc]; simp)]
   refine ⟨by omega, ⟨by omega, by omega, by omega, by rw [show i - 1 + 1 = i by omega]; omega⟩, fun ⟨s, k⟩ ⟨k0, k1, k2, k3⟩ => ⟨fun hk => ?_, fun hk => ?_⟩⟩
   ·have hk : 0 ≤ k := of_decide_eq_true hk
    simp only at k0 k1 k2 k3 ⊢
    have hh := hH (keep.getD k.toNat 0)
    have hx := p3 _ (getD_mem (0 : Int) (xs := keep) (i := k) hk (by omega))
    have hrk := hrg (k + 1).toNat (by omega)
    have hrk0 := hrg k.toNat (by omega)
    rw [show (k + 1).toNat = k.toNat + 1 by omega, hE, hT, hG k.toNat (by omega)] at k3 hrk
    have hLd : headLong (headAtL (keep.getD k.toNat 0) (spotsF a).1).1 = 1 + (headAtL (keep.getD k.toNat 0) (spotsF a).1).1.1 + (headAtL (keep.getD k.toNat 0) (spotsF a).1).1.2.1 := rfl
    generalize headLong (headAtL (keep.getD k.toNat 0) (spotsF a).1).1 = n at *
    generalize (headAtL (keep.getD k.toNat 0) (spotsF a).1).1 = hd at *
    rw [show k - 1 + 1 = k by omega]
    refine ⟨hk, by omega, trivial, ⟨by omega, by omega⟩, by omega, hk, by omega, trivial, fun hp1 => ?_, fun hp1 => ?_⟩
    ·rw [if_pos hp1] at k3 hrk
     refine ⟨hk, by omega, by omega, by omega, by omega, ⟨by omega, by omega, ?_⟩, by omega⟩
     rw [show s + n + keep.getD k.toNat 0 = endS pinned keep long i.toNat by omega]
    ·rw [if_neg (by rw [hp1]; simp)] at k3 hrk
     exact ⟨by omega, ⟨by omega, by omega, by omega, by omega⟩, by omega⟩
   ·have hk : ¬ 0 ≤ k := of_decide_eq_false hk
    simp only at k0 k1 k2 k3 ⊢
    have e0 : endS pinned keep long 0 = 0 := rfl
    rw [show (k + 1).toNat = 0 by omega, e0] at k3
    refine ⟨by omega, by omega, ⟨by omega, by omega, ?_⟩, by omega⟩
    rw [show s = endS pinned keep long i.toNat by omega]
 ·have hge : ¬ i < (keep.length : Int) := of_decide_eq_false hge
  simp only at h0 h1 h2
  rw [h2, show i.toNat = keep.length by omega]
  exact ⟨rfl, trivial⟩
theorem e_planned : pv_planned = (fnVC Tryz.prog (tbl [(44, sp_rIn), (41, sp_rHeadAt), (42, sp_rHeadLong)]) an_planned Tryz.f50 sp_planned) := by kernel_rfl
theorem vc_planned : fnVC Tryz.prog (tbl [(44, sp_rIn), (41, sp_rHeadAt), (42, sp_rHeadLong)]) an_planned Tryz.f50 sp_planned := @Eq.mp _ _ @e_planned @vcp_planned
theorem ok_planned : sp_planned.ok Tryz.prog 50 := fn_sound (P := Tryz.prog) (ss := tbl [(44, sp_rIn), (41, sp_rHeadAt), (42, sp_rHeadLong)]) (ann := an_planned) (f := 50) (fn := Tryz.f50) (s := sp_planned) (tbl_cons ok_rIn (tbl_cons ok_rHeadAt (tbl_cons ok_rHeadLong tbl_nil))) Tryz.func50 @vc_planned
def covS (l : List Spot) (keep to : List Int) (k : Int) : Bool := (List.range keep.length).any fun i => decide (to.getD i 0 ≤ k) && decide (k < to.getD i 0 + lgOf l (keep.getD i 0))
def an_planFree : Nat → Option LoopGen
 | 2 => some { rd := [.dat 0 ty_I, .dat 10 (.arr ty_I), .dat 2 (.ref (.arr ty_W)), .dat 3 (.ref (.arr ty_I))], A := fun ((k, keep, a, to) : Int × List Int × List Int × List Int) => { cs := [.dat 12 ty_I], inv := fun (i : Int) => 0 ≤ i ∧ i ≤ keep.length ∧ ((List.range i.toNat).any fun i => decide (to.getD i 0 ≤ k) && decide (k < to.getD i 0 + lgOf (spotsF a).1 (keep.getD i 0))) = false, mu := fun (i : Int) => (keep.length - i).toNat } }
 | _ => none
def sp_planFree : Spec := { Ts := [ty_I, .ref (.arr ty_I), .ref (.arr ty_W), .ref (.arr ty_I)], Rs := [.dat .bool], pre := fun ((_, keep, _, to) : Int × List Int × List Int × List Int) => to.length = keep.length ∧ keep.length ≤ 256 ∧ ∀ x ∈ to, 0 ≤ x ∧ x ≤ 200000, F := fun ((k, keep, a, to) : Int × List Int × List Int × List Int) => !covS (spotsF a).1 keep to k }
def pv_planFree : Prop :=
  ∀ (x : Int × List Int × List Int × List Int), (InR IntKind.i64 x.fst ∧ (x.snd.fst.length * (8 : Nat) ≤ big ∧ ∀ (x_1 : Int), x_1 ∈ x.snd.fst → InR IntKind.i64 x_1) ∧ (x.snd.snd.fst.length * (8 : Nat) ≤ big ∧ ∀ (x_1 : Int), x_1 ∈ x.snd.snd.fst → InR IntKind.u64 x_1) ∧ x.snd.snd.snd.length * (8 : Nat) ≤ big ∧ ∀ (x_1 : Int), x_1 ∈ x.snd.snd.snd → InR IntKind.i64 x_1) → (x.snd.snd.snd.length = x.snd.fst.length ∧ x.snd.fst.length ≤ (256 : Nat) ∧ ∀ (x_1 : Int), x_1 ∈ x.snd.snd.snd → (0 : Int) ≤ x_1 ∧ x_1 ≤ (200000 : Int)) → ((0 : Int) ≤ (0 : Int) ∧ (0 : Int) ≤ (↑x.snd.fst.length : Int) ∧ ((List.range (Int.toNat (0 : Int))).any fun (i : Nat) => decide (x.snd.snd.snd.getD i (0 : Int) ≤ x.fst) && decide (x.fst < x.snd.snd.snd.getD i (0 : Int) + lgOf (spotsF x.snd.snd.fst).fst (x.snd.fst.getD i (0 : Int)))) = false) ∧ ∀ (x_1 : Int), (0 : Int) ≤ x_1 ∧ x_1 ≤ (↑x.snd.fst.length : Int) ∧ ((List.range x_1.toNat).any fun (i : Nat) => decide (x.snd.snd.snd.getD i (0 : Int) ≤ x.fst) && decide (x.fst < x.snd.snd.snd.getD i (0 : Int) + lgOf (spotsF x.snd.snd.fst).fst (x.snd.fst.getD i (0 : Int)))) = false → (decide (x_1 < (↑x.snd.fst.length : Int)) = true → (0 : Int) ≤ x_1 ∧ x_1 < (↑x.snd.fst.length : Int) ∧ True ∧ (0 : Int) ≤ x_1 ∧ x_1 < (↑x.snd.snd.snd.length : Int) ∧ (decide (x.snd.snd.snd.getD x_1.toNat (0 : Int) ≤ x.fst) = true → (0 : Int) ≤ x_1) ∧ (decide (x.snd.snd.snd.getD x_1.toNat (0 : Int) ≤ x.fst) = true → x_1 < (↑x.snd.snd.snd.length : Int)) ∧ (decide (x.snd.snd.snd.getD x_1.toNat (0 : Int) ≤ x.fst) = true → InR IntKind.i64 ((1 : Int) + (headAtL (x.snd.fst.getD x_1.toNat (0 : Int)) (spotsF x.snd.snd.fst).fst).fst.fst) ∧ InR IntKind.i64 ((1 : Int) + (headAtL (x.snd.fst.getD x_1.toNat (0 : Int)) (spotsF x.snd.snd.fst).fst).fst.fst + (headAtL (x.snd.fst.getD x_1.toNat (0 : Int)) (spotsF x.snd.snd.fst).fst).fst.snd.fst)) ∧ (decide (x.snd.snd.snd.getD x_1.toNat (0 : Int) ≤ x.fst) = true → InR IntKind.i64 (x.snd.snd.snd.getD x_1.toNat (0 : Int) + headLong (headAtL (x.snd.fst.getD x_1.toNat (0 : Int)) (spotsF x.snd.snd.fst).fst).fst)) ∧ ((decide (x.snd.snd.snd.getD x_1.toNat (0 : Int) ≤ x.fst) && decide (x.fst < x.snd.snd.snd.getD x_1.toNat (0 : Int) + headLong (headAtL (x.snd.fst.getD x_1.toNat (0 : Int)) (spotsF x.snd.snd.fst).fst).fst)) = true → false = !covS (spotsF x.snd.snd.fst).fst x.snd.fst x.snd.snd.snd x.fst ∧ True) ∧ ((decide (x.snd.snd.snd.getD x_1.toNat (0 : Int) ≤ x.fst) && decide (x.fst < x.snd.snd.snd.getD x_1.toNat (0 : Int) + headLong (headAtL (x.snd.fst.getD x_1.toNat (0 : Int)) (spotsF x.snd.snd.fst).fst).fst)) = false → InR IntKind.i64 (x_1 + (1 : Int)) ∧ ((0 : Int) ≤ x_1 + (1 : Int) ∧ x_1 + (1 : Int) ≤ (↑x.snd.fst.length : Int) ∧ ((List.range (x_1 + (1 : Int)).toNat).any fun (i : Nat) => decide (x.snd.snd.snd.getD i (0 : Int) ≤ x.fst) && decide (x.fst < x.snd.snd.snd.getD i (0 : Int) + lgOf (spotsF x.snd.snd.fst).fst (x.snd.fst.getD i (0 : Int)))) = false) ∧ ((↑x.snd.fst.length : Int) - (x_1 + (1 : Int))).toNat < ((↑x.snd.fst.length : Int) - x_1).toNat)) ∧ (decide (x_1 < (↑x.snd.fst.length : Int)) = false → true = !covS (spotsF x.snd.snd.fst).fst x.snd.fst x.snd.snd.snd x.fst ∧ True)
theorem vcp_planFree : pv_planFree := by
 unfold pv_planFree
 intro ⟨k, keep, a, to⟩ _ ⟨p1, p2, p3⟩
 simp only at p1 p2 p3 ⊢
 have hC : covS (spotsF a).1 keep to k = (List.range keep.length).any fun i => decide (to.getD i 0 ≤ k) && decide (k < to.getD i 0 + lgOf (spotsF a).1 (keep.getD i 0)) := rfl
 rw [hC]
 generalize hf : (fun i : Nat => decide (to.getD i 0 ≤ k) && decide (k < to.getD i 0 + lgOf (spotsF a).1 (keep.getD i 0))) = f
 simp only [InR]
 refine ⟨⟨by omega, by omega, rfl⟩, fun i ⟨h0, h1, h2⟩ => ⟨fun hlt => ?_, fun hge => ?_⟩⟩
 ·have hlt : i < (keep.length : Int) := of_decide_eq_true hlt
  have hh := headFault_zero (headAt_ok a (keep.getD i.toNat 0))
  have hx := p3 _ (getD_mem (0 : Int) (xs := to) h0 (by omega))
  have hfi : f i.toNat = (decide (to.getD i.toNat 0 ≤ k) && decide (k < to.getD i.toNat 0 + headLong (headAtL (keep.getD i.toNat 0) (spotsF a).1).1)) := by rw [← hf]; rfl
  have hLd : headLong (headAtL (keep.getD i.toNat 0) (spotsF a).1).1 = 1 + (headAtL (keep.getD i.toNat 0) (spotsF a).1).1.1 + (headAtL (keep.getD i.toNat 0) (spotsF a).1).1.2.1 := rfl
  rw [← hfi]
  refine ⟨h0, hlt, trivial, h0, by omega, fun _ => h0, fun _ => by omega, fun _ => ⟨by omega, by omega⟩, fun _ => by omega, fun hc => ?_, fun hc => ⟨by omega, ⟨by omega, by omega, ?_⟩, by omega⟩⟩
  ·have : (List.range keep.length).any f = true := List.any_eq_true.2 ⟨i.toNat, List.mem_range.2 (by omega), hc⟩
   rw [this]
   exact ⟨rfl, trivial⟩
  ·rw [show (i + 1).toNat = i.toNat + 1 by omega, List.range_succ, List.any_append, h2]
   simpa using hc
 ·have hge : ¬ i < (keep.length : Int) := of_decide_eq_false hge
  rw [show keep.length = i.toNat by omega, h2]
  exact ⟨rfl, trivial⟩
theorem e_planFree : pv_planFree = (fnVC Tryz.prog (tbl [(41, sp_rHeadAt), (42, sp_rHeadLong)]) an_planFree Tryz.f123 sp_planFree) := by kernel_rfl
theorem vc_planFree : fnVC Tryz.prog (tbl [(41, sp_rHeadAt), (42, sp_rHeadLong)]) an_planFree Tryz.f123 sp_planFree := @Eq.mp _ _ @e_planFree @vcp_planFree
theorem ok_planFree : sp_planFree.ok Tryz.prog 123 := fn_sound (P := Tryz.prog) (ss := tbl [(41, sp_rHeadAt), (42, sp_rHeadLong)]) (ann := an_planFree) (f := 123) (fn := Tryz.f123) (s := sp_planFree) (tbl_cons ok_rHeadAt (tbl_cons ok_rHeadLong tbl_nil)) Tryz.func123 @vc_planFree
def sp_rPlanGaps : Spec := { Ts := [.arr ty_W, .arr ty_I, .arr ty_I], Rs := [.own 42 ty_Gap], pre := fun ((a, keep, _) : List Int × List Int × List Int) => a.length ≤ 256 ∧ planPre keep (keep.map (lgOf (spotsF a).1)), F := fun ((a, keep, pinned) : List Int × List Int × List Int) => runsGo (fun k => !covS (spotsF a).1 keep (planS keep (keep.map (lgOf (spotsF a).1)) pinned) k) a.length 0 [] }
def pv_rPlanGaps : Prop :=
  ∀ (x : List Int × List Int × List Int), ((x.fst.length * (8 : Nat) ≤ big ∧ ∀ (x_1 : Int), x_1 ∈ x.fst → InR IntKind.u64 x_1) ∧ (x.snd.fst.length * (8 : Nat) ≤ big ∧ ∀ (x_1 : Int), x_1 ∈ x.snd.fst → InR IntKind.i64 x_1) ∧ x.snd.snd.length * (8 : Nat) ≤ big ∧ ∀ (x_1 : Int), x_1 ∈ x.snd.snd → InR IntKind.i64 x_1) → x.fst.length ≤ (256 : Nat) ∧ planPre x.snd.fst (List.map (lgOf (spotsF x.fst).fst) x.snd.fst) → planPre x.snd.fst (List.map (lgOf (spotsF x.fst).fst) x.snd.fst) ∧ ((0 : Int) ≤ (↑x.fst.length : Int) ∧ (↑x.fst.length : Int) ≤ (300 : Int) ∧ ∀ (i : Int), (0 : Int) ≤ i → i < (↑x.fst.length : Int) → (fun (x_1 : Int) => (planS x.snd.fst (List.map (lgOf (spotsF x.fst).fst) x.snd.fst) x.snd.snd).length = x.snd.fst.length ∧ x.snd.fst.length ≤ (256 : Nat) ∧ ∀ (x_2 : Int), x_2 ∈ planS x.snd.fst (List.map (lgOf (spotsF x.fst).fst) x.snd.fst) x.snd.snd → (0 : Int) ≤ x_2 ∧ x_2 ≤ (200000 : Int), fun (x_1 : Int) => !covS (spotsF x.fst).fst x.snd.fst (planS x.snd.fst (List.map (lgOf (spotsF x.fst).fst) x.snd.fst) x.snd.snd) x_1).fst i) ∧ runsGo (fun (x_1 : Int) => !covS (spotsF x.fst).fst x.snd.fst (planS x.snd.fst (List.map (lgOf (spotsF x.fst).fst) x.snd.fst) x.snd.snd) x_1) (↑x.fst.length : Int).toNat (0 : Int) ([] : List Gap) = runsGo (fun (k : Int) => !covS (spotsF x.fst).fst x.snd.fst (planS x.snd.fst (List.map (lgOf (spotsF x.fst).fst) x.snd.fst) x.snd.snd) k) x.fst.length (0 : Int) ([] : List Gap) ∧ True
theorem vcp_rPlanGaps : pv_rPlanGaps := by
 unfold pv_rPlanGaps
 intro ⟨a, keep, pinned⟩ _ ⟨hal, hp⟩
 simp only at hal hp ⊢
 refine ⟨hp, ⟨by omega, by omega, fun _ _ _ => ⟨by simp [planS], hp.2.1, fun x hx => ?_⟩⟩, rfl, trivial⟩
 unfold planS at hx
 obtain ⟨i, hi, rfl⟩ := List.mem_map.1 hx
 have hi := List.mem_range.1 hi
 have := toS_range pinned hp hi
 have := hp.2.1
 omega
theorem e_rPlanGaps : pv_rPlanGaps = (fnVC Tryz.prog (tbl [(50, sp_planned), (123, sp_planFree), (48, sp_rRuns)]) an_0 Tryz.f88 sp_rPlanGaps) := by kernel_rfl
theorem vc_rPlanGaps : fnVC Tryz.prog (tbl [(50, sp_planned), (123, sp_planFree), (48, sp_rRuns)]) an_0 Tryz.f88 sp_rPlanGaps := @Eq.mp _ _ @e_rPlanGaps @vcp_rPlanGaps
theorem ok_rPlanGaps : sp_rPlanGaps.ok Tryz.prog 88 := fn_sound (P := Tryz.prog) (ss := tbl [(50, sp_planned), (123, sp_planFree), (48, sp_rRuns)]) (ann := an_0) (f := 88) (fn := Tryz.f88) (s := sp_rPlanGaps) (tbl_cons ok_planned (tbl_cons ok_planFree (tbl_cons ok_rRuns tbl_nil))) Tryz.func88 @vc_rPlanGaps
end Go.Proofs.YtglchojglcobjaaGreat
