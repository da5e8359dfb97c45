
import Derived.Test.YtcnoiiohmpgckaaTris
import Derived.Test.YtcnoiiohmpgckaaYoungs
import Derived.Test.YtcnoiiohmpgckaaPutPure
import Derived.Test.YtcnoiiohmpgckaaSearch
import Derived.Test.YtcnoiiohmpgckaaRowInsI
import Derived.Test.YtcnoiiohmpgckaaRowDelI
import Derived.Test.YtcnoiiohmpgckaaRoots
namespace Go.Proofs.Ytcnoiiohmpgckaa
open Go
set_option maxRecDepth 100000
set_option maxHeartbeats 1000000
def writeT (t : Tri) (x r to : Int) : Tri × Int :=
  if triF t ≠ 0 then (([], [], []), triF t) else
  if (writtenF t.1 x r to).2 ≠ 0 then (([], [], []), (writtenF t.1 x r to).2) else
  (((writtenF t.1 x r to).1, if 0 ≤ to ∧ inL t.2.2 x = true ∧ whiteB t to = true then putL t.2.1 to else t.2.1, t.2.2), 0)
theorem tri_ok {a g b : List Int} (h : triF (a, g, b) = 0) : (checkF a).2.2 = 0 ∧ g.Pairwise (· < ·) ∧ b.Pairwise (· < ·) ∧ (∀ y ∈ g, isB (spotsF a).1 y = true) ∧ (∀ y ∈ b, isB (spotsF a).1 y = true) ∧ (∀ y ∈ g, ¬ y ∈ b) ∧ ∀ y ∈ b, ∀ z ∈ outsA a y, z ∈ g ∨ z ∈ b := by
  have hA : triF (a, g, b) = if (checkF a).2.2 ≠ 0 then (checkF a).2.2 else if (risesL g && risesL b) = false then 3 else if (g ++ b).all (isB (spotsF a).1) = false then 5 else if g.any (inL b) = true then 6 else if b.any (heldT (a, g, b)) = true then 8 else 0 := rfl
  rw [hA] at h
  split at h
  · rename_i h6; exact absurd h h6
  rename_i h1
  split at h
  · omega
  rename_i h2
  split at h
  · omega
  rename_i h3
  split at h
  · omega
  rename_i h4
  split at h
  · omega
  rename_i h5
  have h3 : (g ++ b).all (isB (spotsF a).1) = true := by simpa using h3
  have h7 : risesL g = true ∧ risesL b = true := by
    cases e1 : risesL g <;> cases e2 : risesL b <;> simp_all
  refine ⟨by omega, risesL_pairwise h7.1, risesL_pairwise h7.2, fun y hy => List.all_eq_true.1 h3 y (List.mem_append_left _ hy), fun y hy => List.all_eq_true.1 h3 y (List.mem_append_right _ hy), fun y hy hyb => h4 (List.any_eq_true.2 ⟨y, hy, inL_iff.2 hyb⟩), fun y hy z hz => ?_⟩
  apply Classical.byContradiction
  intro hn
  apply h5
  refine List.any_eq_true.2 ⟨y, hy, List.any_eq_true.2 ⟨z, hz, ?_⟩⟩
  have e1 : inL g z = false := by cases e : inL g z; rfl; exact absurd (.inl (inL_iff.1 e)) hn
  have e2 : inL b z = false := by cases e : inL b z; rfl; exact absurd (.inr (inL_iff.1 e)) hn
  show (!inL g z && !inL b z) = true
  rw [e1, e2]
  rfl
theorem low_range (l : List Int) (x : Int) : 0 ≤ lowI l x ∧ lowI l x ≤ l.length := by
  unfold lowI
  have := List.length_filter_le (fun y => decide (y < x)) l
  omega
def an_tWrite : Nat → Option LoopGen
  | 3000133 => some an_in
  | 3000135 => some an_in
  | 13404000001 => some an_in
  | _ => none
def sp_tWrite : Spec := { Ts := [ty_Tri, ty_I, ty_I, ty_I], Rs := [.dat ty_Tri, .dat ty_I], al := true, pre := fun ((t, _) : Tri × Int × Int × Int) => (t.2.1.length + t.2.2.length + 1) * 8 ≤ 140737488355328, F := fun ((t, x, r, to) : Tri × Int × Int × Int) => writeT t x r to }
def pv_tWrite : Prop :=
    ∀ (x : (List Int × List Int × List Int) × Int × Int × Int), ((x.1.1.length * 8 ≤ big ∧ ∀ (x_1 : Int), x_1 ∈ x.1.1 → InR IntKind.u64 x_1) ∧ (x.1.2.1.length * 8 ≤ big ∧ ∀ (x_1 : Int), x_1 ∈ x.1.2.1 → InR IntKind.i64 x_1) ∧ x.1.2.2.length * 8 ≤ big ∧ ∀ (x_1 : Int), x_1 ∈ x.1.2.2 → InR IntKind.i64 x_1) ∧ InR IntKind.i64 x.2.1 ∧ InR IntKind.i64 x.2.2.1 ∧ InR IntKind.i64 x.2.2.2 → (x.1.2.1.length + x.1.2.2.length + 1) * 8 ≤ 140737488355328 → (x.1.2.1.length + x.1.2.2.length) * 8 ≤ 140737488355328 ∧ (decide (triF x.1 ≠ 0) = true → (([] : List Int), ([] : List Int), ([] : List Int)) = (writeT x.1 x.2.1 x.2.2.1 x.2.2.2).1 ∧ triF x.1 = (writeT x.1 x.2.1 x.2.2.1 x.2.2.2).2 ∧ True) ∧ (decide (triF x.1 ≠ 0) = false → True ∧ ((!(mget (headsL (spotsF x.1.1).1) x.2.1).isSome) = true → (([] : List Int), ([] : List Int), ([] : List Int)) = (writeT x.1 x.2.1 x.2.2.1 x.2.2.2).1 ∧ 5 = (writeT x.1 x.2.1 x.2.2.1 x.2.2.2).2 ∧ True) ∧ ((!(mget (headsL (spotsF x.1.1).1) x.2.1).isSome) = false → ((decide (x.2.2.1 < 0) || decide (((mget (headsL (spotsF x.1.1).1) x.2.1).getD (0, 0, 0, false)).1 ≤ x.2.2.1) || decide (x.2.2.2 ≠ (-1)) && !(mget (headsL (spotsF x.1.1).1) x.2.2.2).isSome) = true → (([] : List Int), ([] : List Int), ([] : List Int)) = (writeT x.1 x.2.1 x.2.2.1 x.2.2.2).1 ∧ 4 = (writeT x.1 x.2.1 x.2.2.1 x.2.2.2).2 ∧ True) ∧ ((decide (x.2.2.1 < 0) || decide (((mget (headsL (spotsF x.1.1).1) x.2.1).getD (0, 0, 0, false)).1 ≤ x.2.2.1) || decide (x.2.2.2 ≠ (-1)) && !(mget (headsL (spotsF x.1.1).1) x.2.2.2).isSome) = false → ∀ (_ : Array Value), True ∧ True ∧ x.1.2.1 = x.1.2.1 ∧ x.1.2.2 = x.1.2.2 ∧ x.1.2.2 = x.1.2.2 ∧ True ∧ InR IntKind.i64 (x.2.1 + 1) ∧ InR IntKind.i64 (x.2.1 + 1 + x.2.2.1) ∧ InR IntKind.i64 (x.2.2.2 + 1) ∧ 0 ≤ x.2.1 + 1 + x.2.2.1 ∧ x.2.1 + 1 + x.2.2.1 < (↑x.1.1.length : Int) ∧ (x.2.1 + 1 + x.2.2.1).toNat < x.1.1.length ∧ (decide (0 ≤ x.2.2.2) = true → True) ∧ ((decide (0 ≤ x.2.2.2) && inL x.1.2.2 x.2.1) = true → True) ∧ ((decide (0 ≤ x.2.2.2) && inL x.1.2.2 x.2.1 && whiteB (x.1.1.set (x.2.1 + 1 + x.2.2.1).toNat (IntKind.u64.wrap (x.2.2.2 + 1)), x.1.2) x.2.2.2) = true → ∀ (_ : Array Value), List.Pairwise (fun (x1 x2 : Int) => x1 ≤ x2) x.1.2.1 ∧ (inL x.1.2.1 x.2.2.2 = true → (x.1.1.set (x.2.1 + 1 + x.2.2.1).toNat (IntKind.u64.wrap (x.2.2.2 + 1)), x.1.2) = (writeT x.1 x.2.1 x.2.2.1 x.2.2.2).1 ∧ 0 = (writeT x.1 x.2.1 x.2.2.1 x.2.2.2).2 ∧ True) ∧ (inL x.1.2.1 x.2.2.2 = false → (0 < [x.2.2.2].length ∧ 0 ≤ lowI x.1.2.1 x.2.2.2 ∧ lowI x.1.2.1 x.2.2.2 ≤ (↑x.1.2.1.length : Int) ∧ (x.1.2.1.length + [x.2.2.2].length) * 8 ≤ big) ∧ (x.1.1.set (x.2.1 + 1 + x.2.2.1).toNat (IntKind.u64.wrap (x.2.2.2 + 1)), insL x.1.2.1 [x.2.2.2] (lowI x.1.2.1 x.2.2.2), x.1.2.2) = (writeT x.1 x.2.1 x.2.2.1 x.2.2.2).1 ∧ 0 = (writeT x.1 x.2.1 x.2.2.1 x.2.2.2).2 ∧ True)) ∧ ((decide (0 ≤ x.2.2.2) && inL x.1.2.2 x.2.1 && whiteB (x.1.1.set (x.2.1 + 1 + x.2.2.1).toNat (IntKind.u64.wrap (x.2.2.2 + 1)), x.1.2) x.2.2.2) = false → (x.1.1.set (x.2.1 + 1 + x.2.2.1).toNat (IntKind.u64.wrap (x.2.2.2 + 1)), x.1.2) = (writeT x.1 x.2.1 x.2.2.1 x.2.2.2).1 ∧ 0 = (writeT x.1 x.2.1 x.2.2.1 x.2.2.2).2 ∧ True))))
theorem vcp_tWrite : pv_tWrite := by
  unfold pv_tWrite
  intro ⟨⟨a, g, b⟩, x, r, to⟩ ⟨⟨⟨hb, hw⟩, ⟨hbg, hg⟩, hbb, hbl⟩, hx, hr, ht⟩ hsz
  unfold big at hb hbg hbb
  simp only at hb hw hbg hg hbb hbl hx hr ht hsz ⊢
  have hF : writeT (a, g, b) x r to = if triF (a, g, b) ≠ 0 then (([], [], []), triF (a, g, b)) else if (writtenF a x r to).2 ≠ 0 then (([], [], []), (writtenF a x r to).2) else (((writtenF a x r to).1, if 0 ≤ to ∧ inL b x = true ∧ whiteB (a, g, b) to = true then putL g to else g, b), 0) := rfl
  have hW : writtenF a x r to = if isB (spotsF a).1 x = false then ([], 5) else if r < 0 ∨ (hdA a x).1 ≤ r ∨ (to ≠ -1 ∧ isB (spotsF a).1 to = false) then ([], 4) else (a.set (x + 1 + r).toNat (to + 1), 0) := rfl
  have hwh : ∀ a' : List Int, whiteB (a', g, b) to = whiteB (a, g, b) to := fun _ => rfl
  have hget := fun y => heads_get (spotsF_sorted a) y
  have hsome : ∀ y, (mget (headsL (spotsF a).1) y).isSome = isB (spotsF a).1 y := fun y => by rw [hget]; cases isB (spotsF a).1 y <;> rfl
  simp only [hsome, hwh]
  rw [hF]
  refine ⟨by omega, fun h => ?_, fun h => ⟨trivial, fun h1 => ?_, fun h1 => ?_⟩⟩
  · rw [if_pos (of_decide_eq_true h)]
    exact ⟨rfl, rfl, trivial⟩
  · have h1 : isB (spotsF a).1 x = false := by simpa using h1
    have hW2 : writtenF a x r to = ([], 5) := by rw [hW, if_pos h1]
    rw [if_neg (of_decide_eq_false h), hW2]
    exact ⟨by first | trivial | rfl, by first | trivial | rfl, trivial⟩
  have h1 : isB (spotsF a).1 x = true := by simpa using h1
  have e2 : ((mget (headsL (spotsF a).1) x).getD (0, 0, 0, false)) = hdA a x := by rw [hget, if_pos h1]; rfl
  rw [e2, if_neg (of_decide_eq_false h)]
  refine ⟨fun h2 => ?_, fun h2 tm => ?_⟩
  · have hW2 : writtenF a x r to = ([], 4) := by rw [hW, if_neg (by rw [h1]; simp), if_pos (by simpa [or_assoc] using h2)]
    rw [hW2]
    exact ⟨by first | trivial | rfl, by first | trivial | rfl, trivial⟩
  have h2 : ¬ (r < 0 ∨ (hdA a x).1 ≤ r ∨ (to ≠ -1 ∧ isB (spotsF a).1 to = false)) := by
    intro h3
    have : (decide (r < 0) || decide ((hdA a x).1 ≤ r) || decide (to ≠ -1) && !isB (spotsF a).1 to) = true := by simpa [or_assoc] using h3
    rw [this] at h2
    cases h2
  have hW2 : writtenF a x r to = (a.set (x + 1 + r).toNat (to + 1), 0) := by rw [hW, if_neg (by rw [h1]; simp), if_neg h2]
  rw [hW2]
  obtain ⟨k1, k2, k3, k4, k5, k6⟩ := objA_length h1
  have hal := (isB_spot h1).2.2.2.2
  have hto : -1 ≤ to ∧ to ≤ 255 := by
    by_cases h3 : to = -1
    · omega
    · have h4 : isB (spotsF a).1 to = true := by
        cases h5 : isB (spotsF a).1 to
        · exact absurd (.inr (.inr ⟨h3, h5⟩)) h2
        · rfl
      have := isB_range h4
      omega
  have hr0 : 0 ≤ r ∧ r < (hdA a x).1 := by omega
  have hkl : (x + 1 + r).toNat < a.length := by omega
  have hrise : g.Pairwise (· ≤ ·) := (tri_ok (by simpa using of_decide_eq_false h)).2.1.imp (fun h => Int.le_of_lt h)
  rw [wrapU (by omega) (by omega)]
  have hlow := low_range g to
  simp only [InR, ne_eq, not_true_eq_false, if_false]
  refine ⟨trivial, trivial, trivial, trivial, trivial, trivial, by omega, by omega, by omega, by omega, by omega, hkl, fun _ => trivial, fun _ => trivial, fun hc tm => ?_, fun hc => ?_⟩
  · have hc2 : 0 ≤ to ∧ inL b x = true ∧ whiteB (a, g, b) to = true := by simpa [and_assoc] using hc
    rw [if_pos hc2]
    refine ⟨hrise, fun hi => ?_, fun hi => ⟨⟨by simp, hlow.1, hlow.2, by unfold big; simp only [List.length_cons, List.length_nil]; omega⟩, ?_⟩⟩
    · have e : putL g to = g := by unfold putL; rw [if_pos hi]
      rw [e]
      exact ⟨by first | trivial | rfl, by first | trivial | rfl, trivial⟩
    · have e : putL g to = insL g [to] (lowI g to) := by unfold putL; rw [if_neg (by rw [hi]; simp)]
      rw [e]
      exact ⟨by first | trivial | rfl, by first | trivial | rfl, trivial⟩
  · have hc2 : ¬ (0 ≤ to ∧ inL b x = true ∧ whiteB (a, g, b) to = true) := by
      intro h3
      have : (decide (0 ≤ to) && inL b x && whiteB (a, g, b) to) = true := by simpa [and_assoc] using h3
      rw [this] at hc
      cases hc
    rw [if_neg hc2]
    exact ⟨by first | trivial | rfl, by first | trivial | rfl, trivial⟩
theorem ok_tWrite : sp_tWrite.ok Try.prog 66 := fn_ok (ann := an_tWrite) (tbl_cons ok_tCheck (tbl_cons ok_tObjects (tbl_cons ok_hasI (tbl_cons ok_white (tbl_cons ok_cloneInts (tbl_cons ok_cloneWords (tbl_cons ok_bsI (tbl_row ok_insI tbl_nil)))))))) Try.func66 (by kernel_rfl) vcp_tWrite
def greyT (b : List Int) (g : List Int) (to : Int) : List Int := if whiteB ([], g, b) to = true then putL g to else g
def stepF (t : Tri) : Tri × Bool × Int :=
  if triF t ≠ 0 then (([], [], []), false, triF t) else if t.2.1 = [] then (t, false, 0)
  else ((t.1, (outsA t.1 (t.2.1.getD 0 0)).foldl (greyT (putL t.2.2 (t.2.1.getD 0 0))) (t.2.1.drop 1), putL t.2.2 (t.2.1.getD 0 0)), true, 0)
structure GoodR (l : List Int) : Prop where
  rise : l.Pairwise (· < ·)
  range : ∀ y ∈ l, 0 ≤ y ∧ y ≤ 255
theorem GoodR.len {l : List Int} (h : GoodR l) : l.length ≤ 256 := nodup_len (h.rise.imp fun h => by omega) h.range
theorem put_good {l : List Int} {x : Int} (h : GoodR l) (hx : 0 ≤ x ∧ x ≤ 255) : GoodR (putL l x) := by
  rw [← put_rising h.rise h.range hx]
  refine ⟨rising_rise _ _, fun y hy => ?_⟩
  have := rising_mem.1 hy
  exact ⟨this.1, by omega⟩
theorem grey_good (b : List Int) : ∀ (ns g : List Int), GoodR g → (∀ y ∈ ns, 0 ≤ y ∧ y ≤ 255) → GoodR (ns.foldl (greyT b) g)
  | [], _, h, _ => h
  | y :: ns, g, h, hr => by
    rw [List.foldl_cons]
    refine grey_good b ns _ ?_ fun z hz => hr z (List.mem_cons_of_mem _ hz)
    unfold greyT
    split
    · exact put_good h (hr y (by simp))
    · exact h
def an_tStep : Nat → Option LoopGen
  | 3000133 => some an_in
  | 3000135 => some an_in
  | 13404000001 => some an_in
  | 11 => some { rd := [.dat 43 (.arr ty_I), .boxS 1 [.own 76 ty_W, .own 3 ty_I, .own 3 ty_I]], A := fun ((ns, t0) : List Int × Tri) => { cs := [.boxS 1 [.own 76 ty_W, .own 3 ty_I, .own 3 ty_I], .dat 45 ty_I], inv := fun ((t, i) : Tri × Int) => 0 ≤ i ∧ i ≤ ns.length ∧ t = (t0.1, (ns.take i.toNat).foldl (greyT t0.2.2) t0.2.1, t0.2.2), mu := fun ((_, i) : Tri × Int) => (ns.length - i).toNat } }
  | _ => none
def sp_tStep : Spec := { Ts := [ty_Tri], Rs := [.dat ty_Tri, .dat .bool, .dat ty_I], al := true, pre := fun (t : Tri) => (t.2.1.length + t.2.2.length + 300) * 8 ≤ 140737488355328, F := stepF }
def pv_tStep : Prop :=
    ∀ (x : List Int × List Int × List Int), ((x.1.length * 8 ≤ big ∧ ∀ (x_1 : Int), x_1 ∈ x.1 → InR IntKind.u64 x_1) ∧ (x.2.1.length * 8 ≤ big ∧ ∀ (x_1 : Int), x_1 ∈ x.2.1 → InR IntKind.i64 x_1) ∧ x.2.2.length * 8 ≤ big ∧ ∀ (x_1 : Int), x_1 ∈ x.2.2 → InR IntKind.i64 x_1) → (x.2.1.length + x.2.2.length + 300) * 8 ≤ 140737488355328 → (x.2.1.length + x.2.2.length) * 8 ≤ 140737488355328 ∧ (decide (triF x ≠ 0) = true → (([] : List Int), ([] : List Int), ([] : List Int)) = (stepF x).1 ∧ false = (stepF x).2.1 ∧ triF x = (stepF x).2.2 ∧ True) ∧ (decide (triF x ≠ 0) = false → ∀ (_ : Array Value), True ∧ True ∧ x.2.1 = x.2.1 ∧ x.2.2 = x.2.2 ∧ x.2.2 = x.2.2 ∧ True ∧ (decide ((↑x.2.1.length : Int) = 0) = true → x = (stepF x).1 ∧ false = (stepF x).2.1 ∧ 0 = (stepF x).2.2 ∧ True) ∧ (decide ((↑x.2.1.length : Int) = 0) = false → (0 : Int) ≤ 0 ∧ 0 < (↑x.2.1.length : Int) ∧ Int.toNat 0 < x.2.1.length ∧ ((0 : Int) ≤ 0 ∧ (0 : Int) < 1 ∧ 1 ≤ (↑x.2.1.length : Int)) ∧ ∀ (_ : Array Value), List.Pairwise (fun (x1 x2 : Int) => x1 ≤ x2) x.2.2 ∧ (inL x.2.2 (x.2.1.getD (Int.toNat 0) 0) = true → True ∧ ((checkF x.1).2.2 = 0 ∧ isB (spotsF x.1).1 (x.2.1.getD (Int.toNat 0) 0) = true ∧ (mget (headsL (spotsF x.1).1) (x.2.1.getD (Int.toNat 0) 0)).getD (0, 0, 0, false) = hdA x.1 (x.2.1.getD (Int.toNat 0) 0)) ∧ ((0 : Int) ≤ 0 ∧ 0 ≤ (↑(outsA x.1 (x.2.1.getD (Int.toNat 0) 0)).length : Int) ∧ (x.1, cutG x.2.1 0 1, x.2.2) = (x.1, List.foldl (greyT (cutG x.2.1 0 1, x.2.2).2) (cutG x.2.1 0 1, x.2.2).1 (List.take (Int.toNat 0) (outsA x.1 (x.2.1.getD (Int.toNat 0) 0))), (cutG x.2.1 0 1, x.2.2).2)) ∧ ∀ (x_1 : (List Int × List Int × List Int) × Int), 0 ≤ x_1.2 ∧ x_1.2 ≤ (↑(outsA x.1 (x.2.1.getD (Int.toNat 0) 0)).length : Int) ∧ x_1.1 = (x.1, List.foldl (greyT (cutG x.2.1 0 1, x.2.2).2) (cutG x.2.1 0 1, x.2.2).1 (List.take x_1.2.toNat (outsA x.1 (x.2.1.getD (Int.toNat 0) 0))), (cutG x.2.1 0 1, x.2.2).2) → (decide (x_1.2 < (↑(outsA x.1 (x.2.1.getD (Int.toNat 0) 0)).length : Int)) = true → 0 ≤ x_1.2 ∧ x_1.2 < (↑(outsA x.1 (x.2.1.getD (Int.toNat 0) 0)).length : Int) ∧ True ∧ (whiteB x_1.1 ((outsA x.1 (x.2.1.getD (Int.toNat 0) 0)).getD x_1.2.toNat 0) = true → ∀ (_ : Array Value), List.Pairwise (fun (x1 x2 : Int) => x1 ≤ x2) x_1.1.2.1 ∧ (inL x_1.1.2.1 ((outsA x.1 (x.2.1.getD (Int.toNat 0) 0)).getD x_1.2.toNat 0) = true → InR IntKind.i64 (x_1.2 + 1) ∧ (0 ≤ x_1.2 + 1 ∧ x_1.2 + 1 ≤ (↑(outsA x.1 (x.2.1.getD (Int.toNat 0) 0)).length : Int) ∧ x_1.1 = (x.1, List.foldl (greyT (cutG x.2.1 0 1, x.2.2).2) (cutG x.2.1 0 1, x.2.2).1 (List.take (x_1.2 + 1).toNat (outsA x.1 (x.2.1.getD (Int.toNat 0) 0))), (cutG x.2.1 0 1, x.2.2).2)) ∧ ((↑(outsA x.1 (x.2.1.getD (Int.toNat 0) 0)).length : Int) - (x_1.2 + 1)).toNat < ((↑(outsA x.1 (x.2.1.getD (Int.toNat 0) 0)).length : Int) - x_1.2).toNat) ∧ (inL x_1.1.2.1 ((outsA x.1 (x.2.1.getD (Int.toNat 0) 0)).getD x_1.2.toNat 0) = false → (0 < [(outsA x.1 (x.2.1.getD (Int.toNat 0) 0)).getD x_1.2.toNat 0].length ∧ 0 ≤ lowI x_1.1.2.1 ((outsA x.1 (x.2.1.getD (Int.toNat 0) 0)).getD x_1.2.toNat 0) ∧ lowI x_1.1.2.1 ((outsA x.1 (x.2.1.getD (Int.toNat 0) 0)).getD x_1.2.toNat 0) ≤ (↑x_1.1.2.1.length : Int) ∧ (x_1.1.2.1.length + [(outsA x.1 (x.2.1.getD (Int.toNat 0) 0)).getD x_1.2.toNat 0].length) * 8 ≤ big) ∧ InR IntKind.i64 (x_1.2 + 1) ∧ (0 ≤ x_1.2 + 1 ∧ x_1.2 + 1 ≤ (↑(outsA x.1 (x.2.1.getD (Int.toNat 0) 0)).length : Int) ∧ (x_1.1.1, insL x_1.1.2.1 [(outsA x.1 (x.2.1.getD (Int.toNat 0) 0)).getD x_1.2.toNat 0] (lowI x_1.1.2.1 ((outsA x.1 (x.2.1.getD (Int.toNat 0) 0)).getD x_1.2.toNat 0)), x_1.1.2.2) = (x.1, List.foldl (greyT (cutG x.2.1 0 1, x.2.2).2) (cutG x.2.1 0 1, x.2.2).1 (List.take (x_1.2 + 1).toNat (outsA x.1 (x.2.1.getD (Int.toNat 0) 0))), (cutG x.2.1 0 1, x.2.2).2)) ∧ ((↑(outsA x.1 (x.2.1.getD (Int.toNat 0) 0)).length : Int) - (x_1.2 + 1)).toNat < ((↑(outsA x.1 (x.2.1.getD (Int.toNat 0) 0)).length : Int) - x_1.2).toNat)) ∧ (whiteB x_1.1 ((outsA x.1 (x.2.1.getD (Int.toNat 0) 0)).getD x_1.2.toNat 0) = false → InR IntKind.i64 (x_1.2 + 1) ∧ (0 ≤ x_1.2 + 1 ∧ x_1.2 + 1 ≤ (↑(outsA x.1 (x.2.1.getD (Int.toNat 0) 0)).length : Int) ∧ x_1.1 = (x.1, List.foldl (greyT (cutG x.2.1 0 1, x.2.2).2) (cutG x.2.1 0 1, x.2.2).1 (List.take (x_1.2 + 1).toNat (outsA x.1 (x.2.1.getD (Int.toNat 0) 0))), (cutG x.2.1 0 1, x.2.2).2)) ∧ ((↑(outsA x.1 (x.2.1.getD (Int.toNat 0) 0)).length : Int) - (x_1.2 + 1)).toNat < ((↑(outsA x.1 (x.2.1.getD (Int.toNat 0) 0)).length : Int) - x_1.2).toNat)) ∧ (decide (x_1.2 < (↑(outsA x.1 (x.2.1.getD (Int.toNat 0) 0)).length : Int)) = false → x_1.1 = (stepF x).1 ∧ true = (stepF x).2.1 ∧ 0 = (stepF x).2.2 ∧ True)) ∧ (inL x.2.2 (x.2.1.getD (Int.toNat 0) 0) = false → (0 < [x.2.1.getD (Int.toNat 0) 0].length ∧ 0 ≤ lowI x.2.2 (x.2.1.getD (Int.toNat 0) 0) ∧ lowI x.2.2 (x.2.1.getD (Int.toNat 0) 0) ≤ (↑x.2.2.length : Int) ∧ (x.2.2.length + [x.2.1.getD (Int.toNat 0) 0].length) * 8 ≤ big) ∧ True ∧ ((checkF x.1).2.2 = 0 ∧ isB (spotsF x.1).1 (x.2.1.getD (Int.toNat 0) 0) = true ∧ (mget (headsL (spotsF x.1).1) (x.2.1.getD (Int.toNat 0) 0)).getD (0, 0, 0, false) = hdA x.1 (x.2.1.getD (Int.toNat 0) 0)) ∧ ((0 : Int) ≤ 0 ∧ 0 ≤ (↑(outsA x.1 (x.2.1.getD (Int.toNat 0) 0)).length : Int) ∧ (x.1, cutG x.2.1 0 1, insL x.2.2 [x.2.1.getD (Int.toNat 0) 0] (lowI x.2.2 (x.2.1.getD (Int.toNat 0) 0))) = (x.1, List.foldl (greyT (cutG x.2.1 0 1, insL x.2.2 [x.2.1.getD (Int.toNat 0) 0] (lowI x.2.2 (x.2.1.getD (Int.toNat 0) 0))).2) (cutG x.2.1 0 1, insL x.2.2 [x.2.1.getD (Int.toNat 0) 0] (lowI x.2.2 (x.2.1.getD (Int.toNat 0) 0))).1 (List.take (Int.toNat 0) (outsA x.1 (x.2.1.getD (Int.toNat 0) 0))), (cutG x.2.1 0 1, insL x.2.2 [x.2.1.getD (Int.toNat 0) 0] (lowI x.2.2 (x.2.1.getD (Int.toNat 0) 0))).2)) ∧ ∀ (x_1 : (List Int × List Int × List Int) × Int), 0 ≤ x_1.2 ∧ x_1.2 ≤ (↑(outsA x.1 (x.2.1.getD (Int.toNat 0) 0)).length : Int) ∧ x_1.1 = (x.1, List.foldl (greyT (cutG x.2.1 0 1, insL x.2.2 [x.2.1.getD (Int.toNat 0) 0] (lowI x.2.2 (x.2.1.getD (Int.toNat 0) 0))).2) (cutG x.2.1 0 1, insL x.2.2 [x.2.1.getD (Int.toNat 0) 0] (lowI x.2.2 (x.2.1.getD (Int.toNat 0) 0))).1 (List.take x_1.2.toNat (outsA x.1 (x.2.1.getD (Int.toNat 0) 0))), (cutG x.2.1 0 1, insL x.2.2 [x.2.1.getD (Int.toNat 0) 0] (lowI x.2.2 (x.2.1.getD (Int.toNat 0) 0))).2) → (decide (x_1.2 < (↑(outsA x.1 (x.2.1.getD (Int.toNat 0) 0)).length : Int)) = true → 0 ≤ x_1.2 ∧ x_1.2 < (↑(outsA x.1 (x.2.1.getD (Int.toNat 0) 0)).length : Int) ∧ True ∧ (whiteB x_1.1 ((outsA x.1 (x.2.1.getD (Int.toNat 0) 0)).getD x_1.2.toNat 0) = true → ∀ (_ : Array Value), List.Pairwise (fun (x1 x2 : Int) => x1 ≤ x2) x_1.1.2.1 ∧ (inL x_1.1.2.1 ((outsA x.1 (x.2.1.getD (Int.toNat 0) 0)).getD x_1.2.toNat 0) = true → InR IntKind.i64 (x_1.2 + 1) ∧ (0 ≤ x_1.2 + 1 ∧ x_1.2 + 1 ≤ (↑(outsA x.1 (x.2.1.getD (Int.toNat 0) 0)).length : Int) ∧ x_1.1 = (x.1, List.foldl (greyT (cutG x.2.1 0 1, insL x.2.2 [x.2.1.getD (Int.toNat 0) 0] (lowI x.2.2 (x.2.1.getD (Int.toNat 0) 0))).2) (cutG x.2.1 0 1, insL x.2.2 [x.2.1.getD (Int.toNat 0) 0] (lowI x.2.2 (x.2.1.getD (Int.toNat 0) 0))).1 (List.take (x_1.2 + 1).toNat (outsA x.1 (x.2.1.getD (Int.toNat 0) 0))), (cutG x.2.1 0 1, insL x.2.2 [x.2.1.getD (Int.toNat 0) 0] (lowI x.2.2 (x.2.1.getD (Int.toNat 0) 0))).2)) ∧ ((↑(outsA x.1 (x.2.1.getD (Int.toNat 0) 0)).length : Int) - (x_1.2 + 1)).toNat < ((↑(outsA x.1 (x.2.1.getD (Int.toNat 0) 0)).length : Int) - x_1.2).toNat) ∧ (inL x_1.1.2.1 ((outsA x.1 (x.2.1.getD (Int.toNat 0) 0)).getD x_1.2.toNat 0) = false → (0 < [(outsA x.1 (x.2.1.getD (Int.toNat 0) 0)).getD x_1.2.toNat 0].length ∧ 0 ≤ lowI x_1.1.2.1 ((outsA x.1 (x.2.1.getD (Int.toNat 0) 0)).getD x_1.2.toNat 0) ∧ lowI x_1.1.2.1 ((outsA x.1 (x.2.1.getD (Int.toNat 0) 0)).getD x_1.2.toNat 0) ≤ (↑x_1.1.2.1.length : Int) ∧ (x_1.1.2.1.length + [(outsA x.1 (x.2.1.getD (Int.toNat 0) 0)).getD x_1.2.toNat 0].length) * 8 ≤ big) ∧ InR IntKind.i64 (x_1.2 + 1) ∧ (0 ≤ x_1.2 + 1 ∧ x_1.2 + 1 ≤ (↑(outsA x.1 (x.2.1.getD (Int.toNat 0) 0)).length : Int) ∧ (x_1.1.1, insL x_1.1.2.1 [(outsA x.1 (x.2.1.getD (Int.toNat 0) 0)).getD x_1.2.toNat 0] (lowI x_1.1.2.1 ((outsA x.1 (x.2.1.getD (Int.toNat 0) 0)).getD x_1.2.toNat 0)), x_1.1.2.2) = (x.1, List.foldl (greyT (cutG x.2.1 0 1, insL x.2.2 [x.2.1.getD (Int.toNat 0) 0] (lowI x.2.2 (x.2.1.getD (Int.toNat 0) 0))).2) (cutG x.2.1 0 1, insL x.2.2 [x.2.1.getD (Int.toNat 0) 0] (lowI x.2.2 (x.2.1.getD (Int.toNat 0) 0))).1 (List.take (x_1.2 + 1).toNat (outsA x.1 (x.2.1.getD (Int.toNat 0) 0))), (cutG x.2.1 0 1, insL x.2.2 [x.2.1.getD (Int.toNat 0) 0] (lowI x.2.2 (x.2.1.getD (Int.toNat 0) 0))).2)) ∧ ((↑(outsA x.1 (x.2.1.getD (Int.toNat 0) 0)).length : Int) - (x_1.2 + 1)).toNat < ((↑(outsA x.1 (x.2.1.getD (Int.toNat 0) 0)).length : Int) - x_1.2).toNat)) ∧ (whiteB x_1.1 ((outsA x.1 (x.2.1.getD (Int.toNat 0) 0)).getD x_1.2.toNat 0) = false → InR IntKind.i64 (x_1.2 + 1) ∧ (0 ≤ x_1.2 + 1 ∧ x_1.2 + 1 ≤ (↑(outsA x.1 (x.2.1.getD (Int.toNat 0) 0)).length : Int) ∧ x_1.1 = (x.1, List.foldl (greyT (cutG x.2.1 0 1, insL x.2.2 [x.2.1.getD (Int.toNat 0) 0] (lowI x.2.2 (x.2.1.getD (Int.toNat 0) 0))).2) (cutG x.2.1 0 1, insL x.2.2 [x.2.1.getD (Int.toNat 0) 0] (lowI x.2.2 (x.2.1.getD (Int.toNat 0) 0))).1 (List.take (x_1.2 + 1).toNat (outsA x.1 (x.2.1.getD (Int.toNat 0) 0))), (cutG x.2.1 0 1, insL x.2.2 [x.2.1.getD (Int.toNat 0) 0] (lowI x.2.2 (x.2.1.getD (Int.toNat 0) 0))).2)) ∧ ((↑(outsA x.1 (x.2.1.getD (Int.toNat 0) 0)).length : Int) - (x_1.2 + 1)).toNat < ((↑(outsA x.1 (x.2.1.getD (Int.toNat 0) 0)).length : Int) - x_1.2).toNat)) ∧ (decide (x_1.2 < (↑(outsA x.1 (x.2.1.getD (Int.toNat 0) 0)).length : Int)) = false → x_1.1 = (stepF x).1 ∧ true = (stepF x).2.1 ∧ 0 = (stepF x).2.2 ∧ True))))
theorem vcp_tStep : pv_tStep := by
  unfold pv_tStep
  intro ⟨a, g, b⟩ ⟨⟨hb, hw⟩, ⟨hbg, hg⟩, hbb, hbl⟩ hsz
  unfold big at hb hbg hbb
  simp only at hb hw hbg hg hbb hbl hsz ⊢
  have hF : stepF (a, g, b) = if triF (a, g, b) ≠ 0 then (([], [], []), false, triF (a, g, b)) else if g = [] then ((a, g, b), false, 0) else ((a, (outsA a (g.getD 0 0)).foldl (greyT (putL b (g.getD 0 0))) (g.drop 1), putL b (g.getD 0 0)), true, 0) := rfl
  refine ⟨by omega, fun h => ?_, fun h tm => ⟨trivial, trivial, trivial, trivial, trivial, trivial, fun h0 => ?_, fun h0 => ?_⟩⟩
  · rw [hF, if_pos (of_decide_eq_true h)]
    exact ⟨rfl, rfl, rfl, trivial⟩
  · have h0 : g = [] := by
      have := of_decide_eq_true h0
      exact List.eq_nil_of_length_eq_zero (by omega)
    rw [hF, if_neg (of_decide_eq_false h), if_pos h0]
    exact ⟨by first | rfl | trivial, by first | rfl | trivial, by first | rfl | trivial, trivial⟩
  have h0 : g.length ≠ 0 := by have := of_decide_eq_false h0; omega
  have hne : ¬ g = [] := fun e => h0 (by rw [e]; rfl)
  rw [hF, if_neg (of_decide_eq_false h), if_neg hne]
  obtain ⟨hc, hpg, hpb, hgB, hbB, _, _⟩ := tri_ok (by simpa using of_decide_eq_false h : triF (a, g, b) = 0)
  have hgood : GoodR g := ⟨hpg, fun y hy => isB_range (hgB y hy)⟩
  have hbgood : GoodR b := ⟨hpb, fun y hy => isB_range (hbB y hy)⟩
  have hm : g.getD (Int.toNat 0) 0 ∈ g := getD_mem (0 : Int) (Int.le_refl 0) (by omega)
  have hib := hgB _ hm
  have hget := heads_get (spotsF_sorted a) (g.getD (Int.toNat 0) 0)
  have hh : (mget (headsL (spotsF a).1) (g.getD (Int.toNat 0) 0)).getD (0, 0, 0, false) = hdA a (g.getD (Int.toNat 0) 0) := by rw [hget, if_pos hib]; rfl
  have hnr : ∀ y ∈ outsA a (g.getD (Int.toNat 0) 0), 0 ≤ y ∧ y ≤ 255 := fun y hy => isB_range (outsA_isB hw hc hib hy)
  have hcut : g.drop 1 = cutG g 0 1 := by simp [cutG]
  have hz : g.getD 0 0 = g.getD (Int.toNat 0) 0 := rfl
  rw [hz, hcut]
  have hbl2 := hbgood.len
  have hnl : (outsA a (g.getD (Int.toNat 0) 0)).length ≤ 256 := by
    obtain ⟨l1, l2, l3, l4, l5, l6⟩ := objA_length hib
    have hal := (isB_spot hib).2.2.2.2
    unfold outsA
    rw [List.length_map]
    have := List.length_filter_le (fun v : Int => decide (v ≠ 0)) (refsA a (g.getD (Int.toNat 0) 0))
    omega
  generalize hx : g.getD (Int.toNat 0) 0 = x at *
  have hlowb := low_range b x
  refine ⟨by omega, by omega, by omega, ⟨by omega, by omega, by omega⟩, fun tm => ⟨hpb.imp (fun h => Int.le_of_lt h), fun hin => ?_, fun hin => ?_⟩⟩
  · have hp : putL b x = b := by unfold putL; rw [if_pos hin]
    rw [hp]
    refine ⟨trivial, ⟨hc, hib, hh⟩, ?_⟩
    generalize outsA a x = ns at *
    have hg0 : GoodR (cutG g 0 1) := by
      have e : cutG g 0 1 = g.drop 1 := by simp [cutG]
      rw [e]
      exact ⟨hgood.1.sublist (List.drop_sublist 1 g), fun y hy => hgood.2 y (List.mem_of_mem_drop hy)⟩
    have hng : ∀ k, GoodR ((ns.take k).foldl (greyT b) (cutG g 0 1)) := fun k => grey_good b _ _ hg0 fun y hy => hnr y (List.mem_of_mem_take hy)
    generalize cutG g 0 1 = g0 at *
    refine ⟨⟨by omega, by omega, by first | rfl | trivial | simp⟩, fun ⟨⟨a1, g1, b1⟩, i⟩ ⟨i0, i1, i2⟩ => ⟨fun hlt => ?_, fun hge => ?_⟩⟩
    · simp only at i0 i1 i2 hlt ⊢
      obtain ⟨e1, i2⟩ := Prod.mk.inj i2
      obtain ⟨e2, e3⟩ := Prod.mk.inj i2
      subst e1 e3
      have hlt := of_decide_eq_true hlt
      have ht := take_snoc (0 : Int) i0 hlt
      have hgi := hng i.toNat
      rw [← e2] at hgi
      have hl := hgi.len
      have hfo : (ns.take (i + 1).toNat).foldl (greyT b1) g0 = greyT b1 g1 (ns.getD i.toNat 0) := by rw [ht, List.foldl_append, ← e2]; rfl
      rw [hfo]
      generalize ns.getD i.toNat 0 = y at *
      have hw0 : whiteB (a1, g1, b1) y = whiteB ([], g1, b1) y := rfl
      have hlow := low_range g1 y
      have hG : greyT b1 g1 y = if whiteB ([], g1, b1) y = true then putL g1 y else g1 := rfl
      rw [hw0, hG]
      simp only [InR]
      refine ⟨i0, by omega, trivial, fun hwh tm => ⟨hgi.1.imp (fun h => Int.le_of_lt h), fun hin => ?_, fun hin => ?_⟩, fun hwh => ?_⟩
      · have e : putL g1 y = g1 := by unfold putL; rw [if_pos hin]
        rw [if_pos hwh, e]
        exact ⟨by omega, ⟨by omega, by omega, by first | rfl | trivial⟩, by omega⟩
      · have e : putL g1 y = insL g1 [y] (lowI g1 y) := by unfold putL; rw [if_neg (by rw [hin]; simp)]
        rw [if_pos hwh, e]
        exact ⟨⟨by simp, hlow.1, hlow.2, by unfold big; simp only [List.length_singleton]; omega⟩, by omega, ⟨by omega, by omega, by first | rfl | trivial⟩, by omega⟩
      · rw [if_neg (by rw [hwh]; simp)]
        exact ⟨by omega, ⟨by omega, by omega, by first | rfl | trivial⟩, by omega⟩
    · simp only at i0 i1 i2 hge ⊢
      rw [take_end (of_decide_eq_false hge)] at i2
      exact ⟨i2, by first | rfl | trivial, by first | rfl | trivial, trivial⟩
  · have hp : putL b x = insL b [x] (lowI b x) := by unfold putL; rw [if_neg (by rw [hin]; simp)]
    rw [hp]
    refine ⟨⟨by simp, hlowb.1, hlowb.2, by unfold big; simp only [List.length_singleton]; omega⟩, trivial, ⟨hc, hib, hh⟩, ?_⟩
    generalize outsA a x = ns at *
    generalize insL b [x] (lowI b x) = bb at *
    have hg0 : GoodR (cutG g 0 1) := by
      have e : cutG g 0 1 = g.drop 1 := by simp [cutG]
      rw [e]
      exact ⟨hgood.1.sublist (List.drop_sublist 1 g), fun y hy => hgood.2 y (List.mem_of_mem_drop hy)⟩
    have hng : ∀ k, GoodR ((ns.take k).foldl (greyT bb) (cutG g 0 1)) := fun k => grey_good bb _ _ hg0 fun y hy => hnr y (List.mem_of_mem_take hy)
    generalize cutG g 0 1 = g0 at *
    refine ⟨⟨by omega, by omega, by first | rfl | trivial | simp⟩, fun ⟨⟨a1, g1, b1⟩, i⟩ ⟨i0, i1, i2⟩ => ⟨fun hlt => ?_, fun hge => ?_⟩⟩
    · simp only at i0 i1 i2 hlt ⊢
      obtain ⟨e1, i2⟩ := Prod.mk.inj i2
      obtain ⟨e2, e3⟩ := Prod.mk.inj i2
      subst e1 e3
      have hlt := of_decide_eq_true hlt
      have ht := take_snoc (0 : Int) i0 hlt
      have hgi := hng i.toNat
      rw [← e2] at hgi
      have hl := hgi.len
      have hfo : (ns.take (i + 1).toNat).foldl (greyT b1) g0 = greyT b1 g1 (ns.getD i.toNat 0) := by rw [ht, List.foldl_append, ← e2]; rfl
      rw [hfo]
      generalize ns.getD i.toNat 0 = y at *
      have hw0 : whiteB (a1, g1, b1) y = whiteB ([], g1, b1) y := rfl
      have hlow := low_range g1 y
      have hG : greyT b1 g1 y = if whiteB ([], g1, b1) y = true then putL g1 y else g1 := rfl
      rw [hw0, hG]
      simp only [InR]
      refine ⟨i0, by omega, trivial, fun hwh tm => ⟨hgi.1.imp (fun h => Int.le_of_lt h), fun hin => ?_, fun hin => ?_⟩, fun hwh => ?_⟩
      · have e : putL g1 y = g1 := by unfold putL; rw [if_pos hin]
        rw [if_pos hwh, e]
        exact ⟨by omega, ⟨by omega, by omega, by first | rfl | trivial⟩, by omega⟩
      · have e : putL g1 y = insL g1 [y] (lowI g1 y) := by unfold putL; rw [if_neg (by rw [hin]; simp)]
        rw [if_pos hwh, e]
        exact ⟨⟨by simp, hlow.1, hlow.2, by unfold big; simp only [List.length_singleton]; omega⟩, by omega, ⟨by omega, by omega, by first | rfl | trivial⟩, by omega⟩
      · rw [if_neg (by rw [hwh]; simp)]
        exact ⟨by omega, ⟨by omega, by omega, by first | rfl | trivial⟩, by omega⟩
    · simp only at i0 i1 i2 hge ⊢
      rw [take_end (of_decide_eq_false hge)] at i2
      exact ⟨i2, by first | rfl | trivial, by first | rfl | trivial, trivial⟩
theorem ok_tStep : sp_tStep.ok Try.prog 65 := fn_ok (ann := an_tStep) (tbl_cons ok_tCheck (tbl_cons ok_tObjects (tbl_cons ok_tNamed (tbl_cons ok_white (tbl_cons ok_cloneInts (tbl_cons ok_cloneWords (tbl_cons ok_bsI (tbl_row ok_insI (tbl_row ok_delI tbl_nil))))))))) Try.func65 (by kernel_rfl) vcp_tStep
end Go.Proofs.Ytcnoiiohmpgckaa
