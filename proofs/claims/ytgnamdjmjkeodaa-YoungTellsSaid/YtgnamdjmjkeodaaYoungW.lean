/- Package young: Write; the law YoungTells. -/
import Derived.Test.YtgnamdjmjkeodaaYoungs
import Derived.Test.YtgnamdjmjkeodaaPlan
import Derived.Test.YtgnamdjmjkeodaaSearch
import Derived.Test.YtgnamdjmjkeodaaRowInsI
import Derived.Test.YtgnamdjmjkeodaaRoots
namespace Go.Proofs.Ytgnamdjmjkeodaa
open Go
set_option maxRecDepth 100000
set_option maxHeartbeats 1000000

def putL (l : List Int) (x : Int) : List Int := if inL l x = true then l else insL l [x] (lowI l x)
def writeF (g : Ages) (x r to : Int) : Ages × Int :=
  if agesF g ≠ 0 then (([], [], []), agesF g) else
  if (writtenF g.1 x r to).2 ≠ 0 then (([], [], []), (writtenF g.1 x r to).2) else
  (((writtenF g.1 x r to).1, g.2.1, if 0 ≤ to ∧ inL g.2.1 x = true ∧ inL g.2.1 to = false then putL g.2.2 x else g.2.2), 0)
def an_yWrite : Nat → Option LoopGen
  | 3000131 => some an_in
  | 3000133 => some an_in
  | 13204000001 => some an_in
  | _ => none
def sp_yWrite : Spec := { Ts := [ty_Ages, ty_I, ty_I, ty_I], Rs := [.dat ty_Ages, .dat ty_I], al := true, pre := fun ((g, _) : Ages × Int × Int × Int) => (g.2.2.length + 1) * 8 ≤ 140737488355328, F := fun ((g, x, r, to) : Ages × Int × Int × Int) => writeF g x r to }
def pv_yWrite : Prop :=
    ∀ (x : (List Int × List Int × List Int) × Int × Int × Int), ((x.fst.fst.length * (8 : Nat) ≤ big ∧ ∀ (x_1 : Int), x_1 ∈ x.fst.fst → InR IntKind.u64 x_1) ∧ (x.fst.snd.fst.length * (8 : Nat) ≤ big ∧ ∀ (x_1 : Int), x_1 ∈ x.fst.snd.fst → InR IntKind.i64 x_1) ∧ x.fst.snd.snd.length * (8 : Nat) ≤ big ∧ ∀ (x_1 : Int), x_1 ∈ x.fst.snd.snd → InR IntKind.i64 x_1) ∧ InR IntKind.i64 x.snd.fst ∧ InR IntKind.i64 x.snd.snd.fst ∧ InR IntKind.i64 x.snd.snd.snd → (x.fst.snd.snd.length + (1 : Nat)) * (8 : Nat) ≤ (140737488355328 : Nat) → True ∧ (decide (agesF x.fst ≠ (0 : Int)) = true → (([] : List Int), ([] : List Int), ([] : List Int)) = (writeF x.fst x.snd.fst x.snd.snd.fst x.snd.snd.snd).fst ∧ agesF x.fst = (writeF x.fst x.snd.fst x.snd.snd.fst x.snd.snd.snd).snd ∧ True) ∧ (decide (agesF x.fst ≠ (0 : Int)) = false → True ∧ ((!(mget (headsL (spotsF x.fst.fst).fst) x.snd.fst).isSome) = true → (([] : List Int), ([] : List Int), ([] : List Int)) = (writeF x.fst x.snd.fst x.snd.snd.fst x.snd.snd.snd).fst ∧ (5 : Int) = (writeF x.fst x.snd.fst x.snd.snd.fst x.snd.snd.snd).snd ∧ True) ∧ ((!(mget (headsL (spotsF x.fst.fst).fst) x.snd.fst).isSome) = false → ((decide (x.snd.snd.fst < (0 : Int)) || decide (((mget (headsL (spotsF x.fst.fst).fst) x.snd.fst).getD ((0 : Int), (0 : Int), (0 : Int), false)).fst ≤ x.snd.snd.fst) || decide (x.snd.snd.snd ≠ (-1 : Int)) && !(mget (headsL (spotsF x.fst.fst).fst) x.snd.snd.snd).isSome) = true → (([] : List Int), ([] : List Int), ([] : List Int)) = (writeF x.fst x.snd.fst x.snd.snd.fst x.snd.snd.snd).fst ∧ (4 : Int) = (writeF x.fst x.snd.fst x.snd.snd.fst x.snd.snd.snd).snd ∧ True) ∧ ((decide (x.snd.snd.fst < (0 : Int)) || decide (((mget (headsL (spotsF x.fst.fst).fst) x.snd.fst).getD ((0 : Int), (0 : Int), (0 : Int), false)).fst ≤ x.snd.snd.fst) || decide (x.snd.snd.snd ≠ (-1 : Int)) && !(mget (headsL (spotsF x.fst.fst).fst) x.snd.snd.snd).isSome) = false → ∀ (tm : Array Value), True ∧ True ∧ x.fst.snd.fst = x.fst.snd.fst ∧ x.fst.snd.snd = x.fst.snd.snd ∧ x.fst.snd.snd = x.fst.snd.snd ∧ True ∧ InR IntKind.i64 (x.snd.fst + (1 : Int)) ∧ InR IntKind.i64 (x.snd.fst + (1 : Int) + x.snd.snd.fst) ∧ InR IntKind.i64 (x.snd.snd.snd + (1 : Int)) ∧ (0 : Int) ≤ x.snd.fst + (1 : Int) + x.snd.snd.fst ∧ x.snd.fst + (1 : Int) + x.snd.snd.fst < (↑x.fst.fst.length : Int) ∧ (x.snd.fst + (1 : Int) + x.snd.snd.fst).toNat < x.fst.fst.length ∧ (decide ((0 : Int) ≤ x.snd.snd.snd) = true → True) ∧ ((decide ((0 : Int) ≤ x.snd.snd.snd) && inL x.fst.snd.fst x.snd.fst) = true → True) ∧ ((decide ((0 : Int) ≤ x.snd.snd.snd) && inL x.fst.snd.fst x.snd.fst && !inL x.fst.snd.fst x.snd.snd.snd) = true → ∀ (tm : Array Value), List.Pairwise (fun (x1 x2 : Int) => x1 ≤ x2) x.fst.snd.snd ∧ (inL x.fst.snd.snd x.snd.fst = true → (x.fst.fst.set (x.snd.fst + (1 : Int) + x.snd.snd.fst).toNat (IntKind.u64.wrap (x.snd.snd.snd + (1 : Int))), x.fst.snd) = (writeF x.fst x.snd.fst x.snd.snd.fst x.snd.snd.snd).fst ∧ (0 : Int) = (writeF x.fst x.snd.fst x.snd.snd.fst x.snd.snd.snd).snd ∧ True) ∧ (inL x.fst.snd.snd x.snd.fst = false → ((0 : Nat) < [x.snd.fst].length ∧ (0 : Int) ≤ lowI x.fst.snd.snd x.snd.fst ∧ lowI x.fst.snd.snd x.snd.fst ≤ (↑x.fst.snd.snd.length : Int) ∧ (x.fst.snd.snd.length + [x.snd.fst].length) * (8 : Nat) ≤ big) ∧ (x.fst.fst.set (x.snd.fst + (1 : Int) + x.snd.snd.fst).toNat (IntKind.u64.wrap (x.snd.snd.snd + (1 : Int))), x.fst.snd.fst, insL x.fst.snd.snd [x.snd.fst] (lowI x.fst.snd.snd x.snd.fst)) = (writeF x.fst x.snd.fst x.snd.snd.fst x.snd.snd.snd).fst ∧ (0 : Int) = (writeF x.fst x.snd.fst x.snd.snd.fst x.snd.snd.snd).snd ∧ True)) ∧ ((decide ((0 : Int) ≤ x.snd.snd.snd) && inL x.fst.snd.fst x.snd.fst && !inL x.fst.snd.fst x.snd.snd.snd) = false → (x.fst.fst.set (x.snd.fst + (1 : Int) + x.snd.snd.fst).toNat (IntKind.u64.wrap (x.snd.snd.snd + (1 : Int))), x.fst.snd) = (writeF x.fst x.snd.fst x.snd.snd.fst x.snd.snd.snd).fst ∧ (0 : Int) = (writeF x.fst x.snd.fst x.snd.snd.fst x.snd.snd.snd).snd ∧ True))))
theorem vcp_yWrite : pv_yWrite := by
  unfold pv_yWrite
  intro ⟨⟨a, o, n⟩, x, r, to⟩ ⟨⟨⟨hb, hw⟩, ⟨hbo, ho⟩, hbn, hn⟩, hx, hr, ht⟩ hsz
  unfold big at hb hbo hbn
  simp only at hb hw hbo ho hbn hn hx hr ht hsz ⊢
  have hF : writeF (a, o, n) x r to = if agesF (a, o, n) ≠ 0 then (([], [], []), agesF (a, o, n)) else if (writtenF a x r to).2 ≠ 0 then (([], [], []), (writtenF a x r to).2) else (((writtenF a x r to).1, o, if 0 ≤ to ∧ inL o x = true ∧ inL o to = false then putL n x else n), 0) := rfl
  have hW : writtenF a x r to = if isB (spotsF a).1 x = false then ([], 5) else if r < 0 ∨ (hdA a x).1 ≤ r ∨ (to ≠ -1 ∧ isB (spotsF a).1 to = false) then ([], 4) else (a.set (x + 1 + r).toNat (to + 1), 0) := rfl
  have hget := fun y => heads_get (spotsF_sorted a) y
  have hsome : ∀ y, (mget (headsL (spotsF a).1) y).isSome = isB (spotsF a).1 y := fun y => by rw [hget]; cases isB (spotsF a).1 y <;> rfl
  simp only [hsome]
  rw [hF]
  refine ⟨trivial, fun h => ?_, fun h => ⟨trivial, fun h1 => ?_, fun h1 => ?_⟩⟩
  · rw [if_pos (of_decide_eq_true h)]
    exact ⟨rfl, rfl, trivial⟩
  · have h1 : isB (spotsF a).1 x = false := by simpa using h1
    have hW2 : writtenF a x r to = ([], 5) := by rw [hW, if_pos h1]
    rw [if_neg (of_decide_eq_false h), hW2]
    exact ⟨by first | trivial | rfl, by first | trivial | rfl, trivial⟩
  have h1 : isB (spotsF a).1 x = true := by simpa using h1
  have e2 : ((mget (headsL (spotsF a).1) x).getD (0, 0, 0, false)) = hdA a x := by rw [hget, if_pos h1]; rfl
  rw [e2, if_neg (of_decide_eq_false h)]
  refine ⟨fun h2 => ?_, fun h2 tm => ?_⟩
  · have hW2 : writtenF a x r to = ([], 4) := by rw [hW, if_neg (by rw [h1]; simp), if_pos (by simpa [or_assoc] using h2)]
    rw [hW2]
    exact ⟨by first | trivial | rfl, by first | trivial | rfl, trivial⟩
  have h2 : ¬ (r < 0 ∨ (hdA a x).1 ≤ r ∨ (to ≠ -1 ∧ isB (spotsF a).1 to = false)) := by
    intro h3
    have : (decide (r < 0) || decide ((hdA a x).1 ≤ r) || decide (to ≠ -1) && !isB (spotsF a).1 to) = true := by simpa [or_assoc] using h3
    rw [this] at h2
    cases h2
  have hW2 : writtenF a x r to = (a.set (x + 1 + r).toNat (to + 1), 0) := by rw [hW, if_neg (by rw [h1]; simp), if_neg h2]
  rw [hW2]
  obtain ⟨k1, k2, k3, k4, k5, k6⟩ := objA_length h1
  have hal := (isB_spot h1).2.2.2.2
  have hto : -1 ≤ to ∧ to ≤ 255 := by
    by_cases h3 : to = -1
    · omega
    · have h4 : isB (spotsF a).1 to = true := by
        cases h5 : isB (spotsF a).1 to
        · exact absurd (.inr (.inr ⟨h3, h5⟩)) h2
        · rfl
      have := isB_range h4
      omega
  have hr0 : 0 ≤ r ∧ r < (hdA a x).1 := by omega
  have hkl : (x + 1 + r).toNat < a.length := by omega
  have hrise : n.Pairwise (· ≤ ·) := by
    have h0 : agesF (a, o, n) = 0 := by simpa using of_decide_eq_false h
    have h5 : risesL n = true := by
      have hA : agesF (a, o, n) = if (checkF a).2.2 ≠ 0 then (checkF a).2.2 else if (risesL o && risesL n) = false then 3 else if o.all (isB (spotsF a).1) = false then 5 else if n.all (inL o) = false then 5 else if o.any (heldB (a, o, n)) = true then 8 else 0 := rfl
      rw [hA] at h0
      split at h0
      · rename_i h6; exact absurd h0 h6
      · split at h0
        · omega
        · rename_i h6
          cases h7 : risesL n
          · rw [h7, Bool.and_false] at h6; exact absurd rfl h6
          · rfl
    exact (risesL_pairwise h5).imp (fun h => Int.le_of_lt h)
  rw [wrapU (by omega) (by omega)]
  have hlow : 0 ≤ lowI n x ∧ lowI n x ≤ n.length := by
    unfold lowI
    have := List.length_filter_le (fun y => decide (y < x)) n
    omega
  simp only [InR, ne_eq, not_true_eq_false, if_false]
  refine ⟨trivial, trivial, trivial, trivial, trivial, trivial, by omega, by omega, by omega, by omega, by omega, hkl, fun _ => trivial, fun _ => trivial, fun hc tm => ?_, fun hc => ?_⟩
  · have hc2 : 0 ≤ to ∧ inL o x = true ∧ inL o to = false := by simpa [and_assoc] using hc
    rw [if_pos hc2]
    refine ⟨hrise, fun hi => ?_, fun hi => ⟨⟨by simp, hlow.1, hlow.2, by unfold big; simp only [List.length_cons, List.length_nil]; omega⟩, ?_⟩⟩
    · have e : putL n x = n := by unfold putL; rw [if_pos hi]
      rw [e]
      exact ⟨by first | trivial | rfl, by first | trivial | rfl, trivial⟩
    · have e : putL n x = insL n [x] (lowI n x) := by unfold putL; rw [if_neg (by rw [hi]; simp)]
      rw [e]
      exact ⟨by first | trivial | rfl, by first | trivial | rfl, trivial⟩
  · have hc2 : ¬ (0 ≤ to ∧ inL o x = true ∧ inL o to = false) := by
      intro h3
      have : (decide (0 ≤ to) && inL o x && !inL o to) = true := by simpa [and_assoc] using h3
      rw [this] at hc
      cases hc
    rw [if_neg hc2]
    exact ⟨by first | trivial | rfl, by first | trivial | rfl, trivial⟩
theorem e_yWrite : pv_yWrite = fnVC Try.prog (tbl [(64, sp_yCheck), (130, sp_yObjects), (132, sp_hasI), (67, sp_cloneInts), (111, sp_cloneWords), (196, sp_bsI)] [(197, sp_insI)]) an_yWrite Try.f62 sp_yWrite := by kernel_rfl
theorem vc_yWrite : fnVC Try.prog (tbl [(64, sp_yCheck), (130, sp_yObjects), (132, sp_hasI), (67, sp_cloneInts), (111, sp_cloneWords), (196, sp_bsI)] [(197, sp_insI)]) an_yWrite Try.f62 sp_yWrite := @Eq.mp _ _ @e_yWrite @vcp_yWrite
theorem ok_yWrite : sp_yWrite.ok Try.prog 62 := fn_sound (P := Try.prog) (ss := tbl [(64, sp_yCheck), (130, sp_yObjects), (132, sp_hasI), (67, sp_cloneInts), (111, sp_cloneWords), (196, sp_bsI)] [(197, sp_insI)]) (ann := an_yWrite) (f := 62) (fn := Try.f62) (s := sp_yWrite) (tbl_cons ok_yCheck (tbl_cons ok_yObjects (tbl_cons ok_hasI (tbl_cons ok_cloneInts (tbl_cons ok_cloneWords (tbl_cons ok_bsI (tbl_row ok_insI tbl_nil))))))) Try.func62 @vc_yWrite

theorem ages_ok {a o n : List Int} (h : agesF (a, o, n) = 0) : (checkF a).2.2 = 0 ∧ risesL n = true ∧ (∀ y ∈ o, isB (spotsF a).1 y = true) ∧ ∀ y ∈ n, y ∈ o := by
  have hA : agesF (a, o, n) = if (checkF a).2.2 ≠ 0 then (checkF a).2.2 else if (risesL o && risesL n) = false then 3 else if o.all (isB (spotsF a).1) = false then 5 else if n.all (inL o) = false then 5 else if o.any (heldB (a, o, n)) = true then 8 else 0 := rfl
  rw [hA] at h
  split at h
  · rename_i h6; exact absurd h h6
  rename_i h1
  split at h
  · omega
  rename_i h2
  split at h
  · omega
  rename_i h3
  split at h
  · omega
  rename_i h4
  refine ⟨by omega, ?_, List.all_eq_true.1 (by simpa using h3), fun y hy => inL_iff.1 (List.all_eq_true.1 (by simpa using h4) y hy)⟩
  cases h7 : risesL n
  · rw [h7, Bool.and_false] at h2; exact absurd rfl h2
  · rfl

theorem low_split (x : Int) : ∀ (n : List Int), n.Pairwise (· < ·) → (∀ y ∈ n.take (n.filter fun y => decide (y < x)).length, y < x) ∧ ∀ y ∈ n.drop (n.filter fun y => decide (y < x)).length, x ≤ y
  | [], _ => ⟨fun y hy => by simp at hy, fun y hy => by simp at hy⟩
  | z :: l, h => by
    obtain ⟨h1, h2⟩ := List.pairwise_cons.1 h
    by_cases hz : z < x
    · rw [List.filter_cons_of_pos (by simpa using hz)]
      obtain ⟨k1, k2⟩ := low_split x l h2
      refine ⟨fun y hy => ?_, fun y hy => k2 y (by simpa using hy)⟩
      rcases List.mem_cons.1 (by simpa using hy) with e | hy
      · rw [e]; exact hz
      · exact k1 y hy
    · have e : l.filter (fun y => decide (y < x)) = [] := by
        rw [List.filter_eq_nil_iff]
        intro y hy
        have := h1 y hy
        simp; omega
      rw [List.filter_cons_of_neg (by simpa using hz), e]
      refine ⟨fun y hy => by simp at hy, fun y hy => ?_⟩
      rcases List.mem_cons.1 (by simpa using hy) with e | hy
      · omega
      · have := h1 y hy
        omega

theorem put_rising {n : List Int} {x : Int} (hn : n.Pairwise (· < ·)) (hr : ∀ y ∈ n, 0 ≤ y ∧ y ≤ 255) (hx : 0 ≤ x ∧ x ≤ 255) : risingL (n ++ [x]) 256 = putL n x := by
  unfold putL
  by_cases hi : inL n x = true
  · rw [if_pos hi]
    refine rise_uniq (rising_rise _ _) hn (fun y => ?_)
    rw [rising_mem]
    constructor
    · rintro ⟨_, _, hy⟩
      rcases List.mem_append.1 hy with hy | hy
      · exact hy
      · rw [List.mem_singleton.1 hy]; exact inL_iff.1 hi
    · intro hy
      have := hr y hy
      exact ⟨by omega, by omega, by simp [hy]⟩
  · rw [if_neg hi]
    obtain ⟨k1, k2⟩ := low_split x n hn
    have hnx : ¬ x ∈ n := fun h => hi (inL_iff.2 h)
    have e : insL n [x] (lowI n x) = n.take (n.filter fun y => decide (y < x)).length ++ [x] ++ n.drop (n.filter fun y => decide (y < x)).length := by simp [insL, lowI]
    rw [e]
    generalize (n.filter fun y => decide (y < x)).length = k at *
    have hpw : (n.take k ++ [x] ++ n.drop k).Pairwise (· < ·) := by
      rw [List.pairwise_append, List.pairwise_append]
      have hn2 := hn
      rw [← List.take_append_drop k n, List.pairwise_append] at hn2
      have hlt : ∀ y ∈ n.drop k, x < y := fun y hy => by
        have h1 := k2 y hy
        have h2 : y ≠ x := fun e => hnx (e ▸ List.mem_of_mem_drop hy)
        omega
      refine ⟨⟨hn2.1, List.pairwise_singleton _ _, fun y hy z hz => by rw [List.mem_singleton.1 hz]; exact k1 y hy⟩, hn2.2.1, fun y hy z hz => ?_⟩
      rcases List.mem_append.1 hy with hy | hy
      · exact hn2.2.2 y hy z hz
      · rw [List.mem_singleton.1 hy]; exact hlt z hz
    refine rise_uniq (rising_rise _ _) hpw (fun y => ?_)
    rw [rising_mem]
    have hm : y ∈ n.take k ++ [x] ++ n.drop k ↔ y ∈ n ∨ y = x := by
      have : y ∈ n ↔ y ∈ n.take k ∨ y ∈ n.drop k := by rw [← List.mem_append, List.take_append_drop]
      rw [this, List.mem_append, List.mem_append, List.mem_singleton]
      constructor
      · rintro ((h | h) | h)
        · exact .inl (.inl h)
        · exact .inr h
        · exact .inl (.inr h)
      · rintro ((h | h) | h)
        · exact .inl (.inl h)
        · exact .inr h
        · exact .inl (.inr h)
    rw [hm, List.mem_append, List.mem_singleton]
    constructor
    · rintro ⟨_, _, h⟩; exact h
    · intro h
      rcases h with h | h
      · have := hr y h; exact ⟨by omega, by omega, .inl h⟩
      · exact ⟨by omega, by omega, .inr h⟩

def sp_lawYoungTells : Spec := sp_law [ty_Ages, ty_I, ty_I, ty_I]
def pv_lawYoungTells : Prop :=
    ∀ (x : (List Int × List Int × List Int) × Int × Int × Int), ((x.fst.fst.length * (8 : Nat) ≤ big ∧ ∀ (x_1 : Int), x_1 ∈ x.fst.fst → InR IntKind.u64 x_1) ∧ (x.fst.snd.fst.length * (8 : Nat) ≤ big ∧ ∀ (x_1 : Int), x_1 ∈ x.fst.snd.fst → InR IntKind.i64 x_1) ∧ x.fst.snd.snd.length * (8 : Nat) ≤ big ∧ ∀ (x_1 : Int), x_1 ∈ x.fst.snd.snd → InR IntKind.i64 x_1) ∧ InR IntKind.i64 x.snd.fst ∧ InR IntKind.i64 x.snd.snd.fst ∧ InR IntKind.i64 x.snd.snd.snd → ((x.fst.fst.length * (8 : Nat) ≤ (140737488351232 : Nat) ∧ ∀ (x_1 : Int), x_1 ∈ x.fst.fst → sp_room ty_W x_1) ∧ (x.fst.snd.fst.length * (8 : Nat) ≤ (140737488351232 : Nat) ∧ ∀ (x_1 : Int), x_1 ∈ x.fst.snd.fst → sp_room ty_I x_1) ∧ x.fst.snd.snd.length * (8 : Nat) ≤ (140737488351232 : Nat) ∧ ∀ (x_1 : Int), x_1 ∈ x.fst.snd.snd → sp_room ty_I x_1) ∧ True ∧ True ∧ True → (x.fst.snd.snd.length + (1 : Nat)) * (8 : Nat) ≤ (140737488355328 : Nat) ∧ True ∧ True ∧ (decide (agesF x.fst ≠ agesF x.fst) = true → false = true ∧ True) ∧ (decide (agesF x.fst ≠ agesF x.fst) = false → (decide (agesF x.fst = (0 : Int)) = true → (checkF x.fst.fst).snd.snd = (0 : Int) ∧ (decide ((writtenF x.fst.fst x.snd.fst x.snd.snd.fst x.snd.snd.snd).snd ≠ (0 : Int)) = true → True ∧ (decide ((writeF x.fst x.snd.fst x.snd.snd.fst x.snd.snd.snd).fst = (([] : List Int), ([] : List Int), ([] : List Int))) && decide ((writeF x.fst x.snd.fst x.snd.snd.fst x.snd.snd.snd).snd = (writtenF x.fst.fst x.snd.fst x.snd.snd.fst x.snd.snd.snd).snd)) = true ∧ True) ∧ (decide ((writtenF x.fst.fst x.snd.fst x.snd.snd.fst x.snd.snd.snd).snd ≠ (0 : Int)) = false → True ∧ (decide ((0 : Int) ≤ x.snd.snd.snd) = true → True) ∧ ((decide ((0 : Int) ≤ x.snd.snd.snd) && inL x.fst.snd.fst x.snd.fst) = true → True) ∧ ((decide ((0 : Int) ≤ x.snd.snd.snd) && inL x.fst.snd.fst x.snd.fst && !inL x.fst.snd.fst x.snd.snd.snd) = true → (x.fst.snd.snd.length + [x.snd.fst].length) * (8 : Nat) ≤ big ∧ (decide ((writeF x.fst x.snd.fst x.snd.snd.fst x.snd.snd.snd).snd = (0 : Int)) = true → True) ∧ (decide ((writeF x.fst x.snd.fst x.snd.snd.fst x.snd.snd.snd).snd = (0 : Int)) = true → True) ∧ (decide ((writeF x.fst x.snd.fst x.snd.snd.fst x.snd.snd.snd).snd = (0 : Int)) && decide ((writeF x.fst x.snd.fst x.snd.snd.fst x.snd.snd.snd).fst = ((writtenF x.fst.fst x.snd.fst x.snd.snd.fst x.snd.snd.snd).fst, x.fst.snd.fst, risingL (x.fst.snd.snd ++ [x.snd.fst]) (256 : Nat)))) = true ∧ True) ∧ ((decide ((0 : Int) ≤ x.snd.snd.snd) && inL x.fst.snd.fst x.snd.fst && !inL x.fst.snd.fst x.snd.snd.snd) = false → (decide ((writeF x.fst x.snd.fst x.snd.snd.fst x.snd.snd.snd).snd = (0 : Int)) = true → True) ∧ (decide ((writeF x.fst x.snd.fst x.snd.snd.fst x.snd.snd.snd).snd = (0 : Int)) = true → True) ∧ (decide ((writeF x.fst x.snd.fst x.snd.snd.fst x.snd.snd.snd).snd = (0 : Int)) && decide ((writeF x.fst x.snd.fst x.snd.snd.fst x.snd.snd.snd).fst = ((writtenF x.fst.fst x.snd.fst x.snd.snd.fst x.snd.snd.snd).fst, x.fst.snd.fst, risingL x.fst.snd.snd (256 : Nat)))) = true ∧ True))) ∧ (decide (agesF x.fst = (0 : Int)) = false → (decide (agesF x.fst ≠ (0 : Int)) = true → True ∧ (decide ((writeF x.fst x.snd.fst x.snd.snd.fst x.snd.snd.snd).fst = (([] : List Int), ([] : List Int), ([] : List Int))) && decide ((writeF x.fst x.snd.fst x.snd.snd.fst x.snd.snd.snd).snd = agesF x.fst)) = true ∧ True) ∧ (decide (agesF x.fst ≠ (0 : Int)) = false → True ∧ (decide ((0 : Int) ≤ x.snd.snd.snd) = true → True) ∧ ((decide ((0 : Int) ≤ x.snd.snd.snd) && inL x.fst.snd.fst x.snd.fst) = true → True) ∧ ((decide ((0 : Int) ≤ x.snd.snd.snd) && inL x.fst.snd.fst x.snd.fst && !inL x.fst.snd.fst x.snd.snd.snd) = true → (x.fst.snd.snd.length + [x.snd.fst].length) * (8 : Nat) ≤ big ∧ (decide ((writeF x.fst x.snd.fst x.snd.snd.fst x.snd.snd.snd).snd = (0 : Int)) = true → True) ∧ (decide ((writeF x.fst x.snd.fst x.snd.snd.fst x.snd.snd.snd).snd = (0 : Int)) = true → True) ∧ (decide ((writeF x.fst x.snd.fst x.snd.snd.fst x.snd.snd.snd).snd = (0 : Int)) && decide ((writeF x.fst x.snd.fst x.snd.snd.fst x.snd.snd.snd).fst = (([] : List Int), x.fst.snd.fst, risingL (x.fst.snd.snd ++ [x.snd.fst]) (256 : Nat)))) = true ∧ True) ∧ ((decide ((0 : Int) ≤ x.snd.snd.snd) && inL x.fst.snd.fst x.snd.fst && !inL x.fst.snd.fst x.snd.snd.snd) = false → (decide ((writeF x.fst x.snd.fst x.snd.snd.fst x.snd.snd.snd).snd = (0 : Int)) = true → True) ∧ (decide ((writeF x.fst x.snd.fst x.snd.snd.fst x.snd.snd.snd).snd = (0 : Int)) = true → True) ∧ (decide ((writeF x.fst x.snd.fst x.snd.snd.fst x.snd.snd.snd).snd = (0 : Int)) && decide ((writeF x.fst x.snd.fst x.snd.snd.fst x.snd.snd.snd).fst = (([] : List Int), x.fst.snd.fst, risingL x.fst.snd.snd (256 : Nat)))) = true ∧ True))))
theorem vcp_lawYoungTells : pv_lawYoungTells := by
  unfold pv_lawYoungTells
  intro ⟨⟨a, o, n⟩, x, r, to⟩ ⟨⟨⟨hb, hw⟩, ⟨hbo, ho⟩, hbn, hn⟩, hx, hr, ht⟩ ⟨⟨⟨_, _⟩, ⟨_, _⟩, hrn, _⟩, _⟩
  unfold big at hb hbo hbn
  simp only at hb hw hbo ho hbn hn hx hr ht hrn ⊢
  have hF : writeF (a, o, n) x r to = if agesF (a, o, n) ≠ 0 then (([], [], []), agesF (a, o, n)) else if (writtenF a x r to).2 ≠ 0 then (([], [], []), (writtenF a x r to).2) else (((writtenF a x r to).1, o, if 0 ≤ to ∧ inL o x = true ∧ inL o to = false then putL n x else n), 0) := rfl
  refine ⟨by omega, trivial, trivial, fun h => absurd rfl (of_decide_eq_true h), fun _ => ⟨fun h => ?_, fun h => ⟨fun _ => ?_, fun h2 => absurd (of_decide_eq_false h2) (by simpa using of_decide_eq_false h)⟩⟩⟩
  rotate_left
  · rw [hF, if_pos (of_decide_eq_false h)]
    exact ⟨trivial, by simp, trivial⟩
  have h := of_decide_eq_true h
  obtain ⟨hc, hrs, hob, hno⟩ := ages_ok h
  have hnp := risesL_pairwise hrs
  have hnr : ∀ y ∈ n, 0 ≤ y ∧ y ≤ 255 := fun y hy => isB_range (hob y (hno y hy))
  rw [hF, if_neg (by omega)]
  refine ⟨hc, fun h2 => ?_, fun h2 => ?_⟩
  · rw [if_pos (of_decide_eq_true h2)]
    exact ⟨trivial, by simp, trivial⟩
  rw [if_neg (of_decide_eq_false h2)]
  have hB : isB (spotsF a).1 x = true := by
    cases hB : isB (spotsF a).1 x
    · have hW : writtenF a x r to = ([], 5) := by unfold writtenF; rw [if_pos hB]
      rw [hW] at h2
      simp at h2
    · rfl
  refine ⟨trivial, fun _ => trivial, fun _ => trivial, fun hcn => ?_, fun hcn => ?_⟩
  · have hc2 : 0 ≤ to ∧ inL o x = true ∧ inL o to = false := by simpa [and_assoc] using hcn
    rw [if_pos hc2, put_rising hnp hnr (isB_range hB)]
    exact ⟨by simp only [List.length_cons, List.length_nil]; unfold big; omega, fun _ => trivial, fun _ => trivial, by simp, trivial⟩
  · have hc2 : ¬ (0 ≤ to ∧ inL o x = true ∧ inL o to = false) := by
      intro h3
      have : (decide (0 ≤ to) && inL o x && !inL o to) = true := by simpa [and_assoc] using h3
      rw [this] at hcn
      cases hcn
    have e : risingL n 256 = n := rise_uniq (rising_rise _ _) hnp (fun y => by
      rw [rising_mem]
      exact ⟨fun h => h.2.2, fun h => by have := hnr y h; exact ⟨by omega, by omega, h⟩⟩)
    rw [if_neg hc2, e]
    exact ⟨fun _ => trivial, fun _ => trivial, by simp, trivial⟩
theorem e_lawYoungTells : pv_lawYoungTells = fnVC Try.prog (tbl [(62, sp_yWrite), (63, sp_rAges), (64, sp_yCheck), (65, sp_rWritten), (66, sp_rSameAges), (67, sp_cloneInts), (48, sp_rIn), (68, sp_rRising)]) an_0 Try.f9 sp_lawYoungTells := by kernel_rfl
theorem vc_lawYoungTells : fnVC Try.prog (tbl [(62, sp_yWrite), (63, sp_rAges), (64, sp_yCheck), (65, sp_rWritten), (66, sp_rSameAges), (67, sp_cloneInts), (48, sp_rIn), (68, sp_rRising)]) an_0 Try.f9 sp_lawYoungTells := @Eq.mp _ _ @e_lawYoungTells @vcp_lawYoungTells
theorem ok_lawYoungTells : sp_lawYoungTells.ok Try.prog 9 := fn_sound (P := Try.prog) (ss := tbl [(62, sp_yWrite), (63, sp_rAges), (64, sp_yCheck), (65, sp_rWritten), (66, sp_rSameAges), (67, sp_cloneInts), (48, sp_rIn), (68, sp_rRising)]) (ann := an_0) (f := 9) (fn := Try.f9) (s := sp_lawYoungTells) (tbl_cons ok_yWrite (tbl_cons ok_rAges (tbl_cons ok_yCheck (tbl_cons ok_rWritten (tbl_cons ok_rSameAges (tbl_cons ok_cloneInts (tbl_cons ok_rIn (tbl_cons ok_rRising tbl_nil)))))))) Try.func9 @vc_lawYoungTells

end Go.Proofs.Ytgnamdjmjkeodaa
