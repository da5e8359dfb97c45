/- Contracts of tint.Reach and of the reference's Reached. -/
import Derived.Test.YtbidboeemnlglaaReach
namespace Go.Proofs.Ytbidboeemnlglaa
open Go
set_option maxRecDepth 100000
set_option maxHeartbeats 1000000

theorem inF {l : List Int} {x : Int} (h : (!inL l x) = true) : ¬ x ∈ l := fun hx => by rw [inL_iff.2 hx] at h; cases h
theorem inT {l : List Int} {x : Int} (h : (!inL l x) = false) : x ∈ l := inL_iff.1 (by cases hx : inL l x <;> simp_all)

theorem named_outs {a : List Int} (hw : ∀ x ∈ a, InR .u64 x) (hc : (checkF a).2.2 = 0) {x : Int} (hx : isB (spotsF a).1 x = true) {y : Int} : (y ∈ namedL a x (headAtL x (spotsF a).1).1 ∧ 0 ≤ y) ↔ y ∈ outsA a x := by
  have e : namedL a x (headAtL x (spotsF a).1).1 = (refsA a x).map nameOf := rfl
  rw [e]
  unfold outsA
  have hr := refs_named hw hc _ (objA_in hx).1
  simp only [List.mem_map, List.mem_filter, decide_eq_true_eq]
  constructor
  · rintro ⟨⟨v, hv, rfl⟩, h0⟩
    rcases hr v hv with rfl | ⟨h1, h2, _⟩
    · simp [nameOf] at h0
    · exact ⟨v, ⟨hv, by omega⟩, by unfold nameOf; rw [if_neg (by omega)]⟩
  · rintro ⟨v, ⟨hv, h0⟩, rfl⟩
    rcases hr v hv with e | ⟨h1, h2, _⟩
    · exact absurd e h0
    · exact ⟨⟨v, hv, by unfold nameOf; rw [if_neg (by omega)]⟩, by omega⟩

/-- What the rounds of the reference's Reached keep. -/
structure InReach (a f l : List Int) : Prop where
  has : ∀ x ∈ f, x ∈ l
  only : ∀ x ∈ l, Rch a f x
  len : l.length + cntR f ≤ f.length + cntR l

def an_rReached : Nat → Option LoopGen
  | 4 => some { rd := [.dat 0 (.arr ty_W), .dat 1 (.arr ty_I)], A := fun ((a, f) : List Int × List Int) => { cs := [.own 6 3 ty_I, .dat 7 .bool], inv := fun ((l, ag) : List Int × Bool) => InReach a f l ∧ (ag = false → closedR a l = true), mu := fun ((l, ag) : List Int × Bool) => 2 * (256 - cntR l) + (if ag = true then 1 else 0) } }
  | 7 => some { rd := [.own 5 3 ty_I, .dat 0 (.arr ty_W), .dat 1 (.arr ty_I), .own 6 3 ty_I], A := fun ((all, a, f, l0) : List Int × List Int × List Int × List Int) => { cs := [.own 6 3 ty_I, .dat 7 .bool, .dat 19 ty_I], inv := fun ((l, ag, i) : List Int × Bool × Int) => 0 ≤ i ∧ i ≤ all.length ∧ InReach a f l ∧ (ag = false → l = l0 ∧ ∀ x ∈ all.take i.toNat, x ∈ l0 → ∀ y ∈ outsA a x, y ∈ l0) ∧ (ag = true → cntR l0 < cntR l), mu := fun ((_, _, i) : List Int × Bool × Int) => (all.length - i).toNat } }
  | 11 => some { rd := [.own 29 3 ty_I, .own 6 3 ty_I, .dat 7 .bool], A := fun ((ns, l1, ag1) : List Int × List Int × Bool) => { cs := [.own 6 3 ty_I, .dat 7 .bool, .dat 31 ty_I], inv := fun ((l, ag, j) : List Int × Bool × Int) => 0 ≤ j ∧ j ≤ ns.length ∧ (∀ x ∈ l1, x ∈ l) ∧ (∀ x ∈ l, x ∈ l1 ∨ (x ∈ ns ∧ 0 ≤ x)) ∧ l.length + cntR l1 ≤ l1.length + cntR l ∧ (ag = false → ag1 = false ∧ l = l1 ∧ ∀ y ∈ ns.take j.toNat, 0 ≤ y → y ∈ l1) ∧ (ag = true → ag1 = true ∨ cntR l1 < cntR l) ∧ (ag1 = true → ag = true), mu := fun ((_, _, j) : List Int × Bool × Int) => (ns.length - j).toNat } }
  | _ => none
def sp_rReached : Spec := { Ts := [.arr ty_W, .arr ty_I], Rs := [.own 3 ty_I], pre := fun ((a, f) : List Int × List Int) => fromFault a f = 0 ∧ (f.length + 256) * 8 ≤ 140737488355328, F := fun ((a, f) : List Int × List Int) => reachL a f }


/-- The heads of those that are not free, by their words. -/
def headsFrom (m : List (Int × Head)) : List Spot → List (Int × Head)
  | [] => m
  | s :: l => headsFrom (if s.2.2.2.2 = true then m else mput m s.1 s.2) l
def headsL (l : List Spot) : List (Int × Head) := headsFrom [] l
theorem headsFrom_get (x : Int) : ∀ (l : List Spot) (m : List (Int × Head)), l.Pairwise (fun s t => s.1 < t.1) → mget (headsFrom m l) x = if isB l x = true then some (headAtL x l).1 else mget m x
  | [], m, _ => rfl
  | s :: l, m, h => by
    obtain ⟨h1, h2⟩ := List.pairwise_cons.1 h
    have e0 : headsFrom m (s :: l) = headsFrom (if s.2.2.2.2 = true then m else mput m s.1 s.2) l := rfl
    rw [e0, headsFrom_get x l _ h2]
    by_cases hx : s.1 = x ∧ s.2.2.2.2 = false
    · have e1 : headAtL x (s :: l) = (s.2, true) := if_pos hx
      have e2 : isB (s :: l) x = true := by unfold isB; rw [e1]
      have hn : ¬ isB l x = true := by
        rw [← inL_begins, inL_iff]
        intro hm
        have : ∃ t ∈ l, t.1 = x := by
          clear h h2 hx e0 e1 e2
          induction l with
          | nil => cases hm
          | cons t l ih =>
            simp only [beginsL] at hm
            split at hm
            · obtain ⟨u, hu, e⟩ := ih (fun y hy => h1 y (by simp [hy])) hm
              exact ⟨u, by simp [hu], e⟩
            · rcases List.mem_cons.1 hm with hm | hm
              · exact ⟨t, by simp, hm.symm⟩
              · obtain ⟨u, hu, e⟩ := ih (fun y hy => h1 y (by simp [hy])) hm
                exact ⟨u, by simp [hu], e⟩
        obtain ⟨t, ht, e⟩ := this
        have := h1 t ht
        omega
      rw [if_neg hn, if_pos e2, e1, if_neg (by rw [hx.2]; simp), mget_mput, if_pos hx.1.symm]
    · have e1 : headAtL x (s :: l) = headAtL x l := if_neg hx
      have e2 : isB (s :: l) x = isB l x := by unfold isB; rw [e1]
      rw [e2, e1]
      by_cases hb : isB l x = true
      · rw [if_pos hb, if_pos hb]
      · rw [if_neg hb, if_neg hb]
        by_cases hf : s.2.2.2.2 = true
        · rw [if_pos hf]
        · rw [if_neg hf, mget_mput, if_neg (fun e => hx ⟨e.symm, by simpa using hf⟩)]
theorem heads_get {l : List Spot} (h : l.Pairwise (fun s t => s.1 < t.1)) (x : Int) : mget (headsL l) x = if isB l x = true then some (headAtL x l).1 else none := headsFrom_get x l [] h
theorem begins_append : ∀ (l k : List Spot), beginsL (l ++ k) = beginsL l ++ beginsL k
  | [], _ => rfl
  | s :: l, k => by
    have := begins_append l k
    simp only [List.cons_append, beginsL, this]
    split <;> simp

/-- What is seen, and what came out. -/
structure Seen (m : List (Int × Bool)) (o : List Int) : Prop where
  nodup : o.Nodup
  is : ∀ x, (mget m x).getD false = inL o x

theorem Seen.new : Seen [] [] := ⟨List.nodup_nil, fun _ => rfl⟩
theorem Seen.add {m : List (Int × Bool)} {o : List Int} {x : Int} (h : Seen m o) (hn : (!(mget m x).getD false) = true) : Seen (mput m x true) (o ++ [x]) := by
  rw [h.is] at hn
  refine ⟨?_, fun y => ?_⟩
  · rw [List.nodup_append]
    exact ⟨h.nodup, by simp, fun y hy z hz => by rw [List.mem_singleton.1 hz]; rintro rfl; exact inF hn hy⟩
  · rw [mget_mput]
    by_cases hy : y = x
    · subst hy
      rw [if_pos rfl]
      exact (inL_iff.2 (by simp)).symm
    · rw [if_neg hy, h.is]
      unfold inL
      rw [List.any_append]
      simp [Ne.symm hy]
theorem Seen.mem {m : List (Int × Bool)} {o : List Int} {x : Int} (h : Seen m o) (hn : (!(mget m x).getD false) = false) : x ∈ o := by
  rw [h.is] at hn
  exact inT hn
theorem nodup_len {o : List Int} (hd : o.Nodup) (hr : ∀ x ∈ o, 0 ≤ x ∧ x ≤ 255) : o.length ≤ 256 := by
  have h1 := sortI_sorted o
  have h2 : (sortI o).Nodup := (List.mergeSort_perm o _).nodup_iff.2 hd
  have h3 : (sortI o).Pairwise (· < ·) := (h1.and h2).imp (fun ⟨x, y⟩ => by omega)
  have h4 := pairwise_length (s := 0) h3 (fun x hx => hr x (sortI_mem.1 hx)) (by omega)
  rw [sortI_length] at h4
  omega

def an_heap1 : LoopGen := { rd := [.own 30 155 ty_Spot, .dat 0 (.arr ty_W)], A := fun ((l, a) : List Spot × List Int) => { cs := [.boxS 24 [.dat (.arr ty_W), .mpc 22, .own 3 ty_I], .map 22 .i64 ty_Head, .dat 32 ty_I], inv := fun ((b, m, i) : (List Int × Unit × List Int) × List (Int × Head) × Int) => 0 ≤ i ∧ i ≤ l.length ∧ b.1 = a ∧ b.2.2 = beginsL (l.take i.toNat) ∧ headsFrom m (l.drop i.toNat) = headsL l, mu := fun ((_, _, i) : (List Int × Unit × List Int) × List (Int × Head) × Int) => (l.length - i).toNat } }
def an_heap2 : LoopGen := { rd := [.dat 60 (.arr ty_I), .map 22 .i64 ty_Head], A := fun ((f, m) : List Int × List (Int × Head)) => { cs := [.dat 62 ty_I], inv := fun (i : Int) => 0 ≤ i ∧ i ≤ f.length ∧ ((f.drop i.toNat).all fun x => (mget m x).isSome) = (f.all fun x => (mget m x).isSome), mu := fun (i : Int) => (f.length - i).toNat } }
def an_reach : Nat → Option LoopGen
  | 3000130 => some an_in
  | 3000137 => some an_in
  | 3000136 => some an_in
  | 13100000007 => some an_heap1
  | 13100000014 => some an_heap2
  | 8 => some { rd := [.dat 25 (.arr ty_I)], A := fun (f : List Int) => { cs := [.map 23 .i64 .bool, .boxS 9 [.own 3 ty_I], .dat 27 ty_I], inv := fun ((m, o, i) : List (Int × Bool) × List Int × Int) => 0 ≤ i ∧ i ≤ f.length ∧ Seen m o ∧ (∀ x ∈ f.take i.toNat, x ∈ o) ∧ (∀ x ∈ o, x ∈ f), mu := fun ((_, _, i) : List (Int × Bool) × List Int × Int) => (f.length - i).toNat } }
  | 13 => some { rd := [.dat 0 (.arr ty_W), .dat 1 (.arr ty_I)], A := fun ((a, f) : List Int × List Int) => { cs := [.map 23 .i64 .bool, .boxS 9 [.own 3 ty_I], .dat 13 ty_I], inv := fun ((m, o, i) : List (Int × Bool) × List Int × Int) => 0 ≤ i ∧ i ≤ o.length ∧ Seen m o ∧ (∀ x ∈ f, x ∈ o) ∧ (∀ x ∈ o, Rch a f x) ∧ (∀ x ∈ o.take i.toNat, ∀ y ∈ outsA a x, y ∈ o), mu := fun ((_, _, i) : List (Int × Bool) × List Int × Int) => (256 - i).toNat } }
  | 13800000001 => some { rd := [.dat 24 (.arr ty_W), .boxS 9900000 [.own 3 ty_I]], A := fun ((rs, o0) : List Int × List Int) => { cs := [.map 23900000 .i64 .bool, .boxS 9900000 [.own 3 ty_I], .dat 26 ty_I], inv := fun ((m, o, j) : List (Int × Bool) × List Int × Int) => 0 ≤ j ∧ j ≤ rs.length ∧ Seen m o ∧ (∃ k, o = o0 ++ k ∧ ∀ x ∈ k, x + 1 ∈ rs ∧ x + 1 ≠ 0) ∧ (∀ v ∈ rs.take j.toNat, v ≠ 0 → v - 1 ∈ o), mu := fun ((_, _, j) : List (Int × Bool) × List Int × Int) => (rs.length - j).toNat } }
  | _ => none
def sp_reach : Spec := { Ts := [.arr ty_W, .arr ty_I], Rs := [.own 3 ty_I, .dat ty_I], pre := fun _ => True, F := fun ((a, f) : List Int × List Int) => reachF a f }

end Go.Proofs.Ytbidboeemnlglaa
