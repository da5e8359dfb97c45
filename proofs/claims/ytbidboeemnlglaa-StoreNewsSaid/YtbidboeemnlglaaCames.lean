/- The order in which objects are come to: contracts of carry.Order and of the reference's CameTo. -/
import Derived.Test.YtbidboeemnlglaaReaches
namespace Go.Proofs.Ytbidboeemnlglaa
open Go
set_option maxRecDepth 100000
set_option maxHeartbeats 1000000

def comeL (o : List Int) (x : Int) : List Int := if inL o x = true then o else o ++ [x]
def outsV (l : List Int) : List Int := (l.filter fun v => decide (v ≠ 0)).map (· - 1)
def cameN (a : List Int) : Nat → Nat → List Int → List Int
  | 0, _, o => o
  | n + 1, i, o => if i < o.length then cameN a n (i + 1) ((outsV (refsA a (o.getD i 0))).foldl comeL o) else o
def cameL (a f : List Int) : List Int := cameN a 257 0 (f.foldl comeL [])

theorem comes_pre : ∀ (l o : List Int), ∃ k, l.foldl comeL o = o ++ k ∧ ∀ x ∈ k, x ∈ l
  | [], o => ⟨[], by simp, fun x hx => by cases hx⟩
  | y :: l, o => by
    obtain ⟨k, h1, h2⟩ := comes_pre l (comeL o y)
    rw [List.foldl_cons, h1]
    unfold comeL
    split
    · exact ⟨k, rfl, fun x hx => List.mem_cons_of_mem _ (h2 x hx)⟩
    · refine ⟨y :: k, by simp, fun x hx => ?_⟩
      rcases List.mem_cons.1 hx with rfl | hx
      · simp
      · exact List.mem_cons_of_mem _ (h2 x hx)
theorem comes_nodup : ∀ (l o : List Int), o.Nodup → (l.foldl comeL o).Nodup
  | [], _, h => h
  | y :: l, o, h => by
    rw [List.foldl_cons]
    refine comes_nodup l _ ?_
    unfold comeL
    split
    · exact h
    · rename_i hn
      rw [List.nodup_append]
      refine ⟨h, by simp, fun x hx z hz => ?_⟩
      rw [List.mem_singleton.1 hz]
      rintro rfl
      exact hn (inL_iff.2 hx)
theorem comes_all : ∀ (l o : List Int), ∀ x ∈ l, x ∈ l.foldl comeL o
  | y :: l, o, x, h => by
    rw [List.foldl_cons]
    rcases List.mem_cons.1 h with rfl | h
    · obtain ⟨k, h1, _⟩ := comes_pre l (comeL o x)
      rw [h1]
      refine List.mem_append_left _ ?_
      unfold comeL
      split
      · rename_i h; exact inL_iff.1 h
      · simp
    · exact comes_all l _ x h
theorem comes_snoc (l o : List Int) (x : Int) : (l ++ [x]).foldl comeL o = comeL (l.foldl comeL o) x := by rw [List.foldl_append]; rfl
theorem outsV_snoc (l : List Int) (v : Int) : outsV (l ++ [v]) = if v = 0 then outsV l else outsV l ++ [v - 1] := by
  unfold outsV
  rw [List.filter_append, List.map_append]
  by_cases h : v = 0
  · rw [if_pos h, List.filter_cons_of_neg (by simp [h])]; simp
  · rw [if_neg h, List.filter_cons_of_pos (by simp [h])]; simp
theorem outsA_V (a : List Int) (x : Int) : outsA a x = outsV (refsA a x) := rfl

/-- What the objects come to so far keep. -/
structure Came (a f o : List Int) : Prop where
  nodup : o.Nodup
  only : ∀ x ∈ o, Rch a f x

theorem Came.comes {a f o : List Int} (h : Came a f o) {x : Int} (hx : x ∈ o) (l : List Int) (hl : ∀ v ∈ l, v ∈ refsA a x) : Came a f ((outsV l).foldl comeL o) := by
  refine ⟨comes_nodup _ _ h.nodup, fun y hy => ?_⟩
  obtain ⟨k, h1, h2⟩ := comes_pre (outsV l) o
  rw [h1] at hy
  rcases List.mem_append.1 hy with hy | hy
  · exact h.only y hy
  · refine .step (h.only x hx) ?_
    have := h2 y hy
    unfold outsV at this
    obtain ⟨v, hv, rfl⟩ := List.mem_map.1 this
    obtain ⟨hv, h0⟩ := List.mem_filter.1 hv
    unfold outsA
    exact List.mem_map.2 ⟨v, List.mem_filter.2 ⟨hl v hv, h0⟩, rfl⟩
theorem Came.length {a f o : List Int} (hw : ∀ x ∈ a, InR .u64 x) (hc : (checkF a).2.2 = 0) (hf : ∀ x ∈ f, isB (spotsF a).1 x = true) (h : Came a f o) : o.length ≤ 256 :=
  nodup_len h.nodup fun x hx => isB_range ((h.only x hx).isB hw hc hf)
theorem Came.first {a f : List Int} {l : List Int} (h : ∀ x ∈ l, x ∈ f) : Came a f (l.foldl comeL []) := by
  refine ⟨comes_nodup _ _ List.nodup_nil, fun x hx => ?_⟩
  obtain ⟨k, h1, h2⟩ := comes_pre l []
  rw [h1, List.nil_append] at hx
  exact .base (h x (h2 x hx))
theorem cameN_more {a : List Int} {n i : Nat} {o : List Int} (h : i < o.length) : cameN a (n + 1) i o = cameN a n (i + 1) ((outsV (refsA a (o.getD i 0))).foldl comeL o) := by
  rw [cameN, if_pos h]
theorem cameN_end {a : List Int} {n i : Nat} {o : List Int} (h : ¬ i < o.length) : cameN a n i o = o := by
  cases n with
  | zero => rfl
  | succ n => rw [cameN, if_neg h]
theorem cameN_mem {a f : List Int} : ∀ (n i : Nat) (o : List Int), Came a f o → Came a f (cameN a n i o)
  | 0, _, _, h => h
  | n + 1, i, o, h => by
    rw [cameN]
    split
    · rename_i hi
      refine cameN_mem n _ _ (h.comes (x := o.getD i 0) ?_ _ fun v hv => hv)
      simpa using getD_mem (0 : Int) (Int.natCast_nonneg i) (by omega : (i : Int) < (o.length : Int))
    · exact h
theorem came_is (a f : List Int) : Came a f (cameL a f) := cameN_mem _ _ _ (Came.first fun _ h => h)
theorem cameN_sup (a : List Int) : ∀ (n i : Nat) (o : List Int), ∃ k, cameN a n i o = o ++ k
  | 0, _, o => ⟨[], by simp [cameN]⟩
  | n + 1, i, o => by
    rw [cameN]
    split
    · obtain ⟨k, h⟩ := cameN_sup a n (i + 1) ((outsV (refsA a (o.getD i 0))).foldl comeL o)
      obtain ⟨k2, h2, _⟩ := comes_pre (outsV (refsA a (o.getD i 0))) o
      exact ⟨k2 ++ k, by rw [h, h2, List.append_assoc]⟩
    · exact ⟨[], by simp⟩
theorem came_from {a f : List Int} {x : Int} (h : x ∈ f) : x ∈ cameL a f := by
  obtain ⟨k, h1⟩ := cameN_sup a 257 0 (f.foldl comeL [])
  unfold cameL
  rw [h1]
  exact List.mem_append_left _ (comes_all _ _ x h)

theorem spot_uniq : ∀ {l : List Spot} {s t : Spot}, l.Pairwise (fun s t => s.1 < t.1) → s ∈ l → t ∈ l → s.1 = t.1 → s = t
  | u :: l, s, t, h, hs, ht, e => by
    obtain ⟨h1, h2⟩ := List.pairwise_cons.1 h
    rcases List.mem_cons.1 hs with e1 | hs2 <;> rcases List.mem_cons.1 ht with e2 | ht2
    · rw [e1, e2]
    · have := h1 t ht2; rw [← e1] at this; omega
    · have := h1 s hs2; rw [← e2] at this; omega
    · exact spot_uniq h2 hs2 ht2 e
/-- The object that begins at a word, as walk.At gives it. -/
theorem at_obj {a : List Int} (hc : (checkF a).2.2 = 0) {x : Int} (hx : isB (spotsF a).1 x = true) : 0 ≤ findFrom (fun s : Spot => decide (s.1 = x)) 0 (checkF a).1 ∧ (checkF a).1.getD (findFrom (fun s : Spot => decide (s.1 = x)) 0 (checkF a).1).toNat (0, 0, 0, 0, false) = (x, hdA a x) ∧ atF a x = (objectF a (x, hdA a x) (checkF a).2.1, 0) := by
  obtain ⟨_, _, e1, _, _, _, _⟩ := checkF_in hc
  have hm := (objA_in hx).1
  have hge : 0 ≤ findFrom (fun s : Spot => decide (s.1 = x)) 0 (checkF a).1 := by
    have h := findFrom_any (fun s : Spot => decide (s.1 = x)) (checkF a).1 0 (by omega)
    rw [e1] at h ⊢
    refine of_decide_eq_true (h.trans (List.any_eq_true.2 ⟨_, hm, by simp⟩))
  have hlt := findFrom_lt (fun s : Spot => decide (s.1 = x)) (0, 0, 0, 0, false) (checkF a).1 0 (by omega)
  have hg : (checkF a).1.getD (findFrom (fun s : Spot => decide (s.1 = x)) 0 (checkF a).1).toNat (0, 0, 0, 0, false) = (x, hdA a x) := by
    have h1 := findFrom_is (fun s : Spot => decide (s.1 = x)) (0, 0, 0, 0, false) (checkF a).1 0 hge (by omega)
    rw [Int.sub_zero] at h1
    have h2 := getD_mem ((0, 0, 0, 0, false) : Spot) hge (by omega : findFrom (fun s : Spot => decide (s.1 = x)) 0 (checkF a).1 < ((checkF a).1.length : Int))
    rw [e1] at h1 h2 ⊢
    exact spot_uniq (spotsF_sorted a) h2 hm (of_decide_eq_true h1)
  refine ⟨hge, hg, ?_⟩
  unfold atF
  rw [if_neg (by omega), if_neg (by omega), hg]

theorem ref_get {a : List Int} {x j : Int} (hx : isB (spotsF a).1 x = true) (h0 : 0 ≤ j) (hj : j < ((refsA a x).length : Int)) : (refsA a x).getD j.toNat 0 = a.getD (x + 1 + j).toNat 0 := by
  obtain ⟨l1, l2, l3, l4, l5, l6⟩ := objA_length hx
  have e : refsA a x = (a.take (x + 1 + (hdA a x).1).toNat).drop (x + 1).toNat := rfl
  rw [e, List.getD_eq_getElem?_getD, List.getD_eq_getElem?_getD, List.getElem?_drop, List.getElem?_take, if_pos (by omega)]
  congr 2
  omega
theorem at_refs_length {a : List Int} (hc : (checkF a).2.2 = 0) {x : Int} (hx : isB (spotsF a).1 x = true) : (atF a x).1.2.1.length = (refsA a x).length := by
  obtain ⟨_, _, e⟩ := at_obj hc hx
  rw [e]
  unfold objectF refsA
  simp
theorem named_filter : ∀ (l : List Int), (∀ v ∈ l, v = 0 ∨ 1 ≤ v ∧ v ≤ 256) → (l.map nameOf).filter (fun v => decide (0 ≤ v)) = outsV l
  | [], _ => rfl
  | v :: l, h => by
    have ih := named_filter l (fun x hx => h x (by simp [hx]))
    unfold outsV at ih ⊢
    rw [List.map_cons]
    rcases h v (by simp) with e | ⟨h1, h2⟩
    · subst e
      rw [List.filter_cons_of_neg (by simp [nameOf]), List.filter_cons_of_neg (by simp), ih]
    · rw [List.filter_cons_of_pos (by unfold nameOf; rw [if_neg (by omega)]; exact decide_eq_true (by omega)), List.filter_cons_of_pos (p := fun v : Int => decide (v ≠ 0)) (decide_eq_true (by omega)), List.map_cons, ih]
      unfold nameOf
      rw [if_neg (by omega)]

theorem from_single {a f : List Int} (hw : ∀ x ∈ a, InR .u64 x) : fromF a [f] = fromFault a f := by
  unfold fromF fromFault
  rw [arena_check hw]
  by_cases h : (checkF a).2.2 ≠ 0
  · rw [if_pos h, if_pos h]
  · rw [if_neg h, if_neg h]
    have : ([f].all fun l => l.all (inL (beginsL (spotsF a).1))) = f.all (isB (spotsF a).1) := by
      simp only [List.all_cons, List.all_nil, Bool.and_true]
      congr 1
      funext x
      exact inL_begins x _
    rw [this]

def an_order : Nat → Option LoopGen
  | 3000073 => some an_in
  | 7 => some { rd := [.dat 27 (.arr ty_I)], A := fun (f : List Int) => { cs := [.boxS 8 [.own 3 ty_I], .dat 29 ty_I], inv := fun ((o, i) : List Int × Int) => 0 ≤ i ∧ i ≤ f.length ∧ o = (f.take i.toNat).foldl comeL [], mu := fun ((_, i) : List Int × Int) => (f.length - i).toNat } }
  | 12 => some { rd := [.dat 0 (.arr ty_W), .dat 1 (.arr ty_I)], A := fun ((a, f) : List Int × List Int) => { cs := [.boxS 8 [.own 3 ty_I], .dat 12 ty_I], inv := fun ((o, i) : List Int × Int) => 0 ≤ i ∧ i ≤ o.length ∧ Came a f o ∧ cameN a (257 - i.toNat) i.toNat o = cameL a f, mu := fun ((_, i) : List Int × Int) => (256 - i).toNat } }
  | 16 => some { rd := [.dat 0 (.arr ty_W), .dat 1 (.arr ty_I), .boxS 8 [.own 3 ty_I], .dat 12 ty_I], A := fun ((a, f, o0, i) : List Int × List Int × List Int × Int) => { cs := [.boxS 8 [.own 3 ty_I], .dat 55 ty_I], inv := fun ((o, j) : List Int × Int) => 0 ≤ j ∧ j ≤ (refsA a (o0.getD i.toNat 0)).length ∧ o = (outsV ((refsA a (o0.getD i.toNat 0)).take j.toNat)).foldl comeL o0, mu := fun ((_, j) : List Int × Int) => ((refsA a (o0.getD i.toNat 0)).length - j).toNat } }
  | _ => none
def sp_order : Spec := { Ts := [.arr ty_W, .arr ty_I], Rs := [.own 3 ty_I, .dat ty_I], pre := fun _ => True, F := fun ((a, f) : List Int × List Int) => ((if fromFault a f ≠ 0 then [] else cameL a f, fromFault a f) : List Int × Int) }

def an_came : Nat → Option LoopGen
  | 3 => some { rd := [.dat 11 (.arr ty_I)], A := fun (f : List Int) => { cs := [.own 5 3 ty_I, .dat 13 ty_I], inv := fun ((o, i) : List Int × Int) => 0 ≤ i ∧ i ≤ f.length ∧ o = (f.take i.toNat).foldl comeL [], mu := fun ((_, i) : List Int × Int) => (f.length - i).toNat } }
  | 9 => some { rd := [.dat 0 (.arr ty_W), .dat 1 (.arr ty_I)], A := fun ((a, f) : List Int × List Int) => { cs := [.own 5 3 ty_I, .dat 8 ty_I], inv := fun ((o, i) : List Int × Int) => 0 ≤ i ∧ i ≤ o.length ∧ Came a f o ∧ cameN a (257 - i.toNat) i.toNat o = cameL a f, mu := fun ((_, i) : List Int × Int) => (256 - i).toNat } }
  | 12 => some { rd := [.own 37 3 ty_I, .own 5 3 ty_I], A := fun ((ns, o0) : List Int × List Int) => { cs := [.own 5 3 ty_I, .dat 39 ty_I], inv := fun ((o, j) : List Int × Int) => 0 ≤ j ∧ j ≤ ns.length ∧ o = ((ns.take j.toNat).filter fun v => decide (0 ≤ v)).foldl comeL o0, mu := fun ((_, j) : List Int × Int) => (ns.length - j).toNat } }
  | _ => none
def sp_rCameTo : Spec := { Ts := [.arr ty_W, .arr ty_I], Rs := [.own 3 ty_I], pre := fun ((a, f) : List Int × List Int) => fromFault a f = 0, F := fun ((a, f) : List Int × List Int) => cameL a f }

end Go.Proofs.Ytbidboeemnlglaa
