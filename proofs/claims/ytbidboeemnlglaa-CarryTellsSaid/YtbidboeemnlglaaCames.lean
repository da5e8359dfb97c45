/- The order in which objects are come to: contracts of carry.Order and of the reference's CameTo. -/
import Derived.Test.YtbidboeemnlglaaReaches
namespace Go.Proofs.Ytbidboeemnlglaa
open Go
set_option maxRecDepth 100000
set_option maxHeartbeats 1000000

def comeL (o : List Int) (x : Int) : List Int := if inL o x = true then o else o ++ [x]
def outsV (l : List Int) : List Int := (l.filter fun v => decide (v ≠ 0)).map (· - 1)
def cameN (a : List Int) : Nat → Nat → List Int → List Int
  | 0, _, o => o
  | n + 1, i, o => if i < o.length then cameN a n (i + 1) ((outsV (refsA a (o.getD i 0))).foldl comeL o) else o
def cameL (a f : List Int) : List Int := cameN a 257 0 (f.foldl comeL [])

theorem comes_pre : ∀ (l o : List Int), ∃ k, l.foldl comeL o = o ++ k ∧ ∀ x ∈ k, x ∈ l
  | [], o => ⟨[], by simp, fun x hx => by cases hx⟩
  | y :: l, o => by
    obtain ⟨k, h1, h2⟩ := comes_pre l (comeL o y)
    rw [List.foldl_cons, h1]
    unfold comeL
    split
    · exact ⟨k, rfl, fun x hx => List.mem_cons_of_mem _ (h2 x hx)⟩
    · refine ⟨y :: k, by simp, fun x hx => ?_⟩
      rcases List.mem_cons.1 hx with rfl | hx
      · simp
      · exact List.mem_cons_of_mem _ (h2 x hx)
theorem comes_nodup : ∀ (l o : List Int), o.Nodup → (l.foldl comeL o).Nodup
  | [], _, h => h
  | y :: l, o, h => by
    rw [List.foldl_cons]
    refine comes_nodup l _ ?_
    unfold comeL
    split
    · exact h
    · rename_i hn
      rw [List.nodup_append]
      refine ⟨h, by simp, fun x hx z hz => ?_⟩
      rw [List.mem_singleton.1 hz]
      rintro rfl
      exact hn (inL_iff.2 hx)
theorem comes_all : ∀ (l o : List Int), ∀ x ∈ l, x ∈ l.foldl comeL o
  | y :: l, o, x, h => by
    rw [List.foldl_cons]
    rcases List.mem_cons.1 h with rfl | h
    · obtain ⟨k, h1, _⟩ := comes_pre l (comeL o x)
      rw [h1]
      refine List.mem_append_left _ ?_
      unfold comeL
      split
      · rename_i h; exact inL_iff.1 h
      · simp
    · exact comes_all l _ x h
theorem comes_snoc (l o : List Int) (x : Int) : (l ++ [x]).foldl comeL o = comeL (l.foldl comeL o) x := by rw [List.foldl_append]; rfl
theorem outsV_snoc (l : List Int) (v : Int) : outsV (l ++ [v]) = if v = 0 then outsV l else outsV l ++ [v - 1] := by
  unfold outsV
  rw [List.filter_append, List.map_append]
  by_cases h : v = 0
  · rw [if_pos h, List.filter_cons_of_neg (by simp [h])]; simp
  · rw [if_neg h, List.filter_cons_of_pos (by simp [h])]; simp
theorem outsA_V (a : List Int) (x : Int) : outsA a x = outsV (refsA a x) := rfl

/-- What the objects come to so far keep. -/
structure Came (a f o : List Int) : Prop where
  nodup : o.Nodup
  only : ∀ x ∈ o, Rch a f x

theorem Came.comes {a f o : List Int} (h : Came a f o) {x : Int} (hx : x ∈ o) (l : List Int) (hl : ∀ v ∈ l, v ∈ refsA a x) : Came a f ((outsV l).foldl comeL o) := by
  refine ⟨comes_nodup _ _ h.nodup, fun y hy => ?_⟩
  obtain ⟨k, h1, h2⟩ := comes_pre (outsV l) o
  rw [h1] at hy
  rcases List.mem_append.1 hy with hy | hy
  · exact h.only y hy
  · refine .step (h.only x hx) ?_
    have := h2 y hy
    unfold outsV at this
    obtain ⟨v, hv, rfl⟩ := List.mem_map.1 this
    obtain ⟨hv, h0⟩ := List.mem_filter.1 hv
    unfold outsA
    exact List.mem_map.2 ⟨v, List.mem_filter.2 ⟨hl v hv, h0⟩, rfl⟩
theorem Came.length {a f o : List Int} (hw : ∀ x ∈ a, InR .u64 x) (hc : (checkF a).2.2 = 0) (hf : ∀ x ∈ f, isB (spotsF a).1 x = true) (h : Came a f o) : o.length ≤ 256 :=
  nodup_len h.nodup fun x hx => isB_range ((h.only x hx).isB hw hc hf)
theorem Came.first {a f : List Int} {l : List Int} (h : ∀ x ∈ l, x ∈ f) : Came a f (l.foldl comeL []) := by
  refine ⟨comes_nodup _ _ List.nodup_nil, fun x hx => ?_⟩
  obtain ⟨k, h1, h2⟩ := comes_pre l []
  rw [h1, List.nil_append] at hx
  exact .base (h x (h2 x hx))
theorem cameN_more {a : List Int} {n i : Nat} {o : List Int} (h : i < o.length) : cameN a (n + 1) i o = cameN a n (i + 1) ((outsV (refsA a (o.getD i 0))).foldl comeL o) := by
  rw [cameN, if_pos h]
theorem cameN_end {a : List Int} {n i : Nat} {o : List Int} (h : ¬ i < o.length) : cameN a n i o = o := by
  cases n with
  | zero => rfl
  | succ n => rw [cameN, if_neg h]
theorem cameN_mem {a f : List Int} : ∀ (n i : Nat) (o : List Int), Came a f o → Came a f (cameN a n i o)
  | 0, _, _, h => h
  | n + 1, i, o, h => by
    rw [cameN]
    split
    · rename_i hi
      refine cameN_mem n _ _ (h.comes (x := o.getD i 0) ?_ _ fun v hv => hv)
      simpa using getD_mem (0 : Int) (Int.natCast_nonneg i) (by omega : (i : Int) < (o.length : Int))
    · exact h
theorem came_is (a f : List Int) : Came a f (cameL a f) := cameN_mem _ _ _ (Came.first fun _ h => h)
theorem cameN_sup (a : List Int) : ∀ (n i : Nat) (o : List Int), ∃ k, cameN a n i o = o ++ k
  | 0, _, o => ⟨[], by simp [cameN]⟩
  | n + 1, i, o => by
    rw [cameN]
    split
    · obtain ⟨k, h⟩ := cameN_sup a n (i + 1) ((outsV (refsA a (o.getD i 0))).foldl comeL o)
      obtain ⟨k2, h2, _⟩ := comes_pre (outsV (refsA a (o.getD i 0))) o
      exact ⟨k2 ++ k, by rw [h, h2, List.append_assoc]⟩
    · exact ⟨[], by simp⟩
theorem came_from {a f : List Int} {x : Int} (h : x ∈ f) : x ∈ cameL a f := by
  obtain ⟨k, h1⟩ := cameN_sup a 257 0 (f.foldl comeL [])
  unfold cameL
  rw [h1]
  exact List.mem_append_left _ (comes_all _ _ x h)

theorem spot_uniq : ∀ {l : List Spot} {s t : Spot}, l.Pairwise (fun s t => s.1 < t.1) → s ∈ l → t ∈ l → s.1 = t.1 → s = t
  | u :: l, s, t, h, hs, ht, e => by
    obtain ⟨h1, h2⟩ := List.pairwise_cons.1 h
    rcases List.mem_cons.1 hs with e1 | hs2 <;> rcases List.mem_cons.1 ht with e2 | ht2
    · rw [e1, e2]
    · have := h1 t ht2; rw [← e1] at this; omega
    · have := h1 s hs2; rw [← e2] at this; omega
    · exact spot_uniq h2 hs2 ht2 e
/-- The object that begins at a word, as walk.At gives it. -/
theorem at_obj {a : List Int} (hc : (checkF a).2.2 = 0) {x : Int} (hx : isB (spotsF a).1 x = true) : 0 ≤ findFrom (fun s : Spot => decide (s.1 = x)) 0 (checkF a).1 ∧ (checkF a).1.getD (findFrom (fun s : Spot => decide (s.1 = x)) 0 (checkF a).1).toNat (0, 0, 0, 0, false) = (x, hdA a x) ∧ atF a x = (objectF a (x, hdA a x) (checkF a).2.1, 0) := by
  obtain ⟨_, _, e1, _, _, _, _⟩ := checkF_in hc
  have hm := (objA_in hx).1
  have hge : 0 ≤ findFrom (fun s : Spot => decide (s.1 = x)) 0 (checkF a).1 := by
    have h := findFrom_any (fun s : Spot => decide (s.1 = x)) (checkF a).1 0 (by omega)
    rw [e1] at h ⊢
    refine of_decide_eq_true (h.trans (List.any_eq_true.2 ⟨_, hm, by simp⟩))
  have hlt := findFrom_lt (fun s : Spot => decide (s.1 = x)) (0, 0, 0, 0, false) (checkF a).1 0 (by omega)
  have hg : (checkF a).1.getD (findFrom (fun s : Spot => decide (s.1 = x)) 0 (checkF a).1).toNat (0, 0, 0, 0, false) = (x, hdA a x) := by
    have h1 := findFrom_is (fun s : Spot => decide (s.1 = x)) (0, 0, 0, 0, false) (checkF a).1 0 hge (by omega)
    rw [Int.sub_zero] at h1
    have h2 := getD_mem ((0, 0, 0, 0, false) : Spot) hge (by omega : findFrom (fun s : Spot => decide (s.1 = x)) 0 (checkF a).1 < ((checkF a).1.length : Int))
    rw [e1] at h1 h2 ⊢
    exact spot_uniq (spotsF_sorted a) h2 hm (of_decide_eq_true h1)
  refine ⟨hge, hg, ?_⟩
  unfold atF
  rw [if_neg (by omega), if_neg (by omega), hg]

theorem ref_get {a : List Int} {x j : Int} (hx : isB (spotsF a).1 x = true) (h0 : 0 ≤ j) (hj : j < ((refsA a x).length : Int)) : (refsA a x).getD j.toNat 0 = a.getD (x + 1 + j).toNat 0 := by
  obtain ⟨l1, l2, l3, l4, l5, l6⟩ := objA_length hx
  have e : refsA a x = (a.take (x + 1 + (hdA a x).1).toNat).drop (x + 1).toNat := rfl
  rw [e, List.getD_eq_getElem?_getD, List.getD_eq_getElem?_getD, List.getElem?_drop, List.getElem?_take, if_pos (by omega)]
  congr 2
  omega
theorem at_refs_length {a : List Int} (hc : (checkF a).2.2 = 0) {x : Int} (hx : isB (spotsF a).1 x = true) : (atF a x).1.2.1.length = (refsA a x).length := by
  obtain ⟨_, _, e⟩ := at_obj hc hx
  rw [e]
  unfold objectF refsA
  simp
theorem named_filter : ∀ (l : List Int), (∀ v ∈ l, v = 0 ∨ 1 ≤ v ∧ v ≤ 256) → (l.map nameOf).filter (fun v => decide (0 ≤ v)) = outsV l
  | [], _ => rfl
  | v :: l, h => by
    have ih := named_filter l (fun x hx => h x (by simp [hx]))
    unfold outsV at ih ⊢
    rw [List.map_cons]
    rcases h v (by simp) with e | ⟨h1, h2⟩
    · subst e
      rw [List.filter_cons_of_neg (by simp [nameOf]), List.filter_cons_of_neg (by simp), ih]
    · rw [List.filter_cons_of_pos (by unfold nameOf; rw [if_neg (by omega)]; exact decide_eq_true (by omega)), List.filter_cons_of_pos (p := fun v : Int => decide (v ≠ 0)) (decide_eq_true (by omega)), List.map_cons, ih]
      unfold nameOf
      rw [if_neg (by omega)]

def an_order : Nat → Option LoopGen
  | 3000073 => some an_in
  | 7 => some { rd := [.dat 27 (.arr ty_I)], A := fun (f : List Int) => { cs := [.boxS 8 [.own 3 ty_I], .dat 29 ty_I], inv := fun ((o, i) : List Int × Int) => 0 ≤ i ∧ i ≤ f.length ∧ o = (f.take i.toNat).foldl comeL [], mu := fun ((_, i) : List Int × Int) => (f.length - i).toNat } }
  | 12 => some { rd := [.dat 0 (.arr ty_W), .dat 1 (.arr ty_I)], A := fun ((a, f) : List Int × List Int) => { cs := [.boxS 8 [.own 3 ty_I], .dat 12 ty_I], inv := fun ((o, i) : List Int × Int) => 0 ≤ i ∧ i ≤ o.length ∧ Came a f o ∧ cameN a (257 - i.toNat) i.toNat o = cameL a f, mu := fun ((_, i) : List Int × Int) => (256 - i).toNat } }
  | 16 => some { rd := [.dat 0 (.arr ty_W), .dat 1 (.arr ty_I), .boxS 8 [.own 3 ty_I], .dat 12 ty_I], A := fun ((a, f, o0, i) : List Int × List Int × List Int × Int) => { cs := [.boxS 8 [.own 3 ty_I], .dat 55 ty_I], inv := fun ((o, j) : List Int × Int) => 0 ≤ j ∧ j ≤ (refsA a (o0.getD i.toNat 0)).length ∧ o = (outsV ((refsA a (o0.getD i.toNat 0)).take j.toNat)).foldl comeL o0, mu := fun ((_, j) : List Int × Int) => ((refsA a (o0.getD i.toNat 0)).length - j).toNat } }
  | _ => none
def sp_order : Spec := { Ts := [.arr ty_W, .arr ty_I], Rs := [.own 3 ty_I, .dat ty_I], pre := fun _ => True, F := fun ((a, f) : List Int × List Int) => ((if fromFault a f ≠ 0 then [] else cameL a f, fromFault a f) : List Int × Int) }
def pv_order : Prop :=
    ∀ (x : List Int × List Int), ((x.fst.length * (8 : Nat) ≤ big ∧ ∀ (x_1 : Int), x_1 ∈ x.fst → InR IntKind.u64 x_1) ∧ x.snd.length * (8 : Nat) ≤ big ∧ ∀ (x_1 : Int), x_1 ∈ x.snd → InR IntKind.i64 x_1) → True → True ∧ (decide ((reachF x.fst x.snd).snd ≠ (0 : Int)) = true → (([] : List Int) = if fromFault x.fst x.snd ≠ (0 : Int) then ([] : List Int) else cameL x.fst x.snd) ∧ (reachF x.fst x.snd).snd = fromFault x.fst x.snd ∧ True) ∧ (decide ((reachF x.fst x.snd).snd ≠ (0 : Int)) = false → ((0 : Int) ≤ (0 : Int) ∧ (0 : Int) ≤ (↑x.snd.length : Int) ∧ ([] : List Int) = List.foldl comeL ([] : List Int) (List.take (Int.toNat (0 : Int)) x.snd)) ∧ ∀ (x_1 : List Int × Int), (0 : Int) ≤ x_1.snd ∧ x_1.snd ≤ (↑x.snd.length : Int) ∧ x_1.fst = List.foldl comeL ([] : List Int) (List.take x_1.snd.toNat x.snd) → (decide (x_1.snd < (↑x.snd.length : Int)) = true → (0 : Int) ≤ x_1.snd ∧ x_1.snd < (↑x.snd.length : Int) ∧ ∀ (_ : Array Value), True ∧ ((!inL x_1.fst (x.snd.getD x_1.snd.toNat (0 : Int))) = true → (x_1.fst.length + [x.snd.getD x_1.snd.toNat (0 : Int)].length) * (8 : Nat) ≤ big ∧ InR IntKind.i64 (x_1.snd + (1 : Int)) ∧ ((0 : Int) ≤ x_1.snd + (1 : Int) ∧ x_1.snd + (1 : Int) ≤ (↑x.snd.length : Int) ∧ x_1.fst ++ [x.snd.getD x_1.snd.toNat (0 : Int)] = List.foldl comeL ([] : List Int) (List.take (x_1.snd + (1 : Int)).toNat x.snd)) ∧ ((↑x.snd.length : Int) - (x_1.snd + (1 : Int))).toNat < ((↑x.snd.length : Int) - x_1.snd).toNat) ∧ ((!inL x_1.fst (x.snd.getD x_1.snd.toNat (0 : Int))) = false → InR IntKind.i64 (x_1.snd + (1 : Int)) ∧ ((0 : Int) ≤ x_1.snd + (1 : Int) ∧ x_1.snd + (1 : Int) ≤ (↑x.snd.length : Int) ∧ x_1.fst = List.foldl comeL ([] : List Int) (List.take (x_1.snd + (1 : Int)).toNat x.snd)) ∧ ((↑x.snd.length : Int) - (x_1.snd + (1 : Int))).toNat < ((↑x.snd.length : Int) - x_1.snd).toNat)) ∧ (decide (x_1.snd < (↑x.snd.length : Int)) = false → ((0 : Int) ≤ (0 : Int) ∧ (0 : Int) ≤ (↑x_1.fst.length : Int) ∧ Came x.fst x.snd x_1.fst ∧ cameN x.fst ((257 : Nat) - Int.toNat (0 : Int)) (Int.toNat (0 : Int)) x_1.fst = cameL x.fst x.snd) ∧ ∀ (x_2 : List Int × Int), (0 : Int) ≤ x_2.snd ∧ x_2.snd ≤ (↑x_2.fst.length : Int) ∧ Came x.fst x.snd x_2.fst ∧ cameN x.fst ((257 : Nat) - x_2.snd.toNat) x_2.snd.toNat x_2.fst = cameL x.fst x.snd → (decide (x_2.snd < (↑x_2.fst.length : Int)) = true → (0 : Int) ≤ x_2.snd ∧ x_2.snd < (↑x_2.fst.length : Int) ∧ x_2.snd.toNat < x_2.fst.length ∧ True ∧ ((0 : Int) ≤ (0 : Int) ∧ (0 : Int) ≤ (↑(refsA x.fst (x_2.fst.getD x_2.snd.toNat (0 : Int))).length : Int) ∧ x_2.fst = List.foldl comeL x_2.fst (outsV (List.take (Int.toNat (0 : Int)) (refsA x.fst (x_2.fst.getD x_2.snd.toNat (0 : Int)))))) ∧ ∀ (x_3 : List Int × Int), (0 : Int) ≤ x_3.snd ∧ x_3.snd ≤ (↑(refsA x.fst (x_2.fst.getD x_2.snd.toNat (0 : Int))).length : Int) ∧ x_3.fst = List.foldl comeL x_2.fst (outsV (List.take x_3.snd.toNat (refsA x.fst (x_2.fst.getD x_2.snd.toNat (0 : Int))))) → (decide (x_3.snd < (↑(atF x.fst (x_2.fst.getD x_2.snd.toNat (0 : Int))).fst.snd.fst.length : Int)) = true → (0 : Int) ≤ x_2.snd ∧ x_2.snd < (↑x_3.fst.length : Int) ∧ x_2.snd.toNat < x_3.fst.length ∧ InR IntKind.i64 (x_3.fst.getD x_2.snd.toNat (0 : Int) + (1 : Int)) ∧ InR IntKind.i64 (x_3.fst.getD x_2.snd.toNat (0 : Int) + (1 : Int) + x_3.snd) ∧ (0 : Int) ≤ x_3.fst.getD x_2.snd.toNat (0 : Int) + (1 : Int) + x_3.snd ∧ x_3.fst.getD x_2.snd.toNat (0 : Int) + (1 : Int) + x_3.snd < (↑x.fst.length : Int) ∧ (decide (x.fst.getD (x_3.fst.getD x_2.snd.toNat (0 : Int) + (1 : Int) + x_3.snd).toNat (0 : Int) ≠ (0 : Int)) = true → InR IntKind.i64 (IntKind.i64.wrap (x.fst.getD (x_3.fst.getD x_2.snd.toNat (0 : Int) + (1 : Int) + x_3.snd).toNat (0 : Int)) - (1 : Int)) ∧ ∀ (_ : Array Value), True ∧ ((!inL x_3.fst (IntKind.i64.wrap (x.fst.getD (x_3.fst.getD x_2.snd.toNat (0 : Int) + (1 : Int) + x_3.snd).toNat (0 : Int)) - (1 : Int))) = true → (x_3.fst.length + [IntKind.i64.wrap (x.fst.getD (x_3.fst.getD x_2.snd.toNat (0 : Int) + (1 : Int) + x_3.snd).toNat (0 : Int)) - (1 : Int)].length) * (8 : Nat) ≤ big ∧ InR IntKind.i64 (x_3.snd + (1 : Int)) ∧ ((0 : Int) ≤ x_3.snd + (1 : Int) ∧ x_3.snd + (1 : Int) ≤ (↑(refsA x.fst (x_2.fst.getD x_2.snd.toNat (0 : Int))).length : Int) ∧ x_3.fst ++ [IntKind.i64.wrap (x.fst.getD (x_3.fst.getD x_2.snd.toNat (0 : Int) + (1 : Int) + x_3.snd).toNat (0 : Int)) - (1 : Int)] = List.foldl comeL x_2.fst (outsV (List.take (x_3.snd + (1 : Int)).toNat (refsA x.fst (x_2.fst.getD x_2.snd.toNat (0 : Int)))))) ∧ ((↑(refsA x.fst (x_2.fst.getD x_2.snd.toNat (0 : Int))).length : Int) - (x_3.snd + (1 : Int))).toNat < ((↑(refsA x.fst (x_2.fst.getD x_2.snd.toNat (0 : Int))).length : Int) - x_3.snd).toNat) ∧ ((!inL x_3.fst (IntKind.i64.wrap (x.fst.getD (x_3.fst.getD x_2.snd.toNat (0 : Int) + (1 : Int) + x_3.snd).toNat (0 : Int)) - (1 : Int))) = false → InR IntKind.i64 (x_3.snd + (1 : Int)) ∧ ((0 : Int) ≤ x_3.snd + (1 : Int) ∧ x_3.snd + (1 : Int) ≤ (↑(refsA x.fst (x_2.fst.getD x_2.snd.toNat (0 : Int))).length : Int) ∧ x_3.fst = List.foldl comeL x_2.fst (outsV (List.take (x_3.snd + (1 : Int)).toNat (refsA x.fst (x_2.fst.getD x_2.snd.toNat (0 : Int)))))) ∧ ((↑(refsA x.fst (x_2.fst.getD x_2.snd.toNat (0 : Int))).length : Int) - (x_3.snd + (1 : Int))).toNat < ((↑(refsA x.fst (x_2.fst.getD x_2.snd.toNat (0 : Int))).length : Int) - x_3.snd).toNat)) ∧ (decide (x.fst.getD (x_3.fst.getD x_2.snd.toNat (0 : Int) + (1 : Int) + x_3.snd).toNat (0 : Int) ≠ (0 : Int)) = false → InR IntKind.i64 (x_3.snd + (1 : Int)) ∧ ((0 : Int) ≤ x_3.snd + (1 : Int) ∧ x_3.snd + (1 : Int) ≤ (↑(refsA x.fst (x_2.fst.getD x_2.snd.toNat (0 : Int))).length : Int) ∧ x_3.fst = List.foldl comeL x_2.fst (outsV (List.take (x_3.snd + (1 : Int)).toNat (refsA x.fst (x_2.fst.getD x_2.snd.toNat (0 : Int)))))) ∧ ((↑(refsA x.fst (x_2.fst.getD x_2.snd.toNat (0 : Int))).length : Int) - (x_3.snd + (1 : Int))).toNat < ((↑(refsA x.fst (x_2.fst.getD x_2.snd.toNat (0 : Int))).length : Int) - x_3.snd).toNat)) ∧ (decide (x_3.snd < (↑(atF x.fst (x_2.fst.getD x_2.snd.toNat (0 : Int))).fst.snd.fst.length : Int)) = false → InR IntKind.i64 (x_2.snd + (1 : Int)) ∧ ((0 : Int) ≤ x_2.snd + (1 : Int) ∧ x_2.snd + (1 : Int) ≤ (↑x_3.fst.length : Int) ∧ Came x.fst x.snd x_3.fst ∧ cameN x.fst ((257 : Nat) - (x_2.snd + (1 : Int)).toNat) (x_2.snd + (1 : Int)).toNat x_3.fst = cameL x.fst x.snd) ∧ ((256 : Int) - (x_2.snd + (1 : Int))).toNat < ((256 : Int) - x_2.snd).toNat)) ∧ (decide (x_2.snd < (↑x_2.fst.length : Int)) = false → (x_2.fst = if fromFault x.fst x.snd ≠ (0 : Int) then ([] : List Int) else cameL x.fst x.snd) ∧ (0 : Int) = fromFault x.fst x.snd ∧ True)))
theorem vcp_order : pv_order := by
  unfold pv_order
  intro ⟨a, f⟩ ⟨⟨hb, hw⟩, hbf, hf⟩ _
  unfold big at hb hbf
  simp only at hb hw hbf hf ⊢
  have hre : (reachF a f).2 = fromFault a f := by
    unfold reachF
    split
    · rfl
    · rename_i h; simp only; omega
  rw [hre]
  refine ⟨trivial, fun h => ?_, fun h => ?_⟩
  · have h := of_decide_eq_true h
    rw [if_pos h]
    exact ⟨rfl, rfl, trivial⟩
  have h : fromFault a f = 0 := by simpa using of_decide_eq_false h
  obtain ⟨hc, hfb⟩ := fromFault_ok h
  have e0 : (if fromFault a f ≠ 0 then ([] : List Int) else cameL a f) = cameL a f := if_neg (by omega)
  rw [e0, h]
  refine ⟨⟨by omega, by omega, by simp⟩, fun ⟨o, i⟩ ⟨i0, i1, i2⟩ => ⟨fun hlt => ?_, fun hge => ?_⟩⟩
  · simp only at i0 i1 i2 hlt ⊢
    have hlt := of_decide_eq_true hlt
    have ht := take_snoc (0 : Int) i0 hlt
    have hcm : Came a f o := by rw [i2]; exact Came.first fun x hx => List.mem_of_mem_take hx
    have hol := hcm.length hw hc hfb
    have hs : (f.take (i + 1).toNat).foldl comeL [] = comeL o (f.getD i.toNat 0) := by rw [ht, comes_snoc, ← i2]
    rw [hs]
    generalize f.getD i.toNat 0 = x at *
    unfold big comeL
    simp only [InR, List.length_singleton]
    refine ⟨i0, hlt, fun _ => ⟨trivial, fun hn => ?_, fun hn => ?_⟩⟩
    · have hn : ¬ inL o x = true := by simpa using hn
      rw [if_neg hn]
      exact ⟨by omega, by omega, ⟨by omega, by omega, rfl⟩, by omega⟩
    · have hn : inL o x = true := by simpa using hn
      rw [if_pos hn]
      exact ⟨by omega, ⟨by omega, by omega, rfl⟩, by omega⟩
  simp only at i0 i1 i2 hge ⊢
  rw [take_end (of_decide_eq_false hge)] at i2
  have hcm : Came a f o := by rw [i2]; exact Came.first fun x hx => hx
  refine ⟨⟨by omega, by omega, hcm, by rw [i2]; rfl⟩, fun ⟨o2, k⟩ ⟨k0, k1, k2, k3⟩ => ⟨fun hlt => ?_, fun hge2 => ?_⟩⟩
  · clear i0 i1 i2 hge hcm
    simp only at k0 k1 k2 k3 hlt ⊢
    have hlt := of_decide_eq_true hlt
    have hm := getD_mem (0 : Int) k0 hlt
    have hol := k2.length hw hc hfb
    have hib := (k2.only _ hm).isB hw hc hfb
    have hln := at_refs_length hc hib
    have hstep : cameN a (257 - k.toNat) k.toNat o2 = cameN a (257 - (k + 1).toNat) (k + 1).toNat ((outsV (refsA a (o2.getD k.toNat 0))).foldl comeL o2) := by
      rw [show 257 - k.toNat = (257 - (k + 1).toNat) + 1 by omega, show (k + 1).toNat = k.toNat + 1 by omega]
      exact cameN_more (by omega)
    rw [hstep] at k3
    have hget : ∀ l : List Int, (l.foldl comeL o2).getD k.toNat 0 = o2.getD k.toNat 0 ∧ o2.length ≤ (l.foldl comeL o2).length := fun l => by
      obtain ⟨kk, e, _⟩ := comes_pre l o2
      rw [e]
      exact ⟨by rw [List.getD_eq_getElem?_getD, List.getElem?_append_left (by omega), ← List.getD_eq_getElem?_getD], by simp⟩
    obtain ⟨l1, l2, l3, l4, l5, l6⟩ := objA_length hib
    have hal := (isB_spot hib).2.2.2.2
    have hrf := refs_named hw hc _ (objA_in hib).1
    have hrs : spotRefs a (o2.getD k.toNat 0, hdA a (o2.getD k.toNat 0)) = refsA a (o2.getD k.toNat 0) := rfl
    have hcms := fun l hl => k2.comes hm l hl
    have hrg := fun j h0 hj => ref_get (j := j) hib h0 hj
    rw [hln]
    clear hstep hln
    generalize o2.getD k.toNat 0 = x at *
    rw [hrs] at hrf
    refine ⟨k0, hlt, by omega, trivial, ⟨by omega, by omega, by simp [outsV]⟩, fun ⟨o3, j⟩ ⟨j0, j1, j2⟩ => ⟨fun hj => ?_, fun hj => ?_⟩⟩
    · simp only at j0 j1 j2 hj ⊢
      have hj := of_decide_eq_true hj
      have ht := take_snoc (0 : Int) j0 hj
      have hv := getD_mem (0 : Int) j0 hj
      have hgo := hget (outsV ((refsA a x).take j.toNat))
      have hcm3 := hcms ((refsA a x).take j.toNat) (fun v hv => List.mem_of_mem_take hv)
      rw [← j2] at hgo hcm3
      have hol3 := hcm3.length hw hc hfb
      have hrj := hrg j j0 hj
      rw [hgo.1, ← hrj, ht, outsV_snoc]
      have hvr := hrf _ hv
      generalize (refsA a x).getD j.toNat 0 = v at *
      have hwr : IntKind.i64.wrap v = v := by rcases hvr with e | ⟨h1, h2, _⟩ <;> exact wrapI (by omega) (by omega)
      rw [hwr]
      unfold big
      simp only [InR, List.length_singleton]
      refine ⟨k0, by omega, by omega, by omega, by omega, by omega, by omega, fun hn => ?_, fun hn => ?_⟩
      · have hn := of_decide_eq_true hn
        rw [if_neg hn, comes_snoc, ← j2]
        unfold comeL
        refine ⟨by omega, fun _ => ⟨trivial, fun hi => ?_, fun hi => ?_⟩⟩
        · have hi : ¬ inL o3 (v - 1) = true := by simpa using hi
          rw [if_neg hi]
          exact ⟨by omega, by omega, ⟨by omega, by omega, rfl⟩, by omega⟩
        · have hi : inL o3 (v - 1) = true := by simpa using hi
          rw [if_pos hi]
          exact ⟨by omega, ⟨by omega, by omega, rfl⟩, by omega⟩
      · have hn : v = 0 := by simpa using of_decide_eq_false hn
        rw [if_pos hn]
        exact ⟨by omega, ⟨by omega, by omega, j2⟩, by omega⟩
    · simp only at j0 j1 j2 hj ⊢
      rw [take_end (of_decide_eq_false hj)] at j2
      have hgo := hget (outsV (refsA a x))
      have hcm3 := hcms (refsA a x) (fun v hv => hv)
      rw [← j2] at hgo hcm3 k3
      simp only [InR]
      exact ⟨by omega, ⟨by omega, by omega, hcm3, k3⟩, by omega⟩
  · simp only at k0 k1 k2 k3 hge2 ⊢
    rw [cameN_end (by have := of_decide_eq_false hge2; omega)] at k3
    exact ⟨k3, trivial, trivial⟩
theorem e_order : pv_order = (fnVC Try.prog (tbl [(72, sp_reach), (65, sp_walkAt), (74, sp_hasI)]) an_order Try.f17 sp_order) := by kernel_rfl
theorem vc_order : fnVC Try.prog (tbl [(72, sp_reach), (65, sp_walkAt), (74, sp_hasI)]) an_order Try.f17 sp_order := @Eq.mp _ _ @e_order @vcp_order
theorem ok_order : sp_order.ok Try.prog 17 := fn_sound (P := Try.prog) (ss := tbl [(72, sp_reach), (65, sp_walkAt), (74, sp_hasI)]) (ann := an_order) (f := 17) (fn := Try.f17) (s := sp_order) (tbl_cons ok_reach (tbl_cons ok_walkAt (tbl_cons ok_hasI tbl_nil))) Try.func17 @vc_order

def an_came : Nat → Option LoopGen
  | 3 => some { rd := [.dat 11 (.arr ty_I)], A := fun (f : List Int) => { cs := [.own 5 3 ty_I, .dat 13 ty_I], inv := fun ((o, i) : List Int × Int) => 0 ≤ i ∧ i ≤ f.length ∧ o = (f.take i.toNat).foldl comeL [], mu := fun ((_, i) : List Int × Int) => (f.length - i).toNat } }
  | 9 => some { rd := [.dat 0 (.arr ty_W), .dat 1 (.arr ty_I)], A := fun ((a, f) : List Int × List Int) => { cs := [.own 5 3 ty_I, .dat 8 ty_I], inv := fun ((o, i) : List Int × Int) => 0 ≤ i ∧ i ≤ o.length ∧ Came a f o ∧ cameN a (257 - i.toNat) i.toNat o = cameL a f, mu := fun ((_, i) : List Int × Int) => (256 - i).toNat } }
  | 12 => some { rd := [.own 37 3 ty_I, .own 5 3 ty_I], A := fun ((ns, o0) : List Int × List Int) => { cs := [.own 5 3 ty_I, .dat 39 ty_I], inv := fun ((o, j) : List Int × Int) => 0 ≤ j ∧ j ≤ ns.length ∧ o = ((ns.take j.toNat).filter fun v => decide (0 ≤ v)).foldl comeL o0, mu := fun ((_, j) : List Int × Int) => (ns.length - j).toNat } }
  | _ => none
def sp_rCameTo : Spec := { Ts := [.arr ty_W, .arr ty_I], Rs := [.own 3 ty_I], pre := fun ((a, f) : List Int × List Int) => fromFault a f = 0, F := fun ((a, f) : List Int × List Int) => cameL a f }
def pv_rCameTo : Prop :=
    ∀ (x : List Int × List Int), ((x.fst.length * (8 : Nat) ≤ big ∧ ∀ (x_1 : Int), x_1 ∈ x.fst → InR IntKind.u64 x_1) ∧ x.snd.length * (8 : Nat) ≤ big ∧ ∀ (x_1 : Int), x_1 ∈ x.snd → InR IntKind.i64 x_1) → fromFault x.fst x.snd = (0 : Int) → ((0 : Int) ≤ (0 : Int) ∧ (0 : Int) ≤ (↑x.snd.length : Int) ∧ ([] : List Int) = List.foldl comeL ([] : List Int) (List.take (Int.toNat (0 : Int)) x.snd)) ∧ ∀ (x_1 : List Int × Int), (0 : Int) ≤ x_1.snd ∧ x_1.snd ≤ (↑x.snd.length : Int) ∧ x_1.fst = List.foldl comeL ([] : List Int) (List.take x_1.snd.toNat x.snd) → (decide (x_1.snd < (↑x.snd.length : Int)) = true → (0 : Int) ≤ x_1.snd ∧ x_1.snd < (↑x.snd.length : Int) ∧ True ∧ ((!inL x_1.fst (x.snd.getD x_1.snd.toNat (0 : Int))) = true → (x_1.fst.length + [x.snd.getD x_1.snd.toNat (0 : Int)].length) * (8 : Nat) ≤ big ∧ InR IntKind.i64 (x_1.snd + (1 : Int)) ∧ ((0 : Int) ≤ x_1.snd + (1 : Int) ∧ x_1.snd + (1 : Int) ≤ (↑x.snd.length : Int) ∧ x_1.fst ++ [x.snd.getD x_1.snd.toNat (0 : Int)] = List.foldl comeL ([] : List Int) (List.take (x_1.snd + (1 : Int)).toNat x.snd)) ∧ ((↑x.snd.length : Int) - (x_1.snd + (1 : Int))).toNat < ((↑x.snd.length : Int) - x_1.snd).toNat) ∧ ((!inL x_1.fst (x.snd.getD x_1.snd.toNat (0 : Int))) = false → InR IntKind.i64 (x_1.snd + (1 : Int)) ∧ ((0 : Int) ≤ x_1.snd + (1 : Int) ∧ x_1.snd + (1 : Int) ≤ (↑x.snd.length : Int) ∧ x_1.fst = List.foldl comeL ([] : List Int) (List.take (x_1.snd + (1 : Int)).toNat x.snd)) ∧ ((↑x.snd.length : Int) - (x_1.snd + (1 : Int))).toNat < ((↑x.snd.length : Int) - x_1.snd).toNat)) ∧ (decide (x_1.snd < (↑x.snd.length : Int)) = false → ((0 : Int) ≤ (0 : Int) ∧ (0 : Int) ≤ (↑x_1.fst.length : Int) ∧ Came x.fst x.snd x_1.fst ∧ cameN x.fst ((257 : Nat) - Int.toNat (0 : Int)) (Int.toNat (0 : Int)) x_1.fst = cameL x.fst x.snd) ∧ ∀ (x_2 : List Int × Int), (0 : Int) ≤ x_2.snd ∧ x_2.snd ≤ (↑x_2.fst.length : Int) ∧ Came x.fst x.snd x_2.fst ∧ cameN x.fst ((257 : Nat) - x_2.snd.toNat) x_2.snd.toNat x_2.fst = cameL x.fst x.snd → (decide (x_2.snd < (↑x_2.fst.length : Int)) = true → (0 : Int) ≤ x_2.snd ∧ x_2.snd < (↑x_2.fst.length : Int) ∧ x_2.snd.toNat < x_2.fst.length ∧ True ∧ ((0 : Int) ≤ (0 : Int) ∧ (0 : Int) ≤ (↑(namedL x.fst (x_2.fst.getD x_2.snd.toNat (0 : Int)) (headAtL (x_2.fst.getD x_2.snd.toNat (0 : Int)) (spotsF x.fst).fst).fst).length : Int) ∧ x_2.fst = List.foldl comeL x_2.fst (List.filter (fun (v : Int) => decide ((0 : Int) ≤ v)) (List.take (Int.toNat (0 : Int)) (namedL x.fst (x_2.fst.getD x_2.snd.toNat (0 : Int)) (headAtL (x_2.fst.getD x_2.snd.toNat (0 : Int)) (spotsF x.fst).fst).fst)))) ∧ ∀ (x_3 : List Int × Int), (0 : Int) ≤ x_3.snd ∧ x_3.snd ≤ (↑(namedL x.fst (x_2.fst.getD x_2.snd.toNat (0 : Int)) (headAtL (x_2.fst.getD x_2.snd.toNat (0 : Int)) (spotsF x.fst).fst).fst).length : Int) ∧ x_3.fst = List.foldl comeL x_2.fst (List.filter (fun (v : Int) => decide ((0 : Int) ≤ v)) (List.take x_3.snd.toNat (namedL x.fst (x_2.fst.getD x_2.snd.toNat (0 : Int)) (headAtL (x_2.fst.getD x_2.snd.toNat (0 : Int)) (spotsF x.fst).fst).fst))) → (decide (x_3.snd < (↑(namedL x.fst (x_2.fst.getD x_2.snd.toNat (0 : Int)) (headAtL (x_2.fst.getD x_2.snd.toNat (0 : Int)) (spotsF x.fst).fst).fst).length : Int)) = true → (0 : Int) ≤ x_3.snd ∧ x_3.snd < (↑(namedL x.fst (x_2.fst.getD x_2.snd.toNat (0 : Int)) (headAtL (x_2.fst.getD x_2.snd.toNat (0 : Int)) (spotsF x.fst).fst).fst).length : Int) ∧ x_3.snd.toNat < (namedL x.fst (x_2.fst.getD x_2.snd.toNat (0 : Int)) (headAtL (x_2.fst.getD x_2.snd.toNat (0 : Int)) (spotsF x.fst).fst).fst).length ∧ (decide ((0 : Int) ≤ (namedL x.fst (x_2.fst.getD x_2.snd.toNat (0 : Int)) (headAtL (x_2.fst.getD x_2.snd.toNat (0 : Int)) (spotsF x.fst).fst).fst).getD x_3.snd.toNat (0 : Int)) = true → True) ∧ ((decide ((0 : Int) ≤ (namedL x.fst (x_2.fst.getD x_2.snd.toNat (0 : Int)) (headAtL (x_2.fst.getD x_2.snd.toNat (0 : Int)) (spotsF x.fst).fst).fst).getD x_3.snd.toNat (0 : Int)) && !inL x_3.fst ((namedL x.fst (x_2.fst.getD x_2.snd.toNat (0 : Int)) (headAtL (x_2.fst.getD x_2.snd.toNat (0 : Int)) (spotsF x.fst).fst).fst).getD x_3.snd.toNat (0 : Int))) = true → (x_3.fst.length + [(namedL x.fst (x_2.fst.getD x_2.snd.toNat (0 : Int)) (headAtL (x_2.fst.getD x_2.snd.toNat (0 : Int)) (spotsF x.fst).fst).fst).getD x_3.snd.toNat (0 : Int)].length) * (8 : Nat) ≤ big ∧ InR IntKind.i64 (x_3.snd + (1 : Int)) ∧ ((0 : Int) ≤ x_3.snd + (1 : Int) ∧ x_3.snd + (1 : Int) ≤ (↑(namedL x.fst (x_2.fst.getD x_2.snd.toNat (0 : Int)) (headAtL (x_2.fst.getD x_2.snd.toNat (0 : Int)) (spotsF x.fst).fst).fst).length : Int) ∧ x_3.fst ++ [(namedL x.fst (x_2.fst.getD x_2.snd.toNat (0 : Int)) (headAtL (x_2.fst.getD x_2.snd.toNat (0 : Int)) (spotsF x.fst).fst).fst).getD x_3.snd.toNat (0 : Int)] = List.foldl comeL x_2.fst (List.filter (fun (v : Int) => decide ((0 : Int) ≤ v)) (List.take (x_3.snd + (1 : Int)).toNat (namedL x.fst (x_2.fst.getD x_2.snd.toNat (0 : Int)) (headAtL (x_2.fst.getD x_2.snd.toNat (0 : Int)) (spotsF x.fst).fst).fst)))) ∧ ((↑(namedL x.fst (x_2.fst.getD x_2.snd.toNat (0 : Int)) (headAtL (x_2.fst.getD x_2.snd.toNat (0 : Int)) (spotsF x.fst).fst).fst).length : Int) - (x_3.snd + (1 : Int))).toNat < ((↑(namedL x.fst (x_2.fst.getD x_2.snd.toNat (0 : Int)) (headAtL (x_2.fst.getD x_2.snd.toNat (0 : Int)) (spotsF x.fst).fst).fst).length : Int) - x_3.snd).toNat) ∧ ((decide ((0 : Int) ≤ (namedL x.fst (x_2.fst.getD x_2.snd.toNat (0 : Int)) (headAtL (x_2.fst.getD x_2.snd.toNat (0 : Int)) (spotsF x.fst).fst).fst).getD x_3.snd.toNat (0 : Int)) && !inL x_3.fst ((namedL x.fst (x_2.fst.getD x_2.snd.toNat (0 : Int)) (headAtL (x_2.fst.getD x_2.snd.toNat (0 : Int)) (spotsF x.fst).fst).fst).getD x_3.snd.toNat (0 : Int))) = false → InR IntKind.i64 (x_3.snd + (1 : Int)) ∧ ((0 : Int) ≤ x_3.snd + (1 : Int) ∧ x_3.snd + (1 : Int) ≤ (↑(namedL x.fst (x_2.fst.getD x_2.snd.toNat (0 : Int)) (headAtL (x_2.fst.getD x_2.snd.toNat (0 : Int)) (spotsF x.fst).fst).fst).length : Int) ∧ x_3.fst = List.foldl comeL x_2.fst (List.filter (fun (v : Int) => decide ((0 : Int) ≤ v)) (List.take (x_3.snd + (1 : Int)).toNat (namedL x.fst (x_2.fst.getD x_2.snd.toNat (0 : Int)) (headAtL (x_2.fst.getD x_2.snd.toNat (0 : Int)) (spotsF x.fst).fst).fst)))) ∧ ((↑(namedL x.fst (x_2.fst.getD x_2.snd.toNat (0 : Int)) (headAtL (x_2.fst.getD x_2.snd.toNat (0 : Int)) (spotsF x.fst).fst).fst).length : Int) - (x_3.snd + (1 : Int))).toNat < ((↑(namedL x.fst (x_2.fst.getD x_2.snd.toNat (0 : Int)) (headAtL (x_2.fst.getD x_2.snd.toNat (0 : Int)) (spotsF x.fst).fst).fst).length : Int) - x_3.snd).toNat)) ∧ (decide (x_3.snd < (↑(namedL x.fst (x_2.fst.getD x_2.snd.toNat (0 : Int)) (headAtL (x_2.fst.getD x_2.snd.toNat (0 : Int)) (spotsF x.fst).fst).fst).length : Int)) = false → InR IntKind.i64 (x_2.snd + (1 : Int)) ∧ ((0 : Int) ≤ x_2.snd + (1 : Int) ∧ x_2.snd + (1 : Int) ≤ (↑x_3.fst.length : Int) ∧ Came x.fst x.snd x_3.fst ∧ cameN x.fst ((257 : Nat) - (x_2.snd + (1 : Int)).toNat) (x_2.snd + (1 : Int)).toNat x_3.fst = cameL x.fst x.snd) ∧ ((256 : Int) - (x_2.snd + (1 : Int))).toNat < ((256 : Int) - x_2.snd).toNat)) ∧ (decide (x_2.snd < (↑x_2.fst.length : Int)) = false → x_2.fst = cameL x.fst x.snd ∧ True))
theorem vcp_rCameTo : pv_rCameTo := by
  unfold pv_rCameTo
  intro ⟨a, f⟩ ⟨⟨hb, hw⟩, hbf, hf⟩ h
  unfold big at hb hbf
  simp only at hb hw hbf hf h ⊢
  obtain ⟨hc, hfb⟩ := fromFault_ok h
  refine ⟨⟨by omega, by omega, by simp⟩, fun ⟨o, i⟩ ⟨i0, i1, i2⟩ => ⟨fun hlt => ?_, fun hge => ?_⟩⟩
  · simp only at i0 i1 i2 hlt ⊢
    have hlt := of_decide_eq_true hlt
    have ht := take_snoc (0 : Int) i0 hlt
    have hcm : Came a f o := by rw [i2]; exact Came.first fun x hx => List.mem_of_mem_take hx
    have hol := hcm.length hw hc hfb
    have hs : (f.take (i + 1).toNat).foldl comeL [] = comeL o (f.getD i.toNat 0) := by rw [ht, comes_snoc, ← i2]
    rw [hs]
    generalize f.getD i.toNat 0 = x at *
    unfold big comeL
    simp only [InR, List.length_singleton]
    refine ⟨i0, hlt, trivial, fun hn => ?_, fun hn => ?_⟩
    · have hn : ¬ inL o x = true := by simpa using hn
      rw [if_neg hn]
      exact ⟨by omega, by omega, ⟨by omega, by omega, rfl⟩, by omega⟩
    · have hn : inL o x = true := by simpa using hn
      rw [if_pos hn]
      exact ⟨by omega, ⟨by omega, by omega, rfl⟩, by omega⟩
  simp only at i0 i1 i2 hge ⊢
  rw [take_end (of_decide_eq_false hge)] at i2
  have hcm : Came a f o := by rw [i2]; exact Came.first fun x hx => hx
  refine ⟨⟨by omega, by omega, hcm, by rw [i2]; rfl⟩, fun ⟨o2, k⟩ ⟨k0, k1, k2, k3⟩ => ⟨fun hlt => ?_, fun hge2 => ?_⟩⟩
  · clear i0 i1 i2 hge hcm
    simp only at k0 k1 k2 k3 hlt ⊢
    have hlt := of_decide_eq_true hlt
    have hm := getD_mem (0 : Int) k0 hlt
    have hol := k2.length hw hc hfb
    have hib := (k2.only _ hm).isB hw hc hfb
    have hstep : cameN a (257 - k.toNat) k.toNat o2 = cameN a (257 - (k + 1).toNat) (k + 1).toNat ((outsV (refsA a (o2.getD k.toNat 0))).foldl comeL o2) := by
      rw [show 257 - k.toNat = (257 - (k + 1).toNat) + 1 by omega, show (k + 1).toNat = k.toNat + 1 by omega]
      exact cameN_more (by omega)
    rw [hstep] at k3
    have hget : ∀ l : List Int, o2.length ≤ (l.foldl comeL o2).length := fun l => by
      obtain ⟨kk, e, _⟩ := comes_pre l o2
      rw [e]
      simp
    obtain ⟨l1, l2, l3, l4, l5, l6⟩ := objA_length hib
    have hal := (isB_spot hib).2.2.2.2
    have hrf := refs_named hw hc _ (objA_in hib).1
    have hrs : spotRefs a (o2.getD k.toNat 0, hdA a (o2.getD k.toNat 0)) = refsA a (o2.getD k.toNat 0) := rfl
    have hcms := fun l hl => k2.comes hm l hl
    have hne : namedL a (o2.getD k.toNat 0) (headAtL (o2.getD k.toNat 0) (spotsF a).1).1 = (refsA a (o2.getD k.toNat 0)).map nameOf := rfl
    rw [hne]
    clear hstep hne
    generalize o2.getD k.toNat 0 = x at *
    rw [hrs] at hrf
    have hrf2 : ∀ v ∈ refsA a x, v = 0 ∨ 1 ≤ v ∧ v ≤ 256 := fun v hv => by
      rcases hrf v hv with e | ⟨e1, e2, _⟩
      · exact .inl e
      · exact .inr ⟨e1, e2⟩
    have htk : ∀ j : Nat, (((refsA a x).map nameOf).take j).filter (fun v => decide (0 ≤ v)) = outsV ((refsA a x).take j) := fun j => by
      rw [← List.map_take]
      exact named_filter _ fun v hv => hrf2 v (List.mem_of_mem_take hv)
    simp only [htk, List.length_map]
    refine ⟨k0, hlt, by omega, trivial, ⟨by omega, by omega, by simp [outsV]⟩, fun ⟨o3, j⟩ ⟨j0, j1, j2⟩ => ⟨fun hj => ?_, fun hj => ?_⟩⟩
    · simp only at j0 j1 j2 hj ⊢
      have hj := of_decide_eq_true hj
      have ht := take_snoc (0 : Int) j0 hj
      have hv := getD_mem (0 : Int) j0 hj
      have hcm3 := hcms ((refsA a x).take j.toNat) (fun v hv => List.mem_of_mem_take hv)
      rw [← j2] at hcm3
      have hol3 := hcm3.length hw hc hfb
      have hng : ((refsA a x).map nameOf).getD j.toNat 0 = nameOf ((refsA a x).getD j.toNat 0) := by
        have hjn : j.toNat < (refsA a x).length := by omega
        simp [List.getD_eq_getElem?_getD, hjn]
      rw [hng, ht, outsV_snoc]
      have hvr := hrf2 _ hv
      generalize (refsA a x).getD j.toNat 0 = v at *
      have hnv : nameOf v = v - 1 := by unfold nameOf; rw [if_neg (by omega)]
      rw [hnv]
      unfold big
      simp only [InR, List.length_singleton]
      refine ⟨j0, hj, by omega, fun _ => trivial, fun hn => ?_, fun hn => ?_⟩
      · rw [Bool.and_eq_true] at hn
        have h0 := of_decide_eq_true hn.1
        have hi : ¬ inL o3 (v - 1) = true := by simpa using hn.2
        rw [if_neg (by omega), comes_snoc, ← j2]
        unfold comeL
        rw [if_neg hi]
        exact ⟨by omega, by omega, ⟨by omega, by omega, rfl⟩, by omega⟩
      · refine ⟨by omega, ⟨by omega, by omega, ?_⟩, by omega⟩
        by_cases hz : v = 0
        · rw [if_pos hz]; exact j2
        · rw [if_neg hz, comes_snoc, ← j2]
          rw [decide_eq_true (by omega : 0 ≤ v - 1), Bool.true_and] at hn
          have hi : inL o3 (v - 1) = true := by simpa using hn
          unfold comeL
          rw [if_pos hi]
    · simp only at j0 j1 j2 hj ⊢
      rw [take_end (of_decide_eq_false hj)] at j2
      have hgo := hget (outsV (refsA a x))
      have hcm3 := hcms (refsA a x) (fun v hv => hv)
      rw [← j2] at hgo hcm3 k3
      simp only [InR]
      exact ⟨by omega, ⟨by omega, by omega, hcm3, k3⟩, by omega⟩
  · simp only at k0 k1 k2 k3 hge2 ⊢
    rw [cameN_end (by have := of_decide_eq_false hge2; omega)] at k3
    exact ⟨k3, trivial⟩
theorem e_rCameTo : pv_rCameTo = (fnVC Try.prog (tbl [(37, sp_rIn), (59, sp_rNamed)]) an_came Try.f19 sp_rCameTo) := by kernel_rfl
theorem vc_rCameTo : fnVC Try.prog (tbl [(37, sp_rIn), (59, sp_rNamed)]) an_came Try.f19 sp_rCameTo := @Eq.mp _ _ @e_rCameTo @vcp_rCameTo
theorem ok_rCameTo : sp_rCameTo.ok Try.prog 19 := fn_sound (P := Try.prog) (ss := tbl [(37, sp_rIn), (59, sp_rNamed)]) (ann := an_came) (f := 19) (fn := Try.f19) (s := sp_rCameTo) (tbl_cons ok_rIn (tbl_cons ok_rNamed tbl_nil)) Try.func19 @vc_rCameTo

end Go.Proofs.Ytbidboeemnlglaa
