
import Derived.Test.YtcnoiiohmpgckaaRowSort
import Derived.Shelf.Spec.SlicesInsert
import Derived.Shelf.Spec.SlicesInsertGrow
import Derived.Laws.AppendOwn
import Derived.Maps.AppendAt
import Derived.Deep.Upon
namespace Go.Proofs.Ytcnoiiohmpgckaa
open Go
def laysInsert_ren : Go.Shelf.Ren := ⟨fun | 21 => 166 | 27 => 199 | 28 => 200 | 35 => 211 | 39 => 213 | n => n, fun | 22 => 56 | 3 => 3 | 4 => 4 | 0 => 0 | n => n, fun | n => n⟩
theorem laysInsert : Go.Proofs.Lays2.n21 Try.prog laysInsert_ren where
  mixed := by kernel_rfl
  f21 := Try.func166.trans (congrArg some (by kernel_rfl))
  f27 := Try.func199.trans (congrArg some (by kernel_rfl))
  f28 := Try.func200.trans (congrArg some (by kernel_rfl))
  f35 := Try.func211.trans (congrArg some (by kernel_rfl))
  f39 := Try.func213.trans (congrArg some (by kernel_rfl))
  t0 := Try.underlying0
  a0 := Try.isAgg0
  z0 := Try.sizeOf0
  v0 := Try.zeroValue0
  t3 := Try.underlying3
  a3 := Try.isAgg3
  z3 := Try.sizeOf3
  v3 := Try.zeroValue3
  t4 := Try.underlying4
  a4 := Try.isAgg4
  z4 := Try.sizeOf4
  v4 := Try.zeroValue4
  t22 := Try.underlying56
  a22 := Try.isAgg56
  z22 := Try.sizeOf56
  v22 := Try.zeroValue56
  i3 := by kernel_rfl
theorem heap_setCells_row {t : TypeId} (g : Nat) : ∀ (vs : List Value) (o : Nat) (w : World) (cur : Array Value), w.heap[g]? = some (.cells cur t (0, 0)) → o + vs.length ≤ cur.size →
    (w.setCells g o vs).heap[g]? = some (.cells (cur.toList.take o ++ vs ++ cur.toList.drop (o + vs.length)).toArray t (0, 0))
  | [], o, w, cur, h, _ => by simp [World.setCells, h]
  | v :: vs, o, w, cur, h, hl => by
    have h1 : (w.setCell ⟨g, o, none⟩ v).heap[g]? = some (.cells (cur.setIfInBounds o v) t (0, 0)) := by
      have hlt : g < w.heap.size := (Array.getElem?_eq_some_iff.1 h).1
      have hv : w.heap[g] = .cells cur t (0, 0) := (Array.getElem?_eq_some_iff.1 h).2
      show (w.heap.modify g _)[g]? = _
      rw [Array.getElem?_eq_getElem (by rw [Array.size_modify]; exact hlt), Array.getElem_modify_self, hv]
      rfl
    have hl' : o + 1 + vs.length ≤ (cur.setIfInBounds o v).size := by simp at hl ⊢; omega
    rw [World.setCells, heap_setCells_row g vs (o + 1) _ _ h1 hl']
    have ho : o < cur.toList.length := by simp at hl ⊢; omega
    congr 3
    rw [Array.toList_setIfInBounds, List.drop_set_of_lt (by omega), List.take_succ_eq_append_getElem (by simpa using ho), List.take_set_of_le (Nat.le_refl _)]
    simp [Nat.add_comm 1, Nat.add_assoc]
theorem grownBy_setCells (g : Nat) : ∀ (vs : List Value) (o : Nat) (w : World), w.grownBy (w.setCells g o vs) (some g)
  | [], _, w => World.grownBy.refl _ _
  | v :: vs, o, w => by
    have h1 : w.grownBy (w.setCell ⟨g, o, none⟩ v) (some g) := ⟨rfl, rfl, rfl, by simp [World.setCell], fun i hi hne => by
      have : i ≠ g := fun e => hne (by rw [e])
      show (w.heap.modify g _)[i]? = _
      rw [Array.getElem?_modify, if_neg (Ne.symm this)]⟩
    exact h1.trans (grownBy_setCells g vs (o + 1) _)
theorem grown_drew' (w : World) (row : Option Nat) : w.grownBy w.drew row := ⟨rfl, rfl, rfl, Nat.le_refl _, fun _ _ _ => rfl⟩
theorem grown_alloc' (w : World) (o : Go.Obj) (row : Option Nat) : w.grownBy (w.alloc o) row := ⟨rfl, rfl, rfl, by simp, fun k hk _ => heap_alloc_old w o hk⟩
theorem grown_new {w w1 w2 : World} {N : Nat} {row : Option Nat} (h : w.grownBy w1 row) (k : w1.grownBy w2 (some N)) (hN : w.heap.size ≤ N) : w.grownBy w2 row :=
  ⟨k.os.trans h.os, k.tape.trans h.tape, k.output.trans h.output, Nat.le_trans h.size k.size, fun i hi hne => (k.block i (Nat.lt_of_lt_of_le hi h.size) (fun e => by injection e; omega)).trans (h.block i hi hne)⟩
theorem oneI (xs : List Int) : ∀ v ∈ xs.map (Value.int .i64), v.oneCell' = true := by
  intro v hv
  obtain ⟨x, _, rfl⟩ := List.mem_map.1 hv
  rfl
theorem ins_new {c0 l l2 : List Value} {k m n : Nat} (h0 : c0.take k = l.take k) (hl : l.length = n) (hl2 : l2.length = m) (hk : k ≤ n) (hG : n + m ≤ c0.length) :
    (c0.take k ++ l2 ++ c0.drop (k + m)).length = c0.length ∧
    ((c0.take k ++ l2 ++ c0.drop (k + m)).take (k + m) ++ l.drop k ++ (c0.take k ++ l2 ++ c0.drop (k + m)).drop (k + m + (l.drop k).length)).length = c0.length ∧
    ((c0.take k ++ l2 ++ c0.drop (k + m)).take (k + m) ++ l.drop k ++ (c0.take k ++ l2 ++ c0.drop (k + m)).drop (k + m + (l.drop k).length)).take (n + m) = l.take k ++ l2 ++ l.drop k := by
  have e1 : (c0.take k ++ l2 ++ c0.drop (k + m)).length = c0.length := by simp; omega
  have e2 : (c0.take k ++ l2 ++ c0.drop (k + m)).take (k + m) = l.take k ++ l2 := by
    rw [List.take_append_of_le_length (by simp; omega), List.take_of_length_le (by simp; omega), h0]
  refine ⟨e1, ?_, ?_⟩
  · rw [e2]; simp; omega
  · rw [e2, List.take_append_of_le_length (by simp; omega), List.take_of_length_le (by simp; omega)]
def insL (xs ys : List Int) (i : Int) : List Int := xs.take i.toNat ++ ys ++ xs.drop i.toNat
def sp_insI : RowFn := { e := 3, T := ty_I, Ts := [ty_I], out := true, tail := true, pre := fun (xs : List Int) (ys : List Int) (i : Int) => 0 < ys.length ∧ 0 ≤ i ∧ i ≤ xs.length ∧ (xs.length + ys.length) * 8 ≤ big, F := fun (xs : List Int) (ys : List Int) (i : Int) => insL xs ys i }
theorem ok_insI : sp_insI.ok Try.prog 166 := by
  intro p w v (xs : List Int) l v2 (ys : List Int) l2 vs (i : Int) hA hown hl hbig hp hown2 hl2 hne hargs hpre
  obtain ⟨hm, hi0, hi1, hb⟩ : 0 < ys.length ∧ 0 ≤ i ∧ i ≤ xs.length ∧ (xs.length + ys.length) * 8 ≤ big := hpre
  obtain ⟨v1, rfl, hv1⟩ := hargs
  have hv1 : [v1] = [Value.int .i64 i] ∧ InR .i64 i := hv1
  obtain ⟨hv1, _⟩ := hv1
  injection hv1 with hv1
  subst hv1
  obtain ⟨k, rfl⟩ : ∃ k : Nat, i = k := ⟨i.toNat, by omega⟩
  have hk : k ≤ xs.length := by omega
  obtain ⟨el, hin⟩ := rowInts hl
  obtain ⟨el2, hin2⟩ := rowInts hl2
  have hown' : w.ownsRow 0 3 1 v xs.length l := hown
  have hown2' : w.ownsRow 0 3 1 v2 ys.length l2 := hown2
  have hlen : l.length = xs.length := by rw [el]; simp
  have hlen2 : l2.length = ys.length := by rw [el2]; simp
  have h1l : ∀ v ∈ l, v.oneCell' = true := by rw [el]; exact oneI xs
  have h1l2 : ∀ v ∈ l2, v.oneCell' = true := by rw [el2]; exact oneI ys
  have eF : (sp_insI.F xs ys (k : Int) : List Int) = xs.take k ++ ys ++ xs.drop k := by show insL xs ys k = _; simp [insL]
  have hFl : (xs.take k ++ ys ++ xs.drop k).length = xs.length + ys.length := by simp; omega
  have hrow : rowHold (ty_I.holds p) (xs.take k ++ ys ++ xs.drop k) ((xs.take k ++ ys ++ xs.drop k).map (Value.int .i64)) := rowOfInts (fun y hy => by
    rcases List.mem_append.1 hy with hy | hy
    · rcases List.mem_append.1 hy with hy | hy
      · exact hin y (List.mem_of_mem_take hy)
      · exact hin2 y hy
    · exact hin y (List.mem_of_mem_drop hy))
  have emap : (xs.take k ++ ys ++ xs.drop k).map (Value.int .i64) = l.take k ++ l2 ++ l.drop k := by rw [el, el2]; simp [List.map_take, List.map_drop]
  have hb8 : (xs.take k ++ ys ++ xs.drop k).length * 8 ≤ big := by rw [hFl]; exact hb
  have hbn : (xs.length + ys.length) * 8 ≤ 140737488355328 := hb
  have done : ∀ (v' : Value) (w' : World) (e : Ending), e = .returned v' → w.grownBy w' v.ownBlock → w'.ownsRow 0 3 1 v' (xs.length + ys.length) (l.take k ++ l2 ++ l.drop k) → (∀ b, v'.ownBlock = some b → v.ownBlock = some b ∨ w.heap.size ≤ b) →
      ∃ (v' : Value) (l' : List Value), e = .returned (if sp_insI.out then v' else .tuple #[]) ∧ (sp_insI.out = false → v' = v) ∧ w.grownBy w' v.ownBlock ∧
      w'.ownsRow 0 sp_insI.e sp_insI.T.size v' (sp_insI.F xs ys (k : Int) : List Int).length l' ∧ rowHold (sp_insI.T.holds p) (sp_insI.F xs ys (k : Int)) l' ∧ (sp_insI.F xs ys (k : Int) : List Int).length * sp_insI.T.bytes ≤ big ∧
      ∀ b, v'.ownBlock = some b → v.ownBlock = some b ∨ w.heap.size ≤ b := by
    intro v' w' e he hg ho hbk
    rw [eF]
    refine ⟨v', _, he, fun h => (by cases h), hg, ?_, hrow, hb8, hbk⟩
    have ho2 : w'.ownsRow 0 3 1 v' (xs.take k ++ ys ++ xs.drop k).length ((xs.take k ++ ys ++ xs.drop k).map (Value.int .i64)) := by
      rw [hFl, emap]
      exact ho
    exact ho2
  rcases hown2'.2 with ⟨_, h0⟩ | ⟨g2, cap2, cur2, rfl, _, hb2, h21, h22, h23, h24⟩
  · omega
  have hvs : ∀ (j : Nat) (u : Value), l2[j]? = some u → w.cell? ⟨g2, 0 + j, none⟩ = some u := by
    intro j u hj
    have : cur2.toList[j]? = some u := by
      rw [← h24, List.getElem?_take] at hj
      split at hj
      · exact hj
      · cases hj
    simp only [World.cell?, hb2, Nat.zero_add]
    simpa using this
  have new : ∀ (G : Nat) (W : World) (cs : List Value), W.heap[w.heap.size]? = some (.cells cs.toArray 3 (0, 0)) → xs.length + ys.length ≤ G → G ≤ maxLen → cs.length = G → cs.take (xs.length + ys.length) = l.take k ++ l2 ++ l.drop k →
      W.ownsRow 0 3 1 (.slice (some ⟨w.heap.size, 0, none⟩) (xs.length + ys.length) G) (xs.length + ys.length) (l.take k ++ l2 ++ l.drop k) := by
    intro G W cs hW h1 h2 h3 h4
    refine ⟨by simp [hlen, hlen2]; omega, .inr ⟨w.heap.size, G, _, rfl, Nat.zero_le _, hW, h1, h2, by simp [h3], ?_⟩⟩
    rw [Nat.mul_one]
    exact h4
  have hz : (Value.int .i64 0).cells.size = 1 := rfl
  rcases hown'.2 with ⟨rfl, h0⟩ | ⟨g, cap, cur, rfl, _, hbg, h1, h2, h3, h4⟩
  ·
    have hx : l = [] := List.eq_nil_of_length_eq_zero (by omega)
    have hk0 : k = 0 := by omega
    subst hk0 hx
    refine (Any2.slices_Insert_int_end_grow laysInsert none 0 0 g2 0 ys.length cap2 [] l2 w hm (Nat.le_refl _) (by omega) (by omega) rfl hlen2 (fun _ => rfl) (fun a h => by cases h) hvs h1l2).mono ?_
    rintro e w' ⟨rfl, rfl⟩
    show ∃ (v' : Value) (l' : List Value), Ending.returned (.slice (some ⟨w.heap.size, 0, none⟩) (0 + ys.length) (grownCap w (0 + ys.length) 0 3)) = _ ∧ _ ∧ w.grownBy (w.drew.alloc (.cells (([] ++ l2).toArray ++ Builtin.zeroCells (Value.int .i64 0).cells (grownCap w (0 + ys.length) 0 3 - (0 + ys.length))) 3)) _ ∧ (w.drew.alloc (.cells (([] ++ l2).toArray ++ Builtin.zeroCells (Value.int .i64 0).cells (grownCap w (0 + ys.length) 0 3 - (0 + ys.length))) 3)).ownsRow _ _ _ _ _ _ ∧ _
    have hge := grownCap_ge w (0 + ys.length) 0 3
    have hle := grownCap_le_maxLen w (0 + ys.length) 0 3 (by unfold maxLen; omega)
    generalize grownCap w (0 + ys.length) 0 3 = G at *
    have hnew := new G (w.drew.alloc (.cells (([] ++ l2).toArray ++ Builtin.zeroCells (Value.int .i64 0).cells (G - (0 + ys.length))) 3)) (l2 ++ (Builtin.zeroCells (Value.int .i64 0).cells (G - (0 + ys.length))).toList) (by rw [show w.heap.size = w.drew.heap.size from rfl, heap_alloc_new]; simp) (by omega) hle (by simp [size_zeroCells, hz, hlen2]; omega) (by rw [h0, Nat.zero_add, ← hlen2]; simp)
    refine done _ _ _ rfl ((grown_drew' w _).trans (grown_alloc' _ _ _)) ?_ (fun b h => .inr (by have h : some w.heap.size = some b := h; injection h with h; omega))
    rw [h0] at hnew ⊢
    exact hnew
  have h3 : cur.size = cap := by rw [h3, Nat.mul_one]
  have h4 : cur.toList.take xs.length = l := by rw [Nat.mul_one] at h4; exact h4
  have hgs : g < w.heap.size := (Array.getElem?_eq_some_iff.1 hbg).1
  have hcs : ∀ (j : Nat) (u : Value), l[j]? = some u → w.cell? ⟨g, 0 + j, none⟩ = some u := by
    intro j u hj
    have : cur.toList[j]? = some u := by
      rw [← h4, List.getElem?_take] at hj
      split at hj
      · exact hj
      · cases hj
    simp only [World.cell?, hbg, Nat.zero_add]
    simpa using this
  have hvb : g2 ≠ g := fun e => hne g rfl (by rw [e]; rfl)
  have hfz : ∀ j, w.frozen? ⟨g, j, none⟩ = false := fun j => by simp [World.frozen?, hbg]
  have hfz2 : ∀ j, w.frozen? ⟨g2, j, none⟩ = false := fun j => by simp [World.frozen?, hb2]
  have hsp : ∀ j, j < cap → (w.cell? ⟨g, j, none⟩).isSome = true := fun j hj => by
    simp only [World.cell?, hbg]
    simp [h3, hj]
  have hcap : cap ≤ 9223372036854775807 := by unfold maxLen at h2; omega
  have grow0 := grownCap_ge w (xs.length + ys.length) cap 3
  have growM := grownCap_le_maxLen w (xs.length + ys.length) cap 3 (by unfold maxLen; omega)
  by_cases hroom : xs.length + ys.length ≤ cap
  ·
    have fin : ∀ (W : World) (cs : List Value), w.grownBy W (some g) → W.heap[g]? = some (.cells cs.toArray 3 (0, 0)) → cs.length = cap → cs.take (xs.length + ys.length) = l.take k ++ l2 ++ l.drop k →
        ∃ (v' : Value) (l' : List Value), Ending.returned (.slice (some ⟨g, 0, none⟩) (xs.length + ys.length) cap) = .returned (if sp_insI.out then v' else .tuple #[]) ∧ (sp_insI.out = false → v' = .slice (some ⟨g, 0, none⟩) xs.length cap) ∧ w.grownBy W (Value.slice (some ⟨g, 0, none⟩) xs.length cap).ownBlock ∧
        W.ownsRow 0 sp_insI.e sp_insI.T.size v' (sp_insI.F xs ys (k : Int) : List Int).length l' ∧ rowHold (sp_insI.T.holds p) (sp_insI.F xs ys (k : Int)) l' ∧ (sp_insI.F xs ys (k : Int) : List Int).length * sp_insI.T.bytes ≤ big ∧
        ∀ b, v'.ownBlock = some b → (Value.slice (some ⟨g, 0, none⟩) xs.length cap).ownBlock = some b ∨ w.heap.size ≤ b := by
      intro W cs hgW hW hcl ht
      refine done _ _ _ rfl hgW ⟨by simp [hlen, hlen2]; omega, .inr ⟨g, cap, _, rfl, Nat.zero_le _, hW, hroom, h2, by simp [hcl], ?_⟩⟩ (fun b h => .inl h)
      rw [Nat.mul_one]
      exact ht
    have hlc : cur.toList.length = cap := by simpa using h3
    by_cases hkn : k = xs.length
    · subst hkn
      refine (Any2.slices_Insert_int_end_room laysInsert g 0 xs.length cap g2 0 ys.length cap2 l2 w hm hroom hcap hlen2 (fun j hj => by rw [Nat.zero_add]; exact hsp _ (by omega)) (fun j _ => hfz _) hvs h1l2).mono ?_
      rintro e w' ⟨rfl, rfl⟩
      have hh := heap_setCells_row g l2 (0 + xs.length) w cur hbg (by omega)
      refine fin _ _ (grownBy_setCells g l2 _ w) hh (by simp; omega) ?_
      rw [Nat.zero_add, h4, List.append_assoc, ← List.append_assoc, List.take_append_of_le_length (by simp; omega), List.take_of_length_le (by simp; omega), List.take_of_length_le (by omega), List.drop_of_length_le (by omega), List.append_nil]
    · refine (Any2.slices_Insert_int_shift laysInsert g 0 xs.length cap k g2 0 ys.length cap2 l l2 w (by omega) hm hroom hcap hvb hlen hlen2 hcs (fun j hj => by rw [Nat.zero_add]; exact hsp _ (by omega)) (fun j _ => by rw [Nat.zero_add]; exact hfz _) hvs h1l h1l2 3 3 cur2.size cur.size (by simp [World.shape?, hb2]) (by simp [World.shape?, hbg]) (by omega) (hfz2 _) (hfz2 _)).mono ?_
      rintro e w' ⟨rfl, rfl⟩
      have hh1 := heap_setCells_row g (l.drop k) (0 + (k + ys.length)) w.drew cur hbg (by simp; omega)
      have hh2 := heap_setCells_row g l2 (0 + k) _ _ hh1 (by simp; omega)
      refine fin _ _ (((grown_drew' w _).trans (grownBy_setCells g _ _ _)).trans (grownBy_setCells g _ _ _)) hh2 (by simp; omega) ?_
      have e1 : (cur.toList.take (k + ys.length) ++ l.drop k ++ cur.toList.drop (k + ys.length + (l.drop k).length)).take k = l.take k := by
        rw [List.append_assoc, List.take_append_of_le_length (by simp; omega), List.take_take, Nat.min_eq_left (by omega), ← h4, List.take_take, Nat.min_eq_left hk]
      have e2 : (cur.toList.take (k + ys.length) ++ l.drop k ++ cur.toList.drop (k + ys.length + (l.drop k).length)).drop (k + ys.length) = l.drop k ++ cur.toList.drop (k + ys.length + (l.drop k).length) := by
        rw [List.append_assoc, List.drop_append_of_le_length (by simp; omega), List.drop_of_length_le (by simp; omega), List.nil_append]
      simp only [Nat.zero_add, List.toList_toArray, hlen2]
      rw [e1, e2, ← List.append_assoc, List.take_append_of_le_length (by simp; omega), List.take_of_length_le (by simp; omega)]
  ·
    have hroom : cap < xs.length + ys.length := by omega
    by_cases hkn : k = xs.length
    · subst hkn
      refine (Any2.slices_Insert_int_end_grow laysInsert (some ⟨g, 0, none⟩) xs.length cap g2 0 ys.length cap2 l l2 w hm h1 hroom hbn hlen hlen2 (fun h => by cases h) (fun a h j u hj => by
        injection h with h
        subst h
        have := hcs j u hj
        simpa [Addr.add_lit] using this) hvs h1l2).mono ?_
      rintro e w' ⟨rfl, rfl⟩
      show ∃ (v' : Value) (l' : List Value), Ending.returned (.slice (some ⟨w.heap.size, 0, none⟩) (xs.length + ys.length) (grownCap w (xs.length + ys.length) cap 3)) = _ ∧ _ ∧ w.grownBy (w.drew.alloc (.cells ((l ++ l2).toArray ++ Builtin.zeroCells (Value.int .i64 0).cells (grownCap w (xs.length + ys.length) cap 3 - (xs.length + ys.length))) 3)) _ ∧ (w.drew.alloc (.cells ((l ++ l2).toArray ++ Builtin.zeroCells (Value.int .i64 0).cells (grownCap w (xs.length + ys.length) cap 3 - (xs.length + ys.length))) 3)).ownsRow _ _ _ _ _ _ ∧ _
      refine done _ _ _ rfl ((grown_drew' w _).trans (grown_alloc' _ _ _)) ?_ (fun b h => .inr (by have h : some w.heap.size = some b := h; injection h with h; omega))
      refine new _ _ ((l ++ l2) ++ (Builtin.zeroCells (Value.int .i64 0).cells (grownCap w (xs.length + ys.length) cap 3 - (xs.length + ys.length))).toList) (by rw [show w.heap.size = w.drew.heap.size from rfl, heap_alloc_new]; simp) grow0 growM (by simp [size_zeroCells, hz, hlen, hlen2]; omega) ?_
      rw [List.take_append_of_le_length (by simp; omega), List.take_of_length_le (by simp; omega), List.take_of_length_le (by omega), List.drop_of_length_le (by omega), List.append_nil]
    · refine (Any2.slices_Insert_int_grow laysInsert g 0 xs.length cap k g2 0 ys.length cap2 l l2 w (by omega) hm h1 hroom hbn hlen hlen2 hcs hvs h1l h1l2).mono ?_
      rintro e w' ⟨rfl, rfl⟩
      show ∃ (v' : Value) (l' : List Value), Ending.returned (.slice (some ⟨w.heap.size, 0, none⟩) (xs.length + ys.length) (grownCap w (xs.length + ys.length) cap 3)) = _ ∧ _ ∧ w.grownBy ((((w.alloc (.cells ((l.take k).toArray ++ Builtin.zeroCells (Value.int .i64 0).cells (xs.length + ys.length - k) ++ Builtin.zeroCells (Value.int .i64 0).cells (grownCap w (xs.length + ys.length) cap 3 - (xs.length + ys.length))) 3)).drew.setCells w.heap.size k l2).drew).setCells w.heap.size (k + ys.length) (l.drop k)) _ ∧ ((((w.alloc (.cells ((l.take k).toArray ++ Builtin.zeroCells (Value.int .i64 0).cells (xs.length + ys.length - k) ++ Builtin.zeroCells (Value.int .i64 0).cells (grownCap w (xs.length + ys.length) cap 3 - (xs.length + ys.length))) 3)).drew.setCells w.heap.size k l2).drew).setCells w.heap.size (k + ys.length) (l.drop k)).ownsRow _ _ _ _ _ _ ∧ _
      generalize hAd : (l.take k).toArray ++ Builtin.zeroCells (Value.int .i64 0).cells (xs.length + ys.length - k) ++ Builtin.zeroCells (Value.int .i64 0).cells (grownCap w (xs.length + ys.length) cap 3 - (xs.length + ys.length)) = A
      have hAl : A.toList = l.take k ++ ((Builtin.zeroCells (Value.int .i64 0).cells (xs.length + ys.length - k)).toList ++ (Builtin.zeroCells (Value.int .i64 0).cells (grownCap w (xs.length + ys.length) cap 3 - (xs.length + ys.length))).toList) := by rw [← hAd]; simp
      have hAn : A.toList.length = grownCap w (xs.length + ys.length) cap 3 := by rw [hAl]; simp [size_zeroCells, hz, hlen]; omega
      have hAk : A.toList.take k = l.take k := by
        rw [hAl, List.take_append_of_le_length (by simp; omega), List.take_take, Nat.min_self]
      obtain ⟨q1, q2, q3⟩ := ins_new (c0 := A.toList) hAk hlen hlen2 hk (by omega)
      have hc0 : (w.alloc (.cells A 3)).heap[w.heap.size]? = some (.cells A 3 (0, 0)) := heap_alloc_new w _
      have hAs : A.size = grownCap w (xs.length + ys.length) cap 3 := by simpa using hAn
      have hh1 := heap_setCells_row w.heap.size l2 k (w.alloc (.cells A 3)).drew A hc0 (by omega)
      rw [hlen2] at hh1
      have hh2 := heap_setCells_row w.heap.size (l.drop k) (k + ys.length) (((w.alloc (.cells A 3)).drew.setCells w.heap.size k l2).drew) _ hh1 (by rw [List.size_toArray, q1, hAn]; simp; omega)
      refine done _ _ _ rfl (grown_new ((grown_new ((grown_alloc' w _ _).trans (grown_drew' _ _)) (grownBy_setCells _ _ _ _) (Nat.le_refl _)).trans (grown_drew' _ _)) (grownBy_setCells _ _ _ _) (Nat.le_refl _)) (new _ _ _ hh2 grow0 growM (by rw [← hAn]; exact q2) q3) (fun b h => .inr (by have h : some w.heap.size = some b := h; injection h with h; omega))
end Go.Proofs.Ytcnoiiohmpgckaa
