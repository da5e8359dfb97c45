/- slices.Sort and slices.Compact at []int, out of the library's shelf, as contracts of functions that turn a row. -/
import Derived.Test.YtbidboeemnlglaaBase
import Derived.Shelf.Sort.Plain
import Derived.Shelf.Slices.In.SortNone
import Derived.Shelf.Slices.CompactI
import Derived.Sort.OwnSortedInts
namespace Go.Proofs.Ytbidboeemnlglaa
open Go

def laysSort_ren : Go.Shelf.Ren := ⟨fun | 189 => 98 | 125 => 146 | 257 => 145 | 128 => 183 | 129 => 184 | 294 => 174 | 295 => 175 | 296 => 176 | 297 => 177 | 298 => 178 | 299 => 179 | 216 => 180 | 300 => 181 | 301 => 182 | 328 => 213 | 329 => 214 | 330 => 215 | 331 => 216 | 332 => 217 | 215 => 218 | 343 => 228 | n => n, fun | 28 => 23 | 3 => 3 | 46 => 204 | 0 => 0 | 51 => 227 | 53 => 46 | 4 => 4 | 183 => 243 | 182 => 242 | 131 => 221 | 5 => 5 | 9 => 9 | 218 => 272 | 222 => 275 | 228 => 283 | 229 => 284 | n => n, fun | n => n⟩
theorem laysSort : Go.Proofs.Lays.n189 Try.prog laysSort_ren where
  mixed := by kernel_rfl
  f125 := Try.func146.trans (congrArg some (by kernel_rfl))
  f128 := Try.func183.trans (congrArg some (by kernel_rfl))
  f129 := Try.func184.trans (congrArg some (by kernel_rfl))
  f189 := Try.func98.trans (congrArg some (by kernel_rfl))
  f215 := Try.func218.trans (congrArg some (by kernel_rfl))
  f216 := Try.func180.trans (congrArg some (by kernel_rfl))
  f257 := Try.func145.trans (congrArg some (by kernel_rfl))
  f294 := Try.func174.trans (congrArg some (by kernel_rfl))
  f295 := Try.func175.trans (congrArg some (by kernel_rfl))
  f296 := Try.func176.trans (congrArg some (by kernel_rfl))
  f297 := Try.func177.trans (congrArg some (by kernel_rfl))
  f298 := Try.func178.trans (congrArg some (by kernel_rfl))
  f299 := Try.func179.trans (congrArg some (by kernel_rfl))
  f300 := Try.func181.trans (congrArg some (by kernel_rfl))
  f301 := Try.func182.trans (congrArg some (by kernel_rfl))
  f328 := Try.func213.trans (congrArg some (by kernel_rfl))
  f329 := Try.func214.trans (congrArg some (by kernel_rfl))
  f330 := Try.func215.trans (congrArg some (by kernel_rfl))
  f331 := Try.func216.trans (congrArg some (by kernel_rfl))
  f332 := Try.func217.trans (congrArg some (by kernel_rfl))
  f343 := Try.func228.trans (congrArg some (by kernel_rfl))
  t0 := Try.underlying0
  a0 := Try.isAgg0
  z0 := Try.sizeOf0
  v0 := Try.zeroValue0
  t3 := Try.underlying3
  a3 := Try.isAgg3
  z3 := Try.sizeOf3
  v3 := Try.zeroValue3
  t4 := Try.underlying4
  a4 := Try.isAgg4
  z4 := Try.sizeOf4
  v4 := Try.zeroValue4
  t5 := Try.underlying5
  a5 := Try.isAgg5
  z5 := Try.sizeOf5
  v5 := Try.zeroValue5
  t9 := Try.underlying9
  a9 := Try.isAgg9
  z9 := Try.sizeOf9
  v9 := Try.zeroValue9
  t28 := Try.underlying23
  a28 := Try.isAgg23
  z28 := Try.sizeOf23
  v28 := Try.zeroValue23
  t46 := Try.underlying204
  a46 := Try.isAgg204
  z46 := Try.sizeOf204
  v46 := Try.zeroValue204
  t51 := Try.underlying227
  a51 := Try.isAgg227
  z51 := Try.sizeOf227
  v51 := Try.zeroValue227
  t53 := Try.underlying46
  a53 := Try.isAgg46
  z53 := Try.sizeOf46
  v53 := Try.zeroValue46
  t131 := Try.underlying221
  a131 := Try.isAgg221
  z131 := Try.sizeOf221
  v131 := Try.zeroValue221
  t182 := Try.underlying242
  a182 := Try.isAgg242
  z182 := Try.sizeOf242
  v182 := Try.zeroValue242
  t183 := Try.underlying243
  a183 := Try.isAgg243
  z183 := Try.sizeOf243
  v183 := Try.zeroValue243
  t218 := Try.underlying272
  a218 := Try.isAgg272
  z218 := Try.sizeOf272
  v218 := Try.zeroValue272
  t222 := Try.underlying275
  a222 := Try.isAgg275
  z222 := Try.sizeOf275
  v222 := Try.zeroValue275
  t228 := Try.underlying283
  a228 := Try.isAgg283
  z228 := Try.sizeOf283
  v228 := Try.zeroValue283
  t229 := Try.underlying284
  a229 := Try.isAgg284
  z229 := Try.sizeOf284
  v229 := Try.zeroValue284

def laysCompact_ren : Go.Shelf.Ren := ⟨fun | 20 => 82 | n => n, fun | 22 => 23 | 3 => 3 | 4 => 4 | 0 => 0 | n => n, fun | n => n⟩
theorem laysCompact : Go.Proofs.Lays2.n20 Try.prog laysCompact_ren where
  mixed := by kernel_rfl
  f20 := Try.func82.trans (congrArg some (by kernel_rfl))
  t0 := Try.underlying0
  a0 := Try.isAgg0
  z0 := Try.sizeOf0
  v0 := Try.zeroValue0
  t3 := Try.underlying3
  a3 := Try.isAgg3
  z3 := Try.sizeOf3
  v3 := Try.zeroValue3
  t4 := Try.underlying4
  a4 := Try.isAgg4
  z4 := Try.sizeOf4
  v4 := Try.zeroValue4
  t22 := Try.underlying23
  a22 := Try.isAgg23
  z22 := Try.sizeOf23
  v22 := Try.zeroValue23
  i3 := by kernel_rfl

theorem rowInts {p : PH} : ∀ {xs : List Int} {l : List Value}, rowHold (ty_I.holds p) xs l → l = xs.map (Value.int .i64) ∧ ∀ x ∈ xs, InR .i64 x
  | [], l, h => ⟨h, by simp⟩
  | x :: xs, l, ⟨c1, c2, e, h1, h2⟩ => by
    obtain ⟨e2, h3⟩ := rowInts h2
    obtain ⟨e1, h4⟩ := h1
    subst e1 e2 e
    refine ⟨rfl, fun y hy => ?_⟩
    rcases List.mem_cons.1 hy with rfl | hy
    · exact h4
    · exact h3 y hy

theorem rowOfInts {p : PH} : ∀ {xs : List Int}, (∀ x ∈ xs, InR .i64 x) → rowHold (ty_I.holds p) xs (xs.map (Value.int .i64))
  | [], _ => rfl
  | x :: xs, h => ⟨[.int .i64 x], xs.map (Value.int .i64), rfl, ⟨rfl, h x (by simp)⟩, rowOfInts (fun y hy => h y (by simp [hy]))⟩

def sortI (xs : List Int) : List Int := xs.mergeSort fun x y => decide (x ≤ y)

def sp_sortI : RowFn := { e := 3, T := ty_I, Ts := [], out := false, pre := fun _ _ _ => True, F := fun xs _ _ => sortI xs }


theorem ok_sortI : sp_sortI.ok Try.prog 98 := by
  intro p w v (xs : List Int) l v2 (ys : List Int) l2 vs x hA hown hl hbig hp _ _ _ hargs _
  have hvs : vs = [] := hargs
  subst hvs
  obtain ⟨el, hin⟩ := rowInts hl
  have hown' : w.ownsRow 0 3 1 v xs.length l := hown
  have h8 : xs.length * 8 ≤ big := hbig
  have hlen : (sortI xs).length = xs.length := List.length_mergeSort _
  rcases hown'.2 with ⟨rfl, h0⟩ | ⟨g, cap, cur, rfl, _, hb, h1, h2, h3, h4⟩
  · have hx : xs = [] := List.eq_nil_of_length_eq_zero h0
    subst hx
    refine (Any.slices_Sort_int_none laysSort none 0 w).mono ?_
    rintro e w' ⟨rfl, rfl⟩
    have e0 : sp_sortI.F ([] : List Int) ys x = ([] : List Int) := by show sortI [] = []; simp [sortI]
    rw [e0]
    exact ⟨_, l, rfl, fun _ => rfl, World.grownBy.refl _ _, hown, hl, hbig, fun b h => .inl h⟩
  · have hg : g < w.heap.size := (Array.getElem?_eq_some_iff.1 hb).1
    refine (Any.slices_Sort_int laysSort g 0 cap xs w (holds_of_blockI hb (by rw [Nat.mul_one] at h4; rw [h4, el])) hg (by simp only [big] at h8; omega)).mono ?_
    rintro e w' ⟨rfl, n, os, rfl⟩
    refine ⟨_, (sortI xs).map (Value.int .i64), rfl, fun _ => rfl, grownBy_sortedI _, ?_, rowOfInts (fun y hy => hin y (List.mem_mergeSort.1 hy)), ?_, fun b h => .inl h⟩
    · have := ownsRow_sortedI (n := n) (os := os) (ss := xs) (ts := sortI xs) hlen (Nat.zero_le _) hb h1 h2 h3
      show World.ownsRow _ 0 3 1 _ (sortI xs).length _
      rw [hlen]
      exact this
    · show (sortI xs).length * 8 ≤ big
      rw [hlen]
      exact h8

theorem compact_len (xs : List Int) : (Lib.compact xs).length ≤ xs.length := by
  unfold Lib.compact Lib.compactUpTo
  rw [List.length_map]
  refine Nat.le_trans (List.length_filter_le _ _) ?_
  simp

theorem compact_mem (xs : List Int) (y : Int) (hy : y ∈ Lib.compact xs) : y ∈ xs := by
  unfold Lib.compact Lib.compactUpTo at hy
  obtain ⟨j, hj, rfl⟩ := List.mem_map.1 hy
  have hj2 : j < xs.length := by
    have := (List.mem_filter.1 hj).1
    simpa using this
  simp [hj2]

def compactI (xs : List Int) : List Int := Lib.compact xs

def sp_compactI : RowFn := { e := 3, T := ty_I, Ts := [], out := true, pre := fun _ _ _ => True, F := fun xs _ _ => compactI xs }


theorem ok_compactI : sp_compactI.ok Try.prog 82 := by
  intro p w v (xs : List Int) l v2 (ys : List Int) l2 vs x hA hown hl hbig hp _ _ _ hargs _
  have hvs : vs = [] := hargs
  subst hvs
  obtain ⟨el, hin⟩ := rowInts hl
  have hown' : w.ownsRow 0 3 1 v xs.length l := hown
  have h8 : xs.length * 8 ≤ big := hbig
  have hle : (Lib.compact xs).length ≤ xs.length := compact_len xs
  rcases hown'.2 with ⟨rfl, h0⟩ | ⟨g, cap, cur, rfl, _, hb, h1, h2, h3, h4⟩
  · have hx : xs = [] := List.eq_nil_of_length_eq_zero h0
    subst hx
    refine (Any.slices_Compact_int_empty laysCompact none 0 w).mono ?_
    rintro e w' ⟨rfl, rfl⟩
    exact ⟨_, l, rfl, fun _ => rfl, World.grownBy.refl _ _, hown, hl, by show (Lib.compact ([] : List Int)).length * 8 ≤ big; simp [Lib.compact, Lib.compactUpTo], fun b h => .inl h⟩
  · have hg : g < w.heap.size := (Array.getElem?_eq_some_iff.1 hb).1
    have hmem : ∀ y ∈ Lib.compact xs, InR .i64 y := fun y hy => hin y (compact_mem xs y hy)
    refine (Any.slices_Compact_int laysCompact g 0 cap xs w (holds_of_blockI hb (by rw [Nat.mul_one] at h4; rw [h4, el])) (by simp only [big] at h8; omega) h1).mono ?_
    rintro e w' ⟨rfl, q, rfl⟩
    refine ⟨_, (Lib.compact xs).map (Value.int .i64), rfl, fun h => (by cases h), ?_, ?_, rowOfInts hmem, ?_, fun b h => .inl h⟩
    · have := grownBy_sortedI (w := w) (g := g) (n := q) (os := #[]) (Lib.compact xs ++ List.replicate (xs.length - (Lib.compact xs).length) 0).toArray
      rw [Sort.grow_empty] at this
      exact this
    · have hh := heap_sortedI (w := w) (g := g) (n := q) (os := #[]) (Lib.compact xs ++ List.replicate (xs.length - (Lib.compact xs).length) 0).toArray hb
      rw [Sort.grow_empty] at hh
      have hrow : World.ownsRow (Sort.putRow (Value.int .i64) (Sort.ahead w q) g 0 (Lib.compact xs ++ List.replicate (xs.length - (Lib.compact xs).length) 0).toArray) 0 3 1
          (.slice (some ⟨g, 0, none⟩) (Lib.compact xs).length cap) (Lib.compact xs).length ((Lib.compact xs).map (Value.int .i64)) := by
        refine ⟨by simp, .inr ⟨g, cap, _, rfl, Nat.zero_le _, hh, Nat.le_trans hle h1, h2, by simp [Sort.putCells, h3], ?_⟩⟩
        have ht := take_putCellsI cur (Lib.compact xs ++ List.replicate (xs.length - (Lib.compact xs).length) 0) (by simp; omega)
        have ht2 := congrArg (List.take (Lib.compact xs).length) ht
        rw [List.take_take, Nat.min_eq_left (by simp)] at ht2
        rw [Nat.mul_one, ht2]
        simp
      exact hrow
    · show (Lib.compact xs).length * 8 ≤ big
      omega
end Go.Proofs.Ytbidboeemnlglaa
