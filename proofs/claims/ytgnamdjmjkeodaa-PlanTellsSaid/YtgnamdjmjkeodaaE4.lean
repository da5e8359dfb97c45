/- The engine, part 4: reading memory. -/
import Derived.Test.YtgnamdjmjkeodaaE3
namespace Go.Proofs.Ytgnamdjmjkeodaa
open Go

section
variable {P : Program} {w : World} {p : PH} {β : Nat → Value} {tm : Array Value}

theorem AV.one_cells {a : AV} {v : Value} (h : a.one p β v) : a.cells p β [v] := by
  cases a <;> first | exact h | exact h.elim

theorem AV.cells_drop : ∀ (k : Nat) (a : AV) (cs : List Value), a.cells p β cs → k < cs.length → (a.drop k).cells p β (cs.drop k)
  | 0, _, _, h, _ => h
  | k + 1, a, cs, h, hk => by
    by_cases hp : ∀ x y, a ≠ .pair x y
    · obtain ⟨v, rfl, _⟩ := (AV.cells_leaf a hp cs).1 h
      simp at hk
    · cases a <;> (first | (exfalso; apply hp; intro x y e; cases e; done) | skip)
      rename_i x y
      match cs, h with
      | v :: cs, h => exact AV.cells_drop k y cs h.2 (by simpa using hk)

theorem AV.cells_take : ∀ (n : Nat) (a : AV) (cs : List Value), a.cells p β cs → 0 < n → n ≤ cs.length → (a.take n).cells p β (cs.take n)
  | 0, _, _, _, h, _ => absurd h (by omega)
  | 1, a, cs, h, _, hn => by
    by_cases hp : ∀ x y, a ≠ .pair x y
    · obtain ⟨v, rfl, hv⟩ := (AV.cells_leaf a hp cs).1 h
      cases a <;> (first | exact absurd rfl (hp _ _) | exact h)
    · cases a <;> (first | (exfalso; apply hp; intro x y e; cases e; done) | skip)
      match cs, h with
      | v :: cs, h => exact AV.one_cells h.1
  | n + 2, a, cs, h, _, hn => by
    by_cases hp : ∀ x y, a ≠ .pair x y
    · obtain ⟨v, rfl, hv⟩ := (AV.cells_leaf a hp cs).1 h
      simp at hn
    · cases a <;> (first | (exfalso; apply hp; intro x y e; cases e; done) | skip)
      rename_i x y
      match cs, h with
      | v :: cs, h => exact ⟨h.1, AV.cells_take (n + 1) y cs h.2 (by omega) (by simpa using hn)⟩

theorem AV.cells_app : ∀ (a b : AV) (c1 c2 : List Value), a.cells p β c1 → b.cells p β c2 → (a.app b).cells p β (c1 ++ c2) := by
  intro a
  induction a with
  | pair x y _ ih =>
    intro b c1 c2 h1 h2
    match c1, h1 with
    | v :: c1, h1 => exact ⟨h1.1, ih b c1 c2 h1.2 h2⟩
  | _ =>
    intro b c1 c2 h1 h2
    obtain ⟨v, rfl, hv⟩ := (AV.cells_leaf _ (by intro x y e; cases e) c1).1 h1
    exact ⟨hv, h2⟩

theorem Ty.av_cells : ∀ (T : Ty) (x : T.den) (cs : List Value), T.holds p x cs → (T.av x).cells p β cs
  | .int _, _, _, ⟨e, h⟩ => by subst e; exact ⟨rfl, h⟩
  | .bool, _, _, e => by simp only [Ty.holds] at e; subst e; exact rfl
  | .str, _, _, ⟨e, h⟩ => by subst e; exact ⟨rfl, h⟩
  | .arr T, xs, cs, h => by
    obtain ⟨A, c, l, e, hr⟩ := h
    subst e
    exact ⟨A, c, l, rfl, hr⟩
  | .nil, _, _, e => by simp only [Ty.holds] at e; subst e; exact rfl
  | .ref T, x, _, ⟨b, o, l, e, h1, h2⟩ => by subst e; exact ⟨b, o, l, rfl, h1, h2⟩
  | .fn A B, _, _, h => by
    have h' := h
    obtain ⟨f, v1, v2, e, _⟩ := h'
    subst e
    exact h
  | .map _ _, _, _, h => by
    have h' := h
    rcases h' with ⟨e, _⟩ | ⟨_, _, e, _⟩ <;> subst e <;> exact h
  | .pair A B, _, _, ⟨c1, c2, e, h1, h2⟩ => by subst e; exact AV.cells_app _ _ _ _ (Ty.av_cells A _ _ h1) (Ty.av_cells B _ _ h2)

/-- A value read out of cells: a struct's, or one cell's. -/
theorem AV.val_of_cells_agg {a : AV} {cs : List Value} (h : a.cells p β cs) (hn : 2 ≤ cs.length) : a.val p β tm (.agg cs.toArray) := by
  by_cases hp : ∀ x y, a ≠ .pair x y
  · obtain ⟨v, rfl, _⟩ := (AV.cells_leaf a hp cs).1 h
    simp at hn
  · cases a <;> (first | (exfalso; apply hp; intro x y e; cases e; done) | skip)
    exact ⟨_, rfl, by simpa using h⟩

theorem AV.val_of_one {a : AV} {v : Value} (h : a.one p β v) : a.val p β tm v := by
  cases a <;> first | exact h | exact h.elim

theorem AV.val_of_cells_one {a : AV} {v : Value} (h : a.cells p β [v]) : a.val p β tm v := by
  by_cases hp : ∀ x y, a ≠ .pair x y
  · obtain ⟨v', e, hv⟩ := (AV.cells_leaf a hp _).1 h
    injection e with e _
    subst e
    exact AV.val_of_one hv
  · cases a <;> (first | (exfalso; apply hp; intro x y e; cases e; done) | skip)
    rename_i x y
    exact absurd h.2 (by cases y <;> simp [AV.cells])

theorem run_loadCellsFrom (b o : Nat) : ∀ (cs : List Value) (i : Nat) (acc : Array Value), (∀ j u, cs[j]? = some u → w.cell? ⟨b, o + i + j, none⟩ = some u) →
    (loadCellsFrom ⟨b, o, none⟩ i cs.length acc).run P w = .ok (acc ++ cs.toArray) w
  | [], _, _, _ => by simp [loadCellsFrom]
  | c :: cs, i, acc, h => by
    have h0 := h 0 c (by simp)
    have hadd : (⟨b, o, none⟩ : Addr).add i = ⟨b, o + i + 0, none⟩ := by unfold Addr.add; split <;> simp_all
    have ih := run_loadCellsFrom b o cs (i + 1) (acc.push c) (fun j u hu => by
      have := h (j + 1) u (by simpa using hu)
      rw [← this]; congr 2; omega)
    simp only [List.length_cons, loadCellsFrom, Sem.run_bind, hadd]
    simp only [load, Sem.run, h0, Result.andThen_ok]
    rw [ih]
    simp

/-- Whether a variable of type t is one cell, or a struct of at least two. -/
def loadable (P : Program) (t : TypeId) : Option Nat :=
  match P.info? t with
  | none => none
  | some i => match P.underlying t with
    | some (.struct _) => if Nat.ble 2 i.size then some i.size else none
    | some (.array _ _) => if Nat.ble 2 i.size then some i.size else none
    | some _ => if Nat.beq i.size 1 then some 1 else none
    | none => none

theorem loadVar_sound {t : TypeId} {n : Nat} (h : loadable P t = some n) {a : AV} {b o : Nat} {cs : List Value} (ha : a.cells p β cs) (hl : cs.length = n)
    (hc : ∀ j u, cs[j]? = some u → w.cell? ⟨b, o + j, none⟩ = some u) : ∃ v, (Instr.loadAt t (.pointer (some ⟨b, o, none⟩))).run P w = .ok v w ∧ a.val p β tm v := by
  unfold loadable at h
  split at h
  · cases h
  rename_i i hi
  have hrow := run_loadCellsFrom (P := P) (w := w) b o cs 0 #[] (by simpa using hc)
  have one : ∀ (d : TypeDesc), P.underlying t = some d → (isAgg t).run P w = .ok false w → i.size = 1 → n = 1 → ∃ v, (Instr.loadAt t (.pointer (some ⟨b, o, none⟩))).run P w = .ok v w ∧ a.val p β tm v := by
    intro d hd hag hs hn
    subst hn
    match cs, hl with
    | [v], _ =>
      have h0 := hc 0 v (by simp)
      refine ⟨v, ?_, AV.val_of_cells_one ha⟩
      simp only [Nat.add_zero] at h0
      simp [Instr.loadAt, Instr.sureAddr, loadVar, hag, load, Sem.run, h0]
  split at h
  · rename_i fs hu
    split at h
    · injection h with h
      rename_i h2
      have h2' := Nat.le_of_ble_eq_true h2
      refine ⟨.agg cs.toArray, ?_, AV.val_of_cells_agg ha (by omega)⟩
      have hag : (isAgg t).run P w = .ok true w := by simp [isAgg, run_underlying hu]
      rw [← h] at hl
      simp [Instr.loadAt, Instr.sureAddr, loadVar, hag, sizeOf, typeInfo, hi, loadCells, ← hl, hrow]
    · cases h
  · rename_i k e hu
    split at h
    · injection h with h
      rename_i h2
      have h2' := Nat.le_of_ble_eq_true h2
      refine ⟨.agg cs.toArray, ?_, AV.val_of_cells_agg ha (by omega)⟩
      have hag : (isAgg t).run P w = .ok true w := by simp [isAgg, run_underlying hu]
      rw [← h] at hl
      simp [Instr.loadAt, Instr.sureAddr, loadVar, hag, sizeOf, typeInfo, hi, loadCells, ← hl, hrow]
    · cases h
  · rename_i d hd1 hd2 hu
    split at h
    · rename_i h2
      injection h with h
      refine one d hu ?_ (Nat.eq_of_beq_eq_true h2) h.symm
      have : ∀ d', P.underlying t = some d' → (∀ fs, d' ≠ .struct fs) → (∀ k e, d' ≠ .array k e) → (isAgg t).run P w = .ok false w := by
        intro d' hu' h1 h2
        cases d' <;> simp [isAgg, run_underlying hu'] <;> first | exact absurd rfl (h1 _) | exact absurd rfl (h2 _ _)
      exact this d hu (fun fs e => hd1 fs (by rw [e])) (fun k e e2 => hd2 k e (by rw [e2]))
    · cases h
  · cases h

theorem PH_cell_world (h : Agrees p w) {b o : Nat} {v : Value} (hc : p.cell b o = some v) : w.cell? ⟨b, o, none⟩ = some v := by
  unfold PH.cell at hc
  cases hp : p b with
  | none => rw [hp] at hc; cases hc
  | some cs =>
    rw [hp] at hc
    have h1 := h b cs hp
    cases cs with
    | map es => cases hc
    | cells cs =>
      obtain ⟨t, fz, e⟩ := h1
      simp only [World.cell?, e]
      simpa [Blk.get] using hc
end
end Go.Proofs.Ytgnamdjmjkeodaa
