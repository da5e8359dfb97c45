/- The engine, part 34 (stands between 24 and 10): maps. -/
import Derived.Test.YtgnamdjmjkeodaaE24
import Derived.MapKept
namespace Go.Proofs.Ytgnamdjmjkeodaa
open Go

/-- A map, avs data. -/
def mapOf (P : Program) (lh : Nat → Option LE) (t : TypeId) : AV → Option (IntKind × ((V : Ty) × List (Int × V.den)))
  | .mp d => match lh d with
    | some (.mapp k V m) => some (k, ⟨V, m⟩)
    | some (.frozm k V m) => some (k, ⟨V, m⟩)
    | _ => none
  | .md k V m => some (k, ⟨V, m⟩)
  | .nilm => match tyOf P 12 t with
    | some (.map k V) => some (k, ⟨V, []⟩)
    | _ => none
  | _ => none

def Value.isAgg : Value → Bool
  | .agg _ => true
  | _ => false

/-- The zero value of the program's type e, avs a datum. -/
def zeroTy (P : Program) (e : TypeId) (T : Ty) : Option T.den :=
  match P.info? e with
  | none => none
  | some i => match i.zero with
    | none => none
    | some z => if Value.isAgg z == T.isPair then AV.toTy false (fun _ => none) T (AV.ofCells z.cells.toList) else none

def mapKey (P : Program) (t : TypeId) : Option (IntKind × TypeId × TypeId) :=
  match P.underlying t with
  | some (.map kt e) => match P.underlying kt with
    | some (.int k) => some (k, kt, e)
    | _ => none
  | _ => none

def evLookup (P : Program) (lh : Nat → Option LE) (t : TypeId) (m x : AV) (ok : Bool) : Res :=
  match mapKey P t, mapOf P lh t m, x with
  | some (k, _, e), some (k', ⟨V, l⟩), .int k'' n => if k' = k ∧ k'' = k then match zeroTy P e V with
      | some z => some ([], if ok then .tup (V.av ((mget l n).getD z)) (.tup (.bool (mget l n).isSome) .tnil) else V.av ((mget l n).getD z))
      | none => none
    else none
  | _, _, _ => none

section
variable {M : Nat → Prop} {p0 : PH} {w0 : World} {S : St} {tm : Array Value} {w : World} {p : PH} {β : Nat → Value} {P : Program}

theorem mapKey_spec {t kt e : TypeId} {k : IntKind} (h : mapKey P t = some (k, kt, e)) : P.underlying t = some (.map kt e) ∧ P.underlying kt = some (.int k) := by
  unfold mapKey at h
  split at h <;> try cases h
  rename_i kt' e' h1
  split at h <;> simp only [Option.some.injEq, Prod.mk.injEq, reduceCtorEq] at h
  rename_i k' h2
  obtain ⟨rfl, rfl, rfl⟩ := h
  exact ⟨h1, h2⟩

/-- Where the key lies; what becomes of the entries when it is written. -/
theorem findNow_hold {α : Type} {k : IntKind} {h : α → Value → Prop} {n : Int} (hn : InR k n) : ∀ (m : List (Int × α)) (es : List MapEntry) (i : Nat), mapHold k h m es →
    (mget m n = none ∧ Instr.findNow (.int k) (.int k n) es i = some none ∧ ∀ y v b, h y v → mapHold k h (mput m n y) (es ++ [{ key := .int k n, val := v, born := b }])) ∨
    ∃ x j e, mget m n = some x ∧ Instr.findNow (.int k) (.int k n) es i = some (some (i + j, e.val)) ∧ es[j]? = some e ∧ e.key = .int k n ∧ h x e.val ∧
      ∀ y v, h y v → mapHold k h (mput m n y) (es.modify j fun e => { e with key := .int k n, val := v })
  | [], es, i, hm => by
    have : es = [] := hm
    subst this
    exact .inl ⟨rfl, rfl, fun y v b hy => ⟨_, [], rfl, rfl, hn, hy, rfl⟩⟩
  | x :: m, es, i, ⟨e, es', he, h1, h2, h3, h4⟩ => by
    subst he
    by_cases hx : x.1 = n
    · subst hx
      refine .inr ⟨x.2, 0, e, by simp [mget], by simp [Instr.findNow, Instr.sameNow, h1], rfl, h1, h3, fun y v hy => ?_⟩
      simp only [mput, if_true]
      exact ⟨_, es', rfl, rfl, hn, hy, h4⟩
    · have hs : Instr.sameNow (.int k) (.int k n) e.key = some false := by
        rw [h1]
        simp only [Instr.sameNow, if_true, Option.some.injEq, beq_eq_false_iff_ne]
        exact fun e => hx e.symm
      rcases findNow_hold hn m es' (i + 1) h4 with ⟨g1, g2, g3⟩ | ⟨y, j, e', g1, g2, g3, g4, g5, g6⟩
      · refine .inl ⟨by simp only [mget, if_neg hx, g1], by simp only [Instr.findNow, hs, g2], fun y v b hy => ?_⟩
        simp only [mput, if_neg hx, List.cons_append]
        exact ⟨e, _, rfl, h1, h2, h3, g3 y v b hy⟩
      · refine .inr ⟨y, j + 1, e', by simp only [mget, if_neg hx, g1], ?_, by simpa using g3, g4, g5, fun y v hy => ?_⟩
        · simp only [Instr.findNow, hs, g2]
          congr 3
          omega
        · simp only [mput, if_neg hx]
          exact ⟨e, _, by simp, h1, h2, h3, g6 y v hy⟩

theorem run_findKey_int {kt : TypeId} {k : IntKind} {v : Value} {es : List MapEntry} {r : Option (Nat × Value)} (hd : P.underlying kt = some (.int k)) (h : Instr.findNow (.int k) v es 0 = some r) : (Instr.findKey kt v es).run P w = .ok r w :=
  MapKept.run_findKey hd h

theorem run_checkKey_int {kt : TypeId} {k : IntKind} {n : Int} (hd : P.underlying kt = some (.int k)) (b : Bool) : (Instr.checkKey b 10000 kt (.int k n)).run P w = .ok () w :=
  MapKept.run_checkKey hd (by simp [MapKept.IsKey]) b 9999

theorem zeroTy_sound (hS : SatB M p0 w0 S tm w p β) {e : TypeId} {V : Ty} {z : V.den} (h : zeroTy P e V = some z) : ∃ v, (zeroValue e).run P w = .ok v w ∧ V.vholds p z v := by
  unfold zeroTy at h
  split at h <;> try cases h
  rename_i i hi
  split at h <;> try cases h
  rename_i v hv
  split at h <;> try cases h
  rename_i hag
  refine ⟨v, by simp [zeroValue, typeInfo, hi, hv], ?_⟩
  have hS0 : SatB M p0 w0 { S with lh := fun _ => none } tm w p β :=
    ⟨hS.keep, hS.agr, hS.old, hS.size, fun d e h => (by cases h), fun d e b h => (by cases h), fun d d' e e' b h => (by cases h), hS.env⟩
  have hne : v.cells.toList ≠ [] := by
    intro e0
    rw [e0] at h
    simp only [AV.ofCells] at h
    rw [toTy_any] at h
    cases h
  have hh := toTy_sound hS0 (rows := false) V _ z _ h (ofCells_cells _ hne)
  simp only [Bool.false_eq_true, if_false] at hh
  cases v with
  | agg cs =>
    cases V <;> simp [Value.isAgg, Ty.isPair] at hag
    exact ⟨cs, rfl, hh⟩
  | _ =>
    cases V <;> simp [Value.isAgg, Ty.isPair] at hag <;> exact hh

/-- The map's entries. -/
theorem mapOf_sound (hS : SatB M p0 w0 S tm w p β) {t : TypeId} {a : AV} {va : Value} {k : IntKind} {V : Ty} {m : List (Int × V.den)} (h : mapOf P S.lh t a = some (k, ⟨V, m⟩)) (ha : a.val p β tm va) :
    (va = .map none ∧ m = []) ∨ ∃ r es clock, va = .map (some r) ∧ w.heap[r]? = some (.map es clock) ∧ mapHold k (fun x v => vhold V (V.holds p x) v) m es.toList := by
  have dat : ∀ {v : Value}, (Ty.map k V).holds p m [v] → (v = .map none ∧ m = []) ∨ ∃ r es clock, v = .map (some r) ∧ w.heap[r]? = some (.map es clock) ∧ mapHold k (fun x v => vhold V (V.holds p x) v) m es.toList := by
    rintro v (⟨e, h0⟩ | ⟨r, es, e, hp, hm⟩)
    · injection e with e _
      exact .inl ⟨e, h0⟩
    · injection e with e _
      obtain ⟨c, hc⟩ := hS.agr r _ hp
      exact .inr ⟨r, es, c, e, hc, hm⟩
  cases a <;> (first | (simp [mapOf] at h; done) | skip)
  · rename_i d
    have ha' : va = β d := ha
    subst ha'
    simp only [mapOf] at h
    split at h <;> simp only [Option.some.injEq, Prod.mk.injEq, reduceCtorEq] at h
    · rename_i hd
      obtain ⟨rfl, h⟩ := h
      injection h with h1 h2
      subst h1
      have h2 := eq_of_heq h2
      subst h2
      obtain ⟨r, es, clock, e1, e2, _, e4⟩ := hS.lhs d _ hd
      exact .inr ⟨r, es, clock, e1, e2, e4⟩
    · rename_i hd
      obtain ⟨rfl, h⟩ := h
      injection h with h1 h2
      subst h1
      have h2 := eq_of_heq h2
      subst h2
      exact dat (hS.lhs d _ hd)
  · simp only [mapOf, Option.some.injEq, Prod.mk.injEq] at h
    obtain ⟨rfl, h⟩ := h
    injection h with h1 h2
    subst h1
    have h2 := eq_of_heq h2
    subst h2
    exact dat ha
  · simp only [mapOf] at h
    split at h <;> simp only [Option.some.injEq, Prod.mk.injEq, reduceCtorEq] at h
    obtain ⟨_, h⟩ := h
    injection h with h1 h2
    subst h1
    have h2 := eq_of_heq h2
    subst h2
    exact .inl ⟨ha, rfl⟩

theorem vhold_iff0 {p : PH} {T : Ty} {x : T.den} {v : Value} : vhold T (T.holds p x) v ↔ T.vholds p x v := by
  cases T <;> simp [vhold, Ty.isPair, Ty.vholds]
end
end Go.Proofs.Ytgnamdjmjkeodaa
