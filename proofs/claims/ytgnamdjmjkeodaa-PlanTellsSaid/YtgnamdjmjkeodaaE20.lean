/- The engine, part 20: loops: what a round hands on. -/
import Derived.Test.YtgnamdjmjkeodaaE19
namespace Go.Proofs.Ytgnamdjmjkeodaa
open Go

/-- A part of what lies in a box: a datum; a row of the call's own. -/
inductive BF where
  | dat (T : Ty)
  | own (e : TypeId) (T : Ty)

def BF.den : BF → Type
  | .dat T => T.den
  | .own _ T => List T.den

def BF.size : BF → Nat
  | .dat T => T.size
  | .own _ _ => 1

def FDens : List BF → Type
  | [] => Unit
  | [f] => f.den
  | f :: g :: fs => f.den × FDens (g :: fs)

/-- What a loop's rounds hand on: a datum in a slot; a row of the call's own in a slot; a datum, or a row, in a box. -/
inductive Cr where
  | dat (s : Nat) (T : Ty)
  | own (s : Nat) (e : TypeId) (T : Ty)
  | box (d : Nat) (T : Ty)
  | boxS (d : Nat) (fs : List BF)
  /-- slot s holds the same row avs slot s', which is handed on too -/
  | same (s s' : Nat)
  /-- the map of name d -/
  | map (d : Nat) (k : IntKind) (V : Ty)

def Cr.den : Cr → Type
  | .dat _ T => T.den
  | .own _ _ T => List T.den
  | .box _ T => T.den
  | .boxS _ fs => FDens fs
  | .same _ _ => Unit
  | .map _ _ V => List (Int × V.den)

def CDens : List Cr → Type
  | [] => Unit
  | [c] => c.den
  | c :: d :: cs => c.den × CDens (d :: cs)

/-- The row that an abstract value names: its data and its name (none: the nil slice). -/
def AV.rowAt (S : St) (e : TypeId) (T : Ty) : AV → Option (List T.den × Option Nat)
  | .nils => some ([], none)
  | .own d => match S.lh d with
    | some (.row e' T' xs) => if h : T' = T then (if Nat.beq e' e && !S.lock d then some (h ▸ xs, some d) else none) else none
    | _ => none
  | _ => none

/-- Names of rows in boxes lie far out; those of a caller's boxes (900000 in their last six digits) lie far out in the caller's own count. -/
def farB : Nat := 1000000000000000000000000000000
def boxRowK : Nat → Nat → Nat → Nat
  | 0, d, j => d + 1000000 * j + farB
  | k + 1, d, j => bif Nat.beq (d % 1000000) 900000 then 1000000 * boxRowK k (d / 1000000) j + 900000 else d + 1000000 * j + farB
def boxRow (d j : Nat) : Nat := boxRowK 8 d j
def farK : Nat → Nat → Bool
  | 0, _ => false
  | k + 1, n => bif Nat.beq (n % 1000000) 900000 then farK k (n / 1000000) else Nat.ble farB n
def far (n : Nat) : Bool := farK 9 n

theorem farK_mono : ∀ (k n : Nat), farK k n = true → farK (k + 1) n = true
  | 0, n, h => by cases h
  | k + 1, n, h => by
    rw [farK] at h ⊢
    cases hb : Nat.beq (n % 1000000) 900000
    · rw [hb] at h; exact h
    · rw [hb] at h; exact farK_mono k _ h

def AV.rowFar (S : St) (e : TypeId) (T : Ty) (nm : Nat) (a : AV) : Option (List T.den × Option Nat) := if far nm = true then a.rowAt S e T else none

theorem rowFar_at {S : St} {e : TypeId} {T : Ty} {nm : Nat} {a : AV} {y : List T.den × Option Nat} (h : a.rowFar S e T nm = some y) : a.rowAt S e T = some y := by
  unfold AV.rowFar at h
  split at h
  · exact h
  · cases h
theorem rowFar_far {S : St} {e : TypeId} {T : Ty} {nm : Nat} {a : AV} {y : List T.den × Option Nat} (h : a.rowFar S e T nm = some y) : far nm = true := by
  unfold AV.rowFar at h
  split at h
  · assumption
  · cases h

def BF.get (S : St) (nm : Nat) (f : BF) (a : AV) : Option (f.den × List (Nat × Option Nat)) :=
  match f with
  | .dat T => (a.toTy false S.lh T).map fun x => (x, [])
  | .own e T => (a.rowFar S e T nm).map fun x => (x.1, [(nm, x.2)])

def BF.av (nm : Nat) : (f : BF) → f.den → AV
  | .dat T, x => T.av x
  | .own _ _, _ => .own nm

def BF.row (nm : Nat) : (f : BF) → f.den → Nat → Option LE
  | .dat _, _, _ => none
  | .own e T, xs, n => if Nat.beq n nm then some (.row e T xs) else none

def getF (S : St) (d : Nat) : Nat → (fs : List BF) → AV → Option (FDens fs × List (Nat × Option Nat))
  | _, [], _ => none
  | j, [f], a => f.get S (boxRow d j) a
  | j, f :: g :: fs, a => match f.get S (boxRow d j) (a.take f.size), getF S d (j + 1) (g :: fs) (a.drop f.size) with
    | some (x, r1), some (y, r2) => some ((x, y), r1 ++ r2)
    | _, _ => none

def avF (d : Nat) : Nat → (fs : List BF) → FDens fs → AV
  | _, [], _ => .any
  | j, [f], x => f.av (boxRow d j) x
  | j, f :: g :: fs, x => (f.av (boxRow d j) x.1).app (avF d (j + 1) (g :: fs) x.2)

def rowF (d : Nat) : Nat → (fs : List BF) → FDens fs → Nat → Option LE
  | _, [], _, _ => none
  | j, [f], x, n => f.row (boxRow d j) x n
  | j, f :: g :: fs, x, n => match f.row (boxRow d j) x.1 n with
    | some e => some e
    | none => rowF d (j + 1) (g :: fs) x.2 n

def Cr.get (S : St) : (c : Cr) → Option (c.den × List (Nat × Option Nat))
  | .dat s T => ((S.env s).toTy false S.lh T).map fun x => (x, [])
  | .own s e T => ((S.env s).rowAt S e T).map fun x => (x.1, [(s, x.2)])
  | .box d T => match S.lh d with
    | some (.cells c) => (c.toTy false S.lh T).map fun x => (x, [])
    | _ => none
  | .boxS d fs => match S.lh d with
    | some (.cells c) => getF S d 0 fs c
    | _ => none
  | .same s s' => match S.env s, S.env s' with
    | .own d, .own d' => if Nat.beq d d' then some ((), []) else none
    | _, _ => none
  | .map d k V => match S.lh d with
    | some (.mapp k' V' m) => if h : k' = k ∧ V' = V then some ((h.2 ▸ m : List (Int × V.den)), []) else none
    | _ => none

def gets (S : St) : (cs : List Cr) → Option (CDens cs × List (Nat × Option Nat))
  | [] => some ((), [])
  | [c] => c.get S
  | c :: d :: cs => match c.get S, gets S (d :: cs) with
    | some (x, r1), some (y, r2) => some ((x, y), r1 ++ r2)
    | _, _ => none

def Cr.envOf (c : Cr) (x : c.den) (s : Nat) : Option AV :=
  match c, x with
  | .dat s' T, x => if Nat.beq s s' then some (T.av x) else none
  | .own s' _ _, _ => if Nat.beq s s' then some (.own s') else none
  | .same s1 s2, _ => if Nat.beq s s1 then some (.own s2) else none
  | _, _ => none

def Cr.lhOf (c : Cr) (x : c.den) (d : Nat) : Option LE :=
  match c, x with
  | .dat _ _, _ => none
  | .same _ _, _ => none
  | .own s e T, xs => if Nat.beq d s then some (.row e T xs) else none
  | .box d' T, x => if Nat.beq d d' then some (.cells (T.av x)) else none
  | .map d' k V, m => if Nat.beq d d' then some (.mapp k V m) else none
  | .boxS d' fs, x => if Nat.beq d d' then some (.cells (avF d' 0 fs x)) else rowF d' 0 fs x d

def envOf : (cs : List Cr) → CDens cs → Nat → Option AV
  | [], _, _ => none
  | [c], x, s => c.envOf x s
  | c :: d :: cs, x, s => match c.envOf x.1 s with
    | some a => some a
    | none => envOf (d :: cs) x.2 s

def lhOf : (cs : List Cr) → CDens cs → Nat → Option LE
  | [], _, _ => none
  | [c], x, s => c.lhOf x s
  | c :: d :: cs, x, s => match c.lhOf x.1 s with
    | some a => some a
    | none => lhOf (d :: cs) x.2 s

def Cr.boxName : Cr → List Nat
  | .box d _ => [d]
  | .boxS d _ => [d]
  | .map d _ _ => [d]
  | _ => []

/-- Whatever is said to be the same avs a slot's row: that row is handed on. -/
def sameIn (cs : List Cr) : Bool := cs.all fun c => match c with
  | .same _ s' => cs.any fun c' => match c' with
    | .own s'' _ _ => Nat.beq s'' s'
    | _ => false
  | _ => true

def badE (L X : List Nat) (n : Nat) : Bool := L.contains (n % 1000000) || X.contains n || far n

def renNames (ren : List (Nat × Option Nat)) : List Nat := ren.flatMap fun x => x.1 :: x.2.toList

def sources (ren : List (Nat × Option Nat)) : List Nat := ren.flatMap fun x => x.2.toList

def distinct : List Nat → Bool
  | [] => true
  | x :: xs => !xs.contains x && distinct xs

def loopSt (S : St) (L X : List Nat) (cs : List Cr) (x : CDens cs) : St :=
  { env := fun s => match envOf cs x s with
      | some a => a
      | none => bif L.contains s then .any else ((S.env s).scrub (badE L X)).opn []
    lh := fun d => match lhOf cs x d with
      | some e => some e
      | none => bif badE L X d then none else (S.lh d).map (LE.scrub (badE L X))
    n := S.n
    lock := fun d => !badE L X d && !(cs.flatMap Cr.boxName).contains d }

/-- The conditions on what is handed on, all of them reckoned. -/
def cok (S : St) (L X : List Nat) (cs : List Cr) (ren : List (Nat × Option Nat)) : Bool :=
  (renNames ren).all (badE L X) && distinct (sources ren) && distinct (ren.map (·.1)) &&
  (cs.flatMap Cr.boxName).all (fun d => !badE L X d && !S.lock d)

section
variable {M : Nat → Prop} {p0 : PH} {w0 : World} {S : St} {tm : Array Value} {w : World} {p : PH} {β : Nat → Value}

/-- The ghosts behind the new names. -/
def ghost (β : Nat → Value) : Option Nat → Value
  | some d => β d
  | none => .slice none 0 0

def Fits (β β' : Nat → Value) (ren : List (Nat × Option Nat)) : Prop := ∀ x ∈ ren, β' x.1 = ghost β x.2

theorem rowAt_sound (hS : SatB M p0 w0 S tm w p β) {e : TypeId} {T : Ty} {a : AV} {xs : List T.den} {src : Option Nat} (h : a.rowAt S e T = some (xs, src)) :
    (∀ v, a.one p β v → v = ghost β src) ∧ (∃ l, w.ownsRow 0 e T.size (ghost β src) xs.length l ∧ rowHold (T.holds p) xs l ∧ xs.length * T.bytes ≤ big) ∧
      (∀ d, src = some d → S.lh d = some (.row e T xs) ∧ S.lock d = false) := by
  cases a <;> simp only [AV.rowAt, reduceCtorEq] at h
  · simp only [Option.some.injEq, Prod.mk.injEq] at h
    obtain ⟨rfl, rfl⟩ := h
    exact ⟨fun v hv => hv, ⟨[], World.ownsRow_nil w 0 e T.size, rfl, by simp⟩, fun d hd => by cases hd⟩
  · rename_i d
    split at h <;> try cases h
    rename_i e' T' ys hd
    split at h <;> try cases h
    rename_i hT
    subst hT
    split at h <;> simp only [Option.some.injEq, Prod.mk.injEq, reduceCtorEq] at h <;> obtain ⟨rfl, rfl⟩ := h
    rename_i hb
    simp only [Bool.and_eq_true, Bool.not_eq_true'] at hb
    have := Nat.eq_of_beq_eq_true hb.1
    subst this
    exact ⟨fun v hv => hv, hS.lhs d _ hd, fun d' hd' => by injection hd' with hd'; subst hd'; exact ⟨hd, hb.2⟩⟩

theorem dat_val {T : Ty} {x : T.den} {a : AV} {v : Value} {β' : Nat → Value} (hS : SatB M p0 w0 S tm w p β) (h : a.toTy false S.lh T = some x) (ha : a.val p β tm v) : (T.av x).val p β' tm v := by
  have h1 := toTy_vsound hS (rows := false) h ha
  simp only [Bool.false_eq_true, if_false] at h1
  exact AV.val_of_val1 (vholds_val (tm := tm) h1)

/-- One thing that is handed on: its slot, its entries. -/
theorem get_env (hS : SatB M p0 w0 S tm w p β) {β' : Nat → Value} {c : Cr} {x : c.den} {ren : List (Nat × Option Nat)} (h : c.get S = some (x, ren)) (hf : Fits β β' ren) (hsm : ∀ s s' d, c = .same s s' → S.env s' = .own d → β' s' = β d) {s : Nat} {a : AV} (he : c.envOf x s = some a) :
    a.val p β' tm (tm.getD s undef) := by
  cases c with
  | dat s' T =>
    obtain ⟨y, hy, h0⟩ := Option.map_eq_some_iff.1 h
    injection h0 with h0 h00
    subst h0
    subst h00
    simp only [Cr.envOf] at he
    split at he <;> simp only [Option.some.injEq, reduceCtorEq] at he
    rename_i hs
    have := Nat.eq_of_beq_eq_true hs
    subst this
    subst he
    exact dat_val hS hy (hS.env s)
  | own s' e T =>
    obtain ⟨y, hy, h0⟩ := Option.map_eq_some_iff.1 h
    injection h0 with h0 h00
    subst h0
    subst h00
    simp only [Cr.envOf] at he
    split at he <;> simp only [Option.some.injEq, reduceCtorEq] at he
    rename_i hs
    have := Nat.eq_of_beq_eq_true hs
    subst this
    subst he
    have h1 := (rowAt_sound hS (xs := y.1) (src := y.2) hy).1
    have h2 := hf (s, y.2) (by simp)
    have h3 := hS.env s
    show tm.getD s undef = β' s
    rw [h2]
    apply h1
    have hl : ∀ (a : AV) (v : Value), a.rowAt S e T = some y → a.val p β tm v → a.one p β v := by
      intro a v ha hv
      cases a <;> first | exact hv | (simp [AV.rowAt] at ha; done)
    exact hl _ _ hy h3
  | box d T => simp [Cr.envOf] at he
  | boxS d fs => simp [Cr.envOf] at he
  | map d k V => simp [Cr.envOf] at he
  | same s1 s2 =>
    simp only [Cr.envOf] at he
    split at he <;> simp only [Option.some.injEq, reduceCtorEq] at he
    rename_i hs
    have := Nat.eq_of_beq_eq_true hs
    subst this
    subst he
    simp only [Cr.get] at h
    split at h <;> try cases h
    rename_i d d' h1 h2
    split at h <;> try cases h
    rename_i hd
    have := Nat.eq_of_beq_eq_true hd
    subst this
    have h3 := hS.env s
    rw [h1] at h3
    show tm.getD s undef = β' s2
    rw [hsm _ _ _ rfl h2]
    exact h3

/-- Whose block a carried entry's is. -/
def Owner (S : St) (β β' : Nat → Value) (ren : List (Nat × Option Nat)) (boxes : List Nat) (d : Nat) : Prop :=
  ∀ b, blkOf (β' d) = some b → ∃ d0 e0, S.lh d0 = some e0 ∧ e0.live = true ∧ blkOf (β d0) = some b ∧ ((d0 = d ∧ d ∈ boxes) ∨ (d, some d0) ∈ ren)

theorem drop_any : ∀ (k : Nat) (a : AV), a.len ≤ k → 0 < k → a.drop k = .any := by
  intro k
  induction k with
  | zero => intro a _ h; omega
  | succ k ih =>
    intro a hle _
    cases a <;> simp only [AV.drop]
    rename_i x y
    simp only [AV.len] at hle
    rcases Nat.eq_zero_or_pos k with hk | hk
    · subst hk
      cases y <;> simp only [AV.len] at hle <;> omega
    · exact ih y (by omega) hk

theorem drop_any' (k : Nat) (hk : 0 < k) : AV.any.drop k = .any := by
  cases k with
  | zero => omega
  | succ k => rfl

theorem BF.size_pos (f : BF) : 0 < f.size := by
  cases f with
  | dat T => exact Ty.size_pos T
  | own e T => simp [BF.size]

theorem BF.get_any (S : St) (nm : Nat) (f : BF) : f.get S nm .any = none := by
  cases f with
  | dat T => simp only [BF.get, toTy_any]; rfl
  | own e T => simp only [BF.get, AV.rowFar, AV.rowAt]; split <;> rfl

theorem getF_any (S : St) (d : Nat) : ∀ (fs : List BF) (j : Nat), getF S d j fs .any = none
  | [], _ => rfl
  | [f], j => BF.get_any S _ f
  | f :: g :: fs, j => by simp only [getF, take_any, BF.get_any]

theorem BF.get_cells (hS : SatB M p0 w0 S tm w p β) {β' : Nat → Value} {f : BF} {nm : Nat} {a : AV} {x : f.den} {ren : List (Nat × Option Nat)} (h : f.get S nm a = some (x, ren)) (hf : Fits β β' ren) {cs : List Value} (hc : a.cells p β cs) :
    (f.av nm x).cells p β' cs := by
  cases f with
  | dat T =>
    obtain ⟨y, hy, h0⟩ := Option.map_eq_some_iff.1 h
    injection h0 with h0 h00
    subst h0
    subst h00
    have h5 := toTy_sound hS (rows := false) T _ y _ hy hc
    simp only [Bool.false_eq_true, if_false] at h5
    exact Ty.av_cells T y _ h5
  | own e T =>
    obtain ⟨y, hy, h0⟩ := Option.map_eq_some_iff.1 h
    injection h0 with h0 h00
    subst h0
    subst h00
    have hy := rowFar_at hy
    obtain ⟨h1, _, _⟩ := rowAt_sound hS (xs := y.1) (src := y.2) hy
    have h4 := hf (nm, y.2) (by simp)
    simp only at h4
    have hl : ∃ v, cs = [v] ∧ a.one p β v := by
      cases a <;> (first | (simp [AV.rowAt] at hy; done) | exact (AV.cells_leaf _ (by intro x y e; cases e) _).1 hc)
    obtain ⟨v, rfl, hone⟩ := hl
    exact AV.one_cells (p := p) (a := .own nm) (by show v = β' nm; rw [h4]; exact h1 v hone)

theorem getF_cells (hS : SatB M p0 w0 S tm w p β) {β' : Nat → Value} {d : Nat} : ∀ (fs : List BF) (j : Nat) (a : AV) (x : FDens fs) (ren : List (Nat × Option Nat)) (cs : List Value), getF S d j fs a = some (x, ren) → Fits β β' ren → a.cells p β cs →
    (avF d j fs x).cells p β' cs
  | [], _, _, _, _, _, h, _, _ => by cases h
  | [f], j, a, x, ren, cs, h, hf, hc => BF.get_cells hS h hf hc
  | f :: g :: fs, j, a, x, ren, cs, h, hf, hc => by
    unfold getF at h
    split at h <;> simp only [Option.some.injEq, reduceCtorEq] at h
    rename_i y r1 z r2 h1 h2
    injection h with ha hb
    subst ha
    subst hb
    have hpos := BF.size_pos f
    have hl := AV.len_cells a cs hc
    have key : f.size < cs.length := by
      rcases Nat.lt_or_ge f.size cs.length with hlt | hge
      · exact hlt
      · exfalso
        rw [drop_any f.size a (by omega) hpos, getF_any] at h2
        cases h2
    have k1 := BF.get_cells hS h1 (fun z hz => hf z (List.mem_append_left _ hz)) (AV.cells_take _ a cs hc hpos (by omega))
    have k2 := getF_cells hS (g :: fs) (j + 1) _ z r2 _ h2 (fun z hz => hf z (List.mem_append_right _ hz)) (AV.cells_drop _ a cs hc key)
    have := AV.cells_app _ _ _ _ k1 k2
    rwa [List.take_append_drop] at this

theorem BF.get_row (hS : SatB M p0 w0 S tm w p β) {β' : Nat → Value} {f : BF} {nm : Nat} {a : AV} {x : f.den} {ren ren0 : List (Nat × Option Nat)} {boxes : List Nat} (h : f.get S nm a = some (x, ren)) (hf : Fits β β' ren) (hr : ∀ z ∈ ren, z ∈ ren0) {n : Nat} {e : LE}
    (he : f.row nm x n = some e) : e.sat p β' w n ∧ Owner S β β' ren0 boxes n ∧ n ∈ ren.map (·.1) := by
  cases f with
  | dat T => cases he
  | own t T =>
    obtain ⟨y, hy, h0⟩ := Option.map_eq_some_iff.1 h
    injection h0 with h0 h00
    subst h0
    subst h00
    have hy := rowFar_at hy
    obtain ⟨_, h2, h3⟩ := rowAt_sound hS (xs := y.1) (src := y.2) hy
    have h4 := hf (nm, y.2) (by simp)
    simp only at h4
    simp only [BF.row] at he
    split at he <;> simp only [Option.some.injEq, reduceCtorEq] at he
    rename_i hs
    have := Nat.eq_of_beq_eq_true hs
    subst this
    subst he
    refine ⟨by simpa only [LE.sat, h4] using h2, fun b hb => ?_, by simp⟩
    rw [h4] at hb
    cases hsrc : y.2 with
    | none => rw [hsrc] at hb; cases hb
    | some d0 =>
      rw [hsrc] at hb
      exact ⟨d0, _, (h3 d0 hsrc).1, rfl, hb, .inr (hr _ (by rw [← hsrc]; simp))⟩

theorem getF_row (hS : SatB M p0 w0 S tm w p β) {β' : Nat → Value} {d : Nat} {ren0 : List (Nat × Option Nat)} {boxes : List Nat} : ∀ (fs : List BF) (j : Nat) (a : AV) (x : FDens fs) (ren : List (Nat × Option Nat)), getF S d j fs a = some (x, ren) → Fits β β' ren → (∀ z ∈ ren, z ∈ ren0) →
    ∀ {n : Nat} {e : LE}, rowF d j fs x n = some e → e.sat p β' w n ∧ Owner S β β' ren0 boxes n ∧ n ∈ ren.map (·.1)
  | [], _, _, _, _, h, _, _, _, _, _ => by cases h
  | [f], j, a, x, ren, h, hf, hr, n, e, he => BF.get_row hS h hf hr he
  | f :: g :: fs, j, a, x, ren, h, hf, hr, n, e, he => by
    unfold getF at h
    split at h <;> simp only [Option.some.injEq, reduceCtorEq] at h
    rename_i y r1 z r2 h1 h2
    injection h with ha hb
    subst ha
    subst hb
    simp only [rowF] at he
    split at he
    · rename_i e' he'
      injection he with he
      subst he
      obtain ⟨k1, k2, k3⟩ := BF.get_row (boxes := boxes) hS h1 (fun z hz => hf z (List.mem_append_left _ hz)) (fun z hz => hr z (List.mem_append_left _ hz)) he'
      exact ⟨k1, k2, by rw [List.map_append]; exact List.mem_append_left _ k3⟩
    · obtain ⟨k1, k2, k3⟩ := getF_row (boxes := boxes) hS (g :: fs) (j + 1) _ z r2 h2 (fun z hz => hf z (List.mem_append_right _ hz)) (fun z hz => hr z (List.mem_append_right _ hz)) he
      exact ⟨k1, k2, by rw [List.map_append]; exact List.mem_append_right _ k3⟩

theorem boxS_get {S : St} {d : Nat} {fs : List BF} {x : FDens fs} {ren : List (Nat × Option Nat)} (h : (Cr.boxS d fs).get S = some (x, ren)) : ∃ c, S.lh d = some (.cells c) ∧ getF S d 0 fs c = some (x, ren) := by
  have h' : (match S.lh d with
    | some (.cells c) => getF S d 0 fs c
    | _ => none) = some (x, ren) := h
  split at h'
  · rename_i c hc
    exact ⟨c, hc, h'⟩
  · cases h'

theorem get_lh (hS : SatB M p0 w0 S tm w p β) {β' : Nat → Value} {c : Cr} {x : c.den} {ren : List (Nat × Option Nat)} (h : c.get S = some (x, ren)) (hf : Fits β β' ren) (hbox : ∀ d ∈ c.boxName, β' d = β d)
    {d : Nat} {e : LE} (he : c.lhOf x d = some e) : e.sat p β' w d ∧ Owner S β β' ren c.boxName d ∧ (∀ t T xs, e = .row t T xs → d ∈ ren.map (·.1)) := by
  have own_of : ∀ {nm : Nat} {src : Option Nat} {boxes : List Nat} {e : TypeId} {T : Ty} {xs : List T.den}, β' nm = ghost β src → (nm, src) ∈ ren → (∀ d, src = some d → S.lh d = some (.row e T xs) ∧ S.lock d = false) → Owner S β β' ren boxes nm := by
    intro nm src boxes e T xs h1 h2 h3 b hb
    rw [h1] at hb
    cases src with
    | none => cases hb
    | some d0 => exact ⟨d0, _, (h3 d0 rfl).1, rfl, hb, .inr h2⟩
  cases c with
  | dat s' T => simp [Cr.lhOf] at he
  | same _ _ => simp [Cr.lhOf] at he
  | own s' t T =>
    obtain ⟨y, hy, h0⟩ := Option.map_eq_some_iff.1 h
    injection h0 with h0 h00
    subst h0
    subst h00
    simp only [Cr.lhOf] at he
    split at he <;> simp only [Option.some.injEq, reduceCtorEq] at he
    rename_i hs
    have := Nat.eq_of_beq_eq_true hs
    subst this
    subst he
    obtain ⟨_, h2, h3⟩ := rowAt_sound hS (xs := y.1) (src := y.2) hy
    have h4 := hf (d, y.2) (by simp)
    simp only at h4
    refine ⟨by simpa only [LE.sat, h4] using h2, own_of h4 (by simp) h3, fun _ _ _ _ => by simp⟩
  | box d' T =>
    unfold Cr.get at h
    simp only at h
    split at h
    case h_2 => cases h
    rename_i c' hc
    obtain ⟨y, hy, h0⟩ := Option.map_eq_some_iff.1 h
    injection h0 with h0 h00
    subst h0
    subst h00
    simp only [Cr.lhOf] at he
    split at he <;> simp only [Option.some.injEq, reduceCtorEq] at he
    rename_i hs
    have := Nat.eq_of_beq_eq_true hs
    subst this
    subst he
    have hb := hbox d (by simp [Cr.boxName])
    obtain ⟨b, cs, ty, e1, e2, e3⟩ := hS.lhs d _ hc
    have h5 := toTy_sound hS (rows := false) T _ y _ hy e3
    simp only [Bool.false_eq_true, if_false] at h5
    refine ⟨⟨b, cs, ty, hb.trans e1, e2, Ty.av_cells T y _ h5⟩, fun b' hb' => ⟨d, _, hc, rfl, by rw [← hb]; exact hb', .inl ⟨rfl, by simp [Cr.boxName]⟩⟩, fun _ _ _ h => by cases h⟩
  | map d' k V =>
    unfold Cr.get at h
    simp only at h
    split at h <;> try cases h
    rename_i k' V' m hc
    split at h <;> try cases h
    rename_i hT
    obtain ⟨rfl, rfl⟩ := hT
    simp only [Cr.lhOf] at he
    split at he <;> simp only [Option.some.injEq, reduceCtorEq] at he
    rename_i hs
    have := Nat.eq_of_beq_eq_true hs
    subst this
    subst he
    have hb := hbox d (by simp [Cr.boxName])
    obtain ⟨r, es, clock, e1, e2⟩ := hS.lhs d _ hc
    refine ⟨⟨r, es, clock, hb.trans e1, e2⟩, fun b' hb' => ⟨d, _, hc, rfl, by rw [← hb]; exact hb', .inl ⟨rfl, by simp [Cr.boxName]⟩⟩, fun _ _ _ h => by cases h⟩
  | boxS d' fs =>
    have hx := boxS_get h
    obtain ⟨c', hc, h⟩ := hx
    have hb := hbox d' (by simp [Cr.boxName])
    simp only [Cr.lhOf] at he
    split at he
    · simp only [Option.some.injEq] at he
      rename_i hs
      have := Nat.eq_of_beq_eq_true hs
      subst this
      subst he
      obtain ⟨b, cs, ty, e1, e2, e3⟩ := hS.lhs d _ hc
      exact ⟨⟨b, cs, ty, hb.trans e1, e2, getF_cells hS fs 0 c' x ren _ h hf e3⟩, fun b' hb' => ⟨d, _, hc, rfl, by rw [← hb]; exact hb', .inl ⟨rfl, by simp [Cr.boxName]⟩⟩, fun _ _ _ h => by cases h⟩
    · obtain ⟨k1, k2, k3⟩ := getF_row hS fs 0 c' x ren h hf (fun _ h => h) he
      exact ⟨k1, k2, fun _ _ _ _ => k3⟩

theorem gets_env (hS : SatB M p0 w0 S tm w p β) {β' : Nat → Value} : ∀ (cs : List Cr) (x : CDens cs) (ren : List (Nat × Option Nat)), gets S cs = some (x, ren) → Fits β β' ren → (∀ s s' d, Cr.same s s' ∈ cs → S.env s' = .own d → β' s' = β d) → ∀ {s : Nat} {a : AV}, envOf cs x s = some a →
    a.val p β' tm (tm.getD s undef)
  | [], _, _, _, _, _, _, _, he => by cases he
  | [c], x, ren, h, hf, hsm, _, _, he => get_env hS h hf (fun s s' d e => hsm s s' d (by simp [e])) he
  | c :: d :: cs, x, ren, h, hf, hsm, s, a, he => by
    unfold gets at h
    split at h <;> try cases h
    rename_i x1 r1 y r2 h1 h2
    simp only [envOf] at he
    split at he
    · rename_i a' ha
      injection he with he
      subst he
      exact get_env hS h1 (fun z hz => hf z (List.mem_append_left _ hz)) (fun s s' d e => hsm s s' d (by simp [e])) ha
    · exact gets_env hS (d :: cs) y r2 h2 (fun z hz => hf z (List.mem_append_right _ hz)) (fun s s' d hm => hsm s s' d (List.mem_cons_of_mem _ hm)) he

theorem gets_lh (hS : SatB M p0 w0 S tm w p β) {β' : Nat → Value} : ∀ (cs : List Cr) (x : CDens cs) (ren : List (Nat × Option Nat)), gets S cs = some (x, ren) → Fits β β' ren → (∀ d ∈ cs.flatMap Cr.boxName, β' d = β d) →
    ∀ {d : Nat} {e : LE}, lhOf cs x d = some e → e.sat p β' w d ∧ Owner S β β' ren (cs.flatMap Cr.boxName) d ∧ (∀ t T xs, e = .row t T xs → d ∈ ren.map (·.1))
  | [], _, _, _, _, _, _, _, he => by cases he
  | [c], x, ren, h, hf, hb, d, e, he => by
    obtain ⟨h1, h2, h3⟩ := get_lh hS h hf (fun d hd => hb d (by simpa using hd)) he
    refine ⟨h1, fun b hb' => ?_, h3⟩
    obtain ⟨d0, e0, k1, k2, k3, k4⟩ := h2 b hb'
    exact ⟨d0, e0, k1, k2, k3, k4.imp (fun k => ⟨k.1, by simpa using k.2⟩) id⟩
  | c :: d' :: cs, x, ren, h, hf, hb, d, e, he => by
    unfold gets at h
    split at h <;> try cases h
    rename_i x1 r1 y r2 h1 h2
    simp only [lhOf] at he
    split at he
    · rename_i a' ha
      injection he with he
      subst he
      obtain ⟨k1, k2, k3⟩ := get_lh hS h1 (fun z hz => hf z (List.mem_append_left _ hz)) (fun d hd => hb d (by simp only [List.flatMap_cons]; exact List.mem_append_left _ hd)) ha
      refine ⟨k1, fun b hb' => ?_, fun t T xs e => by simp only [List.map_append]; exact List.mem_append_left _ (k3 t T xs e)⟩
      obtain ⟨d0, e0, q1, q2, q3, q4⟩ := k2 b hb'
      exact ⟨d0, e0, q1, q2, q3, q4.imp (fun k => ⟨k.1, by simp only [List.flatMap_cons]; exact List.mem_append_left _ k.2⟩) (fun k => List.mem_append_left _ k)⟩
    · obtain ⟨k1, k2, k3⟩ := gets_lh hS (d' :: cs) y r2 h2 (fun z hz => hf z (List.mem_append_right _ hz)) (fun d hd => hb d (by rw [List.flatMap_cons]; exact List.mem_append_right _ hd)) he
      refine ⟨k1, fun b hb' => ?_, fun t T xs e => by simp only [List.map_append]; exact List.mem_append_right _ (k3 t T xs e)⟩
      obtain ⟨d0, e0, q1, q2, q3, q4⟩ := k2 b hb'
      exact ⟨d0, e0, q1, q2, q3, q4.imp (fun k => ⟨k.1, by rw [List.flatMap_cons]; exact List.mem_append_right _ k.2⟩) (fun k => List.mem_append_right _ k)⟩
end
end Go.Proofs.Ytgnamdjmjkeodaa
