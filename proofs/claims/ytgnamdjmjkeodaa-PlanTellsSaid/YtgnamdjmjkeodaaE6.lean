/- The engine, part 6: contracts; calls; what an operation yields. -/
import Derived.Test.YtgnamdjmjkeodaaE5
namespace Go.Proofs.Ytgnamdjmjkeodaa
open Go

def Dens : List Ty → Type
  | [] => Unit
  | [T] => T.den
  | T :: U :: Ts => T.den × Dens (U :: Ts)

/-- What a function hands back: a datum; or a row of its own (its elements' type in the program, and avs data). -/
inductive RT where
  | dat (T : Ty)
  | own (e : TypeId) (T : Ty)
  | map (k : IntKind) (V : Ty)

def RT.den : RT → Type
  | .dat T => T.den
  | .own _ T => List T.den
  | .map _ V => List (Int × V.den)

def RDens : List RT → Type
  | [] => Unit
  | [R] => R.den
  | R :: U :: Rs => R.den × RDens (U :: Rs)

def Ty.vholds (p : PH) (T : Ty) (x : T.den) (v : Value) : Prop :=
  match T, x with
  | .pair A B, x => ∃ cs, v = .agg cs ∧ (Ty.pair A B).holds p x cs.toList
  | T, x => T.holds p x [v]

def argsHold (p : PH) : (Ts : List Ty) → Dens Ts → List Value → Prop
  | [], _, vs => vs = []
  | [T], x, vs => ∃ v, vs = [v] ∧ T.vholds p x v
  | T :: U :: Ts, x, vs => ∃ v rest, vs = v :: rest ∧ T.vholds p x.1 v ∧ argsHold p (U :: Ts) x.2 rest

def RT.holds (w : World) (B : Nat) (r q : PH) : (R : RT) → R.den → Value → Prop
  | .dat T, x, v => T.vholds r x v
  | .own e T, xs, v => (∃ l, w.ownsRow B e T.size v xs.length l ∧ rowHold (T.holds r) xs l ∧ xs.length * T.bytes ≤ big) ∧ ∀ b, blkOf v = some b → q b = none
  | .map k V, m, v => (∃ g es clock, v = .map (some g) ∧ B ≤ g ∧ w.heap[g]? = some (.map es clock) ∧ Stamped es clock ∧ mapHold k (fun x v => vhold V (V.holds r x) v) m es.toList) ∧ ∀ b, blkOf v = some b → q b = none

def RT.blk : RT → Value → Option Nat
  | .own _ _, v => blkOf v
  | .map _ _, v => blkOf v
  | .dat _, _ => none

/-- The results, value by value; the blocks of the rows among them differ (bs: those that are taken). -/
def resHold (w : World) (B : Nat) (r q : PH) : (Rs : List RT) → RDens Rs → List Value → List Nat → Prop
  | [], _, vs, _ => vs = []
  | [R], x, vs, bs => ∃ v, vs = [v] ∧ R.holds w B r q x v ∧ ∀ b, R.blk v = some b → b ∉ bs
  | R :: U :: Rs, x, vs, bs => ∃ v rest, vs = v :: rest ∧ R.holds w B r q x.1 v ∧ (∀ b, R.blk v = some b → b ∉ bs) ∧
      resHold w B r q (U :: Rs) x.2 rest (match R.blk v with | some b => b :: bs | none => bs)

def retValue : List Value → Value
  | [v] => v
  | vs => .tuple vs.toArray

structure Spec where
  Ts : List Ty
  Rs : List RT
  al : Bool := false
  pre : Dens Ts → Prop
  F : Dens Ts → RDens Rs

/-- The contract: whatever memory the arguments read in, the call returns what F says; nothing that was there has turned. -/
def Spec.ok (s : Spec) (P : Program) (f : FuncId) : Prop :=
  ∀ (p : PH) (w : World) (vs : List Value) (x : Dens s.Ts), Agrees p w → argsHold p s.Ts x vs → s.pre x →
    Calls P f vs.toArray w fun e w' => ∃ (rs : List Value) (q : PH), e = .returned (retValue rs) ∧ Keep (fun _ => False) w w' ∧ (∀ b cs, q b = some cs → w.heap.size ≤ b) ∧ Agrees q w' ∧
      resHold w' w.heap.size (if s.al then p.union q else q) q s.Rs (s.F x) rs []

abbrev Specs := FuncId → Option Spec
def Specs.ok (ss : Specs) (P : Program) : Prop := P = Try.prog ∧ ∀ f s, ss f = some s → s.ok P f

/-- The datum that an abstract value is (rows: may a row of the call's own be read avs data?). -/
def AV.toTy (rows : Bool) (lh : Nat → Option LE) : (T : Ty) → AV → Option T.den
  | .int k, .int k' n => if k' = k then some n else none
  | .bool, .bool b => some b
  | .str, .str s => some s
  | .arr T, a => match a with
    | .nils => some ([] : List T.den)
    | .sl T' xs => if h : T' = T then some (h ▸ xs) else none
    | .own d => match lh d with
      | some (.froz T' xs) => if h : T' = T then some (h ▸ xs) else none
      | some (.row _ T' xs) => if rows then (if h : T' = T then some (h ▸ xs) else none) else none
      | _ => none
    | _ => none
  | .pair A B, a => match AV.toTy rows lh A (a.take A.size), AV.toTy rows lh B (a.drop A.size) with
    | some x, some y => some (x, y)
    | _, _ => none
  | .nil, a => match a with
    | .nils => some ()
    | _ => none
  | .ref T, a => match a with
    | .pt T' x 0 => if h : T' = T then some (h ▸ x) else none
    | .loc d 0 => if rows then match lh d with
      | some (.cells c) => AV.toTy true lh T c
      | _ => none
      else none
    | _ => none
  | .fn A B, a => match a with
    | .fd A' B' g => if h : A' = A ∧ B' = B then some (h.1 ▸ h.2 ▸ g) else none
    | _ => none
  | .map k V, a => match a with
    | .nilm => some ([] : List (Int × V.den))
    | .md k' V' m => if h : k' = k ∧ V' = V then some (h.2 ▸ m) else none
    | .mp d => match lh d with
      | some (.frozm k' V' m) => if h : k' = k ∧ V' = V then some (h.2 ▸ m) else none
      | some (.mapp k' V' m) => if rows then (if h : k' = k ∧ V' = V then some (h.2 ▸ m) else none) else none
      | _ => none
    | _ => none
  | _, _ => none

def toTysF (g : (T : Ty) → AV → Option T.den) : (Ts : List Ty) → List AV → Option (Dens Ts)
  | [], avs => match avs with
    | [] => some ()
    | _ :: _ => none
  | [T], avs => match avs with
    | [a] => g T a
    | _ => none
  | T :: U :: Ts, avs => match avs with
    | [] => none
    | a :: avs => match g T a, toTysF g (U :: Ts) avs with
      | some x, some y => some (x, y)
      | _, _ => none

def toTys (rows : Bool) (lh : Nat → Option LE) : (Ts : List Ty) → List AV → Option (Dens Ts) := toTysF fun T a => a.toTy rows lh T

/-- All that lies in cells now. -/
def full (w : World) : PH := fun b => match w.heap[b]? with | some (.cells cs _ _) => some (.cells cs) | some (.map es _) => some (.map es) | _ => none

section
variable {M : Nat → Prop} {p0 : PH} {w0 : World} {S : St} {tm : Array Value} {w : World} {p : PH} {β : Nat → Value} {P : Program}

theorem full_agrees (w : World) : Agrees (full w) w := by
  intro b cs h
  unfold full at h
  split at h
  · rename_i cs' t fz e
    injection h with h
    subst h
    exact ⟨t, fz, e⟩
  · rename_i es c e
    injection h with h
    subst h
    exact ⟨c, e⟩
  · cases h

theorem le_full (h : Agrees p w) : PH.le p (full w) := by
  intro b cs hb
  have h1 := h b cs hb
  cases cs with
  | cells cs => obtain ⟨t, fz, e⟩ := h1; simp [full, e]
  | map es => obtain ⟨c, e⟩ := h1; simp [full, e]

theorem holds_arr_one {T : Ty} {xs : List T.den} {cs : List Value} (h : (Ty.arr T).holds p xs cs) : ∃ v, cs = [v] := by
  obtain ⟨A, c, l, e, _⟩ := h
  exact ⟨_, e⟩

theorem row_holds_full (hS : SatB M p0 w0 S tm w p β) {d : Nat} {e : TypeId} {T : Ty} {xs : List T.den} (hd : S.lh d = some (.row e T xs)) : (Ty.arr T).holds (full w) xs [β d] := by
  obtain ⟨l, h1, h2, h3⟩ := hS.lhs d _ hd
  rcases h1.2 with ⟨e0, h0⟩ | ⟨g, cap, cur, e1, _, e2, e3, _, e4, e5⟩
  · have : xs = [] := List.eq_nil_of_length_eq_zero h0
    subst this
    exact ⟨none, 0, [], by rw [e0]; rfl, by simp, by simp, rfl, fun h => absurd rfl h⟩
  · refine ⟨_, cap, l, by rw [e1], e3, h3, rowHold_mono (fun x cs h => Ty.holds_mono (le_full hS.agr) T x cs h) _ _ h2, fun _ => ⟨g, 0, rfl, fun j u hu => ?_⟩⟩
    have : (full w) g = some (.cells cur) := by simp [full, e2]
    simp only [PH.cell, this, Nat.zero_add, Option.bind_some, Blk.get]
    rw [← e5, List.getElem?_take] at hu
    split at hu
    · simpa using hu
    · cases hu

theorem take_any (n : Nat) : AV.any.take n = .any := by
  match n with
  | 0 => rfl
  | 1 => rfl
  | k + 2 => rfl

theorem toTy_any {rows : Bool} {lh : Nat → Option LE} : ∀ (T : Ty), AV.toTy rows lh T .any = none
  | .int _ => rfl
  | .bool => rfl
  | .str => rfl
  | .arr _ => rfl
  | .nil => rfl
  | .ref _ => rfl
  | .fn _ _ => rfl
  | .map _ _ => rfl
  | .pair A B => by
    have := toTy_any (rows := rows) (lh := lh) A
    simp only [AV.toTy, take_any, this]

theorem toTy_sound (hS : SatB M p0 w0 S tm w p β) {rows : Bool} : ∀ (T : Ty) (a : AV) (x : T.den) (cs : List Value), a.toTy rows S.lh T = some x → a.cells p β cs → T.holds (if rows then full w else p) x cs
  | .int k, a, x, cs, h, hc => by
    cases a <;> (first | (simp [AV.toTy] at h; done) | skip)
    simp only [AV.toTy] at h
    split at h
    · rename_i hk
      subst hk
      injection h with h
      subst h
      obtain ⟨v, rfl, hv⟩ := (AV.cells_leaf _ (by intro x y e; cases e) cs).1 hc
      exact ⟨by rw [hv.1], hv.2⟩
    · cases h
  | .bool, a, x, cs, h, hc => by
    cases a <;> (first | (simp [AV.toTy] at h; done) | skip)
    simp only [AV.toTy] at h
    injection h with h
    subst h
    obtain ⟨v, rfl, hv⟩ := (AV.cells_leaf _ (by intro x y e; cases e) cs).1 hc
    simp only [AV.one] at hv
    simp only [Ty.holds, hv]
  | .str, a, x, cs, h, hc => by
    cases a <;> (first | (simp [AV.toTy] at h; done) | skip)
    simp only [AV.toTy] at h
    injection h with h
    subst h
    obtain ⟨v, rfl, hv⟩ := (AV.cells_leaf _ (by intro x y e; cases e) cs).1 hc
    exact ⟨by rw [hv.1], hv.2⟩
  | .arr T, a, x, cs, h, hc => by
    have up : ∀ {xs : List T.den} {v : Value}, (Ty.arr T).holds p xs [v] → (Ty.arr T).holds (if rows then full w else p) xs [v] := by
      intro xs v hv
      cases rows
      · exact hv
      · exact Ty.holds_mono (le_full hS.agr) _ _ _ hv
    cases a <;> (first | (simp [AV.toTy] at h; done) | skip)
    · simp only [AV.toTy] at h
      injection h with h
      subst h
      obtain ⟨v, rfl, hv⟩ := (AV.cells_leaf _ (by intro x y e; cases e) cs).1 hc
      simp only [AV.one] at hv
      subst hv
      exact ⟨none, 0, [], rfl, by simp, by simp, rfl, fun h => absurd rfl h⟩
    · simp only [AV.toTy] at h
      split at h
      · rename_i hT
        subst hT
        injection h with h
        subst h
        obtain ⟨v, rfl, hv⟩ := (AV.cells_leaf _ (by intro x y e; cases e) cs).1 hc
        exact up hv
      · cases h
    · rename_i d
      obtain ⟨v, rfl, hv⟩ := (AV.cells_leaf _ (by intro x y e; cases e) cs).1 hc
      simp only [AV.one] at hv
      subst hv
      simp only [AV.toTy] at h
      split at h
      · rename_i T' xs hd
        split at h
        · rename_i hT
          subst hT
          injection h with h
          subst h
          exact up (hS.lhs d _ hd)
        · cases h
      · rename_i e T' xs hd
        cases rows
        · simp at h
        · simp only [if_true] at h
          split at h
          · rename_i hT
            subst hT
            injection h with h
            subst h
            exact row_holds_full hS hd
          · cases h
      · cases h
  | .pair A B, a, x, cs, h, hc => by
    simp only [AV.toTy] at h
    split at h
    · rename_i x1 y1 h1 h2
      injection h with h
      subst h
      have hA := Ty.size_pos A
      -- the parts' cells
      have key : A.size < cs.length := by
        rcases Nat.lt_or_ge A.size cs.length with hlt | hge
        · exact hlt
        · exfalso
          have hl := AV.len_cells a cs hc
          have : (a.drop A.size) = .any := by
            have gen : ∀ (k : Nat) (a : AV), a.len ≤ k → 0 < k → a.drop k = .any := by
              intro k
              induction k with
              | zero => intro a _ h; omega
              | succ k ih =>
                intro a hle _
                cases a <;> simp only [AV.drop]
                rename_i x y
                simp only [AV.len] at hle
                rcases Nat.eq_zero_or_pos k with hk | hk
                · subst hk
                  cases y <;> simp only [AV.len] at hle <;> omega
                · exact ih y (by omega) hk
            exact gen A.size a (by omega) hA
          rw [this] at h2
          rw [toTy_any] at h2
          cases h2
      refine ⟨cs.take A.size, cs.drop A.size, (List.take_append_drop _ _).symm, ?_, ?_⟩
      · exact toTy_sound hS A _ _ _ h1 (AV.cells_take _ a cs hc hA (by omega))
      · exact toTy_sound hS B _ _ _ h2 (AV.cells_drop _ a cs hc key)
    · cases h
  | .nil, a, x, cs, h, hc => by
    cases a <;> (first | (simp [AV.toTy] at h; done) | skip)
    obtain ⟨v, rfl, hv⟩ := (AV.cells_leaf _ (by intro x y e; cases e) cs).1 hc
    simp only [AV.one] at hv
    subst hv
    exact rfl
  | .fn A B, a, x, cs, h, hc => by
    cases a <;> (first | (simp [AV.toTy] at h; done) | skip)
    simp only [AV.toTy] at h
    split at h
    · rename_i hT
      obtain ⟨rfl, rfl⟩ := hT
      injection h with h
      subst h
      obtain ⟨v, rfl, hv⟩ := (AV.cells_leaf _ (by intro x y e; cases e) cs).1 hc
      cases rows
      · exact hv
      · exact Ty.holds_mono (le_full hS.agr) _ _ _ hv
    · cases h
  | .map k V, a, x, cs, h, hc => by
    have hle : PH.le p (if rows = true then full w else p) := by
      cases rows
      · exact PH.le.refl p
      · exact le_full hS.agr
    cases a <;> (first | (simp [AV.toTy] at h; done) | skip)
    · rename_i d
      obtain ⟨v, rfl, hv⟩ := (AV.cells_leaf _ (by intro x y e; cases e) cs).1 hc
      simp only [AV.one] at hv
      subst hv
      simp only [AV.toTy] at h
      split at h
      · rename_i k' V' m hd
        split at h
        · rename_i hT
          obtain ⟨rfl, rfl⟩ := hT
          injection h with h
          subst h
          exact Ty.holds_mono hle _ _ _ (hS.lhs d _ hd)
        · cases h
      · rename_i k' V' m hd
        cases rows
        · simp at h
        · simp only [if_true] at h hle ⊢
          split at h
          · rename_i hT
            obtain ⟨rfl, rfl⟩ := hT
            injection h with h
            subst h
            obtain ⟨r, es, clock, e1, e2, _, e4⟩ := hS.lhs d _ hd
            exact .inr ⟨r, es, by rw [e1], by simp [full, e2], mapHold_mono (fun x _ => vhold_mono (fun cs => Ty.holds_mono hle V' x cs)) _ _ e4⟩
          · cases h
      · cases h
    · simp only [AV.toTy] at h
      split at h
      · rename_i hT
        obtain ⟨rfl, rfl⟩ := hT
        injection h with h
        subst h
        obtain ⟨v, rfl, hv⟩ := (AV.cells_leaf _ (by intro x y e; cases e) cs).1 hc
        exact Ty.holds_mono hle _ _ _ hv
      · cases h
    · simp only [AV.toTy] at h
      injection h with h
      subst h
      obtain ⟨v, rfl, hv⟩ := (AV.cells_leaf _ (by intro x y e; cases e) cs).1 hc
      simp only [AV.one] at hv
      subst hv
      exact .inl ⟨rfl, rfl⟩
  | .ref T, a, x, cs, h, hc => by
    cases a <;> (first | (simp [AV.toTy] at h; done) | skip)
    · rename_i d off
      simp only [AV.toTy] at h
      split at h
      · rename_i hl; cases hl
      case h_3 => cases h
      rename_i d' hl
      injection hl with hd ho
      subst hd ho
      split at h <;> try cases h
      rename_i hr
      subst hr
      have hcc : ∃ c, S.lh d = some (.cells c) ∧ AV.toTy true S.lh T c = some x := by
        cases hl : S.lh d with
        | none => rw [hl] at h; cases h
        | some e => cases e <;> rw [hl] at h <;> first | (cases h; done) | exact ⟨_, rfl, h⟩
      obtain ⟨c, hd, h⟩ := hcc
      obtain ⟨v, rfl, hv⟩ := (AV.cells_leaf _ (by intro x y e; cases e) cs).1 hc
      obtain ⟨b, e1, rfl⟩ := hv
      obtain ⟨b', cs', t, e2, e3, e4⟩ := hS.lhs d _ hd
      rw [e1] at e2
      injection e2 with e2
      injection e2 with e2
      injection e2 with e2
      subst e2
      have hh := toTy_sound hS (rows := true) T c x _ h e4
      simp only [if_true] at hh ⊢
      refine ⟨b, 0, _, rfl, hh, fun j u hu => ?_⟩
      have : (full w) b = some (.cells cs') := by simp [full, e3]
      simp only [PH.cell, this, Nat.zero_add, Option.bind_some, Blk.get]
      simpa using hu
    · simp only [AV.toTy] at h
      split at h
      case h_2 => rename_i hl; cases hl
      case h_3 => cases h
      rename_i T' y hl
      split at h <;> try cases h
      rename_i hT
      subst hT
      injection hl with h1 h2 h3
      subst h1 h3
      have h2 := eq_of_heq h2
      subst h2
      obtain ⟨v, rfl, hv⟩ := (AV.cells_leaf _ (by intro x y e; cases e) cs).1 hc
      obtain ⟨b, o, es, rfl, k1, k2⟩ := hv
      have hle : PH.le p (if rows = true then full w else p) := by
        cases rows
        · exact PH.le.refl p
        · exact le_full hS.agr
      exact ⟨b, o, es, by simp, Ty.holds_mono hle _ _ _ k1, fun j u hu => hle.cell (k2 j u hu)⟩

theorem toTy_vsound (hS : SatB M p0 w0 S tm w p β) {rows : Bool} {T : Ty} {a : AV} {x : T.den} {v : Value} (h : a.toTy rows S.lh T = some x) (ha : a.val p β tm v) : T.vholds (if rows then full w else p) x v := by
  by_cases hp : ∃ y z, a = .pair y z
  · obtain ⟨y, z, rfl⟩ := hp
    obtain ⟨cs, rfl, hc⟩ := ha
    have hh := toTy_sound hS T _ x _ h hc
    cases T with
    | pair A B => exact ⟨cs, rfl, hh⟩
    | _ => simp [AV.toTy] at h
  · cases T with
    | pair A B =>
      exfalso
      simp only [AV.toTy] at h
      have hA := Ty.size_pos A
      have : a.drop A.size = .any := by
        match hk : A.size, hA with
        | k + 1, _ => cases a <;> first | rfl | exact absurd ⟨_, _, rfl⟩ hp
      rw [this, toTy_any] at h
      split at h <;> simp_all
    | int k =>
      cases a <;> (first | (simp [AV.toTy] at h; done) | skip)
      exact toTy_sound hS (.int k) _ x [v] h (AV.one_cells ha)
    | bool =>
      cases a <;> (first | (simp [AV.toTy] at h; done) | skip)
      exact toTy_sound hS .bool _ x [v] h (AV.one_cells (p := p) (β := β) ha)
    | str =>
      cases a <;> (first | (simp [AV.toTy] at h; done) | skip)
      exact toTy_sound hS .str _ x [v] h (AV.one_cells (p := p) (β := β) ha)
    | arr T =>
      cases a <;> (first | (simp [AV.toTy] at h; done) | skip)
      · exact toTy_sound hS (.arr T) _ x [v] h (AV.one_cells (p := p) (β := β) ha)
      · exact toTy_sound hS (.arr T) _ x [v] h (AV.one_cells (p := p) (β := β) ha)
      · exact toTy_sound hS (.arr T) _ x [v] h (AV.one_cells (p := p) (β := β) ha)
    | nil =>
      cases a <;> (first | (simp [AV.toTy] at h; done) | skip)
      exact toTy_sound hS .nil _ x [v] h (AV.one_cells (p := p) (β := β) ha)
    | ref T =>
      cases a <;> (first | (simp [AV.toTy] at h; done) | skip)
      · exact toTy_sound hS (.ref T) _ x [v] h (AV.one_cells (p := p) (β := β) ha)
      · exact toTy_sound hS (.ref T) _ x [v] h (AV.one_cells (p := p) (β := β) ha)
    | fn A B =>
      cases a <;> (first | (simp [AV.toTy] at h; done) | skip)
      exact toTy_sound hS (.fn A B) _ x [v] h (AV.one_cells (p := p) (β := β) ha)
    | map k V =>
      cases a <;> (first | (simp [AV.toTy] at h; done) | skip)
      · exact toTy_sound hS (.map k V) _ x [v] h (AV.one_cells (p := p) (β := β) ha)
      · exact toTy_sound hS (.map k V) _ x [v] h (AV.one_cells (p := p) (β := β) ha)
      · exact toTy_sound hS (.map k V) _ x [v] h (AV.one_cells (p := p) (β := β) ha)

theorem toTysF_sound {g : (T : Ty) → AV → Option T.den} {r : PH} (hg : ∀ (T : Ty) (a : AV) (x : T.den) (v : Value), g T a = some x → a.val p β tm v → T.vholds r x v) :
    ∀ (Ts : List Ty) (avs : List AV) (x : Dens Ts) (vs : List Value), toTysF g Ts avs = some x → vs.length = avs.length →
    (∀ (i : Nat) a v, avs[i]? = some a → vs[i]? = some v → a.val p β tm v) → argsHold r Ts x vs
  | [], avs, x, vs, h, hl, _ => by
    cases avs with
    | nil => exact List.eq_nil_of_length_eq_zero hl
    | cons a avs => cases h
  | [T], avs, x, vs, h, hl, hv => by
    match avs, h, hl, hv with
    | [a], h, hl, hv =>
      match vs, hl, hv with
      | [v], _, hv => exact ⟨v, rfl, hg T a x v h (hv 0 a v rfl rfl)⟩
  | T :: U :: Ts, avs, x, vs, h, hl, hv => by
    match avs, h, hl, hv with
    | a :: avs, h, hl, hv =>
      match vs, hl, hv with
      | v :: vs, hl, hv =>
        unfold toTysF at h
        simp only at h
        split at h
        · rename_i y z h1 h2
          injection h with h
          subst h
          exact ⟨v, vs, rfl, hg T a y v h1 (hv 0 a v rfl rfl), toTysF_sound hg (U :: Ts) avs z vs h2 (by simpa using hl) (fun i a v ha hb => hv (i + 1) a v (by simpa using ha) (by simpa using hb))⟩
        · cases h

theorem toTys_sound (hS : SatB M p0 w0 S tm w p β) {rows : Bool} (Ts : List Ty) (avs : List AV) (x : Dens Ts) (vs : List Value) (h : toTys rows S.lh Ts avs = some x) (hl : vs.length = avs.length)
    (hv : ∀ (i : Nat) a v, avs[i]? = some a → vs[i]? = some v → a.val p β tm v) : argsHold (if rows then full w else p) Ts x vs :=
  toTysF_sound (fun _ _ _ _ h ha => toTy_vsound hS h ha) Ts avs x vs h hl hv
end
end Go.Proofs.Ytgnamdjmjkeodaa
