/- The engine, part 7: constants, structs, parts of slices, min and max. -/
import Derived.Test.YtgnamdjmjkeodaaE6
namespace Go.Proofs.Ytgnamdjmjkeodaa
open Go

def inRb : IntKind → Int → Bool
  | .i8, n => decide (-128 ≤ n) && decide (n ≤ 127)
  | .i16, n => decide (-32768 ≤ n) && decide (n ≤ 32767)
  | .i32, n => decide (-2147483648 ≤ n) && decide (n ≤ 2147483647)
  | .i64, n => decide (-9223372036854775808 ≤ n) && decide (n ≤ 9223372036854775807)
  | .u8, n => decide (0 ≤ n) && decide (n ≤ 255)
  | .u16, n => decide (0 ≤ n) && decide (n ≤ 65535)
  | .u32, n => decide (0 ≤ n) && decide (n ≤ 4294967295)
  | .u64, n => decide (0 ≤ n) && decide (n ≤ 18446744073709551615)

/-- A constant of one cell. -/
def AV.ofLeaf : Value → AV
  | .int k n => if inRb k n then .int k n else .any
  | .bool b => .bool b
  | .string s => if Nat.ble s.data.toList.length big then .str s.data.toList else .any
  | .slice none 0 0 => .nils
  | .map none => .nilm
  | _ => .any

def AV.ofCells : List Value → AV
  | [] => .any
  | [v] => .ofLeaf v
  | v :: u :: cs => .pair (.ofLeaf v) (AV.ofCells (u :: cs))

def AV.ofConst : Value → AV
  | .agg cs => if Nat.ble 2 cs.toList.length then AV.ofCells cs.toList else .any
  | v => .ofLeaf v

def cellsIn (P : Program) (t : TypeId) : Option Nat := (P.info? t).map (·.size)

def partOK (lh : Nat → Option LE) : AV → Bool
  | .int .. => true
  | .bool _ => true
  | .str _ => true
  | .nils => true
  | .sl .. => true
  | .own d => match lh d with
    | some (.row ..) => true
    | some (.froz ..) => true
    | _ => false
  | .pair .. => true
  | .loc .. => true
  | .pt .. => true
  | .fn .. => true
  | .nilm => true
  | .md .. => true
  | .mp d => match lh d with
    | some (.mapp ..) => true
    | some (.frozm ..) => true
    | _ => false
  | _ => false

def evFill (P : Program) (lh : Nat → Option LE) (fs : Array Field) (ρ : Operand → AV) : List (Nat × Operand) → AV → Option AV
  | [], c => some c
  | (i, x) :: rest, c => match fs[i]? with
    | none => none
    | some f => match cellsIn P f.type with
      | none => none
      | some n => if Nat.beq n 0 then none else if Nat.beq (ρ x).len n && Nat.ble (f.offset + n) c.len && partOK lh (ρ x)
          then evFill P lh fs ρ rest (AV.put f.offset (ρ x) n c) else none

def evBuild (P : Program) (lh : Nat → Option LE) (t : TypeId) (parts : List (Nat × Operand)) (ρ : Operand → AV) : Res :=
  match P.info? t with
  | none => none
  | some i => match i.zero with
    | some (.agg z) => if Nat.ble 2 z.toList.length then (match P.underlying t with
      | some (.struct fs) => (evFill P lh fs ρ parts (AV.ofCells z.toList)).map fun c => ([], c)
      | _ => none) else none
    | _ => none

/-- The greatest (mx), or the least, of some numbers. -/
def evMM (mx : Bool) : List AV → AV → Option AV
  | [], .int k a => some (.int k a)
  | .int k' b :: rest, .int k a => if k' = k then evMM mx rest (.int k (bif mx then (if a < b then b else a) else (if b < a then b else a))) else none
  | _, _ => none

def evSlice (P : Program) (lh : Nat → Option LE) (t : TypeId) (x : AV) (lo hi : Option AV) : Res :=
  match (match x with
    | .sl T xs => if elemOK P t T then some (⟨T, xs⟩ : (T : Ty) × List T.den) else none
    | .own d => match lh d with
      | some (.froz T xs) => if elemOK P t T then some ⟨T, xs⟩ else none
      | _ => none
    | _ => none) with
  | some ⟨T, xs⟩ => match lo, hi with
    | none, none => some ([], .sl T xs)
    | some (.int _ a), none => some ([0 ≤ a, a ≤ (xs.length : Int)], .sl T (xs.drop a.toNat))
    | none, some (.int _ b) => some ([0 ≤ b, b ≤ (xs.length : Int)], .sl T (xs.take b.toNat))
    | some (.int _ a), some (.int _ b) => some ([0 ≤ a, a ≤ b, b ≤ (xs.length : Int)], .sl T ((xs.take b.toNat).drop a.toNat))
    | _, _ => none
  | none => match x with
    | .str s => if isStrT P t then (match lo, hi with
      | none, none => some ([], .str s)
      | some (.int _ a), none => some ([0 ≤ a, a ≤ (s.length : Int)], .str (s.drop a.toNat))
      | none, some (.int _ b) => some ([0 ≤ b, b ≤ (s.length : Int)], .str (s.take b.toNat))
      | some (.int _ a), some (.int _ b) => some ([0 ≤ a, a ≤ b, b ≤ (s.length : Int)], .str ((s.take b.toNat).drop a.toNat))
      | _, _ => none) else none
    | _ => none

def evStrIdx (P : Program) (t : TypeId) (x i : AV) : Res :=
  match x, i with
  | .str s, .int _ n => if isStrT P t then some ([0 ≤ n, n < (s.length : Int)], .int .u8 (((s.getD n.toNat 0).toNat : Nat) : Int)) else none
  | _, _ => none

def toLocs : List AV → Option (List (Nat × Nat))
  | [] => some []
  | .loc d off :: avs => (toLocs avs).map ((d, off) :: ·)
  | _ => none

section
variable {M : Nat → Prop} {p0 : PH} {w0 : World} {S : St} {tm : Array Value} {w : World} {p : PH} {β : Nat → Value} {P : Program}

theorem inRb_spec {k : IntKind} {n : Int} (h : inRb k n = true) : InR k n := by
  cases k <;> simpa [inRb, InR] using h

theorem ofLeaf_one (v : Value) : (AV.ofLeaf v).one p β v := by
  unfold AV.ofLeaf
  split
  · split
    · rename_i h; exact ⟨rfl, inRb_spec h⟩
    · trivial
  · rfl
  · split
    · rename_i s h; exact ⟨rfl, Nat.le_of_ble_eq_true h⟩
    · trivial
  · rfl
  · rfl
  · trivial

theorem ofCells_cells : ∀ (cs : List Value), cs ≠ [] → (AV.ofCells cs).cells p β cs
  | [], h => absurd rfl h
  | [v], _ => AV.one_cells (ofLeaf_one v)
  | v :: u :: cs, _ => ⟨ofLeaf_one v, ofCells_cells (u :: cs) (by simp)⟩

theorem ofConst_val (v : Value) : (AV.ofConst v).val p β tm v := by
  unfold AV.ofConst
  split
  · split
    · rename_i cs h
      have h := Nat.le_of_ble_eq_true h
      have := AV.val_of_cells_agg (tm := tm) (ofCells_cells (p := p) (β := β) cs.toList (by intro e; rw [e] at h; simp at h)) (by simpa using h)
      simpa using this
    · trivial
  · exact AV.val_of_one (ofLeaf_one v)

theorem AV.cells_put : ∀ (off : Nat) (v : AV) (n : Nat) (a : AV) (vs cs : List Value), a.cells p β cs → v.cells p β vs → vs.length = n → 0 < n → off + n ≤ cs.length →
    (AV.put off v n a).cells p β (cs.take off ++ vs ++ cs.drop (off + n))
  | 0, v, n, a, vs, cs, ha, hv, hn, h0, hl => by
    have hlen := AV.len_cells a cs ha
    simp only [List.take_zero, List.nil_append, Nat.zero_add]
    unfold AV.put
    split
    · rename_i hb
      have := Nat.eq_of_beq_eq_true hb
      rw [List.drop_of_length_le (by omega), List.append_nil]
      exact hv
    · rename_i hb
      have hne : a.len ≠ n := by intro e; rw [e] at hb; simp at hb
      exact AV.cells_app _ _ _ _ hv (AV.cells_drop n a cs ha (by omega))
  | off + 1, v, n, a, vs, cs, ha, hv, hn, h0, hl => by
    by_cases hp : ∀ x y, a ≠ .pair x y
    · obtain ⟨u, rfl, _⟩ := (AV.cells_leaf a hp cs).1 ha
      simp at hl
      omega
    · cases a <;> (first | (exfalso; apply hp; intro x y e; cases e; done) | skip)
      rename_i x y
      match cs, ha with
      | u :: cs, ha =>
        have ih := AV.cells_put off v n y vs cs ha.2 hv hn h0 (by simp at hl; omega)
        have e : off + 1 + n = (off + n) + 1 := by omega
        simp only [AV.put, e, List.take_succ_cons, List.drop_succ_cons, List.cons_append]
        exact ⟨ha.1, ih⟩

theorem foldl_set (off : Nat) : ∀ (vs : List Value) (k : Nat) (cs : Array Value), off + k + vs.length ≤ cs.size →
    ((vs.zipIdx k).foldl (fun cs (x : Value × Nat) => cs.setIfInBounds (off + x.2) x.1) cs).toList = cs.toList.take (off + k) ++ vs ++ cs.toList.drop (off + k + vs.length)
  | [], k, cs, _ => by simp
  | v :: vs, k, cs, h => by
    simp only [List.length_cons] at h
    have ih := foldl_set off vs (k + 1) (cs.setIfInBounds (off + k) v) (by simp; omega)
    simp only [List.zipIdx_cons, List.foldl_cons]
    rw [ih]
    have hlt : off + k < cs.toList.length := by simp; omega
    simp only [Array.toList_setIfInBounds, List.length_cons]
    rw [List.set_eq_take_append_cons_drop, if_pos hlt]
    have hl : (cs.toList.take (off + k)).length = off + k := by simp; omega
    have e1 : (cs.toList.take (off + k) ++ v :: cs.toList.drop (off + k + 1)).take (off + (k + 1)) = cs.toList.take (off + k) ++ [v] := by
      rw [List.take_append, hl, List.take_of_length_le (by rw [hl]; omega)]
      congr 1
      rw [show off + (k + 1) - (off + k) = 1 by omega]
      rfl
    have e2 : (cs.toList.take (off + k) ++ v :: cs.toList.drop (off + k + 1)).drop (off + (k + 1) + vs.length) = cs.toList.drop (off + k + (vs.length + 1)) := by
      rw [List.drop_append, hl, List.drop_of_length_le (by rw [hl]; omega), List.nil_append]
      rw [show off + (k + 1) + vs.length - (off + k) = vs.length + 1 by omega, List.drop_succ_cons, List.drop_drop]
      congr 1
      omega
    rw [e1, e2]
    simp

theorem val_cells (hS : SatB M p0 w0 S tm w p β) {a : AV} {v : Value} (h : a.val p β tm v) (hok : partOK S.lh a = true) : a.cells p β v.cells.toList := by
  cases a <;> (first | (cases hok; done) | skip)
  case pair x y =>
    obtain ⟨cs, rfl, hc⟩ := h
    exact hc
  case int k n => obtain ⟨rfl, hr⟩ := h; exact ⟨rfl, hr⟩
  case bool b => obtain rfl := val_bool h; exact rfl
  case str s => obtain ⟨rfl, hr⟩ := h; exact ⟨rfl, hr⟩
  case nils =>
    have h' : v = .slice none 0 0 := h
    subst h'; exact rfl
  case sl T xs =>
    have h' : (Ty.arr T).holds p xs [v] := h
    have hv : v.cells.toList = [v] := by
      obtain ⟨A, c, l, e, _⟩ := h'
      injection e with e _
      rw [e]; rfl
    rw [hv]
    exact AV.one_cells (β := β) h'
  case own d =>
    have h' : v = β d := h
    have hv : v.cells.toList = [v] := by
      simp only [partOK] at hok
      split at hok
      · rename_i hd
        obtain ⟨A, c, e, _⟩ := row_len hS hd
        rw [h', e]; rfl
      · rename_i hd
        obtain ⟨A, c, e, _⟩ := arr_len (hS.lhs _ _ hd)
        rw [h', e]; rfl
      · cases hok
    rw [hv]
    exact AV.one_cells (p := p) h'
  case loc d off =>
    obtain ⟨b, e, rfl⟩ := h
    exact AV.one_cells (p := p) (a := .loc d off) ⟨b, e, rfl⟩
  case pt T x off =>
    obtain ⟨b, o, es, rfl, h1, h2⟩ := h
    exact AV.one_cells (β := β) (a := .pt T x off) ⟨b, o, es, rfl, h1, h2⟩
  case fn f c1 c2 =>
    obtain ⟨v1, v2, rfl, h1, h2⟩ := h
    exact AV.one_cells (p := p) (a := .fn f c1 c2) ⟨v1, v2, rfl, h1, h2⟩
  case nilm =>
    have h' : v = .map none := h
    subst h'; exact rfl
  case md k V m =>
    have h' : (Ty.map k V).holds p m [v] := h
    have hv : v.cells.toList = [v] := by
      rcases h' with ⟨e, _⟩ | ⟨_, _, e, _⟩ <;> (injection e with e _; rw [e]; rfl)
    rw [hv]
    exact AV.one_cells (β := β) (a := .md k V m) h'
  case mp d =>
    have h' : v = β d := h
    have hv : v.cells.toList = [v] := by
      simp only [partOK] at hok
      split at hok
      · rename_i hd
        obtain ⟨r, es, clock, e, _⟩ := hS.lhs d _ hd
        rw [h', e]; rfl
      · rename_i hd
        rcases hS.lhs d _ hd with ⟨e, _⟩ | ⟨_, _, e, _⟩ <;> (injection e with e _; rw [h', e]; rfl)
      · cases hok
    rw [hv]
    exact AV.one_cells (p := p) h'

theorem cellsIn_spec {t : TypeId} {n : Nat} (h : cellsIn P t = some n) : ∃ i, P.info? t = some i ∧ i.size = n := by
  unfold cellsIn at h
  cases hi : P.info? t with
  | none => rw [hi] at h; cases h
  | some i => rw [hi] at h; injection h with h; exact ⟨i, rfl, h⟩

theorem evFill_sound (hS : SatB M p0 w0 S tm w p β) {fs : Array Field} {ρ : Operand → AV} {σ : Operand → Value} (hρ : ∀ x, (ρ x).val p β tm (σ x)) {pl : Array (Nat × Nat)}
    (hpl : ∀ (i : Nat) f, fs[i]? = some f → ∃ n, cellsIn P f.type = some n ∧ pl[i]? = some (f.offset, n)) : ∀ (parts : List (Nat × Operand)) (c r : AV) (cs : Array Value),
    evFill P S.lh fs ρ parts c = some r → c.cells p β cs.toList →
    ∃ cs', Instr.fill (pl[·]?) cs (parts.map fun x => (x.1, σ x.2)) = some cs' ∧ r.cells p β cs'.toList
  | [], c, r, cs, h, hc => by
    simp only [evFill, Option.some.injEq] at h
    subst h
    exact ⟨cs, rfl, hc⟩
  | (i, x) :: rest, c, r, cs, h, hc => by
    simp only [evFill] at h
    split at h <;> try cases h
    rename_i f hf
    split at h <;> try cases h
    rename_i n hn
    split at h
    · cases h
    rename_i hz
    have hz : n ≠ 0 := by intro e; rw [e] at hz; simp at hz
    split at h
    · rename_i hb
      simp only [Bool.and_eq_true] at hb
      obtain ⟨⟨h1, h2⟩, h3⟩ := hb
      have h1 := Nat.eq_of_beq_eq_true h1
      have h2 := Nat.le_of_ble_eq_true h2
      have hv := val_cells hS (hρ x) h3
      have hlv := AV.len_cells _ _ hv
      have hlc := AV.len_cells _ _ hc
      obtain ⟨n', hn', hp⟩ := hpl i f hf
      rw [hn] at hn'
      injection hn' with hn'
      subst hn'
      have hsz : (σ x).cells.size = n := by have := hlv; simp at this; omega
      have hput := AV.cells_put f.offset (ρ x) n c _ _ hc hv (by simpa using hsz) (by omega) (by omega)
      have hfs := foldl_set f.offset (σ x).cells.toList 0 cs (by simp at hlc; simp; omega)
      simp only [Nat.add_zero] at hfs
      have hlen : (σ x).cells.toList.length = n := by simpa using hsz
      rw [hlen] at hfs
      rw [← hfs] at hput
      obtain ⟨cs', h4, h5⟩ := evFill_sound hS hρ hpl rest _ r _ h hput
      refine ⟨cs', ?_, h5⟩
      simp only [List.map_cons, Instr.fill, hp]
      have hc2 : ¬ ((σ x).cells.size ≠ n || decide (f.offset + (σ x).cells.size > cs.size)) = true := by
        simp at hlc
        simp [hsz]
        omega
      rw [if_neg hc2]
      rw [← h4]
      congr 1
      rw [← Array.foldl_toList]
      simp
    · cases h
end
end Go.Proofs.Ytgnamdjmjkeodaa
