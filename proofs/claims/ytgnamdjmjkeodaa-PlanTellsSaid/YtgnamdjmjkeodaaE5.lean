/- The engine, part 5: loads, addresses, lengths, parts. -/
import Derived.Test.YtgnamdjmjkeodaaE4
namespace Go.Proofs.Ytgnamdjmjkeodaa
open Go

def evLoad (P : Program) (lh : Nat → Option LE) (t : TypeId) (a : AV) : Res :=
  match loadable P t with
  | none => none
  | some n => match a with
    | .pt T x off => if Nat.ble (off + n) T.size then some ([], ((T.av x).drop off).take n) else none
    | .loc d off => match lh d with
      | some (.cells c) => if Nat.ble (off + n) c.len then some ([], (c.drop off).take n) else none
      | _ => none
    | .el d T i off => match lh d with
      | some (.row _ T' xs) => if h : T' = T then (if Nat.ble (off + n) T.size then some ([i < xs.length], ((T.av ((h ▸ xs).getD i T.dflt)).drop off).take n) else none) else none
      | _ => none
    | _ => none

def evFieldAddr (P : Program) (s : TypeId) (a : AV) (i : Nat) : Res :=
  match P.underlying s with
  | some (.struct fs) => match fs[i]? with
    | none => none
    | some f => match P.info? f.type with
      | none => none
      | some inf => if Nat.beq inf.size 0 then none else match a with
        | .pt T x off => some ([], .pt T x (off + f.offset))
        | .loc d off => some ([], .loc d (off + f.offset))
        | .el d T i off => some ([], .el d T i (off + f.offset))
        | _ => none
  | _ => none

def elemOK (P : Program) (t : TypeId) (T : Ty) : Bool :=
  match P.underlying t with
  | some (.slice e) => match P.info? e with
    | some i => Nat.beq i.size T.size
    | none => false
  | _ => false

def evIndexAddr (P : Program) (lh : Nat → Option LE) (t : TypeId) (a i : AV) : Res :=
  match a, i with
  | .sl T xs, .int _ n => if elemOK P t T then some ([0 ≤ n, n < (xs.length : Int)], .pt T (xs.getD n.toNat T.dflt) 0) else none
  | .own d, .int _ n => match lh d with
    | some (.row _ T xs) => if elemOK P t T then some ([0 ≤ n, n < (xs.length : Int)], .el d T n.toNat 0) else none
    | some (.froz T xs) => if elemOK P t T then some ([0 ≤ n, n < (xs.length : Int)], .pt T (xs.getD n.toNat T.dflt) 0) else none
    | _ => none
  | _, _ => none

def isSliceT (P : Program) (t : TypeId) : Bool := match P.underlying t with | some (.slice _) => true | _ => false
def isStrT (P : Program) (t : TypeId) : Bool := match P.underlying t with | some .string => true | _ => false

def evLen (P : Program) (lh : Nat → Option LE) (t : TypeId) (a : AV) : Res :=
  match a with
  | .sl _ xs => if isSliceT P t then some ([], .int .i64 (xs.length : Int)) else none
  | .nils => if isSliceT P t then some ([], .int .i64 0) else none
  | .own d => if isSliceT P t then (match lh d with
    | some (.row _ _ xs) => some ([], .int .i64 (xs.length : Int))
    | some (.froz _ xs) => some ([], .int .i64 (xs.length : Int))
    | _ => none) else none
  | .str s => if isStrT P t then some ([], .int .i64 (s.length : Int)) else none
  | _ => none

def AV.nth : AV → Nat → Option AV
  | .tup a _, 0 => some a
  | .tup _ b, n + 1 => b.nth n
  | _, _ => none

def evUn (op : UnOp) (a : AV) : Res :=
  match op, a with
  | .not, .bool b => some ([], .bool (!b))
  | .neg, .int k n => some ([InR k (-n)], .int k (-n))
  | .xor, .int .u64 n => some ([], .int .u64 (18446744073709551615 - n))
  | _, _ => none

/-- Is every number of kind j one of kind k? -/
def subK (j k : IntKind) : Bool :=
  match j, k with
  | .u8, .u8 => true | .u8, .u16 => true | .u8, .u32 => true | .u8, .u64 => true | .u8, .i64 => true | .u8, .i32 => true
  | .i32, .i64 => true | .i32, .i32 => true | .u32, .u64 => true | .u32, .i64 => true | .i64, .i64 => true | .u64, .u64 => true | .u32, .u32 => true
  | .u16, .u16 => true | .u16, .u64 => true | .u16, .i64 => true
  | _, _ => false

def evConv (P : Program) (dst : TypeId) (a : AV) : Res :=
  match P.underlying dst, a with
  | some (.int k), .int j n => if subK j k then some ([], .int k n) else some ([], .int k (k.wrap n))
  | some .string, .str s => some ([], .str s)
  | _, _ => none

def evField (P : Program) (s : TypeId) (a : AV) (i : Nat) : Res :=
  match P.underlying s with
  | some (.struct fs) => match fs[i]? with
    | none => none
    | some f => match loadable P f.type with
      | none => none
      | some n => match a with
        | .pair x y => if Nat.ble (f.offset + n) (AV.pair x y).len then some ([], ((AV.pair x y).drop f.offset).take n) else none
        | _ => none
  | _ => none

section
variable {M : Nat → Prop} {p0 : PH} {w0 : World} {S : St} {tm : Array Value} {w : World} {p : PH} {β : Nat → Value} {P : Program}

theorem AV.len_cells : ∀ (a : AV) (cs : List Value), a.cells p β cs → cs.length = a.len := by
  intro a
  induction a with
  | pair x y _ ih =>
    intro cs h
    match cs, h with
    | v :: cs, h => simp only [List.length_cons, AV.len, ih cs h.2]; omega
  | _ =>
    intro cs h
    obtain ⟨v, rfl, _⟩ := (AV.cells_leaf _ (by intro x y e; cases e) cs).1 h
    rfl

theorem cells_part {a : AV} {cs : List Value} (h : a.cells p β cs) {off n : Nat} (hn : 0 < n) (hl : off + n ≤ cs.length) :
    ((a.drop off).take n).cells p β ((cs.drop off).take n) ∧ ((cs.drop off).take n).length = n :=
  ⟨AV.cells_take n _ _ (AV.cells_drop off a cs h (by omega)) hn (by simp; omega), by simp; omega⟩

theorem loadable_pos {t : TypeId} {n : Nat} (h : loadable P t = some n) : 0 < n := by
  unfold loadable at h
  split at h
  · cases h
  split at h
  · split at h
    · injection h with h; rename_i h2; have := Nat.le_of_ble_eq_true h2; omega
    · cases h
  · split at h
    · injection h with h; rename_i h2; have := Nat.le_of_ble_eq_true h2; omega
    · cases h
  · split at h
    · injection h with h; omega
    · cases h
  · cases h

theorem getElem?_drop_take {cs : List Value} {off n j : Nat} {u : Value} (h : ((cs.drop off).take n)[j]? = some u) : cs[off + j]? = some u := by
  rw [List.getElem?_take] at h
  split at h
  · rwa [List.getElem?_drop] at h
  · cases h

theorem row_elem (hS : SatB M p0 w0 S tm w p β) {d : Nat} {e : TypeId} {T : Ty} {xs : List T.den} (hd : S.lh d = some (.row e T xs)) {i : Nat} (hi : i < xs.length) :
    ∃ g cap cur, β d = .slice (some ⟨g, 0, none⟩) xs.length cap ∧ w.heap[g]? = some (.cells cur e (0, 0)) ∧ cur.size = cap * T.size ∧ xs.length ≤ cap ∧
      T.holds p (xs.getD i T.dflt) ((cur.toList.drop (i * T.size)).take T.size) := by
  obtain ⟨l, h1, h2, h3⟩ := hS.lhs d _ hd
  rcases h1.2 with ⟨_, h0⟩ | ⟨g, cap, cur, e1, _, e2, e3, _, e4, e5⟩
  · omega
  · refine ⟨g, cap, cur, e1, e2, e4, e3, ?_⟩
    have hx : xs[i]? = some (xs.getD i T.dflt) := by simp [List.getD, hi]
    have := rowHold_get (fun x cs h => Ty.holds_length T x cs h) xs l h2 i _ hx
    rw [← e5] at this
    rw [List.drop_take, List.take_take] at this
    have hm : min T.size (xs.length * T.size - i * T.size) = T.size := by
      have : (i + 1) * T.size ≤ xs.length * T.size := Nat.mul_le_mul_right _ hi
      rw [Nat.succ_mul] at this
      omega
    rwa [hm] at this

theorem world_cell_row {b o : Nat} {cs : Array Value} {t : TypeId} {fz : Nat × Nat} (h : w.heap[b]? = some (.cells cs t fz)) : w.cell? ⟨b, o, none⟩ = cs[o]? := by
  simp [World.cell?, h]

theorem evLoad_sound (hS : SatB M p0 w0 S tm w p β) {t : TypeId} {a : AV} {va : Value} {ps : List Prop} {r : AV} (h : evLoad P S.lh t a = some (ps, r)) (hps : ∀ q ∈ ps, q)
    (ha : a.val p β tm va) : Yields P (Instr.loadAt t va) w p β tm r := by
  unfold evLoad at h
  split at h
  · cases h
  rename_i n hn
  have hpos := loadable_pos hn
  split at h
  · rename_i T x off
    split at h
    · rename_i hb
      have hb := Nat.le_of_ble_eq_true hb
      simp only [Option.some.injEq, Prod.mk.injEq] at h
      obtain ⟨rfl, rfl⟩ := h
      obtain ⟨b, o, es, rfl, hh, hc⟩ := ha
      have hl := Ty.holds_length T x es hh
      obtain ⟨h1, h2⟩ := cells_part (β := β) (off := off) (Ty.av_cells T x es hh) hpos (by omega)
      exact loadVar_sound hn h1 h2 (fun j u hu => by
        have := hc (off + j) u (getElem?_drop_take hu)
        rw [← Nat.add_assoc] at this
        exact PH_cell_world hS.agr this)
    · cases h
  · rename_i d off
    split at h
    · rename_i c hc
      split at h
      · rename_i hb
        have hb := Nat.le_of_ble_eq_true hb
        simp only [Option.some.injEq, Prod.mk.injEq] at h
        obtain ⟨rfl, rfl⟩ := h
        obtain ⟨b, e1, rfl⟩ := ha
        obtain ⟨b', cs, t', e2, e3, e4⟩ := hS.lhs d _ hc
        rw [e1] at e2
        injection e2 with e2
        injection e2 with e2
        injection e2 with e2
        subst e2
        have hl := AV.len_cells c cs.toList e4
        obtain ⟨h1, h2⟩ := cells_part e4 hpos (show off + n ≤ _ by omega)
        exact loadVar_sound hn h1 h2 (fun j u hu => by
          rw [world_cell_row e3]
          have := getElem?_drop_take hu
          simpa using this)
      · cases h
    · cases h
  · rename_i d T i off
    split at h
    · rename_i e' T' xs hd
      split at h
      · rename_i hT
        subst hT
        split at h
        · rename_i hb
          have hb := Nat.le_of_ble_eq_true hb
          simp only [Option.some.injEq, Prod.mk.injEq] at h
          obtain ⟨rfl, rfl⟩ := h
          have hi := hps _ (List.mem_cons_self)
          obtain ⟨b, m, c, e1, rfl⟩ := ha
          obtain ⟨g, cap, cur, e2, e3, e4, e5, e6⟩ := row_elem hS hd hi
          rw [e1] at e2
          injection e2 with e2 _ _
          injection e2 with e2
          injection e2 with e2
          subst e2
          have hl := Ty.holds_length T' _ _ e6
          obtain ⟨h1, h2⟩ := cells_part (β := β) (off := off) (Ty.av_cells T' _ _ e6) hpos (by omega)
          exact loadVar_sound hn h1 h2 (fun j u hu => by
            rw [world_cell_row e3]
            have h3 := getElem?_drop_take hu
            have h4 := getElem?_drop_take h3
            rw [← Nat.add_assoc] at h4
            simpa using h4)
        · cases h
      · cases h
    · cases h
  · cases h

theorem addr_add {b o n : Nat} : (⟨b, o, none⟩ : Addr).add n = ⟨b, o + n, none⟩ := by unfold Addr.add; split <;> simp_all

theorem evFieldAddr_sound {s : TypeId} {a : AV} {i : Nat} {va : Value} {ps : List Prop} {r : AV} (h : evFieldAddr P s a i = some (ps, r))
    (ha : a.val p β tm va) : Yields P (Instr.fieldAt s va i) w p β tm r := by
  unfold evFieldAddr at h
  split at h <;> try cases h
  rename_i fs hu
  split at h <;> try cases h
  rename_i f hf
  split at h <;> try cases h
  rename_i inf hi
  split at h
  · cases h
  rename_i hz
  have hz : inf.size ≠ 0 := by intro e; rw [e] at hz; simp at hz
  have run : ∀ b o, (Instr.fieldAt s (.pointer (some ⟨b, o, none⟩)) i).run P w = .ok (.pointer (some ⟨b, o + f.offset, none⟩)) w := by
    intro b o
    simp [Instr.fieldAt, run_underlying hu, hf, Instr.sureAddr, fieldPlace, sizeOf, typeInfo, hi, hz, addr_add]
  split at h <;> simp only [Option.some.injEq, Prod.mk.injEq, reduceCtorEq] at h <;> obtain ⟨rfl, rfl⟩ := h
  · obtain ⟨b, o, es, rfl, hh, hc⟩ := ha
    exact ⟨_, run _ _, b, o, es, by rw [Nat.add_assoc], hh, hc⟩
  · obtain ⟨b, e1, rfl⟩ := ha
    exact ⟨_, run _ _, b, e1, rfl⟩
  · obtain ⟨b, n, c, e1, rfl⟩ := ha
    exact ⟨_, run _ _, b, n, c, e1, by rw [Nat.add_assoc]⟩

theorem elemOK_spec {t : TypeId} {T : Ty} (h : elemOK P t T = true) : ∃ e i, P.underlying t = some (.slice e) ∧ P.info? e = some i ∧ i.size = T.size := by
  unfold elemOK at h
  split at h
  · rename_i e hu
    split at h
    · rename_i i hi
      exact ⟨e, i, hu, hi, Nat.eq_of_beq_eq_true h⟩
    · cases h
  · cases h

theorem run_indexAt {t e : TypeId} {i : TypeInfo} (hu : P.underlying t = some (.slice e)) (hi : P.info? e = some i) {b o len cap : Nat} {k : IntKind} {n : Int} (h0 : 0 ≤ n) (h1 : n < (len : Int)) :
    (Instr.indexAt t (.slice (some ⟨b, o, none⟩) len cap) (.int k n)).run P w = .ok (.pointer (some ⟨b, o + n.toNat * i.size, none⟩)) w := by
  simp [Instr.indexAt, asIntOf, run_underlying hu, h0, h1, sizeOf, typeInfo, hi, addr_add]

theorem arr_elem {T : Ty} {xs : List T.den} {v : Value} (h : (Ty.arr T).holds p xs [v]) {i : Nat} (hi : i < xs.length) :
    ∃ b o c es, v = .slice (some ⟨b, o, none⟩) xs.length c ∧ T.holds p (xs.getD i T.dflt) es ∧ ∀ j u, es[j]? = some u → p.cell b (o + i * T.size + j) = some u := by
  obtain ⟨A, c, l, e, h1, h2, h3, h4⟩ := h
  injection e with e _
  subst e
  obtain ⟨b, o, rfl, hc⟩ := h4 (by intro e; subst e; simp at hi)
  have hx : xs[i]? = some (xs.getD i T.dflt) := by simp [List.getD, hi]
  have := rowHold_get (fun x cs h => Ty.holds_length T x cs h) xs l h3 i _ hx
  refine ⟨b, o, c, _, rfl, this, fun j u hu => ?_⟩
  rw [Nat.add_assoc]
  exact hc _ u (getElem?_drop_take hu)

theorem evIndexAddr_sound (hS : SatB M p0 w0 S tm w p β) {t : TypeId} {a i : AV} {va vi : Value} {ps : List Prop} {r : AV} (h : evIndexAddr P S.lh t a i = some (ps, r)) (hps : ∀ q ∈ ps, q)
    (ha : a.val p β tm va) (hi : i.val p β tm vi) : Yields P (Instr.indexAt t va vi) w p β tm r := by
  have arr : ∀ {T : Ty} {xs : List T.den} {k : IntKind} {n : Int} {v : Value}, elemOK P t T = true → (Ty.arr T).holds p xs [v] → 0 ≤ n → n < (xs.length : Int) →
      Yields P (Instr.indexAt t v (.int k n)) w p β tm (.pt T (xs.getD n.toNat T.dflt) 0) := by
    intro T xs k n v hok hv h0 h1
    obtain ⟨e, inf, hu, hinf, hsz⟩ := elemOK_spec hok
    obtain ⟨b, o, c, es, rfl, hh, hc⟩ := arr_elem hv (i := n.toNat) (by omega)
    refine ⟨_, run_indexAt hu hinf h0 h1, b, o + n.toNat * T.size, es, by rw [hsz]; rfl, hh, hc⟩
  unfold evIndexAddr at h
  split at h
  · rename_i T xs k n
    obtain ⟨rfl, _⟩ := val_int hi
    split at h
    · rename_i hok
      simp only [Option.some.injEq, Prod.mk.injEq] at h
      obtain ⟨rfl, rfl⟩ := h
      exact arr hok ha (hps _ (by simp)) (hps _ (by simp))
    · cases h
  · rename_i d k n
    obtain ⟨rfl, _⟩ := val_int hi
    split at h
    · rename_i e' T xs hd
      split at h
      · rename_i hok
        simp only [Option.some.injEq, Prod.mk.injEq] at h
        obtain ⟨rfl, rfl⟩ := h
        have h0 : 0 ≤ n := hps _ (by simp)
        have h1 : n < (xs.length : Int) := hps _ (by simp)
        obtain ⟨e, inf, hu, hinf, hsz⟩ := elemOK_spec hok
        obtain ⟨g, cap, cur, e2, _⟩ := row_elem hS hd (i := n.toNat) (by omega)
        have ha' : va = β d := ha
        rw [ha', e2]
        refine ⟨_, run_indexAt hu hinf h0 h1, g, _, _, e2, ?_⟩
        rw [hsz]; simp
      · cases h
    · rename_i T xs hd
      split at h
      · rename_i hok
        simp only [Option.some.injEq, Prod.mk.injEq] at h
        obtain ⟨rfl, rfl⟩ := h
        have ha' : va = β d := ha
        rw [ha']
        exact arr hok (hS.lhs d _ hd) (hps _ (by simp)) (hps _ (by simp))
      · cases h
    · cases h
  · cases h

theorem isSliceT_spec {t : TypeId} (h : isSliceT P t = true) : ∃ e, P.underlying t = some (.slice e) := by
  unfold isSliceT at h
  split at h
  · exact ⟨_, by assumption⟩
  · cases h
theorem isStrT_spec {t : TypeId} (h : isStrT P t = true) : P.underlying t = some .string := by
  unfold isStrT at h
  split at h
  · assumption
  · cases h

theorem bytes_pos : ∀ T : Ty, 8 ≤ T.bytes
  | .int _ => by simp [Ty.bytes]
  | .bool => by simp [Ty.bytes]
  | .str => by simp [Ty.bytes]
  | .arr _ => by simp [Ty.bytes]
  | .nil => by simp [Ty.bytes]
  | .ref _ => by simp [Ty.bytes]
  | .fn _ _ => by simp [Ty.bytes]
  | .map _ _ => by simp [Ty.bytes]
  | .pair A B => by have := bytes_pos A; simp [Ty.bytes]; omega

theorem len_inR {T : Ty} {n : Nat} (h : n * T.bytes ≤ big) : InR .i64 (n : Int) := by
  have := bytes_pos T
  have h2 : n * 8 ≤ n * T.bytes := Nat.mul_le_mul_left _ this
  simp only [big, InR] at *
  omega

theorem arr_len {T : Ty} {xs : List T.den} {v : Value} (h : (Ty.arr T).holds p xs [v]) : ∃ A c, v = .slice A xs.length c ∧ xs.length * T.bytes ≤ big := by
  obtain ⟨A, c, l, e, h1, h2, h3, h4⟩ := h
  injection e with e _
  exact ⟨A, c, e, h2⟩

theorem row_len (hS : SatB M p0 w0 S tm w p β) {d : Nat} {e : TypeId} {T : Ty} {xs : List T.den} (hd : S.lh d = some (.row e T xs)) : ∃ A c, β d = .slice A xs.length c ∧ xs.length * T.bytes ≤ big := by
  obtain ⟨l, h1, h2, h3⟩ := hS.lhs d _ hd
  rcases h1.2 with ⟨e0, h0⟩ | ⟨g, cap, cur, e1, _⟩
  · exact ⟨none, 0, by rw [e0, h0], h3⟩
  · exact ⟨_, _, e1, h3⟩

theorem evLen_sound (hS : SatB M p0 w0 S tm w p β) {t ty : TypeId} {a : AV} {va : Value} {ps : List Prop} {r : AV} (h : evLen P S.lh t a = some (ps, r))
    (ha : a.val p β tm va) : Yields P (Builtin.len_ #[t] ty #[va]) w p β tm r := by
  have sl : ∀ {A : Option Addr} {n c : Nat}, isSliceT P t = true → (Builtin.len_ #[t] ty #[.slice A n c]).run P w = .ok (.int .i64 (n : Int)) w := by
    intro A n c ht
    obtain ⟨e, hu⟩ := isSliceT_spec ht
    simp [Builtin.len_, run_underlying hu, goInt]
  unfold evLen at h
  split at h
  · split at h
    · rename_i ht
      simp only [Option.some.injEq, Prod.mk.injEq] at h
      obtain ⟨rfl, rfl⟩ := h
      obtain ⟨A, c, rfl, hb⟩ := arr_len ha
      exact ⟨_, sl ht, rfl, len_inR hb⟩
    · cases h
  · split at h
    · rename_i ht
      simp only [Option.some.injEq, Prod.mk.injEq] at h
      obtain ⟨rfl, rfl⟩ := h
      have : va = .slice none 0 0 := ha
      subst this
      exact ⟨_, sl ht, rfl, by simp [InR]⟩
    · cases h
  · split at h
    · rename_i ht
      have ha' : va = β _ := ha
      subst ha'
      split at h
      · rename_i hd
        simp only [Option.some.injEq, Prod.mk.injEq] at h
        obtain ⟨rfl, rfl⟩ := h
        obtain ⟨A, c, e, hb⟩ := row_len hS hd
        rw [e]
        exact ⟨_, sl ht, rfl, len_inR hb⟩
      · rename_i hd
        simp only [Option.some.injEq, Prod.mk.injEq] at h
        obtain ⟨rfl, rfl⟩ := h
        obtain ⟨A, c, e, hb⟩ := arr_len (hS.lhs _ _ hd)
        rw [e]
        exact ⟨_, sl ht, rfl, len_inR hb⟩
      · cases h
    · cases h
  · split at h
    · rename_i ht
      simp only [Option.some.injEq, Prod.mk.injEq] at h
      obtain ⟨rfl, rfl⟩ := h
      obtain ⟨rfl, hb⟩ := val_str ha
      have hu := isStrT_spec ht
      refine ⟨.int .i64 _, ?_, rfl, ?_⟩
      · simp only [Builtin.len_, List.size_toArray, List.length_cons, List.length_nil, Nat.zero_add, Nat.lt_add_one, getElem?_pos, List.getElem_toArray, List.getElem_cons_zero, Sem.run_bind, run_underlying hu, Result.andThen_ok]
        rfl
      · simp only [big, InR] at *; omega
    · cases h
  · cases h

theorem AV.nth_vals : ∀ (a : AV) (vs : List Value) (n : Nat) (r : AV), a.vals p β vs → a.nth n = some r → ∃ v, vs[n]? = some v ∧ r.val1 p β v := by
  intro a
  induction a with
  | tup x y _ ih =>
    intro vs n r h hn
    match vs, h with
    | v :: vs, h =>
      match n with
      | 0 => simp [AV.nth] at hn; subst hn; exact ⟨v, rfl, h.1⟩
      | n + 1 => simpa using ih vs n r h.2 (by simpa [AV.nth] using hn)
  | _ => intro vs n r h hn; simp [AV.nth] at hn

theorem AV.val_of_val1 {a : AV} {v : Value} (h : a.val1 p β v) : a.val p β tm v := by
  cases a <;> first | exact h | exact h.elim

theorem extract_sound {a : AV} {n : Nat} {va : Value} {r : AV} (h : a.nth n = some r) (ha : a.val p β tm va) : Yields P (Instr.extract va n) w p β tm r := by
  cases a <;> (first | (simp [AV.nth] at h; done) | skip)
  obtain ⟨vs, rfl, hv⟩ := ha
  obtain ⟨v, e, h1⟩ := AV.nth_vals _ _ _ _ hv h
  refine ⟨v, ?_, AV.val_of_val1 h1⟩
  simp [Instr.extract, e]

theorem not64 {n : Int} (h0 : 0 ≤ n) (h1 : n ≤ 18446744073709551615) :
    IntKind.u64.wrap ((BitVec.ofInt 64 18446744073709551615 ^^^ BitVec.ofInt 64 n).toNat : Int) = 18446744073709551615 - n := by
  have e2 : (BitVec.ofInt 64 18446744073709551615 ^^^ BitVec.ofInt 64 n) = ~~~ BitVec.ofInt 64 n := by
    have : BitVec.ofInt 64 18446744073709551615 = BitVec.allOnes 64 := by decide
    rw [this]
    exact BitVec.allOnes_xor
  have e3 : (BitVec.ofInt 64 n).toNat = n.toNat := by
    obtain ⟨m, rfl⟩ := Int.eq_ofNat_of_zero_le h0
    rw [BitVec.ofInt_natCast, BitVec.toNat_ofNat, Int.toNat_natCast]
    apply Nat.mod_eq_of_lt
    omega
  rw [e2, BitVec.toNat_not, e3]
  have e4 : (((2 ^ 64 - 1 - n.toNat : Nat)) : Int) = 18446744073709551615 - n := by omega
  rw [e4, wrap_of_inR (by simp only [InR]; omega)]

theorem evUn_sound {op : UnOp} {a : AV} {va : Value} {ps : List Prop} {r : AV} (h : evUn op a = some (ps, r)) (hps : ∀ q ∈ ps, q)
    (ha : a.val p β tm va) : Yields P (Op.unary op va) w p β tm r := by
  unfold evUn at h
  split at h <;> simp only [Option.some.injEq, Prod.mk.injEq, reduceCtorEq] at h <;> obtain ⟨rfl, rfl⟩ := h
  · obtain rfl := val_bool ha
    exact ⟨_, rfl, rfl⟩
  · obtain ⟨rfl, _⟩ := val_int ha
    have h1 := hps _ (List.mem_cons_self)
    refine ⟨_, ?_, rfl, h1⟩
    simp only [Op.unary, Op.intArith, Sem.run_pure]
    rw [Int.zero_sub, wrap_of_inR h1]
  · rename_i n
    obtain ⟨rfl, hr⟩ := val_int ha
    simp only [InR] at hr
    have h1 : InR .u64 (18446744073709551615 - n) := by simp only [InR]; omega
    refine ⟨_, ?_, rfl, h1⟩
    have e1 : (if IntKind.signed .u64 = true then (-1 : Int) else IntKind.max .u64) = 18446744073709551615 := by simp [IntKind.signed, IntKind.max, IntKind.bits]
    simp only [Op.unary, e1, Op.intBits, Sem.run_pure]
    exact congrArg (fun x => Result.ok (Value.int .u64 x) w) (not64 hr.1 hr.2)

theorem subK_spec {j k : IntKind} {n : Int} (h : subK j k = true) (hn : InR j n) : InR k n := by
  unfold subK at h
  split at h <;> first | (cases h; done) | (simp only [InR] at hn ⊢; omega)

theorem evConv_sound {src dst : TypeId} {a : AV} {va : Value} {ps : List Prop} {r : AV} (h : evConv P dst a = some (ps, r)) (ha : a.val p β tm va)
    (hsrc : (P.underlying src).isSome = true) : Yields P (convert src dst va) w p β tm r := by
  obtain ⟨ds, hs⟩ := Option.isSome_iff_exists.1 hsrc
  unfold evConv at h
  split at h
  · rename_i k j n hu
    obtain ⟨rfl, hr⟩ := val_int ha
    have run : (convert src dst (.int j n)).run P w = .ok (.int k (k.wrap n)) w := by
      simp only [convert, Sem.run_bind, run_underlying hs, run_underlying hu, Result.andThen_ok]
      cases ds <;> simp [Conv.intToInt]
    split at h <;> simp only [Option.some.injEq, Prod.mk.injEq] at h <;> obtain ⟨rfl, rfl⟩ := h
    · rename_i hk
      have := subK_spec hk hr
      exact ⟨_, run, by rw [wrap_of_inR this]; exact ⟨rfl, this⟩⟩
    · exact ⟨_, run, rfl, inR_wrap _ _⟩
  · rename_i s hu
    simp only [Option.some.injEq, Prod.mk.injEq] at h
    obtain ⟨rfl, rfl⟩ := h
    obtain ⟨rfl, hr⟩ := val_str ha
    refine ⟨_, ?_, rfl, hr⟩
    simp only [convert, Sem.run_bind, run_underlying hs, run_underlying hu, Result.andThen_ok]
    cases ds <;> simp
  · cases h
end
end Go.Proofs.Ytgnamdjmjkeodaa
