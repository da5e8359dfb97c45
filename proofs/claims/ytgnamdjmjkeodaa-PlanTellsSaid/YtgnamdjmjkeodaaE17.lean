/- The engine, part 17: new rows; a slice of bytes avs a string; all operations that turn the state. -/
import Derived.Test.YtgnamdjmjkeodaaE16
import Derived.Laws.BytesArg
import Derived.Laws.IdiomCopy
import Derived.Laws.CopyRow
import Derived.Lib.AppendZerosOnto
namespace Go.Proofs.Ytgnamdjmjkeodaa
open Go

section
variable {M : Nat → Prop} {p0 : PH} {w0 : World} {S : St} {w : World} {p : PH} {β : Nat → Value} {P : Program} {a : Act}

theorem rowHold_replicate {α : Type} {h : α → List Value → Prop} {x : α} {cs : List Value} (hx : h x cs) : ∀ n, rowHold h (List.replicate n x) (List.replicate n cs).flatten
  | 0 => rfl
  | n + 1 => ⟨cs, _, by simp [List.replicate_succ], hx, rowHold_replicate hx n⟩

theorem madeCells_toList (z : Array Value) (hz : 0 < z.size) : ∀ n, (madeCells z (n * z.size)).toList = (List.replicate n z.toList).flatten := by
  intro n
  apply List.ext_getElem?
  intro j
  have hl : ((List.replicate n z.toList).flatten).length = n * z.size := by
    induction n with
    | zero => simp
    | succ n ih => simp [List.replicate_succ, ih, Nat.succ_mul]; omega
  by_cases hj : j < n * z.size
  · have h1 : (madeCells z (n * z.size)).toList[j]? = some (z[j % z.size]'(Nat.mod_lt _ hz)) := by
      simp [madeCells, hj, Nat.mod_lt _ hz]
    rw [h1]
    have gen : ∀ n j, j < n * z.size → ((List.replicate n z.toList).flatten)[j]? = some (z[j % z.size]'(Nat.mod_lt _ hz)) := by
      intro n
      induction n with
      | zero => intro j h; omega
      | succ n ih =>
        intro j h
        simp only [List.replicate_succ, List.flatten_cons, List.getElem?_append, Array.length_toList]
        split
        · rename_i h2
          simp [h2, Nat.mod_eq_of_lt h2]
        · rename_i h2
          rw [Nat.succ_mul] at h
          rw [ih (j - z.size) (by omega)]
          congr 2
          exact (Nat.mod_eq_sub_mod (by omega)).symm
    exact (gen n j hj).symm
  · rw [List.getElem?_eq_none (by simp [size_madeCells]; omega), List.getElem?_eq_none (by omega)]

theorem sameTmp_eval {x y : Operand} (h : sameTmp x y = true) : a.eval x = a.eval y := by
  unfold sameTmp at h
  split at h
  · rename_i i j
    have := Nat.eq_of_beq_eq_true h
    subst this; rfl
  · rename_i j n k m
    simp only [Bool.and_eq_true, beq_iff_eq] at h
    obtain ⟨rfl, rfl⟩ := h; rfl
  · cases h

theorem evMake_sound (hS : SatB M p0 w0 S a.tmps w p β) {o : Oper} {d : Nat} {t : TypeId} {l c : Operand} (hd : o.dst = some d) (ho : o.op = .makeSlice t l c) (hlc : sameTmp l c = true)
    {ps : List Prop} {S' : St} (h : evMake P S d t (S.look [] l) = some (ps, S')) (hps : ∀ q ∈ ps, q) : EOK M p0 w0 S' P o a w := by
  have hl := look_val hS (ctx_nil _) l
  unfold evMake at h
  split at h <;> try cases h
  rename_i e he
  have hu := sliceElem_spec he
  split at h <;> try cases h
  rename_i T hT
  split at h <;> try cases h
  rename_i i hi
  split at h <;> try cases h
  rename_i z hz
  split at h <;> try cases h
  rename_i _ _ y k n hy hav
  rw [hav] at hl
  split at h <;> simp only [Option.some.injEq, Prod.mk.injEq, reduceCtorEq] at h <;> obtain ⟨rfl, rfl⟩ := h
  rename_i hb
  simp only [Bool.and_eq_true] at hb
  obtain ⟨i', z', hi', hsz, hby, hz', hzs⟩ := elemFits_spec hb.1.1
  rw [hi] at hi'
  injection hi' with hi'
  subst hi'
  rw [hz] at hz'
  injection hz' with hz'
  subst hz'
  have h0 : 0 ≤ n := hps _ (by simp)
  have hbig : n.toNat * T.bytes ≤ big := hps _ (by simp)
  obtain ⟨hle, _⟩ := val_int hl
  have hrc : a.eval c = .int k n := by rw [← sameTmp_eval hlc]; exact hle
  have h8 := bytes_pos T
  have hn8 : n.toNat * 8 ≤ n.toNat * T.bytes := Nat.mul_le_mul_left _ h8
  have hnb : n.toNat * i.bytes ≤ n.toNat * T.bytes := Nat.mul_le_mul_left _ hby
  have hbytes : (i.bytes : Int) * n ≤ 281474976710656 := by
    have : ((n.toNat * i.bytes : Nat) : Int) = (i.bytes : Int) * n := by rw [Int.natCast_mul, Int.toNat_of_nonneg h0, Int.mul_comm]
    rw [← this]
    simp only [big] at hbig
    omega
  have hrun := run_make (P := P) w t e i z hu hi hz k k n n h0 (Int.le_refl _) hbytes (by simp only [big] at hbig; omega)
  -- the zero element's cells
  have hzc : z.cells.toList ≠ [] := by
    intro e0
    have : z.cells.size = 0 := by simpa using congrArg List.length e0
    have := Ty.size_pos T
    omega
  have hyc : T.holds p y z.cells.toList := by
    have hS0 : SatB M p0 w0 { S with lh := fun _ => none } a.tmps w p β :=
      ⟨hS.keep, hS.agr, hS.old, hS.size, fun d e h => (by cases h), fun d e b h => (by cases h), fun d d' e e' b h => (by cases h), hS.env⟩
    have := toTy_sound hS0 (rows := false) T _ y _ hy (ofCells_cells _ hzc)
    simpa using this
  have hcells : (madeCells z.cells (n.toNat * i.size)).toList = (List.replicate n.toNat z.cells.toList).flatten := by
    have hpos : 0 < z.cells.size := by rw [hzs]; exact Ty.size_pos T
    rw [hsz, ← hzs]
    exact madeCells_toList z.cells hpos n.toNat
  have hn := hS.newEntry (cs := madeCells z.cells (n.toNat * i.size)) (t := e) (d := d) (e := .row e T (List.replicate n.toNat y)) (v := .slice (some ⟨w.heap.size, 0, none⟩) n.toNat n.toNat) rfl (by
    refine ⟨(madeCells z.cells (n.toNat * i.size)).toList, ⟨by simp [size_madeCells, hsz], .inr ⟨w.heap.size, n.toNat, _, by simp, Nat.zero_le _, heap_alloc_new w _, by simp, ?_, by simp [size_madeCells, hsz], ?_⟩⟩, ?_, by simpa using hbig⟩
    · simp only [maxLen, big] at *; omega
    · rw [List.take_of_length_le]
      simp [size_madeCells, hsz]
    · rw [hcells]
      exact rowHold_replicate hyc _)
  refine EOK.of_run hd (v := .slice (some ⟨w.heap.size, 0, none⟩) n.toNat n.toNat) (w' := w.alloc (.cells (madeCells z.cells (n.toNat * i.size)) e)) ?_ ⟨p, _, hn.set (blt_lt hb.1.2) (show _ = _ by simp)⟩
  simp only [execOp, ho, Sem.run_bind, hle, hrc, hrun, Result.andThen_ok, Sem.run_pure]

theorem vholds_cells {T : Ty} {y : T.den} {v : Value} (h : T.vholds p y v) : T.holds p y v.cells.toList := by
  cases T with
  | pair A B => obtain ⟨cs, e, hc⟩ := h; rw [e]; exact hc
  | int k =>
    have h' : (Ty.int k).holds p y [v] := h
    have e := h'.1
    injection e with e _
    rw [e] at h' ⊢
    exact h'
  | bool =>
    have h' : Ty.bool.holds p y [v] := h
    have e : [v] = [.bool y] := h'
    injection e with e _
    rw [e] at h' ⊢
    exact h'
  | str =>
    have h' : Ty.str.holds p y [v] := h
    have e := h'.1
    injection e with e _
    rw [e] at h' ⊢
    exact h'
  | arr T =>
    have h' : (Ty.arr T).holds p y [v] := h
    have h2 := h'
    obtain ⟨A, c, l, e, _⟩ := h2
    injection e with e _
    have : v.cells.toList = [v] := by rw [e]; rfl
    rw [this]
    exact h'
  | nil =>
    have h' : Ty.nil.holds p y [v] := h
    have e : [v] = [.slice none 0 0] := h'
    injection e with e _
    rw [e] at h' ⊢
    exact h'
  | ref T =>
    have h' : (Ty.ref T).holds p y [v] := h
    have h2 := h'
    obtain ⟨b, o, l, e, _⟩ := h2
    injection e with e _
    have : v.cells.toList = [v] := by rw [e]; rfl
    rw [this]
    exact h'
  | fn A B =>
    have h' : (Ty.fn A B).holds p y [v] := h
    have h2 := h'
    obtain ⟨f, v1, v2, e, _⟩ := h2
    injection e with e _
    have : v.cells.toList = [v] := by rw [e]; rfl
    rw [this]
    exact h'
  | map k V =>
    have h' : (Ty.map k V).holds p y [v] := h
    have : v.cells.toList = [v] := by
      rcases h' with ⟨e, _⟩ | ⟨_, _, e, _⟩ <;> (injection e with e _; rw [e]; rfl)
    rw [this]
    exact h'

/-- The parts, one behind the other, fill the new cells. -/
theorem fill_parts {size : Nat} {T : Ty} (hT : T.size = size) {lh : Nat → Option LE} {ρ : Operand → AV} (hρ : ∀ x y, (ρ x).toTy false lh T = some y → T.vholds p y (a.eval x)) :
    ∀ (parts : List (Nat × Operand)) (k : Nat) (ys : List T.den) (cur : Array Value), partsTys lh T ρ k parts = some ys → cur.size = (k + parts.length) * size →
    ∃ cs l, Instr.fill (fun i => some (i * size, size)) cur (parts.map fun x => (x.1, a.eval x.2)) = some cs ∧ rowHold (T.holds p) ys l ∧ cs.toList = cur.toList.take (k * size) ++ l ∧ ys.length = parts.length
  | [], k, ys, cur, h, hc => by
    simp only [partsTys, Option.some.injEq] at h
    subst h
    refine ⟨cur, [], rfl, rfl, ?_, rfl⟩
    rw [List.take_of_length_le (by simp; rw [hc]; simp), List.append_nil]
  | (i, x) :: rest, k, ys, cur, h, hc => by
    simp only [partsTys] at h
    split at h <;> try cases h
    rename_i hik
    have hik := Nat.eq_of_beq_eq_true hik
    subst hik
    split at h <;> simp only [Option.some.injEq, reduceCtorEq] at h
    rename_i y ys' hy hys
    subst h
    have hv := vholds_cells (hρ x y hy)
    have hsz : (a.eval x).cells.size = size := by have := Ty.holds_length T y _ hv; simpa [hT] using this
    have hlen : (a.eval x).cells.toList.length = size := by simpa using hsz
    have hc' : cur.size = i * size + size + rest.length * size := by
      rw [hc, List.length_cons, Nat.add_mul, Nat.succ_mul]; omega
    have hfs := foldl_set (i * size) (a.eval x).cells.toList 0 cur (by rw [hlen]; omega)
    simp only [Nat.add_zero, hlen] at hfs
    obtain ⟨cs, l, h1, h2, h3, h4⟩ := fill_parts hT hρ rest (i + 1) ys' ((a.eval x).cells.toList.zipIdx.foldl (fun cs (x : Value × Nat) => cs.setIfInBounds (i * size + x.2) x.1) cur) hys (by
      have e : ∀ (A : Array Value), A.size = A.toList.length := fun A => by simp
      rw [e, hfs]
      simp only [List.length_append, List.length_take, List.length_drop, Array.length_toList, hsz]
      rw [hc', Nat.add_mul, Nat.succ_mul]
      omega)
    refine ⟨cs, (a.eval x).cells.toList ++ l, ?_, ⟨_, l, rfl, hv, h2⟩, ?_, by simp [h4]⟩
    · simp only [List.map_cons, Instr.fill]
      have hc2 : ¬ ((a.eval x).cells.size ≠ size || decide (i * size + (a.eval x).cells.size > cur.size)) = true := by
        simp [hsz]; omega
      rw [if_neg hc2]
      rw [← h1]
      congr 1
      rw [← Array.foldl_toList]
      simp
    · rw [h3, hfs, Nat.succ_mul, take_app]
      · simp
      · simp [hsz]; omega

theorem evBuildSlice_sound (hS : SatB M p0 w0 S a.tmps w p β) {o : Oper} {d : Nat} {t : TypeId} {len : Nat} {parts : Array (Nat × Operand)} (hd : o.dst = some d) (ho : o.op = .buildSlice t len parts)
    {ps : List Prop} {S' : St} (h : evBuildSlice P S d t len parts.toList = some (ps, S')) : EOK M p0 w0 S' P o a w := by
  unfold evBuildSlice at h
  split at h <;> try cases h
  rename_i e he
  have hu := sliceElem_spec he
  split at h <;> try cases h
  rename_i T hT
  obtain ⟨p1, hle, hS1⟩ := freeze_sound ((parts.toList.map (fun x => S.look [] x.2)).flatMap AV.owns) S p hS
  have hn1 := (freeze_env ((parts.toList.map (fun x => S.look [] x.2)).flatMap AV.owns) S).2.1
  simp only at h
  generalize S.freeze ((parts.toList.map (fun x => S.look [] x.2)).flatMap AV.owns) = S1 at *
  split at h <;> try cases h
  rename_i ys hys
  split at h <;> simp only [Option.some.injEq, Prod.mk.injEq, reduceCtorEq] at h <;> obtain ⟨rfl, rfl⟩ := h
  rename_i hb
  simp only [Bool.and_eq_true] at hb
  obtain ⟨⟨⟨⟨⟨hf, hdn⟩, _⟩, hpl⟩, h24⟩, hbg⟩ := hb
  have hpl := Nat.eq_of_beq_eq_true hpl
  have h24 := Nat.le_of_ble_eq_true h24
  have hbg := Nat.le_of_ble_eq_true hbg
  obtain ⟨i, z, hi, hsz, hby, hz, hzs⟩ := elemFits_spec hf
  have hTp := Ty.size_pos T
  have hfill := fill_parts (p := p1) (a := a) (lh := S1.lh) (ρ := S1.look []) (T := T) rfl (fun x y hy => by
    have := toTy_vsound hS1 (rows := false) hy (look_val hS1 (ctx_nil _) x)
    simpa using this) parts.toList 0 ys ((Array.range (len * T.size)).map (z.cells[· % z.cells.size]!)) hys (by simp [← hpl])
  obtain ⟨cs, l, h1, h2, h3, h4⟩ := hfill
  simp only [Nat.zero_mul, List.take_zero, List.nil_append] at h3
  have hll := rowHold_length (fun x cs h => Ty.holds_length T x cs h) ys l h2
  have hcs : cs.size = len * T.size := by
    have : cs.toList.length = l.length := by rw [h3]
    simp only [Array.length_toList] at this
    rw [this, hll, h4, hpl]
  have hlen : len = ys.length := by omega
  have hn := hS1.newEntry (cs := cs) (t := e) (d := d) (e := .row e T ys) (v := .slice (some ⟨w.heap.size, 0, none⟩) len len) rfl (by
    refine ⟨l, ⟨hll, .inr ⟨w.heap.size, len, cs, by simp [hlen], Nat.zero_le _, heap_alloc_new w _, by omega, ?_, hcs, ?_⟩⟩, h2, by rw [← hlen]; exact hbg⟩
    · have := bytes_pos T
      have h8 : len * 8 ≤ len * T.bytes := Nat.mul_le_mul_left _ this
      simp only [maxLen, big] at *; omega
    · rw [List.take_of_length_le (by simp [hcs, hlen]), h3])
  refine EOK.of_run hd (v := .slice (some ⟨w.heap.size, 0, none⟩) len len) (w' := w.alloc (.cells cs e)) ?_ ⟨p1, _, hn.set (by show d < S1.n; rw [hn1]; exact blt_lt hdn) (show _ = _ by simp)⟩
  have hrun : (Instr.buildSlice t len (parts.map fun x => (x.1, a.eval x.2))).run P w = .ok (.slice (some ⟨w.heap.size, 0, none⟩) len len) (w.alloc (.cells cs e)) := by
    have n24 : ¬ (len * i.size > 2 ^ 24) := by rw [hsz]; omega
    have e2 : (parts.map fun x => (x.1, a.eval x.2)).toList = parts.toList.map fun x => (x.1, a.eval x.2) := by simp
    by_cases h0 : len * i.size = 0
    · have hl0 : len = 0 := by
        rcases Nat.mul_eq_zero.1 h0 with h | h
        · exact h
        · omega
      subst hl0
      have hp0 : parts.toList = [] := List.eq_nil_of_length_eq_zero hpl
      have hcs0 : cs = #[] := by apply Array.toList_inj.1; rw [h3]; exact List.eq_nil_of_length_eq_zero (by rw [hll, ← hlen]; simp)
      subst hcs0
      simp only [Instr.buildSlice, Sem.run_bind, run_underlying hu, Result.andThen_ok, sizeOf, typeInfo, run_program, hi, Sem.run_pure, if_neg n24, e2, hp0]
      simp [Instr.fill, newRow, Array.range_zero']
    · simp only [Instr.buildSlice, Sem.run_bind, run_underlying hu, Result.andThen_ok, sizeOf, typeInfo, run_program, hi, Sem.run_pure, if_neg n24, if_neg h0, zeroValue, hz, e2]
      rw [hsz, h1]
      simp [newRow]
  simp only [execOp, ho, Sem.run_bind, hrun, Result.andThen_ok, Sem.run_pure]

/-- The cells of a list of bytes. -/
theorem byte_cells : ∀ (xs : List Int) (l : List Value), rowHold ((Ty.int .u8).holds p) xs l → l = xs.map (Value.int .u8)
  | [], l, h => h
  | x :: xs, l, ⟨c1, c2, e, h1, h2⟩ => by rw [e, h1.1, byte_cells xs c2 h2]; rfl

theorem evBytesStr_sound (hS : SatB M p0 w0 S a.tmps w p β) {o : Oper} {d : Nat} {src dst : TypeId} {x : Operand} (hd : o.dst = some d) (ho : o.op = .convert src dst x)
    {ps : List Prop} {S' : St} (h : evBytesStr P S d src dst (S.look [] x) = some (ps, S')) : EOK M p0 w0 S' P o a w := by
  have hx := look_val hS (ctx_nil _) x
  unfold evBytesStr at h
  split at h <;> try cases h
  rename_i e hs hdst
  split at h <;> try cases h
  rename_i he
  split at h <;> try cases h
  rename_i xs hxs
  split at h <;> simp only [Option.some.injEq, Prod.mk.injEq, reduceCtorEq] at h <;> obtain ⟨rfl, rfl⟩ := h
  rename_i hdn
  have key : ∃ A len c l, a.eval x = .slice A len c ∧ len = xs.length ∧ l = xs.map (Value.int .u8) ∧ xs.length * 8 ≤ big ∧
      (xs ≠ [] → ∃ b o, A = some ⟨b, o, none⟩ ∧ ∀ (j : Nat) (u : Value), l[j]? = some u → w.cell? ⟨b, o + j, none⟩ = some u) := by
    unfold byteRow at hxs
    split at hxs
    · rename_i hav
      rw [hav] at hx
      injection hxs with hxs
      subst hxs
      exact ⟨none, 0, 0, [], hx, rfl, rfl, by simp, fun h => absurd rfl h⟩
    · split at hxs
      · rename_i xs' har
        injection hxs with hxs
        subst hxs
        obtain ⟨A, c, l, e1, h2, h3, h4⟩ := asRow_sound hS har hx
        exact ⟨A, _, c, l, e1, rfl, byte_cells _ _ h2, h3, h4⟩
      · cases hxs
  obtain ⟨A, len, c, l, e1, rfl, rfl, h3, h4⟩ := key
  have hrun : (convert src dst (a.eval x)).run P w = .ok (.string ⟨(toBytes xs).toArray⟩) w := by
    rw [e1]
    by_cases hne : xs = []
    · subst hne
      cases A with
      | none => exact run_convert_bytes_nil w src e hs he _ _ dst hdst
      | some ad =>
        have := run_convert_bytes_string (P := P) w src dst e (some ad) 0 c hs he hdst
        rw [show ([] : List Int).length = 0 from rfl, this]
        have h5 := run_bytesToString (P := P) w ad 0 c [] (by simp [loadCells, loadCellsFrom])
        rw [h5]; rfl
    · obtain ⟨b, o, rfl, hc⟩ := h4 hne
      have := run_convert_bytes_arg (P := P) w src e hs he b o xs.length c xs rfl (fun i hi => by
        apply hc
        simp [List.getD, hi]) dst hdst
      rw [this]
      simp [strOfNums, toBytes]
  refine EOK.of_run hd (v := .string ⟨(toBytes xs).toArray⟩) (w' := w) ?_ ⟨p, β, hS.set (blt_lt hdn) ⟨rfl, by simp only [toBytes, List.length_map, big] at *; omega⟩⟩
  simp only [execOp, ho, Sem.run_bind, hrun, Result.andThen_ok, Sem.run_pure]

theorem elemOK_info {t : TypeId} {T : Ty} (h : elemOK P t T = true) (h1 : T.size = 1) : ∃ e, P.underlying t = some (.slice e) ∧ (P.info? e).map (·.size) = some 1 := by
  obtain ⟨e, inf, hu, hinf, hsz⟩ := elemOK_spec h
  exact ⟨e, hu, by rw [hinf, Option.map_some, hsz, h1]⟩

theorem evCopy_sound (hS : SatB M p0 w0 S a.tmps w p β) {o : Oper} {r : Nat} {t t' : TypeId} {x y : Operand} (hd : o.dst = some r) (ho : o.op = .call { callee := .builtin .copy, args := #[x, y], argTypes := #[t, t'] })
    {ps : List Prop} {S' : St} (h : evCopy P S r t (S.look [] x) (S.look [] y) = some (ps, S')) (hps : ∀ q ∈ ps, q) : EOK M p0 w0 S' P o a w := by
  have hx := look_val hS (ctx_nil _) x
  have hy := look_val hS (ctx_nil _) y
  unfold evCopy at h
  split at h <;> try cases h
  rename_i d i n T' ys hsp hys
  split at h <;> try cases h
  rename_i e T xs hd1
  split at h <;> try cases h
  rename_i hT
  subst hT
  split at h <;> simp only [Option.some.injEq, Prod.mk.injEq, reduceCtorEq] at h <;> obtain ⟨rfl, rfl⟩ := h
  rename_i hb
  simp only [Bool.and_eq_true] at hb
  obtain ⟨⟨⟨⟨⟨hso, hel⟩, hs1⟩, _⟩, _⟩, hrn⟩ := hb
  have hs1 := Nat.eq_of_beq_eq_true hs1
  have hin : i + n ≤ xs.length := hps _ (by simp)
  obtain ⟨e', hu, hsz⟩ := elemOK_info hel hs1
  obtain ⟨A, c, l2, e2, g2, g3, g4⟩ := asRow_sound hS hys hy
  obtain ⟨l, k1, k2, k3⟩ := hS.lhs d _ hd1
  -- where the part begins
  have hv : ∃ B n' c', a.eval x = .slice B n' c' ∧ n' = n ∧ (n = 0 ∨ ∃ b m cc, β d = .slice (some ⟨b, 0, none⟩) m cc ∧ B = some ⟨b, i, none⟩) := by
    unfold AV.span at hsp
    split at hsp
    · rename_i d' T1 i' n' hav
      simp only [Option.some.injEq, Prod.mk.injEq] at hsp
      obtain ⟨rfl, rfl, rfl⟩ := hsp
      rw [hav] at hx hso
      have hT1 : T1 = T' := of_decide_eq_true hso
      subst hT1
      rcases hx with ⟨b, m, cc, c', q1, q2⟩ | ⟨q1, B, c', q2⟩
      · refine ⟨_, _, c', q2, rfl, .inr ⟨b, m, cc, q1, ?_⟩⟩
        rw [hs1, Nat.mul_one]
      · exact ⟨B, 0, c', q2, q1.symm, .inl q1⟩
    · rename_i d' hav
      split at hsp <;> simp only [Option.some.injEq, Prod.mk.injEq, reduceCtorEq] at hsp
      rename_i _ _ xs' hd2
      obtain ⟨rfl, rfl, rfl⟩ := hsp
      rw [hd1] at hd2
      cases hd2
      rw [hav] at hx
      have hx' : a.eval x = β d' := hx
      rcases k1.2 with ⟨q1, q2⟩ | ⟨g, cap, cur, q1, _⟩
      · exact ⟨none, 0, 0, hx'.trans q1, q2.symm, .inl q2⟩
      · exact ⟨_, _, cap, hx'.trans q1, rfl, .inr ⟨g, _, cap, q1, rfl⟩⟩
    · cases hsp
  obtain ⟨B, n', c', hxe, rfl, hB⟩ := hv
  have hm8 : min ys.length n' ≤ 140737488355328 := by
    have := bytes_pos T'
    have h8 : ys.length * 8 ≤ ys.length * T'.bytes := Nat.mul_le_mul_left _ this
    simp only [big] at g3
    omega
  have fin : ∀ {w' : World}, (Builtin.copy_ #[t, t'] o.type #[a.eval x, a.eval y]).run P w = .ok (goInt (min ys.length n' : Nat)) w' → Sat M p0 w0 ((S.entry d (.row e T' (xs.take i ++ (ys.take (min ys.length n') ++ xs.drop (i + min ys.length n'))))).set r (.int .i64 ((min ys.length n' : Nat) : Int))) (a.tmps.setIfInBounds r (goInt (min ys.length n' : Nat))) w' → EOK M p0 w0 ((S.entry d (.row e T' (xs.take i ++ (ys.take (min ys.length n') ++ xs.drop (i + min ys.length n'))))).set r (.int .i64 ((min ys.length n' : Nat) : Int))) P o a w := by
    intro w' hr hsat
    obtain ⟨cs, hbi⟩ := run_builtin (a := a) (w := w) (P := P) ho
    refine EOK.of_run hd (v := goInt (min ys.length n' : Nat)) (w' := w') ?_ hsat
    rw [hbi]
    simp only [builtin, List.map_toArray, List.map_cons, List.map_nil, Sem.run_bind, hr, Result.andThen_ok, Sem.run_pure]
  have setR : ∀ {w' : World}, SatB M p0 w0 (S.entry d (.row e T' (xs.take i ++ (ys.take (min ys.length n') ++ xs.drop (i + min ys.length n'))))) a.tmps w' p β →
      Sat M p0 w0 ((S.entry d (.row e T' (xs.take i ++ (ys.take (min ys.length n') ++ xs.drop (i + min ys.length n'))))).set r (.int .i64 ((min ys.length n' : Nat) : Int))) (a.tmps.setIfInBounds r (goInt (min ys.length n' : Nat))) w' :=
    fun hs => ⟨p, β, hs.set (blt_lt hrn) ⟨rfl, by simp only [InR]; omega⟩⟩
  by_cases h0 : min ys.length n' = 0
  · have hrun := run_copy_none (P := P) w t t' o.type e' B A n' c' ys.length c hu hsz h0
    refine fin (w' := w) (by rw [hxe, e2, hrun, h0]; rfl) (setR ?_)
    have : xs.take i ++ (ys.take (min ys.length n') ++ xs.drop (i + min ys.length n')) = xs := by rw [h0]; simp
    rw [this]
    have e3 : S.entry d (.row e T' xs) = S := by
      unfold St.entry
      have : (fun x => bif Nat.beq x d then some (LE.row e T' xs) else S.lh x) = S.lh := by
        funext x
        cases hb : Nat.beq x d
        · rfl
        · rw [Nat.eq_of_beq_eq_true hb, hd1]; rfl
      rw [this]
    rw [e3]
    exact hS
  · rcases hB with hB | ⟨b, m, cc, q1, rfl⟩
    · omega
    have hne : ys ≠ [] := by intro e0; rw [e0] at h0; simp at h0
    obtain ⟨b2, o2, rfl, hcell⟩ := g4 hne
    rcases k1.2 with ⟨_, z0⟩ | ⟨g, cap, cur, q2, _, q3, q4, q4', q5, q6⟩
    · omega
    rw [q1] at q2
    injection q2 with q2 hm hcap
    injection q2 with q2
    injection q2 with q2
    subst q2
    rw [hs1, Nat.mul_one] at q5 q6
    have hl2 : l2.length = ys.length := by
      have := rowHold_length (fun x cs h => Ty.holds_length (p := p) T' x cs h) ys l2 g2
      rw [this, hs1, Nat.mul_one]
    have hll : l.length = xs.length := by have := k1.1; rw [hs1, Nat.mul_one] at this; exact this
    have hcs : (l2.take (min ys.length n')).length = min ys.length n' := by simp; omega
    have hrun := run_copy_row (P := P) w t t' o.type e' b i n' c' ⟨b2, o2, none⟩ ys.length c cur e (l2.take (min ys.length n')) hu hsz q3 hcs
      (fun j v hj => by
        rw [List.getElem?_take] at hj
        split at hj
        · rw [addr_add]; exact hcell j v hj
        · cases hj)
      (by rw [hcs, q5]; omega) (fun v hv => rowHold_all (fun x cs h => holds_oneCell T' x cs h) ys l2 g2 v (List.mem_of_mem_take hv))
    obtain ⟨f1, f2, f3, f4, f5, f6⟩ := setRow_facts w b (cur.toList.take i ++ l2.take (min ys.length n') ++ cur.toList.drop (i + (l2.take (min ys.length n')).length)).toArray q3
    refine fin (by rw [hxe, e2, hrun, hcs]) (setR (hS.turn hd1 rfl (by rw [q1]; rfl) f2 f3 f4 f5 f6 ?_))
    have t1 := rowHold_take (fun x cs h => Ty.holds_length (p := p) T' x cs h) i xs l k2
    have t2 := rowHold_take (fun x cs h => Ty.holds_length (p := p) T' x cs h) (min ys.length n') ys l2 g2
    have t3 := rowHold_drop (fun x cs h => Ty.holds_length (p := p) T' x cs h) (i + min ys.length n') xs l k2
    rw [hs1, Nat.mul_one] at t1 t2 t3
    have hnew : (xs.take i ++ (ys.take (min ys.length n') ++ xs.drop (i + min ys.length n'))).length = xs.length := by simp; omega
    refine ⟨l.take i ++ (l2.take (min ys.length n') ++ l.drop (i + min ys.length n')), ⟨?_, .inr ⟨b, cap, _, ?_, Nat.zero_le _, f1, by omega, q4', ?_, ?_⟩⟩, rowHold_append _ _ _ _ t1 (rowHold_append _ _ _ _ t2 t3), by rw [hnew]; exact k3⟩
    · rw [hnew, hs1, Nat.mul_one]
      simp
      omega
    · rw [q1, hm, hcap, hnew]
    · simp only [List.size_toArray, List.length_append, List.length_take, List.length_drop, Array.length_toList, hs1]
      omega
    · rw [hnew, hs1, Nat.mul_one]
      have := splice cur.toList l (l2.take (min ys.length n')) (s := min ys.length n') (n := min ys.length n') (o1 := i) (off := 0) (N := xs.length) q6 (by simp; omega) (by omega) (by omega) hcs
      simp only [Nat.add_zero, List.take_zero, List.nil_append, Nat.zero_add] at this
      rw [hcs]
      rw [this]
      simp

theorem zero_made (z : Array Value) (n : Nat) : Builtin.zeroCells z n = madeCells z (n * z.size) := rfl

theorem evAppendMake_sound (hS : SatB M p0 w0 S a.tmps w p β) {o : Oper} {d : Nat} {t t' : TypeId} {s x : Operand} (hd : o.dst = some d) (ho : o.op = .call { callee := .builtin .append, args := #[s, x], argTypes := #[t, t'] })
    {ps : List Prop} {S' : St} (h : evAppendMake P S d t t' (S.look [] s) (S.look [] x) = some (ps, S')) (hps : ∀ q ∈ ps, q) : EOK M p0 w0 S' P o a w := by
  have hs := look_val hS (ctx_nil _) s
  have hx := look_val hS (ctx_nil _) x
  unfold evAppendMake at h
  split at h <;> try cases h
  rename_i e kn he hkn
  have hu := sliceElem_spec he
  split at h <;> try cases h
  rename_i T hT
  split at h <;> try cases h
  rename_i i hi
  split at h <;> try cases h
  rename_i z hz
  split at h <;> try cases h
  rename_i _ _ _ y k n hy has hax
  rw [has] at hs
  rw [hax] at hx
  split at h <;> simp only [Option.some.injEq, Prod.mk.injEq, reduceCtorEq] at h <;> obtain ⟨rfl, rfl⟩ := h
  rename_i hb
  simp only [Bool.and_eq_true] at hb
  obtain ⟨i', z', hi', hsz, hby, hz', hzs⟩ := elemFits_spec hb.1.1
  rw [hi] at hi'
  injection hi' with hi'
  subst hi'
  rw [hz] at hz'
  injection hz' with hz'
  subst hz'
  have h0 : 0 < n := hps _ (by simp)
  have hbig : n.toNat * T.bytes ≤ big := hps _ (by simp)
  have hse : a.eval s = .slice none 0 0 := hs
  obtain ⟨hxe, _⟩ := val_int hx
  have hxe : a.eval x = .int k ((n.toNat : Nat) : Int) := by rw [hxe, Int.toNat_of_nonneg (by omega)]
  have h8 := bytes_pos T
  have hTp := Ty.size_pos T
  have hn8 : n.toNat * 8 ≤ n.toNat * T.bytes := Nat.mul_le_mul_left _ h8
  have hnb : n.toNat * i.bytes ≤ n.toNat * T.bytes := Nat.mul_le_mul_left _ hby
  have hmx : n.toNat ≤ maxLen := by simp only [maxLen, big] at *; omega
  have hcapge := grownCap_ge w (0 + n.toNat) 0 e
  have hcaple := grownCap_le_maxLen w (0 + n.toNat) 0 e (by simpa using hmx)
  have hns : Builtin.nextslicecap (0 + n.toNat) 0 * i.bytes ≤ 281474976710656 := by
    have : Builtin.nextslicecap (0 + n.toNat) 0 = n.toNat := by
      unfold Builtin.nextslicecap
      rw [if_pos (by omega), Nat.zero_add]
    rw [this]
    simp only [big] at hbig
    omega
  have hrun := Lib.run_append_grow_zeros (P := P) w t t' o.type e i z k kn hu hkn hi hz none 0 0 [] (by simp [Builtin.firstCells]) n.toNat (by omega) (by rw [hsz]; exact hTp) (by omega) (by simp only [maxLen] at hmx; omega) (by simp only [big] at hbig; omega) hns
  have hzc : z.cells.toList ≠ [] := by
    intro e0
    have : z.cells.size = 0 := by simpa using congrArg List.length e0
    omega
  have hyc : T.holds p y z.cells.toList := by
    have hS0 : SatB M p0 w0 { S with lh := fun _ => none } a.tmps w p β :=
      ⟨hS.keep, hS.agr, hS.old, hS.size, fun d e h => (by cases h), fun d e b h => (by cases h), fun d d' e e' b h => (by cases h), hS.env⟩
    have := toTy_sound hS0 (rows := false) T _ y _ hy (ofCells_cells _ hzc)
    simpa using this
  generalize hcap : grownCap w (0 + n.toNat) 0 e = cap at *
  have hcells : (Builtin.zeroCells z.cells n.toNat).toList = (List.replicate n.toNat z.cells.toList).flatten := by
    rw [zero_made]
    exact madeCells_toList z.cells (by rw [hzs]; exact hTp) n.toNat
  have hcz : (Builtin.zeroCells z.cells n.toNat).size = n.toNat * T.size := by rw [zero_made, size_madeCells, hzs]
  have hn := hS.drew.newEntry (cs := ([] : List Value).toArray ++ Builtin.zeroCells z.cells n.toNat ++ Builtin.zeroCells z.cells (cap - (0 + n.toNat))) (t := e) (d := d) (e := .row e T (List.replicate n.toNat y)) (v := .slice (some ⟨w.heap.size, 0, none⟩) (0 + n.toNat) cap) rfl (by
    refine ⟨(Builtin.zeroCells z.cells n.toNat).toList, ⟨by simp [hcz], .inr ⟨w.heap.size, cap, _, by simp, Nat.zero_le _, heap_alloc_new w.drew _, by simpa using hcapge, hcaple, ?_, ?_⟩⟩, ?_, by simpa using hbig⟩
    · simp only [Array.size_append, zero_made, size_madeCells, hzs]
      simp only [Nat.zero_add] at hcapge
      simp
      rw [← Nat.add_mul]
      congr 1
      omega
    · simp only [List.length_replicate]
      rw [Array.toList_append, List.take_append_of_le_length (by simp [hcz])]
      rw [List.take_of_length_le (by simp [hcz])]
      simp
    · rw [hcells]
      exact rowHold_replicate hyc _)
  obtain ⟨cs, hbi⟩ := run_builtin (a := a) (w := w) (P := P) ho
  refine EOK.of_run hd (v := .slice (some ⟨w.heap.size, 0, none⟩) (0 + n.toNat) cap) (w' := w.drew.alloc (.cells (([] : List Value).toArray ++ Builtin.zeroCells z.cells n.toNat ++ Builtin.zeroCells z.cells (cap - (0 + n.toNat))) e)) ?_ ⟨p, _, hn.set (blt_lt hb.1.2) (show _ = _ by simp)⟩
  rw [hbi]
  simp only [builtin, List.map_toArray, List.map_cons, List.map_nil, Sem.run_bind, hse, hxe, hrun, Result.andThen_ok, Sem.run_pure]

theorem evCut_sound (hS : SatB M p0 w0 S a.tmps w p β) {o : Oper} {r : Nat} {t : TypeId} {x h' : Operand} (hd : o.dst = some r) (ho : o.op = .slice t x none (some h') none)
    {ps : List Prop} {S' : St} (h : evCut P S r t (S.look [] x) (S.look [] h') = some (ps, S')) (hps : ∀ q ∈ ps, q) : EOK M p0 w0 S' P o a w := by
  have hx := look_val hS (ctx_nil _) x
  have hh := look_val hS (ctx_nil _) h'
  unfold evCut at h
  split at h <;> try cases h
  rename_i d k b hax hah
  rw [hax] at hx
  rw [hah] at hh
  split at h <;> try cases h
  rename_i e T xs hd1
  split at h <;> simp only [Option.some.injEq, Prod.mk.injEq, reduceCtorEq] at h <;> obtain ⟨rfl, rfl⟩ := h
  rename_i hb
  simp only [Bool.and_eq_true] at hb
  obtain ⟨⟨⟨hok, _⟩, hrn⟩, _⟩ := hb
  have h0 : 0 ≤ b := hps _ (by simp)
  have h1 : b ≤ (xs.length : Int) := hps _ (by simp)
  obtain ⟨e', inf, hu, hinf, hsz⟩ := elemOK_spec hok
  obtain ⟨hbe, _⟩ := val_int hh
  have hbe : a.eval h' = .int k ((b.toNat : Nat) : Int) := by rw [hbe, Int.toNat_of_nonneg h0]
  have hxe : a.eval x = β d := hx
  obtain ⟨l, k1, k2, k3⟩ := hS.lhs d _ hd1
  have hS0 : SatB M p0 w0 (S.entry d .dead) a.tmps w p β := hS.entry trivial (fun b h => by cases h) (fun d' e' b _ h => by cases h)
  have htake : (xs.take b.toNat).length = b.toNat := by simp; omega
  have hrow := rowHold_take (fun x cs h => Ty.holds_length (p := p) T x cs h) b.toNat xs l k2
  have hbig' : (xs.take b.toNat).length * T.bytes ≤ big := by rw [htake]; exact Nat.le_trans (Nat.mul_le_mul_right _ (by omega)) k3
  have hll := k1.1
  have key : ∃ v, (Instr.sliceAt t (a.eval x) none (some (a.eval h')) none).run P w = .ok v w ∧ w.ownsRow 0 e T.size v (xs.take b.toNat).length (l.take (b.toNat * T.size)) ∧ blkOf v = blkOf (β d) := by
    rw [htake]
    rcases k1.2 with ⟨q1, q2⟩ | ⟨g, cap, cur, q1, _, q3, q4, q4', q5, q6⟩
    · have hz : xs.length = 0 := q2
      have hb0 : b.toNat = 0 := by omega
      refine ⟨_, by rw [hxe, q1, hbe]; exact slice_run hu hinf (l := 0) (h := b.toNat) (Nat.zero_le _) (len := 0) (cap := 0) (by omega) (Nat.le_refl _) (.inl ⟨rfl, rfl⟩) (.inr ⟨k, rfl⟩), ?_, by rw [q1]; simp [blkOf]⟩
      rw [hb0]
      simpa using World.ownsRow_nil w 0 e T.size
    · refine ⟨_, by rw [hxe, q1, hbe]; exact slice_run hu hinf (l := 0) (h := b.toNat) (Nat.zero_le _) (by omega) q4 (.inl ⟨rfl, rfl⟩) (.inr ⟨k, rfl⟩), ?_, ?_⟩
      · have ea : (if cap = 0 then (some ⟨g, 0, none⟩ : Option Addr) else (some (⟨g, 0, none⟩ : Addr)).map (·.add (0 * inf.size))) = some ⟨g, 0, none⟩ := by
          split
          · rfl
          · simp [addr_add]
        rw [ea]
        refine ⟨by simp only [List.length_take, hll]; rw [Nat.min_eq_left (Nat.mul_le_mul_right _ (by omega))], .inr ⟨g, cap, cur, by simp, Nat.zero_le _, q3, by omega, q4', q5, ?_⟩⟩
        rw [← q6, List.take_take, Nat.min_eq_left (Nat.mul_le_mul_right _ (by omega))]
      · rw [q1]
        split
        · rfl
        · simp [addr_add, blkOf]
  obtain ⟨v, hrun, hown, hblk⟩ := key
  have hfresh := hS0.fresh (d := r) (e := .row e T (xs.take b.toNat)) (v := v) ⟨_, by simpa using hown, hrow, hbig'⟩
    (fun b' _ hb' => by
      rw [hblk] at hb'
      exact hS.owns d _ b' hd1 rfl hb')
    (fun d' e'' b' _ _ hd' hl' hb' hb'' => by
      rw [hblk] at hb'
      have hne : d' ≠ d := by
        intro e3
        subst e3
        simp only [St.entry, beq_tt, cond_true, Option.some.injEq] at hd'
        subst hd'
        cases hl'
      simp only [St.entry, beq_ff hne, cond_false] at hd'
      exact hne (hS.inj d' d e'' _ b' hd' hl' hd1 rfl hb'' hb'))
  refine EOK.of_run hd (v := v) (w' := w) ?_ ⟨p, _, hfresh.set (blt_lt hrn) (show v = _ by simp)⟩
  simp only [execOp, ho, Sem.run_bind, Option.map_none, Option.map_some, hrun, Result.andThen_ok, Sem.run_pure]

theorem evMakeMap_sound (hS : SatB M p0 w0 S a.tmps w p β) {o : Oper} {d : Nat} {t : TypeId} (hd : o.dst = some d) (ho : o.op = .makeMap t none) {ps : List Prop} {S' : St}
    (h : evMakeMap P S d t = some (ps, S')) : EOK M p0 w0 S' P o a w := by
  unfold evMakeMap at h
  split at h <;> try cases h
  rename_i k V _
  split at h <;> simp only [Option.some.injEq, Prod.mk.injEq, reduceCtorEq] at h
  rename_i hb
  obtain ⟨rfl, rfl⟩ := h
  simp only [Bool.and_eq_true] at hb
  have hs : (LE.mapp k V []).sat p (fun x => if x = d then .map (some w.heap.size) else β x) (w.alloc (.map #[] 0)) d :=
    ⟨w.heap.size, #[], 0, by simp, (MapKept.heap_alloc w _).1, ⟨by simp, by simp⟩, rfl⟩
  have hn : SatB M p0 w0 (S.fresh d (.mapp k V [])) a.tmps (w.alloc (.map #[] 0)) p (fun x => if x = d then .map (some w.heap.size) else β x) := by
    refine (hS.alloc _).fresh hs (fun b _ hb => ?_) (fun d' e' b _ _ hd hl hb hb' => ?_)
    · injection hb with hb
      subst hb
      refine ⟨.inr hS.keep.size, ?_⟩
      cases hp : p w.heap.size with
      | none => rfl
      | some c => have := hS.agr.lt hp; omega
    · injection hb with hb
      subst hb
      have := LE.sat_lt d' e' hl (hS.lhs d' e' hd) hb'
      omega
  refine EOK.of_run hd (v := .map (some w.heap.size)) (w' := w.alloc (.map #[] 0)) ?_ ⟨p, _, hn.set (blt_lt hb.1) (show _ = _ by simp)⟩
  simp only [execOp, ho, Sem.run_bind, Option.map_none]
  rfl

theorem mapUpdate_run {t kt e : TypeId} {k : IntKind} (hu : P.underlying t = some (.map kt e)) (hku : P.underlying kt = some (.int k)) {g : Nat} {es : Array MapEntry} {clock : Nat} (hg : w.heap[g]? = some (.map es clock)) (hst : Stamped es clock) {V : Ty} {m : List (Int × V.den)}
    (hm : mapHold k (fun x v => vhold V (V.holds p x) v) m es.toList) {n : Int} (hn : InR k n) {y : V.den} {v : Value} (hv : V.vholds p y v) :
    ∃ es' clock', (Instr.mapUpdate t (.map (some g)) (.int k n) v).run P w = .ok () { w with heap := w.heap.setIfInBounds g (.map es' clock') } ∧ Stamped es' clock' ∧ mapHold k (fun x v => vhold V (V.holds p x) v) (mput m n y) es'.toList := by
  rcases findNow_hold hn m es.toList 0 hm with ⟨_, g2, g3⟩ | ⟨x, j, e0, _, g2, g3, g4, _, g6⟩
  · refine ⟨es.push { key := .int k n, val := v, born := clock }, clock + 1, ?_, ⟨?_, ?_⟩, ?_⟩
    · simp [Instr.mapUpdate, run_underlying hu, MapKept.run_getObj_map hg, run_checkKey_int hku, run_findKey_int hku g2, MapKept.run_setObj_map _ hg]
    · simp only [Array.toList_push, List.map_append, List.map_cons, List.map_nil]
      refine List.pairwise_append.2 ⟨hst.1, by simp, fun a ha b hb => ?_⟩
      simp only [List.mem_singleton] at hb
      subst hb
      obtain ⟨x, hx, rfl⟩ := List.mem_map.1 ha
      exact hst.2 x hx
    · intro x hx
      simp only [Array.toList_push, List.mem_append, List.mem_singleton] at hx
      rcases hx with hx | rfl
      · have := hst.2 x hx; omega
      · simp
    · rw [Array.toList_push]
      exact g3 y v clock (vhold_iff0.2 hv)
  · have hj : es[j]? = some e0 := by simpa using g3
    refine ⟨es.modify j fun e => { e with key := .int k n, val := v }, clock, ?_, ?_, ?_⟩
    · have g2' : Instr.findNow (.int k) (.int k n) es.toList 0 = some (some (j, e0.val)) := by rw [g2]; simp
      have hk : (Instr.keyThatStays (((es[j]?).map (·.key)).getD (.int k n)) (.int k n)).run P w = .ok (.int k n) w := by
        simp [hj, g4, Instr.keyThatStays, Instr.sameBits]
      simp only [Instr.mapUpdate, Sem.run_bind, run_underlying hu, Result.andThen_ok, MapKept.run_getObj_map hg, run_checkKey_int hku, run_findKey_int hku g2', hk, MapKept.run_setObj_map _ hg]
    · have hborn : (es.modify j fun e => { e with key := .int k n, val := v }).toList.map (·.born) = es.toList.map (·.born) := by
        apply List.ext_getElem?
        intro i
        simp only [List.getElem?_map, Array.getElem?_toList, Array.getElem?_modify]
        by_cases hij : j = i
        · subst hij; simp [hj]
        · simp [hij]
      refine ⟨by rw [hborn]; exact hst.1, fun x hx => ?_⟩
      have : x.born ∈ (es.modify j fun e => { e with key := .int k n, val := v }).toList.map (·.born) := List.mem_map.2 ⟨x, hx, rfl⟩
      rw [hborn] at this
      obtain ⟨z, hz, e⟩ := List.mem_map.1 this
      rw [← e]
      exact hst.2 z hz
    · have : (es.modify j fun e => { e with key := .int k n, val := v }).toList = es.toList.modify j fun e => { e with key := .int k n, val := v } := by simp
      rw [this]
      exact g6 y v (vhold_iff0.2 hv)

theorem evMapSet_sound (hS : SatB M p0 w0 S a.tmps w p β) {o : Oper} {t : TypeId} {m x v : Operand} (hd : o.dst = none) (ho : o.op = .mapUpdate t m x v ∨ o.op = .insert t m x v) {ps : List Prop} {S' : St}
    (h : evMapSet P S t (S.look [] m) (S.look [] x) (S.look [] v) = some (ps, S')) : EOK M p0 w0 S' P o a w := by
  have hmv := look_val hS (ctx_nil _) m
  have hxv := look_val hS (ctx_nil _) x
  have hvv := look_val hS (ctx_nil _) v
  unfold evMapSet at h
  split at h <;> try cases h
  rename_i k kt e d k' n hk hm hx
  obtain ⟨hu, hku⟩ := mapKey_spec hk
  rw [hm] at hmv
  rw [hx] at hxv
  obtain ⟨hxe, hn⟩ := val_int hxv
  obtain ⟨p1, hle, hS1⟩ := freeze_sound (S.look [] v).owns S p hS
  have hvv := AV.val_mono hle _ _ hvv
  split at h <;> try cases h
  rename_i k'' V l hd1
  split at h <;> try cases h
  rename_i hkk
  obtain ⟨rfl, rfl⟩ := hkk
  split at h
  · cases h
  split at h <;> simp only [Option.some.injEq, Prod.mk.injEq, reduceCtorEq] at h
  rename_i y hy
  obtain ⟨rfl, rfl⟩ := h
  have hyv := toTy_vsound hS1 (rows := false) hy hvv
  simp only [Bool.false_eq_true, if_false] at hyv
  obtain ⟨g, es, clock, g1, g2, g3, g4⟩ := hS1.lhs d _ hd1
  have hme : a.eval m = .map (some g) := by
    have h9 : a.eval m = β d := hmv
    rw [h9, g1]
  obtain ⟨es', clock', hrun, hst', hm'⟩ := mapUpdate_run hu hku g2 g3 g4 hn hyv
  have hset := MapKept.heap_set (w := w) (r := g) (o' := .map es' clock') g2
  have hturn := hS1.turn (d := d) (e' := .mapp k'' V (mput l n y)) (w' := { w with heap := w.heap.setIfInBounds g (.map es' clock') }) hd1 rfl (by rw [g1]; rfl) rfl rfl rfl (by simp) (fun i hi => hset.2 i hi)
    ⟨g, es', clock', g1, hset.1, hst', hm'⟩
  exact skip_of_run hd (s := Instr.mapUpdate t (a.eval m) (a.eval x) (a.eval v)) (by rcases ho with ho | ho <;> simp only [execOp, ho]) (by rw [hme, hxe]; exact hrun) ⟨p1, β, hturn⟩

theorem evE_sound (hS : SatB M p0 w0 S a.tmps w p β) {ss : Specs} (hss : ss.ok P) {o : Oper} {ps : List Prop} {S' : St} (h : evE P ss S o = some (ps, S')) (hps : ∀ q ∈ ps, q) : EOK M p0 w0 S' P o a w := by
  unfold evE at h
  split at h
  · rename_i hd
    split at h
    · rename_i t ad v ho
      exact evStore_sound hS hd ho h hps
    · rename_i t m x v ho
      exact evMapSet_sound hS hd (.inl ho) h
    · rename_i t m x v ho
      exact evMapSet_sound hS hd (.inr ho) h
    · cases h
  · rename_i d hd
    split at h
    · rename_i elem x ho
      exact evBox_sound hS hd ho h
    · rename_i elem ho
      exact evAlloc_sound hS hd ho h
    · rename_i f args ts ho
      exact evECall_sound hS hss hd ho h hps
    · rename_i args ts ho
      split at h
      · rename_i s x t t' ha ht
        split at h
        · rename_i htt
          have htt := Nat.eq_of_beq_eq_true htt
          subst htt
          have e1 : args = #[s, x] := by apply Array.toList_inj.1; rw [ha]
          have e2 : ts = #[t, t] := by apply Array.toList_inj.1; rw [ht]
          subst e1
          subst e2
          exact evAppend_sound hS hd ho h hps
        · have e1 : args = #[s, x] := by apply Array.toList_inj.1; rw [ha]
          have e2 : ts = #[t, t'] := by apply Array.toList_inj.1; rw [ht]
          subst e1
          subst e2
          exact evAppendMake_sound hS hd ho h hps
      · cases h
    · rename_i args ts ho
      split at h
      · rename_i x y t t' ha ht
        have e1 : args = #[x, y] := by apply Array.toList_inj.1; rw [ha]
        have e2 : ts = #[t, t'] := by apply Array.toList_inj.1; rw [ht]
        subst e1
        subst e2
        exact evCopy_sound hS hd ho h hps
      · cases h
    · rename_i t l c ho
      split at h
      · rename_i hlc
        exact evMake_sound hS hd ho hlc h hps
      · cases h
    · rename_i t len parts ho
      exact evBuildSlice_sound hS hd ho h
    · rename_i t x h' ho
      exact evCut_sound hS hd ho h hps
    · rename_i src dst x ho
      exact evBytesStr_sound hS hd ho h
    · rename_i t ho
      exact evMakeMap_sound hS hd ho h
    · cases h
end
end Go.Proofs.Ytgnamdjmjkeodaa
