/- The engine, part 33 (stands between 17 and 18): operations that make a row, taken avs values: the row becomes unchanging at once. -/
import Derived.Test.YtgnamdjmjkeodaaE17
import Derived.WalkSpells
namespace Go.Proofs.Ytgnamdjmjkeodaa
open Go

def RT.avD : (R : RT) → R.den → AV
  | .dat T, x => T.av x
  | .own _ T, xs => .sl T xs
  | .map k V, m => .md k V m

def resTupD : (Rs : List RT) → RDens Rs → AV
  | [], _ => .tnil
  | [R], x => .tup (R.avD x) .tnil
  | R :: U :: Rs, x => .tup (R.avD x.1) (resTupD (U :: Rs) x.2)

def resAVD (Rs : List RT) (x : RDens Rs) : AV :=
  match Rs, x with
  | [R], x => R.avD x
  | Rs, x => resTupD Rs x

/-- A new row, avs data. -/
def evRow (P : Program) (S : St) (ctx : List (Nat × Bool)) (o : Oper) : Option (List Prop × ((T : Ty) × List T.den)) :=
  match o.op with
  | .makeSlice t l c => if sameTmp l c then match sliceElem P t with
      | none => none
      | some e => match tyOf P 12 e with
        | none => none
        | some T => match P.info? e with
          | none => none
          | some i => match i.zero with
            | none => none
            | some z => match AV.toTy false (fun _ => none) T (AV.ofCells z.cells.toList), S.look ctx l with
              | some y, .int _ n => if elemFits P e T then some ([0 ≤ n, n.toNat * T.bytes ≤ big], ⟨T, List.replicate n.toNat y⟩) else none
              | _, _ => none
    else none
  | .buildSlice t len parts => match sliceElem P t with
    | none => none
    | some e => match tyOf P 12 e with
      | none => none
      | some T => match partsTys S.lh T (S.look ctx) 0 parts.toList with
        | none => none
        | some ys => if elemFits P e T && Nat.beq parts.toList.length len && Nat.ble (len * T.size) 16777216 && Nat.ble (len * T.bytes) big then some ([], ⟨T, ys⟩) else none
  | .call { callee := .builtin .append, args, argTypes } => match args.toList, argTypes.toList with
    | [s, x], [t, t'] => if Nat.beq t t' then match sliceElem P t with
        | none => none
        | some e => match (S.look ctx x).asRow S.lh with
          | none => none
          | some ⟨T, ys⟩ => if elemFits P e T then match S.look ctx s with
            | .nils => some ([ys.length * T.bytes ≤ big], ⟨T, ys⟩)
            | _ => none
            else none
      else none
    | _, _ => none
  | _ => none

/-- Has a slice no element? (If it is nil it has none.) -/
def emptyProp (lh : Nat → Option LE) : AV → Option Prop
  | .sl _ xs => some (xs = [])
  | .own d => match lh d with
    | some (.row _ _ xs) => some (xs = [])
    | some (.froz _ xs) => some (xs = [])
    | _ => none
  | _ => none

/-- 's == nil', 's != nil'. -/
def evNil (P : Program) (lh : Nat → Option LE) (t : TypeId) (op : BinOp) (x y : AV) : Res :=
  match y with
  | .nils => if isSliceT P t then match x with
    | .nils => match op with
      | .eql => some ([], .bool true)
      | .neq => some ([], .bool false)
      | _ => none
    | x => match emptyProp lh x with
      | some q => match op with
        | .eql => some ([], .bl q True)
        | .neq => some ([], .bl True q)
        | _ => none
      | none => none
    else none
  | _ => none

/-- A part of a row of the call's own. -/
def evOwnSlice (P : Program) (lh : Nat → Option LE) (t : TypeId) (x : AV) (lo hi : Option AV) : Res :=
  match x with
  | .own d => match lh d with
    | some (.row _ T xs) => if elemOK P t T then match lo, hi with
      | none, none => some ([], .osl d T 0 xs.length)
      | some (.int _ a), none => some ([0 ≤ a, a ≤ (xs.length : Int)], .osl d T a.toNat (xs.length - a.toNat))
      | none, some (.int _ b) => some ([0 ≤ b, b ≤ (xs.length : Int)], .osl d T 0 b.toNat)
      | some (.int _ a), some (.int _ b) => some ([0 ≤ a, a ≤ b, b ≤ (xs.length : Int)], .osl d T a.toNat (b.toNat - a.toNat))
      | _, _ => none
      else none
    | _ => none
  | _ => none

def isSliceE (P : Program) (t : TypeId) : Bool := match P.underlying t with
  | some (.slice e) => (P.info? e).isSome
  | _ => false

/-- 'nil[:n]' -/
def evNilSlice (P : Program) (t : TypeId) (x : AV) (lo hi : Option AV) : Res :=
  match x, lo, hi with
  | .nils, none, some (.int _ b) => if isSliceE P t then some ([b = 0], .nils) else none
  | _, _, _ => none

def evX (P : Program) (S : St) (ctx : List (Nat × Bool)) (o : Oper) : Res :=
  match o.op with
  | .binOp op t x y _ => evNil P S.lh t op (S.look ctx x) (S.look ctx y)
  | .slice t x lo hi none => match evNilSlice P t (S.look ctx x) (lo.map (S.look ctx)) (hi.map (S.look ctx)) with
    | some r => some r
    | none => evOwnSlice P S.lh t (S.look ctx x) (lo.map (S.look ctx)) (hi.map (S.look ctx))
  | .call { callee := .builtin .cap, args, argTypes } => match args.toList, argTypes.toList with
    | [x], [t] => match S.look ctx x with
      | .nils => if isSliceE P t then some ([], .int .i64 0) else none
      | _ => none
    | _, _ => none
  | _ => none

/-- A value operation; or one that makes a row. -/
def evA (P : Program) (ss : Specs) (S : St) (ctx : List (Nat × Bool)) (o : Oper) : Res :=
  match evV P ss S ctx o with
  | some r => some r
  | none => match evRow P S ctx o with
    | some (ps, ⟨T, xs⟩) => some (ps, .sl T xs)
    | none => match evX P S ctx o with
     | some r => some r
     | none => match o.op with
      | .call { callee := .value (.tmp t), args, .. } => match S.look ctx (.tmp t) with
        | .fn f c1 c2 => match evCall P ss S.lh f ((c1.map fun x => .loc x.1 x.2) ++ args.toList.map (S.look ctx) ++ (c2.map fun x => .loc x.1 x.2)) with
          | some (q, ⟨Rs, x⟩) => some ([q], resAVD Rs x)
          | none => none
        | _ => none
      | .call { callee := .value (.func f), args, .. } => match evCall P ss S.lh f (args.toList.map (S.look ctx)) with
        | some (q, ⟨Rs, x⟩) => some ([q], resAVD Rs x)
        | none => none
      | .convert src dst x => match P.underlying src, P.underlying dst with
        | some (.slice e), some .string => match P.underlying e with
          | some (.int .u8) => match byteRow S.lh (S.look ctx x) with
            | some xs => some ([], .str (toBytes xs))
            | none => none
          | _ => none
        | _, _ => none
      | _ => none

section
variable {M : Nat → Prop} {p0 : PH} {w0 : World} {S : St} {tm : Array Value} {w : World} {p : PH} {β : Nat → Value} {P : Program} {a : Act}

/-- A block that nobody has a name for becomes unchanging. -/
theorem Blk.In_inj {j k : Blk} {o : Option Go.Obj} (h1 : j.In o) (h2 : k.In o) : j = k := by
  cases j <;> cases k
  · obtain ⟨_, _, rfl⟩ := h1
    obtain ⟨_, _, e⟩ := h2
    injection e with e
    injection e with e
    rw [e]
  · obtain ⟨_, _, rfl⟩ := h1
    obtain ⟨_, e⟩ := h2
    cases e
  · obtain ⟨_, rfl⟩ := h1
    obtain ⟨_, _, e⟩ := h2
    cases e
  · obtain ⟨_, rfl⟩ := h1
    obtain ⟨_, e⟩ := h2
    injection e with e
    injection e with e
    rw [e]

theorem SatB.addBlock (hS : SatB M p0 w0 S tm w p β) {g : Nat} {k : Blk} (hg : k.In w.heap[g]?) (h0 : w0.heap.size ≤ g)
    (hfree : ∀ d e, S.lh d = some e → e.live = true → blkOf (β d) ≠ some g) :
    PH.le p (fun b => if b = g then some k else p b) ∧ SatB M p0 w0 S tm w (fun b => if b = g then some k else p b) β := by
  have hle : PH.le p (fun b => if b = g then some k else p b) := fun b cs h => by
    by_cases e : b = g
    · subst e
      have := Blk.In_inj hg (hS.agr b cs h)
      simp [this]
    · simpa [e] using h
  refine ⟨hle, hS.more hle (fun b cs h => ?_) (fun b cs h => ?_) (fun d e b hd hl hb => ?_)⟩
  · by_cases e : b = g
    · subst e
      simp only [if_true, Option.some.injEq] at h
      subst h
      exact hg
    · simp only [e, if_false] at h
      exact hS.agr b cs h
  · by_cases e : b = g
    · subst e
      exact .inr (.inl h0)
    · simp only [e, if_false] at h
      exact .inl h
  · have hne : b ≠ g := fun e' => hfree d e hd hl (by rw [hb, e'])
    simp only [hne, if_false]
    exact (hS.owns d e b hd hl hb).2

theorem SatB.addRow (hS : SatB M p0 w0 S tm w p β) {B : Nat} {e : TypeId} {T : Ty} {v : Value} {xs : List T.den} {l : List Value} (hown : w.ownsRow 0 e T.size v xs.length l) (hB : ∀ b, blkOf v = some b → B ≤ b) (h0 : w0.heap.size ≤ B)
    (hl : rowHold (T.holds p) xs l) (hbig : xs.length * T.bytes ≤ big) (hfree : ∀ d e b, S.lh d = some e → e.live = true → blkOf (β d) = some b → b < B) :
    ∃ p', PH.le p p' ∧ SatB M p0 w0 S tm w p' β ∧ (Ty.arr T).holds p' xs [v] := by
  rcases hown.2 with ⟨rfl, hl0⟩ | ⟨g, cap, cur, rfl, _, hcell, hcap, _, hsz, hcur⟩
  · have : xs = [] := by
      have := rowHold_length (fun x cs h => Ty.holds_length (p := p) T x cs h) xs l hl
      cases xs with
      | nil => rfl
      | cons x xs =>
        have hp := Ty.size_pos T
        exfalso
        simp_all
    subst this
    exact ⟨p, PH.le.refl p, hS, none, 0, [], rfl, by simp, by simp, rfl, fun h => absurd rfl h⟩
  · obtain ⟨h1, h2⟩ := hS.addBlock (k := .cells cur) ⟨_, _, hcell⟩ (Nat.le_trans h0 (hB g rfl)) (fun d e hd hlv hb => by have := hfree d e g hd hlv hb; have := hB g rfl; omega)
    refine ⟨_, h1, h2, some ⟨g, 0, none⟩, cap, l, rfl, hcap, hbig, rowHold_mono (fun x cs h => Ty.holds_mono h1 T x cs h) _ _ hl, fun _ => ⟨g, 0, rfl, fun j u hu => ?_⟩⟩
    simp only [PH.cell, if_true, Option.bind_some, Nat.zero_add, Blk.get]
    rw [← hcur] at hu
    rw [List.getElem?_take] at hu
    split at hu
    · simpa using hu
    · cases hu

theorem VOK.of_row (hS : SatB M p0 w0 S a.tmps w p β) {o : Oper} {v : Value} {w' : World} {e : TypeId} {T : Ty} {xs : List T.den} {l : List Value} (hrun : (execOp a.eval o).run P w = .ok (.value v) w')
    (hg : SatB M p0 w0 S a.tmps w' p β) (hown : w'.ownsRow 0 e T.size v xs.length l) (hB : ∀ b, blkOf v = some b → w.heap.size ≤ b) (hl : rowHold (T.holds p) xs l) (hbig : xs.length * T.bytes ≤ big) :
    VOK M p0 w0 S P o a w p β (.sl T xs) := by
  intro K Q hK
  obtain ⟨p', h1, h2, h3⟩ := hg.addRow hown hB hS.keep.size hl hbig (fun d e b hd hlv hb => LE.sat_lt d e hlv (hS.lhs d e hd) hb)
  unfold Oper.wp
  rw [hrun]
  exact hK v w' p' h2 h1 h3

theorem evRow_sound (hS : SatB M p0 w0 S a.tmps w p β) {ctx : List (Nat × Bool)} (hc : ctxHold ctx a.tmps) {o : Oper} {ps : List Prop} {T : Ty} {xs : List T.den} (h : evRow P S ctx o = some (ps, ⟨T, xs⟩)) (hps : ∀ q ∈ ps, q) :
    VOK M p0 w0 S P o a w p β (.sl T xs) := by
  have lk := fun x => look_val hS hc x
  unfold evRow at h
  split at h
  · rename_i t l c ho
    split at h <;> try cases h
    rename_i hlc
    have hl := lk l
    split at h <;> try cases h
    rename_i e he
    have hu := sliceElem_spec he
    split at h <;> try cases h
    rename_i T' hT
    split at h <;> try cases h
    rename_i i hi
    split at h <;> try cases h
    rename_i z hz
    split at h <;> try cases h
    rename_i _ _ y k n hy hav
    rw [hav] at hl
    split at h <;> simp only [Option.some.injEq, Prod.mk.injEq, reduceCtorEq] at h
    rename_i hb
    obtain ⟨rfl, h⟩ := h
    cases h
    obtain ⟨i', z', hi', hsz, hby, hz', hzs⟩ := elemFits_spec hb
    rw [hi] at hi'
    injection hi' with hi'
    subst hi'
    rw [hz] at hz'
    injection hz' with hz'
    subst hz'
    have h0 : 0 ≤ n := hps _ (by simp)
    have hbig : n.toNat * T.bytes ≤ big := hps _ (by simp)
    obtain ⟨hle, _⟩ := val_int hl
    have hrc : a.eval c = .int k n := by rw [← sameTmp_eval hlc]; exact hle
    have h8 := bytes_pos T
    have hn8 : n.toNat * 8 ≤ n.toNat * T.bytes := Nat.mul_le_mul_left _ h8
    have hnb : n.toNat * i.bytes ≤ n.toNat * T.bytes := Nat.mul_le_mul_left _ hby
    have hbytes : (i.bytes : Int) * n ≤ 281474976710656 := by
      have : ((n.toNat * i.bytes : Nat) : Int) = (i.bytes : Int) * n := by rw [Int.natCast_mul, Int.toNat_of_nonneg h0, Int.mul_comm]
      rw [← this]
      simp only [big] at hbig
      omega
    have hrun := run_make (P := P) w t e i z hu hi hz k k n n h0 (Int.le_refl _) hbytes (by simp only [big] at hbig; omega)
    have hzc : z.cells.toList ≠ [] := by
      intro e0
      have : z.cells.size = 0 := by simpa using congrArg List.length e0
      have := Ty.size_pos T
      omega
    have hyc : T.holds p y z.cells.toList := by
      have hS0 : SatB M p0 w0 { S with lh := fun _ => none } a.tmps w p β :=
        ⟨hS.keep, hS.agr, hS.old, hS.size, fun d e h => (by cases h), fun d e b h => (by cases h), fun d d' e e' b h => (by cases h), hS.env⟩
      have := toTy_sound hS0 (rows := false) T _ y _ hy (ofCells_cells _ hzc)
      simpa using this
    have hcells : (madeCells z.cells (n.toNat * i.size)).toList = (List.replicate n.toNat z.cells.toList).flatten := by
      have hpos : 0 < z.cells.size := by rw [hzs]; exact Ty.size_pos T
      rw [hsz, ← hzs]
      exact madeCells_toList z.cells hpos n.toNat
    refine VOK.of_row hS (v := .slice (some ⟨w.heap.size, 0, none⟩) n.toNat n.toNat) (w' := w.alloc (.cells (madeCells z.cells (n.toNat * i.size)) e)) (e := e) (l := (madeCells z.cells (n.toNat * i.size)).toList) ?_ (hS.alloc _)
      ⟨by simp [size_madeCells, hsz], .inr ⟨w.heap.size, n.toNat, _, by simp, Nat.zero_le _, heap_alloc_new w _, by simp, ?_, by simp [size_madeCells, hsz], ?_⟩⟩ (fun b hb => by have h' : some w.heap.size = some b := hb; injection h' with h'; omega) ?_ (by simpa using hbig)
    · simp only [execOp, ho, Sem.run_bind, hle, hrc, hrun, Result.andThen_ok, Sem.run_pure]
    · simp only [maxLen, big] at *; omega
    · rw [List.take_of_length_le]
      simp [size_madeCells, hsz]
    · rw [hcells]
      exact rowHold_replicate hyc _
  · rename_i t len parts ho
    split at h <;> try cases h
    rename_i e he
    have hu := sliceElem_spec he
    split at h <;> try cases h
    rename_i T' hT
    split at h <;> try cases h
    rename_i ys hys
    split at h <;> simp only [Option.some.injEq, Prod.mk.injEq, reduceCtorEq] at h
    rename_i hb
    obtain ⟨rfl, h⟩ := h
    cases h
    simp only [Bool.and_eq_true] at hb
    obtain ⟨⟨⟨hf, hpl⟩, h24⟩, hbg⟩ := hb
    have hpl := Nat.eq_of_beq_eq_true hpl
    have h24 := Nat.le_of_ble_eq_true h24
    have hbg := Nat.le_of_ble_eq_true hbg
    obtain ⟨i, z, hi, hsz, hby, hz, hzs⟩ := elemFits_spec hf
    have hTp := Ty.size_pos T
    have hfill := fill_parts (p := p) (a := a) (lh := S.lh) (ρ := S.look ctx) (T := T) rfl (fun x y hy => by
      have := toTy_vsound hS (rows := false) hy (lk x)
      simpa using this) parts.toList 0 xs ((Array.range (len * T.size)).map (z.cells[· % z.cells.size]!)) hys (by simp [← hpl])
    obtain ⟨cs, l, h1, h2, h3, h4⟩ := hfill
    simp only [Nat.zero_mul, List.take_zero, List.nil_append] at h3
    have hll := rowHold_length (fun x cs h => Ty.holds_length T x cs h) xs l h2
    have hcs : cs.size = len * T.size := by
      have : cs.toList.length = l.length := by rw [h3]
      simp only [Array.length_toList] at this
      rw [this, hll, h4, hpl]
    have hlen : len = xs.length := by omega
    refine VOK.of_row hS (v := .slice (some ⟨w.heap.size, 0, none⟩) len len) (w' := w.alloc (.cells cs e)) (e := e) (l := l) ?_ (hS.alloc _)
      ⟨hll, .inr ⟨w.heap.size, len, cs, by simp [hlen], Nat.zero_le _, heap_alloc_new w _, by omega, ?_, hcs, ?_⟩⟩ (fun b hb => by have h' : some w.heap.size = some b := hb; injection h' with h'; omega) h2 (by rw [← hlen]; exact hbg)
    · have hrun : (Instr.buildSlice t len (parts.map fun x => (x.1, a.eval x.2))).run P w = .ok (.slice (some ⟨w.heap.size, 0, none⟩) len len) (w.alloc (.cells cs e)) := by
        have n24 : ¬ (len * i.size > 2 ^ 24) := by rw [hsz]; omega
        have e2 : (parts.map fun x => (x.1, a.eval x.2)).toList = parts.toList.map fun x => (x.1, a.eval x.2) := by simp
        by_cases h0 : len * i.size = 0
        · have hl0 : len = 0 := by
            rcases Nat.mul_eq_zero.1 h0 with h | h
            · exact h
            · omega
          subst hl0
          have hp0 : parts.toList = [] := List.eq_nil_of_length_eq_zero hpl
          have hcs0 : cs = #[] := by apply Array.toList_inj.1; rw [h3]; exact List.eq_nil_of_length_eq_zero (by rw [hll, ← hlen]; simp)
          subst hcs0
          simp only [Instr.buildSlice, Sem.run_bind, run_underlying hu, Result.andThen_ok, sizeOf, typeInfo, run_program, hi, Sem.run_pure, if_neg n24, e2, hp0]
          simp [Instr.fill, newRow, Array.range_zero']
        · simp only [Instr.buildSlice, Sem.run_bind, run_underlying hu, Result.andThen_ok, sizeOf, typeInfo, run_program, hi, Sem.run_pure, if_neg n24, if_neg h0, zeroValue, hz, e2]
          rw [hsz, h1]
          simp [newRow]
      simp only [execOp, ho, Sem.run_bind, hrun, Result.andThen_ok, Sem.run_pure]
    · have := bytes_pos T
      have h8 : len * 8 ≤ len * T.bytes := Nat.mul_le_mul_left _ this
      simp only [maxLen, big] at *; omega
    · rw [List.take_of_length_le (by simp [hcs, hlen]), h3]
  · rename_i args ts ho
    split at h <;> try cases h
    rename_i s x t t' ha ht
    split at h <;> try cases h
    rename_i htt
    have htt := Nat.eq_of_beq_eq_true htt
    subst htt
    have e1 : args = #[s, x] := by apply Array.toList_inj.1; rw [ha]
    have e2 : ts = #[t, t] := by apply Array.toList_inj.1; rw [ht]
    subst e1
    subst e2
    split at h <;> try cases h
    rename_i e he
    have hu := sliceElem_spec he
    split at h <;> try cases h
    rename_i T' ys hys
    obtain ⟨A, c, l2, e3, h2, h3, h4⟩ := asRow_sound hS hys (lk x)
    split at h <;> try cases h
    rename_i hf
    split at h <;> simp only [Option.some.injEq, Prod.mk.injEq, reduceCtorEq] at h
    rename_i hsn
    obtain ⟨rfl, h⟩ := h
    cases h
    have hs' : a.eval s = .slice none 0 0 := by
      have := lk s
      rw [hsn] at this
      exact this
    have hbig := hps _ (List.mem_cons_self)
    obtain ⟨v', w', r1, r2, r3, r4⟩ := append_run (ty := o.type) hu hf (World.ownsRow_nil w 0 e T.size) h2 h4 (c := c) (by simpa using hbig)
    obtain ⟨cs, hb⟩ := run_builtin (a := a) (w := w) (P := P) ho
    have r2 : w'.ownsRow 0 e T.size v' xs.length l2 := by simpa using r2
    refine VOK.of_row hS (v := v') (w' := w') (e := e) (l := l2) ?_ (hS.grow r3.os r3.tape r3.output r3.size (fun b hb => r3.block b hb (fun e => by cases e))) r2 (fun b hb => ?_) h2 hbig
    · rw [hb]
      simp only [builtin, List.map_toArray, List.map_cons, List.map_nil, Sem.run_bind, hs', e3, r1, Result.andThen_ok, Sem.run_pure]
    · rw [ownBlock_blk r2] at hb
      rcases r4 with h | h
      · rw [h] at hb; cases hb
      · rw [h] at hb; injection hb with hb; omega
  · cases h

/-- The results of a call, all of them avs data. -/
theorem dataRes {tm : Array Value} {B : Nat} {r q : PH} (hB : w0.heap.size ≤ B) : ∀ (Rs : List RT) (x : RDens Rs) (vs : List Value) (bs : List Nat) (p : PH), SatB M p0 w0 S tm w p β → PH.le r p → resHold w B r q Rs x vs bs →
      (∀ d e b, S.lh d = some e → e.live = true → blkOf (β d) = some b → b < B) → ∃ p', PH.le p p' ∧ SatB M p0 w0 S tm w p' β ∧ (resTupD Rs x).vals p' β vs := by
  have one : ∀ (R : RT) (x : R.den) (v : Value) (p : PH), SatB M p0 w0 S tm w p β → PH.le r p → R.holds w B r q x v → (∀ d e b, S.lh d = some e → e.live = true → blkOf (β d) = some b → b < B) →
      ∃ p', PH.le p p' ∧ SatB M p0 w0 S tm w p' β ∧ (R.avD x).val1 p' β v := by
    intro R x v p hS hrp hR hfree
    cases R with
    | dat T =>
      refine ⟨p, PH.le.refl p, hS, vholds_val (tm := #[]) ?_⟩
      have hR' : T.vholds r x v := hR
      unfold Ty.vholds at hR' ⊢
      cases T with
      | pair A C => obtain ⟨cs, e, hc⟩ := hR'; exact ⟨cs, e, Ty.holds_mono hrp _ _ _ hc⟩
      | int k => exact Ty.holds_mono hrp (.int k) _ _ hR'
      | bool => exact Ty.holds_mono hrp .bool _ _ hR'
      | str => exact Ty.holds_mono hrp .str _ _ hR'
      | arr T => exact Ty.holds_mono hrp (.arr T) _ _ hR'
      | nil => exact Ty.holds_mono hrp .nil _ _ hR'
      | ref T => exact Ty.holds_mono hrp (.ref T) _ _ hR'
      | fn A B => exact Ty.holds_mono hrp (.fn A B) _ _ hR'
      | map k V => exact Ty.holds_mono hrp (.map k V) _ _ hR'
    | map k V =>
      obtain ⟨⟨g, es, clock, rfl, hg, h1, h2, h3⟩, _⟩ := hR
      obtain ⟨k1, k2⟩ := hS.addBlock (k := .map es) ⟨_, h1⟩ (Nat.le_trans hB hg) (fun d e hd hlv hb => by have := hfree d e g hd hlv hb; omega)
      exact ⟨_, k1, k2, .inr ⟨g, es, rfl, by simp, mapHold_mono (fun x _ => vhold_mono (fun cs h => Ty.holds_mono k1 V x cs (Ty.holds_mono hrp V x cs h))) _ _ h3⟩⟩
    | own e T =>
      obtain ⟨⟨l, h1, h2, h3⟩, _⟩ := hR
      have h1' : w.ownsRow 0 e T.size v x.length l := by
        refine ⟨h1.1, ?_⟩
        rcases h1.2 with h | ⟨g, cap, cur, e1, _, h5⟩
        · exact .inl h
        · exact .inr ⟨g, cap, cur, e1, Nat.zero_le _, h5⟩
      obtain ⟨p', k1, k2, k3⟩ := hS.addRow h1' (B := B) (fun b hb => by
        rcases h1.2 with ⟨rfl, _⟩ | ⟨g, cap, cur, rfl, hg, _⟩
        · cases hb
        · injection hb with hb; subst hb; exact hg) hB (rowHold_mono (fun x cs h => Ty.holds_mono hrp T x cs h) _ _ h2) h3 hfree
      exact ⟨p', k1, k2, k3⟩
  intro Rs
  induction Rs with
  | nil =>
    intro x vs bs p hS _ hR _
    have : vs = [] := hR
    subst this
    exact ⟨p, PH.le.refl p, hS, trivial⟩
  | cons R Rs ih =>
    intro x vs bs p hS hrp hR hfree
    cases Rs with
    | nil =>
      obtain ⟨v, rfl, h1, _⟩ := hR
      obtain ⟨p', k1, k2, k3⟩ := one R x v p hS hrp h1 hfree
      exact ⟨p', k1, k2, k3, trivial⟩
    | cons U Rs =>
      obtain ⟨v, rest, rfl, h1, _, h3⟩ := hR
      obtain ⟨p1, k1, k2, k3⟩ := one R x.1 v p hS hrp h1 hfree
      obtain ⟨p2, k4, k5, k6⟩ := ih x.2 rest _ p1 k2 (hrp.trans k1) h3 hfree
      exact ⟨p2, k1.trans k4, k5, AV.val1_mono k4 _ _ k3, k6⟩

theorem evCallD_sound (hS : SatB M p0 w0 S a.tmps w p β) {ss : Specs} (hss : ss.ok P) {f : FuncId} {avs : List AV} {vs : List Value} {q0 : Prop} {Rs : List RT} {x : RDens Rs}
    (h : evCall P ss S.lh f avs = some (q0, ⟨Rs, x⟩)) (hq : q0) (hl : vs.length = avs.length) (hv : ∀ (i : Nat) a' v, avs[i]? = some a' → vs[i]? = some v → a'.val p β a.tmps v) :
    callable P f = true ∧ Calls P f vs.toArray w fun e w' => ∃ rs p', e = .returned (retValue rs) ∧ PH.le p p' ∧ SatB M p0 w0 S a.tmps w' p' β ∧ (resTupD Rs x).vals p' β rs := by
  unfold evCall at h
  split at h <;> try cases h
  rename_i hc
  split at h <;> try cases h
  rename_i s hs
  split at h <;> try cases h
  rename_i y hy
  refine ⟨hc, ?_⟩
  have hargs := toTysF_sound (fun _ _ _ _ h ha => toTyC_vsound hS hss h ha) _ _ _ vs hy hl hv
  have hAg : Agrees (if (!s.al) = true then full w else p) w := by
    split
    · exact full_agrees w
    · exact hS.agr
  refine (hss.2 f s hs _ w vs y hAg hargs hq).mono ?_
  rintro e w' ⟨rs, q, rfl, hk, hq1, hq2, hres⟩
  have hgrow : SatB M p0 w0 S a.tmps w' p β := hS.grow hk.os hk.tape hk.output hk.size (fun b hb => hk.block b hb (fun h => h.elim))
  have hplt : ∀ b cs, p b = some cs → b < w.heap.size := fun b cs h => hS.agr.lt h
  have hmore : SatB M p0 w0 S a.tmps w' (p.union q) β := hgrow.more (union_left p q) (union_agrees hgrow.agr hq2) (fun b cs hb => by
    unfold PH.union at hb
    split at hb
    · rename_i c hc
      injection hb with hb
      subst hb
      exact .inl hc
    · exact .inr (.inl (Nat.le_trans hS.keep.size (hq1 b cs hb)))) (fun d' e' b hd hlv hb => by
    have h1 := (hS.owns d' e' b hd hlv hb).2
    have h2 := LE.sat_lt d' e' hlv (hS.lhs d' e' hd) hb
    have h3 : q b = none := by
      cases hqb : q b with
      | none => rfl
      | some c => have := hq1 b c hqb; omega
    simp [PH.union, h1, h3])
  have hrp : PH.le (if s.al = true then (if (!s.al) = true then full w else p).union q else q) (p.union q) := by
    cases hal : s.al
    · simp only [Bool.false_eq_true, if_false]
      exact union_right hplt hq1
    · simp only [Bool.not_true, Bool.false_eq_true, if_false, if_true]
      exact PH.le.refl _
  obtain ⟨p', h1, h2, h3⟩ := dataRes (Nat.le_trans hS.keep.size (Nat.le_refl _)) s.Rs (s.F y) rs [] _ hmore hrp hres (fun d' e' b hd hlv hb => LE.sat_lt d' e' hlv (hS.lhs d' e' hd) hb)
  exact ⟨rs, p', rfl, (union_left p q).trans h1, h2, h3⟩

theorem resAVD_val {tm : Array Value} (Rs : List RT) (x : RDens Rs) (rs : List Value) (h : (resTupD Rs x).vals p β rs) : (resAVD Rs x).val p β tm (retValue rs) := by
  match Rs, x, h with
  | [], x, h => match rs, h with
    | [], _ => rfl
  | [R], x, h => match rs, h with
    | [v], h => exact AV.val_of_val1 (show (R.avD x).val1 p β v from h.1)
  | R :: U :: Rs, x, h => match rs, h with
    | v :: u :: vs, h => exact ⟨v :: u :: vs, rfl, h⟩
    | [v], h =>
      have h2 := h.2
      cases Rs <;> exact h2.elim

theorem run_eqGuard_slice (op : BinOp) (t : TypeId) (x y : Operand) (A B : Option Addr) (n c m d : Nat) : (eqGuard op t x y (.slice A n c) (.slice B m d)).run P w = .ok () w := by
  cases op <;> simp [eqGuard]

theorem emptyProp_sound (hS : SatB M p0 w0 S tm w p β) {x : AV} {q : Prop} {v : Value} (h : emptyProp S.lh x = some q) (hx : x.val p β tm v) : ∃ A n c, v = .slice A n c ∧ (A = none → q) := by
  have arr : ∀ {T : Ty} {xs : List T.den} {v : Value}, (Ty.arr T).holds p xs [v] → ∃ A n c, v = .slice A n c ∧ (A = none → xs = []) := by
    intro T xs v hv
    obtain ⟨A, c, l, e, _, _, _, h4⟩ := hv
    injection e with e _
    refine ⟨A, _, c, e, fun hA => Classical.byContradiction fun hne => ?_⟩
    obtain ⟨b, o, hb, _⟩ := h4 hne
    rw [hA] at hb
    cases hb
  unfold emptyProp at h
  split at h
  · injection h with h
    subst h
    exact arr hx
  · split at h
    · rename_i _ T xs hd
      injection h with h
      subst h
      have hx' : v = β _ := hx
      subst hx'
      obtain ⟨l, h1, h2, _⟩ := hS.lhs _ _ hd
      rcases h1.2 with ⟨e, hn⟩ | ⟨g, cap, cur, e, _⟩
      · exact ⟨none, 0, 0, e, fun _ => List.eq_nil_of_length_eq_zero hn⟩
      · exact ⟨_, _, _, e, fun h => by cases h⟩
    · rename_i T xs hd
      injection h with h
      subst h
      have hx' : v = β _ := hx
      subst hx'
      exact arr (hS.lhs _ _ hd)
    · cases h
  · cases h

theorem evNil_sound (hS : SatB M p0 w0 S tm w p β) {t : TypeId} {op : BinOp} {x y : AV} {ox oy : Operand} {vx vy : Value} {ps : List Prop} {r : AV} (h : evNil P S.lh t op x y = some (ps, r)) (hx : x.val p β tm vx) (hy : y.val p β tm vy) :
    Yields P (do eqGuard op t ox oy vx vy; binOp op t vx vy) w p β tm r := by
  unfold evNil at h
  split at h <;> try cases h
  have hy' : vy = .slice none 0 0 := hy
  subst hy'
  split at h <;> try cases h
  rename_i ht
  unfold isSliceT at ht
  split at ht <;> try cases ht
  rename_i e hu
  have eq1 : ∀ (A : Option Addr) (n c : Nat), (binOp .eql t (.slice A n c) (.slice none 0 0)).run P w = .ok (.bool A.isNone) w := fun A n c => by
    exact Lib.run_eql_slice_nil w t e A n c 0 0 hu
  have ne1 : ∀ (A : Option Addr) (n c : Nat), (binOp .neq t (.slice A n c) (.slice none 0 0)).run P w = .ok (.bool (!A.isNone)) w := fun A n c => by
    exact run_neq_slice_nil_any w t e A n c 0 0 hu
  split at h
  · have hx' : vx = .slice none 0 0 := hx
    subst hx'
    split at h <;> simp only [Option.some.injEq, Prod.mk.injEq, reduceCtorEq] at h <;> obtain ⟨rfl, rfl⟩ := h
    · exact ⟨.bool true, by simp only [Sem.run_bind, run_eqGuard_slice, Result.andThen_ok, eq1]; rfl, rfl⟩
    · exact ⟨.bool false, by simp only [Sem.run_bind, run_eqGuard_slice, Result.andThen_ok, ne1]; rfl, rfl⟩
  · split at h
    · rename_i q hq
      obtain ⟨A, n, c, rfl, hA⟩ := emptyProp_sound hS hq hx
      split at h <;> simp only [Option.some.injEq, Prod.mk.injEq, reduceCtorEq] at h <;> obtain ⟨rfl, rfl⟩ := h
      · exact ⟨.bool A.isNone, by simp only [Sem.run_bind, run_eqGuard_slice, Result.andThen_ok, eq1], _, rfl, fun h => hA (by simpa using h), fun _ => trivial⟩
      · exact ⟨.bool !A.isNone, by simp only [Sem.run_bind, run_eqGuard_slice, Result.andThen_ok, ne1], _, rfl, fun _ => trivial, fun h => hA (by simpa using h)⟩
    · cases h

theorem evOwnSlice_sound (hS : SatB M p0 w0 S tm w p β) {t : TypeId} {x : AV} {lo hi : Option AV} {vx : Value} {vlo vhi : Option Value} {ps : List Prop} {r : AV}
    (h : evOwnSlice P S.lh t x lo hi = some (ps, r)) (hps : ∀ q ∈ ps, q) (hx : x.val p β tm vx)
    (hlo : (lo = none ∧ vlo = none) ∨ ∃ a v, lo = some a ∧ vlo = some v ∧ a.val p β tm v) (hhi : (hi = none ∧ vhi = none) ∨ ∃ a v, hi = some a ∧ vhi = some v ∧ a.val p β tm v) :
    Yields P (Instr.sliceAt t vx vlo vhi none) w p β tm r := by
  unfold evOwnSlice at h
  split at h <;> try cases h
  rename_i d
  split at h <;> try cases h
  rename_i e T xs hd
  split at h <;> try cases h
  rename_i hok
  obtain ⟨e', inf, hu, hinf, hsz⟩ := elemOK_spec hok
  have hx' : vx = β d := hx
  obtain ⟨l, k1, k2, k3⟩ := hS.lhs d _ hd
  have key : ∀ (i j : Nat), i ≤ j → j ≤ xs.length → ((vlo = none ∧ i = 0) ∨ ∃ k, vlo = some (.int k (i : Int))) → ((vhi = none ∧ j = xs.length) ∨ ∃ k, vhi = some (.int k (j : Int))) →
      Yields P (Instr.sliceAt t vx vlo vhi none) w p β tm (.osl d T i (j - i)) := by
    intro i j hij hj h1 h2
    rcases k1.2 with ⟨q1, q2⟩ | ⟨g, cap, cur, q1, _, q3, q4, q4', q5, q6⟩
    · have h0 : xs.length = 0 := q2
      refine ⟨_, by rw [hx', q1]; exact slice_run hu hinf hij (len := 0) (cap := 0) (by omega) (Nat.le_refl _) h1 (by rw [h0] at h2; exact h2), ?_⟩
      refine .inr ⟨by omega, none, 0, ?_⟩
      have hi0 : i = 0 := by omega
      have hj0 : j = 0 := by omega
      subst hi0 hj0
      rfl
    · refine ⟨_, by rw [hx', q1]; exact slice_run hu hinf hij hj q4 h1 h2, ?_⟩
      by_cases hc : cap = i
      · exact .inr ⟨by omega, _, cap - i, by rw [if_pos hc, show j - i = 0 by omega]⟩
      · refine .inl ⟨g, _, cap, cap - i, q1, ?_⟩
        rw [if_neg hc, hsz, Option.map_some, addr_add, Nat.zero_add]
  split at h <;> simp only [Option.some.injEq, Prod.mk.injEq, reduceCtorEq] at h <;> obtain ⟨rfl, rfl⟩ := h
  · obtain rfl := noneOf hlo
    obtain rfl := noneOf hhi
    have := key 0 xs.length (Nat.zero_le _) (Nat.le_refl _) (.inl ⟨rfl, rfl⟩) (.inl ⟨rfl, rfl⟩)
    simpa using this
  · rename_i k a
    obtain ⟨v, rfl, ha⟩ := someOf hlo
    obtain rfl := noneOf hhi
    have h0 : 0 ≤ a := hps _ (by simp)
    have h1 : a ≤ (xs.length : Int) := hps _ (by simp)
    exact key a.toNat xs.length (by omega) (Nat.le_refl _) (.inr ⟨k, by rw [val_int' ha h0]⟩) (.inl ⟨rfl, rfl⟩)
  · rename_i k b
    obtain rfl := noneOf hlo
    obtain ⟨v, rfl, ha⟩ := someOf hhi
    have h0 : 0 ≤ b := hps _ (by simp)
    have h1 : b ≤ (xs.length : Int) := hps _ (by simp)
    have := key 0 b.toNat (Nat.zero_le _) (by omega) (.inl ⟨rfl, rfl⟩) (.inr ⟨k, by rw [val_int' ha h0]⟩)
    simpa using this
  · rename_i k a k' b
    obtain ⟨v, rfl, ha⟩ := someOf hlo
    obtain ⟨v', rfl, ha'⟩ := someOf hhi
    have h0 : 0 ≤ a := hps _ (by simp)
    have h1 : a ≤ b := hps _ (by simp)
    have h2 : b ≤ (xs.length : Int) := hps _ (by simp)
    exact key a.toNat b.toNat (by omega) (by omega) (.inr ⟨k, by rw [val_int' ha h0]⟩) (.inr ⟨k', by rw [val_int' ha' (by omega)]⟩)

theorem evNilSlice_sound {t : TypeId} {x : AV} {lo hi : Option AV} {vx : Value} {vlo vhi : Option Value} {ps : List Prop} {r : AV}
    (h : evNilSlice P t x lo hi = some (ps, r)) (hps : ∀ q ∈ ps, q) (hx : x.val p β tm vx)
    (hlo : (lo = none ∧ vlo = none) ∨ ∃ a v, lo = some a ∧ vlo = some v ∧ a.val p β tm v) (hhi : (hi = none ∧ vhi = none) ∨ ∃ a v, hi = some a ∧ vhi = some v ∧ a.val p β tm v) :
    Yields P (Instr.sliceAt t vx vlo vhi none) w p β tm r := by
  unfold evNilSlice at h
  split at h <;> try cases h
  rename_i k b
  split at h <;> simp only [Option.some.injEq, Prod.mk.injEq, reduceCtorEq] at h <;> obtain ⟨rfl, rfl⟩ := h
  rename_i ht
  unfold isSliceE at ht
  split at ht <;> try cases ht
  rename_i e hu
  obtain ⟨inf, hinf⟩ := Option.isSome_iff_exists.1 ht
  have hb0 : b = 0 := hps _ (by simp)
  subst hb0
  have hxe : vx = .slice none 0 0 := hx
  obtain rfl := noneOf hlo
  obtain ⟨v, rfl, hv⟩ := someOf hhi
  obtain ⟨hv, _⟩ := val_int hv
  have hrun := slice_run (P := P) (w := w) hu hinf (A := none) (len := 0) (cap := 0) (lo := none) (hi' := some (.int k ((0 : Nat) : Int))) (l := 0) (h := 0) (Nat.le_refl _) (Nat.le_refl _) (Nat.le_refl _) (.inl ⟨rfl, rfl⟩) (.inr ⟨k, rfl⟩)
  refine ⟨.slice none 0 0, ?_, rfl⟩
  rw [hxe, hv]
  exact hrun

theorem evX_sound (hS : SatB M p0 w0 S a.tmps w p β) {ctx : List (Nat × Bool)} (hc : ctxHold ctx a.tmps) {o : Oper} {ps : List Prop} {r : AV} (h : evX P S ctx o = some (ps, r)) (hps : ∀ q ∈ ps, q) :
    VOK M p0 w0 S P o a w p β r := by
  have lk := look_val hS hc
  unfold evX at h
  split at h
  · rename_i op t x y yt ho
    exact VOK.of_yields hS (by simp only [execOp, ho]) (evNil_sound (ox := x) (oy := y) hS h (lk x) (lk y))
  · rename_i t x lo hi ho
    split at h
    · rename_i r' hn
      injection h with h
      subst h
      exact VOK.of_yields hS (by simp only [execOp, ho]; rfl) (evNilSlice_sound hn hps (lk x) (opt_val hS hc lo) (opt_val hS hc hi))
    · exact VOK.of_yields hS (by simp only [execOp, ho]; rfl) (evOwnSlice_sound hS h hps (lk x) (opt_val hS hc lo) (opt_val hS hc hi))
  · rename_i args ts ho
    split at h <;> try cases h
    rename_i x t ha ht
    split at h <;> try cases h
    rename_i hx
    split at h <;> simp only [Option.some.injEq, Prod.mk.injEq, reduceCtorEq] at h <;> obtain ⟨rfl, rfl⟩ := h
    rename_i ht'
    unfold isSliceE at ht'
    split at ht' <;> try cases ht'
    rename_i e hu
    have e1 : args = #[x] := by apply Array.toList_inj.1; rw [ha]
    have e2 : ts = #[t] := by apply Array.toList_inj.1; rw [ht]
    subst e1
    subst e2
    have hxv := lk x
    rw [hx] at hxv
    have hxe : a.eval x = .slice none 0 0 := hxv
    obtain ⟨cs, hb⟩ := run_builtin (a := a) (w := w) (P := P) ho
    refine VOK.of_run hS (v := .int .i64 0) ?_ ⟨rfl, by simp [InR]⟩
    rw [hb]
    simp [builtin, hxe, Builtin.cap_, run_underlying hu, goInt]
  · cases h

theorem evA_sound (hS : SatB M p0 w0 S a.tmps w p β) {ss : Specs} (hss : ss.ok P) {ctx : List (Nat × Bool)} (hc : ctxHold ctx a.tmps) {o : Oper} {ps : List Prop} {r : AV} (h : evA P ss S ctx o = some (ps, r)) (hps : ∀ q ∈ ps, q) :
    VOK M p0 w0 S P o a w p β r := by
  unfold evA at h
  split at h
  · rename_i r' hv
    injection h with h
    subst h
    exact evV_sound hS hss hc hv hps
  split at h
  · rename_i ps' T xs hr
    simp only [Option.some.injEq, Prod.mk.injEq] at h
    obtain ⟨rfl, rfl⟩ := h
    exact evRow_sound hS hc hr hps
  split at h
  · rename_i r' hv
    injection h with h
    subst h
    exact evX_sound hS hc hv hps
  split at h
  · rename_i t args ts ho
    split at h <;> try cases h
    rename_i f c1 c2 hav
    split at h <;> try cases h
    rename_i q0 Rs x he
    have hx := look_val hS hc (.tmp t)
    rw [hav] at hx
    obtain ⟨v1, v2, e1, k1, k2⟩ := hx
    obtain ⟨l1, l2⟩ := locs_vals (p := p) (tm := a.tmps) c1 v1.toList k1
    obtain ⟨l3, l4⟩ := locs_vals (p := p) (tm := a.tmps) c2 v2.toList k2
    intro K Q hK
    obtain ⟨hcal, hcalls⟩ := evCallD_sound hS hss he (hps _ (by simp)) (vs := v1.toList ++ args.toList.map a.eval ++ v2.toList) (by simp at l1 l3; simp [l1, l3]) (by
      have app : ∀ (as1 as2 : List AV) (vs1 vs2 : List Value), vs1.length = as1.length → (∀ (i : Nat) a' v, as1[i]? = some a' → vs1[i]? = some v → a'.val p β a.tmps v) → (∀ (i : Nat) a' v, as2[i]? = some a' → vs2[i]? = some v → a'.val p β a.tmps v) →
          ∀ (i : Nat) a' v, (as1 ++ as2)[i]? = some a' → (vs1 ++ vs2)[i]? = some v → a'.val p β a.tmps v := by
        intro as1 as2 vs1 vs2 hl h1 h2 i a' v ha hv
        rw [List.getElem?_append] at ha hv
        split at ha
        · rw [if_pos (by omega)] at hv; exact h1 i a' v ha hv
        · rw [if_neg (by omega)] at hv; rw [hl] at hv; exact h2 _ a' v ha hv
      exact app _ _ _ _ (by simp at l1; simp [l1]) (app _ _ _ _ (by simp at l1; simp [l1]) l2 (map_val hS hc args.toList)) l4)
    unfold Oper.wp
    rw [run_callv hcal ho e1]
    simp only [Oper.upon_enter]
    have e : (v1.toList ++ args.toList.map a.eval ++ v2.toList).toArray = v1 ++ args.map a.eval ++ v2 := by apply Array.toList_inj.1; simp
    rw [e] at hcalls
    refine hcalls.mono ?_
    rintro e w' ⟨rs, p', rfl, hle, hS', hv⟩
    exact hK _ w' p' hS' hle (resAVD_val Rs x rs hv)
  · rename_i f args ts ho
    split at h <;> try cases h
    rename_i q0 Rs x he
    intro K Q hK
    obtain ⟨hcal, hcalls⟩ := evCallD_sound hS hss he (hps _ (by simp)) (vs := args.toList.map a.eval) (by simp) (map_val hS hc args.toList)
    unfold Oper.wp
    rw [run_call hcal ho]
    simp only [Oper.upon_enter]
    have e : (args.toList.map a.eval).toArray = args.map a.eval := by rw [← Array.toList_map, Array.toArray_toList]
    rw [e] at hcalls
    refine hcalls.mono ?_
    rintro e w' ⟨rs, p', rfl, hle, hS', hv⟩
    exact hK _ w' p' hS' hle (resAVD_val Rs x rs hv)
  · rename_i src dst x ho
    split at h <;> try cases h
    rename_i e hs hdst
    split at h <;> try cases h
    rename_i he
    split at h <;> simp only [Option.some.injEq, Prod.mk.injEq, reduceCtorEq] at h <;> obtain ⟨rfl, rfl⟩ := h
    rename_i xs hxs
    have hx := look_val hS hc x
    have key : ∃ A len c l, a.eval x = .slice A len c ∧ len = xs.length ∧ l = xs.map (Value.int .u8) ∧ xs.length * 8 ≤ big ∧
        (xs ≠ [] → ∃ b o, A = some ⟨b, o, none⟩ ∧ ∀ (j : Nat) (u : Value), l[j]? = some u → w.cell? ⟨b, o + j, none⟩ = some u) := by
      unfold byteRow at hxs
      split at hxs
      · rename_i hav
        rw [hav] at hx
        injection hxs with hxs
        subst hxs
        exact ⟨none, 0, 0, [], hx, rfl, rfl, by simp, fun h => absurd rfl h⟩
      · split at hxs
        · rename_i xs' har
          injection hxs with hxs
          subst hxs
          obtain ⟨A, c, l, e1, h2, h3, h4⟩ := asRow_sound hS har hx
          exact ⟨A, _, c, l, e1, rfl, byte_cells _ _ h2, h3, h4⟩
        · cases hxs
    obtain ⟨A, len, c, l, e1, rfl, rfl, h3, h4⟩ := key
    have hrun : (convert src dst (a.eval x)).run P w = .ok (.string ⟨(toBytes xs).toArray⟩) w := by
      rw [e1]
      by_cases hne : xs = []
      · subst hne
        cases A with
        | none => exact run_convert_bytes_nil w src e hs he _ _ dst hdst
        | some ad =>
          have := run_convert_bytes_string (P := P) w src dst e (some ad) 0 c hs he hdst
          rw [show ([] : List Int).length = 0 from rfl, this]
          have h5 := run_bytesToString (P := P) w ad 0 c [] (by simp [loadCells, loadCellsFrom])
          rw [h5]; rfl
      · obtain ⟨b, o, rfl, hc⟩ := h4 hne
        have := run_convert_bytes_arg (P := P) w src e hs he b o xs.length c xs rfl (fun i hi => by
          apply hc
          simp [List.getD, hi]) dst hdst
        rw [this]
        simp [strOfNums, toBytes]
    refine VOK.of_run hS (v := .string ⟨(toBytes xs).toArray⟩) ?_ ⟨rfl, by simp only [toBytes, List.length_map, big] at *; omega⟩
    simp only [execOp, ho, Sem.run_bind, hrun, Result.andThen_ok, Sem.run_pure]
  · cases h
end
end Go.Proofs.Ytgnamdjmjkeodaa
