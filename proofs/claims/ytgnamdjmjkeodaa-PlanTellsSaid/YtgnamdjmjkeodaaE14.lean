/- The engine, part 14: operations that turn the state: boxes, stores, calls, appends, new rows. -/
import Derived.Test.YtgnamdjmjkeodaaE13
namespace Go.Proofs.Ytgnamdjmjkeodaa
open Go

/-- A slice value, avs data (rows of the call's own, too). -/
def AV.asRow (lh : Nat → Option LE) : AV → Option ((T : Ty) × List T.den)
  | .sl T xs => some ⟨T, xs⟩
  | .own d => match lh d with
    | some (.row _ T xs) => some ⟨T, xs⟩
    | some (.froz T xs) => some ⟨T, xs⟩
    | _ => none
  | _ => none

/-- The element type e fits T: its cells, its bytes, its zero value's cells. -/
def elemFits (P : Program) (e : TypeId) (T : Ty) : Bool :=
  match P.info? e with
  | some i => Nat.beq i.size T.size && Nat.ble i.bytes T.bytes && (match i.zero with | some z => Nat.beq z.cells.toList.length T.size | none => false)
  | none => false

def sliceElem (P : Program) (t : TypeId) : Option TypeId :=
  match P.underlying t with
  | some (.slice e) => some e
  | _ => none

def sameTmp : Operand → Operand → Bool
  | .tmp a, .tmp b => Nat.beq a b
  | .const (.int j a), .const (.int k b) => (j == k) && (a == b)
  | _, _ => false

def partsTys (lh : Nat → Option LE) (T : Ty) (ρ : Operand → AV) : Nat → List (Nat × Operand) → Option (List T.den)
  | _, [] => some []
  | k, (i, x) :: rest => if Nat.beq i k then match (ρ x).toTy false lh T, partsTys lh T ρ (k + 1) rest with
      | some y, some ys => some (y :: ys)
      | _, _ => none
    else none

def namesOK (S : St) (d : Nat) : Nat → List RT → Bool
  | _, [] => true
  | k, .dat _ :: Rs => namesOK S d (k + 1) Rs
  | k, .own _ _ :: Rs => !S.lock (resName d k) && namesOK S d (k + 1) Rs
  | k, .map _ _ :: Rs => !S.lock (resName d k) && namesOK S d (k + 1) Rs

def evBox (S : St) (d : Nat) (c : AV) : Option (List Prop × St) :=
  if partOK S.lh c && Nat.blt d S.n && !S.lock d then some ([], (S.fresh d (.cells (c.scrub (fun x => Nat.beq x d)))).set d (.loc d 0)) else none

def evAlloc (P : Program) (S : St) (d : Nat) (elem : TypeId) : Option (List Prop × St) :=
  match P.info? elem with
  | some i => match i.zero with
    | some z => if Nat.blt 0 z.cells.toList.length && Nat.blt d S.n && !S.lock d then some ([], (S.fresh d (.cells (AV.ofCells z.cells.toList))).set d (.loc d 0)) else none
    | none => none
  | none => none

def evStore (P : Program) (S : St) (t : TypeId) (ad v : AV) : Option (List Prop × St) :=
  match cellsIn P t with
  | none => none
  | some n => if Nat.beq n 0 then none else match ad with
    | .loc d off => match S.lh d with
      | some (.cells c) => if !S.lock d && Nat.beq v.len n && Nat.ble (off + n) c.len && partOK S.lh v && allOK S.lh v then some ([], S.entry d (.cells (AV.put off v n c))) else none
      | _ => none
    | .el d T i off => match (S.freeze v.owns).lh d with
      | some (.row e T' xs) => if h : T' = T then
          (if !S.lock d && Nat.beq v.len n && Nat.ble (off + n) T.size && partOK S.lh v && allOK S.lh v then
            match AV.toTy false (S.freeze v.owns).lh T (AV.put off v n (T.av ((h ▸ xs).getD i T.dflt))) with
            | some y => some ([i < xs.length], (S.freeze v.owns).entry d (.row e T ((h ▸ xs).set i y)))
            | none => none
          else none) else none
      | _ => none
    | _ => none

/-- The state that a call sees: where the results may show the arguments' memory, rows among them become unchanging. -/
def callSt (ss : Specs) (S : St) (f : FuncId) (args : List Operand) : St :=
  match ss f with
  | some s => if s.al then S.freeze ((args.map (S.look [])).flatMap AV.owns) else S
  | none => S

def evECall (P : Program) (ss : Specs) (S : St) (d : Nat) (f : FuncId) (args : List Operand) : Option (List Prop × St) :=
  match evCall P ss (callSt ss S f args).lh f (args.map ((callSt ss S f args).look [])) with
  | some (q, ⟨Rs, x⟩) => if Nat.blt d S.n && namesOK S d 0 Rs then some ([q], (resSt d 0 Rs x (callSt ss S f args)).set d (resAV d Rs x)) else none
  | none => none

def notOwn (d : Nat) : AV → Bool
  | .own d2 => !Nat.beq d d2
  | _ => true

def evAppend (P : Program) (S : St) (d : Nat) (t : TypeId) (s x : AV) : Option (List Prop × St) :=
  match sliceElem P t with
  | none => none
  | some e => match x.asRow S.lh with
    | none => none
    | some ⟨T, ys⟩ => if elemFits P e T && Nat.blt d S.n && !S.lock d then match s with
      | .nils => some ([ys.length * T.bytes ≤ big], (S.fresh d (.row e T ys)).set d (.own d))
      | .own d1 => match S.lh d1 with
        | some (.row e' T' xs) => if h : T' = T then
            (if Nat.beq e' e && !S.lock d1 && notOwn d1 x then some ([(xs.length + ys.length) * T.bytes ≤ big], ((S.entry d1 .dead).fresh d (.row e T ((h ▸ xs) ++ ys))).set d (.own d)) else none)
          else none
        | _ => none
      | _ => none
    else none

def evMake (P : Program) (S : St) (d : Nat) (t : TypeId) (l : AV) : Option (List Prop × St) :=
  match sliceElem P t with
  | none => none
  | some e => match tyOf P 12 e with
    | none => none
    | some T => match P.info? e with
      | none => none
      | some i => match i.zero with
        | none => none
        | some z => match AV.toTy false (fun _ => none) T (AV.ofCells z.cells.toList), l with
          | some y, .int _ n => if elemFits P e T && Nat.blt d S.n && !S.lock d then some ([0 ≤ n, n.toNat * T.bytes ≤ big], (S.fresh d (.row e T (List.replicate n.toNat y))).set d (.own d)) else none
          | _, _ => none

def evBuildSlice (P : Program) (S : St) (d : Nat) (t : TypeId) (len : Nat) (parts : List (Nat × Operand)) : Option (List Prop × St) :=
  match sliceElem P t with
  | none => none
  | some e => match tyOf P 12 e with
    | none => none
    | some T =>
      let S1 := S.freeze ((parts.map (fun x => S.look [] x.2)).flatMap AV.owns)
      match partsTys S1.lh T (S1.look []) 0 parts with
      | none => none
      | some ys => if elemFits P e T && Nat.blt d S.n && !S.lock d && Nat.beq parts.length len && Nat.ble (len * T.size) 16777216 && Nat.ble (len * T.bytes) big then some ([], (S1.fresh d (.row e T ys)).set d (.own d)) else none

/-- A row of the call's own, or a part of it: its name, where the part begins, how long it is. -/
def AV.span (lh : Nat → Option LE) : AV → Option (Nat × Nat × Nat)
  | .osl d _ i n => some (d, i, n)
  | .own d => match lh d with
    | some (.row _ _ xs) => some (d, 0, xs.length)
    | _ => none
  | _ => none

def spanOK (T : Ty) : AV → Bool
  | .osl _ T' _ _ => decide (T' = T)
  | _ => true

/-- copy onto a row of the call's own (elements of one cell). -/
def evCopy (P : Program) (S : St) (r : Nat) (t : TypeId) (x y : AV) : Option (List Prop × St) :=
  match x.span S.lh, y.asRow S.lh with
  | some (d, i, n), some ⟨T', ys⟩ => match S.lh d with
    | some (.row e T xs) => if h : T' = T then
        (if spanOK T x && elemOK P t T && Nat.beq T.size 1 && !S.lock d && notOwn d y && Nat.blt r S.n then
          some ([i + n ≤ xs.length], (S.entry d (.row e T (xs.take i ++ ((h ▸ ys).take (min ys.length n) ++ xs.drop (i + min ys.length n))))).set r (.int .i64 ((min ys.length n : Nat) : Int)))
        else none) else none
    | _ => none
  | _, _ => none

def toBytes (xs : List Int) : List UInt8 := xs.map fun n => UInt8.ofNat n.toNat

/-- The bytes of a slice of bytes. -/
def byteRow (lh : Nat → Option LE) (a : AV) : Option (List Int) :=
  match a with
  | .nils => some []
  | a => match a.asRow lh with
    | some ⟨.int .u8, xs⟩ => some xs
    | _ => none

def evBytesStr (P : Program) (S : St) (d : Nat) (src dst : TypeId) (a : AV) : Option (List Prop × St) :=
  match P.underlying src, P.underlying dst with
  | some (.slice e), some .string => match P.underlying e with
    | some (.int .u8) => match byteRow S.lh a with
      | some xs => if Nat.blt d S.n then some ([], S.set d (.str (toBytes xs))) else none
      | none => none
    | _ => none
  | _, _ => none

/-- 'append(nil, make([]T, n)...)' -/
def evAppendMake (P : Program) (S : St) (d : Nat) (t t' : TypeId) (s x : AV) : Option (List Prop × St) :=
  match sliceElem P t, P.underlying t' with
  | some e, some (.int _) => match tyOf P 12 e with
    | none => none
    | some T => match P.info? e with
      | none => none
      | some i => match i.zero with
        | none => none
        | some z => match AV.toTy false (fun _ => none) T (AV.ofCells z.cells.toList), s, x with
          | some y, .nils, .int _ n => if elemFits P e T && Nat.blt d S.n && !S.lock d then some ([0 < n, n.toNat * T.bytes ≤ big], (S.fresh d (.row e T (List.replicate n.toNat y))).set d (.own d)) else none
          | _, _, _ => none
  | _, _ => none

/-- A row of the call's own, cut: the row that was there is gone. -/
def evCut (P : Program) (S : St) (r : Nat) (t : TypeId) (x h : AV) : Option (List Prop × St) :=
  match x, h with
  | .own d, .int _ b => match S.lh d with
    | some (.row e T xs) => if elemOK P t T && !S.lock d && Nat.blt r S.n && !S.lock r then
        some ([0 ≤ b, b ≤ (xs.length : Int)], ((S.entry d .dead).fresh r (.row e T (xs.take b.toNat))).set r (.own r)) else none
    | _ => none
  | _, _ => none

def evMakeMap (P : Program) (S : St) (d : Nat) (t : TypeId) : Option (List Prop × St) :=
  match tyOf P 12 t with
  | some (.map k V) => if Nat.blt d S.n && !S.lock d then some ([], (S.fresh d (.mapp k V [])).set d (.mp d)) else none
  | _ => none

/-- A map of the call's own is written. -/
def evMapSet (P : Program) (S : St) (t : TypeId) (m x v : AV) : Option (List Prop × St) :=
  match mapKey P t, m, x with
  | some (k, _, _), .mp d, .int k' n => match (S.freeze v.owns).lh d with
    | some (.mapp k'' V l) => if k' = k ∧ k'' = k then (if S.lock d then none else match AV.toTy false (S.freeze v.owns).lh V v with
        | some y => some ([], (S.freeze v.owns).entry d (.mapp k'' V (mput l n y)))
        | none => none) else none
    | _ => none
  | _, _, _ => none

def evE (P : Program) (ss : Specs) (S : St) (o : Oper) : Option (List Prop × St) :=
  match o.dst with
  | none => match o.op with
    | .store t ad v => evStore P S t (S.look [] ad) (S.look [] v)
    | .mapUpdate t m x v => evMapSet P S t (S.look [] m) (S.look [] x) (S.look [] v)
    | .insert t m x v => evMapSet P S t (S.look [] m) (S.look [] x) (S.look [] v)
    | _ => none
  | some d => match o.op with
    | .box _ x => evBox S d (S.look [] x)
    | .alloc elem => evAlloc P S d elem
    | .call { callee := .value (.func f), args, .. } => evECall P ss S d f args.toList
    | .call { callee := .builtin .append, args, argTypes } => match args.toList, argTypes.toList with
      | [s, x], [t, t'] => if Nat.beq t t' then evAppend P S d t (S.look [] s) (S.look [] x) else evAppendMake P S d t t' (S.look [] s) (S.look [] x)
      | _, _ => none
    | .call { callee := .builtin .copy, args, argTypes } => match args.toList, argTypes.toList with
      | [x, y], [t, _] => evCopy P S d t (S.look [] x) (S.look [] y)
      | _, _ => none
    | .makeSlice t l c => if sameTmp l c then evMake P S d t (S.look [] l) else none
    | .buildSlice t len parts => evBuildSlice P S d t len parts.toList
    | .slice t x none (some h) none => evCut P S d t (S.look [] x) (S.look [] h)
    | .convert src dst x => evBytesStr P S d src dst (S.look [] x)
    | .makeMap t none => evMakeMap P S d t
    | _ => none

section
variable {M : Nat → Prop} {p0 : PH} {w0 : World} {S : St} {w : World} {p : PH} {β : Nat → Value} {P : Program} {a : Act}

def EOK (M : Nat → Prop) (p0 : PH) (w0 : World) (S' : St) (P : Program) (o : Oper) (a : Act) (w : World) : Prop :=
  ∀ (K : Act → World → Prop) (Q : Exit → Act → World → Prop), (∀ a' w', Sat M p0 w0 S' a'.tmps w' → a'.defers = a.defers → K a' w') → o.wp P a w K Q

theorem put_tmps {d : Nat} {v : Value} : (a.put (some d) v).tmps = a.tmps.setIfInBounds d v := rfl

theorem EOK.of_run {S' : St} {o : Oper} {d : Nat} {v : Value} {w' : World} (ho : o.dst = some d) (hs : (execOp a.eval o).run P w = .ok (.value v) w')
    (h : Sat M p0 w0 S' (a.tmps.setIfInBounds d v) w') : EOK M p0 w0 S' P o a w := by
  intro K Q hK
  unfold Oper.wp
  rw [hs, Oper.upon_value, ho]
  exact hK _ w' h rfl

theorem blt_lt {m n : Nat} (h : Nat.blt m n = true) : m < n := by simpa using h

theorem ghost_eq (β : Nat → Value) (d : Nat) (v : Value) : (fun x => if x = d then v else β x) d = v := by simp

theorem ctx_nil (tm : Array Value) : ctxHold [] tm := by intro c hc; cases hc

theorem cells_scrub_one {c : AV} {cs : List Value} {d : Nat} {v : Value} (h : c.cells p β cs) : (c.scrub (fun x => Nat.beq x d)).cells p (fun x => if x = d then v else β x) cs :=
  AV.cells_scrub (fun x hx => by
    have : x ≠ d := by intro e; subst e; simp at hx
    simp [this]) c cs h

theorem set_loc (hS : SatB M p0 w0 S a.tmps w p β) {d b : Nat} (hd : d < S.n) (hb : β d = .pointer (some ⟨b, 0, none⟩)) :
    SatB M p0 w0 (S.set d (.loc d 0)) (a.tmps.setIfInBounds d (.pointer (some ⟨b, 0, none⟩))) w p β :=
  hS.set hd ⟨b, hb, rfl⟩

theorem evBox_sound (hS : SatB M p0 w0 S a.tmps w p β) {o : Oper} {d : Nat} {elem : TypeId} {x : Operand} (hd : o.dst = some d) (ho : o.op = .box elem x) {ps : List Prop} {S' : St}
    (h : evBox S d (S.look [] x) = some (ps, S')) : EOK M p0 w0 S' P o a w := by
  unfold evBox at h
  split at h <;> simp only [Option.some.injEq, Prod.mk.injEq, reduceCtorEq] at h <;> obtain ⟨rfl, rfl⟩ := h
  rename_i hb
  simp only [Bool.and_eq_true] at hb
  have hv := look_val hS (ctx_nil _) x
  have hc := val_cells hS hv hb.1.1
  have hn := hS.newEntry (cs := (a.eval x).cells) (t := elem) (d := d) (e := .cells ((S.look [] x).scrub (fun y => Nat.beq y d))) (v := .pointer (some ⟨w.heap.size, 0, none⟩)) rfl
    ⟨w.heap.size, _, elem, ghost_eq _ _ _, heap_alloc_new w _, cells_scrub_one hc⟩
  refine EOK.of_run hd (v := .pointer (some ⟨w.heap.size, 0, none⟩)) (w' := w.alloc (.cells (a.eval x).cells elem)) ?_ ⟨p, _, set_loc hn (blt_lt hb.1.2) (ghost_eq _ _ _)⟩
  simp only [execOp, ho]
  rfl

theorem evAlloc_sound (hS : SatB M p0 w0 S a.tmps w p β) {o : Oper} {d : Nat} {elem : TypeId} (hd : o.dst = some d) (ho : o.op = .alloc elem) {ps : List Prop} {S' : St}
    (h : evAlloc P S d elem = some (ps, S')) : EOK M p0 w0 S' P o a w := by
  unfold evAlloc at h
  split at h <;> try cases h
  rename_i i hi
  split at h <;> try cases h
  rename_i z hz
  split at h <;> simp only [Option.some.injEq, Prod.mk.injEq, reduceCtorEq] at h <;> obtain ⟨rfl, rfl⟩ := h
  rename_i hb
  simp only [Bool.and_eq_true] at hb
  have h0 := blt_lt hb.1.1
  have hn := hS.newEntry (cs := z.cells) (t := elem) (d := d) (e := .cells (AV.ofCells z.cells.toList)) (v := .pointer (some ⟨w.heap.size, 0, none⟩)) rfl
    ⟨w.heap.size, _, elem, ghost_eq _ _ _, heap_alloc_new w _, ofCells_cells _ (by intro e; rw [e] at h0; simp at h0)⟩
  refine EOK.of_run hd (v := .pointer (some ⟨w.heap.size, 0, none⟩)) (w' := w.alloc (.cells z.cells elem)) ?_ ⟨p, _, set_loc hn (blt_lt hb.1.2) (ghost_eq _ _ _)⟩
  simp only [execOp, ho, Instr.alloc, Sem.run_bind, zeroValue, typeInfo, run_program, hi, hz, Result.andThen_ok, Sem.run_pure]
  rfl
end
end Go.Proofs.Ytgnamdjmjkeodaa
