/- The engine, part 10: operations that yield a value, all in one function; calls of functions with a contract. -/
import Derived.Test.YtgnamdjmjkeodaaE34
namespace Go.Proofs.Ytgnamdjmjkeodaa
open Go

def AV.noGd : AV → Bool
  | .gd .. => false
  | _ => true

/-- What hangs on a guard that is known to hold is laid open. -/
def AV.opn (ctx : List (Nat × Bool)) : AV → AV
  | .gd g w a => if ctx.any (fun c => Nat.beq c.1 g && (c.2 == w)) then a.opn ctx else .any
  | a => a

def St.val (S : St) : Operand → AV
  | .tmp t => S.env t
  | .const v => AV.ofConst v
  | .func f => .fn f [] []
  | .global _ => .any

def St.look (S : St) (ctx : List (Nat × Bool)) (x : Operand) : AV := (S.val x).opn ctx

def ctxHold (ctx : List (Nat × Bool)) (tm : Array Value) : Prop := ∀ c ∈ ctx, tm.getD c.1 undef = .bool c.2

/-- The guards that hold where a guarded operation runs. -/
def guardCtx (S : St) : Nat → Nat → Bool → List (Nat × Bool)
  | 0, g, w => [(g, w)]
  | n + 1, g, w => (g, w) :: (match S.env g with | .gd g2 w2 _ => guardCtx S n g2 w2 | _ => [])

def guardProps (S : St) (ctx : List (Nat × Bool)) : List (Nat × Bool) → List Prop
  | [] => []
  | (g, w) :: cs => match (S.env g).opn ctx with
    | .bool b => (b = w) :: guardProps S ctx cs
    | _ => guardProps S ctx cs

def impl : List Prop → Prop → Prop
  | [], q => q
  | p :: ps, q => p → impl ps q

def RT.isDat : RT → Bool
  | .dat _ => true
  | _ => false

def RT.av (name : Nat) : (R : RT) → R.den → AV
  | .dat T, x => T.av x
  | .own _ _, _ => .own name
  | .map _ _, _ => .mp name

/-- The names of the rows that a call hands back. -/
def resName (d k : Nat) : Nat := d + 1000000 * k

def resTup (d : Nat) : Nat → (Rs : List RT) → RDens Rs → AV
  | _, [], _ => .tnil
  | k, [R], x => .tup (R.av (resName d k) x) .tnil
  | k, R :: U :: Rs, x => .tup (R.av (resName d k) x.1) (resTup d (k + 1) (U :: Rs) x.2)

def resAV (d : Nat) (Rs : List RT) (x : RDens Rs) : AV :=
  match Rs, x with
  | [R], x => R.av d x
  | Rs, x => resTup d 0 Rs x

def RT.put (R : RT) (x : R.den) (name : Nat) (S : St) : St :=
  match R, x with
  | .dat _, _ => S
  | .own e T, xs => S.fresh name (.row e T xs)
  | .map k V, m => S.fresh name (.mapp k V m)

def resSt (d : Nat) : Nat → (Rs : List RT) → RDens Rs → St → St
  | _, [], _, S => S
  | k, [R], x, S => R.put x (resName d k) S
  | k, R :: U :: Rs, x, S => resSt d (k + 1) (U :: Rs) x.2 (R.put x.1 (resName d k) S)

def consD : (A : Ty) → (Ts : List Ty) → A.den → Dens Ts → Dens (A :: Ts)
  | _, [], x, _ => x
  | _, _ :: _, x, y => (x, y)

/-- A function with a contract, its captured variables' data given: a function of its one argument. -/
def closD (lh : Nat → Option LE) (A B : Ty) (s : Spec) (caps : List AV) : Option ((A.den → Prop) × (A.den → B.den)) :=
  match s with
  | { Ts := A' :: refs, Rs := [.dat B'], al := _, pre := pre, F := F } =>
    if h : A' = A ∧ B' = B then match toTys true lh refs caps with
      | some c => some (fun x => pre (consD A' refs (h.1 ▸ x) c), fun x => h.2 ▸ F (consD A' refs (h.1 ▸ x) c))
      | none => none
    else none
  | _ => none

def AV.toTyC (P : Program) (ss : Specs) (lh : Nat → Option LE) (rows : Bool) (T : Ty) (a : AV) : Option T.den :=
  match T, a with
  | .fn A B, .fn f [] c2 => if rows && callable P f then match ss f with
      | some s => closD lh A B s (c2.map fun x => .loc x.1 x.2)
      | none => none
    else none
  | T, a => a.toTy rows lh T

/-- A call: what is owed, and what comes back. -/
def evCall (P : Program) (ss : Specs) (lh : Nat → Option LE) (f : FuncId) (avs : List AV) : Option (Prop × ((Rs : List RT) × RDens Rs)) :=
  if callable P f then match ss f with
    | none => none
    | some s => match toTysF (AV.toTyC P ss lh (!s.al)) s.Ts avs with
      | none => none
      | some x => some (s.pre x, ⟨s.Rs, s.F x⟩)
  else none

def structOK (P : Program) (t : TypeId) : Bool := match P.underlying t with | some (.struct fs) => allSized P fs | _ => false

def evV (P : Program) (ss : Specs) (S : St) (ctx : List (Nat × Bool)) (o : Oper) : Res :=
  match o.op with
  | .move x => some ([], S.look ctx x)
  | .assign x => some ([], S.look ctx x)
  | .binOp op t x y _ => if wraps S.lh = true then evBinW P t op (S.look ctx x) (S.look ctx y) else evBin2 P t op (S.look ctx x) (S.look ctx y)
  | .unOp op _ x => evUn op (S.look ctx x)
  | .convert src dst x => if (P.underlying src).isSome then evConv P dst (S.look ctx x) else none
  | .load t a => evLoad P S.lh t (S.look ctx a)
  | .fieldAddr s a i => evFieldAddr P s (S.look ctx a) i
  | .indexAddr t a i => evIndexAddr P S.lh t (S.look ctx a) (S.look ctx i)
  | .index t a i => evStrIdx P t (S.look ctx a) (S.look ctx i)
  | .slice t x lo hi none => evSlice P S.lh t (S.look ctx x) (lo.map (S.look ctx)) (hi.map (S.look ctx))
  | .extract a n => ((S.look ctx a).nth n).map fun r => ([], r)
  | .build t parts => if structOK P t then evBuild P S.lh t parts.toList (S.look ctx) else none
  | .pick (.tmp g) a b => match S.look ctx (.tmp g), S.look ((g, true) :: ctx) a, S.look ((g, false) :: ctx) b with
    | .bool c, .bool x, .bool y => some ([], .bool (match a, b with
      | .const (.bool true), _ => c || y
      | _, .const (.bool false) => c && x
      | _, _ => bif c then x else y))
    | _, _, _ => none
  | .call { callee := .builtin .len, args, argTypes } => match args.toList, argTypes.toList with
    | [x], [t] => evLen P S.lh t (S.look ctx x)
    | _, _ => none
  | .call { callee := .builtin .min, args, .. } => match args.toList with
    | x :: xs => (evMM false (xs.map (S.look ctx)) (S.look ctx x)).map fun r => ([], r)
    | [] => none
  | .call { callee := .builtin .max, args, .. } => match args.toList with
    | x :: xs => (evMM true (xs.map (S.look ctx)) (S.look ctx x)).map fun r => ([], r)
    | [] => none
  | .call { callee := .value (.func f), args, .. } => match evCall P ss S.lh f (args.toList.map (S.look ctx)) with
    | some (q, ⟨Rs, x⟩) => if Rs.all RT.isDat then some ([q], resAV 0 Rs x) else none
    | none => none
  | .call { callee := .value (.tmp t), args, .. } => match S.look ctx (.tmp t) with
    | .fd A B g => match args.toList with
      | [x] => match (S.look ctx x).toTy false S.lh A with
        | some y => some ([g.1 y], B.av (g.2 y))
        | none => none
      | _ => none
    | _ => none
  | .lookup t m x ok => evLookup P S.lh t (S.look ctx m) (S.look ctx x) ok
  | .nilCheck x => match S.look ctx x with
    | .loc d off => some ([], .loc d off)
    | _ => none
  | .makeFunc (.func f) first caps => match toLocs (first.toList.map (S.look ctx)), toLocs (caps.toList.map (S.look ctx)) with
    | some c1, some c2 => some ([], .fn f c1 c2)
    | _, _ => none
  | _ => none

section
variable {M : Nat → Prop} {p0 : PH} {w0 : World} {S : St} {w : World} {p : PH} {β : Nat → Value} {P : Program} {a : Act}

theorem opn_val {ctx : List (Nat × Bool)} {tm : Array Value} (h : ctxHold ctx tm) : ∀ (x : AV) (v : Value), x.val p β tm v → (x.opn ctx).val p β tm v := by
  intro x
  induction x with
  | gd g w x ih =>
    intro v hv
    simp only [AV.opn]
    split
    · rename_i hc
      obtain ⟨c, hm, he⟩ := List.any_eq_true.1 hc
      simp only [Bool.and_eq_true, beq_iff_eq] at he
      have hg := Nat.eq_of_beq_eq_true he.1
      have := h c hm
      rw [hg, he.2] at this
      rcases hv with ⟨_, hv⟩ | ⟨hne, _⟩
      · exact ih v hv
      · exact absurd this hne
    · trivial
  | _ => intro v hv; exact hv

theorem look_val (hS : SatB M p0 w0 S a.tmps w p β) {ctx : List (Nat × Bool)} (hc : ctxHold ctx a.tmps) (x : Operand) : (S.look ctx x).val p β a.tmps (a.eval x) := by
  unfold St.look
  cases x with
  | tmp t => exact opn_val hc _ _ (hS.env t)
  | const v => exact opn_val hc _ _ (ofConst_val v)
  | global g => exact opn_val hc _ _ trivial
  | func f => exact opn_val hc _ _ ⟨#[], #[], rfl, rfl, rfl⟩

theorem opn_noGd (ctx : List (Nat × Bool)) : ∀ (x : AV), (x.opn ctx).noGd = true := by
  intro x
  induction x with
  | gd g w x ih => simp only [AV.opn]; split; exact ih; rfl
  | _ => rfl

theorem val_noGd {x : AV} (h : x.noGd = true) {tm tm' : Array Value} {v : Value} : x.val p β tm v → x.val p β tm' v := by
  cases x <;> first | (cases h; done) | exact fun h => h

/-- An operation that yields a value: the world may grow, what is known of unchanging memory, too. -/
def VOK (M : Nat → Prop) (p0 : PH) (w0 : World) (S : St) (P : Program) (o : Oper) (a : Act) (w : World) (p : PH) (β : Nat → Value) (r : AV) : Prop :=
  ∀ (K : Act → World → Prop) (Q : Exit → Act → World → Prop), (∀ v w' p', SatB M p0 w0 S a.tmps w' p' β → PH.le p p' → r.val p' β a.tmps v → K (a.put o.dst v) w') → o.wp P a w K Q

theorem VOK.of_yields (hS : SatB M p0 w0 S a.tmps w p β) {o : Oper} {r : AV} {s : Sem Value} (hs : execOp a.eval o = (do pure (.value (← s)))) (h : Yields P s w p β a.tmps r) : VOK M p0 w0 S P o a w p β r := by
  intro K Q hK
  obtain ⟨v, e, hv⟩ := h
  unfold Oper.wp
  rw [hs]
  simp only [Sem.run_bind, e, Result.andThen_ok, Sem.run_pure]
  exact hK v w p hS (PH.le.refl p) hv

theorem VOK.of_run (hS : SatB M p0 w0 S a.tmps w p β) {o : Oper} {r : AV} {v : Value} (hs : (execOp a.eval o).run P w = .ok (.value v) w) (h : r.val p β a.tmps v) : VOK M p0 w0 S P o a w p β r := by
  intro K Q hK
  unfold Oper.wp
  rw [hs]
  exact hK v w p hS (PH.le.refl p) h

theorem union_left (p q : PH) : PH.le p (p.union q) := by
  intro b cs h
  simp [PH.union, h]

theorem union_right {q : PH} (hp : ∀ b cs, p b = some cs → b < w.heap.size) (hq : ∀ b cs, q b = some cs → w.heap.size ≤ b) : PH.le q (p.union q) := by
  intro b cs h
  have h1 := hq b cs h
  have : p b = none := by
    cases hpb : p b with
    | none => rfl
    | some c => have := hp b c hpb; omega
  simp [PH.union, this, h]

theorem union_agrees {q : PH} {w' : World} (hp : Agrees p w') (hq : Agrees q w') : Agrees (p.union q) w' := by
  intro b cs h
  unfold PH.union at h
  split at h
  · rename_i c hc
    injection h with h
    subst h
    exact hp b _ hc
  · exact hq b cs h

theorem one_of_cells {x : AV} {v : Value} (hp : ∀ y z, x ≠ .pair y z) (h : x.cells p β [v]) : x.val1 p β v := by
  obtain ⟨v', e, hv⟩ := (AV.cells_leaf x hp _).1 h
  injection e with e _
  subst e
  exact (AV.val1_leaf x hp _).2 hv

theorem vholds_val {T : Ty} {x : T.den} {v : Value} {tm : Array Value} (h : T.vholds p x v) : (T.av x).val1 p β v := by
  cases T with
  | pair A B =>
    obtain ⟨cs, rfl, hc⟩ := h
    have h1 := Ty.av_cells (p := p) (β := β) (Ty.pair A B) x cs.toList hc
    have h2 := Ty.holds_length _ _ _ hc
    have h3 := AV.val_of_cells_agg (tm := tm) h1 (by have := Ty.size_pos A; have := Ty.size_pos B; rw [h2]; simp [Ty.size]; omega)
    have e : ((cs.toList).toArray) = cs := by simp
    rw [e] at h3
    have : ∃ y z, (Ty.pair A B).av x = .pair y z := by
      simp only [Ty.av]
      have : ∀ (a b : AV), ∃ y z, a.app b = .pair y z := by intro a b; cases a <;> exact ⟨_, _, rfl⟩
      exact this _ _
    obtain ⟨y, z, e2⟩ := this
    rw [e2] at h3 ⊢
    exact h3
  | int k => exact one_of_cells (by intro x y e; cases e) (Ty.av_cells (.int k) x [v] h)
  | bool => exact one_of_cells (p := p) (by intro x y e; cases e) (Ty.av_cells .bool x [v] h)
  | str => exact one_of_cells (p := p) (by intro x y e; cases e) (Ty.av_cells .str x [v] h)
  | arr T => exact one_of_cells (by intro x y e; cases e) (Ty.av_cells (.arr T) x [v] h)
  | nil => exact one_of_cells (p := p) (by intro x y e; cases e) (Ty.av_cells .nil x [v] h)
  | ref T => exact one_of_cells (by intro x y e; cases e) (Ty.av_cells (.ref T) x [v] h)
  | fn A B => exact one_of_cells (by intro x y e; cases e) (Ty.av_cells (.fn A B) x [v] h)
  | map k V => exact one_of_cells (by intro x y e; cases e) (Ty.av_cells (.map k V) x [v] h)

theorem evLookup_sound {tm : Array Value} (hS : SatB M p0 w0 S tm w p β) {t : TypeId} {m x : AV} {ok : Bool} {vm vx : Value} {ps : List Prop} {r : AV} (h : evLookup P S.lh t m x ok = some (ps, r))
    (hm : m.val p β tm vm) (hx : x.val p β tm vx) : Yields P (Instr.lookup t vm vx ok) w p β tm r := by
  unfold evLookup at h
  split at h <;> try cases h
  rename_i k kt e k' V l k'' n hk hmo
  obtain ⟨hu, hku⟩ := mapKey_spec hk
  obtain ⟨rfl, hn⟩ := val_int hx
  split at h <;> try cases h
  rename_i hkk
  obtain ⟨rfl, rfl⟩ := hkk
  split at h <;> simp only [Option.some.injEq, Prod.mk.injEq, reduceCtorEq] at h
  rename_i z hz
  obtain ⟨rfl, rfl⟩ := h
  obtain ⟨v0, hzr, hzv⟩ := zeroTy_sound (w := w) hS hz
  have out : ∀ (y : V.den) (v : Value) (b : Bool), V.vholds p y v → (Instr.lookup t vm (.int k'' n) ok).run P w = .ok (if ok then .tuple #[v, .bool b] else v) w →
      Yields P (Instr.lookup t vm (.int k'' n) ok) w p β tm (if ok then .tup (V.av y) (.tup (.bool b) .tnil) else V.av y) := by
    intro y v b hy hrun
    refine ⟨_, hrun, ?_⟩
    have h1 := vholds_val (β := β) (tm := tm) hy
    cases ok
    · exact AV.val_of_val1 h1
    · exact ⟨[v, .bool b], rfl, h1, rfl, trivial⟩
  rcases mapOf_sound hS hmo hm with ⟨rfl, rfl⟩ | ⟨g, es, clock, rfl, hg, hh⟩
  · refine out z v0 false hzv ?_
    simp [Instr.lookup, run_underlying hu, run_checkKey_int hku, run_findKey_int hku (v := .int k'' n) (es := []) (r := none) rfl, hzr]
  · rcases findNow_hold hn l es.toList 0 hh with ⟨g1, g2, _⟩ | ⟨y, j, e0, g1, g2, g3, g4, g5, _⟩
    · rw [g1]
      refine out z v0 false hzv ?_
      simp [Instr.lookup, run_underlying hu, MapKept.run_getObj_map hg, run_checkKey_int hku, run_findKey_int hku g2, hzr]
    · rw [g1]
      refine out y e0.val true (vhold_iff0.1 g5) ?_
      simp [Instr.lookup, run_underlying hu, MapKept.run_getObj_map hg, run_checkKey_int hku, run_findKey_int hku g2]
end
end Go.Proofs.Ytgnamdjmjkeodaa
