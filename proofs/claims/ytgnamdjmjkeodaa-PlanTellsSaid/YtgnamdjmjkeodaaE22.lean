/- The engine, part 22: what a piece of code asks for, avs one statement; and that it suffices. -/
import Derived.Test.YtgnamdjmjkeodaaE21
import Derived.Test.YtgnamdjmjkeodaaE35
import Derived.Deep.LoopGhost
namespace Go.Proofs.Ytgnamdjmjkeodaa
open Go

/-- What a loop's rounds keep, what they lower. -/
structure LoopAnn where
  cs : List Cr
  inv : CDens cs → Prop
  mu : CDens cs → Nat

/-- The same, where what lies in some slots (and rows) ahead of the loop may be spoken of. -/
structure LoopGen where
  rd : List Cr
  /-- slots that the rounds do not write, whose rows they turn -/
  wr : List Nat := []
  A : CDens rd → LoopAnn

def wrOf (ann : Nat → Option LoopGen) (k : Nat) : List Nat := match ann k with
  | some G => G.wr
  | none => []

/-- A loop is named by its first statement's number. -/
def loopKey : Code → Nat
  | .region id _ _ => id
  | .seq a _ => loopKey a
  | .cond _ a _ => loopKey a
  | .block _ a => loopKey a
  | .loop a => loopKey a
  | _ => 0

/-- A fork is named by its first statement's number (1000000 on). -/
def condKey (a b : Code) : Nat := 1000000 + (bif Nat.beq (loopKey a) 0 then loopKey b else loopKey a)

/-- All slots that a piece of code writes (or whose rows a loop turns). -/
def dsts (ann : Nat → Option LoopGen) : Code → List Nat
  | .region _ ops _ => ops.toList.filterMap (·.dst)
  | .seq a b => dsts ann a ++ dsts ann b
  | .cond _ a b => wrOf ann (condKey a b) ++ (dsts ann a ++ dsts ann b)
  | .block _ a => dsts ann a
  | .loop a => wrOf ann (loopKey a) ++ dsts ann a
  | _ => []

def conj : List Prop → Prop → Prop
  | [], q => q
  | p :: ps, q => p ∧ conj ps q

def slotsOK (L : List Nat) (cs : List Cr) : Bool :=
  cs.all fun c => match c with
    | .dat s _ => L.contains s
    | .own s _ _ => L.contains s
    | .same s _ => L.contains s
    | _ => true

def vcLoop (A : LoopAnn) (L : List Nat) (S : St) (body : St → (St → Prop) → (Nat → St → Prop) → (St → Prop) → Prop) (X : Nat → St → Prop) (R : St → Prop) : Prop :=
  match gets S A.cs with
  | none => False
  | some (x0, ren) =>
    if cok S L (renNames ren) A.cs ren && L.all (Nat.blt · 900000) && (slotsOK L A.cs && sameIn A.cs) then
      A.inv x0 ∧ ∀ x, A.inv x → body (loopSt S L (renNames ren) A.cs x)
        (fun S' => match gets S' A.cs with
          | none => False
          | some (x', ren') => if cok S' L (renNames ren) A.cs ren' then A.inv x' ∧ A.mu x' < A.mu x else False)
        (fun i S' => X i { S' with lock := S.lock }) (fun S' => R { S' with lock := S.lock })
    else False

/-- The names that a join may rename. -/
def joinX (S : St) (cs : List Cr) : List Nat := match gets S cs with
  | some (_, ren) => renNames ren
  | none => []

/-- A state taken for the head of a branch. -/
def preSt (S : St) (L X boxes : List Nat) : St :=
  { env := fun s => bif L.contains s then S.env s else ((S.env s).scrub (badE L X)).opn []
    lh := fun d => bif badE L X d then S.lh d else bif boxes.contains d then (match S.lh d with | some (.cells c) => some (.cells c) | some (.mapp k V m) => some (.mapp k V m) | _ => none) else (S.lh d).map (LE.scrub (badE L X))
    n := S.n
    lock := fun d => !badE L X d && !boxes.contains d }

/-- Where two branches meet: what both hand on. -/
def vcJoin (A : LoopAnn) (L : List Nat) (S : St) (body : St → (St → Prop) → (Nat → St → Prop) → (St → Prop) → Prop) (K : St → Prop) (X : Nat → St → Prop) (R : St → Prop) : Prop :=
  if (A.cs.flatMap Cr.boxName).all (fun d => !S.lock d) && L.all (Nat.blt · 900000) && (slotsOK L A.cs && sameIn A.cs) then
    body (preSt S L (joinX S A.cs) (A.cs.flatMap Cr.boxName))
      (fun S' => match gets S' A.cs with
        | none => False
        | some (x', ren') => if cok S' L (joinX S A.cs) A.cs ren' then A.inv x' else False)
      (fun i S' => X i { S' with lock := S.lock }) (fun S' => R { S' with lock := S.lock }) ∧
    ∀ x, A.inv x → K { loopSt S L (joinX S A.cs) A.cs x with lock := S.lock }
  else False

def vcCond (S : St) (c : Operand) (va vb : Prop) : Prop :=
  match S.look [] c with
  | .bool t => (t = true → va) ∧ (t = false → vb)
  | .bl t f => (t → va) ∧ (f → vb)
  | _ => False

/-- A call that is walked through: what its walk asks for, if the rest is to hold behind it. -/
abbrev Inl := FuncId → Option (List AV → St → Nat → (St → Prop) → Prop)

def opInl (inl : Inl) (S : St) (o : Oper) : Option ((List AV → St → Nat → (St → Prop) → Prop) × List AV × Nat) :=
  match o.guard, o.dst, o.op with
  | none, some d, .call { callee := .value x, args, .. } => match S.look [] x with
    | .fn f c1 c2 => match inl f with
      | some G => if Nat.blt d S.n then some (G, (c1.map fun x => .loc x.1 x.2) ++ args.toList.map (S.look []) ++ (c2.map fun x => .loc x.1 x.2), d) else none
      | none => none
    | _ => none
  | _, _, _ => none

def vcOps (P : Program) (ss : Specs) (inl : Inl) (ops : Array Oper) : List Oper → St → (St → Prop) → Prop
  | [], S, K => K S
  | o :: os, S, K => match opInl inl S o with
    | some (G, avs, d) => G avs S d (fun S' => vcOps P ss inl ops os S' K)
    | none => match evOp P ss ops o S with
      | some (ps, S1) => conj ps (vcOps P ss inl ops os S1 K)
      | none => False

/-- Is there a call that may be walked through? -/
def hasInl (inl : Inl) (ops : Array Oper) : Bool := ops.toList.any fun o => match o.op with
  | .call { callee := .value (.tmp _), .. } => true
  | .call { callee := .value (.func f), .. } => (inl f).isSome
  | _ => false

def vc (P : Program) (ss : Specs) (inl : Inl) (ann : Nat → Option LoopGen) : Code → St → (St → Prop) → (Nat → St → Prop) → (St → Prop) → Prop
  | .skip, S, K, _, _ => K S
  | .region _ ops draw, S, K, _, _ => if !draw && hasInl inl ops then vcOps P ss inl ops ops.toList S (fun S' => K S'.clean) else match (if draw then runDraw P ss ops S.clean else run P ss ops ops.toList S) with
    | some (ps, S') => conj ps (K S'.clean)
    | none => False
  | .seq a b, S, K, X, R => vc P ss inl ann a S (fun S' => vc P ss inl ann b S' K X R) X R
  | .cond c a b, S, K, X, R => match ann (condKey a b) with
    | none => vcCond S c (vc P ss inl ann a S K X R) (vc P ss inl ann b S K X R)
    | some G => match gets { S with lock := fun _ => false } G.rd with
      | some g => vcJoin (G.A g.1) (G.wr ++ (dsts ann a ++ dsts ann b)) S (fun S K X R => vcCond S c (vc P ss inl ann a S K X R) (vc P ss inl ann b S K X R)) K X R
      | none => False
  | .block id a, S, K, X, R => vc P ss inl ann a S K (fun i S' => bif Nat.beq i id then K S' else X i S') R
  | .loop a, S, _, X, R => match ann (loopKey a) with
    | some G => match gets { S with lock := fun _ => false } G.rd with
      | some g => vcLoop (G.A g.1) (G.wr ++ dsts ann a) S (vc P ss inl ann a) X R
      | none => False
    | none => False
  | .exit id, S, _, X, _ => X id S
  | .ret, S, _, _, R => R S
  | _, _, _, _, _ => False

section
variable {M : Nat → Prop} {p0 : PH} {w0 : World} {P : Program}

theorem conj_elim : ∀ (ps : List Prop) (q : Prop), conj ps q → (∀ x ∈ ps, x) ∧ q
  | [], _, h => ⟨fun x hx => (by cases hx), h⟩
  | p :: ps, q, h => by
    obtain ⟨h1, h2⟩ := conj_elim ps q h.2
    refine ⟨fun x hx => ?_, h2⟩
    rcases List.mem_cons.1 hx with rfl | hx
    · exact h.1
    · exact h1 x hx

theorem cr_env_some (c : Cr) (x y : c.den) (s : Nat) : (c.envOf y s).isSome = (c.envOf x s).isSome := by
  cases c <;> simp only [Cr.envOf] <;> first | rfl | (split <;> rfl)

theorem rowF_some (d : Nat) : ∀ (fs : List BF) (j : Nat) (x y : FDens fs) (n : Nat), (rowF d j fs y n).isSome = (rowF d j fs x n).isSome := by
  have one : ∀ (f : BF) (nm : Nat) (x y : f.den) (n : Nat), (f.row nm y n).isSome = (f.row nm x n).isSome := by
    intro f nm x y n
    cases f with
    | dat T => rfl
    | own e T => simp only [BF.row]; split <;> rfl
  intro fs
  induction fs with
  | nil => intro j x y n; rfl
  | cons f fs ih =>
    intro j x y n
    cases fs with
    | nil => exact one f _ x y n
    | cons g fs =>
      simp only [rowF]
      have h1 := one f (boxRow d j) x.1 y.1 n
      have h2 := ih (j + 1) x.2 y.2 n
      cases e1 : f.row (boxRow d j) x.1 n <;> cases e2 : f.row (boxRow d j) y.1 n <;> rw [e1, e2] at h1 <;> first | exact h2 | rfl | cases h1

theorem cr_lh_some (c : Cr) (x y : c.den) (d : Nat) : (c.lhOf y d).isSome = (c.lhOf x d).isSome := by
  cases c with
  | boxS d' fs =>
    simp only [Cr.lhOf]
    split
    · rfl
    · exact rowF_some d' fs 0 x y d
  | _ => simp only [Cr.lhOf] <;> first | rfl | (split <;> rfl)

theorem env_some : ∀ (cs : List Cr) (x y : CDens cs) (s : Nat), (envOf cs y s).isSome = (envOf cs x s).isSome
  | [], _, _, _ => rfl
  | [c], x, y, s => cr_env_some c x y s
  | c :: d :: cs, x, y, s => by
    have h1 := cr_env_some c x.1 y.1 s
    have h2 := env_some (d :: cs) x.2 y.2 s
    simp only [envOf]
    cases e1 : c.envOf x.1 s <;> cases e2 : c.envOf y.1 s <;> rw [e1, e2] at h1 <;> first | exact h2 | rfl | cases h1

theorem lh_some : ∀ (cs : List Cr) (x y : CDens cs) (d : Nat), (lhOf cs y d).isSome = (lhOf cs x d).isSome
  | [], _, _, _ => rfl
  | [c], x, y, s => cr_lh_some c x y s
  | c :: d :: cs, x, y, s => by
    have h1 := cr_lh_some c x.1 y.1 s
    have h2 := lh_some (d :: cs) x.2 y.2 s
    simp only [lhOf]
    cases e1 : c.lhOf x.1 s <;> cases e2 : c.lhOf y.1 s <;> rw [e1, e2] at h1 <;> first | exact h2 | rfl | cases h1

theorem box_some : ∀ (cs : List Cr) (x : CDens cs) (d : Nat), (cs.flatMap Cr.boxName).contains d = true → (lhOf cs x d).isSome = true
  | [], _, _, h => by simp at h
  | [c], x, d, h => by
    cases c <;> simp [Cr.boxName] at h <;> subst h <;> simp [lhOf, Cr.lhOf]
  | c :: c' :: cs, x, d, h => by
    simp only [lhOf]
    cases e : c.lhOf x.1 d with
    | some a => rfl
    | none =>
      refine box_some (c' :: cs) x.2 d ?_
      rw [List.flatMap_cons] at h
      have h' := List.contains_iff_mem.1 h
      rcases List.mem_append.1 h' with h1 | h1
      · exfalso
        cases c <;> simp only [Cr.boxName, List.mem_singleton, List.not_mem_nil] at h1
        · subst h1; simp [Cr.lhOf] at e
        · subst h1; simp [Cr.lhOf] at e
        · subst h1; simp [Cr.lhOf] at e
      · exact List.contains_iff_mem.2 h1

/-- What a piece of code leaves, whichever way it ends. -/
def Post (M : Nat → Prop) (p0 : PH) (w0 : World) (ds : List Deferred) (L : List Nat) (bad : Nat → Bool) (S : St) (K : St → Prop) (X : Nat → St → Prop) (R : St → Prop) : Exit → Act → World → Prop
  | .normal, a, w => ∃ S', K S' ∧ Fr L bad S S' ∧ Tidy bad S' ∧ Sat M p0 w0 S' a.tmps w ∧ a.defers = ds
  | .exit i, a, w => ∃ S', X i S' ∧ Fr L bad S S' ∧ Tidy bad S' ∧ Sat M p0 w0 S' a.tmps w ∧ a.defers = ds
  | .ret, a, w => ∃ S', R S' ∧ Fr L bad S S' ∧ Tidy bad S' ∧ Sat M p0 w0 S' a.tmps w ∧ a.defers = ds
  | _, _, _ => False

theorem Sat.congr {S T : St} {tm : Array Value} {w : World} (h : Sat M p0 w0 S tm w) (he : T.env = S.env) (hl : T.lh = S.lh) (hn : T.n = S.n) : Sat M p0 w0 T tm w := by
  obtain ⟨p, β, h⟩ := h
  refine ⟨p, β, h.keep, h.agr, h.old, by rw [hn]; exact h.size, ?_, ?_, ?_, ?_⟩
  · rw [hl]; exact h.lhs
  · rw [hl]; exact h.owns
  · rw [hl]; exact h.inj
  · rw [he]; exact h.env

theorem Fr.mono {L L' : List Nat} {bad : Nat → Bool} {S S' : St} (h : Fr L bad S S') (hL : ∀ s, L.contains s = true → L'.contains s = true) : Fr L' bad S S' :=
  ⟨h.n, h.lock, fun s hs hst => h.env s (by
    cases hc : L.contains s
    · rfl
    · rw [hL s hc] at hs; cases hs) hst, h.lh, h.frames⟩

theorem contains_append_left {L1 L2 : List Nat} : ∀ s, L1.contains s = true → (L1 ++ L2).contains s = true := fun s h => by
  simp only [List.contains_iff_mem, List.mem_append] at h ⊢; exact .inl h
theorem contains_append_right {L1 L2 : List Nat} : ∀ s, L2.contains s = true → (L1 ++ L2).contains s = true := fun s h => by
  simp only [List.contains_iff_mem, List.mem_append] at h ⊢; exact .inr h

theorem named_badE {L X : List Nat} (h : L.all (Nat.blt · 900000) = true) : Named L (badE L X) := by
  intro d hd k
  have h1 : d < 900000 := by
    have := List.all_eq_true.1 h d (List.contains_iff_mem.1 hd)
    simpa using this
  have h2 : resName d k % 1000000 = d := by unfold resName; omega
  simp only [badE, h2, hd, Bool.true_or]

/-- A loop's own list of bad names is within the one around it. -/
theorem badE_sub {L X L' : List Nat} {bad : Nat → Bool} (hN : Named L' bad) (h9 : ∀ n, far n = true → bad n = true) (hL : ∀ s, L.contains s = true → L'.contains s = true) (hX : ∀ n ∈ X, bad n = true) :
    ∀ n, badE L X n = true → bad n = true := by
  intro n hn
  simp only [badE, Bool.or_eq_true] at hn
  rcases hn with (hn | hn) | hn
  · have h1 : n = resName (n % 1000000) (n / 1000000) := by unfold resName; omega
    rw [h1]
    exact hN _ (hL _ hn) _
  · exact hX n (List.contains_iff_mem.1 hn)
  · exact h9 n hn

theorem cr_get_bad {bad : Nat → Bool} {S : St} (hT : Tidy bad S) {L : List Nat} (h9 : ∀ n, far n = true → bad n = true) (hL : ∀ s, L.contains s = true → bad s = true) {c : Cr} {x : c.den} {ren : List (Nat × Option Nat)}
    (h : c.get S = some (x, ren)) (hs : slotsOK L [c] = true) : ∀ n ∈ renNames ren, bad n = true := by
  have row : ∀ {e : TypeId} {T : Ty} {a : AV} {y : List T.den × Option Nat}, a.rowAt S e T = some y → ∀ d, y.2 = some d → bad d = true := by
    intro e T a y hy d hd
    cases a <;> simp only [AV.rowAt, reduceCtorEq] at hy
    · injection hy with hy; subst hy; cases hd
    · split at hy <;> try cases hy
      rename_i e' T' ys hlh
      split at hy <;> try cases hy
      rename_i hT'
      subst hT'
      split at hy <;> simp only [Option.some.injEq, reduceCtorEq] at hy
      rename_i hb
      simp only [Bool.and_eq_true, Bool.not_eq_true'] at hb
      subst hy
      injection hd with hd
      subst hd
      exact hT.row _ _ _ _ hlh hb.2
  intro n hn
  cases c with
  | dat s T =>
    obtain ⟨y, hy, h0⟩ := Option.map_eq_some_iff.1 h
    injection h0 with _ h00
    subst h00
    cases hn
  | box d T =>
    unfold Cr.get at h
    simp only at h
    split at h
    case h_2 => cases h
    obtain ⟨y, hy, h0⟩ := Option.map_eq_some_iff.1 h
    injection h0 with _ h00
    subst h00
    cases hn
  | same s s' =>
    simp only [Cr.get] at h
    split at h <;> try cases h
    split at h <;> simp only [Option.some.injEq, reduceCtorEq] at h
    obtain ⟨_, rfl⟩ := h
    cases hn
  | map d k V =>
    simp only [Cr.get] at h
    split at h <;> try cases h
    split at h <;> simp only [Option.some.injEq, reduceCtorEq] at h
    obtain ⟨_, rfl⟩ := h
    cases hn
  | own s e T =>
    obtain ⟨y, hy, h0⟩ := Option.map_eq_some_iff.1 h
    injection h0 with _ h00
    subst h00
    simp only [renNames, List.flatMap_cons, List.flatMap_nil, List.append_nil, List.mem_cons, Option.mem_toList] at hn
    rcases hn with rfl | hn
    · exact hL _ (by simpa [slotsOK] using hs)
    · exact row hy n hn
  | boxS d fs =>
    obtain ⟨_, _, h⟩ := boxS_get h
    have one : ∀ (f : BF) (j : Nat) (a : AV) (x : f.den) (r : List (Nat × Option Nat)), f.get S (boxRow d j) a = some (x, r) → ∀ n ∈ renNames r, bad n = true := by
      intro f j a x r h n hn
      cases f with
      | dat T =>
        obtain ⟨y, hy, h0⟩ := Option.map_eq_some_iff.1 h
        injection h0 with _ h00
        subst h00
        cases hn
      | own e T =>
        obtain ⟨y, hy, h0⟩ := Option.map_eq_some_iff.1 h
        injection h0 with _ h00
        subst h00
        simp only [renNames, List.flatMap_cons, List.flatMap_nil, List.append_nil, List.mem_cons, Option.mem_toList] at hn
        rcases hn with rfl | hn
        · exact h9 _ (rowFar_far hy)
        · exact row (rowFar_at hy) n hn
    have all : ∀ (fs : List BF) (j : Nat) (a : AV) (x : FDens fs) (r : List (Nat × Option Nat)), getF S d j fs a = some (x, r) → ∀ n ∈ renNames r, bad n = true := by
      intro fs
      induction fs with
      | nil => intro j a x r h; cases h
      | cons f fs ih =>
        intro j a x r h n hn
        cases fs with
        | nil => exact one f j a x r h n hn
        | cons g fs =>
          unfold getF at h
          split at h <;> simp only [Option.some.injEq, reduceCtorEq] at h
          rename_i y r1 z r2 h1 h2
          obtain ⟨_, rfl⟩ := h
          simp only [renNames, List.flatMap_append, List.mem_append] at hn
          rcases hn with hn | hn
          · exact one f j _ y r1 h1 n hn
          · exact ih (j + 1) _ z r2 h2 n hn
    exact all fs 0 _ x ren h n hn

theorem gets_bad {bad : Nat → Bool} {S : St} (hT : Tidy bad S) {L X : List Nat} (h9 : ∀ n, far n = true → bad n = true) (hL : ∀ s, L.contains s = true → bad s = true) : ∀ (cs : List Cr) (x : CDens cs) (ren : List (Nat × Option Nat)),
    gets S cs = some (x, ren) → slotsOK L cs = true → ∀ n ∈ renNames ren, bad n = true
  | [], x, ren, h, _, n, hn => by
    injection h with h
    injection h with _ h
    subst h
    cases hn
  | [c], x, ren, h, hs, n, hn => cr_get_bad hT h9 hL h hs n hn
  | c :: d :: cs, x, ren, h, hs, n, hn => by
    unfold gets at h
    split at h <;> try cases h
    rename_i x1 r1 y r2 h1 h2
    simp only [slotsOK, List.all_cons, Bool.and_eq_true] at hs
    simp only [renNames, List.flatMap_append, List.mem_append] at hn
    rcases hn with hn | hn
    · exact cr_get_bad hT h9 hL h1 (by simp only [slotsOK, List.all_cons, List.all_nil, Bool.and_true]; exact hs.1) n hn
    · exact gets_bad hT (X := X) h9 hL (d :: cs) y r2 h2 (by simp only [slotsOK, List.all_cons, Bool.and_eq_true]; exact hs.2) n hn

/-- A row among what a loop hands on lies at a new name. -/
theorem lhOf_row : ∀ (cs : List Cr) (x y : CDens cs) (S : St) (ren : List (Nat × Option Nat)), gets S cs = some (y, ren) → ∀ {d : Nat} {t : TypeId} {T : Ty} {xs : List T.den}, lhOf cs x d = some (.row t T xs) → d ∈ ren.map (·.1) := by
  have one : ∀ (c : Cr) (x y : c.den) (S : St) (ren : List (Nat × Option Nat)), c.get S = some (y, ren) → ∀ {d : Nat} {t : TypeId} {T : Ty} {xs : List T.den}, c.lhOf x d = some (.row t T xs) → d ∈ ren.map (·.1) := by
    intro c x y S ren h d t T xs he
    cases c with
    | dat s T => simp [Cr.lhOf] at he
    | same _ _ => simp [Cr.lhOf] at he
    | map d' k V =>
      simp only [Cr.lhOf] at he
      split at he <;> simp only [Option.some.injEq, reduceCtorEq] at he
    | box d' T =>
      simp only [Cr.lhOf] at he
      split at he <;> simp only [Option.some.injEq, reduceCtorEq] at he
    | own s e T =>
      obtain ⟨y', hy, h0⟩ := Option.map_eq_some_iff.1 h
      injection h0 with _ h00
      subst h00
      simp only [Cr.lhOf] at he
      split at he <;> simp only [Option.some.injEq, reduceCtorEq] at he
      rename_i hs
      simp [Nat.eq_of_beq_eq_true hs]
    | boxS d' fs =>
      obtain ⟨_, _, h⟩ := boxS_get h
      simp only [Cr.lhOf] at he
      split at he
      · cases he
      · have one : ∀ (f : BF) (j : Nat) (a : AV) (x y : f.den) (r : List (Nat × Option Nat)), f.get S (boxRow d' j) a = some (y, r) → f.row (boxRow d' j) x d = some (.row t T xs) → d ∈ r.map (·.1) := by
          intro f j a x y r h he
          cases f with
          | dat T => cases he
          | own e T =>
            obtain ⟨y', hy, h0⟩ := Option.map_eq_some_iff.1 h
            injection h0 with _ h00
            subst h00
            simp only [BF.row] at he
            split at he <;> simp only [Option.some.injEq, reduceCtorEq] at he
            rename_i hs
            simp [Nat.eq_of_beq_eq_true hs]
        have all : ∀ (fs : List BF) (j : Nat) (a : AV) (x y : FDens fs) (r : List (Nat × Option Nat)), getF S d' j fs a = some (y, r) → rowF d' j fs x d = some (.row t T xs) → d ∈ r.map (·.1) := by
          intro fs
          induction fs with
          | nil => intro j a x y r h; cases h
          | cons f fs ih =>
            intro j a x y r h he
            cases fs with
            | nil => exact one f j a x y r h he
            | cons g fs =>
              unfold getF at h
              split at h <;> simp only [Option.some.injEq, reduceCtorEq] at h
              rename_i y1 r1 z r2 h1 h2
              obtain ⟨_, rfl⟩ := h
              simp only [rowF] at he
              rw [List.map_append]
              split at he
              · rename_i e' he'
                injection he with he
                subst he
                exact List.mem_append_left _ (one f j _ x.1 y1 r1 h1 he')
              · exact List.mem_append_right _ (ih (j + 1) _ x.2 z r2 h2 he)
        exact all fs 0 _ x y ren h he
  intro cs
  induction cs with
  | nil => intro x y S ren h d t T xs he; cases he
  | cons c cs ih =>
    intro x y S ren h d t T xs he
    cases cs with
    | nil => exact one c x y S ren h he
    | cons c' cs =>
      unfold gets at h
      split at h <;> try cases h
      rename_i x1 r1 y' r2 h1 h2
      simp only [lhOf] at he
      rw [List.map_append]
      split at he
      · rename_i a ha
        injection he with he
        subst he
        exact List.mem_append_left _ (one c x.1 x1 S r1 h1 ha)
      · exact List.mem_append_right _ (ih x.2 y' S r2 h2 he)

theorem envOf_slot : ∀ (cs : List Cr) (x : CDens cs) (L : List Nat), slotsOK L cs = true → ∀ s, (envOf cs x s).isSome = true → L.contains s = true := by
  have one : ∀ (c : Cr) (x : c.den) (L : List Nat), slotsOK L [c] = true → ∀ s, (c.envOf x s).isSome = true → L.contains s = true := by
    intro c x L hs s h
    cases c with
    | dat s' T =>
      simp only [Cr.envOf] at h
      split at h
      · rename_i he; rw [Nat.eq_of_beq_eq_true he]; simpa [slotsOK] using hs
      · cases h
    | own s' e T =>
      simp only [Cr.envOf] at h
      split at h
      · rename_i he; rw [Nat.eq_of_beq_eq_true he]; simpa [slotsOK] using hs
      · cases h
    | same s1 s2 =>
      simp only [Cr.envOf] at h
      split at h
      · rename_i he; rw [Nat.eq_of_beq_eq_true he]; simpa [slotsOK] using hs
      · cases h
    | box d T => simp [Cr.envOf] at h
    | boxS d fs => simp [Cr.envOf] at h
    | map d k V => simp [Cr.envOf] at h
  intro cs
  induction cs with
  | nil => intro x L _ s h; simp [envOf] at h
  | cons c cs ih =>
    intro x L hs s h
    cases cs with
    | nil => exact one c x L hs s h
    | cons c' cs =>
      simp only [slotsOK, List.all_cons, Bool.and_eq_true] at hs
      simp only [envOf] at h
      split at h
      · rename_i a ha
        exact one c x.1 L (by simp only [slotsOK, List.all_cons, List.all_nil, Bool.and_true]; exact hs.1) s (by rw [ha]; rfl)
      · exact ih x.2 L (by simp only [slotsOK, List.all_cons, Bool.and_eq_true]; exact hs.2) s h

theorem rowF_is (d : Nat) : ∀ (fs : List BF) (j : Nat) (x : FDens fs) (n : Nat) (e : LE), rowF d j fs x n = some e → ∃ t T xs, e = .row t T xs := by
  have one : ∀ (f : BF) (nm : Nat) (x : f.den) (n : Nat) (e : LE), f.row nm x n = some e → ∃ t T xs, e = .row t T xs := by
    intro f nm x n e h
    cases f with
    | dat T => cases h
    | own t T =>
      simp only [BF.row] at h
      split at h <;> simp only [Option.some.injEq, reduceCtorEq] at h
      exact ⟨_, _, _, h.symm⟩
  intro fs
  induction fs with
  | nil => intro j x n e h; cases h
  | cons f fs ih =>
    intro j x n e h
    cases fs with
    | nil => exact one f _ x n e h
    | cons g fs =>
      simp only [rowF] at h
      split at h
      · rename_i e' he'
        injection h with h
        subst h
        exact one f _ x.1 n _ he'
      · exact ih (j + 1) x.2 n e h

/-- What a loop lays is a row, or lies at a box's name. -/
theorem lhOf_kind : ∀ (cs : List Cr) (x : CDens cs) (d : Nat) (e : LE), lhOf cs x d = some e → (∃ t T xs, e = .row t T xs) ∨ (cs.flatMap Cr.boxName).contains d = true := by
  have one : ∀ (c : Cr) (x : c.den) (d : Nat) (e : LE), c.lhOf x d = some e → (∃ t T xs, e = .row t T xs) ∨ d ∈ c.boxName := by
    intro c x d e h
    cases c with
    | dat s T => simp [Cr.lhOf] at h
    | same _ _ => simp [Cr.lhOf] at h
    | map d' k V => simp only [Cr.lhOf] at h; split at h <;> simp only [Option.some.injEq, reduceCtorEq] at h; rename_i hs; right; simp [Cr.boxName, Nat.eq_of_beq_eq_true hs]
    | own s t T => simp only [Cr.lhOf] at h; split at h <;> simp only [Option.some.injEq, reduceCtorEq] at h; exact .inl ⟨_, _, _, h.symm⟩
    | box d' T => simp only [Cr.lhOf] at h; split at h <;> simp only [Option.some.injEq, reduceCtorEq] at h; rename_i hs; right; simp [Cr.boxName, Nat.eq_of_beq_eq_true hs]
    | boxS d' fs =>
      simp only [Cr.lhOf] at h
      split at h
      · rename_i hs; right; simp [Cr.boxName, Nat.eq_of_beq_eq_true hs]
      · exact .inl (rowF_is d' fs 0 x d e h)
  intro cs
  induction cs with
  | nil => intro x d e h; cases h
  | cons c cs ih =>
    intro x d e h
    cases cs with
    | nil =>
      rw [List.contains_iff_mem]
      rcases one c x d e h with h | h
      · exact .inl h
      · exact .inr (by simpa using h)
    | cons c' cs =>
      simp only [lhOf] at h
      rw [List.flatMap_cons, List.contains_iff_mem, List.mem_append]
      split at h
      · rename_i a ha
        injection h with h
        subst h
        exact (one c x.1 d _ ha).imp id .inl
      · exact (ih x.2 d e h).imp id (fun h => .inr (List.contains_iff_mem.1 h))

theorem lhOf_noframe : ∀ (cs : List Cr) (x : CDens cs) (d : Nat) (tm : Array Value) (env : Nat → AV), lhOf cs x d ≠ some (.frame tm env) := by
  have one : ∀ (c : Cr) (x : c.den) (d : Nat) (tm : Array Value) (env : Nat → AV), c.lhOf x d ≠ some (.frame tm env) := by
    intro c x d tm env h
    cases c with
    | boxS d' fs =>
      simp only [Cr.lhOf] at h
      split at h
      · simp only [Option.some.injEq, reduceCtorEq] at h
      · obtain ⟨_, _, _, e⟩ := rowF_is d' fs 0 x d _ h
        cases e
    | _ => simp only [Cr.lhOf] at h <;> first | (cases h; done) | (split at h <;> simp only [Option.some.injEq, reduceCtorEq] at h)
  intro cs
  induction cs with
  | nil => intro x d tm env h; cases h
  | cons c cs ih =>
    intro x d tm env h
    cases cs with
    | nil => exact one c x d tm env h
    | cons c' cs =>
      simp only [lhOf] at h
      split at h
      · rename_i a ha
        injection h with h
        subst h
        exact one c x.1 d tm env ha
      · exact ih x.2 d tm env h

theorem loop_tidy {S : St} {L X : List Nat} {cs : List Cr} {x0 : CDens cs} {ren : List (Nat × Option Nat)} (hg : gets S cs = some (x0, ren)) (hc : cok S L X cs ren = true) (x : CDens cs) : Tidy (badE L X) (loopSt S L X cs x) := by
  simp only [cok, Bool.and_eq_true] at hc
  refine ⟨fun d hd => ?_, fun d e T xs hd hl => ?_, fun d tm env hd => ?_⟩
  · simp only [loopSt, Bool.and_eq_true, Bool.not_eq_true'] at hd
    exact hd.1
  · simp only [loopSt] at hd hl
    split at hd
    · rename_i e' he
      injection hd with hd
      subst hd
      have hm := lhOf_row cs x x0 S ren hg he
      obtain ⟨z, hz, rfl⟩ := List.mem_map.1 hm
      exact List.all_eq_true.1 hc.1.1.1 _ (mem_renNames hz).1
    · rename_i hnone
      cases hb : badE L X d
      · rw [hb] at hl
        simp only [Bool.not_false, Bool.true_and, Bool.not_eq_false'] at hl
        have := box_some cs x d hl
        rw [hnone] at this
        cases this
      · rfl
  · simp only [loopSt] at hd
    split at hd
    · rename_i e' he
      injection hd with hd
      subst hd
      exact absurd he (lhOf_noframe cs x d tm env)
    · rename_i hnone
      cases hb : badE L X d
      · simp only [loopSt, hb, Bool.not_false, Bool.true_and]
        cases hbx : (cs.flatMap Cr.boxName).contains d
        · rfl
        · have := box_some cs x d hbx
          rw [hnone] at this
          cases this
      · rw [hb] at hd; cases hd

/-- Names that a loop lays are the loop's own, or boxes. -/
theorem lhOf_names : ∀ (cs : List Cr) (x : CDens cs) {S : St} {L X : List Nat} {x0 : CDens cs} {ren : List (Nat × Option Nat)}, gets S cs = some (x0, ren) → cok S L X cs ren = true → ∀ d e, lhOf cs x d = some e → badE L X d = true ∨ (cs.flatMap Cr.boxName).contains d = true := by
  intro cs x S L X x0 ren hg hc d e he
  simp only [cok, Bool.and_eq_true] at hc
  rcases lhOf_kind cs x d e he with ⟨t, T, xs, rfl⟩ | h
  · have hm := lhOf_row cs x x0 S ren hg he
    obtain ⟨z, hz, rfl⟩ := List.mem_map.1 hm
    exact .inl (List.all_eq_true.1 hc.1.1.1 _ (mem_renNames hz).1)
  · exact .inr h

theorem loop_fr {L0 : List Nat} {bad : Nat → Bool} {S : St} (hT : Tidy bad S) {L X : List Nat} {cs : List Cr} {x0 : CDens cs} {ren : List (Nat × Option Nat)} (hg : gets S cs = some (x0, ren)) (hsub : ∀ n, badE L X n = true → bad n = true) (hc : cok S L X cs ren = true) (hs : slotsOK L cs = true)
    (hL : ∀ s, L.contains s = true → L0.contains s = true) (x : CDens cs) : Fr L0 bad S { loopSt S L X cs x with lock := S.lock } := by
  have hc' := hc
  simp only [cok, Bool.and_eq_true] at hc
  refine ⟨rfl, rfl, fun s hs' hst => ?_, fun d hd hst => ?_, fun d tm env he => ?_⟩
  · have hLs : L.contains s = false := by
      cases h : L.contains s
      · rfl
      · rw [hL s h] at hs'; cases hs'
    have hnone : envOf cs x s = none := by
      cases h : envOf cs x s with
      | none => rfl
      | some a => have := envOf_slot cs x L hs s (by rw [h]; rfl); rw [hLs] at this; cases this
    simp only [loopSt, hnone, hLs, cond_false]
    rw [scrub_sub hsub _ hst.1, opn_noGd_id hst.2]
  · have hbd : badE L X d = false := by
      cases h : badE L X d
      · rfl
      · have := hT.lock d hd; rw [hsub d h] at this; cases this
    have hnone : lhOf cs x d = none := by
      cases h : lhOf cs x d with
      | none => rfl
      | some e =>
        rcases lhOf_names cs x hg hc' d e h with h1 | h1
        · rw [hbd] at h1; cases h1
        · have := List.all_eq_true.1 hc.2 d (List.contains_iff_mem.1 h1)
          simp only [Bool.and_eq_true, Bool.not_eq_true'] at this
          rw [hd] at this
          cases this.2
    simp only [loopSt, hnone, hbd, cond_false]
    cases h : S.lh d with
    | none => rfl
    | some e0 => simp only [Option.map_some, le_scrub_sub hsub e0 (hst e0 h)]
  · have hd := hT.frame d tm env he
    have hbd : badE L X d = false := by
      cases h : badE L X d
      · rfl
      · have := hT.lock d hd; rw [hsub d h] at this; cases this
    have hnone : lhOf cs x d = none := by
      cases h : lhOf cs x d with
      | none => rfl
      | some e =>
        rcases lhOf_names cs x hg hc' d e h with h1 | h1
        · rw [hbd] at h1; cases h1
        · have := List.all_eq_true.1 hc.2 d (List.contains_iff_mem.1 h1)
          simp only [Bool.and_eq_true, Bool.not_eq_true'] at this
          rw [hd] at this
          cases this.2
    refine ⟨fun s => (env s).scrub (badE L X), by simp only [loopSt, hnone, hbd, cond_false, he, Option.map_some, LE.scrub], fun s hs => scrub_sub hsub _ hs.1⟩

theorem loop_out {L0 : List Nat} {bad : Nat → Bool} {S S' : St} (hT : Tidy bad S) {L X : List Nat} {cs : List Cr} {x0 : CDens cs} {ren : List (Nat × Option Nat)} (hg : gets S cs = some (x0, ren)) (hsub : ∀ n, badE L X n = true → bad n = true) (hc : cok S L X cs ren = true) (hs : slotsOK L cs = true)
    (hL : ∀ s, L.contains s = true → L0.contains s = true) (x : CDens cs) (hF : Fr L (badE L X) (loopSt S L X cs x) S') (hT' : Tidy (badE L X) S') : Fr L0 bad S { S' with lock := S.lock } ∧ Tidy bad { S' with lock := S.lock } := by
  have h0 := loop_fr (L0 := L0) hT hg hsub hc hs hL x
  have hc' := hc
  simp only [cok, Bool.and_eq_true] at hc
  have kept : ∀ d, S'.lock d = true → S'.lh d = (S.lh d).map (LE.scrub (badE L X)) := by
    intro d hlk
    rw [hF.lock] at hlk
    simp only [loopSt, Bool.and_eq_true, Bool.not_eq_true'] at hlk
    have hnone : lhOf cs x d = none := by
      cases h : lhOf cs x d with
      | none => rfl
      | some e =>
        rcases lhOf_names cs x hg hc' d e h with h1 | h1
        · rw [hlk.1] at h1; cases h1
        · rw [hlk.2] at h1; cases h1
    have e1 : (loopSt S L X cs x).lh d = (S.lh d).map (LE.scrub (badE L X)) := by simp only [loopSt, hnone, hlk.1, cond_false]
    have h2 := hF.lh d (by simp only [loopSt, hlk.1, hlk.2]; rfl) (fun e he => by
      rw [e1] at he
      simp only [Option.map_eq_some_iff] at he
      obtain ⟨e0, _, rfl⟩ := he
      exact le_scrub_idem _ e0)
    rw [h2, e1]
  refine ⟨⟨hF.n, rfl, fun s hs' hst => ?_, fun d hd hst => ?_, fun d tm env he => ?_⟩, ⟨hT.lock, fun d e T xs hd hl => ?_, fun d tm env hd => ?_⟩⟩
  · have hLs : L.contains s = false := by
      cases h : L.contains s
      · rfl
      · rw [hL s h] at hs'; cases hs'
    have h1 := h0.env s hs' hst
    simp only at h1
    have h2 := hF.env s hLs (by rw [h1]; exact ⟨scrub_sub hsub _ hst.1, hst.2⟩)
    exact h2.trans h1
  · have h1 := h0.lh d hd hst
    simp only at h1
    have hbd : badE L X d = false := by
      cases h : badE L X d
      · rfl
      · have := hT.lock d hd; rw [hsub d h] at this; cases this
    have hnb : (cs.flatMap Cr.boxName).contains d = false := by
      cases h : (cs.flatMap Cr.boxName).contains d
      · rfl
      · have := List.all_eq_true.1 hc.2 d (List.contains_iff_mem.1 h)
        simp only [Bool.and_eq_true, Bool.not_eq_true'] at this
        rw [hd] at this
        cases this.2
    have hlock : (loopSt S L X cs x).lock d = true := by simp only [loopSt, hbd, hnb]; rfl
    have h2 := hF.lh d hlock (by
      intro e he
      rw [h1] at he
      exact le_scrub_sub hsub e (hst e he))
    exact h2.trans h1
  · obtain ⟨env1, g1, g2⟩ := h0.frames d tm env he
    obtain ⟨env2, g3, g4⟩ := hF.frames d tm env1 g1
    exact ⟨env2, g3, fun s hs => (g4 s (by rw [g2 s hs]; exact ⟨scrub_sub hsub _ hs.1, hs.2⟩)).trans (g2 s hs)⟩
  · simp only at hd hl
    cases hlk : S'.lock d
    · exact hsub d (hT'.row d e T xs hd hlk)
    · -- a row of the frame: as it was
      rw [kept d hlk] at hd
      simp only [Option.map_eq_some_iff] at hd
      obtain ⟨e0, h3, h4⟩ := hd
      cases e0 <;> simp only [LE.scrub, reduceCtorEq] at h4
      exact hT.row d _ _ _ h3 hl
  · simp only at hd
    rw [kept d (hT'.frame d tm env hd)] at hd
    simp only [Option.map_eq_some_iff] at hd
    obtain ⟨e0, h3, h4⟩ := hd
    cases e0 <;> simp only [LE.scrub, reduceCtorEq] at h4
    exact hT.frame d _ _ h3

section join
variable {L0 L X boxes : List Nat} {bad : Nat → Bool} {S S' : St}

theorem pre_sat {tm : Array Value} {w : World} (h : Sat M p0 w0 S tm w) : Sat M p0 w0 (preSt S L X boxes) tm w := by
  obtain ⟨p, β, hS⟩ := h
  have hlh : ∀ d e, (preSt S L X boxes).lh d = some e → ∃ e0, S.lh d = some e0 ∧ e.live = e0.live ∧ (e0.sat p β w d → e.sat p β w d) := by
    intro d e hd
    simp only [preSt] at hd
    cases hb : badE L X d
    · rw [hb] at hd
      simp only [cond_false] at hd
      cases hx : boxes.contains d
      · rw [hx] at hd
        simp only [cond_false, Option.map_eq_some_iff] at hd
        obtain ⟨e0, h1, rfl⟩ := hd
        exact ⟨e0, h1, LE.scrub_live _ _, fun hs => LE.sat_scrub (fun _ _ => rfl) d hb e0 hs⟩
      · rw [hx] at hd
        simp only [cond_true] at hd
        split at hd
        · rename_i c hl
          injection hd with hd
          subst hd
          exact ⟨_, hl, rfl, id⟩
        · rename_i hl
          injection hd with hd
          subst hd
          exact ⟨_, hl, rfl, id⟩
        · cases hd
    · rw [hb] at hd
      exact ⟨e, hd, rfl, id⟩
  refine ⟨p, β, hS.keep, hS.agr, hS.old, hS.size, fun d e hd => ?_, fun d e b hd hl hb => ?_, fun d d' e e' b hd hl hd' hl' hb hb' => ?_, fun s => ?_⟩
  · obtain ⟨e0, h1, _, h3⟩ := hlh d e hd
    exact h3 (hS.lhs d e0 h1)
  · obtain ⟨e0, h1, h2, _⟩ := hlh d e hd
    exact hS.owns d e0 b h1 (by rw [← h2]; exact hl) hb
  · obtain ⟨e0, h1, h2, _⟩ := hlh d e hd
    obtain ⟨e1, k1, k2, _⟩ := hlh d' e' hd'
    exact hS.inj d d' e0 e1 b h1 (by rw [← h2]; exact hl) k1 (by rw [← k2]; exact hl') hb hb'
  · simp only [preSt]
    cases L.contains s
    · exact opn_val (ctx_nil _) _ _ (AV.val_scrub (fun _ _ => rfl) _ _ (hS.env s))
    · exact hS.env s

theorem pre_tidy (hT : Tidy bad S) (hsub : ∀ n, badE L X n = true → bad n = true) : Tidy (badE L X) (preSt S L X boxes) := by
  refine ⟨fun d hd => ?_, fun d e T xs hd hl => ?_, fun d tm env hd => ?_⟩
  · simp only [preSt, Bool.and_eq_true, Bool.not_eq_true'] at hd
    exact hd.1
  · simp only [preSt] at hd hl
    cases hb : badE L X d
    · rw [hb] at hd hl
      simp only [Bool.not_false, Bool.true_and, Bool.not_eq_false'] at hl
      rw [hl] at hd
      simp only [cond_false, cond_true] at hd
      split at hd
      · cases hd
      · cases hd
      · cases hd
    · rfl
  · simp only [preSt] at hd
    cases hb : badE L X d
    · rw [hb] at hd
      simp only [cond_false] at hd
      simp only [preSt, hb, Bool.not_false, Bool.true_and]
      cases hx : boxes.contains d
      · rfl
      · rw [hx] at hd
        simp only [cond_true] at hd
        split at hd <;> cases hd
    · rw [hb] at hd
      have := hT.lock d (hT.frame d tm env hd)
      rw [hsub d hb] at this
      cases this

/-- Rows and boxes of the frame, in a branch. -/
theorem pre_lh (hF : Fr L (badE L X) (preSt S L X boxes) S') {d : Nat} (hb : badE L X d = false) (hx : boxes.contains d = false) : S'.lh d = (S.lh d).map (LE.scrub (badE L X)) := by
  have e1 : (preSt S L X boxes).lh d = (S.lh d).map (LE.scrub (badE L X)) := by simp only [preSt, hb, hx, cond_false]
  have h2 := hF.lh d (by simp only [preSt, hb, hx]; rfl) (fun e he => by
    rw [e1] at he
    simp only [Option.map_eq_some_iff] at he
    obtain ⟨e0, _, rfl⟩ := he
    exact le_scrub_idem _ e0)
  rw [h2, e1]

theorem pre_env (hF : Fr L (badE L X) (preSt S L X boxes) S') {s : Nat} (hs : L.contains s = false) : S'.env s = ((S.env s).scrub (badE L X)).opn [] := by
  have e1 : (preSt S L X boxes).env s = ((S.env s).scrub (badE L X)).opn [] := by simp only [preSt, hs, cond_false]
  have h2 := hF.env s hs (by rw [e1]; exact opn_scrub _ _)
  rw [h2, e1]

theorem pre_again {cs : List Cr} (hF : Fr L (badE L X) (preSt S L X (cs.flatMap Cr.boxName)) S') (x : CDens cs) :
    (loopSt S L X cs x).env = (loopSt S' L X cs x).env ∧ (loopSt S L X cs x).lh = (loopSt S' L X cs x).lh ∧ S.n = S'.n := by
  refine ⟨?_, ?_, hF.n.symm⟩
  · funext s
    simp only [loopSt]
    cases he : envOf cs x s with
    | some a => rfl
    | none =>
      cases hL : L.contains s
      · simp only [cond_false]
        rw [pre_env hF hL, (opn_scrub (badE L X) (S.env s)).1, opn_noGd_id (opn_noGd _ _)]
      · rfl
  · funext d
    simp only [loopSt]
    cases he : lhOf cs x d with
    | some a => rfl
    | none =>
      cases hb : badE L X d
      · simp only [cond_false]
        have hnb : (cs.flatMap Cr.boxName).contains d = false := by
          cases hbx : (cs.flatMap Cr.boxName).contains d
          · rfl
          · have := box_some cs x d hbx; rw [he] at this; cases this
        rw [pre_lh hF hb hnb]
        cases S.lh d with
        | none => rfl
        | some e0 => simp only [Option.map_some, le_scrub_idem]
      · rfl

theorem pre_fr (hT : Tidy bad S) (hsub : ∀ n, badE L X n = true → bad n = true) (hL : ∀ s, L.contains s = true → L0.contains s = true) (hbx : ∀ d ∈ boxes, S.lock d = false) :
    ∀ S', Fr L (badE L X) (preSt S L X boxes) S' → Tidy (badE L X) S' → Fr L0 bad S { S' with lock := S.lock } ∧ Tidy bad { S' with lock := S.lock } := by
  intro S' hF hT'
  refine ⟨⟨hF.n, rfl, fun s hs' hst => ?_, fun d hd hst => ?_, fun d tm env he => ?_⟩, ⟨hT.lock, fun d e T xs hd hl => ?_, fun d tm env hd => ?_⟩⟩
  · have hLs : L.contains s = false := by
      cases h : L.contains s
      · rfl
      · rw [hL s h] at hs'; cases hs'
    show S'.env s = S.env s
    rw [pre_env hF hLs, scrub_sub hsub _ hst.1, opn_noGd_id hst.2]
  · have hbd : badE L X d = false := by
      cases h : badE L X d
      · rfl
      · have := hT.lock d hd; rw [hsub d h] at this; cases this
    have hnb : boxes.contains d = false := by
      cases h : boxes.contains d
      · rfl
      · have := hbx d (List.contains_iff_mem.1 h); rw [hd] at this; cases this
    show S'.lh d = S.lh d
    rw [pre_lh hF hbd hnb]
    cases h : S.lh d with
    | none => rfl
    | some e0 => simp only [Option.map_some, le_scrub_sub hsub e0 (hst e0 h)]
  · have hd := hT.frame d tm env he
    have hbd : badE L X d = false := by
      cases h : badE L X d
      · rfl
      · have := hT.lock d hd; rw [hsub d h] at this; cases this
    have hnb : boxes.contains d = false := by
      cases h : boxes.contains d
      · rfl
      · have := hbx d (List.contains_iff_mem.1 h); rw [hd] at this; cases this
    obtain ⟨env2, g3, g4⟩ := hF.frames d tm (fun s => (env s).scrub (badE L X)) (by simp only [preSt, hbd, hnb, cond_false, he, Option.map_some, LE.scrub])
    refine ⟨env2, g3, fun s hs => ?_⟩
    have e1 := scrub_sub hsub _ hs.1
    exact (g4 s (by simp only [e1]; exact ⟨e1, hs.2⟩)).trans e1
  · simp only at hd hl
    cases hlk : S'.lock d
    · exact hsub d (hT'.row d e T xs hd hlk)
    · rw [hF.lock] at hlk
      simp only [preSt, Bool.and_eq_true, Bool.not_eq_true'] at hlk
      rw [pre_lh hF hlk.1 hlk.2] at hd
      simp only [Option.map_eq_some_iff] at hd
      obtain ⟨e0, h3, h4⟩ := hd
      cases e0 <;> simp only [LE.scrub, reduceCtorEq] at h4
      exact hT.row d _ _ _ h3 hl
  · simp only at hd
    have hlk := hT'.frame d tm env hd
    rw [hF.lock] at hlk
    simp only [preSt, Bool.and_eq_true, Bool.not_eq_true'] at hlk
    rw [pre_lh hF hlk.1 hlk.2] at hd
    simp only [Option.map_eq_some_iff] at hd
    obtain ⟨e0, h3, h4⟩ := hd
    cases e0 <;> simp only [LE.scrub, reduceCtorEq] at h4
    exact hT.frame d _ _ h3

theorem join_fr (hT : Tidy bad S) (hsub : ∀ n, badE L X n = true → bad n = true) (hL : ∀ s, L.contains s = true → L0.contains s = true) {cs : List Cr} (hs : slotsOK L cs = true) (hbx : ∀ d ∈ cs.flatMap Cr.boxName, S.lock d = false)
    {x : CDens cs} {ren : List (Nat × Option Nat)} (hg : gets S' cs = some (x, ren)) (hc : cok S' L X cs ren = true) : Fr L0 bad S { loopSt S L X cs x with lock := S.lock } ∧ Tidy bad { loopSt S L X cs x with lock := S.lock } := by
  refine ⟨⟨rfl, rfl, fun s hs' hst => ?_, fun d hd hst => ?_, fun d tm env he => ?_⟩, ⟨hT.lock, fun d e T xs hd hl => ?_, fun d tm env hd => ?_⟩⟩
  · have hLs : L.contains s = false := by
      cases h : L.contains s
      · rfl
      · rw [hL s h] at hs'; cases hs'
    have hnone : envOf cs x s = none := by
      cases h : envOf cs x s with
      | none => rfl
      | some a => have := envOf_slot cs x L hs s (by rw [h]; rfl); rw [hLs] at this; cases this
    simp only [loopSt, hnone, hLs, cond_false]
    rw [scrub_sub hsub _ hst.1, opn_noGd_id hst.2]
  · have hbd : badE L X d = false := by
      cases h : badE L X d
      · rfl
      · have := hT.lock d hd; rw [hsub d h] at this; cases this
    have hnone : lhOf cs x d = none := by
      cases h : lhOf cs x d with
      | none => rfl
      | some e =>
        rcases lhOf_names cs x hg hc d e h with h1 | h1
        · rw [hbd] at h1; cases h1
        · have := hbx d (List.contains_iff_mem.1 h1)
          rw [hd] at this
          cases this
    simp only [loopSt, hnone, hbd, cond_false]
    cases h : S.lh d with
    | none => rfl
    | some e0 => simp only [Option.map_some, le_scrub_sub hsub e0 (hst e0 h)]
  · have hd := hT.frame d tm env he
    have hbd : badE L X d = false := by
      cases h : badE L X d
      · rfl
      · have := hT.lock d hd; rw [hsub d h] at this; cases this
    have hnone : lhOf cs x d = none := by
      cases h : lhOf cs x d with
      | none => rfl
      | some e =>
        rcases lhOf_names cs x hg hc d e h with h1 | h1
        · rw [hbd] at h1; cases h1
        · have := hbx d (List.contains_iff_mem.1 h1)
          rw [hd] at this
          cases this
    refine ⟨fun s => (env s).scrub (badE L X), by simp only [loopSt, hnone, hbd, cond_false, he, Option.map_some, LE.scrub], fun s hs => scrub_sub hsub _ hs.1⟩
  · simp only [loopSt] at hd hl
    split at hd
    · rename_i e' he
      injection hd with hd
      subst hd
      have hm := lhOf_row cs x x S' ren hg he
      obtain ⟨z, hz, rfl⟩ := List.mem_map.1 hm
      simp only [cok, Bool.and_eq_true] at hc
      exact hsub _ (List.all_eq_true.1 hc.1.1.1 _ (mem_renNames hz).1)
    · cases hb : badE L X d
      · rw [hb] at hd
        simp only [cond_false, Option.map_eq_some_iff] at hd
        obtain ⟨e0, h3, h4⟩ := hd
        cases e0 <;> simp only [LE.scrub, reduceCtorEq] at h4
        exact hT.row d _ _ _ h3 hl
      · rw [hb] at hd; cases hd
  · simp only [loopSt] at hd
    split at hd
    · rename_i e' he
      injection hd with hd
      subst hd
      exact absurd he (lhOf_noframe cs x d tm env)
    · cases hb : badE L X d
      · rw [hb] at hd
        simp only [cond_false, Option.map_eq_some_iff] at hd
        obtain ⟨e0, h3, h4⟩ := hd
        cases e0 <;> simp only [LE.scrub, reduceCtorEq] at h4
        exact hT.frame d _ _ h3
      · rw [hb] at hd; cases hd
end join

/-- What a call that is walked through leaves. -/
def InlOK (P : Program) (inl : Inl) : Prop := ∀ f G, inl f = some G → callable P f = true ∧ ∀ (M : Nat → Prop) (p0 : PH) (w0 : World) (S : St) (avs : List AV) (vs : List Value) (d : Nat) (K : St → Prop) (tm : Array Value) (w : World) (p : PH) (β : Nat → Value) (L : List Nat) (bad : Nat → Bool),
  G avs S d K → SatB M p0 w0 S tm w p β → vs.length = avs.length → (∀ (i : Nat) x v, avs[i]? = some x → vs[i]? = some v → x.val p β tm v ∧ x.noGd = true) → Tidy bad S → Named L bad → (∀ n, far n = true → bad n = true) → L.contains d = true → d < S.n →
  Calls P f vs.toArray w fun e w' => ∃ v S3, e = .returned v ∧ K S3 ∧ Fr L bad S S3 ∧ Tidy bad S3 ∧ Sat M p0 w0 S3 (tm.setIfInBounds d v) w'

theorem vcOps_sound {ss : Specs} (hss : ss.ok P) {inl : Inl} (hinl : InlOK P inl) {ops : Array Oper} {L : List Nat} {bad : Nat → Bool} (hN : Named L bad) (h9 : ∀ n, far n = true → bad n = true) {Q : Exit → Act → World → Prop} : ∀ (os : List Oper) (S : St) (K : St → Prop) (a : Act) (w : World),
    (∀ o ∈ os, ∀ d, o.dst = some d → L.contains d = true) → Tidy bad S → Sat M p0 w0 S a.tmps w → vcOps P ss inl ops os S K →
    (∀ a' w' S', K S' → Fr L bad S S' → Tidy bad S' → Sat M p0 w0 S' a'.tmps w' → a'.defers = a.defers → Q .normal a' w') → wpList P ops Q os a w
  | [], S, K, a, w, _, hT, hS, h, hQ => wpList_nil (hQ a w S h (Fr.refl _ _ _) hT hS rfl)
  | o :: os, S, K, a, w, hd, hT, hS, h, hQ => by
    simp only [vcOps] at h
    split at h
    · rename_i G avs d ho
      unfold opInl at ho
      split at ho <;> try cases ho
      rename_i d' x args ts hg hdst hop
      split at ho <;> try cases ho
      rename_i f c1 c2 hfn
      split at ho <;> try cases ho
      rename_i G' hG
      split at ho <;> simp only [Option.some.injEq, Prod.mk.injEq, reduceCtorEq] at ho
      rename_i hdn
      obtain ⟨rfl, rfl, rfl⟩ := ho
      obtain ⟨hcall, hok⟩ := hinl f G' hG
      obtain ⟨p, β, hB⟩ := hS
      have hv := look_val hB (ctx_nil _) x
      rw [hfn] at hv
      obtain ⟨v1, v2, e1, k1, k2⟩ := hv
      obtain ⟨l1, m1⟩ := locs_vals (p := p) (tm := a.tmps) c1 v1.toList k1
      obtain ⟨l2, m2⟩ := locs_vals (p := p) (tm := a.tmps) c2 v2.toList k2
      have hc := hok M p0 w0 S _ (v1.toList ++ args.toList.map a.eval ++ v2.toList) d' _ a.tmps w p β L bad h hB (by simp at l1 l2 ⊢; omega) (fun i y v hy hv => by
        have noloc : ∀ (c : List (Nat × Nat)) (i : Nat) (y : AV), (c.map fun x => AV.loc x.1 x.2)[i]? = some y → y.noGd = true := by
          intro c i y hy
          rw [List.getElem?_map] at hy
          obtain ⟨z, _, rfl⟩ := Option.map_eq_some_iff.1 hy
          rfl
        have hlen1 : (c1.map fun x => AV.loc x.1 x.2).length = v1.toList.length := by simp at l1 ⊢; omega
        have hlen2 : (args.toList.map (S.look [])).length = (args.toList.map a.eval).length := by simp
        rw [List.append_assoc] at hy hv
        rcases Nat.lt_or_ge i v1.toList.length with hi | hi
        · rw [List.getElem?_append_left (by omega)] at hy
          rw [List.getElem?_append_left hi] at hv
          exact ⟨m1 i y v hy hv, noloc _ _ _ hy⟩
        · rw [List.getElem?_append_right (by omega), hlen1] at hy
          rw [List.getElem?_append_right hi] at hv
          generalize i - v1.toList.length = j at hy hv
          rcases Nat.lt_or_ge j (args.toList.map a.eval).length with hj | hj
          · rw [List.getElem?_append_left (by omega), List.getElem?_map] at hy
            rw [List.getElem?_append_left hj, List.getElem?_map] at hv
            obtain ⟨z, hz, rfl⟩ := Option.map_eq_some_iff.1 hy
            rw [hz] at hv
            simp only [Option.map_some, Option.some.injEq] at hv
            subst hv
            exact ⟨look_val hB (ctx_nil _) z, opn_noGd _ _⟩
          · rw [List.getElem?_append_right (by omega), hlen2] at hy
            rw [List.getElem?_append_right hj] at hv
            exact ⟨m2 _ y v hy hv, noloc _ _ _ hy⟩) hT hN h9 (hd o (by simp) d' hdst) (blt_lt hdn)
      refine wpList_plain hg (fun K' hK => ?_)
      unfold Oper.wp
      rw [run_callv hcall hop e1]
      simp only [Oper.upon_enter]
      have e2 : (v1 ++ Array.map a.eval args ++ v2) = (v1.toList ++ args.toList.map a.eval ++ v2.toList).toArray := by
        apply Array.toList_inj.1; simp
      rw [e2]
      refine hc.mono ?_
      rintro en w' ⟨v, S3, rfl, h1, h2, h3, h4⟩
      refine hK _ _ (vcOps_sound hss hinl hN h9 os S3 K (a.put o.dst v) w' (fun o' ho' => hd o' (by simp [ho'])) h3 (by rw [hdst]; exact h4) h1 (fun a' w'' S' g1 g2 g3 g4 g5 => hQ a' w'' S' g1 (h2.trans g2) g3 g4 (g5.trans (by rw [hdst]; rfl))))
    · split at h
      · rename_i ps S1 h1
        obtain ⟨hp, hr⟩ := conj_elim _ _ h
        have hfr := fr_evOp (L := L) hN hT (hd o (by simp)) h1
        exact evOp_sound hss h1 hp hS (fun a' w' hS' hdf => vcOps_sound hss hinl hN h9 os S1 K a' w' (fun o' ho' => hd o' (by simp [ho'])) hfr.2 hS' hr (fun a'' w'' S' g1 g2 g3 g4 g5 => hQ a'' w'' S' g1 (hfr.1.trans g2) g3 g4 (g5.trans hdf)))
      · exact h.elim

theorem vc_sound {ss : Specs} (hss : ss.ok P) {inl : Inl} (hinl : InlOK P inl) {ann : Nat → Option LoopGen} {ds : List Deferred} : ∀ (c : Code) (L : List Nat) (bad : Nat → Bool) (S : St) (K : St → Prop) (X : Nat → St → Prop) (R : St → Prop) (a : Act) (w : World),
    vc P ss inl ann c S K X R → Named L bad → (∀ n, far n = true → bad n = true) → (∀ s, (dsts ann c).contains s = true → L.contains s = true) → Tidy bad S → Sat M p0 w0 S a.tmps w → a.defers = ds →
    c.wp P (Post M p0 w0 ds L bad S K X R) a w := by
  intro c
  induction c with
  | skip => intro L bad S K X R a w h _ _ _ hT hS hd; exact wp_skip ⟨S, h, Fr.refl _ _ _, hT, hS, hd⟩
  | exit id => intro L bad S K X R a w h _ _ _ hT hS hd; exact wp_exit ⟨S, h, Fr.refl _ _ _, hT, hS, hd⟩
  | ret => intro L bad S K X R a w h _ _ _ hT hS hd; exact wp_ret ⟨S, h, Fr.refl _ _ _, hT, hS, hd⟩
  | region id ops draw =>
    intro L bad S K X R a w h hN h9 hL hT hS hd
    simp only [vc] at h
    split at h
    · rename_i hdr
      simp only [Bool.and_eq_true, Bool.not_eq_true'] at hdr
      rw [hdr.1]
      refine wp_region_list (vcOps_sound hss hinl hN h9 ops.toList S _ a w (fun o ho d hdst => hL d (by
        simp only [dsts, List.contains_iff_mem]
        exact List.mem_filterMap.2 ⟨o, ho, hdst⟩)) hT hS h (fun a' w' S' h1 h2 h3 h4 h5 => ?_))
      have hcl := fr_clean (L := L) h3
      exact ⟨S'.clean, h1, h2.trans hcl.1, hcl.2, clean_sound h4, h5.trans hd⟩
    cases draw
    · simp only [Bool.false_eq_true, if_false] at h
      split at h
      · rename_i ps S' hr
        obtain ⟨h1, h2⟩ := conj_elim _ _ h
        have hfr := fr_run (L := L) hN ops.toList S S' ps hT (fun o ho d hdst => hL d (by
          simp only [dsts, List.contains_iff_mem]
          exact List.mem_filterMap.2 ⟨o, ho, hdst⟩)) hr
        have hcl := fr_clean (L := L) hfr.2
        refine wp_region_list (run_sound hss ops.toList S S' ps a w hr h1 hS (fun a' w' h3 h4 => ?_))
        exact ⟨S'.clean, h2, hfr.1.trans hcl.1, hcl.2, clean_sound h3, h4.trans hd⟩
      · exact h.elim
    · simp only [if_true] at h
      split at h
      · rename_i ps S' hr
        obtain ⟨h1, h2⟩ := conj_elim _ _ h
        have hfr := fr_draw (L := L) hN hT (fun o ho d hdst => hL d (by
          simp only [dsts, List.contains_iff_mem]
          exact List.mem_filterMap.2 ⟨o, ho, hdst⟩)) hr
        have hcl := fr_clean (L := L) hfr.2
        refine region_draw hss hr h1 (clean_sound hS) (fun a' w' h3 h4 => ?_)
        exact ⟨S'.clean, h2, hfr.1.trans hcl.1, hcl.2, clean_sound h3, h4.trans hd⟩
      · exact h.elim
  | seq c1 c2 ih1 ih2 =>
    intro L bad S K X R a w h hN h9 hL hT hS hd
    refine wp_seq (wp_mono (ih1 L bad S _ X R a w h hN h9 (fun s hs => hL s (by simp only [dsts]; exact contains_append_left s hs)) hT hS hd) ?_)
    intro e a' w' hq
    cases e with
    | normal =>
      obtain ⟨S1, h1, h2, h3, h4, h5⟩ := hq
      refine wp_mono (ih2 L bad S1 K X R a' w' h1 hN h9 (fun s hs => hL s (by simp only [dsts]; exact contains_append_right s hs)) h3 h4 h5) ?_
      intro e a'' w'' hq
      cases e with
      | normal => obtain ⟨S2, k1, k2, k3⟩ := hq; exact ⟨S2, k1, h2.trans k2, k3⟩
      | exit i => obtain ⟨S2, k1, k2, k3⟩ := hq; exact ⟨S2, k1, h2.trans k2, k3⟩
      | ret => obtain ⟨S2, k1, k2, k3⟩ := hq; exact ⟨S2, k1, h2.trans k2, k3⟩
      | _ => exact hq.elim
    | exit i => exact hq
    | ret => exact hq
    | _ => exact hq.elim
  | cond c1 x y ihx ihy =>
    have core : ∀ (L : List Nat) (bad : Nat → Bool) (S : St) (K : St → Prop) (X : Nat → St → Prop) (R : St → Prop) (a : Act) (w : World), vcCond S c1 (vc P ss inl ann x S K X R) (vc P ss inl ann y S K X R) → Named L bad → (∀ n, far n = true → bad n = true) →
        (∀ s, (dsts ann x ++ dsts ann y).contains s = true → L.contains s = true) → Tidy bad S → Sat M p0 w0 S a.tmps w → a.defers = ds → (Code.cond c1 x y).wp P (Post M p0 w0 ds L bad S K X R) a w := by
     intro L bad S K X R a w h hN h9 hL hT hS hd
     unfold vcCond at h
     split at h
     · rename_i t ht
       have hv : a.eval c1 = .bool t := by
         obtain ⟨p, β, hB⟩ := hS
         have := look_val hB (ctx_nil _) c1
         rw [ht] at this
         exact this
       cases ht' : t
       · exact wp_cond_false (by rw [hv, ht']) (ihy L bad S K X R a w (h.2 ht') hN h9 (fun s hs => hL s (contains_append_right s hs)) hT hS hd)
       · exact wp_cond_true (by rw [hv, ht']) (ihx L bad S K X R a w (h.1 ht') hN h9 (fun s hs => hL s (contains_append_left s hs)) hT hS hd)
     · rename_i t f ht
       have hv : ∃ b, a.eval c1 = .bool b ∧ (b = true → t) ∧ (b = false → f) := by
         obtain ⟨p, β, hB⟩ := hS
         have := look_val hB (ctx_nil _) c1
         rw [ht] at this
         exact this
       obtain ⟨b, hv, h1, h2⟩ := hv
       cases hb : b
       · exact wp_cond_false (by rw [hv, hb]) (ihy L bad S K X R a w (h.2 (h2 hb)) hN h9 (fun s hs => hL s (contains_append_right s hs)) hT hS hd)
       · exact wp_cond_true (by rw [hv, hb]) (ihx L bad S K X R a w (h.1 (h1 hb)) hN h9 (fun s hs => hL s (contains_append_left s hs)) hT hS hd)
     · exact h.elim
    intro L bad S K X R a w h hN h9 hL hT hS hd
    simp only [vc] at h
    split at h
    · exact core L bad S K X R a w h hN h9 (fun s hs => hL s (by simp only [dsts]; exact contains_append_right s hs)) hT hS hd
    · rename_i G hG
      split at h
      case h_2 => exact h.elim
      rename_i g hgg
      generalize G.A g.1 = A at h
      have hL' : ∀ s, (G.wr ++ (dsts ann x ++ dsts ann y)).contains s = true → L.contains s = true := fun s hs => hL s (by simpa only [dsts, wrOf, hG] using hs)
      generalize hLg : G.wr ++ (dsts ann x ++ dsts ann y) = L1 at h hL'
      unfold vcJoin at h
      split at h
      case isFalse => exact h.elim
      rename_i hck
      simp only [Bool.and_eq_true] at hck
      obtain ⟨⟨hbx, hc2⟩, hc3, hsi⟩ := hck
      have hbx : ∀ d ∈ A.cs.flatMap Cr.boxName, S.lock d = false := fun d hd => by simpa using List.all_eq_true.1 hbx d hd
      obtain ⟨hbody, hafter⟩ := h
      have h9i : ∀ n, far n = true → badE L1 (joinX S A.cs) n = true := fun n hn => by
        simp only [badE, Bool.or_eq_true]
        exact .inr hn
      have hsub : ∀ n, badE L1 (joinX S A.cs) n = true → bad n = true := badE_sub hN h9 hL' (fun n hn => by
        unfold joinX at hn
        split at hn
        · rename_i x0 ren hg
          exact gets_bad hT (L := L1) (X := renNames ren) h9 (fun s hs => by
            have := hN s (hL' s hs) 0
            simpa [resName] using this) A.cs x0 ren hg hc3 n hn
        · cases hn)
      have hpre := pre_fr (boxes := A.cs.flatMap Cr.boxName) hT hsub hL' hbx
      refine wp_mono (core L1 (badE L1 (joinX S A.cs)) _ _ _ _ a w hbody (named_badE hc2) h9i (fun s hs => by rw [← hLg]; exact contains_append_right s hs) (pre_tidy hT hsub) (pre_sat hS) hd) ?_
      intro e a' w' hq
      cases e with
      | normal =>
        obtain ⟨S', h1, h2, h3, h4, h5⟩ := hq
        split at h1
        · exact h1.elim
        rename_i x' ren' hg'
        split at h1
        case isFalse => exact h1.elim
        rename_i hck'
        obtain ⟨p, β, hB⟩ := h4
        have hb := rebase hB hg' hck' hsi
        have hag := pre_again (cs := A.cs) h2 x'
        have hj := join_fr (L0 := L) hT hsub hL' hc3 hbx hg' hck'
        exact ⟨_, hafter x' h1, hj.1, hj.2, Sat.congr ⟨p, _, hb⟩ hag.1 hag.2.1 hag.2.2, h5⟩
      | exit i =>
        obtain ⟨S', h1, h2, h3, h4, h5⟩ := hq
        have := hpre S' h2 h3
        exact ⟨_, h1, this.1, this.2, Sat.congr h4 rfl rfl rfl, h5⟩
      | ret =>
        obtain ⟨S', h1, h2, h3, h4, h5⟩ := hq
        have := hpre S' h2 h3
        exact ⟨_, h1, this.1, this.2, Sat.congr h4 rfl rfl rfl, h5⟩
      | _ => exact hq.elim
  | block id c ih =>
    intro L bad S K X R a w h hN h9 hL hT hS hd
    refine wp_block (wp_mono (ih L bad S K _ R a w h hN h9 hL hT hS hd) ?_)
    intro e a' w' hq
    cases e with
    | normal => exact hq
    | exit i =>
      obtain ⟨S', h1, h2⟩ := hq
      simp only [Exit.inBlock]
      cases hb : Nat.beq i id
      · rw [hb] at h1
        rw [if_neg (fun e => by subst e; simp at hb)]
        exact ⟨S', h1, h2⟩
      · rw [hb] at h1
        rw [if_pos (Nat.eq_of_beq_eq_true hb)]
        exact ⟨S', h1, h2⟩
    | ret => exact hq
    | _ => exact hq.elim
  | loop c ih =>
    intro L bad S K X R a w h hN h9 hL hT hS hd
    simp only [vc] at h
    split at h
    · rename_i G hG
      split at h
      case h_2 => exact h.elim
      rename_i g hgg
      generalize G.A g.1 = A at h
      unfold vcLoop at h
      split at h
      · exact h.elim
      rename_i x0 ren hg
      split at h
      case isFalse => exact h.elim
      rename_i hck
      simp only [Bool.and_eq_true] at hck
      obtain ⟨⟨hc1, hc2⟩, hc3, hsi⟩ := hck
      obtain ⟨hi0, hround⟩ := h
      have hNi := named_badE (X := renNames ren) hc2
      have h9i : ∀ n, far n = true → badE (G.wr ++ dsts ann c) (renNames ren) n = true := fun n hn => by
        simp only [badE, Bool.or_eq_true]
        exact .inr hn
      have hsub : ∀ n, badE (G.wr ++ dsts ann c) (renNames ren) n = true → bad n = true := badE_sub hN h9 (fun s hs => hL s (by simpa only [dsts, wrOf, hG] using hs)) (fun n hn => by
        exact gets_bad hT (L := G.wr ++ dsts ann c) (X := renNames ren) h9 (fun s hs => by
          have := hN s (hL s (by simpa only [dsts, wrOf, hG] using hs)) 0
          simpa [resName] using this) A.cs x0 ren hg hc3 n hn)
      have hTi : ∀ x, Tidy (badE (G.wr ++ dsts ann c) (renNames ren)) (loopSt S (G.wr ++ dsts ann c) (renNames ren) A.cs x) := fun x => loop_tidy hg hc1 x
      have hfin : ∀ (x : CDens A.cs) (S' : St), Fr (G.wr ++ dsts ann c) (badE (G.wr ++ dsts ann c) (renNames ren)) (loopSt S (G.wr ++ dsts ann c) (renNames ren) A.cs x) S' → Tidy (badE (G.wr ++ dsts ann c) (renNames ren)) S' →
          Fr L bad S { S' with lock := S.lock } ∧ Tidy bad { S' with lock := S.lock } := fun x S' hF hT' =>
        loop_out hT hg hsub hc1 hc3 (fun s hs => hL s (by simpa only [dsts, wrOf, hG] using hs)) x hF hT'
      have hstart : Sat M p0 w0 (loopSt S (G.wr ++ dsts ann c) (renNames ren) A.cs x0) a.tmps w := by
        obtain ⟨p, β, hB⟩ := hS
        exact ⟨p, _, rebase hB hg hc1 hsi⟩
      refine wp_loop_ghost (fun n a w => ∃ x, A.inv x ∧ A.mu x = n ∧ Sat M p0 w0 (loopSt S (G.wr ++ dsts ann c) (renNames ren) A.cs x) a.tmps w ∧ a.defers = ds) (A.mu x0) ⟨x0, hi0, rfl, hstart, hd⟩ ?_
      rintro n a1 w1 ⟨x, hix, rfl, hSx, hdx⟩
      refine wp_mono (ih (G.wr ++ dsts ann c) (badE (G.wr ++ dsts ann c) (renNames ren)) _ _ _ _ a1 w1 (hround x hix) hNi h9i (fun s hs => contains_append_right s hs) (hTi x) hSx hdx) ?_
      intro e a' w' hq
      cases e with
      | normal =>
        obtain ⟨S', h1, h2, h3, h4, h5⟩ := hq
        split at h1
        · exact h1.elim
        rename_i x' ren' hg'
        split at h1
        case isFalse => exact h1.elim
        rename_i hck'
        obtain ⟨p, β, hB⟩ := h4
        have hb := rebase hB hg' hck' hsi
        have hag := loopSt_again h2 (x' := x') (fun y s => env_some A.cs x y s) (fun y d => lh_some A.cs x y d) (fun d hd => box_some A.cs x d hd)
        exact ⟨_, h1.2, x', h1.1, rfl, Sat.congr ⟨p, _, hb⟩ hag.1.symm hag.2.1.symm (by rw [hag.2.2]; rfl), h5⟩
      | exit i =>
        obtain ⟨S', h1, h2, h3, h4, h5⟩ := hq
        have := hfin x S' h2 h3
        exact ⟨_, h1, this.1, this.2, Sat.congr h4 rfl rfl rfl, h5⟩
      | ret =>
        obtain ⟨S', h1, h2, h3, h4, h5⟩ := hq
        have := hfin x S' h2 h3
        exact ⟨_, h1, this.1, this.2, Sat.congr h4 rfl rfl rfl, h5⟩
      | _ => exact hq.elim
    · exact h.elim
  | _ => intro L bad S K X R a w h; exact h.elim
end
end Go.Proofs.Ytgnamdjmjkeodaa
