/- The engine, part 26: statements whose order is drawn: the walk in the order of the text, and what is checked. -/
import Derived.Test.YtgnamdjmjkeodaaE25
namespace Go.Proofs.Ytgnamdjmjkeodaa
open Go

def lk : List (Nat × AV) → Nat → Option AV
  | [], _ => none
  | (d, a) :: rs, s => bif Nat.beq s d then some a else lk rs s

/-- S with the slots of rs laid over. -/
def stD (S : St) (rs : List (Nat × AV)) : St := { S with env := fun s => match lk rs s with | some a => a | none => S.env s }

/-- A value operation, guard and all: the slot and what is in it. -/
def evD (P : Program) (ss : Specs) (ops : Array Oper) (S : St) (o : Oper) : Option (List Prop × Nat × AV) :=
  match o.dst with
  | none => none
  | some d => match o.guard with
    | none => match evA P ss S [] o with
      | some (ps, r) => some (ps, d, r.opn [])
      | none => none
    | some (j, b) => match (ops[j]?).bind (·.dst) with
      | some g => match evA P ss S (guardCtx S 4 g b) o with
        | some (ps, r) => some (ps.map (impl (guardProps S (guardCtx S 4 g b) (guardCtx S 4 g b))), d, .gd g b (r.opn []))
        | none => none
      | none => none

def runD (P : Program) (ss : Specs) (ops : Array Oper) (S : St) : List Oper → List (Nat × AV) → Option (List Prop × List (Nat × AV))
  | [], rs => some ([], rs)
  | o :: os, rs => match evD P ss ops (stD S rs) o with
    | some (ps, d, r) => if Nat.blt d S.n then (match runD P ss ops S os (rs ++ [(d, r)]) with
        | some (qs, rs') => some (ps ++ qs, rs')
        | none => none) else none
    | none => none

def mask (L : Nat → Bool) : Nat → List (Nat × AV) → List (Nat × AV)
  | _, [] => []
  | i, (d, a) :: rs => (d, bif L i then a else .any) :: mask L (i + 1) rs

def edgesOf (o : Oper) : List Nat := o.after.toList.filterMap fun e => if Region.binds .any e then some e.on else none

def dstAt (ops : Array Oper) (j : Nat) : Option Nat := (ops[j]?).bind (·.dst)

def opOK (ops : Array Oper) (k i : Nat) (o : Oper) : Bool :=
  (edgesOf o).all (fun e => Nat.blt e i) &&
  (o.op.operands.toList.all fun x => match x with
    | .tmp t => (List.range k).all fun j => match dstAt ops j with
      | some d => !Nat.beq d t || (edgesOf o).contains j
      | none => true
    | _ => true) &&
  (match o.guard with
    | some (j, _) => (edgesOf o).contains j
    | none => true)

/-- Of each operation, which ones it waits for, avs bits. -/
def waits : List Oper → List Nat → List Nat
  | [], acc => acc
  | o :: os, acc => waits os (acc ++ [(edgesOf o).foldl (fun m e => m ||| (1 <<< e) ||| acc.getD e 0) 0])

def distinctD : List Nat → Bool
  | [] => true
  | d :: ds => ds.all (fun e => !Nat.beq e d) && distinctD ds

section
variable {P : Program} {ss : Specs} {ops : Array Oper} {S : St}

theorem mask_get (L : Nat → Bool) : ∀ (k : Nat) (rs : List (Nat × AV)) (i : Nat), (mask L k rs)[i]? = rs[i]?.map fun x => (x.1, bif L (k + i) then x.2 else .any)
  | _, [], _ => by simp [mask]
  | k, (d, a) :: rs, 0 => by simp [mask]
  | k, (d, a) :: rs, i + 1 => by
    simp only [mask, List.getElem?_cons_succ]
    rw [mask_get L (k + 1) rs i]
    congr 1
    funext x
    rw [show k + 1 + i = k + (i + 1) by omega]

theorem beq_ne {a b : Nat} (h : a ≠ b) : Nat.beq a b = false := by
  cases hb : Nat.beq a b
  · rfl
  · exact absurd (Nat.eq_of_beq_eq_true hb) h

/-- Each slot once. -/
def Once (rs : List (Nat × AV)) : Prop := ∀ (i j s : Nat) (a b : AV), rs[i]? = some (s, a) → rs[j]? = some (s, b) → i = j

theorem lk_get : ∀ (rs : List (Nat × AV)) (i s : Nat) (a : AV), Once rs → rs[i]? = some (s, a) → lk rs s = some a
  | [], _, _, _, _, h => by simp at h
  | (d, b) :: rs, 0, s, a, _, h => by
    simp only [List.getElem?_cons_zero, Option.some.injEq, Prod.mk.injEq] at h
    obtain ⟨rfl, rfl⟩ := h
    simp [lk]
  | (d, b) :: rs, i + 1, s, a, ho, h => by
    have hne : s ≠ d := by
      intro e
      subst e
      have := ho 0 (i + 1) s b a (by simp) h
      omega
    have hb : Nat.beq s d = false := beq_ne hne
    simp only [lk, hb, cond_false]
    refine lk_get rs i s a (fun i' j' s' a' b' h1 h2 => ?_) (by simpa using h)
    have := ho (i' + 1) (j' + 1) s' a' b' (by simpa using h1) (by simpa using h2)
    omega

theorem lk_none : ∀ (rs : List (Nat × AV)) (s : Nat), (∀ (i : Nat) a, rs[i]? ≠ some (s, a)) → lk rs s = none
  | [], _, _ => rfl
  | (d, b) :: rs, s, h => by
    have hne : s ≠ d := by
      intro e
      subst e
      exact h 0 b (by simp)
    have hb : Nat.beq s d = false := beq_ne hne
    simp only [lk, hb, cond_false]
    exact lk_none rs s (fun i a e => h (i + 1) a (by simpa using e))

theorem runD_spec : ∀ (os : List Oper) (rs0 rs : List (Nat × AV)) (ps : List Prop), runD P ss ops S os rs0 = some (ps, rs) →
    ∃ rs1, rs = rs0 ++ rs1 ∧ rs1.length = os.length ∧ ∀ (i : Nat) o, os[i]? = some o → ∃ qs d r, rs1[i]? = some (d, r) ∧ evD P ss ops (stD S (rs0 ++ rs1.take i)) o = some (qs, d, r) ∧ d < S.n ∧ ∀ q ∈ qs, q ∈ ps
  | [], rs0, rs, ps, h => by
    simp only [runD, Option.some.injEq, Prod.mk.injEq] at h
    obtain ⟨_, rfl⟩ := h
    exact ⟨[], by simp, rfl, fun i o h => by simp at h⟩
  | o :: os, rs0, rs, ps, h => by
    unfold runD at h
    split at h <;> try cases h
    rename_i qs d r he
    split at h <;> try cases h
    rename_i hd
    split at h <;> simp only [Option.some.injEq, Prod.mk.injEq, reduceCtorEq] at h
    obtain ⟨rfl, rfl⟩ := h
    rename_i ps2 rs2 h2
    obtain ⟨rs1, rfl, hl, hi⟩ := runD_spec os _ _ _ h2
    refine ⟨(d, r) :: rs1, by simp, by simp [hl], fun i o' ho => ?_⟩
    cases i with
    | zero =>
      simp only [List.getElem?_cons_zero, Option.some.injEq] at ho
      subst ho
      exact ⟨qs, d, r, by simp, by simpa using he, blt_lt hd, fun q hq => List.mem_append_left _ hq⟩
    | succ i =>
      obtain ⟨qs', d', r', k1, k2, k3, k4⟩ := hi i o' (by simpa using ho)
      refine ⟨qs', d', r', by simpa using k1, ?_, k3, fun q hq => List.mem_append_right _ (k4 q hq)⟩
      simpa using k2

theorem evD_dst {o : Oper} {S : St} {qs : List Prop} {d : Nat} {r : AV} (h : evD P ss ops S o = some (qs, d, r)) : o.dst = some d := by
  unfold evD at h
  split at h <;> try cases h
  rename_i d' hd
  split at h
  · split at h <;> simp only [Option.some.injEq, Prod.mk.injEq, reduceCtorEq] at h
    rw [hd, h.2.1]
  · split at h <;> try cases h
    split at h <;> simp only [Option.some.injEq, Prod.mk.injEq, reduceCtorEq] at h
    rw [hd, h.2.1]

/-- What a value operation leaves: nothing that hangs on a guard; or under its own guard. -/
theorem evD_shape {o : Oper} {S : St} {qs : List Prop} {d : Nat} {r : AV} (h : evD P ss ops S o = some (qs, d, r)) :
    r.noGd = true ∨ ∃ j b g x, o.guard = some (j, b) ∧ dstAt ops j = some g ∧ r = .gd g b x ∧ x.noGd = true := by
  unfold evD at h
  split at h <;> try cases h
  split at h
  · split at h <;> simp only [Option.some.injEq, Prod.mk.injEq, reduceCtorEq] at h
    left
    rw [← h.2.2]
    exact opn_noGd _ _
  · rename_i j b hg
    split at h <;> try cases h
    rename_i g hj
    split at h <;> simp only [Option.some.injEq, Prod.mk.injEq, reduceCtorEq] at h
    right
    exact ⟨j, b, g, _, hg, hj, h.2.2.symm, opn_noGd _ _⟩
end
end Go.Proofs.Ytgnamdjmjkeodaa
