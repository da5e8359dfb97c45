/- The engine, part 18: the operations of a statement, one behind the other, guards among them. -/
import Derived.Test.YtgnamdjmjkeodaaE33
namespace Go.Proofs.Ytgnamdjmjkeodaa
open Go

def St.clean (S : St) : St := { S with env := fun s => (S.env s).opn [] }

/-- A row is cut for good unless the part is handed to a call right there. -/
def cutOK (ops : Array Oper) (o : Oper) : Bool :=
  match o.op, o.dst with
  | .slice _ _ none (some _) none, some d => ops.toList.all fun o' => match o'.op with
    | .call c => !(c.args.toList.any fun x => match x with
      | .tmp t => Nat.beq t d
      | _ => false)
    | _ => true
  | _, _ => true

/-- One operation. -/
def evOp (P : Program) (ss : Specs) (ops : Array Oper) (o : Oper) (S : St) : Option (List Prop × St) :=
  match o.guard with
  | none => match evV P ss S [] o, o.dst with
    | some (ps, r), some d => if Nat.blt d S.n then some (ps, S.set d (r.opn [])) else none
    | _, _ => match (if cutOK ops o then evE P ss S o else none) with
      | some x => some x
      | none => match evA P ss S [] o, o.dst with
        | some (ps, r), some d => if Nat.blt d S.n then some (ps, S.set d (r.opn [])) else none
        | _, _ => none
  | some (j, want) => match (ops[j]?).bind (·.dst), o.dst with
    | some g, some d => match evA P ss S (guardCtx S 4 g want) o with
      | some (ps, r) => if Nat.blt d S.n && !Nat.beq g d then some (ps.map (impl (guardProps S (guardCtx S 4 g want) (guardCtx S 4 g want))), S.set d (.gd g want (r.opn []))) else none
      | none => none
    | _, _ => none

def run (P : Program) (ss : Specs) (ops : Array Oper) : List Oper → St → Option (List Prop × St)
  | [], S => some ([], S)
  | o :: os, S => match evOp P ss ops o S with
    | some (ps, S1) => match run P ss ops os S1 with
      | some (qs, S2) => some (ps ++ qs, S2)
      | none => none
    | none => none

section
variable {M : Nat → Prop} {p0 : PH} {w0 : World} {S : St} {w : World} {p : PH} {β : Nat → Value} {P : Program} {a : Act}

theorem impl_elim : ∀ (qs : List Prop) (q : Prop), impl qs q → (∀ x ∈ qs, x) → q
  | [], _, h, _ => h
  | x :: qs, q, h, hx => impl_elim qs q (h (hx x (by simp))) (fun y hy => hx y (by simp [hy]))

theorem guardCtx_hold (hS : SatB M p0 w0 S a.tmps w p β) : ∀ (n g : Nat) (b : Bool), a.tmps.getD g undef = .bool b → ctxHold (guardCtx S n g b) a.tmps
  | 0, g, b, h => by
    intro c hc
    simp only [guardCtx, List.mem_singleton] at hc
    subst hc
    exact h
  | n + 1, g, b, h => by
    intro c hc
    simp only [guardCtx, List.mem_cons] at hc
    rcases hc with rfl | hc
    · exact h
    · split at hc
      · rename_i g2 w2 x hg
        have := hS.env g
        rw [hg] at this
        rcases this with ⟨h1, _⟩ | ⟨_, h2⟩
        · exact guardCtx_hold hS n g2 w2 h1 c hc
        · rw [h] at h2; cases h2
      · cases hc

theorem guardProps_hold (hS : SatB M p0 w0 S a.tmps w p β) {ctx : List (Nat × Bool)} (hc : ctxHold ctx a.tmps) : ∀ (cs : List (Nat × Bool)), ctxHold cs a.tmps → ∀ q ∈ guardProps S ctx cs, q
  | [], _, q, hq => by cases hq
  | (g, b) :: cs, h, q, hq => by
    have ih := guardProps_hold hS hc cs (fun c hc => h c (by simp [hc]))
    simp only [guardProps] at hq
    split at hq
    · rename_i b' hb
      rcases List.mem_cons.1 hq with rfl | hq
      · have h1 := h (g, b) (by simp)
        have h2 := opn_val hc _ _ (hS.env g)
        rw [hb] at h2
        have h2' : a.tmps.getD g undef = .bool b' := h2
        rw [h1] at h2'
        injection h2' with h2'
        exact h2'.symm
      · exact ih q hq
    · exact ih q hq

theorem wanted_some {ops : Array Oper} {o : Oper} {j g : Nat} {b : Bool} (ho : o.guard = some (j, b)) (hg : (ops[j]?).bind (·.dst) = some g) (tm : Array Value) :
    Region.wanted o (yielded ops tm) = true ↔ tm.getD g undef = .bool b := by
  simp only [Region.wanted, ho, yielded, hg, Option.bind_some]
  cases h : tm[g]? with
  | none =>
    have : tm.getD g undef = undef := by simp [h]
    rw [this]
    simp [undef]
  | some v =>
    have : tm.getD g undef = v := by simp [h]
    rw [this]
    cases v <;> simp

theorem Sat.set_undef (hS : SatB M p0 w0 S a.tmps w p β) {d g : Nat} {b : Bool} {r : AV} (hd : d < S.n) (hgd : g ≠ d) (h : a.tmps.getD g undef ≠ .bool b) :
    SatB M p0 w0 (S.set d (.gd g b r)) (a.tmps.setIfInBounds d undef) w p β :=
  hS.set hd (.inr ⟨by rw [getD_setIfInBounds_ne hgd]; exact h, rfl⟩)

/-- One operation, and whatever comes behind it. -/
theorem evOp_sound {ss : Specs} (hss : ss.ok P) {ops : Array Oper} {Q : Exit → Act → World → Prop} {o : Oper} {os : List Oper} {S S1 : St} {ps1 : List Prop} {a : Act} {w : World} (h1 : evOp P ss ops o S = some (ps1, S1)) (hp1 : ∀ q ∈ ps1, q)
    (hS : Sat M p0 w0 S a.tmps w) (next : ∀ a' w', Sat M p0 w0 S1 a'.tmps w' → a'.defers = a.defers → wpList P ops Q os a' w') : wpList P ops Q (o :: os) a w := by
  obtain ⟨p, β, hB⟩ := hS
  unfold evOp at h1
  split at h1
  · rename_i hg
    refine wpList_plain hg (fun K hK => ?_)
    have nextK : ∀ a' w', Sat M p0 w0 S1 a'.tmps w' → a'.defers = a.defers → K a' w' := fun a' w' hS' hd => hK a' w' (next a' w' hS' hd)
    split at h1
    · rename_i ps' r d hv hd
      split at h1 <;> simp only [Option.some.injEq, Prod.mk.injEq, reduceCtorEq] at h1 <;> obtain ⟨rfl, rfl⟩ := h1
      rename_i hdn
      refine evV_sound hB hss (ctx_nil _) hv hp1 K Q (fun v w' p' hS' hle hr => ?_)
      rw [hd]
      exact nextK _ w' ⟨p', β, hS'.set (blt_lt hdn) (val_noGd (opn_noGd _ _) (opn_val (ctx_nil _) _ _ hr))⟩ rfl
    · split at h1
      · rename_i x hx
        injection h1 with h1
        subst h1
        split at hx <;> try cases hx
        exact evE_sound hB hss hx hp1 K Q nextK
      · split at h1 <;> try cases h1
        rename_i ps' r d hv hd
        split at h1 <;> simp only [Option.some.injEq, Prod.mk.injEq, reduceCtorEq] at h1 <;> obtain ⟨rfl, rfl⟩ := h1
        rename_i hdn
        refine evA_sound hB hss (ctx_nil _) hv hp1 K Q (fun v w' p' hS' hle hr => ?_)
        rw [hd]
        exact nextK _ w' ⟨p', β, hS'.set (blt_lt hdn) (val_noGd (opn_noGd _ _) (opn_val (ctx_nil _) _ _ hr))⟩ rfl
  · rename_i j b hg
    split at h1 <;> try cases h1
    rename_i g d hgj hd
    split at h1 <;> try cases h1
    rename_i ps' r hv
    split at h1 <;> simp only [Option.some.injEq, Prod.mk.injEq, reduceCtorEq] at h1 <;> obtain ⟨rfl, rfl⟩ := h1
    rename_i hb
    simp only [Bool.and_eq_true, Bool.not_eq_true'] at hb
    have hdn := blt_lt hb.1
    have hgd : g ≠ d := by intro e; subst e; simp at hb
    refine wpList_step (fun K hK => ?_)
    have nextK : ∀ a' w', Sat M p0 w0 (S.set d (.gd g b (r.opn []))) a'.tmps w' → a'.defers = a.defers → K a' w' := fun a' w' hS' hd => hK a' w' (next a' w' hS' hd)
    split
    · rename_i hw
      have htm := (wanted_some hg hgj a.tmps).1 hw
      have hctx := guardCtx_hold hB 4 g b htm
      refine evA_sound hB hss hctx hv (fun q hq => ?_) K Q (fun v w' p' hS' hle hr => ?_)
      · exact impl_elim _ q (hp1 _ (List.mem_map.2 ⟨q, hq, rfl⟩)) (guardProps_hold hB hctx _ hctx)
      · rw [hd]
        refine nextK _ w' ⟨p', β, hS'.set hdn (.inl ⟨?_, val_noGd (opn_noGd _ _) (opn_val (ctx_nil _) _ _ hr)⟩)⟩ rfl
        rw [getD_setIfInBounds_ne hgd]; exact htm
    · rename_i hw
      have htm : a.tmps.getD g undef ≠ .bool b := fun e => hw ((wanted_some hg hgj a.tmps).2 e)
      rw [hd]
      exact nextK _ w ⟨p, β, Sat.set_undef hB hdn hgd htm⟩ rfl

theorem run_sound {ss : Specs} (hss : ss.ok P) {ops : Array Oper} {Q : Exit → Act → World → Prop} : ∀ (os : List Oper) (S S' : St) (ps : List Prop) (a : Act) (w : World), run P ss ops os S = some (ps, S') → (∀ q ∈ ps, q) →
    Sat M p0 w0 S a.tmps w → (∀ a' w', Sat M p0 w0 S' a'.tmps w' → a'.defers = a.defers → Q .normal a' w') → wpList P ops Q os a w
  | [], S, S', ps, a, w, h, _, hS, hQ => by
    simp only [run, Option.some.injEq, Prod.mk.injEq] at h
    obtain ⟨_, rfl⟩ := h
    exact wpList_nil (hQ a w hS rfl)
  | o :: os, S, S', ps, a, w, h, hps, hS, hQ => by
    simp only [run] at h
    split at h <;> try cases h
    rename_i ps1 S1 h1
    split at h <;> simp only [Option.some.injEq, Prod.mk.injEq, reduceCtorEq] at h <;> obtain ⟨rfl, rfl⟩ := h
    rename_i ps2 S2 h2
    have hp1 : ∀ q ∈ ps1, q := fun q hq => hps q (List.mem_append_left _ hq)
    have hp2 : ∀ q ∈ ps2, q := fun q hq => hps q (List.mem_append_right _ hq)
    exact evOp_sound hss h1 hp1 hS (fun a' w' hS' hd => run_sound hss os S1 S2 ps2 a' w' h2 hp2 hS' (fun a'' w'' h3 h4 => hQ a'' w'' h3 (h4.trans hd)))

theorem clean_sound {tm : Array Value} (h : Sat M p0 w0 S tm w) : Sat M p0 w0 S.clean tm w := by
  obtain ⟨p, β, hB⟩ := h
  exact ⟨p, β, hB.keep, hB.agr, hB.old, hB.size, hB.lhs, hB.owns, hB.inj, fun s => opn_val (ctx_nil _) _ _ (hB.env s)⟩
end
end Go.Proofs.Ytgnamdjmjkeodaa
