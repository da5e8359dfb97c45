/- The engine, part 36 (stands between 22 and 23): calls that are walked through: what their walk asks for, and that it suffices. -/
import Derived.Test.YtgnamdjmjkeodaaE22
namespace Go.Proofs.Ytgnamdjmjkeodaa
open Go

/-- An annotation at 2000000: this function's sums turn round. -/
def startW (ann : Nat → Option LoopGen) (S : St) : St := match ann 2000000 with
  | some _ => S.entry 900001 .dead
  | none => S

def slotOut (P : Program) (S : St) : ResultVar → Option AV
  | .tmp t => some ((S.env t).opn [])
  | .cell t ty => match S.env t with
    | .loc d 0 => match S.lh d with
      | some (.cells c) => match loadable P ty with
        | some n => if Nat.beq c.len n then some c else none
        | none => none
      | _ => none
    | _ => none

def slotOuts (P : Program) (S : St) : List ResultVar → Option (List AV)
  | [] => some []
  | r :: rs => match slotOut P S r, slotOuts P S rs with
    | some a, some avs => some (a :: avs)
    | _, _ => none

/-- Behind a call's walk: the caller's frame again, the results in its slot d. -/
def leave (P : Program) (S : St) (d : Nat) (rvs : List ResultVar) (K : St → Prop) (S' : St) : Prop :=
  match slotOuts P S' rvs with
  | some avs => match S'.lh frameN with
    | some (.frame _ env') => K (outSt S S' env' d avs)
    | _ => False
  | none => False

def vcInl (P : Program) (ss : Specs) (inl : Inl) (ann : Nat → Option LoopGen) (f : FuncId) (avs : List AV) (S : St) (d : Nat) (K : St → Prop) : Prop :=
  match P.funcs[f]? with
  | none => False
  | some fn => match fn.body with
    | none => False
    | some c => if Nat.ble avs.length fn.ntmps && (dsts ann c).all (Nat.blt · 900000) then
        ∀ tm : Array Value, vc P ss inl ann c (startW ann (enterSt tm S.clean fn.ntmps avs)) (leave P S.clean d fn.results.toList K) (fun _ _ => False) (leave P S.clean d fn.results.toList K)
      else False

/-- A function f with an annotation at 3000000 + f is walked through where it is called; its own annotations lie at 100000000 * (f + 1) on. -/
def inlK (P : Program) (ss : Specs) (ann : Nat → Option LoopGen) : Nat → Inl
  | 0 => fun _ => none
  | k + 1 => fun f => match ann (3000000 + f) with
    | some _ => if callable P f then some (vcInl P ss (inlK P ss ann k) (fun n => ann (100000000 * (f + 1) + n)) f) else none
    | none => none

section
variable {P : Program} {p p0 : PH} {w w0 : World} {M : Nat → Prop} {S : St} {tm : Array Value} {β : Nat → Value}

/-- The results, read out of the frame. -/
theorem slotOut_run (hS : SatB M p0 w0 S tm w p β) {r : ResultVar} {a : AV} (h : slotOut P S r = some a) :
    ∃ v, (match r with | .tmp t => pure (tm.getD t undef) | .cell t ty => (do loadVar ty (← asAddr (tm.getD t undef))) : Sem Value).run P w = .ok v w ∧ a.val p β tm v := by
  cases r with
  | tmp t =>
    simp only [slotOut, Option.some.injEq] at h
    subst h
    exact ⟨_, rfl, opn_val (ctx_nil _) _ _ (hS.env t)⟩
  | cell t ty =>
    simp only [slotOut] at h
    split at h <;> try cases h
    rename_i d he
    split at h <;> try cases h
    rename_i c hc
    split at h <;> try cases h
    rename_i n hn
    split at h <;> simp only [Option.some.injEq, reduceCtorEq] at h
    rename_i hl
    subst h
    have hl := Nat.eq_of_beq_eq_true hl
    have hv := hS.env t
    rw [he] at hv
    obtain ⟨b, e1, e2⟩ := hv
    obtain ⟨b', cs, ty', e3, e4, e5⟩ := hS.lhs d _ hc
    rw [e1] at e3
    injection e3 with e3
    injection e3 with e3
    injection e3 with e3
    subst e3
    have hlen := AV.len_cells _ _ e5
    obtain ⟨v, h1, h2⟩ := loadVar_sound (P := P) (w := w) (tm := tm) hn e5 (by omega) (b := b) (o := 0) (fun j u hu => by rw [world_cell_row e4]; simpa using hu)
    refine ⟨v, ?_, h2⟩
    show Sem.run P (do loadVar ty (← asAddr (tm.getD t undef))) w = _
    rw [e2]
    simpa [Instr.loadAt, Instr.sureAddr, asAddr] using h1

theorem slotOuts_run (hS : SatB M p0 w0 S tm w p β) : ∀ (rs : List ResultVar) (avs : List AV), slotOuts P S rs = some avs →
    ∃ vs : List Value, (rs.mapM (fun r => (match r with | .tmp t => pure (tm.getD t undef) | .cell t ty => (do loadVar ty (← asAddr (tm.getD t undef))) : Sem Value))).run P w = .ok vs w ∧ vs.length = avs.length ∧
      ∀ (i : Nat) a v, avs[i]? = some a → vs[i]? = some v → a.val p β tm v
  | [], avs, h => by
    simp only [slotOuts, Option.some.injEq] at h
    subst h
    exact ⟨[], by simp, rfl, fun i a v ha => by simp at ha⟩
  | r :: rs, avs, h => by
    simp only [slotOuts] at h
    split at h <;> simp only [Option.some.injEq, reduceCtorEq] at h
    rename_i a avs' h1 h2
    subst h
    obtain ⟨v, k1, k2⟩ := slotOut_run hS h1
    obtain ⟨vs, k3, k4, k5⟩ := slotOuts_run hS rs avs' h2
    refine ⟨v :: vs, ?_, by simp [k4], fun i a' v' ha hv => ?_⟩
    · simp only [List.mapM_cons, Sem.run_bind]
      rw [k1]
      simp only [Result.andThen_ok]
      rw [k3]
      simp
    · match i with
      | 0 => simp at ha hv; subst ha; subst hv; exact k2
      | i + 1 => exact k5 i a' v' (by simpa using ha) (by simpa using hv)

theorem results_run (hS : SatB M p0 w0 S tm w p β) {fn : Func} {avs : List AV} (h : slotOuts P S fn.results.toList = some avs) :
    ∃ vs : List Value, (results fn tm).run P w = .ok (retValue vs) w ∧ vs.length = avs.length ∧ ∀ (i : Nat) a v, avs[i]? = some a → vs[i]? = some v → a.val p β tm v := by
  obtain ⟨vs, h1, h2, h3⟩ := slotOuts_run hS fn.results.toList avs h
  refine ⟨vs, ?_, h2, h3⟩
  have e : (fn.results.mapM (fun r => (match r with | .tmp t => pure (tm.getD t undef) | .cell t ty => (do loadVar ty (← asAddr (tm.getD t undef))) : Sem Value))) = (List.toArray <$> fn.results.toList.mapM (fun r => (match r with | .tmp t => pure (tm.getD t undef) | .cell t ty => (do loadVar ty (← asAddr (tm.getD t undef))) : Sem Value))) := by
    rw [Array.mapM_eq_mapM_toList]
  have hr : (results fn tm) = (do
      let vs ← fn.results.mapM (fun r => (match r with | .tmp t => pure (tm.getD t undef) | .cell t ty => (do loadVar ty (← asAddr (tm.getD t undef))) : Sem Value))
      pure (if h : vs.size = 1 then vs[0] else .tuple vs)) := rfl
  rw [hr, e]
  simp only [Sem.run_bind, Sem.run_map, h1]
  have : (Result.ok vs w).andThen (fun a w' => (Result.ok a.toArray w' : Result (Array Value))) = .ok vs.toArray w := rfl
  match vs with
  | [] => rfl
  | [v] => rfl
  | v :: u :: vs => rfl

theorem startW_sat {ann : Nat → Option LoopGen} (h : SatB M p0 w0 S tm w p β) : SatB M p0 w0 (startW ann S) tm w p β := by
  unfold startW
  split
  · exact h.entry trivial (fun b _ hb => by rename_i h; cases h) (fun _ _ _ _ hb => by cases hb)
  · exact h

theorem startW_lock (ann : Nat → Option LoopGen) : (startW ann S).lock = S.lock := by
  unfold startW
  split <;> rfl

theorem startW_lh (ann : Nat → Option LoopGen) {n : Nat} (h : n ≠ 900001) : (startW ann S).lh n = S.lh n := by
  unfold startW
  split
  · simp only [St.entry, beq_ff h, cond_false]
  · rfl

theorem startW_noframe {ann : Nat → Option LoopGen} (h : ∀ d tm env, S.lh d ≠ some (.frame tm env)) : ∀ d tm env, (startW ann S).lh d ≠ some (.frame tm env) := by
  intro d tm env hd
  by_cases e : d = 900001
  · subst e
    unfold startW at hd
    split at hd
    · simp only [St.entry, beq_tt, cond_true, Option.some.injEq, reduceCtorEq] at hd
    · exact h _ _ _ hd
  · rw [startW_lh ann e] at hd
    exact h _ _ _ hd

theorem startW_tidy {ann : Nat → Option LoopGen} {bad : Nat → Bool} (h : Tidy bad S) : Tidy bad (startW ann S) := by
  unfold startW
  split
  · exact tidy_entry h (fun t T xs e => by cases e)
  · exact h

theorem inlK_ok {ss : Specs} (hss : ss.ok P) : ∀ (ann : Nat → Option LoopGen) (k : Nat), InlOK P (inlK P ss ann k)
  | _, 0 => fun f G h => by cases h
  | ann, k + 1 => by
    intro f G h
    simp only [inlK] at h
    split at h <;> try cases h
    split at h <;> simp only [Option.some.injEq, reduceCtorEq] at h
    rename_i hcall
    subst h
    refine ⟨hcall, ?_⟩
    intro M p0 w0 S avs vs d K tm w p β L bad hG hB hl hv hT hN h9 hd hdn
    have ih := inlK_ok hss ann k
    unfold vcInl at hG
    split at hG
    · exact hG.elim
    rename_i fn hfn
    split at hG
    · exact hG.elim
    rename_i c hc
    split at hG
    case isFalse => exact hG.elim
    rename_i hck
    simp only [Bool.and_eq_true] at hck
    have hle := Nat.le_of_ble_eq_true hck.1
    have hgo := hG tm
    clear hG
    generalize (fun n => ann (100000000 * (f + 1) + n)) = annf at *
    have hcl := fr_clean (L := L) hT
    have hBc : SatB M p0 w0 S.clean tm w p β := ⟨hB.keep, hB.agr, hB.old, hB.size, hB.lhs, hB.owns, hB.inj, fun s => opn_val (ctx_nil _) _ _ (hB.env s)⟩
    refine calls_of_wp hfn hc ?_
    have hstart := startW_sat (ann := annf) (enter_sat hBc hl hv hle)
    have hTs := startW_tidy (ann := annf) (enter_tidy (tm := tm) hcl.2 (n := fn.ntmps) (avs := avs))
    have hvc := vc_sound hss ih (M := M) (p0 := p0) (w0 := w0) (ds := []) c (dsts annf c) (badC bad) _ _ _ _ { tmps := vs.toArray ++ Array.replicate (fn.ntmps - vs.toArray.size) undef, defers := [] } w
      hgo (named_badC hck.2) (far_badC h9) (fun _ h => h) hTs ⟨p, _, hstart⟩ rfl
    have done : ∀ (S' : St) (a : Act) (w' : World), leave P S.clean d fn.results.toList K S' → Fr (dsts annf c) (badC bad) (startW annf (enterSt tm S.clean fn.ntmps avs)) S' → Tidy (badC bad) S' → Sat M p0 w0 S' a.tmps w' → a.defers = [] →
        a.defers = [] ∧ ∃ v, (results fn a.tmps).run P w' = .ok v w' ∧ ∃ v' S3, Ending.returned v = .returned v' ∧ K S3 ∧ Fr L bad S S3 ∧ Tidy bad S3 ∧ Sat M p0 w0 S3 (tm.setIfInBounds d v') w' := by
      intro S' a w' hr hF hT' hS hdf
      obtain ⟨p1, β1, hB1⟩ := hS
      unfold leave at hr
      split at hr
      case h_2 => exact hr.elim
      rename_i avs' has
      split at hr
      case h_2 => exact hr.elim
      rename_i tm' env' hfr
      obtain ⟨rs, k1, k2, k3⟩ := results_run hB1 has
      have hlf : (startW annf (enterSt tm S.clean fn.ntmps avs)).lh frameN = some (.frame tm (fun s => (S.clean.env s).ren upN dnN)) := by
        rw [startW_lh annf (by unfold frameN; omega)]
        simp only [enterSt, beq_tt, cond_true]
      have htm : tm' = tm := by
        obtain ⟨e2, g1, _⟩ := hF.frames _ _ _ hlf
        rw [hfr] at g1
        injection g1 with g1
        injection g1 with g1 _
      subst htm
      have hout := out_fr hcl.2 hN hd (fun m => by
        rw [startW_lh annf (by unfold upN; omega)]
        exact enter_lh_up m) hlf (fun m => by rw [startW_lock]; exact enter_lock_up m) (fun n hn => by
        rw [startW_lock] at hn
        simp only [enterSt] at hn
        cases hb : Nat.beq n frameN
        · rw [hb] at hn
          cases hu : Nat.beq (n % 1000000) 900000
          · rw [hu] at hn; cases hn
          · have := Nat.eq_of_beq_eq_true hu
            exact .inr ⟨n / 1000000, by unfold upN; omega⟩
        · exact .inl (Nat.eq_of_beq_eq_true hb)) hF hT' hfr avs'
      exact ⟨hdf, retValue rs, k1, retValue rs, _, rfl, hr, hcl.1.trans hout.1, hout.2, out_sat hB1 hfr hBc.size hdn k2 k3⟩
    refine wp_mono hvc ?_
    intro e a w' hq
    cases e with
    | normal => obtain ⟨S', h1, h2, h3, h4, h5⟩ := hq; exact done S' a w' h1 h2 h3 h4 h5
    | ret => obtain ⟨S', h1, h2, h3, h4, h5⟩ := hq; exact done S' a w' h1 h2 h3 h4 h5
    | exit i => obtain ⟨S', h1, _⟩ := hq; exact h1.elim
    | _ => exact hq.elim
end
end Go.Proofs.Ytgnamdjmjkeodaa
