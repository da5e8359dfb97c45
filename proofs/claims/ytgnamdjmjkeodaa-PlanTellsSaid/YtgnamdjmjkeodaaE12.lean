/- The engine, part 12: every operation that yields a value does what evV says. -/
import Derived.Test.YtgnamdjmjkeodaaE11
namespace Go.Proofs.Ytgnamdjmjkeodaa
open Go

section
variable {M : Nat → Prop} {p0 : PH} {w0 : World} {S : St} {w : World} {p : PH} {β : Nat → Value} {P : Program} {a : Act}

theorem map_val (hS : SatB M p0 w0 S a.tmps w p β) {ctx : List (Nat × Bool)} (hc : ctxHold ctx a.tmps) (xs : List Operand) :
    ∀ (i : Nat) a' v, (xs.map (S.look ctx))[i]? = some a' → (xs.map a.eval)[i]? = some v → a'.val p β a.tmps v := by
  intro i a' v h1 h2
  simp only [List.getElem?_map, Option.map_eq_some_iff] at h1 h2
  obtain ⟨x, hx, rfl⟩ := h1
  obtain ⟨y, hy, rfl⟩ := h2
  rw [hx] at hy
  injection hy with hy
  subst hy
  exact look_val hS hc x

theorem opt_val (hS : SatB M p0 w0 S a.tmps w p β) {ctx : List (Nat × Bool)} (hc : ctxHold ctx a.tmps) (lo : Option Operand) :
    ((lo.map (S.look ctx)) = none ∧ (lo.map a.eval) = none) ∨ ∃ a' v, (lo.map (S.look ctx)) = some a' ∧ (lo.map a.eval) = some v ∧ a'.val p β a.tmps v := by
  cases lo with
  | none => exact .inl ⟨rfl, rfl⟩
  | some x => exact .inr ⟨_, _, rfl, rfl, look_val hS hc x⟩

theorem resAV_val {tm : Array Value} (d : Nat) (Rs : List RT) (x : RDens Rs) (rs : List Value) (h : (resTup d 0 Rs x).vals p β rs) : (resAV d Rs x).val p β tm (retValue rs) := by
  match Rs, x, h with
  | [], x, h => match rs, h with
    | [], _ => rfl
  | [R], x, h => match rs, h with
    | [v], h => exact AV.val_of_val1 (show (R.av d x).val1 p β v from by simpa [resName] using h.1)
  | R :: U :: Rs, x, h => match rs, h with
    | v :: u :: vs, h => exact ⟨v :: u :: vs, rfl, h⟩
    | [v], h => 
      have h2 := h.2
      cases Rs <;> exact h2.elim

theorem toLocs_hold : ∀ (avs : List AV) (vs : List Value) (c : List (Nat × Nat)) (tm : Array Value), toLocs avs = some c → vs.length = avs.length → (∀ (i : Nat) a' v, avs[i]? = some a' → vs[i]? = some v → a'.val p β tm v) → locsHold β c vs
  | [], vs, c, tm, h, hl, _ => by
    simp only [toLocs, Option.some.injEq] at h
    subst h
    exact List.eq_nil_of_length_eq_zero hl
  | x :: avs, vs, c, tm, h, hl, hv => by
    match vs, hl, hv with
    | v :: vs, hl, hv =>
      cases x <;> simp only [toLocs, reduceCtorEq] at h
      rename_i d off
      simp only [Option.map_eq_some_iff] at h
      obtain ⟨c', h1, rfl⟩ := h
      obtain ⟨b, e1, rfl⟩ := hv 0 _ v rfl rfl
      exact ⟨b, vs, rfl, e1, toLocs_hold avs vs c' tm h1 (by simpa using hl) (fun i a' v ha hb => hv (i + 1) a' v (by simpa using ha) (by simpa using hb))⟩

theorem run_builtin {b : Builtin} {o : Oper} {args : Array Operand} {ts : Array TypeId} (ho : o.op = .call { callee := .builtin b, args, argTypes := ts }) :
    ∃ cs, (execOp a.eval o).run P w = (builtin b ts o.type cs (args.map a.eval)).run P w := by
  have h : ∃ d : Deferred, (resolve a.eval { callee := .builtin b, args, argTypes := ts } o.type).run P w = .ok d w ∧ d.args = args.map a.eval ∧ ∃ cs, d.target = .builtin b ts o.type cs :=
    ⟨_, rfl, rfl, _, rfl⟩
  obtain ⟨d, h1, h2, cs, h3⟩ := h
  refine ⟨cs, ?_⟩
  unfold execOp
  simp only [ho, Sem.run_bind, h1, Result.andThen_ok, h2, h3, invoke]

theorem evV_sound (hS : SatB M p0 w0 S a.tmps w p β) {ss : Specs} (hss : ss.ok P) {ctx : List (Nat × Bool)} (hc : ctxHold ctx a.tmps) {o : Oper} {ps : List Prop} {r : AV}
    (h : evV P ss S ctx o = some (ps, r)) (hps : ∀ q ∈ ps, q) : VOK M p0 w0 S P o a w p β r := by
  have lk := look_val hS hc
  unfold evV at h
  split at h
  · rename_i x ho
    simp only [Option.some.injEq, Prod.mk.injEq] at h
    obtain ⟨rfl, rfl⟩ := h
    refine VOK.of_yields hS (s := pure (a.eval x)) (by simp only [execOp, ho]; rfl) ⟨_, rfl, lk x⟩
  · rename_i x ho
    simp only [Option.some.injEq, Prod.mk.injEq] at h
    obtain ⟨rfl, rfl⟩ := h
    refine VOK.of_yields hS (s := pure (a.eval x)) (by simp only [execOp, ho]; rfl) ⟨_, rfl, lk x⟩
  · rename_i op t x y yt ho
    exact VOK.of_yields hS (by simp only [execOp, ho]) (evBinF_sound (ox := x) (oy := y) h hps (lk x) (lk y))
  · rename_i op t x ho
    exact VOK.of_yields hS (by simp only [execOp, ho]) (evUn_sound h hps (lk x))
  · rename_i src dst x ho
    split at h
    · rename_i hsrc
      exact VOK.of_yields hS (by simp only [execOp, ho]) (evConv_sound h (lk x) hsrc)
    · cases h
  · rename_i t x ho
    exact VOK.of_yields hS (by simp only [execOp, ho]) (evLoad_sound hS h hps (lk x))
  · rename_i s x i ho
    exact VOK.of_yields hS (by simp only [execOp, ho]) (evFieldAddr_sound h (lk x))
  · rename_i t x i ho
    exact VOK.of_yields hS (by simp only [execOp, ho]) (evIndexAddr_sound hS h hps (lk x) (lk i))
  · rename_i t x i ho
    exact VOK.of_yields hS (by simp only [execOp, ho]) (evStrIdx_sound h hps (lk x) (lk i))
  · rename_i t x lo hi ho
    exact VOK.of_yields hS (by simp only [execOp, ho]; rfl) (evSlice_sound hS h hps (lk x) (opt_val hS hc lo) (opt_val hS hc hi))
  · rename_i x n ho
    simp only [Option.map_eq_some_iff, Prod.mk.injEq] at h
    obtain ⟨r', h1, rfl, rfl⟩ := h
    exact VOK.of_yields hS (by simp only [execOp, ho]) (extract_sound h1 (lk x))
  · rename_i t parts ho
    split at h
    · rename_i hu
      exact VOK.of_yields hS (by simp only [execOp, ho]) (evBuild_sound hS h lk (fun fs hfs => by unfold structOK at hu; rw [hfs] at hu; exact hu))
    · cases h
  · rename_i g x y ho
    split at h <;> simp only [Option.some.injEq, Prod.mk.injEq, reduceCtorEq] at h <;> obtain ⟨rfl, rfl⟩ := h
    rename_i c b1 b2 h1 h2 h3
    have e1 : a.tmps.getD g undef = .bool c := by
      have := lk (.tmp g)
      rw [h1] at this
      exact this
    have vx : c = true → a.eval x = .bool b1 := by
      intro hct
      have := look_val hS (ctx := (g, true) :: ctx) (by
        intro z hz
        rcases List.mem_cons.1 hz with rfl | hz
        · rw [e1, hct]
        · exact hc z hz) x
      rw [h2] at this
      exact this
    have vy : c = false → a.eval y = .bool b2 := by
      intro hct
      have := look_val hS (ctx := (g, false) :: ctx) (by
        intro z hz
        rcases List.mem_cons.1 hz with rfl | hz
        · rw [e1, hct]
        · exact hc z hz) y
      rw [h3] at this
      exact this
    have e2 : a.eval (.tmp g) = .bool c := e1
    refine VOK.of_run hS (v := if c then a.eval x else a.eval y) (by simp only [execOp, ho, e2, asBool, Sem.run_bind, Sem.run_pure, Result.andThen_ok]) ?_
    show _ = Value.bool _
    cases hct : c
    · simp only [Bool.false_eq_true, if_false]
      rw [vy hct]
      congr 1
      split
      · simp
      · rename_i e _
        simp only [Act.eval] at vy
        have := vy hct
        simp only [Value.bool.injEq] at this
        simp [this.symm]
      · simp
    · simp only [if_true]
      rw [vx hct]
      congr 1
      split
      · simp only [Act.eval] at vx
        have := vx hct
        simp only [Value.bool.injEq] at this
        simp [this.symm]
      · simp
      · simp
  · rename_i args ts ho
    split at h
    · rename_i x t hx ht
      obtain ⟨v, e, hv⟩ := evLen_sound (ty := o.type) hS h (lk x)
      have ha : args = #[x] := by apply Array.toList_inj.1; rw [hx]
      have hts : ts = #[t] := by apply Array.toList_inj.1; rw [ht]
      refine VOK.of_run hS ?_ hv
      obtain ⟨cs, hb⟩ := run_builtin (a := a) (w := w) (P := P) ho
      rw [hb, ha, hts]
      simp only [builtin, List.map_toArray, List.map_cons, List.map_nil, Sem.run_bind, e, Result.andThen_ok, Sem.run_pure]
    · cases h
  · rename_i args ts ho
    split at h
    · rename_i x xs hx
      simp only [Option.map_eq_some_iff, Prod.mk.injEq] at h
      obtain ⟨r', h1, rfl, rfl⟩ := h
      have ha : args = (x :: xs).toArray := by apply Array.toList_inj.1; rw [hx]
      have := evMM_sound (P := P) (w := w) false _ (xs.map a.eval) _ (a.eval x) r' h1 (lk x) (by simp) (map_val hS hc xs)
      obtain ⟨v, e, hv⟩ := this
      refine VOK.of_run hS ?_ hv
      obtain ⟨cs, hb⟩ := run_builtin (a := a) (w := w) (P := P) ho
      rw [hb, ha]
      simp only [builtin, List.map_toArray, List.map_cons, Sem.run_bind, Builtin.min_]
      simp only [Bool.false_eq_true, if_false] at e
      rw [e]
      rfl
    · cases h
  · rename_i args ts ho
    split at h
    · rename_i x xs hx
      simp only [Option.map_eq_some_iff, Prod.mk.injEq] at h
      obtain ⟨r', h1, rfl, rfl⟩ := h
      have ha : args = (x :: xs).toArray := by apply Array.toList_inj.1; rw [hx]
      have := evMM_sound (P := P) (w := w) true _ (xs.map a.eval) _ (a.eval x) r' h1 (lk x) (by simp) (map_val hS hc xs)
      obtain ⟨v, e, hv⟩ := this
      refine VOK.of_run hS ?_ hv
      obtain ⟨cs, hb⟩ := run_builtin (a := a) (w := w) (P := P) ho
      rw [hb, ha]
      simp only [builtin, List.map_toArray, List.map_cons, Sem.run_bind, Builtin.max_]
      simp only [if_true] at e
      rw [e]
      rfl
    · cases h
  · rename_i f args ts ho
    split at h <;> try cases h
    rename_i q0 Rs x he
    split at h <;> simp only [Option.some.injEq, Prod.mk.injEq, reduceCtorEq] at h <;> obtain ⟨rfl, rfl⟩ := h
    rename_i hdat
    intro K Q hK
    obtain ⟨hcal, hcalls⟩ := evCall_sound hS hss he (hps _ (by simp)) (vs := args.toList.map a.eval) (by simp) (map_val hS hc args.toList) 0
    unfold Oper.wp
    rw [run_call hcal ho]
    simp only [Oper.upon_enter]
    have e : (args.toList.map a.eval).toArray = args.map a.eval := by rw [← Array.toList_map, Array.toArray_toList]
    rw [e] at hcalls
    refine hcalls.mono ?_
    rintro e w' ⟨rs, p', β', rfl, hle, hS', hv, hβ⟩
    obtain rfl := hβ hdat
    have key : resSt 0 0 Rs x S = S := by
      have gen : ∀ (Rs : List RT) (k : Nat) (x : RDens Rs) (S : St), Rs.all RT.isDat = true → resSt 0 k Rs x S = S := by
        intro Rs
        induction Rs with
        | nil => intro k x S _; rfl
        | cons R Rs ih =>
          intro k x S hd
          simp only [List.all_cons, Bool.and_eq_true] at hd
          cases R with
          | own e T => exact absurd hd.1 (by simp [RT.isDat])
          | map k V => exact absurd hd.1 (by simp [RT.isDat])
          | dat T =>
            cases Rs with
            | nil => rfl
            | cons U Rs => exact ih (k + 1) x.2 S hd.2
      exact gen Rs 0 x S hdat
    rw [key] at hS'
    exact hK _ w' p' hS' hle (resAV_val 0 Rs x rs hv)
  · rename_i t args ts ho
    split at h <;> try cases h
    rename_i A B g hav
    split at h <;> try cases h
    rename_i y hy
    split at h <;> simp only [Option.some.injEq, Prod.mk.injEq, reduceCtorEq] at h <;> obtain ⟨rfl, rfl⟩ := h
    rename_i z hz
    have e1 : args = #[y] := by apply Array.toList_inj.1; rw [hy]
    subst e1
    have hx := lk (.tmp t)
    rw [hav] at hx
    have hyv := toTy_vsound hS hz (lk y)
    exact fd_sound hS hss ho hx (by simpa using hyv) (hps _ (by simp))
  · rename_i t m x ok ho
    exact VOK.of_yields hS (by simp only [execOp, ho]) (evLookup_sound hS h (lk m) (lk x))
  · rename_i x ho
    split at h <;> simp only [Option.some.injEq, Prod.mk.injEq, reduceCtorEq] at h <;> obtain ⟨rfl, rfl⟩ := h
    rename_i d off hx
    have := lk x
    rw [hx] at this
    obtain ⟨b, e1, e2⟩ := this
    intro K Q hK
    unfold Oper.wp
    have : (execOp a.eval o).run P w = .ok (.value (.pointer (some ⟨b, off, none⟩))) w := by
      simp only [execOp, ho, e2, Sem.run_pure]
    rw [this]
    exact hK _ w p hS (PH.le.refl p) ⟨b, e1, rfl⟩
  · rename_i f first caps ho
    split at h <;> simp only [Option.some.injEq, Prod.mk.injEq, reduceCtorEq] at h <;> obtain ⟨rfl, rfl⟩ := h
    rename_i c1 c2 h1 h2
    refine VOK.of_yields hS (s := Instr.makeFunc (.func f) (first.map a.eval) (caps.map a.eval)) (by unfold execOp; rw [ho]) ⟨_, rfl, ?_⟩
    refine ⟨_, _, rfl, ?_, ?_⟩
    · have := toLocs_hold (p := p) (β := β) _ (first.toList.map a.eval) c1 a.tmps h1 (by simp) (map_val hS hc first.toList)
      simpa using this
    · have := toLocs_hold (p := p) (β := β) _ (caps.toList.map a.eval) c2 a.tmps h2 (by simp) (map_val hS hc caps.toList)
      simpa using this
  · cases h
end
end Go.Proofs.Ytgnamdjmjkeodaa
