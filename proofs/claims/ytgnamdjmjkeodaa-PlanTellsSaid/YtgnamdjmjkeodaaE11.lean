/- The engine, part 11: calls. -/
import Derived.Test.YtgnamdjmjkeodaaE10
namespace Go.Proofs.Ytgnamdjmjkeodaa
open Go

section
variable {M : Nat → Prop} {p0 : PH} {w0 : World} {S : St} {w : World} {p : PH} {β : Nat → Value} {P : Program} {a : Act}

theorem callable_spec {f : FuncId} (h : callable P f = true) : ∃ fn, P.funcs[f]? = some fn ∧ (fn.name == "runtime.NumGoroutine") = false ∧ fn.body.isNone = false := by
  unfold callable at h
  split at h
  · rename_i fn hf
    simp only [Bool.and_eq_true, Bool.not_eq_true'] at h
    refine ⟨fn, hf, h.1, ?_⟩
    have := h.2
    cases hb : fn.body
    · rw [hb] at this; cases this
    · rfl
  · cases h

theorem run_callFunc {f : FuncId} (h : callable P f = true) (args : Array Value) : (callFunc f args).run P w = .ok (.enter f args) w := by
  obtain ⟨fn, hf, hn, hb⟩ := callable_spec h
  simp only [callFunc, Sem.run_bind, run_program, Result.andThen_ok, hf, hn, hb, Bool.false_eq_true, if_false, Sem.run_pure]

theorem run_call {f : FuncId} (h : callable P f = true) {o : Oper} {args : Array Operand} {ts : Array TypeId} (ho : o.op = .call { callee := .value (.func f), args, argTypes := ts }) :
    (execOp a.eval o).run P w = .ok (.enter f (args.map a.eval)) w := by
  unfold execOp
  simp only [ho, Sem.run_bind, resolve, Act.eval, Deferred.ofValue, Sem.run_pure, Result.andThen_ok, invoke]
  simp only [Array.append_empty, Array.empty_append]
  exact run_callFunc h _

theorem resName_inj {d j k : Nat} (h : resName d j = resName d k) : j = k := by unfold resName at h; omega

/-- One result is laid: a datum asks for nothing, a row gets its name. -/
theorem put_sound {tm : Array Value} (hS : SatB M p0 w0 S tm w p β) {B : Nat} {r q : PH} {R : RT} {x : R.den} {v : Value} {name : Nat} {bs : List Nat} (hB : w0.heap.size ≤ B)
    (hrp : PH.le r p) (_hqp : PH.le q p) (hpq : ∀ b, B ≤ b → q b = none → p b = none) (hR : R.holds w B r q x v) (hbs : ∀ b, R.blk v = some b → b ∉ bs)
    (hl : ∀ d e b, S.lh d = some e → e.live = true → blkOf (β d) = some b → b < B ∨ b ∈ bs) :
    ∃ β', SatB M p0 w0 (R.put x name S) tm w p β' ∧ (R.av name x).val1 p β' v ∧ (∀ n, n ≠ name → β' n = β n) ∧
      (∀ d e b, (R.put x name S).lh d = some e → e.live = true → blkOf (β' d) = some b → b < B ∨ b ∈ (match R.blk v with | some b => b :: bs | none => bs)) := by
  cases R with
  | dat T =>
    refine ⟨β, hS, vholds_val (tm := #[]) ?_, fun _ _ => rfl, ?_⟩
    · have hR' : T.vholds r x v := hR
      unfold Ty.vholds at hR' ⊢
      cases T with
      | pair A C => obtain ⟨cs, e, hc⟩ := hR'; exact ⟨cs, e, Ty.holds_mono hrp _ _ _ hc⟩
      | int k => exact Ty.holds_mono hrp (.int k) _ _ hR'
      | bool => exact Ty.holds_mono hrp .bool _ _ hR'
      | str => exact Ty.holds_mono hrp .str _ _ hR'
      | arr T => exact Ty.holds_mono hrp (.arr T) _ _ hR'
      | nil => exact Ty.holds_mono hrp .nil _ _ hR'
      | ref T => exact Ty.holds_mono hrp (.ref T) _ _ hR'
      | fn A B => exact Ty.holds_mono hrp (.fn A B) _ _ hR'
      | map k V => exact Ty.holds_mono hrp (.map k V) _ _ hR'
    · exact hl
  | map k V =>
    obtain ⟨⟨g, es, clock, rfl, hg, h1, h2, h3⟩, h4⟩ := hR
    have hfresh := hS.fresh (d := name) (e := .mapp k V x) (v := .map (some g)) ⟨g, es, clock, by simp, h1, h2, mapHold_mono (fun x _ => vhold_mono (fun cs => Ty.holds_mono hrp V x cs)) _ _ h3⟩
      (fun b _ hb => by injection hb with hb; subst hb; exact ⟨.inr (Nat.le_trans hB hg), hpq _ hg (h4 _ rfl)⟩)
      (fun d' e' b _ _ hd hl' hb hb' => by
        injection hb with hb
        subst hb
        rcases hl d' e' _ hd hl' hb' with h | h
        · omega
        · exact hbs _ rfl h)
    refine ⟨_, hfresh, ?_, fun n hn => by simp [hn], ?_⟩
    · show Value.map (some g) = _
      simp
    · intro d e' b hd hl' hb
      by_cases hdn : d = name
      · subst hdn
        simp only [if_true] at hb
        right
        simp [RT.blk, hb]
      · simp only [hdn, if_false] at hb
        have hd' : (S.fresh name (.mapp k V x)).lh d = some e' := hd
        simp only [St.fresh, St.entry, St.scrub, beq_ff hdn, cond_false, Option.map_eq_some_iff] at hd'
        obtain ⟨e0, h5, rfl⟩ := hd'
        rw [LE.scrub_live] at hl'
        rcases hl d e0 b h5 hl' hb with h | h
        · exact .inl h
        · right
          simp only [RT.blk]
          split <;> simp [h]
  | own e T =>
    obtain ⟨⟨l, h1, h2, h3⟩, h4⟩ := hR
    have hblk : ∀ b, blkOf v = some b → B ≤ b := by
      intro b hb
      rcases h1.2 with ⟨rfl, _⟩ | ⟨g, cap, cur, rfl, hg, _⟩
      · cases hb
      · injection hb with hb; subst hb; exact hg
    have h1' : w.ownsRow 0 e T.size v x.length l := by
      refine ⟨h1.1, ?_⟩
      rcases h1.2 with h | ⟨g, cap, cur, e1, _, h5⟩
      · exact .inl h
      · exact .inr ⟨g, cap, cur, e1, Nat.zero_le _, h5⟩
    have hfresh := hS.fresh (d := name) (e := .row e T x) (v := v) ⟨l, by simpa using h1', rowHold_mono (fun x cs h => Ty.holds_mono hrp T x cs h) _ _ h2, h3⟩
      (fun b _ hb => ⟨.inr (Nat.le_trans hB (hblk b hb)), hpq b (hblk b hb) (h4 b hb)⟩)
      (fun d' e' b _ _ hd hl' hb hb' => by
        rcases hl d' e' b hd hl' hb' with h | h
        · have := hblk b hb; omega
        · exact hbs b hb h)
    refine ⟨_, hfresh, ?_, fun n hn => by simp [hn], ?_⟩
    · show v = _
      simp
    · intro d e' b hd hl' hb
      by_cases hdn : d = name
      · subst hdn
        simp only [if_true] at hb
        right
        simp [RT.blk, hb]
      · simp only [hdn, if_false] at hb
        have hd' : (S.fresh name (.row e T x)).lh d = some e' := hd
        simp only [St.fresh, St.entry, St.scrub, beq_ff hdn, cond_false, Option.map_eq_some_iff] at hd'
        obtain ⟨e0, h5, rfl⟩ := hd'
        rw [LE.scrub_live] at hl'
        rcases hl d e0 b h5 hl' hb with h | h
        · exact .inl h
        · right
          simp only [RT.blk]
          split <;> simp [h]

theorem app_scrub {bad : Nat → Bool} : ∀ (a b : AV), a.scrub bad = a → b.scrub bad = b → (a.app b).scrub bad = a.app b := by
  intro a
  induction a with
  | pair u v _ ih2 =>
    intro b ha hb
    simp only [AV.scrub, AV.pair.injEq] at ha
    simp only [AV.app, AV.scrub, ha.1, ih2 b ha.2 hb]
  | _ =>
    intro b ha hb
    simp only [AV.app]
    simp only [AV.scrub] at ha ⊢
    try simp only [ha, hb]
    try simp_all

theorem av_scrub {bad : Nat → Bool} : ∀ (T : Ty) (x : T.den), (T.av x).scrub bad = T.av x
  | .pair A B, x => app_scrub _ _ (av_scrub A x.1) (av_scrub B x.2)
  | .int _, _ => rfl
  | .bool, _ => rfl
  | .str, _ => rfl
  | .arr _, _ => rfl
  | .nil, _ => rfl
  | .ref _, _ => rfl
  | .fn _ _, _ => rfl
  | .map _ _, _ => rfl

/-- A datum names no block of the call's own. -/
theorem av_any {T : Ty} {x : T.den} {v : Value} {β β' : Nat → Value} (h : (T.av x).val1 p β v) : (T.av x).val1 p β' v := by
  have := AV.val1_scrub (bad := fun _ => true) (β' := β') (fun d hd => by cases hd) _ v h
  rwa [av_scrub] at this

theorem RT.av_name {R : RT} {x : R.den} {name : Nat} {v : Value} {β β' : Nat → Value} (h : (R.av name x).val1 p β v) (hβ : β' name = β name) : (R.av name x).val1 p β' v := by
  cases R with
  | dat T => exact av_any h
  | own e T => have h' : v = β name := h; show v = β' name; rw [hβ]; exact h'
  | map k V => have h' : v = β name := h; show v = β' name; rw [hβ]; exact h'

theorem bind_sound {tm : Array Value} {B : Nat} {r q : PH} {d : Nat} (hB : w0.heap.size ≤ B) (hrp : PH.le r p) (hqp : PH.le q p) (hpq : ∀ b, B ≤ b → q b = none → p b = none) :
    ∀ (Rs : List RT) (k : Nat) (x : RDens Rs) (vs : List Value) (bs : List Nat) (S : St) (β : Nat → Value), SatB M p0 w0 S tm w p β → resHold w B r q Rs x vs bs →
      (∀ d e b, S.lh d = some e → e.live = true → blkOf (β d) = some b → b < B ∨ b ∈ bs) →
      ∃ β', SatB M p0 w0 (resSt d k Rs x S) tm w p β' ∧ (resTup d k Rs x).vals p β' vs ∧ (∀ n, (∀ j, k ≤ j → n ≠ resName d j) → β' n = β n)
  | [], k, x, vs, bs, S, β, hS, hR, hl => by
    have : vs = [] := hR
    subst this
    exact ⟨β, hS, trivial, fun _ _ => rfl⟩
  | [R], k, x, vs, bs, S, β, hS, hR, hl => by
    obtain ⟨v, rfl, h1, h2⟩ := hR
    obtain ⟨β', h3, h4, h5, _⟩ := put_sound (name := resName d k) hS hB hrp hqp hpq h1 h2 hl
    exact ⟨β', h3, ⟨h4, trivial⟩, fun n hn => h5 n (hn k (Nat.le_refl _))⟩
  | R :: U :: Rs, k, x, vs, bs, S, β, hS, hR, hl => by
    obtain ⟨v, rest, rfl, h1, h2, h3⟩ := hR
    obtain ⟨β1, h4, h5, h6, h7⟩ := put_sound (name := resName d k) hS hB hrp hqp hpq h1 h2 hl
    obtain ⟨β2, h8, h9, h10⟩ := bind_sound hB hrp hqp hpq (U :: Rs) (k + 1) x.2 rest _ _ β1 h4 h3 h7
    refine ⟨β2, h8, ⟨RT.av_name h5 (h10 _ (fun j hj e => by have := resName_inj e; omega)), h9⟩, fun n hn => ?_⟩
    rw [h10 n (fun j hj => hn j (by omega)), h6 n (hn k (Nat.le_refl _))]

theorem vholds_mono {p q : PH} (h : PH.le p q) {T : Ty} {x : T.den} {v : Value} (hv : T.vholds p x v) : T.vholds q x v := by
  unfold Ty.vholds at hv ⊢
  cases T with
  | pair A C => obtain ⟨cs, e, hc⟩ := hv; exact ⟨cs, e, Ty.holds_mono h _ _ _ hc⟩
  | int k => exact Ty.holds_mono h (.int k) _ _ hv
  | bool => exact Ty.holds_mono h .bool _ _ hv
  | str => exact Ty.holds_mono h .str _ _ hv
  | arr T => exact Ty.holds_mono h (.arr T) _ _ hv
  | nil => exact Ty.holds_mono h .nil _ _ hv
  | ref T => exact Ty.holds_mono h (.ref T) _ _ hv
  | fn A B => exact Ty.holds_mono h (.fn A B) _ _ hv
  | map k V => exact Ty.holds_mono h (.map k V) _ _ hv

theorem vhold_iff {p : PH} {T : Ty} {x : T.den} {v : Value} : vhold T (T.holds p x) v ↔ T.vholds p x v := by
  cases T <;> simp [vhold, Ty.isPair, Ty.vholds]

theorem argsHold_mono {p q : PH} (h : PH.le p q) : ∀ (Ts : List Ty) (x : Dens Ts) (vs : List Value), argsHold p Ts x vs → argsHold q Ts x vs
  | [], _, _, e => e
  | [_], _, _, ⟨v, e, hv⟩ => ⟨v, e, vholds_mono h hv⟩
  | _ :: U :: Ts, _, _, ⟨v, rest, e, hv, hr⟩ => ⟨v, rest, e, vholds_mono h hv, argsHold_mono h (U :: Ts) _ _ hr⟩

theorem argsHold_cons {q : PH} {A : Ty} {refs : List Ty} {x : A.den} {c : Dens refs} {v : Value} {vs : List Value} (hv : A.vholds q x v) (hc : argsHold q refs c vs) : argsHold q (A :: refs) (consD A refs x c) (v :: vs) := by
  cases refs with
  | nil =>
    have : vs = [] := hc
    subst this
    exact ⟨v, rfl, hv⟩
  | cons U Us => exact ⟨v, vs, rfl, hv, hc⟩

theorem locs_vals {tm : Array Value} : ∀ (c : List (Nat × Nat)) (vs : List Value), locsHold β c vs → vs.length = c.length ∧ ∀ (i : Nat) a v, (c.map fun x => AV.loc x.1 x.2)[i]? = some a → vs[i]? = some v → a.val p β tm v
  | [], vs, h => by
    have : vs = [] := h
    subst this
    exact ⟨rfl, fun i a v h => by simp at h⟩
  | (d, off) :: c, vs, ⟨b, rest, e, hd, hr⟩ => by
    subst e
    obtain ⟨h1, h2⟩ := locs_vals c rest hr
    refine ⟨by simp [h1], fun i a v ha hv => ?_⟩
    cases i with
    | zero =>
      simp only [List.map_cons, List.getElem?_cons_zero, Option.some.injEq] at ha hv
      subst ha hv
      exact ⟨b, hd, rfl⟩
    | succ i => exact h2 i a v (by simpa using ha) (by simpa using hv)

/-- A function that is called as data. -/
theorem closD_sound {tm : Array Value} (hS : SatB M p0 w0 S tm w p β) {ss : Specs} (hss : ss.ok P) {f : FuncId} {c2 : List (Nat × Nat)} {A B : Ty} {s : Spec} {g : (A.den → Prop) × (A.den → B.den)} {v : Value} (hs : ss f = some s) (hc : callable P f = true)
    (h : closD S.lh A B s (c2.map fun x => .loc x.1 x.2) = some g) (hv : (AV.fn f [] c2).val p β tm v) : (Ty.fn A B).holds (full w) g [v] := by
  obtain ⟨hP, hsp⟩ := hss
  have hok := hsp f s hs
  obtain ⟨Ts, Rs, al, pre, F⟩ := s
  match Ts, Rs, pre, F, hok, h with
  | A' :: refs, [.dat B'], pre, F, hok, h =>
    simp only [closD] at h
    split at h <;> try cases h
    rename_i hT
    obtain ⟨rfl, rfl⟩ := hT
    split at h <;> simp only [Option.some.injEq, reduceCtorEq] at h
    rename_i c hcaps
    subst h
    obtain ⟨v1, v2, rfl, k1, k2⟩ := hv
    have k1 : v1 = #[] := by
      have : v1.toList = [] := k1
      apply Array.toList_inj.1
      simpa using this
    subst k1
    obtain ⟨l1, l2⟩ := locs_vals (p := p) (tm := tm) c2 v2.toList k2
    have hargs := toTys_sound hS (rows := true) refs _ c v2.toList hcaps (by simpa using l1) l2
    simp only [if_true] at hargs
    refine ⟨f, #[], v2, rfl, by rw [← hP]; exact hc, fun q w' va x hq hag hx hpre => ?_⟩
    have ha := argsHold_cons (vhold_iff.1 hx) (argsHold_mono hq refs c _ hargs)
    have := hok q w' (va :: v2.toList) (consD A' refs x c) hag ha hpre
    rw [hP] at this
    have e : (#[] ++ #[va] ++ v2 : Array Value) = (va :: v2.toList).toArray := by
      apply Array.toList_inj.1; simp
    rw [e]
    refine this.mono ?_
    rintro en w'' ⟨rs, q', rfl, z1, z2, z3, z4⟩
    obtain ⟨r, rfl, hr, _⟩ := z4
    have hqlt : ∀ b cs, q b = some cs → b < w'.heap.size := fun b cs h => hag.lt h
    refine ⟨r, q', rfl, z1, z2, z3, vhold_iff.2 ?_⟩
    have hr' : B'.vholds (if al = true then q.union q' else q') (F (consD A' refs x c)) r := hr
    cases al
    · exact vholds_mono (union_right hqlt z2) hr'
    · exact hr'
  | [], _, _, _, _, h => cases h
  | _ :: _, [], _, _, _, h => cases h
  | _ :: _, .own _ _ :: _, _, _, _, h => cases h
  | _ :: _, .map _ _ :: _, _, _, _, h => cases h
  | _ :: _, .dat _ :: _ :: _, _, _, _, h => cases h

theorem toTyC_vsound {tm : Array Value} (hS : SatB M p0 w0 S tm w p β) {ss : Specs} (hss : ss.ok P) {rows : Bool} {T : Ty} {a : AV} {x : T.den} {v : Value} (h : a.toTyC P ss S.lh rows T = some x) (ha : a.val p β tm v) : T.vholds (if rows then full w else p) x v := by
  unfold AV.toTyC at h
  split at h
  · rename_i A B f c2
    split at h <;> try cases h
    rename_i hr
    simp only [Bool.and_eq_true] at hr
    split at h <;> try cases h
    rename_i s hs
    rw [hr.1]
    exact closD_sound hS hss hs hr.2 h ha
  · exact toTy_vsound hS h ha

/-- What a call leaves, where it turns nothing. -/
theorem SatB.called {tm : Array Value} (hS : SatB M p0 w0 S tm w p β) {w' : World} {q : PH} (hk : Keep (fun _ => False) w w') (hq1 : ∀ b cs, q b = some cs → w.heap.size ≤ b) (hq2 : Agrees q w') : SatB M p0 w0 S tm w' (p.union q) β := by
  have hgrow : SatB M p0 w0 S tm w' p β := hS.grow hk.os hk.tape hk.output hk.size (fun b hb => hk.block b hb (fun h => h.elim))
  refine hgrow.more (union_left p q) (union_agrees hgrow.agr hq2) (fun b cs hb => ?_) (fun d' e' b hd hlv hb => ?_)
  · unfold PH.union at hb
    split at hb
    · rename_i c hc
      injection hb with hb
      subst hb
      exact .inl hc
    · exact .inr (.inl (Nat.le_trans hS.keep.size (hq1 b cs hb)))
  · have h1 := (hS.owns d' e' b hd hlv hb).2
    have h2 := LE.sat_lt d' e' hlv (hS.lhs d' e' hd) hb
    have h3 : q b = none := by
      cases hqb : q b with
      | none => rfl
      | some c => have := hq1 b c hqb; omega
    simp [PH.union, h1, h3]

theorem run_callv {f : FuncId} (h : callable P f = true) {o : Oper} {x : Operand} {args : Array Operand} {ts : Array TypeId} {v1 v2 : Array Value} (ho : o.op = .call { callee := .value x, args, argTypes := ts }) (hx : a.eval x = .func (.func f) v1 v2) :
    (execOp a.eval o).run P w = .ok (.enter f (v1 ++ args.map a.eval ++ v2)) w := by
  unfold execOp
  simp only [ho, Sem.run_bind, resolve, hx, Deferred.ofValue, Sem.run_pure, Result.andThen_ok, invoke]
  exact run_callFunc h _

/-- A call of a function that is data. -/
theorem fd_sound (hS : SatB M p0 w0 S a.tmps w p β) {ss : Specs} (hss : ss.ok P) {o : Oper} {x y : Operand} {ts : Array TypeId} (ho : o.op = .call { callee := .value x, args := #[y], argTypes := ts }) {A B : Ty} {g : (A.den → Prop) × (A.den → B.den)}
    (hx : (AV.fd A B g).val p β a.tmps (a.eval x)) {z : A.den} (hy : A.vholds p z (a.eval y)) (hpre : g.1 z) : VOK M p0 w0 S P o a w p β (B.av (g.2 z)) := by
  obtain ⟨hP, _⟩ := hss
  obtain ⟨f, v1, v2, e, hc, hf⟩ := hx
  injection e with e _
  intro K Q hK
  unfold Oper.wp
  rw [run_callv (by rw [hP]; exact hc) ho e]
  simp only [Oper.upon_enter]
  have := hf p w (a.eval y) z (PH.le.refl p) hS.agr (vhold_iff.2 hy) hpre
  rw [← hP] at this
  have e2 : (v1 ++ Array.map a.eval #[y] ++ v2) = v1 ++ #[a.eval y] ++ v2 := by simp
  rw [e2]
  refine this.mono ?_
  rintro en w' ⟨r, q, rfl, hk, hq1, hq2, hr⟩
  exact hK r w' _ (hS.called hk hq1 hq2) (union_left p q) (AV.val_of_val1 (vholds_val (tm := a.tmps) (vhold_iff.1 hr)))

/-- A call of a function with a contract. -/
theorem evCall_sound (hS : SatB M p0 w0 S a.tmps w p β) {ss : Specs} (hss : ss.ok P) {f : FuncId} {avs : List AV} {vs : List Value} {q0 : Prop} {Rs : List RT} {x : RDens Rs}
    (h : evCall P ss S.lh f avs = some (q0, ⟨Rs, x⟩)) (hq : q0) (hl : vs.length = avs.length) (hv : ∀ (i : Nat) a' v, avs[i]? = some a' → vs[i]? = some v → a'.val p β a.tmps v) (d : Nat) :
    callable P f = true ∧ Calls P f vs.toArray w fun e w' => ∃ rs p' β', e = .returned (retValue rs) ∧ PH.le p p' ∧ SatB M p0 w0 (resSt d 0 Rs x S) a.tmps w' p' β' ∧ (resTup d 0 Rs x).vals p' β' rs ∧
      (Rs.all RT.isDat = true → β' = β) := by
  unfold evCall at h
  split at h <;> try cases h
  rename_i hc
  split at h <;> try cases h
  rename_i s hs
  split at h <;> try cases h
  rename_i y hy
  refine ⟨hc, ?_⟩
  have hargs := toTysF_sound (fun _ _ _ _ h ha => toTyC_vsound hS hss h ha) _ _ _ vs hy hl hv
  have hAg : Agrees (if (!s.al) = true then full w else p) w := by
    split
    · exact full_agrees w
    · exact hS.agr
  refine (hss.2 f s hs _ w vs y hAg hargs hq).mono ?_
  rintro e w' ⟨rs, q, rfl, hk, hq1, hq2, hres⟩
  have hgrow : SatB M p0 w0 S a.tmps w' p β := hS.grow hk.os hk.tape hk.output hk.size (fun b hb => hk.block b hb (fun h => h.elim))
  have hplt : ∀ b cs, p b = some cs → b < w.heap.size := fun b cs h => hS.agr.lt h
  have hmore : SatB M p0 w0 S a.tmps w' (p.union q) β := hgrow.more (union_left p q) (union_agrees hgrow.agr hq2) (fun b cs hb => by
    unfold PH.union at hb
    split at hb
    · rename_i c hc
      injection hb with hb
      subst hb
      exact .inl hc
    · exact .inr (.inl (Nat.le_trans hS.keep.size (hq1 b cs hb)))) (fun d' e' b hd hlv hb => by
    have h1 := (hS.owns d' e' b hd hlv hb).2
    have h2 := LE.sat_lt d' e' hlv (hS.lhs d' e' hd) hb
    have h3 : q b = none := by
      cases hqb : q b with
      | none => rfl
      | some c => have := hq1 b c hqb; omega
    simp [PH.union, h1, h3])
  have hrp : PH.le (if s.al = true then (if (!s.al) = true then full w else p).union q else q) (p.union q) := by
    cases hal : s.al
    · simp only [Bool.false_eq_true, if_false]
      exact union_right hplt hq1
    · simp only [Bool.not_true, Bool.false_eq_true, if_false, if_true]
      exact PH.le.refl _
  have hpq : ∀ b, w.heap.size ≤ b → q b = none → (p.union q) b = none := by
    intro b hb hqb
    have : p b = none := by
      cases hpb : p b with
      | none => rfl
      | some c => have := hplt b c hpb; omega
    simp [PH.union, this, hqb]
  obtain ⟨β', h1, h2, h3⟩ := bind_sound (d := d) (Nat.le_trans hS.keep.size (Nat.le_refl _)) hrp (union_right hplt hq1) hpq s.Rs 0 (s.F y) rs [] S β hmore hres
    (fun d' e' b hd hlv hb => .inl (LE.sat_lt d' e' hlv (hS.lhs d' e' hd) hb))
  by_cases hdat : s.Rs.all RT.isDat = true
  · -- data alone: the ghosts stay
    have key : ∀ (Rs : List RT) (k : Nat) (x : RDens Rs) (S : St), Rs.all RT.isDat = true → resSt d k Rs x S = S := by
      intro Rs
      induction Rs with
      | nil => intro k x S _; rfl
      | cons R Rs ih =>
        intro k x S hd
        simp only [List.all_cons, Bool.and_eq_true] at hd
        cases R with
        | own e T => exact absurd hd.1 (by simp [RT.isDat])
        | map k V => exact absurd hd.1 (by simp [RT.isDat])
        | dat T =>
          cases Rs with
          | nil => rfl
          | cons U Rs => exact ih (k + 1) x.2 S hd.2
    have key2 : ∀ (Rs : List RT) (k : Nat) (x : RDens Rs) (vs : List Value), Rs.all RT.isDat = true → (resTup d k Rs x).vals (p.union q) β' vs → (resTup d k Rs x).vals (p.union q) β vs := by
      intro Rs
      induction Rs with
      | nil => intro k x vs _ h; cases vs <;> exact h
      | cons R Rs ih =>
        intro k x vs hd h
        simp only [List.all_cons, Bool.and_eq_true] at hd
        cases R with
        | own e T => exact absurd hd.1 (by simp [RT.isDat])
        | map k V => exact absurd hd.1 (by simp [RT.isDat])
        | dat T =>
          cases Rs with
          | nil => match vs, h with
            | v :: vs, h => exact ⟨av_any h.1, by have := h.2; cases vs <;> exact this⟩
          | cons U Rs => match vs, h with
            | v :: vs, h => exact ⟨av_any h.1, ih (k + 1) x.2 vs hd.2 h.2⟩
    refine ⟨rs, _, β, rfl, union_left p q, ?_, key2 s.Rs 0 (s.F y) rs hdat h2, fun _ => rfl⟩
    rw [key s.Rs 0 (s.F y) S hdat]
    exact hmore
  · exact ⟨rs, _, β', rfl, union_left p q, h1, h2, fun h => absurd h hdat⟩
end
end Go.Proofs.Ytgnamdjmjkeodaa
