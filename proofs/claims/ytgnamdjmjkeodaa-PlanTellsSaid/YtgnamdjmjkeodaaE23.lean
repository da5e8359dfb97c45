/- The engine, part 23: functions: a contract out of what the body asks for. -/
import Derived.Test.YtgnamdjmjkeodaaE36
namespace Go.Proofs.Ytgnamdjmjkeodaa
open Go

/-- No memory behind it. -/
def Ty.flat : Ty → Bool
  | .arr _ => false
  | .ref _ => false
  | .fn _ _ => false
  | .map _ _ => false
  | .pair A B => A.flat && B.flat
  | _ => true

def RT.flat : RT → Bool
  | .dat T => T.flat
  | .own _ T => T.flat
  | .map _ V => V.flat

/-- The name of the block that a result of one's own has. -/
def RT.nameOf : RT → AV → Option Nat
  | .own _ _, .own d => some d
  | .map _ _, .mp d => some d
  | _, _ => none

def argsWf : (Ts : List Ty) → Dens Ts → Prop
  | [], _ => True
  | [T], x => T.wf x
  | T :: U :: Ts, x => T.wf x.1 ∧ argsWf (U :: Ts) x.2

def argAV : (Ts : List Ty) → Dens Ts → Nat → AV
  | [], _, _ => .any
  | [T], x, s => if Nat.beq s 0 then T.av x else .any
  | T :: U :: Ts, x, s => match s with
    | 0 => T.av x.1
    | s + 1 => argAV (U :: Ts) x.2 s

def startSt (Ts : List Ty) (x : Dens Ts) (n : Nat) : St := { env := argAV Ts x, lh := fun _ => none, n := n, lock := fun _ => false }
/-- The rows that become data, since they lie within data that is handed back. -/
def datOwns : List RT → List AV → List Nat
  | .dat _ :: Rs, a :: avs => a.owns ++ datOwns Rs avs
  | .own _ _ :: Rs, _ :: avs => datOwns Rs avs
  | .map _ _ :: Rs, _ :: avs => datOwns Rs avs
  | _, _ => []

def ownNames : List RT → List AV → List Nat
  | R :: Rs, a :: avs => match R.nameOf a with
    | some d => d :: ownNames Rs avs
    | none => ownNames Rs avs
  | _, _ => []

def RT.eqs (S : St) (R : RT) (y : R.den) (a : AV) : Option Prop :=
  match R, y with
  | .dat T, y => (a.toTy false S.lh T).map fun x => x = y
  | .own e T, ys => match a with
    | .nils => some (([] : List T.den) = ys)
    | .own d => match S.lh d with
      | some (.row e' T' xs) => if h : T' = T then (if Nat.beq e' e then some ((h ▸ xs : List T.den) = ys) else none) else none
      | _ => none
    | _ => none
  | .map k V, m => match a with
    | .mp d => match S.lh d with
      | some (.mapp k' V' m') => if h : k' = k ∧ V' = V then some ((h.2 ▸ m' : List (Int × V.den)) = m) else none
      | _ => none
    | _ => none

def eqsAll (S : St) : (Rs : List RT) → RDens Rs → List AV → Option (List Prop)
  | [], _, avs => match avs with
    | [] => some []
    | _ :: _ => none
  | [R], y, avs => match avs with
    | [a] => (R.eqs S y a).map fun p => [p]
    | _ => none
  | R :: U :: Rs, y, avs => match avs with
    | [] => none
    | a :: avs => match R.eqs S y.1 a, eqsAll S (U :: Rs) y.2 avs with
      | some p, some ps => some (p :: ps)
      | _, _ => none

def vcRet (P : Program) (rvs : List ResultVar) (Rs : List RT) (y : RDens Rs) (S : St) : Prop :=
  match slotOuts P S rvs with
  | none => False
  | some avs => if distinct (ownNames Rs avs) then match eqsAll (S.freeze (datOwns Rs avs)) Rs y avs with
      | none => False
      | some ps => conj ps True
    else False

/-- What a function's body asks for, that its contract may hold. -/
def fnVC (P : Program) (ss : Specs) (ann : Nat → Option LoopGen) (fn : Func) (s : Spec) : Prop :=
  match fn.body with
  | none => False
  | some c => if Nat.ble s.Ts.length fn.ntmps && (s.al || s.Rs.all RT.flat) then
      ∀ x, argsWf s.Ts x → s.pre x → vc P ss (inlK P ss ann 4) ann c (startW ann (startSt s.Ts x fn.ntmps)) (vcRet P fn.results.toList s.Rs (s.F x)) (fun _ _ => False) (vcRet P fn.results.toList s.Rs (s.F x))
    else False

section
variable {P : Program} {p p0 : PH} {w w0 : World} {M : Nat → Prop} {S : St} {tm : Array Value} {β : Nat → Value}

theorem vholds_wf {T : Ty} {x : T.den} {v : Value} (h : T.vholds p x v) : T.wf x := Ty.holds_wf T x _ (vholds_cells h)

theorem argsHold_wf : ∀ (Ts : List Ty) (x : Dens Ts) (vs : List Value), argsHold p Ts x vs → argsWf Ts x
  | [], _, _, _ => trivial
  | [_], _, _, ⟨_, _, h⟩ => vholds_wf h
  | _ :: U :: Ts, x, _, ⟨_, rest, _, h1, h2⟩ => ⟨vholds_wf h1, argsHold_wf (U :: Ts) x.2 rest h2⟩

theorem argsHold_length : ∀ (Ts : List Ty) (x : Dens Ts) (vs : List Value), argsHold p Ts x vs → vs.length = Ts.length
  | [], _, vs, h => by have : vs = [] := h; rw [this]; rfl
  | [T], x, vs, ⟨v, e, h⟩ => by rw [e]; rfl
  | T :: U :: Ts, x, vs, ⟨v, rest, e, h1, h2⟩ => by rw [e, List.length_cons, argsHold_length (U :: Ts) x.2 rest h2]; rfl

theorem argAV_val : ∀ (Ts : List Ty) (x : Dens Ts) (vs : List Value), argsHold p Ts x vs → ∀ s, (argAV Ts x s).val p β tm (vs.getD s undef)
  | [], _, _, _, _ => trivial
  | [T], x, vs, ⟨v, e, h⟩, s => by
    subst e
    simp only [argAV]
    split
    · rename_i hs
      rw [Nat.eq_of_beq_eq_true hs]
      exact AV.val_of_val1 (vholds_val (tm := tm) h)
    · trivial
  | T :: U :: Ts, x, vs, ⟨v, rest, e, h1, h2⟩, s => by
    subst e
    match s with
    | 0 => exact AV.val_of_val1 (vholds_val (tm := tm) h1)
    | s + 1 => exact argAV_val (U :: Ts) x.2 rest h2 s

theorem start_sat {Ts : List Ty} {x : Dens Ts} {vs : List Value} (hA : Agrees p w) (h : argsHold p Ts x vs) {n : Nat} (hn : Ts.length ≤ n) (β : Nat → Value) :
    SatB (fun _ => False) p w (startSt Ts x n) (vs.toArray ++ Array.replicate (n - vs.toArray.size) undef) w p β := by
  have hl := argsHold_length Ts x vs h
  refine ⟨⟨rfl, rfl, rfl, Nat.le_refl _, fun _ _ _ => rfl⟩, hA, fun b cs hb => .inr (.inr hb), ?_, fun d e hd => (by cases hd), fun d e b hd => (by cases hd), fun d d' e e' b hd => (by cases hd), fun s => ?_⟩
  · simp [startSt, hl]; omega
  · have := argAV_val (tm := (vs.toArray ++ Array.replicate (n - vs.toArray.size) undef)) (β := β) Ts x vs h s
    have e : (vs.toArray ++ Array.replicate (n - vs.toArray.size) undef).getD s undef = vs.getD s undef := by
      simp only [Array.getD_eq_getD_getElem?, Array.getElem?_append, List.size_toArray, List.getElem?_toArray, List.getD]
      split
      · rfl
      · rename_i hs
        have h1 : vs[s]? = none := List.getElem?_eq_none (by omega)
        rw [h1]
        simp only [Array.getElem?_replicate]
        split <;> rfl
    rw [e]
    exact this

theorem flat_any : ∀ (T : Ty) (x : T.den) (cs : List Value) {p q : PH}, T.flat = true → T.holds p x cs → T.holds q x cs
  | .int _, _, _, _, _, _, h => h
  | .bool, _, _, _, _, _, h => h
  | .str, _, _, _, _, _, h => h
  | .arr _, _, _, _, _, h, _ => by cases h
  | .ref _, _, _, _, _, h, _ => by cases h
  | .fn _ _, _, _, _, _, h, _ => by cases h
  | .map _ _, _, _, _, _, h, _ => by cases h
  | .nil, _, _, _, _, _, h => h
  | .pair A B, _, _, _, _, hf, ⟨c1, c2, e, h1, h2⟩ => by
    simp only [Ty.flat, Bool.and_eq_true] at hf
    exact ⟨c1, c2, e, flat_any A _ _ hf.1 h1, flat_any B _ _ hf.2 h2⟩

theorem vholds_of {T : Ty} {x : T.den} {v : Value} {q : PH} (h : T.vholds p x v) (k : ∀ cs, T.holds p x cs → T.holds q x cs) : T.vholds q x v := by
  cases T with
  | pair A B => obtain ⟨cs, e, hc⟩ := h; exact ⟨cs, e, k _ hc⟩
  | int kd => exact k _ h
  | bool => exact k _ h
  | str => exact k _ h
  | arr T => exact k _ h
  | nil => exact k _ h
  | ref T => exact k _ h
  | fn A B => exact k _ h
  | map kd V => exact k _ h

/-- One result is what the contract says. -/
theorem eqs_sound (hS : SatB (fun _ => False) p0 w0 S tm w p β) {R : RT} {y : R.den} {a : AV} {v : Value} {q : Prop} (h : R.eqs S y a = some q) (hq : q) (ha : a.val p β tm v) {r f : PH} (hr : R.flat = true ∨ PH.le p r) (hf : ∀ b, p b = none → f b = none) :
    R.holds w w0.heap.size r f y v ∧ ∀ b, R.blk v = some b → ∃ d, R.nameOf a = some d ∧ β d = v ∧ ∃ e, S.lh d = some e ∧ e.live = true := by
  cases R with
  | dat T =>
    obtain ⟨x, hx, h0⟩ := Option.map_eq_some_iff.1 h
    have hxy : x = y := by
      have : (x = y) = q := h0
      rw [this]; exact hq
    subst hxy
    have h1 := toTy_vsound hS (rows := false) hx ha
    simp only [Bool.false_eq_true, if_false] at h1
    refine ⟨vholds_of h1 (fun cs hc => ?_), fun b hb => by cases hb⟩
    rcases hr with hr | hr
    · exact flat_any T x cs hr hc
    · exact Ty.holds_mono hr T x cs hc
  | own e T =>
    have hrow : ∀ {xs : List T.den} {l : List Value}, rowHold (T.holds p) xs l → rowHold (T.holds r) xs l := fun hh => rowHold_mono (fun x cs hc => by
      rcases hr with hr | hr
      · exact flat_any T x cs hr hc
      · exact Ty.holds_mono hr T x cs hc) _ _ hh
    unfold RT.eqs at h
    simp only at h
    split at h
    · injection h with h
      have hxy : ([] : List T.den) = y := by rw [h]; exact hq
      subst hxy
      have hv : v = .slice none 0 0 := ha
      subst hv
      exact ⟨⟨⟨[], World.ownsRow_nil w _ e T.size, rfl, by simp⟩, fun b hb => by cases hb⟩, fun b hb => by cases hb⟩
    · rename_i d
      split at h <;> try cases h
      rename_i e' T' xs hd
      split at h <;> try cases h
      rename_i hT
      subst hT
      split at h <;> simp only [Option.some.injEq, reduceCtorEq] at h
      rename_i he
      have he := Nat.eq_of_beq_eq_true he
      subst he
      have hxy : xs = y := by
        have : (xs = y) = q := h
        rw [this]; exact hq
      subst hxy
      have hv : v = β d := ha
      subst hv
      obtain ⟨l, g1, g2, g3⟩ := hS.lhs d _ hd
      have hown := fun b hb => hS.owns d _ b hd rfl hb
      refine ⟨⟨⟨l, ⟨g1.1, ?_⟩, hrow g2, g3⟩, fun b hb => hf b (hown b hb).2⟩, fun b hb => ⟨d, rfl, rfl, _, hd, rfl⟩⟩
      rcases g1.2 with h1 | ⟨g, cap, cur, e1, _, e3⟩
      · exact .inl h1
      · refine .inr ⟨g, cap, cur, e1, ?_, e3⟩
        rcases (hown g (by rw [e1]; rfl)).1 with h2 | h2
        · exact h2.elim
        · exact h2
    · cases h
  | map k V =>
    unfold RT.eqs at h
    simp only at h
    split at h <;> try cases h
    rename_i d
    split at h <;> try cases h
    rename_i k' V' m hd
    split at h <;> simp only [Option.some.injEq, reduceCtorEq] at h
    rename_i hT
    obtain ⟨rfl, rfl⟩ := hT
    have hxy : m = y := by
      have : (m = y) = q := h
      rw [this]; exact hq
    subst hxy
    have hv : v = β d := ha
    subst hv
    obtain ⟨g, es, clock, g1, g2, g3, g4⟩ := hS.lhs d _ hd
    have hown := fun b hb => hS.owns d _ b hd rfl hb
    refine ⟨⟨⟨g, es, clock, g1, ?_, g2, g3, mapHold_mono (fun x _ => vhold_mono (fun cs hc => ?_)) _ _ g4⟩, fun b hb => hf b (hown b hb).2⟩, fun b hb => ⟨d, rfl, rfl, _, hd, rfl⟩⟩
    · rcases (hown g (by rw [g1]; rfl)).1 with h2 | h2
      · exact h2.elim
      · exact h2
    · rcases hr with hr | hr
      · exact flat_any V' x cs hr hc
      · exact Ty.holds_mono hr V' x cs hc

theorem eqsAll_sound (hS : SatB (fun _ => False) p0 w0 S tm w p β) {r f : PH} (hf : ∀ b, p b = none → f b = none) : ∀ (Rs : List RT) (y : RDens Rs) (avs : List AV) (ps : List Prop) (vs : List Value) (bs : List Nat), eqsAll S Rs y avs = some ps → (∀ q ∈ ps, q) →
    (Rs.all RT.flat = true ∨ PH.le p r) → vs.length = avs.length → (∀ (i : Nat) a v, avs[i]? = some a → vs[i]? = some v → a.val p β tm v) → (ownNames Rs avs).Nodup →
    (∀ d ∈ ownNames Rs avs, ∀ b e, blkOf (β d) = some b → S.lh d = some e → e.live = true → b ∉ bs) → resHold w w0.heap.size r f Rs y vs bs
  | [], y, avs, ps, vs, bs, h, _, _, hl, _, _, _ => by
    cases avs with
    | nil => exact List.eq_nil_of_length_eq_zero hl
    | cons a avs => cases h
  | [R], y, avs, ps, vs, bs, h, hps, hfl, hl, hv, hn, hb => by
    match avs, h, hl, hv, hn, hb with
    | [a], h, hl, hv, hn, hb =>
      match vs, hl, hv with
      | [v], _, hv =>
        obtain ⟨q, hq, h0⟩ := Option.map_eq_some_iff.1 h
        subst h0
        obtain ⟨h1, h2⟩ := eqs_sound (r := r) (f := f) hS hq (hps q (by simp)) (hv 0 a v rfl rfl) (hfl.imp (fun h => by simpa using h) id) hf
        refine ⟨v, rfl, h1, fun b hbk => ?_⟩
        obtain ⟨d, hnm, rfl, e, hd, hlv⟩ := h2 b hbk
        exact hb d (by simp [ownNames, hnm]) b e (by cases R <;> first | exact hbk | cases hbk) hd hlv
  | R :: U :: Rs, y, avs, ps, vs, bs, h, hps, hfl, hl, hv, hn, hb => by
    match avs, h, hl, hv, hn, hb with
    | a :: avs, h, hl, hv, hn, hb =>
      match vs, hl, hv with
      | v :: vs, hl, hv =>
        unfold eqsAll at h
        simp only at h
        split at h <;> simp only [Option.some.injEq, reduceCtorEq] at h
        rename_i q qs hq hqs
        subst h
        obtain ⟨h1, h2⟩ := eqs_sound (r := r) (f := f) hS hq (hps q (by simp)) (hv 0 a v rfl rfl) (hfl.imp (fun h => by simp only [List.all_cons, Bool.and_eq_true] at h; exact h.1) id) hf
        have hfl' : (U :: Rs).all RT.flat = true ∨ PH.le p r := hfl.imp (fun h => by simp only [List.all_cons, Bool.and_eq_true] at h ⊢; exact h.2) id
        have hv' : ∀ (i : Nat) a v, avs[i]? = some a → vs[i]? = some v → a.val p β tm v := fun i a v ha hb => hv (i + 1) a v (by simpa using ha) (by simpa using hb)
        have hnm : ∀ d, R.nameOf a = some d → ownNames (R :: U :: Rs) (a :: avs) = d :: ownNames (U :: Rs) avs := fun d e => by simp only [ownNames, e]
        have hsub : ∀ d ∈ ownNames (U :: Rs) avs, d ∈ ownNames (R :: U :: Rs) (a :: avs) := by
          intro d hd
          unfold ownNames
          split
          · exact List.mem_cons_of_mem _ hd
          · exact hd
        have hn' : (ownNames (U :: Rs) avs).Nodup := by
          unfold ownNames at hn
          split at hn
          · exact (List.nodup_cons.1 hn).2
          · exact hn
        have hbo : ∀ b, R.blk v = some b → blkOf v = some b := fun b hb => by cases R <;> first | exact hb | cases hb
        refine ⟨v, vs, rfl, h1, fun b hbk => ?_, ?_⟩
        · obtain ⟨d, ha, hβ, e, hd, hlv⟩ := h2 b hbk
          exact hb d (by rw [hnm d ha]; simp) b e (by rw [hβ]; exact hbo b hbk) hd hlv
        · refine eqsAll_sound hS hf (U :: Rs) y.2 avs qs vs _ hqs (fun q hq => hps q (by simp [hq])) hfl' (by simpa using hl) hv' hn' (fun d' hd' b' e1 hb' hlh hlv => ?_)
          cases hbv : R.blk v with
          | none => exact hb d' (hsub d' hd') b' e1 hb' hlh hlv
          | some b0 =>
            simp only [List.mem_cons, not_or]
            refine ⟨fun e => ?_, hb d' (hsub d' hd') b' e1 hb' hlh hlv⟩
            subst e
            obtain ⟨d, ha, hβ, e, hd, hlv2⟩ := h2 b' hbv
            have := hS.inj d' d e1 e b' hlh hlv hd hlv2 hb' (by rw [hβ]; exact hbo _ hbv)
            subst this
            rw [hnm d' ha] at hn
            exact (List.nodup_cons.1 hn).1 hd'

/-- THE ENGINE'S THEOREM: what the body asks for gives the contract. -/
theorem fn_sound {ss : Specs} (hss : ss.ok P) {ann : Nat → Option LoopGen} {f : FuncId} {fn : Func} {s : Spec} (hfn : P.funcs[f]? = some fn) (h : fnVC P ss ann fn s) : s.ok P f := by
  unfold fnVC at h
  split at h
  · exact h.elim
  rename_i c hc
  split at h
  case isFalse => exact h.elim
  rename_i hck
  simp only [Bool.and_eq_true] at hck
  have hn := Nat.le_of_ble_eq_true hck.1
  intro p w vs x hA hargs hpre
  refine calls_of_wp hfn hc ?_
  have hstart0 := start_sat (β := fun _ => undef) hA hargs hn
  have hstart : SatB (fun _ => False) p w (startW ann (startSt s.Ts x fn.ntmps)) (vs.toArray ++ Array.replicate (fn.ntmps - vs.toArray.size) undef) w p (fun _ => undef) := by
    unfold startW
    split
    · exact hstart0.entry trivial (fun b hb => by cases hb) (fun _ _ _ _ hb => by cases hb)
    · exact hstart0
  have hlock : (startW ann (startSt s.Ts x fn.ntmps)).lock = fun _ => false := by
    unfold startW
    split <;> rfl
  have hvc := vc_sound hss (inlK_ok hss ann 4) (M := fun _ => False) (p0 := p) (w0 := w) (ds := []) c (dsts ann c) (fun _ => true) _ _ _ _ { tmps := vs.toArray ++ Array.replicate (fn.ntmps - vs.toArray.size) undef, defers := [] } w
    (h x (argsHold_wf _ _ _ hargs) hpre) (fun _ _ _ => rfl) (fun _ _ => rfl) (fun _ h => h) ⟨fun d hd => (by rw [hlock] at hd; cases hd), fun _ _ _ _ _ _ => rfl, fun d tm env hd => absurd hd (startW_noframe (fun _ _ _ h => by cases h) d tm env)⟩ ⟨p, _, hstart⟩ rfl
  have done : ∀ (S' : St) (a : Act) (w' : World), vcRet P fn.results.toList s.Rs (s.F x) S' → Sat (fun _ => False) p w S' a.tmps w' → a.defers = [] →
      a.defers = [] ∧ ∃ v, (results fn a.tmps).run P w' = .ok v w' ∧ ∃ (rs : List Value) (q : PH), Ending.returned v = .returned (retValue rs) ∧ Keep (fun _ => False) w w' ∧ (∀ b cs, q b = some cs → w.heap.size ≤ b) ∧ Agrees q w' ∧
        resHold w' w.heap.size (if s.al then p.union q else q) q s.Rs (s.F x) rs [] := by
    intro S' a w' hr hS hd
    obtain ⟨p1, β, hB⟩ := hS
    unfold vcRet at hr
    split at hr
    · exact hr.elim
    rename_i avs has
    split at hr
    case isFalse => exact hr.elim
    rename_i hdist
    split at hr
    · exact hr.elim
    rename_i ps hps
    obtain ⟨hpsall, _⟩ := conj_elim _ _ hr
    obtain ⟨rs, k1, k2, k3⟩ := results_run hB has
    obtain ⟨p2, hle, hB2⟩ := freeze_sound (datOwns s.Rs avs) S' p1 hB
    refine ⟨hd, retValue rs, k1, rs, fun b => if w.heap.size ≤ b then p2 b else none, rfl, hB.keep, fun b cs hb => ?_, fun b cs hb => ?_, ?_⟩
    · by_cases e : w.heap.size ≤ b
      · exact e
      · simp only [e, if_false] at hb; cases hb
    · by_cases e : w.heap.size ≤ b
      · simp only [e, if_true] at hb; exact hB2.agr b cs hb
      · simp only [e, if_false] at hb; cases hb
    · refine eqsAll_sound hB2 (fun b hb => by by_cases e : w.heap.size ≤ b <;> simp [e, hb]) s.Rs (s.F x) avs ps rs [] hps hpsall ?_ k2 (fun i a' v ha hv => AV.val_mono hle _ _ (k3 i a' v ha hv)) (distinct_nodup hdist) (fun _ _ b _ _ _ _ => by simp)
      cases hal : s.al
      · left
        have := hck.2
        rw [hal] at this
        simpa using this
      · right
        simp only [if_true]
        intro b cs hb
        unfold PH.union
        rcases hB2.old b cs hb with h1 | h1 | h1
        · cases hpb : p b with
          | none => simp [h1, hb]
          | some c' =>
            have := hA.lt hpb
            omega
        · exact h1.elim
        · simp [h1]
  refine wp_mono hvc ?_
  intro e a w' hq
  cases e with
  | normal => obtain ⟨S', h1, _, _, h4, h5⟩ := hq; exact done S' a w' h1 h4 h5
  | ret => obtain ⟨S', h1, _, _, h4, h5⟩ := hq; exact done S' a w' h1 h4 h5
  | exit i => obtain ⟨S', h1, _⟩ := hq; exact h1.elim
  | _ => exact hq.elim
end
end Go.Proofs.Ytgnamdjmjkeodaa
