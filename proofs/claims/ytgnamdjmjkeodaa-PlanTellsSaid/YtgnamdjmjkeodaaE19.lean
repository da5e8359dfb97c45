/- The engine, part 19: what a piece of code leaves alone. -/
import Derived.Test.YtgnamdjmjkeodaaE18
namespace Go.Proofs.Ytgnamdjmjkeodaa
open Go

/-- Nothing on the list is named, nothing hangs on a guard. -/
def Stable (bad : Nat → Bool) (x : AV) : Prop := x.scrub bad = x ∧ x.noGd = true

/-- From S to S' only slots on the list L, names that are 'bad', and unlocked entries have turned. -/
structure Fr (L : List Nat) (bad : Nat → Bool) (S S' : St) : Prop where
  n : S'.n = S.n
  lock : S'.lock = S.lock
  env : ∀ s, L.contains s = false → Stable bad (S.env s) → S'.env s = S.env s
  lh : ∀ d, S.lock d = true → (∀ e, S.lh d = some e → e.scrub bad = e) → S'.lh d = S.lh d
  frames : ∀ d tm env, S.lh d = some (.frame tm env) → ∃ env', S'.lh d = some (.frame tm env') ∧ ∀ s, Stable bad (env s) → env' s = env s

structure Tidy (bad : Nat → Bool) (S : St) : Prop where
  lock : ∀ d, S.lock d = true → bad d = false
  row : ∀ d e T xs, S.lh d = some (.row e T xs) → S.lock d = false → bad d = true
  frame : ∀ d tm env, S.lh d = some (.frame tm env) → S.lock d = true

theorem Fr.refl (L : List Nat) (bad : Nat → Bool) (S : St) : Fr L bad S S := ⟨rfl, rfl, fun _ _ _ => rfl, fun _ _ _ => rfl, fun _ _ env h => ⟨env, h, fun _ _ => rfl⟩⟩

theorem Fr.trans {L : List Nat} {bad : Nat → Bool} {S S1 S2 : St} (h : Fr L bad S S1) (k : Fr L bad S1 S2) : Fr L bad S S2 := by
  refine ⟨k.n.trans h.n, k.lock.trans h.lock, fun s hs hst => ?_, fun d hd hst => ?_, fun d tm env he => ?_⟩
  · have h1 := h.env s hs hst
    exact (k.env s hs (by rw [h1]; exact hst)).trans h1
  · have h1 := h.lh d hd hst
    exact (k.lh d (by rw [h.lock]; exact hd) (by rw [h1]; exact hst)).trans h1
  · obtain ⟨e1, k1, k2⟩ := h.frames d tm env he
    obtain ⟨e2, k3, k4⟩ := k.frames d tm e1 k1
    exact ⟨e2, k3, fun s hs => (k4 s (by rw [k2 s hs]; exact hs)).trans (k2 s hs)⟩

theorem scrub_sub {b1 bad : Nat → Bool} (hb : ∀ d, b1 d = true → bad d = true) : ∀ (x : AV), x.scrub bad = x → x.scrub b1 = x := by
  intro x
  induction x with
  | own d => intro h; simp only [AV.scrub] at h ⊢; cases h1 : b1 d; rfl; rw [hb d h1] at h; cases h
  | loc d off => intro h; simp only [AV.scrub] at h ⊢; cases h1 : b1 d; rfl; rw [hb d h1] at h; cases h
  | el d T i off => intro h; simp only [AV.scrub] at h ⊢; cases h1 : b1 d; rfl; rw [hb d h1] at h; cases h
  | mp d => intro h; simp only [AV.scrub] at h ⊢; cases h1 : b1 d; rfl; rw [hb d h1] at h; cases h
  | osl d T i n => intro h; simp only [AV.scrub] at h ⊢; cases h1 : b1 d; rfl; rw [hb d h1] at h; cases h
  | fn f c1 c2 =>
    intro h
    simp only [AV.scrub] at h ⊢
    have key : ∀ (c : List (Nat × Nat)), (c.any fun x => b1 x.1) = true → (c.any fun x => bad x.1) = true := by
      intro c hc
      obtain ⟨x, hx, h1⟩ := List.any_eq_true.1 hc
      exact List.any_eq_true.2 ⟨x, hx, hb _ h1⟩
    cases h1 : (c1.any fun x => b1 x.1) || (c2.any fun x => b1 x.1)
    · rfl
    · exfalso
      have : ((c1.any fun x => bad x.1) || (c2.any fun x => bad x.1)) = true := by
        simp only [Bool.or_eq_true] at h1 ⊢
        exact h1.imp (key c1) (key c2)
      rw [this] at h
      cases h
  | pair a b iha ihb => intro h; simp only [AV.scrub, AV.pair.injEq] at h ⊢; exact ⟨iha h.1, ihb h.2⟩
  | tup a b iha ihb => intro h; simp only [AV.scrub, AV.tup.injEq] at h ⊢; exact ⟨iha h.1, ihb h.2⟩
  | gd g w a iha => intro h; simp only [AV.scrub, AV.gd.injEq, true_and] at h ⊢; exact iha h
  | _ => intro _; rfl

theorem le_scrub_sub {b1 bad : Nat → Bool} (hb : ∀ d, b1 d = true → bad d = true) (e : LE) (h : e.scrub bad = e) : e.scrub b1 = e := by
  cases e with
  | cells c => simp only [LE.scrub, LE.cells.injEq] at h ⊢; exact scrub_sub hb c h
  | frame tm env => simp only [LE.scrub, LE.frame.injEq, true_and] at h ⊢; funext s; exact scrub_sub hb _ (congrFun h s)
  | _ => rfl

theorem killG_noGd {x : AV} (h : x.noGd = true) (d : Nat) : x.killG d = x := by cases x <;> first | (cases h; done) | rfl

section
variable {L : List Nat} {bad : Nat → Bool} {S : St}

theorem fr_set {d : Nat} (hd : L.contains d = true) (x : AV) : Fr L bad S (S.set d x) := by
  refine ⟨rfl, rfl, fun s hs hst => ?_, fun _ _ _ => rfl, fun _ _ env h => ⟨env, h, fun _ _ => rfl⟩⟩
  have hne : s ≠ d := by intro e; subst e; rw [hd] at hs; cases hs
  simp only [St.set, beq_ff hne, cond_false]
  exact killG_noGd hst.2 d

theorem tidy_set (h : Tidy bad S) (d : Nat) (x : AV) : Tidy bad (S.set d x) := ⟨h.lock, h.row, h.frame⟩

theorem fr_entry (h : Tidy bad S) {d : Nat} (hd : S.lock d = false) (e : LE) : Fr L bad S (S.entry d e) := by
  refine ⟨rfl, rfl, fun _ _ _ => rfl, fun d' hd' _ => ?_, fun d' tm env he => ⟨env, ?_, fun _ _ => rfl⟩⟩
  · have hne : d' ≠ d := by intro e; subst e; rw [hd] at hd'; cases hd'
    simp only [St.entry, beq_ff hne, cond_false]
  · have hne : d' ≠ d := by intro e; subst e; have := h.frame _ _ _ he; rw [hd] at this; cases this
    simp only [St.entry, beq_ff hne, cond_false]
    exact he

theorem tidy_entry (h : Tidy bad S) {d : Nat} {e : LE} (he : ∀ t T xs, e = .row t T xs → bad d = true) (hf : ∀ tm env, e ≠ .frame tm env := by intro _ _ h; cases h) : Tidy bad (S.entry d e) := by
  refine ⟨h.lock, fun d' t T xs hd' hl => ?_, fun d' tm env hd' => ?_⟩
  · by_cases hne : d' = d
    · subst hne
      simp only [St.entry, beq_tt, cond_true, Option.some.injEq] at hd'
      exact he t T xs hd'
    · simp only [St.entry, beq_ff hne, cond_false] at hd'
      exact h.row d' t T xs hd' hl
  · by_cases hne : d' = d
    · subst hne
      simp only [St.entry, beq_tt, cond_true, Option.some.injEq] at hd'
      exact absurd hd' (hf tm env)
    · simp only [St.entry, beq_ff hne, cond_false] at hd'
      exact h.frame d' tm env hd'

theorem fr_fresh (h : Tidy bad S) {d : Nat} (hd : bad d = true) (e : LE) (hf : ∀ tm env, e ≠ .frame tm env := by intro _ _ h; cases h) : Fr L bad S (S.fresh d e) ∧ Tidy bad (S.fresh d e) := by
  have hsub : ∀ x, Nat.beq x d = true → bad x = true := fun x hx => by rw [Nat.eq_of_beq_eq_true hx]; exact hd
  have hlk : ∀ d', S.lock d' = true → d' ≠ d := by intro d' hd' e; subst e; have := h.lock _ hd'; rw [hd] at this; cases this
  refine ⟨⟨rfl, rfl, fun _ _ hst => scrub_sub hsub _ hst.1, fun d' hd' hst => ?_, fun d' tm env he => ?_⟩, ⟨h.lock, fun d' t T xs hd' hl => ?_, fun d' tm env hd' => ?_⟩⟩
  · simp only [St.fresh, St.entry, St.scrub, beq_ff (hlk d' hd'), cond_false]
    cases hl : S.lh d' with
    | none => rfl
    | some e0 => simp only [Option.map_some, le_scrub_sub hsub e0 (hst e0 hl)]
  · have hne := hlk d' (h.frame _ _ _ he)
    refine ⟨fun s => (env s).scrub (fun x => Nat.beq x d), ?_, fun s hs => scrub_sub hsub _ hs.1⟩
    simp only [St.fresh, St.entry, St.scrub, beq_ff hne, cond_false, he, Option.map_some, LE.scrub]
  · by_cases hne : d' = d
    · subst hne; exact hd
    · simp only [St.fresh, St.entry, St.scrub, beq_ff hne, cond_false, Option.map_eq_some_iff] at hd'
      obtain ⟨e0, h1, h2⟩ := hd'
      cases e0 <;> simp only [LE.scrub, reduceCtorEq] at h2
      exact h.row d' _ _ _ h1 hl
  · by_cases hne : d' = d
    · subst hne
      simp only [St.fresh, St.entry, beq_tt, cond_true, Option.some.injEq] at hd'
      exact absurd hd' (hf tm env)
    · simp only [St.fresh, St.entry, St.scrub, beq_ff hne, cond_false, Option.map_eq_some_iff] at hd'
      obtain ⟨e0, h1, h2⟩ := hd'
      cases e0 <;> simp only [LE.scrub, reduceCtorEq] at h2
      exact h.frame d' _ _ h1

theorem fr_freeze1 (h : Tidy bad S) (d : Nat) : Fr L bad S (S.freeze1 d) ∧ Tidy bad (S.freeze1 d) := by
  unfold St.freeze1
  split
  · split
    · exact ⟨Fr.refl _ _ _, h⟩
    · rename_i hl
      exact ⟨fr_entry h (by simpa using hl) _, tidy_entry h (fun t T xs e => by cases e)⟩
  · split
    · exact ⟨Fr.refl _ _ _, h⟩
    · rename_i hl
      exact ⟨fr_entry h (by simpa using hl) _, tidy_entry h (fun t T xs e => by cases e)⟩
  · exact ⟨Fr.refl _ _ _, h⟩

theorem fr_freeze : ∀ (ds : List Nat) (S : St), Tidy bad S → Fr L bad S (S.freeze ds) ∧ Tidy bad (S.freeze ds)
  | [], S, h => ⟨Fr.refl _ _ _, h⟩
  | d :: ds, S, h => by
    have h1 := fr_freeze1 (L := L) h d
    have h2 := fr_freeze ds (S.freeze1 d) h1.2
    exact ⟨h1.1.trans h2.1, h2.2⟩

theorem fr_resSt {d : Nat} (hd : ∀ k, bad (resName d k) = true) : ∀ (Rs : List RT) (k : Nat) (x : RDens Rs) (S : St), Tidy bad S → Fr L bad S (resSt d k Rs x S) ∧ Tidy bad (resSt d k Rs x S) := by
  have put : ∀ (R : RT) (x : R.den) (k : Nat) (S : St), Tidy bad S → Fr L bad S (R.put x (resName d k) S) ∧ Tidy bad (R.put x (resName d k) S) := by
    intro R x k S h
    cases R with
    | dat T => exact ⟨Fr.refl _ _ _, h⟩
    | own e T => exact fr_fresh h (hd k) _
    | map k' V => exact fr_fresh h (hd k) _
  intro Rs
  induction Rs with
  | nil => intro k x S h; exact ⟨Fr.refl _ _ _, h⟩
  | cons R Rs ih =>
    intro k x S h
    cases Rs with
    | nil => exact put R x k S h
    | cons U Rs =>
      have h1 := put R x.1 k S h
      have h2 := ih (k + 1) x.2 _ h1.2
      exact ⟨h1.1.trans h2.1, h2.2⟩

/-- All names that an operation's slot can give. -/
def Named (L : List Nat) (bad : Nat → Bool) : Prop := ∀ d, L.contains d = true → ∀ k, bad (resName d k) = true

theorem Named.at0 (h : Named L bad) {d : Nat} (hd : L.contains d = true) : bad d = true := by
  have := h d hd 0
  simpa [resName] using this

theorem fr_fresh_set (hN : Named L bad) (h : Tidy bad S) {d : Nat} (hd : L.contains d = true) (e : LE) (x : AV) (hf : ∀ tm env, e ≠ .frame tm env := by intro _ _ h; cases h) : Fr L bad S ((S.fresh d e).set d x) ∧ Tidy bad ((S.fresh d e).set d x) := by
  have h1 := fr_fresh (L := L) h (hN.at0 hd) e hf
  exact ⟨h1.1.trans (fr_set hd x), tidy_set h1.2 d x⟩

theorem fr_evMapSet {P : Program} (h : Tidy bad S) {t : TypeId} {m x v : AV} {ps : List Prop} {S' : St} (he : evMapSet P S t m x v = some (ps, S')) : Fr L bad S S' ∧ Tidy bad S' := by
  unfold evMapSet at he
  split at he <;> try cases he
  rename_i d k' n _
  split at he <;> try cases he
  split at he <;> try cases he
  split at he
  · cases he
  rename_i hl
  split at he <;> simp only [Option.some.injEq, Prod.mk.injEq, reduceCtorEq] at he
  obtain ⟨_, rfl⟩ := he
  have h1 := fr_freeze (L := L) (bad := bad) v.owns S h
  have hl2 : (S.freeze v.owns).lock d = false := by rw [(freeze_env _ _).2.2]; simpa using hl
  exact ⟨h1.1.trans (fr_entry h1.2 hl2 _), tidy_entry h1.2 (fun t T xs e => by cases e)⟩

theorem fr_evE {P : Program} {ss : Specs} (hN : Named L bad) (h : Tidy bad S) {o : Oper} (hd : ∀ d, o.dst = some d → L.contains d = true) {ps : List Prop} {S' : St} (he : evE P ss S o = some (ps, S')) :
    Fr L bad S S' ∧ Tidy bad S' := by
  unfold evE at he
  split at he
  · split at he
    case h_2 => exact fr_evMapSet h he
    case h_3 => exact fr_evMapSet h he
    case h_4 => cases he
    rename_i t ad v ho
    unfold evStore at he
    split at he <;> try cases he
    split at he
    · cases he
    split at he
    · split at he <;> try cases he
      split at he <;> simp only [Option.some.injEq, Prod.mk.injEq, reduceCtorEq] at he <;> obtain ⟨rfl, rfl⟩ := he
      rename_i hb
      simp only [Bool.and_eq_true, Bool.not_eq_true'] at hb
      exact ⟨fr_entry h hb.1.1.1.1 _, tidy_entry h (fun t T xs e => by cases e)⟩
    · split at he <;> try cases he
      rename_i d T i off _ _ e' T' xs hlh
      split at he <;> try cases he
      rename_i hT
      subst hT
      split at he <;> try cases he
      rename_i hb
      split at he <;> simp only [Option.some.injEq, Prod.mk.injEq, reduceCtorEq] at he <;> obtain ⟨rfl, rfl⟩ := he
      simp only [Bool.and_eq_true, Bool.not_eq_true'] at hb
      have h1 := fr_freeze (L := L) (bad := bad) (S.look [] v).owns S h
      have hl : (S.freeze (S.look [] v).owns).lock d = false := by rw [(freeze_env _ _).2.2]; exact hb.1.1.1.1
      refine ⟨h1.1.trans (fr_entry h1.2 hl _), tidy_entry h1.2 (fun t T xs e => ?_)⟩
      exact h1.2.row _ _ _ _ hlh hl
    · cases he
  · rename_i d hdst
    have hdL := hd d hdst
    split at he
    · unfold evBox at he
      split at he <;> simp only [Option.some.injEq, Prod.mk.injEq, reduceCtorEq] at he <;> obtain ⟨rfl, rfl⟩ := he
      exact fr_fresh_set hN h hdL _ _
    · unfold evAlloc at he
      split at he <;> try cases he
      split at he <;> try cases he
      split at he <;> simp only [Option.some.injEq, Prod.mk.injEq, reduceCtorEq] at he <;> obtain ⟨rfl, rfl⟩ := he
      exact fr_fresh_set hN h hdL _ _
    · rename_i f args ts ho
      unfold evECall at he
      split at he <;> try cases he
      split at he <;> simp only [Option.some.injEq, Prod.mk.injEq, reduceCtorEq] at he <;> obtain ⟨rfl, rfl⟩ := he
      rename_i q0 Rs x hev hb
      have h0 : Fr L bad S (callSt ss S f args.toList) ∧ Tidy bad (callSt ss S f args.toList) := by
        unfold callSt
        split
        · split
          · exact fr_freeze _ S h
          · exact ⟨Fr.refl _ _ _, h⟩
        · exact ⟨Fr.refl _ _ _, h⟩
      have h1 := fr_resSt (L := L) (hN d hdL) Rs 0 x _ h0.2
      exact ⟨(h0.1.trans h1.1).trans (fr_set hdL _), tidy_set h1.2 d _⟩
    · split at he <;> try cases he
      split at he
      case isFalse =>
        unfold evAppendMake at he
        split at he <;> try cases he
        split at he <;> try cases he
        split at he <;> try cases he
        split at he <;> try cases he
        split at he <;> try cases he
        split at he <;> simp only [Option.some.injEq, Prod.mk.injEq, reduceCtorEq] at he <;> obtain ⟨rfl, rfl⟩ := he
        exact fr_fresh_set hN h hdL _ _
      unfold evAppend at he
      split at he <;> try cases he
      split at he <;> try cases he
      split at he <;> try cases he
      split at he
      · simp only [Option.some.injEq, Prod.mk.injEq] at he
        obtain ⟨rfl, rfl⟩ := he
        exact fr_fresh_set hN h hdL _ _
      · split at he <;> try cases he
        split at he <;> try cases he
        split at he <;> simp only [Option.some.injEq, Prod.mk.injEq, reduceCtorEq] at he <;> obtain ⟨rfl, rfl⟩ := he
        rename_i hb
        simp only [Bool.and_eq_true, Bool.not_eq_true'] at hb
        have gen : ∀ d1, S.lock d1 = false → ∀ e x, (∀ tm env, e ≠ .frame tm env) → Fr L bad S (((S.entry d1 .dead).fresh d e).set d x) ∧ Tidy bad (((S.entry d1 .dead).fresh d e).set d x) := by
          intro d1 hl e x hf
          have h1 : Fr L bad S (S.entry d1 .dead) := fr_entry h hl .dead
          have h2 : Tidy bad (S.entry d1 .dead) := tidy_entry h (fun t T xs e => by cases e)
          have h3 := fr_fresh_set (L := L) hN h2 hdL e x hf
          exact ⟨h1.trans h3.1, h3.2⟩
        exact gen _ hb.1.2 _ _ (by intro _ _ h; cases h)
      · cases he
    · split at he <;> try cases he
      rename_i x y t t' _ _
      unfold evCopy at he
      split at he <;> try cases he
      rename_i d1 i n T' ys _ _
      split at he <;> try cases he
      rename_i e T xs hd1
      split at he <;> try cases he
      rename_i hT
      subst hT
      split at he <;> simp only [Option.some.injEq, Prod.mk.injEq, reduceCtorEq] at he <;> obtain ⟨rfl, rfl⟩ := he
      rename_i hb
      simp only [Bool.and_eq_true, Bool.not_eq_true'] at hb
      have hl : S.lock d1 = false := hb.1.1.2
      have h1 : Fr L bad S (S.entry d1 (.row e T' (xs.take i ++ (ys.take (min ys.length n) ++ xs.drop (i + min ys.length n))))) := fr_entry h hl _
      have h2 : Tidy bad (S.entry d1 (.row e T' (xs.take i ++ (ys.take (min ys.length n) ++ xs.drop (i + min ys.length n))))) := tidy_entry h (fun t T xs e => h.row _ _ _ _ hd1 hl)
      exact ⟨h1.trans (fr_set hdL _), tidy_set h2 d _⟩
    · split at he <;> try cases he
      unfold evMake at he
      split at he <;> try cases he
      split at he <;> try cases he
      split at he <;> try cases he
      split at he <;> try cases he
      split at he <;> try cases he
      split at he <;> simp only [Option.some.injEq, Prod.mk.injEq, reduceCtorEq] at he <;> obtain ⟨rfl, rfl⟩ := he
      exact fr_fresh_set hN h hdL _ _
    · unfold evBuildSlice at he
      split at he <;> try cases he
      split at he <;> try cases he
      simp only at he
      split at he <;> try cases he
      split at he <;> simp only [Option.some.injEq, Prod.mk.injEq, reduceCtorEq] at he <;> obtain ⟨rfl, rfl⟩ := he
      have gen : ∀ ds e x, (∀ tm env, e ≠ .frame tm env) → Fr L bad S (((S.freeze ds).fresh d e).set d x) ∧ Tidy bad (((S.freeze ds).fresh d e).set d x) := by
        intro ds e x hf
        have h1 := fr_freeze (L := L) (bad := bad) ds S h
        have h3 := fr_fresh_set (L := L) hN h1.2 hdL e x hf
        exact ⟨h1.1.trans h3.1, h3.2⟩
      exact gen _ _ _ (by intro _ _ h; cases h)
    · unfold evCut at he
      split at he <;> try cases he
      rename_i d1 k b _ _
      split at he <;> try cases he
      rename_i e T xs hd1
      split at he <;> simp only [Option.some.injEq, Prod.mk.injEq, reduceCtorEq] at he <;> obtain ⟨rfl, rfl⟩ := he
      rename_i hb
      simp only [Bool.and_eq_true, Bool.not_eq_true'] at hb
      have hl : S.lock d1 = false := hb.1.1.2
      have h1 : Fr L bad S (S.entry d1 .dead) := fr_entry h hl .dead
      have h2 : Tidy bad (S.entry d1 .dead) := tidy_entry h (fun t T xs e => by cases e)
      have h3 := fr_fresh_set (L := L) hN h2 hdL (.row e T (xs.take b.toNat)) (.own d)
      exact ⟨h1.trans h3.1, h3.2⟩
    · unfold evBytesStr at he
      split at he <;> try cases he
      split at he <;> try cases he
      split at he <;> try cases he
      split at he <;> simp only [Option.some.injEq, Prod.mk.injEq, reduceCtorEq] at he <;> obtain ⟨rfl, rfl⟩ := he
      exact ⟨fr_set hdL _, tidy_set h _ _⟩
    · unfold evMakeMap at he
      split at he <;> try cases he
      split at he <;> simp only [Option.some.injEq, Prod.mk.injEq, reduceCtorEq] at he <;> obtain ⟨rfl, rfl⟩ := he
      exact fr_fresh_set hN h hdL _ _
    · cases he

theorem fr_evOp {P : Program} {ss : Specs} {ops : Array Oper} (hN : Named L bad) (h : Tidy bad S) {o : Oper} (hd : ∀ d, o.dst = some d → L.contains d = true) {ps : List Prop} {S' : St}
    (he : evOp P ss ops o S = some (ps, S')) : Fr L bad S S' ∧ Tidy bad S' := by
  unfold evOp at he
  split at he
  · split at he
    · rename_i hdst
      split at he <;> simp only [Option.some.injEq, Prod.mk.injEq, reduceCtorEq] at he <;> obtain ⟨rfl, rfl⟩ := he
      exact ⟨fr_set (hd _ hdst) _, tidy_set h _ _⟩
    · split at he
      · rename_i x hx
        injection he with he
        subst he
        split at hx <;> try cases hx
        exact fr_evE hN h hd hx
      · split at he <;> try cases he
        rename_i hdst
        split at he <;> simp only [Option.some.injEq, Prod.mk.injEq, reduceCtorEq] at he <;> obtain ⟨rfl, rfl⟩ := he
        exact ⟨fr_set (hd _ hdst) _, tidy_set h _ _⟩
  · split at he <;> try cases he
    rename_i hdst
    split at he <;> try cases he
    split at he <;> simp only [Option.some.injEq, Prod.mk.injEq, reduceCtorEq] at he <;> obtain ⟨rfl, rfl⟩ := he
    exact ⟨fr_set (hd _ hdst) _, tidy_set h _ _⟩

theorem fr_run {P : Program} {ss : Specs} {ops : Array Oper} (hN : Named L bad) : ∀ (os : List Oper) (S S' : St) (ps : List Prop), Tidy bad S → (∀ o ∈ os, ∀ d, o.dst = some d → L.contains d = true) →
    run P ss ops os S = some (ps, S') → Fr L bad S S' ∧ Tidy bad S'
  | [], S, S', ps, h, _, he => by
    simp only [run, Option.some.injEq, Prod.mk.injEq] at he
    obtain ⟨_, rfl⟩ := he
    exact ⟨Fr.refl _ _ _, h⟩
  | o :: os, S, S', ps, h, hd, he => by
    simp only [run] at he
    split at he <;> try cases he
    rename_i ps1 S1 h1
    split at he <;> simp only [Option.some.injEq, Prod.mk.injEq, reduceCtorEq] at he <;> obtain ⟨rfl, rfl⟩ := he
    rename_i ps2 S2 h2
    have k1 := fr_evOp hN h (hd o (by simp)) h1
    have k2 := fr_run hN os S1 S2 ps2 k1.2 (fun o' ho' => hd o' (by simp [ho'])) h2
    exact ⟨k1.1.trans k2.1, k2.2⟩

theorem opn_noGd_id {x : AV} (h : x.noGd = true) : x.opn [] = x := by cases x <;> first | (cases h; done) | rfl

theorem fr_clean (h : Tidy bad S) : Fr L bad S S.clean ∧ Tidy bad S.clean :=
  ⟨⟨rfl, rfl, fun _ _ hst => opn_noGd_id hst.2, fun _ _ _ => rfl, fun _ _ env h => ⟨env, h, fun _ _ => rfl⟩⟩, ⟨h.lock, h.row, h.frame⟩⟩
end
end Go.Proofs.Ytgnamdjmjkeodaa
