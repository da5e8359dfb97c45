/- The engine, part 21: a state taken for the head of a loop. -/
import Derived.Test.YtgnamdjmjkeodaaE20
namespace Go.Proofs.Ytgnamdjmjkeodaa
open Go

section
variable {M : Nat → Prop} {p0 : PH} {w0 : World} {S : St} {tm : Array Value} {w : World} {p : PH} {β : Nat → Value}

def newGhost (β : Nat → Value) : List (Nat × Option Nat) → Nat → Value
  | [], n => β n
  | (k, src) :: r, n => if n = k then ghost β src else newGhost β r n

theorem distinct_nodup : ∀ {l : List Nat}, distinct l = true → l.Nodup
  | [], _ => List.nodup_nil
  | x :: xs, h => by
    simp only [distinct, Bool.and_eq_true, Bool.not_eq_true'] at h
    refine List.nodup_cons.2 ⟨fun hm => ?_, distinct_nodup h.2⟩
    have := List.contains_iff_mem.2 hm
    rw [h.1] at this
    cases this

theorem newGhost_fits : ∀ (ren : List (Nat × Option Nat)), (ren.map (·.1)).Nodup → Fits β (newGhost β ren) ren
  | [], _ => by intro x hx; cases hx
  | (k, src) :: r, h => by
    simp only [List.map_cons, List.nodup_cons] at h
    intro x hx
    rcases List.mem_cons.1 hx with rfl | hx
    · simp [newGhost]
    · have hne : x.1 ≠ k := by
        intro e
        exact h.1 (List.mem_map.2 ⟨x, hx, e⟩)
      simp only [newGhost, hne, if_false]
      exact newGhost_fits r h.2 x hx

theorem newGhost_other : ∀ (ren : List (Nat × Option Nat)) (n : Nat), (∀ x ∈ ren, x.1 ≠ n) → newGhost β ren n = β n
  | [], _, _ => rfl
  | (k, src) :: r, n, h => by
    have h1 := h (k, src) (by simp)
    simp only [newGhost, Ne.symm h1, if_false]
    exact newGhost_other r n (fun x hx => h x (by simp [hx]))

theorem mem_renNames {ren : List (Nat × Option Nat)} {x : Nat × Option Nat} (h : x ∈ ren) : x.1 ∈ renNames ren ∧ ∀ d, x.2 = some d → d ∈ renNames ren := by
  unfold renNames
  refine ⟨List.mem_flatMap.2 ⟨x, h, by simp⟩, fun d hd => List.mem_flatMap.2 ⟨x, h, by simp [hd]⟩⟩

theorem sources_inj : ∀ (ren : List (Nat × Option Nat)), (sources ren).Nodup → ∀ {d d' d0 : Nat}, (d, some d0) ∈ ren → (d', some d0) ∈ ren → d = d'
  | [], _, _, _, _, h, _ => by cases h
  | (k, src) :: r, hn, d, d', d0, h, h' => by
    simp only [sources, List.flatMap_cons] at hn
    have hn' := List.nodup_append.1 hn
    have mem : ∀ {d}, (d, some d0) ∈ r → d0 ∈ r.flatMap (fun x => x.2.toList) := fun hm => List.mem_flatMap.2 ⟨_, hm, by simp⟩
    rcases List.mem_cons.1 h with e | h <;> rcases List.mem_cons.1 h' with e' | h'
    · rw [Prod.mk.injEq] at e e'; rw [e.1, e'.1]
    · rw [Prod.mk.injEq] at e
      exact absurd rfl (hn'.2.2 d0 (by rw [← e.2]; simp) d0 (mem h'))
    · rw [Prod.mk.injEq] at e'
      exact absurd rfl (hn'.2.2 d0 (by rw [← e'.2]; simp) d0 (mem h))
    · exact sources_inj r hn'.2.1 h h'

theorem gets_own : ∀ (cs : List Cr) (x : CDens cs) (ren : List (Nat × Option Nat)), gets S cs = some (x, ren) → ∀ s e T d, Cr.own s e T ∈ cs → S.env s = .own d → (s, some d) ∈ ren := by
  have one : ∀ (c : Cr) (x : c.den) (ren : List (Nat × Option Nat)), c.get S = some (x, ren) → ∀ s e T d, c = .own s e T → S.env s = .own d → (s, some d) ∈ ren := by
    intro c x ren h s e T d hc hd
    subst hc
    obtain ⟨y, hy, h0⟩ := Option.map_eq_some_iff.1 h
    injection h0 with _ h00
    subst h00
    rw [hd] at hy
    simp only [AV.rowAt] at hy
    split at hy <;> try cases hy
    split at hy <;> try cases hy
    split at hy <;> simp only [Option.some.injEq, reduceCtorEq] at hy
    subst hy
    simp
  intro cs
  induction cs with
  | nil => intro x ren _ s e T d hm; cases hm
  | cons c cs ih =>
    intro x ren h s e T d hm hd
    cases cs with
    | nil =>
      simp only [List.mem_singleton] at hm
      exact one c x ren h s e T d hm.symm hd
    | cons c' cs =>
      unfold gets at h
      split at h <;> try cases h
      rename_i x1 r1 y r2 h1 h2
      rcases List.mem_cons.1 hm with hm | hm
      · exact List.mem_append_left _ (one c x1 r1 h1 s e T d hm.symm hd)
      · exact List.mem_append_right _ (ih y r2 h2 s e T d hm hd)

theorem rebase {L X : List Nat} {cs : List Cr} {x : CDens cs} {ren : List (Nat × Option Nat)} (hS : SatB M p0 w0 S tm w p β) (hg : gets S cs = some (x, ren)) (hc : cok S L X cs ren = true) (hsi : sameIn cs = true) :
    SatB M p0 w0 (loopSt S L X cs x) tm w p (newGhost β ren) := by
  simp only [cok, Bool.and_eq_true] at hc
  obtain ⟨⟨⟨hnames, hsrc⟩, hkeys⟩, hboxes⟩ := hc
  have hsrc := distinct_nodup hsrc
  have hfits := newGhost_fits (β := β) ren (distinct_nodup hkeys)
  have hbad : ∀ n ∈ renNames ren, badE L X n = true := fun n hn => List.all_eq_true.1 hnames n hn
  have hβ : ∀ n, badE L X n = false → newGhost β ren n = β n := fun n hn => newGhost_other ren n (fun y hy e => by
    have := hbad _ (mem_renNames hy).1
    rw [e, hn] at this
    cases this)
  have hbx : ∀ d ∈ cs.flatMap Cr.boxName, badE L X d = false ∧ S.lock d = false := fun d hd => by
    have := List.all_eq_true.1 hboxes d hd
    simpa using this
  have hboxβ : ∀ d ∈ cs.flatMap Cr.boxName, newGhost β ren d = β d := fun d hd => hβ d (hbx d hd).1
  have hsame : ∀ s s' d, Cr.same s s' ∈ cs → S.env s' = .own d → newGhost β ren s' = β d := fun s s' d hm hd => by
    have h1 := List.all_eq_true.1 hsi _ hm
    simp only at h1
    obtain ⟨c', hc', h2⟩ := List.any_eq_true.1 h1
    cases c' <;> simp only [Bool.false_eq_true] at h2
    rename_i s'' e T
    have h3 := Nat.eq_of_beq_eq_true h2
    subst h3
    exact hfits _ (gets_own cs x ren hg _ _ _ d hc' hd)
  have genv := fun {s : Nat} {a : AV} => gets_env hS cs x ren hg hfits hsame (s := s) (a := a)
  have glh := fun {d : Nat} {e : LE} => gets_lh hS cs x ren hg hfits hboxβ (d := d) (e := e)
  -- the owner of each entry
  have owner : ∀ d e b, (loopSt S L X cs x).lh d = some e → e.live = true → blkOf (newGhost β ren d) = some b → ∃ d0 e0, S.lh d0 = some e0 ∧ e0.live = true ∧ blkOf (β d0) = some b ∧ ((d0 = d ∧ badE L X d = false) ∨ (d, some d0) ∈ ren) := by
    intro d e b hd hl hb
    simp only [loopSt] at hd
    split at hd
    · rename_i e' he
      injection hd with hd
      subst hd
      obtain ⟨d0, e0, k1, k2, k3, k4⟩ := (glh he).2.1 b hb
      exact ⟨d0, e0, k1, k2, k3, k4.imp (fun k => ⟨k.1, (hbx d k.2).1⟩) id⟩
    · cases hbd : badE L X d
      · rw [hbd] at hd
        simp only [cond_false, Option.map_eq_some_iff] at hd
        obtain ⟨e0, h1, rfl⟩ := hd
        rw [LE.scrub_live] at hl
        rw [hβ d hbd] at hb
        exact ⟨d, e0, h1, hl, hb, .inl ⟨rfl, rfl⟩⟩
      · rw [hbd] at hd; cases hd
  refine ⟨hS.keep, hS.agr, hS.old, hS.size, fun d e hd => ?_, fun d e b hd hl hb => ?_, fun d d' e e' b hd hl hd' hl' hb hb' => ?_, fun s => ?_⟩
  · simp only [loopSt] at hd
    split at hd
    · rename_i e' he
      injection hd with hd
      subst hd
      exact (glh he).1
    · cases hbd : badE L X d
      · rw [hbd] at hd
        simp only [cond_false, Option.map_eq_some_iff] at hd
        obtain ⟨e0, h1, rfl⟩ := hd
        exact LE.sat_scrub hβ d hbd e0 (hS.lhs d e0 h1)
      · rw [hbd] at hd; cases hd
  · obtain ⟨d0, e0, k1, k2, k3, _⟩ := owner d e b hd hl hb
    exact hS.owns d0 e0 b k1 k2 k3
  · obtain ⟨d0, e0, k1, k2, k3, k4⟩ := owner d e b hd hl hb
    obtain ⟨d1, e1, q1, q2, q3, q4⟩ := owner d' e' b hd' hl' hb'
    have h01 := hS.inj d0 d1 e0 e1 b k1 k2 q1 q2 k3 q3
    subst h01
    rcases k4 with ⟨rfl, h1⟩ | h1 <;> rcases q4 with ⟨h3, h2⟩ | h2
    · exact h3
    · have := hbad _ ((mem_renNames h2).2 _ rfl); rw [h1] at this; cases this
    · subst h3
      have := hbad _ ((mem_renNames h1).2 _ rfl); rw [h2] at this; cases this
    · exact sources_inj ren hsrc h1 h2
  · simp only [loopSt]
    split
    · rename_i a ha
      exact genv ha
    · cases hL : L.contains s
      · simp only [cond_false]
        exact opn_val (ctx_nil _) _ _ (AV.val_scrub hβ _ _ (hS.env s))
      · trivial

theorem scrub_idem (bad : Nat → Bool) : ∀ (x : AV), (x.scrub bad).scrub bad = x.scrub bad := by
  intro x
  induction x with
  | own d => simp only [AV.scrub]; cases h : bad d <;> simp [AV.scrub, h]
  | loc d off => simp only [AV.scrub]; cases h : bad d <;> simp [AV.scrub, h]
  | el d T i off => simp only [AV.scrub]; cases h : bad d <;> simp [AV.scrub, h]
  | mp d => simp only [AV.scrub]; cases h : bad d <;> simp [AV.scrub, h]
  | osl d T i n => simp only [AV.scrub]; cases h : bad d <;> simp [AV.scrub, h]
  | fn f c1 c2 =>
    simp only [AV.scrub]
    cases h : (c1.any fun x => bad x.1) || (c2.any fun x => bad x.1)
    · simp only [cond_false, AV.scrub, h]
    · rfl
  | pair a b iha ihb => simp only [AV.scrub, iha, ihb]
  | tup a b iha ihb => simp only [AV.scrub, iha, ihb]
  | gd g w a iha => simp only [AV.scrub, iha]
  | _ => rfl

theorem le_scrub_idem (bad : Nat → Bool) (e : LE) : (e.scrub bad).scrub bad = e.scrub bad := by
  cases e <;> simp [LE.scrub, scrub_idem]

theorem opn_scrub (bad : Nat → Bool) (x : AV) : Stable bad ((x.scrub bad).opn []) := by
  refine ⟨?_, opn_noGd _ _⟩
  cases h : x.scrub bad <;> first
    | rfl
    | (rw [← h]; have : (x.scrub bad).opn [] = x.scrub bad := by (rw [h]; rfl)
       rw [this]; exact scrub_idem bad x)

/-- Behind a round, the state is again one of the loop's head. -/
theorem loopSt_again {L X : List Nat} {cs : List Cr} {x x' : CDens cs} {S' : St} (hF : Fr L (badE L X) (loopSt S L X cs x) S') (henv : ∀ (y : CDens cs) s, (envOf cs y s).isSome = (envOf cs x s).isSome)
    (hlh : ∀ (y : CDens cs) d, (lhOf cs y d).isSome = (lhOf cs x d).isSome) (hbox : ∀ d, (cs.flatMap Cr.boxName).contains d = true → (lhOf cs x d).isSome = true) :
    (loopSt S' L X cs x').env = (loopSt S L X cs x').env ∧ (loopSt S' L X cs x').lh = (loopSt S L X cs x').lh ∧ (loopSt S' L X cs x').n = S.n := by
  refine ⟨?_, ?_, hF.n⟩
  · funext s
    simp only [loopSt]
    cases he : envOf cs x' s with
    | some a => rfl
    | none =>
      cases hL : L.contains s
      · simp only [cond_false]
        have hnone : envOf cs x s = none := by
          have := henv x' s
          rw [he] at this
          cases hx : envOf cs x s with
          | none => rfl
          | some a => rw [hx] at this; cases this
        have e1 : (loopSt S L X cs x).env s = ((S.env s).scrub (badE L X)).opn [] := by
          simp only [loopSt, hnone, hL, cond_false]
        have hst : Stable (badE L X) ((loopSt S L X cs x).env s) := by rw [e1]; exact opn_scrub _ _
        have h2 := hF.env s hL hst
        rw [h2, e1, (opn_scrub (badE L X) (S.env s)).1, opn_noGd_id (opn_noGd _ _)]
      · rfl
  · funext d
    simp only [loopSt]
    cases he : lhOf cs x' d with
    | some a => rfl
    | none =>
      cases hb : badE L X d
      · simp only [cond_false]
        have hnone : lhOf cs x d = none := by
          have := hlh x' d
          rw [he] at this
          cases hx : lhOf cs x d with
          | none => rfl
          | some a => rw [hx] at this; cases this
        have hnb : (cs.flatMap Cr.boxName).contains d = false := by
          cases hbx : (cs.flatMap Cr.boxName).contains d
          · rfl
          · have := hbox d hbx; rw [hnone] at this; cases this
        have e1 : (loopSt S L X cs x).lh d = (S.lh d).map (LE.scrub (badE L X)) := by
          simp only [loopSt, hnone, hb, cond_false]
        have hlock : (loopSt S L X cs x).lock d = true := by simp only [loopSt, hb, hnb]; rfl
        have h2 := hF.lh d hlock (fun e he => by
          rw [e1] at he
          simp only [Option.map_eq_some_iff] at he
          obtain ⟨e0, _, rfl⟩ := he
          exact le_scrub_idem _ e0)
        rw [h2, e1]
        cases S.lh d with
        | none => rfl
        | some e0 => simp only [Option.map_some, le_scrub_idem]
      · rfl
end
end Go.Proofs.Ytgnamdjmjkeodaa
