/- The engine, part 13: what turns the world: boxes, stores, rows that become unchanging. -/
import Derived.Test.YtgnamdjmjkeodaaE12
namespace Go.Proofs.Ytgnamdjmjkeodaa
open Go

def AV.owns : AV → List Nat
  | .own d => [d]
  | .mp d => [d]
  | .pair a b => a.owns ++ b.owns
  | _ => []

def St.freeze1 (S : St) (d : Nat) : St :=
  match S.lh d with
  | some (.row _ T xs) => if S.lock d then S else S.entry d (.froz T xs)
  | some (.mapp k V m) => if S.lock d then S else S.entry d (.frozm k V m)
  | _ => S

def St.freeze (S : St) (ds : List Nat) : St := ds.foldl St.freeze1 S

section
variable {M : Nat → Prop} {p0 : PH} {w0 : World} {S : St} {tm : Array Value} {w : World} {p : PH} {β : Nat → Value} {P : Program}

theorem row_holds_at (hS : SatB M p0 w0 S tm w p β) {d : Nat} {e : TypeId} {T : Ty} {xs : List T.den} (hd : S.lh d = some (.row e T xs)) :
    (xs = [] ∧ β d = .slice none 0 0) ∨ ∃ (g cap : Nat) (cur : Array Value) (l : List Value), β d = .slice (some ⟨g, 0, none⟩) xs.length cap ∧ w.heap[g]? = some (.cells cur e (0, 0)) ∧ xs.length ≤ cap ∧ rowHold (T.holds p) xs l ∧
      (∀ (j : Nat) (u : Value), l[j]? = some u → cur[j]? = some u) ∧ xs.length * T.bytes ≤ big := by
  obtain ⟨l, h1, h2, h3⟩ := hS.lhs d _ hd
  rcases h1.2 with ⟨e0, h0⟩ | ⟨g, cap, cur, e1, _, e2, e3, _, e4, e5⟩
  · exact .inl ⟨List.eq_nil_of_length_eq_zero h0, e0⟩
  · refine .inr ⟨g, cap, cur, l, e1, e2, e3, h2, fun j u hu => ?_, h3⟩
    rw [← e5, List.getElem?_take] at hu
    split at hu
    · simpa using hu
    · cases hu

theorem freeze1_sound (hS : SatB M p0 w0 S tm w p β) (d : Nat) : ∃ p', PH.le p p' ∧ SatB M p0 w0 (S.freeze1 d) tm w p' β := by
  unfold St.freeze1
  split
  · rename_i e T xs hd
    split
    · exact ⟨p, PH.le.refl p, hS⟩
    · rcases row_holds_at hS hd with ⟨rfl, hb⟩ | ⟨g, cap, cur, l, hb, hg, hc, hr, hl, hbig⟩
      · refine ⟨p, PH.le.refl p, hS.entry (d := d) (e := .froz T []) ?_ (fun b h => by cases h) (fun d' e' b _ h => by cases h)⟩
        exact ⟨none, 0, [], by rw [hb]; rfl, by simp, by simp, rfl, fun h => absurd rfl h⟩
      · have hpg : p g = none := (hS.owns d _ g hd rfl (by rw [hb]; rfl)).2
        refine ⟨fun b => if b = g then some (.cells cur) else p b, fun b cs h => ?_, ?_⟩
        · by_cases e : b = g
          · subst e; rw [hpg] at h; cases h
          · simpa [e] using h
        · have hle : PH.le p (fun b => if b = g then some (.cells cur) else p b) := fun b cs h => by
            by_cases e : b = g
            · subst e; rw [hpg] at h; cases h
            · simpa [e] using h
          have hS1 : SatB M p0 w0 (S.entry d .dead) tm w p β := hS.entry trivial (fun b h => by cases h) (fun d' e' b _ h => by cases h)
          have hS2 := hS1.more hle (fun b cs h => by
            by_cases e : b = g
            · subst e
              simp only [if_true, Option.some.injEq] at h
              subst h
              exact ⟨_, _, hg⟩
            · simp only [e, if_false] at h
              exact hS.agr b cs h) (fun b cs h => by
            by_cases e : b = g
            · subst e
              exact .inr ((hS.owns d _ b hd rfl (by rw [hb]; rfl)).1.symm)
            · simp only [e, if_false] at h
              exact .inl h) (fun d' e' b hd' hl' hb' => by
            have hne : d' ≠ d := by
              intro e
              subst e
              simp only [St.entry, beq_tt, cond_true, Option.some.injEq] at hd'
              subst hd'
              cases hl'
            simp only [St.entry, beq_ff hne, cond_false] at hd'
            have h1 := (hS.owns d' e' b hd' hl' hb').2
            by_cases e : b = g
            · subst e
              exact absurd (hS.inj d' d e' _ b hd' hl' hd rfl hb' (by rw [hb]; rfl)) hne
            · simpa [e] using h1)
          have hS3 := hS2.entry (d := d) (e := .froz T xs) ⟨_, cap, l, by rw [hb], hc, hbig, rowHold_mono (fun x cs h => Ty.holds_mono hle T x cs h) _ _ hr, fun _ => ⟨g, 0, rfl, fun j u hu => by
            simp only [PH.cell, if_true, Option.bind_some, Nat.zero_add, Blk.get]
            exact hl j u hu⟩⟩ (fun b h => by cases h) (fun d' e' b _ h => by cases h)
          have e2 : (S.entry d .dead).entry d (.froz T xs) = S.entry d (.froz T xs) := by
            unfold St.entry
            simp only [St.mk.injEq, true_and, and_true]
            funext x
            cases Nat.beq x d <;> rfl
          rwa [e2] at hS3
  · rename_i k V m hd
    split
    · exact ⟨p, PH.le.refl p, hS⟩
    · obtain ⟨g, es, clock, hb, hg, hst, hm⟩ := hS.lhs d _ hd
      have hpg : p g = none := (hS.owns d _ g hd rfl (by rw [hb]; rfl)).2
      refine ⟨fun b => if b = g then some (.map es) else p b, fun b cs h => ?_, ?_⟩
      · by_cases e : b = g
        · subst e; rw [hpg] at h; cases h
        · simpa [e] using h
      · have hle : PH.le p (fun b => if b = g then some (.map es) else p b) := fun b cs h => by
          by_cases e : b = g
          · subst e; rw [hpg] at h; cases h
          · simpa [e] using h
        have hS1 : SatB M p0 w0 (S.entry d .dead) tm w p β := hS.entry trivial (fun b h => by cases h) (fun d' e' b _ h => by cases h)
        have hS2 := hS1.more hle (fun b cs h => by
          by_cases e : b = g
          · subst e
            simp only [if_true, Option.some.injEq] at h
            subst h
            exact ⟨_, hg⟩
          · simp only [e, if_false] at h
            exact hS.agr b cs h) (fun b cs h => by
          by_cases e : b = g
          · subst e
            exact .inr ((hS.owns d _ b hd rfl (by rw [hb]; rfl)).1.symm)
          · simp only [e, if_false] at h
            exact .inl h) (fun d' e' b hd' hl' hb' => by
          have hne : d' ≠ d := by
            intro e
            subst e
            simp only [St.entry, beq_tt, cond_true, Option.some.injEq] at hd'
            subst hd'
            cases hl'
          simp only [St.entry, beq_ff hne, cond_false] at hd'
          have h1 := (hS.owns d' e' b hd' hl' hb').2
          by_cases e : b = g
          · subst e
            exact absurd (hS.inj d' d e' _ b hd' hl' hd rfl hb' (by rw [hb]; rfl)) hne
          · simpa [e] using h1)
        have hS3 := hS2.entry (d := d) (e := .frozm k V m) (.inr ⟨g, es, by rw [hb], by simp, mapHold_mono (fun x _ => vhold_mono (fun cs => Ty.holds_mono hle V x cs)) _ _ hm⟩) (fun b h => by cases h) (fun d' e' b _ h => by cases h)
        have e2 : (S.entry d .dead).entry d (.frozm k V m) = S.entry d (.frozm k V m) := by
          unfold St.entry
          simp only [St.mk.injEq, true_and, and_true]
          funext x
          cases Nat.beq x d <;> rfl
        rwa [e2] at hS3
  · exact ⟨p, PH.le.refl p, hS⟩

theorem freeze_sound : ∀ (ds : List Nat) (S : St) (p : PH), SatB M p0 w0 S tm w p β → ∃ p', PH.le p p' ∧ SatB M p0 w0 (S.freeze ds) tm w p' β
  | [], S, p, hS => ⟨p, PH.le.refl p, hS⟩
  | d :: ds, S, p, hS => by
    obtain ⟨p1, h1, h2⟩ := freeze1_sound hS d
    obtain ⟨p2, h3, h4⟩ := freeze_sound ds (S.freeze1 d) p1 h2
    exact ⟨p2, h1.trans h3, h4⟩

theorem freeze1_env (S : St) (d : Nat) : (S.freeze1 d).env = S.env ∧ (S.freeze1 d).n = S.n ∧ (S.freeze1 d).lock = S.lock := by
  unfold St.freeze1
  split
  · split <;> exact ⟨rfl, rfl, rfl⟩
  · split <;> exact ⟨rfl, rfl, rfl⟩
  · exact ⟨rfl, rfl, rfl⟩

theorem freeze_env : ∀ (ds : List Nat) (S : St), (S.freeze ds).env = S.env ∧ (S.freeze ds).n = S.n ∧ (S.freeze ds).lock = S.lock
  | [], S => ⟨rfl, rfl, rfl⟩
  | d :: ds, S => by
    have h1 := freeze1_env S d
    have h2 := freeze_env ds (S.freeze1 d)
    exact ⟨h2.1.trans h1.1, h2.2.1.trans h1.2.1, h2.2.2.trans h1.2.2⟩

theorem freeze_val (ds : List Nat) (S : St) (x : Operand) : (S.freeze ds).val x = S.val x := by
  unfold St.val
  cases x <;> simp only [(freeze_env ds S).1]

/-- A new block. -/
theorem SatB.alloc (hS : SatB M p0 w0 S tm w p β) (o : Obj) : SatB M p0 w0 S tm (w.alloc o) p β :=
  hS.grow rfl rfl rfl (by simp) (fun b hb => by show (w.heap.push o)[b]? = w.heap[b]?; rw [Array.getElem?_push, if_neg (Nat.ne_of_lt hb)])

theorem SatB.drew (hS : SatB M p0 w0 S tm w p β) : SatB M p0 w0 S tm w.drew p β :=
  hS.grow rfl rfl rfl (Nat.le_refl _) (fun _ _ => rfl)

/-- A new block gets a name. -/
theorem SatB.newEntry (hS : SatB M p0 w0 S tm w p β) {cs : Array Value} {t : TypeId} {d : Nat} {e : LE} {v : Value} (hv : blkOf v = some w.heap.size)
    (hs : e.sat p (fun x => if x = d then v else β x) (w.alloc (.cells cs t)) d) : SatB M p0 w0 (S.fresh d e) tm (w.alloc (.cells cs t)) p (fun x => if x = d then v else β x) := by
  refine (hS.alloc _).fresh hs (fun b _ hb => ?_) (fun d' e' b _ _ hd hl hb hb' => ?_)
  · rw [hv] at hb
    injection hb with hb
    subst hb
    refine ⟨.inr hS.keep.size, ?_⟩
    cases hp : p w.heap.size with
    | none => rfl
    | some c => have := hS.agr.lt hp; omega
  · rw [hv] at hb
    injection hb with hb
    subst hb
    have := LE.sat_lt d' e' hl (hS.lhs d' e' hd) hb'
    omega

/-- A block that a live name has is turned; the name keeps its ghost. -/
theorem SatB.turn (hS : SatB M p0 w0 S tm w p β) {d : Nat} {e e' : LE} {b : Nat} {w' : World} (hd : S.lh d = some e) (hl : e.live = true) (hb : blkOf (β d) = some b)
    (ho : w'.os = w.os) (ht : w'.tape = w.tape) (hp : w'.output = w.output) (hz : w'.heap.size = w.heap.size) (hblk : ∀ i, i ≠ b → w'.heap[i]? = w.heap[i]?) (hs : e'.sat p β w' d) :
    SatB M p0 w0 (S.entry d e') tm w' p β := by
  obtain ⟨hM, hpb⟩ := hS.owns d e b hd hl hb
  have h1 : SatB M p0 w0 (S.entry d .dead) tm w p β := hS.entry trivial (fun b h => by cases h) (fun d' e' b _ h => by cases h)
  have h2 : SatB M p0 w0 (S.entry d .dead) tm w' p β := by
    refine ⟨h1.keep.trans_grow ho ht hp (by omega) (fun i _ hm hi => hblk i (fun e => ?_)), fun i cs hi => ?_, h1.old, h1.size, fun d' e'' hd' => ?_, h1.owns, h1.inj, h1.env⟩
    · subst e
      rcases hM with h | h
      · exact hm h
      · omega
    · rw [hblk i (fun e2 => by subst e2; rw [hpb] at hi; cases hi)]
      exact h1.agr i cs hi
    · refine LE.sat_world d' e'' (h1.lhs d' e'' hd') (fun b' hl' hb' => hblk b' (fun e2 => ?_))
      subst e2
      have hne : d' ≠ d := by
        intro e3
        subst e3
        simp only [St.entry, beq_tt, cond_true, Option.some.injEq] at hd'
        subst hd'
        cases hl'
      simp only [St.entry, beq_ff hne, cond_false] at hd'
      exact hne (hS.inj d' d e'' e b' hd' hl' hd hl hb' hb)
  have h3 := h2.entry (d := d) (e := e') hs (fun b' _ hb' => by rw [hb] at hb'; injection hb' with hb'; subst hb'; exact ⟨hM, hpb⟩) (fun d' e'' b' hne _ hd' hl' hb' hb'' => by
    simp only [St.entry, beq_ff hne, cond_false] at hd'
    rw [hb] at hb'
    injection hb' with hb'
    subst hb'
    exact hne (hS.inj d' d e'' e b hd' hl' hd hl hb'' hb))
  have e2 : (S.entry d .dead).entry d e' = S.entry d e' := by
    unfold St.entry
    simp only [St.mk.injEq, true_and, and_true]
    funext x
    cases Nat.beq x d <;> rfl
  rwa [e2] at h3

theorem setRow_facts (w : World) (b : Nat) (cs : Array Value) {cur : Array Value} {t : TypeId} {fz : Nat × Nat} (h : w.heap[b]? = some (.cells cur t fz)) :
    (w.setRow b cs).heap[b]? = some (.cells cs t fz) ∧ (w.setRow b cs).os = w.os ∧ (w.setRow b cs).tape = w.tape ∧ (w.setRow b cs).output = w.output ∧ (w.setRow b cs).heap.size = w.heap.size ∧
      ∀ i, i ≠ b → (w.setRow b cs).heap[i]? = w.heap[i]? := by
  refine ⟨?_, rfl, rfl, rfl, by simp [World.setRow], fun i hi => ?_⟩
  · simp [World.setRow, Array.getElem?_modify, h]
  · simp [World.setRow, Array.getElem?_modify, Ne.symm hi]

/-- A variable, or a part of one, is written. -/
theorem storeAt_run {t : TypeId} {n : Nat} (hn : cellsIn P t = some n) {b o : Nat} {cur : Array Value} {e : TypeId} (hg : w.heap[b]? = some (.cells cur e (0, 0))) {v : Value} (hv : v.cells.size = n)
    (h1 : ∀ u ∈ v.cells.toList, u.oneCell' = true) (hfit : o + n ≤ cur.size) :
    (Instr.storeAt t (.pointer (some ⟨b, o, none⟩)) v).run P w = .ok () (w.setRow b (cur.toList.take o ++ v.cells.toList ++ cur.toList.drop (o + n)).toArray) := by
  obtain ⟨i, hi, hs⟩ := cellsIn_spec hn
  have := run_storeCells_at P b o e v.cells.toList 0 cur w hg (by simp; omega) h1
  simp only [Nat.add_zero] at this
  have hl : v.cells.toList.length = n := by simpa using hv
  rw [hl] at this
  simp only [Instr.storeAt, Instr.sureAddr, storeVar, sizeOf, typeInfo, Sem.run_bind, Sem.run_pure, Result.andThen_ok, run_program, hi, hs, hv]
  simp only [ne_eq, not_true, if_false]
  exact this

theorem one_oneCell {a : AV} {v : Value} (hS : SatB M p0 w0 S tm w p β) (h : a.one p β v) (hok : partOK S.lh a = true) : v.oneCell' = true := by
  cases a <;> (first | (cases hok; done) | skip)
  · rw [h.1]; rfl
  · have h' : v = .bool _ := h; rw [h']; rfl
  · rw [h.1]; rfl
  · have h' : v = .slice none 0 0 := h; rw [h']; rfl
  · obtain ⟨A, c, e, _⟩ := arr_len (p := p) h
    rw [e]; rfl
  · rename_i d
    have h' : v = β d := h
    simp only [partOK] at hok
    split at hok
    · rename_i hd
      obtain ⟨A, c, e, _⟩ := row_len hS hd
      rw [h', e]; rfl
    · rename_i hd
      obtain ⟨A, c, e, _⟩ := arr_len (hS.lhs _ _ hd)
      rw [h', e]; rfl
    · cases hok
  · exact h.elim
  · obtain ⟨b, _, e⟩ := h; rw [e]; rfl
  · obtain ⟨b, o, es, e, _⟩ := h; rw [e]; rfl
  · obtain ⟨v1, v2, e, _⟩ := h; rw [e]; rfl
  · rename_i d
    have h' : v = β d := h
    simp only [partOK] at hok
    split at hok
    · rename_i hd
      obtain ⟨r, es, clock, e, _⟩ := hS.lhs d _ hd
      rw [h', e]; rfl
    · rename_i hd
      rcases hS.lhs d _ hd with ⟨e, _⟩ | ⟨_, _, e, _⟩ <;> (injection e with e _; rw [h', e]; rfl)
    · cases hok
  · have h' : (Ty.map _ _).holds p _ [v] := h
    rcases h' with ⟨e, _⟩ | ⟨_, _, e, _⟩ <;> (injection e with e _; rw [e]; rfl)
  · have h' : v = .map none := h; rw [h']; rfl

/-- All leaves of a part are ones that may be stored. -/
def allOK (lh : Nat → Option LE) : AV → Bool
  | .pair a b => (match a with | .pair .. => false | _ => true) && partOK lh a && allOK lh b
  | a => partOK lh a

theorem cells_oneCell (hS : SatB M p0 w0 S tm w p β) : ∀ (a : AV) (cs : List Value), a.cells p β cs → allOK S.lh a = true → ∀ u ∈ cs, u.oneCell' = true := by
  intro a
  induction a with
  | pair x y _ ih =>
    intro cs hc hok u hu
    match cs, hc with
    | v :: cs, hc =>
      simp only [allOK, Bool.and_eq_true] at hok
      rcases List.mem_cons.1 hu with rfl | hu
      · exact one_oneCell hS hc.1 hok.1.2
      · exact ih cs hc.2 hok.2 u hu
  | _ =>
    intro cs hc hok u hu
    obtain ⟨v, rfl, hv⟩ := (AV.cells_leaf _ (by intro x y e; cases e) cs).1 hc
    simp only [List.mem_singleton] at hu
    subst hu
    exact one_oneCell hS hv hok

theorem rowHold_all {α : Type} {h : α → List Value → Prop} {k : Value → Prop} (hk : ∀ x cs, h x cs → ∀ u ∈ cs, k u) : ∀ (xs : List α) (cs : List Value), rowHold h xs cs → ∀ u ∈ cs, k u
  | [], cs, hr => by simp only [rowHold] at hr; subst hr; simp
  | x :: xs, cs, ⟨c1, c2, e, h1, h2⟩ => by
    subst e
    intro u hu
    rcases List.mem_append.1 hu with hu | hu
    · exact hk _ _ h1 u hu
    · exact rowHold_all hk xs _ h2 u hu

theorem holds_oneCell : ∀ (T : Ty) (x : T.den) (cs : List Value), T.holds p x cs → ∀ u ∈ cs, u.oneCell' = true
  | .int _, _, _, h => by rw [h.1]; intro u hu; simp only [List.mem_singleton] at hu; subst hu; rfl
  | .bool, _, _, h => by simp only [Ty.holds] at h; rw [h]; intro u hu; simp only [List.mem_singleton] at hu; subst hu; rfl
  | .str, _, _, h => by rw [h.1]; intro u hu; simp only [List.mem_singleton] at hu; subst hu; rfl
  | .arr _, _, _, ⟨_, _, _, e, _⟩ => by rw [e]; intro u hu; simp only [List.mem_singleton] at hu; subst hu; rfl
  | .nil, _, _, h => by simp only [Ty.holds] at h; rw [h]; intro u hu; simp only [List.mem_singleton] at hu; subst hu; rfl
  | .ref _, _, _, ⟨_, _, _, e, _⟩ => by rw [e]; intro u hu; simp only [List.mem_singleton] at hu; subst hu; rfl
  | .fn _ _, _, _, ⟨_, _, _, e, _⟩ => by rw [e]; intro u hu; simp only [List.mem_singleton] at hu; subst hu; rfl
  | .map _ _, _, _, .inl ⟨e, _⟩ => by rw [e]; intro u hu; simp only [List.mem_singleton] at hu; subst hu; rfl
  | .map _ _, _, _, .inr ⟨_, _, e, _⟩ => by rw [e]; intro u hu; simp only [List.mem_singleton] at hu; subst hu; rfl
  | .pair A B, _, _, ⟨c1, c2, e, h1, h2⟩ => by
    rw [e]
    intro u hu
    rcases List.mem_append.1 hu with hu | hu
    · exact holds_oneCell A _ _ h1 u hu
    · exact holds_oneCell B _ _ h2 u hu
end
end Go.Proofs.Ytgnamdjmjkeodaa
