/- The engine, part 16: calls, appends, new rows. -/
import Derived.Test.YtgnamdjmjkeodaaE15
import Derived.Maps.AppendAt
namespace Go.Proofs.Ytgnamdjmjkeodaa
open Go

section
variable {M : Nat → Prop} {p0 : PH} {w0 : World} {S : St} {w : World} {p : PH} {β : Nat → Value} {P : Program} {a : Act}

theorem resSt_n (d : Nat) : ∀ (Rs : List RT) (k : Nat) (x : RDens Rs) (S : St), (resSt d k Rs x S).n = S.n := by
  intro Rs
  induction Rs with
  | nil => intro k x S; rfl
  | cons R Rs ih =>
    intro k x S
    have put_n : ∀ (R : RT) (x : R.den) (nm : Nat) (S : St), (R.put x nm S).n = S.n := by intro R x nm S; cases R <;> rfl
    cases Rs with
    | nil => exact put_n R x _ S
    | cons U Rs => exact (ih (k + 1) x.2 _).trans (put_n R x.1 _ S)

theorem callSt_sound (hS : SatB M p0 w0 S a.tmps w p β) {ss : Specs} {f : FuncId} (args : List Operand) : ∃ p1, PH.le p p1 ∧ SatB M p0 w0 (callSt ss S f args) a.tmps w p1 β ∧ (callSt ss S f args).n = S.n := by
  unfold callSt
  split
  · split
    · obtain ⟨p1, h1, h2⟩ := freeze_sound ((args.map (S.look [])).flatMap AV.owns) S p hS
      exact ⟨p1, h1, h2, (freeze_env _ _).2.1⟩
    · exact ⟨p, PH.le.refl p, hS, rfl⟩
  · exact ⟨p, PH.le.refl p, hS, rfl⟩

theorem evECall_sound (hS : SatB M p0 w0 S a.tmps w p β) {ss : Specs} (hss : ss.ok P) {o : Oper} {d : Nat} {f : FuncId} {args : Array Operand} {ts : Array TypeId} (hd : o.dst = some d)
    (ho : o.op = .call { callee := .value (.func f), args, argTypes := ts }) {ps : List Prop} {S' : St} (h : evECall P ss S d f args.toList = some (ps, S')) (hps : ∀ q ∈ ps, q) : EOK M p0 w0 S' P o a w := by
  unfold evECall at h
  obtain ⟨p1, hle, hS1, hn⟩ := callSt_sound (ss := ss) (f := f) hS args.toList
  generalize callSt ss S f args.toList = S1 at *
  split at h <;> try cases h
  rename_i q0 Rs x he
  split at h <;> simp only [Option.some.injEq, Prod.mk.injEq, reduceCtorEq] at h <;> obtain ⟨rfl, rfl⟩ := h
  rename_i hb
  simp only [Bool.and_eq_true] at hb
  intro K Q hK
  obtain ⟨hcal, hcalls⟩ := evCall_sound hS1 hss he (hps _ (by simp)) (vs := args.toList.map a.eval) (by simp) (map_val hS1 (ctx_nil _) args.toList) d
  unfold Oper.wp
  rw [run_call hcal ho]
  simp only [Oper.upon_enter]
  have e : (args.toList.map a.eval).toArray = args.map a.eval := by rw [← Array.toList_map, Array.toArray_toList]
  rw [e] at hcalls
  refine hcalls.mono ?_
  rintro e w' ⟨rs, p', β', rfl, _, hS', hv, _⟩
  show K (a.put o.dst (retValue rs)) w'
  rw [hd]
  refine hK _ w' ⟨p', β', hS'.set (by rw [resSt_n, hn]; exact blt_lt hb.1) ?_⟩ rfl
  have := resAV_val (tm := a.tmps.setIfInBounds d (retValue rs)) d Rs x rs hv
  exact this

theorem sliceElem_spec {t e : TypeId} (h : sliceElem P t = some e) : P.underlying t = some (.slice e) := by
  unfold sliceElem at h
  split at h
  · rename_i e' hu
    injection h with h
    subst h
    exact hu
  · cases h

theorem elemFits_spec {e : TypeId} {T : Ty} (h : elemFits P e T = true) : ∃ i z, P.info? e = some i ∧ i.size = T.size ∧ i.bytes ≤ T.bytes ∧ i.zero = some z ∧ z.cells.size = T.size := by
  unfold elemFits at h
  split at h <;> try cases h
  rename_i i hi
  simp only [Bool.and_eq_true] at h
  obtain ⟨⟨h1, h2⟩, h3⟩ := h
  split at h3 <;> try cases h3
  rename_i z hz
  exact ⟨i, z, hi, Nat.eq_of_beq_eq_true h1, Nat.le_of_ble_eq_true h2, hz, by have := Nat.eq_of_beq_eq_true h3; simpa using this⟩

/-- The cells that a slice value shows. -/
theorem asRow_sound (hS : SatB M p0 w0 S a.tmps w p β) {x : AV} {v : Value} {T : Ty} {ys : List T.den} (h : x.asRow S.lh = some ⟨T, ys⟩) (hx : x.val p β a.tmps v) :
    ∃ A c l, v = .slice A ys.length c ∧ rowHold (T.holds p) ys l ∧ ys.length * T.bytes ≤ big ∧ (ys ≠ [] → ∃ b o, A = some ⟨b, o, none⟩ ∧ ∀ (j : Nat) (u : Value), l[j]? = some u → w.cell? ⟨b, o + j, none⟩ = some u) := by
  have arr : ∀ {T : Ty} {ys : List T.den} {v : Value}, (Ty.arr T).holds p ys [v] →
      ∃ A c l, v = .slice A ys.length c ∧ rowHold (T.holds p) ys l ∧ ys.length * T.bytes ≤ big ∧ (ys ≠ [] → ∃ b o, A = some ⟨b, o, none⟩ ∧ ∀ (j : Nat) (u : Value), l[j]? = some u → w.cell? ⟨b, o + j, none⟩ = some u) := by
    intro T ys v hv
    obtain ⟨A, c, l, e, h1, h2, h3, h4⟩ := hv
    injection e with e _
    refine ⟨A, c, l, e, h3, h2, fun hne => ?_⟩
    obtain ⟨b, o, hA, hc⟩ := h4 hne
    exact ⟨b, o, hA, fun j u hu => PH_cell_world hS.agr (hc j u hu)⟩
  cases x <;> simp only [AV.asRow, reduceCtorEq] at h
  · rename_i T' xs
    injection h with h
    cases h
    exact arr hx
  · rename_i d
    have hx' : v = β d := hx
    subst hx'
    split at h <;> simp only [Option.some.injEq, reduceCtorEq] at h <;> cases h
    · rename_i hd
      obtain ⟨l, h1, h2, h3⟩ := hS.lhs d _ hd
      rcases h1.2 with ⟨e0, h0⟩ | ⟨g, cap, cur, e1, _, e2, e3, _, e4, e5⟩
      · exact ⟨none, 0, l, by rw [e0, h0], h2, h3, fun hne => absurd (List.eq_nil_of_length_eq_zero h0) hne⟩
      · refine ⟨_, cap, l, e1, h2, h3, fun _ => ⟨g, 0, rfl, fun j u hu => ?_⟩⟩
        rw [world_cell_row e2]
        rw [← e5, List.getElem?_take] at hu
        split at hu
        · simpa using hu
        · cases hu
    · rename_i hd
      exact arr (hS.lhs d _ hd)

theorem grown_outside {w' : World} {row : Option Nat} (hg : w.grownBy w' row) : w'.os = w.os ∧ w'.tape = w.tape ∧ w'.output = w.output ∧ w.heap.size ≤ w'.heap.size ∧
    ∀ k, k < w.heap.size → some k ≠ row → w'.heap[k]? = w.heap[k]? := ⟨hg.os, hg.tape, hg.output, hg.size, hg.block⟩

theorem nil_append_run {t ty e : TypeId} {i : TypeInfo} (ht : P.underlying t = some (.slice e)) (hi : P.info? e = some i) {v : Value} {n : Nat} {l : List Value} {size : Nat} (hown : w.ownsRow 0 e size v n l) (c : Nat) :
    (Builtin.append_ #[t, t] ty #[v, .slice none 0 c]).run P w = .ok v w := by
  rcases hown.2 with ⟨rfl, rfl⟩ | ⟨g, cap, cur, rfl, _, _, hnc, _⟩
  · simp [Builtin.append_, run_underlying ht, sizeOf, typeInfo, hi, Builtin.lenOf, Builtin.firstCells]
  · simp [Builtin.append_, run_underlying ht, sizeOf, typeInfo, hi, Builtin.lenOf, Builtin.firstCells, hnc, storeCells]

/-- append to a row of the call's own (or to nothing): the law. -/
theorem append_run {t ty e : TypeId} {T : Ty} (ht : P.underlying t = some (.slice e)) (hf : elemFits P e T = true) {v : Value} {n : Nat} {l : List Value} (hown : w.ownsRow 0 e T.size v n l)
    {A : Option Addr} {c : Nat} {ys : List T.den} {l2 : List Value} (hl2 : rowHold (T.holds p) ys l2) (hA : ys ≠ [] → ∃ b o, A = some ⟨b, o, none⟩ ∧ ∀ (j : Nat) (u : Value), l2[j]? = some u → w.cell? ⟨b, o + j, none⟩ = some u)
    (hbig : (n + ys.length) * T.bytes ≤ big) :
    ∃ v' w', (Builtin.append_ #[t, t] ty #[v, .slice A ys.length c]).run P w = .ok v' w' ∧ w'.ownsRow 0 e T.size v' (n + ys.length) (l ++ l2) ∧ w.grownBy w' v.ownBlock ∧
      (v'.ownBlock = v.ownBlock ∨ v'.ownBlock = some w.heap.size) := by
  obtain ⟨i, z, hi, hsz, hby, hz, hzs⟩ := elemFits_spec hf
  have hlen := rowHold_length (fun x cs h => Ty.holds_length (p := p) T x cs h) ys l2 hl2
  have hbig' : (n + ys.length) * i.bytes ≤ 140737488355328 := Nat.le_trans (Nat.mul_le_mul_left _ hby) hbig
  have h63 : n + ys.length ≤ maxLen := by
    have := bytes_pos T
    have h2 : (n + ys.length) * 8 ≤ (n + ys.length) * T.bytes := Nat.mul_le_mul_left _ this
    simp only [big, maxLen] at *
    omega
  have some_case : ∀ (ad : Addr), A = some ad → (∀ (j : Nat) (u : Value), l2[j]? = some u → w.cell? (ad.add j) = some u) →
      ∃ v' w', (Builtin.append_ #[t, t] ty #[v, .slice A ys.length c]).run P w = .ok v' w' ∧ w'.ownsRow 0 e T.size v' (n + ys.length) (l ++ l2) ∧ w.grownBy w' v.ownBlock ∧
      (v'.ownBlock = v.ownBlock ∨ v'.ownBlock = some w.heap.size) := by
    intro ad hA hc
    subst hA
    obtain ⟨v', w', h1, h2, h3, _, h5⟩ := run_append_own_at (P := P) w 0 t ty e i z T.size i.bytes ht hi hz hsz rfl hzs (Ty.size_pos T) v n l hown ad ys.length c l2 hlen hc
      (rowHold_all (fun x cs h => holds_oneCell T x cs h) ys l2 hl2) h63 hbig' (Nat.zero_le _)
    exact ⟨v', w', h1, h2, h3, h5⟩
  by_cases hy : ys = []
  · subst hy
    simp only [rowHold] at hl2
    subst hl2
    cases A with
    | none => exact ⟨v, w, nil_append_run ht hi hown c, by simpa using hown, World.grownBy.refl w _, .inl rfl⟩
    | some ad => exact some_case ad rfl (fun j u hu => by simp at hu)
  · obtain ⟨b, o, rfl, hc⟩ := hA hy
    exact some_case _ rfl (fun j u hu => by rw [addr_add]; exact hc j u hu)

theorem ownBlock_blk {v : Value} {e : TypeId} {size n : Nat} {l : List Value} (h : w.ownsRow 0 e size v n l) : blkOf v = v.ownBlock := by
  rcases h.2 with ⟨rfl, _⟩ | ⟨g, cap, cur, rfl, _⟩ <;> rfl

/-- What an append leaves: a name for the new row. -/
theorem append_state {S0 : St} (hS0 : SatB M p0 w0 S0 a.tmps w p β) {v v' : Value} {w' : World} {e : TypeId} {T : Ty} {zs : List T.den} {l : List Value} {d : Nat} (hd : d < S0.n)
    (hown : w'.ownsRow 0 e T.size v' zs.length l) (hl : rowHold (T.holds p) zs l) (hbig : zs.length * T.bytes ≤ big) (hg : w.grownBy w' v.ownBlock) (hb : v'.ownBlock = v.ownBlock ∨ v'.ownBlock = some w.heap.size)
    (hM : ∀ b, v.ownBlock = some b → (M b ∨ w0.heap.size ≤ b) ∧ p b = none ∧ b < w.heap.size)
    (hfree : ∀ d' e' b, S0.lh d' = some e' → e'.live = true → v.ownBlock = some b → blkOf (β d') ≠ some b) :
    Sat M p0 w0 ((S0.fresh d (.row e T zs)).set d (.own d)) (a.tmps.setIfInBounds d v') w' := by
  have hgrow : SatB M p0 w0 S0 a.tmps w' p β := by
    refine ⟨hS0.keep.trans_grow hg.os hg.tape hg.output hg.size (fun b hb' hm hb0 => hg.block b hb' (fun e => ?_)), fun b cs hbc => ?_, hS0.old, hS0.size, fun d' e' hd' => ?_, hS0.owns, hS0.inj, hS0.env⟩
    · rcases (hM b e.symm).1 with h | h
      · exact hm h
      · omega
    · rw [hg.block b (hS0.agr.lt hbc) (fun e => by have := (hM b e.symm).2.1; rw [this] at hbc; cases hbc)]
      exact hS0.agr b cs hbc
    · exact LE.sat_world d' e' (hS0.lhs d' e' hd') (fun b hl' hb' => hg.block b (LE.sat_lt d' e' hl' (hS0.lhs d' e' hd') hb') (fun e => hfree d' e' b hd' hl' e.symm hb'))
  have hblk := ownBlock_blk hown
  have hfresh := hgrow.fresh (d := d) (e := .row e T zs) (v := v') ⟨l, by simpa using hown, hl, hbig⟩
    (fun b _ hb' => by
      rw [hblk] at hb'
      rcases hb with hb | hb <;> rw [hb] at hb'
      · exact ⟨(hM b hb').1, (hM b hb').2.1⟩
      · injection hb' with hb'
        subst hb'
        refine ⟨.inr hS0.keep.size, ?_⟩
        cases hp : p w.heap.size with
        | none => rfl
        | some c => have := hS0.agr.lt hp; omega)
    (fun d' e' b _ _ hd' hl' hb' hb'' => by
      rw [hblk] at hb'
      rcases hb with hb | hb <;> rw [hb] at hb'
      · exact hfree d' e' b hd' hl' hb' hb''
      · injection hb' with hb'
        subst hb'
        have := LE.sat_lt d' e' hl' (hS0.lhs d' e' hd') hb''
        omega)
  exact ⟨p, _, hfresh.set hd (show v' = _ by simp)⟩

theorem row_block (hS : SatB M p0 w0 S a.tmps w p β) {d : Nat} {e : TypeId} {T : Ty} {xs : List T.den} (hd : S.lh d = some (.row e T xs)) :
    ∀ b, (β d).ownBlock = some b → (M b ∨ w0.heap.size ≤ b) ∧ p b = none ∧ b < w.heap.size := by
  intro b hb
  obtain ⟨l, h1, h2, h3⟩ := hS.lhs d _ hd
  rw [← ownBlock_blk h1] at hb
  have := hS.owns d _ b hd rfl hb
  exact ⟨this.1, this.2, LE.sat_lt d _ rfl (hS.lhs d _ hd) hb⟩

theorem evAppend_sound (hS : SatB M p0 w0 S a.tmps w p β) {o : Oper} {d : Nat} {t : TypeId} {s x : Operand} (hd : o.dst = some d) (ho : o.op = .call { callee := .builtin .append, args := #[s, x], argTypes := #[t, t] })
    {ps : List Prop} {S' : St} (h : evAppend P S d t (S.look [] s) (S.look [] x) = some (ps, S')) (hps : ∀ q ∈ ps, q) : EOK M p0 w0 S' P o a w := by
  have hs := look_val hS (ctx_nil _) s
  have hx := look_val hS (ctx_nil _) x
  have fin : ∀ {v' : Value} {w' : World}, (Builtin.append_ #[t, t] o.type #[a.eval s, a.eval x]).run P w = .ok v' w' → Sat M p0 w0 S' (a.tmps.setIfInBounds d v') w' → EOK M p0 w0 S' P o a w := by
    intro v' w' hr hsat
    obtain ⟨cs, hb⟩ := run_builtin (a := a) (w := w) (P := P) ho
    refine EOK.of_run hd (v := v') (w' := w') ?_ hsat
    rw [hb]
    simp only [builtin, List.map_toArray, List.map_cons, List.map_nil, Sem.run_bind, hr, Result.andThen_ok, Sem.run_pure]
  unfold evAppend at h
  split at h <;> try cases h
  rename_i e he
  have hu := sliceElem_spec he
  split at h <;> try cases h
  rename_i T ys hys
  obtain ⟨A, c, l2, e2, h2, h3, h4⟩ := asRow_sound hS hys hx
  split at h <;> try cases h
  rename_i hb
  simp only [Bool.and_eq_true] at hb
  have hdn := blt_lt hb.1.2
  split at h
  · rename_i hsn
    rw [hsn] at hs
    have hs' : a.eval s = .slice none 0 0 := hs
    simp only [Option.some.injEq, Prod.mk.injEq] at h
    obtain ⟨rfl, rfl⟩ := h
    have hbig := hps _ (List.mem_cons_self)
    obtain ⟨v', w', r1, r2, r3, r4⟩ := append_run (ty := o.type) hu hb.1.1 (World.ownsRow_nil w 0 e T.size) h2 h4 (c := c) (by simpa using hbig)
    refine fin (by rw [hs', e2]; exact r1) ?_
    exact append_state hS hdn (v := .slice none 0 0) (by simpa using r2) (by simpa using h2) hbig r3 r4 (fun b hb' => by cases hb') (fun d' e' b _ _ hb' => by cases hb')
  · rename_i d1 hsn
    rw [hsn] at hs
    have hs' : a.eval s = β d1 := hs
    split at h <;> try cases h
    rename_i e' T' xs hd1
    split at h <;> try cases h
    rename_i hT
    subst hT
    split at h <;> simp only [Option.some.injEq, Prod.mk.injEq, reduceCtorEq] at h <;> obtain ⟨rfl, rfl⟩ := h
    rename_i hb2
    simp only [Bool.and_eq_true] at hb2
    have hee := Nat.eq_of_beq_eq_true hb2.1.1
    subst hee
    have hbig := hps _ (List.mem_cons_self)
    obtain ⟨l, g1, g2, g3⟩ := hS.lhs d1 _ hd1
    obtain ⟨v', w', r1, r2, r3, r4⟩ := append_run (ty := o.type) hu hb.1.1 g1 h2 h4 (c := c) hbig
    refine fin (by rw [hs', e2]; exact r1) ?_
    have hS0 : SatB M p0 w0 (S.entry d1 .dead) a.tmps w p β := hS.entry trivial (fun b h => by cases h) (fun d' e' b _ h => by cases h)
    refine append_state hS0 hdn (v := β d1) (by simpa using r2) (rowHold_append _ _ _ _ g2 h2) (by simpa using hbig) r3 r4 (row_block hS hd1) (fun d' e'' b hd' hl' hb' hb'' => ?_)
    have hne : d' ≠ d1 := by
      intro e3
      subst e3
      simp only [St.entry, beq_tt, cond_true, Option.some.injEq] at hd'
      subst hd'
      cases hl'
    simp only [St.entry, beq_ff hne, cond_false] at hd'
    rw [← ownBlock_blk g1] at hb'
    exact hne (hS.inj d' d1 e'' _ b hd' hl' hd1 rfl hb'' hb')
  · cases h
end
end Go.Proofs.Ytgnamdjmjkeodaa
