/- The engine, part 31: statements whose order is drawn: one function, one theorem. -/
import Derived.Test.YtgnamdjmjkeodaaE30
namespace Go.Proofs.Ytgnamdjmjkeodaa
open Go

/-- The value operations at the head, avs far avs they go. -/
def runDm (P : Program) (ss : Specs) (ops : Array Oper) (S : St) : List Oper → List (Nat × AV) → List Prop × List (Nat × AV)
  | [], rs => ([], rs)
  | o :: os, rs => match evD P ss ops (stD S rs) o with
    | some (ps, d, r) => if Nat.blt d S.n then (match runDm P ss ops S os (rs ++ [(d, r)]) with
        | (qs, rs') => (ps ++ qs, rs')) else ([], rs)
    | none => ([], rs)

/-- The rows that a slot holds (or the slot that is moved to it in this statement). -/
def tmpOwns (ops : Array Oper) (S : St) (t : Nat) : List Nat :=
  match ops.toList.find? (fun o' => match o'.dst with | some d => Nat.beq d t | none => false) with
  | some o' => match o'.op with
    | .move y => (S.look [] y).owns
    | _ => []
  | none => (S.look [] (.tmp t)).owns

/-- The rows that become parts of a slice of slices, or are handed to a call whose results may show them: they become unchanging ahead of the statement. -/
def preOwns (ss : Specs) (ops : Array Oper) (S : St) : List Nat :=
  ops.toList.flatMap fun o => match o.op with
    | .buildSlice _ _ parts => parts.toList.flatMap fun x => match x.2 with
      | .tmp t => tmpOwns ops S t
      | _ => []
    | .call { callee := .value (.func f), args, .. } => match ss f with
      | some s => if s.al then args.toList.flatMap (fun x => match x with
        | .tmp t => tmpOwns ops S t
        | _ => []) else []
      | none => []
    | _ => []

def runDraw1 (P : Program) (ss : Specs) (ops : Array Oper) (S : St) : Option (List Prop × St) :=
  match runDm P ss ops S ops.toList [] with
  | (ps, rs) => if P.follows .mixedOrders && drawOK ops rs.length then
      (match run P ss ops (ops.toList.drop rs.length) (stD S rs) with
        | some (qs, S') => some (ps ++ qs, S')
        | none => none)
    else none

def runDraw (P : Program) (ss : Specs) (ops : Array Oper) (S : St) : Option (List Prop × St) := runDraw1 P ss ops (S.freeze (preOwns ss ops S))

section
variable {M : Nat → Prop} {p0 : PH} {w0 : World} {P : Program} {ss : Specs} {ops : Array Oper} {S : St}

theorem runDm_spec : ∀ (os : List Oper) (rs0 : List (Nat × AV)), ∃ n, (runDm P ss ops S os rs0).2.length = rs0.length + n ∧ n ≤ os.length ∧ runD P ss ops S (os.take n) rs0 = some (runDm P ss ops S os rs0)
  | [], rs0 => ⟨0, by simp [runDm], by simp, by simp [runDm, runD]⟩
  | o :: os, rs0 => by
    unfold runDm
    split
    · rename_i ps d r he
      split
      · rename_i hd
        obtain ⟨n, h1, h2, h3⟩ := runDm_spec os (rs0 ++ [(d, r)])
        refine ⟨n + 1, ?_, by simp; omega, ?_⟩
        · simp only [List.length_append, List.length_cons, List.length_nil] at h1
          show (runDm P ss ops S os (rs0 ++ [(d, r)])).2.length = _
          omega
        · simp only [List.take_succ_cons, runD, he, hd, if_true, h3]
      · exact ⟨0, by simp, by simp, by simp [runD]⟩
    · exact ⟨0, by simp, by simp, by simp [runD]⟩

theorem filterMap_dst {rs : List (Nat × AV)} : ∀ (os : List Oper) (_ : rs.length = os.length) (_ : ∀ (i : Nat) o, os[i]? = some o → ∃ a, rs[i]? = some (a, (rs[i]?.map (·.2)).getD .any) ∧ o.dst = some a), os.filterMap (·.dst) = rs.map (·.1) := by
  induction rs with
  | nil => intro os h _; simp at h; simp [List.eq_nil_of_length_eq_zero h.symm]
  | cons x rs ih =>
    intro os h hat
    match os, h with
    | o :: os, h =>
      obtain ⟨a, h1, h2⟩ := hat 0 o rfl
      simp only [List.getElem?_cons_zero, Option.some.injEq] at h1
      have hx : x.1 = a := by rw [h1]
      simp only [List.filterMap_cons, h2, List.map_cons, hx]
      rw [ih os (by simpa using h) (fun i o' ho => by
        obtain ⟨a', k1, k2⟩ := hat (i + 1) o' (by simpa using ho)
        exact ⟨a', by simpa using k1, k2⟩)]

theorem once_of_nodup : ∀ {rs : List (Nat × AV)}, (rs.map (·.1)).Nodup → Once rs
  | rs, h => by
    intro i j s a b h1 h2
    have e1 : (rs.map (·.1))[i]? = some s := by simp [h1]
    have e2 : (rs.map (·.1))[j]? = some s := by simp [h2]
    have hi : i < (rs.map (·.1)).length := by
      rcases Nat.lt_or_ge i (rs.map (·.1)).length with h | h
      · exact h
      · rw [List.getElem?_eq_none h] at e1; cases e1
    exact (List.getElem?_inj hi h).1 (e1.trans e2.symm)

theorem freeze_clean (ds : List Nat) (S : St) : (S.clean).freeze ds = (S.clean.freeze ds).clean := by
  have h := freeze_env ds S.clean
  unfold St.clean at *
  simp only at h
  generalize ({ env := fun s => (S.env s).opn [], lh := S.lh, n := S.n, lock := S.lock } : St).freeze ds = T at *
  obtain ⟨e, l, n, k⟩ := T
  simp only at h
  obtain ⟨h1, _, _⟩ := h
  subst h1
  simp only [St.mk.injEq, and_true]
  funext s
  have := opn_noGd [] (S.env s)
  cases hx : (S.env s).opn [] <;> rw [hx] at this <;> first | rfl | cases this

theorem region_draw (hss : ss.ok P) {id : Nat} {S' : St} {ps : List Prop} {a : Act} {w : World} {Q : Exit → Act → World → Prop} (hr : runDraw P ss ops S.clean = some (ps, S')) (hps : ∀ q ∈ ps, q) (hS : Sat M p0 w0 S.clean a.tmps w)
    (hQ : ∀ a' w', Sat M p0 w0 S' a'.tmps w' → a'.defers = a.defers → Q .normal a' w') : (Code.region id ops true).wp P Q a w := by
  unfold runDraw at hr
  obtain ⟨pF, βF, hSF⟩ := hS
  obtain ⟨p1F, _, hS1F⟩ := freeze_sound (preOwns ss ops S.clean) S.clean pF hSF
  have hS : Sat M p0 w0 (S.clean.freeze (preOwns ss ops S.clean)) a.tmps w := ⟨p1F, βF, hS1F⟩
  rw [freeze_clean] at hr hS
  clear hS1F hSF
  generalize S.clean.freeze (preOwns ss ops S.clean) = S at *
  unfold runDraw1 at hr
  split at hr
  rename_i ps1 rs hm
  split at hr <;> try cases hr
  rename_i hck
  simp only [Bool.and_eq_true] at hck
  split at hr <;> simp only [Option.some.injEq, Prod.mk.injEq, reduceCtorEq] at hr
  obtain ⟨rfl, rfl⟩ := hr
  rename_i qs S' hrun
  obtain ⟨n, h1, h2, h3⟩ := runDm_spec (P := P) (ss := ss) (ops := ops) (S := S.clean) ops.toList []
  rw [hm] at h1 h3
  simp only [List.length_nil, Nat.zero_add] at h1
  obtain ⟨rs1, e1, hl, hat⟩ := runD_spec _ _ _ _ h3
  simp only [List.nil_append] at e1 hat
  subst e1
  have hn : rs.length = n := h1
  have hok := hck.2
  simp only [drawOK, Bool.and_eq_true] at hok
  obtain ⟨⟨k1, k2⟩, k3⟩ := hok
  have k1 := Nat.le_of_ble_eq_true k1
  have hget : ∀ (i : Nat) o, i < rs.length → ops[i]? = some o → (ops.toList.take n)[i]? = some o := by
    intro i o hi ho
    rw [List.getElem?_take, if_pos (by omega)]
    simpa using ho
  have hnd : (rs.map (·.1)).Nodup := by
    have := distinctD_spec _ k3
    rw [hn, filterMap_dst (rs := rs) (ops.toList.take n) hl.symm.symm (fun i o ho => by
      obtain ⟨qs', d, r, g1, g2, _⟩ := hat i o ho
      exact ⟨d, by simp [g1], evD_dst g2⟩)] at this
    exact this
  have W : Walked P ss ops rs.length S.clean rs := by
    refine ⟨rfl, fun i o hi ho => ?_, once_of_nodup hnd, fun s => opn_noGd _ _, k1, fun i o hi ho => ?_, fun i o hi ho => ?_⟩
    · obtain ⟨qs', d, r, g1, g2, g3, g4⟩ := hat i o (hget i o hi ho)
      exact ⟨qs', d, r, g1, g2, g3, fun q hq => hps q (List.mem_append_left _ (g4 q hq))⟩
    · have := List.all_eq_true.1 k2 i (by
        have : i < ops.size := by omega
        simpa using this)
      simp only [ho] at this
      rw [if_pos (by simpa using hi)] at this
      exact this
    · have his : i < ops.size := by
        rcases Nat.lt_or_ge i ops.size with h | h
        · exact h
        · rw [Array.getElem?_eq_none h] at ho; cases ho
      have := List.all_eq_true.1 k2 i (by simpa using his)
      simp only [ho] at this
      rw [if_neg (by simp; omega)] at this
      simp only [Bool.and_eq_true] at this
      exact ⟨fun e he => by simpa using List.all_eq_true.1 this.1 e he, fun j hj => List.all_eq_true.1 this.2 j (by simpa using hj)⟩
  have hS2 : Sat M p0 w0 S.clean a.tmps { w with drawn := w.drawn + 1 } := by
    obtain ⟨p, β, h⟩ := hS
    exact ⟨p, β, ⟨h.keep.os, h.keep.tape, h.keep.output, h.keep.size, h.keep.block⟩, h.agr, h.old, h.size, h.lhs, h.owns, h.inj, h.env⟩
  refine wp_region_any hck.1 ?_
  refine draw_any hss W (ds := a.defers) (fun a' w' hS' hd' => run_sound hss _ _ S' qs a' w' hrun (fun q hq => hps q (List.mem_append_right _ hq)) hS' (fun a'' w'' h5 h6 => hQ a'' w'' h5 (h6.trans hd')))
    ops.size _ a _ (by simp) ?_ ?_ ?_ ?_ rfl
  · have : ∀ n, cnt (Array.replicate ops.size false) n ≤ n := by
      intro n
      induction n with
      | zero => exact Nat.le_refl _
      | succ n ih => simp only [cnt]; split <;> omega
    exact this _
  · intro i o hi ho
    have his : i < ops.size := by
      rcases Nat.lt_or_ge i ops.size with h | h
      · exact h
      · rw [Array.getElem?_eq_none h] at ho; cases ho
    simp [his] at hi
  · intro j _ hj
    simp [hj]
  · obtain ⟨p, β, h⟩ := hS2
    refine ⟨p, β, h.keep, h.agr, h.old, h.size, h.lhs, h.owns, h.inj, fun s => ?_⟩
    by_cases hk : ∃ (j : Nat) (a : AV), rs[j]? = some (s, a)
    · obtain ⟨j, b, hj⟩ := hk
      have hjs : j < ops.size := Nat.lt_of_lt_of_le (W.key hj).1 k1
      rw [env_mask W.once _ hj]
      have : (Array.replicate ops.size false).getD j true = false := by simp [hjs]
      rw [this]
      trivial
    · have hk' : ∀ (j : Nat) a, rs[j]? ≠ some (s, a) := fun j a e => hk ⟨j, a, e⟩
      rw [env_mask_none _ hk']
      exact h.env s
end
end Go.Proofs.Ytgnamdjmjkeodaa
