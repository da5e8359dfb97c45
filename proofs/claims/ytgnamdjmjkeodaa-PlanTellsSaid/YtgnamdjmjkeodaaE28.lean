/- The engine, part 28: statements whose order is drawn: each order leaves what the walk in the order of the text leaves. -/
import Derived.Test.YtgnamdjmjkeodaaE27
namespace Go.Proofs.Ytgnamdjmjkeodaa
open Go

/-- What the walk in the order of the text has shown. -/
structure Walked (P : Program) (ss : Specs) (ops : Array Oper) (k : Nat) (S0 : St) (rs : List (Nat × AV)) : Prop where
  len : rs.length = k
  yields : ∀ (i : Nat) o, i < k → ops[i]? = some o → ∃ qs d r, rs[i]? = some (d, r) ∧ evD P ss ops (stD S0 (rs.take i)) o = some (qs, d, r) ∧ d < S0.n ∧ ∀ q ∈ qs, q
  once : Once rs
  gd0 : ∀ s, (S0.env s).noGd = true
  small : k ≤ ops.size
  okAt : ∀ (i : Nat) o, i < k → ops[i]? = some o → opOK ops k i o = true
  tail : ∀ (i : Nat) o, k ≤ i → ops[i]? = some o → (∀ e ∈ edgesOf o, e < i) ∧ ∀ j, j < i → ((waitsOf ops).getD i 0).testBit j = true

section
variable {M : Nat → Prop} {p0 : PH} {w0 : World} {P : Program} {ss : Specs} {ops : Array Oper} {k : Nat} {S0 : St} {rs : List (Nat × AV)}

theorem Once.mask {rs : List (Nat × AV)} (h : Once rs) (L : Nat → Bool) : Once (mask L 0 rs) := by
  intro i j s a b h1 h2
  rw [mask_get] at h1 h2
  obtain ⟨x, hx, e1⟩ := Option.map_eq_some_iff.1 h1
  obtain ⟨y, hy, e2⟩ := Option.map_eq_some_iff.1 h2
  injection e1 with e1 _
  injection e2 with e2 _
  exact h i j s x.2 y.2 (by rw [hx, ← e1]) (by rw [hy, ← e2])

theorem Once.take {rs : List (Nat × AV)} (h : Once rs) (n : Nat) : Once (rs.take n) := by
  intro i j s a b h1 h2
  rw [List.getElem?_take] at h1 h2
  split at h1
  · split at h2
    · exact h i j s a b h1 h2
    · cases h2
  · cases h1

theorem env_mask (h : Once rs) (L : Nat → Bool) {j t : Nat} {a : AV} (hj : rs[j]? = some (t, a)) : (stD S0 (mask L 0 rs)).env t = bif L j then a else .any := by
  have : lk (mask L 0 rs) t = some (bif L j then a else .any) := lk_get _ j t _ (h.mask L) (by rw [mask_get, hj]; simp)
  simp only [stD, this]

theorem env_take (h : Once rs) {i j t : Nat} {a : AV} (hj : rs[j]? = some (t, a)) (hji : j < i) : (stD S0 (rs.take i)).env t = a := by
  have : lk (rs.take i) t = some a := lk_get _ j t _ (h.take i) (by rw [List.getElem?_take, if_pos hji, hj])
  simp only [stD, this]

theorem env_mask_none (L : Nat → Bool) {t : Nat} (hj : ∀ (j : Nat) a, rs[j]? ≠ some (t, a)) : (stD S0 (mask L 0 rs)).env t = S0.env t := by
  have : lk (mask L 0 rs) t = none := lk_none _ t (fun i a e => by
    rw [mask_get] at e
    obtain ⟨x, hx, e1⟩ := Option.map_eq_some_iff.1 e
    injection e1 with e1 _
    exact hj i x.2 (by rw [hx, ← e1]))
  simp only [stD, this]

theorem env_take_none {i t : Nat} (hj : ∀ (j : Nat) a, rs[j]? ≠ some (t, a)) : (stD S0 (rs.take i)).env t = S0.env t := by
  have : lk (rs.take i) t = none := lk_none _ t (fun n a e => by
    rw [List.getElem?_take] at e
    split at e
    · exact hj n a e
    · cases e)
  simp only [stD, this]

theorem Walked.key (W : Walked P ss ops k S0 rs) {j t : Nat} {a : AV} (hj : rs[j]? = some (t, a)) : j < k ∧ dstAt ops j = some t ∧ ∃ o qs, ops[j]? = some o ∧ evD P ss ops (stD S0 (rs.take j)) o = some (qs, t, a) := by
  have hk : j < k := by
    rcases Nat.lt_or_ge j k with h | h
    · exact h
    · rw [List.getElem?_eq_none (by rw [W.len]; exact h)] at hj; cases hj
  have hs : j < ops.size := Nat.lt_of_lt_of_le hk W.small
  have ho : ops[j]? = some ops[j] := by simp [hs]
  obtain ⟨qs, d, r, h1, h2, _⟩ := W.yields j _ hk ho
  rw [hj] at h1
  injection h1 with h1
  injection h1 with h1 h1'
  subst h1; subst h1'
  exact ⟨hk, by simp [dstAt, ho, evD_dst h2], _, qs, ho, h2⟩

theorem opOK_spec {i : Nat} {o : Oper} (h : opOK ops k i o = true) : (∀ e ∈ edgesOf o, e < i) ∧ (∀ t, Operand.tmp t ∈ o.op.operands → ∀ j, j < k → dstAt ops j = some t → j ∈ edgesOf o) ∧ (∀ j b, o.guard = some (j, b) → j ∈ edgesOf o) := by
  simp only [opOK, Bool.and_eq_true] at h
  obtain ⟨⟨h1, h2⟩, h3⟩ := h
  refine ⟨fun e he => by simpa using List.all_eq_true.1 h1 e he, fun t ht j hj hd => ?_, fun j b hg => ?_⟩
  · have := List.all_eq_true.1 h2 (.tmp t) (by simpa using ht)
    simp only at this
    have := List.all_eq_true.1 this j (by simpa using hj)
    simp only [hd, Bool.or_eq_true, Bool.not_eq_true'] at this
    rcases this with h | h
    · simp at h
    · simpa using h
  · rw [hg] at h3
    simpa using h3

/-- Downward closed. -/
def Down (ops : Array Oper) (L : Nat → Bool) : Prop := ∀ (i : Nat) o, L i = true → ops[i]? = some o → ∀ e ∈ edgesOf o, L e = true

theorem Walked.look (W : Walked P ss ops k S0 rs) {L : Nat → Bool} {i : Nat} {o : Oper} (hi : i < k) (ho : ops[i]? = some o) (he : ∀ e ∈ edgesOf o, L e = true) :
    ∀ x ∈ o.op.operands, (stD S0 (mask L 0 rs)).val x = (stD S0 (rs.take i)).val x := by
  intro x hx
  obtain ⟨h1, h2, _⟩ := opOK_spec (W.okAt i o hi ho)
  cases x with
  | tmp t =>
    simp only [St.val]
    by_cases hk : ∃ (j : Nat) (a : AV), rs[j]? = some ((t : Nat), a)
    · obtain ⟨j, a, hj⟩ := hk
      obtain ⟨hjk, hd, _⟩ := W.key hj
      have hje := h2 t hx j hjk hd
      rw [env_mask W.once L hj, env_take W.once hj (h1 j hje), he j hje]
      rfl
    · have hk' : ∀ (j : Nat) a, rs[j]? ≠ some (t, a) := fun j a e => hk ⟨j, a, e⟩
      rw [env_mask_none L hk', env_take_none hk']
  | const v => rfl
  | func f => rfl
  | global g => rfl

theorem Walked.gctx (W : Walked P ss ops k S0 rs) {L : Nat → Bool} (hD : Down ops L) {i : Nat} : ∀ (n j : Nat) (b : Bool) (t : Nat) (a : AV), rs[j]? = some (t, a) → L j = true → j < i →
    guardCtx (stD S0 (mask L 0 rs)) n t b = guardCtx (stD S0 (rs.take i)) n t b ∧ ∀ c ∈ guardCtx (stD S0 (mask L 0 rs)) n t b, (stD S0 (mask L 0 rs)).env c.1 = (stD S0 (rs.take i)).env c.1
  | 0, j, b, t, a, hj, hL, hji => by
    refine ⟨rfl, fun c hc => ?_⟩
    simp only [guardCtx, List.mem_singleton] at hc
    subst hc
    simp only
    rw [env_mask W.once L hj, env_take W.once hj hji, hL]
    rfl
  | n + 1, j, b, t, a, hj, hL, hji => by
    have e1 : (stD S0 (mask L 0 rs)).env t = a := by rw [env_mask W.once L hj, hL]; rfl
    have e2 : (stD S0 (rs.take i)).env t = a := env_take W.once hj hji
    obtain ⟨hjk, hd, o, qs, ho, hev⟩ := W.key hj
    simp only [guardCtx, e1, e2]
    rcases evD_shape hev with hn | ⟨j2, b2, g2, x, hg, hd2, rfl, hx⟩
    · cases a <;> first
        | (cases hn; done)
        | (refine ⟨rfl, fun c hc => ?_⟩
           simp only [List.mem_singleton] at hc
           subst hc
           simp only
           rw [e1, e2])
    · have hok := opOK_spec (W.okAt j o hjk ho)
      have hj2 := hok.2.2 j2 b2 hg
      have hj2j := hok.1 j2 hj2
      have hL2 := hD j o hL ho j2 hj2
      have hj2k : j2 < k := by omega
      have ho2 : ops[j2]? = some (ops[j2]'(Nat.lt_of_lt_of_le hj2k W.small)) := by simp [Nat.lt_of_lt_of_le hj2k W.small]
      obtain ⟨_, d2, r2, hr2, hev2, _⟩ := W.yields j2 _ hj2k ho2
      have : d2 = g2 := by
        have h1 := (W.key hr2).2.1
        rw [hd2] at h1
        injection h1 with h1
        exact h1.symm
      subst this
      obtain ⟨k1, k2⟩ := W.gctx (i := i) hD n j2 b2 d2 r2 hr2 hL2 (by omega)
      refine ⟨congrArg (List.cons _) k1, fun c hc => ?_⟩
      rcases List.mem_cons.1 hc with rfl | hc
      · simp only
        rw [e1, e2]
      · exact k2 c hc

theorem guardProps_congr {S S' : St} {ctx : List (Nat × Bool)} : ∀ (cs : List (Nat × Bool)), (∀ c ∈ cs, S.env c.1 = S'.env c.1) → guardProps S ctx cs = guardProps S' ctx cs
  | [], _ => rfl
  | (g, b) :: cs, h => by
    have h1 := h (g, b) (by simp)
    simp only at h1
    have ih := guardProps_congr (ctx := ctx) cs (fun c hc => h c (by simp [hc]))
    simp only [guardProps, h1, ih]

theorem Walked.evD_eq (W : Walked P ss ops k S0 rs) {L : Nat → Bool} (hD : Down ops L) {i : Nat} {o : Oper} (hi : i < k) (ho : ops[i]? = some o) (he : ∀ e ∈ edgesOf o, L e = true) :
    evD P ss ops (stD S0 (mask L 0 rs)) o = evD P ss ops (stD S0 (rs.take i)) o := by
  have hl := W.look hi ho he
  have hlh : (stD S0 (mask L 0 rs)).lh = (stD S0 (rs.take i)).lh := rfl
  obtain ⟨q1, q2, q3⟩ := opOK_spec (W.okAt i o hi ho)
  unfold evD
  split
  · rfl
  · split
    · rw [evA_congr hlh hl]
    · rename_i d hd j b hg
      split
      · rename_i g hj
        have hje := q3 j b hg
        have hjk : j < k := by have := q1 j hje; omega
        have hoj : ops[j]? = some (ops[j]'(Nat.lt_of_lt_of_le hjk W.small)) := by simp [Nat.lt_of_lt_of_le hjk W.small]
        obtain ⟨_, d2, r2, hr2, hev2, _⟩ := W.yields j _ hjk hoj
        have : d2 = g := by
          have h1 := (W.key hr2).2.1
          have h2 : dstAt ops j = some g := hj
          rw [h2] at h1
          injection h1 with h1
          exact h1.symm
        subst this
        obtain ⟨k1, k2⟩ := W.gctx hD 4 j b d2 r2 hr2 (he j hje) (q1 j hje)
        rw [guardProps_congr _ k2, k1, evA_congr hlh hl]
      · rfl
end
end Go.Proofs.Ytgnamdjmjkeodaa
