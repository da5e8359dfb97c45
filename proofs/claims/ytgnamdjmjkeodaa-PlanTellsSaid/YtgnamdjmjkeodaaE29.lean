/- The engine, part 29: statements whose order is drawn: one step; all steps. -/
import Derived.Test.YtgnamdjmjkeodaaE28
namespace Go.Proofs.Ytgnamdjmjkeodaa
open Go

section
variable {M : Nat → Prop} {p0 : PH} {w0 : World} {P : Program} {ss : Specs} {ops : Array Oper} {k : Nat} {S0 : St} {rs : List (Nat × AV)}

theorem evD_sound (hss : ss.ok P) {S : St} {a : Act} {w : World} {o : Oper} {qs : List Prop} {d : Nat} {r : AV} {Q : Exit → Act → World → Prop} {K : Act → World → Prop} (hS : Sat M p0 w0 S a.tmps w) (h : evD P ss ops S o = some (qs, d, r)) (hdn : d < S.n)
    (hgd : ∀ j b g, o.guard = some (j, b) → dstAt ops j = some g → g ≠ d) (hq : ∀ q ∈ qs, q) (hK : ∀ a' w', Sat M p0 w0 (S.set d r) a'.tmps w' → a'.defers = a.defers → K a' w') :
    if Region.wanted o (yielded ops a.tmps) then o.wp P a w K Q else K (a.put o.dst undef) w := by
  have hd := evD_dst h
  obtain ⟨p, β, hB⟩ := hS
  unfold evD at h
  rw [hd] at h
  simp only at h
  split at h
  · rename_i hg
    split at h <;> simp only [Option.some.injEq, Prod.mk.injEq, reduceCtorEq] at h
    rename_i ps r' hv
    obtain ⟨rfl, _, rfl⟩ := h
    have hw : Region.wanted o (yielded ops a.tmps) = true := by simp [Region.wanted, hg]
    rw [if_pos hw]
    refine evA_sound hB hss (ctx_nil _) hv hq K Q (fun v w' p' hS' hle hr => ?_)
    rw [hd]
    exact hK _ w' ⟨p', β, hS'.set hdn (val_noGd (opn_noGd _ _) (opn_val (ctx_nil _) _ _ hr))⟩ rfl
  · rename_i j b hg
    split at h <;> try cases h
    rename_i g hgj
    split at h <;> simp only [Option.some.injEq, Prod.mk.injEq, reduceCtorEq] at h
    rename_i ps r' hv
    obtain ⟨rfl, _, rfl⟩ := h
    have hne : g ≠ d := hgd j b g hg hgj
    split
    · rename_i hw
      have htm := (wanted_some hg hgj a.tmps).1 hw
      have hctx := guardCtx_hold hB 4 g b htm
      refine evA_sound hB hss hctx hv (fun q hq' => ?_) K Q (fun v w' p' hS' hle hr => ?_)
      · exact impl_elim _ q (hq _ (List.mem_map.2 ⟨q, hq', rfl⟩)) (guardProps_hold hB hctx _ hctx)
      · rw [hd]
        refine hK _ w' ⟨p', β, hS'.set hdn (.inl ⟨?_, val_noGd (opn_noGd _ _) (opn_val (ctx_nil _) _ _ hr)⟩)⟩ rfl
        rw [getD_setIfInBounds_ne hne]; exact htm
    · rename_i hw
      have htm : a.tmps.getD g undef ≠ .bool b := fun e => hw ((wanted_some hg hgj a.tmps).2 e)
      rw [hd]
      exact hK _ w ⟨p, β, Sat.set_undef hB hdn hne htm⟩ rfl

theorem killG_noGdD {x : AV} {d : Nat} (h : x.noGd = true) : x.killG d = x := by
  cases x <;> first | (cases h; done) | rfl

/-- One operation more. -/
theorem Walked.env_step (W : Walked P ss ops k S0 rs) {L : Nat → Bool} (hD : Down ops L) {i : Nat} (hLi : L i = false) {d : Nat} {r : AV} (hi : rs[i]? = some (d, r)) :
    ((stD S0 (mask L 0 rs)).set d r).env = (stD S0 (mask (fun j => L j || Nat.beq j i) 0 rs)).env := by
  funext s
  have hii : (L i || Nat.beq i i) = true := by simp
  by_cases hs : s = d
  · subst hs
    rw [env_mask W.once _ hi, hii]
    simp [St.set]
  · have hb : Nat.beq s d = false := beq_ne hs
    simp only [St.set, hb, cond_false]
    by_cases hk : ∃ (j : Nat) (a : AV), rs[j]? = some (s, a)
    · obtain ⟨j, a, hj⟩ := hk
      have hji : j ≠ i := by
        intro e
        subst e
        rw [hi] at hj
        injection hj with hj
        injection hj with hj _
        exact hs hj.symm
      rw [env_mask W.once _ hj, env_mask W.once _ hj, beq_ne hji, Bool.or_false]
      cases hL : L j
      · rfl
      · simp only [cond_true]
        obtain ⟨hjk, hd, o, qs, ho, hev⟩ := W.key hj
        rcases evD_shape hev with hn | ⟨j2, b2, g2, x, hg, hd2, rfl, hx⟩
        · exact killG_noGdD hn
        · have hok := opOK_spec (W.okAt j o hjk ho)
          have hj2 := hok.2.2 j2 b2 hg
          have hL2 := hD j o hL ho j2 hj2
          have hne : g2 ≠ d := by
            intro e
            subst e
            have hj2k : j2 < k := by have := hok.1 j2 hj2; omega
            have ho2 : ops[j2]? = some (ops[j2]'(Nat.lt_of_lt_of_le hj2k W.small)) := by simp [Nat.lt_of_lt_of_le hj2k W.small]
            obtain ⟨_, d2, r2, hr2, _⟩ := W.yields j2 _ hj2k ho2
            have h1 := (W.key hr2).2.1
            rw [hd2] at h1
            injection h1 with h1
            subst h1
            have := W.once j2 i _ _ _ hr2 hi
            subst this
            rw [hLi] at hL2
            cases hL2
          simp only [AV.killG, beq_ne hne, cond_false, killG_noGdD hx]
    · have hk' : ∀ (j : Nat) a, rs[j]? ≠ some (s, a) := fun j a e => hk ⟨j, a, e⟩
      rw [env_mask_none _ hk', env_mask_none _ hk']
      exact killG_noGdD (W.gd0 s)

/-- How many of the first n are not listed. -/
def cnt (listed : Array Bool) : Nat → Nat
  | 0 => 0
  | n + 1 => cnt listed n + (if listed.getD n true then 0 else 1)

theorem getD_set {listed : Array Bool} {i j : Nat} : (listed.setIfInBounds i true).getD j true = (listed.getD j true || Nat.beq j i) := by
  by_cases h : j = i
  · subst h
    by_cases hs : j < listed.size <;> simp [hs]
  · rw [beq_ne h, Bool.or_false]
    simp [Array.getElem?_setIfInBounds_ne (Ne.symm h), Array.getD_eq_getD_getElem?]

theorem cnt_set {listed : Array Bool} {i : Nat} (hi : listed.getD i true = false) : ∀ n, cnt (listed.setIfInBounds i true) n ≤ cnt listed n ∧ (i < n → cnt (listed.setIfInBounds i true) n < cnt listed n)
  | 0 => ⟨Nat.le_refl _, fun h => by omega⟩
  | n + 1 => by
    obtain ⟨h1, h2⟩ := cnt_set hi n
    simp only [cnt, getD_set]
    by_cases hn : n = i
    · subst hn
      rw [hi]
      simp
      omega
    · rw [beq_ne hn, Bool.or_false]
      refine ⟨by omega, fun h => ?_⟩
      have := h2 (by omega)
      omega

theorem cnt_zero {listed : Array Bool} : ∀ n, cnt listed n = 0 → ∀ j, j < n → listed.getD j true = true
  | 0, _, j, hj => by omega
  | n + 1, h, j, hj => by
    simp only [cnt] at h
    by_cases hn : j = n
    · subst hn
      cases hb : listed.getD j true
      · rw [hb] at h; simp at h
      · rfl
    · exact cnt_zero n (by omega) j (by omega)
end
end Go.Proofs.Ytgnamdjmjkeodaa
