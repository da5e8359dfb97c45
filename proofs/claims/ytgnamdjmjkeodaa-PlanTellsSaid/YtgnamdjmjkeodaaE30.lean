/- The engine, part 30: statements whose order is drawn: the theorem. -/
import Derived.Test.YtgnamdjmjkeodaaE29
namespace Go.Proofs.Ytgnamdjmjkeodaa
open Go

section
variable {M : Nat → Prop} {p0 : PH} {w0 : World} {P : Program} {ss : Specs} {ops : Array Oper} {k : Nat} {S0 : St} {rs : List (Nat × AV)} {Q : Exit → Act → World → Prop}

theorem Sat.congrE {S T : St} {tm : Array Value} {w : World} (h : Sat M p0 w0 S tm w) (he : T.env = S.env) (hl : T.lh = S.lh) (hn : T.n = S.n) : Sat M p0 w0 T tm w := by
  obtain ⟨p, β, h⟩ := h
  refine ⟨p, β, h.keep, h.agr, h.old, by rw [hn]; exact h.size, ?_, ?_, ?_, ?_⟩
  · rw [hl]; exact h.lhs
  · rw [hl]; exact h.owns
  · rw [hl]; exact h.inj
  · rw [he]; exact h.env

theorem getD_in {listed : Array Bool} {j : Nat} (h : j < listed.size) : listed.getD j false = listed.getD j true := by simp [h]

theorem tail_any (W : Walked P ss ops k S0 rs) : ∀ (fuel m : Nat) (listed : Array Bool) (a : Act) (w : World), ops.size - m ≤ fuel → k ≤ m → listed.size = ops.size → (∀ j, j < ops.size → listed.getD j true = decide (j < m)) →
    wpList P ops Q (ops.toList.drop m) a w → wpAny P .any ops Q fuel listed a w := by
  have only : ∀ (m : Nat) (listed : Array Bool), k ≤ m → listed.size = ops.size → (∀ j, j < ops.size → listed.getD j true = decide (j < m)) → ∀ i ∈ Region.ready .any ops listed, i = m := by
    intro m listed hkm hsz hL i hi
    obtain ⟨h1, h2, o, ho, h3⟩ := ready_mem.1 hi
    have hmi : m ≤ i := by
      rw [hL i h1] at h2
      simpa using h2
    rcases Nat.lt_or_ge m i with hlt | hge
    · exfalso
      have := (W.tail i o (by omega) ho).2 m hlt
      have hin := waits_in (ops := ops) (L := fun j => j < ops.size ∧ listed.getD j true = true) (fun j oj hj hoj e he => by
        obtain ⟨hjs, hjl⟩ := hj
        rw [hL j hjs] at hjl
        have hjm : j < m := by simpa using hjl
        have hej : e < j := by
          rcases Nat.lt_or_ge j k with hjk | hjk
          · exact (opOK_spec (W.okAt j oj hjk hoj)).1 e he
          · exact (W.tail j oj hjk hoj).1 e he
        refine ⟨by omega, ?_⟩
        rw [hL e (by omega)]
        simpa using (show e < m by omega)) (fun j hj => hj.1) i o ho (fun e he => by
        have he' := h3 e he
        have hes : e < listed.size := by
          rcases Nat.lt_or_ge e listed.size with h | h
          · exact h
          · simp [h] at he'
        exact ⟨by omega, by rw [← getD_in hes]; exact he'⟩) m this
      have hh := hin.2
      rw [hL m (by omega)] at hh
      simp at hh
    · omega
  have mready : ∀ (m : Nat) (listed : Array Bool), k ≤ m → listed.size = ops.size → (∀ j, j < ops.size → listed.getD j true = decide (j < m)) → m < ops.size → m ∈ Region.ready .any ops listed := by
    intro m listed hkm hsz hL hm
    have ho : ops[m]? = some ops[m] := by simp [hm]
    refine ready_mem.2 ⟨hm, by rw [hL m hm]; simp, _, ho, fun e he => ?_⟩
    have hem := (W.tail m _ hkm ho).1 e he
    rw [getD_in (by omega), hL e (by omega)]
    simpa using hem
  intro fuel
  induction fuel with
  | zero =>
    intro m listed a w hf hkm hsz hL h
    have hd : ops.toList.drop m = [] := List.drop_eq_nil_of_le (by simp; omega)
    rw [hd] at h
    refine ⟨?_, h⟩
    refine List.eq_nil_iff_forall_not_mem.2 fun i hi => ?_
    have := only m listed hkm hsz hL i hi
    have := (ready_mem.1 hi).1
    omega
  | succ fuel ih =>
    intro m listed a w hf hkm hsz hL h
    refine ⟨fun h0 => ?_, fun i hi => ?_⟩
    · rcases Nat.lt_or_ge m ops.size with hm | hm
      · have := mready m listed hkm hsz hL hm
        rw [h0] at this
        cases this
      · have hd : ops.toList.drop m = [] := List.drop_eq_nil_of_le (by simpa using hm)
        rw [hd] at h
        exact h
    · have him := only m listed hkm hsz hL i hi
      subst him
      have hm := (ready_mem.1 hi).1
      have hd : ops.toList.drop i = ops[i] :: ops.toList.drop (i + 1) := by
        rw [List.drop_eq_getElem_cons (by simpa using hm)]
        simp
      rw [hd] at h
      have h' : wpOp P ops Q i (wpList P ops Q (ops.toList.drop (i + 1))) a w := by
        unfold wpOp
        have ho : ops[i]? = some ops[i] := by simp [hm]
        rw [ho]
        exact h
      refine wpOp_mono (fun a' w' hw => ih (i + 1) _ a' w' (by omega) (by omega) (by simpa using hsz) (fun j hj => ?_) hw) h'
      rw [getD_set, hL j hj]
      by_cases hji : j = i
      · subst hji; simp
      · rw [beq_ne hji, Bool.or_false]
        apply decide_eq_decide.2
        omega

theorem cnt_ge {listed : Array Bool} {k : Nat} : ∀ n, (∀ j, k ≤ j → j < n → listed.getD j true = false) → n - k ≤ cnt listed n
  | 0, _ => by omega
  | n + 1, h => by
    have ih := cnt_ge n (fun j h1 h2 => h j h1 (by omega))
    simp only [cnt]
    rcases Nat.lt_or_ge n k with hk | hk
    · omega
    · rw [h n hk (by omega)]
      simp
      omega

theorem first_open {listed : Array Bool} : ∀ n, (∃ j, j < n ∧ listed.getD j true = false) → ∃ i, i < n ∧ listed.getD i true = false ∧ ∀ j, j < i → listed.getD j true = true
  | 0, ⟨j, hj, _⟩ => by omega
  | n + 1, ⟨j, hj, hjl⟩ => by
    by_cases h : ∃ j, j < n ∧ listed.getD j true = false
    · obtain ⟨i, h1, h2, h3⟩ := first_open n h
      exact ⟨i, by omega, h2, h3⟩
    · have all : ∀ j, j < n → listed.getD j true = true := fun j hj => by
        cases hb : listed.getD j true
        · exact absurd ⟨j, hj, hb⟩ h
        · rfl
      have : j = n := by
        rcases Nat.lt_or_ge j n with h' | h'
        · rw [all j h'] at hjl; cases hjl
        · omega
      subst this
      exact ⟨j, by omega, hjl, all⟩

theorem mask_all {L : Nat → Bool} : ∀ (n : Nat) (rs : List (Nat × AV)), (∀ j, j < rs.length → L (n + j) = true) → mask L n rs = rs
  | _, [], _ => rfl
  | n, (d, a) :: rs, h => by
    have h0 := h 0 (by simp)
    simp only [Nat.add_zero] at h0
    simp only [mask, h0, cond_true]
    rw [mask_all (n + 1) rs (fun j hj => by have := h (j + 1) (by simp; omega); rwa [show n + (j + 1) = n + 1 + j by omega] at this)]

theorem draw_any (hss : ss.ok P) (W : Walked P ss ops k S0 rs) {ds : List Deferred} (hrest : ∀ a w, Sat M p0 w0 (stD S0 rs) a.tmps w → a.defers = ds → wpList P ops Q (ops.toList.drop k) a w) :
    ∀ (fuel : Nat) (listed : Array Bool) (a : Act) (w : World), listed.size = ops.size → cnt listed ops.size ≤ fuel → Down ops (fun j => listed.getD j true) → (∀ j, k ≤ j → j < ops.size → listed.getD j true = false) →
      Sat M p0 w0 (stD S0 (mask (fun j => listed.getD j true) 0 rs)) a.tmps w → a.defers = ds → wpAny P .any ops Q fuel listed a w := by
  intro fuel
  induction fuel with
  | zero =>
    intro listed a w hsz hc hD ht hS hds
    have hall := cnt_zero (listed := listed) ops.size (by omega)
    have hk : ops.size ≤ k := by
      rcases Nat.lt_or_ge k ops.size with h | h
      · have h1 := ht k (Nat.le_refl _) h
        rw [hall k h] at h1
        cases h1
      · exact h
    have hm : mask (fun j => listed.getD j true) 0 rs = rs := mask_all 0 rs (fun j hj => by
      simp only [Nat.zero_add]
      exact hall j (by rw [W.len] at hj; have := W.small; omega))
    rw [hm] at hS
    exact tail_any W 0 k listed a w (by omega) (Nat.le_refl _) hsz (fun j hj => by rw [hall j hj]; simp; omega) (hrest a w hS hds)
  | succ fuel ih =>
    intro listed a w hsz hc hD ht hS hds
    by_cases hp : ∃ j, j < k ∧ listed.getD j true = false
    · obtain ⟨i0, hi0, hi0l, hi0a⟩ := first_open k hp
      refine ⟨fun h0 => ?_, fun i hi => ?_⟩
      · exfalso
        have hs0 : i0 < ops.size := Nat.lt_of_lt_of_le hi0 W.small
        have ho : ops[i0]? = some ops[i0] := by simp [hs0]
        have : i0 ∈ Region.ready .any ops listed := ready_mem.2 ⟨hs0, hi0l, _, ho, fun e he => by
          have := (opOK_spec (W.okAt i0 _ hi0 ho)).1 e he
          rw [getD_in (by omega)]
          exact hi0a e this⟩
        rw [h0] at this
        cases this
      · obtain ⟨h1, h2, o, ho, h3⟩ := ready_mem.1 hi
        have h3' : ∀ e ∈ edgesOf o, listed.getD e true = true := fun e he => by
          have he' := h3 e he
          have hes : e < listed.size := by
            rcases Nat.lt_or_ge e listed.size with h | h
            · exact h
            · simp [h] at he'
          rw [← getD_in hes]
          exact he'
        have hik : i < k := by
          rcases Nat.lt_or_ge i k with h | h
          · exact h
          · exfalso
            have := (W.tail i o h ho).2 i0 (by omega)
            have hin := waits_in (ops := ops) (L := fun j => j < ops.size ∧ listed.getD j true = true) (fun j oj hj hoj e he => by
              have hej : e < j := by
                rcases Nat.lt_or_ge j k with hjk | hjk
                · exact (opOK_spec (W.okAt j oj hjk hoj)).1 e he
                · exact (W.tail j oj hjk hoj).1 e he
              exact ⟨by omega, hD j oj hj.2 hoj e he⟩) (fun j hj => hj.1) i o ho (fun e he => ⟨by have := (W.tail i o h ho).1 e he; omega, h3' e he⟩) i0 this
            rw [hi0l] at hin
            exact absurd hin.2 (by simp)
        obtain ⟨qs, d, r, hr, hev, hdn, hq⟩ := W.yields i o hik ho
        rw [← W.evD_eq hD hik ho h3'] at hev
        have step := evD_sound (M := M) (p0 := p0) (w0 := w0) (Q := Q) (K := wpAny P .any ops Q fuel (listed.setIfInBounds i true)) hss hS hev hdn (fun j b g hg hj e => by
          subst e
          have hok := opOK_spec (W.okAt i o hik ho)
          have hje := hok.2.2 j b hg
          have hji := hok.1 j hje
          have hjk : j < k := by omega
          have hoj : ops[j]? = some (ops[j]'(Nat.lt_of_lt_of_le hjk W.small)) := by simp [Nat.lt_of_lt_of_le hjk W.small]
          obtain ⟨_, d2, r2, hr2, _⟩ := W.yields j _ hjk hoj
          have h5 := (W.key hr2).2.1
          rw [hj] at h5
          injection h5 with h5
          subst h5
          have := W.once j i _ _ _ hr2 hr
          omega) hq (fun a' w' hS' hd' => by
          have hL' : (fun j => (listed.setIfInBounds i true).getD j true) = (fun j => listed.getD j true || Nat.beq j i) := by funext j; exact getD_set
          refine ih _ a' w' (by simpa using hsz) ?_ ?_ ?_ ?_ (hd'.trans hds)
          · have := (cnt_set h2 ops.size).2 h1
            omega
          · rw [hL']
            intro j oj hj hoj e he
            simp only [Bool.or_eq_true] at hj ⊢
            rcases hj with hj | hj
            · exact .inl (hD j oj hj hoj e he)
            · have := Nat.eq_of_beq_eq_true hj
              subst this
              rw [ho] at hoj
              injection hoj with hoj
              subst hoj
              exact .inl (h3' e he)
          · intro j hj hjs
            rw [getD_set, ht j hj hjs, beq_ne (by omega)]
            rfl
          · rw [hL']
            exact hS'.congrE (W.env_step hD h2 hr).symm rfl rfl)
        unfold wpOp
        rw [ho]
        simp only
        split
        · rename_i hw
          rw [if_pos hw] at step
          exact .inl step
        · rename_i hw
          rw [if_neg hw] at step
          exact step
    · have hall : ∀ j, j < k → listed.getD j true = true := fun j hj => by
        cases hb : listed.getD j true
        · exact absurd ⟨j, hj, hb⟩ hp
        · rfl
      have hm : mask (fun j => listed.getD j true) 0 rs = rs := mask_all 0 rs (fun j hj => by
        simp only [Nat.zero_add]
        exact hall j (by rw [W.len] at hj; exact hj))
      rw [hm] at hS
      have hge := cnt_ge (k := k) ops.size (fun j h1 h2 => ht j h1 h2)
      refine tail_any W (fuel + 1) k listed a w (by omega) (Nat.le_refl _) hsz (fun j hj => ?_) (hrest a w hS hds)
      rcases Nat.lt_or_ge j k with h | h
      · rw [hall j h]; simp [h]
      · rw [ht j h hj]; simp; omega
end
end Go.Proofs.Ytgnamdjmjkeodaa
