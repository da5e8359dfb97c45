/- The engine, part 9: one function for all operations that yield a value, and what it means. -/
import Derived.Test.YtgnamdjmjkeodaaE8
namespace Go.Proofs.Ytgnamdjmjkeodaa
open Go

section
variable {M : Nat → Prop} {p0 : PH} {w0 : World} {S : St} {tm : Array Value} {w : World} {p : PH} {β : Nat → Value} {P : Program}

theorem run_sliceBound {k : IntKind} {n : Int} {y : Nat} {code : BoundsCode} (h0 : 0 ≤ n) (h1 : n ≤ (y : Int)) : (Instr.sliceBound (.int k n) y code).run P w = .ok n.toNat w := by
  simp [Instr.sliceBound, asIntOf, h0, h1]

theorem slice_run {t e : TypeId} {i : TypeInfo} (hu : P.underlying t = some (.slice e)) (hi : P.info? e = some i) {A : Option Addr} {len cap : Nat} {lo hi' : Option Value} {l h : Nat} (hl : l ≤ h) (hh : h ≤ len) (hc : len ≤ cap)
    (hlo : (lo = none ∧ l = 0) ∨ ∃ k, lo = some (.int k (l : Int))) (hhi : (hi' = none ∧ h = len) ∨ ∃ k, hi' = some (.int k (h : Int))) :
    (Instr.sliceAt t (.slice A len cap) lo hi' none).run P w = .ok (.slice (if cap = l then A else A.map (·.add (l * i.size))) (h - l) (cap - l)) w := by
  have b : (Instr.sliceBounds true len cap lo hi' none).run P w = .ok (l, h, cap) w := by
    rcases hhi with ⟨rfl, rfl⟩ | ⟨k, rfl⟩
    · rcases hlo with ⟨rfl, rfl⟩ | ⟨k, rfl⟩
      · simp [Instr.sliceBounds]
      · have := run_sliceBound (P := P) (w := w) (k := k) (n := (l : Int)) (y := h) (code := .sliceB) (by omega) (by omega)
        simp [Instr.sliceBounds, this]
    · have h1 := run_sliceBound (P := P) (w := w) (k := k) (n := (h : Int)) (y := cap) (code := .sliceAcap) (by omega) (by omega)
      rcases hlo with ⟨rfl, rfl⟩ | ⟨k', rfl⟩
      · simp [Instr.sliceBounds, h1]
      · have := run_sliceBound (P := P) (w := w) (k := k') (n := (l : Int)) (y := h) (code := .sliceB) (by omega) (by omega)
        simp [Instr.sliceBounds, this, h1]
  simp only [Instr.sliceAt, Sem.run_bind, run_underlying hu, Result.andThen_ok, Instr.slice, b, sizeOf, typeInfo, run_program, hi, Sem.run_pure]

theorem slice_str_run {t : TypeId} (hu : P.underlying t = some .string) {s : List UInt8} {lo hi' : Option Value} {l h : Nat} (hl : l ≤ h) (hh : h ≤ s.length)
    (hlo : (lo = none ∧ l = 0) ∨ ∃ k, lo = some (.int k (l : Int))) (hhi : (hi' = none ∧ h = s.length) ∨ ∃ k, hi' = some (.int k (h : Int))) :
    (Instr.sliceAt t (.string ⟨s.toArray⟩) lo hi' none).run P w = .ok (.string ⟨((s.take h).drop l).toArray⟩) w := by
  have hs : (⟨s.toArray⟩ : ByteArray).size = s.length := by simp [ByteArray.size]
  have b : (Instr.sliceBounds false s.length s.length lo hi' none).run P w = .ok (l, h, s.length) w := by
    rcases hhi with ⟨rfl, rfl⟩ | ⟨k, rfl⟩
    · rcases hlo with ⟨rfl, rfl⟩ | ⟨k, rfl⟩
      · simp [Instr.sliceBounds]
      · have := run_sliceBound (P := P) (w := w) (k := k) (n := (l : Int)) (y := s.length) (code := .sliceB) (by omega) (by omega)
        simp [Instr.sliceBounds, this]
    · have h1 := run_sliceBound (P := P) (w := w) (k := k) (n := (h : Int)) (y := s.length) (code := .sliceAlen) (by omega) (by omega)
      rcases hlo with ⟨rfl, rfl⟩ | ⟨k', rfl⟩
      · simp [Instr.sliceBounds, h1]
      · have := run_sliceBound (P := P) (w := w) (k := k') (n := (l : Int)) (y := h) (code := .sliceB) (by omega) (by omega)
        simp [Instr.sliceBounds, this, h1]
  simp only [Instr.sliceAt, Sem.run_bind, run_underlying hu, Result.andThen_ok, Instr.slice, hs, b, Sem.run_pure, Option.isSome_none, Bool.false_eq_true, if_false]
  congr 2
  apply ByteArray.ext
  simp [ByteArray.data_extract, List.extract_eq_take_drop, List.drop_take]

theorem val_int' {k : IntKind} {n : Int} {v : Value} (h : (AV.int k n).val p β tm v) (h0 : 0 ≤ n) : v = .int k (n.toNat : Int) := by
  obtain ⟨rfl, _⟩ := h
  rw [Int.toNat_of_nonneg h0]

theorem drop_of_take_all {α : Type} (xs : List α) (i : Nat) : (xs.take xs.length).drop i = xs.drop i := by rw [List.take_length]

theorem arr_sub' {T : Ty} {xs : List T.den} {v : Value} (h : (Ty.arr T).holds p xs [v]) : ∃ A c, v = .slice A xs.length c ∧ xs.length ≤ c ∧
    ∀ i j, i ≤ j → j ≤ xs.length → (Ty.arr T).holds p ((xs.take j).drop i) [.slice (if c = i then A else A.map (·.add (i * T.size))) (j - i) (c - i)] := by
  obtain ⟨A, c, l, e, h1, h2, h3, h4⟩ := h
  injection e with e _
  refine ⟨A, c, e, h1, fun i j hij hj => ?_⟩
  by_cases hx : xs = []
  · exact arr_sub (b := 0) (o := 0) (.inr hx) h1 h2 h3 (fun hne => absurd hx hne) hij hj
  · obtain ⟨b, o, hA, hc⟩ := h4 hx
    exact arr_sub (.inl hA) h1 h2 h3 (fun _ => hc) hij hj

theorem noneOf {vlo : Option Value} (h : ((none : Option AV) = none ∧ vlo = none) ∨ ∃ a v, (none : Option AV) = some a ∧ vlo = some v ∧ a.val p β tm v) : vlo = none := by
  rcases h with ⟨_, h⟩ | ⟨_, _, e, _⟩
  · exact h
  · cases e
theorem someOf {a : AV} {vlo : Option Value} (h : (some a = none ∧ vlo = none) ∨ ∃ a' v, some a = some a' ∧ vlo = some v ∧ a'.val p β tm v) : ∃ v, vlo = some v ∧ a.val p β tm v := by
  rcases h with ⟨e, _⟩ | ⟨a', v, e, h1, h2⟩
  · cases e
  · injection e with e; subst e; exact ⟨v, h1, h2⟩

theorem evSlice_sound (hS : SatB M p0 w0 S tm w p β) {t : TypeId} {x : AV} {lo hi : Option AV} {vx : Value} {vlo vhi : Option Value} {ps : List Prop} {r : AV}
    (h : evSlice P S.lh t x lo hi = some (ps, r)) (hps : ∀ q ∈ ps, q) (hx : x.val p β tm vx)
    (hlo : (lo = none ∧ vlo = none) ∨ ∃ a v, lo = some a ∧ vlo = some v ∧ a.val p β tm v) (hhi : (hi = none ∧ vhi = none) ∨ ∃ a v, hi = some a ∧ vhi = some v ∧ a.val p β tm v) :
    Yields P (Instr.sliceAt t vx vlo vhi none) w p β tm r := by
  have sl : ∀ {T : Ty} {xs : List T.den} {v : Value} {i j : Nat}, elemOK P t T = true → (Ty.arr T).holds p xs [v] → i ≤ j → j ≤ xs.length →
      ((vlo = none ∧ i = 0) ∨ ∃ k, vlo = some (.int k (i : Int))) → ((vhi = none ∧ j = xs.length) ∨ ∃ k, vhi = some (.int k (j : Int))) →
      Yields P (Instr.sliceAt t v vlo vhi none) w p β tm (.sl T ((xs.take j).drop i)) := by
    intro T xs v i j hok hv hij hj h1 h2
    obtain ⟨e, inf, hu, hinf, hsz⟩ := elemOK_spec hok
    obtain ⟨A, c, rfl, hc, hsub⟩ := arr_sub' hv
    exact ⟨_, slice_run hu hinf hij hj hc h1 h2, by rw [hsz]; exact hsub i j hij hj⟩
  have st : ∀ {s : List UInt8} {i j : Nat}, isStrT P t = true → s.length ≤ big → i ≤ j → j ≤ s.length →
      ((vlo = none ∧ i = 0) ∨ ∃ k, vlo = some (.int k (i : Int))) → ((vhi = none ∧ j = s.length) ∨ ∃ k, vhi = some (.int k (j : Int))) →
      Yields P (Instr.sliceAt t (.string ⟨s.toArray⟩) vlo vhi none) w p β tm (.str ((s.take j).drop i)) := by
    intro s i j ht hb hij hj h1 h2
    exact ⟨_, slice_str_run (isStrT_spec ht) hij hj h1 h2, rfl, by simp; omega⟩
  unfold evSlice at h
  split at h
  · rename_i T xs hm
    have hxs : (Ty.arr T).holds p xs [vx] ∧ elemOK P t T = true := by
      split at hm
      · split at hm
        · rename_i hok
          injection hm with hm
          cases hm
          exact ⟨hx, hok⟩
        · cases hm
      · split at hm
        · split at hm
          · rename_i hd hok
            injection hm with hm
            cases hm
            have hx' : vx = β _ := hx
            rw [hx']
            exact ⟨hS.lhs _ _ hd, hok⟩
          · cases hm
        · cases hm
      · cases hm
    obtain ⟨hv, hok⟩ := hxs
    split at h <;> simp only [Option.some.injEq, Prod.mk.injEq, reduceCtorEq] at h <;> obtain ⟨rfl, rfl⟩ := h
    · obtain rfl := noneOf hlo
      obtain rfl := noneOf hhi
      have := sl hok hv (Nat.zero_le _) (Nat.le_refl _) (.inl ⟨rfl, rfl⟩) (.inl ⟨rfl, rfl⟩)
      simpa using this
    · rename_i k a
      obtain ⟨v, rfl, ha⟩ := someOf hlo
      obtain rfl := noneOf hhi
      have h0 : 0 ≤ a := hps _ (by simp)
      have h1 : a ≤ (xs.length : Int) := hps _ (by simp)
      have := sl hok hv (i := a.toNat) (by omega) (Nat.le_refl _) (.inr ⟨k, by rw [val_int' ha h0]⟩) (.inl ⟨rfl, rfl⟩)
      rwa [drop_of_take_all] at this
    · rename_i k b
      obtain rfl := noneOf hlo
      obtain ⟨v, rfl, ha⟩ := someOf hhi
      have h0 : 0 ≤ b := hps _ (by simp)
      have h1 : b ≤ (xs.length : Int) := hps _ (by simp)
      have := sl hok hv (j := b.toNat) (Nat.zero_le _) (by omega) (.inl ⟨rfl, rfl⟩) (.inr ⟨k, by rw [val_int' ha h0]⟩)
      simpa using this
    · rename_i k a k' b
      obtain ⟨v, rfl, ha⟩ := someOf hlo
      obtain ⟨v', rfl, ha'⟩ := someOf hhi
      have h0 : 0 ≤ a := hps _ (by simp)
      have h1 : a ≤ b := hps _ (by simp)
      have h2 : b ≤ (xs.length : Int) := hps _ (by simp)
      exact sl hok hv (i := a.toNat) (j := b.toNat) (by omega) (by omega) (.inr ⟨k, by rw [val_int' ha h0]⟩) (.inr ⟨k', by rw [val_int' ha' (by omega)]⟩)
  · split at h
    · rename_i s _
      split at h
      · rename_i ht
        obtain ⟨rfl, hb⟩ := val_str hx
        split at h <;> simp only [Option.some.injEq, Prod.mk.injEq, reduceCtorEq] at h <;> obtain ⟨rfl, rfl⟩ := h
        · obtain rfl := noneOf hlo
          obtain rfl := noneOf hhi
          have := st ht hb (Nat.zero_le _) (Nat.le_refl _) (.inl ⟨rfl, rfl⟩) (.inl ⟨rfl, rfl⟩)
          simpa using this
        · rename_i k a
          obtain ⟨v, rfl, ha⟩ := someOf hlo
          obtain rfl := noneOf hhi
          have h0 : 0 ≤ a := hps _ (by simp)
          have h1 : a ≤ (s.length : Int) := hps _ (by simp)
          have := st ht hb (i := a.toNat) (by omega) (Nat.le_refl _) (.inr ⟨k, by rw [val_int' ha h0]⟩) (.inl ⟨rfl, rfl⟩)
          rwa [drop_of_take_all] at this
        · rename_i k b
          obtain rfl := noneOf hlo
          obtain ⟨v, rfl, ha⟩ := someOf hhi
          have h0 : 0 ≤ b := hps _ (by simp)
          have h1 : b ≤ (s.length : Int) := hps _ (by simp)
          have := st ht hb (j := b.toNat) (Nat.zero_le _) (by omega) (.inl ⟨rfl, rfl⟩) (.inr ⟨k, by rw [val_int' ha h0]⟩)
          simpa using this
        · rename_i k a k' b
          obtain ⟨v, rfl, ha⟩ := someOf hlo
          obtain ⟨v', rfl, ha'⟩ := someOf hhi
          have h0 : 0 ≤ a := hps _ (by simp)
          have h1 : a ≤ b := hps _ (by simp)
          have h2 : b ≤ (s.length : Int) := hps _ (by simp)
          exact st ht hb (i := a.toNat) (j := b.toNat) (by omega) (by omega) (.inr ⟨k, by rw [val_int' ha h0]⟩) (.inr ⟨k', by rw [val_int' ha' (by omega)]⟩)
      · cases h
    · cases h

theorem evStrIdx_sound {t : TypeId} {x i : AV} {vx vi : Value} {ps : List Prop} {r : AV} (h : evStrIdx P t x i = some (ps, r)) (hps : ∀ q ∈ ps, q)
    (hx : x.val p β tm vx) (hi : i.val p β tm vi) : Yields P (Instr.index t vx vi) w p β tm r := by
  unfold evStrIdx at h
  split at h <;> try cases h
  rename_i s k n
  split at h <;> simp only [Option.some.injEq, Prod.mk.injEq, reduceCtorEq] at h <;> obtain ⟨rfl, rfl⟩ := h
  rename_i ht
  obtain ⟨rfl, hb⟩ := val_str hx
  obtain ⟨rfl, _⟩ := val_int hi
  have h0 : 0 ≤ n := hps _ (by simp)
  have h1 : n < (s.length : Int) := hps _ (by simp)
  have hl : n.toNat < s.length := by omega
  have hu := isStrT_spec ht
  have hg : (⟨s.toArray⟩ : ByteArray)[n.toNat]? = some (s.getD n.toNat 0) := by
    have hsz : n.toNat < (⟨s.toArray⟩ : ByteArray).size := by simp [ByteArray.size, hl]
    rw [getElem?_pos (⟨s.toArray⟩ : ByteArray) n.toNat hsz]
    simp [ByteArray.getElem_eq_getElem_data, List.getD, hl]
  refine ⟨.int .u8 _, ?_, rfl, ?_⟩
  · simp [Instr.index, asIntOf, run_underlying hu, h0, hg]
  · simp only [InR]; have := (s.getD n.toNat 0).toNat_lt; omega

theorem evMM_sound (mx : Bool) : ∀ (avs : List AV) (vs : List Value) (a : AV) (v : Value) (r : AV), evMM mx avs a = some r → a.val p β tm v → vs.length = avs.length →
    (∀ (i : Nat) a v, avs[i]? = some a → vs[i]? = some v → a.val p β tm v) → Yields P (vs.foldlM (if mx then Builtin.max2 else Builtin.min2) v) w p β tm r
  | [], vs, a, v, r, h, ha, hl, _ => by
    have : vs = [] := List.eq_nil_of_length_eq_zero hl
    subst this
    cases a <;> simp only [evMM, Option.some.injEq, reduceCtorEq] at h
    subst h
    exact ⟨v, rfl, ha⟩
  | b :: avs, vs, a, v, r, h, ha, hl, hv => by
    match vs, hl, hv with
    | u :: vs, hl, hv =>
      have h0 := hv 0 b u rfl rfl
      cases a <;> (try (cases b <;> simp only [evMM, reduceCtorEq] at h; done))
      cases b <;> (try (simp only [evMM, reduceCtorEq] at h; done))
      rename_i k n k' m _ _
      simp only [evMM] at h
      split at h
      · rename_i hk
        subst hk
        obtain ⟨rfl, hn⟩ := val_int ha
        obtain ⟨rfl, hm⟩ := val_int h0
        have step : ((if mx then Builtin.max2 else Builtin.min2) (.int k' n) (.int k' m)).run P w = .ok (.int k' (bif mx then (if n < m then m else n) else (if m < n then m else n))) w := by
          cases mx <;> simp [Builtin.max2, Builtin.min2]
        have hr : InR k' (bif mx then (if n < m then m else n) else (if m < n then m else n)) := by
          cases mx <;> simp only [cond_true, cond_false] <;> split <;> assumption
        obtain ⟨v', e, hv'⟩ := evMM_sound mx avs vs _ (.int k' _) r h ⟨rfl, hr⟩ (by simpa using hl) (fun i a v ha hb => hv (i + 1) a v (by simpa using ha) (by simpa using hb))
        refine ⟨v', ?_, hv'⟩
        simp only [List.foldlM_cons, Sem.run_bind, step, Result.andThen_ok]
        exact e
      · cases h
end
end Go.Proofs.Ytgnamdjmjkeodaa
