/- The engine, part 8: what lies behind part 7's functions; and one function for all operations that yield a value. -/
import Derived.Test.YtgnamdjmjkeodaaE7
namespace Go.Proofs.Ytgnamdjmjkeodaa
open Go

/-- Struct values, compared part by part. -/
def AV.eqv : AV → AV → Option Bool
  | .int k a, .int k' b => if k = k' then some (decide (a = b)) else none
  | .bool a, .bool b => some (a == b)
  | .str a, .str b => some (decide (a = b))
  | _, _ => none

section
variable {M : Nat → Prop} {p0 : PH} {w0 : World} {S : St} {tm : Array Value} {w : World} {p : PH} {β : Nat → Value} {P : Program}

theorem mapM_sizes : ∀ (fs : List Field), (∀ f ∈ fs, (P.info? f.type).isSome = true) →
    (fs.mapM (fun f => (do pure (f.offset, ← sizeOf f.type) : Sem (Nat × Nat)))).run P w = .ok (fs.map fun f => (f.offset, ((P.info? f.type).map (·.size)).getD 0)) w
  | [], _ => by simp
  | f :: fs, h => by
    have h1 := h f (by simp)
    obtain ⟨i, hi⟩ := Option.isSome_iff_exists.1 h1
    have ih := mapM_sizes fs (fun g hg => h g (by simp [hg]))
    simp only [List.mapM_cons, Sem.run_bind, sizeOf, typeInfo, run_program, hi, Result.andThen_ok, Sem.run_pure]
    simp only [sizeOf, typeInfo] at ih
    rw [ih]
    simp [hi]

def allSized (P : Program) (fs : Array Field) : Bool := fs.toList.all fun f => (P.info? f.type).isSome

theorem evBuild_sound (hS : SatB M p0 w0 S tm w p β) {t : TypeId} {parts : Array (Nat × Operand)} {ρ : Operand → AV} {σ : Operand → Value} {ps : List Prop} {r : AV}
    (h : evBuild P S.lh t parts.toList ρ = some (ps, r)) (hρ : ∀ x, (ρ x).val p β tm (σ x)) (hsz : ∀ fs, P.underlying t = some (.struct fs) → allSized P fs = true) :
    Yields P (Instr.build t (parts.map fun x => (x.1, σ x.2))) w p β tm r := by
  unfold evBuild at h
  split at h <;> try cases h
  rename_i i hi
  split at h <;> try cases h
  rename_i z hz
  split at h <;> try cases h
  rename_i h2
  have h2 := Nat.le_of_ble_eq_true h2
  split at h <;> try cases h
  rename_i fs hu
  have hs := hsz fs hu
  simp only [Option.map_eq_some_iff, Prod.mk.injEq] at h
  obtain ⟨c, hc, rfl, rfl⟩ := h
  have hz0 : z.toList ≠ [] := by intro e; rw [e] at h2; simp at h2
  have hsome : ∀ f ∈ fs.toList, (P.info? f.type).isSome = true := by
    unfold allSized at hs
    exact List.all_eq_true.1 hs
  obtain ⟨cs', h3, h4⟩ := evFill_sound hS hρ (pl := (fs.toList.map fun f => (f.offset, ((P.info? f.type).map (·.size)).getD 0)).toArray) (by
    intro i f hf
    have hm : f ∈ fs.toList := by simpa using Array.mem_of_getElem? hf
    obtain ⟨inf, hinf⟩ := Option.isSome_iff_exists.1 (hsome f hm)
    refine ⟨inf.size, by simp [Go.Proofs.Ytgnamdjmjkeodaa.cellsIn, hinf], ?_⟩
    have : fs.toList[i]? = some f := by simpa using hf
    simp [this, hinf]) parts.toList _ _ z hc (ofCells_cells z.toList hz0)
  have hl := AV.len_cells _ _ h4
  refine ⟨.agg cs', ?_, ?_⟩
  · have hm := mapM_sizes (P := P) (w := w) fs.toList hsome
    have e : (fs.mapM (fun f => (do pure (f.offset, ← sizeOf f.type) : Sem (Nat × Nat)))) = (List.toArray <$> fs.toList.mapM (fun f => (do pure (f.offset, ← sizeOf f.type) : Sem (Nat × Nat)))) := by
      rw [Array.mapM_eq_mapM_toList]
    simp only [Instr.build, Sem.run_bind, zeroValue, typeInfo, run_program, hi, hz, Result.andThen_ok, Sem.run_pure, run_underlying hu]
    simp only [e, Sem.run_map, hm]
    simp only [Value.cells]
    have e2 : (parts.map fun x => (x.1, σ x.2)).toList = parts.toList.map fun x => (x.1, σ x.2) := by simp
    rw [e2]
    show Sem.run P (match Instr.fill (fun x => (List.map (fun f => (f.offset, (Option.map (fun x => x.size) (P.info? f.type)).getD 0)) fs.toList).toArray[x]?) z (List.map (fun x => (x.fst, σ x.snd)) parts.toList) with
        | some cells => pure (Value.agg cells)
        | x => stuck _) w = _
    rw [h3]
    rfl
  · have hlen : cs'.toList.length ≥ 2 := by
      have gen : ∀ (ps : List (Nat × Operand)) (c0 r0 : AV), evFill P S.lh fs ρ ps c0 = some r0 → 2 ≤ c0.len → 2 ≤ r0.len := by
        intro ps
        induction ps with
        | nil => intro c0 r0 h hl; simp only [evFill, Option.some.injEq] at h; subst h; exact hl
        | cons q ps ih =>
          intro c0 r0 h hl
          obtain ⟨i, x⟩ := q
          simp only [evFill] at h
          split at h <;> try cases h
          split at h <;> try cases h
          rename_i n _
          split at h
          · cases h
          rename_i hz
          have hz : n ≠ 0 := by intro e; rw [e] at hz; simp at hz
          split at h
          · rename_i f hf _ hn' hb
            simp only [Bool.and_eq_true] at hb
            have b1 := Nat.eq_of_beq_eq_true hb.1.1
            have b2 := Nat.le_of_ble_eq_true hb.1.2
            refine ih _ r0 h ?_
            have put_len : ∀ (off : Nat) (c0 : AV), off + n ≤ c0.len → 2 ≤ c0.len → c0.len ≤ (AV.put off (ρ x) n c0).len := by
              have app_len : ∀ (a b : AV), (a.app b).len = a.len + b.len := by
                intro a
                induction a with
                | pair x y _ ih2 => intro b; simp only [AV.app, AV.len, ih2 b]; omega
                | _ => intro b; rfl
              have drop_len : ∀ (k : Nat) (c0 : AV), k < c0.len → (c0.drop k).len = c0.len - k := by
                intro k
                induction k with
                | zero => intro c0 _; rfl
                | succ k ihk =>
                  intro c0 hk
                  cases c0 <;> simp only [AV.len] at hk <;> (first | omega | skip)
                  rename_i u v
                  simp only [AV.drop, AV.len]
                  rw [ihk v (by omega)]
                  omega
              intro off
              induction off with
              | zero =>
                intro c0 h1 h2
                unfold AV.put
                split
                · rename_i hb2; have := Nat.eq_of_beq_eq_true hb2; omega
                · rename_i hb2
                  have hne : c0.len ≠ n := by intro e; rw [e] at hb2; simp at hb2
                  rw [app_len, drop_len n c0 (by omega)]
                  omega
              | succ off iho =>
                intro c0 h1 h2
                cases c0 <;> simp only [AV.len] at h1 <;> (first | omega | skip)
                rename_i u v
                simp only [AV.put, AV.len]
                rcases Nat.lt_or_ge v.len 2 with hv | hv
                · -- one cell is left: n = 1 and off = 0
                  have hv1 : v.len = 1 := by
                    have : 0 < v.len := by cases v <;> simp [AV.len]; omega
                    omega
                  have : off = 0 := by omega
                  subst this
                  have : n = 1 := by omega
                  unfold AV.put
                  rw [if_pos (by rw [hv1, this]; rfl)]
                  omega
                · have := iho v (by omega) hv
                  omega
            exact Nat.le_trans hl (put_len _ c0 b2 hl)
          · cases h
      rw [hl]
      refine gen _ _ _ hc ?_
      have := AV.len_cells _ _ (ofCells_cells (p := p) (β := β) z.toList hz0)
      omega
    have := AV.val_of_cells_agg (tm := tm) h4 hlen
    simpa using this

theorem rowHold_drop {α : Type} {h : α → List Value → Prop} {n : Nat} (hn : ∀ x cs, h x cs → cs.length = n) : ∀ (i : Nat) (xs : List α) (cs : List Value), rowHold h xs cs → rowHold h (xs.drop i) (cs.drop (i * n))
  | 0, _, _, hr => by simpa using hr
  | i + 1, [], cs, hr => by simp only [rowHold] at hr; subst hr; simp [rowHold]
  | i + 1, x :: xs, cs, hr => by
    obtain ⟨c1, c2, rfl, h1, h2⟩ := hr
    have l1 := hn _ _ h1
    have e : (c1 ++ c2).drop ((i + 1) * n) = c2.drop (i * n) := by
      rw [Nat.succ_mul, List.drop_append, List.drop_of_length_le (by omega), List.nil_append]
      congr 1
      omega
    rw [e]
    exact rowHold_drop hn i xs c2 h2

theorem rowHold_take {α : Type} {h : α → List Value → Prop} {n : Nat} (hn : ∀ x cs, h x cs → cs.length = n) : ∀ (i : Nat) (xs : List α) (cs : List Value), rowHold h xs cs → rowHold h (xs.take i) (cs.take (i * n))
  | 0, _, _, _ => by simp [rowHold]
  | i + 1, [], cs, hr => by simp only [rowHold] at hr; subst hr; simp [rowHold]
  | i + 1, x :: xs, cs, hr => by
    obtain ⟨c1, c2, rfl, h1, h2⟩ := hr
    have l1 := hn _ _ h1
    refine ⟨c1, c2.take (i * n), ?_, h1, rowHold_take hn i xs c2 h2⟩
    rw [Nat.succ_mul, List.take_append, List.take_of_length_le (by omega)]
    congr 2
    omega

/-- A part of a slice that does not change. -/
theorem arr_sub {T : Ty} {xs : List T.den} {b o c : Nat} {A : Option Addr} {l : List Value} (hA : A = some ⟨b, o, none⟩ ∨ xs = []) (hx : xs.length ≤ c) (hb : xs.length * T.bytes ≤ big)
    (hr : rowHold (T.holds p) xs l) (hc : xs ≠ [] → ∀ j u, l[j]? = some u → p.cell b (o + j) = some u) {i j : Nat} (hij : i ≤ j) (hj : j ≤ xs.length) :
    (Ty.arr T).holds p ((xs.take j).drop i) [.slice (if c = i then A else A.map (·.add (i * T.size))) (j - i) (c - i)] := by
  have hlen : ((xs.take j).drop i).length = j - i := by simp; omega
  have hn := fun x cs h => Ty.holds_length (p := p) T x cs h
  have hrow := rowHold_drop hn i _ _ (rowHold_take hn j xs l hr)
  refine ⟨_, _, _, by rw [hlen], by rw [hlen]; omega, ?_, hrow, fun hne => ?_⟩
  · rw [hlen]
    exact Nat.le_trans (Nat.mul_le_mul_right _ (by omega)) hb
  · have hpos : 0 < j - i := by
      rcases Nat.eq_zero_or_pos (j - i) with h0 | h0
      · exact absurd (List.eq_nil_of_length_eq_zero (by omega)) hne
      · exact h0
    have hxs : xs ≠ [] := by intro e; subst e; simp at hj; omega
    rcases hA with rfl | hA
    · refine ⟨b, o + i * T.size, ?_, fun k u hu => ?_⟩
      · rw [if_neg (by omega)]
        simp [addr_add]
      · have h1 : (l.take (j * T.size))[i * T.size + k]? = some u := by rwa [List.getElem?_drop] at hu
        rw [List.getElem?_take] at h1
        split at h1
        · rw [Nat.add_assoc]; exact hc hxs _ u h1
        · cases h1
    · exact absurd hA hxs
end
end Go.Proofs.Ytgnamdjmjkeodaa
