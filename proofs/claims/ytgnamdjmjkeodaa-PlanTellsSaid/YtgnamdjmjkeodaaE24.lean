/- The engine, part 24 (stands between 9 and 10): structs, compared. -/
import Derived.Test.YtgnamdjmjkeodaaE9
import Derived.Laws.StructEq
namespace Go.Proofs.Ytgnamdjmjkeodaa
open Go

def eqFs (P : Program) (g : TypeId → AV → AV → Option Bool) (x y : AV) : List Field → Option Bool
  | [] => some true
  | f :: fs => if f.name = "_" then none else match loadable P f.type with
    | some n => if Nat.ble (f.offset + n) x.len && Nat.ble (f.offset + n) y.len then
        (match g f.type ((x.drop f.offset).take n) ((y.drop f.offset).take n) with
          | some a => match fs with
            | [] => some a
            | _ => (eqFs P g x y fs).map (a && ·)
          | none => none)
      else none
    | none => none

/-- Are two values of type t equal? -/
def eqT (P : Program) : Nat → TypeId → AV → AV → Option Bool
  | 0, _, _, _ => none
  | d + 1, t, x, y => match P.underlying t with
    | some (.int _) => match x, y with
      | .int k a, .int k' b => if k = k' then some (decide (a = b)) else none
      | _, _ => none
    | some .bool => match x, y with
      | .bool a, .bool b => some (a == b)
      | _, _ => none
    | some .string => match x, y with
      | .str a, .str b => some (decide (a = b))
      | _, _ => none
    | some (.struct fs) => match x, y with
      | .pair x1 x2, .pair y1 y2 => if P.stoodInHeld t then none else eqFs P (eqT P d) (.pair x1 x2) (.pair y1 y2) fs.toList
      | _, _ => none
    | _ => none

def evBin2 (P : Program) (t : TypeId) (op : BinOp) (x y : AV) : Res :=
  match x, y with
  | .pair x1 x2, .pair y1 y2 => if P.eqGuardType P.depth t then none else match op, eqT P 9 t (.pair x1 x2) (.pair y1 y2) with
    | .eql, some b => some ([], .bool b)
    | .neq, some b => some ([], .bool (!b))
    | _, _ => none
  | _, _ => evBin P t op x y

/-- Sums that turn round. -/
def evBinW (P : Program) (t : TypeId) (op : BinOp) (x y : AV) : Res :=
  match x, y with
  | .int k a, .int k' b => if k = k' then match op with
      | .add => some ([], .int k (k.wrap (a + b)))
      | .sub => some ([], .int k (k.wrap (a - b)))
      | .mul => some ([], .int k (k.wrap (a * b)))
      | _ => evBin2 P t op (.int k a) (.int k' b)
    else evBin2 P t op (.int k a) (.int k' b)
  | x, y => evBin2 P t op x y
/-- Does this function's contract ask for sums that turn round? -/
def wraps (lh : Nat → Option LE) : Bool := match lh 900001 with | some .dead => true | _ => false

section
variable {P : Program} {w : World} {p : PH} {β : Nat → Value} {tm : Array Value}

theorem loadable_agg {t : TypeId} {n : Nat} (h : loadable P t = some n) :
    (∃ i, P.info? t = some i ∧ i.size = n ∧ 2 ≤ n ∧ (isAgg t).run P w = .ok true w) ∨ (n = 1 ∧ (isAgg t).run P w = .ok false w) := by
  unfold loadable at h
  split at h
  · cases h
  rename_i i hi
  split at h
  · rename_i fs hu
    split at h
    · injection h with h
      rename_i h2
      have h2' := Nat.le_of_ble_eq_true h2
      exact .inl ⟨i, hi, h, by omega, by simp [isAgg, run_underlying hu]⟩
    · cases h
  · rename_i k e hu
    split at h
    · injection h with h
      rename_i h2
      have h2' := Nat.le_of_ble_eq_true h2
      exact .inl ⟨i, hi, h, by omega, by simp [isAgg, run_underlying hu]⟩
    · cases h
  · rename_i d hd1 hd2 hu
    split at h
    · injection h with h
      refine .inr ⟨h.symm, ?_⟩
      cases d <;> first | exact absurd rfl (hd1 _) | exact absurd rfl (hd2 _ _) | simp [isAgg, run_underlying hu]
    · cases h
  · cases h

theorem part_sound {t : TypeId} {n off : Nat} (h : loadable P t = some n) {a : AV} {cs : Array Value} (ha : a.cells p β cs.toList) (hl : off + n ≤ a.len) :
    ∃ v, (part t cs off).run P w = .ok v w ∧ ((a.drop off).take n).val p β tm v := by
  have hlen := AV.len_cells _ _ ha
  have hp := loadable_pos h
  obtain ⟨h1, h2⟩ := cells_part ha hp (show off + n ≤ cs.toList.length by omega)
  rcases loadable_agg (w := w) h with ⟨i, hi, hs, h2n, hag⟩ | ⟨hn, hag⟩
  · refine ⟨.agg (cs.extract off (off + n)), ?_, ?_⟩
    · simp [part, hag, sizeOf, typeInfo, hi, hs]
    · have := AV.val_of_cells_agg (tm := tm) h1 (by omega)
      have e : ((cs.toList.drop off).take n).toArray = cs.extract off (off + n) := by
        apply Array.ext'
        simp [Array.toList_extract, List.extract_eq_take_drop]
      rwa [e] at this
  · subst hn
    match hc : (cs.toList.drop off).take 1, h2 with
    | [v], _ =>
      rw [hc] at h1
      refine ⟨v, ?_, AV.val_of_cells_one h1⟩
      have : cs[off]? = some v := by
        have h3 : ((cs.toList.drop off).take 1)[0]? = some v := by rw [hc]; rfl
        rw [List.getElem?_take] at h3
        simpa using h3
      simp [part, hag, this]

theorem eqFs_sound {g : TypeId → AV → AV → Option Bool} {D : Nat} {cx cy : Array Value} {x y : AV} (hx : x.cells p β cx.toList) (hy : y.cells p β cy.toList)
    (hg : ∀ t a b r va vb, g t a b = some r → a.val p β tm va → b.val p β tm vb → (Op.equalIn D t va vb).run P w = .ok r w) :
    ∀ (fs : List Field) (r : Bool), eqFs P g x y fs = some r → (Op.eqFields D cx cy fs).run P w = .ok r w
  | [], r, h => by
    simp only [eqFs, Option.some.injEq] at h
    subst h
    simp [Op.eqFields]
  | f :: fs, r, h => by
    unfold eqFs at h
    split at h
    · cases h
    rename_i hnm
    split at h
    case h_2 => cases h
    rename_i n hn
    split at h
    case isFalse => cases h
    rename_i hle
    simp only [Bool.and_eq_true] at hle
    obtain ⟨vx, ex, hvx⟩ := part_sound (w := w) (tm := tm) hn hx (Nat.le_of_ble_eq_true hle.1)
    obtain ⟨vy, ey, hvy⟩ := part_sound (w := w) (tm := tm) hn hy (Nat.le_of_ble_eq_true hle.2)
    split at h
    case h_2 => cases h
    rename_i a ha
    have e := hg _ _ _ _ _ _ ha hvx hvy
    have key : ∀ (s : Bool), (Op.eqFields D cx cy fs).run P w = .ok s w → (Op.eqFields D cx cy (f :: fs)).run P w = .ok (a && s) w := by
      intro s hs
      simp only [Op.eqFields, ne_eq, hnm, not_false_eq_true, if_true, Sem.run_bind, ex, ey, e, Result.andThen_ok]
      cases a
      · simp
      · simpa using hs
    split at h
    · injection h with h
      subst h
      have := key true (by simp [Op.eqFields])
      simpa using this
    · obtain ⟨s, hs, rfl⟩ := Option.map_eq_some_iff.1 h
      exact key s (eqFs_sound hx hy hg fs s hs)

theorem eqT_sound : ∀ (d : Nat) (D : Nat) (_ : d ≤ D) (t : TypeId) (a b : AV) (r : Bool) (va vb : Value), eqT P d t a b = some r → a.val p β tm va → b.val p β tm vb → (Op.equalIn D t va vb).run P w = .ok r w
  | 0, _, _, _, _, _, _, _, _, h, _, _ => by cases h
  | d + 1, 0, hD, _, _, _, _, _, _, _, _, _ => by omega
  | d + 1, D + 1, hD, t, a, b, r, va, vb, h, ha, hb => by
    unfold eqT at h
    split at h
    · rename_i k hu
      split at h
      · rename_i k1 n1 k2 n2
        split at h
        · rename_i hk
          subst hk
          injection h with h
          subst h
          obtain ⟨rfl, _⟩ := val_int ha
          obtain ⟨rfl, _⟩ := val_int hb
          rw [run_equalIn_int w D t k1 k n1 n2 hu]
          by_cases he : n1 = n2 <;> simp [he]
        · cases h
      · cases h
    · rename_i hu
      split at h
      · injection h with h
        subst h
        rw [val_bool ha, val_bool hb]
        exact run_equalIn_bool' w D t _ _ hu
      · cases h
    · rename_i hu
      split at h
      · rename_i s1 s2
        injection h with h
        subst h
        obtain ⟨rfl, _⟩ := val_str ha
        obtain ⟨rfl, _⟩ := val_str hb
        rw [run_equalIn_string w D t _ _ hu]
        rw [← beq_toListBytes]
        by_cases he : s1 = s2
        · subst he
          have : ((⟨s1.toArray⟩ : ByteArray) == ⟨s1.toArray⟩) = true := by
            rw [beq_toListBytes]; simp
          rw [this]; simp
        · have hne : ¬ ((⟨s1.toArray⟩ : ByteArray) = ⟨s2.toArray⟩) := fun e => he (str_inj.1 e)
          have : ((⟨s1.toArray⟩ : ByteArray) == ⟨s2.toArray⟩) = false := by
            rw [beq_toListBytes, ByteArray.toList_eq, ByteArray.toList_eq]
            simpa using he
          rw [this]; simp [he]
      · cases h
    · rename_i fs hu
      split at h
      · rename_i x1 x2 y1 y2
        split at h
        · cases h
        rename_i hst
        obtain ⟨cx, rfl, hcx⟩ := ha
        obtain ⟨cy, rfl, hcy⟩ := hb
        have hf : P.fieldsOf t = fs := by simp [Program.fieldsOf, hu]
        rw [run_equalIn_agg w D t cx cy (by rw [hf]; exact hu) (by simpa using hst), hf]
        exact eqFs_sound hcx hcy (fun t a b r va vb h1 h2 h3 => eqT_sound d D (by omega) t a b r va vb h1 h2 h3) fs.toList r h
      · cases h
    · cases h

theorem evBin2_sound {op : BinOp} {t : TypeId} {ox oy : Operand} {x y : AV} {vx vy : Value} {ps : List Prop} {r : AV} (h : evBin2 P t op x y = some (ps, r)) (hps : ∀ q ∈ ps, q)
    (hx : x.val p β tm vx) (hy : y.val p β tm vy) :
    Yields P (do eqGuard op t ox oy vx vy; binOp op t vx vy) w p β tm r := by
  unfold evBin2 at h
  split at h
  · rename_i x1 x2 y1 y2
    split at h
    · cases h
    rename_i hg
    have hg : P.eqGuardType P.depth t = false := by simpa using hg
    have hx' := hx
    have hy' := hy
    obtain ⟨cx, rfl, hcx⟩ := hx
    obtain ⟨cy, rfl, hcy⟩ := hy
    split at h
    · rename_i b hb
      simp only [Option.some.injEq, Prod.mk.injEq] at h
      obtain ⟨rfl, rfl⟩ := h
      refine ⟨.bool b, ?_, rfl⟩
      have := eqT_sound (w := w) (tm := tm) 9 10000 (by omega) t _ _ b _ _ hb hx' hy'
      simp only [Sem.run_bind, run_eqGuard_agg w _ t ox oy cx cy hg, Result.andThen_ok, run_eql_struct, this]
    · rename_i b hb
      simp only [Option.some.injEq, Prod.mk.injEq] at h
      obtain ⟨rfl, rfl⟩ := h
      refine ⟨.bool !b, ?_, rfl⟩
      have := eqT_sound (w := w) (tm := tm) 9 10000 (by omega) t _ _ b _ _ hb hx' hy'
      simp only [Sem.run_bind, run_eqGuard_agg w _ t ox oy cx cy hg, Result.andThen_ok, run_neq_struct, this]
    · cases h
  · exact evBin_sound h hps hx hy

theorem evBinW_sound {op : BinOp} {t : TypeId} {ox oy : Operand} {x y : AV} {vx vy : Value} {ps : List Prop} {r : AV} (h : evBinW P t op x y = some (ps, r)) (hps : ∀ q ∈ ps, q)
    (hx : x.val p β tm vx) (hy : y.val p β tm vy) :
    Yields P (do eqGuard op t ox oy vx vy; binOp op t vx vy) w p β tm r := by
  unfold evBinW at h
  split at h
  · rename_i k a k' b
    split at h
    · rename_i hk
      subst hk
      split at h
      case h_4 => exact evBin2_sound h hps hx hy
      all_goals
        simp only [Option.some.injEq, Prod.mk.injEq] at h
        obtain ⟨rfl, rfl⟩ := h
        obtain ⟨rfl, ha⟩ := val_int hx
        obtain ⟨rfl, hb⟩ := val_int hy
        exact ⟨_, by simp [eqGuard, binOp, Op.intArith, go_sem], rfl, inR_wrap _ _⟩
    · exact evBin2_sound h hps hx hy
  · exact evBin2_sound h hps hx hy
theorem evBinF_sound {op : BinOp} {t : TypeId} {ox oy : Operand} {x y : AV} {vx vy : Value} {ps : List Prop} {r : AV} {f : Bool} (h : (if f = true then evBinW P t op x y else evBin2 P t op x y) = some (ps, r)) (hps : ∀ q ∈ ps, q)
    (hx : x.val p β tm vx) (hy : y.val p β tm vy) :
    Yields P (do eqGuard op t ox oy vx vy; binOp op t vx vy) w p β tm r := by
  split at h
  · exact evBinW_sound h hps hx hy
  · exact evBin2_sound h hps hx hy
end
end Go.Proofs.Ytgnamdjmjkeodaa
