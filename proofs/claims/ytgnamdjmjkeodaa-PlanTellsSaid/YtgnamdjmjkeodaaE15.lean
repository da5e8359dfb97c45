/- The engine, part 15: stores, calls, appends do what part 14 says. -/
import Derived.Test.YtgnamdjmjkeodaaE14
namespace Go.Proofs.Ytgnamdjmjkeodaa
open Go

theorem take_app {α : Type} (A B : List α) (n : Nat) (h : n = A.length) : (A ++ B).take n = A := by subst h; simp
theorem drop_app {α : Type} (A B : List α) (n : Nat) (h : n = A.length) : (A ++ B).drop n = B := by subst h; simp
theorem splice' {α : Type} (A B C D E F vs : List α) (hC : vs.length = C.length) {s n o1 off N : Nat} (h1 : o1 = A.length) (h2 : off = B.length) (h3 : n = C.length) (h4 : s = off + n + D.length) (h5 : N = o1 + s + E.length) :
    (((A ++ B ++ C ++ D ++ E ++ F).take (o1 + off) ++ vs ++ (A ++ B ++ C ++ D ++ E ++ F).drop (o1 + off + n)).take N) =
     (A ++ B ++ C ++ D ++ E).take o1 ++ ((((A ++ B ++ C ++ D ++ E).drop o1).take s).take off ++ vs ++ (((A ++ B ++ C ++ D ++ E).drop o1).take s).drop (off + n)) ++ (A ++ B ++ C ++ D ++ E).drop (o1 + s) := by
  have e1 : (A ++ B ++ C ++ D ++ E ++ F).take (o1 + off) = A ++ B := by
    rw [show A ++ B ++ C ++ D ++ E ++ F = (A ++ B) ++ (C ++ D ++ E ++ F) by simp, take_app]; simp; omega
  have e2 : (A ++ B ++ C ++ D ++ E ++ F).drop (o1 + off + n) = D ++ E ++ F := by
    rw [show A ++ B ++ C ++ D ++ E ++ F = (A ++ B ++ C) ++ (D ++ E ++ F) by simp, drop_app]; simp; omega
  have e3 : (A ++ B ++ C ++ D ++ E).take o1 = A := by
    rw [show A ++ B ++ C ++ D ++ E = A ++ (B ++ C ++ D ++ E) by simp, take_app]; omega
  have e4 : (A ++ B ++ C ++ D ++ E).drop o1 = B ++ C ++ D ++ E := by
    rw [show A ++ B ++ C ++ D ++ E = A ++ (B ++ C ++ D ++ E) by simp, drop_app]; omega
  have e5 : (B ++ C ++ D ++ E).take s = B ++ C ++ D := by rw [take_app]; simp; omega
  have e6 : (B ++ C ++ D).take off = B := by rw [show B ++ C ++ D = B ++ (C ++ D) by simp, take_app]; omega
  have e7 : (B ++ C ++ D).drop (off + n) = D := by rw [drop_app]; simp; omega
  have e8 : (A ++ B ++ C ++ D ++ E).drop (o1 + s) = E := by rw [drop_app]; simp; omega
  rw [e1, e2, e3, e4, e5, e6, e7, e8]
  rw [show A ++ B ++ vs ++ (D ++ E ++ F) = (A ++ B ++ vs ++ D ++ E) ++ F by simp, take_app]
  · simp
  · simp; omega

theorem splice {α : Type} (cur l vs : List α) {s n o1 off N : Nat} (hl : cur.take N = l) (hN : N ≤ cur.length) (h1 : o1 + s ≤ N) (h2 : off + n ≤ s) (hv : vs.length = n) :
    ((cur.take (o1 + off) ++ vs ++ cur.drop (o1 + off + n)).take N) = l.take o1 ++ (((l.drop o1).take s).take off ++ vs ++ ((l.drop o1).take s).drop (off + n)) ++ l.drop (o1 + s) := by
  have hd : cur = cur.take o1 ++ (cur.drop o1).take off ++ (cur.drop (o1 + off)).take n ++ (cur.drop (o1 + off + n)).take (s - off - n) ++ (cur.drop (o1 + s)).take (N - o1 - s) ++ cur.drop N := by
    have a1 : cur = cur.take o1 ++ cur.drop o1 := (List.take_append_drop _ _).symm
    have a2 : cur.drop o1 = (cur.drop o1).take off ++ cur.drop (o1 + off) := by
      have : cur.drop (o1 + off) = (cur.drop o1).drop off := by rw [List.drop_drop]
      rw [this]; exact (List.take_append_drop _ _).symm
    have a3 : cur.drop (o1 + off) = (cur.drop (o1 + off)).take n ++ cur.drop (o1 + off + n) := by
      have : cur.drop (o1 + off + n) = (cur.drop (o1 + off)).drop n := by rw [List.drop_drop]
      rw [this]; exact (List.take_append_drop _ _).symm
    have a4 : cur.drop (o1 + off + n) = (cur.drop (o1 + off + n)).take (s - off - n) ++ cur.drop (o1 + s) := by
      have : cur.drop (o1 + s) = (cur.drop (o1 + off + n)).drop (s - off - n) := by rw [List.drop_drop]; congr 1; omega
      rw [this]; exact (List.take_append_drop _ _).symm
    have a5 : cur.drop (o1 + s) = (cur.drop (o1 + s)).take (N - o1 - s) ++ cur.drop N := by
      have : cur.drop N = (cur.drop (o1 + s)).drop (N - o1 - s) := by rw [List.drop_drop]; congr 1; omega
      rw [this]; exact (List.take_append_drop _ _).symm
    calc cur = cur.take o1 ++ cur.drop o1 := a1
      _ = cur.take o1 ++ ((cur.drop o1).take off ++ ((cur.drop (o1 + off)).take n ++ ((cur.drop (o1 + off + n)).take (s - off - n) ++ ((cur.drop (o1 + s)).take (N - o1 - s) ++ cur.drop N)))) := by
        rw [← a5, ← a4, ← a3, ← a2]
      _ = _ := by simp
  have hl' : l = cur.take o1 ++ (cur.drop o1).take off ++ (cur.drop (o1 + off)).take n ++ (cur.drop (o1 + off + n)).take (s - off - n) ++ (cur.drop (o1 + s)).take (N - o1 - s) := by
    rw [← hl]
    conv => lhs; rw [hd]
    rw [take_app]
    simp; omega
  rw [hl']
  conv => lhs; rw [hd]
  exact splice' _ _ _ _ _ _ vs (by simp; omega) (by simp; omega) (by simp; omega) (by simp; omega) (by simp; omega) (by simp; omega)

section
variable {M : Nat → Prop} {p0 : PH} {w0 : World} {S : St} {w : World} {p : PH} {β : Nat → Value} {P : Program} {a : Act}

theorem rowHold_set {α : Type} {h : α → List Value → Prop} {n : Nat} (hn : ∀ x cs, h x cs → cs.length = n) : ∀ (xs : List α) (cs : List Value) (i : Nat) (y : α) (ys : List Value), rowHold h xs cs → i < xs.length → h y ys →
    rowHold h (xs.set i y) (cs.take (i * n) ++ ys ++ cs.drop ((i + 1) * n))
  | [], _, _, _, _, _, hi, _ => by simp at hi
  | x :: xs, cs, 0, y, ys, ⟨c1, c2, e, h1, h2⟩, _, hy => by
    have l1 := hn _ _ h1
    subst e
    refine ⟨ys, c2, ?_, hy, h2⟩
    have : (c1 ++ c2).drop n = c2 := by rw [← l1]; simp
    simp [this]
  | x :: xs, cs, i + 1, y, ys, ⟨c1, c2, e, h1, h2⟩, hi, hy => by
    have l1 := hn _ _ h1
    subst e
    have ih := rowHold_set hn xs c2 i y ys h2 (by simpa using hi) hy
    refine ⟨c1, _, ?_, h1, ih⟩
    have e1 : (c1 ++ c2).take ((i + 1) * n) = c1 ++ c2.take (i * n) := by
      rw [Nat.succ_mul, List.take_append, List.take_of_length_le (by omega)]
      congr 2; omega
    have e2 : (c1 ++ c2).drop ((i + 1 + 1) * n) = c2.drop ((i + 1) * n) := by
      rw [Nat.succ_mul, List.drop_append, List.drop_of_length_le (by omega), List.nil_append]
      congr 1; omega
    rw [e1, e2]
    simp [List.append_assoc]

theorem freeze_look (ds : List Nat) (S : St) (ctx : List (Nat × Bool)) (x : Operand) : (S.freeze ds).look ctx x = S.look ctx x := by
  unfold St.look; rw [freeze_val]

theorem dec_length {A : Ty} {x : A.den} {c : AV} {cs : List Value} (hS : SatB M p0 w0 S a.tmps w p β) (h : AV.toTy false S.lh A c = some x) (hc : c.cells p β cs) : A.holds p x cs := by
  have := toTy_sound hS (rows := false) A c x cs h hc
  simpa using this

theorem skip_of_run {o : Oper} {w' : World} {S' : St} (hd : o.dst = none) {s : Sem Unit} (ho : execOp a.eval o = (do s; pure .skip)) (hs : s.run P w = .ok () w') (h : Sat M p0 w0 S' a.tmps w') : EOK M p0 w0 S' P o a w := by
  intro K Q hK
  unfold Oper.wp
  rw [ho]
  simp only [Sem.run_bind, hs, Result.andThen_ok, Sem.run_pure, Oper.upon_skip, hd, Act.put]
  exact hK a w' h rfl

theorem evStore_sound (hS : SatB M p0 w0 S a.tmps w p β) {o : Oper} {t : TypeId} {ad x : Operand} (hd : o.dst = none) (ho : o.op = .store t ad x) {ps : List Prop} {S' : St}
    (h : evStore P S t (S.look [] ad) (S.look [] x) = some (ps, S')) (hps : ∀ q ∈ ps, q) : EOK M p0 w0 S' P o a w := by
  have hx := look_val hS (ctx_nil _) x
  have had := look_val hS (ctx_nil _) ad
  unfold evStore at h
  split at h <;> try cases h
  rename_i n hn
  split at h
  · cases h
  rename_i hz
  have hn0 : n ≠ 0 := by intro e; rw [e] at hz; simp at hz
  split at h
  · rename_i d off hav
    rw [hav] at had
    split at h <;> try cases h
    rename_i c hc
    split at h <;> simp only [Option.some.injEq, Prod.mk.injEq, reduceCtorEq] at h <;> obtain ⟨rfl, rfl⟩ := h
    rename_i hb
    simp only [Bool.and_eq_true] at hb
    obtain ⟨⟨⟨⟨_, h1⟩, h2⟩, h3⟩, h4⟩ := hb
    have h1 := Nat.eq_of_beq_eq_true h1
    have h2 := Nat.le_of_ble_eq_true h2
    obtain ⟨b, e1, e2⟩ := had
    obtain ⟨b', cs, ty, e3, e4, e5⟩ := hS.lhs d _ hc
    rw [e1] at e3
    injection e3 with e3
    injection e3 with e3
    injection e3 with e3
    subst e3
    have hv := val_cells hS hx h3
    have hlv := AV.len_cells _ _ hv
    have hlc := AV.len_cells _ _ e5
    have hsz : (a.eval x).cells.size = n := by simp at hlv; omega
    have hone := cells_oneCell hS _ _ hv h4
    have hrun := storeAt_run (P := P) (w := w) (t := t) hn e4 hsz hone (o := off) (by simp at hlc; omega)
    have hput := AV.cells_put off _ n c _ _ e5 hv (by simpa using hsz) (by omega) (by simp at hlc ⊢; omega)
    obtain ⟨f1, f2, f3, f4, f5, f6⟩ := setRow_facts w b (cs.toList.take off ++ (a.eval x).cells.toList ++ cs.toList.drop (off + n)).toArray e4
    refine skip_of_run hd (s := Instr.storeAt t (a.eval ad) (a.eval x)) (by simp only [execOp, ho]) (by rw [e2]; exact hrun) ⟨p, β, hS.turn hc rfl (by rw [e1]; rfl) f2 f3 f4 f5 f6 ?_⟩
    exact ⟨b, _, ty, e1, f1, by simpa using hput⟩
  · rename_i d T i off hav
    rw [hav] at had
    obtain ⟨p1, hle, hS1⟩ := freeze_sound (S.look [] x).owns S p hS
    split at h <;> try cases h
    rename_i e' T' xs hd1
    split at h <;> try cases h
    rename_i hT
    subst hT
    split at h <;> try cases h
    rename_i hb
    split at h <;> simp only [Option.some.injEq, Prod.mk.injEq, reduceCtorEq] at h <;> obtain ⟨rfl, rfl⟩ := h
    rename_i y hy
    simp only [Bool.and_eq_true] at hb
    obtain ⟨⟨⟨⟨_, h1⟩, h2⟩, h3⟩, h4⟩ := hb
    have h1 := Nat.eq_of_beq_eq_true h1
    have h2 := Nat.le_of_ble_eq_true h2
    have hi : i < xs.length := hps _ (by simp)
    obtain ⟨b, m, c, e1, e2⟩ := had
    have hv := val_cells hS hx h3
    have hlv := AV.len_cells _ _ hv
    have hsz : (a.eval x).cells.size = n := by simp at hlv; omega
    have hone := cells_oneCell hS _ _ hv h4
    obtain ⟨l, g1, g2, g3⟩ := hS1.lhs d _ hd1
    rcases g1.2 with ⟨_, h0⟩ | ⟨g, cap, cur, q1, _, q2, q3, q3', q4, q5⟩
    · omega
    have e3 := q1
    rw [e1] at e3
    injection e3 with e3 _ _
    injection e3 with e3
    injection e3 with e3
    subst e3
    have hle1 : (i + 1) * T'.size ≤ cur.size := by
      have : (i + 1) * T'.size ≤ cap * T'.size := Nat.mul_le_mul_right _ (by omega)
      omega
    rw [Nat.succ_mul] at hle1
    have hrun := storeAt_run (P := P) (w := w) (t := t) hn q2 hsz hone (o := i * T'.size + off) (by omega)
    obtain ⟨f1, f2, f3, f4, f5, f6⟩ := setRow_facts w b (cur.toList.take (i * T'.size + off) ++ (a.eval x).cells.toList ++ cur.toList.drop (i * T'.size + off + n)).toArray q2
    -- the element's cells, old and new
    have hll : l.length = xs.length * T'.size := g1.1
    have hT := Ty.holds_length (p := p1) T'
    have hxi : xs[i]? = some (xs.getD i T'.dflt) := by simp [List.getD, hi]
    have hel := rowHold_get (fun x cs h => Ty.holds_length T' x cs h) xs l g2 i _ hxi
    have hmul : (i + 1) * T'.size ≤ xs.length * T'.size := Nat.mul_le_mul_right _ hi
    rw [Nat.succ_mul] at hmul
    have hell : ((l.drop (i * T'.size)).take T'.size).length = T'.size := by simp; omega
    have hput := AV.cells_put off _ n _ _ _ (Ty.av_cells (β := β) T' _ _ hel) (AV.cells_mono hle _ _ hv) (by simpa using hsz) (by omega) (by omega)
    have hy' := dec_length hS1 hy hput
    have hset := rowHold_set (fun x cs h => Ty.holds_length T' x cs h) xs l i y _ g2 hi hy'
    refine skip_of_run hd (s := Instr.storeAt t (a.eval ad) (a.eval x)) (by simp only [execOp, ho]) (by rw [e2]; exact hrun) ⟨p1, β, hS1.turn hd1 rfl (by rw [e1]; rfl) f2 f3 f4 f5 f6 ?_⟩
    refine ⟨_, ⟨?_, .inr ⟨b, cap, _, by rw [q1]; simp, Nat.zero_le _, f1, by simpa using q3, q3', ?_, ?_⟩⟩, hset, by simpa using g3⟩
    · simp only [List.length_append, List.length_take, List.length_drop, List.length_set]
      simp only [Array.length_toList, hsz]
      rw [Nat.succ_mul]
      omega
    · simp only [List.size_toArray, List.length_append, List.length_take, List.length_drop, Array.length_toList, hsz]
      omega
    · -- the first cells of the block
      simp only [List.length_set]
      rw [Nat.succ_mul]
      exact splice cur.toList l _ q5 (by simp; rw [q4]; exact Nat.mul_le_mul_right _ q3) (by omega) h2 (by simpa using hsz)
  · cases h
end
end Go.Proofs.Ytgnamdjmjkeodaa
