
import Derived.Test.YtcnoiiohmpgckaaBase
import Derived.WalkKit
import Derived.KernelRfl
import Derived.Lib.AppendZeros
import Derived.Lib.AppendZerosOnto
import Derived.Lib.Overlaps
import Derived.Laws.Externs
import Derived.Laws.IdiomCopy
import Derived.Laws.CopyRow
import Derived.Shelf.RegionOpenPlain
import Derived.Shelf.Spec.SlicesInsert
import Derived.Deep.Upon
namespace Go.Proofs.Ytcnoiiohmpgckaa
open Go Go.RowKit Go.Lib
theorem run_copyK {P : Program} (w : World) (dT sT ty elem : TypeId) (K g o n dLen dCap : Nat) (a : Addr) (sLen sCap : Nat) (cur : Array Value) (t : TypeId) (cs : List Value)
    (hu : P.underlying dT = some (.slice elem)) (hs : (P.info? elem).map (·.size) = some K) (hg : w.heap[g]? = some (.cells cur t (0, 0))) (hn : n = Nat.min sLen dLen) (hl : cs.length = n * K)
    (hsrc : ∀ j v, cs[j]? = some v → w.cell? (a.add j) = some v) (hfit : o + n * K ≤ cur.size) (h1 : ∀ v ∈ cs, v.oneCell' = true) :
    (Builtin.copy_ #[dT, sT] ty #[.slice (some ⟨g, o, none⟩) dLen dCap, .slice (some a) sLen sCap]).run P w =
      .ok (goInt (n : Nat)) (w.setRow g (cur.toList.take o ++ cs ++ cur.toList.drop (o + n * K)).toArray) := by
  have hl' := run_loadCells_list (P := P) w a cs hsrc
  have hst := run_storeCells_at P g o t cs 0 cur w hg (by omega) h1
  rw [hl] at hl'
  rw [hl] at hst
  cases hq : P.info? elem with
  | none => simp [hq] at hs
  | some i =>
    have hi : i.size = K := by simpa [hq] using hs
    simp [Builtin.copy_, run_underlying hu, Builtin.lenOf, Builtin.firstCells, sizeOf, typeInfo, hq, hi, ← hn, hl', hst]
theorem splice_in (cur l l2 : List Value) {a b c : Nat} (h : cur.take c = l) (ha : a ≤ c) (hfit : c + b ≤ cur.length) (h2 : l2.length = b) {c1 : List Value} (h1 : c1 = cur.take (a + b) ++ l.drop a ++ cur.drop (a + b + (c - a))) :
    c1.length = cur.length ∧ (c1.take a ++ l2 ++ c1.drop (a + b)).length = cur.length ∧ (c1.take a ++ l2 ++ c1.drop (a + b)).take (c + b) = l.take a ++ l2 ++ l.drop a := by
  have hl : l.length = c := by rw [← h]; simp; omega
  have e1 : (cur.take (a + b)).length = a + b := by simp; omega
  have e2 : c1.length = cur.length := by rw [h1]; simp; omega
  have e3 : c1.take a = l.take a := by
    rw [h1, List.append_assoc, List.take_append_of_le_length (by omega), List.take_take, Nat.min_eq_left (by omega), ← h, List.take_take, Nat.min_eq_left ha]
  have e4 : c1.drop (a + b) = l.drop a ++ cur.drop (a + b + (c - a)) := by
    rw [h1, List.append_assoc, List.drop_append_of_le_length (by omega), List.drop_of_length_le (by omega), List.nil_append]
  refine ⟨e2, ?_, ?_⟩
  · rw [e3, e4]; simp; omega
  · rw [e3, e4, ← List.append_assoc, List.take_append_of_le_length (by simp; omega), List.take_of_length_le (by simp; omega)]
theorem splice_new (l l2 z : List Value) {a b c G : Nat} (hl : l.length = c) (ha : a ≤ c) (h2 : l2.length = b) (hz : a + z.length = G) (hG : c + b ≤ G) {c0 c1 : List Value} (h0 : c0 = l.take a ++ z)
    (h1 : c1 = c0.take a ++ l2 ++ c0.drop (a + b)) :
    c0.length = G ∧ c1.length = G ∧ (c1.take (a + b) ++ l.drop a ++ c1.drop (a + b + (c - a))).length = G ∧ (c1.take (a + b) ++ l.drop a ++ c1.drop (a + b + (c - a))).take (c + b) = l.take a ++ l2 ++ l.drop a := by
  have e0 : c0.length = G := by rw [h0]; simp; omega
  have e1 : c0.take a = l.take a := by rw [h0, List.take_append_of_le_length (by simp; omega), List.take_take, Nat.min_self]
  have e2 : c1.length = G := by rw [h1]; simp; omega
  have e3 : c1.take (a + b) = l.take a ++ l2 := by
    rw [h1, e1, List.take_append_of_le_length (by simp; omega), List.take_of_length_le (by simp; omega)]
  refine ⟨e0, e2, by rw [e3]; simp; omega, ?_⟩
  rw [e3, List.take_append_of_le_length (by simp; omega), List.take_of_length_le (by simp; omega)]
theorem step_append_run {P : Program} {ops : Array Oper} {o : Oper} {a : Act} {w : World} {K : Act → World → Prop} {Q : Exit → Act → World → Prop} {E : Prop}
    (hg : o.guard = none) (d x : Operand) (t tn : TypeId) (hop : o.op = Op.call { callee := Callee.builtin Builtin.append, args := #[d, x], argTypes := #[t, tn] })
    (v u : Value) (hd : a.eval d = v) (hx : a.eval x = u) {v' : Value} {w' : World} (hr : (Builtin.append_ #[t, tn] o.type #[v, u]).run P w = .ok v' w') (hK : K (a.put o.dst v') w') :
    if Region.wanted o (yielded ops a.tmps) = true then Oper.wp P o a w K Q else E := by
  have hw : Region.wanted o (yielded ops a.tmps) = true := by simp [Region.wanted, hg]
  rw [if_pos hw]
  exact Lib.wp_append_run w d x t tn hop v u hd hx v' w' hr hK
theorem wpList_clear_run {P : Program} (w : World) {ops : Array Oper} {rest : List Oper} {o : Oper} {a : Act} {Q : Exit → Act → World → Prop} (hgd : o.guard = none) (x : Operand) (t : TypeId)
    (ho : o.op = .call { callee := .builtin .clear, args := #[x], argTypes := #[t] }) (vx : Value) (hx : a.eval x = vx)
    (v' : Value) (w' : World) (hr : (Builtin.clear_ #[t] o.type #[vx]).run P w = .ok v' w') (h : wpList P ops Q rest (a.put o.dst v') w') : wpList P ops Q (o :: rest) a w :=
  wpList_plain hgd fun _ hK => by
    unfold Oper.wp execOp
    simp only [ho, resolve, invoke, builtin, Sem.run_bind, Sem.run_pure, Result.andThen_ok, List.map_toArray, List.map_cons, List.map_nil, hx, hr]
    exact hK _ _ h
def insG {α : Type} (xs ys : List α) (i : Int) : List α := xs.take i.toNat ++ ys ++ xs.drop i.toNat
def cutG {α : Type} (xs : List α) (i j : Int) : List α := xs.take i.toNat ++ xs.drop j.toNat
theorem grown_setRow (w : World) {g : Nat} (cs : Array Value) {cur : Array Value} {t : TypeId} (h : w.heap[g]? = some (.cells cur t (0, 0))) : w.grownBy (w.setRow g cs) (some g) := by
  obtain ⟨_, h2, h3, h4, h5, h6⟩ := setRow_facts w g cs h
  exact ⟨h2, h3, h4, by omega, fun k _ hk => h6 k (fun e => hk (by rw [e]))⟩
theorem grownK_drew (w : World) (row : Option Nat) : w.grownBy w.drew row := ⟨rfl, rfl, rfl, Nat.le_refl _, fun _ _ _ => rfl⟩
theorem grownK_alloc (w : World) (o : Go.Obj) (row : Option Nat) : w.grownBy (w.alloc o) row := ⟨rfl, rfl, rfl, by simp, fun k hk _ => heap_alloc_old w o hk⟩
theorem grownK_new {w w1 w2 : World} {N : Nat} {row : Option Nat} (h : w.grownBy w1 row) (k : w1.grownBy w2 (some N)) (hN : w.heap.size ≤ N) : w.grownBy w2 row :=
  ⟨k.os.trans h.os, k.tape.trans h.tape, k.output.trans h.output, Nat.le_trans h.size k.size, fun i hi hne => (k.block i (Nat.lt_of_lt_of_le hi h.size) (fun e => by injection e; omega)).trans (h.block i hi hne)⟩
def InsShift (P : Program) (F : FuncId) (S : TypeId) (Z : Nat) : Prop :=
  ∀ (w W1 W2 : World) (g n c i vb m vc : Nat) (tA tB : TypeId) (kA kB : Nat), i < n → 0 < m → n + m ≤ c → c ≤ 9223372036854775807 → vb ≠ g →
    w.shape? vb = some (tA, kA) → w.shape? g = some (tB, kB) → kB ≠ 0 → w.frozen? ⟨vb, 0, none⟩ = false → w.frozen? ⟨vb, kA, none⟩ = false →
    (∀ ty (d1 d2 d3 d4 : Nat), d1 = n - i → d2 = n + m - i → (Builtin.copy_ #[S, S] ty #[.slice (some ⟨g, (i + m) * Z, none⟩) d1 d3, .slice (some ⟨g, i * Z, none⟩) d2 d4]).run P w.drew = .ok (goInt (n - i : Nat)) W1) →
    (∀ ty (d1 d3 : Nat), d1 = n + m - i → (Builtin.copy_ #[S, S] ty #[.slice (some ⟨g, i * Z, none⟩) d1 d3, .slice (some ⟨vb, 0, none⟩) m vc]).run P W1 = .ok (goInt (m : Nat)) W2) →
    Calls P F #[.slice (some ⟨g, 0, none⟩) n c, .int .i64 i, .slice (some ⟨vb, 0, none⟩) m vc] w fun e w' => e = .returned (.slice (some ⟨g, 0, none⟩) (n + m) c) ∧ w' = W2
def InsGrow (P : Program) (F : FuncId) (S I : TypeId) (Z : Nat) : Prop :=
  ∀ (w W0 W1 W2 : World) (g N n c i vb m vc G : Nat), i < n → 0 < m → n ≤ c → c < n + m → n + m ≤ G → n + m ≤ 9223372036854775807 → G ≤ 9223372036854775807 →
    (∀ ty, (Builtin.append_ #[S, I] ty #[.slice (some ⟨g, 0, none⟩) i c, .int .i64 ((n : Int) + (m : Int) - (i : Int))]).run P w = .ok (.slice (some ⟨N, 0, none⟩) (n + m) G) W0) →
    (∀ ty (d1 d3 : Nat), d1 = n + m - i → (Builtin.copy_ #[S, S] ty #[.slice (some ⟨N, i * Z, none⟩) d1 d3, .slice (some ⟨vb, 0, none⟩) m vc]).run P W0 = .ok (goInt (m : Nat)) W1) →
    (∀ ty (d1 d2 d3 d4 : Nat), d1 = n - i → d2 = n - i → (Builtin.copy_ #[S, S] ty #[.slice (some ⟨N, (i + m) * Z, none⟩) d1 d3, .slice (some ⟨g, i * Z, none⟩) d2 d4]).run P W1.drew = .ok (goInt (n - i : Nat)) W2) →
    Calls P F #[.slice (some ⟨g, 0, none⟩) n c, .int .i64 i, .slice (some ⟨vb, 0, none⟩) m vc] w fun e w' => e = .returned (.slice (some ⟨N, 0, none⟩) (n + m) G) ∧ w' = W2
def InsEnd (P : Program) (F : FuncId) (S : TypeId) : Prop :=
  ∀ (w W : World) (A : Option Addr) (n c vb m vc : Nat) (v' : Value), 0 < m → n ≤ c → (A = none → n = 0 ∧ c = 0) → (∀ a, A = some a → a.off = 0 ∧ a.spot = none) →
    (Builtin.append_ #[S, S] S #[.slice A n c, .slice (some ⟨vb, 0, none⟩) m vc]).run P w = .ok v' W →
    Calls P F #[.slice A n c, .int .i64 n, .slice (some ⟨vb, 0, none⟩) m vc] w fun e w' => e = .returned v' ∧ w' = W
def sp_insG (E : TypeId) (T : Ty) : RowFn := { e := E, T := T, Ts := [ty_I], out := true, tail := true, pre := fun (xs ys : List T.den) (i : Int) => 0 < ys.length ∧ 0 ≤ i ∧ i ≤ xs.length ∧ (xs.length + ys.length) * T.bytes ≤ big, F := fun (xs ys : List T.den) (i : Int) => insG xs ys i }
theorem insG_ok {P : Program} {T : Ty} {F : FuncId} {S E I : TypeId} (hS : P.underlying S = some (.slice E)) (hI : P.underlying I = some (.int .i64)) (hf : elemFits P E T = true)
    (shift : InsShift P F S T.size) (grow : InsGrow P F S I T.size) (end_ : InsEnd P F S) : (sp_insG E T).ok P F := by
  intro p w v (xs : List T.den) l v2 (ys : List T.den) l2 vs (i : Int) hA hown hl hbig hp hown2 hl2 hne hargs hpre
  obtain ⟨hm, hi0, hi1, hb⟩ : 0 < ys.length ∧ 0 ≤ i ∧ i ≤ xs.length ∧ (xs.length + ys.length) * T.bytes ≤ big := hpre
  obtain ⟨v1, rfl, hv1⟩ := hargs
  have hv1 : [v1] = [Value.int .i64 i] ∧ InR .i64 i := hv1
  obtain ⟨hv1, _⟩ := hv1
  injection hv1 with hv1
  subst hv1
  obtain ⟨k, rfl⟩ : ∃ k : Nat, i = k := ⟨i.toNat, by omega⟩
  have hk : k ≤ xs.length := by omega
  have hown : w.ownsRow 0 E T.size v xs.length l := hown
  have hown2 : w.ownsRow 0 E T.size v2 ys.length l2 := hown2
  have hl : rowHold (T.holds p) xs l := hl
  have hl2 : rowHold (T.holds p) ys l2 := hl2
  have hbig : xs.length * T.bytes ≤ big := hbig
  obtain ⟨inf, z, hinf, hsz, hby, hz, hzs⟩ := elemFits_spec hf
  have hlen : l.length = xs.length * T.size := hown.1
  have hlen2 : l2.length = ys.length * T.size := hown2.1
  have h1l : ∀ u ∈ l, u.oneCell' = true := rowHold_all (fun x cs h => holds_oneCell T x cs h) xs l hl
  have h1l2 : ∀ u ∈ l2, u.oneCell' = true := rowHold_all (fun x cs h => holds_oneCell T x cs h) ys l2 hl2
  have hszE : (P.info? E).map (·.size) = some T.size := by rw [hinf]; simp [hsz]
  have hpos := Ty.size_pos T
  have eF : ((sp_insG E T).F xs ys (k : Int) : List T.den) = xs.take k ++ ys ++ xs.drop k := by show insG xs ys k = _; simp [insG]
  have hFl : (xs.take k ++ ys ++ xs.drop k).length = xs.length + ys.length := by simp; omega
  have hrow : rowHold (T.holds p) (xs.take k ++ ys ++ xs.drop k) (l.take (k * T.size) ++ l2 ++ l.drop (k * T.size)) :=
    rowHold_append _ _ _ _ (rowHold_append _ _ _ _ (rowHold_take (fun x cs h => Ty.holds_length T x cs h) k xs l hl) hl2) (rowHold_drop (fun x cs h => Ty.holds_length T x cs h) k xs l hl)
  have hb8 : (xs.take k ++ ys ++ xs.drop k).length * T.bytes ≤ big := by rw [hFl]; exact hb
  have hb8e := bytes_pos T
  have h63 : xs.length + ys.length ≤ maxLen := by
    have h2 : (xs.length + ys.length) * 8 ≤ (xs.length + ys.length) * T.bytes := Nat.mul_le_mul_left _ hb8e
    simp only [big, maxLen] at *
    omega
  have done : ∀ (v' : Value) (w' : World) (e : Ending), e = .returned v' → w.grownBy w' v.ownBlock → w'.ownsRow 0 E T.size v' (xs.length + ys.length) (l.take (k * T.size) ++ l2 ++ l.drop (k * T.size)) → (∀ b, v'.ownBlock = some b → v.ownBlock = some b ∨ w.heap.size ≤ b) →
      ∃ (v' : Value) (l' : List Value), e = .returned (if (sp_insG E T).out then v' else .tuple #[]) ∧ ((sp_insG E T).out = false → v' = v) ∧ w.grownBy w' v.ownBlock ∧
      w'.ownsRow 0 (sp_insG E T).e (sp_insG E T).T.size v' ((sp_insG E T).F xs ys (k : Int) : List T.den).length l' ∧ rowHold ((sp_insG E T).T.holds p) ((sp_insG E T).F xs ys (k : Int)) l' ∧ ((sp_insG E T).F xs ys (k : Int) : List T.den).length * (sp_insG E T).T.bytes ≤ big ∧
      ∀ b, v'.ownBlock = some b → v.ownBlock = some b ∨ w.heap.size ≤ b := by
    intro v' w' e he hg ho hbk
    rw [eF]
    refine ⟨v', _, he, fun h => (by cases h), hg, ?_, hrow, hb8, hbk⟩
    show w'.ownsRow 0 E T.size v' (xs.take k ++ ys ++ xs.drop k).length _
    rw [hFl]
    exact ho
  rcases hown2.2 with ⟨_, h0⟩ | ⟨g2, cap2, cur2, rfl, _, hb2, h21, h22, h23, h24⟩
  · omega
  have hvs : ∀ (j : Nat) (u : Value), l2[j]? = some u → w.cell? ⟨g2, 0 + j, none⟩ = some u := by
    intro j u hj
    have : cur2.toList[j]? = some u := by
      rw [← h24, List.getElem?_take] at hj
      split at hj
      · exact hj
      · cases hj
    simp only [World.cell?, hb2, Nat.zero_add]
    simpa using this
  show Calls P F #[v, .int .i64 k, .slice (some ⟨g2, 0, none⟩) ys.length cap2] w _
  by_cases hkn : k = xs.length
  ·
    obtain ⟨v', w', r1, r2, r3, r4⟩ := append_run (ty := S) hS hf hown hl2 (A := some ⟨g2, 0, none⟩) (c := cap2) (fun _ => ⟨g2, 0, rfl, hvs⟩) hb
    have el : l.take (k * T.size) ++ l2 ++ l.drop (k * T.size) = l ++ l2 := by
      rw [hkn, List.take_of_length_le (by omega), List.drop_of_length_le (by omega), List.append_nil]
    have main : ∀ (A : Option Addr) (n c : Nat), v = .slice A n c → xs.length = n → n ≤ c → (A = none → n = 0 ∧ c = 0) → (∀ a, A = some a → a.off = 0 ∧ a.spot = none) →
        Calls P F #[v, .int .i64 (xs.length : Int), .slice (some ⟨g2, 0, none⟩) ys.length cap2] w fun e W => e = .returned v' ∧ W = w' := by
      intro A n c hv hn h1 h2 h3
      have h := end_ w w' A n c g2 ys.length cap2 v' hm h1 h2 h3 (by rw [← hv]; exact r1)
      rw [← hv, ← hn] at h
      exact h
    have hcall : Calls P F #[v, .int .i64 (xs.length : Int), .slice (some ⟨g2, 0, none⟩) ys.length cap2] w fun e W => e = .returned v' ∧ W = w' := by
      rcases hown.2 with ⟨hv, h0⟩ | ⟨g, cap, cur, hv, _, hbg, h1, h2, h3, h4⟩
      · exact main none 0 0 hv h0 (Nat.le_refl _) (fun _ => ⟨rfl, rfl⟩) (fun a h => by cases h)
      · exact main (some ⟨g, 0, none⟩) xs.length cap hv rfl h1 (fun h => by cases h) (fun a h => by injection h with h; subst h; exact ⟨rfl, rfl⟩)
    subst hkn
    refine hcall.mono fun e W h => ?_
    obtain ⟨rfl, rfl⟩ := h
    exact done v' _ _ rfl r3 (by rw [el]; exact r2) (fun b hb' => by
      rcases r4 with r4 | r4
      · exact .inl (by rw [← r4]; exact hb')
      · rw [r4] at hb'
        injection hb' with hb'
        exact .inr (by omega))
  have hkl : k < xs.length := by omega
  rcases hown.2 with ⟨_, h0⟩ | ⟨g, cap, cur, rfl, _, hbg, h1, h2, h3, h4⟩
  · omega
  have hgs : g < w.heap.size := (Array.getElem?_eq_some_iff.1 hbg).1
  have hvb : g2 ≠ g := fun e => hne g rfl (by rw [e]; rfl)
  have hcap : cap ≤ 9223372036854775807 := by unfold maxLen at h2; omega
  have hkz : (k + ys.length) * T.size = k * T.size + ys.length * T.size := Nat.add_mul _ _ _
  have hnz : (xs.length + ys.length) * T.size = xs.length * T.size + ys.length * T.size := Nat.add_mul _ _ _
  have hkn' : k * T.size ≤ xs.length * T.size := Nat.mul_le_mul_right _ hk
  have hdz : (xs.length - k) * T.size = xs.length * T.size - k * T.size := Nat.sub_mul _ _ _
  have hdrop : ((l.drop (k * T.size)).length) = (xs.length - k) * T.size := by rw [List.length_drop, hlen, hdz]
  have hlc : cur.toList.length = cap * T.size := by simpa using h3
  have hsrc : ∀ (j : Nat) (u : Value), (l.drop (k * T.size))[j]? = some u → w.cell? ⟨g, k * T.size + j, none⟩ = some u := by
    intro j u hj
    rw [List.getElem?_drop] at hj
    have : cur.toList[k * T.size + j]? = some u := by
      rw [← h4, List.getElem?_take] at hj
      split at hj
      · exact hj
      · cases hj
    simp only [World.cell?, hbg]
    simpa using this
  by_cases hroom : xs.length + ys.length ≤ cap
  ·
    have hfit : xs.length * T.size + ys.length * T.size ≤ cur.toList.length := by
      rw [hlc, ← hnz]
      exact Nat.mul_le_mul_right _ hroom
    have hkB : cur.size ≠ 0 := by
      have : 0 < xs.length * T.size := Nat.mul_pos (by omega) hpos
      have : cur.toList.length = cur.size := by simp
      omega
    have hgd : w.drew.heap[g]? = some (.cells cur E (0, 0)) := hbg
    have hcp1 := fun ty (d1 d2 d3 d4 : Nat) (e1 : d1 = xs.length - k) (e2 : d2 = xs.length + ys.length - k) => run_copyK (P := P) w.drew S S ty E T.size g ((k + ys.length) * T.size) (xs.length - k) d1 d3 ⟨g, k * T.size, none⟩ d2 d4 cur E (l.drop (k * T.size)) hS hszE hgd
      (by rw [e1, e2]; simp only [Nat.min_def]; split <;> omega) hdrop (fun j u hj => by rw [Addr.add_lit]; exact hsrc j u hj) (by
        have : cur.toList.length = cur.size := by simp
        rw [hkz, hdz]; omega) (fun u hu => h1l u (List.mem_of_mem_drop hu))
    obtain ⟨C1, hC1⟩ : ∃ C1 : List Value, C1 = cur.toList.take ((k + ys.length) * T.size) ++ l.drop (k * T.size) ++ cur.toList.drop ((k + ys.length) * T.size + (xs.length - k) * T.size) := ⟨_, rfl⟩
    rw [← hC1] at hcp1
    obtain ⟨s1, s2, s3⟩ := splice_in cur.toList l l2 (a := k * T.size) (b := ys.length * T.size) (c := xs.length * T.size) h4 hkn' hfit hlen2 (c1 := C1) (by rw [hC1, hkz, hdz])
    have hg1 : (w.drew.setRow g C1.toArray).heap[g]? = some (.cells C1.toArray E (0, 0)) := (setRow_facts w.drew g C1.toArray hgd).1
    have ho1 : ∀ b, b ≠ g → (w.drew.setRow g C1.toArray).heap[b]? = w.heap[b]? := (setRow_facts w.drew g C1.toArray hgd).2.2.2.2.2
    have hcp2 := fun ty (d1 d3 : Nat) (e1 : d1 = xs.length + ys.length - k) => run_copyK (P := P) (w.drew.setRow g C1.toArray) S S ty E T.size g (k * T.size) ys.length d1 d3 ⟨g2, 0, none⟩ ys.length cap2 C1.toArray E l2 hS hszE hg1
      (by rw [e1]; simp only [Nat.min_def]; split <;> omega) hlen2 (fun j u hj => by
        rw [Addr.add_lit]
        have := hvs j u hj
        simp only [World.cell?, ho1 g2 hvb] at this ⊢
        exact this) (by simp only [List.size_toArray, s1]; omega) h1l2
    refine (shift w _ _ g xs.length cap k g2 ys.length cap2 E E cur2.size cur.size hkl hm hroom hcap hvb (by simp [World.shape?, hb2]) (by simp [World.shape?, hbg]) hkB (by simp [World.frozen?, hb2]) (by simp [World.frozen?, hb2]) hcp1 hcp2).mono ?_
    rintro e w' ⟨rfl, rfl⟩
    have hg2 := (setRow_facts (w.drew.setRow g C1.toArray) g ((C1.take (k * T.size) ++ l2 ++ C1.drop (k * T.size + ys.length * T.size)).toArray) hg1).1
    simp only at hg2 ⊢
    refine done _ _ _ rfl (((grownK_drew w _).trans (grown_setRow w.drew _ hgd)).trans (grown_setRow _ _ hg1)) ⟨?_, .inr ⟨g, cap, _, rfl, Nat.zero_le _, hg2, hroom, h2, ?_, ?_⟩⟩ (fun b h => .inl h)
    · simp only [List.length_append, List.length_take, List.length_drop, hlen, hlen2, hnz]
      omega
    · rw [List.size_toArray, s2, hlc]
    · rw [List.toList_toArray, hnz, s3]
  ·
    have hroom : cap < xs.length + ys.length := by omega
    have grow0 := grownCap_ge w (xs.length + ys.length) cap E
    have growM := grownCap_le_maxLen w (xs.length + ys.length) cap E h63
    have hbi : (xs.length + ys.length) * inf.bytes ≤ 140737488355328 := Nat.le_trans (Nat.mul_le_mul_left _ hby) hb
    have hkk : (xs.length : Int) + (ys.length : Int) - (k : Int) = ((xs.length + ys.length - k : Nat) : Int) := by omega
    have hik : k + (xs.length + ys.length - k) = xs.length + ys.length := by omega
    have hold : (Builtin.firstCells inf.size k (.slice (some ⟨g, 0, none⟩) k cap)).run P w.drew = .ok (l.take (k * T.size)).toArray w.drew := by
      rw [hsz]
      refine run_firstCells_some w.drew T.size k ⟨g, 0, none⟩ k cap (l.take (k * T.size)) (by rw [List.length_take, hlen]; omega) (fun j u hj => ?_)
      rw [Addr.add_lit]
      rw [List.getElem?_take] at hj
      split at hj
      · have : cur.toList[j]? = some u := by
          rw [← h4, List.getElem?_take] at hj
          split at hj
          · exact hj
          · cases hj
        show w.cell? _ = _
        simp only [World.cell?, hbg, Nat.zero_add]
        simpa using this
      · cases hj
    have hap : ∀ ty, (Builtin.append_ #[S, I] ty #[.slice (some ⟨g, 0, none⟩) k cap, .int .i64 ((xs.length : Int) + (ys.length : Int) - (k : Int))]).run P w = .ok (.slice (some ⟨w.heap.size, 0, none⟩) (xs.length + ys.length) (grownCap w (xs.length + ys.length) cap E)) (w.drew.alloc (.cells ((l.take (k * T.size)).toArray ++ Builtin.zeroCells z.cells (xs.length + ys.length - k) ++ Builtin.zeroCells z.cells (grownCap w (xs.length + ys.length) cap E - (xs.length + ys.length))) E)) := fun ty => by
      have h := Lib.run_append_grow_zeros (P := P) w S I ty E inf z .i64 .i64 hS hI hinf hz (some ⟨g, 0, none⟩) k cap (l.take (k * T.size)) hold (xs.length + ys.length - k) (by omega) (by omega) (by omega)
        (by rw [hik]; unfold maxLen at h63; omega) (by
          have : (xs.length + ys.length - k) * inf.bytes ≤ (xs.length + ys.length) * inf.bytes := Nat.mul_le_mul_right _ (by omega)
          omega) (by rw [hik]; exact growslice_fits hroom hbi)
      rw [hik] at h
      rw [hkk]
      exact h
    obtain ⟨G, hG⟩ : ∃ G, G = grownCap w (xs.length + ys.length) cap E := ⟨_, rfl⟩
    rw [← hG] at hap grow0 growM
    obtain ⟨ROW, hROW⟩ : ∃ ROW : Array Value, ROW = (l.take (k * T.size)).toArray ++ Builtin.zeroCells z.cells (xs.length + ys.length - k) ++ Builtin.zeroCells z.cells (G - (xs.length + ys.length)) := ⟨_, rfl⟩
    rw [← hROW] at hap
    have hGz : (xs.length + ys.length) * T.size ≤ G * T.size := Nat.mul_le_mul_right _ grow0
    have hRl : ROW.toList = l.take (k * T.size) ++ ((Builtin.zeroCells z.cells (xs.length + ys.length - k)).toList ++ (Builtin.zeroCells z.cells (G - (xs.length + ys.length))).toList) := by rw [hROW]; simp
    have hzl : ((Builtin.zeroCells z.cells (xs.length + ys.length - k)).toList ++ (Builtin.zeroCells z.cells (G - (xs.length + ys.length))).toList).length = G * T.size - k * T.size := by
      have zl : ∀ n, (Builtin.zeroCells z.cells n).toList.length = n * T.size := fun n => by rw [Array.length_toList, size_zeroCells, hzs]
      rw [List.length_append, zl, zl, Nat.sub_mul, Nat.sub_mul]
      omega
    have hN : (w.drew.alloc (.cells ROW E)).heap[w.heap.size]? = some (.cells ROW E (0, 0)) := heap_alloc_new w.drew _
    have hold2 : ∀ b, b < w.heap.size → (w.drew.alloc (.cells ROW E)).heap[b]? = w.heap[b]? := fun b hb => heap_alloc_old w.drew _ hb
    have hg2s : g2 < w.heap.size := (Array.getElem?_eq_some_iff.1 hb2).1
    obtain ⟨C1, hC1⟩ : ∃ C1 : List Value, C1 = ROW.toList.take (k * T.size) ++ l2 ++ ROW.toList.drop (k * T.size + ys.length * T.size) := ⟨_, rfl⟩
    obtain ⟨s0, s1, s2, s3⟩ := splice_new l l2 _ (a := k * T.size) (b := ys.length * T.size) (c := xs.length * T.size) (G := G * T.size) hlen hkn' hlen2 (by rw [hzl]; omega) (by omega) (c0 := ROW.toList) hRl (c1 := C1) hC1
    have hRs : ROW.size = G * T.size := by simpa using s0
    have hcp1 := fun ty (d1 d3 : Nat) (e1 : d1 = xs.length + ys.length - k) => run_copyK (P := P) (w.drew.alloc (.cells ROW E)) S S ty E T.size w.heap.size (k * T.size) ys.length d1 d3 ⟨g2, 0, none⟩ ys.length cap2 ROW E l2 hS hszE hN
      (by rw [e1]; simp only [Nat.min_def]; split <;> omega) hlen2 (fun j u hj => by
        rw [Addr.add_lit]
        have := hvs j u hj
        simp only [World.cell?, hold2 g2 hg2s] at this ⊢
        exact this) (by rw [hRs]; omega) h1l2
    rw [← hC1] at hcp1
    have hN1 : ((w.drew.alloc (.cells ROW E)).setRow w.heap.size C1.toArray).drew.heap[w.heap.size]? = some (.cells C1.toArray E (0, 0)) := (setRow_facts _ w.heap.size C1.toArray hN).1
    have ho1 : ∀ b, b < w.heap.size → ((w.drew.alloc (.cells ROW E)).setRow w.heap.size C1.toArray).drew.heap[b]? = w.heap[b]? := fun b hb => ((setRow_facts _ w.heap.size C1.toArray hN).2.2.2.2.2 b (by omega)).trans (hold2 b hb)
    have hcp2 := fun ty (d1 d2 d3 d4 : Nat) (e1 : d1 = xs.length - k) (e2 : d2 = xs.length - k) => run_copyK (P := P) ((w.drew.alloc (.cells ROW E)).setRow w.heap.size C1.toArray).drew S S ty E T.size w.heap.size ((k + ys.length) * T.size) (xs.length - k) d1 d3 ⟨g, k * T.size, none⟩ d2 d4 C1.toArray E (l.drop (k * T.size)) hS hszE hN1
      (by rw [e1, e2]; simp only [Nat.min_def]; split <;> omega) hdrop (fun j u hj => by
        rw [Addr.add_lit]
        have := hsrc j u hj
        simp only [World.cell?, ho1 g hgs] at this ⊢
        exact this) (by simp only [List.size_toArray, s1]; rw [hkz, hdz]; omega) (fun u hu => h1l u (List.mem_of_mem_drop hu))
    refine (grow w _ _ _ g w.heap.size xs.length cap k g2 ys.length cap2 G hkl hm h1 hroom grow0 (by unfold maxLen at h63; omega) (by unfold maxLen at growM; omega) hap hcp1 hcp2).mono ?_
    rintro e w' ⟨rfl, rfl⟩
    simp only
    have hN2 := (setRow_facts ((w.drew.alloc (.cells ROW E)).setRow w.heap.size C1.toArray).drew w.heap.size ((C1.take ((k + ys.length) * T.size) ++ l.drop (k * T.size) ++ C1.drop ((k + ys.length) * T.size + (xs.length - k) * T.size)).toArray) hN1).1
    rw [hkz, hdz] at hN2 ⊢
    refine done _ _ _ rfl (grownK_new ((grownK_new ((grownK_drew w _).trans (grownK_alloc w.drew _ _)) (grown_setRow _ _ hN) (Nat.le_refl _)).trans (grownK_drew _ _)) (grown_setRow _ _ hN1) (Nat.le_refl _)) ⟨?_, .inr ⟨w.heap.size, G, _, rfl, Nat.zero_le _, hN2, grow0, growM, ?_, ?_⟩⟩ (fun b h => .inr (by have h : some w.heap.size = some b := h; injection h with h; omega))
    · simp only [List.length_append, List.length_take, List.length_drop, hlen, hlen2, hnz]
      omega
    · rw [List.size_toArray, s2]
    · rw [List.toList_toArray, hnz, s3]
def zeroOne (P : Program) (E : TypeId) : Bool := match P.info? E with
  | some i => match i.zero with
    | some z => z.cells.toList.all fun u => u.oneCell'
    | none => false
  | none => false
theorem one_zero {P : Program} {E : TypeId} (h : zeroOne P E = true) {i : TypeInfo} {z : Value} (hi : P.info? E = some i) (hz : i.zero = some z) : ∀ u ∈ z.cells.toList, u.oneCell' = true := by
  unfold zeroOne at h
  rw [hi] at h
  simp only [hz] at h
  exact List.all_eq_true.1 h
def DelWalk (P : Program) (F : FuncId) (S : TypeId) (Z : Nat) : Prop :=
  ∀ (w W1 W2 : World) (g n c i j : Nat), i < j → j ≤ n → n ≤ c → c ≤ 9223372036854775807 →
    (∀ ty a d4, (j = n ∨ a = (⟨g, j * Z, none⟩ : Addr)) → (Builtin.append_ #[S, S] ty #[.slice (some ⟨g, 0, none⟩) i c, .slice (some a) (n - j) d4]).run P w.drew = .ok (.slice (some ⟨g, 0, none⟩) (i + (n - j)) c) W1) →
    (∀ ty d4, (Builtin.clear_ #[S] ty #[.slice (some ⟨g, (i + (n - j)) * Z, none⟩) (j - i) d4]).run P W1 = .ok (.tuple #[]) W2) →
    Calls P F #[.slice (some ⟨g, 0, none⟩) n c, .int .i64 i, .int .i64 j] w fun e w' => e = .returned (.slice (some ⟨g, 0, none⟩) (i + (n - j)) c) ∧ w' = W2
def sp_delG (E : TypeId) (T : Ty) : RowFn := { e := E, T := T, Ts := [ty_I, ty_I], out := true, pre := fun (xs _ : List T.den) ((i, j) : Int × Int) => 0 ≤ i ∧ i < j ∧ j ≤ xs.length, F := fun (xs _ : List T.den) ((i, j) : Int × Int) => cutG xs i j }
theorem delG_ok {P : Program} {T : Ty} {F : FuncId} {S E : TypeId} (hS : P.underlying S = some (.slice E)) (hf : elemFits P E T = true)
    (hz1 : ∀ i z, P.info? E = some i → i.zero = some z → ∀ u ∈ z.cells.toList, u.oneCell' = true) (walk : DelWalk P F S T.size) : (sp_delG E T).ok P F := by
  intro p w v (xs : List T.den) l v2 (ys : List T.den) l2 vs (x : Int × Int) hA hown hl hbig hp _ _ _ hargs hpre
  obtain ⟨i, j⟩ := x
  obtain ⟨hi0, hij, hj⟩ : 0 ≤ i ∧ i < j ∧ j ≤ xs.length := hpre
  obtain ⟨v1, rest, rfl, hv1, v3, rfl, hv3⟩ := hargs
  have hv1 : [v1] = [Value.int .i64 i] ∧ InR .i64 i := hv1
  have hv3 : [v3] = [Value.int .i64 j] ∧ InR .i64 j := hv3
  obtain ⟨hv1, _⟩ := hv1
  obtain ⟨hv3, _⟩ := hv3
  injection hv1 with hv1
  injection hv3 with hv3
  subst hv1 hv3
  obtain ⟨i, rfl⟩ : ∃ k : Nat, i = k := ⟨i.toNat, by omega⟩
  obtain ⟨j, rfl⟩ : ∃ k : Nat, j = k := ⟨j.toNat, by omega⟩
  have hown : w.ownsRow 0 E T.size v xs.length l := hown
  have hl : rowHold (T.holds p) xs l := hl
  have hbig : xs.length * T.bytes ≤ big := hbig
  obtain ⟨inf, z, hinf, hsz, hby, hz, hzs⟩ := elemFits_spec hf
  have hlen : l.length = xs.length * T.size := hown.1
  have h1l : ∀ u ∈ l, u.oneCell' = true := rowHold_all (fun x cs h => holds_oneCell T x cs h) xs l hl
  have hpos := Ty.size_pos T
  have hij' : i < j := by omega
  have hj' : j ≤ xs.length := by omega
  have eF : ((sp_delG E T).F xs ys ((i : Int), (j : Int)) : List T.den) = xs.take i ++ xs.drop j := by show cutG xs i j = _; simp [cutG]
  have hFl : (xs.take i ++ xs.drop j).length = i + (xs.length - j) := by simp; omega
  have hrow : rowHold (T.holds p) (xs.take i ++ xs.drop j) (l.take (i * T.size) ++ l.drop (j * T.size)) :=
    rowHold_append _ _ _ _ (rowHold_take (fun x cs h => Ty.holds_length T x cs h) i xs l hl) (rowHold_drop (fun x cs h => Ty.holds_length T x cs h) j xs l hl)
  rcases hown.2 with ⟨_, h0⟩ | ⟨g, cap, cur, rfl, _, hbg, h1, h2, h3, h4⟩
  · omega
  have hcap : cap ≤ 9223372036854775807 := by unfold maxLen at h2; omega
  have hiz : i * T.size ≤ xs.length * T.size := Nat.mul_le_mul_right _ (by omega)
  have hjz : j * T.size ≤ xs.length * T.size := Nat.mul_le_mul_right _ hj'
  have hijz : i * T.size ≤ j * T.size := Nat.mul_le_mul_right _ (by omega)
  have hnz : xs.length * T.size ≤ cap * T.size := Nat.mul_le_mul_right _ h1
  have hdz : (xs.length - j) * T.size = xs.length * T.size - j * T.size := Nat.sub_mul _ _ _
  have hoz : (i + (xs.length - j)) * T.size = i * T.size + (xs.length * T.size - j * T.size) := by rw [Nat.add_mul, hdz]
  have hcz : (j - i) * T.size = j * T.size - i * T.size := Nat.sub_mul _ _ _
  have hlc : cur.toList.length = cap * T.size := by simpa using h3
  have hdrop : ((l.drop (j * T.size)).length) = (xs.length - j) * T.size := by rw [List.length_drop, hlen, hdz]
  have hsrc : ∀ (k : Nat) (u : Value), (l.drop (j * T.size))[k]? = some u → w.cell? ⟨g, j * T.size + k, none⟩ = some u := by
    intro k u hk
    rw [List.getElem?_drop] at hk
    have : cur.toList[j * T.size + k]? = some u := by
      rw [← h4, List.getElem?_take] at hk
      split at hk
      · exact hk
      · cases hk
    simp only [World.cell?, hbg]
    simpa using this
  have hgd : w.drew.heap[g]? = some (.cells cur E (0, 0)) := hbg
  obtain ⟨C1, hC1⟩ : ∃ C1 : List Value, C1 = cur.toList.take (i * T.size) ++ l.drop (j * T.size) ++ cur.toList.drop (i * T.size + (xs.length * T.size - j * T.size)) := ⟨_, rfl⟩
  have hC1l : C1.length = cap * T.size := by
    rw [hC1]
    simp only [List.length_append, List.length_take, List.length_drop, hlen, hlc]
    omega
  have hap := fun ty (a : Addr) d4 (ha : j = xs.length ∨ a = ⟨g, j * T.size, none⟩) => run_append_room (P := P) w.drew S ty E inf hS hinf g i cap cur hgd a (xs.length - j) d4 (l.drop (j * T.size)) (by rw [hsz]; exact hdrop)
    (fun k u hk => by
      rcases ha with ha | rfl
      · rw [List.drop_of_length_le (by rw [ha]; omega)] at hk
        simp at hk
      · rw [Addr.add_lit]; exact hsrc k u hk) (fun u hu => h1l u (List.mem_of_mem_drop hu)) (by omega) (by
        have : cur.toList.length = cur.size := by simp
        rw [hsz, hdrop, hdz]; omega)
  rw [hsz, hdrop, hdz, ← hC1] at hap
  have hg1 : (w.drew.setRow g C1.toArray).heap[g]? = some (.cells C1.toArray E (0, 0)) := (setRow_facts w.drew g C1.toArray hgd).1
  have hzr : ∀ w, (zeroValue E).run P w = .ok z w := fun w => by simp [zeroValue, typeInfo, hinf, hz]
  have hzc : z.cells.size = T.size := hzs
  have hcl := fun ty d4 => run_clear (P := P) (w := w.drew.setRow g C1.toArray) hS hzr ty (b := g) (o := (i + (xs.length - j)) * T.size) (n := j - i) (c := d4) (cur := C1.toArray) (ct := E) (by omega) hg1 (fun u hu => by
    rw [madeCells_toList z.cells (by omega)] at hu
    obtain ⟨y, hy, hu⟩ := List.mem_flatten.1 hu
    rw [List.eq_of_mem_replicate hy] at hu
    exact hz1 inf z hinf hz u hu) (by
      have e1 : C1.toArray.size = cap * T.size := by simpa using hC1l
      have e2 : (j - i) * z.cells.size = j * T.size - i * T.size := by rw [hzc, hcz]
      rw [e1, e2, hoz]
      omega)
  refine (walk w _ _ g xs.length cap i j hij' hj' h1 hcap hap hcl).mono ?_
  rintro e w' ⟨rfl, rfl⟩
  have hg2 := (setRow_facts (w.drew.setRow g C1.toArray) g ((C1.take ((i + (xs.length - j)) * T.size) ++ (madeCells z.cells ((j - i) * z.cells.size)).toList ++ C1.drop ((i + (xs.length - j)) * T.size + (j - i) * z.cells.size)).toArray) hg1).1
  simp only
  have hml : (madeCells z.cells ((j - i) * z.cells.size)).toList.length = j * T.size - i * T.size := by
    rw [Array.length_toList, size_madeCells, hzc, hcz]
  have done : ∀ (W : World), w.grownBy W (some g) → W.ownsRow 0 E T.size (.slice (some ⟨g, 0, none⟩) (i + (xs.length - j)) cap) (i + (xs.length - j)) (l.take (i * T.size) ++ l.drop (j * T.size)) →
      ∃ (v' : Value) (l' : List Value), Ending.returned (.slice (some ⟨g, 0, none⟩) (i + (xs.length - j)) cap) = .returned (if (sp_delG E T).out then v' else .tuple #[]) ∧ ((sp_delG E T).out = false → v' = .slice (some ⟨g, 0, none⟩) xs.length cap) ∧ w.grownBy W (Value.slice (some ⟨g, 0, none⟩) xs.length cap).ownBlock ∧
      W.ownsRow 0 (sp_delG E T).e (sp_delG E T).T.size v' ((sp_delG E T).F xs ys ((i : Int), (j : Int)) : List T.den).length l' ∧ rowHold ((sp_delG E T).T.holds p) ((sp_delG E T).F xs ys ((i : Int), (j : Int))) l' ∧ ((sp_delG E T).F xs ys ((i : Int), (j : Int)) : List T.den).length * (sp_delG E T).T.bytes ≤ big ∧
      ∀ b, v'.ownBlock = some b → (Value.slice (some ⟨g, 0, none⟩) xs.length cap).ownBlock = some b ∨ w.heap.size ≤ b := by
    intro W hg ho
    rw [eF]
    refine ⟨_, l.take (i * T.size) ++ l.drop (j * T.size), rfl, fun h => (by cases h), hg, ?_, hrow, ?_, fun b h => .inl h⟩
    · show W.ownsRow 0 E T.size _ (xs.take i ++ xs.drop j).length _
      rw [hFl]
      exact ho
    · show (xs.take i ++ xs.drop j).length * T.bytes ≤ big
      rw [hFl]
      exact Nat.le_trans (Nat.mul_le_mul_right _ (by omega)) hbig
  refine done _ (((grownK_drew w _).trans (grown_setRow w.drew _ hgd)).trans (grown_setRow _ _ hg1)) ⟨?_, .inr ⟨g, cap, _, rfl, Nat.zero_le _, hg2, by omega, h2, ?_, ?_⟩⟩
  · simp only [List.length_append, List.length_take, List.length_drop, hlen, hoz]
    omega
  · rw [List.size_toArray, List.length_append, List.length_append, List.length_take, List.length_drop, hml, hC1l, hzc, hoz, hcz]
    omega
  · rw [List.toList_toArray, List.append_assoc, List.take_append_of_le_length (by rw [List.length_take, hC1l, hoz]; omega), List.take_take, Nat.min_self, hC1, hoz]
    rw [List.take_append_of_le_length (by simp only [List.length_append, List.length_take, List.length_drop, hlen, hlc]; omega), List.take_of_length_le (by simp only [List.length_append, List.length_take, List.length_drop, hlen, hlc]; omega)]
    congr 1
    rw [← h4, List.take_take, Nat.min_eq_left hiz]
end Go.Proofs.Ytcnoiiohmpgckaa
