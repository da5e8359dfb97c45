
import Derived.Test.YtcnoiiohmpgckaaBase
import Derived.WalkKit
import Derived.KernelRfl
import Derived.Lib.AppendZeros
import Derived.Lib.AppendZerosOnto
import Derived.Lib.Overlaps
import Derived.Laws.Externs
import Derived.Laws.IdiomCopy
import Derived.Laws.CopyRow
import Derived.Shelf.RegionOpenPlain
import Derived.Shelf.Spec.SlicesInsert
import Derived.Deep.Upon
namespace Go.Proofs.Ytcnoiiohmpgckaa
open Go Go.RowKit Go.Lib
theorem step_append_run {P : Program} {ops : Array Oper} {o : Oper} {a : Act} {w : World} {K : Act → World → Prop} {Q : Exit → Act → World → Prop} {E : Prop}
    (hg : o.guard = none) (d x : Operand) (t tn : TypeId) (hop : o.op = Op.call { callee := Callee.builtin Builtin.append, args := #[d, x], argTypes := #[t, tn] })
    (v u : Value) (hd : a.eval d = v) (hx : a.eval x = u) {v' : Value} {w' : World} (hr : (Builtin.append_ #[t, tn] o.type #[v, u]).run P w = .ok v' w') (hK : K (a.put o.dst v') w') :
    if Region.wanted o (yielded ops a.tmps) = true then Oper.wp P o a w K Q else E := by
  have hw : Region.wanted o (yielded ops a.tmps) = true := by simp [Region.wanted, hg]
  rw [if_pos hw]
  exact Lib.wp_append_run w d x t tn hop v u hd hx v' w' hr hK
theorem wpList_clear_run {P : Program} (w : World) {ops : Array Oper} {rest : List Oper} {o : Oper} {a : Act} {Q : Exit → Act → World → Prop} (hgd : o.guard = none) (x : Operand) (t : TypeId)
    (ho : o.op = .call { callee := .builtin .clear, args := #[x], argTypes := #[t] }) (vx : Value) (hx : a.eval x = vx)
    (v' : Value) (w' : World) (hr : (Builtin.clear_ #[t] o.type #[vx]).run P w = .ok v' w') (h : wpList P ops Q rest (a.put o.dst v') w') : wpList P ops Q (o :: rest) a w :=
  wpList_plain hgd fun _ hK => by
    unfold Oper.wp execOp
    simp only [ho, resolve, invoke, builtin, Sem.run_bind, Sem.run_pure, Result.andThen_ok, List.map_toArray, List.map_cons, List.map_nil, hx, hr]
    exact hK _ _ h
def cutG {α : Type} (xs : List α) (i j : Int) : List α := xs.take i.toNat ++ xs.drop j.toNat
theorem grown_setRow (w : World) {g : Nat} (cs : Array Value) {cur : Array Value} {t : TypeId} (h : w.heap[g]? = some (.cells cur t (0, 0))) : w.grownBy (w.setRow g cs) (some g) := by
  obtain ⟨_, h2, h3, h4, h5, h6⟩ := setRow_facts w g cs h
  exact ⟨h2, h3, h4, by omega, fun k _ hk => h6 k (fun e => hk (by rw [e]))⟩
theorem grownK_drew (w : World) (row : Option Nat) : w.grownBy w.drew row := ⟨rfl, rfl, rfl, Nat.le_refl _, fun _ _ _ => rfl⟩
def zeroOne (P : Program) (E : TypeId) : Bool := match P.info? E with
  | some i => match i.zero with
    | some z => z.cells.toList.all fun u => u.oneCell'
    | none => false
  | none => false
theorem one_zero {P : Program} {E : TypeId} (h : zeroOne P E = true) {i : TypeInfo} {z : Value} (hi : P.info? E = some i) (hz : i.zero = some z) : ∀ u ∈ z.cells.toList, u.oneCell' = true := by
  unfold zeroOne at h
  rw [hi] at h
  simp only [hz] at h
  exact List.all_eq_true.1 h
def DelWalk (P : Program) (F : FuncId) (S : TypeId) (Z : Nat) : Prop :=
  ∀ (w W1 W2 : World) (g n c i j : Nat), i < j → j ≤ n → n ≤ c → c ≤ 9223372036854775807 →
    (∀ ty a d4, (j = n ∨ a = (⟨g, j * Z, none⟩ : Addr)) → (Builtin.append_ #[S, S] ty #[.slice (some ⟨g, 0, none⟩) i c, .slice (some a) (n - j) d4]).run P w.drew = .ok (.slice (some ⟨g, 0, none⟩) (i + (n - j)) c) W1) →
    (∀ ty d4, (Builtin.clear_ #[S] ty #[.slice (some ⟨g, (i + (n - j)) * Z, none⟩) (j - i) d4]).run P W1 = .ok (.tuple #[]) W2) →
    Calls P F #[.slice (some ⟨g, 0, none⟩) n c, .int .i64 i, .int .i64 j] w fun e w' => e = .returned (.slice (some ⟨g, 0, none⟩) (i + (n - j)) c) ∧ w' = W2
def sp_delG (E : TypeId) (T : Ty) : RowFn := { e := E, T := T, Ts := [ty_I, ty_I], out := true, pre := fun (xs _ : List T.den) ((i, j) : Int × Int) => 0 ≤ i ∧ i < j ∧ j ≤ xs.length, F := fun (xs _ : List T.den) ((i, j) : Int × Int) => cutG xs i j }
theorem delG_ok {P : Program} {T : Ty} {F : FuncId} {S E : TypeId} (hS : P.underlying S = some (.slice E)) (hf : elemFits P E T = true)
    (hz1 : ∀ i z, P.info? E = some i → i.zero = some z → ∀ u ∈ z.cells.toList, u.oneCell' = true) (walk : DelWalk P F S T.size) : (sp_delG E T).ok P F := by
  intro p w v (xs : List T.den) l v2 (ys : List T.den) l2 vs (x : Int × Int) hA hown hl hbig hp _ _ _ hargs hpre
  obtain ⟨i, j⟩ := x
  obtain ⟨hi0, hij, hj⟩ : 0 ≤ i ∧ i < j ∧ j ≤ xs.length := hpre
  obtain ⟨v1, rest, rfl, hv1, v3, rfl, hv3⟩ := hargs
  have hv1 : [v1] = [Value.int .i64 i] ∧ InR .i64 i := hv1
  have hv3 : [v3] = [Value.int .i64 j] ∧ InR .i64 j := hv3
  obtain ⟨hv1, _⟩ := hv1
  obtain ⟨hv3, _⟩ := hv3
  injection hv1 with hv1
  injection hv3 with hv3
  subst hv1 hv3
  obtain ⟨i, rfl⟩ : ∃ k : Nat, i = k := ⟨i.toNat, by omega⟩
  obtain ⟨j, rfl⟩ : ∃ k : Nat, j = k := ⟨j.toNat, by omega⟩
  have hown : w.ownsRow 0 E T.size v xs.length l := hown
  have hl : rowHold (T.holds p) xs l := hl
  have hbig : xs.length * T.bytes ≤ big := hbig
  obtain ⟨inf, z, hinf, hsz, hby, hz, hzs⟩ := elemFits_spec hf
  have hlen : l.length = xs.length * T.size := hown.1
  have h1l : ∀ u ∈ l, u.oneCell' = true := rowHold_all (fun x cs h => holds_oneCell T x cs h) xs l hl
  have hpos := Ty.size_pos T
  have hij' : i < j := by omega
  have hj' : j ≤ xs.length := by omega
  have eF : ((sp_delG E T).F xs ys ((i : Int), (j : Int)) : List T.den) = xs.take i ++ xs.drop j := by show cutG xs i j = _; simp [cutG]
  have hFl : (xs.take i ++ xs.drop j).length = i + (xs.length - j) := by simp; omega
  have hrow : rowHold (T.holds p) (xs.take i ++ xs.drop j) (l.take (i * T.size) ++ l.drop (j * T.size)) :=
    rowHold_append _ _ _ _ (rowHold_take (fun x cs h => Ty.holds_length T x cs h) i xs l hl) (rowHold_drop (fun x cs h => Ty.holds_length T x cs h) j xs l hl)
  rcases hown.2 with ⟨_, h0⟩ | ⟨g, cap, cur, rfl, _, hbg, h1, h2, h3, h4⟩
  · omega
  have hcap : cap ≤ 9223372036854775807 := by unfold maxLen at h2; omega
  have hiz : i * T.size ≤ xs.length * T.size := Nat.mul_le_mul_right _ (by omega)
  have hjz : j * T.size ≤ xs.length * T.size := Nat.mul_le_mul_right _ hj'
  have hijz : i * T.size ≤ j * T.size := Nat.mul_le_mul_right _ (by omega)
  have hnz : xs.length * T.size ≤ cap * T.size := Nat.mul_le_mul_right _ h1
  have hdz : (xs.length - j) * T.size = xs.length * T.size - j * T.size := Nat.sub_mul _ _ _
  have hoz : (i + (xs.length - j)) * T.size = i * T.size + (xs.length * T.size - j * T.size) := by rw [Nat.add_mul, hdz]
  have hcz : (j - i) * T.size = j * T.size - i * T.size := Nat.sub_mul _ _ _
  have hlc : cur.toList.length = cap * T.size := by simpa using h3
  have hdrop : ((l.drop (j * T.size)).length) = (xs.length - j) * T.size := by rw [List.length_drop, hlen, hdz]
  have hsrc : ∀ (k : Nat) (u : Value), (l.drop (j * T.size))[k]? = some u → w.cell? ⟨g, j * T.size + k, none⟩ = some u := by
    intro k u hk
    rw [List.getElem?_drop] at hk
    have : cur.toList[j * T.size + k]? = some u := by
      rw [← h4, List.getElem?_take] at hk
      split at hk
      · exact hk
      · cases hk
    simp only [World.cell?, hbg]
    simpa using this
  have hgd : w.drew.heap[g]? = some (.cells cur E (0, 0)) := hbg
  obtain ⟨C1, hC1⟩ : ∃ C1 : List Value, C1 = cur.toList.take (i * T.size) ++ l.drop (j * T.size) ++ cur.toList.drop (i * T.size + (xs.length * T.size - j * T.size)) := ⟨_, rfl⟩
  have hC1l : C1.length = cap * T.size := by
    rw [hC1]
    simp only [List.length_append, List.length_take, List.length_drop, hlen, hlc]
    omega
  have hap := fun ty (a : Addr) d4 (ha : j = xs.length ∨ a = ⟨g, j * T.size, none⟩) => run_append_room (P := P) w.drew S ty E inf hS hinf g i cap cur hgd a (xs.length - j) d4 (l.drop (j * T.size)) (by rw [hsz]; exact hdrop)
    (fun k u hk => by
      rcases ha with ha | rfl
      · rw [List.drop_of_length_le (by rw [ha]; omega)] at hk
        simp at hk
      · rw [Addr.add_lit]; exact hsrc k u hk) (fun u hu => h1l u (List.mem_of_mem_drop hu)) (by omega) (by
        have : cur.toList.length = cur.size := by simp
        rw [hsz, hdrop, hdz]; omega)
  rw [hsz, hdrop, hdz, ← hC1] at hap
  have hg1 : (w.drew.setRow g C1.toArray).heap[g]? = some (.cells C1.toArray E (0, 0)) := (setRow_facts w.drew g C1.toArray hgd).1
  have hzr : ∀ w, (zeroValue E).run P w = .ok z w := fun w => by simp [zeroValue, typeInfo, hinf, hz]
  have hzc : z.cells.size = T.size := hzs
  have hcl := fun ty d4 => run_clear (P := P) (w := w.drew.setRow g C1.toArray) hS hzr ty (b := g) (o := (i + (xs.length - j)) * T.size) (n := j - i) (c := d4) (cur := C1.toArray) (ct := E) (by omega) hg1 (fun u hu => by
    rw [madeCells_toList z.cells (by omega)] at hu
    obtain ⟨y, hy, hu⟩ := List.mem_flatten.1 hu
    rw [List.eq_of_mem_replicate hy] at hu
    exact hz1 inf z hinf hz u hu) (by
      have e1 : C1.toArray.size = cap * T.size := by simpa using hC1l
      have e2 : (j - i) * z.cells.size = j * T.size - i * T.size := by rw [hzc, hcz]
      rw [e1, e2, hoz]
      omega)
  refine (walk w _ _ g xs.length cap i j hij' hj' h1 hcap hap hcl).mono ?_
  rintro e w' ⟨rfl, rfl⟩
  have hg2 := (setRow_facts (w.drew.setRow g C1.toArray) g ((C1.take ((i + (xs.length - j)) * T.size) ++ (madeCells z.cells ((j - i) * z.cells.size)).toList ++ C1.drop ((i + (xs.length - j)) * T.size + (j - i) * z.cells.size)).toArray) hg1).1
  simp only
  have hml : (madeCells z.cells ((j - i) * z.cells.size)).toList.length = j * T.size - i * T.size := by
    rw [Array.length_toList, size_madeCells, hzc, hcz]
  have done : ∀ (W : World), w.grownBy W (some g) → W.ownsRow 0 E T.size (.slice (some ⟨g, 0, none⟩) (i + (xs.length - j)) cap) (i + (xs.length - j)) (l.take (i * T.size) ++ l.drop (j * T.size)) →
      ∃ (v' : Value) (l' : List Value), Ending.returned (.slice (some ⟨g, 0, none⟩) (i + (xs.length - j)) cap) = .returned (if (sp_delG E T).out then v' else .tuple #[]) ∧ ((sp_delG E T).out = false → v' = .slice (some ⟨g, 0, none⟩) xs.length cap) ∧ w.grownBy W (Value.slice (some ⟨g, 0, none⟩) xs.length cap).ownBlock ∧
      W.ownsRow 0 (sp_delG E T).e (sp_delG E T).T.size v' ((sp_delG E T).F xs ys ((i : Int), (j : Int)) : List T.den).length l' ∧ rowHold ((sp_delG E T).T.holds p) ((sp_delG E T).F xs ys ((i : Int), (j : Int))) l' ∧ ((sp_delG E T).F xs ys ((i : Int), (j : Int)) : List T.den).length * (sp_delG E T).T.bytes ≤ big ∧
      ∀ b, v'.ownBlock = some b → (Value.slice (some ⟨g, 0, none⟩) xs.length cap).ownBlock = some b ∨ w.heap.size ≤ b := by
    intro W hg ho
    rw [eF]
    refine ⟨_, l.take (i * T.size) ++ l.drop (j * T.size), rfl, fun h => (by cases h), hg, ?_, hrow, ?_, fun b h => .inl h⟩
    · show W.ownsRow 0 E T.size _ (xs.take i ++ xs.drop j).length _
      rw [hFl]
      exact ho
    · show (xs.take i ++ xs.drop j).length * T.bytes ≤ big
      rw [hFl]
      exact Nat.le_trans (Nat.mul_le_mul_right _ (by omega)) hbig
  refine done _ (((grownK_drew w _).trans (grown_setRow w.drew _ hgd)).trans (grown_setRow _ _ hg1)) ⟨?_, .inr ⟨g, cap, _, rfl, Nat.zero_le _, hg2, by omega, h2, ?_, ?_⟩⟩
  · simp only [List.length_append, List.length_take, List.length_drop, hlen, hoz]
    omega
  · rw [List.size_toArray, List.length_append, List.length_append, List.length_take, List.length_drop, hml, hC1l, hzc, hoz, hcz]
    omega
  · rw [List.toList_toArray, List.append_assoc, List.take_append_of_le_length (by rw [List.length_take, hC1l, hoz]; omega), List.take_take, Nat.min_self, hC1, hoz]
    rw [List.take_append_of_le_length (by simp only [List.length_append, List.length_take, List.length_drop, hlen, hlc]; omega), List.take_of_length_le (by simp only [List.length_append, List.length_take, List.length_drop, hlen, hlc]; omega)]
    congr 1
    rw [← h4, List.take_take, Nat.min_eq_left hiz]
end Go.Proofs.Ytcnoiiohmpgckaa
