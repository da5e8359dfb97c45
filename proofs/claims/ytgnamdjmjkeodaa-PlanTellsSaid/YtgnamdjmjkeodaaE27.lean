/- The engine, part 27: statements whose order is drawn: what is ready, what has been waited for. -/
import Derived.Test.YtgnamdjmjkeodaaE26
namespace Go.Proofs.Ytgnamdjmjkeodaa
open Go

def waitsOf (ops : Array Oper) : List Nat := waits ops.toList []

/-- The first k operations are value operations that wait for what they look at; each one behind them waits for all ahead of it. -/
def drawOK (ops : Array Oper) (k : Nat) : Bool :=
  Nat.ble k ops.size &&
  ((List.range ops.size).all fun i => match ops[i]? with
    | some o => if Nat.blt i k then opOK ops k i o else (edgesOf o).all (fun e => Nat.blt e i) && (List.range i).all (fun j => ((waitsOf ops).getD i 0).testBit j)
    | none => false) &&
  distinctD ((ops.toList.take k).filterMap (·.dst))

section
variable {ops : Array Oper}

theorem fold_bits (A : Nat → Nat) : ∀ (l : List Nat) (m j : Nat), (l.foldl (fun m e => m ||| (1 <<< e) ||| A e) m).testBit j = true → m.testBit j = true ∨ ∃ e ∈ l, e = j ∨ (A e).testBit j = true
  | [], m, j, h => .inl h
  | e :: l, m, j, h => by
    simp only [List.foldl_cons] at h
    rcases fold_bits A l _ j h with h1 | ⟨e', he, h1⟩
    · simp only [Nat.testBit_or, Bool.or_eq_true] at h1
      rcases h1 with (h1 | h1) | h1
      · exact .inl h1
      · right
        refine ⟨e, by simp, .inl ?_⟩
        rw [Nat.one_shiftLeft, Nat.testBit_two_pow] at h1
        simpa using h1
      · exact .inr ⟨e, by simp, .inr h1⟩
    · exact .inr ⟨e', by simp [he], h1⟩

theorem waits_spec : ∀ (os : List Oper) (acc : List Nat), ∃ new, waits os acc = acc ++ new ∧ new.length = os.length ∧
    ∀ (i : Nat) o, os[i]? = some o → new[i]? = some ((edgesOf o).foldl (fun m e => m ||| (1 <<< e) ||| (acc ++ new.take i).getD e 0) 0)
  | [], acc => ⟨[], by simp [waits], rfl, fun i o h => by simp at h⟩
  | o :: os, acc => by
    obtain ⟨new, h1, h2, h3⟩ := waits_spec os (acc ++ [(edgesOf o).foldl (fun m e => m ||| (1 <<< e) ||| acc.getD e 0) 0])
    refine ⟨(edgesOf o).foldl (fun m e => m ||| (1 <<< e) ||| acc.getD e 0) 0 :: new, by rw [waits, h1, List.append_assoc]; rfl, by simp [h2], fun i o' ho => ?_⟩
    cases i with
    | zero =>
      simp only [List.getElem?_cons_zero, Option.some.injEq] at ho
      subst ho
      simp
    | succ i =>
      have := h3 i o' (by simpa using ho)
      simpa using this

/-- Whatever an operation waits for, near or far, is in each set that holds what its members wait for. -/
theorem waits_in {L : Nat → Prop} (hd : ∀ i o, L i → ops[i]? = some o → ∀ e ∈ edgesOf o, L e) (hL : ∀ i, L i → i < ops.size) :
    ∀ (i : Nat) (o : Oper), ops[i]? = some o → (∀ e ∈ edgesOf o, L e) → ∀ j, ((waitsOf ops).getD i 0).testBit j = true → L j := by
  intro i
  induction i using Nat.strongRecOn with
  | _ i ih =>
    intro o ho he j hj
    obtain ⟨new, h1, h2, h3⟩ := waits_spec ops.toList []
    have h4 := h3 i o (by simpa using ho)
    simp only [List.nil_append] at h4 h1
    have e1 : (waitsOf ops).getD i 0 = (edgesOf o).foldl (fun m e => m ||| (1 <<< e) ||| (new.take i).getD e 0) 0 := by
      unfold waitsOf
      rw [h1, List.getD_eq_getElem?_getD, h4]
      rfl
    rw [e1] at hj
    rcases fold_bits _ _ _ _ hj with h | ⟨e, hem, h⟩
    · simp at h
    · rcases h with rfl | h
      · exact he e hem
      · have hei : e < i := by
          rcases Nat.lt_or_ge e i with h' | h'
          · exact h'
          · have : (new.take i).getD e 0 = 0 := by
              rw [List.getD_eq_getElem?_getD, List.getElem?_take, if_neg (by omega)]
              rfl
            rw [this] at h
            simp at h
        have hLe := he e hem
        have hes := hL e hLe
        have hoe : ops[e]? = some ops[e] := by simp [hes]
        refine ih e hei ops[e] hoe (hd e _ hLe hoe) j ?_
        have : (new.take i).getD e 0 = (waitsOf ops).getD e 0 := by
          unfold waitsOf
          rw [h1, List.getD_eq_getElem?_getD, List.getD_eq_getElem?_getD, List.getElem?_take, if_pos hei]
        rw [← this]
        exact h

theorem ready_mem {listed : Array Bool} {i : Nat} : i ∈ Region.ready .any ops listed ↔ i < ops.size ∧ listed.getD i true = false ∧ ∃ o, ops[i]? = some o ∧ ∀ e ∈ edgesOf o, listed.getD e false = true := by
  unfold Region.ready
  simp only [List.mem_filter, List.mem_range, Bool.and_eq_true, Bool.not_eq_true']
  constructor
  · rintro ⟨h1, h2, h3⟩
    refine ⟨h1, h2, ops[i], by simp [h1], fun e he => ?_⟩
    simp only [h1, Array.getElem?_eq_getElem, Option.map_some, Option.getD_some] at h3
    simp only [edgesOf, List.mem_filterMap] at he
    obtain ⟨x, hx, hx2⟩ := he
    split at hx2 <;> simp only [Option.some.injEq, reduceCtorEq] at hx2
    rename_i hb
    have := Array.all_eq_true_iff_forall_mem.1 h3 x (by simpa using hx)
    simp only [hb, Bool.not_true, Bool.false_or] at this
    rw [← hx2]
    exact this
  · rintro ⟨h1, h2, o, ho, h3⟩
    refine ⟨h1, h2, ?_⟩
    rw [ho]
    simp only [Option.map_some, Option.getD_some]
    refine Array.all_eq_true_iff_forall_mem.2 fun x hx => ?_
    cases hb : Region.binds .any x
    · simp
    · simp only [Bool.not_true, Bool.false_or]
      refine h3 x.on ?_
      simp only [edgesOf, List.mem_filterMap]
      exact ⟨x, by simpa using hx, by simp [hb]⟩

theorem distinctD_spec : ∀ (ds : List Nat), distinctD ds = true → ds.Nodup
  | [], _ => List.nodup_nil
  | d :: ds, h => by
    simp only [distinctD, Bool.and_eq_true] at h
    refine List.nodup_cons.2 ⟨fun hm => ?_, distinctD_spec ds h.2⟩
    have := List.all_eq_true.1 h.1 d hm
    simp at this
end
end Go.Proofs.Ytgnamdjmjkeodaa
