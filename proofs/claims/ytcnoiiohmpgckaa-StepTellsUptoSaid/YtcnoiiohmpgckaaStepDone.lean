
import Derived.Test.YtcnoiiohmpgckaaSteps
namespace Go.Proofs.Ytcnoiiohmpgckaa
open Go
set_option maxRecDepth 100000
set_option maxHeartbeats 1000000
theorem mput_fresh {α : Type} {k : Int} {v : α} : ∀ {m : List (Int × α)}, (∀ x ∈ m, x.1 ≠ k) → mput m k v = m ++ [(k, v)]
  | [], _ => rfl
  | x :: m, h => by
    unfold mput
    rw [if_neg (h x (by simp)), mput_fresh (fun y hy => h y (by simp [hy]))]
    rfl
theorem headsFrom_keys : ∀ (l : List Spot) (m : List (Int × Head)), l.Pairwise (fun s t => s.1 < t.1) → (∀ x ∈ m, ∀ s ∈ l, x.1 < s.1) → (headsFrom m l).map Prod.fst = m.map Prod.fst ++ beginsL l
  | [], m, _, _ => by simp [headsFrom, beginsL]
  | s :: l, m, h, hm => by
    obtain ⟨h1, h2⟩ := List.pairwise_cons.1 h
    have e0 : headsFrom m (s :: l) = headsFrom (if s.2.2.2.2 = true then m else mput m s.1 s.2) l := rfl
    rw [e0]
    simp only [beginsL]
    split
    · exact headsFrom_keys l m h2 fun x hx t ht => hm x hx t (by simp [ht])
    · rw [mput_fresh (fun x hx => by have := hm x hx s (by simp); omega)]
      rw [headsFrom_keys l _ h2 fun x hx t ht => by
        rcases List.mem_append.1 hx with hx | hx
        · exact hm x hx t (by simp [ht])
        · rw [List.mem_singleton.1 hx]
          exact h1 t ht]
      simp
theorem heads_keys {l : List Spot} (h : l.Pairwise (fun s t => s.1 < t.1)) : (headsL l).map Prod.fst = beginsL l := by
  have := headsFrom_keys l [] h (fun x hx => by cases hx)
  exact this
theorem heads_len (a : List Int) : (headsL (spotsF a).1).length ≤ 256 := by
  have h1 := congrArg List.length (heads_keys (spotsF_sorted a))
  rw [List.length_map] at h1
  have := beginsL_length (spotsF a).1
  have := spotsF_length a
  omega
theorem keys_in {α : Type} {f : Int → Bool} {o k : List Int} {l1 l2 : List (Int × α)} {x : Int × α} (h : (o ++ ((l1 ++ x :: l2).map Prod.fst).filter f).Perm k) (hx : f x.1 = true) : (o ++ [x.1] ++ ((l1 ++ l2).map Prod.fst).filter f).Perm k := by
  refine List.Perm.trans ?_ h
  simp only [List.map_append, List.map_cons, List.filter_append, List.filter_cons_of_pos hx, List.append_assoc]
  refine List.Perm.append_left o ?_
  exact (List.perm_middle (l₁ := (l1.map Prod.fst).filter f)).symm
theorem keys_out {α : Type} {f : Int → Bool} {o k : List Int} {l1 l2 : List (Int × α)} {x : Int × α} (h : (o ++ ((l1 ++ x :: l2).map Prod.fst).filter f).Perm k) (hx : f x.1 = false) : (o ++ ((l1 ++ l2).map Prod.fst).filter f).Perm k := by
  have e : ((l1 ++ x :: l2).map Prod.fst).filter f = ((l1 ++ l2).map Prod.fst).filter f := by
    simp only [List.map_append, List.map_cons, List.filter_append]
    rw [List.filter_cons_of_neg (by rw [hx]; simp)]
  rw [← e]
  exact h
theorem begins_sorted : ∀ {l : List Spot}, l.Pairwise (fun s t => s.1 < t.1) → (beginsL l).Pairwise (· < ·)
  | [], _ => List.Pairwise.nil
  | s :: l, h => by
    obtain ⟨h1, h2⟩ := List.pairwise_cons.1 h
    simp only [beginsL]
    split
    · exact begins_sorted h2
    · refine List.pairwise_cons.2 ⟨fun x hx => ?_, begins_sorted h2⟩
      have : ∀ {l : List Spot} {x : Int}, x ∈ beginsL l → ∃ t ∈ l, t.1 = x := by
        intro l
        induction l with
        | nil => intro x hx; cases hx
        | cons t l ih =>
          intro x hx
          simp only [beginsL] at hx
          split at hx
          · obtain ⟨u, hu, e⟩ := ih hx
            exact ⟨u, by simp [hu], e⟩
          · rcases List.mem_cons.1 hx with rfl | hx
            · exact ⟨t, by simp, rfl⟩
            · obtain ⟨u, hu, e⟩ := ih hx
              exact ⟨u, by simp [hu], e⟩
      obtain ⟨t, ht, rfl⟩ := this hx
      exact h1 t ht
theorem sort_perm {o k : List Int} (h : o.Perm k) (hk : k.Pairwise (· ≤ ·)) : sortI o = k := by
  refine List.Perm.eq_of_pairwise (le := (· ≤ ·)) (fun a b _ _ h1 h2 => by omega) ?_ hk ((List.mergeSort_perm _ _).trans h)
  exact (List.pairwise_mergeSort (le := fun x y : Int => decide (x ≤ y)) (fun a b c h1 h2 => by simp at h1 h2 ⊢; omega) (fun a b => by simp; omega) o).imp fun h => by simpa using h
def doneL (t : Tri) : List Int := (beginsL (spotsF t.1).1).filter fun x => !inL t.2.2 x
def doneT (t : Tri) : List Int × Int := if triF t ≠ 0 then ([], triF t) else if 0 < t.2.1.length then ([], 8) else (doneL t, 0)
def an_tDone : Nat → Option LoopGen
  | 8 => some { rd := [.box 1 ty_Tri, .iter 19 .i64 ty_Head], A := fun ((t, l0) : Tri × List (Int × Head)) => { cs := [.own 5 3 ty_I, .iter 19 .i64 ty_Head], inv := fun ((o, l) : List Int × List (Int × Head)) => o.length + l.length ≤ l0.length ∧ l0.length ≤ 256 ∧ (o ++ (l.map Prod.fst).filter fun x => !inL t.2.2 x).Perm ((l0.map Prod.fst).filter fun x => !inL t.2.2 x), mu := fun ((_, l) : List Int × List (Int × Head)) => l.length } }
  | _ => none
def sp_tDone : Spec := { Ts := [ty_Tri], Rs := [.own 3 ty_I, .dat ty_I], pre := fun (t : Tri) => (t.2.1.length + t.2.2.length) * 8 ≤ 140737488355328, F := doneT }
def pv_tDone : Prop :=
    ∀ (x : List Int × List Int × List Int), ((x.1.length * 8 ≤ big ∧ ∀ (x_1 : Int), x_1 ∈ x.1 → InR IntKind.u64 x_1) ∧ (x.2.1.length * 8 ≤ big ∧ ∀ (x_1 : Int), x_1 ∈ x.2.1 → InR IntKind.i64 x_1) ∧ x.2.2.length * 8 ≤ big ∧ ∀ (x_1 : Int), x_1 ∈ x.2.2 → InR IntKind.i64 x_1) → (x.2.1.length + x.2.2.length) * 8 ≤ 140737488355328 → (x.2.1.length + x.2.2.length) * 8 ≤ 140737488355328 ∧ (decide (triF x ≠ 0) = true → ([] : List Int) = (doneT x).1 ∧ triF x = (doneT x).2 ∧ True) ∧ (decide (triF x ≠ 0) = false → (decide (0 < (↑x.2.1.length : Int)) = true → ([] : List Int) = (doneT x).1 ∧ 8 = (doneT x).2 ∧ True) ∧ (decide (0 < (↑x.2.1.length : Int)) = false → True ∧ (0 + (headsL (spotsF x.1).1).length ≤ (headsL (spotsF x.1).1).length ∧ (headsL (spotsF x.1).1).length ≤ 256 ∧ (([] : List Int) ++ List.filter (fun (x_1 : Int) => !inL x.2.2 x_1) (List.map Prod.fst (headsL (spotsF x.1).1))).Perm (List.filter (fun (x_1 : Int) => !inL x.2.2 x_1) (List.map Prod.fst (headsL (spotsF x.1).1)))) ∧ ∀ (x_1 : List Int × List (Int × Int × Int × Int × Bool)), x_1.1.length + x_1.2.length ≤ (headsL (spotsF x.1).1).length ∧ (headsL (spotsF x.1).1).length ≤ 256 ∧ (x_1.1 ++ List.filter (fun (x_2 : Int) => !inL x.2.2 x_2) (List.map Prod.fst x_1.2)).Perm (List.filter (fun (x_2 : Int) => !inL x.2.2 x_2) (List.map Prod.fst (headsL (spotsF x.1).1))) → (x_1.2 = ([] : List (Int × Int × Int × Int × Bool)) → (false = true → False) ∧ (false = false → True ∧ sortI x_1.1 = (doneT x).1 ∧ 0 = (doneT x).2 ∧ True)) ∧ ∀ (l1 : List (Int × Int × Int × Int × Bool)) (x_2 : Int × Int × Int × Int × Bool) (l2 : List (Int × Int × Int × Int × Bool)), x_1.2 = l1 ++ x_2 :: l2 → (true = true → True ∧ ((!inL x.2.2 x_2.1) = true → (x_1.1.length + [x_2.1].length) * 8 ≤ big ∧ ((x_1.1 ++ [x_2.1]).length + (l1 ++ l2).length ≤ (headsL (spotsF x.1).1).length ∧ (headsL (spotsF x.1).1).length ≤ 256 ∧ (x_1.1 ++ [x_2.1] ++ List.filter (fun (x_3 : Int) => !inL x.2.2 x_3) (List.map Prod.fst (l1 ++ l2))).Perm (List.filter (fun (x_3 : Int) => !inL x.2.2 x_3) (List.map Prod.fst (headsL (spotsF x.1).1)))) ∧ (l1 ++ l2).length < x_1.2.length) ∧ ((!inL x.2.2 x_2.1) = false → (x_1.1.length + (l1 ++ l2).length ≤ (headsL (spotsF x.1).1).length ∧ (headsL (spotsF x.1).1).length ≤ 256 ∧ (x_1.1 ++ List.filter (fun (x_3 : Int) => !inL x.2.2 x_3) (List.map Prod.fst (l1 ++ l2))).Perm (List.filter (fun (x_3 : Int) => !inL x.2.2 x_3) (List.map Prod.fst (headsL (spotsF x.1).1)))) ∧ (l1 ++ l2).length < x_1.2.length)) ∧ (true = false → True ∧ sortI x_1.1 = (doneT x).1 ∧ 0 = (doneT x).2 ∧ True)))
theorem vcp_tDone : pv_tDone := by
  unfold pv_tDone
  intro ⟨a, g, b⟩ _ hsz
  simp only at hsz ⊢
  have hk := heads_keys (spotsF_sorted a)
  have hlen := heads_len a
  have hF : doneT (a, g, b) = if triF (a, g, b) ≠ 0 then ([], triF (a, g, b)) else if 0 < g.length then ([], 8) else (doneL (a, g, b), 0) := rfl
  rw [hF]
  refine ⟨hsz, fun h => ?_, fun h => ⟨fun h1 => ?_, fun h1 => ⟨trivial, ⟨by omega, hlen, List.Perm.refl _⟩, fun ⟨o, l⟩ ⟨i1, i2, i3⟩ => ⟨fun hl => ⟨(fun h => by cases h), fun _ => ⟨trivial, ?_, ?_, trivial⟩⟩, fun l1 x l2 hl => ⟨fun _ => ⟨trivial, fun hc => ?_, fun hc => ?_⟩, (fun h => by cases h)⟩⟩⟩⟩⟩
  · rw [if_pos (of_decide_eq_true h)]
    exact ⟨rfl, rfl, trivial⟩
  · rw [if_neg (of_decide_eq_false h), if_pos (by have := of_decide_eq_true h1; omega)]
    exact ⟨rfl, rfl, trivial⟩
  · rw [if_neg (of_decide_eq_false h), if_neg (by have := of_decide_eq_false h1; omega)]
    simp only at hl i3 ⊢
    subst hl
    rw [hk] at i3
    simp only [List.map_nil, List.filter_nil, List.append_nil] at i3
    exact sort_perm i3 (((begins_sorted (spotsF_sorted a)).imp fun h => Int.le_of_lt h).sublist List.filter_sublist)
  · rw [if_neg (of_decide_eq_false h), if_neg (by have := of_decide_eq_false h1; omega)]
  · simp only at hl i1 i3 ⊢
    subst hl
    simp only [List.length_append, List.length_cons, List.length_nil] at i1 ⊢
    unfold big
    exact ⟨by omega, ⟨by omega, i2, keys_in i3 hc⟩, by omega⟩
  · simp only at hl i1 i3 ⊢
    subst hl
    simp only [List.length_append, List.length_cons] at i1 ⊢
    exact ⟨⟨by omega, i2, keys_out i3 hc⟩, by omega⟩
theorem ok_tDone : sp_tDone.ok Try.prog 67 := fn_ok (ann := an_tDone) (tbl_cons ok_tCheck (tbl_cons ok_tObjects (tbl_cons ok_hasI (tbl_row ok_sortI tbl_nil)))) Try.func67 (by kernel_rfl) vcp_tDone
end Go.Proofs.Ytcnoiiohmpgckaa
