
import Derived.Test.YtcnoiiohmpgckaaTwinBase
namespace Go.Proofs.Ytcnoiiohmpgckaa
open Go
theorem snoc_ind {α : Type} {P : List α → Prop} (h0 : P []) (h1 : ∀ l x, P l → P (l ++ [x])) (l : List α) : P l := by
  have h : ∀ k : List α, P k.reverse := fun k => by
    induction k with
    | nil => exact h0
    | cons x k ih => rw [List.reverse_cons]; exact h1 _ _ ih
  have := h l.reverse
  rwa [List.reverse_reverse] at this
def bestStep (n : Int) (b r : TGap) : TGap := if n ≤ r.2 ∧ (b.2 = 0 ∨ r.2 < b.2) then r else b
def bestG (n : Int) (l : List TGap) : TGap := l.foldl (bestStep n) (0, 0)
theorem bestG_snoc (n : Int) (l : List TGap) (r : TGap) : bestG n (l ++ [r]) = bestStep n (bestG n l) r := by simp [bestG]
theorem bestG_in {n : Int} (hn : 1 ≤ n) : ∀ (l k : List TGap), (∀ r ∈ k, r ∈ l) → bestG n k = (0, 0) ∨ (bestG n k ∈ l ∧ n ≤ (bestG n k).2) := by
  intro l k
  induction k using snoc_ind with
  | h0 => intro _; exact .inl rfl
  | h1 k r ih =>
    intro h
    rw [bestG_snoc]
    unfold bestStep
    split
    · rename_i hc
      exact .inr ⟨h r (by simp), hc.1⟩
    · exact ih fun x hx => h x (by simp [hx])
def pwOf (n : Int) : Int := if n ≤ 1 then 1 else if n ≤ 2 then 2 else if n ≤ 4 then 4 else if n ≤ 8 then 8 else if n ≤ 16 then 16 else if n ≤ 32 then 32 else if n ≤ 64 then 64 else if n ≤ 128 then 128 else 256
theorem pow_half {L n : Int} (h : isPow L = true) (h1 : 1 ≤ n) (h2 : n ≤ L / 2) : isPow (L / 2) = true ∧ L / 2 < L := by
  have := of_decide_eq_true h
  unfold isPow
  rcases this with rfl | rfl | rfl | rfl | rfl | rfl | rfl | rfl | rfl <;> simp at h2 ⊢ <;> omega
theorem pow_end {L n : Int} (h : isPow L = true) (h1 : 1 ≤ n) (h2 : n ≤ L) (h3 : L / 2 < n) : L = pwOf n := by
  have := of_decide_eq_true h
  unfold pwOf
  rcases this with rfl | rfl | rfl | rfl | rfl | rfl | rfl | rfl | rfl <;> simp at h3 <;> (repeat' split) <;> omega
theorem pow_twice {L n : Int} (h : isPow L = true) (h2 : n ≤ 256) (h3 : L < n) : isPow (L * 2) = true := by
  have := of_decide_eq_true h
  unfold isPow
  rcases this with rfl | rfl | rfl | rfl | rfl | rfl | rfl | rfl | rfl <;> simp <;> omega
theorem pow_up {L n : Int} (h : isPow L = true) (h0 : L = 1 ∨ L / 2 < n) (h3 : n ≤ L) (h1 : 1 ≤ n) : L = pwOf n := by
  have := of_decide_eq_true h
  unfold pwOf
  rcases this with rfl | rfl | rfl | rfl | rfl | rfl | rfl | rfl | rfl <;> simp at h0 <;> (repeat' split) <;> omega
def insT (x : Room) : List Room → List Room
  | [] => [x]
  | r :: l => if r.1 < x.1 then r :: insT x l else x :: r :: l
theorem insT_at {x : Room} {l : List Room} {i : Nat} (h1 : ∀ r ∈ l.take i, r.1 < x.1) (h2 : i = l.length ∨ (i < l.length ∧ ¬ (l.getD i (0, 0, 0)).1 < x.1)) : insT x l = l.take i ++ [x] ++ l.drop i := by
  induction l generalizing i with
  | nil =>
    have : i = 0 := by simp at h2; exact h2
    subst this
    rfl
  | cons r l ih =>
    cases i with
    | zero =>
      simp only [List.length_cons] at h2
      have h3 : ¬ r.1 < x.1 := by
        rcases h2 with h2 | h2
        · omega
        · simpa using h2.2
      simp only [insT]
      rw [if_neg h3]
      rfl
    | succ i =>
      have h3 : r.1 < x.1 := h1 r (by simp)
      simp only [insT]
      rw [if_pos h3, ih (i := i) (fun s hs => h1 s (by simp [hs])) (by
        simp only [List.length_cons] at h2
        rcases h2 with h2 | ⟨h2, h4⟩
        · exact .inl (by omega)
        · exact .inr ⟨by omega, by simpa using h4⟩)]
      rfl
def addT (x : Room) (p : Bool × List Room) : Bool × List Room := if p.1 = true then p else (true, p.2 ++ [x])
def lawT (x : Room) (l : List Room) : Bool × List Room := l.foldl (fun p t => ((if x.1 < t.1 then addT x p else p).1, (if x.1 < t.1 then addT x p else p).2 ++ [t])) (false, [])
theorem lawT_snoc (x : Room) (l : List Room) (t : Room) : lawT x (l ++ [t]) = ((if x.1 < t.1 then addT x (lawT x l) else lawT x l).1, (if x.1 < t.1 then addT x (lawT x l) else lawT x l).2 ++ [t]) := by simp [lawT]
theorem insT_all {x : Room} : ∀ {l : List Room}, (∀ r ∈ l, r.1 < x.1) → insT x l = l ++ [x]
  | [], _ => rfl
  | r :: l, h => by
    simp only [insT]
    rw [if_pos (h r List.mem_cons_self), insT_all fun s hs => h s (List.mem_cons_of_mem _ hs)]
    rfl
theorem insT_snoc {x t : Room} : ∀ {l : List Room}, (∃ r ∈ l, ¬ r.1 < x.1) → insT x (l ++ [t]) = insT x l ++ [t]
  | [], ⟨_, h, _⟩ => by cases h
  | r :: l, h => by
    simp only [List.cons_append, insT]
    by_cases hr : r.1 < x.1
    · rw [if_pos hr, if_pos hr]
      obtain ⟨s, hs, hn⟩ := h
      rcases List.mem_cons.1 hs with rfl | hs
      · exact absurd hr hn
      · rw [insT_snoc ⟨s, hs, hn⟩]; rfl
    · rw [if_neg hr, if_neg hr]; rfl
theorem insT_cross {x t : Room} : ∀ {l : List Room}, (∀ r ∈ l, r.1 < x.1) → x.1 < t.1 → insT x (l ++ [t]) = l ++ [x] ++ [t]
  | [], _, h => by simp only [List.nil_append, insT]; rw [if_neg (by omega)]; rfl
  | r :: l, h, ht => by
    simp only [List.cons_append, insT]
    rw [if_pos (h r List.mem_cons_self), insT_cross (fun s hs => h s (List.mem_cons_of_mem _ hs)) ht]
theorem lawT_is {x : Room} : ∀ (l : List Room), l.Pairwise (fun r s => r.1 < s.1) → (∀ r ∈ l, r.1 ≠ x.1) →
    ((∀ r ∈ l, r.1 < x.1) → lawT x l = (false, l)) ∧ ((∃ r ∈ l, ¬ r.1 < x.1) → lawT x l = (true, insT x l)) := by
  intro l
  induction l using snoc_ind with
  | h0 => intro _ _; exact ⟨fun _ => rfl, fun ⟨r, hr, _⟩ => by cases hr⟩
  | h1 l t ih =>
    intro hp hn
    obtain ⟨p1, p2, p3⟩ := List.pairwise_append.1 hp
    obtain ⟨i1, i2⟩ := ih p1 fun r hr => hn r (by simp [hr])
    have hnt := hn t (by simp)
    rw [lawT_snoc]
    refine ⟨fun h => ?_, fun ⟨r, hr, hc⟩ => ?_⟩
    · have ht := h t (by simp)
      rw [if_neg (by omega), i1 fun r hr => h r (by simp [hr])]
    · have ht : x.1 < t.1 := by
        rcases List.mem_append.1 hr with hr | hr
        · have := p3 r hr t (by simp)
          omega
        · rw [List.mem_singleton.1 hr] at hc
          omega
      rw [if_pos ht]
      by_cases hall : ∀ r ∈ l, r.1 < x.1
      · rw [i1 hall]
        simp only [addT, Bool.false_eq_true, if_false]
        rw [insT_cross hall ht]
      · have hex : ∃ r ∈ l, ¬ r.1 < x.1 := by
          apply Classical.byContradiction
          intro h
          exact hall fun r hr => Classical.byContradiction fun hc => h ⟨r, hr, hc⟩
        rw [i2 hex]
        simp only [addT, if_true]
        rw [insT_snoc hex]
theorem lawT_end {x : Room} {l : List Room} (hp : l.Pairwise (fun r s => r.1 < s.1)) (hn : ∀ r ∈ l, r.1 ≠ x.1) : (addT x (lawT x l)).2 = insT x l := by
  obtain ⟨h1, h2⟩ := lawT_is l hp hn
  by_cases hall : ∀ r ∈ l, r.1 < x.1
  · rw [h1 hall, insT_all hall]
    rfl
  · have hex : ∃ r ∈ l, ¬ r.1 < x.1 := by
      apply Classical.byContradiction
      intro h
      exact hall fun r hr => Classical.byContradiction fun hc => h ⟨r, hr, hc⟩
    rw [h2 hex]
    rfl
theorem gapsT_in (t : List Room) : ∀ (k b : Nat), ∀ r ∈ gapsT t k b, (b : Int) ≤ r.1 ∧ r.1 + r.2 ≤ (b : Int) + ((2 ^ k : Nat) : Int) ∧ openR t r.1 r.2 = true ∧ ∃ j, j ≤ k ∧ r.2 = ((2 ^ j : Nat) : Int)
  | 0, b, r, h => by
    simp only [gapsT] at h
    split at h
    · rename_i ho
      rw [List.mem_singleton.1 h]
      exact ⟨by simp, by simp, ho, 0, by omega, by simp⟩
    · cases h
  | k + 1, b, r, h => by
    simp only [gapsT] at h
    have e2 : 2 ^ (k + 1) = 2 ^ k + 2 ^ k := by rw [Nat.pow_succ]; omega
    split at h
    · rename_i ho
      rw [List.mem_singleton.1 h]
      exact ⟨by simp, by simp, ho, k + 1, by omega, rfl⟩
    · rcases List.mem_append.1 h with h | h
      · obtain ⟨h1, h2, h3, j, hj, h4⟩ := gapsT_in t k b r h
        refine ⟨h1, ?_, h3, j, by omega, h4⟩
        rw [e2]
        generalize (2 : Nat) ^ k = z at *
        omega
      · obtain ⟨h1, h2, h3, j, hj, h4⟩ := gapsT_in t k (b + 2 ^ k) r h
        refine ⟨?_, ?_, h3, j, by omega, h4⟩
        · generalize (2 : Nat) ^ k = z at *
          omega
        · rw [e2]
          generalize (2 : Nat) ^ k = z at *
          omega
theorem gapsT_len (t : List Room) : ∀ (k b : Nat), (gapsT t k b).length ≤ 2 ^ k
  | 0, b => by simp only [gapsT]; split <;> simp
  | k + 1, b => by
    have h1 := gapsT_len t k b
    have h2 := gapsT_len t k (b + 2 ^ k)
    have e2 : 2 ^ (k + 1) = 2 ^ k + 2 ^ k := by rw [Nat.pow_succ]; omega
    have hp : 0 < 2 ^ k := Nat.pow_pos (by omega)
    simp only [gapsT]
    rw [e2]
    split
    · simp only [List.length_cons, List.length_nil]
      generalize (2 : Nat) ^ k = z at *
      omega
    · rw [List.length_append]
      generalize (2 : Nat) ^ k = z at *
      omega
theorem pow_isPow {j : Nat} (h : j ≤ 8) : isPow ((2 ^ j : Nat) : Int) = true := by
  have : j = 0 ∨ j = 1 ∨ j = 2 ∨ j = 3 ∨ j = 4 ∨ j = 5 ∨ j = 6 ∨ j = 7 ∨ j = 8 := by omega
  rcases this with rfl | rfl | rfl | rfl | rfl | rfl | rfl | rfl | rfl <;> decide
end Go.Proofs.Ytcnoiiohmpgckaa
