/- Kept: what some words lead to, by the Refs and by pairs. -/
import Derived.Test.YtgnamdjmjkeodaaReach
namespace Go.Proofs.Ytgnamdjmjkeodaa
open Go

abbrev Pr := Int × Int
def stepK (a l : List Int) (p : Pr) : List Int := if inL l p.1 = true then reachL a (l ++ [p.2]) else l
def passK (a : List Int) (ps : List Pr) (l : List Int) : List Int := ps.foldl (stepK a) l
def kepN (a : List Int) (ps : List Pr) : Nat → List Int → List Int
  | 0, l => l
  | n + 1, l => passK a ps (kepN a ps n l)
def keptL (a f : List Int) (ps : List Pr) : List Int := kepN a ps ps.length (reachL a f)
def doneK (ps : List Pr) (l : List Int) : Nat := (ps.filter fun p => inL l p.1 && inL l p.2).length
def besideL (ps : List Pr) : List Int := ps.flatMap fun p => [p.1, p.2]

/-- A list that has all that it leads to. -/
def Clo (a l : List Int) : Prop := ∃ g, (∀ x ∈ g, isB (spotsF a).1 x = true) ∧ l = reachL a g

theorem done_le {ps : List Pr} {l k : List Int} (h : ∀ x ∈ l, x ∈ k) : doneK ps l ≤ doneK ps k := by
  refine filter_len_le _ (fun p _ hp => ?_)
  simp only [Bool.and_eq_true] at hp ⊢
  exact ⟨inL_iff.2 (h _ (inL_iff.1 hp.1)), inL_iff.2 (h _ (inL_iff.1 hp.2))⟩
theorem done_lt {ps : List Pr} {l k : List Int} (h : ∀ x ∈ l, x ∈ k) {p : Pr} (hp : p ∈ ps) (h1 : p.1 ∈ l) (h2 : ¬ p.2 ∈ l) (h3 : p.2 ∈ k) : doneK ps l < doneK ps k := by
  refine filter_len_lt _ (fun p _ hp => ?_) ⟨p, hp, ?_, ?_⟩
  · simp only [Bool.and_eq_true] at hp ⊢
    exact ⟨inL_iff.2 (h _ (inL_iff.1 hp.1)), inL_iff.2 (h _ (inL_iff.1 hp.2))⟩
  · cases hl : inL l p.2
    · simp
    · exact absurd (inL_iff.1 hl) h2
  · rw [inL_iff.2 (h _ h1), inL_iff.2 h3]; rfl
theorem done_max (ps : List Pr) (l : List Int) : doneK ps l ≤ ps.length := List.length_filter_le _ _

section
variable {a : List Int} (hw : ∀ x ∈ a, InR .u64 x) (hc : (checkF a).2.2 = 0)
include hw hc

theorem Clo.begins {l : List Int} (h : Clo a l) : ∀ x ∈ l, isB (spotsF a).1 x = true := by
  obtain ⟨g, hg, rfl⟩ := h
  intro x hx
  exact ((reach_mem hw hc hg).1 hx).isB hw hc hg

theorem Clo.ok {l : List Int} (h : Clo a l) {v : Int} (hv : isB (spotsF a).1 v = true) : ∀ x ∈ l ++ [v], isB (spotsF a).1 x = true := by
  intro x hx
  rcases List.mem_append.1 hx with hx | hx
  · exact h.begins hw hc x hx
  · rw [List.mem_singleton.1 hx]; exact hv

theorem Clo.add {l : List Int} (h : Clo a l) {v : Int} (hv : isB (spotsF a).1 v = true) : Clo a (reachL a (l ++ [v])) := ⟨_, h.ok hw hc hv, rfl⟩

theorem Clo.sub {l : List Int} (h : Clo a l) {v : Int} (hv : isB (spotsF a).1 v = true) : (∀ x ∈ l, x ∈ reachL a (l ++ [v])) ∧ v ∈ reachL a (l ++ [v]) :=
  ⟨fun x hx => (reach_mem hw hc (h.ok hw hc hv)).2 (.base (by simp [hx])), (reach_mem hw hc (h.ok hw hc hv)).2 (.base (by simp))⟩

theorem Clo.same {l : List Int} (h : Clo a l) {v : Int} (hv : v ∈ l) : reachL a (l ++ [v]) = l := by
  have hvb := h.begins hw hc v hv
  have hs := h.sub hw hc hvb
  have hk := h.ok hw hc hvb
  obtain ⟨g, hg, rfl⟩ := h
  refine rise_uniq (reach_rise _ _) (reach_rise _ _) (fun x => ⟨fun hx => ?_, fun hx => hs.1 x hx⟩)
  rw [reach_mem hw hc hg]
  refine ((reach_mem hw hc hk).1 hx).mono (fun y hy => ?_)
  rcases List.mem_append.1 hy with hy | hy
  · exact (reach_mem hw hc hg).1 hy
  · rw [List.mem_singleton.1 hy]; exact (reach_mem hw hc hg).1 hv

/-- One pair. -/
theorem step_clo {ps : List Pr} {l : List Int} (h : Clo a l) {p : Pr} (hp : p ∈ ps) (hv : isB (spotsF a).1 p.2 = true) :
    Clo a (stepK a l p) ∧ (∀ x ∈ l, x ∈ stepK a l p) ∧ (stepK a l p = l ∨ doneK ps l < doneK ps (stepK a l p)) := by
  unfold stepK
  by_cases h1 : inL l p.1 = true
  · rw [if_pos h1]
    have hs := h.sub hw hc hv
    refine ⟨h.add hw hc hv, hs.1, ?_⟩
    by_cases h2 : p.2 ∈ l
    · exact .inl (h.same hw hc h2)
    · exact .inr (done_lt hs.1 hp (inL_iff.1 h1) h2 hs.2)
  · rw [if_neg h1]
    exact ⟨h, fun x hx => hx, .inl rfl⟩

theorem pass_clo {ps : List Pr} : ∀ (qs : List Pr) (l : List Int), (∀ p ∈ qs, p ∈ ps) → (∀ p ∈ qs, isB (spotsF a).1 p.2 = true) → Clo a l →
    Clo a (passK a qs l) ∧ (∀ x ∈ l, x ∈ passK a qs l) ∧ (passK a qs l = l ∨ doneK ps l < doneK ps (passK a qs l))
  | [], l, _, _, h => ⟨h, fun x hx => hx, .inl rfl⟩
  | p :: qs, l, hp, hv, h => by
    obtain ⟨k1, k2, k3⟩ := step_clo hw hc (ps := ps) h (hp p (by simp)) (hv p (by simp))
    obtain ⟨k4, k5, k6⟩ := pass_clo qs (stepK a l p) (fun q hq => hp q (by simp [hq])) (fun q hq => hv q (by simp [hq])) k1
    have e : passK a (p :: qs) l = passK a qs (stepK a l p) := rfl
    rw [e]
    refine ⟨k4, fun x hx => k5 x (k2 x hx), ?_⟩
    rcases k3 with k3 | k3
    · rw [k3] at k6 ⊢
      exact k6
    · right
      rcases k6 with k6 | k6
      · rw [k6]; exact k3
      · omega

theorem kep_clo {ps : List Pr} (hv : ∀ p ∈ ps, isB (spotsF a).1 p.2 = true) {l : List Int} (h : Clo a l) : ∀ n, Clo a (kepN a ps n l)
  | 0 => h
  | n + 1 => (pass_clo hw hc (ps := ps) ps _ (fun _ h => h) hv (kep_clo hv h n)).1

theorem kep_fix {ps : List Pr} (hv : ∀ p ∈ ps, isB (spotsF a).1 p.2 = true) {l : List Int} (h : Clo a l) : passK a ps (kepN a ps ps.length l) = kepN a ps ps.length l := by
  have key : ∀ n, passK a ps (kepN a ps n l) = kepN a ps n l ∨ n ≤ doneK ps (kepN a ps n l) := by
    intro n
    induction n with
    | zero => exact .inr (Nat.zero_le _)
    | succ n ih =>
      have hp := pass_clo hw hc (ps := ps) ps _ (fun _ h => h) hv (kep_clo hw hc hv h n)
      rcases ih with ih | ih
      · left
        have e : kepN a ps (n + 1) l = kepN a ps n l := ih
        rw [e, ih]
      · rcases hp.2.2 with h1 | h1
        · left
          have e : kepN a ps (n + 1) l = kepN a ps n l := h1
          rw [e, h1]
        · right
          have e : kepN a ps (n + 1) l = passK a ps (kepN a ps n l) := rfl
          rw [e]
          omega
  rcases key ps.length with h1 | h1
  · exact h1
  · rcases (pass_clo hw hc (ps := ps) ps _ (fun _ h => h) hv (kep_clo hw hc hv h ps.length)).2.2 with h2 | h2
    · exact h2
    · have := done_max ps (passK a ps (kepN a ps ps.length l))
      omega

omit hw hc in
theorem fix_stay {ps : List Pr} {l : List Int} {k : Nat} (h : passK a ps (kepN a ps k l) = kepN a ps k l) : ∀ m, kepN a ps (k + m) l = kepN a ps k l
  | 0 => rfl
  | m + 1 => by
    show passK a ps (kepN a ps (k + m) l) = _
    rw [fix_stay h m, h]

theorem kep_all {ps : List Pr} (hv : ∀ p ∈ ps, isB (spotsF a).1 p.2 = true) {l : List Int} (h : Clo a l) {k : Nat} (hf : passK a ps (kepN a ps k l) = kepN a ps k l) : kepN a ps k l = kepN a ps ps.length l := by
  have h2 := kep_fix hw hc hv h
  rcases Nat.le_total k ps.length with hk | hk
  · have := fix_stay hf (ps.length - k)
    rw [show k + (ps.length - k) = ps.length by omega] at this
    exact this.symm
  · have := fix_stay h2 (k - ps.length)
    rw [show ps.length + (k - ps.length) = k by omega] at this
    exact this
end

theorem pass_snoc (a : List Int) (ps : List Pr) (p : Pr) (l : List Int) : passK a (ps ++ [p]) l = stepK a (passK a ps l) p := by
  unfold passK
  rw [List.foldl_append]
  rfl

theorem beside_mem {ps : List Pr} {p : Pr} (hp : p ∈ ps) : p.1 ∈ besideL ps ∧ p.2 ∈ besideL ps := by
  unfold besideL
  exact ⟨List.mem_flatMap.2 ⟨p, hp, by simp⟩, List.mem_flatMap.2 ⟨p, hp, by simp⟩⟩
theorem beside_snoc (ps : List Pr) (p : Pr) : besideL (ps ++ [p]) = besideL ps ++ [p.1, p.2] := by
  unfold besideL
  rw [List.flatMap_append]
  simp
theorem beside_length : ∀ (ps : List Pr), (besideL ps).length = 2 * ps.length
  | [] => rfl
  | p :: ps => by
    have := beside_length ps
    unfold besideL at this ⊢
    rw [List.flatMap_cons, List.length_append, this, List.length_cons, List.length_cons]
    simp
    omega

theorem fault_snoc {a : List Int} (hc : (checkF a).2.2 = 0) (b : List Int) (x y : Int) : fromFault a (b ++ [x, y]) = if fromFault a b = 0 then fromFault a [x, y] else fromFault a b := by
  have h : ¬ (checkF a).2.2 ≠ 0 := fun h => h hc
  unfold fromFault
  simp only [if_neg h, List.all_append]
  cases h1 : b.all (isB (spotsF a).1) <;> simp

end Go.Proofs.Ytgnamdjmjkeodaa
