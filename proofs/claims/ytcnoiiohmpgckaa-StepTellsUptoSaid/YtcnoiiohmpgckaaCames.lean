
import Derived.Test.YtcnoiiohmpgckaaReaches
namespace Go.Proofs.Ytcnoiiohmpgckaa
open Go
set_option maxRecDepth 100000
set_option maxHeartbeats 1000000
def comeL (o : List Int) (x : Int) : List Int := if inL o x = true then o else o ++ [x]
def outsV (l : List Int) : List Int := (l.filter fun v => decide (v ≠ 0)).map (· - 1)
theorem comes_pre : ∀ (l o : List Int), ∃ k, l.foldl comeL o = o ++ k ∧ ∀ x ∈ k, x ∈ l
  | [], o => ⟨[], by simp, fun x hx => by cases hx⟩
  | y :: l, o => by
    obtain ⟨k, h1, h2⟩ := comes_pre l (comeL o y)
    rw [List.foldl_cons, h1]
    unfold comeL
    split
    · exact ⟨k, rfl, fun x hx => List.mem_cons_of_mem _ (h2 x hx)⟩
    · refine ⟨y :: k, by simp, fun x hx => ?_⟩
      rcases List.mem_cons.1 hx with rfl | hx
      · simp
      · exact List.mem_cons_of_mem _ (h2 x hx)
theorem comes_nodup : ∀ (l o : List Int), o.Nodup → (l.foldl comeL o).Nodup
  | [], _, h => h
  | y :: l, o, h => by
    rw [List.foldl_cons]
    refine comes_nodup l _ ?_
    unfold comeL
    split
    · exact h
    · rename_i hn
      rw [List.nodup_append]
      refine ⟨h, by simp, fun x hx z hz => ?_⟩
      rw [List.mem_singleton.1 hz]
      rintro rfl
      exact hn (inL_iff.2 hx)
structure Came (a f o : List Int) : Prop where
  nodup : o.Nodup
  only : ∀ x ∈ o, Rch a f x
theorem Came.comes {a f o : List Int} (h : Came a f o) {x : Int} (hx : x ∈ o) (l : List Int) (hl : ∀ v ∈ l, v ∈ refsA a x) : Came a f ((outsV l).foldl comeL o) := by
  refine ⟨comes_nodup _ _ h.nodup, fun y hy => ?_⟩
  obtain ⟨k, h1, h2⟩ := comes_pre (outsV l) o
  rw [h1] at hy
  rcases List.mem_append.1 hy with hy | hy
  · exact h.only y hy
  · refine .step (h.only x hx) ?_
    have := h2 y hy
    unfold outsV at this
    obtain ⟨v, hv, rfl⟩ := List.mem_map.1 this
    obtain ⟨hv, h0⟩ := List.mem_filter.1 hv
    unfold outsA
    exact List.mem_map.2 ⟨v, List.mem_filter.2 ⟨hl v hv, h0⟩, rfl⟩
theorem Came.length {a f o : List Int} (hw : ∀ x ∈ a, InR .u64 x) (hc : (checkF a).2.2 = 0) (hf : ∀ x ∈ f, isB (spotsF a).1 x = true) (h : Came a f o) : o.length ≤ 256 :=
  nodup_len h.nodup fun x hx => isB_range ((h.only x hx).isB hw hc hf)
theorem Came.first {a f : List Int} {l : List Int} (h : ∀ x ∈ l, x ∈ f) : Came a f (l.foldl comeL []) := by
  refine ⟨comes_nodup _ _ List.nodup_nil, fun x hx => ?_⟩
  obtain ⟨k, h1, h2⟩ := comes_pre l []
  rw [h1, List.nil_append] at hx
  exact .base (h x (h2 x hx))
end Go.Proofs.Ytcnoiiohmpgckaa
