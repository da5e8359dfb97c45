
import Derived.Test.YtcnoiiohmpgckaaSlide
import Derived.Test.YtcnoiiohmpgckaaRising
namespace Go.Proofs.Ytcnoiiohmpgckaa
open Go
def outsA (a : List Int) (x : Int) : List Int := ((refsA a x).filter fun v => decide (v ≠ 0)).map (· - 1)
inductive Rch (a from_ : List Int) : Int → Prop
  | base {x : Int} : x ∈ from_ → Rch a from_ x
  | step {x y : Int} : Rch a from_ x → y ∈ outsA a x → Rch a from_ y
def cntR (l : List Int) : Nat := (risingL l 256).length
theorem isB_range {a : List Int} {x : Int} (h : isB (spotsF a).1 x = true) : 0 ≤ x ∧ x ≤ 255 := spots_range _ (isB_spot h).1
theorem outsA_isB {a : List Int} (hw : ∀ x ∈ a, InR .u64 x) (hc : (checkF a).2.2 = 0) {x y : Int} (hx : isB (spotsF a).1 x = true) (hy : y ∈ outsA a x) : isB (spotsF a).1 y = true := by
  unfold outsA at hy
  obtain ⟨v, hv, rfl⟩ := List.mem_map.1 hy
  obtain ⟨hv, h0⟩ := List.mem_filter.1 hv
  have h0 := of_decide_eq_true h0
  rcases refs_named hw hc _ (objA_in hx).1 v hv with e | ⟨_, _, e⟩
  · exact absurd e h0
  · exact e
theorem Rch.isB {a from_ : List Int} (hw : ∀ x ∈ a, InR .u64 x) (hc : (checkF a).2.2 = 0) (hf : ∀ x ∈ from_, isB (spotsF a).1 x = true) {x : Int} (h : Rch a from_ x) : isB (spotsF a).1 x = true := by
  induction h with
  | base h => exact hf _ h
  | step _ h ih => exact outsA_isB hw hc ih h
theorem Rch.mem {a from_ l : List Int} (h1 : ∀ x ∈ from_, x ∈ l) (h2 : ∀ x ∈ l, ∀ y ∈ outsA a x, y ∈ l) {x : Int} (h : Rch a from_ x) : x ∈ l := by
  induction h with
  | base h => exact h1 _ h
  | step _ h ih => exact h2 _ ih _ h
theorem Rch.mono {a f g : List Int} (h : ∀ x ∈ f, Rch a g x) {x : Int} (hx : Rch a f x) : Rch a g x := by
  induction hx with
  | base hx => exact h _ hx
  | step _ hy ih => exact .step ih hy
structure Full (a from_ out : List Int) : Prop where
  has : ∀ x ∈ from_, x ∈ out
  only : ∀ x ∈ out, Rch a from_ x
  all : ∀ x ∈ out, ∀ y ∈ outsA a x, y ∈ out
def fromFault (a from_ : List Int) : Int := if (checkF a).2.2 ≠ 0 then (checkF a).2.2 else if from_.all (isB (spotsF a).1) = true then 0 else 5
end Go.Proofs.Ytcnoiiohmpgckaa
