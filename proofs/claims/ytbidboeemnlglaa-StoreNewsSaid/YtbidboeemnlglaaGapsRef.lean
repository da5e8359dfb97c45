/- Contracts of what the reference says of gaps: RunsOf, GapsOf, Emptied, SameRuns. -/
import Derived.Test.YtbidboeemnlglaaGaps
import Derived.Test.YtbidboeemnlglaaRObjects
namespace Go.Proofs.Ytbidboeemnlglaa
open Go
set_option maxRecDepth 100000
set_option maxHeartbeats 1000000

def runsGo (f : Int → Bool) : Nat → Int → List Gap → List Gap
  | 0, _, out => out
  | m + 1, k, out => runsGo f m (k + 1) (if f k = true then (if (decide (0 < k) && f (k - 1)) = true then bumpL out 1 else out ++ [(k, 1)]) else out)
def an_rRuns : Nat → Option LoopGen
  | 3 => some { rd := [.dat 7 ty_I, .dat 1 (.fn ty_I .bool)], A := fun ((n, g) : Int × (Int → Prop) × (Int → Bool)) => { cs := [.own 5 159 ty_Gap, .dat 8 ty_I], inv := fun ((out, k) : List Gap × Int) => 0 ≤ k ∧ k ≤ n ∧ n ≤ 300 ∧ (∀ i, 0 ≤ i → i < n → g.1 i) ∧ out.length ≤ k ∧ ((decide (0 < k) && g.2 (k - 1)) = true → 0 < out.length) ∧ (∀ r ∈ out, 0 ≤ r.2 ∧ r.2 ≤ k) ∧ runsGo g.2 (n - k).toNat k out = runsGo g.2 n.toNat 0 [], mu := fun ((_, k) : List Gap × Int) => (n - k).toNat } }
  | _ => none
def sp_rRuns : Spec := { Ts := [ty_I, .fn ty_I .bool], Rs := [.own 159 ty_Gap], pre := fun ((n, g) : Int × (Int → Prop) × (Int → Bool)) => 0 ≤ n ∧ n ≤ 300 ∧ ∀ i, 0 ≤ i → i < n → g.1 i, F := fun ((n, g) : Int × (Int → Prop) × (Int → Bool)) => runsGo g.2 n.toNat 0 [] }

def sp_rFree : Spec := { Ts := [ty_I, .ref (.arr .bool)], Rs := [.dat .bool], pre := fun ((k, fr) : Int × List Bool) => 0 ≤ k ∧ k < fr.length, F := fun ((k, fr) : Int × List Bool) => fr.getD k.toNat false }

def setRun (fr : List Bool) (at_ : Nat) (b : Bool) : Nat → List Bool
  | 0 => fr
  | n + 1 => (setRun fr at_ b n).set (at_ + n) b
def flagsL : List Bool → List Spot → List Bool
  | fr, [] => fr
  | fr, s :: l => flagsL (setRun fr s.1.toNat s.2.2.2.2 (headLong s.2).toNat) l
theorem setRun_length (fr : List Bool) (at_ : Nat) (b : Bool) : ∀ n, (setRun fr at_ b n).length = fr.length
  | 0 => rfl
  | n + 1 => by simp [setRun, setRun_length fr at_ b n]
def gapsOfL (a : List Int) : List Gap := runsGo (fun k => (flagsL (List.replicate (a.length + 1) false) (spotsF a).1).getD k.toNat false) a.length 0 []
def an_rGapsOf : Nat → Option LoopGen
  | 4 => some { rd := [.own 18 155 ty_Spot, .dat 0 (.arr ty_W)], A := fun ((l, a) : List Spot × List Int) => { cs := [.boxS 5 [.own 4 .bool], .dat 20 ty_I], inv := fun ((fr, i) : List Bool × Int) => 0 ≤ i ∧ i ≤ l.length ∧ l.length ≤ 256 ∧ a.length ≤ 256 ∧ (∀ s ∈ l, spotIn a s) ∧ fr.length = a.length + 1 ∧ flagsL fr (l.drop i.toNat) = flagsL (List.replicate (a.length + 1) false) l, mu := fun ((_, i) : List Bool × Int) => (l.length - i).toNat } }
  | 7 => some { rd := [.box 7 ty_Spot, .dat 26 ty_I, .dat 0 (.arr ty_W), .boxS 5 [.own 4 .bool]], A := fun ((s, n, a, fr0) : Spot × Int × List Int × List Bool) => { cs := [.boxS 5 [.own 4 .bool], .dat 27 ty_I], inv := fun ((fr, k) : List Bool × Int) => 0 ≤ k ∧ k ≤ n ∧ n = headLong s.2 ∧ a.length ≤ 256 ∧ spotIn a s ∧ fr0.length = a.length + 1 ∧ fr = setRun fr0 s.1.toNat s.2.2.2.2 k.toNat, mu := fun ((_, k) : List Bool × Int) => (n - k).toNat } }
  | _ => none
def sp_rGapsOf : Spec := { Ts := [.arr ty_W], Rs := [.own 159 ty_Gap], pre := fun (a : List Int) => a.length ≤ 256, F := gapsOfL }

def an_rEmptied : Nat → Option LoopGen
  | 3 => some { rd := [.dat 0 (.arr ty_W), .dat 1 ty_I, .dat 11 ty_I], wr := [7], A := fun ((a, at_, n) : List Int × Int × Int) => { cs := [.own 7 46 ty_W, .dat 12 ty_I], inv := fun ((out, k) : List Int × Int) => 0 ≤ k ∧ k ≤ n ∧ layPre a at_ n ∧ out = fillL a at_ n 0 k, mu := fun ((_, k) : List Int × Int) => (n - k).toNat } }
  | _ => none
def sp_rEmptied : Spec := { Ts := [.arr ty_W, ty_I, ty_I], Rs := [.own 46 ty_W], pre := fun ((a, at_, n) : List Int × Int × Int) => layPre a at_ n, F := fun ((a, at_, n) : List Int × Int × Int) => emptiedL a at_ n }
def pv_rEmptied : Prop :=
    ∀ (x : List Int × Int × Int), (x.fst.length * (8 : Nat) ≤ big ∧ ∀ (x_1 : Int), x_1 ∈ x.fst → InR IntKind.u64 x_1) ∧ InR IntKind.i64 x.snd.fst ∧ InR IntKind.i64 x.snd.snd → layPre x.fst x.snd.fst x.snd.snd → True ∧ ((0 : Int) ≤ (0 : Int) ∧ (0 : Int) ≤ x.snd.snd ∧ layPre x.fst x.snd.fst x.snd.snd ∧ x.fst = fillL x.fst x.snd.fst x.snd.snd (0 : Int) (0 : Int)) ∧ ∀ (x_1 : List Int × Int), (0 : Int) ≤ x_1.snd ∧ x_1.snd ≤ x.snd.snd ∧ layPre x.fst x.snd.fst x.snd.snd ∧ x_1.fst = fillL x.fst x.snd.fst x.snd.snd (0 : Int) x_1.snd → (decide (x_1.snd < x.snd.snd) = true → InR IntKind.i64 (x.snd.fst + x_1.snd) ∧ (0 : Int) ≤ x.snd.fst + x_1.snd ∧ x.snd.fst + x_1.snd < (↑x_1.fst.length : Int) ∧ (x.snd.fst + x_1.snd).toNat < x_1.fst.length ∧ InR IntKind.i64 (x_1.snd + (1 : Int)) ∧ ((0 : Int) ≤ x_1.snd + (1 : Int) ∧ x_1.snd + (1 : Int) ≤ x.snd.snd ∧ layPre x.fst x.snd.fst x.snd.snd ∧ x_1.fst.set (x.snd.fst + x_1.snd).toNat (0 : Int) = fillL x.fst x.snd.fst x.snd.snd (0 : Int) (x_1.snd + (1 : Int))) ∧ (x.snd.snd - (x_1.snd + (1 : Int))).toNat < (x.snd.snd - x_1.snd).toNat) ∧ (decide (x_1.snd < x.snd.snd) = false → (decide ((0 : Int) < x.snd.snd) = true → ((1 : Int) ≤ x.snd.snd ∧ x.snd.snd ≤ (256 : Int)) ∧ (0 : Int) ≤ x.snd.fst ∧ x.snd.fst < (↑x_1.fst.length : Int) ∧ x.snd.fst.toNat < x_1.fst.length ∧ x_1.fst.set x.snd.fst.toNat (headWord ((0 : Int), x.snd.snd - (1 : Int), (0 : Int), true)) = emptiedL x.fst x.snd.fst x.snd.snd ∧ True) ∧ (decide ((0 : Int) < x.snd.snd) = false → x_1.fst = emptiedL x.fst x.snd.fst x.snd.snd ∧ True))
theorem vcp_rEmptied : pv_rEmptied := by
  unfold pv_rEmptied
  intro ⟨a, at_, n⟩ _ hp
  have hp' := hp
  obtain ⟨p1, p2, p3, p4⟩ := hp'
  simp only at p1 p2 p3 p4 hp ⊢
  simp only [InR]
  refine ⟨trivial, ⟨by omega, p2, hp, (fillL_zero _ _ _ _).symm⟩, fun ⟨out, k⟩ ⟨k0, k1, _, k2⟩ => ⟨fun hk => ?_, fun hk => ?_⟩⟩
  · have hk : k < n := of_decide_eq_true hk
    simp only at k0 k1 k2 ⊢
    have hl := fillL_length a at_ n 0 k p1 p3 k0 k1
    rw [← k2] at hl
    refine ⟨by omega, by omega, by omega, by omega, by omega, ⟨by omega, by omega, hp, ?_⟩, by omega⟩
    rw [k2]
    exact fillL_step a at_ n 0 k p1 p3 k0 hk
  · have hk : ¬ k < n := of_decide_eq_false hk
    simp only at k0 k1 k2 ⊢
    have hkn : k = n := by omega
    have hl := fillL_length a at_ n 0 k p1 p3 k0 k1
    rw [← k2] at hl
    refine ⟨fun hc => ?_, fun hc => ?_⟩
    · have hc : 0 < n := of_decide_eq_true hc
      unfold emptiedL
      rw [if_pos hc, k2, hkn]
      rw [k2, hkn] at hl
      exact ⟨⟨by omega, by omega⟩, p1, by omega, by omega, rfl, trivial⟩
    · have hc : ¬ 0 < n := of_decide_eq_false hc
      unfold emptiedL
      rw [if_neg hc, k2, show k = 0 by omega, fillL_zero]
      exact ⟨rfl, trivial⟩
theorem e_rEmptied : pv_rEmptied = (fnVC Try.prog (tbl [(34, sp_refClone), (80, sp_rFreeHead)]) an_rEmptied Try.f39 sp_rEmptied) := by kernel_rfl
theorem vc_rEmptied : fnVC Try.prog (tbl [(34, sp_refClone), (80, sp_rFreeHead)]) an_rEmptied Try.f39 sp_rEmptied := @Eq.mp _ _ @e_rEmptied @vcp_rEmptied
theorem ok_rEmptied : sp_rEmptied.ok Try.prog 39 := fn_sound (P := Try.prog) (ss := tbl [(34, sp_refClone), (80, sp_rFreeHead)]) (ann := an_rEmptied) (f := 39) (fn := Try.f39) (s := sp_rEmptied) (tbl_cons ok_refClone (tbl_cons ok_rFreeHead tbl_nil)) Try.func39 @vc_rEmptied

def sp_rSameRuns : Spec := { Ts := [.arr ty_Gap, .arr ty_Gap], Rs := [.dat .bool], pre := fun _ => True, F := fun (x : List Gap × List Gap) => decide (x.1 = x.2) }
def an_rSameRuns : Nat → Option LoopGen
  | 4 => some { rd := [.dat 11 (.arr ty_Gap), .dat 1 (.arr ty_Gap)], A := fun (g : List Gap × List Gap) => { cs := [.dat 13 ty_I], inv := fun (i : Int) => g.1.length = g.2.length ∧ 0 ≤ i ∧ i ≤ g.1.length ∧ g.1.take i.toNat = g.2.take i.toNat, mu := fun (i : Int) => (g.1.length - i).toNat } }
  | _ => none
theorem gap_ne (a b : Gap) : (!(decide (a.1 = b.1) && decide (a.2 = b.2))) = decide (a ≠ b) := by
  obtain ⟨a1, a2⟩ := a
  obtain ⟨b1, b2⟩ := b
  apply Bool.eq_iff_iff.2
  simp only [Bool.and_eq_true, Bool.not_eq_true', Bool.and_eq_false_iff, decide_eq_true_eq, decide_eq_false_iff_not, ne_eq, Prod.mk.injEq]
  grind

end Go.Proofs.Ytbidboeemnlglaa
