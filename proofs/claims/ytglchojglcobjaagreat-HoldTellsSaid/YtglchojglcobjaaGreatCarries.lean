
import Derived.Test.YtglchojglcobjaaGreatCarryPure
namespace Go.Proofs.YtglchojglcobjaaGreat
open Go
set_option maxRecDepth 100000
set_option maxHeartbeats 1000000
def an_rTakes : Nat → Option LoopGen
 | 3 => some { rd := [.dat 0 (.arr ty_W), .dat 10 (.arr ty_I)], A := fun ((a, l) : List Int × List Int) => { cs := [.dat 5 ty_I, .dat 12 ty_I], inv := fun ((n, i) : Int × Int) => 0 ≤ i ∧ i ≤ l.length ∧ n = endA a (l.take i.toNat), mu := fun ((_, i) : Int × Int) => (l.length - i).toNat } }
 | _ => none
def sp_rTakes : Spec := { Ts := [.arr ty_W, .arr ty_I], Rs := [.dat ty_I], pre := fun _ => True, F := fun ((a, l) : List Int × List Int) => endA a l }
def pv_rTakes : Prop :=
  ∀ (x : List Int × List Int), ((x.fst.length * (8 : Nat) ≤ big ∧ ∀ (x_1 : Int), x_1 ∈ x.fst → InR IntKind.u64 x_1) ∧ x.snd.length * (8 : Nat) ≤ big ∧ ∀ (x_1 : Int), x_1 ∈ x.snd → InR IntKind.i64 x_1) → True → ((0 : Int) ≤ (0 : Int) ∧ (0 : Int) ≤ (↑x.snd.length : Int) ∧ (0 : Int) = endA x.fst (List.take (Int.toNat (0 : Int)) x.snd)) ∧ ∀ (x_1 : Int × Int), (0 : Int) ≤ x_1.snd ∧ x_1.snd ≤ (↑x.snd.length : Int) ∧ x_1.fst = endA x.fst (List.take x_1.snd.toNat x.snd) → (decide (x_1.snd < (↑x.snd.length : Int)) = true → (0 : Int) ≤ x_1.snd ∧ x_1.snd < (↑x.snd.length : Int) ∧ True ∧ (InR IntKind.i64 ((1 : Int) + (headAtL (x.snd.getD x_1.snd.toNat (0 : Int)) (spotsF x.fst).fst).fst.fst) ∧ InR IntKind.i64 ((1 : Int) + (headAtL (x.snd.getD x_1.snd.toNat (0 : Int)) (spotsF x.fst).fst).fst.fst + (headAtL (x.snd.getD x_1.snd.toNat (0 : Int)) (spotsF x.fst).fst).fst.snd.fst)) ∧ InR IntKind.i64 (x_1.fst + headLong (headAtL (x.snd.getD x_1.snd.toNat (0 : Int)) (spotsF x.fst).fst).fst) ∧ InR IntKind.i64 (x_1.snd + (1 : Int)) ∧ ((0 : Int) ≤ x_1.snd + (1 : Int) ∧ x_1.snd + (1 : Int) ≤ (↑x.snd.length : Int) ∧ x_1.fst + headLong (headAtL (x.snd.getD x_1.snd.toNat (0 : Int)) (spotsF x.fst).fst).fst = endA x.fst (List.take (x_1.snd + (1 : Int)).toNat x.snd)) ∧ ((↑x.snd.length : Int) - (x_1.snd + (1 : Int))).toNat < ((↑x.snd.length : Int) - x_1.snd).toNat) ∧ (decide (x_1.snd < (↑x.snd.length : Int)) = false → x_1.fst = endA x.fst x.snd ∧ True)
theorem vcp_rTakes : pv_rTakes := by
 unfold pv_rTakes
 intro ⟨a, l⟩ ⟨_, hbl, _⟩ _
 unfold big at hbl
 simp only at hbl ⊢
 refine ⟨⟨by omega, by omega, by first | rfl | trivial⟩, fun ⟨n, i⟩ ⟨i0, i1, i2⟩ => ⟨fun hlt => ?_, fun hge => ?_⟩⟩
 ·simp only at i0 i1 i2 hlt ⊢
  have hlt := of_decide_eq_true hlt
  have ht := take_snoc (0 : Int) i0 hlt
  have hr := endA_range a (l.take i.toNat)
  rw [← i2, List.length_take] at hr
  have hl : headLong (headAtL (l.getD i.toNat 0) (spotsF a).1).1 = lgA a (l.getD i.toNat 0) := rfl
  have hlr := lgA_ok a (l.getD i.toNat 0)
  have hH := headFault_zero (headAt_ok a (l.getD i.toNat 0))
  rw [ht, endA_snoc, ← i2, hl]
  simp only [InR]
  refine ⟨i0, hlt, trivial, ⟨⟨by omega, by omega⟩, by omega, by omega⟩, by omega, by omega, ⟨by omega, by omega, by first | rfl | trivial⟩, by omega⟩
 ·simp only at i0 i1 i2 hge ⊢
  rw [take_end (of_decide_eq_false hge)] at i2
  exact ⟨i2, trivial⟩
theorem e_rTakes : pv_rTakes = (fnVC Tryz.prog (tbl [(41, sp_rHeadAt), (42, sp_rHeadLong)]) an_rTakes Tryz.f11 sp_rTakes) := by kernel_rfl
theorem vc_rTakes : fnVC Tryz.prog (tbl [(41, sp_rHeadAt), (42, sp_rHeadLong)]) an_rTakes Tryz.f11 sp_rTakes := @Eq.mp _ _ @e_rTakes @vcp_rTakes
theorem ok_rTakes : sp_rTakes.ok Tryz.prog 11 := fn_sound (P := Tryz.prog) (ss := tbl [(41, sp_rHeadAt), (42, sp_rHeadLong)]) (ann := an_rTakes) (f := 11) (fn := Tryz.f11) (s := sp_rTakes) (tbl_cons ok_rHeadAt (tbl_cons ok_rHeadLong tbl_nil)) Tryz.func11 @vc_rTakes
end Go.Proofs.YtglchojglcobjaaGreat
