
import Derived.Test.YtglchojglcobjaaGreatStoreOps
namespace Go.Proofs.YtglchojglcobjaaGreat
open Go
set_option maxRecDepth 100000
set_option maxHeartbeats 1000000
def an_rSwept : Nat → Option LoopGen
 | 3000051 => some an_in
 | 5204000001 => some an_in
 | 3 => some { rd := [.dat 14 (.arr ty_Pin)], A := fun (p : List Pin) => { cs := [.own 3 3 ty_I, .dat 16 ty_I], inv := fun ((o, i) : List Int × Int) => 0 ≤ i ∧ i ≤ p.length ∧ o = (p.take i.toNat).map (·.1), mu := fun ((_, i) : List Int × Int) => (p.length - i).toNat } }
 | 12 => some { rd := [.box 1 ty_Store], A := fun (s : StoreD) => { cs := [.boxS 8 [.own 50 ty_W, .own 3 ty_I, .own 89 ty_Pin, .own 87 ty_Slot], .dat 50 ty_I], inv := fun ((b, i) : StoreD × Int) => 0 ≤ i ∧ i ≤ s.2.1.length ∧ b = (slidA s, (s.2.1.take i.toNat).map (rootTo s) ++ s.2.1.drop i.toNat, s.2.2), mu := fun ((_, i) : StoreD × Int) => (s.2.1.length - i).toNat } }
 | 18 => some { rd := [.box 1 ty_Store], A := fun (s : StoreD) => { cs := [.boxS 8 [.own 50 ty_W, .own 3 ty_I, .own 89 ty_Pin, .own 87 ty_Slot], .dat 71 ty_I], inv := fun ((b, i) : StoreD × Int) => 0 ≤ i ∧ i ≤ s.2.2.2.length ∧ b = (slidA s, s.2.1.map (rootTo s), s.2.2.1, (s.2.2.2.take i.toNat).map (handTo s) ++ s.2.2.2.drop i.toNat), mu := fun ((_, i) : StoreD × Int) => (s.2.2.2.length - i).toNat } }
 | _ => none
def sp_rSwept : Spec := { Ts := [ty_Store], Rs := [.dat ty_Store], al := true, pre := fun (s : StoreD) => storeF s = 0, F := sweptS }
def pv_rSwept : Prop :=
  ∀ (x : List Int × List Int × List (Int × Int) × List (Int × Bool × Int)), ((x.fst.length * (8 : Nat) ≤ big ∧ ∀ (x_1 : Int), x_1 ∈ x.fst → InR IntKind.u64 x_1) ∧ (x.snd.fst.length * (8 : Nat) ≤ big ∧ ∀ (x_1 : Int), x_1 ∈ x.snd.fst → InR IntKind.i64 x_1) ∧ (x.snd.snd.fst.length * ((8 : Nat) + (8 : Nat)) ≤ big ∧ ∀ (x_1 : Int × Int), x_1 ∈ x.snd.snd.fst → InR IntKind.i64 x_1.fst ∧ InR IntKind.i64 x_1.snd) ∧ x.snd.snd.snd.length * ((8 : Nat) + ((8 : Nat) + (8 : Nat))) ≤ big ∧ ∀ (x_1 : Int × Bool × Int), x_1 ∈ x.snd.snd.snd → InR IntKind.i64 x_1.fst ∧ True ∧ InR IntKind.i64 x_1.snd.snd) → storeF x = (0 : Int) → ((0 : Int) ≤ (0 : Int) ∧ (0 : Int) ≤ (↑x.snd.snd.fst.length : Int) ∧ ([] : List Int) = List.map (fun (x : Pin) => x.fst) (List.take (Int.toNat (0 : Int)) x.snd.snd.fst)) ∧ ∀ (x_1 : List Int × Int), (0 : Int) ≤ x_1.snd ∧ x_1.snd ≤ (↑x.snd.snd.fst.length : Int) ∧ x_1.fst = List.map (fun (x : Pin) => x.fst) (List.take x_1.snd.toNat x.snd.snd.fst) → (decide (x_1.snd < (↑x.snd.snd.fst.length : Int)) = true → (0 : Int) ≤ x_1.snd ∧ x_1.snd < (↑x.snd.snd.fst.length : Int) ∧ (x_1.fst.length + [(x.snd.snd.fst.getD x_1.snd.toNat ((0 : Int), (0 : Int))).fst].length) * (8 : Nat) ≤ big ∧ InR IntKind.i64 (x_1.snd + (1 : Int)) ∧ ((0 : Int) ≤ x_1.snd + (1 : Int) ∧ x_1.snd + (1 : Int) ≤ (↑x.snd.snd.fst.length : Int) ∧ x_1.fst ++ [(x.snd.snd.fst.getD x_1.snd.toNat ((0 : Int), (0 : Int))).fst] = List.map (fun (x : Pin) => x.fst) (List.take (x_1.snd + (1 : Int)).toNat x.snd.snd.fst)) ∧ ((↑x.snd.snd.fst.length : Int) - (x_1.snd + (1 : Int))).toNat < ((↑x.snd.snd.fst.length : Int) - x_1.snd).toNat) ∧ (decide (x_1.snd < (↑x.snd.snd.fst.length : Int)) = false → (x.snd.fst.length ≤ (32 : Nat) ∧ x.snd.snd.fst.length ≤ (16 : Nat) ∧ x.snd.snd.snd.length ≤ (16 : Nat)) ∧ (fromFault x.fst (risingL (namesS x) (256 : Nat)) = (0 : Int) ∧ ((risingL (namesS x) (256 : Nat)).length + (256 : Nat)) * (8 : Nat) ≤ (140737488355328 : Nat)) ∧ planPre (reachL x.fst (risingL (namesS x) (256 : Nat))) (List.map (lgOf (spotsF x.fst).fst) (reachL x.fst (risingL (namesS x) (256 : Nat)))) ∧ ∀ (_ : Array Value), True ∧ x.snd.fst.length * (8 : Nat) ≤ big ∧ x.snd.snd.fst.length * ((8 : Nat) + (8 : Nat)) ≤ big ∧ x.snd.fst = x.snd.fst ∧ x.snd.snd.fst = x.snd.snd.fst ∧ x.snd.snd.fst = x.snd.snd.fst ∧ x.snd.snd.snd = x.snd.snd.snd ∧ x.snd.snd.snd = x.snd.snd.snd ∧ x.snd.snd.snd = x.snd.snd.snd ∧ x.snd.snd.snd.length * ((8 : Nat) + ((8 : Nat) + (8 : Nat))) ≤ big ∧ (longsF x.fst (reachL x.fst (risingL (namesS x) (256 : Nat))) x_1.fst).snd = (0 : Int) ∧ ((0 : Int) ≤ (0 : Int) ∧ (0 : Int) ≤ (↑x.snd.fst.length : Int) ∧ ((slidR x.fst (reachL x.fst (risingL (namesS x) (256 : Nat))) x_1.fst).fst, x.snd) = (slidA x, List.map (rootTo x) (List.take (Int.toNat (0 : Int)) x.snd.fst) ++ List.drop (Int.toNat (0 : Int)) x.snd.fst, x.snd.snd)) ∧ ∀ (x_2 : (List Int × List Int × List (Int × Int) × List (Int × Bool × Int)) × Int), (0 : Int) ≤ x_2.snd ∧ x_2.snd ≤ (↑x.snd.fst.length : Int) ∧ x_2.fst = (slidA x, List.map (rootTo x) (List.take x_2.snd.toNat x.snd.fst) ++ List.drop x_2.snd.toNat x.snd.fst, x.snd.snd) → (decide (x_2.snd < (↑x.snd.fst.length : Int)) = true → (0 : Int) ≤ x_2.snd ∧ x_2.snd < (↑x.snd.fst.length : Int) ∧ (decide ((0 : Int) ≤ x.snd.fst.getD x_2.snd.toNat (0 : Int)) = true → True ∧ (0 : Int) ≤ place (reachL x.fst (risingL (namesS x) (256 : Nat))) (x.snd.fst.getD x_2.snd.toNat (0 : Int)) ∧ place (reachL x.fst (risingL (namesS x) (256 : Nat))) (x.snd.fst.getD x_2.snd.toNat (0 : Int)) < (↑(planS (reachL x.fst (risingL (namesS x) (256 : Nat))) (List.map (lgOf (spotsF x.fst).fst) (reachL x.fst (risingL (namesS x) (256 : Nat)))) x_1.fst).length : Int) ∧ (place (reachL x.fst (risingL (namesS x) (256 : Nat))) (x.snd.fst.getD x_2.snd.toNat (0 : Int))).toNat < (planS (reachL x.fst (risingL (namesS x) (256 : Nat))) (List.map (lgOf (spotsF x.fst).fst) (reachL x.fst (risingL (namesS x) (256 : Nat)))) x_1.fst).length ∧ (0 : Int) ≤ x_2.snd ∧ x_2.snd < (↑x_2.fst.snd.fst.length : Int) ∧ x_2.snd.toNat < x_2.fst.snd.fst.length ∧ InR IntKind.i64 (x_2.snd + (1 : Int)) ∧ ((0 : Int) ≤ x_2.snd + (1 : Int) ∧ x_2.snd + (1 : Int) ≤ (↑x.snd.fst.length : Int) ∧ (x_2.fst.fst, x_2.fst.snd.fst.set x_2.snd.toNat ((planS (reachL x.fst (risingL (namesS x) (256 : Nat))) (List.map (lgOf (spotsF x.fst).fst) (reachL x.fst (risingL (namesS x) (256 : Nat)))) x_1.fst).getD (place (reachL x.fst (risingL (namesS x) (256 : Nat))) (x.snd.fst.getD x_2.snd.toNat (0 : Int))).toNat (0 : Int)), x_2.fst.snd.snd) = (slidA x, List.map (rootTo x) (List.take (x_2.snd + (1 : Int)).toNat x.snd.fst) ++ List.drop (x_2.snd + (1 : Int)).toNat x.snd.fst, x.snd.snd)) ∧ ((↑x.snd.fst.length : Int) - (x_2.snd + (1 : Int))).toNat < ((↑x.snd.fst.length : Int) - x_2.snd).toNat) ∧ (decide ((0 : Int) ≤ x.snd.fst.getD x_2.snd.toNat (0 : Int)) = false → InR IntKind.i64 (x_2.snd + (1 : Int)) ∧ ((0 : Int) ≤ x_2.snd + (1 : Int) ∧ x_2.snd + (1 : Int) ≤ (↑x.snd.fst.length : Int) ∧ x_2.fst = (slidA x, List.map (rootTo x) (List.take (x_2.snd + (1 : Int)).toNat x.snd.fst) ++ List.drop (x_2.snd + (1 : Int)).toNat x.snd.fst, x.snd.snd)) ∧ ((↑x.snd.fst.length : Int) - (x_2.snd + (1 : Int))).toNat < ((↑x.snd.fst.length : Int) - x_2.snd).toNat)) ∧ (decide (x_2.snd < (↑x.snd.fst.length : Int)) = false → ((0 : Int) ≤ (0 : Int) ∧ (0 : Int) ≤ (↑x.snd.snd.snd.length : Int) ∧ x_2.fst = (slidA x, List.map (rootTo x) x.snd.fst, x.snd.snd.fst, List.map (handTo x) (List.take (Int.toNat (0 : Int)) x.snd.snd.snd) ++ List.drop (Int.toNat (0 : Int)) x.snd.snd.snd)) ∧ ∀ (x_3 : (List Int × List Int × List (Int × Int) × List (Int × Bool × Int)) × Int), (0 : Int) ≤ x_3.snd ∧ x_3.snd ≤ (↑x.snd.snd.snd.length : Int) ∧ x_3.fst = (slidA x, List.map (rootTo x) x.snd.fst, x.snd.snd.fst, List.map (handTo x) (List.take x_3.snd.toNat x.snd.snd.snd) ++ List.drop x_3.snd.toNat x.snd.snd.snd) → (decide (x_3.snd < (↑x.snd.snd.snd.length : Int)) = true → (0 : Int) ≤ x_3.snd ∧ x_3.snd < (↑x.snd.snd.snd.length : Int) ∧ ((x.snd.snd.snd.getD x_3.snd.toNat ((0 : Int), false, (0 : Int))).snd.fst = true → True ∧ (0 : Int) ≤ place (reachL x.fst (risingL (namesS x) (256 : Nat))) (x.snd.snd.snd.getD x_3.snd.toNat ((0 : Int), false, (0 : Int))).snd.snd ∧ place (reachL x.fst (risingL (namesS x) (256 : Nat))) (x.snd.snd.snd.getD x_3.snd.toNat ((0 : Int), false, (0 : Int))).snd.snd < (↑(planS (reachL x.fst (risingL (namesS x) (256 : Nat))) (List.map (lgOf (spotsF x.fst).fst) (reachL x.fst (risingL (namesS x) (256 : Nat)))) x_1.fst).length : Int) ∧ (place (reachL x.fst (risingL (namesS x) (256 : Nat))) (x.snd.snd.snd.getD x_3.snd.toNat ((0 : Int), false, (0 : Int))).snd.snd).toNat < (planS (reachL x.fst (risingL (namesS x) (256 : Nat))) (List.map (lgOf (spotsF x.fst).fst) (reachL x.fst (risingL (namesS x) (256 : Nat)))) x_1.fst).length ∧ (0 : Int) ≤ x_3.snd ∧ x_3.snd < (↑x_3.fst.snd.snd.snd.length : Int) ∧ x_3.snd.toNat < x_3.fst.snd.snd.snd.length ∧ InR IntKind.i64 (x_3.snd + (1 : Int)) ∧ ((0 : Int) ≤ x_3.snd + (1 : Int) ∧ x_3.snd + (1 : Int) ≤ (↑x.snd.snd.snd.length : Int) ∧ (x_3.fst.fst, x_3.fst.snd.fst, x_3.fst.snd.snd.fst, x_3.fst.snd.snd.snd.set x_3.snd.toNat ((x_3.fst.snd.snd.snd.getD x_3.snd.toNat ((0 : Int), false, (0 : Int))).fst, (x_3.fst.snd.snd.snd.getD x_3.snd.toNat ((0 : Int), false, (0 : Int))).snd.fst, (planS (reachL x.fst (risingL (namesS x) (256 : Nat))) (List.map (lgOf (spotsF x.fst).fst) (reachL x.fst (risingL (namesS x) (256 : Nat)))) x_1.fst).getD (place (reachL x.fst (risingL (namesS x) (256 : Nat))) (x.snd.snd.snd.getD x_3.snd.toNat ((0 : Int), false, (0 : Int))).snd.snd).toNat (0 : Int))) = (slidA x, List.map (rootTo x) x.snd.fst, x.snd.snd.fst, List.map (handTo x) (List.take (x_3.snd + (1 : Int)).toNat x.snd.snd.snd) ++ List.drop (x_3.snd + (1 : Int)).toNat x.snd.snd.snd)) ∧ ((↑x.snd.snd.snd.length : Int) - (x_3.snd + (1 : Int))).toNat < ((↑x.snd.snd.snd.length : Int) - x_3.snd).toNat) ∧ ((x.snd.snd.snd.getD x_3.snd.toNat ((0 : Int), false, (0 : Int))).snd.fst = false → InR IntKind.i64 (x_3.snd + (1 : Int)) ∧ ((0 : Int) ≤ x_3.snd + (1 : Int) ∧ x_3.snd + (1 : Int) ≤ (↑x.snd.snd.snd.length : Int) ∧ x_3.fst = (slidA x, List.map (rootTo x) x.snd.fst, x.snd.snd.fst, List.map (handTo x) (List.take (x_3.snd + (1 : Int)).toNat x.snd.snd.snd) ++ List.drop (x_3.snd + (1 : Int)).toNat x.snd.snd.snd)) ∧ ((↑x.snd.snd.snd.length : Int) - (x_3.snd + (1 : Int))).toNat < ((↑x.snd.snd.snd.length : Int) - x_3.snd).toNat)) ∧ (decide (x_3.snd < (↑x.snd.snd.snd.length : Int)) = false → x_3.fst = sweptS x ∧ True)))
theorem vcp_rSwept : pv_rSwept := by
 unfold pv_rSwept
 intro s ⟨⟨hb, hw⟩, ⟨hb2, _⟩, ⟨hb3, _⟩, hb4, _⟩ hs
 have R := right_of hw hs
 have hre := R.reached
 have hfo := R.fromOK
 have hsm := R.small
 have hlg := R.longs
 have hpl := R.plan
 have hsl : (slidR s.1 (keepS s) (pinsOf s)).1 = slidA s := rfl
 have hto : ∀ x, (planS (keepS s) (longS s) (pinsOf s)).getD (place (keepS s) x).toNat 0 = toT s x := fun _ => rfl
 have hkl : (planS (keepS s) (longS s) (pinsOf s)).length = (keepS s).length := by simp [planS]
 have hpi := fun {x} (hx : x ∈ namesS s) => place_in (R.keepIn hx)
 have hln : List.map (lgOf (spotsF s.1).1) (keepS s) = longS s := rfl
 have hpo : List.map (fun (x : Pin) => x.1) s.2.2.1 = pinsOf s := rfl
 have hrl : (risingL (namesS s) 256).length ≤ 256 := by
  have := cnt_le (namesS s)
  exact this
 unfold big at hb hb2 hb3 hb4 ⊢
 refine ⟨⟨by omega, by omega, by simp⟩, fun ⟨o, i⟩ ⟨i0, i1, i2⟩ => ⟨fun hlt => ?_, fun hge => ?_⟩⟩
 ·simp only at i0 i1 i2 hlt ⊢
  have hlt := of_decide_eq_true hlt
  have ht := take_snoc ((0, 0) : Pin) i0 hlt
  have hl : o.length = i.toNat := by rw [i2]; simp; omega
  rw [ht, List.map_append, ← i2]
  simp only [InR, List.length_singleton]
  exact ⟨i0, hlt, by omega, by omega, ⟨by omega, by omega, by trivial⟩, by omega⟩
 simp only at i0 i1 i2 hge ⊢
 rw [take_end (of_decide_eq_false hge), hpo] at i2
 subst i2
 rw [hre, hln, hlg, hsl]
 simp only [hto, hkl]
 refine ⟨hsm, ⟨hfo, by omega⟩, hpl.pre, fun tm => ⟨trivial, by omega, by omega, by trivial, by trivial, by trivial, by trivial, by trivial, by trivial, by omega, trivial, ⟨by omega, by omega, by simp⟩, fun ⟨b, i⟩ ⟨i0, i1, i2⟩ => ⟨fun hlt => ?_, fun hge => ?_⟩⟩⟩
 ·simp only at i0 i1 i2 hlt ⊢
  have hlt2 := of_decide_eq_true hlt
  have hil : i.toNat < s.2.1.length := by omega
  subst i2
  simp only [InR]
  rw [mapTo_len, show (i + 1).toNat = i.toNat + 1 by omega]
  refine ⟨i0, hlt2, fun h0 => ?_, fun h0 => ?_⟩
  ·have h0 := of_decide_eq_true h0
   have hp := hpi (R.rootNam i0 hlt2 h0)
   have e : toT s (s.2.1.getD i.toNat 0) = rootTo s (s.2.1.getD i.toNat 0) := by unfold rootTo; rw [if_pos h0]
   rw [e, mapTo_set _ _ _ _ hil]
   exact ⟨trivial, by omega, by omega, by omega, by omega, by omega, by omega, by omega, ⟨by omega, by omega, by trivial⟩, by omega⟩
  ·have h0 := of_decide_eq_false h0
   rw [mapTo_keep (rootTo s) s.2.1 0 i.toNat hil (by unfold rootTo; rw [if_neg h0])]
   exact ⟨by omega, ⟨by omega, by omega, by trivial⟩, by omega⟩
 simp only at i0 i1 i2 hge ⊢
 have hge := of_decide_eq_false hge
 have hil : s.2.1.length ≤ i.toNat := by omega
 rw [List.take_of_length_le hil, List.drop_of_length_le hil, List.append_nil] at i2
 subst i2
 refine ⟨⟨by omega, by omega, by simp⟩, fun ⟨b, j⟩ ⟨j0, j1, j2⟩ => ⟨fun hlt => ?_, fun hge => ?_⟩⟩
 ·simp only at j0 j1 j2 hlt ⊢
  have hlt2 := of_decide_eq_true hlt
  have hjl : j.toNat < s.2.2.2.length := by omega
  subst j2
  simp only [InR]
  rw [mapTo_len, mapTo_get _ _ _ _ hjl, show (j + 1).toNat = j.toNat + 1 by omega]
  refine ⟨j0, hlt2, fun h0 => ?_, fun h0 => ?_⟩
  ·have hp := hpi (R.handNam j0 hlt2 h0)
   have e : ((s.2.2.2.getD j.toNat (0, false, 0)).1, (s.2.2.2.getD j.toNat (0, false, 0)).2.1, toT s (s.2.2.2.getD j.toNat (0, false, 0)).2.2) = handTo s (s.2.2.2.getD j.toNat (0, false, 0)) := by unfold handTo; rw [if_pos h0]
   rw [e, mapTo_set _ _ _ _ hjl]
   exact ⟨trivial, by omega, by omega, by omega, by omega, by omega, by omega, by omega, ⟨by omega, by omega, by trivial⟩, by omega⟩
  ·rw [mapTo_keep (handTo s) s.2.2.2 (0, false, 0) j.toNat hjl (by unfold handTo; rw [if_neg (by rw [h0]; simp)])]
   exact ⟨by omega, ⟨by omega, by omega, by trivial⟩, by omega⟩
 ·simp only at j0 j1 j2 hge ⊢
  have hge := of_decide_eq_false hge
  have hjl : s.2.2.2.length ≤ j.toNat := by omega
  rw [List.take_of_length_le hjl, List.drop_of_length_le hjl, List.append_nil] at j2
  exact ⟨j2, trivial⟩
theorem e_rSwept : pv_rSwept = (fnVC Tryz.prog (tbl [(13, sp_rStoreFrom), (12, sp_rReached), (50, sp_planned), (86, sp_refClone), (52, sp_rSlid), (53, sp_rPlace)]) an_rSwept Tryz.f15 sp_rSwept) := by kernel_rfl
theorem vc_rSwept : fnVC Tryz.prog (tbl [(13, sp_rStoreFrom), (12, sp_rReached), (50, sp_planned), (86, sp_refClone), (52, sp_rSlid), (53, sp_rPlace)]) an_rSwept Tryz.f15 sp_rSwept := @Eq.mp _ _ @e_rSwept @vcp_rSwept
theorem ok_rSwept : sp_rSwept.ok Tryz.prog 15 := fn_sound (P := Tryz.prog) (ss := tbl [(13, sp_rStoreFrom), (12, sp_rReached), (50, sp_planned), (86, sp_refClone), (52, sp_rSlid), (53, sp_rPlace)]) (ann := an_rSwept) (f := 15) (fn := Tryz.f15) (s := sp_rSwept) (tbl_cons ok_rStoreFrom (tbl_cons ok_rReached (tbl_cons ok_planned (tbl_cons ok_refClone (tbl_cons ok_rSlid (tbl_cons ok_rPlace tbl_nil)))))) Tryz.func15 @vc_rSwept
end Go.Proofs.YtglchojglcobjaaGreat
