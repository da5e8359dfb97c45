
import Derived.Test.YtglchojglcobjaaGreatStorePure
namespace Go.Proofs.YtglchojglcobjaaGreat
open Go
set_option maxRecDepth 100000
set_option maxHeartbeats 1000000
def an_stCollect : Nat → Option LoopGen
 | 5000004 => some { rd := [.box 1 ty_Store], A := fun (s : StoreD) => { cs := [.own 9 3 ty_I, .own 10 3 ty_I], inv := fun ((ra, ha) : List Int × List Int) => ra = List.replicate s.1.length 0 ∧ ha = List.replicate 256 0, mu := fun _ => 0 } }
 | 6 => some { wr := [9, 10], rd := [.box 1 ty_Store], A := fun (s : StoreD) => { cs := [.own 9 3 ty_I, .own 10 3 ty_I, .dat 42 ty_I], inv := fun ((ra, ha, i) : List Int × List Int × Int) => 0 ≤ i ∧ i ≤ (fromS s).length ∧ ra = setAll (List.replicate s.1.length 0) ((fromS s).take i.toNat) (toT s) ∧ ha = setAll (List.replicate 256 0) ((fromS s).take i.toNat) (toT s), mu := fun ((_, _, i) : List Int × List Int × Int) => ((fromS s).length - i).toNat } }
 | 15 => some { rd := [.own 86 42 ty_Gap], A := fun (g : List Gap) => { cs := [.dat 13 ty_I, .dat 88 ty_I], inv := fun ((n, i) : Int × Int) => 0 ≤ i ∧ i ≤ g.length ∧ g.length ≤ 256 ∧ (∀ r ∈ g, 0 ≤ r.2 ∧ r.2 ≤ 256) ∧ n = sumG (g.take i.toNat) ∧ 0 ≤ n ∧ n ≤ 256 * i, mu := fun ((_, i) : Int × Int) => (g.length - i).toNat } }
 | _ => none
def sp_stCollect : Spec := { Ts := [ty_Store], Rs := [.dat ty_Store, .dat ty_I], al := true, pre := fun (s : StoreD) => storeF s = 0, F := collectT }
def pv_stCollect : Prop :=
  ∀ (x : List Int × List Int × List (Int × Int) × List (Int × Bool × Int)), ((x.fst.length * (8 : Nat) ≤ big ∧ ∀ (x_1 : Int), x_1 ∈ x.fst → InR IntKind.u64 x_1) ∧ (x.snd.fst.length * (8 : Nat) ≤ big ∧ ∀ (x_1 : Int), x_1 ∈ x.snd.fst → InR IntKind.i64 x_1) ∧ (x.snd.snd.fst.length * ((8 : Nat) + (8 : Nat)) ≤ big ∧ ∀ (x_1 : Int × Int), x_1 ∈ x.snd.snd.fst → InR IntKind.i64 x_1.fst ∧ InR IntKind.i64 x_1.snd) ∧ x.snd.snd.snd.length * ((8 : Nat) + ((8 : Nat) + (8 : Nat))) ≤ big ∧ ∀ (x_1 : Int × Bool × Int), x_1 ∈ x.snd.snd.snd → InR IntKind.i64 x_1.fst ∧ True ∧ InR IntKind.i64 x_1.snd.snd) → storeF x = (0 : Int) → (x.snd.fst.length ≤ (32 : Nat) ∧ x.snd.snd.fst.length ≤ (16 : Nat) ∧ x.snd.snd.snd.length ≤ (16 : Nat)) ∧ True ∧ ((fromS x).length + (List.map (fun (x : Pin) => x.fst) x.snd.snd.fst).length) * (8 : Nat) ≤ (140737488355328 : Nat) ∧ True ∧ ((((((0 : Int) ≤ (↑x.fst.length : Int) ∧ (↑x.fst.length : Int).toNat * (8 : Nat) ≤ big ∧ ((0 : Int) ≤ (256 : Int) ∧ Int.toNat (256 : Int) * (8 : Nat) ≤ big ∧ ((List.replicate (↑x.fst.length : Int).toNat (0 : Int) = List.replicate x.fst.length (0 : Int) ∧ List.replicate (Int.toNat (256 : Int)) (0 : Int) = List.replicate (256 : Nat) (0 : Int)) ∧ True) ∧ True) ∧ (((0 : Int) ≤ (256 : Int) ∧ Int.toNat (256 : Int) * (8 : Nat) ≤ big ∧ (List.replicate (↑x.fst.length : Int).toNat (0 : Int) = List.replicate x.fst.length (0 : Int) ∧ List.replicate (Int.toNat (256 : Int)) (0 : Int) = List.replicate (256 : Nat) (0 : Int)) ∧ True) ∧ True) ∧ True) ∧ ((0 : Int) ≤ (256 : Int) ∧ Int.toNat (256 : Int) * (8 : Nat) ≤ big ∧ ((0 : Int) ≤ (↑x.fst.length : Int) ∧ (↑x.fst.length : Int).toNat * (8 : Nat) ≤ big ∧ ((List.replicate (↑x.fst.length : Int).toNat (0 : Int) = List.replicate x.fst.length (0 : Int) ∧ List.replicate (Int.toNat (256 : Int)) (0 : Int) = List.replicate (256 : Nat) (0 : Int)) ∧ True) ∧ True) ∧ True) ∧ True) ∧ ((0 : Int) ≤ (256 : Int) ∧ Int.toNat (256 : Int) * (8 : Nat) ≤ big ∧ (((0 : Int) ≤ (↑x.fst.length : Int) ∧ (↑x.fst.length : Int).toNat * (8 : Nat) ≤ big ∧ ((List.replicate (↑x.fst.length : Int).toNat (0 : Int) = List.replicate x.fst.length (0 : Int) ∧ List.replicate (Int.toNat (256 : Int)) (0 : Int) = List.replicate (256 : Nat) (0 : Int)) ∧ True) ∧ True) ∧ True) ∧ True) ∧ True) ∧ ((0 : Int) ≤ (256 : Int) ∧ Int.toNat (256 : Int) * (8 : Nat) ≤ big ∧ ((((0 : Int) ≤ (↑x.fst.length : Int) ∧ (↑x.fst.length : Int).toNat * (8 : Nat) ≤ big ∧ ((List.replicate (↑x.fst.length : Int).toNat (0 : Int) = List.replicate x.fst.length (0 : Int) ∧ List.replicate (Int.toNat (256 : Int)) (0 : Int) = List.replicate (256 : Nat) (0 : Int)) ∧ True) ∧ True) ∧ True) ∧ True) ∧ True) ∧ True) ∧ ((0 : Int) ≤ (256 : Int) ∧ Int.toNat (256 : Int) * (8 : Nat) ≤ big ∧ (((((0 : Int) ≤ (↑x.fst.length : Int) ∧ (↑x.fst.length : Int).toNat * (8 : Nat) ≤ big ∧ ((List.replicate (↑x.fst.length : Int).toNat (0 : Int) = List.replicate x.fst.length (0 : Int) ∧ List.replicate (Int.toNat (256 : Int)) (0 : Int) = List.replicate (256 : Nat) (0 : Int)) ∧ True) ∧ True) ∧ True) ∧ True) ∧ True) ∧ True) ∧ True) ∧ ∀ (x_1 : List Int × List Int), x_1.fst = List.replicate x.fst.length (0 : Int) ∧ x_1.snd = List.replicate (256 : Nat) (0 : Int) → ((0 : Int) ≤ (0 : Int) ∧ (0 : Int) ≤ (↑(fromS x).length : Int) ∧ x_1.fst = setAll (List.replicate x.fst.length (0 : Int)) (List.take (Int.toNat (0 : Int)) (fromS x)) (toT x) ∧ x_1.snd = setAll (List.replicate (256 : Nat) (0 : Int)) (List.take (Int.toNat (0 : Int)) (fromS x)) (toT x)) ∧ ∀ (x_2 : List Int × List Int × Int), (0 : Int) ≤ x_2.snd.snd ∧ x_2.snd.snd ≤ (↑(fromS x).length : Int) ∧ x_2.fst = setAll (List.replicate x.fst.length (0 : Int)) (List.take x_2.snd.snd.toNat (fromS x)) (toT x) ∧ x_2.snd.fst = setAll (List.replicate (256 : Nat) (0 : Int)) (List.take x_2.snd.snd.toNat (fromS x)) (toT x) → (decide (x_2.snd.snd < (↑(fromS x).length : Int)) = true → (0 : Int) ≤ x_2.snd.snd ∧ x_2.snd.snd < (↑(fromS x).length : Int) ∧ x_2.snd.snd.toNat < (fromS x).length ∧ (0 : Int) ≤ x_2.snd.snd ∧ x_2.snd.snd < (↑(cleanF x.fst (fromS x) (List.map (fun (x : Pin) => x.fst) x.snd.snd.fst)).snd.fst.length : Int) ∧ (0 : Int) ≤ x_2.snd.snd ∧ x_2.snd.snd < (↑(cleanF x.fst (fromS x) (List.map (fun (x : Pin) => x.fst) x.snd.snd.fst)).snd.fst.length : Int) ∧ (0 : Int) ≤ (fromS x).getD x_2.snd.snd.toNat (0 : Int) ∧ (fromS x).getD x_2.snd.snd.toNat (0 : Int) < (↑x_2.fst.length : Int) ∧ ((fromS x).getD x_2.snd.snd.toNat (0 : Int)).toNat < x_2.fst.length ∧ (0 : Int) ≤ (fromS x).getD x_2.snd.snd.toNat (0 : Int) ∧ (fromS x).getD x_2.snd.snd.toNat (0 : Int) < (↑x_2.snd.fst.length : Int) ∧ ((fromS x).getD x_2.snd.snd.toNat (0 : Int)).toNat < x_2.snd.fst.length ∧ InR IntKind.i64 (x_2.snd.snd + (1 : Int)) ∧ ((0 : Int) ≤ x_2.snd.snd + (1 : Int) ∧ x_2.snd.snd + (1 : Int) ≤ (↑(fromS x).length : Int) ∧ x_2.fst.set ((fromS x).getD x_2.snd.snd.toNat (0 : Int)).toNat ((cleanF x.fst (fromS x) (List.map (fun (x : Pin) => x.fst) x.snd.snd.fst)).snd.fst.getD x_2.snd.snd.toNat (0 : Int)) = setAll (List.replicate x.fst.length (0 : Int)) (List.take (x_2.snd.snd + (1 : Int)).toNat (fromS x)) (toT x) ∧ x_2.snd.fst.set ((fromS x).getD x_2.snd.snd.toNat (0 : Int)).toNat ((cleanF x.fst (fromS x) (List.map (fun (x : Pin) => x.fst) x.snd.snd.fst)).snd.fst.getD x_2.snd.snd.toNat (0 : Int)) = setAll (List.replicate (256 : Nat) (0 : Int)) (List.take (x_2.snd.snd + (1 : Int)).toNat (fromS x)) (toT x)) ∧ ((↑(fromS x).length : Int) - (x_2.snd.snd + (1 : Int))).toNat < ((↑(fromS x).length : Int) - x_2.snd.snd).toNat) ∧ (decide (x_2.snd.snd < (↑(fromS x).length : Int)) = false → True ∧ True ∧ True ∧ ((0 : Int) ≤ (0 : Int) ∧ (0 : Int) ≤ (↑(gapsGF (cleanF x.fst (fromS x) (List.map (fun (x : Pin) => x.fst) x.snd.snd.fst)).fst).fst.length : Int) ∧ (gapsGF (cleanF x.fst (fromS x) (List.map (fun (x : Pin) => x.fst) x.snd.snd.fst)).fst).fst.length ≤ (256 : Nat) ∧ (∀ (r : Gap), r ∈ (gapsGF (cleanF x.fst (fromS x) (List.map (fun (x : Pin) => x.fst) x.snd.snd.fst)).fst).fst → (0 : Int) ≤ r.snd ∧ r.snd ≤ (256 : Int)) ∧ (0 : Int) = sumG (List.take (Int.toNat (0 : Int)) (gapsGF (cleanF x.fst (fromS x) (List.map (fun (x : Pin) => x.fst) x.snd.snd.fst)).fst).fst) ∧ (0 : Int) ≤ (0 : Int) ∧ (0 : Int) ≤ (256 : Int) * (0 : Int)) ∧ ∀ (x_3 : Int × Int), (0 : Int) ≤ x_3.snd ∧ x_3.snd ≤ (↑(gapsGF (cleanF x.fst (fromS x) (List.map (fun (x : Pin) => x.fst) x.snd.snd.fst)).fst).fst.length : Int) ∧ (gapsGF (cleanF x.fst (fromS x) (List.map (fun (x : Pin) => x.fst) x.snd.snd.fst)).fst).fst.length ≤ (256 : Nat) ∧ (∀ (r : Gap), r ∈ (gapsGF (cleanF x.fst (fromS x) (List.map (fun (x : Pin) => x.fst) x.snd.snd.fst)).fst).fst → (0 : Int) ≤ r.snd ∧ r.snd ≤ (256 : Int)) ∧ x_3.fst = sumG (List.take x_3.snd.toNat (gapsGF (cleanF x.fst (fromS x) (List.map (fun (x : Pin) => x.fst) x.snd.snd.fst)).fst).fst) ∧ (0 : Int) ≤ x_3.fst ∧ x_3.fst ≤ (256 : Int) * x_3.snd → (decide (x_3.snd < (↑(gapsGF (cleanF x.fst (fromS x) (List.map (fun (x : Pin) => x.fst) x.snd.snd.fst)).fst).fst.length : Int)) = true → (0 : Int) ≤ x_3.snd ∧ x_3.snd < (↑(gapsGF (cleanF x.fst (fromS x) (List.map (fun (x : Pin) => x.fst) x.snd.snd.fst)).fst).fst.length : Int) ∧ x_3.snd.toNat < (gapsGF (cleanF x.fst (fromS x) (List.map (fun (x : Pin) => x.fst) x.snd.snd.fst)).fst).fst.length ∧ InR IntKind.i64 (x_3.fst + ((gapsGF (cleanF x.fst (fromS x) (List.map (fun (x : Pin) => x.fst) x.snd.snd.fst)).fst).fst.getD x_3.snd.toNat ((0 : Int), (0 : Int))).snd) ∧ InR IntKind.i64 (x_3.snd + (1 : Int)) ∧ ((0 : Int) ≤ x_3.snd + (1 : Int) ∧ x_3.snd + (1 : Int) ≤ (↑(gapsGF (cleanF x.fst (fromS x) (List.map (fun (x : Pin) => x.fst) x.snd.snd.fst)).fst).fst.length : Int) ∧ (gapsGF (cleanF x.fst (fromS x) (List.map (fun (x : Pin) => x.fst) x.snd.snd.fst)).fst).fst.length ≤ (256 : Nat) ∧ (∀ (r : Gap), r ∈ (gapsGF (cleanF x.fst (fromS x) (List.map (fun (x : Pin) => x.fst) x.snd.snd.fst)).fst).fst → (0 : Int) ≤ r.snd ∧ r.snd ≤ (256 : Int)) ∧ x_3.fst + ((gapsGF (cleanF x.fst (fromS x) (List.map (fun (x : Pin) => x.fst) x.snd.snd.fst)).fst).fst.getD x_3.snd.toNat ((0 : Int), (0 : Int))).snd = sumG (List.take (x_3.snd + (1 : Int)).toNat (gapsGF (cleanF x.fst (fromS x) (List.map (fun (x : Pin) => x.fst) x.snd.snd.fst)).fst).fst) ∧ (0 : Int) ≤ x_3.fst + ((gapsGF (cleanF x.fst (fromS x) (List.map (fun (x : Pin) => x.fst) x.snd.snd.fst)).fst).fst.getD x_3.snd.toNat ((0 : Int), (0 : Int))).snd ∧ x_3.fst + ((gapsGF (cleanF x.fst (fromS x) (List.map (fun (x : Pin) => x.fst) x.snd.snd.fst)).fst).fst.getD x_3.snd.toNat ((0 : Int), (0 : Int))).snd ≤ (256 : Int) * (x_3.snd + (1 : Int))) ∧ ((↑(gapsGF (cleanF x.fst (fromS x) (List.map (fun (x : Pin) => x.fst) x.snd.snd.fst)).fst).fst.length : Int) - (x_3.snd + (1 : Int))).toNat < ((↑(gapsGF (cleanF x.fst (fromS x) (List.map (fun (x : Pin) => x.fst) x.snd.snd.fst)).fst).fst.length : Int) - x_3.snd).toNat) ∧ (decide (x_3.snd < (↑(gapsGF (cleanF x.fst (fromS x) (List.map (fun (x : Pin) => x.fst) x.snd.snd.fst)).fst).fst.length : Int)) = false → ((cleanF x.fst (fromS x) (List.map (fun (x : Pin) => x.fst) x.snd.snd.fst)).fst, (rootSwapF x.snd.fst (↑x.fst.length : Int) x_2.fst).fst, x.snd.snd.fst, (swapF x.snd.snd.snd x_2.snd.fst).fst) = (collectT x).fst ∧ x_3.fst = (collectT x).snd ∧ True))
theorem vcp_stCollect : pv_stCollect := by
 unfold pv_stCollect
 intro s ⟨⟨hb, hw⟩, _⟩ hs
 have R := right_of hw hs
 have hcl : cleanF s.1 (fromS s) (List.map (fun (x : Pin) => x.1) s.2.2.1) = (slidA s, (fromS s).map (toT s), 0) := R.clean
 obtain ⟨hgf, hgi, hgl⟩ := R.gaps
 have hfl := R.fromLen
 have hsm := R.small
 have hal := R.al
 have hF : collectT s = (sweptS s, sumG (gapsL false [] (spotsF (slidA s)).1)) := rfl
 have hfm := fun x => fromS_mem (s := s) R.root (x := x)
 have hsr := R.swapRoots
 have hsh := R.swapHands
 rw [hF, hcl]
 simp only
 rw [hgf]
 simp only
 generalize gapsL false [] (spotsF (slidA s)).1 = g at *
 unfold big at hb ⊢
 refine ⟨hsm, trivial, by rw [List.length_map]; omega, trivial, ?_, fun ⟨ra, ha⟩ ⟨q1, q2⟩ => ?_⟩
 ·have e1 : ((s.1.length : Int)).toNat = s.1.length := by omega
  have e2 : Int.toNat 256 = 256 := rfl
  have e3 : (0 : Int) ≤ (s.1.length : Int) := by omega
  simp only [e1, e2, e3, hb, true_and, and_true]
  omega
 simp only at q1 q2
 subst q1 q2
 refine ⟨⟨by omega, by omega, by simp [setAll], by simp [setAll]⟩, fun ⟨ra, ha, i⟩ ⟨i0, i1, i2, i3⟩ => ⟨fun hlt => ?_, fun hge => ?_⟩⟩
 ·simp only at i0 i1 i2 i3 hlt ⊢
  have hlt := of_decide_eq_true hlt
  have ht := take_snoc (0 : Int) i0 hlt
  have hx := R.nameIn ((hfm _).1 (getD_mem (0 : Int) i0 hlt))
  have hm : (List.map (toT s) (fromS s)).getD i.toNat 0 = toT s ((fromS s).getD i.toNat 0) := map_getD i0 hlt
  have l1 : ra.length = s.1.length := by rw [i2, setAll_length, List.length_replicate]
  have l2 : ha.length = 256 := by rw [i3, setAll_length, List.length_replicate]
  rw [hm, ht, setAll_snoc, setAll_snoc, ← i2, ← i3, l1, l2, List.length_map]
  generalize (fromS s).getD i.toNat 0 = x at *
  simp only [InR]
  exact ⟨i0, hlt, by omega, i0, hlt, i0, hlt, hx.1, hx.2, by omega, hx.1, by omega, by omega, by omega, ⟨by omega, by omega, by trivial, by trivial⟩, by omega⟩
 ·simp only at i0 i1 i2 i3 hge ⊢
  have hge := of_decide_eq_false hge
  rw [take_end hge] at i2 i3
  refine ⟨trivial, trivial, trivial, ⟨by omega, by omega, hgl, fun r hr => by have := hgi r hr; omega, by trivial, by omega, by omega⟩, fun ⟨n, j⟩ ⟨j0, j1, _, _, j2, j3, j4⟩ => ⟨fun hlt => ?_, fun hge => ?_⟩⟩
  ·simp only at j0 j1 j2 j3 j4 hlt ⊢
   have hlt := of_decide_eq_true hlt
   have hm := hgi _ (getD_mem ((0, 0) : Gap) j0 hlt)
   rw [sumG_take j0 hlt, ← j2]
   generalize (g.getD j.toNat (0, 0)).2 = y at *
   simp only [InR]
   exact ⟨j0, hlt, by omega, by omega, by omega, ⟨by omega, by omega, hgl, fun r hr => by have := hgi r hr; omega, by trivial, by omega, by omega⟩, by omega⟩
  ·simp only at j0 j1 j2 hge ⊢
   rw [take_end (of_decide_eq_false hge)] at j2
   rw [i2, i3, hsr, hsh]
   exact ⟨rfl, j2, trivial⟩
theorem e_stCollect : pv_stCollect = (fnVC Tryz.prog (tbl [(94, sp_stFrom), (82, sp_stPinned), (104, sp_clean), (98, sp_clonePins), (105, sp_rootSwap), (106, sp_handSwap), (84, sp_gapsGaps)]) an_stCollect Tryz.f58 sp_stCollect) := by kernel_rfl
theorem vc_stCollect : fnVC Tryz.prog (tbl [(94, sp_stFrom), (82, sp_stPinned), (104, sp_clean), (98, sp_clonePins), (105, sp_rootSwap), (106, sp_handSwap), (84, sp_gapsGaps)]) an_stCollect Tryz.f58 sp_stCollect := @Eq.mp _ _ @e_stCollect @vcp_stCollect
theorem ok_stCollect : sp_stCollect.ok Tryz.prog 58 := fn_sound (P := Tryz.prog) (ss := tbl [(94, sp_stFrom), (82, sp_stPinned), (104, sp_clean), (98, sp_clonePins), (105, sp_rootSwap), (106, sp_handSwap), (84, sp_gapsGaps)]) (ann := an_stCollect) (f := 58) (fn := Tryz.f58) (s := sp_stCollect) (tbl_cons ok_stFrom (tbl_cons ok_stPinned (tbl_cons ok_clean (tbl_cons ok_clonePins (tbl_cons ok_rootSwap (tbl_cons ok_handSwap (tbl_cons ok_gapsGaps tbl_nil))))))) Tryz.func58 @vc_stCollect
def collectF (s : StoreD) : StoreD × Int × Int := if storeF s ≠ 0 then (nilStore, 0, storeF s) else ((collectT s).1, (collectT s).2, 0)
def sp_stCollectC : Spec := { Ts := [ty_Store], Rs := [.dat ty_Store, .dat ty_I, .dat ty_I], al := true, pre := fun _ => True, F := collectF }
def pv_stCollectC : Prop :=
  ∀ (x : List Int × List Int × List (Int × Int) × List (Int × Bool × Int)), ((x.fst.length * (8 : Nat) ≤ big ∧ ∀ (x_1 : Int), x_1 ∈ x.fst → InR IntKind.u64 x_1) ∧ (x.snd.fst.length * (8 : Nat) ≤ big ∧ ∀ (x_1 : Int), x_1 ∈ x.snd.fst → InR IntKind.i64 x_1) ∧ (x.snd.snd.fst.length * ((8 : Nat) + (8 : Nat)) ≤ big ∧ ∀ (x_1 : Int × Int), x_1 ∈ x.snd.snd.fst → InR IntKind.i64 x_1.fst ∧ InR IntKind.i64 x_1.snd) ∧ x.snd.snd.snd.length * ((8 : Nat) + ((8 : Nat) + (8 : Nat))) ≤ big ∧ ∀ (x_1 : Int × Bool × Int), x_1 ∈ x.snd.snd.snd → InR IntKind.i64 x_1.fst ∧ True ∧ InR IntKind.i64 x_1.snd.snd) → True → True ∧ (decide (storeF x ≠ (0 : Int)) = true → (([] : List Int), ([] : List Int), ([] : List (Int × Int)), ([] : List (Int × Bool × Int))) = (collectF x).fst ∧ (0 : Int) = (collectF x).snd.fst ∧ storeF x = (collectF x).snd.snd ∧ True) ∧ (decide (storeF x ≠ (0 : Int)) = false → storeF x = (0 : Int) ∧ (collectT x).fst = (collectF x).fst ∧ (collectT x).snd = (collectF x).snd.fst ∧ (0 : Int) = (collectF x).snd.snd ∧ True)
theorem vcp_stCollectC : pv_stCollectC := by
 unfold pv_stCollectC
 intro s hx hs
 refine ⟨trivial, fun h => ?_, fun h => ?_⟩
 ·unfold collectF
  rw [if_pos (of_decide_eq_true h)]
  exact ⟨by trivial, by trivial, by trivial, trivial⟩
 ·have h := of_decide_eq_false h
  unfold collectF
  rw [if_neg h]
  exact ⟨by omega, rfl, rfl, rfl, trivial⟩
theorem e_stCollectC : pv_stCollectC = (fnVC Tryz.prog (tbl [(54, sp_stCheck), (58, sp_stCollect)]) an_0 Tryz.f17 sp_stCollectC) := by kernel_rfl
theorem vc_stCollectC : fnVC Tryz.prog (tbl [(54, sp_stCheck), (58, sp_stCollect)]) an_0 Tryz.f17 sp_stCollectC := @Eq.mp _ _ @e_stCollectC @vcp_stCollectC
theorem ok_stCollectC : sp_stCollectC.ok Tryz.prog 17 := fn_sound (P := Tryz.prog) (ss := tbl [(54, sp_stCheck), (58, sp_stCollect)]) (ann := an_0) (f := 17) (fn := Tryz.f17) (s := sp_stCollectC) (tbl_cons ok_stCheck (tbl_cons ok_stCollect tbl_nil)) Tryz.func17 @vc_stCollectC
end Go.Proofs.YtglchojglcobjaaGreat
