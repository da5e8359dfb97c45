
import Derived.Test.YtglchojglcobjaaGreatRArena
namespace Go.Proofs.YtglchojglcobjaaGreat
open Go
set_option maxRecDepth 100000
set_option maxHeartbeats 1000000
theorem beginsL_length : ∀ l : List Spot, (beginsL l).length ≤ l.length
 | [] => by simp [beginsL]
 | s :: l => by
  have := beginsL_length l
  simp only [beginsL]
  split <;> simp <;> omega
def namesIn (all : List Int) (rs : List Int) : Bool := rs.all fun to => decide (to = -1) || inL all to
def arenaOK (a : List Int) (l : List Spot) (all : List Int) : List Int → Bool
 | [] => true
 | at_ :: r => namesIn all (namedL a at_ (headAtL at_ l).1) && arenaOK a l all r
def arenaF (a : List Int) : Int := if (spotsF a).2 ≠ 0 then (spotsF a).2 else if arenaOK a (spotsF a).1 (beginsL (spotsF a).1) (beginsL (spotsF a).1) = true then 0 else 5
def an_rArenaFault : Nat → Option LoopGen
 | 6 => some { rd := [.own 20 3 ty_I, .dat 0 (.arr ty_W)], A := fun ((all, a) : List Int × List Int) => { cs := [.dat 22 ty_I], inv := fun (i : Int) => 0 ≤ i ∧ i ≤ all.length ∧ all.length ≤ 256 ∧ a.length ≤ 256 ∧ arenaOK a (spotsF a).1 all (all.drop i.toNat) = arenaOK a (spotsF a).1 all all, mu := fun (i : Int) => (all.length - i).toNat } }
 | 9 => some { rd := [.own 28 3 ty_I, .own 20 3 ty_I], A := fun ((rs, all) : List Int × List Int) => { cs := [.dat 30 ty_I], inv := fun (j : Int) => 0 ≤ j ∧ j ≤ rs.length ∧ rs.length ≤ 256 ∧ namesIn all (rs.drop j.toNat) = namesIn all rs, mu := fun (j : Int) => (rs.length - j).toNat } }
 | _ => none
def sp_rArenaFault : Spec := { Ts := [.arr ty_W], Rs := [.dat ty_I], pre := fun _ => True, F := arenaF }
def pv_rArenaFault : Prop :=
  ∀ (x : List Int), (x.length * (8 : Nat) ≤ big ∧ ∀ (x_1 : Int), x_1 ∈ x → InR IntKind.u64 x_1) → True → True ∧ (decide ((spotsF x).snd ≠ (0 : Int)) = true → (spotsF x).snd = arenaF x ∧ True) ∧ (decide ((spotsF x).snd ≠ (0 : Int)) = false → True ∧ ((0 : Int) ≤ (0 : Int) ∧ (0 : Int) ≤ (↑(beginsL (spotsF x).fst).length : Int) ∧ (beginsL (spotsF x).fst).length ≤ (256 : Nat) ∧ x.length ≤ (256 : Nat) ∧ arenaOK x (spotsF x).fst (beginsL (spotsF x).fst) (List.drop (Int.toNat (0 : Int)) (beginsL (spotsF x).fst)) = arenaOK x (spotsF x).fst (beginsL (spotsF x).fst) (beginsL (spotsF x).fst)) ∧ ∀ (x_1 : Int), (0 : Int) ≤ x_1 ∧ x_1 ≤ (↑(beginsL (spotsF x).fst).length : Int) ∧ (beginsL (spotsF x).fst).length ≤ (256 : Nat) ∧ x.length ≤ (256 : Nat) ∧ arenaOK x (spotsF x).fst (beginsL (spotsF x).fst) (List.drop x_1.toNat (beginsL (spotsF x).fst)) = arenaOK x (spotsF x).fst (beginsL (spotsF x).fst) (beginsL (spotsF x).fst) → (decide (x_1 < (↑(beginsL (spotsF x).fst).length : Int)) = true → (0 : Int) ≤ x_1 ∧ x_1 < (↑(beginsL (spotsF x).fst).length : Int) ∧ x_1.toNat < (beginsL (spotsF x).fst).length ∧ True ∧ ((0 : Int) ≤ (0 : Int) ∧ (0 : Int) ≤ (↑(namedL x ((beginsL (spotsF x).fst).getD x_1.toNat (0 : Int)) (headAtL ((beginsL (spotsF x).fst).getD x_1.toNat (0 : Int)) (spotsF x).fst).fst).length : Int) ∧ (namedL x ((beginsL (spotsF x).fst).getD x_1.toNat (0 : Int)) (headAtL ((beginsL (spotsF x).fst).getD x_1.toNat (0 : Int)) (spotsF x).fst).fst).length ≤ (256 : Nat) ∧ namesIn (beginsL (spotsF x).fst) (List.drop (Int.toNat (0 : Int)) (namedL x ((beginsL (spotsF x).fst).getD x_1.toNat (0 : Int)) (headAtL ((beginsL (spotsF x).fst).getD x_1.toNat (0 : Int)) (spotsF x).fst).fst)) = namesIn (beginsL (spotsF x).fst) (namedL x ((beginsL (spotsF x).fst).getD x_1.toNat (0 : Int)) (headAtL ((beginsL (spotsF x).fst).getD x_1.toNat (0 : Int)) (spotsF x).fst).fst)) ∧ ∀ (x_2 : Int), (0 : Int) ≤ x_2 ∧ x_2 ≤ (↑(namedL x ((beginsL (spotsF x).fst).getD x_1.toNat (0 : Int)) (headAtL ((beginsL (spotsF x).fst).getD x_1.toNat (0 : Int)) (spotsF x).fst).fst).length : Int) ∧ (namedL x ((beginsL (spotsF x).fst).getD x_1.toNat (0 : Int)) (headAtL ((beginsL (spotsF x).fst).getD x_1.toNat (0 : Int)) (spotsF x).fst).fst).length ≤ (256 : Nat) ∧ namesIn (beginsL (spotsF x).fst) (List.drop x_2.toNat (namedL x ((beginsL (spotsF x).fst).getD x_1.toNat (0 : Int)) (headAtL ((beginsL (spotsF x).fst).getD x_1.toNat (0 : Int)) (spotsF x).fst).fst)) = namesIn (beginsL (spotsF x).fst) (namedL x ((beginsL (spotsF x).fst).getD x_1.toNat (0 : Int)) (headAtL ((beginsL (spotsF x).fst).getD x_1.toNat (0 : Int)) (spotsF x).fst).fst) → (decide (x_2 < (↑(namedL x ((beginsL (spotsF x).fst).getD x_1.toNat (0 : Int)) (headAtL ((beginsL (spotsF x).fst).getD x_1.toNat (0 : Int)) (spotsF x).fst).fst).length : Int)) = true → (0 : Int) ≤ x_2 ∧ x_2 < (↑(namedL x ((beginsL (spotsF x).fst).getD x_1.toNat (0 : Int)) (headAtL ((beginsL (spotsF x).fst).getD x_1.toNat (0 : Int)) (spotsF x).fst).fst).length : Int) ∧ x_2.toNat < (namedL x ((beginsL (spotsF x).fst).getD x_1.toNat (0 : Int)) (headAtL ((beginsL (spotsF x).fst).getD x_1.toNat (0 : Int)) (spotsF x).fst).fst).length ∧ (decide ((namedL x ((beginsL (spotsF x).fst).getD x_1.toNat (0 : Int)) (headAtL ((beginsL (spotsF x).fst).getD x_1.toNat (0 : Int)) (spotsF x).fst).fst).getD x_2.toNat (0 : Int) ≠ (-1 : Int)) = true → True) ∧ ((decide ((namedL x ((beginsL (spotsF x).fst).getD x_1.toNat (0 : Int)) (headAtL ((beginsL (spotsF x).fst).getD x_1.toNat (0 : Int)) (spotsF x).fst).fst).getD x_2.toNat (0 : Int) ≠ (-1 : Int)) && !inL (beginsL (spotsF x).fst) ((namedL x ((beginsL (spotsF x).fst).getD x_1.toNat (0 : Int)) (headAtL ((beginsL (spotsF x).fst).getD x_1.toNat (0 : Int)) (spotsF x).fst).fst).getD x_2.toNat (0 : Int))) = true → (5 : Int) = arenaF x ∧ True) ∧ ((decide ((namedL x ((beginsL (spotsF x).fst).getD x_1.toNat (0 : Int)) (headAtL ((beginsL (spotsF x).fst).getD x_1.toNat (0 : Int)) (spotsF x).fst).fst).getD x_2.toNat (0 : Int) ≠ (-1 : Int)) && !inL (beginsL (spotsF x).fst) ((namedL x ((beginsL (spotsF x).fst).getD x_1.toNat (0 : Int)) (headAtL ((beginsL (spotsF x).fst).getD x_1.toNat (0 : Int)) (spotsF x).fst).fst).getD x_2.toNat (0 : Int))) = false → InR IntKind.i64 (x_2 + (1 : Int)) ∧ ((0 : Int) ≤ x_2 + (1 : Int) ∧ x_2 + (1 : Int) ≤ (↑(namedL x ((beginsL (spotsF x).fst).getD x_1.toNat (0 : Int)) (headAtL ((beginsL (spotsF x).fst).getD x_1.toNat (0 : Int)) (spotsF x).fst).fst).length : Int) ∧ (namedL x ((beginsL (spotsF x).fst).getD x_1.toNat (0 : Int)) (headAtL ((beginsL (spotsF x).fst).getD x_1.toNat (0 : Int)) (spotsF x).fst).fst).length ≤ (256 : Nat) ∧ namesIn (beginsL (spotsF x).fst) (List.drop (x_2 + (1 : Int)).toNat (namedL x ((beginsL (spotsF x).fst).getD x_1.toNat (0 : Int)) (headAtL ((beginsL (spotsF x).fst).getD x_1.toNat (0 : Int)) (spotsF x).fst).fst)) = namesIn (beginsL (spotsF x).fst) (namedL x ((beginsL (spotsF x).fst).getD x_1.toNat (0 : Int)) (headAtL ((beginsL (spotsF x).fst).getD x_1.toNat (0 : Int)) (spotsF x).fst).fst)) ∧ ((↑(namedL x ((beginsL (spotsF x).fst).getD x_1.toNat (0 : Int)) (headAtL ((beginsL (spotsF x).fst).getD x_1.toNat (0 : Int)) (spotsF x).fst).fst).length : Int) - (x_2 + (1 : Int))).toNat < ((↑(namedL x ((beginsL (spotsF x).fst).getD x_1.toNat (0 : Int)) (headAtL ((beginsL (spotsF x).fst).getD x_1.toNat (0 : Int)) (spotsF x).fst).fst).length : Int) - x_2).toNat)) ∧ (decide (x_2 < (↑(namedL x ((beginsL (spotsF x).fst).getD x_1.toNat (0 : Int)) (headAtL ((beginsL (spotsF x).fst).getD x_1.toNat (0 : Int)) (spotsF x).fst).fst).length : Int)) = false → InR IntKind.i64 (x_1 + (1 : Int)) ∧ ((0 : Int) ≤ x_1 + (1 : Int) ∧ x_1 + (1 : Int) ≤ (↑(beginsL (spotsF x).fst).length : Int) ∧ (beginsL (spotsF x).fst).length ≤ (256 : Nat) ∧ x.length ≤ (256 : Nat) ∧ arenaOK x (spotsF x).fst (beginsL (spotsF x).fst) (List.drop (x_1 + (1 : Int)).toNat (beginsL (spotsF x).fst)) = arenaOK x (spotsF x).fst (beginsL (spotsF x).fst) (beginsL (spotsF x).fst)) ∧ ((↑(beginsL (spotsF x).fst).length : Int) - (x_1 + (1 : Int))).toNat < ((↑(beginsL (spotsF x).fst).length : Int) - x_1).toNat)) ∧ (decide (x_1 < (↑(beginsL (spotsF x).fst).length : Int)) = false → (0 : Int) = arenaF x ∧ True))
theorem vcp_rArenaFault : pv_rArenaFault := by
 unfold pv_rArenaFault
 intro a _ _
 have hlen := spotsF_length a
 have hbl := beginsL_length (spotsF a).1
 have hF : arenaF a = if (spotsF a).2 ≠ 0 then (spotsF a).2 else if arenaOK a (spotsF a).1 (beginsL (spotsF a).1) (beginsL (spotsF a).1) = true then 0 else 5 := rfl
 generalize beginsL (spotsF a).1 = all at *
 refine ⟨trivial, fun hc => ?_, fun hc => ?_⟩
 ·have hc : (spotsF a).2 ≠ 0 := by simpa using hc
  rw [hF, if_pos hc]
  exact ⟨rfl, trivial⟩
 have hc : (spotsF a).2 = 0 := by simpa using hc
 rw [if_neg (by omega)] at hF
 have hal := (spotsF_in hc).1
 have hnl : ∀ at_ h, (namedL a at_ h).length ≤ 256 := fun at_ h => by simp only [namedL, List.length_map, List.length_drop, List.length_take]; omega
 generalize hl : (spotsF a).1 = l at *
 refine ⟨trivial, ⟨by omega, by omega, by omega, hal, rfl⟩, fun i ⟨h0, h1, _, _, h2⟩ => ⟨fun hlt => ?_, fun hge => ?_⟩⟩
 ·have hlt : i < (all.length : Int) := by simpa using hlt
  rw [drop_cons (0 : Int) h0 hlt] at h2
  simp only [arenaOK] at h2
  have hnl := hnl (all.getD i.toNat 0) (headAtL (all.getD i.toNat 0) l).1
  generalize namedL a (all.getD i.toNat 0) (headAtL (all.getD i.toNat 0) l).1 = rs at *
  refine ⟨h0, hlt, by omega, trivial, ⟨by omega, by omega, hnl, rfl⟩, fun j ⟨g0, g1, _, g2⟩ => ⟨fun hlt => ?_, fun hge => ?_⟩⟩
  ·have hlt : j < (rs.length : Int) := by simpa using hlt
   rw [drop_cons (0 : Int) g0 hlt] at g2
   simp only [namesIn, List.all_cons] at g2
   generalize rs.getD j.toNat 0 = v at *
   have hv : (decide (v ≠ -1) && !inL all v) = !(decide (v = -1) || inL all v) := by simp
   rw [hv]
   simp only [InR]
   refine ⟨g0, hlt, by omega, fun _ => trivial, fun hv => ?_, fun hv => ?_⟩
   ·have hv : (decide (v = -1) || inL all v) = false := by simpa using hv
    rw [hv, Bool.false_and] at g2
    have g2 : namesIn all rs = false := g2.symm
    rw [g2, Bool.false_and] at h2
    rw [hF, if_neg (by rw [← h2]; simp)]
    exact ⟨rfl, trivial⟩
   ·have hv : (decide (v = -1) || inL all v) = true := by
     cases h : (decide (v = -1) || inL all v)
     ·rw [h] at hv; cases hv
     ·rfl
    rw [hv, Bool.true_and] at g2
    exact ⟨by omega, ⟨by omega, by omega, hnl, g2⟩, by omega⟩
  ·rw [drop_end (by simpa using hge)] at g2
   have g2 : namesIn all rs = true := g2.symm
   rw [g2, Bool.true_and] at h2
   simp only [InR]
   exact ⟨by omega, ⟨by omega, by omega, by omega, hal, h2⟩, by omega⟩
 ·rw [drop_end (by simpa using hge)] at h2
  have h2 : arenaOK a l all all = true := h2.symm
  rw [hF, if_pos h2]
  exact ⟨rfl, trivial⟩
theorem e_rArenaFault : pv_rArenaFault = (fnVC Tryz.prog (tbl [(47, sp_rSpots), (43, sp_rBegins), (45, sp_rNamed), (44, sp_rIn)]) an_rArenaFault Tryz.f36 sp_rArenaFault) := by kernel_rfl
theorem vc_rArenaFault : fnVC Tryz.prog (tbl [(47, sp_rSpots), (43, sp_rBegins), (45, sp_rNamed), (44, sp_rIn)]) an_rArenaFault Tryz.f36 sp_rArenaFault := @Eq.mp _ _ @e_rArenaFault @vcp_rArenaFault
theorem ok_rArenaFault : sp_rArenaFault.ok Tryz.prog 36 := fn_sound (P := Tryz.prog) (ss := tbl [(47, sp_rSpots), (43, sp_rBegins), (45, sp_rNamed), (44, sp_rIn)]) (ann := an_rArenaFault) (f := 36) (fn := Tryz.f36) (s := sp_rArenaFault) (tbl_cons ok_rSpots (tbl_cons ok_rBegins (tbl_cons ok_rNamed (tbl_cons ok_rIn tbl_nil)))) Tryz.func36 @vc_rArenaFault
theorem spotsF_in2 (a : List Int) : ∀ s ∈ (spotsF a).1, a.length ≤ 256 ∧ spotIn a s ∧ headFault s.2 = 0 := by
 intro s hs
 have hz : (spotsF a).2 = 0 := by
  unfold spotsF at hs ⊢
  split at hs
  ·simp at hs
  ·rename_i cl
   rw [if_neg cl]
   cases h : spotsS 0 a with
   | none => rw [h] at hs; simp at hs
   | some l => rfl
 have h := spotsF_in hz
 exact ⟨h.1, (h.2 s hs).1, (h.2 s hs).2⟩
end Go.Proofs.YtglchojglcobjaaGreat
