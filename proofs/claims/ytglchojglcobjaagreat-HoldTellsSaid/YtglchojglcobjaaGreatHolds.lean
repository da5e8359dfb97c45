
import Derived.Test.YtglchojglcobjaaGreatRStores
import Derived.Test.YtglchojglcobjaaGreatCarries
namespace Go.Proofs.YtglchojglcobjaaGreat
open Go
set_option maxRecDepth 100000
set_option maxHeartbeats 1000000
def gapsH (s : StoreD) : List Gap := gapsL false [] (spotsF (slidA s)).1
theorem Right.live {s : StoreD} (R : Right s) : endA s.1 (reachL s.1 (risingL (namesS s) 256)) + freeS s = s.1.length ∧ 0 ≤ freeS s ∧ 0 ≤ endA s.1 (reachL s.1 (risingL (namesS s) 256)) := by
 have h := R.free
 have e : endA s.1 (keepS s) = ((keepS s).map (lgOf (spotsF s.1).1)).sum := endA_sum s.1 (keepS s)
 have h2 := endA_range s.1 (keepS s)
 have h3 := R.gaps.2.1
 have h4 : 0 ≤ freeS s := by
  unfold freeS
  generalize gapsL false [] (spotsF (slidA s)).1 = g at *
  have : ∀ l : List Gap, (∀ r ∈ l, 0 ≤ r.1 ∧ 1 ≤ r.2 ∧ r.2 ≤ 256) → 0 ≤ sumG l := fun l => by
   induction l with
   | nil => intro _; simp [sumG]
   | cons r l ih =>
    intro hl
    have := ih fun x hx => hl x (by simp [hx])
    have := hl r (by simp)
    simp only [sumG, List.map_cons, List.sum_cons] at *
    omega
  exact this g h3
 rw [R.reached]
 omega
def freeF (s : StoreD) : Int × List Gap × Int := if storeF s ≠ 0 then (0, [], storeF s) else (freeS s, gapsH s, 0)
def sp_holdFree : Spec := { Ts := [ty_Store], Rs := [.dat ty_I, .own 42 ty_Gap, .dat ty_I], pre := fun _ => True, F := freeF }
def pv_holdFree : Prop :=
  ∀ (x : List Int × List Int × List (Int × Int) × List (Int × Bool × Int)), ((x.fst.length * (8 : Nat) ≤ big ∧ ∀ (x_1 : Int), x_1 ∈ x.fst → InR IntKind.u64 x_1) ∧ (x.snd.fst.length * (8 : Nat) ≤ big ∧ ∀ (x_1 : Int), x_1 ∈ x.snd.fst → InR IntKind.i64 x_1) ∧ (x.snd.snd.fst.length * ((8 : Nat) + (8 : Nat)) ≤ big ∧ ∀ (x_1 : Int × Int), x_1 ∈ x.snd.snd.fst → InR IntKind.i64 x_1.fst ∧ InR IntKind.i64 x_1.snd) ∧ x.snd.snd.snd.length * ((8 : Nat) + ((8 : Nat) + (8 : Nat))) ≤ big ∧ ∀ (x_1 : Int × Bool × Int), x_1 ∈ x.snd.snd.snd → InR IntKind.i64 x_1.fst ∧ True ∧ InR IntKind.i64 x_1.snd.snd) → True → True ∧ (decide ((collectF x).snd.snd ≠ (0 : Int)) = true → (0 : Int) = (freeF x).fst ∧ ([] : List (Int × Int)) = (freeF x).snd.fst ∧ (collectF x).snd.snd = (freeF x).snd.snd ∧ True) ∧ (decide ((collectF x).snd.snd ≠ (0 : Int)) = false → True ∧ (collectF x).snd.fst = (freeF x).fst ∧ (gapsGF (collectF x).fst.fst).fst = (freeF x).snd.fst ∧ (0 : Int) = (freeF x).snd.snd ∧ True)
theorem vcp_holdFree : pv_holdFree := by
 unfold pv_holdFree
 intro s ⟨⟨_, hw⟩, _⟩ _
 have hC : collectF s = if storeF s ≠ 0 then (nilStore, 0, storeF s) else ((collectT s).1, (collectT s).2, 0) := rfl
 have hF : freeF s = if storeF s ≠ 0 then (0, [], storeF s) else (freeS s, gapsH s, 0) := rfl
 by_cases h0 : storeF s ≠ 0
 ·rw [if_pos h0] at hC hF
  rw [hC, hF]
  exact ⟨trivial, fun _ => ⟨by trivial, by trivial, by trivial, trivial⟩, fun h => absurd h0 (of_decide_eq_false h)⟩
 ·rw [if_neg h0] at hC hF
  have R := right_of hw (by omega : storeF s = 0)
  have e : gapsGF (collectT s).1.1 = (gapsH s, 0) := R.gaps.1
  rw [hC, hF]
  simp only
  rw [e]
  exact ⟨trivial, fun h => absurd rfl (of_decide_eq_true h), fun _ => ⟨trivial, by trivial, by trivial, by trivial, trivial⟩⟩
theorem e_holdFree : pv_holdFree = (fnVC Tryz.prog (tbl [(17, sp_stCollectC), (84, sp_gapsGaps)]) an_0 Tryz.f34 sp_holdFree) := by kernel_rfl
theorem vc_holdFree : fnVC Tryz.prog (tbl [(17, sp_stCollectC), (84, sp_gapsGaps)]) an_0 Tryz.f34 sp_holdFree := @Eq.mp _ _ @e_holdFree @vcp_holdFree
theorem ok_holdFree : sp_holdFree.ok Tryz.prog 34 := fn_sound (P := Tryz.prog) (ss := tbl [(17, sp_stCollectC), (84, sp_gapsGaps)]) (ann := an_0) (f := 34) (fn := Tryz.f34) (s := sp_holdFree) (tbl_cons ok_stCollectC (tbl_cons ok_gapsGaps tbl_nil)) Tryz.func34 @vc_holdFree
def liveH (s : StoreD) : Int × Int := if storeF s ≠ 0 then (0, storeF s) else (s.1.length - freeS s, 0)
def sp_holdLive : Spec := { Ts := [ty_Store], Rs := [.dat ty_I, .dat ty_I], pre := fun _ => True, F := liveH }
def pv_holdLive : Prop :=
  ∀ (x : List Int × List Int × List (Int × Int) × List (Int × Bool × Int)), ((x.fst.length * (8 : Nat) ≤ big ∧ ∀ (x_1 : Int), x_1 ∈ x.fst → InR IntKind.u64 x_1) ∧ (x.snd.fst.length * (8 : Nat) ≤ big ∧ ∀ (x_1 : Int), x_1 ∈ x.snd.fst → InR IntKind.i64 x_1) ∧ (x.snd.snd.fst.length * ((8 : Nat) + (8 : Nat)) ≤ big ∧ ∀ (x_1 : Int × Int), x_1 ∈ x.snd.snd.fst → InR IntKind.i64 x_1.fst ∧ InR IntKind.i64 x_1.snd) ∧ x.snd.snd.snd.length * ((8 : Nat) + ((8 : Nat) + (8 : Nat))) ≤ big ∧ ∀ (x_1 : Int × Bool × Int), x_1 ∈ x.snd.snd.snd → InR IntKind.i64 x_1.fst ∧ True ∧ InR IntKind.i64 x_1.snd.snd) → True → True ∧ (decide ((freeF x).snd.snd ≠ (0 : Int)) = true → (0 : Int) = (liveH x).fst ∧ (freeF x).snd.snd = (liveH x).snd ∧ True) ∧ (decide ((freeF x).snd.snd ≠ (0 : Int)) = false → InR IntKind.i64 ((↑x.fst.length : Int) - (freeF x).fst) ∧ (↑x.fst.length : Int) - (freeF x).fst = (liveH x).fst ∧ (0 : Int) = (liveH x).snd ∧ True)
theorem vcp_holdLive : pv_holdLive := by
 unfold pv_holdLive
 intro s ⟨⟨_, hw⟩, _⟩ _
 have hL : liveH s = if storeF s ≠ 0 then (0, storeF s) else (s.1.length - freeS s, 0) := rfl
 have hF : freeF s = if storeF s ≠ 0 then (0, [], storeF s) else (freeS s, gapsH s, 0) := rfl
 by_cases h0 : storeF s ≠ 0
 ·rw [if_pos h0] at hL hF
  rw [hL, hF]
  exact ⟨trivial, fun _ => ⟨by trivial, by trivial, trivial⟩, fun h => absurd h0 (of_decide_eq_false h)⟩
 ·rw [if_neg h0] at hL hF
  have R := right_of hw (by omega : storeF s = 0)
  have hl := R.live
  have hal := R.al
  rw [hL, hF]
  simp only [InR]
  exact ⟨trivial, fun h => absurd rfl (of_decide_eq_true h), fun _ => ⟨by omega, by trivial, by trivial, trivial⟩⟩
theorem e_holdLive : pv_holdLive = (fnVC Tryz.prog (tbl [(34, sp_holdFree)]) an_0 Tryz.f6 sp_holdLive) := by kernel_rfl
theorem vc_holdLive : fnVC Tryz.prog (tbl [(34, sp_holdFree)]) an_0 Tryz.f6 sp_holdLive := @Eq.mp _ _ @e_holdLive @vcp_holdLive
theorem ok_holdLive : sp_holdLive.ok Tryz.prog 6 := fn_sound (P := Tryz.prog) (ss := tbl [(34, sp_holdFree)]) (ann := an_0) (f := 6) (fn := Tryz.f6) (s := sp_holdLive) (tbl_cons ok_holdFree tbl_nil) Tryz.func6 @vc_holdLive
def askedF (s : StoreD) (n : Int) : Int × Int := if storeF s ≠ 0 then (0, storeF s) else (freeS s, if n < 1 ∨ 256 < n then 1 else 0)
def sp_holdAsked : Spec := { Ts := [ty_Store, ty_I], Rs := [.dat ty_I, .dat ty_I], pre := fun _ => True, F := fun ((s, n) : StoreD × Int) => askedF s n }
def pv_holdAsked : Prop :=
  ∀ (x : (List Int × List Int × List (Int × Int) × List (Int × Bool × Int)) × Int), ((x.fst.fst.length * (8 : Nat) ≤ big ∧ ∀ (x_1 : Int), x_1 ∈ x.fst.fst → InR IntKind.u64 x_1) ∧ (x.fst.snd.fst.length * (8 : Nat) ≤ big ∧ ∀ (x_1 : Int), x_1 ∈ x.fst.snd.fst → InR IntKind.i64 x_1) ∧ (x.fst.snd.snd.fst.length * ((8 : Nat) + (8 : Nat)) ≤ big ∧ ∀ (x_1 : Int × Int), x_1 ∈ x.fst.snd.snd.fst → InR IntKind.i64 x_1.fst ∧ InR IntKind.i64 x_1.snd) ∧ x.fst.snd.snd.snd.length * ((8 : Nat) + ((8 : Nat) + (8 : Nat))) ≤ big ∧ ∀ (x_1 : Int × Bool × Int), x_1 ∈ x.fst.snd.snd.snd → InR IntKind.i64 x_1.fst ∧ True ∧ InR IntKind.i64 x_1.snd.snd) ∧ InR IntKind.i64 x.snd → True → True ∧ ((decide ((freeF x.fst).snd.snd = (0 : Int)) && (decide (x.snd < (1 : Int)) || decide ((256 : Int) < x.snd))) = true → (freeF x.fst).fst = (askedF x.fst x.snd).fst ∧ (1 : Int) = (askedF x.fst x.snd).snd ∧ True) ∧ ((decide ((freeF x.fst).snd.snd = (0 : Int)) && (decide (x.snd < (1 : Int)) || decide ((256 : Int) < x.snd))) = false → (freeF x.fst).fst = (askedF x.fst x.snd).fst ∧ (freeF x.fst).snd.snd = (askedF x.fst x.snd).snd ∧ True)
theorem vcp_holdAsked : pv_holdAsked := by
 unfold pv_holdAsked
 intro ⟨s, n⟩ hx _
 simp only at hx ⊢
 have hA : askedF s n = if storeF s ≠ 0 then (0, storeF s) else (freeS s, if n < 1 ∨ 256 < n then 1 else 0) := rfl
 have hF : freeF s = if storeF s ≠ 0 then (0, [], storeF s) else (freeS s, gapsH s, 0) := rfl
 by_cases h0 : storeF s ≠ 0
 ·rw [if_pos h0] at hA hF
  rw [hA, hF]
  simp only [decide_eq_false h0, Bool.false_and]
  exact ⟨trivial, fun h => (by cases h), fun _ => ⟨by trivial, by trivial, trivial⟩⟩
 ·rw [if_neg h0] at hA hF
  rw [hA, hF]
  refine ⟨trivial, fun h => ?_, fun h => ?_⟩
  ·rw [if_pos (by simpa using h)]
   exact ⟨by trivial, by trivial, trivial⟩
  ·rw [if_neg (by simpa using h)]
   exact ⟨by trivial, by trivial, trivial⟩
theorem e_holdAsked : pv_holdAsked = (fnVC Tryz.prog (tbl [(34, sp_holdFree)]) an_0 Tryz.f35 sp_holdAsked) := by kernel_rfl
theorem vc_holdAsked : fnVC Tryz.prog (tbl [(34, sp_holdFree)]) an_0 Tryz.f35 sp_holdAsked := @Eq.mp _ _ @e_holdAsked @vcp_holdAsked
theorem ok_holdAsked : sp_holdAsked.ok Tryz.prog 35 := fn_sound (P := Tryz.prog) (ss := tbl [(34, sp_holdFree)]) (ann := an_0) (f := 35) (fn := Tryz.f35) (s := sp_holdAsked) (tbl_cons ok_holdFree tbl_nil) Tryz.func35 @vc_holdAsked
theorem asked_ok {s : StoreD} {n : Int} (h : (askedF s n).2 = 0) : storeF s = 0 ∧ 1 ≤ n ∧ n ≤ 256 ∧ (askedF s n).1 = freeS s := by
 unfold askedF at h ⊢
 split at h
 ·rename_i h0; exact absurd h h0
 ·rename_i h0
  rw [if_neg h0]
  simp only at h
  split at h
  ·omega
  ·exact ⟨by omega, by omega, by omega, rfl⟩
def sureF (s : StoreD) (n : Int) : Bool × Int := (decide ((askedF s n).2 = 0) && decide (((s.2.2.1.length : Int) + 1) * n ≤ (askedF s n).1), (askedF s n).2)
def sp_holdSure : Spec := { Ts := [ty_Store, ty_I], Rs := [.dat .bool, .dat ty_I], pre := fun _ => True, F := fun ((s, n) : StoreD × Int) => sureF s n }
def pv_holdSure : Prop :=
  ∀ (x : (List Int × List Int × List (Int × Int) × List (Int × Bool × Int)) × Int), ((x.fst.fst.length * (8 : Nat) ≤ big ∧ ∀ (x_1 : Int), x_1 ∈ x.fst.fst → InR IntKind.u64 x_1) ∧ (x.fst.snd.fst.length * (8 : Nat) ≤ big ∧ ∀ (x_1 : Int), x_1 ∈ x.fst.snd.fst → InR IntKind.i64 x_1) ∧ (x.fst.snd.snd.fst.length * ((8 : Nat) + (8 : Nat)) ≤ big ∧ ∀ (x_1 : Int × Int), x_1 ∈ x.fst.snd.snd.fst → InR IntKind.i64 x_1.fst ∧ InR IntKind.i64 x_1.snd) ∧ x.fst.snd.snd.snd.length * ((8 : Nat) + ((8 : Nat) + (8 : Nat))) ≤ big ∧ ∀ (x_1 : Int × Bool × Int), x_1 ∈ x.fst.snd.snd.snd → InR IntKind.i64 x_1.fst ∧ True ∧ InR IntKind.i64 x_1.snd.snd) ∧ InR IntKind.i64 x.snd → True → True ∧ (decide ((askedF x.fst x.snd).snd = (0 : Int)) = true → InR IntKind.i64 ((↑x.fst.snd.snd.fst.length : Int) + (1 : Int))) ∧ (decide ((askedF x.fst x.snd).snd = (0 : Int)) = true → InR IntKind.i64 (((↑x.fst.snd.snd.fst.length : Int) + (1 : Int)) * x.snd)) ∧ (decide ((askedF x.fst x.snd).snd = (0 : Int)) && decide (((↑x.fst.snd.snd.fst.length : Int) + (1 : Int)) * x.snd ≤ (askedF x.fst x.snd).fst)) = (sureF x.fst x.snd).fst ∧ (askedF x.fst x.snd).snd = (sureF x.fst x.snd).snd ∧ True
theorem vcp_holdSure : pv_holdSure := by
 unfold pv_holdSure
 intro ⟨s, n⟩ ⟨⟨⟨_, hw⟩, _⟩, _⟩ _
 simp only at hw ⊢
 refine ⟨trivial, fun h => ?_, fun h => ?_, by trivial, by trivial, trivial⟩
 all_goals
  have ha := asked_ok (of_decide_eq_true h)
  have hs := (right_of hw ha.1).small
  simp only [InR]
 ·omega
 ·have h1 : 0 ≤ ((s.2.2.1.length : Int) + 1) * n := Int.mul_nonneg (by omega) (by omega)
  have h2 : ((s.2.2.1.length : Int) + 1) * n ≤ 17 * 256 := Int.mul_le_mul (by omega) (by omega) (by omega) (by omega)
  omega
theorem e_holdSure : pv_holdSure = (fnVC Tryz.prog (tbl [(35, sp_holdAsked)]) an_0 Tryz.f7 sp_holdSure) := by kernel_rfl
theorem vc_holdSure : fnVC Tryz.prog (tbl [(35, sp_holdAsked)]) an_0 Tryz.f7 sp_holdSure := @Eq.mp _ _ @e_holdSure @vcp_holdSure
theorem ok_holdSure : sp_holdSure.ok Tryz.prog 7 := fn_sound (P := Tryz.prog) (ss := tbl [(35, sp_holdAsked)]) (ann := an_0) (f := 7) (fn := Tryz.f7) (s := sp_holdSure) (tbl_cons ok_holdAsked tbl_nil) Tryz.func7 @vc_holdSure
def neverF (s : StoreD) (n : Int) : Bool × Int := (decide ((askedF s n).2 = 0) && decide ((askedF s n).1 < n), (askedF s n).2)
def sp_holdNever : Spec := { Ts := [ty_Store, ty_I], Rs := [.dat .bool, .dat ty_I], pre := fun _ => True, F := fun ((s, n) : StoreD × Int) => neverF s n }
def pv_holdNever : Prop :=
  ∀ (x : (List Int × List Int × List (Int × Int) × List (Int × Bool × Int)) × Int), ((x.fst.fst.length * (8 : Nat) ≤ big ∧ ∀ (x_1 : Int), x_1 ∈ x.fst.fst → InR IntKind.u64 x_1) ∧ (x.fst.snd.fst.length * (8 : Nat) ≤ big ∧ ∀ (x_1 : Int), x_1 ∈ x.fst.snd.fst → InR IntKind.i64 x_1) ∧ (x.fst.snd.snd.fst.length * ((8 : Nat) + (8 : Nat)) ≤ big ∧ ∀ (x_1 : Int × Int), x_1 ∈ x.fst.snd.snd.fst → InR IntKind.i64 x_1.fst ∧ InR IntKind.i64 x_1.snd) ∧ x.fst.snd.snd.snd.length * ((8 : Nat) + ((8 : Nat) + (8 : Nat))) ≤ big ∧ ∀ (x_1 : Int × Bool × Int), x_1 ∈ x.fst.snd.snd.snd → InR IntKind.i64 x_1.fst ∧ True ∧ InR IntKind.i64 x_1.snd.snd) ∧ InR IntKind.i64 x.snd → True → True ∧ (decide ((askedF x.fst x.snd).snd = (0 : Int)) && decide ((askedF x.fst x.snd).fst < x.snd)) = (neverF x.fst x.snd).fst ∧ (askedF x.fst x.snd).snd = (neverF x.fst x.snd).snd ∧ True
theorem vcp_holdNever : pv_holdNever := by
 unfold pv_holdNever
 intro ⟨s, n⟩ hx _
 exact ⟨trivial, by trivial, by trivial, trivial⟩
theorem e_holdNever : pv_holdNever = (fnVC Tryz.prog (tbl [(35, sp_holdAsked)]) an_0 Tryz.f8 sp_holdNever) := by kernel_rfl
theorem vc_holdNever : fnVC Tryz.prog (tbl [(35, sp_holdAsked)]) an_0 Tryz.f8 sp_holdNever := @Eq.mp _ _ @e_holdNever @vcp_holdNever
theorem ok_holdNever : sp_holdNever.ok Tryz.prog 8 := fn_sound (P := Tryz.prog) (ss := tbl [(35, sp_holdAsked)]) (ann := an_0) (f := 8) (fn := Tryz.f8) (s := sp_holdNever) (tbl_cons ok_holdAsked tbl_nil) Tryz.func8 @vc_holdNever
def maxG (l : List Gap) : Int := l.foldl (fun m r => if m < r.2 then r.2 else m) 0
theorem maxG_take {l : List Gap} {i : Int} (h0 : 0 ≤ i) (h1 : i < l.length) : maxG (l.take (i + 1).toNat) = if maxG (l.take i.toNat) < (l.getD i.toNat (0, 0)).2 then (l.getD i.toNat (0, 0)).2 else maxG (l.take i.toNat) := by
 rw [take_snoc ((0, 0) : Gap) h0 h1]
 unfold maxG
 rw [List.foldl_append]
 rfl
def widestF (s : StoreD) : Int × Int := if storeF s ≠ 0 then (0, storeF s) else (maxG (gapsH s), 0)
def an_holdWidest : Nat → Option LoopGen
 | 4 => some { rd := [.own 16 42 ty_Gap], A := fun (g : List Gap) => { cs := [.dat 7 ty_I, .dat 18 ty_I], inv := fun ((m, i) : Int × Int) => 0 ≤ i ∧ i ≤ g.length ∧ m = maxG (g.take i.toNat), mu := fun ((_, i) : Int × Int) => (g.length - i).toNat } }
 | _ => none
def sp_holdWidest : Spec := { Ts := [ty_Store], Rs := [.dat ty_I, .dat ty_I], pre := fun _ => True, F := widestF }
def pv_holdWidest : Prop :=
  ∀ (x : List Int × List Int × List (Int × Int) × List (Int × Bool × Int)), ((x.fst.length * (8 : Nat) ≤ big ∧ ∀ (x_1 : Int), x_1 ∈ x.fst → InR IntKind.u64 x_1) ∧ (x.snd.fst.length * (8 : Nat) ≤ big ∧ ∀ (x_1 : Int), x_1 ∈ x.snd.fst → InR IntKind.i64 x_1) ∧ (x.snd.snd.fst.length * ((8 : Nat) + (8 : Nat)) ≤ big ∧ ∀ (x_1 : Int × Int), x_1 ∈ x.snd.snd.fst → InR IntKind.i64 x_1.fst ∧ InR IntKind.i64 x_1.snd) ∧ x.snd.snd.snd.length * ((8 : Nat) + ((8 : Nat) + (8 : Nat))) ≤ big ∧ ∀ (x_1 : Int × Bool × Int), x_1 ∈ x.snd.snd.snd → InR IntKind.i64 x_1.fst ∧ True ∧ InR IntKind.i64 x_1.snd.snd) → True → True ∧ ((0 : Int) ≤ (0 : Int) ∧ (0 : Int) ≤ (↑(freeF x).snd.fst.length : Int) ∧ (0 : Int) = maxG (List.take (Int.toNat (0 : Int)) (freeF x).snd.fst)) ∧ ∀ (x_1 : Int × Int), (0 : Int) ≤ x_1.snd ∧ x_1.snd ≤ (↑(freeF x).snd.fst.length : Int) ∧ x_1.fst = maxG (List.take x_1.snd.toNat (freeF x).snd.fst) → (decide (x_1.snd < (↑(freeF x).snd.fst.length : Int)) = true → (0 : Int) ≤ x_1.snd ∧ x_1.snd < (↑(freeF x).snd.fst.length : Int) ∧ x_1.snd.toNat < (freeF x).snd.fst.length ∧ InR IntKind.i64 (x_1.snd + (1 : Int)) ∧ ((0 : Int) ≤ x_1.snd + (1 : Int) ∧ x_1.snd + (1 : Int) ≤ (↑(freeF x).snd.fst.length : Int) ∧ (if x_1.fst < ((freeF x).snd.fst.getD x_1.snd.toNat ((0 : Int), (0 : Int))).snd then ((freeF x).snd.fst.getD x_1.snd.toNat ((0 : Int), (0 : Int))).snd else x_1.fst) = maxG (List.take (x_1.snd + (1 : Int)).toNat (freeF x).snd.fst)) ∧ ((↑(freeF x).snd.fst.length : Int) - (x_1.snd + (1 : Int))).toNat < ((↑(freeF x).snd.fst.length : Int) - x_1.snd).toNat) ∧ (decide (x_1.snd < (↑(freeF x).snd.fst.length : Int)) = false → x_1.fst = (widestF x).fst ∧ (freeF x).snd.snd = (widestF x).snd ∧ True)
theorem vcp_holdWidest : pv_holdWidest := by
 unfold pv_holdWidest
 intro s ⟨⟨_, hw⟩, _⟩ _
 have hW : widestF s = if storeF s ≠ 0 then (0, storeF s) else (maxG (gapsH s), 0) := rfl
 have hF : freeF s = if storeF s ≠ 0 then (0, [], storeF s) else (freeS s, gapsH s, 0) := rfl
 have hl : (freeF s).2.1.length ≤ 256 ∧ maxG (freeF s).2.1 = (widestF s).1 ∧ (freeF s).2.2 = (widestF s).2 := by
  by_cases h0 : storeF s ≠ 0
  ·rw [if_pos h0] at hW hF
   rw [hW, hF]
   exact ⟨by simp, rfl, rfl⟩
  ·rw [if_neg h0] at hW hF
   rw [hW, hF]
   exact ⟨(right_of hw (by omega : storeF s = 0)).gaps.2.2, rfl, rfl⟩
 obtain ⟨l1, l2, l3⟩ := hl
 rw [← l2, ← l3]
 generalize (freeF s).2.1 = g at *
 refine ⟨trivial, ⟨by omega, by omega, by trivial⟩, fun ⟨m, i⟩ ⟨i0, i1, i2⟩ => ⟨fun hlt => ?_, fun hge => ?_⟩⟩
 ·simp only at i0 i1 i2 hlt ⊢
  have hlt := of_decide_eq_true hlt
  rw [maxG_take i0 hlt, ← i2]
  simp only [InR]
  exact ⟨i0, hlt, by omega, by omega, ⟨by omega, by omega, by trivial⟩, by omega⟩
 ·simp only at i0 i1 i2 hge ⊢
  rw [take_end (of_decide_eq_false hge)] at i2
  exact ⟨i2, by trivial, trivial⟩
theorem e_holdWidest : pv_holdWidest = (fnVC Tryz.prog (tbl [(34, sp_holdFree)]) an_holdWidest Tryz.f9 sp_holdWidest) := by kernel_rfl
theorem vc_holdWidest : fnVC Tryz.prog (tbl [(34, sp_holdFree)]) an_holdWidest Tryz.f9 sp_holdWidest := @Eq.mp _ _ @e_holdWidest @vcp_holdWidest
theorem ok_holdWidest : sp_holdWidest.ok Tryz.prog 9 := fn_sound (P := Tryz.prog) (ss := tbl [(34, sp_holdFree)]) (ann := an_holdWidest) (f := 9) (fn := Tryz.f9) (s := sp_holdWidest) (tbl_cons ok_holdFree tbl_nil) Tryz.func9 @vc_holdWidest
def an_lawHoldTells : Nat → Option LoopGen
 | 11 => some { rd := [.own 89 42 ty_Gap], A := fun (g : List Gap) => { cs := [.dat 15 ty_I, .dat 91 ty_I], inv := fun ((m, i) : Int × Int) => 0 ≤ i ∧ i ≤ g.length ∧ m = maxG (g.take i.toNat), mu := fun ((_, i) : Int × Int) => (g.length - i).toNat } }
 | _ => none
def sp_lawHoldTells : Spec := sp_law [ty_Store, ty_I]
def pv_lawHoldTells : Prop :=
  ∀ (x : (List Int × List Int × List (Int × Int) × List (Int × Bool × Int)) × Int), ((x.fst.fst.length * (8 : Nat) ≤ big ∧ ∀ (x_1 : Int), x_1 ∈ x.fst.fst → InR IntKind.u64 x_1) ∧ (x.fst.snd.fst.length * (8 : Nat) ≤ big ∧ ∀ (x_1 : Int), x_1 ∈ x.fst.snd.fst → InR IntKind.i64 x_1) ∧ (x.fst.snd.snd.fst.length * ((8 : Nat) + (8 : Nat)) ≤ big ∧ ∀ (x_1 : Int × Int), x_1 ∈ x.fst.snd.snd.fst → InR IntKind.i64 x_1.fst ∧ InR IntKind.i64 x_1.snd) ∧ x.fst.snd.snd.snd.length * ((8 : Nat) + ((8 : Nat) + (8 : Nat))) ≤ big ∧ ∀ (x_1 : Int × Bool × Int), x_1 ∈ x.fst.snd.snd.snd → InR IntKind.i64 x_1.fst ∧ True ∧ InR IntKind.i64 x_1.snd.snd) ∧ InR IntKind.i64 x.snd → ((x.fst.fst.length * (8 : Nat) ≤ (140737488351232 : Nat) ∧ ∀ (x_1 : Int), x_1 ∈ x.fst.fst → sp_room ty_W x_1) ∧ (x.fst.snd.fst.length * (8 : Nat) ≤ (140737488351232 : Nat) ∧ ∀ (x_1 : Int), x_1 ∈ x.fst.snd.fst → sp_room ty_I x_1) ∧ (x.fst.snd.snd.fst.length * ((8 : Nat) + (8 : Nat)) ≤ (140737488351232 : Nat) ∧ ∀ (x_1 : Int × Int), x_1 ∈ x.fst.snd.snd.fst → sp_room ty_Pin x_1) ∧ x.fst.snd.snd.snd.length * ((8 : Nat) + ((8 : Nat) + (8 : Nat))) ≤ (140737488351232 : Nat) ∧ ∀ (x_1 : Int × Bool × Int), x_1 ∈ x.fst.snd.snd.snd → sp_room ty_Slot x_1) ∧ True → True ∧ True ∧ True ∧ True ∧ True ∧ (decide (storeF x.fst ≠ (0 : Int)) = true → (decide ((liveH x.fst).fst = (0 : Int)) && decide ((liveH x.fst).snd = storeF x.fst) && !(sureF x.fst x.snd).fst && decide ((sureF x.fst x.snd).snd = storeF x.fst) && !(neverF x.fst x.snd).fst && decide ((neverF x.fst x.snd).snd = storeF x.fst) && decide ((widestF x.fst).fst = (0 : Int)) && decide ((widestF x.fst).snd = storeF x.fst)) = true ∧ True) ∧ (decide (storeF x.fst ≠ (0 : Int)) = false → (x.fst.snd.fst.length ≤ (32 : Nat) ∧ x.fst.snd.snd.fst.length ≤ (16 : Nat) ∧ x.fst.snd.snd.snd.length ≤ (16 : Nat)) ∧ (fromFault x.fst.fst (risingL (namesS x.fst) (256 : Nat)) = (0 : Int) ∧ ((risingL (namesS x.fst) (256 : Nat)).length + (256 : Nat)) * (8 : Nat) ≤ (140737488355328 : Nat)) ∧ True ∧ storeF x.fst = (0 : Int) ∧ (sweptS x.fst).fst.length ≤ (256 : Nat) ∧ ((0 : Int) ≤ (0 : Int) ∧ (0 : Int) ≤ (↑(gapsOfL (sweptS x.fst).fst).length : Int) ∧ (0 : Int) = maxG (List.take (Int.toNat (0 : Int)) (gapsOfL (sweptS x.fst).fst))) ∧ ∀ (x_1 : Int × Int), (0 : Int) ≤ x_1.snd ∧ x_1.snd ≤ (↑(gapsOfL (sweptS x.fst).fst).length : Int) ∧ x_1.fst = maxG (List.take x_1.snd.toNat (gapsOfL (sweptS x.fst).fst)) → (decide (x_1.snd < (↑(gapsOfL (sweptS x.fst).fst).length : Int)) = true → (0 : Int) ≤ x_1.snd ∧ x_1.snd < (↑(gapsOfL (sweptS x.fst).fst).length : Int) ∧ x_1.snd.toNat < (gapsOfL (sweptS x.fst).fst).length ∧ InR IntKind.i64 (x_1.snd + (1 : Int)) ∧ ((0 : Int) ≤ x_1.snd + (1 : Int) ∧ x_1.snd + (1 : Int) ≤ (↑(gapsOfL (sweptS x.fst).fst).length : Int) ∧ (if x_1.fst < ((gapsOfL (sweptS x.fst).fst).getD x_1.snd.toNat ((0 : Int), (0 : Int))).snd then ((gapsOfL (sweptS x.fst).fst).getD x_1.snd.toNat ((0 : Int), (0 : Int))).snd else x_1.fst) = maxG (List.take (x_1.snd + (1 : Int)).toNat (gapsOfL (sweptS x.fst).fst))) ∧ ((↑(gapsOfL (sweptS x.fst).fst).length : Int) - (x_1.snd + (1 : Int))).toNat < ((↑(gapsOfL (sweptS x.fst).fst).length : Int) - x_1.snd).toNat) ∧ (decide (x_1.snd < (↑(gapsOfL (sweptS x.fst).fst).length : Int)) = false → ((decide ((liveH x.fst).fst ≠ endA x.fst.fst (reachL x.fst.fst (risingL (namesS x.fst) (256 : Nat)))) || decide ((liveH x.fst).snd ≠ (0 : Int)) || decide ((widestF x.fst).fst ≠ x_1.fst) || decide ((widestF x.fst).snd ≠ (0 : Int))) = true → false = true ∧ True) ∧ ((decide ((liveH x.fst).fst ≠ endA x.fst.fst (reachL x.fst.fst (risingL (namesS x.fst) (256 : Nat)))) || decide ((liveH x.fst).snd ≠ (0 : Int)) || decide ((widestF x.fst).fst ≠ x_1.fst) || decide ((widestF x.fst).snd ≠ (0 : Int))) = false → ((decide (x.snd < (1 : Int)) || decide ((256 : Int) < x.snd)) = true → (!(sureF x.fst x.snd).fst && decide ((sureF x.fst x.snd).snd = (1 : Int)) && !(neverF x.fst x.snd).fst && decide ((neverF x.fst x.snd).snd = (1 : Int))) = true ∧ True) ∧ ((decide (x.snd < (1 : Int)) || decide ((256 : Int) < x.snd)) = false → ((decide ((sureF x.fst x.snd).snd = (0 : Int)) && decide ((neverF x.fst x.snd).snd = (0 : Int))) = true → InR IntKind.i64 (x.snd * (↑x.fst.snd.snd.fst.length : Int))) ∧ ((decide ((sureF x.fst x.snd).snd = (0 : Int)) && decide ((neverF x.fst x.snd).snd = (0 : Int))) = true → InR IntKind.i64 (x.snd * (↑x.fst.snd.snd.fst.length : Int) + x.snd)) ∧ ((decide ((sureF x.fst x.snd).snd = (0 : Int)) && decide ((neverF x.fst x.snd).snd = (0 : Int))) = true → InR IntKind.i64 ((↑x.fst.fst.length : Int) - endA x.fst.fst (reachL x.fst.fst (risingL (namesS x.fst) (256 : Nat))))) ∧ ((decide ((sureF x.fst x.snd).snd = (0 : Int)) && decide ((neverF x.fst x.snd).snd = (0 : Int)) && (sureF x.fst x.snd).fst == decide (x.snd * (↑x.fst.snd.snd.fst.length : Int) + x.snd ≤ (↑x.fst.fst.length : Int) - endA x.fst.fst (reachL x.fst.fst (risingL (namesS x.fst) (256 : Nat))))) = true → InR IntKind.i64 (endA x.fst.fst (reachL x.fst.fst (risingL (namesS x.fst) (256 : Nat))) + x.snd)) ∧ (decide ((sureF x.fst x.snd).snd = (0 : Int)) && decide ((neverF x.fst x.snd).snd = (0 : Int)) && (sureF x.fst x.snd).fst == decide (x.snd * (↑x.fst.snd.snd.fst.length : Int) + x.snd ≤ (↑x.fst.fst.length : Int) - endA x.fst.fst (reachL x.fst.fst (risingL (namesS x.fst) (256 : Nat)))) && (neverF x.fst x.snd).fst == decide ((↑x.fst.fst.length : Int) < endA x.fst.fst (reachL x.fst.fst (risingL (namesS x.fst) (256 : Nat))) + x.snd)) = true ∧ True))))
theorem vcp_lawHoldTells : pv_lawHoldTells := by
 unfold pv_lawHoldTells
 intro ⟨s, n⟩ ⟨⟨⟨_, hw⟩, _⟩, _⟩ _
 simp only at hw ⊢
 have hL : liveH s = if storeF s ≠ 0 then (0, storeF s) else (s.1.length - freeS s, 0) := rfl
 have hA : askedF s n = if storeF s ≠ 0 then (0, storeF s) else (freeS s, if n < 1 ∨ 256 < n then 1 else 0) := rfl
 have hW : widestF s = if storeF s ≠ 0 then (0, storeF s) else (maxG (gapsH s), 0) := rfl
 have hS : sureF s n = (decide ((askedF s n).2 = 0) && decide (((s.2.2.1.length : Int) + 1) * n ≤ (askedF s n).1), (askedF s n).2) := rfl
 have hN : neverF s n = (decide ((askedF s n).2 = 0) && decide ((askedF s n).1 < n), (askedF s n).2) := rfl
 refine ⟨trivial, trivial, trivial, trivial, trivial, fun h0 => ?_, fun h0 => ?_⟩
 ·have h0 := of_decide_eq_true h0
  rw [if_pos h0] at hL hA hW
  rw [hS, hN, hL, hW, hA]
  simp [h0]
 ·have h0 := of_decide_eq_false h0
  have hz : storeF s = 0 := by omega
  have R := right_of hw hz
  rw [if_neg h0] at hL hA hW
  have hsm := R.small
  have hal := R.al
  have hrl : (risingL (namesS s) 256).length ≤ 256 := cnt_le (namesS s)
  obtain ⟨k1, k2, k3⟩ := R.slidOK
  have hgs : gapsOfL (sweptS s).1 = gapsH s := gaps_same (checkF_in k1).2.2.2.1
  have hgl : (gapsH s).length ≤ 256 := R.gaps.2.2
  obtain ⟨v1, v2, v3⟩ := R.live
  have hsl : (sweptS s).1.length = s.1.length := k2
  rw [hgs, hS, hN, hL, hW, hA]
  simp only
  have hfo := R.fromOK
  have hw1 : ∃ w, endA s.1 (reachL s.1 (risingL (namesS s) 256)) = w := ⟨_, rfl⟩
  have hf1 : ∃ f, freeS s = f := ⟨_, rfl⟩
  have hg1 : ∃ g, gapsH s = g := ⟨_, rfl⟩
  refine hw1.elim fun w ew => hf1.elim fun f ef => hg1.elim fun g eg => ?_
  simp only [ew, ef] at v1 v2 v3
  simp only [eg] at hgl
  simp only [ew, ef, eg]
  clear ew ef eg hgs hL hA hW hS hN
  refine ⟨hsm, ⟨hfo, by omega⟩, trivial, hz, by omega, ⟨by omega, by omega, by trivial⟩, fun ⟨m, i⟩ ⟨i0, i1, i2⟩ => ⟨fun hlt => ?_, fun hge => ?_⟩⟩
  ·simp only at i0 i1 i2 hlt ⊢
   have hlt := of_decide_eq_true hlt
   rw [maxG_take i0 hlt, ← i2]
   simp only [InR]
   exact ⟨i0, hlt, by omega, by omega, ⟨by omega, by omega, by trivial⟩, by omega⟩
  ·simp only at i0 i1 i2 hge ⊢
   rw [take_end (of_decide_eq_false hge)] at i2
   refine ⟨fun h => ?_, fun _ => ⟨fun h => ?_, fun h => ?_⟩⟩
   ·exfalso
    simp only [Bool.or_eq_true, decide_eq_true_eq] at h
    rcases h with ((h | h) | h) | h
    ·omega
    ·exact h rfl
    ·exact h i2.symm
    ·exact h rfl
   ·have h : n < 1 ∨ 256 < n := by simpa using h
    rw [if_pos h]
    simp
   ·have h : ¬ (n < 1 ∨ 256 < n) := by simpa using h
    rw [if_neg h]
    have hp : (s.2.2.1.length : Int) ≤ 16 := by omega
    have e1 : n * (s.2.2.1.length : Int) + n = ((s.2.2.1.length : Int) + 1) * n := by rw [Int.add_mul, Int.one_mul, Int.mul_comm]
    have h1 : 0 ≤ n * (s.2.2.1.length : Int) := Int.mul_nonneg (by omega) (by omega)
    have h2 : n * (s.2.2.1.length : Int) ≤ 256 * 16 := Int.mul_le_mul (by omega) hp (by omega) (by omega)
    have e2 : (s.1.length : Int) - w = f := by omega
    rw [← e1, e2]
    generalize n * (s.2.2.1.length : Int) = p at *
    simp only [InR]
    refine ⟨fun _ => by omega, fun _ => by omega, fun _ => by omega, fun _ => by omega, ?_, trivial⟩
    have e3 : decide ((s.1.length : Int) < w + n) = decide (f < n) := decide_eq_decide.2 (by omega)
    rw [e3]
    simp
theorem e_lawHoldTells : pv_lawHoldTells = (fnVC Tryz.prog (tbl [(6, sp_holdLive), (7, sp_holdSure), (8, sp_holdNever), (9, sp_holdWidest), (10, sp_rStoreFault), (13, sp_rStoreFrom), (12, sp_rReached), (11, sp_rTakes), (15, sp_rSwept), (14, sp_rGapsOf)]) an_lawHoldTells Tryz.f3 sp_lawHoldTells) := by kernel_rfl
theorem vc_lawHoldTells : fnVC Tryz.prog (tbl [(6, sp_holdLive), (7, sp_holdSure), (8, sp_holdNever), (9, sp_holdWidest), (10, sp_rStoreFault), (13, sp_rStoreFrom), (12, sp_rReached), (11, sp_rTakes), (15, sp_rSwept), (14, sp_rGapsOf)]) an_lawHoldTells Tryz.f3 sp_lawHoldTells := @Eq.mp _ _ @e_lawHoldTells @vcp_lawHoldTells
theorem ok_lawHoldTells : sp_lawHoldTells.ok Tryz.prog 3 := fn_sound (P := Tryz.prog) (ss := tbl [(6, sp_holdLive), (7, sp_holdSure), (8, sp_holdNever), (9, sp_holdWidest), (10, sp_rStoreFault), (13, sp_rStoreFrom), (12, sp_rReached), (11, sp_rTakes), (15, sp_rSwept), (14, sp_rGapsOf)]) (ann := an_lawHoldTells) (f := 3) (fn := Tryz.f3) (s := sp_lawHoldTells) (tbl_cons ok_holdLive (tbl_cons ok_holdSure (tbl_cons ok_holdNever (tbl_cons ok_holdWidest (tbl_cons ok_rStoreFault (tbl_cons ok_rStoreFrom (tbl_cons ok_rReached (tbl_cons ok_rTakes (tbl_cons ok_rSwept (tbl_cons ok_rGapsOf tbl_nil)))))))))) Tryz.func3 @vc_lawHoldTells
end Go.Proofs.YtglchojglcobjaaGreat
