
import Derived.Test.YtglchojglcobjaaGreatWalks
namespace Go.Proofs.YtglchojglcobjaaGreat
open Go
set_option maxRecDepth 100000
set_option maxHeartbeats 1000000
abbrev ty_Gap : Ty := .pair ty_I ty_I
abbrev Gap := Int × Int
def sp_gapLong : Spec := { Ts := [ty_Head], Rs := [.dat ty_I], pre := fun _ => True, F := fun (h : Head) => (if headFault h = 0 then headLong h else 0 : Int) }
def pv_gapLong : Prop :=
  ∀ (x : Int × Int × Int × Bool), InR IntKind.i64 x.fst ∧ InR IntKind.i64 x.snd.fst ∧ InR IntKind.i64 x.snd.snd.fst ∧ True → True → True ∧ ((if headFault x = (0 : Int) then headLong x else (0 : Int)) = if headFault x = (0 : Int) then headLong x else (0 : Int)) ∧ True
theorem vcp_gapLong : pv_gapLong := by
 unfold pv_gapLong
 intro h _ _
 simp
theorem e_gapLong : pv_gapLong = (fnVC Tryz.prog (tbl [(100, sp_headLongC)]) an_0 Tryz.f136 sp_gapLong) := by kernel_rfl
theorem vc_gapLong : fnVC Tryz.prog (tbl [(100, sp_headLongC)]) an_0 Tryz.f136 sp_gapLong := @Eq.mp _ _ @e_gapLong @vcp_gapLong
theorem ok_gapLong : sp_gapLong.ok Tryz.prog 136 := fn_sound (P := Tryz.prog) (ss := tbl [(100, sp_headLongC)]) (ann := an_0) (f := 136) (fn := Tryz.f136) (s := sp_gapLong) (tbl_cons ok_headLongC tbl_nil) Tryz.func136 @vc_gapLong
def gspotsF (a : List Int) : List Spot × Int := if (checkF a).2.2 ≠ 0 then ([], (checkF a).2.2) else ((spotsF a).1, 0)
def sp_gapSpots : Spec := { Ts := [.arr ty_W], Rs := [.own 95 ty_Spot, .dat ty_I], pre := fun _ => True, F := gspotsF }
def pv_gapSpots : Prop :=
  ∀ (x : List Int), (x.length * (8 : Nat) ≤ big ∧ ∀ (x_1 : Int), x_1 ∈ x → InR IntKind.u64 x_1) → True → True ∧ (decide ((checkF x).snd.snd ≠ (0 : Int)) = true → ([] : List (Int × Int × Int × Int × Bool)) = (gspotsF x).fst ∧ (checkF x).snd.snd = (gspotsF x).snd ∧ True) ∧ (decide ((checkF x).snd.snd ≠ (0 : Int)) = false → True ∧ (spotsF x).fst = (gspotsF x).fst ∧ (spotsF x).snd = (gspotsF x).snd ∧ True)
theorem vcp_gapSpots : pv_gapSpots := by
 unfold pv_gapSpots
 intro a _ _
 have h := checkF_in (a := a)
 unfold gspotsF
 refine ⟨trivial, fun hc => ?_, fun hc => ?_⟩
 ·have hc : (checkF a).2.2 ≠ 0 := by simpa using hc
  rw [if_pos hc]
  exact ⟨rfl, rfl, trivial⟩
 ·have hc : (checkF a).2.2 = 0 := by simpa using hc
  obtain ⟨_, _, _, h4, _⟩ := h hc
  rw [if_neg (by omega), h4]
  exact ⟨trivial, rfl, rfl, trivial⟩
theorem e_gapSpots : pv_gapSpots = (fnVC Tryz.prog (tbl [(90, sp_walkCheck), (147, sp_walkSpots)]) an_0 Tryz.f121 sp_gapSpots) := by kernel_rfl
theorem vc_gapSpots : fnVC Tryz.prog (tbl [(90, sp_walkCheck), (147, sp_walkSpots)]) an_0 Tryz.f121 sp_gapSpots := @Eq.mp _ _ @e_gapSpots @vcp_gapSpots
theorem ok_gapSpots : sp_gapSpots.ok Tryz.prog 121 := fn_sound (P := Tryz.prog) (ss := tbl [(90, sp_walkCheck), (147, sp_walkSpots)]) (ann := an_0) (f := 121) (fn := Tryz.f121) (s := sp_gapSpots) (tbl_cons ok_walkCheck (tbl_cons ok_walkSpots tbl_nil)) Tryz.func121 @vc_gapSpots
def bumpL (out : List Gap) (n : Int) : List Gap := out.set (out.length - 1) ((out.getD (out.length - 1) (0, 0)).1, (out.getD (out.length - 1) (0, 0)).2 + n)
def gapsL : Bool → List Gap → List Spot → List Gap
 | _, out, [] => out
 | p, out, s :: l => gapsL s.2.2.2.2 (if s.2.2.2.2 = true then (if p = true then bumpL out (headLong s.2) else out ++ [(s.1, headLong s.2)]) else out) l
theorem bumpL_length (out : List Gap) (n : Int) : (bumpL out n).length = out.length := by simp [bumpL]
def lastFree (l : List Spot) (i : Int) : Bool := decide (0 < i) && (l.getD (i - 1).toNat (0, 0, 0, 0, false)).2.2.2.2
def an_gapGaps : Nat → Option LoopGen
 | 3 => some { rd := [.dat 6 (.arr ty_Spot)], A := fun (l : List Spot) => { cs := [.own 3 42 ty_Gap, .dat 8 ty_I], inv := fun ((out, i) : List Gap × Int) => 0 ≤ i ∧ i ≤ l.length ∧ l.length ≤ 256 ∧ (∀ s ∈ l, headFault s.2 = 0) ∧ out.length ≤ i ∧ (lastFree l i = true → 0 < out.length) ∧ (∀ r ∈ out, 0 ≤ r.2 ∧ r.2 ≤ 256 * i) ∧ gapsL (lastFree l i) out (l.drop i.toNat) = gapsL false [] l, mu := fun ((_, i) : List Gap × Int) => (l.length - i).toNat } }
 | _ => none
def sp_gapGaps : Spec := { Ts := [.arr ty_Spot], Rs := [.own 42 ty_Gap], pre := fun (l : List Spot) => l.length ≤ 256 ∧ ∀ s ∈ l, headFault s.2 = 0, F := fun (l : List Spot) => gapsL false [] l }
def pv_gapGaps : Prop :=
  ∀ (x : List (Int × Int × Int × Int × Bool)), (x.length * ((8 : Nat) + ((8 : Nat) + ((8 : Nat) + ((8 : Nat) + (8 : Nat))))) ≤ big ∧ ∀ (x_1 : Int × Int × Int × Int × Bool), x_1 ∈ x → InR IntKind.i64 x_1.fst ∧ InR IntKind.i64 x_1.snd.fst ∧ InR IntKind.i64 x_1.snd.snd.fst ∧ InR IntKind.i64 x_1.snd.snd.snd.fst ∧ True) → (x.length ≤ (256 : Nat) ∧ ∀ (s : Spot), s ∈ x → headFault s.snd = (0 : Int)) → ((0 : Int) ≤ (0 : Int) ∧ (0 : Int) ≤ (↑x.length : Int) ∧ x.length ≤ (256 : Nat) ∧ (∀ (s : Spot), s ∈ x → headFault s.snd = (0 : Int)) ∧ (↑(0 : Nat) : Int) ≤ (0 : Int) ∧ (lastFree x (0 : Int) = true → (0 : Nat) < (0 : Nat)) ∧ (∀ (r : Gap), r ∈ ([] : List (Int × Int)) → (0 : Int) ≤ r.snd ∧ r.snd ≤ (256 : Int) * (0 : Int)) ∧ gapsL (lastFree x (0 : Int)) ([] : List (Int × Int)) (List.drop (Int.toNat (0 : Int)) x) = gapsL false ([] : List Gap) x) ∧ ∀ (x_1 : List (Int × Int) × Int), (0 : Int) ≤ x_1.snd ∧ x_1.snd ≤ (↑x.length : Int) ∧ x.length ≤ (256 : Nat) ∧ (∀ (s : Spot), s ∈ x → headFault s.snd = (0 : Int)) ∧ (↑x_1.fst.length : Int) ≤ x_1.snd ∧ (lastFree x x_1.snd = true → (0 : Nat) < x_1.fst.length) ∧ (∀ (r : Gap), r ∈ x_1.fst → (0 : Int) ≤ r.snd ∧ r.snd ≤ (256 : Int) * x_1.snd) ∧ gapsL (lastFree x x_1.snd) x_1.fst (List.drop x_1.snd.toNat x) = gapsL false ([] : List Gap) x → (decide (x_1.snd < (↑x.length : Int)) = true → (0 : Int) ≤ x_1.snd ∧ x_1.snd < (↑x.length : Int) ∧ ((!(x.getD x_1.snd.toNat ((0 : Int), (0 : Int), (0 : Int), (0 : Int), false)).snd.snd.snd.snd) = true → InR IntKind.i64 (x_1.snd + (1 : Int)) ∧ ((0 : Int) ≤ x_1.snd + (1 : Int) ∧ x_1.snd + (1 : Int) ≤ (↑x.length : Int) ∧ x.length ≤ (256 : Nat) ∧ (∀ (s : Spot), s ∈ x → headFault s.snd = (0 : Int)) ∧ (↑x_1.fst.length : Int) ≤ x_1.snd + (1 : Int) ∧ (lastFree x (x_1.snd + (1 : Int)) = true → (0 : Nat) < x_1.fst.length) ∧ (∀ (r : Gap), r ∈ x_1.fst → (0 : Int) ≤ r.snd ∧ r.snd ≤ (256 : Int) * (x_1.snd + (1 : Int))) ∧ gapsL (lastFree x (x_1.snd + (1 : Int))) x_1.fst (List.drop (x_1.snd + (1 : Int)).toNat x) = gapsL false ([] : List Gap) x) ∧ ((↑x.length : Int) - (x_1.snd + (1 : Int))).toNat < ((↑x.length : Int) - x_1.snd).toNat) ∧ ((!(x.getD x_1.snd.toNat ((0 : Int), (0 : Int), (0 : Int), (0 : Int), false)).snd.snd.snd.snd) = false → (decide ((0 : Int) < x_1.snd) = true → InR IntKind.i64 (x_1.snd - (1 : Int))) ∧ (decide ((0 : Int) < x_1.snd) = true → (0 : Int) ≤ x_1.snd - (1 : Int)) ∧ (decide ((0 : Int) < x_1.snd) = true → x_1.snd - (1 : Int) < (↑x.length : Int)) ∧ ((decide ((0 : Int) < x_1.snd) && (x.getD (x_1.snd - (1 : Int)).toNat ((0 : Int), (0 : Int), (0 : Int), (0 : Int), false)).snd.snd.snd.snd) = true → InR IntKind.i64 ((↑x_1.fst.length : Int) - (1 : Int)) ∧ (0 : Int) ≤ (↑x_1.fst.length : Int) - (1 : Int) ∧ (↑x_1.fst.length : Int) - (1 : Int) < (↑x_1.fst.length : Int) ∧ ((↑x_1.fst.length : Int) - (1 : Int)).toNat < x_1.fst.length ∧ True ∧ InR IntKind.i64 ((x_1.fst.getD ((↑x_1.fst.length : Int) - (1 : Int)).toNat ((0 : Int), (0 : Int))).snd + if headFault (x.getD x_1.snd.toNat ((0 : Int), (0 : Int), (0 : Int), (0 : Int), false)).snd = (0 : Int) then headLong (x.getD x_1.snd.toNat ((0 : Int), (0 : Int), (0 : Int), (0 : Int), false)).snd else (0 : Int)) ∧ (0 : Int) ≤ (↑x_1.fst.length : Int) - (1 : Int) ∧ (↑x_1.fst.length : Int) - (1 : Int) < (↑x_1.fst.length : Int) ∧ ((↑x_1.fst.length : Int) - (1 : Int)).toNat < x_1.fst.length ∧ InR IntKind.i64 (x_1.snd + (1 : Int)) ∧ ((0 : Int) ≤ x_1.snd + (1 : Int) ∧ x_1.snd + (1 : Int) ≤ (↑x.length : Int) ∧ x.length ≤ (256 : Nat) ∧ (∀ (s : Spot), s ∈ x → headFault s.snd = (0 : Int)) ∧ (↑(x_1.fst.set ((↑x_1.fst.length : Int) - (1 : Int)).toNat ((x_1.fst.getD ((↑x_1.fst.length : Int) - (1 : Int)).toNat ((0 : Int), (0 : Int))).fst, (x_1.fst.getD ((↑x_1.fst.length : Int) - (1 : Int)).toNat ((0 : Int), (0 : Int))).snd + if headFault (x.getD x_1.snd.toNat ((0 : Int), (0 : Int), (0 : Int), (0 : Int), false)).snd = (0 : Int) then headLong (x.getD x_1.snd.toNat ((0 : Int), (0 : Int), (0 : Int), (0 : Int), false)).snd else (0 : Int))).length : Int) ≤ x_1.snd + (1 : Int) ∧ (lastFree x (x_1.snd + (1 : Int)) = true → (0 : Nat) < (x_1.fst.set ((↑x_1.fst.length : Int) - (1 : Int)).toNat ((x_1.fst.getD ((↑x_1.fst.length : Int) - (1 : Int)).toNat ((0 : Int), (0 : Int))).fst, (x_1.fst.getD ((↑x_1.fst.length : Int) - (1 : Int)).toNat ((0 : Int), (0 : Int))).snd + if headFault (x.getD x_1.snd.toNat ((0 : Int), (0 : Int), (0 : Int), (0 : Int), false)).snd = (0 : Int) then headLong (x.getD x_1.snd.toNat ((0 : Int), (0 : Int), (0 : Int), (0 : Int), false)).snd else (0 : Int))).length) ∧ (∀ (r : Gap), r ∈ x_1.fst.set ((↑x_1.fst.length : Int) - (1 : Int)).toNat ((x_1.fst.getD ((↑x_1.fst.length : Int) - (1 : Int)).toNat ((0 : Int), (0 : Int))).fst, (x_1.fst.getD ((↑x_1.fst.length : Int) - (1 : Int)).toNat ((0 : Int), (0 : Int))).snd + if headFault (x.getD x_1.snd.toNat ((0 : Int), (0 : Int), (0 : Int), (0 : Int), false)).snd = (0 : Int) then headLong (x.getD x_1.snd.toNat ((0 : Int), (0 : Int), (0 : Int), (0 : Int), false)).snd else (0 : Int)) → (0 : Int) ≤ r.snd ∧ r.snd ≤ (256 : Int) * (x_1.snd + (1 : Int))) ∧ gapsL (lastFree x (x_1.snd + (1 : Int))) (x_1.fst.set ((↑x_1.fst.length : Int) - (1 : Int)).toNat ((x_1.fst.getD ((↑x_1.fst.length : Int) - (1 : Int)).toNat ((0 : Int), (0 : Int))).fst, (x_1.fst.getD ((↑x_1.fst.length : Int) - (1 : Int)).toNat ((0 : Int), (0 : Int))).snd + if headFault (x.getD x_1.snd.toNat ((0 : Int), (0 : Int), (0 : Int), (0 : Int), false)).snd = (0 : Int) then headLong (x.getD x_1.snd.toNat ((0 : Int), (0 : Int), (0 : Int), (0 : Int), false)).snd else (0 : Int))) (List.drop (x_1.snd + (1 : Int)).toNat x) = gapsL false ([] : List Gap) x) ∧ ((↑x.length : Int) - (x_1.snd + (1 : Int))).toNat < ((↑x.length : Int) - x_1.snd).toNat) ∧ ((decide ((0 : Int) < x_1.snd) && (x.getD (x_1.snd - (1 : Int)).toNat ((0 : Int), (0 : Int), (0 : Int), (0 : Int), false)).snd.snd.snd.snd) = false → True ∧ (x_1.fst.length + [((x.getD x_1.snd.toNat ((0 : Int), (0 : Int), (0 : Int), (0 : Int), false)).fst, if headFault (x.getD x_1.snd.toNat ((0 : Int), (0 : Int), (0 : Int), (0 : Int), false)).snd = (0 : Int) then headLong (x.getD x_1.snd.toNat ((0 : Int), (0 : Int), (0 : Int), (0 : Int), false)).snd else (0 : Int))].length) * ((8 : Nat) + (8 : Nat)) ≤ big ∧ InR IntKind.i64 (x_1.snd + (1 : Int)) ∧ ((0 : Int) ≤ x_1.snd + (1 : Int) ∧ x_1.snd + (1 : Int) ≤ (↑x.length : Int) ∧ x.length ≤ (256 : Nat) ∧ (∀ (s : Spot), s ∈ x → headFault s.snd = (0 : Int)) ∧ (↑(x_1.fst ++ [((x.getD x_1.snd.toNat ((0 : Int), (0 : Int), (0 : Int), (0 : Int), false)).fst, if headFault (x.getD x_1.snd.toNat ((0 : Int), (0 : Int), (0 : Int), (0 : Int), false)).snd = (0 : Int) then headLong (x.getD x_1.snd.toNat ((0 : Int), (0 : Int), (0 : Int), (0 : Int), false)).snd else (0 : Int))]).length : Int) ≤ x_1.snd + (1 : Int) ∧ (lastFree x (x_1.snd + (1 : Int)) = true → (0 : Nat) < (x_1.fst ++ [((x.getD x_1.snd.toNat ((0 : Int), (0 : Int), (0 : Int), (0 : Int), false)).fst, if headFault (x.getD x_1.snd.toNat ((0 : Int), (0 : Int), (0 : Int), (0 : Int), false)).snd = (0 : Int) then headLong (x.getD x_1.snd.toNat ((0 : Int), (0 : Int), (0 : Int), (0 : Int), false)).snd else (0 : Int))]).length) ∧ (∀ (r : Gap), r ∈ x_1.fst ++ [((x.getD x_1.snd.toNat ((0 : Int), (0 : Int), (0 : Int), (0 : Int), false)).fst, if headFault (x.getD x_1.snd.toNat ((0 : Int), (0 : Int), (0 : Int), (0 : Int), false)).snd = (0 : Int) then headLong (x.getD x_1.snd.toNat ((0 : Int), (0 : Int), (0 : Int), (0 : Int), false)).snd else (0 : Int))] → (0 : Int) ≤ r.snd ∧ r.snd ≤ (256 : Int) * (x_1.snd + (1 : Int))) ∧ gapsL (lastFree x (x_1.snd + (1 : Int))) (x_1.fst ++ [((x.getD x_1.snd.toNat ((0 : Int), (0 : Int), (0 : Int), (0 : Int), false)).fst, if headFault (x.getD x_1.snd.toNat ((0 : Int), (0 : Int), (0 : Int), (0 : Int), false)).snd = (0 : Int) then headLong (x.getD x_1.snd.toNat ((0 : Int), (0 : Int), (0 : Int), (0 : Int), false)).snd else (0 : Int))]) (List.drop (x_1.snd + (1 : Int)).toNat x) = gapsL false ([] : List Gap) x) ∧ ((↑x.length : Int) - (x_1.snd + (1 : Int))).toNat < ((↑x.length : Int) - x_1.snd).toNat))) ∧ (decide (x_1.snd < (↑x.length : Int)) = false → x_1.fst = gapsL false ([] : List Gap) x ∧ True)
theorem vcp_gapGaps : pv_gapGaps := by
 unfold pv_gapGaps
 intro l ⟨hb, _⟩ ⟨hl, hf⟩
 refine ⟨⟨by omega, by omega, hl, hf, by simp, by simp [lastFree], by simp, by simp [lastFree]⟩, fun ⟨out, i⟩ ⟨h0, h1, _, _, h2, h3, h4, h5⟩ => ⟨fun hlt => ?_, fun hge => ?_⟩⟩
 ·have hlt : i < (l.length : Int) := of_decide_eq_true hlt
  simp only at h0 h1 h2 h3 h4 h5 ⊢
  rw [drop_cons ((0, 0, 0, 0, false) : Spot) h0 hlt] at h5
  simp only [gapsL] at h5
  have hs := hf _ (getD_mem ((0, 0, 0, 0, false) : Spot) h0 hlt)
  have hlf : lastFree l (i + 1) = (l.getD i.toNat (0, 0, 0, 0, false)).2.2.2.2 := by
   unfold lastFree
   rw [show i + 1 - 1 = i by omega]
   simp
   omega
  rw [hlf, if_pos hs]
  have hz := headFault_zero hs
  have hL : headLong (l.getD i.toNat (0, 0, 0, 0, false)).2 = 1 + (l.getD i.toNat (0, 0, 0, 0, false)).2.1 + (l.getD i.toNat (0, 0, 0, 0, false)).2.2.1 := rfl
  have hlfi : lastFree l i = (decide (0 < i) && (l.getD (i - 1).toNat (0, 0, 0, 0, false)).2.2.2.2) := rfl
  rw [← hlfi]
  generalize l.getD i.toNat (0, 0, 0, 0, false) = s at *
  generalize headLong s.2 = L at *
  simp only [InR]
  refine ⟨h0, hlt, fun hc => ?_, fun hc => ⟨fun hp => by have := of_decide_eq_true hp; omega, fun hp => by have := of_decide_eq_true hp; omega, fun _ => by omega, fun hp => ?_, fun hp => ?_⟩⟩
  ·have hc : s.2.2.2.2 = false := by simpa using hc
   rw [hc] at h5 ⊢
   simp only [Bool.false_eq_true, if_false] at h5
   exact ⟨by omega, ⟨by omega, by omega, hl, hf, by omega, fun h => by simp at h, fun r hr => by have := h4 r hr; omega, h5⟩, by omega⟩
  ·have hc : s.2.2.2.2 = true := by simpa using hc
   rw [hc, hp] at h5
   simp only [if_true] at h5
   rw [hc]
   have hlen := h3 hp
   have hlast := h4 _ (getD_mem ((0, 0) : Gap) (xs := out) (i := (out.length : Int) - 1) (by omega) (by omega))
   have e : ((out.length : Int) - 1).toNat = out.length - 1 := by omega
   rw [e] at hlast ⊢
   have hbump : out.set (out.length - 1) ((out.getD (out.length - 1) (0, 0)).1, (out.getD (out.length - 1) (0, 0)).2 + L) = bumpL out L := rfl
   rw [hbump]
   rw [bumpL_length]
   refine ⟨by omega, by omega, by omega, by omega, trivial, by omega, by omega, by omega, by omega, by omega, ⟨by omega, by omega, hl, hf, by omega, fun _ => hlen, fun r hr => ?_, h5⟩, by omega⟩
   rcases List.mem_or_eq_of_mem_set hr with hr | rfl
   ·have := h4 r hr; omega
   ·simp only; omega
  ·have hc : s.2.2.2.2 = true := by simpa using hc
   rw [hc, hp] at h5
   simp only [if_true, Bool.false_eq_true, if_false] at h5
   rw [hc]
   unfold big
   simp only [List.length_append, List.length_cons, List.length_nil]
   refine ⟨trivial, by omega, by omega, ⟨by omega, by omega, hl, hf, by omega, fun _ => by omega, fun r hr => ?_, h5⟩, by omega⟩
   rcases List.mem_append.1 hr with hr | hr
   ·have := h4 r hr; omega
   ·simp only [List.mem_singleton] at hr
    subst hr
    simp only
    omega
 ·have hge : ¬ i < (l.length : Int) := of_decide_eq_false hge
  simp only at h5
  rw [drop_end hge] at h5
  exact ⟨h5, trivial⟩
theorem e_gapGaps : pv_gapGaps = (fnVC Tryz.prog (tbl [(136, sp_gapLong)]) an_gapGaps Tryz.f122 sp_gapGaps) := by kernel_rfl
theorem vc_gapGaps : fnVC Tryz.prog (tbl [(136, sp_gapLong)]) an_gapGaps Tryz.f122 sp_gapGaps := @Eq.mp _ _ @e_gapGaps @vcp_gapGaps
theorem ok_gapGaps : sp_gapGaps.ok Tryz.prog 122 := fn_sound (P := Tryz.prog) (ss := tbl [(136, sp_gapLong)]) (ann := an_gapGaps) (f := 122) (fn := Tryz.f122) (s := sp_gapGaps) (tbl_cons ok_gapLong tbl_nil) Tryz.func122 @vc_gapGaps
def gapsGF (a : List Int) : List Gap × Int := if (checkF a).2.2 ≠ 0 then ([], (checkF a).2.2) else (gapsL false [] (spotsF a).1, 0)
def sp_gapsGaps : Spec := { Ts := [.arr ty_W], Rs := [.own 42 ty_Gap, .dat ty_I], pre := fun _ => True, F := gapsGF }
def pv_gapsGaps : Prop :=
  ∀ (x : List Int), (x.length * (8 : Nat) ≤ big ∧ ∀ (x_1 : Int), x_1 ∈ x → InR IntKind.u64 x_1) → True → True ∧ (decide ((gspotsF x).snd ≠ (0 : Int)) = true → ([] : List (Int × Int)) = (gapsGF x).fst ∧ (gspotsF x).snd = (gapsGF x).snd ∧ True) ∧ (decide ((gspotsF x).snd ≠ (0 : Int)) = false → ((gspotsF x).fst.length ≤ (256 : Nat) ∧ ∀ (s : Spot), s ∈ (gspotsF x).fst → headFault s.snd = (0 : Int)) ∧ gapsL false ([] : List Gap) (gspotsF x).fst = (gapsGF x).fst ∧ (0 : Int) = (gapsGF x).snd ∧ True)
theorem vcp_gapsGaps : pv_gapsGaps := by
 unfold pv_gapsGaps
 intro a _ _
 have h := checkF_in (a := a)
 have hlen := spotsF_length a
 unfold gspotsF gapsGF
 refine ⟨trivial, fun hc => ?_, fun hc => ?_⟩
 ·have hc : (checkF a).2.2 ≠ 0 := by
   intro e
   rw [if_neg (by omega)] at hc
   simp at hc
  rw [if_pos hc, if_pos hc]
  exact ⟨rfl, rfl, trivial⟩
 ·have hc : (checkF a).2.2 = 0 := by
   apply Classical.byContradiction
   intro e
   rw [if_pos e] at hc
   simp [e] at hc
  obtain ⟨_, _, h3, h4, _, _, h5⟩ := h hc
  rw [if_neg (by omega), if_neg (by omega)]
  rw [h3] at h5
  exact ⟨⟨hlen, fun s hs => (h5 s hs).2⟩, rfl, rfl, trivial⟩
theorem e_gapsGaps : pv_gapsGaps = (fnVC Tryz.prog (tbl [(121, sp_gapSpots), (122, sp_gapGaps)]) an_0 Tryz.f84 sp_gapsGaps) := by kernel_rfl
theorem vc_gapsGaps : fnVC Tryz.prog (tbl [(121, sp_gapSpots), (122, sp_gapGaps)]) an_0 Tryz.f84 sp_gapsGaps := @Eq.mp _ _ @e_gapsGaps @vcp_gapsGaps
theorem ok_gapsGaps : sp_gapsGaps.ok Tryz.prog 84 := fn_sound (P := Tryz.prog) (ss := tbl [(121, sp_gapSpots), (122, sp_gapGaps)]) (ann := an_0) (f := 84) (fn := Tryz.f84) (s := sp_gapsGaps) (tbl_cons ok_gapSpots (tbl_cons ok_gapGaps tbl_nil)) Tryz.func84 @vc_gapsGaps
def Tiles : Int → Int → List Spot → Prop
 | s, e, [] => s = e
 | s, e, x :: r => x.1 = s ∧ 1 ≤ headLong x.2 ∧ Tiles (s + headLong x.2) e r
theorem spotsS_tiles (at_ : Int) (l : List Int) (r : List Spot) (h : spotsS at_ l = some r) : Tiles at_ (at_ + l.length) r := by
 induction at_, l using spotsS.induct generalizing r with
 | case1 at_ =>
  simp only [spotsS, Option.some.injEq] at h
  subst h
  simp [Tiles]
 | case2 at_ v l hv ih =>
  rw [spotsS_cons hv.1 hv.2] at h
  obtain ⟨r', hr, rfl⟩ := Option.map_eq_some_iff.1 h
  have hl := isHead_long hv.1
  have h2 := ih r' hr
  refine ⟨rfl, hl.1, ?_⟩
  have e : at_ + headLong (headOf v) + (((v :: l).drop (headLong (headOf v)).toNat).length : Nat) = at_ + ((v :: l).length : Nat) := by
   rw [List.length_drop]
   have := hv.2
   omega
  rw [e] at h2
  exact h2
 | case3 at_ v l hv =>
  rw [spotsS_none hv] at h
  cases h
theorem spotsF_tiles {a : List Int} (h : (spotsF a).2 = 0) : Tiles 0 a.length (spotsF a).1 := by
 unfold spotsF at h ⊢
 split at h
 ·simp at h
 rename_i cl
 rw [if_neg cl]
 cases e : spotsS 0 a with
 | none => rw [e] at h; simp at h
 | some l =>
  have := spotsS_tiles 0 a l e
  rw [Int.zero_add] at this
  exact this
def gapsIn (n : Int) (l : List Gap) : Prop := ∀ r ∈ l, 0 ≤ r.1 ∧ 1 ≤ r.2 ∧ r.1 + r.2 ≤ n
theorem gapsL_in : ∀ (l : List Spot) (s e : Int) (p : Bool) (out : List Gap), Tiles s e l → 0 ≤ s → gapsIn s out → (p = true → 0 < out.length ∧ (out.getD (out.length - 1) (0, 0)).1 + (out.getD (out.length - 1) (0, 0)).2 = s) → gapsIn e (gapsL p out l) ∧ s ≤ e
 | [], s, e, p, out, ht, h0, ho, _ => by
  have : s = e := ht
  subst this
  exact ⟨ho, Int.le_refl _⟩
 | x :: l, s, e, p, out, ⟨h1, h2, h3⟩, h0, ho, hp => by
  simp only [gapsL]
  have up : gapsIn (s + headLong x.2) out := fun r hr => by have := ho r hr; omega
  cases hf : x.2.2.2.2
  ·have ih := gapsL_in l _ e false out h3 (by omega) up (fun h => by cases h)
   simp only [Bool.false_eq_true, if_false]
   exact ⟨ih.1, by omega⟩
  ·simp only [if_true]
   cases p
   ·have ih := gapsL_in l _ e true (out ++ [(x.1, headLong x.2)]) h3 (by omega) (fun r hr => by
     rcases List.mem_append.1 hr with hr | hr
     ·exact up r hr
     ·simp only [List.mem_singleton] at hr
      subst hr
      simp only
      omega) (fun _ => ⟨by simp, by simp; omega⟩)
    simp only [Bool.false_eq_true, if_false]
    exact ⟨ih.1, by omega⟩
   ·obtain ⟨q1, q2⟩ := hp rfl
    have hlast := ho _ (getD_mem ((0, 0) : Gap) (xs := out) (i := (out.length : Int) - 1) (by omega) (by omega))
    rw [show ((out.length : Int) - 1).toNat = out.length - 1 by omega] at hlast
    have ih := gapsL_in l _ e true (bumpL out (headLong x.2)) h3 (by omega) (fun r hr => by
     rcases List.mem_or_eq_of_mem_set hr with hr | rfl
     ·exact up r hr
     ·simp only
      omega) (fun _ => ⟨by rw [bumpL_length]; exact q1, by
       rw [bumpL_length]
       unfold bumpL
       simp [show out.length - 1 < out.length by omega]
       simp [show out.length - 1 < out.length by omega] at q2
       omega⟩)
    simp only [if_true]
    exact ⟨ih.1, by omega⟩
theorem gapsL_length : ∀ (l : List Spot) (p : Bool) (out : List Gap), (gapsL p out l).length ≤ out.length + l.length
 | [], _, _ => by simp [gapsL]
 | x :: l, p, out => by
  have h1 := gapsL_length l x.2.2.2.2 (if x.2.2.2.2 = true then (if p = true then bumpL out (headLong x.2) else out ++ [(x.1, headLong x.2)]) else out)
  simp only [gapsL, List.length_cons]
  have : (if x.2.2.2.2 = true then (if p = true then bumpL out (headLong x.2) else out ++ [(x.1, headLong x.2)]) else out).length ≤ out.length + 1 := by
   split
   ·split
    ·rw [bumpL_length]; omega
    ·simp
   ·omega
  omega
theorem gaps_in {a : List Int} (h : (spotsF a).2 = 0) : gapsIn a.length (gapsL false [] (spotsF a).1) ∧ (gapsL false [] (spotsF a).1).length ≤ 256 := by
 have h1 := gapsL_in _ 0 a.length false [] (spotsF_tiles h) (Int.le_refl _) (fun r hr => by cases hr) (fun h => by cases h)
 have h2 := gapsL_length (spotsF a).1 false []
 have h3 := spotsF_length a
 exact ⟨h1.1, by simp at h2; omega⟩
def findG (l : List Spot) (at_ : Int) (fr : Bool) : Spot × Bool :=
 if findFrom (fun s : Spot => decide (s.1 = at_) && s.2.2.2.2 == fr) 0 l < 0 then ((0, 0, 0, 0, false), false) else (l.getD (findFrom (fun s : Spot => decide (s.1 = at_) && s.2.2.2.2 == fr) 0 l).toNat (0, 0, 0, 0, false), true)
theorem findG_in (l : List Spot) (at_ : Int) (fr : Bool) (h : (findG l at_ fr).2 = true) : (findG l at_ fr).1 ∈ l ∧ (findG l at_ fr).1.1 = at_ ∧ (findG l at_ fr).1.2.2.2.2 = fr := by
 have hlt := findFrom_lt (fun s : Spot => decide (s.1 = at_) && s.2.2.2.2 == fr) (0, 0, 0, 0, false) l 0 (by omega)
 have his := findFrom_is (fun s : Spot => decide (s.1 = at_) && s.2.2.2.2 == fr) (0, 0, 0, 0, false) l 0
 unfold findG at h ⊢
 split at h
 ·cases h
 ·rename_i hn
  rw [if_neg hn]
  have his := his (by omega) (by omega)
  rw [Int.sub_zero] at his
  simp only [Bool.and_eq_true, decide_eq_true_eq, beq_iff_eq] at his
  exact ⟨getD_mem _ (by omega) (by omega), his.1, his.2⟩
end Go.Proofs.YtglchojglcobjaaGreat
