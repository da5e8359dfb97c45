/- Contracts of package gap: Gaps, Join, Take, Give. -/
import Derived.Test.YtgnamdjmjkeodaaWalks
namespace Go.Proofs.Ytgnamdjmjkeodaa
open Go
set_option maxRecDepth 100000
set_option maxHeartbeats 1000000

abbrev ty_Gap : Ty := .pair ty_I ty_I
abbrev Gap := Int × Int

def sp_gapLong : Spec := { Ts := [ty_Head], Rs := [.dat ty_I], pre := fun _ => True, F := fun (h : Head) => (if headFault h = 0 then headLong h else 0 : Int) }
def pv_gapLong : Prop :=
    ∀ (x : Int × Int × Int × Bool),
  InR IntKind.i64 x.fst ∧ InR IntKind.i64 x.snd.fst ∧ InR IntKind.i64 x.snd.snd.fst ∧ True →
    True →
      True ∧
        ((if headFault x = (0 : Int) then headLong x else (0 : Int)) =
            if headFault x = (0 : Int) then headLong x else (0 : Int)) ∧
          True
theorem vcp_gapLong : pv_gapLong := by
  unfold pv_gapLong
  intro h _ _
  simp
theorem e_gapLong : pv_gapLong = fnVC Try.prog (tbl [(169, sp_headLongC)]) an_0 Try.f115 sp_gapLong := by kernel_rfl
theorem vc_gapLong : fnVC Try.prog (tbl [(169, sp_headLongC)]) an_0 Try.f115 sp_gapLong := @Eq.mp _ _ @e_gapLong @vcp_gapLong
theorem ok_gapLong : sp_gapLong.ok Try.prog 115 := fn_sound (P := Try.prog) (ss := tbl [(169, sp_headLongC)]) (ann := an_0) (f := 115) (fn := Try.f115) (s := sp_gapLong) (tbl_cons ok_headLongC tbl_nil) Try.func115 @vc_gapLong

def gspotsF (a : List Int) : List Spot × Int := if (checkF a).2.2 ≠ 0 then ([], (checkF a).2.2) else ((spotsF a).1, 0)
def sp_gapSpots : Spec := { Ts := [.arr ty_W], Rs := [.own 78 ty_Spot, .dat ty_I], pre := fun _ => True, F := gspotsF }
def pv_gapSpots : Prop :=
    ∀ (x : List Int),
  (x.length * (8 : Nat) ≤ big ∧ ∀ (x_1 : Int), x_1 ∈ x → InR IntKind.u64 x_1) →
    True →
      True ∧
        (decide ((checkF x).snd.snd ≠ (0 : Int)) = true →
            ([] : List (Int × Int × Int × Int × Bool)) = (gspotsF x).fst ∧
              (checkF x).snd.snd = (gspotsF x).snd ∧ True) ∧
          (decide ((checkF x).snd.snd ≠ (0 : Int)) = false →
            True ∧ (spotsF x).fst = (gspotsF x).fst ∧ (spotsF x).snd = (gspotsF x).snd ∧ True)
theorem vcp_gapSpots : pv_gapSpots := by
  unfold pv_gapSpots
  intro a _ _
  have h := checkF_in (a := a)
  unfold gspotsF
  refine ⟨trivial, fun hc => ?_, fun hc => ?_⟩
  · have hc : (checkF a).2.2 ≠ 0 := by simpa using hc
    rw [if_pos hc]
    exact ⟨rfl, rfl, trivial⟩
  · have hc : (checkF a).2.2 = 0 := by simpa using hc
    obtain ⟨_, _, _, h4, _⟩ := h hc
    rw [if_neg (by omega), h4]
    exact ⟨trivial, rfl, rfl, trivial⟩
theorem e_gapSpots : pv_gapSpots = fnVC Try.prog (tbl [(134, sp_walkCheck), (96, sp_walkSpots)]) an_0 Try.f109 sp_gapSpots := by kernel_rfl
theorem vc_gapSpots : fnVC Try.prog (tbl [(134, sp_walkCheck), (96, sp_walkSpots)]) an_0 Try.f109 sp_gapSpots := @Eq.mp _ _ @e_gapSpots @vcp_gapSpots
theorem ok_gapSpots : sp_gapSpots.ok Try.prog 109 := fn_sound (P := Try.prog) (ss := tbl [(134, sp_walkCheck), (96, sp_walkSpots)]) (ann := an_0) (f := 109) (fn := Try.f109) (s := sp_gapSpots) (tbl_cons ok_walkCheck (tbl_cons ok_walkSpots tbl_nil)) Try.func109 @vc_gapSpots

/-- The last stretch is n longer. -/
def bumpL (out : List Gap) (n : Int) : List Gap := out.set (out.length - 1) ((out.getD (out.length - 1) (0, 0)).1, (out.getD (out.length - 1) (0, 0)).2 + n)
def gapsL : Bool → List Gap → List Spot → List Gap
  | _, out, [] => out
  | p, out, s :: l => gapsL s.2.2.2.2 (if s.2.2.2.2 = true then (if p = true then bumpL out (headLong s.2) else out ++ [(s.1, headLong s.2)]) else out) l
theorem bumpL_length (out : List Gap) (n : Int) : (bumpL out n).length = out.length := by simp [bumpL]

def lastFree (l : List Spot) (i : Int) : Bool := decide (0 < i) && (l.getD (i - 1).toNat (0, 0, 0, 0, false)).2.2.2.2
def an_gapGaps : Nat → Option LoopGen
  | 3 => some { rd := [.dat 6 (.arr ty_Spot)], A := fun (l : List Spot) => { cs := [.own 3 72 ty_Gap, .dat 8 ty_I], inv := fun ((out, i) : List Gap × Int) => 0 ≤ i ∧ i ≤ l.length ∧ l.length ≤ 256 ∧ (∀ s ∈ l, headFault s.2 = 0) ∧ out.length ≤ i ∧ (lastFree l i = true → 0 < out.length) ∧ (∀ r ∈ out, 0 ≤ r.2 ∧ r.2 ≤ 256 * i) ∧ gapsL (lastFree l i) out (l.drop i.toNat) = gapsL false [] l, mu := fun ((_, i) : List Gap × Int) => (l.length - i).toNat } }
  | _ => none
def sp_gapGaps : Spec := { Ts := [.arr ty_Spot], Rs := [.own 72 ty_Gap], pre := fun (l : List Spot) => l.length ≤ 256 ∧ ∀ s ∈ l, headFault s.2 = 0, F := fun (l : List Spot) => gapsL false [] l }
def pv_gapGaps : Prop :=
    ∀ (x : List (Int × Int × Int × Int × Bool)),
  (x.length * ((8 : Nat) + ((8 : Nat) + ((8 : Nat) + ((8 : Nat) + (8 : Nat))))) ≤ big ∧
      ∀ (x_1 : Int × Int × Int × Int × Bool),
        x_1 ∈ x →
          InR IntKind.i64 x_1.fst ∧
            InR IntKind.i64 x_1.snd.fst ∧
              InR IntKind.i64 x_1.snd.snd.fst ∧ InR IntKind.i64 x_1.snd.snd.snd.fst ∧ True) →
    (x.length ≤ (256 : Nat) ∧ ∀ (s : Spot), s ∈ x → headFault s.snd = (0 : Int)) →
      ((0 : Int) ≤ (0 : Int) ∧
          (0 : Int) ≤ (↑x.length : Int) ∧
            x.length ≤ (256 : Nat) ∧
              (∀ (s : Spot), s ∈ x → headFault s.snd = (0 : Int)) ∧
                (↑(0 : Nat) : Int) ≤ (0 : Int) ∧
                  (lastFree x (0 : Int) = true → (0 : Nat) < (0 : Nat)) ∧
                    (∀ (r : Gap), r ∈ ([] : List (Int × Int)) → (0 : Int) ≤ r.snd ∧ r.snd ≤ (256 : Int) * (0 : Int)) ∧
                      gapsL (lastFree x (0 : Int)) ([] : List (Int × Int)) (List.drop (Int.toNat (0 : Int)) x) =
                        gapsL false ([] : List Gap) x) ∧
        ∀ (x_1 : List (Int × Int) × Int),
          (0 : Int) ≤ x_1.snd ∧
              x_1.snd ≤ (↑x.length : Int) ∧
                x.length ≤ (256 : Nat) ∧
                  (∀ (s : Spot), s ∈ x → headFault s.snd = (0 : Int)) ∧
                    (↑x_1.fst.length : Int) ≤ x_1.snd ∧
                      (lastFree x x_1.snd = true → (0 : Nat) < x_1.fst.length) ∧
                        (∀ (r : Gap), r ∈ x_1.fst → (0 : Int) ≤ r.snd ∧ r.snd ≤ (256 : Int) * x_1.snd) ∧
                          gapsL (lastFree x x_1.snd) x_1.fst (List.drop x_1.snd.toNat x) =
                            gapsL false ([] : List Gap) x →
            (decide (x_1.snd < (↑x.length : Int)) = true →
                (0 : Int) ≤ x_1.snd ∧
                  x_1.snd < (↑x.length : Int) ∧
                    ((!(x.getD x_1.snd.toNat ((0 : Int), (0 : Int), (0 : Int), (0 : Int), false)).snd.snd.snd.snd) =
                          true →
                        InR IntKind.i64 (x_1.snd + (1 : Int)) ∧
                          ((0 : Int) ≤ x_1.snd + (1 : Int) ∧
                              x_1.snd + (1 : Int) ≤ (↑x.length : Int) ∧
                                x.length ≤ (256 : Nat) ∧
                                  (∀ (s : Spot), s ∈ x → headFault s.snd = (0 : Int)) ∧
                                    (↑x_1.fst.length : Int) ≤ x_1.snd + (1 : Int) ∧
                                      (lastFree x (x_1.snd + (1 : Int)) = true → (0 : Nat) < x_1.fst.length) ∧
                                        (∀ (r : Gap),
                                            r ∈ x_1.fst →
                                              (0 : Int) ≤ r.snd ∧ r.snd ≤ (256 : Int) * (x_1.snd + (1 : Int))) ∧
                                          gapsL (lastFree x (x_1.snd + (1 : Int))) x_1.fst
                                              (List.drop (x_1.snd + (1 : Int)).toNat x) =
                                            gapsL false ([] : List Gap) x) ∧
                            ((↑x.length : Int) - (x_1.snd + (1 : Int))).toNat < ((↑x.length : Int) - x_1.snd).toNat) ∧
                      ((!(x.getD x_1.snd.toNat ((0 : Int), (0 : Int), (0 : Int), (0 : Int), false)).snd.snd.snd.snd) =
                          false →
                        (decide ((0 : Int) < x_1.snd) = true → InR IntKind.i64 (x_1.snd - (1 : Int))) ∧
                          (decide ((0 : Int) < x_1.snd) = true → (0 : Int) ≤ x_1.snd - (1 : Int)) ∧
                            (decide ((0 : Int) < x_1.snd) = true → x_1.snd - (1 : Int) < (↑x.length : Int)) ∧
                              ((decide ((0 : Int) < x_1.snd) &&
                                      (x.getD (x_1.snd - (1 : Int)).toNat
                                                ((0 : Int), (0 : Int), (0 : Int), (0 : Int), false)).snd.snd.snd.snd) =
                                    true →
                                  InR IntKind.i64 ((↑x_1.fst.length : Int) - (1 : Int)) ∧
                                    (0 : Int) ≤ (↑x_1.fst.length : Int) - (1 : Int) ∧
                                      (↑x_1.fst.length : Int) - (1 : Int) < (↑x_1.fst.length : Int) ∧
                                        ((↑x_1.fst.length : Int) - (1 : Int)).toNat < x_1.fst.length ∧
                                          True ∧
                                            InR IntKind.i64
                                                ((x_1.fst.getD ((↑x_1.fst.length : Int) - (1 : Int)).toNat
                                                      ((0 : Int), (0 : Int))).snd +
                                                  if
                                                      headFault
                                                          (x.getD x_1.snd.toNat
                                                              ((0 : Int), (0 : Int), (0 : Int), (0 : Int), false)).snd =
                                                        (0 : Int) then
                                                    headLong
                                                      (x.getD x_1.snd.toNat
                                                          ((0 : Int), (0 : Int), (0 : Int), (0 : Int), false)).snd
                                                  else (0 : Int)) ∧
                                              (0 : Int) ≤ (↑x_1.fst.length : Int) - (1 : Int) ∧
                                                (↑x_1.fst.length : Int) - (1 : Int) < (↑x_1.fst.length : Int) ∧
                                                  ((↑x_1.fst.length : Int) - (1 : Int)).toNat < x_1.fst.length ∧
                                                    InR IntKind.i64 (x_1.snd + (1 : Int)) ∧
                                                      ((0 : Int) ≤ x_1.snd + (1 : Int) ∧
                                                          x_1.snd + (1 : Int) ≤ (↑x.length : Int) ∧
                                                            x.length ≤ (256 : Nat) ∧
                                                              (∀ (s : Spot), s ∈ x → headFault s.snd = (0 : Int)) ∧
                                                                (↑(x_1.fst.set
                                                                            ((↑x_1.fst.length : Int) - (1 : Int)).toNat
                                                                            ((x_1.fst.getD
                                                                                  ((↑x_1.fst.length : Int) -
                                                                                      (1 : Int)).toNat
                                                                                  ((0 : Int), (0 : Int))).fst,
                                                                              (x_1.fst.getD
                                                                                    ((↑x_1.fst.length : Int) -
                                                                                        (1 : Int)).toNat
                                                                                    ((0 : Int), (0 : Int))).snd +
                                                                                if
                                                                                    headFault
                                                                                        (x.getD x_1.snd.toNat
                                                                                            ((0 : Int), (0 : Int),
                                                                                              (0 : Int), (0 : Int),
                                                                                              false)).snd =
                                                                                      (0 : Int) then
                                                                                  headLong
                                                                                    (x.getD x_1.snd.toNat
                                                                                        ((0 : Int), (0 : Int),
                                                                                          (0 : Int), (0 : Int),
                                                                                          false)).snd
                                                                                else (0 : Int))).length :
                                                                      Int) ≤
                                                                    x_1.snd + (1 : Int) ∧
                                                                  (lastFree x (x_1.snd + (1 : Int)) = true →
                                                                      (0 : Nat) <
                                                                        (x_1.fst.set
                                                                            ((↑x_1.fst.length : Int) - (1 : Int)).toNat
                                                                            ((x_1.fst.getD
                                                                                  ((↑x_1.fst.length : Int) -
                                                                                      (1 : Int)).toNat
                                                                                  ((0 : Int), (0 : Int))).fst,
                                                                              (x_1.fst.getD
                                                                                    ((↑x_1.fst.length : Int) -
                                                                                        (1 : Int)).toNat
                                                                                    ((0 : Int), (0 : Int))).snd +
                                                                                if
                                                                                    headFault
                                                                                        (x.getD x_1.snd.toNat
                                                                                            ((0 : Int), (0 : Int),
                                                                                              (0 : Int), (0 : Int),
                                                                                              false)).snd =
                                                                                      (0 : Int) then
                                                                                  headLong
                                                                                    (x.getD x_1.snd.toNat
                                                                                        ((0 : Int), (0 : Int),
                                                                                          (0 : Int), (0 : Int),
                                                                                          false)).snd
                                                                                else (0 : Int))).length) ∧
                                                                    (∀ (r : Gap),
                                                                        r ∈
                                                                            x_1.fst.set
                                                                              ((↑x_1.fst.length : Int) -
                                                                                  (1 : Int)).toNat
                                                                              ((x_1.fst.getD
                                                                                    ((↑x_1.fst.length : Int) -
                                                                                        (1 : Int)).toNat
                                                                                    ((0 : Int), (0 : Int))).fst,
                                                                                (x_1.fst.getD
                                                                                      ((↑x_1.fst.length : Int) -
                                                                                          (1 : Int)).toNat
                                                                                      ((0 : Int), (0 : Int))).snd +
                                                                                  if
                                                                                      headFault
                                                                                          (x.getD x_1.snd.toNat
                                                                                              ((0 : Int), (0 : Int),
                                                                                                (0 : Int), (0 : Int),
                                                                                                false)).snd =
                                                                                        (0 : Int) then
                                                                                    headLong
                                                                                      (x.getD x_1.snd.toNat
                                                                                          ((0 : Int), (0 : Int),
                                                                                            (0 : Int), (0 : Int),
                                                                                            false)).snd
                                                                                  else (0 : Int)) →
                                                                          (0 : Int) ≤ r.snd ∧
                                                                            r.snd ≤
                                                                              (256 : Int) * (x_1.snd + (1 : Int))) ∧
                                                                      gapsL (lastFree x (x_1.snd + (1 : Int)))
                                                                          (x_1.fst.set
                                                                            ((↑x_1.fst.length : Int) - (1 : Int)).toNat
                                                                            ((x_1.fst.getD
                                                                                  ((↑x_1.fst.length : Int) -
                                                                                      (1 : Int)).toNat
                                                                                  ((0 : Int), (0 : Int))).fst,
                                                                              (x_1.fst.getD
                                                                                    ((↑x_1.fst.length : Int) -
                                                                                        (1 : Int)).toNat
                                                                                    ((0 : Int), (0 : Int))).snd +
                                                                                if
                                                                                    headFault
                                                                                        (x.getD x_1.snd.toNat
                                                                                            ((0 : Int), (0 : Int),
                                                                                              (0 : Int), (0 : Int),
                                                                                              false)).snd =
                                                                                      (0 : Int) then
                                                                                  headLong
                                                                                    (x.getD x_1.snd.toNat
                                                                                        ((0 : Int), (0 : Int),
                                                                                          (0 : Int), (0 : Int),
                                                                                          false)).snd
                                                                                else (0 : Int)))
                                                                          (List.drop (x_1.snd + (1 : Int)).toNat x) =
                                                                        gapsL false ([] : List Gap) x) ∧
                                                        ((↑x.length : Int) - (x_1.snd + (1 : Int))).toNat <
                                                          ((↑x.length : Int) - x_1.snd).toNat) ∧
                                ((decide ((0 : Int) < x_1.snd) &&
                                      (x.getD (x_1.snd - (1 : Int)).toNat
                                                ((0 : Int), (0 : Int), (0 : Int), (0 : Int), false)).snd.snd.snd.snd) =
                                    false →
                                  True ∧
                                    (x_1.fst.length +
                                            [((x.getD x_1.snd.toNat
                                                      ((0 : Int), (0 : Int), (0 : Int), (0 : Int), false)).fst,
                                                  if
                                                      headFault
                                                          (x.getD x_1.snd.toNat
                                                              ((0 : Int), (0 : Int), (0 : Int), (0 : Int), false)).snd =
                                                        (0 : Int) then
                                                    headLong
                                                      (x.getD x_1.snd.toNat
                                                          ((0 : Int), (0 : Int), (0 : Int), (0 : Int), false)).snd
                                                  else (0 : Int))].length) *
                                          ((8 : Nat) + (8 : Nat)) ≤
                                        big ∧
                                      InR IntKind.i64 (x_1.snd + (1 : Int)) ∧
                                        ((0 : Int) ≤ x_1.snd + (1 : Int) ∧
                                            x_1.snd + (1 : Int) ≤ (↑x.length : Int) ∧
                                              x.length ≤ (256 : Nat) ∧
                                                (∀ (s : Spot), s ∈ x → headFault s.snd = (0 : Int)) ∧
                                                  (↑(x_1.fst ++
                                                              [((x.getD x_1.snd.toNat
                                                                      ((0 : Int), (0 : Int), (0 : Int), (0 : Int),
                                                                        false)).fst,
                                                                  if
                                                                      headFault
                                                                          (x.getD x_1.snd.toNat
                                                                              ((0 : Int), (0 : Int), (0 : Int),
                                                                                (0 : Int), false)).snd =
                                                                        (0 : Int) then
                                                                    headLong
                                                                      (x.getD x_1.snd.toNat
                                                                          ((0 : Int), (0 : Int), (0 : Int), (0 : Int),
                                                                            false)).snd
                                                                  else (0 : Int))]).length :
                                                        Int) ≤
                                                      x_1.snd + (1 : Int) ∧
                                                    (lastFree x (x_1.snd + (1 : Int)) = true →
                                                        (0 : Nat) <
                                                          (x_1.fst ++
                                                              [((x.getD x_1.snd.toNat
                                                                      ((0 : Int), (0 : Int), (0 : Int), (0 : Int),
                                                                        false)).fst,
                                                                  if
                                                                      headFault
                                                                          (x.getD x_1.snd.toNat
                                                                              ((0 : Int), (0 : Int), (0 : Int),
                                                                                (0 : Int), false)).snd =
                                                                        (0 : Int) then
                                                                    headLong
                                                                      (x.getD x_1.snd.toNat
                                                                          ((0 : Int), (0 : Int), (0 : Int), (0 : Int),
                                                                            false)).snd
                                                                  else (0 : Int))]).length) ∧
                                                      (∀ (r : Gap),
                                                          r ∈
                                                              x_1.fst ++
                                                                [((x.getD x_1.snd.toNat
                                                                        ((0 : Int), (0 : Int), (0 : Int), (0 : Int),
                                                                          false)).fst,
                                                                    if
                                                                        headFault
                                                                            (x.getD x_1.snd.toNat
                                                                                ((0 : Int), (0 : Int), (0 : Int),
                                                                                  (0 : Int), false)).snd =
                                                                          (0 : Int) then
                                                                      headLong
                                                                        (x.getD x_1.snd.toNat
                                                                            ((0 : Int), (0 : Int), (0 : Int), (0 : Int),
                                                                              false)).snd
                                                                    else (0 : Int))] →
                                                            (0 : Int) ≤ r.snd ∧
                                                              r.snd ≤ (256 : Int) * (x_1.snd + (1 : Int))) ∧
                                                        gapsL (lastFree x (x_1.snd + (1 : Int)))
                                                            (x_1.fst ++
                                                              [((x.getD x_1.snd.toNat
                                                                      ((0 : Int), (0 : Int), (0 : Int), (0 : Int),
                                                                        false)).fst,
                                                                  if
                                                                      headFault
                                                                          (x.getD x_1.snd.toNat
                                                                              ((0 : Int), (0 : Int), (0 : Int),
                                                                                (0 : Int), false)).snd =
                                                                        (0 : Int) then
                                                                    headLong
                                                                      (x.getD x_1.snd.toNat
                                                                          ((0 : Int), (0 : Int), (0 : Int), (0 : Int),
                                                                            false)).snd
                                                                  else (0 : Int))])
                                                            (List.drop (x_1.snd + (1 : Int)).toNat x) =
                                                          gapsL false ([] : List Gap) x) ∧
                                          ((↑x.length : Int) - (x_1.snd + (1 : Int))).toNat <
                                            ((↑x.length : Int) - x_1.snd).toNat))) ∧
              (decide (x_1.snd < (↑x.length : Int)) = false → x_1.fst = gapsL false ([] : List Gap) x ∧ True)
theorem vcp_gapGaps : pv_gapGaps := by
  unfold pv_gapGaps
  intro l ⟨hb, _⟩ ⟨hl, hf⟩
  refine ⟨⟨by omega, by omega, hl, hf, by simp, by simp [lastFree], by simp, by simp [lastFree]⟩, fun ⟨out, i⟩ ⟨h0, h1, _, _, h2, h3, h4, h5⟩ => ⟨fun hlt => ?_, fun hge => ?_⟩⟩
  · have hlt : i < (l.length : Int) := of_decide_eq_true hlt
    simp only at h0 h1 h2 h3 h4 h5 ⊢
    rw [drop_cons ((0, 0, 0, 0, false) : Spot) h0 hlt] at h5
    simp only [gapsL] at h5
    have hs := hf _ (getD_mem ((0, 0, 0, 0, false) : Spot) h0 hlt)
    have hlf : lastFree l (i + 1) = (l.getD i.toNat (0, 0, 0, 0, false)).2.2.2.2 := by
      unfold lastFree
      rw [show i + 1 - 1 = i by omega]
      simp
      omega
    rw [hlf, if_pos hs]
    have hz := headFault_zero hs
    have hL : headLong (l.getD i.toNat (0, 0, 0, 0, false)).2 = 1 + (l.getD i.toNat (0, 0, 0, 0, false)).2.1 + (l.getD i.toNat (0, 0, 0, 0, false)).2.2.1 := rfl
    have hlfi : lastFree l i = (decide (0 < i) && (l.getD (i - 1).toNat (0, 0, 0, 0, false)).2.2.2.2) := rfl
    rw [← hlfi]
    generalize l.getD i.toNat (0, 0, 0, 0, false) = s at *
    generalize headLong s.2 = L at *
    simp only [InR]
    refine ⟨h0, hlt, fun hc => ?_, fun hc => ⟨fun hp => by have := of_decide_eq_true hp; omega, fun hp => by have := of_decide_eq_true hp; omega, fun _ => by omega, fun hp => ?_, fun hp => ?_⟩⟩
    · have hc : s.2.2.2.2 = false := by simpa using hc
      rw [hc] at h5 ⊢
      simp only [Bool.false_eq_true, if_false] at h5
      exact ⟨by omega, ⟨by omega, by omega, hl, hf, by omega, fun h => by simp at h, fun r hr => by have := h4 r hr; omega, h5⟩, by omega⟩
    · have hc : s.2.2.2.2 = true := by simpa using hc
      rw [hc, hp] at h5
      simp only [if_true] at h5
      rw [hc]
      have hlen := h3 hp
      have hlast := h4 _ (getD_mem ((0, 0) : Gap) (xs := out) (i := (out.length : Int) - 1) (by omega) (by omega))
      have e : ((out.length : Int) - 1).toNat = out.length - 1 := by omega
      rw [e] at hlast ⊢
      have hbump : out.set (out.length - 1) ((out.getD (out.length - 1) (0, 0)).1, (out.getD (out.length - 1) (0, 0)).2 + L) = bumpL out L := rfl
      rw [hbump]
      rw [bumpL_length]
      refine ⟨by omega, by omega, by omega, by omega, trivial, by omega, by omega, by omega, by omega, by omega, ⟨by omega, by omega, hl, hf, by omega, fun _ => hlen, fun r hr => ?_, h5⟩, by omega⟩
      rcases List.mem_or_eq_of_mem_set hr with hr | rfl
      · have := h4 r hr; omega
      · simp only; omega
    · have hc : s.2.2.2.2 = true := by simpa using hc
      rw [hc, hp] at h5
      simp only [if_true, Bool.false_eq_true, if_false] at h5
      rw [hc]
      unfold big
      simp only [List.length_append, List.length_cons, List.length_nil]
      refine ⟨trivial, by omega, by omega, ⟨by omega, by omega, hl, hf, by omega, fun _ => by omega, fun r hr => ?_, h5⟩, by omega⟩
      rcases List.mem_append.1 hr with hr | hr
      · have := h4 r hr; omega
      · simp only [List.mem_singleton] at hr
        subst hr
        simp only
        omega
  · have hge : ¬ i < (l.length : Int) := of_decide_eq_false hge
    simp only at h5
    rw [drop_end hge] at h5
    exact ⟨h5, trivial⟩
theorem e_gapGaps : pv_gapGaps = fnVC Try.prog (tbl [(115, sp_gapLong)]) an_gapGaps Try.f110 sp_gapGaps := by kernel_rfl
theorem vc_gapGaps : fnVC Try.prog (tbl [(115, sp_gapLong)]) an_gapGaps Try.f110 sp_gapGaps := @Eq.mp _ _ @e_gapGaps @vcp_gapGaps
theorem ok_gapGaps : sp_gapGaps.ok Try.prog 110 := fn_sound (P := Try.prog) (ss := tbl [(115, sp_gapLong)]) (ann := an_gapGaps) (f := 110) (fn := Try.f110) (s := sp_gapGaps) (tbl_cons ok_gapLong tbl_nil) Try.func110 @vc_gapGaps

def gapsGF (a : List Int) : List Gap × Int := if (checkF a).2.2 ≠ 0 then ([], (checkF a).2.2) else (gapsL false [] (spotsF a).1, 0)
def sp_gapsGaps : Spec := { Ts := [.arr ty_W], Rs := [.own 72 ty_Gap, .dat ty_I], pre := fun _ => True, F := gapsGF }
def pv_gapsGaps : Prop :=
    ∀ (x : List Int),
  (x.length * (8 : Nat) ≤ big ∧ ∀ (x_1 : Int), x_1 ∈ x → InR IntKind.u64 x_1) →
    True →
      True ∧
        (decide ((gspotsF x).snd ≠ (0 : Int)) = true →
            ([] : List (Int × Int)) = (gapsGF x).fst ∧ (gspotsF x).snd = (gapsGF x).snd ∧ True) ∧
          (decide ((gspotsF x).snd ≠ (0 : Int)) = false →
            ((gspotsF x).fst.length ≤ (256 : Nat) ∧ ∀ (s : Spot), s ∈ (gspotsF x).fst → headFault s.snd = (0 : Int)) ∧
              gapsL false ([] : List Gap) (gspotsF x).fst = (gapsGF x).fst ∧ (0 : Int) = (gapsGF x).snd ∧ True)
theorem vcp_gapsGaps : pv_gapsGaps := by
  unfold pv_gapsGaps
  intro a _ _
  have h := checkF_in (a := a)
  have hlen := spotsF_length a
  unfold gspotsF gapsGF
  refine ⟨trivial, fun hc => ?_, fun hc => ?_⟩
  · have hc : (checkF a).2.2 ≠ 0 := by
      intro e
      rw [if_neg (by omega)] at hc
      simp at hc
    rw [if_pos hc, if_pos hc]
    exact ⟨rfl, rfl, trivial⟩
  · have hc : (checkF a).2.2 = 0 := by
      apply Classical.byContradiction
      intro e
      rw [if_pos e] at hc
      simp [e] at hc
    obtain ⟨_, _, h3, h4, _, _, h5⟩ := h hc
    rw [if_neg (by omega), if_neg (by omega)]
    rw [h3] at h5
    exact ⟨⟨hlen, fun s hs => (h5 s hs).2⟩, rfl, rfl, trivial⟩
theorem e_gapsGaps : pv_gapsGaps = fnVC Try.prog (tbl [(109, sp_gapSpots), (110, sp_gapGaps)]) an_0 Try.f35 sp_gapsGaps := by kernel_rfl
theorem vc_gapsGaps : fnVC Try.prog (tbl [(109, sp_gapSpots), (110, sp_gapGaps)]) an_0 Try.f35 sp_gapsGaps := @Eq.mp _ _ @e_gapsGaps @vcp_gapsGaps
theorem ok_gapsGaps : sp_gapsGaps.ok Try.prog 35 := fn_sound (P := Try.prog) (ss := tbl [(109, sp_gapSpots), (110, sp_gapGaps)]) (ann := an_0) (f := 35) (fn := Try.f35) (s := sp_gapsGaps) (tbl_cons ok_gapSpots (tbl_cons ok_gapGaps tbl_nil)) Try.func35 @vc_gapsGaps

/-- A stretch becomes one free object. -/
def emptiedL (a : List Int) (at_ n : Int) : List Int := if 0 < n then (fillL a at_ n 0 n).set at_.toNat (headWord (0, n - 1, 0, true)) else a
def layPre (a : List Int) (at_ n : Int) : Prop := 0 ≤ at_ ∧ 0 ≤ n ∧ at_ + n ≤ a.length ∧ a.length ≤ 256
theorem fillF_ok {a : List Int} {at_ n v : Int} (h : layPre a at_ n) : fillF a at_ n v = (fillL a at_ n v n, 0) := by
  obtain ⟨h1, h2, h3, h4⟩ := h
  have : stretchF a.length n [at_] = 0 := by
    rw [stretch1, if_neg (by omega), if_pos]
    rw [stretchOK_iff]
    omega
  unfold fillF
  rw [if_pos this]

def sp_lay1 : Spec := { Ts := [.arr ty_W, ty_I, ty_I], Rs := [.own 39 ty_W], pre := fun ((a, at_, n) : List Int × Int × Int) => layPre a at_ n ∧ 1 ≤ n, F := fun ((a, at_, n) : List Int × Int × Int) => emptiedL a at_ n }
def pv_lay1 : Prop :=
    ∀ (x : List Int × Int × Int),
  (x.fst.length * (8 : Nat) ≤ big ∧ ∀ (x_1 : Int), x_1 ∈ x.fst → InR IntKind.u64 x_1) ∧
      InR IntKind.i64 x.snd.fst ∧ InR IntKind.i64 x.snd.snd →
    layPre x.fst x.snd.fst x.snd.snd ∧ (1 : Int) ≤ x.snd.snd →
      (decide (x.snd.snd = (0 : Int)) = true → False) ∧
        (decide (x.snd.snd = (0 : Int)) = false →
          InR IntKind.i64 (x.snd.snd - (1 : Int)) ∧
            True ∧
              True ∧
                (0 : Int) ≤ x.snd.fst ∧
                  x.snd.fst < (↑(fillF x.fst x.snd.fst x.snd.snd (0 : Int)).fst.length : Int) ∧
                    x.snd.fst.toNat < (fillF x.fst x.snd.fst x.snd.snd (0 : Int)).fst.length ∧
                      (fillF x.fst x.snd.fst x.snd.snd (0 : Int)).fst.set x.snd.fst.toNat
                            (if headFault ((0 : Int), x.snd.snd - (1 : Int), (0 : Int), true) = (0 : Int) then
                              headWord ((0 : Int), x.snd.snd - (1 : Int), (0 : Int), true)
                            else (0 : Int)) =
                          emptiedL x.fst x.snd.fst x.snd.snd ∧
                        True)
theorem vcp_lay1 : pv_lay1 := by
  unfold pv_lay1
  intro ⟨a, at_, n⟩ _ ⟨hp, h1⟩
  simp only at hp h1 ⊢
  rw [fillF_ok hp]
  obtain ⟨p1, p2, p3, p4⟩ := hp
  have hf : headFault (0, n - 1, 0, true) = 0 := by simp [headFault, headLong]; omega
  have hl := fillL_length a at_ n 0 n p1 p3 p2 (by omega)
  rw [if_pos hf]
  have hE : emptiedL a at_ n = (fillL a at_ n 0 n).set at_.toNat (headWord (0, n - 1, 0, true)) := by unfold emptiedL; rw [if_pos (by omega)]
  rw [hE]
  simp only [InR]
  exact ⟨fun h => by have := of_decide_eq_true h; omega, fun _ => ⟨by omega, trivial, trivial, by omega, by omega, by omega, trivial, trivial⟩⟩
theorem e_lay1 : pv_lay1 = fnVC Try.prog (tbl [(113, sp_headWord), (116, sp_wordFill)]) an_0 Try.f112 sp_lay1 := by kernel_rfl
theorem vc_lay1 : fnVC Try.prog (tbl [(113, sp_headWord), (116, sp_wordFill)]) an_0 Try.f112 sp_lay1 := @Eq.mp _ _ @e_lay1 @vcp_lay1
theorem ok_lay1 : sp_lay1.ok Try.prog 112 := fn_sound (P := Try.prog) (ss := tbl [(113, sp_headWord), (116, sp_wordFill)]) (ann := an_0) (f := 112) (fn := Try.f112) (s := sp_lay1) (tbl_cons ok_headWord (tbl_cons ok_wordFill tbl_nil)) Try.func112 @vc_lay1

def sp_layA : Spec := { Ts := [.arr ty_W, ty_I, ty_I], Rs := [.dat (.arr ty_W)], al := true, pre := fun ((a, at_, n) : List Int × Int × Int) => layPre a at_ n, F := fun ((a, at_, n) : List Int × Int × Int) => emptiedL a at_ n }
def pv_layA : Prop :=
    ∀ (x : List Int × Int × Int),
  (x.fst.length * (8 : Nat) ≤ big ∧ ∀ (x_1 : Int), x_1 ∈ x.fst → InR IntKind.u64 x_1) ∧
      InR IntKind.i64 x.snd.fst ∧ InR IntKind.i64 x.snd.snd →
    layPre x.fst x.snd.fst x.snd.snd →
      (decide (x.snd.snd = (0 : Int)) = true → x.fst = emptiedL x.fst x.snd.fst x.snd.snd ∧ True) ∧
        (decide (x.snd.snd = (0 : Int)) = false →
          InR IntKind.i64 (x.snd.snd - (1 : Int)) ∧
            True ∧
              True ∧
                (0 : Int) ≤ x.snd.fst ∧
                  x.snd.fst < (↑(fillF x.fst x.snd.fst x.snd.snd (0 : Int)).fst.length : Int) ∧
                    x.snd.fst.toNat < (fillF x.fst x.snd.fst x.snd.snd (0 : Int)).fst.length ∧
                      (fillF x.fst x.snd.fst x.snd.snd (0 : Int)).fst.set x.snd.fst.toNat
                            (if headFault ((0 : Int), x.snd.snd - (1 : Int), (0 : Int), true) = (0 : Int) then
                              headWord ((0 : Int), x.snd.snd - (1 : Int), (0 : Int), true)
                            else (0 : Int)) =
                          emptiedL x.fst x.snd.fst x.snd.snd ∧
                        True)
theorem vcp_layA : pv_layA := by
  unfold pv_layA
  intro ⟨a, at_, n⟩ _ hp
  simp only at hp ⊢
  rw [fillF_ok hp]
  obtain ⟨p1, p2, p3, p4⟩ := hp
  refine ⟨fun h => ?_, fun h => ?_⟩
  · have h := of_decide_eq_true h
    unfold emptiedL
    rw [if_neg (by omega)]
    exact ⟨rfl, trivial⟩
  · have h := of_decide_eq_false h
    have hf : headFault (0, n - 1, 0, true) = 0 := by simp [headFault, headLong]; omega
    have hl := fillL_length a at_ n 0 n p1 p3 p2 (by omega)
    rw [if_pos hf]
    have hE : emptiedL a at_ n = (fillL a at_ n 0 n).set at_.toNat (headWord (0, n - 1, 0, true)) := by unfold emptiedL; rw [if_pos (by omega)]
    rw [hE]
    simp only [InR]
    exact ⟨by omega, trivial, trivial, by omega, by omega, by omega, trivial, trivial⟩
theorem e_layA : pv_layA = fnVC Try.prog (tbl [(113, sp_headWord), (116, sp_wordFill)]) an_0 Try.f112 sp_layA := by kernel_rfl
theorem vc_layA : fnVC Try.prog (tbl [(113, sp_headWord), (116, sp_wordFill)]) an_0 Try.f112 sp_layA := @Eq.mp _ _ @e_layA @vcp_layA
theorem ok_layA : sp_layA.ok Try.prog 112 := fn_sound (P := Try.prog) (ss := tbl [(113, sp_headWord), (116, sp_wordFill)]) (ann := an_0) (f := 112) (fn := Try.f112) (s := sp_layA) (tbl_cons ok_headWord (tbl_cons ok_wordFill tbl_nil)) Try.func112 @vc_layA

def joinF (a : List Int) : List Int × Int := if (checkF a).2.2 ≠ 0 then ([], (checkF a).2.2) else ((gapsL false [] (spotsF a).1).foldl (fun a r => emptiedL a r.1 r.2) a, 0)
theorem emptiedL_length {a : List Int} {at_ n : Int} (h : layPre a at_ n) : (emptiedL a at_ n).length = a.length := by
  obtain ⟨p1, p2, p3, p4⟩ := h
  unfold emptiedL
  split
  · rw [List.length_set]
    exact fillL_length a at_ n 0 n p1 p3 p2 (by omega)
  · rfl
/-- The objects lie one behind the other, from s to e. -/
def Tiles : Int → Int → List Spot → Prop
  | s, e, [] => s = e
  | s, e, x :: r => x.1 = s ∧ 1 ≤ headLong x.2 ∧ Tiles (s + headLong x.2) e r

theorem spotsS_tiles (at_ : Int) (l : List Int) (r : List Spot) (h : spotsS at_ l = some r) : Tiles at_ (at_ + l.length) r := by
  induction at_, l using spotsS.induct generalizing r with
  | case1 at_ =>
    simp only [spotsS, Option.some.injEq] at h
    subst h
    simp [Tiles]
  | case2 at_ v l hv ih =>
    rw [spotsS_cons hv.1 hv.2] at h
    obtain ⟨r', hr, rfl⟩ := Option.map_eq_some_iff.1 h
    have hl := isHead_long hv.1
    have h2 := ih r' hr
    refine ⟨rfl, hl.1, ?_⟩
    have e : at_ + headLong (headOf v) + (((v :: l).drop (headLong (headOf v)).toNat).length : Nat) = at_ + ((v :: l).length : Nat) := by
      rw [List.length_drop]
      have := hv.2
      omega
    rw [e] at h2
    exact h2
  | case3 at_ v l hv =>
    rw [spotsS_none hv] at h
    cases h

theorem spotsF_tiles {a : List Int} (h : (spotsF a).2 = 0) : Tiles 0 a.length (spotsF a).1 := by
  unfold spotsF at h ⊢
  split at h
  · simp at h
  rename_i cl
  rw [if_neg cl]
  cases e : spotsS 0 a with
  | none => rw [e] at h; simp at h
  | some l =>
    have := spotsS_tiles 0 a l e
    rw [Int.zero_add] at this
    exact this

/-- The stretches lie within so many words. -/
def gapsIn (n : Int) (l : List Gap) : Prop := ∀ r ∈ l, 0 ≤ r.1 ∧ 1 ≤ r.2 ∧ r.1 + r.2 ≤ n

theorem gapsL_in : ∀ (l : List Spot) (s e : Int) (p : Bool) (out : List Gap), Tiles s e l → 0 ≤ s → gapsIn s out → (p = true → 0 < out.length ∧ (out.getD (out.length - 1) (0, 0)).1 + (out.getD (out.length - 1) (0, 0)).2 = s) → gapsIn e (gapsL p out l) ∧ s ≤ e
  | [], s, e, p, out, ht, h0, ho, _ => by
    have : s = e := ht
    subst this
    exact ⟨ho, Int.le_refl _⟩
  | x :: l, s, e, p, out, ⟨h1, h2, h3⟩, h0, ho, hp => by
    simp only [gapsL]
    have up : gapsIn (s + headLong x.2) out := fun r hr => by have := ho r hr; omega
    cases hf : x.2.2.2.2
    · have ih := gapsL_in l _ e false out h3 (by omega) up (fun h => by cases h)
      simp only [Bool.false_eq_true, if_false]
      exact ⟨ih.1, by omega⟩
    · simp only [if_true]
      cases p
      · have ih := gapsL_in l _ e true (out ++ [(x.1, headLong x.2)]) h3 (by omega) (fun r hr => by
          rcases List.mem_append.1 hr with hr | hr
          · exact up r hr
          · simp only [List.mem_singleton] at hr
            subst hr
            simp only
            omega) (fun _ => ⟨by simp, by simp; omega⟩)
        simp only [Bool.false_eq_true, if_false]
        exact ⟨ih.1, by omega⟩
      · obtain ⟨q1, q2⟩ := hp rfl
        have hlast := ho _ (getD_mem ((0, 0) : Gap) (xs := out) (i := (out.length : Int) - 1) (by omega) (by omega))
        rw [show ((out.length : Int) - 1).toNat = out.length - 1 by omega] at hlast
        have ih := gapsL_in l _ e true (bumpL out (headLong x.2)) h3 (by omega) (fun r hr => by
          rcases List.mem_or_eq_of_mem_set hr with hr | rfl
          · exact up r hr
          · simp only
            omega) (fun _ => ⟨by rw [bumpL_length]; exact q1, by
              rw [bumpL_length]
              unfold bumpL
              simp [show out.length - 1 < out.length by omega]
              simp [show out.length - 1 < out.length by omega] at q2
              omega⟩)
        simp only [if_true]
        exact ⟨ih.1, by omega⟩

theorem gapsL_length : ∀ (l : List Spot) (p : Bool) (out : List Gap), (gapsL p out l).length ≤ out.length + l.length
  | [], _, _ => by simp [gapsL]
  | x :: l, p, out => by
    have h1 := gapsL_length l x.2.2.2.2 (if x.2.2.2.2 = true then (if p = true then bumpL out (headLong x.2) else out ++ [(x.1, headLong x.2)]) else out)
    simp only [gapsL, List.length_cons]
    have : (if x.2.2.2.2 = true then (if p = true then bumpL out (headLong x.2) else out ++ [(x.1, headLong x.2)]) else out).length ≤ out.length + 1 := by
      split
      · split
        · rw [bumpL_length]; omega
        · simp
      · omega
    omega

theorem gaps_in {a : List Int} (h : (spotsF a).2 = 0) : gapsIn a.length (gapsL false [] (spotsF a).1) ∧ (gapsL false [] (spotsF a).1).length ≤ 256 := by
  have h1 := gapsL_in _ 0 a.length false [] (spotsF_tiles h) (Int.le_refl _) (fun r hr => by cases hr) (fun h => by cases h)
  have h2 := gapsL_length (spotsF a).1 false []
  have h3 := spotsF_length a
  exact ⟨h1.1, by simp at h2; omega⟩

def an_gapJoin : Nat → Option LoopGen
  | 6 => some { rd := [.own 19 72 ty_Gap, .own 0 39 ty_W], A := fun ((g, b) : List Gap × List Int) => { cs := [.own 0 39 ty_W, .dat 21 ty_I], inv := fun ((a, i) : List Int × Int) => 0 ≤ i ∧ i ≤ g.length ∧ g.length ≤ 256 ∧ a.length ≤ 256 ∧ gapsIn a.length g ∧ a = (g.take i.toNat).foldl (fun a r => emptiedL a r.1 r.2) b, mu := fun ((_, i) : List Int × Int) => (g.length - i).toNat } }
  | _ => none
def sp_gapJoin : Spec := { Ts := [.arr ty_W], Rs := [.own 39 ty_W, .dat ty_I], pre := fun _ => True, F := joinF }
def pv_gapJoin : Prop :=
    ∀ (x : List Int),
  (x.length * (8 : Nat) ≤ big ∧ ∀ (x_1 : Int), x_1 ∈ x → InR IntKind.u64 x_1) →
    True →
      True ∧
        (decide ((gspotsF x).snd ≠ (0 : Int)) = true →
            ([] : List Int) = (joinF x).fst ∧ (gspotsF x).snd = (joinF x).snd ∧ True) ∧
          (decide ((gspotsF x).snd ≠ (0 : Int)) = false →
            True ∧
              ((gspotsF x).fst.length ≤ (256 : Nat) ∧ ∀ (s : Spot), s ∈ (gspotsF x).fst → headFault s.snd = (0 : Int)) ∧
                ((0 : Int) ≤ (0 : Int) ∧
                    (0 : Int) ≤ (↑(gapsL false ([] : List Gap) (gspotsF x).fst).length : Int) ∧
                      (gapsL false ([] : List Gap) (gspotsF x).fst).length ≤ (256 : Nat) ∧
                        x.length ≤ (256 : Nat) ∧
                          gapsIn (↑x.length : Int) (gapsL false ([] : List Gap) (gspotsF x).fst) ∧
                            x =
                              List.foldl (fun (a : List Int) (r : Gap) => emptiedL a r.fst r.snd) x
                                (List.take (Int.toNat (0 : Int)) (gapsL false ([] : List Gap) (gspotsF x).fst))) ∧
                  ∀ (x_1 : List Int × Int),
                    (0 : Int) ≤ x_1.snd ∧
                        x_1.snd ≤ (↑(gapsL false ([] : List Gap) (gspotsF x).fst).length : Int) ∧
                          (gapsL false ([] : List Gap) (gspotsF x).fst).length ≤ (256 : Nat) ∧
                            x_1.fst.length ≤ (256 : Nat) ∧
                              gapsIn (↑x_1.fst.length : Int) (gapsL false ([] : List Gap) (gspotsF x).fst) ∧
                                x_1.fst =
                                  List.foldl (fun (a : List Int) (r : Gap) => emptiedL a r.fst r.snd) x
                                    (List.take x_1.snd.toNat (gapsL false ([] : List Gap) (gspotsF x).fst)) →
                      (decide (x_1.snd < (↑(gapsL false ([] : List Gap) (gspotsF x).fst).length : Int)) = true →
                          (0 : Int) ≤ x_1.snd ∧
                            x_1.snd < (↑(gapsL false ([] : List Gap) (gspotsF x).fst).length : Int) ∧
                              x_1.snd.toNat < (gapsL false ([] : List Gap) (gspotsF x).fst).length ∧
                                (layPre x_1.fst
                                      ((gapsL false ([] : List Gap) (gspotsF x).fst).getD x_1.snd.toNat
                                          ((0 : Int), (0 : Int))).fst
                                      ((gapsL false ([] : List Gap) (gspotsF x).fst).getD x_1.snd.toNat
                                          ((0 : Int), (0 : Int))).snd ∧
                                    (1 : Int) ≤
                                      ((gapsL false ([] : List Gap) (gspotsF x).fst).getD x_1.snd.toNat
                                          ((0 : Int), (0 : Int))).snd) ∧
                                  InR IntKind.i64 (x_1.snd + (1 : Int)) ∧
                                    ((0 : Int) ≤ x_1.snd + (1 : Int) ∧
                                        x_1.snd + (1 : Int) ≤
                                            (↑(gapsL false ([] : List Gap) (gspotsF x).fst).length : Int) ∧
                                          (gapsL false ([] : List Gap) (gspotsF x).fst).length ≤ (256 : Nat) ∧
                                            (emptiedL x_1.fst
                                                    ((gapsL false ([] : List Gap) (gspotsF x).fst).getD x_1.snd.toNat
                                                        ((0 : Int), (0 : Int))).fst
                                                    ((gapsL false ([] : List Gap) (gspotsF x).fst).getD x_1.snd.toNat
                                                        ((0 : Int), (0 : Int))).snd).length ≤
                                                (256 : Nat) ∧
                                              gapsIn
                                                  (↑(emptiedL x_1.fst
                                                          ((gapsL false ([] : List Gap) (gspotsF x).fst).getD
                                                              x_1.snd.toNat ((0 : Int), (0 : Int))).fst
                                                          ((gapsL false ([] : List Gap) (gspotsF x).fst).getD
                                                              x_1.snd.toNat ((0 : Int), (0 : Int))).snd).length :
                                                    Int)
                                                  (gapsL false ([] : List Gap) (gspotsF x).fst) ∧
                                                emptiedL x_1.fst
                                                    ((gapsL false ([] : List Gap) (gspotsF x).fst).getD x_1.snd.toNat
                                                        ((0 : Int), (0 : Int))).fst
                                                    ((gapsL false ([] : List Gap) (gspotsF x).fst).getD x_1.snd.toNat
                                                        ((0 : Int), (0 : Int))).snd =
                                                  List.foldl (fun (a : List Int) (r : Gap) => emptiedL a r.fst r.snd) x
                                                    (List.take (x_1.snd + (1 : Int)).toNat
                                                      (gapsL false ([] : List Gap) (gspotsF x).fst))) ∧
                                      ((↑(gapsL false ([] : List Gap) (gspotsF x).fst).length : Int) -
                                            (x_1.snd + (1 : Int))).toNat <
                                        ((↑(gapsL false ([] : List Gap) (gspotsF x).fst).length : Int) -
                                            x_1.snd).toNat) ∧
                        (decide (x_1.snd < (↑(gapsL false ([] : List Gap) (gspotsF x).fst).length : Int)) = false →
                          x_1.fst = (joinF x).fst ∧ (0 : Int) = (joinF x).snd ∧ True))
theorem vcp_gapJoin : pv_gapJoin := by
  unfold pv_gapJoin
  intro a _ _
  have h := checkF_in (a := a)
  have hlen := spotsF_length a
  unfold gspotsF joinF
  refine ⟨trivial, fun hc => ?_, fun hc => ?_⟩
  · have hc : (checkF a).2.2 ≠ 0 := by
      intro e
      rw [if_neg (by omega)] at hc
      simp at hc
    rw [if_pos hc, if_pos hc]
    exact ⟨rfl, rfl, trivial⟩
  · have hc : (checkF a).2.2 = 0 := by
      apply Classical.byContradiction
      intro e
      rw [if_pos e] at hc
      simp [e] at hc
    obtain ⟨hal, _, h3, h4, _, _, h5⟩ := h hc
    rw [if_neg (by omega), if_neg (by omega)]
    rw [h3] at h5
    obtain ⟨g1, g2⟩ := gaps_in h4
    simp only
    generalize gapsL false [] (spotsF a).1 = g at *
    refine ⟨trivial, ⟨hlen, fun s hs => (h5 s hs).2⟩, ⟨by omega, by omega, g2, hal, g1, rfl⟩, fun ⟨b, i⟩ ⟨q0, q1, _, q2, q3, q4⟩ => ⟨fun hlt => ?_, fun hge => ?_⟩⟩
    · have hlt : i < (g.length : Int) := of_decide_eq_true hlt
      simp only at q0 q1 q2 q3 q4 ⊢
      have e := take_snoc ((0, 0) : Gap) q0 hlt
      have hr := q3 _ (getD_mem ((0, 0) : Gap) q0 hlt)
      rw [e, List.foldl_append, ← q4]
      generalize g.getD i.toNat (0, 0) = r at *
      have hp : layPre b r.1 r.2 := ⟨hr.1, by omega, hr.2.2, q2⟩
      rw [emptiedL_length hp]
      simp only [InR]
      exact ⟨q0, hlt, by omega, ⟨hp, hr.2.1⟩, by omega, ⟨by omega, by omega, g2, q2, q3, rfl⟩, by omega⟩
    · have hge : ¬ i < (g.length : Int) := of_decide_eq_false hge
      simp only at q4
      rw [take_end hge] at q4
      exact ⟨q4, trivial, trivial⟩
theorem e_gapJoin : pv_gapJoin = fnVC Try.prog (tbl [(109, sp_gapSpots), (111, sp_cloneWords), (110, sp_gapGaps), (112, sp_lay1)]) an_gapJoin Try.f36 sp_gapJoin := by kernel_rfl
theorem vc_gapJoin : fnVC Try.prog (tbl [(109, sp_gapSpots), (111, sp_cloneWords), (110, sp_gapGaps), (112, sp_lay1)]) an_gapJoin Try.f36 sp_gapJoin := @Eq.mp _ _ @e_gapJoin @vcp_gapJoin
theorem ok_gapJoin : sp_gapJoin.ok Try.prog 36 := fn_sound (P := Try.prog) (ss := tbl [(109, sp_gapSpots), (111, sp_cloneWords), (110, sp_gapGaps), (112, sp_lay1)]) (ann := an_gapJoin) (f := 36) (fn := Try.f36) (s := sp_gapJoin) (tbl_cons ok_gapSpots (tbl_cons ok_cloneWords (tbl_cons ok_gapGaps (tbl_cons ok_lay1 tbl_nil)))) Try.func36 @vc_gapJoin

def findG (l : List Spot) (at_ : Int) (fr : Bool) : Spot × Bool :=
  if findFrom (fun s : Spot => decide (s.1 = at_) && s.2.2.2.2 == fr) 0 l < 0 then ((0, 0, 0, 0, false), false) else (l.getD (findFrom (fun s : Spot => decide (s.1 = at_) && s.2.2.2.2 == fr) 0 l).toNat (0, 0, 0, 0, false), true)
def sp_gapIs : Spec := { Ts := [ty_Spot, .ref ty_I, .ref .bool], Rs := [.dat .bool], pre := fun _ => True, F := fun ((s, at_, fr) : Spot × Int × Bool) => decide (s.1 = at_) && s.2.2.2.2 == fr }
def pv_gapIs : Prop :=
    ∀ (x : (Int × Int × Int × Int × Bool) × Int × Bool),
  (InR IntKind.i64 x.fst.fst ∧
        InR IntKind.i64 x.fst.snd.fst ∧
          InR IntKind.i64 x.fst.snd.snd.fst ∧ InR IntKind.i64 x.fst.snd.snd.snd.fst ∧ True) ∧
      InR IntKind.i64 x.snd.fst ∧ True →
    True →
      (decide (x.fst.fst = x.snd.fst) && x.fst.snd.snd.snd.snd == x.snd.snd) =
          (decide (x.fst.fst = x.snd.fst) && x.fst.snd.snd.snd.snd == x.snd.snd) ∧
        True
theorem vcp_gapIs : pv_gapIs := by
  unfold pv_gapIs
  intro ⟨s, at_, fr⟩ _ _
  simp
theorem e_gapIs : pv_gapIs = fnVC Try.prog (tbl []) an_0 Try.f183 sp_gapIs := by kernel_rfl
theorem vc_gapIs : fnVC Try.prog (tbl []) an_0 Try.f183 sp_gapIs := @Eq.mp _ _ @e_gapIs @vcp_gapIs
theorem ok_gapIs : sp_gapIs.ok Try.prog 183 := fn_sound (P := Try.prog) (ss := tbl []) (ann := an_0) (f := 183) (fn := Try.f183) (s := sp_gapIs) tbl_nil Try.func183 @vc_gapIs

def sp_gapFind : Spec := { Ts := [.arr ty_Spot, ty_I, .bool], Rs := [.dat ty_Spot, .dat .bool], pre := fun _ => True, F := fun ((l, at_, fr) : List Spot × Int × Bool) => findG l at_ fr }
def pv_gapFind : Prop :=
    ∀ (x : List (Int × Int × Int × Int × Bool) × Int × Bool),
  (x.fst.length * ((8 : Nat) + ((8 : Nat) + ((8 : Nat) + ((8 : Nat) + (8 : Nat))))) ≤ big ∧
        ∀ (x_1 : Int × Int × Int × Int × Bool),
          x_1 ∈ x.fst →
            InR IntKind.i64 x_1.fst ∧
              InR IntKind.i64 x_1.snd.fst ∧
                InR IntKind.i64 x_1.snd.snd.fst ∧ InR IntKind.i64 x_1.snd.snd.snd.fst ∧ True) ∧
      InR IntKind.i64 x.snd.fst ∧ True →
    True →
      (∀ (s : Spot),
          s ∈ x.fst →
            (fun (x : Int × Int × Int × Int × Bool) => True, fun (x_1 : Int × Int × Int × Int × Bool) =>
                  decide (x_1.fst = x.snd.fst) && x_1.snd.snd.snd.snd == x.snd.snd).fst
              s) ∧
        (decide
                (findFrom
                    (fun (x_1 : Int × Int × Int × Int × Bool) =>
                      decide (x_1.fst = x.snd.fst) && x_1.snd.snd.snd.snd == x.snd.snd)
                    (0 : Int) x.fst <
                  (0 : Int)) =
              true →
            ((0 : Int), (0 : Int), (0 : Int), (0 : Int), false) = (findG x.fst x.snd.fst x.snd.snd).fst ∧
              false = (findG x.fst x.snd.fst x.snd.snd).snd ∧ True) ∧
          (decide
                (findFrom
                    (fun (x_1 : Int × Int × Int × Int × Bool) =>
                      decide (x_1.fst = x.snd.fst) && x_1.snd.snd.snd.snd == x.snd.snd)
                    (0 : Int) x.fst <
                  (0 : Int)) =
              false →
            (0 : Int) ≤
                findFrom
                  (fun (x_1 : Int × Int × Int × Int × Bool) =>
                    decide (x_1.fst = x.snd.fst) && x_1.snd.snd.snd.snd == x.snd.snd)
                  (0 : Int) x.fst ∧
              findFrom
                    (fun (x_1 : Int × Int × Int × Int × Bool) =>
                      decide (x_1.fst = x.snd.fst) && x_1.snd.snd.snd.snd == x.snd.snd)
                    (0 : Int) x.fst <
                  (↑x.fst.length : Int) ∧
                x.fst.getD
                      (findFrom
                          (fun (x_1 : Int × Int × Int × Int × Bool) =>
                            decide (x_1.fst = x.snd.fst) && x_1.snd.snd.snd.snd == x.snd.snd)
                          (0 : Int) x.fst).toNat
                      ((0 : Int), (0 : Int), (0 : Int), (0 : Int), false) =
                    (findG x.fst x.snd.fst x.snd.snd).fst ∧
                  true = (findG x.fst x.snd.fst x.snd.snd).snd ∧ True)
theorem vcp_gapFind : pv_gapFind := by
  unfold pv_gapFind
  intro ⟨l, at_, fr⟩ _ _
  simp only
  have hlt := findFrom_lt (fun s : Spot => decide (s.1 = at_) && s.2.2.2.2 == fr) (0, 0, 0, 0, false) l 0 (by omega)
  unfold findG
  refine ⟨fun _ _ => trivial, fun h => ?_, fun h => ?_⟩
  · rw [if_pos (of_decide_eq_true h)]
    exact ⟨rfl, rfl, trivial⟩
  · rw [if_neg (of_decide_eq_false h)]
    have h1 : 0 ≤ findFrom (fun s : Spot => decide (s.1 = at_) && s.2.2.2.2 == fr) 0 l := Int.not_lt.1 (of_decide_eq_false h)
    have h2 : findFrom (fun s : Spot => decide (s.1 = at_) && s.2.2.2.2 == fr) 0 l < (l.length : Int) := by omega
    exact ⟨h1, h2, rfl, rfl, trivial⟩
theorem e_gapFind : pv_gapFind = fnVC Try.prog (tbl [(174, sp_idxSpot), (183, sp_gapIs)]) an_0 Try.f114 sp_gapFind := by kernel_rfl
theorem vc_gapFind : fnVC Try.prog (tbl [(174, sp_idxSpot), (183, sp_gapIs)]) an_0 Try.f114 sp_gapFind := @Eq.mp _ _ @e_gapFind @vcp_gapFind
theorem ok_gapFind : sp_gapFind.ok Try.prog 114 := fn_sound (P := Try.prog) (ss := tbl [(174, sp_idxSpot), (183, sp_gapIs)]) (ann := an_0) (f := 114) (fn := Try.f114) (s := sp_gapFind) (tbl_cons ok_idxSpot (tbl_cons ok_gapIs tbl_nil)) Try.func114 @vc_gapFind

theorem findG_in (l : List Spot) (at_ : Int) (fr : Bool) (h : (findG l at_ fr).2 = true) : (findG l at_ fr).1 ∈ l ∧ (findG l at_ fr).1.1 = at_ ∧ (findG l at_ fr).1.2.2.2.2 = fr := by
  have hlt := findFrom_lt (fun s : Spot => decide (s.1 = at_) && s.2.2.2.2 == fr) (0, 0, 0, 0, false) l 0 (by omega)
  have his := findFrom_is (fun s : Spot => decide (s.1 = at_) && s.2.2.2.2 == fr) (0, 0, 0, 0, false) l 0
  unfold findG at h ⊢
  split at h
  · cases h
  · rename_i hn
    rw [if_neg hn]
    have his := his (by omega) (by omega)
    rw [Int.sub_zero] at his
    simp only [Bool.and_eq_true, decide_eq_true_eq, beq_iff_eq] at his
    exact ⟨getD_mem _ (by omega) (by omega), his.1, his.2⟩

theorem gspots_fault {a : List Int} : (gspotsF a).2 = (checkF a).2.2 := by
  unfold gspotsF
  split
  · rfl
  · simp only; omega
theorem gspots_ok {a : List Int} (h : (checkF a).2.2 = 0) : (gspotsF a).1 = (spotsF a).1 ∧ a.length ≤ 256 ∧ ∀ s ∈ (spotsF a).1, spotIn a s ∧ headFault s.2 = 0 := by
  obtain ⟨h1, _, h3, _, _, _, h5⟩ := checkF_in h
  rw [h3] at h5
  unfold gspotsF
  rw [if_neg (by omega)]
  exact ⟨rfl, h1, h5⟩

def sp_idxW : Spec := { Ts := [.arr ty_W, ty_W], Rs := [.dat ty_I], pre := fun _ => True, F := fun ((l, v) : List Int × Int) => findFrom (fun x => decide (v = x)) 0 l }
def an_idxW : Nat → Option LoopGen
  | 2 => some { rd := [.dat 0 (.arr ty_W), .dat 1 ty_W], A := fun ((l, v) : List Int × Int) => { cs := [.dat 8 ty_I], inv := fun (i : Int) => 0 ≤ i ∧ i ≤ l.length ∧ findFrom (fun x => decide (v = x)) i (l.drop i.toNat) = findFrom (fun x => decide (v = x)) 0 l, mu := fun (i : Int) => (l.length - i).toNat } }
  | _ => none
def pv_idxW : Prop :=
    ∀ (x : List Int × Int),
  (x.fst.length * (8 : Nat) ≤ big ∧ ∀ (x_1 : Int), x_1 ∈ x.fst → InR IntKind.u64 x_1) ∧ InR IntKind.u64 x.snd →
    True →
      ((0 : Int) ≤ (0 : Int) ∧
          (0 : Int) ≤ (↑x.fst.length : Int) ∧
            findFrom (fun (x_1 : Int) => decide (x.snd = x_1)) (0 : Int) (List.drop (Int.toNat (0 : Int)) x.fst) =
              findFrom (fun (x_1 : Int) => decide (x.snd = x_1)) (0 : Int) x.fst) ∧
        ∀ (x_1 : Int),
          (0 : Int) ≤ x_1 ∧
              x_1 ≤ (↑x.fst.length : Int) ∧
                findFrom (fun (x_2 : Int) => decide (x.snd = x_2)) x_1 (List.drop x_1.toNat x.fst) =
                  findFrom (fun (x_2 : Int) => decide (x.snd = x_2)) (0 : Int) x.fst →
            (decide (x_1 < (↑x.fst.length : Int)) = true →
                (0 : Int) ≤ x_1 ∧
                  x_1 < (↑x.fst.length : Int) ∧
                    (decide (x.snd = x.fst.getD x_1.toNat (0 : Int)) = true →
                        x_1 = findFrom (fun (x_2 : Int) => decide (x.snd = x_2)) (0 : Int) x.fst ∧ True) ∧
                      (decide (x.snd = x.fst.getD x_1.toNat (0 : Int)) = false →
                        InR IntKind.i64 (x_1 + (1 : Int)) ∧
                          ((0 : Int) ≤ x_1 + (1 : Int) ∧
                              x_1 + (1 : Int) ≤ (↑x.fst.length : Int) ∧
                                findFrom (fun (x_2 : Int) => decide (x.snd = x_2)) (x_1 + (1 : Int))
                                    (List.drop (x_1 + (1 : Int)).toNat x.fst) =
                                  findFrom (fun (x_2 : Int) => decide (x.snd = x_2)) (0 : Int) x.fst) ∧
                            ((↑x.fst.length : Int) - (x_1 + (1 : Int))).toNat < ((↑x.fst.length : Int) - x_1).toNat)) ∧
              (decide (x_1 < (↑x.fst.length : Int)) = false →
                (-1 : Int) = findFrom (fun (x_2 : Int) => decide (x.snd = x_2)) (0 : Int) x.fst ∧ True)
theorem vcp_idxW : pv_idxW := by
  unfold pv_idxW
  intro ⟨l, n⟩ ⟨⟨hb, _⟩, _⟩ _
  unfold big at hb
  refine ⟨⟨by omega, by omega, rfl⟩, fun i ⟨h0, h1, h2⟩ => ⟨fun hlt => ?_, fun hge => ?_⟩⟩
  · have hlt : i < (l.length : Int) := by simpa using hlt
    simp only at *
    rw [drop_cons (0 : Int) h0 hlt] at h2
    simp only [findFrom] at h2
    simp only [InR]
    refine ⟨h0, hlt, fun hc => ?_, fun hc => ?_⟩
    · rw [if_pos hc] at h2
      exact ⟨h2, trivial⟩
    · rw [if_neg (by rw [hc]; simp)] at h2
      exact ⟨by omega, ⟨by omega, by omega, h2⟩, by omega⟩
  · rw [drop_end (by simpa using hge)] at h2
    exact ⟨h2, trivial⟩
theorem e_idxW : pv_idxW = fnVC Try.prog (tbl []) an_idxW Try.f185 sp_idxW := by kernel_rfl
theorem vc_idxW : fnVC Try.prog (tbl []) an_idxW Try.f185 sp_idxW := @Eq.mp _ _ @e_idxW @vcp_idxW
theorem ok_idxW : sp_idxW.ok Try.prog 185 := fn_sound (P := Try.prog) (ss := tbl []) (ann := an_idxW) (f := 185) (fn := Try.f185) (s := sp_idxW) tbl_nil Try.func185 @vc_idxW

def sp_hasW : Spec := { Ts := [.arr ty_W, ty_W], Rs := [.dat .bool], pre := fun _ => True, F := fun ((l, v) : List Int × Int) => l.any fun x => decide (v = x) }
def pv_hasW : Prop :=
    ∀ (x : List Int × Int),
  (x.fst.length * (8 : Nat) ≤ big ∧ ∀ (x_1 : Int), x_1 ∈ x.fst → InR IntKind.u64 x_1) ∧ InR IntKind.u64 x.snd →
    True →
      True ∧
        (decide ((0 : Int) ≤ findFrom (fun (x_1 : Int) => decide (x.snd = x_1)) (0 : Int) x.fst) =
            x.fst.any fun (x_1 : Int) => decide (x.snd = x_1)) ∧
          True
theorem vcp_hasW : pv_hasW := by
  unfold pv_hasW
  intro ⟨l, v⟩ _ _
  exact ⟨trivial, findFrom_any _ l 0 (by omega), trivial⟩
theorem e_hasW : pv_hasW = fnVC Try.prog (tbl [(185, sp_idxW)]) an_0 Try.f117 sp_hasW := by kernel_rfl
theorem vc_hasW : fnVC Try.prog (tbl [(185, sp_idxW)]) an_0 Try.f117 sp_hasW := @Eq.mp _ _ @e_hasW @vcp_hasW
theorem ok_hasW : sp_hasW.ok Try.prog 117 := fn_sound (P := Try.prog) (ss := tbl [(185, sp_idxW)]) (ann := an_0) (f := 117) (fn := Try.f117) (s := sp_hasW) (tbl_cons ok_idxW tbl_nil) Try.func117 @vc_hasW

def takeF (a : List Int) (at_ : Int) (h : Head) : List Int × Int :=
  if headFault h ≠ 0 then ([], headFault h) else if h.2.2.2 = true then ([], 3) else if (checkF a).2.2 ≠ 0 then ([], (checkF a).2.2)
  else if (findG (spotsF a).1 at_ true).2 = false then ([], 5) else if headLong (findG (spotsF a).1 at_ true).1.2 < headLong h then ([], 7)
  else (emptiedL ((fillL a at_ (headLong (findG (spotsF a).1 at_ true).1.2) 0 (headLong (findG (spotsF a).1 at_ true).1.2)).set at_.toNat (headWord h)) (at_ + headLong h) (headLong (findG (spotsF a).1 at_ true).1.2 - headLong h), 0)
def sp_gapTake : Spec := { Ts := [.arr ty_W, ty_I, ty_Head], Rs := [.dat (.arr ty_W), .dat ty_I], al := true, pre := fun _ => True, F := fun ((a, at_, h) : List Int × Int × Head) => takeF a at_ h }
def pv_gapTake : Prop :=
    ∀ (x : List Int × Int × Int × Int × Int × Bool),
  (x.fst.length * (8 : Nat) ≤ big ∧ ∀ (x_1 : Int), x_1 ∈ x.fst → InR IntKind.u64 x_1) ∧
      InR IntKind.i64 x.snd.fst ∧
        InR IntKind.i64 x.snd.snd.fst ∧
          InR IntKind.i64 x.snd.snd.snd.fst ∧ InR IntKind.i64 x.snd.snd.snd.snd.fst ∧ True →
    True →
      True ∧
        (decide (headFault x.snd.snd ≠ (0 : Int)) = true →
            ([] : List Int) = (takeF x.fst x.snd.fst x.snd.snd).fst ∧
              headFault x.snd.snd = (takeF x.fst x.snd.fst x.snd.snd).snd ∧ True) ∧
          (decide (headFault x.snd.snd ≠ (0 : Int)) = false →
            (x.snd.snd.snd.snd.snd = true →
                ([] : List Int) = (takeF x.fst x.snd.fst x.snd.snd).fst ∧
                  (3 : Int) = (takeF x.fst x.snd.fst x.snd.snd).snd ∧ True) ∧
              (x.snd.snd.snd.snd.snd = false →
                True ∧
                  (decide ((gspotsF x.fst).snd ≠ (0 : Int)) = true →
                      ([] : List Int) = (takeF x.fst x.snd.fst x.snd.snd).fst ∧
                        (gspotsF x.fst).snd = (takeF x.fst x.snd.fst x.snd.snd).snd ∧ True) ∧
                    (decide ((gspotsF x.fst).snd ≠ (0 : Int)) = false →
                      True ∧
                        ((!(findG (gspotsF x.fst).fst x.snd.fst true).snd) = true →
                            ([] : List Int) = (takeF x.fst x.snd.fst x.snd.snd).fst ∧
                              (5 : Int) = (takeF x.fst x.snd.fst x.snd.snd).snd ∧ True) ∧
                          ((!(findG (gspotsF x.fst).fst x.snd.fst true).snd) = false →
                            True ∧
                              True ∧
                                (decide
                                        ((if
                                              headFault (findG (gspotsF x.fst).fst x.snd.fst true).fst.snd =
                                                (0 : Int) then
                                            headLong (findG (gspotsF x.fst).fst x.snd.fst true).fst.snd
                                          else (0 : Int)) <
                                          if headFault x.snd.snd = (0 : Int) then headLong x.snd.snd else (0 : Int)) =
                                      true →
                                    ([] : List Int) = (takeF x.fst x.snd.fst x.snd.snd).fst ∧
                                      (7 : Int) = (takeF x.fst x.snd.fst x.snd.snd).snd ∧ True) ∧
                                  (decide
                                        ((if
                                              headFault (findG (gspotsF x.fst).fst x.snd.fst true).fst.snd =
                                                (0 : Int) then
                                            headLong (findG (gspotsF x.fst).fst x.snd.fst true).fst.snd
                                          else (0 : Int)) <
                                          if headFault x.snd.snd = (0 : Int) then headLong x.snd.snd else (0 : Int)) =
                                      false →
                                    True ∧
                                      True ∧
                                        (0 : Int) ≤ x.snd.fst ∧
                                          x.snd.fst <
                                              (↑(fillF x.fst x.snd.fst
                                                        (if
                                                            headFault
                                                                (findG (gspotsF x.fst).fst x.snd.fst true).fst.snd =
                                                              (0 : Int) then
                                                          headLong (findG (gspotsF x.fst).fst x.snd.fst true).fst.snd
                                                        else (0 : Int))
                                                        (0 : Int)).fst.length :
                                                Int) ∧
                                            x.snd.fst.toNat <
                                                (fillF x.fst x.snd.fst
                                                      (if
                                                          headFault (findG (gspotsF x.fst).fst x.snd.fst true).fst.snd =
                                                            (0 : Int) then
                                                        headLong (findG (gspotsF x.fst).fst x.snd.fst true).fst.snd
                                                      else (0 : Int))
                                                      (0 : Int)).fst.length ∧
                                              True ∧
                                                InR IntKind.i64
                                                    (x.snd.fst +
                                                      if headFault x.snd.snd = (0 : Int) then headLong x.snd.snd
                                                      else (0 : Int)) ∧
                                                  True ∧
                                                    True ∧
                                                      InR IntKind.i64
                                                          ((if
                                                                headFault
                                                                    (findG (gspotsF x.fst).fst x.snd.fst true).fst.snd =
                                                                  (0 : Int) then
                                                              headLong
                                                                (findG (gspotsF x.fst).fst x.snd.fst true).fst.snd
                                                            else (0 : Int)) -
                                                            if headFault x.snd.snd = (0 : Int) then headLong x.snd.snd
                                                            else (0 : Int)) ∧
                                                        layPre
                                                            ((fillF x.fst x.snd.fst
                                                                    (if
                                                                        headFault
                                                                            (findG (gspotsF x.fst).fst x.snd.fst
                                                                                  true).fst.snd =
                                                                          (0 : Int) then
                                                                      headLong
                                                                        (findG (gspotsF x.fst).fst x.snd.fst
                                                                              true).fst.snd
                                                                    else (0 : Int))
                                                                    (0 : Int)).fst.set
                                                              x.snd.fst.toNat
                                                              (if headFault x.snd.snd = (0 : Int) then
                                                                headWord x.snd.snd
                                                              else (0 : Int)))
                                                            (x.snd.fst +
                                                              if headFault x.snd.snd = (0 : Int) then headLong x.snd.snd
                                                              else (0 : Int))
                                                            ((if
                                                                  headFault
                                                                      (findG (gspotsF x.fst).fst x.snd.fst
                                                                            true).fst.snd =
                                                                    (0 : Int) then
                                                                headLong
                                                                  (findG (gspotsF x.fst).fst x.snd.fst true).fst.snd
                                                              else (0 : Int)) -
                                                              if headFault x.snd.snd = (0 : Int) then headLong x.snd.snd
                                                              else (0 : Int)) ∧
                                                          emptiedL
                                                                ((fillF x.fst x.snd.fst
                                                                        (if
                                                                            headFault
                                                                                (findG (gspotsF x.fst).fst x.snd.fst
                                                                                      true).fst.snd =
                                                                              (0 : Int) then
                                                                          headLong
                                                                            (findG (gspotsF x.fst).fst x.snd.fst
                                                                                  true).fst.snd
                                                                        else (0 : Int))
                                                                        (0 : Int)).fst.set
                                                                  x.snd.fst.toNat
                                                                  (if headFault x.snd.snd = (0 : Int) then
                                                                    headWord x.snd.snd
                                                                  else (0 : Int)))
                                                                (x.snd.fst +
                                                                  if headFault x.snd.snd = (0 : Int) then
                                                                    headLong x.snd.snd
                                                                  else (0 : Int))
                                                                ((if
                                                                      headFault
                                                                          (findG (gspotsF x.fst).fst x.snd.fst
                                                                                true).fst.snd =
                                                                        (0 : Int) then
                                                                    headLong
                                                                      (findG (gspotsF x.fst).fst x.snd.fst true).fst.snd
                                                                  else (0 : Int)) -
                                                                  if headFault x.snd.snd = (0 : Int) then
                                                                    headLong x.snd.snd
                                                                  else (0 : Int)) =
                                                              (takeF x.fst x.snd.fst x.snd.snd).fst ∧
                                                            (0 : Int) = (takeF x.fst x.snd.fst x.snd.snd).snd ∧
                                                              True)))))
theorem vcp_gapTake : pv_gapTake := by
  unfold pv_gapTake
  intro ⟨a, at_, h⟩ _ _
  have hF : takeF a at_ h = if headFault h ≠ 0 then ([], headFault h) else if h.2.2.2 = true then ([], 3) else if (checkF a).2.2 ≠ 0 then ([], (checkF a).2.2)
    else if (findG (spotsF a).1 at_ true).2 = false then ([], 5) else if headLong (findG (spotsF a).1 at_ true).1.2 < headLong h then ([], 7)
    else (emptiedL ((fillL a at_ (headLong (findG (spotsF a).1 at_ true).1.2) 0 (headLong (findG (spotsF a).1 at_ true).1.2)).set at_.toNat (headWord h)) (at_ + headLong h) (headLong (findG (spotsF a).1 at_ true).1.2 - headLong h), 0) := rfl
  simp only
  rw [gspots_fault]
  refine ⟨trivial, fun hc => ?_, fun hc => ⟨fun h2 => ?_, fun h2 => ⟨trivial, fun h3 => ?_, fun h3 => ?_⟩⟩⟩
  · have hc : headFault h ≠ 0 := by simpa using hc
    rw [hF, if_pos hc]
    exact ⟨rfl, rfl, trivial⟩
  · have hc : headFault h = 0 := by simpa using hc
    rw [hF, if_neg (by omega), if_pos h2]
    exact ⟨rfl, rfl, trivial⟩
  · have hc : headFault h = 0 := by simpa using hc
    have h3 : (checkF a).2.2 ≠ 0 := by simpa using h3
    rw [hF, if_neg (by omega), if_neg (by rw [h2]; simp), if_pos h3]
    exact ⟨rfl, rfl, trivial⟩
  have hc : headFault h = 0 := by simpa using hc
  have h3 : (checkF a).2.2 = 0 := by simpa using h3
  obtain ⟨e1, hal, hsp⟩ := gspots_ok h3
  have hfi := findG_in (spotsF a).1 at_ true
  rw [if_neg (by omega), if_neg (by rw [h2]; simp), if_neg (by omega)] at hF
  rw [e1, hF]
  refine ⟨trivial, fun h4 => ?_, fun h4 => ⟨trivial, trivial, fun h5 => ?_, fun h5 => ?_⟩⟩
  · have h4 : (findG (spotsF a).1 at_ true).2 = false := by simpa using h4
    rw [if_pos h4]
    exact ⟨rfl, rfl, trivial⟩
  · have h4 : (findG (spotsF a).1 at_ true).2 = true := by simpa using h4
    obtain ⟨q1, q2, q3⟩ := hfi h4
    have hh := (hsp _ q1).2
    rw [if_pos hh, if_pos hc] at h5
    have hn4 : ¬ (findG (spotsF a).1 at_ true).2 = false := by rw [h4]; simp
    rw [if_neg hn4, if_pos (of_decide_eq_true h5)]
    exact ⟨rfl, rfl, trivial⟩
  · have h4 : (findG (spotsF a).1 at_ true).2 = true := by simpa using h4
    obtain ⟨q1, q2, q3⟩ := hfi h4
    obtain ⟨hin, hh⟩ := hsp _ q1
    rw [if_pos hh, if_pos hc] at h5
    have h5 := of_decide_eq_false h5
    have hn4 : ¬ (findG (spotsF a).1 at_ true).2 = false := by rw [h4]; simp
    rw [if_neg hn4, if_neg h5]
    have hz := headFault_zero hc
    have hn : headLong h = 1 + h.1 + h.2.1 := rfl
    have hL : headLong (findG (spotsF a).1 at_ true).1.2 = 1 + (findG (spotsF a).1 at_ true).1.2.1 + (findG (spotsF a).1 at_ true).1.2.2.1 := rfl
    unfold spotIn at hin
    rw [if_pos hh, if_pos hc, if_pos hc]
    rw [q2] at hin
    generalize headLong (findG (spotsF a).1 at_ true).1.2 = L at *
    have hp : layPre a at_ L := ⟨by omega, by omega, by omega, hal⟩
    have hl := fillL_length a at_ L 0 L (by omega) (by omega) (by omega) (by omega)
    rw [fillF_ok hp]
    simp only [InR]
    exact ⟨trivial, trivial, by omega, by omega, by omega, trivial, by omega, trivial, trivial, by omega, ⟨by omega, by omega, by rw [List.length_set]; omega, by rw [List.length_set]; omega⟩, trivial, trivial, trivial⟩
theorem e_gapTake : pv_gapTake = fnVC Try.prog (tbl [(113, sp_headWord), (109, sp_gapSpots), (114, sp_gapFind), (115, sp_gapLong), (116, sp_wordFill), (112, sp_layA)]) an_0 Try.f37 sp_gapTake := by kernel_rfl
theorem vc_gapTake : fnVC Try.prog (tbl [(113, sp_headWord), (109, sp_gapSpots), (114, sp_gapFind), (115, sp_gapLong), (116, sp_wordFill), (112, sp_layA)]) an_0 Try.f37 sp_gapTake := @Eq.mp _ _ @e_gapTake @vcp_gapTake
theorem ok_gapTake : sp_gapTake.ok Try.prog 37 := fn_sound (P := Try.prog) (ss := tbl [(113, sp_headWord), (109, sp_gapSpots), (114, sp_gapFind), (115, sp_gapLong), (116, sp_wordFill), (112, sp_layA)]) (ann := an_0) (f := 37) (fn := Try.f37) (s := sp_gapTake) (tbl_cons ok_headWord (tbl_cons ok_gapSpots (tbl_cons ok_gapFind (tbl_cons ok_gapLong (tbl_cons ok_wordFill (tbl_cons ok_layA tbl_nil)))))) Try.func37 @vc_gapTake

def giveF (a : List Int) (at_ : Int) : List Int × Int :=
  if (checkF a).2.2 ≠ 0 then ([], (checkF a).2.2) else if (findG (spotsF a).1 at_ false).2 = false then ([], 5)
  else if ((spotsF a).1.any fun s => decide (s.1 ≠ at_) && (spotRefs a s).any fun x => decide (at_ + 1 = x)) = true then ([], 8) else (emptiedL a at_ (headLong (findG (spotsF a).1 at_ false).1.2), 0)
def an_gapGive : Nat → Option LoopGen
  | 8 => some { rd := [.own 28 78 ty_Spot, .dat 0 (.arr ty_W), .dat 1 ty_I], A := fun ((l, a, at_) : List Spot × List Int × Int) => { cs := [.dat 30 ty_I], inv := fun (i : Int) => 0 ≤ i ∧ i ≤ l.length ∧ l.length ≤ 256 ∧ a.length ≤ 256 ∧ 0 ≤ at_ ∧ at_ ≤ 256 ∧ (∀ s ∈ l, spotIn a s) ∧ ((l.drop i.toNat).any fun s => decide (s.1 ≠ at_) && (spotRefs a s).any fun x => decide (at_ + 1 = x)) = (l.any fun s => decide (s.1 ≠ at_) && (spotRefs a s).any fun x => decide (at_ + 1 = x)), mu := fun (i : Int) => (l.length - i).toNat } }
  | _ => none
def sp_gapGive : Spec := { Ts := [.arr ty_W, ty_I], Rs := [.dat (.arr ty_W), .dat ty_I], al := true, pre := fun _ => True, F := fun ((a, at_) : List Int × Int) => giveF a at_ }
def pv_gapGive : Prop :=
    ∀ (x : List Int × Int),
  (x.fst.length * (8 : Nat) ≤ big ∧ ∀ (x_1 : Int), x_1 ∈ x.fst → InR IntKind.u64 x_1) ∧ InR IntKind.i64 x.snd →
    True →
      True ∧
        (decide ((gspotsF x.fst).snd ≠ (0 : Int)) = true →
            ([] : List Int) = (giveF x.fst x.snd).fst ∧ (gspotsF x.fst).snd = (giveF x.fst x.snd).snd ∧ True) ∧
          (decide ((gspotsF x.fst).snd ≠ (0 : Int)) = false →
            True ∧
              ((!(findG (gspotsF x.fst).fst x.snd false).snd) = true →
                  ([] : List Int) = (giveF x.fst x.snd).fst ∧ (5 : Int) = (giveF x.fst x.snd).snd ∧ True) ∧
                ((!(findG (gspotsF x.fst).fst x.snd false).snd) = false →
                  ((0 : Int) ≤ (0 : Int) ∧
                      (0 : Int) ≤ (↑(gspotsF x.fst).fst.length : Int) ∧
                        (gspotsF x.fst).fst.length ≤ (256 : Nat) ∧
                          x.fst.length ≤ (256 : Nat) ∧
                            (0 : Int) ≤ x.snd ∧
                              x.snd ≤ (256 : Int) ∧
                                (∀ (s : Spot), s ∈ (gspotsF x.fst).fst → spotIn x.fst s) ∧
                                  ((List.drop (Int.toNat (0 : Int)) (gspotsF x.fst).fst).any fun (s : Spot) =>
                                      decide (s.fst ≠ x.snd) &&
                                        (spotRefs x.fst s).any fun (x_1 : Int) => decide (x.snd + (1 : Int) = x_1)) =
                                    (gspotsF x.fst).fst.any fun (s : Spot) =>
                                      decide (s.fst ≠ x.snd) &&
                                        (spotRefs x.fst s).any fun (x_1 : Int) => decide (x.snd + (1 : Int) = x_1)) ∧
                    ∀ (x_1 : Int),
                      ((0 : Int) ≤ x_1 ∧
                          x_1 ≤ (↑(gspotsF x.fst).fst.length : Int) ∧
                            (gspotsF x.fst).fst.length ≤ (256 : Nat) ∧
                              x.fst.length ≤ (256 : Nat) ∧
                                (0 : Int) ≤ x.snd ∧
                                  x.snd ≤ (256 : Int) ∧
                                    (∀ (s : Spot), s ∈ (gspotsF x.fst).fst → spotIn x.fst s) ∧
                                      ((List.drop x_1.toNat (gspotsF x.fst).fst).any fun (s : Spot) =>
                                          decide (s.fst ≠ x.snd) &&
                                            (spotRefs x.fst s).any fun (x_2 : Int) =>
                                              decide (x.snd + (1 : Int) = x_2)) =
                                        (gspotsF x.fst).fst.any fun (s : Spot) =>
                                          decide (s.fst ≠ x.snd) &&
                                            (spotRefs x.fst s).any fun (x_2 : Int) =>
                                              decide (x.snd + (1 : Int) = x_2)) →
                        (decide (x_1 < (↑(gspotsF x.fst).fst.length : Int)) = true →
                            (0 : Int) ≤ x_1 ∧
                              x_1 < (↑(gspotsF x.fst).fst.length : Int) ∧
                                x_1.toNat < (gspotsF x.fst).fst.length ∧
                                  (decide
                                          (((gspotsF x.fst).fst.getD x_1.toNat
                                                ((0 : Int), (0 : Int), (0 : Int), (0 : Int), false)).fst ≠
                                            x.snd) =
                                        true →
                                      InR IntKind.i64
                                        (((gspotsF x.fst).fst.getD x_1.toNat
                                              ((0 : Int), (0 : Int), (0 : Int), (0 : Int), false)).fst +
                                          (1 : Int))) ∧
                                    (decide
                                            (((gspotsF x.fst).fst.getD x_1.toNat
                                                  ((0 : Int), (0 : Int), (0 : Int), (0 : Int), false)).fst ≠
                                              x.snd) =
                                          true →
                                        InR IntKind.i64
                                          (((gspotsF x.fst).fst.getD x_1.toNat
                                                ((0 : Int), (0 : Int), (0 : Int), (0 : Int), false)).fst +
                                            (1 : Int))) ∧
                                      (decide
                                              (((gspotsF x.fst).fst.getD x_1.toNat
                                                    ((0 : Int), (0 : Int), (0 : Int), (0 : Int), false)).fst ≠
                                                x.snd) =
                                            true →
                                          InR IntKind.i64
                                            (((gspotsF x.fst).fst.getD x_1.toNat
                                                    ((0 : Int), (0 : Int), (0 : Int), (0 : Int), false)).fst +
                                                (1 : Int) +
                                              ((gspotsF x.fst).fst.getD x_1.toNat
                                                    ((0 : Int), (0 : Int), (0 : Int), (0 : Int), false)).snd.fst)) ∧
                                        (decide
                                                (((gspotsF x.fst).fst.getD x_1.toNat
                                                      ((0 : Int), (0 : Int), (0 : Int), (0 : Int), false)).fst ≠
                                                  x.snd) =
                                              true →
                                            (0 : Int) ≤
                                              ((gspotsF x.fst).fst.getD x_1.toNat
                                                    ((0 : Int), (0 : Int), (0 : Int), (0 : Int), false)).fst +
                                                (1 : Int)) ∧
                                          (decide
                                                  (((gspotsF x.fst).fst.getD x_1.toNat
                                                        ((0 : Int), (0 : Int), (0 : Int), (0 : Int), false)).fst ≠
                                                    x.snd) =
                                                true →
                                              ((gspotsF x.fst).fst.getD x_1.toNat
                                                      ((0 : Int), (0 : Int), (0 : Int), (0 : Int), false)).fst +
                                                  (1 : Int) ≤
                                                ((gspotsF x.fst).fst.getD x_1.toNat
                                                        ((0 : Int), (0 : Int), (0 : Int), (0 : Int), false)).fst +
                                                    (1 : Int) +
                                                  ((gspotsF x.fst).fst.getD x_1.toNat
                                                        ((0 : Int), (0 : Int), (0 : Int), (0 : Int), false)).snd.fst) ∧
                                            (decide
                                                    (((gspotsF x.fst).fst.getD x_1.toNat
                                                          ((0 : Int), (0 : Int), (0 : Int), (0 : Int), false)).fst ≠
                                                      x.snd) =
                                                  true →
                                                ((gspotsF x.fst).fst.getD x_1.toNat
                                                          ((0 : Int), (0 : Int), (0 : Int), (0 : Int), false)).fst +
                                                      (1 : Int) +
                                                    ((gspotsF x.fst).fst.getD x_1.toNat
                                                          ((0 : Int), (0 : Int), (0 : Int), (0 : Int), false)).snd.fst ≤
                                                  (↑x.fst.length : Int)) ∧
                                              (decide
                                                      (((gspotsF x.fst).fst.getD x_1.toNat
                                                            ((0 : Int), (0 : Int), (0 : Int), (0 : Int), false)).fst ≠
                                                        x.snd) =
                                                    true →
                                                  InR IntKind.u64 (IntKind.u64.wrap x.snd + (1 : Int))) ∧
                                                (decide
                                                        (((gspotsF x.fst).fst.getD x_1.toNat
                                                              ((0 : Int), (0 : Int), (0 : Int), (0 : Int), false)).fst ≠
                                                          x.snd) =
                                                      true →
                                                    True) ∧
                                                  ((decide
                                                            (((gspotsF x.fst).fst.getD x_1.toNat
                                                                  ((0 : Int), (0 : Int), (0 : Int), (0 : Int),
                                                                    false)).fst ≠
                                                              x.snd) &&
                                                          (List.drop
                                                                (((gspotsF x.fst).fst.getD x_1.toNat
                                                                        ((0 : Int), (0 : Int), (0 : Int), (0 : Int),
                                                                          false)).fst +
                                                                    (1 : Int)).toNat
                                                                (List.take
                                                                  (((gspotsF x.fst).fst.getD x_1.toNat
                                                                            ((0 : Int), (0 : Int), (0 : Int), (0 : Int),
                                                                              false)).fst +
                                                                        (1 : Int) +
                                                                      ((gspotsF x.fst).fst.getD x_1.toNat
                                                                            ((0 : Int), (0 : Int), (0 : Int), (0 : Int),
                                                                              false)).snd.fst).toNat
                                                                  x.fst)).any
                                                            fun (x_2 : Int) =>
                                                            decide (IntKind.u64.wrap x.snd + (1 : Int) = x_2)) =
                                                        true →
                                                      ([] : List Int) = (giveF x.fst x.snd).fst ∧
                                                        (8 : Int) = (giveF x.fst x.snd).snd ∧ True) ∧
                                                    ((decide
                                                            (((gspotsF x.fst).fst.getD x_1.toNat
                                                                  ((0 : Int), (0 : Int), (0 : Int), (0 : Int),
                                                                    false)).fst ≠
                                                              x.snd) &&
                                                          (List.drop
                                                                (((gspotsF x.fst).fst.getD x_1.toNat
                                                                        ((0 : Int), (0 : Int), (0 : Int), (0 : Int),
                                                                          false)).fst +
                                                                    (1 : Int)).toNat
                                                                (List.take
                                                                  (((gspotsF x.fst).fst.getD x_1.toNat
                                                                            ((0 : Int), (0 : Int), (0 : Int), (0 : Int),
                                                                              false)).fst +
                                                                        (1 : Int) +
                                                                      ((gspotsF x.fst).fst.getD x_1.toNat
                                                                            ((0 : Int), (0 : Int), (0 : Int), (0 : Int),
                                                                              false)).snd.fst).toNat
                                                                  x.fst)).any
                                                            fun (x_2 : Int) =>
                                                            decide (IntKind.u64.wrap x.snd + (1 : Int) = x_2)) =
                                                        false →
                                                      InR IntKind.i64 (x_1 + (1 : Int)) ∧
                                                        ((0 : Int) ≤ x_1 + (1 : Int) ∧
                                                            x_1 + (1 : Int) ≤ (↑(gspotsF x.fst).fst.length : Int) ∧
                                                              (gspotsF x.fst).fst.length ≤ (256 : Nat) ∧
                                                                x.fst.length ≤ (256 : Nat) ∧
                                                                  (0 : Int) ≤ x.snd ∧
                                                                    x.snd ≤ (256 : Int) ∧
                                                                      (∀ (s : Spot),
                                                                          s ∈ (gspotsF x.fst).fst → spotIn x.fst s) ∧
                                                                        ((List.drop (x_1 + (1 : Int)).toNat
                                                                                (gspotsF x.fst).fst).any
                                                                            fun (s : Spot) =>
                                                                            decide (s.fst ≠ x.snd) &&
                                                                              (spotRefs x.fst s).any fun (x_2 : Int) =>
                                                                                decide (x.snd + (1 : Int) = x_2)) =
                                                                          (gspotsF x.fst).fst.any fun (s : Spot) =>
                                                                            decide (s.fst ≠ x.snd) &&
                                                                              (spotRefs x.fst s).any fun (x_2 : Int) =>
                                                                                decide (x.snd + (1 : Int) = x_2)) ∧
                                                          ((↑(gspotsF x.fst).fst.length : Int) -
                                                                (x_1 + (1 : Int))).toNat <
                                                            ((↑(gspotsF x.fst).fst.length : Int) - x_1).toNat)) ∧
                          (decide (x_1 < (↑(gspotsF x.fst).fst.length : Int)) = false →
                            True ∧
                              True ∧
                                layPre x.fst x.snd
                                    (if headFault (findG (gspotsF x.fst).fst x.snd false).fst.snd = (0 : Int) then
                                      headLong (findG (gspotsF x.fst).fst x.snd false).fst.snd
                                    else (0 : Int)) ∧
                                  emptiedL x.fst x.snd
                                        (if headFault (findG (gspotsF x.fst).fst x.snd false).fst.snd = (0 : Int) then
                                          headLong (findG (gspotsF x.fst).fst x.snd false).fst.snd
                                        else (0 : Int)) =
                                      (giveF x.fst x.snd).fst ∧
                                    (0 : Int) = (giveF x.fst x.snd).snd ∧ True)))
theorem vcp_gapGive : pv_gapGive := by
  unfold pv_gapGive
  intro ⟨a, at_⟩ _ _
  have hF : giveF a at_ = if (checkF a).2.2 ≠ 0 then ([], (checkF a).2.2) else if (findG (spotsF a).1 at_ false).2 = false then ([], 5)
    else if ((spotsF a).1.any fun s => decide (s.1 ≠ at_) && (spotRefs a s).any fun x => decide (at_ + 1 = x)) = true then ([], 8) else (emptiedL a at_ (headLong (findG (spotsF a).1 at_ false).1.2), 0) := rfl
  have hlen := spotsF_length a
  simp only
  rw [gspots_fault]
  refine ⟨trivial, fun h3 => ?_, fun h3 => ?_⟩
  · have h3 : (checkF a).2.2 ≠ 0 := by simpa using h3
    rw [hF, if_pos h3]
    exact ⟨rfl, rfl, trivial⟩
  have h3 : (checkF a).2.2 = 0 := by simpa using h3
  obtain ⟨e1, hal, hsp⟩ := gspots_ok h3
  have hfi := findG_in (spotsF a).1 at_ false
  rw [if_neg (by omega)] at hF
  rw [e1, hF]
  refine ⟨trivial, fun h4 => ?_, fun h4 => ?_⟩
  · have h4 : (findG (spotsF a).1 at_ false).2 = false := by simpa using h4
    rw [if_pos h4]
    exact ⟨rfl, rfl, trivial⟩
  have h4 : (findG (spotsF a).1 at_ false).2 = true := by simpa using h4
  obtain ⟨q1, q2, q3⟩ := hfi h4
  obtain ⟨hin, hh⟩ := hsp _ q1
  have hn4 : ¬ (findG (spotsF a).1 at_ false).2 = false := by rw [h4]; simp
  rw [if_neg hn4]
  have hL : headLong (findG (spotsF a).1 at_ false).1.2 = 1 + (findG (spotsF a).1 at_ false).1.2.1 + (findG (spotsF a).1 at_ false).1.2.2.1 := rfl
  unfold spotIn at hin
  rw [if_pos hh]
  rw [q2] at hin
  rw [wrapU (by omega) (by omega)]
  generalize headLong (findG (spotsF a).1 at_ false).1.2 = L at *
  generalize (spotsF a).1 = l at *
  refine ⟨⟨by omega, by omega, hlen, hal, by omega, by omega, fun s hs => (hsp s hs).1, rfl⟩, fun i ⟨h0, h1, _, _, _, _, _, h2⟩ => ⟨fun hlt => ?_, fun hge => ?_⟩⟩
  · have hlt : i < (l.length : Int) := of_decide_eq_true hlt
    have hs := (hsp _ (getD_mem ((0, 0, 0, 0, false) : Spot) h0 hlt)).1
    rw [drop_cons ((0, 0, 0, 0, false) : Spot) h0 hlt, List.any_cons] at h2
    generalize l.getD i.toNat (0, 0, 0, 0, false) = s at *
    have hr : List.drop (s.1 + 1).toNat (List.take (s.1 + 1 + s.2.1).toNat a) = spotRefs a s := rfl
    rw [hr]
    unfold spotIn at hs
    simp only [InR]
    refine ⟨h0, hlt, by omega, fun _ => by omega, fun _ => by omega, fun _ => by omega, fun _ => by omega, fun _ => by omega, fun _ => by omega, fun _ => by omega, fun _ => trivial, fun hc => ?_, fun hc => ?_⟩
    · rw [hc, Bool.true_or] at h2
      rw [if_pos h2.symm]
      exact ⟨rfl, rfl, trivial⟩
    · rw [hc, Bool.false_or] at h2
      exact ⟨by omega, ⟨by omega, by omega, hlen, hal, by omega, by omega, fun s hs => (hsp s hs).1, h2⟩, by omega⟩
  · rw [drop_end (of_decide_eq_false hge), List.any_nil] at h2
    rw [if_neg (by rw [← h2]; simp)]
    exact ⟨trivial, trivial, ⟨by omega, by omega, by omega, hal⟩, rfl, rfl, trivial⟩
theorem e_gapGive : pv_gapGive = fnVC Try.prog (tbl [(109, sp_gapSpots), (114, sp_gapFind), (117, sp_hasW), (111, sp_cloneWords), (115, sp_gapLong), (112, sp_layA)]) an_gapGive Try.f38 sp_gapGive := by kernel_rfl
theorem vc_gapGive : fnVC Try.prog (tbl [(109, sp_gapSpots), (114, sp_gapFind), (117, sp_hasW), (111, sp_cloneWords), (115, sp_gapLong), (112, sp_layA)]) an_gapGive Try.f38 sp_gapGive := @Eq.mp _ _ @e_gapGive @vcp_gapGive
theorem ok_gapGive : sp_gapGive.ok Try.prog 38 := fn_sound (P := Try.prog) (ss := tbl [(109, sp_gapSpots), (114, sp_gapFind), (117, sp_hasW), (111, sp_cloneWords), (115, sp_gapLong), (112, sp_layA)]) (ann := an_gapGive) (f := 38) (fn := Try.f38) (s := sp_gapGive) (tbl_cons ok_gapSpots (tbl_cons ok_gapFind (tbl_cons ok_hasW (tbl_cons ok_cloneWords (tbl_cons ok_gapLong (tbl_cons ok_layA tbl_nil)))))) Try.func38 @vc_gapGive

end Go.Proofs.Ytgnamdjmjkeodaa
