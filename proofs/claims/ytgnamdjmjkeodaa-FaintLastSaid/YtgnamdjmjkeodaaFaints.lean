/- Package faint: Last; the law FaintLast. -/
import Derived.Test.YtgnamdjmjkeodaaReaches
import Derived.Test.YtgnamdjmjkeodaaConcats
import Derived.Test.YtgnamdjmjkeodaaLists
namespace Go.Proofs.Ytgnamdjmjkeodaa
open Go
set_option maxRecDepth 100000
set_option maxHeartbeats 1000000

def faintFault (a f : List Int) (n : Int) (b : List Int) : Int := if fromFault a f ≠ 0 then fromFault a f else if 32 < n then 2 else fromFault a b
def faintCheckF (a f : List Int) (n : Int) (b : List Int) : List Int × Int := if faintFault a f n b ≠ 0 then ([], faintFault a f n b) else (reachL a f, 0)
def sp_faintCheck : Spec := { Ts := [.arr ty_W, .arr ty_I, ty_I, .arr ty_I], Rs := [.own 3 ty_I, .dat ty_I], pre := fun _ => True, F := fun ((a, f, n, b) : List Int × List Int × Int × List Int) => faintCheckF a f n b }
def pv_faintCheck : Prop :=
    ∀ (x : List Int × List Int × Int × List Int),
  ((x.fst.length * (8 : Nat) ≤ big ∧ ∀ (x_1 : Int), x_1 ∈ x.fst → InR IntKind.u64 x_1) ∧
      (x.snd.fst.length * (8 : Nat) ≤ big ∧ ∀ (x_1 : Int), x_1 ∈ x.snd.fst → InR IntKind.i64 x_1) ∧
        InR IntKind.i64 x.snd.snd.fst ∧
          x.snd.snd.snd.length * (8 : Nat) ≤ big ∧ ∀ (x_1 : Int), x_1 ∈ x.snd.snd.snd → InR IntKind.i64 x_1) →
    True →
      True ∧
        (decide ((reachF x.fst x.snd.fst).snd ≠ (0 : Int)) = true →
            ([] : List Int) = (faintCheckF x.fst x.snd.fst x.snd.snd.fst x.snd.snd.snd).fst ∧
              (reachF x.fst x.snd.fst).snd = (faintCheckF x.fst x.snd.fst x.snd.snd.fst x.snd.snd.snd).snd ∧ True) ∧
          (decide ((reachF x.fst x.snd.fst).snd ≠ (0 : Int)) = false →
            (decide ((32 : Int) < x.snd.snd.fst) = true →
                ([] : List Int) = (faintCheckF x.fst x.snd.fst x.snd.snd.fst x.snd.snd.snd).fst ∧
                  (2 : Int) = (faintCheckF x.fst x.snd.fst x.snd.snd.fst x.snd.snd.snd).snd ∧ True) ∧
              (decide ((32 : Int) < x.snd.snd.fst) = false →
                True ∧
                  (decide ((reachF x.fst x.snd.snd.snd).snd ≠ (0 : Int)) = true →
                      ([] : List Int) = (faintCheckF x.fst x.snd.fst x.snd.snd.fst x.snd.snd.snd).fst ∧
                        (reachF x.fst x.snd.snd.snd).snd =
                            (faintCheckF x.fst x.snd.fst x.snd.snd.fst x.snd.snd.snd).snd ∧
                          True) ∧
                    (decide ((reachF x.fst x.snd.snd.snd).snd ≠ (0 : Int)) = false →
                      (reachF x.fst x.snd.fst).fst = (faintCheckF x.fst x.snd.fst x.snd.snd.fst x.snd.snd.snd).fst ∧
                        (0 : Int) = (faintCheckF x.fst x.snd.fst x.snd.snd.fst x.snd.snd.snd).snd ∧ True)))
theorem vcp_faintCheck : pv_faintCheck := by
  unfold pv_faintCheck
  intro ⟨a, f, n, b⟩ _ _
  simp only [faintCheckF, faintFault, reachF]
  grind
theorem e_faintCheck : pv_faintCheck = fnVC Try.prog (tbl [(90, sp_reach)]) an_0 Try.f153 sp_faintCheck := by kernel_rfl
theorem vc_faintCheck : fnVC Try.prog (tbl [(90, sp_reach)]) an_0 Try.f153 sp_faintCheck := @Eq.mp _ _ @e_faintCheck @vcp_faintCheck
theorem ok_faintCheck : sp_faintCheck.ok Try.prog 153 := fn_sound (P := Try.prog) (ss := tbl [(90, sp_reach)]) (ann := an_0) (f := 153) (fn := Try.f153) (s := sp_faintCheck) (tbl_cons ok_reach tbl_nil) Try.func153 @vc_faintCheck

def sp_lastC : Spec := { Ts := [ty_I, .ref (.arr ty_I)], Rs := [.dat .bool], pre := fun _ => True, F := fun ((x, l) : Int × List Int) => inL l x }
def pv_lastC : Prop :=
    ∀ (x : Int × List Int),
  (InR IntKind.i64 x.fst ∧ x.snd.length * (8 : Nat) ≤ big ∧ ∀ (x_1 : Int), x_1 ∈ x.snd → InR IntKind.i64 x_1) →
    True → True ∧ inL x.snd x.fst = inL x.snd x.fst ∧ True
theorem vcp_lastC : pv_lastC := by
  unfold pv_lastC
  intro ⟨x, l⟩ _ _
  simp
theorem e_lastC : pv_lastC = fnVC Try.prog (tbl [(132, sp_hasI)]) an_0 Try.f154 sp_lastC := by kernel_rfl
theorem vc_lastC : fnVC Try.prog (tbl [(132, sp_hasI)]) an_0 Try.f154 sp_lastC := @Eq.mp _ _ @e_lastC @vcp_lastC
theorem ok_lastC : sp_lastC.ok Try.prog 154 := fn_sound (P := Try.prog) (ss := tbl [(132, sp_hasI)]) (ann := an_0) (f := 154) (fn := Try.f154) (s := sp_lastC) (tbl_cons ok_hasI tbl_nil) Try.func154 @vc_lastC

def toldL (a f q : List Int) : List Int := q.filter fun x => !inL (reachL a f) x
def lastF (a f q : List Int) : List Int × List Int × Int := if faintFault a f q.length q ≠ 0 then ([], [], faintFault a f q.length q) else (toldL a f q, reachL a (f ++ toldL a f q), 0)
def an_faintLast : Nat → Option LoopGen
  | 3000141 => some an_in
  | 14200000005 => some { rd := [.own 0 3 ty_I, .boxS 9900000 [.own 3 ty_I]], wr := [0], A := fun ((xs, live) : List Int × List Int) => { cs := [.own 0 3 ty_I, .dat 5 ty_I, .dat 6 ty_I], inv := fun ((row, i, j) : List Int × Int × Int) => 0 ≤ i ∧ i < j ∧ j ≤ xs.length ∧ row.length = xs.length ∧ row.take i.toNat = (xs.take j.toNat).filter (fun v => !inL live v) ∧ row.drop j.toNat = xs.drop j.toNat, mu := fun ((_, _, j) : List Int × Int × Int) => (xs.length - j).toNat } }
  | _ => none
def sp_faintLast : Spec := { Ts := [.arr ty_W, .arr ty_I, .arr ty_I], Rs := [.dat (.arr ty_I), .own 3 ty_I, .dat ty_I], al := true, pre := fun ((_, f, _) : List Int × List Int × List Int) => (f.length + 32) * 8 ≤ 140737488355328, F := fun ((a, f, q) : List Int × List Int × List Int) => lastF a f q }
def pv_faintLast : Prop :=
    ∀ (x : List Int × List Int × List Int),
  ((x.fst.length * (8 : Nat) ≤ big ∧ ∀ (x_1 : Int), x_1 ∈ x.fst → InR IntKind.u64 x_1) ∧
      (x.snd.fst.length * (8 : Nat) ≤ big ∧ ∀ (x_1 : Int), x_1 ∈ x.snd.fst → InR IntKind.i64 x_1) ∧
        x.snd.snd.length * (8 : Nat) ≤ big ∧ ∀ (x_1 : Int), x_1 ∈ x.snd.snd → InR IntKind.i64 x_1) →
    (x.snd.fst.length + (32 : Nat)) * (8 : Nat) ≤ (140737488355328 : Nat) →
      True ∧
        (decide ((faintCheckF x.fst x.snd.fst (↑x.snd.snd.length : Int) x.snd.snd).snd ≠ (0 : Int)) = true →
            ([] : List Int) = (lastF x.fst x.snd.fst x.snd.snd).fst ∧
              ([] : List Int) = (lastF x.fst x.snd.fst x.snd.snd).snd.fst ∧
                (faintCheckF x.fst x.snd.fst (↑x.snd.snd.length : Int) x.snd.snd).snd =
                    (lastF x.fst x.snd.fst x.snd.snd).snd.snd ∧
                  True) ∧
          (decide ((faintCheckF x.fst x.snd.fst (↑x.snd.snd.length : Int) x.snd.snd).snd ≠ (0 : Int)) = false →
            True ∧
              ∀ (tm : Array Value),
                (∀ (s : Int),
                    s ∈ x.snd.snd →
                      (fun (x : Int) => True, fun (x_1 : Int) =>
                            inL (faintCheckF x.fst x.snd.fst (↑x.snd.snd.length : Int) x.snd.snd).fst x_1).fst
                        s) ∧
                  (decide
                          (findFrom
                              (fun (x_1 : Int) =>
                                inL (faintCheckF x.fst x.snd.fst (↑x.snd.snd.length : Int) x.snd.snd).fst x_1)
                              (0 : Int) x.snd.snd =
                            (-1 : Int)) =
                        true →
                      [x.snd.fst, x.snd.snd].flatten.length * (8 : Nat) ≤ big ∧
                        True ∧
                          x.snd.snd = (lastF x.fst x.snd.fst x.snd.snd).fst ∧
                            (reachF x.fst [x.snd.fst, x.snd.snd].flatten).fst =
                                (lastF x.fst x.snd.fst x.snd.snd).snd.fst ∧
                              (0 : Int) = (lastF x.fst x.snd.fst x.snd.snd).snd.snd ∧ True) ∧
                    (decide
                          (findFrom
                              (fun (x_1 : Int) =>
                                inL (faintCheckF x.fst x.snd.fst (↑x.snd.snd.length : Int) x.snd.snd).fst x_1)
                              (0 : Int) x.snd.snd =
                            (-1 : Int)) =
                        false →
                      InR IntKind.i64
                          (findFrom
                              (fun (x_1 : Int) =>
                                inL (faintCheckF x.fst x.snd.fst (↑x.snd.snd.length : Int) x.snd.snd).fst x_1)
                              (0 : Int) x.snd.snd +
                            (1 : Int)) ∧
                        ((0 : Int) ≤
                              findFrom
                                (fun (x_1 : Int) =>
                                  inL (faintCheckF x.fst x.snd.fst (↑x.snd.snd.length : Int) x.snd.snd).fst x_1)
                                (0 : Int) x.snd.snd ∧
                            findFrom
                                  (fun (x_1 : Int) =>
                                    inL (faintCheckF x.fst x.snd.fst (↑x.snd.snd.length : Int) x.snd.snd).fst x_1)
                                  (0 : Int) x.snd.snd <
                                findFrom
                                    (fun (x_1 : Int) =>
                                      inL (faintCheckF x.fst x.snd.fst (↑x.snd.snd.length : Int) x.snd.snd).fst x_1)
                                    (0 : Int) x.snd.snd +
                                  (1 : Int) ∧
                              findFrom
                                      (fun (x_1 : Int) =>
                                        inL (faintCheckF x.fst x.snd.fst (↑x.snd.snd.length : Int) x.snd.snd).fst x_1)
                                      (0 : Int) x.snd.snd +
                                    (1 : Int) ≤
                                  (↑x.snd.snd.length : Int) ∧
                                x.snd.snd.length = x.snd.snd.length ∧
                                  List.take
                                        (findFrom
                                            (fun (x_1 : Int) =>
                                              inL (faintCheckF x.fst x.snd.fst (↑x.snd.snd.length : Int) x.snd.snd).fst
                                                x_1)
                                            (0 : Int) x.snd.snd).toNat
                                        x.snd.snd =
                                      List.filter
                                        (fun (v : Int) =>
                                          !inL (faintCheckF x.fst x.snd.fst (↑x.snd.snd.length : Int) x.snd.snd).fst v)
                                        (List.take
                                          (findFrom
                                                (fun (x_1 : Int) =>
                                                  inL
                                                    (faintCheckF x.fst x.snd.fst (↑x.snd.snd.length : Int)
                                                        x.snd.snd).fst
                                                    x_1)
                                                (0 : Int) x.snd.snd +
                                              (1 : Int)).toNat
                                          x.snd.snd) ∧
                                    List.drop
                                        (findFrom
                                              (fun (x_1 : Int) =>
                                                inL
                                                  (faintCheckF x.fst x.snd.fst (↑x.snd.snd.length : Int) x.snd.snd).fst
                                                  x_1)
                                              (0 : Int) x.snd.snd +
                                            (1 : Int)).toNat
                                        x.snd.snd =
                                      List.drop
                                        (findFrom
                                              (fun (x_1 : Int) =>
                                                inL
                                                  (faintCheckF x.fst x.snd.fst (↑x.snd.snd.length : Int) x.snd.snd).fst
                                                  x_1)
                                              (0 : Int) x.snd.snd +
                                            (1 : Int)).toNat
                                        x.snd.snd) ∧
                          ∀ (x_1 : List Int × Int × Int),
                            (0 : Int) ≤ x_1.snd.fst ∧
                                x_1.snd.fst < x_1.snd.snd ∧
                                  x_1.snd.snd ≤ (↑x.snd.snd.length : Int) ∧
                                    x_1.fst.length = x.snd.snd.length ∧
                                      List.take x_1.snd.fst.toNat x_1.fst =
                                          List.filter
                                            (fun (v : Int) =>
                                              !inL (faintCheckF x.fst x.snd.fst (↑x.snd.snd.length : Int) x.snd.snd).fst
                                                  v)
                                            (List.take x_1.snd.snd.toNat x.snd.snd) ∧
                                        List.drop x_1.snd.snd.toNat x_1.fst = List.drop x_1.snd.snd.toNat x.snd.snd →
                              (decide (x_1.snd.snd < (↑x_1.fst.length : Int)) = true →
                                  (0 : Int) ≤ x_1.snd.snd ∧
                                    x_1.snd.snd < (↑x_1.fst.length : Int) ∧
                                      x_1.snd.snd.toNat < x_1.fst.length ∧
                                        True ∧
                                          ((!inL (faintCheckF x.fst x.snd.fst (↑x.snd.snd.length : Int) x.snd.snd).fst
                                                    (x_1.fst.getD x_1.snd.snd.toNat (0 : Int))) =
                                                true →
                                              (0 : Int) ≤ x_1.snd.fst ∧
                                                x_1.snd.fst < (↑x_1.fst.length : Int) ∧
                                                  x_1.snd.fst.toNat < x_1.fst.length ∧
                                                    InR IntKind.i64 (x_1.snd.fst + (1 : Int)) ∧
                                                      InR IntKind.i64 (x_1.snd.snd + (1 : Int)) ∧
                                                        ((0 : Int) ≤ x_1.snd.fst + (1 : Int) ∧
                                                            x_1.snd.fst + (1 : Int) < x_1.snd.snd + (1 : Int) ∧
                                                              x_1.snd.snd + (1 : Int) ≤ (↑x.snd.snd.length : Int) ∧
                                                                (x_1.fst.set x_1.snd.fst.toNat
                                                                        (x_1.fst.getD x_1.snd.snd.toNat
                                                                          (0 : Int))).length =
                                                                    x.snd.snd.length ∧
                                                                  List.take (x_1.snd.fst + (1 : Int)).toNat
                                                                        (x_1.fst.set x_1.snd.fst.toNat
                                                                          (x_1.fst.getD x_1.snd.snd.toNat (0 : Int))) =
                                                                      List.filter
                                                                        (fun (v : Int) =>
                                                                          !inL
                                                                              (faintCheckF x.fst x.snd.fst
                                                                                  (↑x.snd.snd.length : Int)
                                                                                  x.snd.snd).fst
                                                                              v)
                                                                        (List.take (x_1.snd.snd + (1 : Int)).toNat
                                                                          x.snd.snd) ∧
                                                                    List.drop (x_1.snd.snd + (1 : Int)).toNat
                                                                        (x_1.fst.set x_1.snd.fst.toNat
                                                                          (x_1.fst.getD x_1.snd.snd.toNat (0 : Int))) =
                                                                      List.drop (x_1.snd.snd + (1 : Int)).toNat
                                                                        x.snd.snd) ∧
                                                          ((↑x.snd.snd.length : Int) -
                                                                (x_1.snd.snd + (1 : Int))).toNat <
                                                            ((↑x.snd.snd.length : Int) - x_1.snd.snd).toNat) ∧
                                            ((!inL (faintCheckF x.fst x.snd.fst (↑x.snd.snd.length : Int) x.snd.snd).fst
                                                    (x_1.fst.getD x_1.snd.snd.toNat (0 : Int))) =
                                                false →
                                              InR IntKind.i64 (x_1.snd.snd + (1 : Int)) ∧
                                                ((0 : Int) ≤ x_1.snd.fst ∧
                                                    x_1.snd.fst < x_1.snd.snd + (1 : Int) ∧
                                                      x_1.snd.snd + (1 : Int) ≤ (↑x.snd.snd.length : Int) ∧
                                                        x_1.fst.length = x.snd.snd.length ∧
                                                          List.take x_1.snd.fst.toNat x_1.fst =
                                                              List.filter
                                                                (fun (v : Int) =>
                                                                  !inL
                                                                      (faintCheckF x.fst x.snd.fst
                                                                          (↑x.snd.snd.length : Int) x.snd.snd).fst
                                                                      v)
                                                                (List.take (x_1.snd.snd + (1 : Int)).toNat x.snd.snd) ∧
                                                            List.drop (x_1.snd.snd + (1 : Int)).toNat x_1.fst =
                                                              List.drop (x_1.snd.snd + (1 : Int)).toNat x.snd.snd) ∧
                                                  ((↑x.snd.snd.length : Int) - (x_1.snd.snd + (1 : Int))).toNat <
                                                    ((↑x.snd.snd.length : Int) - x_1.snd.snd).toNat)) ∧
                                (decide (x_1.snd.snd < (↑x_1.fst.length : Int)) = false →
                                  (0 : Int) ≤ x_1.snd.fst ∧
                                    x_1.snd.fst ≤ (↑x_1.fst.length : Int) ∧
                                      x_1.snd.fst.toNat + (x_1.fst.length - x_1.snd.fst.toNat) ≤ x_1.fst.length ∧
                                        (0 : Int) ≤ x_1.snd.fst ∧
                                          x_1.snd.fst ≤
                                              (↑(List.take x_1.snd.fst.toNat x_1.fst ++
                                                      (List.replicate (x_1.fst.length - x_1.snd.fst.toNat) (0 : Int) ++
                                                        List.drop
                                                          (x_1.snd.fst.toNat + (x_1.fst.length - x_1.snd.fst.toNat))
                                                          x_1.fst)).length :
                                                Int) ∧
                                            [x.snd.fst,
                                                        List.take x_1.snd.fst.toNat
                                                          (List.take x_1.snd.fst.toNat x_1.fst ++
                                                            (List.replicate (x_1.fst.length - x_1.snd.fst.toNat)
                                                                (0 : Int) ++
                                                              List.drop
                                                                (x_1.snd.fst.toNat +
                                                                  (x_1.fst.length - x_1.snd.fst.toNat))
                                                                x_1.fst))].flatten.length *
                                                  (8 : Nat) ≤
                                                big ∧
                                              True ∧
                                                List.take x_1.snd.fst.toNat
                                                      (List.take x_1.snd.fst.toNat x_1.fst ++
                                                        (List.replicate (x_1.fst.length - x_1.snd.fst.toNat)
                                                            (0 : Int) ++
                                                          List.drop
                                                            (x_1.snd.fst.toNat + (x_1.fst.length - x_1.snd.fst.toNat))
                                                            x_1.fst)) =
                                                    (lastF x.fst x.snd.fst x.snd.snd).fst ∧
                                                  (reachF x.fst
                                                          [x.snd.fst,
                                                              List.take x_1.snd.fst.toNat
                                                                (List.take x_1.snd.fst.toNat x_1.fst ++
                                                                  (List.replicate (x_1.fst.length - x_1.snd.fst.toNat)
                                                                      (0 : Int) ++
                                                                    List.drop
                                                                      (x_1.snd.fst.toNat +
                                                                        (x_1.fst.length - x_1.snd.fst.toNat))
                                                                      x_1.fst))].flatten).fst =
                                                      (lastF x.fst x.snd.fst x.snd.snd).snd.fst ∧
                                                    (0 : Int) = (lastF x.fst x.snd.fst x.snd.snd).snd.snd ∧
                                                      True)))
theorem vcp_faintLast : pv_faintLast := by
  unfold pv_faintLast
  intro ⟨a, f, q⟩ ⟨⟨hb, hw⟩, ⟨hbf, hf⟩, hbq, hq⟩ hsz
  simp only at hb hw hbf hf hbq hq hsz ⊢
  by_cases he : faintFault a f q.length q = 0
  rotate_left
  · have e1 : faintCheckF a f q.length q = ([], faintFault a f q.length q) := by unfold faintCheckF; rw [if_pos he]
    have e2 : lastF a f q = ([], [], faintFault a f q.length q) := by unfold lastF; rw [if_pos he]
    rw [e1, e2]
    exact ⟨trivial, fun _ => ⟨rfl, rfl, rfl, trivial⟩, fun h => absurd he (of_decide_eq_false h)⟩
  have e1 : faintCheckF a f q.length q = (reachL a f, 0) := by unfold faintCheckF; rw [if_neg (by omega)]
  have e2 : lastF a f q = (toldL a f q, reachL a (f ++ toldL a f q), 0) := by unfold lastF; rw [if_neg (by omega)]
  rw [e1, e2]
  obtain ⟨hff, hq32, hfq⟩ : fromFault a f = 0 ∧ q.length ≤ 32 ∧ fromFault a q = 0 := by
    unfold faintFault at he
    split at he
    · rename_i h; exact absurd he h
    · split at he
      · omega
      · exact ⟨by omega, by omega, he⟩
  have hd : toldL a f q = q.filter fun v => !inL (reachL a f) v := rfl
  have htl : (toldL a f q).length ≤ q.length := by rw [hd]; exact List.length_filter_le _ _
  have hcat : [f, toldL a f q].flatten = f ++ toldL a f q := by simp
  have hR : reachF a (f ++ toldL a f q) = (reachL a (f ++ toldL a f q), 0) := by
    have : fromFault a (f ++ toldL a f q) = 0 := by
      refine fromFault_of (fromFault_ok hff).1 (fun x hx => ?_)
      rcases List.mem_append.1 hx with hx | hx
      · exact (fromFault_ok hff).2 x hx
      · exact (fromFault_ok hfq).2 x ((List.mem_filter.1 hx).1)
    unfold reachF
    rw [if_neg (by omega)]
  have hsz2 : (f ++ toldL a f q).length * 8 ≤ big := by rw [List.length_append]; unfold big; omega
  unfold big at hb hbf hbq
  simp only
  refine ⟨trivial, fun h => absurd rfl (of_decide_eq_true h), fun _ => ⟨trivial, fun _ => ⟨fun _ _ => trivial, fun h2 => ?_, fun h2 => ?_⟩⟩⟩
  · have h2 := of_decide_eq_true h2
    have e : toldL a f q = q := by
      rcases findFrom_filter (fun x : Int => inL (reachL a f) x) q 0 (by omega) with ⟨_, h3⟩ | ⟨j, h3, _⟩
      · exact h3
      · omega
    rw [e] at hcat hR hsz2 ⊢
    rw [hcat, hR]
    exact ⟨hsz2, trivial, by first | trivial | rfl, by first | trivial | rfl, by first | trivial | rfl, trivial⟩
  have h2 := of_decide_eq_false h2
  rcases findFrom_filter (fun x : Int => inL (reachL a f) x) q 0 (by omega) with ⟨h3, _⟩ | ⟨j, h3, h4, h5⟩
  · exact absurd h3 h2
  rw [h3]
  refine ⟨by simp only [InR]; omega, ⟨by omega, by omega, by omega, trivial, ?_, trivial⟩, fun ⟨row, i, j⟩ ⟨k0, k1, k2, k3, k4, k5⟩ => ⟨fun hlt => ?_, fun hge => ?_⟩⟩
  · rw [show (0 + (j : Int) + 1).toNat = j + 1 by omega, show (0 + (j : Int)).toNat = j by omega, h5]
  · simp only at k0 k1 k2 k3 k4 k5 hlt ⊢
    have hlt := of_decide_eq_true hlt
    have hs := del_step (0 : Int) (p := fun v => !inL (reachL a f) v) (xs := q) (row := row) (i := i.toNat) (j := j.toNat) (by omega) (by omega) k3 k4 k5
    refine ⟨by omega, by omega, by omega, trivial, fun hp => ?_, fun hp => ?_⟩
    · obtain ⟨q1, q2⟩ := hs.1 hp
      refine ⟨by omega, by omega, by omega, by simp only [InR]; omega, by simp only [InR]; omega, ⟨by omega, by omega, by omega, by simpa using k3, ?_, ?_⟩, by omega⟩
      · rw [show (i + 1).toNat = i.toNat + 1 by omega, show (j + 1).toNat = j.toNat + 1 by omega]
        exact q1
      · rw [show (j + 1).toNat = j.toNat + 1 by omega]
        exact q2
    · obtain ⟨q1, q2⟩ := hs.2 hp
      refine ⟨by simp only [InR]; omega, ⟨by omega, by omega, by omega, k3, ?_, ?_⟩, by omega⟩
      · rw [show (j + 1).toNat = j.toNat + 1 by omega]
        exact q1
      · rw [show (j + 1).toNat = j.toNat + 1 by omega]
        exact q2
  · simp only at k0 k1 k2 k3 k4 k5 hge ⊢
    have hge := of_decide_eq_false hge
    have hj : j.toNat = q.length := by omega
    have e1 : List.take i.toNat (List.take i.toNat row ++ (List.replicate (row.length - i.toNat) 0 ++ List.drop (i.toNat + (row.length - i.toNat)) row)) = List.take i.toNat row := by
      rw [List.take_append_of_le_length (by simp; omega), List.take_take, Nat.min_self]
    have e3 : List.take i.toNat row = toldL a f q := by rw [k4, hj, List.take_of_length_le (Nat.le_refl _), hd]
    have hl3 : (toldL a f q).length = i.toNat := by rw [← e3]; simp; omega
    rw [e1, e3, hcat, hR]
    exact ⟨by omega, by omega, by omega, by omega, by simp; omega, hsz2, trivial, by first | trivial | rfl, by first | trivial | rfl, by first | trivial | rfl, trivial⟩
theorem e_faintLast : pv_faintLast = fnVC Try.prog (tbl [(153, sp_faintCheck), (67, sp_cloneInts), (154, sp_lastC), (147, sp_idxIF), (89, sp_concatInts), (90, sp_reach)]) an_faintLast Try.f88 sp_faintLast := by kernel_rfl
theorem vc_faintLast : fnVC Try.prog (tbl [(153, sp_faintCheck), (67, sp_cloneInts), (154, sp_lastC), (147, sp_idxIF), (89, sp_concatInts), (90, sp_reach)]) an_faintLast Try.f88 sp_faintLast := @Eq.mp _ _ @e_faintLast @vcp_faintLast
theorem ok_faintLast : sp_faintLast.ok Try.prog 88 := fn_sound (P := Try.prog) (ss := tbl [(153, sp_faintCheck), (67, sp_cloneInts), (154, sp_lastC), (147, sp_idxIF), (89, sp_concatInts), (90, sp_reach)]) (ann := an_faintLast) (f := 88) (fn := Try.f88) (s := sp_faintLast) (tbl_cons ok_faintCheck (tbl_cons ok_cloneInts (tbl_cons ok_lastC (tbl_cons ok_idxIF (tbl_cons ok_concatInts (tbl_cons ok_reach tbl_nil)))))) Try.func88 @vc_faintLast

theorem from_one {a f : List Int} (hw : ∀ x ∈ a, InR .u64 x) : fromF a [f] = fromFault a f := by
  unfold fromF fromFault
  rw [arena_check hw]
  by_cases h : (checkF a).2.2 ≠ 0
  · rw [if_pos h, if_pos h]
  · rw [if_neg h, if_neg h]
    have : ([f].all fun l => l.all (inL (beginsL (spotsF a).1))) = f.all (isB (spotsF a).1) := by
      simp only [List.all_cons, List.all_nil, Bool.and_true]
      congr 1
      funext x
      exact inL_begins x _
    rw [this]

def an_lawFaintLast : Nat → Option LoopGen
  | 1000004 => some { rd := [.dat 10 ty_I, .dat 2 (.arr ty_I)], A := fun ((c, q) : Int × List Int) => { cs := [.dat 10 ty_I], inv := fun (e : Int) => e = if c = 0 ∧ 32 < q.length then 2 else c, mu := fun _ => 0 } }
  | 1000006 => some { rd := [.dat 10 ty_I, .dat 0 (.arr ty_W), .dat 2 (.arr ty_I)], A := fun ((c, a, q) : Int × List Int × List Int) => { cs := [.dat 10 ty_I], inv := fun (e : Int) => e = if c = 0 then fromFault a q else c, mu := fun _ => 0 } }
  | 12 => some { rd := [.own 11 3 ty_I, .dat 56 (.arr ty_I)], A := fun ((live, q) : List Int × List Int) => { cs := [.own 12 3 ty_I, .dat 58 ty_I], inv := fun ((out, i) : List Int × Int) => 0 ≤ i ∧ i ≤ q.length ∧ out = (q.take i.toNat).filter (fun x => !inL live x), mu := fun ((_, i) : List Int × Int) => (q.length - i).toNat } }
  | _ => none
def sp_lawFaintLast : Spec := sp_law [.arr ty_W, .arr ty_I, .arr ty_I]
def pv_lawFaintLast : Prop :=
    ∀ (x : List Int × List Int × List Int),
  ((x.fst.length * (8 : Nat) ≤ big ∧ ∀ (x_1 : Int), x_1 ∈ x.fst → InR IntKind.u64 x_1) ∧
      (x.snd.fst.length * (8 : Nat) ≤ big ∧ ∀ (x_1 : Int), x_1 ∈ x.snd.fst → InR IntKind.i64 x_1) ∧
        x.snd.snd.length * (8 : Nat) ≤ big ∧ ∀ (x_1 : Int), x_1 ∈ x.snd.snd → InR IntKind.i64 x_1) →
    ((x.fst.length * (8 : Nat) ≤ (140737488351232 : Nat) ∧ ∀ (x_1 : Int), x_1 ∈ x.fst → sp_room ty_W x_1) ∧
        (x.snd.fst.length * (8 : Nat) ≤ (140737488351232 : Nat) ∧ ∀ (x_1 : Int), x_1 ∈ x.snd.fst → sp_room ty_I x_1) ∧
          x.snd.snd.length * (8 : Nat) ≤ (140737488351232 : Nat) ∧ ∀ (x_1 : Int), x_1 ∈ x.snd.snd → sp_room ty_I x_1) →
      (x.snd.fst.length + (32 : Nat)) * (8 : Nat) ≤ (140737488355328 : Nat) ∧
        True ∧
          (((decide (fromF x.fst [x.snd.fst] = (0 : Int)) && decide ((32 : Int) < (↑x.snd.snd.length : Int))) = true →
                (2 : Int) =
                  if fromF x.fst [x.snd.fst] = (0 : Int) ∧ (32 : Nat) < x.snd.snd.length then (2 : Int)
                  else fromF x.fst [x.snd.fst]) ∧
              ((decide (fromF x.fst [x.snd.fst] = (0 : Int)) && decide ((32 : Int) < (↑x.snd.snd.length : Int))) =
                  false →
                fromF x.fst [x.snd.fst] =
                  if fromF x.fst [x.snd.fst] = (0 : Int) ∧ (32 : Nat) < x.snd.snd.length then (2 : Int)
                  else fromF x.fst [x.snd.fst])) ∧
            ∀ (x_1 : Int),
              (x_1 =
                  if fromF x.fst [x.snd.fst] = (0 : Int) ∧ (32 : Nat) < x.snd.snd.length then (2 : Int)
                  else fromF x.fst [x.snd.fst]) →
                ((decide (x_1 = (0 : Int)) = true →
                      True ∧ fromF x.fst [x.snd.snd] = if x_1 = (0 : Int) then fromFault x.fst x.snd.snd else x_1) ∧
                    (decide (x_1 = (0 : Int)) = false →
                      x_1 = if x_1 = (0 : Int) then fromFault x.fst x.snd.snd else x_1)) ∧
                  ∀ (x_2 : Int),
                    (x_2 = if x_1 = (0 : Int) then fromFault x.fst x.snd.snd else x_1) →
                      (decide (x_2 ≠ (0 : Int)) = true →
                          InR IntKind.i64
                              ((↑(lastF x.fst x.snd.fst x.snd.snd).fst.length : Int) +
                                (↑(lastF x.fst x.snd.fst x.snd.snd).snd.fst.length : Int)) ∧
                            (decide
                                    ((↑(lastF x.fst x.snd.fst x.snd.snd).fst.length : Int) +
                                        (↑(lastF x.fst x.snd.fst x.snd.snd).snd.fst.length : Int) =
                                      (0 : Int)) &&
                                  decide ((lastF x.fst x.snd.fst x.snd.snd).snd.snd = x_2)) =
                                true ∧
                              True) ∧
                        (decide (x_2 ≠ (0 : Int)) = false →
                          (fromFault x.fst x.snd.fst = (0 : Int) ∧
                              (x.snd.fst.length + (256 : Nat)) * (8 : Nat) ≤ (140737488355328 : Nat)) ∧
                            ((0 : Int) ≤ (0 : Int) ∧
                                (0 : Int) ≤ (↑x.snd.snd.length : Int) ∧
                                  ([] : List Int) =
                                    List.filter (fun (x_3 : Int) => !inL (reachL x.fst x.snd.fst) x_3)
                                      (List.take (Int.toNat (0 : Int)) x.snd.snd)) ∧
                              ∀ (x_3 : List Int × Int),
                                (0 : Int) ≤ x_3.snd ∧
                                    x_3.snd ≤ (↑x.snd.snd.length : Int) ∧
                                      x_3.fst =
                                        List.filter (fun (x_4 : Int) => !inL (reachL x.fst x.snd.fst) x_4)
                                          (List.take x_3.snd.toNat x.snd.snd) →
                                  (decide (x_3.snd < (↑x.snd.snd.length : Int)) = true →
                                      (0 : Int) ≤ x_3.snd ∧
                                        x_3.snd < (↑x.snd.snd.length : Int) ∧
                                          True ∧
                                            ((!inL (reachL x.fst x.snd.fst) (x.snd.snd.getD x_3.snd.toNat (0 : Int))) =
                                                  true →
                                                (x_3.fst.length + [x.snd.snd.getD x_3.snd.toNat (0 : Int)].length) *
                                                      (8 : Nat) ≤
                                                    big ∧
                                                  InR IntKind.i64 (x_3.snd + (1 : Int)) ∧
                                                    ((0 : Int) ≤ x_3.snd + (1 : Int) ∧
                                                        x_3.snd + (1 : Int) ≤ (↑x.snd.snd.length : Int) ∧
                                                          x_3.fst ++ [x.snd.snd.getD x_3.snd.toNat (0 : Int)] =
                                                            List.filter
                                                              (fun (x_4 : Int) => !inL (reachL x.fst x.snd.fst) x_4)
                                                              (List.take (x_3.snd + (1 : Int)).toNat x.snd.snd)) ∧
                                                      ((↑x.snd.snd.length : Int) - (x_3.snd + (1 : Int))).toNat <
                                                        ((↑x.snd.snd.length : Int) - x_3.snd).toNat) ∧
                                              ((!inL (reachL x.fst x.snd.fst)
                                                      (x.snd.snd.getD x_3.snd.toNat (0 : Int))) =
                                                  false →
                                                InR IntKind.i64 (x_3.snd + (1 : Int)) ∧
                                                  ((0 : Int) ≤ x_3.snd + (1 : Int) ∧
                                                      x_3.snd + (1 : Int) ≤ (↑x.snd.snd.length : Int) ∧
                                                        x_3.fst =
                                                          List.filter
                                                            (fun (x_4 : Int) => !inL (reachL x.fst x.snd.fst) x_4)
                                                            (List.take (x_3.snd + (1 : Int)).toNat x.snd.snd)) ∧
                                                    ((↑x.snd.snd.length : Int) - (x_3.snd + (1 : Int))).toNat <
                                                      ((↑x.snd.snd.length : Int) - x_3.snd).toNat)) ∧
                                    (decide (x_3.snd < (↑x.snd.snd.length : Int)) = false →
                                      (decide ((lastF x.fst x.snd.fst x.snd.snd).snd.snd = (0 : Int)) = true → True) ∧
                                        ((decide ((lastF x.fst x.snd.fst x.snd.snd).snd.snd = (0 : Int)) &&
                                                decide ((lastF x.fst x.snd.fst x.snd.snd).fst = x_3.fst)) =
                                              true →
                                            [x.snd.fst, x_3.fst].flatten.length * (8 : Nat) ≤ big) ∧
                                          ((decide ((lastF x.fst x.snd.fst x.snd.snd).snd.snd = (0 : Int)) &&
                                                  decide ((lastF x.fst x.snd.fst x.snd.snd).fst = x_3.fst)) =
                                                true →
                                              fromFault x.fst [x.snd.fst, x_3.fst].flatten = (0 : Int) ∧
                                                ([x.snd.fst, x_3.fst].flatten.length + (256 : Nat)) * (8 : Nat) ≤
                                                  (140737488355328 : Nat)) ∧
                                            ((decide ((lastF x.fst x.snd.fst x.snd.snd).snd.snd = (0 : Int)) &&
                                                    decide ((lastF x.fst x.snd.fst x.snd.snd).fst = x_3.fst)) =
                                                  true →
                                                True) ∧
                                              (decide ((lastF x.fst x.snd.fst x.snd.snd).snd.snd = (0 : Int)) &&
                                                      decide ((lastF x.fst x.snd.fst x.snd.snd).fst = x_3.fst) &&
                                                    decide
                                                      ((lastF x.fst x.snd.fst x.snd.snd).snd.fst =
                                                        reachL x.fst [x.snd.fst, x_3.fst].flatten)) =
                                                  true ∧
                                                True))
theorem vcp_lawFaintLast : pv_lawFaintLast := by
  unfold pv_lawFaintLast
  intro ⟨a, f, q⟩ ⟨⟨hb, hw⟩, ⟨hbf, hf⟩, hbq, hq⟩ ⟨⟨_, _⟩, ⟨hrf, _⟩, hrq, _⟩
  simp only at hb hw hbf hf hbq hq hrf hrq ⊢
  rw [from_one hw, from_one hw]
  have hL : lastF a f q = if faintFault a f q.length q ≠ 0 then ([], [], faintFault a f q.length q) else (toldL a f q, reachL a (f ++ toldL a f q), 0) := rfl
  have hbad : ∀ e1 e2 : Int, (e1 = if fromFault a f = 0 ∧ 32 < q.length then 2 else fromFault a f) → (e2 = if e1 = 0 then fromFault a q else e1) → e2 = faintFault a f q.length q := by
    intro e1 e2 h1 h2
    unfold faintFault
    by_cases c1 : fromFault a f = 0
    · by_cases c2 : 32 < q.length
      · rw [if_pos ⟨c1, c2⟩] at h1
        rw [h1, if_neg (by omega)] at h2
        rw [if_neg (by omega), if_pos (by omega), h2]
      · rw [if_neg (by omega), c1] at h1
        rw [h1, if_pos rfl] at h2
        rw [if_neg (by omega), if_neg (by omega), h2]
    · rw [if_neg (fun h => c1 h.1)] at h1
      rw [h1, if_neg c1] at h2
      rw [if_pos c1, h2]
  refine ⟨by omega, trivial, ⟨fun h => ?_, fun h => ?_⟩, fun e1 h1 => ⟨⟨fun h => ⟨trivial, ?_⟩, fun h => ?_⟩, fun e2 h2 => ⟨fun hc => ?_, fun hc => ?_⟩⟩⟩
  · simp only [Bool.and_eq_true, decide_eq_true_eq] at h
    rw [if_pos ⟨h.1, by omega⟩]
  · rw [if_neg (fun h' => by simp [h'.1, h'.2] at h; omega)]
  · rw [if_pos (of_decide_eq_true h)]
  · rw [if_neg (of_decide_eq_false h)]
  · have hc := of_decide_eq_true hc
    have e := hbad e1 e2 h1 h2
    rw [hL, ← e, if_pos hc]
    simp [InR]
  · have hc : e2 = 0 := by simpa using of_decide_eq_false hc
    have e := hbad e1 e2 h1 h2
    rw [hc] at e
    have he := e.symm
    rw [if_neg (by omega)] at hL
    rw [hL]
    obtain ⟨hff, hq32, hfq⟩ : fromFault a f = 0 ∧ q.length ≤ 32 ∧ fromFault a q = 0 := by
      unfold faintFault at he
      split at he
      · rename_i h; exact absurd he h
      · split at he
        · omega
        · exact ⟨by omega, by omega, he⟩
    refine ⟨⟨hff, by omega⟩, ⟨by omega, by omega, by simp⟩, fun ⟨out, i⟩ ⟨i0, i1, i2⟩ => ⟨fun hlt => ?_, fun hge => ?_⟩⟩
    · simp only at i0 i1 i2 hlt ⊢
      have hlt := of_decide_eq_true hlt
      have hol : out.length ≤ q.length := by
        have := List.length_filter_le (fun x => !inL (reachL a f) x) (List.take i.toNat q)
        rw [i2]
        rw [List.length_take] at this
        omega
      rw [take_snoc (0 : Int) i0 hlt, List.filter_append, ← i2]
      unfold big
      simp only [InR, List.length_singleton]
      refine ⟨i0, hlt, trivial, fun hn => ⟨by omega, by omega, ⟨by omega, by omega, ?_⟩, by omega⟩, fun hn => ⟨by omega, ⟨by omega, by omega, ?_⟩, by omega⟩⟩
      · rw [List.filter_cons_of_pos (p := fun x => !inL (reachL a f) x) hn, List.filter_nil]
      · rw [List.filter_cons_of_neg (p := fun x => !inL (reachL a f) x) (by rw [hn]; simp), List.filter_nil, List.append_nil]
    · simp only at i0 i1 i2 hge ⊢
      rw [take_end (of_decide_eq_false hge)] at i2
      have i2 : out = toldL a f q := i2
      have htl : (toldL a f q).length ≤ q.length := List.length_filter_le _ _
      have hcat : [f, toldL a f q].flatten = f ++ toldL a f q := by simp
      have hft : fromFault a (f ++ toldL a f q) = 0 := by
        refine fromFault_of (fromFault_ok hff).1 (fun x hx => ?_)
        rcases List.mem_append.1 hx with hx | hx
        · exact (fromFault_ok hff).2 x hx
        · exact (fromFault_ok hfq).2 x (List.mem_filter.1 hx).1
      rw [i2, hcat]
      refine ⟨fun _ => trivial, fun _ => ?_, fun _ => ⟨hft, ?_⟩, fun _ => trivial, by simp, trivial⟩
      · unfold big; rw [List.length_append]; omega
      · rw [List.length_append]; omega
theorem e_lawFaintLast : pv_lawFaintLast = fnVC Try.prog (tbl [(88, sp_faintLast), (78, sp_rFrom), (84, sp_rReached), (48, sp_rIn), (20, sp_eqInts), (89, sp_concatInts)]) an_lawFaintLast Try.f13 sp_lawFaintLast := by kernel_rfl
theorem vc_lawFaintLast : fnVC Try.prog (tbl [(88, sp_faintLast), (78, sp_rFrom), (84, sp_rReached), (48, sp_rIn), (20, sp_eqInts), (89, sp_concatInts)]) an_lawFaintLast Try.f13 sp_lawFaintLast := @Eq.mp _ _ @e_lawFaintLast @vcp_lawFaintLast
theorem ok_lawFaintLast : sp_lawFaintLast.ok Try.prog 13 := fn_sound (P := Try.prog) (ss := tbl [(88, sp_faintLast), (78, sp_rFrom), (84, sp_rReached), (48, sp_rIn), (20, sp_eqInts), (89, sp_concatInts)]) (ann := an_lawFaintLast) (f := 13) (fn := Try.f13) (s := sp_lawFaintLast) (tbl_cons ok_faintLast (tbl_cons ok_rFrom (tbl_cons ok_rReached (tbl_cons ok_rIn (tbl_cons ok_eqInts (tbl_cons ok_concatInts tbl_nil)))))) Try.func13 @vc_lawFaintLast

end Go.Proofs.Ytgnamdjmjkeodaa
