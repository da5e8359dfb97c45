/- Contracts of package gap: what fits; and the law GapFits. -/
import Derived.Test.YtjkmfgneonifeaaSlices
namespace Go.Proofs.Ytjkmfgneonifeaa
open Go
set_option maxRecDepth 100000
set_option maxHeartbeats 1000000

abbrev ty_Run : Ty := .pair ty_I ty_I
/-- The places, from k on, of those that have n words. -/
def fitsFrom (n : Int) : Int → List (Int × Int) → List Int
  | _, [] => []
  | k, r :: l => if n ≤ r.2 then k :: fitsFrom n (k + 1) l else fitsFrom n (k + 1) l
def fitsBad (l : List (Int × Int)) : Bool := l.any fun r => decide (r.1 < 0) || decide (r.2 < 1)
def fitsF (l : List (Int × Int)) (n : Int) : List Int × Int := if n < 1 then ([], 1) else if fitsBad l then ([], 4) else if fitsFrom n 0 l = [] then ([], 7) else (fitsFrom n 0 l, 0)
/-- The best of b and those of p. -/
def bestFrom (l : List (Int × Int)) : Int → List Int → Int
  | b, [] => b
  | b, i :: p => bestFrom l (if (l.getD i.toNat (0, 0)).2 < (l.getD b.toNat (0, 0)).2 then i else b) p
def bestOf (l : List (Int × Int)) : List Int → Int
  | [] => -1
  | b :: p => bestFrom l b p
def firstF (l : List (Int × Int)) (n : Int) : Int × Int := if (fitsF l n).2 ≠ 0 then (0, (fitsF l n).2) else ((fitsF l n).1.getD 0 0, 0)
def bestF (l : List (Int × Int)) (n : Int) : Int × Int := if (fitsF l n).2 ≠ 0 then (0, (fitsF l n).2) else (bestOf l (fitsF l n).1, 0)

theorem fitsBad_cons (r : Int × Int) (l : List (Int × Int)) : fitsBad (r :: l) = (decide (r.1 < 0) || decide (r.2 < 1) || fitsBad l) := by
  simp [fitsBad]

theorem fitsBad_snoc (r : Int × Int) (l : List (Int × Int)) : fitsBad (l ++ [r]) = (fitsBad l || (decide (r.1 < 0) || decide (r.2 < 1))) := by
  simp [fitsBad]

theorem fitsFrom_range (n : Int) : ∀ (l : List (Int × Int)) (k : Int), ∀ e ∈ fitsFrom n k l, k ≤ e ∧ e < k + l.length
  | [], _ => by simp [fitsFrom]
  | r :: l, k => by
    intro e he
    have ih := fitsFrom_range n l (k + 1)
    simp only [fitsFrom] at he
    simp only [List.length_cons]
    split at he
    · rcases List.mem_cons.1 he with rfl | he
      · omega
      · have := ih e he; omega
    · have := ih e he; omega

theorem fitsFrom_length (n : Int) : ∀ (l : List (Int × Int)) (k : Int), (fitsFrom n k l).length ≤ l.length
  | [], _ => by simp [fitsFrom]
  | r :: l, k => by
    have ih := fitsFrom_length n l (k + 1)
    simp only [fitsFrom, List.length_cons]
    split
    · simp only [List.length_cons]; omega
    · omega

theorem fitsFrom_snoc (n : Int) (r : Int × Int) : ∀ (l : List (Int × Int)) (k : Int), fitsFrom n k (l ++ [r]) = fitsFrom n k l ++ (if n ≤ r.2 then [k + l.length] else [])
  | [], k => by simp [fitsFrom]
  | s :: l, k => by
    have ih := fitsFrom_snoc n r l (k + 1)
    simp only [List.cons_append, fitsFrom, ih, List.length_cons]
    have : k + 1 + (l.length : Int) = k + ((l.length + 1 : Nat) : Int) := by omega
    rw [this]
    split <;> rfl

theorem bestFrom_mem (l : List (Int × Int)) : ∀ (p : List Int) (b : Int), bestFrom l b p ∈ b :: p
  | [], b => by simp [bestFrom]
  | i :: p, b => by
    have := bestFrom_mem l p (if (l.getD i.toNat (0, 0)).2 < (l.getD b.toNat (0, 0)).2 then i else b)
    simp only [bestFrom]
    simp only [List.mem_cons] at this ⊢
    grind

theorem bestFrom_snoc (l : List (Int × Int)) (j : Int) : ∀ (p : List Int) (b : Int), bestFrom l b (p ++ [j]) = (if (l.getD j.toNat (0, 0)).2 < (l.getD (bestFrom l b p).toNat (0, 0)).2 then j else bestFrom l b p)
  | [], b => by simp [bestFrom]
  | i :: p, b => by
    simp only [List.cons_append, bestFrom]
    exact bestFrom_snoc l j p _

theorem bestOf_range (l : List (Int × Int)) (p : List Int) (h : ∀ e ∈ p, 0 ≤ e ∧ e < l.length) : p = [] ∨ (0 ≤ bestOf l p ∧ bestOf l p < l.length) := by
  cases p with
  | nil => exact .inl rfl
  | cons b p => exact .inr (h _ (bestFrom_mem l p b))

def an_fits : Nat → Option LoopGen
  | 5 => some { rd := [.dat 11 (.arr ty_Run), .dat 1 ty_I], A := fun ((l, n) : List (Int × Int) × Int) => { cs := [.own 6 3 ty_I, .dat 13 ty_I], inv := fun ((out, i) : List Int × Int) => 0 ≤ i ∧ i ≤ l.length ∧ 1 ≤ n ∧ out.length ≤ i ∧ fitsBad (l.drop i.toNat) = fitsBad l ∧ out ++ fitsFrom n i (l.drop i.toNat) = fitsFrom n 0 l, mu := fun ((_, i) : List Int × Int) => (l.length - i).toNat } }
  | _ => none

def sp_fits : Spec := { Ts := [.arr ty_Run, ty_I], Rs := [.own 3 ty_I, .dat ty_I], pre := fun _ => True, F := fun ((l, n) : List (Int × Int) × Int) => fitsF l n }
def pv_fits : Prop :=
    ∀ (x : List (Int × Int) × Int),
  (x.fst.length * ((8 : Nat) + (8 : Nat)) ≤ big ∧
        ∀ (x_1 : Int × Int), x_1 ∈ x.fst → InR IntKind.i64 x_1.fst ∧ InR IntKind.i64 x_1.snd) ∧
      InR IntKind.i64 x.snd →
    True →
      (decide (x.snd < (1 : Int)) = true → [] = (fitsF x.fst x.snd).fst ∧ (1 : Int) = (fitsF x.fst x.snd).snd ∧ True) ∧
        (decide (x.snd < (1 : Int)) = false →
          ((0 : Int) ≤ (0 : Int) ∧
              (0 : Int) ≤ (↑x.fst.length : Int) ∧
                (1 : Int) ≤ x.snd ∧
                  (↑(0 : Nat) : Int) ≤ (0 : Int) ∧
                    fitsBad (List.drop (Int.toNat (0 : Int)) x.fst) = fitsBad x.fst ∧
                      [] ++ fitsFrom x.snd (0 : Int) (List.drop (Int.toNat (0 : Int)) x.fst) =
                        fitsFrom x.snd (0 : Int) x.fst) ∧
            ∀ (x_1 : List Int × Int),
              (0 : Int) ≤ x_1.snd ∧
                  x_1.snd ≤ (↑x.fst.length : Int) ∧
                    (1 : Int) ≤ x.snd ∧
                      (↑x_1.fst.length : Int) ≤ x_1.snd ∧
                        fitsBad (List.drop x_1.snd.toNat x.fst) = fitsBad x.fst ∧
                          x_1.fst ++ fitsFrom x.snd x_1.snd (List.drop x_1.snd.toNat x.fst) =
                            fitsFrom x.snd (0 : Int) x.fst →
                (decide (x_1.snd < (↑x.fst.length : Int)) = true →
                    (0 : Int) ≤ x_1.snd ∧
                      x_1.snd < (↑x.fst.length : Int) ∧
                        ((decide ((x.fst.getD x_1.snd.toNat ((0 : Int), (0 : Int))).fst < (0 : Int)) ||
                                decide ((x.fst.getD x_1.snd.toNat ((0 : Int), (0 : Int))).snd < (1 : Int))) =
                              true →
                            [] = (fitsF x.fst x.snd).fst ∧ (4 : Int) = (fitsF x.fst x.snd).snd ∧ True) ∧
                          ((decide ((x.fst.getD x_1.snd.toNat ((0 : Int), (0 : Int))).fst < (0 : Int)) ||
                                decide ((x.fst.getD x_1.snd.toNat ((0 : Int), (0 : Int))).snd < (1 : Int))) =
                              false →
                            (decide (x.snd ≤ (x.fst.getD x_1.snd.toNat ((0 : Int), (0 : Int))).snd) = true →
                                (x_1.fst.length + [x_1.snd].length) * (8 : Nat) ≤ big ∧
                                  InR IntKind.i64 (x_1.snd + (1 : Int)) ∧
                                    ((0 : Int) ≤ x_1.snd + (1 : Int) ∧
                                        x_1.snd + (1 : Int) ≤ (↑x.fst.length : Int) ∧
                                          (1 : Int) ≤ x.snd ∧
                                            (↑(x_1.fst ++ [x_1.snd]).length : Int) ≤ x_1.snd + (1 : Int) ∧
                                              fitsBad (List.drop (x_1.snd + (1 : Int)).toNat x.fst) = fitsBad x.fst ∧
                                                x_1.fst ++ [x_1.snd] ++
                                                    fitsFrom x.snd (x_1.snd + (1 : Int))
                                                      (List.drop (x_1.snd + (1 : Int)).toNat x.fst) =
                                                  fitsFrom x.snd (0 : Int) x.fst) ∧
                                      ((↑x.fst.length : Int) - (x_1.snd + (1 : Int))).toNat <
                                        ((↑x.fst.length : Int) - x_1.snd).toNat) ∧
                              (decide (x.snd ≤ (x.fst.getD x_1.snd.toNat ((0 : Int), (0 : Int))).snd) = false →
                                InR IntKind.i64 (x_1.snd + (1 : Int)) ∧
                                  ((0 : Int) ≤ x_1.snd + (1 : Int) ∧
                                      x_1.snd + (1 : Int) ≤ (↑x.fst.length : Int) ∧
                                        (1 : Int) ≤ x.snd ∧
                                          (↑x_1.fst.length : Int) ≤ x_1.snd + (1 : Int) ∧
                                            fitsBad (List.drop (x_1.snd + (1 : Int)).toNat x.fst) = fitsBad x.fst ∧
                                              x_1.fst ++
                                                  fitsFrom x.snd (x_1.snd + (1 : Int))
                                                    (List.drop (x_1.snd + (1 : Int)).toNat x.fst) =
                                                fitsFrom x.snd (0 : Int) x.fst) ∧
                                    ((↑x.fst.length : Int) - (x_1.snd + (1 : Int))).toNat <
                                      ((↑x.fst.length : Int) - x_1.snd).toNat))) ∧
                  (decide (x_1.snd < (↑x.fst.length : Int)) = false →
                    (decide ((↑x_1.fst.length : Int) = (0 : Int)) = true →
                        [] = (fitsF x.fst x.snd).fst ∧ (7 : Int) = (fitsF x.fst x.snd).snd ∧ True) ∧
                      (decide ((↑x_1.fst.length : Int) = (0 : Int)) = false →
                        x_1.fst = (fitsF x.fst x.snd).fst ∧ (0 : Int) = (fitsF x.fst x.snd).snd ∧ True)))
theorem vcp_fits : pv_fits := by
  unfold pv_fits
  intro ⟨l, n⟩ ⟨⟨hl, _⟩, hn⟩ _
  unfold big at *
  have hb0 : fitsBad [] = false := rfl
  have hf0 : ∀ k, fitsFrom n k [] = [] := fun _ => rfl
  refine ⟨fun h => ?_, fun h => ⟨⟨by omega, by grind, by grind, by simp, by simp, by simp⟩, fun ⟨out, i⟩ ⟨h0, h1, h2, h3, h4, h5⟩ => ⟨fun hlt => ?_, fun hge => ?_⟩⟩⟩
  · simp only [fitsF]; grind
  · have hlt : i < (l.length : Int) := by simpa using hlt
    have e := drop_cons ((0, 0) : Int × Int) h0 hlt
    simp only at *
    simp only [e, fitsBad_cons, fitsFrom] at h4 h5
    simp only [fitsF, InR, List.length_append, List.length_cons, List.length_nil]
    repeat' (first | apply And.intro | intro _)
    all_goals grind
  · simp only at *
    rw [drop_end (by simpa using hge), hb0] at h4
    rw [drop_end (by simpa using hge), hf0, List.append_nil] at h5
    simp only [fitsF, ← h4, ← h5]
    by_cases ho : out = []
    · subst ho
      have : ¬ n < 1 := by omega
      simp [this]
    · have : ¬ n < 1 := by omega
      simp [this, ho]
theorem e_fits : pv_fits = fnVC Try.prog (tbl []) an_fits Try.f66 sp_fits := by kernel_rfl
theorem vc_fits : fnVC Try.prog (tbl []) an_fits Try.f66 sp_fits := @Eq.mp _ _ @e_fits @vcp_fits
theorem ok_fits : sp_fits.ok Try.prog 66 := fn_sound (P := Try.prog) (ss := tbl []) (ann := an_fits) (f := 66) (fn := Try.f66) (s := sp_fits) tbl_nil Try.func66 @vc_fits

def sp_first : Spec := { Ts := [.arr ty_Run, ty_I], Rs := [.dat ty_I, .dat ty_I], pre := fun _ => True, F := fun ((l, n) : List (Int × Int) × Int) => firstF l n }
def pv_first : Prop :=
    ∀ (x : List (Int × Int) × Int),
  (x.fst.length * ((8 : Nat) + (8 : Nat)) ≤ big ∧
        ∀ (x_1 : Int × Int), x_1 ∈ x.fst → InR IntKind.i64 x_1.fst ∧ InR IntKind.i64 x_1.snd) ∧
      InR IntKind.i64 x.snd →
    True →
      True ∧
        (decide ((fitsF x.fst x.snd).snd ≠ (0 : Int)) = true →
            (0 : Int) = (firstF x.fst x.snd).fst ∧ (fitsF x.fst x.snd).snd = (firstF x.fst x.snd).snd ∧ True) ∧
          (decide ((fitsF x.fst x.snd).snd ≠ (0 : Int)) = false →
            (0 : Int) ≤ (0 : Int) ∧
              (0 : Int) < (↑(fitsF x.fst x.snd).fst.length : Int) ∧
                Int.toNat (0 : Int) < (fitsF x.fst x.snd).fst.length ∧
                  (fitsF x.fst x.snd).fst.getD (Int.toNat (0 : Int)) (0 : Int) = (firstF x.fst x.snd).fst ∧
                    (0 : Int) = (firstF x.fst x.snd).snd ∧ True)
theorem vcp_first : pv_first := by
  unfold pv_first
  intro ⟨l, n⟩ _ _
  have h : (fitsF l n).2 = 0 → (fitsF l n).1 ≠ [] := by unfold fitsF; grind
  simp only [firstF]
  cases hc : (fitsF l n).1 <;> grind
theorem e_first : pv_first = fnVC Try.prog (tbl [(66, sp_fits)]) an_0 Try.f24 sp_first := by kernel_rfl
theorem vc_first : fnVC Try.prog (tbl [(66, sp_fits)]) an_0 Try.f24 sp_first := @Eq.mp _ _ @e_first @vcp_first
theorem ok_first : sp_first.ok Try.prog 24 := fn_sound (P := Try.prog) (ss := tbl [(66, sp_fits)]) (ann := an_0) (f := 24) (fn := Try.f24) (s := sp_first) (tbl_cons ok_fits tbl_nil) Try.func24 @vc_first

def an_best : Nat → Option LoopGen
  | 6 => some { rd := [.own 23 3 ty_I, .dat 0 (.arr ty_Run)], A := fun ((p, l) : List Int × List (Int × Int)) => { cs := [.dat 8 ty_I, .dat 25 ty_I], inv := fun ((b, i) : Int × Int) => 0 ≤ i ∧ i ≤ p.length ∧ 0 ≤ b ∧ b < l.length ∧ (∀ e ∈ p, 0 ≤ e ∧ e < l.length) ∧ bestFrom l b (p.drop i.toNat) = bestOf l p, mu := fun ((_, i) : Int × Int) => (p.length - i).toNat } }
  | _ => none

def sp_best : Spec := { Ts := [.arr ty_Run, ty_I], Rs := [.dat ty_I, .dat ty_I], pre := fun _ => True, F := fun ((l, n) : List (Int × Int) × Int) => bestF l n }
def pv_best : Prop :=
    ∀ (x : List (Int × Int) × Int),
  (x.fst.length * ((8 : Nat) + (8 : Nat)) ≤ big ∧
        ∀ (x_1 : Int × Int), x_1 ∈ x.fst → InR IntKind.i64 x_1.fst ∧ InR IntKind.i64 x_1.snd) ∧
      InR IntKind.i64 x.snd →
    True →
      True ∧
        (decide ((fitsF x.fst x.snd).snd ≠ (0 : Int)) = true →
            (0 : Int) = (bestF x.fst x.snd).fst ∧ (fitsF x.fst x.snd).snd = (bestF x.fst x.snd).snd ∧ True) ∧
          (decide ((fitsF x.fst x.snd).snd ≠ (0 : Int)) = false →
            (0 : Int) ≤ (0 : Int) ∧
              (0 : Int) < (↑(fitsF x.fst x.snd).fst.length : Int) ∧
                Int.toNat (0 : Int) < (fitsF x.fst x.snd).fst.length ∧
                  ((0 : Int) ≤ (0 : Int) ∧
                      (0 : Int) ≤ (↑(fitsF x.fst x.snd).fst.length : Int) ∧
                        (0 : Int) ≤ (fitsF x.fst x.snd).fst.getD (Int.toNat (0 : Int)) (0 : Int) ∧
                          (fitsF x.fst x.snd).fst.getD (Int.toNat (0 : Int)) (0 : Int) < (↑x.fst.length : Int) ∧
                            (∀ (e : Int), e ∈ (fitsF x.fst x.snd).fst → (0 : Int) ≤ e ∧ e < (↑x.fst.length : Int)) ∧
                              bestFrom x.fst ((fitsF x.fst x.snd).fst.getD (Int.toNat (0 : Int)) (0 : Int))
                                  (List.drop (Int.toNat (0 : Int)) (fitsF x.fst x.snd).fst) =
                                bestOf x.fst (fitsF x.fst x.snd).fst) ∧
                    ∀ (x_1 : Int × Int),
                      (0 : Int) ≤ x_1.snd ∧
                          x_1.snd ≤ (↑(fitsF x.fst x.snd).fst.length : Int) ∧
                            (0 : Int) ≤ x_1.fst ∧
                              x_1.fst < (↑x.fst.length : Int) ∧
                                (∀ (e : Int), e ∈ (fitsF x.fst x.snd).fst → (0 : Int) ≤ e ∧ e < (↑x.fst.length : Int)) ∧
                                  bestFrom x.fst x_1.fst (List.drop x_1.snd.toNat (fitsF x.fst x.snd).fst) =
                                    bestOf x.fst (fitsF x.fst x.snd).fst →
                        (decide (x_1.snd < (↑(fitsF x.fst x.snd).fst.length : Int)) = true →
                            (0 : Int) ≤ x_1.snd ∧
                              x_1.snd < (↑(fitsF x.fst x.snd).fst.length : Int) ∧
                                x_1.snd.toNat < (fitsF x.fst x.snd).fst.length ∧
                                  (0 : Int) ≤ (fitsF x.fst x.snd).fst.getD x_1.snd.toNat (0 : Int) ∧
                                    (fitsF x.fst x.snd).fst.getD x_1.snd.toNat (0 : Int) < (↑x.fst.length : Int) ∧
                                      (0 : Int) ≤ x_1.fst ∧
                                        x_1.fst < (↑x.fst.length : Int) ∧
                                          (decide
                                                  ((x.fst.getD
                                                        ((fitsF x.fst x.snd).fst.getD x_1.snd.toNat (0 : Int)).toNat
                                                        ((0 : Int), (0 : Int))).snd <
                                                    (x.fst.getD x_1.fst.toNat ((0 : Int), (0 : Int))).snd) =
                                                true →
                                              InR IntKind.i64 (x_1.snd + (1 : Int)) ∧
                                                ((0 : Int) ≤ x_1.snd + (1 : Int) ∧
                                                    x_1.snd + (1 : Int) ≤ (↑(fitsF x.fst x.snd).fst.length : Int) ∧
                                                      (0 : Int) ≤ (fitsF x.fst x.snd).fst.getD x_1.snd.toNat (0 : Int) ∧
                                                        (fitsF x.fst x.snd).fst.getD x_1.snd.toNat (0 : Int) <
                                                            (↑x.fst.length : Int) ∧
                                                          (∀ (e : Int),
                                                              e ∈ (fitsF x.fst x.snd).fst →
                                                                (0 : Int) ≤ e ∧ e < (↑x.fst.length : Int)) ∧
                                                            bestFrom x.fst
                                                                ((fitsF x.fst x.snd).fst.getD x_1.snd.toNat (0 : Int))
                                                                (List.drop (x_1.snd + (1 : Int)).toNat
                                                                  (fitsF x.fst x.snd).fst) =
                                                              bestOf x.fst (fitsF x.fst x.snd).fst) ∧
                                                  ((↑(fitsF x.fst x.snd).fst.length : Int) -
                                                        (x_1.snd + (1 : Int))).toNat <
                                                    ((↑(fitsF x.fst x.snd).fst.length : Int) - x_1.snd).toNat) ∧
                                            (decide
                                                  ((x.fst.getD
                                                        ((fitsF x.fst x.snd).fst.getD x_1.snd.toNat (0 : Int)).toNat
                                                        ((0 : Int), (0 : Int))).snd <
                                                    (x.fst.getD x_1.fst.toNat ((0 : Int), (0 : Int))).snd) =
                                                false →
                                              InR IntKind.i64 (x_1.snd + (1 : Int)) ∧
                                                ((0 : Int) ≤ x_1.snd + (1 : Int) ∧
                                                    x_1.snd + (1 : Int) ≤ (↑(fitsF x.fst x.snd).fst.length : Int) ∧
                                                      (0 : Int) ≤ x_1.fst ∧
                                                        x_1.fst < (↑x.fst.length : Int) ∧
                                                          (∀ (e : Int),
                                                              e ∈ (fitsF x.fst x.snd).fst →
                                                                (0 : Int) ≤ e ∧ e < (↑x.fst.length : Int)) ∧
                                                            bestFrom x.fst x_1.fst
                                                                (List.drop (x_1.snd + (1 : Int)).toNat
                                                                  (fitsF x.fst x.snd).fst) =
                                                              bestOf x.fst (fitsF x.fst x.snd).fst) ∧
                                                  ((↑(fitsF x.fst x.snd).fst.length : Int) -
                                                        (x_1.snd + (1 : Int))).toNat <
                                                    ((↑(fitsF x.fst x.snd).fst.length : Int) - x_1.snd).toNat)) ∧
                          (decide (x_1.snd < (↑(fitsF x.fst x.snd).fst.length : Int)) = false →
                            x_1.fst = (bestF x.fst x.snd).fst ∧ (0 : Int) = (bestF x.fst x.snd).snd ∧ True))
theorem vcp_best : pv_best := by
  unfold pv_best
  intro ⟨l, n⟩ ⟨⟨hl, _⟩, _⟩ _
  unfold big at hl
  have h : (fitsF l n).2 = 0 → (fitsF l n).1 ≠ [] ∧ (∀ e ∈ (fitsF l n).1, 0 ≤ e ∧ e < l.length) ∧ (fitsF l n).1.length ≤ l.length := by
    have := fitsFrom_range n l 0
    have := fitsFrom_length n l 0
    unfold fitsF
    grind
  simp only [bestF] at *
  generalize fitsF l n = f at *
  obtain ⟨p, e⟩ := f
  simp only at *
  refine ⟨trivial, fun he => by grind, fun he => ?_⟩
  have he : e = 0 := by simpa using he
  obtain ⟨hp, hr, hlen⟩ := h he
  subst he
  cases p with
  | nil => exact absurd rfl hp
  | cons q qs =>
    have hq := hr q (by simp)
    have hb : bestFrom l q (q :: qs) = bestFrom l q qs := by simp [bestFrom]
    refine ⟨by omega, by simp, by simp, ⟨by omega, by omega, by simpa using hq.1, by simpa using hq.2, hr, by simpa [bestOf] using hb⟩, fun ⟨b, i⟩ ⟨h0, h1, h2, h3, _, h5⟩ => ⟨fun hlt => ?_, fun hge => ?_⟩⟩
    · have hlt : i < ((q :: qs).length : Int) := by simpa using hlt
      have e := drop_cons (0 : Int) h0 hlt
      have hm := hr _ (getD_mem (0 : Int) h0 hlt)
      simp only at *
      rw [e] at h5
      simp only [bestFrom] at h5
      generalize (q :: qs).getD i.toNat 0 = v at *
      refine ⟨h0, hlt, by omega, hm.1, hm.2, h2, h3, fun hc => ?_, fun hc => ?_⟩
      · have hc := of_decide_eq_true hc
        rw [if_pos hc] at h5
        exact ⟨by simp only [InR]; omega, ⟨by omega, by omega, hm.1, hm.2, hr, h5⟩, by omega⟩
      · have hc := of_decide_eq_false hc
        rw [if_neg hc] at h5
        exact ⟨by simp only [InR]; omega, ⟨by omega, by omega, h2, h3, hr, h5⟩, by omega⟩
    · have hge : ¬ i < ((q :: qs).length : Int) := by simpa using hge
      simp only at *
      rw [drop_end hge] at h5
      simp only [bestFrom] at h5
      simp [h5]
theorem e_best : pv_best = fnVC Try.prog (tbl [(66, sp_fits)]) an_best Try.f25 sp_best := by kernel_rfl
theorem vc_best : fnVC Try.prog (tbl [(66, sp_fits)]) an_best Try.f25 sp_best := @Eq.mp _ _ @e_best @vcp_best
theorem ok_best : sp_best.ok Try.prog 25 := fn_sound (P := Try.prog) (ss := tbl [(66, sp_fits)]) (ann := an_best) (f := 25) (fn := Try.f25) (s := sp_best) (tbl_cons ok_fits tbl_nil) Try.func25 @vc_best

def an_lawGap : Nat → Option LoopGen
  | 6 => some { rd := [.dat 26 (.arr ty_Run), .dat 1 ty_I], A := fun ((l, n) : List (Int × Int) × Int) => { cs := [.dat 9 ty_I, .dat 10 ty_I, .dat 11 ty_I, .dat 28 ty_I], inv := fun ((want, best, bad, i) : Int × Int × Int × Int) => 0 ≤ i ∧ i ≤ l.length ∧ want = (fitsFrom n 0 (l.take i.toNat)).headD (-1) ∧ best = bestOf l (fitsFrom n 0 (l.take i.toNat)) ∧ bad = (if fitsBad (l.take i.toNat) then 4 else 0), mu := fun ((_, _, _, i) : Int × Int × Int × Int) => (l.length - i).toNat } }
  | _ => none

def sp_lawGapFits : Spec := sp_law [.arr ty_Run, ty_I]
def pv_lawGapFits : Prop :=
    ∀ (x : List (Int × Int) × Int),
  (x.fst.length * ((8 : Nat) + (8 : Nat)) ≤ big ∧
        ∀ (x_1 : Int × Int), x_1 ∈ x.fst → InR IntKind.i64 x_1.fst ∧ InR IntKind.i64 x_1.snd) ∧
      InR IntKind.i64 x.snd →
    True →
      True ∧
        True ∧
          ((0 : Int) ≤ (0 : Int) ∧
              (0 : Int) ≤ (↑x.fst.length : Int) ∧
                (-1 : Int) = (fitsFrom x.snd (0 : Int) (List.take (Int.toNat (0 : Int)) x.fst)).headD (-1 : Int) ∧
                  (-1 : Int) = bestOf x.fst (fitsFrom x.snd (0 : Int) (List.take (Int.toNat (0 : Int)) x.fst)) ∧
                    (0 : Int) =
                      if fitsBad (List.take (Int.toNat (0 : Int)) x.fst) = true then (4 : Int) else (0 : Int)) ∧
            ∀ (x_1 : Int × Int × Int × Int),
              ((0 : Int) ≤ x_1.snd.snd.snd ∧
                  x_1.snd.snd.snd ≤ (↑x.fst.length : Int) ∧
                    x_1.fst = (fitsFrom x.snd (0 : Int) (List.take x_1.snd.snd.snd.toNat x.fst)).headD (-1 : Int) ∧
                      x_1.snd.fst = bestOf x.fst (fitsFrom x.snd (0 : Int) (List.take x_1.snd.snd.snd.toNat x.fst)) ∧
                        x_1.snd.snd.fst =
                          if fitsBad (List.take x_1.snd.snd.snd.toNat x.fst) = true then (4 : Int) else (0 : Int)) →
                (decide (x_1.snd.snd.snd < (↑x.fst.length : Int)) = true →
                    (0 : Int) ≤ x_1.snd.snd.snd ∧
                      x_1.snd.snd.snd < (↑x.fst.length : Int) ∧
                        ((decide ((x.fst.getD x_1.snd.snd.snd.toNat ((0 : Int), (0 : Int))).fst < (0 : Int)) ||
                                decide ((x.fst.getD x_1.snd.snd.snd.toNat ((0 : Int), (0 : Int))).snd < (1 : Int))) =
                              true →
                            (decide ((x.fst.getD x_1.snd.snd.snd.toNat ((0 : Int), (0 : Int))).snd < x.snd) = true →
                                InR IntKind.i64 (x_1.snd.snd.snd + (1 : Int)) ∧
                                  ((0 : Int) ≤ x_1.snd.snd.snd + (1 : Int) ∧
                                      x_1.snd.snd.snd + (1 : Int) ≤ (↑x.fst.length : Int) ∧
                                        x_1.fst =
                                            (fitsFrom x.snd (0 : Int)
                                                  (List.take (x_1.snd.snd.snd + (1 : Int)).toNat x.fst)).headD
                                              (-1 : Int) ∧
                                          x_1.snd.fst =
                                              bestOf x.fst
                                                (fitsFrom x.snd (0 : Int)
                                                  (List.take (x_1.snd.snd.snd + (1 : Int)).toNat x.fst)) ∧
                                            (4 : Int) =
                                              if
                                                  fitsBad (List.take (x_1.snd.snd.snd + (1 : Int)).toNat x.fst) =
                                                    true then
                                                (4 : Int)
                                              else (0 : Int)) ∧
                                    ((↑x.fst.length : Int) - (x_1.snd.snd.snd + (1 : Int))).toNat <
                                      ((↑x.fst.length : Int) - x_1.snd.snd.snd).toNat) ∧
                              (decide ((x.fst.getD x_1.snd.snd.snd.toNat ((0 : Int), (0 : Int))).snd < x.snd) = false →
                                (decide (x_1.fst < (0 : Int)) = true →
                                    (decide (x_1.snd.fst < (0 : Int)) = false → (0 : Int) ≤ x_1.snd.fst) ∧
                                      (decide (x_1.snd.fst < (0 : Int)) = false → x_1.snd.fst < (↑x.fst.length : Int)) ∧
                                        ((decide (x_1.snd.fst < (0 : Int)) ||
                                                decide
                                                  ((x.fst.getD x_1.snd.snd.snd.toNat ((0 : Int), (0 : Int))).snd <
                                                    (x.fst.getD x_1.snd.fst.toNat ((0 : Int), (0 : Int))).snd)) =
                                              true →
                                            InR IntKind.i64 (x_1.snd.snd.snd + (1 : Int)) ∧
                                              ((0 : Int) ≤ x_1.snd.snd.snd + (1 : Int) ∧
                                                  x_1.snd.snd.snd + (1 : Int) ≤ (↑x.fst.length : Int) ∧
                                                    x_1.snd.snd.snd =
                                                        (fitsFrom x.snd (0 : Int)
                                                              (List.take (x_1.snd.snd.snd + (1 : Int)).toNat
                                                                x.fst)).headD
                                                          (-1 : Int) ∧
                                                      x_1.snd.snd.snd =
                                                          bestOf x.fst
                                                            (fitsFrom x.snd (0 : Int)
                                                              (List.take (x_1.snd.snd.snd + (1 : Int)).toNat x.fst)) ∧
                                                        (4 : Int) =
                                                          if
                                                              fitsBad
                                                                  (List.take (x_1.snd.snd.snd + (1 : Int)).toNat
                                                                    x.fst) =
                                                                true then
                                                            (4 : Int)
                                                          else (0 : Int)) ∧
                                                ((↑x.fst.length : Int) - (x_1.snd.snd.snd + (1 : Int))).toNat <
                                                  ((↑x.fst.length : Int) - x_1.snd.snd.snd).toNat) ∧
                                          ((decide (x_1.snd.fst < (0 : Int)) ||
                                                decide
                                                  ((x.fst.getD x_1.snd.snd.snd.toNat ((0 : Int), (0 : Int))).snd <
                                                    (x.fst.getD x_1.snd.fst.toNat ((0 : Int), (0 : Int))).snd)) =
                                              false →
                                            InR IntKind.i64 (x_1.snd.snd.snd + (1 : Int)) ∧
                                              ((0 : Int) ≤ x_1.snd.snd.snd + (1 : Int) ∧
                                                  x_1.snd.snd.snd + (1 : Int) ≤ (↑x.fst.length : Int) ∧
                                                    x_1.snd.snd.snd =
                                                        (fitsFrom x.snd (0 : Int)
                                                              (List.take (x_1.snd.snd.snd + (1 : Int)).toNat
                                                                x.fst)).headD
                                                          (-1 : Int) ∧
                                                      x_1.snd.fst =
                                                          bestOf x.fst
                                                            (fitsFrom x.snd (0 : Int)
                                                              (List.take (x_1.snd.snd.snd + (1 : Int)).toNat x.fst)) ∧
                                                        (4 : Int) =
                                                          if
                                                              fitsBad
                                                                  (List.take (x_1.snd.snd.snd + (1 : Int)).toNat
                                                                    x.fst) =
                                                                true then
                                                            (4 : Int)
                                                          else (0 : Int)) ∧
                                                ((↑x.fst.length : Int) - (x_1.snd.snd.snd + (1 : Int))).toNat <
                                                  ((↑x.fst.length : Int) - x_1.snd.snd.snd).toNat)) ∧
                                  (decide (x_1.fst < (0 : Int)) = false →
                                    (decide (x_1.snd.fst < (0 : Int)) = false → (0 : Int) ≤ x_1.snd.fst) ∧
                                      (decide (x_1.snd.fst < (0 : Int)) = false → x_1.snd.fst < (↑x.fst.length : Int)) ∧
                                        ((decide (x_1.snd.fst < (0 : Int)) ||
                                                decide
                                                  ((x.fst.getD x_1.snd.snd.snd.toNat ((0 : Int), (0 : Int))).snd <
                                                    (x.fst.getD x_1.snd.fst.toNat ((0 : Int), (0 : Int))).snd)) =
                                              true →
                                            InR IntKind.i64 (x_1.snd.snd.snd + (1 : Int)) ∧
                                              ((0 : Int) ≤ x_1.snd.snd.snd + (1 : Int) ∧
                                                  x_1.snd.snd.snd + (1 : Int) ≤ (↑x.fst.length : Int) ∧
                                                    x_1.fst =
                                                        (fitsFrom x.snd (0 : Int)
                                                              (List.take (x_1.snd.snd.snd + (1 : Int)).toNat
                                                                x.fst)).headD
                                                          (-1 : Int) ∧
                                                      x_1.snd.snd.snd =
                                                          bestOf x.fst
                                                            (fitsFrom x.snd (0 : Int)
                                                              (List.take (x_1.snd.snd.snd + (1 : Int)).toNat x.fst)) ∧
                                                        (4 : Int) =
                                                          if
                                                              fitsBad
                                                                  (List.take (x_1.snd.snd.snd + (1 : Int)).toNat
                                                                    x.fst) =
                                                                true then
                                                            (4 : Int)
                                                          else (0 : Int)) ∧
                                                ((↑x.fst.length : Int) - (x_1.snd.snd.snd + (1 : Int))).toNat <
                                                  ((↑x.fst.length : Int) - x_1.snd.snd.snd).toNat) ∧
                                          ((decide (x_1.snd.fst < (0 : Int)) ||
                                                decide
                                                  ((x.fst.getD x_1.snd.snd.snd.toNat ((0 : Int), (0 : Int))).snd <
                                                    (x.fst.getD x_1.snd.fst.toNat ((0 : Int), (0 : Int))).snd)) =
                                              false →
                                            InR IntKind.i64 (x_1.snd.snd.snd + (1 : Int)) ∧
                                              ((0 : Int) ≤ x_1.snd.snd.snd + (1 : Int) ∧
                                                  x_1.snd.snd.snd + (1 : Int) ≤ (↑x.fst.length : Int) ∧
                                                    x_1.fst =
                                                        (fitsFrom x.snd (0 : Int)
                                                              (List.take (x_1.snd.snd.snd + (1 : Int)).toNat
                                                                x.fst)).headD
                                                          (-1 : Int) ∧
                                                      x_1.snd.fst =
                                                          bestOf x.fst
                                                            (fitsFrom x.snd (0 : Int)
                                                              (List.take (x_1.snd.snd.snd + (1 : Int)).toNat x.fst)) ∧
                                                        (4 : Int) =
                                                          if
                                                              fitsBad
                                                                  (List.take (x_1.snd.snd.snd + (1 : Int)).toNat
                                                                    x.fst) =
                                                                true then
                                                            (4 : Int)
                                                          else (0 : Int)) ∧
                                                ((↑x.fst.length : Int) - (x_1.snd.snd.snd + (1 : Int))).toNat <
                                                  ((↑x.fst.length : Int) - x_1.snd.snd.snd).toNat)))) ∧
                          ((decide ((x.fst.getD x_1.snd.snd.snd.toNat ((0 : Int), (0 : Int))).fst < (0 : Int)) ||
                                decide ((x.fst.getD x_1.snd.snd.snd.toNat ((0 : Int), (0 : Int))).snd < (1 : Int))) =
                              false →
                            (decide ((x.fst.getD x_1.snd.snd.snd.toNat ((0 : Int), (0 : Int))).snd < x.snd) = true →
                                InR IntKind.i64 (x_1.snd.snd.snd + (1 : Int)) ∧
                                  ((0 : Int) ≤ x_1.snd.snd.snd + (1 : Int) ∧
                                      x_1.snd.snd.snd + (1 : Int) ≤ (↑x.fst.length : Int) ∧
                                        x_1.fst =
                                            (fitsFrom x.snd (0 : Int)
                                                  (List.take (x_1.snd.snd.snd + (1 : Int)).toNat x.fst)).headD
                                              (-1 : Int) ∧
                                          x_1.snd.fst =
                                              bestOf x.fst
                                                (fitsFrom x.snd (0 : Int)
                                                  (List.take (x_1.snd.snd.snd + (1 : Int)).toNat x.fst)) ∧
                                            x_1.snd.snd.fst =
                                              if
                                                  fitsBad (List.take (x_1.snd.snd.snd + (1 : Int)).toNat x.fst) =
                                                    true then
                                                (4 : Int)
                                              else (0 : Int)) ∧
                                    ((↑x.fst.length : Int) - (x_1.snd.snd.snd + (1 : Int))).toNat <
                                      ((↑x.fst.length : Int) - x_1.snd.snd.snd).toNat) ∧
                              (decide ((x.fst.getD x_1.snd.snd.snd.toNat ((0 : Int), (0 : Int))).snd < x.snd) = false →
                                (decide (x_1.fst < (0 : Int)) = true →
                                    (decide (x_1.snd.fst < (0 : Int)) = false → (0 : Int) ≤ x_1.snd.fst) ∧
                                      (decide (x_1.snd.fst < (0 : Int)) = false → x_1.snd.fst < (↑x.fst.length : Int)) ∧
                                        ((decide (x_1.snd.fst < (0 : Int)) ||
                                                decide
                                                  ((x.fst.getD x_1.snd.snd.snd.toNat ((0 : Int), (0 : Int))).snd <
                                                    (x.fst.getD x_1.snd.fst.toNat ((0 : Int), (0 : Int))).snd)) =
                                              true →
                                            InR IntKind.i64 (x_1.snd.snd.snd + (1 : Int)) ∧
                                              ((0 : Int) ≤ x_1.snd.snd.snd + (1 : Int) ∧
                                                  x_1.snd.snd.snd + (1 : Int) ≤ (↑x.fst.length : Int) ∧
                                                    x_1.snd.snd.snd =
                                                        (fitsFrom x.snd (0 : Int)
                                                              (List.take (x_1.snd.snd.snd + (1 : Int)).toNat
                                                                x.fst)).headD
                                                          (-1 : Int) ∧
                                                      x_1.snd.snd.snd =
                                                          bestOf x.fst
                                                            (fitsFrom x.snd (0 : Int)
                                                              (List.take (x_1.snd.snd.snd + (1 : Int)).toNat x.fst)) ∧
                                                        x_1.snd.snd.fst =
                                                          if
                                                              fitsBad
                                                                  (List.take (x_1.snd.snd.snd + (1 : Int)).toNat
                                                                    x.fst) =
                                                                true then
                                                            (4 : Int)
                                                          else (0 : Int)) ∧
                                                ((↑x.fst.length : Int) - (x_1.snd.snd.snd + (1 : Int))).toNat <
                                                  ((↑x.fst.length : Int) - x_1.snd.snd.snd).toNat) ∧
                                          ((decide (x_1.snd.fst < (0 : Int)) ||
                                                decide
                                                  ((x.fst.getD x_1.snd.snd.snd.toNat ((0 : Int), (0 : Int))).snd <
                                                    (x.fst.getD x_1.snd.fst.toNat ((0 : Int), (0 : Int))).snd)) =
                                              false →
                                            InR IntKind.i64 (x_1.snd.snd.snd + (1 : Int)) ∧
                                              ((0 : Int) ≤ x_1.snd.snd.snd + (1 : Int) ∧
                                                  x_1.snd.snd.snd + (1 : Int) ≤ (↑x.fst.length : Int) ∧
                                                    x_1.snd.snd.snd =
                                                        (fitsFrom x.snd (0 : Int)
                                                              (List.take (x_1.snd.snd.snd + (1 : Int)).toNat
                                                                x.fst)).headD
                                                          (-1 : Int) ∧
                                                      x_1.snd.fst =
                                                          bestOf x.fst
                                                            (fitsFrom x.snd (0 : Int)
                                                              (List.take (x_1.snd.snd.snd + (1 : Int)).toNat x.fst)) ∧
                                                        x_1.snd.snd.fst =
                                                          if
                                                              fitsBad
                                                                  (List.take (x_1.snd.snd.snd + (1 : Int)).toNat
                                                                    x.fst) =
                                                                true then
                                                            (4 : Int)
                                                          else (0 : Int)) ∧
                                                ((↑x.fst.length : Int) - (x_1.snd.snd.snd + (1 : Int))).toNat <
                                                  ((↑x.fst.length : Int) - x_1.snd.snd.snd).toNat)) ∧
                                  (decide (x_1.fst < (0 : Int)) = false →
                                    (decide (x_1.snd.fst < (0 : Int)) = false → (0 : Int) ≤ x_1.snd.fst) ∧
                                      (decide (x_1.snd.fst < (0 : Int)) = false → x_1.snd.fst < (↑x.fst.length : Int)) ∧
                                        ((decide (x_1.snd.fst < (0 : Int)) ||
                                                decide
                                                  ((x.fst.getD x_1.snd.snd.snd.toNat ((0 : Int), (0 : Int))).snd <
                                                    (x.fst.getD x_1.snd.fst.toNat ((0 : Int), (0 : Int))).snd)) =
                                              true →
                                            InR IntKind.i64 (x_1.snd.snd.snd + (1 : Int)) ∧
                                              ((0 : Int) ≤ x_1.snd.snd.snd + (1 : Int) ∧
                                                  x_1.snd.snd.snd + (1 : Int) ≤ (↑x.fst.length : Int) ∧
                                                    x_1.fst =
                                                        (fitsFrom x.snd (0 : Int)
                                                              (List.take (x_1.snd.snd.snd + (1 : Int)).toNat
                                                                x.fst)).headD
                                                          (-1 : Int) ∧
                                                      x_1.snd.snd.snd =
                                                          bestOf x.fst
                                                            (fitsFrom x.snd (0 : Int)
                                                              (List.take (x_1.snd.snd.snd + (1 : Int)).toNat x.fst)) ∧
                                                        x_1.snd.snd.fst =
                                                          if
                                                              fitsBad
                                                                  (List.take (x_1.snd.snd.snd + (1 : Int)).toNat
                                                                    x.fst) =
                                                                true then
                                                            (4 : Int)
                                                          else (0 : Int)) ∧
                                                ((↑x.fst.length : Int) - (x_1.snd.snd.snd + (1 : Int))).toNat <
                                                  ((↑x.fst.length : Int) - x_1.snd.snd.snd).toNat) ∧
                                          ((decide (x_1.snd.fst < (0 : Int)) ||
                                                decide
                                                  ((x.fst.getD x_1.snd.snd.snd.toNat ((0 : Int), (0 : Int))).snd <
                                                    (x.fst.getD x_1.snd.fst.toNat ((0 : Int), (0 : Int))).snd)) =
                                              false →
                                            InR IntKind.i64 (x_1.snd.snd.snd + (1 : Int)) ∧
                                              ((0 : Int) ≤ x_1.snd.snd.snd + (1 : Int) ∧
                                                  x_1.snd.snd.snd + (1 : Int) ≤ (↑x.fst.length : Int) ∧
                                                    x_1.fst =
                                                        (fitsFrom x.snd (0 : Int)
                                                              (List.take (x_1.snd.snd.snd + (1 : Int)).toNat
                                                                x.fst)).headD
                                                          (-1 : Int) ∧
                                                      x_1.snd.fst =
                                                          bestOf x.fst
                                                            (fitsFrom x.snd (0 : Int)
                                                              (List.take (x_1.snd.snd.snd + (1 : Int)).toNat x.fst)) ∧
                                                        x_1.snd.snd.fst =
                                                          if
                                                              fitsBad
                                                                  (List.take (x_1.snd.snd.snd + (1 : Int)).toNat
                                                                    x.fst) =
                                                                true then
                                                            (4 : Int)
                                                          else (0 : Int)) ∧
                                                ((↑x.fst.length : Int) - (x_1.snd.snd.snd + (1 : Int))).toNat <
                                                  ((↑x.fst.length : Int) - x_1.snd.snd.snd).toNat))))) ∧
                  (decide (x_1.snd.snd.snd < (↑x.fst.length : Int)) = false →
                    (decide (x.snd < (1 : Int)) = true →
                        (decide ((1 : Int) ≠ (0 : Int)) = true →
                            (decide ((firstF x.fst x.snd).fst = (0 : Int)) &&
                                      decide ((firstF x.fst x.snd).snd = (1 : Int)) &&
                                    decide ((bestF x.fst x.snd).fst = (0 : Int)) &&
                                  decide ((bestF x.fst x.snd).snd = (1 : Int))) =
                                true ∧
                              True) ∧
                          (decide ((1 : Int) ≠ (0 : Int)) = false →
                            (decide ((firstF x.fst x.snd).fst = x_1.fst) &&
                                      decide ((firstF x.fst x.snd).snd = (0 : Int)) &&
                                    decide ((bestF x.fst x.snd).fst = x_1.snd.fst) &&
                                  decide ((bestF x.fst x.snd).snd = (0 : Int))) =
                                true ∧
                              True)) ∧
                      (decide (x.snd < (1 : Int)) = false →
                        ((decide (x_1.snd.snd.fst = (0 : Int)) && decide (x_1.fst < (0 : Int))) = true →
                            (decide ((7 : Int) ≠ (0 : Int)) = true →
                                (decide ((firstF x.fst x.snd).fst = (0 : Int)) &&
                                          decide ((firstF x.fst x.snd).snd = (7 : Int)) &&
                                        decide ((bestF x.fst x.snd).fst = (0 : Int)) &&
                                      decide ((bestF x.fst x.snd).snd = (7 : Int))) =
                                    true ∧
                                  True) ∧
                              (decide ((7 : Int) ≠ (0 : Int)) = false →
                                (decide ((firstF x.fst x.snd).fst = x_1.fst) &&
                                          decide ((firstF x.fst x.snd).snd = (0 : Int)) &&
                                        decide ((bestF x.fst x.snd).fst = x_1.snd.fst) &&
                                      decide ((bestF x.fst x.snd).snd = (0 : Int))) =
                                    true ∧
                                  True)) ∧
                          ((decide (x_1.snd.snd.fst = (0 : Int)) && decide (x_1.fst < (0 : Int))) = false →
                            (decide (x_1.snd.snd.fst ≠ (0 : Int)) = true →
                                (decide ((firstF x.fst x.snd).fst = (0 : Int)) &&
                                          decide ((firstF x.fst x.snd).snd = x_1.snd.snd.fst) &&
                                        decide ((bestF x.fst x.snd).fst = (0 : Int)) &&
                                      decide ((bestF x.fst x.snd).snd = x_1.snd.snd.fst)) =
                                    true ∧
                                  True) ∧
                              (decide (x_1.snd.snd.fst ≠ (0 : Int)) = false →
                                (decide ((firstF x.fst x.snd).fst = x_1.fst) &&
                                          decide ((firstF x.fst x.snd).snd = (0 : Int)) &&
                                        decide ((bestF x.fst x.snd).fst = x_1.snd.fst) &&
                                      decide ((bestF x.fst x.snd).snd = (0 : Int))) =
                                    true ∧
                                  True))))
theorem vcp_lawGapFits : pv_lawGapFits := by
  unfold pv_lawGapFits
  intro ⟨l, n⟩ ⟨⟨hl, _⟩, _⟩ _
  unfold big at hl
  simp only at *
  refine ⟨trivial, trivial, ⟨by omega, by omega, by simp [fitsFrom], by simp [fitsFrom, bestOf], by simp [fitsBad]⟩, fun ⟨want, best, bad, i⟩ ⟨h0, h1, h2, h3, h4⟩ => ⟨fun hlt => ?_, fun hge => ?_⟩⟩
  · have hlt : i < (l.length : Int) := by simpa using hlt
    simp only at *
    have et := take_snoc ((0, 0) : Int × Int) h0 hlt
    have ef : fitsFrom n 0 (l.take (i + 1).toNat) = fitsFrom n 0 (l.take i.toNat) ++ (if n ≤ (l.getD i.toNat (0, 0)).2 then [i] else []) := by
      rw [et, fitsFrom_snoc, List.length_take, show (0 : Int) + ((min i.toNat l.length : Nat) : Int) = i by omega]
    have eb : fitsBad (l.take (i + 1).toNat) = (fitsBad (l.take i.toNat) || (decide ((l.getD i.toNat (0, 0)).1 < 0) || decide ((l.getD i.toNat (0, 0)).2 < 1))) := by
      rw [et, fitsBad_snoc]
    have hr : ∀ e ∈ fitsFrom n 0 (l.take i.toNat), 0 ≤ e ∧ e < l.length := fun e he => by
      have := fitsFrom_range n _ 0 e he
      rw [List.length_take] at this
      omega
    have hbr := bestOf_range l _ hr
    rw [ef, eb]
    generalize fitsFrom n 0 (l.take i.toNat) = p at *
    generalize fitsBad (l.take i.toNat) = fb at *
    have hs : bestOf l (p ++ [i]) = if p = [] then i else if (l.getD i.toNat (0, 0)).2 < (l.getD (bestOf l p).toNat (0, 0)).2 then i else bestOf l p := by
      cases p with
      | nil => rfl
      | cons b p => simp only [List.cons_append, bestOf, bestFrom_snoc]; simp
    have hh : ∀ x, (p ++ [x]).headD (-1) = if p = [] then x else p.headD (-1) := fun x => by cases p <;> simp
    have hn : p = [] → p.headD (-1) = -1 ∧ bestOf l p = -1 := fun e => by rw [e]; exact ⟨rfl, rfl⟩
    have hq : p ≠ [] → 0 ≤ p.headD (-1) := fun e => by
      cases p with
      | nil => exact absurd rfl e
      | cons b p => exact (hr b (by simp)).1
    generalize l.getD i.toNat (0, 0) = r at *
    have hz : ∀ b : Bool, ((if b = true then (4 : Int) else 0) = 4) = (b = true) := fun b => by cases b <;> simp
    clear et ef eb hr
    subst h2 h3 h4
    by_cases hp : p = []
    · obtain ⟨n1, n2⟩ := hn hp
      simp only [n1, n2, hs, hh, hp, if_true]
      by_cases c1 : n ≤ r.2
      · simp only [c1, if_true, hh, hs, hp, List.append_nil, InR]
        repeat' (first | apply And.intro | intro _)
        all_goals grind
      · simp only [c1, if_false, List.append_nil, InR, hp, n1, n2]
        repeat' (first | apply And.intro | intro _)
        all_goals grind
    · have hbr := hbr.resolve_left hp
      have hq := hq hp
      by_cases c1 : n ≤ r.2
      · simp only [c1, if_true, hh, hs, hp, if_false, List.append_nil, InR]
        generalize bestOf l p = b at *
        generalize p.headD (-1) = q at *
        repeat' (first | apply And.intro | intro _)
        all_goals grind
      · simp only [c1, if_false, List.append_nil, InR]
        generalize bestOf l p = b at *
        generalize p.headD (-1) = q at *
        repeat' (first | apply And.intro | intro _)
        all_goals grind
  · have hge : ¬ i < (l.length : Int) := by simpa using hge
    simp only at *
    rw [take_end hge] at h2 h3 h4
    have hr : ∀ e ∈ fitsFrom n 0 l, 0 ≤ e ∧ e < l.length := fun e he => by
      have := fitsFrom_range n _ 0 e he
      omega
    have hn : fitsFrom n 0 l = [] → (fitsFrom n 0 l).headD (-1) = -1 ∧ bestOf l (fitsFrom n 0 l) = -1 := fun e => by rw [e]; exact ⟨rfl, rfl⟩
    have hq : fitsFrom n 0 l ≠ [] → 0 ≤ (fitsFrom n 0 l).headD (-1) ∧ (fitsFrom n 0 l).getD 0 0 = (fitsFrom n 0 l).headD (-1) := fun e => by
      cases hc : fitsFrom n 0 l with
      | nil => exact absurd hc e
      | cons b p => exact ⟨(hr b (by rw [hc]; simp)).1, rfl⟩
    clear hr
    subst h2 h3 h4
    unfold firstF bestF fitsF
    by_cases c1 : n < 1
    · simp [c1]
    by_cases c2 : fitsBad l
    · simp [c1, c2]
    by_cases c3 : fitsFrom n 0 l = []
    · simp [c1, c2, c3, (hn c3).1]
    · have := hq c3
      simp [c1, c2, c3]
      grind
theorem e_lawGapFits : pv_lawGapFits = fnVC Try.prog (tbl [(24, sp_first), (25, sp_best)]) an_lawGap Try.f6 sp_lawGapFits := by kernel_rfl
theorem vc_lawGapFits : fnVC Try.prog (tbl [(24, sp_first), (25, sp_best)]) an_lawGap Try.f6 sp_lawGapFits := @Eq.mp _ _ @e_lawGapFits @vcp_lawGapFits
theorem ok_lawGapFits : sp_lawGapFits.ok Try.prog 6 := fn_sound (P := Try.prog) (ss := tbl [(24, sp_first), (25, sp_best)]) (ann := an_lawGap) (f := 6) (fn := Try.f6) (s := sp_lawGapFits) (tbl_cons ok_first (tbl_cons ok_best tbl_nil)) Try.func6 @vc_lawGapFits

end Go.Proofs.Ytjkmfgneonifeaa
