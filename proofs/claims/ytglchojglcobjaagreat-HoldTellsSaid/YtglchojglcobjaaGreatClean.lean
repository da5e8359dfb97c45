
import Derived.Test.YtglchojglcobjaaGreatSlideLaw
import Derived.Test.YtglchojglcobjaaGreatReaches
import Derived.Test.YtglchojglcobjaaGreatConcats
namespace Go.Proofs.YtglchojglcobjaaGreat
open Go
set_option maxRecDepth 100000
set_option maxHeartbeats 1000000
theorem pairwise_risesL : ∀ {l : List Int}, l.Pairwise (· < ·) → risesL l = true
 | [], _ => rfl
 | [_], _ => rfl
 | x :: y :: l, h => by
  obtain ⟨h1, h2⟩ := List.pairwise_cons.1 h
  simp only [risesL, Bool.and_eq_true, decide_eq_true_eq]
  exact ⟨h1 y (by simp), pairwise_risesL h2⟩
theorem clean_longs {a f p : List Int} (hw : ∀ x ∈ a, InR .u64 x) (h : fromFault a (f ++ p) = 0) (hp : risesL p = true) : longsF a (reachL a (f ++ p)) p = ((reachL a (f ++ p)).map (lgOf (spotsF a).1), 0) := by
 obtain ⟨h1, h2⟩ := fromFault_ok h
 have hr := fun x => reach_mem (a := a) (from_ := f ++ p) hw h1 h2 (x := x)
 have e1 : risesL (reachL a (f ++ p)) = true := pairwise_risesL (reach_rise _ _)
 have e2 : (reachL a (f ++ p)).all (isB (spotsF a).1) = true := List.all_eq_true.2 fun x hx => ((hr x).1 hx).isB hw h1 h2
 have e3 : p.all (inL (reachL a (f ++ p))) = true := List.all_eq_true.2 fun x hx => inL_iff.2 ((hr x).2 (.base (by simp [hx])))
 unfold longsF
 rw [if_neg (by omega), e1, hp, e2, e3]
 simp
theorem clean_good {a f p : List Int} (hw : ∀ x ∈ a, InR .u64 x) (h : fromFault a (f ++ p) = 0) (to : List Int) : ((reachL a (f ++ p)).all fun x => goodR (reachL a (f ++ p)) to (refsA a x)) = true := by
 obtain ⟨h1, h2⟩ := fromFault_ok h
 have hr := fun x => reach_mem (a := a) (from_ := f ++ p) hw h1 h2 (x := x)
 refine List.all_eq_true.2 fun x hx => List.all_eq_true.2 fun v hv => ?_
 unfold refTo
 by_cases h0 : v = 0
 ·rw [if_pos h0]; rfl
 ·have h3 : v - 1 ∈ outsA a x := by
   unfold outsA
   exact List.mem_map.2 ⟨v, List.mem_filter.2 ⟨hv, by simpa using h0⟩, rfl⟩
  rw [if_neg h0, if_pos (inL_iff.2 ((hr _).2 (.step ((hr _).1 hx) h3)))]
  rfl
def cleanF (a f p : List Int) : List Int × List Int × Int :=
 if fromFault a (f ++ p) ≠ 0 then ([], [], fromFault a (f ++ p)) else
 if risesL p = false then ([], [], 3) else
 ((slideF a (reachL a (f ++ p)) p).1, f.map fun x => (planS (reachL a (f ++ p)) ((reachL a (f ++ p)).map (lgOf (spotsF a).1)) p).getD (place (reachL a (f ++ p)) x).toNat 0, 0)
theorem place_in {l : List Int} {x : Int} (h : x ∈ l) : 0 ≤ place l x ∧ place l x < l.length := by
 have h1 := findFrom_any (fun y => decide (y = x)) l 0 (by omega)
 have h2 := findFrom_lt (fun y => decide (y = x)) x l 0 (by omega)
 have h3 : (l.any fun y => decide (y = x)) = true := inL_iff.2 h
 rw [h3] at h1
 exact ⟨of_decide_eq_true h1, by unfold place; omega⟩
theorem clean_slide {a f p : List Int} (hw : ∀ x ∈ a, InR .u64 x) (h : fromFault a (f ++ p) = 0) (hp : risesL p = true) :
  slideF a (reachL a (f ++ p)) p = ((slidR a (reachL a (f ++ p)) p).1, planS (reachL a (f ++ p)) ((reachL a (f ++ p)).map (lgOf (spotsF a).1)) p, 0) ∧ (slidR a (reachL a (f ++ p)) p).2 = true := by
 have e := clean_longs hw h hp
 have hg := clean_good hw h (planS (reachL a (f ++ p)) ((reachL a (f ++ p)).map (lgOf (spotsF a).1)) p)
 unfold slideF slidR
 rw [e]
 simp only
 rw [if_neg (by omega), if_pos hg, if_pos hg]
 exact ⟨rfl, rfl⟩
theorem clean_slide3 {a f p : List Int} (h : fromFault a (f ++ p) = 0) (hp : risesL p = false) : slideF a (reachL a (f ++ p)) p = ([], [], 3) := by
 obtain ⟨h1, _⟩ := fromFault_ok h
 have e : longsF a (reachL a (f ++ p)) p = ([], 3) := by
  unfold longsF
  rw [if_neg (by omega), hp, Bool.and_false, if_pos rfl]
 unfold slideF
 rw [e]
 rfl
def an_clean : Nat → Option LoopGen
 | 9 => some { rd := [.dat 39 (.arr ty_I), .own 9 3 ty_I, .own 12 3 ty_I], A := fun ((f, keep, to) : List Int × List Int × List Int) => { cs := [.own 13 3 ty_I, .dat 41 ty_I], inv := fun ((out, i) : List Int × Int) => 0 ≤ i ∧ i ≤ f.length ∧ out = (f.take i.toNat).map fun x => to.getD (place keep x).toNat 0, mu := fun ((_, i) : List Int × Int) => (f.length - i).toNat } }
 | _ => none
def sp_clean : Spec := { Ts := [.arr ty_W, .arr ty_I, .arr ty_I], Rs := [.own 50 ty_W, .own 3 ty_I, .dat ty_I], pre := fun ((_, f, p) : List Int × List Int × List Int) => (f.length + p.length) * 8 ≤ 140737488355328, F := fun ((a, f, p) : List Int × List Int × List Int) => cleanF a f p }
def pv_clean : Prop :=
  ∀ (x : List Int × List Int × List Int), ((x.fst.length * (8 : Nat) ≤ big ∧ ∀ (x_1 : Int), x_1 ∈ x.fst → InR IntKind.u64 x_1) ∧ (x.snd.fst.length * (8 : Nat) ≤ big ∧ ∀ (x_1 : Int), x_1 ∈ x.snd.fst → InR IntKind.i64 x_1) ∧ x.snd.snd.length * (8 : Nat) ≤ big ∧ ∀ (x_1 : Int), x_1 ∈ x.snd.snd → InR IntKind.i64 x_1) → (x.snd.fst.length + x.snd.snd.length) * (8 : Nat) ≤ (140737488355328 : Nat) → [x.snd.fst, x.snd.snd].flatten.length * (8 : Nat) ≤ big ∧ True ∧ (decide ((reachF x.fst [x.snd.fst, x.snd.snd].flatten).snd ≠ (0 : Int)) = true → ([] : List Int) = (cleanF x.fst x.snd.fst x.snd.snd).fst ∧ ([] : List Int) = (cleanF x.fst x.snd.fst x.snd.snd).snd.fst ∧ (reachF x.fst [x.snd.fst, x.snd.snd].flatten).snd = (cleanF x.fst x.snd.fst x.snd.snd).snd.snd ∧ True) ∧ (decide ((reachF x.fst [x.snd.fst, x.snd.snd].flatten).snd ≠ (0 : Int)) = false → True ∧ (decide ((slideF x.fst (reachF x.fst [x.snd.fst, x.snd.snd].flatten).fst x.snd.snd).snd.snd ≠ (0 : Int)) = true → ([] : List Int) = (cleanF x.fst x.snd.fst x.snd.snd).fst ∧ ([] : List Int) = (cleanF x.fst x.snd.fst x.snd.snd).snd.fst ∧ (slideF x.fst (reachF x.fst [x.snd.fst, x.snd.snd].flatten).fst x.snd.snd).snd.snd = (cleanF x.fst x.snd.fst x.snd.snd).snd.snd ∧ True) ∧ (decide ((slideF x.fst (reachF x.fst [x.snd.fst, x.snd.snd].flatten).fst x.snd.snd).snd.snd ≠ (0 : Int)) = false → ((0 : Int) ≤ (0 : Int) ∧ (0 : Int) ≤ (↑x.snd.fst.length : Int) ∧ ([] : List Int) = List.map (fun (x_1 : Int) => (slideF x.fst (reachF x.fst [x.snd.fst, x.snd.snd].flatten).fst x.snd.snd).snd.fst.getD (place (reachF x.fst [x.snd.fst, x.snd.snd].flatten).fst x_1).toNat (0 : Int)) (List.take (Int.toNat (0 : Int)) x.snd.fst)) ∧ ∀ (x_1 : List Int × Int), (0 : Int) ≤ x_1.snd ∧ x_1.snd ≤ (↑x.snd.fst.length : Int) ∧ x_1.fst = List.map (fun (x_2 : Int) => (slideF x.fst (reachF x.fst [x.snd.fst, x.snd.snd].flatten).fst x.snd.snd).snd.fst.getD (place (reachF x.fst [x.snd.fst, x.snd.snd].flatten).fst x_2).toNat (0 : Int)) (List.take x_1.snd.toNat x.snd.fst) → (decide (x_1.snd < (↑x.snd.fst.length : Int)) = true → (0 : Int) ≤ x_1.snd ∧ x_1.snd < (↑x.snd.fst.length : Int) ∧ True ∧ (0 : Int) ≤ place (reachF x.fst [x.snd.fst, x.snd.snd].flatten).fst (x.snd.fst.getD x_1.snd.toNat (0 : Int)) ∧ place (reachF x.fst [x.snd.fst, x.snd.snd].flatten).fst (x.snd.fst.getD x_1.snd.toNat (0 : Int)) < (↑(slideF x.fst (reachF x.fst [x.snd.fst, x.snd.snd].flatten).fst x.snd.snd).snd.fst.length : Int) ∧ (place (reachF x.fst [x.snd.fst, x.snd.snd].flatten).fst (x.snd.fst.getD x_1.snd.toNat (0 : Int))).toNat < (slideF x.fst (reachF x.fst [x.snd.fst, x.snd.snd].flatten).fst x.snd.snd).snd.fst.length ∧ (x_1.fst.length + [(slideF x.fst (reachF x.fst [x.snd.fst, x.snd.snd].flatten).fst x.snd.snd).snd.fst.getD (place (reachF x.fst [x.snd.fst, x.snd.snd].flatten).fst (x.snd.fst.getD x_1.snd.toNat (0 : Int))).toNat (0 : Int)].length) * (8 : Nat) ≤ big ∧ InR IntKind.i64 (x_1.snd + (1 : Int)) ∧ ((0 : Int) ≤ x_1.snd + (1 : Int) ∧ x_1.snd + (1 : Int) ≤ (↑x.snd.fst.length : Int) ∧ x_1.fst ++ [(slideF x.fst (reachF x.fst [x.snd.fst, x.snd.snd].flatten).fst x.snd.snd).snd.fst.getD (place (reachF x.fst [x.snd.fst, x.snd.snd].flatten).fst (x.snd.fst.getD x_1.snd.toNat (0 : Int))).toNat (0 : Int)] = List.map (fun (x_2 : Int) => (slideF x.fst (reachF x.fst [x.snd.fst, x.snd.snd].flatten).fst x.snd.snd).snd.fst.getD (place (reachF x.fst [x.snd.fst, x.snd.snd].flatten).fst x_2).toNat (0 : Int)) (List.take (x_1.snd + (1 : Int)).toNat x.snd.fst)) ∧ ((↑x.snd.fst.length : Int) - (x_1.snd + (1 : Int))).toNat < ((↑x.snd.fst.length : Int) - x_1.snd).toNat) ∧ (decide (x_1.snd < (↑x.snd.fst.length : Int)) = false → (slideF x.fst (reachF x.fst [x.snd.fst, x.snd.snd].flatten).fst x.snd.snd).fst = (cleanF x.fst x.snd.fst x.snd.snd).fst ∧ x_1.fst = (cleanF x.fst x.snd.fst x.snd.snd).snd.fst ∧ (0 : Int) = (cleanF x.fst x.snd.fst x.snd.snd).snd.snd ∧ True)))
theorem vcp_clean : pv_clean := by
 unfold pv_clean
 intro ⟨a, f, p⟩ ⟨⟨hb, hw⟩, ⟨hbf, _⟩, hbp, _⟩ hsz
 unfold big at hb hbf hbp
 simp only at hb hw hbf hbp hsz ⊢
 have hfl : [f, p].flatten = f ++ p := by simp
 rw [hfl]
 have hR : reachF a (f ++ p) = if fromFault a (f ++ p) ≠ 0 then ([], fromFault a (f ++ p)) else (reachL a (f ++ p), 0) := rfl
 have hF : cleanF a f p = if fromFault a (f ++ p) ≠ 0 then ([], [], fromFault a (f ++ p)) else if risesL p = false then ([], [], 3) else
  ((slideF a (reachL a (f ++ p)) p).1, f.map fun x => (planS (reachL a (f ++ p)) ((reachL a (f ++ p)).map (lgOf (spotsF a).1)) p).getD (place (reachL a (f ++ p)) x).toNat 0, 0) := rfl
 refine ⟨by rw [List.length_append]; unfold big; omega, trivial, fun h => ?_, fun h => ?_⟩
 ·have h := of_decide_eq_true h
  by_cases h0 : fromFault a (f ++ p) ≠ 0
  ·rw [hR, if_pos h0, hF, if_pos h0]
   exact ⟨by first | trivial | rfl, by first | trivial | rfl, by first | trivial | rfl, trivial⟩
  ·rw [hR, if_neg h0] at h
   exact absurd rfl h
 have h := of_decide_eq_false h
 have h0 : fromFault a (f ++ p) = 0 := by
  by_cases h0 : fromFault a (f ++ p) ≠ 0
  ·rw [hR, if_pos h0] at h
   exact absurd h0 h
  ·omega
 rw [hR, if_neg (by omega), hF, if_neg (by omega)]
 simp only
 refine ⟨trivial, fun h2 => ?_, fun h2 => ?_⟩
 ·have h2 := of_decide_eq_true h2
  have h3 : risesL p = false := by
   cases h3 : risesL p
   ·rfl
   ·rw [(clean_slide hw h0 h3).1] at h2
    exact absurd rfl h2
  rw [if_pos h3, clean_slide3 h0 h3]
  exact ⟨by first | trivial | rfl, by first | trivial | rfl, by first | trivial | rfl, trivial⟩
 have h3 : risesL p = true := by
  cases h3 : risesL p
  ·rw [clean_slide3 h0 h3] at h2
   exact absurd h2 (by decide)
  ·rfl
 rw [if_neg (by rw [h3]; simp), (clean_slide hw h0 h3).1]
 simp only
 obtain ⟨k1, k2⟩ := fromFault_ok h0
 have hin : ∀ x ∈ f, x ∈ reachL a (f ++ p) := fun x hx => (reach_mem hw k1 k2).2 (.base (by simp [hx]))
 have hpl : (planS (reachL a (f ++ p)) ((reachL a (f ++ p)).map (lgOf (spotsF a).1)) p).length = (reachL a (f ++ p)).length := by simp [planS]
 generalize planS (reachL a (f ++ p)) ((reachL a (f ++ p)).map (lgOf (spotsF a).1)) p = to at *
 generalize reachL a (f ++ p) = keep at *
 refine ⟨⟨by omega, by omega, rfl⟩, fun ⟨out, i⟩ ⟨i0, i1, i2⟩ => ⟨fun hlt => ?_, fun hge => ?_⟩⟩
 ·simp only at i0 i1 i2 hlt ⊢
  have hlt := of_decide_eq_true hlt
  have hs := take_snoc (0 : Int) i0 hlt
  have hx := place_in (hin _ (getD_mem (0 : Int) i0 hlt))
  rw [hs, List.map_append, ← i2]
  have hol : out.length ≤ f.length := by
   rw [i2, List.length_map, List.length_take]
   omega
  simp only [InR, List.length_cons, List.length_nil]
  unfold big
  refine ⟨i0, hlt, trivial, hx.1, by omega, by omega, ?_, by omega, ⟨by omega, by omega, rfl⟩, by omega⟩
  have : out.length = i.toNat := by
   rw [i2, List.length_map, List.length_take]
   omega
  omega
 ·simp only at i0 i1 i2 hge ⊢
  rw [take_end (of_decide_eq_false hge)] at i2
  exact ⟨by first | trivial | rfl, i2, by first | trivial | rfl, trivial⟩
theorem e_clean : pv_clean = (fnVC Tryz.prog (tbl [(129, sp_concatInts), (138, sp_reach), (139, sp_slide), (116, sp_idxI)]) an_clean Tryz.f104 sp_clean) := by kernel_rfl
theorem vc_clean : fnVC Tryz.prog (tbl [(129, sp_concatInts), (138, sp_reach), (139, sp_slide), (116, sp_idxI)]) an_clean Tryz.f104 sp_clean := @Eq.mp _ _ @e_clean @vcp_clean
theorem ok_clean : sp_clean.ok Tryz.prog 104 := fn_sound (P := Tryz.prog) (ss := tbl [(129, sp_concatInts), (138, sp_reach), (139, sp_slide), (116, sp_idxI)]) (ann := an_clean) (f := 104) (fn := Tryz.f104) (s := sp_clean) (tbl_cons ok_concatInts (tbl_cons ok_reach (tbl_cons ok_slide (tbl_cons ok_idxI tbl_nil)))) Tryz.func104 @vc_clean
end Go.Proofs.YtglchojglcobjaaGreat
