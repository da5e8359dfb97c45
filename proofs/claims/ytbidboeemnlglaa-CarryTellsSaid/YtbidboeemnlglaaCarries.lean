/- Copying what is reached: contracts of tint.Words, carry.Copy, Takes, and the law CarryTells. -/
import Derived.Test.YtbidboeemnlglaaCarryPure
namespace Go.Proofs.Ytbidboeemnlglaa
open Go
set_option maxRecDepth 100000
set_option maxHeartbeats 1000000

def an_rTakes : Nat → Option LoopGen
  | 3 => some { rd := [.dat 0 (.arr ty_W), .dat 10 (.arr ty_I)], A := fun ((a, l) : List Int × List Int) => { cs := [.dat 5 ty_I, .dat 12 ty_I], inv := fun ((n, i) : Int × Int) => 0 ≤ i ∧ i ≤ l.length ∧ n = endA a (l.take i.toNat), mu := fun ((_, i) : Int × Int) => (l.length - i).toNat } }
  | _ => none
def sp_rTakes : Spec := { Ts := [.arr ty_W, .arr ty_I], Rs := [.dat ty_I], pre := fun _ => True, F := fun ((a, l) : List Int × List Int) => endA a l }
def pv_rTakes : Prop :=
    ∀ (x : List Int × List Int), ((x.fst.length * (8 : Nat) ≤ big ∧ ∀ (x_1 : Int), x_1 ∈ x.fst → InR IntKind.u64 x_1) ∧ x.snd.length * (8 : Nat) ≤ big ∧ ∀ (x_1 : Int), x_1 ∈ x.snd → InR IntKind.i64 x_1) → True → ((0 : Int) ≤ (0 : Int) ∧ (0 : Int) ≤ (↑x.snd.length : Int) ∧ (0 : Int) = endA x.fst (List.take (Int.toNat (0 : Int)) x.snd)) ∧ ∀ (x_1 : Int × Int), (0 : Int) ≤ x_1.snd ∧ x_1.snd ≤ (↑x.snd.length : Int) ∧ x_1.fst = endA x.fst (List.take x_1.snd.toNat x.snd) → (decide (x_1.snd < (↑x.snd.length : Int)) = true → (0 : Int) ≤ x_1.snd ∧ x_1.snd < (↑x.snd.length : Int) ∧ True ∧ (InR IntKind.i64 ((1 : Int) + (headAtL (x.snd.getD x_1.snd.toNat (0 : Int)) (spotsF x.fst).fst).fst.fst) ∧ InR IntKind.i64 ((1 : Int) + (headAtL (x.snd.getD x_1.snd.toNat (0 : Int)) (spotsF x.fst).fst).fst.fst + (headAtL (x.snd.getD x_1.snd.toNat (0 : Int)) (spotsF x.fst).fst).fst.snd.fst)) ∧ InR IntKind.i64 (x_1.fst + headLong (headAtL (x.snd.getD x_1.snd.toNat (0 : Int)) (spotsF x.fst).fst).fst) ∧ InR IntKind.i64 (x_1.snd + (1 : Int)) ∧ ((0 : Int) ≤ x_1.snd + (1 : Int) ∧ x_1.snd + (1 : Int) ≤ (↑x.snd.length : Int) ∧ x_1.fst + headLong (headAtL (x.snd.getD x_1.snd.toNat (0 : Int)) (spotsF x.fst).fst).fst = endA x.fst (List.take (x_1.snd + (1 : Int)).toNat x.snd)) ∧ ((↑x.snd.length : Int) - (x_1.snd + (1 : Int))).toNat < ((↑x.snd.length : Int) - x_1.snd).toNat) ∧ (decide (x_1.snd < (↑x.snd.length : Int)) = false → x_1.fst = endA x.fst x.snd ∧ True)
theorem vcp_rTakes : pv_rTakes := by
  unfold pv_rTakes
  intro ⟨a, l⟩ ⟨_, hbl, _⟩ _
  unfold big at hbl
  simp only at hbl ⊢
  refine ⟨⟨by omega, by omega, by first | rfl | trivial⟩, fun ⟨n, i⟩ ⟨i0, i1, i2⟩ => ⟨fun hlt => ?_, fun hge => ?_⟩⟩
  · simp only at i0 i1 i2 hlt ⊢
    have hlt := of_decide_eq_true hlt
    have ht := take_snoc (0 : Int) i0 hlt
    have hr := endA_range a (l.take i.toNat)
    rw [← i2, List.length_take] at hr
    have hl : headLong (headAtL (l.getD i.toNat 0) (spotsF a).1).1 = lgA a (l.getD i.toNat 0) := rfl
    have hlr := lgA_ok a (l.getD i.toNat 0)
    have hH := headFault_zero (headAt_ok a (l.getD i.toNat 0))
    rw [ht, endA_snoc, ← i2, hl]
    simp only [InR]
    refine ⟨i0, hlt, trivial, ⟨⟨by omega, by omega⟩, by omega, by omega⟩, by omega, by omega, ⟨by omega, by omega, by first | rfl | trivial⟩, by omega⟩
  · simp only at i0 i1 i2 hge ⊢
    rw [take_end (of_decide_eq_false hge)] at i2
    exact ⟨i2, trivial⟩
theorem e_rTakes : pv_rTakes = (fnVC Try.prog (tbl [(38, sp_rHeadAt), (40, sp_rHeadLong)]) an_rTakes Try.f21 sp_rTakes) := by kernel_rfl
theorem vc_rTakes : fnVC Try.prog (tbl [(38, sp_rHeadAt), (40, sp_rHeadLong)]) an_rTakes Try.f21 sp_rTakes := @Eq.mp _ _ @e_rTakes @vcp_rTakes
theorem ok_rTakes : sp_rTakes.ok Try.prog 21 := fn_sound (P := Try.prog) (ss := tbl [(38, sp_rHeadAt), (40, sp_rHeadLong)]) (ann := an_rTakes) (f := 21) (fn := Try.f21) (s := sp_rTakes) (tbl_cons ok_rHeadAt (tbl_cons ok_rHeadLong tbl_nil)) Try.func21 @vc_rTakes

def an_tWords : Nat → Option LoopGen
  | 3000130 => some an_in
  | 3000131 => some an_in
  | 13100000007 => some an_heap1
  | 13100000014 => some an_heap2
  | 7 => some { rd := [.dat 0 (.arr ty_W), .own 27 3 ty_I], A := fun ((a, l) : List Int × List Int) => { cs := [.dat 10 ty_I, .dat 29 ty_I], inv := fun ((n, i) : Int × Int) => 0 ≤ i ∧ i ≤ l.length ∧ n = endA a (l.take i.toNat), mu := fun ((_, i) : Int × Int) => (l.length - i).toNat } }
  | _ => none
def sp_tWords : Spec := { Ts := [.arr ty_W, .arr ty_I], Rs := [.dat ty_I, .dat ty_I], pre := fun _ => True, F := fun ((a, f) : List Int × List Int) => ((if fromFault a f ≠ 0 then 0 else endA a (reachL a f), fromFault a f) : Int × Int) }
def pv_tWords : Prop :=
    ∀ (x : List Int × List Int), ((x.fst.length * (8 : Nat) ≤ big ∧ ∀ (x_1 : Int), x_1 ∈ x.fst → InR IntKind.u64 x_1) ∧ x.snd.length * (8 : Nat) ≤ big ∧ ∀ (x_1 : Int), x_1 ∈ x.snd → InR IntKind.i64 x_1) → True → True ∧ (decide ((reachF x.fst x.snd).snd ≠ (0 : Int)) = true → ((0 : Int) = if fromFault x.fst x.snd ≠ (0 : Int) then (0 : Int) else endA x.fst (reachL x.fst x.snd)) ∧ (reachF x.fst x.snd).snd = fromFault x.fst x.snd ∧ True) ∧ (decide ((reachF x.fst x.snd).snd ≠ (0 : Int)) = false → ∀ (_ : Array Value), True ∧ (decide ((checkF x.fst).snd.snd ≠ (0 : Int)) = true → ((0 : Int) ≤ (0 : Int) ∧ (0 : Int) ≤ (↑(reachF x.fst x.snd).fst.length : Int) ∧ (0 : Int) = endA x.fst (List.take (Int.toNat (0 : Int)) (reachF x.fst x.snd).fst)) ∧ ∀ (x_1 : Int × Int), (0 : Int) ≤ x_1.snd ∧ x_1.snd ≤ (↑(reachF x.fst x.snd).fst.length : Int) ∧ x_1.fst = endA x.fst (List.take x_1.snd.toNat (reachF x.fst x.snd).fst) → (decide (x_1.snd < (↑(reachF x.fst x.snd).fst.length : Int)) = true → (0 : Int) ≤ x_1.snd ∧ x_1.snd < (↑(reachF x.fst x.snd).fst.length : Int) ∧ x_1.snd.toNat < (reachF x.fst x.snd).fst.length ∧ ∀ (_ : Array Value), False) ∧ (decide (x_1.snd < (↑(reachF x.fst x.snd).fst.length : Int)) = false → (x_1.fst = if fromFault x.fst x.snd ≠ (0 : Int) then (0 : Int) else endA x.fst (reachL x.fst x.snd)) ∧ (0 : Int) = fromFault x.fst x.snd ∧ True)) ∧ (decide ((checkF x.fst).snd.snd ≠ (0 : Int)) = false → True ∧ ((0 : Int) ≤ (0 : Int) ∧ (0 : Int) ≤ (↑(spotsF x.fst).fst.length : Int) ∧ x.fst = x.fst ∧ ((), ([] : List Int)).snd = beginsL (List.take (Int.toNat (0 : Int)) (spotsF x.fst).fst) ∧ headsFrom ([] : List (Int × Int × Int × Int × Bool)) (List.drop (Int.toNat (0 : Int)) (spotsF x.fst).fst) = headsL (spotsF x.fst).fst) ∧ ∀ (x_1 : (List Int × Unit × List Int) × List (Int × Int × Int × Int × Bool) × Int), (0 : Int) ≤ x_1.snd.snd ∧ x_1.snd.snd ≤ (↑(spotsF x.fst).fst.length : Int) ∧ x_1.fst.fst = x.fst ∧ x_1.fst.snd.snd = beginsL (List.take x_1.snd.snd.toNat (spotsF x.fst).fst) ∧ headsFrom x_1.snd.fst (List.drop x_1.snd.snd.toNat (spotsF x.fst).fst) = headsL (spotsF x.fst).fst → (decide (x_1.snd.snd < (↑(spotsF x.fst).fst.length : Int)) = true → (0 : Int) ≤ x_1.snd.snd ∧ x_1.snd.snd < (↑(spotsF x.fst).fst.length : Int) ∧ x_1.snd.snd.toNat < (spotsF x.fst).fst.length ∧ ((!((spotsF x.fst).fst.getD x_1.snd.snd.toNat ((0 : Int), (0 : Int), (0 : Int), (0 : Int), false)).snd.snd.snd.snd) = true → (x_1.fst.snd.snd.length + [((spotsF x.fst).fst.getD x_1.snd.snd.toNat ((0 : Int), (0 : Int), (0 : Int), (0 : Int), false)).fst].length) * (8 : Nat) ≤ big ∧ InR IntKind.i64 (x_1.snd.snd + (1 : Int)) ∧ ((0 : Int) ≤ x_1.snd.snd + (1 : Int) ∧ x_1.snd.snd + (1 : Int) ≤ (↑(spotsF x.fst).fst.length : Int) ∧ x_1.fst.fst = x.fst ∧ ((), x_1.fst.snd.snd ++ [((spotsF x.fst).fst.getD x_1.snd.snd.toNat ((0 : Int), (0 : Int), (0 : Int), (0 : Int), false)).fst]).snd = beginsL (List.take (x_1.snd.snd + (1 : Int)).toNat (spotsF x.fst).fst) ∧ headsFrom (mput x_1.snd.fst ((spotsF x.fst).fst.getD x_1.snd.snd.toNat ((0 : Int), (0 : Int), (0 : Int), (0 : Int), false)).fst ((spotsF x.fst).fst.getD x_1.snd.snd.toNat ((0 : Int), (0 : Int), (0 : Int), (0 : Int), false)).snd) (List.drop (x_1.snd.snd + (1 : Int)).toNat (spotsF x.fst).fst) = headsL (spotsF x.fst).fst) ∧ ((↑(spotsF x.fst).fst.length : Int) - (x_1.snd.snd + (1 : Int))).toNat < ((↑(spotsF x.fst).fst.length : Int) - x_1.snd.snd).toNat) ∧ ((!((spotsF x.fst).fst.getD x_1.snd.snd.toNat ((0 : Int), (0 : Int), (0 : Int), (0 : Int), false)).snd.snd.snd.snd) = false → InR IntKind.i64 (x_1.snd.snd + (1 : Int)) ∧ ((0 : Int) ≤ x_1.snd.snd + (1 : Int) ∧ x_1.snd.snd + (1 : Int) ≤ (↑(spotsF x.fst).fst.length : Int) ∧ x_1.fst.fst = x.fst ∧ ((), x_1.fst.snd.snd).snd = beginsL (List.take (x_1.snd.snd + (1 : Int)).toNat (spotsF x.fst).fst) ∧ headsFrom x_1.snd.fst (List.drop (x_1.snd.snd + (1 : Int)).toNat (spotsF x.fst).fst) = headsL (spotsF x.fst).fst) ∧ ((↑(spotsF x.fst).fst.length : Int) - (x_1.snd.snd + (1 : Int))).toNat < ((↑(spotsF x.fst).fst.length : Int) - x_1.snd.snd).toNat)) ∧ (decide (x_1.snd.snd < (↑(spotsF x.fst).fst.length : Int)) = false → ((0 : Int) ≤ (0 : Int) ∧ (0 : Int) ≤ (↑(0 : Nat) : Int) ∧ ((List.drop (Int.toNat (0 : Int)) ([] : List Int)).all fun (x : Int) => (mget x_1.snd.fst x).isSome) = ([] : List Int).all fun (x : Int) => (mget x_1.snd.fst x).isSome) ∧ ∀ (x_2 : Int), ((0 : Int) ≤ x_2 ∧ x_2 ≤ (↑(0 : Nat) : Int) ∧ ((List.drop x_2.toNat ([] : List Int)).all fun (x : Int) => (mget x_1.snd.fst x).isSome) = ([] : List Int).all fun (x : Int) => (mget x_1.snd.fst x).isSome) → (decide (x_2 < (0 : Int)) = true → False) ∧ (decide (x_2 < (0 : Int)) = false → ((0 : Int) ≤ (0 : Int) ∧ (0 : Int) ≤ (↑(reachF x.fst x.snd).fst.length : Int) ∧ (0 : Int) = endA x.fst (List.take (Int.toNat (0 : Int)) (reachF x.fst x.snd).fst)) ∧ ∀ (x_3 : Int × Int), (0 : Int) ≤ x_3.snd ∧ x_3.snd ≤ (↑(reachF x.fst x.snd).fst.length : Int) ∧ x_3.fst = endA x.fst (List.take x_3.snd.toNat (reachF x.fst x.snd).fst) → (decide (x_3.snd < (↑(reachF x.fst x.snd).fst.length : Int)) = true → (0 : Int) ≤ x_3.snd ∧ x_3.snd < (↑(reachF x.fst x.snd).fst.length : Int) ∧ x_3.snd.toNat < (reachF x.fst x.snd).fst.length ∧ ∀ (_ : Array Value), True ∧ InR IntKind.i64 (x_3.fst + if headFault ((mget x_1.snd.fst ((reachF x.fst x.snd).fst.getD x_3.snd.toNat (0 : Int))).getD ((0 : Int), (0 : Int), (0 : Int), false)) = (0 : Int) then headLong ((mget x_1.snd.fst ((reachF x.fst x.snd).fst.getD x_3.snd.toNat (0 : Int))).getD ((0 : Int), (0 : Int), (0 : Int), false)) else (0 : Int)) ∧ InR IntKind.i64 (x_3.snd + (1 : Int)) ∧ ((0 : Int) ≤ x_3.snd + (1 : Int) ∧ x_3.snd + (1 : Int) ≤ (↑(reachF x.fst x.snd).fst.length : Int) ∧ (x_3.fst + if headFault ((mget x_1.snd.fst ((reachF x.fst x.snd).fst.getD x_3.snd.toNat (0 : Int))).getD ((0 : Int), (0 : Int), (0 : Int), false)) = (0 : Int) then headLong ((mget x_1.snd.fst ((reachF x.fst x.snd).fst.getD x_3.snd.toNat (0 : Int))).getD ((0 : Int), (0 : Int), (0 : Int), false)) else (0 : Int)) = endA x.fst (List.take (x_3.snd + (1 : Int)).toNat (reachF x.fst x.snd).fst)) ∧ ((↑(reachF x.fst x.snd).fst.length : Int) - (x_3.snd + (1 : Int))).toNat < ((↑(reachF x.fst x.snd).fst.length : Int) - x_3.snd).toNat) ∧ (decide (x_3.snd < (↑(reachF x.fst x.snd).fst.length : Int)) = false → (x_3.fst = if fromFault x.fst x.snd ≠ (0 : Int) then (0 : Int) else endA x.fst (reachL x.fst x.snd)) ∧ (0 : Int) = fromFault x.fst x.snd ∧ True)))))
theorem vcp_tWords : pv_tWords := by
  unfold pv_tWords
  intro ⟨a, f⟩ ⟨⟨hb, hw⟩, hbf, hf⟩ _
  unfold big at hb hbf
  simp only at hb hw hbf hf ⊢
  have hre : (reachF a f).2 = fromFault a f := by
    unfold reachF
    split
    · rfl
    · rename_i h; simp only; omega
  rw [hre]
  refine ⟨trivial, fun h => ?_, fun h => ?_⟩
  · have h := of_decide_eq_true h
    rw [if_pos h]
    exact ⟨rfl, rfl, trivial⟩
  have h : fromFault a f = 0 := by simpa using of_decide_eq_false h
  obtain ⟨hc, hfb⟩ := fromFault_ok h
  have e1 : reachF a f = (reachL a f, 0) := by unfold reachF; rw [h]; rfl
  have e2 : (if fromFault a f ≠ 0 then (0 : Int) else endA a (reachL a f)) = endA a (reachL a f) := if_neg (by omega)
  rw [e1, e2, h]
  have hsl := spotsF_length a
  have hsp := spotsF_in2 a
  have hget := fun x => heads_get (spotsF_sorted a) x
  obtain ⟨hal, _, _, hz, _, _, _⟩ := checkF_in hc
  refine fun _ => ⟨trivial, fun hn => absurd hc (of_decide_eq_true hn), fun _ => ⟨trivial, ⟨by omega, by omega, trivial, rfl, rfl⟩, fun ⟨⟨a1, ⟨⟩, out⟩, m, i⟩ ⟨i0, i1, i2, i3, i4⟩ => ⟨fun hlt => ?_, fun hge => ?_⟩⟩⟩
  · simp only at i0 i1 i2 i3 i4 hlt ⊢
    have hlt := of_decide_eq_true hlt
    have hs := hsp _ (getD_mem ((0, 0, 0, 0, false) : Spot) i0 hlt)
    have ht := take_snoc ((0, 0, 0, 0, false) : Spot) i0 hlt
    rw [drop_cons ((0, 0, 0, 0, false) : Spot) i0 hlt] at i4
    simp only [headsFrom] at i4
    have hol : out.length ≤ 256 := by
      rw [i3]
      have := beginsL_length (List.take i.toNat (spotsF a).1)
      rw [List.length_take] at this
      omega
    rw [ht, begins_append, ← i3]
    generalize (spotsF a).1.getD i.toNat (0, 0, 0, 0, false) = s at *
    simp only [InR]
    refine ⟨i0, hlt, by omega, fun hf0 => ?_, fun hf0 => ?_⟩
    · have hf0 : ¬ s.2.2.2.2 = true := by simpa using hf0
      have e : beginsL [s] = [s.1] := by simp only [beginsL]; rw [if_neg hf0]
      rw [if_neg hf0] at i4
      rw [e]
      unfold big
      simp only [List.length_singleton]
      exact ⟨by omega, by omega, ⟨by omega, by omega, i2, trivial, i4⟩, by omega⟩
    · have hf0 : s.2.2.2.2 = true := by simpa using hf0
      have e : beginsL [s] = [] := by simp only [beginsL]; rw [if_pos hf0]
      rw [if_pos hf0] at i4
      rw [e, List.append_nil]
      exact ⟨by omega, ⟨by omega, by omega, i2, rfl, i4⟩, by omega⟩
  simp only at i0 i1 i2 i3 i4 hge ⊢
  have hge := of_decide_eq_false hge
  rw [drop_end hge] at i4
  have i4 : m = headsL (spotsF a).1 := i4
  subst i4 i2
  refine ⟨⟨by omega, by omega, by first | rfl | trivial⟩, fun j ⟨j0, j1, _⟩ => ⟨fun hlt => absurd (of_decide_eq_true hlt) (by omega), fun _ => ?_⟩⟩
  have hlen := reach_length a1 f
  refine ⟨⟨by omega, by omega, by first | rfl | trivial⟩, fun ⟨n, k⟩ ⟨k0, k1, k2⟩ => ⟨fun hlt => ?_, fun hge => ?_⟩⟩
  · simp only at k0 k1 k2 hlt ⊢
    have hlt := of_decide_eq_true hlt
    have ht := take_snoc (0 : Int) k0 hlt
    have hib := ((reach_mem hw hc hfb).1 (getD_mem (0 : Int) k0 hlt)).isB hw hc hfb
    have hr := endA_range a1 ((reachL a1 f).take k.toNat)
    rw [← k2, List.length_take] at hr
    rw [ht, endA_snoc, ← k2]
    generalize (reachL a1 f).getD k.toNat 0 = x at *
    have hh : (mget (headsL (spotsF a1).1) x).getD (0, 0, 0, false) = hdA a1 x := by rw [hget, if_pos hib]; rfl
    have hl : headLong (hdA a1 x) = lgA a1 x := rfl
    have hlr := lgA_ok a1 x
    rw [hh, if_pos (objA_in hib).2.2.1, hl]
    simp only [InR]
    exact ⟨k0, hlt, by omega, fun _ => ⟨trivial, ⟨by omega, by omega⟩, ⟨by omega, by omega⟩, ⟨by omega, by omega, by first | rfl | trivial⟩, by omega⟩⟩
  · simp only at k0 k1 k2 hge ⊢
    rw [take_end (of_decide_eq_false hge)] at k2
    exact ⟨k2, by first | rfl | trivial, trivial⟩
theorem e_tWords : pv_tWords = (fnVC Try.prog (tbl [(72, sp_reach), (85, sp_walkCheck), (141, sp_walkSpots), (99, sp_headLongC)]) an_tWords Try.f64 sp_tWords) := by kernel_rfl
theorem vc_tWords : fnVC Try.prog (tbl [(72, sp_reach), (85, sp_walkCheck), (141, sp_walkSpots), (99, sp_headLongC)]) an_tWords Try.f64 sp_tWords := @Eq.mp _ _ @e_tWords @vcp_tWords
theorem ok_tWords : sp_tWords.ok Try.prog 64 := fn_sound (P := Try.prog) (ss := tbl [(72, sp_reach), (85, sp_walkCheck), (141, sp_walkSpots), (99, sp_headLongC)]) (ann := an_tWords) (f := 64) (fn := Try.f64) (s := sp_tWords) (tbl_cons ok_reach (tbl_cons ok_walkCheck (tbl_cons ok_walkSpots (tbl_cons ok_headLongC tbl_nil)))) Try.func64 @vc_tWords

def carryF (a f : List Int) (n : Int) : List Int × List Int × List Int × Int :=
  if fromFault a f ≠ 0 then ([], [], [], fromFault a f) else if n < 0 ∨ 256 < n then ([], [], [], 4) else if n < endA a (cameL a f) then ([], [], [], 7)
  else ((cameL a f).flatMap (lnkA a (cameL a f)) ++ layTail (n - endA a (cameL a f)), cameL a f, tosA a (cameL a f) (cameL a f).length, 0)
def an_carry : Nat → Option LoopGen
  | 14 => some { wr := [12], rd := [.dat 0 (.arr ty_W), .dat 2 ty_I, .own 56 3 ty_I], A := fun ((a, n, o) : List Int × Int × List Int) => { cs := [.own 15 3 ty_I, .map 54 .u64 ty_W, .dat 17 ty_I, .own 12 46 ty_W, .dat 58 ty_I], inv := fun ((to, m, e, out, i) : List Int × List (Int × Int) × Int × List Int × Int) => 0 ≤ i ∧ i ≤ o.length ∧ to = tosA a o i.toNat ∧ m = nowA a o i.toNat ∧ e = endA a (o.take i.toNat) ∧ out = (o.take i.toNat).flatMap (rawA a) ++ List.replicate (n - e).toNat 0, mu := fun ((_, _, _, _, i) : List Int × List (Int × Int) × Int × List Int × Int) => (o.length - i).toNat } }
  | 24 => some { wr := [12], rd := [.dat 0 (.arr ty_W), .dat 2 ty_I, .own 101 3 ty_I], A := fun ((a, n, o) : List Int × Int × List Int) => { cs := [.own 12 46 ty_W, .dat 103 ty_I], inv := fun ((out, i) : List Int × Int) => 0 ≤ i ∧ i ≤ o.length ∧ out = (o.take i.toNat).flatMap (lnkA a o) ++ ((o.drop i.toNat).flatMap (rawA a) ++ List.replicate (n - endA a o).toNat 0), mu := fun ((_, i) : List Int × Int) => (o.length - i).toNat } }
  | 28 => some { wr := [12], rd := [.dat 0 (.arr ty_W), .dat 2 ty_I, .own 101 3 ty_I, .dat 23 ty_I], A := fun ((a, n, o, i) : List Int × Int × List Int × Int) => { cs := [.own 12 46 ty_W, .dat 117 ty_I], inv := fun ((out, k) : List Int × Int) => 0 ≤ k ∧ k ≤ (refsA a (o.getD i.toNat 0)).length ∧ out = (o.take i.toNat).flatMap (lnkA a o) ++ (a.getD (o.getD i.toNat 0).toNat 0 :: (((refsA a (o.getD i.toNat 0)).take k.toNat).map (lkA a o) ++ ((refsA a (o.getD i.toNat 0)).drop k.toNat ++ (bodyA a (o.getD i.toNat 0) ++ ((o.drop (i + 1).toNat).flatMap (rawA a) ++ List.replicate (n - endA a o).toNat 0))))), mu := fun ((_, k) : List Int × Int) => ((refsA a (o.getD i.toNat 0)).length - k).toNat } }
  | _ => none
def sp_carry : Spec := { Ts := [.arr ty_W, .arr ty_I, ty_I], Rs := [.own 46 ty_W, .own 3 ty_I, .own 3 ty_I, .dat ty_I], pre := fun _ => True, F := fun ((a, f, n) : List Int × List Int × Int) => carryF a f n }
def pv_carry : Prop :=
    ∀ (x : List Int × List Int × Int), (x.fst.length * (8 : Nat) ≤ big ∧ ∀ (x_1 : Int), x_1 ∈ x.fst → InR IntKind.u64 x_1) ∧ (x.snd.fst.length * (8 : Nat) ≤ big ∧ ∀ (x_1 : Int), x_1 ∈ x.snd.fst → InR IntKind.i64 x_1) ∧ InR IntKind.i64 x.snd.snd → True → True ∧ (decide (fromFault x.fst x.snd.fst ≠ (0 : Int)) = true → ([] : List Int) = (carryF x.fst x.snd.fst x.snd.snd).fst ∧ ([] : List Int) = (carryF x.fst x.snd.fst x.snd.snd).snd.fst ∧ ([] : List Int) = (carryF x.fst x.snd.fst x.snd.snd).snd.snd.fst ∧ fromFault x.fst x.snd.fst = (carryF x.fst x.snd.fst x.snd.snd).snd.snd.snd ∧ True) ∧ (decide (fromFault x.fst x.snd.fst ≠ (0 : Int)) = false → True ∧ (decide ((newF x.snd.snd).snd ≠ (0 : Int)) = true → ([] : List Int) = (carryF x.fst x.snd.fst x.snd.snd).fst ∧ ([] : List Int) = (carryF x.fst x.snd.fst x.snd.snd).snd.fst ∧ ([] : List Int) = (carryF x.fst x.snd.fst x.snd.snd).snd.snd.fst ∧ (newF x.snd.snd).snd = (carryF x.fst x.snd.fst x.snd.snd).snd.snd.snd ∧ True) ∧ (decide ((newF x.snd.snd).snd ≠ (0 : Int)) = false → True ∧ (decide (x.snd.snd < if fromFault x.fst x.snd.fst ≠ (0 : Int) then (0 : Int) else endA x.fst (reachL x.fst x.snd.fst)) = true → ([] : List Int) = (carryF x.fst x.snd.fst x.snd.snd).fst ∧ ([] : List Int) = (carryF x.fst x.snd.fst x.snd.snd).snd.fst ∧ ([] : List Int) = (carryF x.fst x.snd.fst x.snd.snd).snd.snd.fst ∧ (7 : Int) = (carryF x.fst x.snd.fst x.snd.snd).snd.snd.snd ∧ True) ∧ (decide (x.snd.snd < if fromFault x.fst x.snd.fst ≠ (0 : Int) then (0 : Int) else endA x.fst (reachL x.fst x.snd.fst)) = false → ((0 : Int) ≤ (0 : Int) ∧ (0 : Int) ≤ (↑(if fromFault x.fst x.snd.fst ≠ (0 : Int) then ([] : List Int) else cameL x.fst x.snd.fst).length : Int) ∧ ([] : List Int) = tosA x.fst (if fromFault x.fst x.snd.fst ≠ (0 : Int) then ([] : List Int) else cameL x.fst x.snd.fst) (Int.toNat (0 : Int)) ∧ mput ([] : List (Int × Int)) (0 : Int) (0 : Int) = nowA x.fst (if fromFault x.fst x.snd.fst ≠ (0 : Int) then ([] : List Int) else cameL x.fst x.snd.fst) (Int.toNat (0 : Int)) ∧ (0 : Int) = endA x.fst (List.take (Int.toNat (0 : Int)) (if fromFault x.fst x.snd.fst ≠ (0 : Int) then ([] : List Int) else cameL x.fst x.snd.fst)) ∧ (newF x.snd.snd).fst = List.flatMap (rawA x.fst) (List.take (Int.toNat (0 : Int)) (if fromFault x.fst x.snd.fst ≠ (0 : Int) then ([] : List Int) else cameL x.fst x.snd.fst)) ++ List.replicate (x.snd.snd - (0 : Int)).toNat (0 : Int)) ∧ ∀ (x_1 : List Int × List (Int × Int) × Int × List Int × Int), (0 : Int) ≤ x_1.snd.snd.snd.snd ∧ x_1.snd.snd.snd.snd ≤ (↑(if fromFault x.fst x.snd.fst ≠ (0 : Int) then ([] : List Int) else cameL x.fst x.snd.fst).length : Int) ∧ x_1.fst = tosA x.fst (if fromFault x.fst x.snd.fst ≠ (0 : Int) then ([] : List Int) else cameL x.fst x.snd.fst) x_1.snd.snd.snd.snd.toNat ∧ x_1.snd.fst = nowA x.fst (if fromFault x.fst x.snd.fst ≠ (0 : Int) then ([] : List Int) else cameL x.fst x.snd.fst) x_1.snd.snd.snd.snd.toNat ∧ x_1.snd.snd.fst = endA x.fst (List.take x_1.snd.snd.snd.snd.toNat (if fromFault x.fst x.snd.fst ≠ (0 : Int) then ([] : List Int) else cameL x.fst x.snd.fst)) ∧ x_1.snd.snd.snd.fst = List.flatMap (rawA x.fst) (List.take x_1.snd.snd.snd.snd.toNat (if fromFault x.fst x.snd.fst ≠ (0 : Int) then ([] : List Int) else cameL x.fst x.snd.fst)) ++ List.replicate (x.snd.snd - x_1.snd.snd.fst).toNat (0 : Int) → (decide (x_1.snd.snd.snd.snd < (↑(if fromFault x.fst x.snd.fst ≠ (0 : Int) then ([] : List Int) else cameL x.fst x.snd.fst).length : Int)) = true → (0 : Int) ≤ x_1.snd.snd.snd.snd ∧ x_1.snd.snd.snd.snd < (↑(if fromFault x.fst x.snd.fst ≠ (0 : Int) then ([] : List Int) else cameL x.fst x.snd.fst).length : Int) ∧ x_1.snd.snd.snd.snd.toNat < (if fromFault x.fst x.snd.fst ≠ (0 : Int) then ([] : List Int) else cameL x.fst x.snd.fst).length ∧ (x_1.fst.length + [x_1.snd.snd.fst].length) * (8 : Nat) ≤ big ∧ InR IntKind.u64 (IntKind.u64.wrap ((if fromFault x.fst x.snd.fst ≠ (0 : Int) then ([] : List Int) else cameL x.fst x.snd.fst).getD x_1.snd.snd.snd.snd.toNat (0 : Int)) + (1 : Int)) ∧ InR IntKind.u64 (IntKind.u64.wrap x_1.snd.snd.fst + (1 : Int)) ∧ True ∧ InR IntKind.i64 ((1 : Int) + (↑(atF x.fst ((if fromFault x.fst x.snd.fst ≠ (0 : Int) then ([] : List Int) else cameL x.fst x.snd.fst).getD x_1.snd.snd.snd.snd.toNat (0 : Int))).fst.snd.fst.length : Int)) ∧ InR IntKind.i64 ((1 : Int) + (↑(atF x.fst ((if fromFault x.fst x.snd.fst ≠ (0 : Int) then ([] : List Int) else cameL x.fst x.snd.fst).getD x_1.snd.snd.snd.snd.toNat (0 : Int))).fst.snd.fst.length : Int) + (↑(atF x.fst ((if fromFault x.fst x.snd.fst ≠ (0 : Int) then ([] : List Int) else cameL x.fst x.snd.fst).getD x_1.snd.snd.snd.snd.toNat (0 : Int))).fst.snd.snd.fst.length : Int)) ∧ (0 : Int) ≤ x_1.snd.snd.fst ∧ x_1.snd.snd.fst ≤ (↑x_1.snd.snd.snd.fst.length : Int) ∧ InR IntKind.i64 ((if fromFault x.fst x.snd.fst ≠ (0 : Int) then ([] : List Int) else cameL x.fst x.snd.fst).getD x_1.snd.snd.snd.snd.toNat (0 : Int) + ((1 : Int) + (↑(atF x.fst ((if fromFault x.fst x.snd.fst ≠ (0 : Int) then ([] : List Int) else cameL x.fst x.snd.fst).getD x_1.snd.snd.snd.snd.toNat (0 : Int))).fst.snd.fst.length : Int) + (↑(atF x.fst ((if fromFault x.fst x.snd.fst ≠ (0 : Int) then ([] : List Int) else cameL x.fst x.snd.fst).getD x_1.snd.snd.snd.snd.toNat (0 : Int))).fst.snd.snd.fst.length : Int))) ∧ (0 : Int) ≤ (if fromFault x.fst x.snd.fst ≠ (0 : Int) then ([] : List Int) else cameL x.fst x.snd.fst).getD x_1.snd.snd.snd.snd.toNat (0 : Int) ∧ (if fromFault x.fst x.snd.fst ≠ (0 : Int) then ([] : List Int) else cameL x.fst x.snd.fst).getD x_1.snd.snd.snd.snd.toNat (0 : Int) ≤ (if fromFault x.fst x.snd.fst ≠ (0 : Int) then ([] : List Int) else cameL x.fst x.snd.fst).getD x_1.snd.snd.snd.snd.toNat (0 : Int) + ((1 : Int) + (↑(atF x.fst ((if fromFault x.fst x.snd.fst ≠ (0 : Int) then ([] : List Int) else cameL x.fst x.snd.fst).getD x_1.snd.snd.snd.snd.toNat (0 : Int))).fst.snd.fst.length : Int) + (↑(atF x.fst ((if fromFault x.fst x.snd.fst ≠ (0 : Int) then ([] : List Int) else cameL x.fst x.snd.fst).getD x_1.snd.snd.snd.snd.toNat (0 : Int))).fst.snd.snd.fst.length : Int)) ∧ (if fromFault x.fst x.snd.fst ≠ (0 : Int) then ([] : List Int) else cameL x.fst x.snd.fst).getD x_1.snd.snd.snd.snd.toNat (0 : Int) + ((1 : Int) + (↑(atF x.fst ((if fromFault x.fst x.snd.fst ≠ (0 : Int) then ([] : List Int) else cameL x.fst x.snd.fst).getD x_1.snd.snd.snd.snd.toNat (0 : Int))).fst.snd.fst.length : Int) + (↑(atF x.fst ((if fromFault x.fst x.snd.fst ≠ (0 : Int) then ([] : List Int) else cameL x.fst x.snd.fst).getD x_1.snd.snd.snd.snd.toNat (0 : Int))).fst.snd.snd.fst.length : Int)) ≤ (↑x.fst.length : Int) ∧ x_1.snd.snd.fst.toNat + (x_1.snd.snd.snd.fst.length - x_1.snd.snd.fst.toNat) ≤ x_1.snd.snd.snd.fst.length ∧ InR IntKind.i64 (x_1.snd.snd.fst + ((1 : Int) + (↑(atF x.fst ((if fromFault x.fst x.snd.fst ≠ (0 : Int) then ([] : List Int) else cameL x.fst x.snd.fst).getD x_1.snd.snd.snd.snd.toNat (0 : Int))).fst.snd.fst.length : Int) + (↑(atF x.fst ((if fromFault x.fst x.snd.fst ≠ (0 : Int) then ([] : List Int) else cameL x.fst x.snd.fst).getD x_1.snd.snd.snd.snd.toNat (0 : Int))).fst.snd.snd.fst.length : Int))) ∧ InR IntKind.i64 (x_1.snd.snd.snd.snd + (1 : Int)) ∧ ((0 : Int) ≤ x_1.snd.snd.snd.snd + (1 : Int) ∧ x_1.snd.snd.snd.snd + (1 : Int) ≤ (↑(if fromFault x.fst x.snd.fst ≠ (0 : Int) then ([] : List Int) else cameL x.fst x.snd.fst).length : Int) ∧ x_1.fst ++ [x_1.snd.snd.fst] = tosA x.fst (if fromFault x.fst x.snd.fst ≠ (0 : Int) then ([] : List Int) else cameL x.fst x.snd.fst) (x_1.snd.snd.snd.snd + (1 : Int)).toNat ∧ mput x_1.snd.fst (IntKind.u64.wrap ((if fromFault x.fst x.snd.fst ≠ (0 : Int) then ([] : List Int) else cameL x.fst x.snd.fst).getD x_1.snd.snd.snd.snd.toNat (0 : Int)) + (1 : Int)) (IntKind.u64.wrap x_1.snd.snd.fst + (1 : Int)) = nowA x.fst (if fromFault x.fst x.snd.fst ≠ (0 : Int) then ([] : List Int) else cameL x.fst x.snd.fst) (x_1.snd.snd.snd.snd + (1 : Int)).toNat ∧ x_1.snd.snd.fst + ((1 : Int) + (↑(atF x.fst ((if fromFault x.fst x.snd.fst ≠ (0 : Int) then ([] : List Int) else cameL x.fst x.snd.fst).getD x_1.snd.snd.snd.snd.toNat (0 : Int))).fst.snd.fst.length : Int) + (↑(atF x.fst ((if fromFault x.fst x.snd.fst ≠ (0 : Int) then ([] : List Int) else cameL x.fst x.snd.fst).getD x_1.snd.snd.snd.snd.toNat (0 : Int))).fst.snd.snd.fst.length : Int)) = endA x.fst (List.take (x_1.snd.snd.snd.snd + (1 : Int)).toNat (if fromFault x.fst x.snd.fst ≠ (0 : Int) then ([] : List Int) else cameL x.fst x.snd.fst)) ∧ List.take x_1.snd.snd.fst.toNat x_1.snd.snd.snd.fst ++ (List.take (min (List.drop ((if fromFault x.fst x.snd.fst ≠ (0 : Int) then ([] : List Int) else cameL x.fst x.snd.fst).getD x_1.snd.snd.snd.snd.toNat (0 : Int)).toNat (List.take ((if fromFault x.fst x.snd.fst ≠ (0 : Int) then ([] : List Int) else cameL x.fst x.snd.fst).getD x_1.snd.snd.snd.snd.toNat (0 : Int) + ((1 : Int) + (↑(atF x.fst ((if fromFault x.fst x.snd.fst ≠ (0 : Int) then ([] : List Int) else cameL x.fst x.snd.fst).getD x_1.snd.snd.snd.snd.toNat (0 : Int))).fst.snd.fst.length : Int) + (↑(atF x.fst ((if fromFault x.fst x.snd.fst ≠ (0 : Int) then ([] : List Int) else cameL x.fst x.snd.fst).getD x_1.snd.snd.snd.snd.toNat (0 : Int))).fst.snd.snd.fst.length : Int))).toNat x.fst)).length (x_1.snd.snd.snd.fst.length - x_1.snd.snd.fst.toNat)) (List.drop ((if fromFault x.fst x.snd.fst ≠ (0 : Int) then ([] : List Int) else cameL x.fst x.snd.fst).getD x_1.snd.snd.snd.snd.toNat (0 : Int)).toNat (List.take ((if fromFault x.fst x.snd.fst ≠ (0 : Int) then ([] : List Int) else cameL x.fst x.snd.fst).getD x_1.snd.snd.snd.snd.toNat (0 : Int) + ((1 : Int) + (↑(atF x.fst ((if fromFault x.fst x.snd.fst ≠ (0 : Int) then ([] : List Int) else cameL x.fst x.snd.fst).getD x_1.snd.snd.snd.snd.toNat (0 : Int))).fst.snd.fst.length : Int) + (↑(atF x.fst ((if fromFault x.fst x.snd.fst ≠ (0 : Int) then ([] : List Int) else cameL x.fst x.snd.fst).getD x_1.snd.snd.snd.snd.toNat (0 : Int))).fst.snd.snd.fst.length : Int))).toNat x.fst)) ++ List.drop (x_1.snd.snd.fst.toNat + min (List.drop ((if fromFault x.fst x.snd.fst ≠ (0 : Int) then ([] : List Int) else cameL x.fst x.snd.fst).getD x_1.snd.snd.snd.snd.toNat (0 : Int)).toNat (List.take ((if fromFault x.fst x.snd.fst ≠ (0 : Int) then ([] : List Int) else cameL x.fst x.snd.fst).getD x_1.snd.snd.snd.snd.toNat (0 : Int) + ((1 : Int) + (↑(atF x.fst ((if fromFault x.fst x.snd.fst ≠ (0 : Int) then ([] : List Int) else cameL x.fst x.snd.fst).getD x_1.snd.snd.snd.snd.toNat (0 : Int))).fst.snd.fst.length : Int) + (↑(atF x.fst ((if fromFault x.fst x.snd.fst ≠ (0 : Int) then ([] : List Int) else cameL x.fst x.snd.fst).getD x_1.snd.snd.snd.snd.toNat (0 : Int))).fst.snd.snd.fst.length : Int))).toNat x.fst)).length (x_1.snd.snd.snd.fst.length - x_1.snd.snd.fst.toNat)) x_1.snd.snd.snd.fst) = List.flatMap (rawA x.fst) (List.take (x_1.snd.snd.snd.snd + (1 : Int)).toNat (if fromFault x.fst x.snd.fst ≠ (0 : Int) then ([] : List Int) else cameL x.fst x.snd.fst)) ++ List.replicate (x.snd.snd - (x_1.snd.snd.fst + ((1 : Int) + (↑(atF x.fst ((if fromFault x.fst x.snd.fst ≠ (0 : Int) then ([] : List Int) else cameL x.fst x.snd.fst).getD x_1.snd.snd.snd.snd.toNat (0 : Int))).fst.snd.fst.length : Int) + (↑(atF x.fst ((if fromFault x.fst x.snd.fst ≠ (0 : Int) then ([] : List Int) else cameL x.fst x.snd.fst).getD x_1.snd.snd.snd.snd.toNat (0 : Int))).fst.snd.snd.fst.length : Int)))).toNat (0 : Int)) ∧ ((↑(if fromFault x.fst x.snd.fst ≠ (0 : Int) then ([] : List Int) else cameL x.fst x.snd.fst).length : Int) - (x_1.snd.snd.snd.snd + (1 : Int))).toNat < ((↑(if fromFault x.fst x.snd.fst ≠ (0 : Int) then ([] : List Int) else cameL x.fst x.snd.fst).length : Int) - x_1.snd.snd.snd.snd).toNat) ∧ (decide (x_1.snd.snd.snd.snd < (↑(if fromFault x.fst x.snd.fst ≠ (0 : Int) then ([] : List Int) else cameL x.fst x.snd.fst).length : Int)) = false → ((0 : Int) ≤ (0 : Int) ∧ (0 : Int) ≤ (↑(if fromFault x.fst x.snd.fst ≠ (0 : Int) then ([] : List Int) else cameL x.fst x.snd.fst).length : Int) ∧ x_1.snd.snd.snd.fst = List.flatMap (lnkA x.fst (if fromFault x.fst x.snd.fst ≠ (0 : Int) then ([] : List Int) else cameL x.fst x.snd.fst)) (List.take (Int.toNat (0 : Int)) (if fromFault x.fst x.snd.fst ≠ (0 : Int) then ([] : List Int) else cameL x.fst x.snd.fst)) ++ (List.flatMap (rawA x.fst) (List.drop (Int.toNat (0 : Int)) (if fromFault x.fst x.snd.fst ≠ (0 : Int) then ([] : List Int) else cameL x.fst x.snd.fst)) ++ List.replicate (x.snd.snd - endA x.fst (if fromFault x.fst x.snd.fst ≠ (0 : Int) then ([] : List Int) else cameL x.fst x.snd.fst)).toNat (0 : Int))) ∧ ∀ (x_2 : List Int × Int), (0 : Int) ≤ x_2.snd ∧ x_2.snd ≤ (↑(if fromFault x.fst x.snd.fst ≠ (0 : Int) then ([] : List Int) else cameL x.fst x.snd.fst).length : Int) ∧ x_2.fst = List.flatMap (lnkA x.fst (if fromFault x.fst x.snd.fst ≠ (0 : Int) then ([] : List Int) else cameL x.fst x.snd.fst)) (List.take x_2.snd.toNat (if fromFault x.fst x.snd.fst ≠ (0 : Int) then ([] : List Int) else cameL x.fst x.snd.fst)) ++ (List.flatMap (rawA x.fst) (List.drop x_2.snd.toNat (if fromFault x.fst x.snd.fst ≠ (0 : Int) then ([] : List Int) else cameL x.fst x.snd.fst)) ++ List.replicate (x.snd.snd - endA x.fst (if fromFault x.fst x.snd.fst ≠ (0 : Int) then ([] : List Int) else cameL x.fst x.snd.fst)).toNat (0 : Int)) → (decide (x_2.snd < (↑(if fromFault x.fst x.snd.fst ≠ (0 : Int) then ([] : List Int) else cameL x.fst x.snd.fst).length : Int)) = true → (0 : Int) ≤ x_2.snd ∧ x_2.snd < (↑(if fromFault x.fst x.snd.fst ≠ (0 : Int) then ([] : List Int) else cameL x.fst x.snd.fst).length : Int) ∧ x_2.snd.toNat < (if fromFault x.fst x.snd.fst ≠ (0 : Int) then ([] : List Int) else cameL x.fst x.snd.fst).length ∧ True ∧ ((0 : Int) ≤ (0 : Int) ∧ (0 : Int) ≤ (↑(refsA x.fst ((if fromFault x.fst x.snd.fst ≠ (0 : Int) then ([] : List Int) else cameL x.fst x.snd.fst).getD x_2.snd.toNat (0 : Int))).length : Int) ∧ x_2.fst = List.flatMap (lnkA x.fst (if fromFault x.fst x.snd.fst ≠ (0 : Int) then ([] : List Int) else cameL x.fst x.snd.fst)) (List.take x_2.snd.toNat (if fromFault x.fst x.snd.fst ≠ (0 : Int) then ([] : List Int) else cameL x.fst x.snd.fst)) ++ x.fst.getD ((if fromFault x.fst x.snd.fst ≠ (0 : Int) then ([] : List Int) else cameL x.fst x.snd.fst).getD x_2.snd.toNat (0 : Int)).toNat (0 : Int) :: (List.map (lkA x.fst (if fromFault x.fst x.snd.fst ≠ (0 : Int) then ([] : List Int) else cameL x.fst x.snd.fst)) (List.take (Int.toNat (0 : Int)) (refsA x.fst ((if fromFault x.fst x.snd.fst ≠ (0 : Int) then ([] : List Int) else cameL x.fst x.snd.fst).getD x_2.snd.toNat (0 : Int)))) ++ (List.drop (Int.toNat (0 : Int)) (refsA x.fst ((if fromFault x.fst x.snd.fst ≠ (0 : Int) then ([] : List Int) else cameL x.fst x.snd.fst).getD x_2.snd.toNat (0 : Int))) ++ (bodyA x.fst ((if fromFault x.fst x.snd.fst ≠ (0 : Int) then ([] : List Int) else cameL x.fst x.snd.fst).getD x_2.snd.toNat (0 : Int)) ++ (List.flatMap (rawA x.fst) (List.drop (x_2.snd + (1 : Int)).toNat (if fromFault x.fst x.snd.fst ≠ (0 : Int) then ([] : List Int) else cameL x.fst x.snd.fst)) ++ List.replicate (x.snd.snd - endA x.fst (if fromFault x.fst x.snd.fst ≠ (0 : Int) then ([] : List Int) else cameL x.fst x.snd.fst)).toNat (0 : Int)))))) ∧ ∀ (x_3 : List Int × Int), (0 : Int) ≤ x_3.snd ∧ x_3.snd ≤ (↑(refsA x.fst ((if fromFault x.fst x.snd.fst ≠ (0 : Int) then ([] : List Int) else cameL x.fst x.snd.fst).getD x_2.snd.toNat (0 : Int))).length : Int) ∧ x_3.fst = List.flatMap (lnkA x.fst (if fromFault x.fst x.snd.fst ≠ (0 : Int) then ([] : List Int) else cameL x.fst x.snd.fst)) (List.take x_2.snd.toNat (if fromFault x.fst x.snd.fst ≠ (0 : Int) then ([] : List Int) else cameL x.fst x.snd.fst)) ++ x.fst.getD ((if fromFault x.fst x.snd.fst ≠ (0 : Int) then ([] : List Int) else cameL x.fst x.snd.fst).getD x_2.snd.toNat (0 : Int)).toNat (0 : Int) :: (List.map (lkA x.fst (if fromFault x.fst x.snd.fst ≠ (0 : Int) then ([] : List Int) else cameL x.fst x.snd.fst)) (List.take x_3.snd.toNat (refsA x.fst ((if fromFault x.fst x.snd.fst ≠ (0 : Int) then ([] : List Int) else cameL x.fst x.snd.fst).getD x_2.snd.toNat (0 : Int)))) ++ (List.drop x_3.snd.toNat (refsA x.fst ((if fromFault x.fst x.snd.fst ≠ (0 : Int) then ([] : List Int) else cameL x.fst x.snd.fst).getD x_2.snd.toNat (0 : Int))) ++ (bodyA x.fst ((if fromFault x.fst x.snd.fst ≠ (0 : Int) then ([] : List Int) else cameL x.fst x.snd.fst).getD x_2.snd.toNat (0 : Int)) ++ (List.flatMap (rawA x.fst) (List.drop (x_2.snd + (1 : Int)).toNat (if fromFault x.fst x.snd.fst ≠ (0 : Int) then ([] : List Int) else cameL x.fst x.snd.fst)) ++ List.replicate (x.snd.snd - endA x.fst (if fromFault x.fst x.snd.fst ≠ (0 : Int) then ([] : List Int) else cameL x.fst x.snd.fst)).toNat (0 : Int))))) → (decide (x_3.snd < (↑(atF x.fst ((if fromFault x.fst x.snd.fst ≠ (0 : Int) then ([] : List Int) else cameL x.fst x.snd.fst).getD x_2.snd.toNat (0 : Int))).fst.snd.fst.length : Int)) = true → (0 : Int) ≤ x_2.snd ∧ x_2.snd < (↑x_1.fst.length : Int) ∧ x_2.snd.toNat < x_1.fst.length ∧ InR IntKind.i64 (x_1.fst.getD x_2.snd.toNat (0 : Int) + (1 : Int)) ∧ InR IntKind.i64 (x_1.fst.getD x_2.snd.toNat (0 : Int) + (1 : Int) + x_3.snd) ∧ (0 : Int) ≤ x_2.snd ∧ x_2.snd < (↑x_1.fst.length : Int) ∧ x_2.snd.toNat < x_1.fst.length ∧ InR IntKind.i64 (x_1.fst.getD x_2.snd.toNat (0 : Int) + (1 : Int)) ∧ InR IntKind.i64 (x_1.fst.getD x_2.snd.toNat (0 : Int) + (1 : Int) + x_3.snd) ∧ (0 : Int) ≤ x_1.fst.getD x_2.snd.toNat (0 : Int) + (1 : Int) + x_3.snd ∧ x_1.fst.getD x_2.snd.toNat (0 : Int) + (1 : Int) + x_3.snd < (↑x_3.fst.length : Int) ∧ (x_1.fst.getD x_2.snd.toNat (0 : Int) + (1 : Int) + x_3.snd).toNat < x_3.fst.length ∧ (0 : Int) ≤ x_1.fst.getD x_2.snd.toNat (0 : Int) + (1 : Int) + x_3.snd ∧ x_1.fst.getD x_2.snd.toNat (0 : Int) + (1 : Int) + x_3.snd < (↑x_3.fst.length : Int) ∧ (x_1.fst.getD x_2.snd.toNat (0 : Int) + (1 : Int) + x_3.snd).toNat < x_3.fst.length ∧ InR IntKind.i64 (x_3.snd + (1 : Int)) ∧ ((0 : Int) ≤ x_3.snd + (1 : Int) ∧ x_3.snd + (1 : Int) ≤ (↑(refsA x.fst ((if fromFault x.fst x.snd.fst ≠ (0 : Int) then ([] : List Int) else cameL x.fst x.snd.fst).getD x_2.snd.toNat (0 : Int))).length : Int) ∧ x_3.fst.set (x_1.fst.getD x_2.snd.toNat (0 : Int) + (1 : Int) + x_3.snd).toNat ((mget x_1.snd.fst (x_3.fst.getD (x_1.fst.getD x_2.snd.toNat (0 : Int) + (1 : Int) + x_3.snd).toNat (0 : Int))).getD (0 : Int)) = List.flatMap (lnkA x.fst (if fromFault x.fst x.snd.fst ≠ (0 : Int) then ([] : List Int) else cameL x.fst x.snd.fst)) (List.take x_2.snd.toNat (if fromFault x.fst x.snd.fst ≠ (0 : Int) then ([] : List Int) else cameL x.fst x.snd.fst)) ++ x.fst.getD ((if fromFault x.fst x.snd.fst ≠ (0 : Int) then ([] : List Int) else cameL x.fst x.snd.fst).getD x_2.snd.toNat (0 : Int)).toNat (0 : Int) :: (List.map (lkA x.fst (if fromFault x.fst x.snd.fst ≠ (0 : Int) then ([] : List Int) else cameL x.fst x.snd.fst)) (List.take (x_3.snd + (1 : Int)).toNat (refsA x.fst ((if fromFault x.fst x.snd.fst ≠ (0 : Int) then ([] : List Int) else cameL x.fst x.snd.fst).getD x_2.snd.toNat (0 : Int)))) ++ (List.drop (x_3.snd + (1 : Int)).toNat (refsA x.fst ((if fromFault x.fst x.snd.fst ≠ (0 : Int) then ([] : List Int) else cameL x.fst x.snd.fst).getD x_2.snd.toNat (0 : Int))) ++ (bodyA x.fst ((if fromFault x.fst x.snd.fst ≠ (0 : Int) then ([] : List Int) else cameL x.fst x.snd.fst).getD x_2.snd.toNat (0 : Int)) ++ (List.flatMap (rawA x.fst) (List.drop (x_2.snd + (1 : Int)).toNat (if fromFault x.fst x.snd.fst ≠ (0 : Int) then ([] : List Int) else cameL x.fst x.snd.fst)) ++ List.replicate (x.snd.snd - endA x.fst (if fromFault x.fst x.snd.fst ≠ (0 : Int) then ([] : List Int) else cameL x.fst x.snd.fst)).toNat (0 : Int)))))) ∧ ((↑(refsA x.fst ((if fromFault x.fst x.snd.fst ≠ (0 : Int) then ([] : List Int) else cameL x.fst x.snd.fst).getD x_2.snd.toNat (0 : Int))).length : Int) - (x_3.snd + (1 : Int))).toNat < ((↑(refsA x.fst ((if fromFault x.fst x.snd.fst ≠ (0 : Int) then ([] : List Int) else cameL x.fst x.snd.fst).getD x_2.snd.toNat (0 : Int))).length : Int) - x_3.snd).toNat) ∧ (decide (x_3.snd < (↑(atF x.fst ((if fromFault x.fst x.snd.fst ≠ (0 : Int) then ([] : List Int) else cameL x.fst x.snd.fst).getD x_2.snd.toNat (0 : Int))).fst.snd.fst.length : Int)) = false → InR IntKind.i64 (x_2.snd + (1 : Int)) ∧ ((0 : Int) ≤ x_2.snd + (1 : Int) ∧ x_2.snd + (1 : Int) ≤ (↑(if fromFault x.fst x.snd.fst ≠ (0 : Int) then ([] : List Int) else cameL x.fst x.snd.fst).length : Int) ∧ x_3.fst = List.flatMap (lnkA x.fst (if fromFault x.fst x.snd.fst ≠ (0 : Int) then ([] : List Int) else cameL x.fst x.snd.fst)) (List.take (x_2.snd + (1 : Int)).toNat (if fromFault x.fst x.snd.fst ≠ (0 : Int) then ([] : List Int) else cameL x.fst x.snd.fst)) ++ (List.flatMap (rawA x.fst) (List.drop (x_2.snd + (1 : Int)).toNat (if fromFault x.fst x.snd.fst ≠ (0 : Int) then ([] : List Int) else cameL x.fst x.snd.fst)) ++ List.replicate (x.snd.snd - endA x.fst (if fromFault x.fst x.snd.fst ≠ (0 : Int) then ([] : List Int) else cameL x.fst x.snd.fst)).toNat (0 : Int))) ∧ ((↑(if fromFault x.fst x.snd.fst ≠ (0 : Int) then ([] : List Int) else cameL x.fst x.snd.fst).length : Int) - (x_2.snd + (1 : Int))).toNat < ((↑(if fromFault x.fst x.snd.fst ≠ (0 : Int) then ([] : List Int) else cameL x.fst x.snd.fst).length : Int) - x_2.snd).toNat)) ∧ (decide (x_2.snd < (↑(if fromFault x.fst x.snd.fst ≠ (0 : Int) then ([] : List Int) else cameL x.fst x.snd.fst).length : Int)) = false → (decide (x_1.snd.snd.fst < x.snd.snd) = true → InR IntKind.i64 (x.snd.snd - x_1.snd.snd.fst) ∧ InR IntKind.i64 (x.snd.snd - x_1.snd.snd.fst - (1 : Int)) ∧ True ∧ (0 : Int) ≤ x_1.snd.snd.fst ∧ x_1.snd.snd.fst < (↑x_2.fst.length : Int) ∧ x_1.snd.snd.fst.toNat < x_2.fst.length ∧ x_2.fst.set x_1.snd.snd.fst.toNat (if headFault ((0 : Int), x.snd.snd - x_1.snd.snd.fst - (1 : Int), (0 : Int), true) = (0 : Int) then headWord ((0 : Int), x.snd.snd - x_1.snd.snd.fst - (1 : Int), (0 : Int), true) else (0 : Int)) = (carryF x.fst x.snd.fst x.snd.snd).fst ∧ (if fromFault x.fst x.snd.fst ≠ (0 : Int) then ([] : List Int) else cameL x.fst x.snd.fst) = (carryF x.fst x.snd.fst x.snd.snd).snd.fst ∧ x_1.fst = (carryF x.fst x.snd.fst x.snd.snd).snd.snd.fst ∧ (0 : Int) = (carryF x.fst x.snd.fst x.snd.snd).snd.snd.snd ∧ True) ∧ (decide (x_1.snd.snd.fst < x.snd.snd) = false → x_2.fst = (carryF x.fst x.snd.fst x.snd.snd).fst ∧ (if fromFault x.fst x.snd.fst ≠ (0 : Int) then ([] : List Int) else cameL x.fst x.snd.fst) = (carryF x.fst x.snd.fst x.snd.snd).snd.fst ∧ x_1.fst = (carryF x.fst x.snd.fst x.snd.snd).snd.snd.fst ∧ (0 : Int) = (carryF x.fst x.snd.fst x.snd.snd).snd.snd.snd ∧ True))))))
theorem vcp_carry : pv_carry := by
  unfold pv_carry
  intro ⟨a, f, n⟩ ⟨⟨hb, hw⟩, ⟨hbf, hf⟩, hn⟩ _
  unfold big at hb hbf
  simp only at hb hw hbf hf hn ⊢
  have hC : carryF a f n = if fromFault a f ≠ 0 then ([], [], [], fromFault a f) else if n < 0 ∨ 256 < n then ([], [], [], 4) else if n < endA a (cameL a f) then ([], [], [], 7)
      else ((cameL a f).flatMap (lnkA a (cameL a f)) ++ layTail (n - endA a (cameL a f)), cameL a f, tosA a (cameL a f) (cameL a f).length, 0) := rfl
  refine ⟨trivial, fun h => ?_, fun h => ⟨trivial, fun h2 => ?_, fun h2 => ⟨trivial, fun h3 => ?_, fun h3 => ?_⟩⟩⟩
  · rw [hC, if_pos (of_decide_eq_true h)]
    exact ⟨rfl, rfl, rfl, rfl, trivial⟩
  · have h : fromFault a f = 0 := by simpa using of_decide_eq_false h
    have hnn : n < 0 ∨ 256 < n := by
      have h2 := of_decide_eq_true h2
      unfold newF at h2
      split at h2
      · assumption
      · simp at h2
    have e : (newF n).2 = 4 := by unfold newF; rw [if_pos hnn]
    rw [hC, if_neg (by omega), if_pos hnn, e]
    exact ⟨rfl, rfl, rfl, rfl, trivial⟩
  all_goals
    have h : fromFault a f = 0 := by simpa using of_decide_eq_false h
    have hnn : ¬ (n < 0 ∨ 256 < n) := by
      intro hnn
      have h2 := of_decide_eq_false h2
      unfold newF at h2
      rw [if_pos hnn] at h2
      simp at h2
    have hce := came_end h hw
    rw [if_neg (by omega), hce] at h3
  · rw [hC, if_neg (by omega), if_neg hnn, if_pos (of_decide_eq_true h3)]
    exact ⟨rfl, rfl, rfl, rfl, trivial⟩
  have h3 := of_decide_eq_false h3
  have hN : (newF n).1 = List.replicate n.toNat 0 := by unfold newF; rw [if_neg hnn]
  have e0 : (if fromFault a f ≠ 0 then ([] : List Int) else cameL a f) = cameL a f := if_neg (by omega)
  rw [if_neg (by omega), if_neg hnn, if_neg h3] at hC
  rw [e0, hC, hN]
  obtain ⟨hc, hfb⟩ := fromFault_ok h
  have hcr := came_carr h hw
  have hol := (came_is a f).length hw hc hfb
  clear hC hce hN e0
  generalize cameL a f = o at *
  have hErange := endA_range a o
  refine ⟨⟨by omega, by omega, by simp [tosA], rfl, rfl, by simp [endA]⟩, fun ⟨to, m, e, out, i⟩ ⟨i0, i1, i2, i3, i4, i5⟩ => ⟨fun hlt => ?_, fun hge => ?_⟩⟩
  · simp only at i0 i1 i2 i3 i4 i5 hlt ⊢
    subst i4
    have hlt := of_decide_eq_true hlt
    have ht := take_snoc (0 : Int) i0 hlt
    have hm := getD_mem (0 : Int) i0 hlt
    have hib := hcr.isB _ hm
    obtain ⟨l1, l2, l3, l4, l5, l6⟩ := objA_length hib
    have hal := (isB_spot hib).2.2.2.2
    have hrl := at_refs_length hc hib
    have hbl := at_body_length hc hib
    have hlg : 1 + ((atF a (o.getD i.toNat 0)).1.2.1.length : Int) + ((atF a (o.getD i.toNat 0)).1.2.2.1.length : Int) = lgA a (o.getD i.toNat 0) := by rw [hrl, hbl, lgA_is]; omega
    have hlr := lgA_is (a := a) (o.getD i.toNat 0)
    have hstep := copy_step hcr i0 hlt (by omega) i5
    have hrw := raw_words hcr hm
    have hEi := endA_range a (o.take i.toNat)
    rw [List.length_take] at hEi
    have hEs := endA_take_le a o (i + 1).toNat
    rw [ht, endA_snoc] at hEs
    have hpl := raws_length hcr (o.take i.toNat) (fun x hx => List.mem_of_mem_take hx)
    have hout : (out.length : Int) = n := by rw [i5, List.length_append, List.length_replicate]; omega
    have htl : to.length = i.toNat := by rw [i2]; simp [tosA]
    have hw1 : IntKind.u64.wrap (o.getD i.toNat 0) = o.getD i.toNat 0 := wrapU (by omega) (by omega)
    have hw2 : IntKind.u64.wrap (endA a (o.take i.toNat)) = endA a (o.take i.toNat) := wrapU (by omega) (by omega)
    have hts : tosA a o (i + 1).toNat = to ++ [endA a (o.take i.toNat)] := by rw [show (i + 1).toNat = i.toNat + 1 by omega, tosA_snoc, ← i2]
    have hns : nowA a o (i + 1).toNat = mput m (o.getD i.toNat 0 + 1) (endA a (o.take i.toNat) + 1) := by rw [show (i + 1).toNat = i.toNat + 1 by omega, i3]; rfl
    rw [hlg, hw1, hw2, hrw, hts, hns, ht, endA_snoc, hstep]
    unfold big
    simp only [InR, List.length_singleton]
    exact ⟨i0, hlt, by omega, by omega, by omega, by omega, trivial, by omega, by omega, by omega, by omega, by omega, by omega, by omega, by omega, by omega, by omega, by omega, ⟨by omega, by omega, by first | rfl | trivial, by first | rfl | trivial, by first | rfl | trivial, by first | rfl | trivial⟩, by omega⟩
  simp only at i0 i1 i2 i3 i4 i5 hge ⊢
  have hge := of_decide_eq_false hge
  have hiN : i.toNat = o.length := by omega
  rw [hiN] at i2 i3
  rw [take_end hge] at i4 i5
  subst i4 i3
  clear i0 i1 hge hiN
  refine ⟨⟨by omega, by omega, by simpa using i5⟩, fun ⟨out2, i⟩ ⟨i0, i1, i2'⟩ => ⟨fun hlt => ?_, fun hge => ?_⟩⟩
  · simp only at i0 i1 i2' hlt ⊢
    have hlt := of_decide_eq_true hlt
    have ht := take_snoc (0 : Int) i0 hlt
    have hm := getD_mem (0 : Int) i0 hlt
    have hib := hcr.isB _ hm
    obtain ⟨l1, l2, l3, l4, l5, l6⟩ := objA_length hib
    have hrl := at_refs_length hc hib
    have hdc := drop_cons (0 : Int) i0 hlt
    have hPl := lnks_length hcr (o.take i.toNat) (fun x hx => List.mem_of_mem_take hx)
    have hEi := endA_range a (o.take i.toNat)
    have htg : to.getD i.toNat 0 = endA a (o.take i.toNat) := by rw [i2]; exact tosA_get a o (by omega)
    have htl : to.length = o.length := by rw [i2]; simp [tosA]
    have hEs := endA_take_le a o i.toNat
    have hlks := fun v hv => now_lk hcr hm (v := v) hv
    have hrawx : rawA a (o.getD i.toNat 0) = a.getD (o.getD i.toNat 0).toNat 0 :: (refsA a (o.getD i.toNat 0) ++ bodyA a (o.getD i.toNat 0)) := rfl
    have hlnkx : lnkA a o (o.getD i.toNat 0) = a.getD (o.getD i.toNat 0).toNat 0 :: ((refsA a (o.getD i.toNat 0)).map (lkA a o) ++ bodyA a (o.getD i.toNat 0)) := rfl
    rw [hrl, ht, List.flatMap_append, List.flatMap_cons, List.flatMap_nil, List.append_nil, hlnkx, htg]
    rw [hdc, List.flatMap_cons, hrawx, List.append_assoc] at i2'
    generalize o.getD i.toNat 0 = x at *
    generalize (o.take i.toNat).flatMap (lnkA a o) = P at *
    generalize (o.drop (i + 1).toNat).flatMap (rawA a) ++ List.replicate (n - endA a o).toNat 0 = Q at *
    generalize endA a (o.take i.toNat) = e at *
    generalize a.getD x.toNat 0 = hd at *
    generalize hRr : refsA a x = R at *
    generalize bodyA a x = B at *
    refine ⟨i0, hlt, by omega, trivial, ⟨by omega, by omega, by rw [i2']; simp⟩, fun ⟨out3, k⟩ ⟨k0, k1, k2⟩ => ⟨fun hk => ?_, fun hk => ?_⟩⟩
    · simp only at k0 k1 k2 hk ⊢
      have hk := of_decide_eq_true hk
      have hv := getD_mem (0 : Int) k0 hk
      have htk := take_snoc (0 : Int) k0 hk
      rw [drop_cons (0 : Int) k0 hk, List.cons_append] at k2
      rw [htk, List.map_append, List.map_cons, List.map_nil]
      have hlk := hlks _ hv
      generalize R.getD k.toNat 0 = v at *
      have hidx : (e + 1 + k).toNat = P.length + 1 + ((R.take k.toNat).map (lkA a o)).length := by
        rw [List.length_map, List.length_take]
        omega
      obtain ⟨g1, g2, g3⟩ := at_mid (P := P) (A := (R.take k.toNat).map (lkA a o)) (B := R.drop (k + 1).toNat ++ (B ++ Q)) (h := hd) (v := v) (w := lkA a o v) hidx
      rw [← k2] at g1 g2 g3
      rw [g1, hlk, g2]
      simp only [InR]
      refine ⟨i0, by omega, by omega, by omega, by omega, i0, by omega, by omega, by omega, by omega, by omega, by omega, g3, by omega, by omega, g3, by omega, ⟨by omega, by omega, by simp⟩, by omega⟩
    · simp only at k0 k1 k2 hk ⊢
      have hk := of_decide_eq_false hk
      rw [take_end hk, drop_end hk, List.nil_append] at k2
      simp only [InR]
      exact ⟨by omega, ⟨by omega, by omega, by rw [k2]; simp⟩, by omega⟩
  · simp only at i0 i1 i2' hge ⊢
    have hge := of_decide_eq_false hge
    rw [take_end hge, drop_end hge, List.flatMap_nil, List.nil_append] at i2'
    have hLl := lnks_length hcr o fun _ hx => hx
    subst i2
    refine ⟨fun hl => ?_, fun hl => ?_⟩
    · have hl := of_decide_eq_true hl
      have hhf : headFault (0, n - endA a o - 1, 0, true) = 0 := by simp [headFault, headLong]; omega
      have hts := tail_set (n := n) hLl hl (headWord (0, n - endA a o - 1, 0, true))
      rw [if_pos hhf, i2', hts]
      simp only [InR, List.length_append, List.length_replicate]
      refine ⟨by omega, by omega, trivial, by omega, by omega, by omega, ?_, by first | rfl | trivial, by first | rfl | trivial, by first | rfl | trivial, trivial⟩
      unfold layTail
      rw [if_pos (by omega)]
    · have hl := of_decide_eq_false hl
      rw [i2']
      refine ⟨?_, by first | rfl | trivial, by first | rfl | trivial, by first | rfl | trivial, trivial⟩
      unfold layTail
      rw [if_neg (by omega), show (n - endA a o).toNat = 0 by omega]
      rfl
theorem e_carry : pv_carry = (fnVC Try.prog (tbl [(17, sp_order), (75, sp_wordNew), (64, sp_tWords), (65, sp_walkAt), (76, sp_headWord)]) an_carry Try.f18 sp_carry) := by kernel_rfl
theorem vc_carry : fnVC Try.prog (tbl [(17, sp_order), (75, sp_wordNew), (64, sp_tWords), (65, sp_walkAt), (76, sp_headWord)]) an_carry Try.f18 sp_carry := @Eq.mp _ _ @e_carry @vcp_carry
theorem ok_carry : sp_carry.ok Try.prog 18 := fn_sound (P := Try.prog) (ss := tbl [(17, sp_order), (75, sp_wordNew), (64, sp_tWords), (65, sp_walkAt), (76, sp_headWord)]) (ann := an_carry) (f := 18) (fn := Try.f18) (s := sp_carry) (tbl_cons ok_order (tbl_cons ok_wordNew (tbl_cons ok_tWords (tbl_cons ok_walkAt (tbl_cons ok_headWord tbl_nil))))) Try.func18 @vc_carry

def sp_rCameToD : Spec := { Ts := [.arr ty_W, .arr ty_I], Rs := [.dat (.arr ty_I)], al := true, pre := fun ((a, f) : List Int × List Int) => fromFault a f = 0, F := fun ((a, f) : List Int × List Int) => cameL a f }
def pv_rCameToD : Prop :=
    ∀ (x : List Int × List Int), ((x.fst.length * (8 : Nat) ≤ big ∧ ∀ (x_1 : Int), x_1 ∈ x.fst → InR IntKind.u64 x_1) ∧ x.snd.length * (8 : Nat) ≤ big ∧ ∀ (x_1 : Int), x_1 ∈ x.snd → InR IntKind.i64 x_1) → fromFault x.fst x.snd = (0 : Int) → ((0 : Int) ≤ (0 : Int) ∧ (0 : Int) ≤ (↑x.snd.length : Int) ∧ ([] : List Int) = List.foldl comeL ([] : List Int) (List.take (Int.toNat (0 : Int)) x.snd)) ∧ ∀ (x_1 : List Int × Int), (0 : Int) ≤ x_1.snd ∧ x_1.snd ≤ (↑x.snd.length : Int) ∧ x_1.fst = List.foldl comeL ([] : List Int) (List.take x_1.snd.toNat x.snd) → (decide (x_1.snd < (↑x.snd.length : Int)) = true → (0 : Int) ≤ x_1.snd ∧ x_1.snd < (↑x.snd.length : Int) ∧ True ∧ ((!inL x_1.fst (x.snd.getD x_1.snd.toNat (0 : Int))) = true → (x_1.fst.length + [x.snd.getD x_1.snd.toNat (0 : Int)].length) * (8 : Nat) ≤ big ∧ InR IntKind.i64 (x_1.snd + (1 : Int)) ∧ ((0 : Int) ≤ x_1.snd + (1 : Int) ∧ x_1.snd + (1 : Int) ≤ (↑x.snd.length : Int) ∧ x_1.fst ++ [x.snd.getD x_1.snd.toNat (0 : Int)] = List.foldl comeL ([] : List Int) (List.take (x_1.snd + (1 : Int)).toNat x.snd)) ∧ ((↑x.snd.length : Int) - (x_1.snd + (1 : Int))).toNat < ((↑x.snd.length : Int) - x_1.snd).toNat) ∧ ((!inL x_1.fst (x.snd.getD x_1.snd.toNat (0 : Int))) = false → InR IntKind.i64 (x_1.snd + (1 : Int)) ∧ ((0 : Int) ≤ x_1.snd + (1 : Int) ∧ x_1.snd + (1 : Int) ≤ (↑x.snd.length : Int) ∧ x_1.fst = List.foldl comeL ([] : List Int) (List.take (x_1.snd + (1 : Int)).toNat x.snd)) ∧ ((↑x.snd.length : Int) - (x_1.snd + (1 : Int))).toNat < ((↑x.snd.length : Int) - x_1.snd).toNat)) ∧ (decide (x_1.snd < (↑x.snd.length : Int)) = false → ((0 : Int) ≤ (0 : Int) ∧ (0 : Int) ≤ (↑x_1.fst.length : Int) ∧ Came x.fst x.snd x_1.fst ∧ cameN x.fst ((257 : Nat) - Int.toNat (0 : Int)) (Int.toNat (0 : Int)) x_1.fst = cameL x.fst x.snd) ∧ ∀ (x_2 : List Int × Int), (0 : Int) ≤ x_2.snd ∧ x_2.snd ≤ (↑x_2.fst.length : Int) ∧ Came x.fst x.snd x_2.fst ∧ cameN x.fst ((257 : Nat) - x_2.snd.toNat) x_2.snd.toNat x_2.fst = cameL x.fst x.snd → (decide (x_2.snd < (↑x_2.fst.length : Int)) = true → (0 : Int) ≤ x_2.snd ∧ x_2.snd < (↑x_2.fst.length : Int) ∧ x_2.snd.toNat < x_2.fst.length ∧ True ∧ ((0 : Int) ≤ (0 : Int) ∧ (0 : Int) ≤ (↑(namedL x.fst (x_2.fst.getD x_2.snd.toNat (0 : Int)) (headAtL (x_2.fst.getD x_2.snd.toNat (0 : Int)) (spotsF x.fst).fst).fst).length : Int) ∧ x_2.fst = List.foldl comeL x_2.fst (List.filter (fun (v : Int) => decide ((0 : Int) ≤ v)) (List.take (Int.toNat (0 : Int)) (namedL x.fst (x_2.fst.getD x_2.snd.toNat (0 : Int)) (headAtL (x_2.fst.getD x_2.snd.toNat (0 : Int)) (spotsF x.fst).fst).fst)))) ∧ ∀ (x_3 : List Int × Int), (0 : Int) ≤ x_3.snd ∧ x_3.snd ≤ (↑(namedL x.fst (x_2.fst.getD x_2.snd.toNat (0 : Int)) (headAtL (x_2.fst.getD x_2.snd.toNat (0 : Int)) (spotsF x.fst).fst).fst).length : Int) ∧ x_3.fst = List.foldl comeL x_2.fst (List.filter (fun (v : Int) => decide ((0 : Int) ≤ v)) (List.take x_3.snd.toNat (namedL x.fst (x_2.fst.getD x_2.snd.toNat (0 : Int)) (headAtL (x_2.fst.getD x_2.snd.toNat (0 : Int)) (spotsF x.fst).fst).fst))) → (decide (x_3.snd < (↑(namedL x.fst (x_2.fst.getD x_2.snd.toNat (0 : Int)) (headAtL (x_2.fst.getD x_2.snd.toNat (0 : Int)) (spotsF x.fst).fst).fst).length : Int)) = true → (0 : Int) ≤ x_3.snd ∧ x_3.snd < (↑(namedL x.fst (x_2.fst.getD x_2.snd.toNat (0 : Int)) (headAtL (x_2.fst.getD x_2.snd.toNat (0 : Int)) (spotsF x.fst).fst).fst).length : Int) ∧ x_3.snd.toNat < (namedL x.fst (x_2.fst.getD x_2.snd.toNat (0 : Int)) (headAtL (x_2.fst.getD x_2.snd.toNat (0 : Int)) (spotsF x.fst).fst).fst).length ∧ (decide ((0 : Int) ≤ (namedL x.fst (x_2.fst.getD x_2.snd.toNat (0 : Int)) (headAtL (x_2.fst.getD x_2.snd.toNat (0 : Int)) (spotsF x.fst).fst).fst).getD x_3.snd.toNat (0 : Int)) = true → True) ∧ ((decide ((0 : Int) ≤ (namedL x.fst (x_2.fst.getD x_2.snd.toNat (0 : Int)) (headAtL (x_2.fst.getD x_2.snd.toNat (0 : Int)) (spotsF x.fst).fst).fst).getD x_3.snd.toNat (0 : Int)) && !inL x_3.fst ((namedL x.fst (x_2.fst.getD x_2.snd.toNat (0 : Int)) (headAtL (x_2.fst.getD x_2.snd.toNat (0 : Int)) (spotsF x.fst).fst).fst).getD x_3.snd.toNat (0 : Int))) = true → (x_3.fst.length + [(namedL x.fst (x_2.fst.getD x_2.snd.toNat (0 : Int)) (headAtL (x_2.fst.getD x_2.snd.toNat (0 : Int)) (spotsF x.fst).fst).fst).getD x_3.snd.toNat (0 : Int)].length) * (8 : Nat) ≤ big ∧ InR IntKind.i64 (x_3.snd + (1 : Int)) ∧ ((0 : Int) ≤ x_3.snd + (1 : Int) ∧ x_3.snd + (1 : Int) ≤ (↑(namedL x.fst (x_2.fst.getD x_2.snd.toNat (0 : Int)) (headAtL (x_2.fst.getD x_2.snd.toNat (0 : Int)) (spotsF x.fst).fst).fst).length : Int) ∧ x_3.fst ++ [(namedL x.fst (x_2.fst.getD x_2.snd.toNat (0 : Int)) (headAtL (x_2.fst.getD x_2.snd.toNat (0 : Int)) (spotsF x.fst).fst).fst).getD x_3.snd.toNat (0 : Int)] = List.foldl comeL x_2.fst (List.filter (fun (v : Int) => decide ((0 : Int) ≤ v)) (List.take (x_3.snd + (1 : Int)).toNat (namedL x.fst (x_2.fst.getD x_2.snd.toNat (0 : Int)) (headAtL (x_2.fst.getD x_2.snd.toNat (0 : Int)) (spotsF x.fst).fst).fst)))) ∧ ((↑(namedL x.fst (x_2.fst.getD x_2.snd.toNat (0 : Int)) (headAtL (x_2.fst.getD x_2.snd.toNat (0 : Int)) (spotsF x.fst).fst).fst).length : Int) - (x_3.snd + (1 : Int))).toNat < ((↑(namedL x.fst (x_2.fst.getD x_2.snd.toNat (0 : Int)) (headAtL (x_2.fst.getD x_2.snd.toNat (0 : Int)) (spotsF x.fst).fst).fst).length : Int) - x_3.snd).toNat) ∧ ((decide ((0 : Int) ≤ (namedL x.fst (x_2.fst.getD x_2.snd.toNat (0 : Int)) (headAtL (x_2.fst.getD x_2.snd.toNat (0 : Int)) (spotsF x.fst).fst).fst).getD x_3.snd.toNat (0 : Int)) && !inL x_3.fst ((namedL x.fst (x_2.fst.getD x_2.snd.toNat (0 : Int)) (headAtL (x_2.fst.getD x_2.snd.toNat (0 : Int)) (spotsF x.fst).fst).fst).getD x_3.snd.toNat (0 : Int))) = false → InR IntKind.i64 (x_3.snd + (1 : Int)) ∧ ((0 : Int) ≤ x_3.snd + (1 : Int) ∧ x_3.snd + (1 : Int) ≤ (↑(namedL x.fst (x_2.fst.getD x_2.snd.toNat (0 : Int)) (headAtL (x_2.fst.getD x_2.snd.toNat (0 : Int)) (spotsF x.fst).fst).fst).length : Int) ∧ x_3.fst = List.foldl comeL x_2.fst (List.filter (fun (v : Int) => decide ((0 : Int) ≤ v)) (List.take (x_3.snd + (1 : Int)).toNat (namedL x.fst (x_2.fst.getD x_2.snd.toNat (0 : Int)) (headAtL (x_2.fst.getD x_2.snd.toNat (0 : Int)) (spotsF x.fst).fst).fst)))) ∧ ((↑(namedL x.fst (x_2.fst.getD x_2.snd.toNat (0 : Int)) (headAtL (x_2.fst.getD x_2.snd.toNat (0 : Int)) (spotsF x.fst).fst).fst).length : Int) - (x_3.snd + (1 : Int))).toNat < ((↑(namedL x.fst (x_2.fst.getD x_2.snd.toNat (0 : Int)) (headAtL (x_2.fst.getD x_2.snd.toNat (0 : Int)) (spotsF x.fst).fst).fst).length : Int) - x_3.snd).toNat)) ∧ (decide (x_3.snd < (↑(namedL x.fst (x_2.fst.getD x_2.snd.toNat (0 : Int)) (headAtL (x_2.fst.getD x_2.snd.toNat (0 : Int)) (spotsF x.fst).fst).fst).length : Int)) = false → InR IntKind.i64 (x_2.snd + (1 : Int)) ∧ ((0 : Int) ≤ x_2.snd + (1 : Int) ∧ x_2.snd + (1 : Int) ≤ (↑x_3.fst.length : Int) ∧ Came x.fst x.snd x_3.fst ∧ cameN x.fst ((257 : Nat) - (x_2.snd + (1 : Int)).toNat) (x_2.snd + (1 : Int)).toNat x_3.fst = cameL x.fst x.snd) ∧ ((256 : Int) - (x_2.snd + (1 : Int))).toNat < ((256 : Int) - x_2.snd).toNat)) ∧ (decide (x_2.snd < (↑x_2.fst.length : Int)) = false → x_2.fst = cameL x.fst x.snd ∧ True))
theorem vcp_rCameToD : pv_rCameToD := by
  unfold pv_rCameToD
  exact vcp_rCameTo
theorem e_rCameToD : pv_rCameToD = (fnVC Try.prog (tbl [(37, sp_rIn), (59, sp_rNamed)]) an_came Try.f19 sp_rCameToD) := by kernel_rfl
theorem vc_rCameToD : fnVC Try.prog (tbl [(37, sp_rIn), (59, sp_rNamed)]) an_came Try.f19 sp_rCameToD := @Eq.mp _ _ @e_rCameToD @vcp_rCameToD
theorem ok_rCameToD : sp_rCameToD.ok Try.prog 19 := fn_sound (P := Try.prog) (ss := tbl [(37, sp_rIn), (59, sp_rNamed)]) (ann := an_came) (f := 19) (fn := Try.f19) (s := sp_rCameToD) (tbl_cons ok_rIn (tbl_cons ok_rNamed tbl_nil)) Try.func19 @vc_rCameToD

def an_lawCarry : Nat → Option LoopGen
  | 1000010 => some { rd := [.dat 0 (.arr ty_W), .dat 14 (.arr ty_I), .dat 2 ty_I], A := fun ((a, o, n) : List Int × List Int × Int) => { cs := [.dat 13 ty_I], inv := fun (e : Int) => e = if n < 0 ∨ 256 < n then 4 else if n < endA a o then 7 else 0, mu := fun _ => 0 } }
  | 18 => some { rd := [.dat 0 (.arr ty_W), .dat 111 (.arr ty_I)], A := fun ((a, o) : List Int × List Int) => { cs := [.own 17 3 ty_I, .dat 113 ty_I], inv := fun ((b, i) : List Int × Int) => 0 ≤ i ∧ i ≤ o.length ∧ b = tosA a o i.toNat, mu := fun ((_, i) : List Int × Int) => (o.length - i).toNat } }
  | _ => none
def sp_lawCarryTells : Spec := sp_law [.arr ty_W, .arr ty_I, ty_I]
def pv_lawCarryTells : Prop :=
    ∀ (x : List Int × List Int × Int), (x.fst.length * (8 : Nat) ≤ big ∧ ∀ (x_1 : Int), x_1 ∈ x.fst → InR IntKind.u64 x_1) ∧ (x.snd.fst.length * (8 : Nat) ≤ big ∧ ∀ (x_1 : Int), x_1 ∈ x.snd.fst → InR IntKind.i64 x_1) ∧ InR IntKind.i64 x.snd.snd → (x.fst.length * (8 : Nat) ≤ (140737488351232 : Nat) ∧ ∀ (x_1 : Int), x_1 ∈ x.fst → sp_room ty_W x_1) ∧ (x.snd.fst.length * (8 : Nat) ≤ (140737488351232 : Nat) ∧ ∀ (x_1 : Int), x_1 ∈ x.snd.fst → sp_room ty_I x_1) ∧ True → True ∧ True ∧ True ∧ (decide (fromF x.fst [x.snd.fst] ≠ (0 : Int)) = true → InR IntKind.i64 ((↑(if fromFault x.fst x.snd.fst ≠ (0 : Int) then ([] : List Int) else cameL x.fst x.snd.fst).length : Int) + (↑(carryF x.fst x.snd.fst x.snd.snd).fst.length : Int)) ∧ InR IntKind.i64 ((↑(if fromFault x.fst x.snd.fst ≠ (0 : Int) then ([] : List Int) else cameL x.fst x.snd.fst).length : Int) + (↑(carryF x.fst x.snd.fst x.snd.snd).fst.length : Int) + (↑(carryF x.fst x.snd.fst x.snd.snd).snd.fst.length : Int)) ∧ InR IntKind.i64 ((↑(if fromFault x.fst x.snd.fst ≠ (0 : Int) then ([] : List Int) else cameL x.fst x.snd.fst).length : Int) + (↑(carryF x.fst x.snd.fst x.snd.snd).fst.length : Int) + (↑(carryF x.fst x.snd.fst x.snd.snd).snd.fst.length : Int) + (↑(carryF x.fst x.snd.fst x.snd.snd).snd.snd.fst.length : Int)) ∧ (decide ((↑(if fromFault x.fst x.snd.fst ≠ (0 : Int) then ([] : List Int) else cameL x.fst x.snd.fst).length : Int) + (↑(carryF x.fst x.snd.fst x.snd.snd).fst.length : Int) + (↑(carryF x.fst x.snd.fst x.snd.snd).snd.fst.length : Int) + (↑(carryF x.fst x.snd.fst x.snd.snd).snd.snd.fst.length : Int) = (0 : Int)) && decide (fromFault x.fst x.snd.fst = fromF x.fst [x.snd.fst]) && decide ((carryF x.fst x.snd.fst x.snd.snd).snd.snd.snd = fromF x.fst [x.snd.fst])) = true ∧ True) ∧ (decide (fromF x.fst [x.snd.fst] ≠ (0 : Int)) = false → fromFault x.fst x.snd.fst = (0 : Int) ∧ (decide (fromFault x.fst x.snd.fst ≠ (0 : Int)) = false → True) ∧ ((decide (fromFault x.fst x.snd.fst ≠ (0 : Int)) || !decide ((if fromFault x.fst x.snd.fst ≠ (0 : Int) then ([] : List Int) else cameL x.fst x.snd.fst) = cameL x.fst x.snd.fst)) = true → false = true ∧ True) ∧ ((decide (fromFault x.fst x.snd.fst ≠ (0 : Int)) || !decide ((if fromFault x.fst x.snd.fst ≠ (0 : Int) then ([] : List Int) else cameL x.fst x.snd.fst) = cameL x.fst x.snd.fst)) = false → (((decide (x.snd.snd < (0 : Int)) || decide ((256 : Int) < x.snd.snd)) = true → (4 : Int) = if x.snd.snd < (0 : Int) ∨ (256 : Int) < x.snd.snd then (4 : Int) else if x.snd.snd < endA x.fst (cameL x.fst x.snd.fst) then (7 : Int) else (0 : Int)) ∧ ((decide (x.snd.snd < (0 : Int)) || decide ((256 : Int) < x.snd.snd)) = false → True ∧ (decide (x.snd.snd < endA x.fst (cameL x.fst x.snd.fst)) = true → (7 : Int) = if x.snd.snd < (0 : Int) ∨ (256 : Int) < x.snd.snd then (4 : Int) else if x.snd.snd < endA x.fst (cameL x.fst x.snd.fst) then (7 : Int) else (0 : Int)) ∧ (decide (x.snd.snd < endA x.fst (cameL x.fst x.snd.fst)) = false → fromF x.fst [x.snd.fst] = if x.snd.snd < (0 : Int) ∨ (256 : Int) < x.snd.snd then (4 : Int) else if x.snd.snd < endA x.fst (cameL x.fst x.snd.fst) then (7 : Int) else (0 : Int)))) ∧ ∀ (x_1 : Int), (x_1 = if x.snd.snd < (0 : Int) ∨ (256 : Int) < x.snd.snd then (4 : Int) else if x.snd.snd < endA x.fst (cameL x.fst x.snd.fst) then (7 : Int) else (0 : Int)) → (decide (x_1 ≠ (0 : Int)) = true → InR IntKind.i64 ((↑(carryF x.fst x.snd.fst x.snd.snd).fst.length : Int) + (↑(carryF x.fst x.snd.fst x.snd.snd).snd.fst.length : Int)) ∧ InR IntKind.i64 ((↑(carryF x.fst x.snd.fst x.snd.snd).fst.length : Int) + (↑(carryF x.fst x.snd.fst x.snd.snd).snd.fst.length : Int) + (↑(carryF x.fst x.snd.fst x.snd.snd).snd.snd.fst.length : Int)) ∧ (decide ((↑(carryF x.fst x.snd.fst x.snd.snd).fst.length : Int) + (↑(carryF x.fst x.snd.fst x.snd.snd).snd.fst.length : Int) + (↑(carryF x.fst x.snd.fst x.snd.snd).snd.snd.fst.length : Int) = (0 : Int)) && decide ((carryF x.fst x.snd.fst x.snd.snd).snd.snd.snd = x_1)) = true ∧ True) ∧ (decide (x_1 ≠ (0 : Int)) = false → fromFault x.fst x.snd.fst = (0 : Int) ∧ True ∧ ((0 : Int) ≤ (0 : Int) ∧ (0 : Int) ≤ (↑(cameL x.fst x.snd.fst).length : Int) ∧ ([] : List Int) = tosA x.fst (cameL x.fst x.snd.fst) (Int.toNat (0 : Int))) ∧ ∀ (x_2 : List Int × Int), (0 : Int) ≤ x_2.snd ∧ x_2.snd ≤ (↑(cameL x.fst x.snd.fst).length : Int) ∧ x_2.fst = tosA x.fst (cameL x.fst x.snd.fst) x_2.snd.toNat → (decide (x_2.snd < (↑(cameL x.fst x.snd.fst).length : Int)) = true → (0 : Int) ≤ x_2.snd ∧ x_2.snd ≤ (↑(cameL x.fst x.snd.fst).length : Int) ∧ True ∧ (x_2.fst.length + [endA x.fst (List.take x_2.snd.toNat (cameL x.fst x.snd.fst))].length) * (8 : Nat) ≤ big ∧ InR IntKind.i64 (x_2.snd + (1 : Int)) ∧ ((0 : Int) ≤ x_2.snd + (1 : Int) ∧ x_2.snd + (1 : Int) ≤ (↑(cameL x.fst x.snd.fst).length : Int) ∧ x_2.fst ++ [endA x.fst (List.take x_2.snd.toNat (cameL x.fst x.snd.fst))] = tosA x.fst (cameL x.fst x.snd.fst) (x_2.snd + (1 : Int)).toNat) ∧ ((↑(cameL x.fst x.snd.fst).length : Int) - (x_2.snd + (1 : Int))).toNat < ((↑(cameL x.fst x.snd.fst).length : Int) - x_2.snd).toNat) ∧ (decide (x_2.snd < (↑(cameL x.fst x.snd.fst).length : Int)) = false → ((decide ((layF (formL x.fst x.snd.fst).fst x.snd.snd).snd = (0 : Int)) && decide ((carryF x.fst x.snd.fst x.snd.snd).snd.snd.snd = (0 : Int))) = true → True) ∧ ((decide ((layF (formL x.fst x.snd.fst).fst x.snd.snd).snd = (0 : Int)) && decide ((carryF x.fst x.snd.fst x.snd.snd).snd.snd.snd = (0 : Int)) && decide ((carryF x.fst x.snd.fst x.snd.snd).fst = (layF (formL x.fst x.snd.fst).fst x.snd.snd).fst)) = true → True) ∧ ((decide ((layF (formL x.fst x.snd.fst).fst x.snd.snd).snd = (0 : Int)) && decide ((carryF x.fst x.snd.fst x.snd.snd).snd.snd.snd = (0 : Int)) && decide ((carryF x.fst x.snd.fst x.snd.snd).fst = (layF (formL x.fst x.snd.fst).fst x.snd.snd).fst) && decide ((carryF x.fst x.snd.fst x.snd.snd).snd.fst = cameL x.fst x.snd.fst)) = true → True) ∧ (decide ((layF (formL x.fst x.snd.fst).fst x.snd.snd).snd = (0 : Int)) && decide ((carryF x.fst x.snd.fst x.snd.snd).snd.snd.snd = (0 : Int)) && decide ((carryF x.fst x.snd.fst x.snd.snd).fst = (layF (formL x.fst x.snd.fst).fst x.snd.snd).fst) && decide ((carryF x.fst x.snd.fst x.snd.snd).snd.fst = cameL x.fst x.snd.fst) && decide ((carryF x.fst x.snd.fst x.snd.snd).snd.snd.fst = x_2.fst)) = true ∧ True))))
theorem vcp_lawCarryTells : pv_lawCarryTells := by
  unfold pv_lawCarryTells
  intro ⟨a, f, n⟩ ⟨⟨hb, hw⟩, ⟨hbf, hf⟩, hn⟩ _
  unfold big at hb hbf
  simp only at hb hw hbf hf hn ⊢
  rw [from_single hw]
  have hC : carryF a f n = if fromFault a f ≠ 0 then ([], [], [], fromFault a f) else if n < 0 ∨ 256 < n then ([], [], [], 4) else if n < endA a (cameL a f) then ([], [], [], 7)
      else ((cameL a f).flatMap (lnkA a (cameL a f)) ++ layTail (n - endA a (cameL a f)), cameL a f, tosA a (cameL a f) (cameL a f).length, 0) := rfl
  refine ⟨trivial, trivial, trivial, fun h => ?_, fun h => ?_⟩
  · have h := of_decide_eq_true h
    rw [if_pos h] at hC
    have e0 : (if fromFault a f ≠ 0 then ([] : List Int) else cameL a f) = [] := if_pos h
    rw [e0, hC]
    simp [InR]
  have h : fromFault a f = 0 := by simpa using of_decide_eq_false h
  have e0 : (if fromFault a f ≠ 0 then ([] : List Int) else cameL a f) = cameL a f := if_neg (by omega)
  rw [if_neg (by omega)] at hC
  rw [e0, h]
  obtain ⟨hc, hfb⟩ := fromFault_ok h
  have hcr := came_carr h hw
  have hol := (came_is a f).length hw hc hfb
  have hL : (formL a f).1 = (cameL a f).map (formObj a (cameL a f)) := rfl
  rw [hL]
  clear e0 hL
  generalize cameL a f = o at *
  refine ⟨rfl, fun _ => trivial, fun hh => by simp at hh, fun _ => ⟨⟨fun hn1 => ?_, fun hn1 => ⟨trivial, fun hn2 => ?_, fun hn2 => ?_⟩⟩, fun e he => ⟨fun hne => ?_, fun hne => ?_⟩⟩⟩
  · rw [if_pos (by simpa using hn1)]
  · rw [if_neg (by simpa using hn1), if_pos (of_decide_eq_true hn2)]
  · rw [if_neg (by simpa using hn1), if_neg (of_decide_eq_false hn2)]
  · have hne := of_decide_eq_true hne
    have hC2 : carryF a f n = ([], [], [], e) := by
      rw [hC]
      by_cases c1 : n < 0 ∨ 256 < n
      · rw [if_pos c1] at he ⊢
        rw [he]
      · rw [if_neg c1] at he ⊢
        by_cases c2 : n < endA a o
        · rw [if_pos c2] at he ⊢
          rw [he]
        · rw [if_neg c2] at he
          exact absurd he hne
    rw [hC2]
    simp [InR]
  · have hne : e = 0 := by simpa using of_decide_eq_false hne
    have c1 : ¬ (n < 0 ∨ 256 < n) := fun c => by rw [if_pos c] at he; omega
    have c2 : ¬ n < endA a o := fun c => by rw [if_neg c1, if_pos c] at he; omega
    rw [if_neg c1, if_neg c2] at hC
    have hE := endA_range a o
    rw [forms_laid hcr (by omega) (by omega) (by omega), hC]
    refine ⟨rfl, trivial, ⟨by omega, by omega, by simp [tosA]⟩, fun ⟨b, i⟩ ⟨i0, i1, i2⟩ => ⟨fun hlt => ?_, fun hge => ?_⟩⟩
    · simp only at i0 i1 i2 hlt ⊢
      have hlt := of_decide_eq_true hlt
      have hl : b.length = i.toNat := by rw [i2]; simp [tosA]
      rw [show (i + 1).toNat = i.toNat + 1 by omega, tosA_snoc, ← i2]
      unfold big
      simp only [InR, List.length_singleton]
      exact ⟨i0, by omega, trivial, by omega, by omega, ⟨by omega, by omega, by first | rfl | trivial⟩, by omega⟩
    · simp only at i0 i1 i2 hge ⊢
      have hge := of_decide_eq_false hge
      rw [show i.toNat = o.length by omega] at i2
      rw [i2]
      simp
theorem e_lawCarryTells : pv_lawCarryTells = (fnVC Try.prog (tbl [(17, sp_order), (18, sp_carry), (14, sp_rFrom), (19, sp_rCameToD), (20, sp_eqInts), (21, sp_rTakes), (16, sp_rFormOf), (22, sp_rLaid), (23, sp_eqWords)]) an_lawCarry Try.f4 sp_lawCarryTells) := by kernel_rfl
theorem vc_lawCarryTells : fnVC Try.prog (tbl [(17, sp_order), (18, sp_carry), (14, sp_rFrom), (19, sp_rCameToD), (20, sp_eqInts), (21, sp_rTakes), (16, sp_rFormOf), (22, sp_rLaid), (23, sp_eqWords)]) an_lawCarry Try.f4 sp_lawCarryTells := @Eq.mp _ _ @e_lawCarryTells @vcp_lawCarryTells
theorem ok_lawCarryTells : sp_lawCarryTells.ok Try.prog 4 := fn_sound (P := Try.prog) (ss := tbl [(17, sp_order), (18, sp_carry), (14, sp_rFrom), (19, sp_rCameToD), (20, sp_eqInts), (21, sp_rTakes), (16, sp_rFormOf), (22, sp_rLaid), (23, sp_eqWords)]) (ann := an_lawCarry) (f := 4) (fn := Try.f4) (s := sp_lawCarryTells) (tbl_cons ok_order (tbl_cons ok_carry (tbl_cons ok_rFrom (tbl_cons ok_rCameToD (tbl_cons ok_eqInts (tbl_cons ok_rTakes (tbl_cons ok_rFormOf (tbl_cons ok_rLaid (tbl_cons ok_eqWords tbl_nil))))))))) Try.func4 @vc_lawCarryTells

end Go.Proofs.Ytbidboeemnlglaa
