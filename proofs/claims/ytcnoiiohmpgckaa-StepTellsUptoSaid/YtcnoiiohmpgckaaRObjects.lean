
import Derived.Test.YtcnoiiohmpgckaaRArena
namespace Go.Proofs.Ytcnoiiohmpgckaa
open Go
set_option maxRecDepth 100000
set_option maxHeartbeats 1000000
def sp_rSameInts : Spec := { Ts := [.arr ty_I, .arr ty_I], Rs := [.dat .bool], pre := fun _ => True, F := fun (x : List Int × List Int) => decide (x.1 = x.2) }
def an_rSameInts : Nat → Option LoopGen
  | 4 => some { rd := [.dat 0 (.arr ty_I), .dat 1 (.arr ty_I)], A := fun (g : List Int × List Int) => { cs := [.dat 13 ty_I], inv := fun (i : Int) => g.1.length = g.2.length ∧ 0 ≤ i ∧ i ≤ g.1.length ∧ g.1.take i.toNat = g.2.take i.toNat, mu := fun (i : Int) => (g.1.length - i).toNat } }
  | _ => none
def pv_rSameInts : Prop :=
    ∀ (x : List Int × List Int), ((x.1.length * 8 ≤ big ∧ ∀ (x_1 : Int), x_1 ∈ x.1 → InR IntKind.i64 x_1) ∧ x.2.length * 8 ≤ big ∧ ∀ (x_1 : Int), x_1 ∈ x.2 → InR IntKind.i64 x_1) → True → (decide ((↑x.1.length : Int) ≠ (↑x.2.length : Int)) = true → false = decide (x.1 = x.2) ∧ True) ∧ (decide ((↑x.1.length : Int) ≠ (↑x.2.length : Int)) = false → (x.1.length = x.2.length ∧ (0 : Int) ≤ 0 ∧ 0 ≤ (↑x.1.length : Int) ∧ List.take (Int.toNat 0) x.1 = List.take (Int.toNat 0) x.2) ∧ ∀ (x_1 : Int), x.1.length = x.2.length ∧ 0 ≤ x_1 ∧ x_1 ≤ (↑x.1.length : Int) ∧ List.take x_1.toNat x.1 = List.take x_1.toNat x.2 → (decide (x_1 < (↑x.1.length : Int)) = true → 0 ≤ x_1 ∧ x_1 < (↑x.1.length : Int) ∧ 0 ≤ x_1 ∧ x_1 < (↑x.2.length : Int) ∧ (decide (x.1.getD x_1.toNat 0 ≠ x.2.getD x_1.toNat 0) = true → false = decide (x.1 = x.2) ∧ True) ∧ (decide (x.1.getD x_1.toNat 0 ≠ x.2.getD x_1.toNat 0) = false → InR IntKind.i64 (x_1 + 1) ∧ (x.1.length = x.2.length ∧ 0 ≤ x_1 + 1 ∧ x_1 + 1 ≤ (↑x.1.length : Int) ∧ List.take (x_1 + 1).toNat x.1 = List.take (x_1 + 1).toNat x.2) ∧ ((↑x.1.length : Int) - (x_1 + 1)).toNat < ((↑x.1.length : Int) - x_1).toNat)) ∧ (decide (x_1 < (↑x.1.length : Int)) = false → true = decide (x.1 = x.2) ∧ True))
theorem vcp_rSameInts : pv_rSameInts := by
  unfold pv_rSameInts
  intro x hw _
  refine ⟨fun h => ?_, fun h => ?_⟩
  · have h : x.1.length ≠ x.2.length := by have := of_decide_eq_true h; omega
    have : x.1 ≠ x.2 := fun e => h (by rw [e])
    simp [this]
  have hl : x.1.length = x.2.length := by have := of_decide_eq_false h; omega
  refine ⟨⟨hl, by omega, by omega, by simp⟩, fun i ⟨_, h0, h1, ht⟩ => ⟨fun hlt => ?_, fun hge => ?_⟩⟩
  · have hlt : i < x.1.length := by simpa using hlt
    refine ⟨h0, hlt, h0, by omega, fun hne => ?_, fun he => ?_⟩
    · have hne : x.1.getD i.toNat 0 ≠ x.2.getD i.toNat 0 := by simpa using hne
      have : x.1 ≠ x.2 := fun e => hne (by rw [e])
      simp [this]
    · have he : x.1.getD i.toNat 0 = x.2.getD i.toNat 0 := by simpa using he
      have hb := hw.1.1
      unfold big at hb
      refine ⟨by simp only [InR]; omega, ⟨hl, by omega, by omega, ?_⟩, by omega⟩
      rw [show (i + 1).toNat = i.toNat + 1 by omega]
      exact take_step hl (by omega) ht he
  · have hge : ¬ i < x.1.length := by simpa using hge
    have hi : i.toNat = x.1.length := by omega
    rw [hi, List.take_of_length_le (Nat.le_refl _), List.take_of_length_le (by omega)] at ht
    simp [ht]
theorem ok_rSameInts : sp_rSameInts.ok Try.prog 115 := fn_ok (ann := an_rSameInts) tbl_nil Try.func115 (by kernel_rfl) vcp_rSameInts
def sp_rSameWords : Spec := { Ts := [.arr ty_W, .arr ty_W], Rs := [.dat .bool], pre := fun _ => True, F := fun (x : List Int × List Int) => decide (x.1 = x.2) }
def an_rSameWords : Nat → Option LoopGen
  | 4 => some { rd := [.dat 0 (.arr ty_W), .dat 1 (.arr ty_W)], A := fun (g : List Int × List Int) => { cs := [.dat 13 ty_I], inv := fun (i : Int) => g.1.length = g.2.length ∧ 0 ≤ i ∧ i ≤ g.1.length ∧ g.1.take i.toNat = g.2.take i.toNat, mu := fun (i : Int) => (g.1.length - i).toNat } }
  | _ => none
def pv_rSameWords : Prop :=
    ∀ (x : List Int × List Int), ((x.1.length * 8 ≤ big ∧ ∀ (x_1 : Int), x_1 ∈ x.1 → InR IntKind.u64 x_1) ∧ x.2.length * 8 ≤ big ∧ ∀ (x_1 : Int), x_1 ∈ x.2 → InR IntKind.u64 x_1) → True → (decide ((↑x.1.length : Int) ≠ (↑x.2.length : Int)) = true → false = decide (x.1 = x.2) ∧ True) ∧ (decide ((↑x.1.length : Int) ≠ (↑x.2.length : Int)) = false → (x.1.length = x.2.length ∧ (0 : Int) ≤ 0 ∧ 0 ≤ (↑x.1.length : Int) ∧ List.take (Int.toNat 0) x.1 = List.take (Int.toNat 0) x.2) ∧ ∀ (x_1 : Int), x.1.length = x.2.length ∧ 0 ≤ x_1 ∧ x_1 ≤ (↑x.1.length : Int) ∧ List.take x_1.toNat x.1 = List.take x_1.toNat x.2 → (decide (x_1 < (↑x.1.length : Int)) = true → 0 ≤ x_1 ∧ x_1 < (↑x.1.length : Int) ∧ 0 ≤ x_1 ∧ x_1 < (↑x.2.length : Int) ∧ (decide (x.1.getD x_1.toNat 0 ≠ x.2.getD x_1.toNat 0) = true → false = decide (x.1 = x.2) ∧ True) ∧ (decide (x.1.getD x_1.toNat 0 ≠ x.2.getD x_1.toNat 0) = false → InR IntKind.i64 (x_1 + 1) ∧ (x.1.length = x.2.length ∧ 0 ≤ x_1 + 1 ∧ x_1 + 1 ≤ (↑x.1.length : Int) ∧ List.take (x_1 + 1).toNat x.1 = List.take (x_1 + 1).toNat x.2) ∧ ((↑x.1.length : Int) - (x_1 + 1)).toNat < ((↑x.1.length : Int) - x_1).toNat)) ∧ (decide (x_1 < (↑x.1.length : Int)) = false → true = decide (x.1 = x.2) ∧ True))
theorem vcp_rSameWords : pv_rSameWords := by
  unfold pv_rSameWords
  intro x hw _
  refine ⟨fun h => ?_, fun h => ?_⟩
  · have h : x.1.length ≠ x.2.length := by have := of_decide_eq_true h; omega
    have : x.1 ≠ x.2 := fun e => h (by rw [e])
    simp [this]
  have hl : x.1.length = x.2.length := by have := of_decide_eq_false h; omega
  refine ⟨⟨hl, by omega, by omega, by simp⟩, fun i ⟨_, h0, h1, ht⟩ => ⟨fun hlt => ?_, fun hge => ?_⟩⟩
  · have hlt : i < x.1.length := by simpa using hlt
    refine ⟨h0, hlt, h0, by omega, fun hne => ?_, fun he => ?_⟩
    · have hne : x.1.getD i.toNat 0 ≠ x.2.getD i.toNat 0 := by simpa using hne
      have : x.1 ≠ x.2 := fun e => hne (by rw [e])
      simp [this]
    · have he : x.1.getD i.toNat 0 = x.2.getD i.toNat 0 := by simpa using he
      have hb := hw.1.1
      unfold big at hb
      refine ⟨by simp only [InR]; omega, ⟨hl, by omega, by omega, ?_⟩, by omega⟩
      rw [show (i + 1).toNat = i.toNat + 1 by omega]
      exact take_step hl (by omega) ht he
  · have hge : ¬ i < x.1.length := by simpa using hge
    have hi : i.toNat = x.1.length := by omega
    rw [hi, List.take_of_length_le (Nat.le_refl _), List.take_of_length_le (by omega)] at ht
    simp [ht]
theorem ok_rSameWords : sp_rSameWords.ok Try.prog 114 := fn_ok (ann := an_rSameWords) tbl_nil Try.func114 (by kernel_rfl) vcp_rSameWords
theorem beginsL_length : ∀ l : List Spot, (beginsL l).length ≤ l.length
  | [] => by simp [beginsL]
  | s :: l => by
    have := beginsL_length l
    simp only [beginsL]
    split <;> simp <;> omega
def namesIn (all : List Int) (rs : List Int) : Bool := rs.all fun to => decide (to = -1) || inL all to
def arenaOK (a : List Int) (l : List Spot) (all : List Int) : List Int → Bool
  | [] => true
  | at_ :: r => namesIn all (namedL a at_ (headAtL at_ l).1) && arenaOK a l all r
def arenaF (a : List Int) : Int := if (spotsF a).2 ≠ 0 then (spotsF a).2 else if arenaOK a (spotsF a).1 (beginsL (spotsF a).1) (beginsL (spotsF a).1) = true then 0 else 5
def an_rArenaFault : Nat → Option LoopGen
  | 6 => some { rd := [.own 20 3 ty_I, .dat 0 (.arr ty_W)], A := fun ((all, a) : List Int × List Int) => { cs := [.dat 22 ty_I], inv := fun (i : Int) => 0 ≤ i ∧ i ≤ all.length ∧ all.length ≤ 256 ∧ a.length ≤ 256 ∧ arenaOK a (spotsF a).1 all (all.drop i.toNat) = arenaOK a (spotsF a).1 all all, mu := fun (i : Int) => (all.length - i).toNat } }
  | 9 => some { rd := [.own 28 3 ty_I, .own 20 3 ty_I], A := fun ((rs, all) : List Int × List Int) => { cs := [.dat 30 ty_I], inv := fun (j : Int) => 0 ≤ j ∧ j ≤ rs.length ∧ rs.length ≤ 256 ∧ namesIn all (rs.drop j.toNat) = namesIn all rs, mu := fun (j : Int) => (rs.length - j).toNat } }
  | _ => none
def sp_rArenaFault : Spec := { Ts := [.arr ty_W], Rs := [.dat ty_I], pre := fun _ => True, F := arenaF }
def pv_rArenaFault : Prop :=
    ∀ (x : List Int), (x.length * 8 ≤ big ∧ ∀ (x_1 : Int), x_1 ∈ x → InR IntKind.u64 x_1) → True → True ∧ (decide ((spotsF x).2 ≠ 0) = true → (spotsF x).2 = arenaF x ∧ True) ∧ (decide ((spotsF x).2 ≠ 0) = false → True ∧ ((0 : Int) ≤ 0 ∧ 0 ≤ (↑(beginsL (spotsF x).1).length : Int) ∧ (beginsL (spotsF x).1).length ≤ 256 ∧ x.length ≤ 256 ∧ arenaOK x (spotsF x).1 (beginsL (spotsF x).1) (List.drop (Int.toNat 0) (beginsL (spotsF x).1)) = arenaOK x (spotsF x).1 (beginsL (spotsF x).1) (beginsL (spotsF x).1)) ∧ ∀ (x_1 : Int), 0 ≤ x_1 ∧ x_1 ≤ (↑(beginsL (spotsF x).1).length : Int) ∧ (beginsL (spotsF x).1).length ≤ 256 ∧ x.length ≤ 256 ∧ arenaOK x (spotsF x).1 (beginsL (spotsF x).1) (List.drop x_1.toNat (beginsL (spotsF x).1)) = arenaOK x (spotsF x).1 (beginsL (spotsF x).1) (beginsL (spotsF x).1) → (decide (x_1 < (↑(beginsL (spotsF x).1).length : Int)) = true → 0 ≤ x_1 ∧ x_1 < (↑(beginsL (spotsF x).1).length : Int) ∧ x_1.toNat < (beginsL (spotsF x).1).length ∧ True ∧ ((0 : Int) ≤ 0 ∧ 0 ≤ (↑(namedL x ((beginsL (spotsF x).1).getD x_1.toNat 0) (headAtL ((beginsL (spotsF x).1).getD x_1.toNat 0) (spotsF x).1).1).length : Int) ∧ (namedL x ((beginsL (spotsF x).1).getD x_1.toNat 0) (headAtL ((beginsL (spotsF x).1).getD x_1.toNat 0) (spotsF x).1).1).length ≤ 256 ∧ namesIn (beginsL (spotsF x).1) (List.drop (Int.toNat 0) (namedL x ((beginsL (spotsF x).1).getD x_1.toNat 0) (headAtL ((beginsL (spotsF x).1).getD x_1.toNat 0) (spotsF x).1).1)) = namesIn (beginsL (spotsF x).1) (namedL x ((beginsL (spotsF x).1).getD x_1.toNat 0) (headAtL ((beginsL (spotsF x).1).getD x_1.toNat 0) (spotsF x).1).1)) ∧ ∀ (x_2 : Int), 0 ≤ x_2 ∧ x_2 ≤ (↑(namedL x ((beginsL (spotsF x).1).getD x_1.toNat 0) (headAtL ((beginsL (spotsF x).1).getD x_1.toNat 0) (spotsF x).1).1).length : Int) ∧ (namedL x ((beginsL (spotsF x).1).getD x_1.toNat 0) (headAtL ((beginsL (spotsF x).1).getD x_1.toNat 0) (spotsF x).1).1).length ≤ 256 ∧ namesIn (beginsL (spotsF x).1) (List.drop x_2.toNat (namedL x ((beginsL (spotsF x).1).getD x_1.toNat 0) (headAtL ((beginsL (spotsF x).1).getD x_1.toNat 0) (spotsF x).1).1)) = namesIn (beginsL (spotsF x).1) (namedL x ((beginsL (spotsF x).1).getD x_1.toNat 0) (headAtL ((beginsL (spotsF x).1).getD x_1.toNat 0) (spotsF x).1).1) → (decide (x_2 < (↑(namedL x ((beginsL (spotsF x).1).getD x_1.toNat 0) (headAtL ((beginsL (spotsF x).1).getD x_1.toNat 0) (spotsF x).1).1).length : Int)) = true → 0 ≤ x_2 ∧ x_2 < (↑(namedL x ((beginsL (spotsF x).1).getD x_1.toNat 0) (headAtL ((beginsL (spotsF x).1).getD x_1.toNat 0) (spotsF x).1).1).length : Int) ∧ x_2.toNat < (namedL x ((beginsL (spotsF x).1).getD x_1.toNat 0) (headAtL ((beginsL (spotsF x).1).getD x_1.toNat 0) (spotsF x).1).1).length ∧ (decide ((namedL x ((beginsL (spotsF x).1).getD x_1.toNat 0) (headAtL ((beginsL (spotsF x).1).getD x_1.toNat 0) (spotsF x).1).1).getD x_2.toNat (0 : Int) ≠ -1) = true → True) ∧ ((decide ((namedL x ((beginsL (spotsF x).1).getD x_1.toNat 0) (headAtL ((beginsL (spotsF x).1).getD x_1.toNat 0) (spotsF x).1).1).getD x_2.toNat (0 : Int) ≠ -1) && !inL (beginsL (spotsF x).1) ((namedL x ((beginsL (spotsF x).1).getD x_1.toNat 0) (headAtL ((beginsL (spotsF x).1).getD x_1.toNat 0) (spotsF x).1).1).getD x_2.toNat 0)) = true → 5 = arenaF x ∧ True) ∧ ((decide ((namedL x ((beginsL (spotsF x).1).getD x_1.toNat 0) (headAtL ((beginsL (spotsF x).1).getD x_1.toNat 0) (spotsF x).1).1).getD x_2.toNat (0 : Int) ≠ -1) && !inL (beginsL (spotsF x).1) ((namedL x ((beginsL (spotsF x).1).getD x_1.toNat 0) (headAtL ((beginsL (spotsF x).1).getD x_1.toNat 0) (spotsF x).1).1).getD x_2.toNat 0)) = false → InR IntKind.i64 (x_2 + 1) ∧ (0 ≤ x_2 + 1 ∧ x_2 + 1 ≤ (↑(namedL x ((beginsL (spotsF x).1).getD x_1.toNat 0) (headAtL ((beginsL (spotsF x).1).getD x_1.toNat 0) (spotsF x).1).1).length : Int) ∧ (namedL x ((beginsL (spotsF x).1).getD x_1.toNat 0) (headAtL ((beginsL (spotsF x).1).getD x_1.toNat 0) (spotsF x).1).1).length ≤ 256 ∧ namesIn (beginsL (spotsF x).1) (List.drop (x_2 + 1).toNat (namedL x ((beginsL (spotsF x).1).getD x_1.toNat 0) (headAtL ((beginsL (spotsF x).1).getD x_1.toNat 0) (spotsF x).1).1)) = namesIn (beginsL (spotsF x).1) (namedL x ((beginsL (spotsF x).1).getD x_1.toNat 0) (headAtL ((beginsL (spotsF x).1).getD x_1.toNat 0) (spotsF x).1).1)) ∧ ((↑(namedL x ((beginsL (spotsF x).1).getD x_1.toNat 0) (headAtL ((beginsL (spotsF x).1).getD x_1.toNat 0) (spotsF x).1).1).length : Int) - (x_2 + 1)).toNat < ((↑(namedL x ((beginsL (spotsF x).1).getD x_1.toNat 0) (headAtL ((beginsL (spotsF x).1).getD x_1.toNat 0) (spotsF x).1).1).length : Int) - x_2).toNat)) ∧ (decide (x_2 < (↑(namedL x ((beginsL (spotsF x).1).getD x_1.toNat 0) (headAtL ((beginsL (spotsF x).1).getD x_1.toNat 0) (spotsF x).1).1).length : Int)) = false → InR IntKind.i64 (x_1 + 1) ∧ (0 ≤ x_1 + 1 ∧ x_1 + 1 ≤ (↑(beginsL (spotsF x).1).length : Int) ∧ (beginsL (spotsF x).1).length ≤ 256 ∧ x.length ≤ 256 ∧ arenaOK x (spotsF x).1 (beginsL (spotsF x).1) (List.drop (x_1 + 1).toNat (beginsL (spotsF x).1)) = arenaOK x (spotsF x).1 (beginsL (spotsF x).1) (beginsL (spotsF x).1)) ∧ ((↑(beginsL (spotsF x).1).length : Int) - (x_1 + 1)).toNat < ((↑(beginsL (spotsF x).1).length : Int) - x_1).toNat)) ∧ (decide (x_1 < (↑(beginsL (spotsF x).1).length : Int)) = false → 0 = arenaF x ∧ True))
theorem vcp_rArenaFault : pv_rArenaFault := by
  unfold pv_rArenaFault
  intro a _ _
  have hlen := spotsF_length a
  have hbl := beginsL_length (spotsF a).1
  have hF : arenaF a = if (spotsF a).2 ≠ 0 then (spotsF a).2 else if arenaOK a (spotsF a).1 (beginsL (spotsF a).1) (beginsL (spotsF a).1) = true then 0 else 5 := rfl
  generalize beginsL (spotsF a).1 = all at *
  refine ⟨trivial, fun hc => ?_, fun hc => ?_⟩
  · have hc : (spotsF a).2 ≠ 0 := by simpa using hc
    rw [hF, if_pos hc]
    exact ⟨rfl, trivial⟩
  have hc : (spotsF a).2 = 0 := by simpa using hc
  rw [if_neg (by omega)] at hF
  have hal := (spotsF_in hc).1
  have hnl : ∀ at_ h, (namedL a at_ h).length ≤ 256 := fun at_ h => by simp only [namedL, List.length_map, List.length_drop, List.length_take]; omega
  generalize hl : (spotsF a).1 = l at *
  refine ⟨trivial, ⟨by omega, by omega, by omega, hal, rfl⟩, fun i ⟨h0, h1, _, _, h2⟩ => ⟨fun hlt => ?_, fun hge => ?_⟩⟩
  · have hlt : i < (all.length : Int) := by simpa using hlt
    rw [drop_cons (0 : Int) h0 hlt] at h2
    simp only [arenaOK] at h2
    have hnl := hnl (all.getD i.toNat 0) (headAtL (all.getD i.toNat 0) l).1
    generalize namedL a (all.getD i.toNat 0) (headAtL (all.getD i.toNat 0) l).1 = rs at *
    refine ⟨h0, hlt, by omega, trivial, ⟨by omega, by omega, hnl, rfl⟩, fun j ⟨g0, g1, _, g2⟩ => ⟨fun hlt => ?_, fun hge => ?_⟩⟩
    · have hlt : j < (rs.length : Int) := by simpa using hlt
      rw [drop_cons (0 : Int) g0 hlt] at g2
      simp only [namesIn, List.all_cons] at g2
      generalize rs.getD j.toNat 0 = v at *
      have hv : (decide (v ≠ -1) && !inL all v) = !(decide (v = -1) || inL all v) := by simp
      rw [hv]
      simp only [InR]
      refine ⟨g0, hlt, by omega, fun _ => trivial, fun hv => ?_, fun hv => ?_⟩
      · have hv : (decide (v = -1) || inL all v) = false := by simpa using hv
        rw [hv, Bool.false_and] at g2
        have g2 : namesIn all rs = false := g2.symm
        rw [g2, Bool.false_and] at h2
        rw [hF, if_neg (by rw [← h2]; simp)]
        exact ⟨rfl, trivial⟩
      · have hv : (decide (v = -1) || inL all v) = true := by
          cases h : (decide (v = -1) || inL all v)
          · rw [h] at hv; cases hv
          · rfl
        rw [hv, Bool.true_and] at g2
        exact ⟨by omega, ⟨by omega, by omega, hnl, g2⟩, by omega⟩
    · rw [drop_end (by simpa using hge)] at g2
      have g2 : namesIn all rs = true := g2.symm
      rw [g2, Bool.true_and] at h2
      simp only [InR]
      exact ⟨by omega, ⟨by omega, by omega, by omega, hal, h2⟩, by omega⟩
  · rw [drop_end (by simpa using hge)] at h2
    have h2 : arenaOK a l all all = true := h2.symm
    rw [hF, if_pos h2]
    exact ⟨rfl, trivial⟩
theorem ok_rArenaFault : sp_rArenaFault.ok Try.prog 86 := fn_ok (ann := an_rArenaFault) (tbl_cons ok_rSpots (tbl_cons ok_rBegins (tbl_cons ok_rNamed (tbl_cons ok_rIn tbl_nil)))) Try.func86 (by kernel_rfl) vcp_rArenaFault
theorem spotsF_in2 (a : List Int) : ∀ s ∈ (spotsF a).1, a.length ≤ 256 ∧ spotIn a s ∧ headFault s.2 = 0 := by
  intro s hs
  have hz : (spotsF a).2 = 0 := by
    unfold spotsF at hs ⊢
    split at hs
    · simp at hs
    · rename_i cl
      rw [if_neg cl]
      cases h : spotsS 0 a with
      | none => rw [h] at hs; simp at hs
      | some l => rfl
  have h := spotsF_in hz
  exact ⟨h.1, (h.2 s hs).1, (h.2 s hs).2⟩
end Go.Proofs.Ytcnoiiohmpgckaa
