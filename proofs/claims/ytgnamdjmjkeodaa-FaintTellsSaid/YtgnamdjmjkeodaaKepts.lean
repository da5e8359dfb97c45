/- Package faint: Keep, Clear; the reference's FaintKept and SameFaint; the law FaintTells. -/
import Derived.Test.YtgnamdjmjkeodaaKept
import Derived.Test.YtgnamdjmjkeodaaFaints
namespace Go.Proofs.Ytgnamdjmjkeodaa
open Go
set_option maxRecDepth 100000
set_option maxHeartbeats 1000000

abbrev ty_Faint : Ty := .pair ty_I ty_I

def an_sameFaint : Nat → Option LoopGen
  | 4 => some { rd := [.dat 0 (.arr ty_Faint), .dat 1 (.arr ty_Faint)], A := fun (g : List Pr × List Pr) => { cs := [.dat 13 ty_I], inv := fun (i : Int) => g.1.length = g.2.length ∧ 0 ≤ i ∧ i ≤ g.1.length ∧ g.1.take i.toNat = g.2.take i.toNat, mu := fun (i : Int) => (g.1.length - i).toNat } }
  | _ => none
def sp_sameFaint : Spec := { Ts := [.arr ty_Faint, .arr ty_Faint], Rs := [.dat .bool], pre := fun _ => True, F := fun (x : List Pr × List Pr) => decide (x.1 = x.2) }
def pv_sameFaint : Prop :=
    ∀ (x : List (Int × Int) × List (Int × Int)), ((x.fst.length * ((8 : Nat) + (8 : Nat)) ≤ big ∧ ∀ (x_1 : Int × Int), x_1 ∈ x.fst → InR IntKind.i64 x_1.fst ∧ InR IntKind.i64 x_1.snd) ∧ x.snd.length * ((8 : Nat) + (8 : Nat)) ≤ big ∧ ∀ (x_1 : Int × Int), x_1 ∈ x.snd → InR IntKind.i64 x_1.fst ∧ InR IntKind.i64 x_1.snd) → True → (decide ((↑x.fst.length : Int) ≠ (↑x.snd.length : Int)) = true → false = decide (x.fst = x.snd) ∧ True) ∧ (decide ((↑x.fst.length : Int) ≠ (↑x.snd.length : Int)) = false → (x.fst.length = x.snd.length ∧ (0 : Int) ≤ (0 : Int) ∧ (0 : Int) ≤ (↑x.fst.length : Int) ∧ List.take (Int.toNat (0 : Int)) x.fst = List.take (Int.toNat (0 : Int)) x.snd) ∧ ∀ (x_1 : Int), x.fst.length = x.snd.length ∧ (0 : Int) ≤ x_1 ∧ x_1 ≤ (↑x.fst.length : Int) ∧ List.take x_1.toNat x.fst = List.take x_1.toNat x.snd → (decide (x_1 < (↑x.fst.length : Int)) = true → (0 : Int) ≤ x_1 ∧ x_1 < (↑x.fst.length : Int) ∧ (0 : Int) ≤ x_1 ∧ x_1 < (↑x.snd.length : Int) ∧ ((!(decide ((x.fst.getD x_1.toNat ((0 : Int), (0 : Int))).fst = (x.snd.getD x_1.toNat ((0 : Int), (0 : Int))).fst) && decide ((x.fst.getD x_1.toNat ((0 : Int), (0 : Int))).snd = (x.snd.getD x_1.toNat ((0 : Int), (0 : Int))).snd))) = true → false = decide (x.fst = x.snd) ∧ True) ∧ ((!(decide ((x.fst.getD x_1.toNat ((0 : Int), (0 : Int))).fst = (x.snd.getD x_1.toNat ((0 : Int), (0 : Int))).fst) && decide ((x.fst.getD x_1.toNat ((0 : Int), (0 : Int))).snd = (x.snd.getD x_1.toNat ((0 : Int), (0 : Int))).snd))) = false → InR IntKind.i64 (x_1 + (1 : Int)) ∧ (x.fst.length = x.snd.length ∧ (0 : Int) ≤ x_1 + (1 : Int) ∧ x_1 + (1 : Int) ≤ (↑x.fst.length : Int) ∧ List.take (x_1 + (1 : Int)).toNat x.fst = List.take (x_1 + (1 : Int)).toNat x.snd) ∧ ((↑x.fst.length : Int) - (x_1 + (1 : Int))).toNat < ((↑x.fst.length : Int) - x_1).toNat)) ∧ (decide (x_1 < (↑x.fst.length : Int)) = false → true = decide (x.fst = x.snd) ∧ True))
theorem vcp_sameFaint : pv_sameFaint := by
  unfold pv_sameFaint
  intro ⟨a, b⟩ ⟨⟨hb, _⟩, _⟩ _
  unfold big at hb
  simp only at *
  refine ⟨fun h => ?_, fun h => ?_⟩
  · have h : a.length ≠ b.length := by have := of_decide_eq_true h; omega
    have : a ≠ b := fun e => h (by rw [e])
    simp [this]
  have hl : a.length = b.length := by have := of_decide_eq_false h; omega
  refine ⟨⟨hl, by omega, by omega, by simp⟩, fun i ⟨_, h0, h1, ht⟩ => ⟨fun hlt => ?_, fun hge => ?_⟩⟩
  · have hlt : i < a.length := by simpa using hlt
    have key : ∀ s t : Pr, (!(decide (s.1 = t.1) && decide (s.2 = t.2))) = decide (s ≠ t) := by
      rintro ⟨s1, s2⟩ ⟨t1, t2⟩
      simp only [ne_eq, Prod.mk.injEq]
      by_cases e1 : s1 = t1 <;> by_cases e2 : s2 = t2 <;> simp [e1, e2]
    simp only [key]
    refine ⟨h0, hlt, h0, by omega, fun hne => ?_, fun he => ?_⟩
    · have hne : a.getD i.toNat (0, 0) ≠ b.getD i.toNat (0, 0) := of_decide_eq_true hne
      have : a ≠ b := fun e => hne (by rw [e])
      simp [this]
    · have he : a.getD i.toNat (0, 0) = b.getD i.toNat (0, 0) := Classical.not_not.1 (of_decide_eq_false he)
      refine ⟨by simp only [InR]; omega, ⟨hl, by omega, by omega, ?_⟩, by omega⟩
      rw [show (i + 1).toNat = i.toNat + 1 by omega]
      exact take_step hl (by omega) ht he
  · have hge : ¬ i < a.length := by simpa using hge
    have hi : i.toNat = a.length := by omega
    rw [hi, List.take_of_length_le (Nat.le_refl _), List.take_of_length_le (by omega)] at ht
    simp [ht]
theorem e_sameFaint : pv_sameFaint = fnVC Try.prog (tbl []) an_sameFaint Try.f80 sp_sameFaint := by kernel_rfl
theorem vc_sameFaint : fnVC Try.prog (tbl []) an_sameFaint Try.f80 sp_sameFaint := @Eq.mp _ _ @e_sameFaint @vcp_sameFaint
theorem ok_sameFaint : sp_sameFaint.ok Try.prog 80 := fn_sound (P := Try.prog) (ss := tbl []) (ann := an_sameFaint) (f := 80) (fn := Try.f80) (s := sp_sameFaint) tbl_nil Try.func80 @vc_sameFaint

def sp_cloneFaints : Spec := { Ts := [.arr ty_Faint], Rs := [.own 127 ty_Faint], pre := fun _ => True, F := fun (x : List Pr) => x }
def pv_cloneFaints : Prop :=
    ∀ (x : List (Int × Int)), (x.length * ((8 : Nat) + (8 : Nat)) ≤ big ∧ ∀ (x_1 : Int × Int), x_1 ∈ x → InR IntKind.i64 x_1.fst ∧ InR IntKind.i64 x_1.snd) → True → (x = ([] : List (Int × Int)) → ([] : List (Int × Int)) = x ∧ True) ∧ (True → ((0 : Nat) + x.length) * ((8 : Nat) + (8 : Nat)) ≤ big ∧ ([] : List (Int × Int)) ++ x = x ∧ True)
theorem vcp_cloneFaints : pv_cloneFaints := by
  unfold pv_cloneFaints
  intro x ⟨hb, _⟩ _
  simp [hb]
theorem e_cloneFaints : pv_cloneFaints = fnVC Try.prog (tbl []) an_0 Try.f150 sp_cloneFaints := by kernel_rfl
theorem vc_cloneFaints : fnVC Try.prog (tbl []) an_0 Try.f150 sp_cloneFaints := @Eq.mp _ _ @e_cloneFaints @vcp_cloneFaints
theorem ok_cloneFaints : sp_cloneFaints.ok Try.prog 150 := fn_sound (P := Try.prog) (ss := tbl []) (ann := an_0) (f := 150) (fn := Try.f150) (s := sp_cloneFaints) tbl_nil Try.func150 @vc_cloneFaints

def sp_clearC : Spec := { Ts := [ty_Faint, .ref (.arr ty_I)], Rs := [.dat .bool], pre := fun _ => True, F := fun ((p, l) : Pr × List Int) => !inL l p.1 }
def pv_clearC : Prop :=
    ∀ (x : (Int × Int) × List Int), ((InR IntKind.i64 x.fst.fst ∧ InR IntKind.i64 x.fst.snd) ∧ x.snd.length * (8 : Nat) ≤ big ∧ ∀ (x_1 : Int), x_1 ∈ x.snd → InR IntKind.i64 x_1) → True → True ∧ (!inL x.snd x.fst.fst) = !inL x.snd x.fst.fst ∧ True
theorem vcp_clearC : pv_clearC := by
  unfold pv_clearC
  intro ⟨p, l⟩ _ _
  simp
theorem e_clearC : pv_clearC = fnVC Try.prog (tbl [(132, sp_hasI)]) an_0 Try.f151 sp_clearC := by kernel_rfl
theorem vc_clearC : fnVC Try.prog (tbl [(132, sp_hasI)]) an_0 Try.f151 sp_clearC := @Eq.mp _ _ @e_clearC @vcp_clearC
theorem ok_clearC : sp_clearC.ok Try.prog 151 := fn_sound (P := Try.prog) (ss := tbl [(132, sp_hasI)]) (ann := an_0) (f := 151) (fn := Try.f151) (s := sp_clearC) (tbl_cons ok_hasI tbl_nil) Try.func151 @vc_clearC

def sp_idxFF : Spec := { Ts := [.arr ty_Faint, .fn ty_Faint .bool], Rs := [.dat ty_I], pre := fun ((l, g) : List Pr × (Pr → Prop) × (Pr → Bool)) => ∀ s ∈ l, g.1 s, F := fun ((l, g) : List Pr × (Pr → Prop) × (Pr → Bool)) => findFrom g.2 0 l }
def an_idxFF : Nat → Option LoopGen
  | 2 => some { rd := [.dat 0 (.arr ty_Faint), .dat 1 (.fn ty_Faint .bool)], A := fun ((l, g) : List Pr × (Pr → Prop) × (Pr → Bool)) => { cs := [.dat 8 ty_I], inv := fun (i : Int) => 0 ≤ i ∧ i ≤ l.length ∧ findFrom g.2 i (l.drop i.toNat) = findFrom g.2 0 l, mu := fun (i : Int) => (l.length - i).toNat } }
  | _ => none
def pv_idxFF : Prop :=
    ∀ (x : List (Int × Int) × (Int × Int → Prop) × (Int × Int → Bool)), (x.fst.length * ((8 : Nat) + (8 : Nat)) ≤ big ∧ ∀ (x_1 : Int × Int), x_1 ∈ x.fst → InR IntKind.i64 x_1.fst ∧ InR IntKind.i64 x_1.snd) ∧ True → (∀ (s : Pr), s ∈ x.fst → x.snd.fst s) → ((0 : Int) ≤ (0 : Int) ∧ (0 : Int) ≤ (↑x.fst.length : Int) ∧ findFrom x.snd.snd (0 : Int) (List.drop (Int.toNat (0 : Int)) x.fst) = findFrom x.snd.snd (0 : Int) x.fst) ∧ ∀ (x_1 : Int), (0 : Int) ≤ x_1 ∧ x_1 ≤ (↑x.fst.length : Int) ∧ findFrom x.snd.snd x_1 (List.drop x_1.toNat x.fst) = findFrom x.snd.snd (0 : Int) x.fst → (decide (x_1 < (↑x.fst.length : Int)) = true → (0 : Int) ≤ x_1 ∧ x_1 < (↑x.fst.length : Int) ∧ x.snd.fst (x.fst.getD x_1.toNat ((0 : Int), (0 : Int))) ∧ (x.snd.snd (x.fst.getD x_1.toNat ((0 : Int), (0 : Int))) = true → x_1 = findFrom x.snd.snd (0 : Int) x.fst ∧ True) ∧ (x.snd.snd (x.fst.getD x_1.toNat ((0 : Int), (0 : Int))) = false → InR IntKind.i64 (x_1 + (1 : Int)) ∧ ((0 : Int) ≤ x_1 + (1 : Int) ∧ x_1 + (1 : Int) ≤ (↑x.fst.length : Int) ∧ findFrom x.snd.snd (x_1 + (1 : Int)) (List.drop (x_1 + (1 : Int)).toNat x.fst) = findFrom x.snd.snd (0 : Int) x.fst) ∧ ((↑x.fst.length : Int) - (x_1 + (1 : Int))).toNat < ((↑x.fst.length : Int) - x_1).toNat)) ∧ (decide (x_1 < (↑x.fst.length : Int)) = false → (-1 : Int) = findFrom x.snd.snd (0 : Int) x.fst ∧ True)
theorem vcp_idxFF : pv_idxFF := by
  unfold pv_idxFF
  intro ⟨l, g⟩ ⟨⟨hl, _⟩, _⟩ hp
  unfold big at *
  refine ⟨⟨by omega, by omega, by simp⟩, fun i ⟨h0, h1, h2⟩ => ⟨fun hlt => ?_, fun hge => ?_⟩⟩
  · have hlt : i < (l.length : Int) := by simpa using hlt
    have e := drop_cons ((0, 0) : Pr) h0 hlt
    have hm := hp _ (getD_mem ((0, 0) : Pr) h0 hlt)
    simp only at *
    rw [e] at h2
    simp only [findFrom] at h2
    refine ⟨h0, hlt, hm, fun hc => ?_, fun hc => ?_⟩
    · rw [if_pos hc] at h2
      exact ⟨h2, trivial⟩
    · rw [if_neg (by rw [hc]; simp)] at h2
      exact ⟨by simp only [InR]; omega, ⟨by omega, by omega, h2⟩, by omega⟩
  · have hge : ¬ i < (l.length : Int) := by simpa using hge
    simp only at *
    rw [drop_end hge] at h2
    simp only [findFrom] at h2
    exact ⟨h2, trivial⟩
theorem e_idxFF : pv_idxFF = fnVC Try.prog (tbl []) an_idxFF Try.f200 sp_idxFF := by kernel_rfl
theorem vc_idxFF : fnVC Try.prog (tbl []) an_idxFF Try.f200 sp_idxFF := @Eq.mp _ _ @e_idxFF @vcp_idxFF
theorem ok_idxFF : sp_idxFF.ok Try.prog 200 := fn_sound (P := Try.prog) (ss := tbl []) (ann := an_idxFF) (f := 200) (fn := Try.f200) (s := sp_idxFF) tbl_nil Try.func200 @vc_idxFF

def keepFault (a f : List Int) (ps : List Pr) : Int := faintFault a f ps.length (if ps.length ≤ 32 then besideL ps else [])
def keepF (a f : List Int) (ps : List Pr) : List Int × Int := if keepFault a f ps ≠ 0 then ([], keepFault a f ps) else (keptL a f ps, 0)
def an_keep : Nat → Option LoopGen
  | 1000003 => some { rd := [.dat 2 (.arr ty_Faint)], A := fun (ps : List Pr) => { cs := [.own 8 3 ty_I], inv := fun (b : List Int) => b = if ps.length ≤ 32 then besideL ps else [], mu := fun _ => 0 } }
  | 4 => some { rd := [.dat 19 (.arr ty_Faint)], A := fun (ps : List Pr) => { cs := [.own 8 3 ty_I, .dat 21 ty_I], inv := fun ((b, i) : List Int × Int) => 0 ≤ i ∧ i ≤ ps.length ∧ b = besideL (ps.take i.toNat), mu := fun ((_, i) : List Int × Int) => (ps.length - i).toNat } }
  | 12 => some { rd := [.dat 0 (.arr ty_W), .dat 1 (.arr ty_I), .dat 2 (.arr ty_Faint)], A := fun ((a, f, ps) : List Int × List Int × List Pr) => { cs := [.own 11 3 ty_I, .dat 13 .bool], inv := fun ((l, ag) : List Int × Bool) => (∃ k, l = kepN a ps k (reachL a f)) ∧ (ag = false → passK a ps l = l), mu := fun ((l, ag) : List Int × Bool) => if ag = true then ps.length + 1 - doneK ps l else 0 } }
  | 15 => some { rd := [.dat 0 (.arr ty_W), .dat 46 (.arr ty_Faint), .own 11 3 ty_I], A := fun ((a, ps, l0) : List Int × List Pr × List Int) => { cs := [.own 11 3 ty_I, .dat 13 .bool, .dat 48 ty_I], inv := fun ((l, ag, j) : List Int × Bool × Int) => 0 ≤ j ∧ j ≤ ps.length ∧ l = passK a (ps.take j.toNat) l0 ∧ (ag = false → l = l0) ∧ (ag = true → doneK ps l0 < doneK ps l), mu := fun ((_, _, j) : List Int × Bool × Int) => (ps.length - j).toNat } }
  | _ => none
def sp_keep : Spec := { Ts := [.arr ty_W, .arr ty_I, .arr ty_Faint], Rs := [.own 3 ty_I, .dat ty_I], pre := fun _ => True, F := fun ((a, f, ps) : List Int × List Int × List Pr) => keepF a f ps }
def pv_keep : Prop :=
    ∀ (x : List Int × List Int × List (Int × Int)), ((x.fst.length * (8 : Nat) ≤ big ∧ ∀ (x_1 : Int), x_1 ∈ x.fst → InR IntKind.u64 x_1) ∧ (x.snd.fst.length * (8 : Nat) ≤ big ∧ ∀ (x_1 : Int), x_1 ∈ x.snd.fst → InR IntKind.i64 x_1) ∧ x.snd.snd.length * ((8 : Nat) + (8 : Nat)) ≤ big ∧ ∀ (x_1 : Int × Int), x_1 ∈ x.snd.snd → InR IntKind.i64 x_1.fst ∧ InR IntKind.i64 x_1.snd) → True → ((decide ((↑x.snd.snd.length : Int) ≤ (32 : Int)) = true → ((0 : Int) ≤ (0 : Int) ∧ (0 : Int) ≤ (↑x.snd.snd.length : Int) ∧ ([] : List Int) = besideL (List.take (Int.toNat (0 : Int)) x.snd.snd)) ∧ ∀ (x_1 : List Int × Int), (0 : Int) ≤ x_1.snd ∧ x_1.snd ≤ (↑x.snd.snd.length : Int) ∧ x_1.fst = besideL (List.take x_1.snd.toNat x.snd.snd) → (decide (x_1.snd < (↑x.snd.snd.length : Int)) = true → (0 : Int) ≤ x_1.snd ∧ x_1.snd < (↑x.snd.snd.length : Int) ∧ (x_1.fst.length + [(x.snd.snd.getD x_1.snd.toNat ((0 : Int), (0 : Int))).fst, (x.snd.snd.getD x_1.snd.toNat ((0 : Int), (0 : Int))).snd].length) * (8 : Nat) ≤ big ∧ InR IntKind.i64 (x_1.snd + (1 : Int)) ∧ ((0 : Int) ≤ x_1.snd + (1 : Int) ∧ x_1.snd + (1 : Int) ≤ (↑x.snd.snd.length : Int) ∧ x_1.fst ++ [(x.snd.snd.getD x_1.snd.toNat ((0 : Int), (0 : Int))).fst, (x.snd.snd.getD x_1.snd.toNat ((0 : Int), (0 : Int))).snd] = besideL (List.take (x_1.snd + (1 : Int)).toNat x.snd.snd)) ∧ ((↑x.snd.snd.length : Int) - (x_1.snd + (1 : Int))).toNat < ((↑x.snd.snd.length : Int) - x_1.snd).toNat) ∧ (decide (x_1.snd < (↑x.snd.snd.length : Int)) = false → x_1.fst = if x.snd.snd.length ≤ (32 : Nat) then besideL x.snd.snd else ([] : List Int))) ∧ (decide ((↑x.snd.snd.length : Int) ≤ (32 : Int)) = false → ([] : List Int) = if x.snd.snd.length ≤ (32 : Nat) then besideL x.snd.snd else ([] : List Int))) ∧ ∀ (x_1 : List Int), (x_1 = if x.snd.snd.length ≤ (32 : Nat) then besideL x.snd.snd else ([] : List Int)) → True ∧ (decide ((faintCheckF x.fst x.snd.fst (↑x.snd.snd.length : Int) x_1).snd ≠ (0 : Int)) = true → ([] : List Int) = (keepF x.fst x.snd.fst x.snd.snd).fst ∧ (faintCheckF x.fst x.snd.fst (↑x.snd.snd.length : Int) x_1).snd = (keepF x.fst x.snd.fst x.snd.snd).snd ∧ True) ∧ (decide ((faintCheckF x.fst x.snd.fst (↑x.snd.snd.length : Int) x_1).snd ≠ (0 : Int)) = false → ((∃ (k : Nat), (faintCheckF x.fst x.snd.fst (↑x.snd.snd.length : Int) x_1).fst = kepN x.fst x.snd.snd k (reachL x.fst x.snd.fst)) ∧ (true = false → passK x.fst x.snd.snd (faintCheckF x.fst x.snd.fst (↑x.snd.snd.length : Int) x_1).fst = (faintCheckF x.fst x.snd.fst (↑x.snd.snd.length : Int) x_1).fst)) ∧ ∀ (x_2 : List Int × Bool), (∃ (k : Nat), x_2.fst = kepN x.fst x.snd.snd k (reachL x.fst x.snd.fst)) ∧ (x_2.snd = false → passK x.fst x.snd.snd x_2.fst = x_2.fst) → (x_2.snd = true → ((0 : Int) ≤ (0 : Int) ∧ (0 : Int) ≤ (↑x.snd.snd.length : Int) ∧ x_2.fst = passK x.fst (List.take (Int.toNat (0 : Int)) x.snd.snd) x_2.fst ∧ (false = false → x_2.fst = x_2.fst) ∧ (false = true → doneK x.snd.snd x_2.fst < doneK x.snd.snd x_2.fst)) ∧ ∀ (x_3 : List Int × Bool × Int), (0 : Int) ≤ x_3.snd.snd ∧ x_3.snd.snd ≤ (↑x.snd.snd.length : Int) ∧ x_3.fst = passK x.fst (List.take x_3.snd.snd.toNat x.snd.snd) x_2.fst ∧ (x_3.snd.fst = false → x_3.fst = x_2.fst) ∧ (x_3.snd.fst = true → doneK x.snd.snd x_2.fst < doneK x.snd.snd x_3.fst) → (decide (x_3.snd.snd < (↑x.snd.snd.length : Int)) = true → (0 : Int) ≤ x_3.snd.snd ∧ x_3.snd.snd < (↑x.snd.snd.length : Int) ∧ True ∧ (inL x_3.fst (x.snd.snd.getD x_3.snd.snd.toNat ((0 : Int), (0 : Int))).fst = true → True) ∧ ((inL x_3.fst (x.snd.snd.getD x_3.snd.snd.toNat ((0 : Int), (0 : Int))).fst && !inL x_3.fst (x.snd.snd.getD x_3.snd.snd.toNat ((0 : Int), (0 : Int))).snd) = true → (x_3.fst.length + [(x.snd.snd.getD x_3.snd.snd.toNat ((0 : Int), (0 : Int))).snd].length) * (8 : Nat) ≤ big ∧ True ∧ InR IntKind.i64 (x_3.snd.snd + (1 : Int)) ∧ ((0 : Int) ≤ x_3.snd.snd + (1 : Int) ∧ x_3.snd.snd + (1 : Int) ≤ (↑x.snd.snd.length : Int) ∧ (reachF x.fst (x_3.fst ++ [(x.snd.snd.getD x_3.snd.snd.toNat ((0 : Int), (0 : Int))).snd])).fst = passK x.fst (List.take (x_3.snd.snd + (1 : Int)).toNat x.snd.snd) x_2.fst ∧ (true = false → (reachF x.fst (x_3.fst ++ [(x.snd.snd.getD x_3.snd.snd.toNat ((0 : Int), (0 : Int))).snd])).fst = x_2.fst) ∧ (true = true → doneK x.snd.snd x_2.fst < doneK x.snd.snd (reachF x.fst (x_3.fst ++ [(x.snd.snd.getD x_3.snd.snd.toNat ((0 : Int), (0 : Int))).snd])).fst)) ∧ ((↑x.snd.snd.length : Int) - (x_3.snd.snd + (1 : Int))).toNat < ((↑x.snd.snd.length : Int) - x_3.snd.snd).toNat) ∧ ((inL x_3.fst (x.snd.snd.getD x_3.snd.snd.toNat ((0 : Int), (0 : Int))).fst && !inL x_3.fst (x.snd.snd.getD x_3.snd.snd.toNat ((0 : Int), (0 : Int))).snd) = false → InR IntKind.i64 (x_3.snd.snd + (1 : Int)) ∧ ((0 : Int) ≤ x_3.snd.snd + (1 : Int) ∧ x_3.snd.snd + (1 : Int) ≤ (↑x.snd.snd.length : Int) ∧ x_3.fst = passK x.fst (List.take (x_3.snd.snd + (1 : Int)).toNat x.snd.snd) x_2.fst ∧ (x_3.snd.fst = false → x_3.fst = x_2.fst) ∧ (x_3.snd.fst = true → doneK x.snd.snd x_2.fst < doneK x.snd.snd x_3.fst)) ∧ ((↑x.snd.snd.length : Int) - (x_3.snd.snd + (1 : Int))).toNat < ((↑x.snd.snd.length : Int) - x_3.snd.snd).toNat)) ∧ (decide (x_3.snd.snd < (↑x.snd.snd.length : Int)) = false → ((∃ (k : Nat), x_3.fst = kepN x.fst x.snd.snd k (reachL x.fst x.snd.fst)) ∧ (x_3.snd.fst = false → passK x.fst x.snd.snd x_3.fst = x_3.fst)) ∧ (if x_3.snd.fst = true then x.snd.snd.length + (1 : Nat) - doneK x.snd.snd x_3.fst else (0 : Nat)) < if x_2.snd = true then x.snd.snd.length + (1 : Nat) - doneK x.snd.snd x_2.fst else (0 : Nat))) ∧ (x_2.snd = false → x_2.fst = (keepF x.fst x.snd.fst x.snd.snd).fst ∧ (0 : Int) = (keepF x.fst x.snd.fst x.snd.snd).snd ∧ True))
theorem vcp_keep : pv_keep := by
  unfold pv_keep
  intro ⟨a, f, ps⟩ ⟨⟨hb, hw⟩, ⟨hbf, hf⟩, hbp, hp⟩ _
  unfold big at hb hbf hbp
  simp only at hb hw hbf hf hbp hp ⊢
  refine ⟨⟨fun h => ⟨⟨by omega, by omega, rfl⟩, fun ⟨b, i⟩ ⟨i0, i1, hi⟩ => ⟨fun hlt => ?_, fun hge => ?_⟩⟩, fun h => ?_⟩, fun b hbe => ?_⟩
  · simp only at i0 i1 hi hlt ⊢
    have hlt := of_decide_eq_true hlt
    have h := of_decide_eq_true h
    have ht := take_snoc ((0, 0) : Pr) i0 hlt
    rw [hi]
    have hbl := beside_length (List.take i.toNat ps)
    have hbt : (List.take i.toNat ps).length ≤ ps.length := by simp; omega
    refine ⟨i0, hlt, by simp only [List.length_cons, List.length_nil]; unfold big; omega, by simp only [InR]; omega, ⟨by omega, by omega, ?_⟩, by omega⟩
    rw [ht, beside_snoc]
  · simp only at i0 i1 hi hge ⊢
    have hge := of_decide_eq_false hge
    have h := of_decide_eq_true h
    rw [hi, if_pos (by omega), List.take_of_length_le (by omega)]
  · have h := of_decide_eq_false h
    rw [if_neg (by omega)]
  have hcf : faintCheckF a f ps.length b = if keepFault a f ps ≠ 0 then ([], keepFault a f ps) else (reachL a f, 0) := by
    unfold faintCheckF keepFault
    rw [hbe]
  have hkf : keepF a f ps = if keepFault a f ps ≠ 0 then ([], keepFault a f ps) else (keptL a f ps, 0) := rfl
  rw [hcf, hkf]
  by_cases he : keepFault a f ps ≠ 0
  · rw [if_pos he, if_pos he]
    exact ⟨trivial, fun _ => ⟨rfl, rfl, trivial⟩, fun h => absurd he (of_decide_eq_false h)⟩
  rw [if_neg he, if_neg he]
  simp only
  have he : keepFault a f ps = 0 := by omega
  obtain ⟨hff, h32, hfb⟩ : fromFault a f = 0 ∧ ps.length ≤ 32 ∧ fromFault a (besideL ps) = 0 := by
    unfold keepFault faintFault at he
    split at he
    · rename_i h; exact absurd he h
    · split at he
      · omega
      · rename_i h1 h2
        rw [if_pos (by omega)] at he
        exact ⟨by omega, by omega, he⟩
  obtain ⟨hc, hfB⟩ := fromFault_ok hff
  obtain ⟨_, hbB⟩ := fromFault_ok hfb
  have hv : ∀ p ∈ ps, isB (spotsF a).1 p.2 = true := fun p hp => hbB _ (beside_mem hp).2
  have hclo : Clo a (reachL a f) := ⟨f, hfB, rfl⟩
  refine ⟨trivial, fun h => absurd rfl (of_decide_eq_true h), fun _ => ⟨⟨⟨0, rfl⟩, fun h => by cases h⟩, fun ⟨l0, ag0⟩ ⟨⟨k, hk⟩, q2⟩ => ⟨fun hag => ?_, fun hag => ?_⟩⟩⟩
  · simp only at hk q2 hag ⊢
    subst hag
    have hcl0 : Clo a l0 := by rw [hk]; exact kep_clo hw hc hv hclo k
    refine ⟨⟨by omega, by omega, rfl, fun _ => trivial, fun h => by cases h⟩, fun ⟨l, ag, j⟩ ⟨j0, j1, r1, r2, r3⟩ => ⟨fun hlt => ?_, fun hge => ?_⟩⟩
    · simp only at j0 j1 r1 r2 r3 hlt ⊢
      have hlt := of_decide_eq_true hlt
      have ht := take_snoc ((0, 0) : Pr) j0 hlt
      have hm := getD_mem ((0, 0) : Pr) j0 hlt
      rw [ht]
      generalize ps.getD j.toNat (0, 0) = p at *
      rw [pass_snoc, ← r1]
      obtain ⟨hcl, _, _⟩ := pass_clo hw hc (ps := ps) (List.take j.toNat ps) l0 (fun q hq => List.mem_of_mem_take hq) (fun q hq => hv q (List.mem_of_mem_take hq)) hcl0
      rw [← r1] at hcl
      have hd0 : doneK ps l0 ≤ doneK ps l := by
        cases ag
        · rw [r2 rfl]; exact Nat.le_refl _
        · exact Nat.le_of_lt (r3 rfl)
      have hl : l.length ≤ 256 := by
        obtain ⟨g, _, e⟩ := hcl
        rw [e]; exact reach_length _ _
      have hpv := hv p hm
      have hsub := hcl.sub hw hc hpv
      refine ⟨j0, hlt, trivial, fun _ => trivial, fun hin => ?_, fun hin => ?_⟩
      · simp only [Bool.and_eq_true, Bool.not_eq_true'] at hin
        obtain ⟨h1, h2⟩ := hin
        have h2 : ¬ p.2 ∈ l := fun h => by rw [inL_iff.2 h] at h2; cases h2
        have hR : reachF a (l ++ [p.2]) = (reachL a (l ++ [p.2]), 0) := by
          unfold reachF
          rw [if_neg (fun h => h (fromFault_of hc (hcl.ok hw hc hpv)))]
        have hS : stepK a l p = reachL a (l ++ [p.2]) := by unfold stepK; rw [if_pos h1]
        rw [hR, hS]
        have hdl := done_lt (ps := ps) hsub.1 hm (inL_iff.1 h1) h2 hsub.2
        refine ⟨by simp only [List.length_cons, List.length_nil]; unfold big; omega, trivial, by simp only [InR]; omega, ⟨by omega, by omega, rfl, fun h => (by cases h), fun _ => (by simp only; omega)⟩, by omega⟩
      · have hS : stepK a l p = l := by
          unfold stepK
          split
          · rename_i h1
            rw [h1, Bool.true_and] at hin
            exact hcl.same hw hc (inT hin)
          · rfl
        rw [hS]
        exact ⟨by simp only [InR]; omega, ⟨by omega, by omega, rfl, r2, r3⟩, by omega⟩
    · simp only at j0 j1 r1 r2 r3 hge ⊢
      have hge := of_decide_eq_false hge
      rw [List.take_of_length_le (by omega)] at r1
      have hdm := done_max ps l
      have hdm0 := done_max ps l0
      refine ⟨⟨⟨k + 1, by rw [r1, hk]; rfl⟩, fun h => ?_⟩, ?_⟩
      · have e := r2 h
        rw [e] at r1
        rw [e, ← r1]
      · cases ag
        · simp; omega
        · have := r3 rfl
          simp; omega
  · simp only at hk q2 hag ⊢
    have h3 := q2 hag
    rw [hk] at h3
    have := kep_all hw hc hv hclo h3
    refine ⟨?_, by first | trivial | rfl, trivial⟩
    rw [hk, this]
    rfl
theorem e_keep : pv_keep = fnVC Try.prog (tbl [(153, sp_faintCheck), (132, sp_hasI), (90, sp_reach)]) an_keep Try.f148 sp_keep := by kernel_rfl
theorem vc_keep : fnVC Try.prog (tbl [(153, sp_faintCheck), (132, sp_hasI), (90, sp_reach)]) an_keep Try.f148 sp_keep := @Eq.mp _ _ @e_keep @vcp_keep
theorem ok_keep : sp_keep.ok Try.prog 148 := fn_sound (P := Try.prog) (ss := tbl [(153, sp_faintCheck), (132, sp_hasI), (90, sp_reach)]) (ann := an_keep) (f := 148) (fn := Try.f148) (s := sp_keep) (tbl_cons ok_faintCheck (tbl_cons ok_hasI (tbl_cons ok_reach tbl_nil))) Try.func148 @vc_keep

def sp_Keep : Spec := { Ts := [.arr ty_W, .arr ty_I, .arr ty_Faint], Rs := [.own 3 ty_I, .dat ty_I], pre := fun _ => True, F := fun ((a, f, ps) : List Int × List Int × List Pr) => keepF a f ps }
def pv_Keep : Prop :=
    ∀ (x : List Int × List Int × List (Int × Int)), ((x.fst.length * (8 : Nat) ≤ big ∧ ∀ (x_1 : Int), x_1 ∈ x.fst → InR IntKind.u64 x_1) ∧ (x.snd.fst.length * (8 : Nat) ≤ big ∧ ∀ (x_1 : Int), x_1 ∈ x.snd.fst → InR IntKind.i64 x_1) ∧ x.snd.snd.length * ((8 : Nat) + (8 : Nat)) ≤ big ∧ ∀ (x_1 : Int × Int), x_1 ∈ x.snd.snd → InR IntKind.i64 x_1.fst ∧ InR IntKind.i64 x_1.snd) → True → True ∧ (keepF x.fst x.snd.fst x.snd.snd).fst = (keepF x.fst x.snd.fst x.snd.snd).fst ∧ (keepF x.fst x.snd.fst x.snd.snd).snd = (keepF x.fst x.snd.fst x.snd.snd).snd ∧ True
theorem vcp_Keep : pv_Keep := by
  unfold pv_Keep
  intro _ _ _
  exact ⟨trivial, rfl, rfl, trivial⟩
theorem e_Keep : pv_Keep = fnVC Try.prog (tbl [(148, sp_keep)]) an_0 Try.f76 sp_Keep := by kernel_rfl
theorem vc_Keep : fnVC Try.prog (tbl [(148, sp_keep)]) an_0 Try.f76 sp_Keep := @Eq.mp _ _ @e_Keep @vcp_Keep
theorem ok_Keep : sp_Keep.ok Try.prog 76 := fn_sound (P := Try.prog) (ss := tbl [(148, sp_keep)]) (ann := an_0) (f := 76) (fn := Try.f76) (s := sp_Keep) (tbl_cons ok_keep tbl_nil) Try.func76 @vc_Keep

def clearF (a f : List Int) (ps : List Pr) : List Pr × Int := if keepFault a f ps ≠ 0 then ([], keepFault a f ps) else (ps.filter fun p => inL (keptL a f ps) p.1, 0)
def an_Clear : Nat → Option LoopGen
  | 3000149 => some an_in
  | 15000000005 => some { rd := [.own 0 127 ty_Faint, .boxS 8900000 [.own 3 ty_I]], wr := [0], A := fun ((xs, live) : List Pr × List Int) => { cs := [.own 0 127 ty_Faint, .dat 5 ty_I, .dat 6 ty_I], inv := fun ((row, i, j) : List Pr × Int × Int) => 0 ≤ i ∧ i < j ∧ j ≤ xs.length ∧ row.length = xs.length ∧ row.take i.toNat = (xs.take j.toNat).filter (fun p => !(!inL live p.1)) ∧ row.drop j.toNat = xs.drop j.toNat, mu := fun ((_, _, j) : List Pr × Int × Int) => (xs.length - j).toNat } }
  | _ => none
def sp_Clear : Spec := { Ts := [.arr ty_W, .arr ty_I, .arr ty_Faint], Rs := [.dat (.arr ty_Faint), .dat ty_I], al := true, pre := fun _ => True, F := fun ((a, f, ps) : List Int × List Int × List Pr) => clearF a f ps }
def pv_Clear : Prop :=
    ∀ (x : List Int × List Int × List (Int × Int)), ((x.fst.length * (8 : Nat) ≤ big ∧ ∀ (x_1 : Int), x_1 ∈ x.fst → InR IntKind.u64 x_1) ∧ (x.snd.fst.length * (8 : Nat) ≤ big ∧ ∀ (x_1 : Int), x_1 ∈ x.snd.fst → InR IntKind.i64 x_1) ∧ x.snd.snd.length * ((8 : Nat) + (8 : Nat)) ≤ big ∧ ∀ (x_1 : Int × Int), x_1 ∈ x.snd.snd → InR IntKind.i64 x_1.fst ∧ InR IntKind.i64 x_1.snd) → True → True ∧ (decide ((keepF x.fst x.snd.fst x.snd.snd).snd ≠ (0 : Int)) = true → ([] : List (Int × Int)) = (clearF x.fst x.snd.fst x.snd.snd).fst ∧ (keepF x.fst x.snd.fst x.snd.snd).snd = (clearF x.fst x.snd.fst x.snd.snd).snd ∧ True) ∧ (decide ((keepF x.fst x.snd.fst x.snd.snd).snd ≠ (0 : Int)) = false → True ∧ ∀ (tm : Array Value), (∀ (s : Pr), s ∈ x.snd.snd → (fun (x : Int × Int) => True, fun (x_1 : Int × Int) => !inL (keepF x.fst x.snd.fst x.snd.snd).fst x_1.fst).fst s) ∧ (decide (findFrom (fun (x_1 : Int × Int) => !inL (keepF x.fst x.snd.fst x.snd.snd).fst x_1.fst) (0 : Int) x.snd.snd = (-1 : Int)) = true → x.snd.snd = (clearF x.fst x.snd.fst x.snd.snd).fst ∧ (0 : Int) = (clearF x.fst x.snd.fst x.snd.snd).snd ∧ True) ∧ (decide (findFrom (fun (x_1 : Int × Int) => !inL (keepF x.fst x.snd.fst x.snd.snd).fst x_1.fst) (0 : Int) x.snd.snd = (-1 : Int)) = false → InR IntKind.i64 (findFrom (fun (x_1 : Int × Int) => !inL (keepF x.fst x.snd.fst x.snd.snd).fst x_1.fst) (0 : Int) x.snd.snd + (1 : Int)) ∧ ((0 : Int) ≤ findFrom (fun (x_1 : Int × Int) => !inL (keepF x.fst x.snd.fst x.snd.snd).fst x_1.fst) (0 : Int) x.snd.snd ∧ findFrom (fun (x_1 : Int × Int) => !inL (keepF x.fst x.snd.fst x.snd.snd).fst x_1.fst) (0 : Int) x.snd.snd < findFrom (fun (x_1 : Int × Int) => !inL (keepF x.fst x.snd.fst x.snd.snd).fst x_1.fst) (0 : Int) x.snd.snd + (1 : Int) ∧ findFrom (fun (x_1 : Int × Int) => !inL (keepF x.fst x.snd.fst x.snd.snd).fst x_1.fst) (0 : Int) x.snd.snd + (1 : Int) ≤ (↑x.snd.snd.length : Int) ∧ x.snd.snd.length = x.snd.snd.length ∧ List.take (findFrom (fun (x_1 : Int × Int) => !inL (keepF x.fst x.snd.fst x.snd.snd).fst x_1.fst) (0 : Int) x.snd.snd).toNat x.snd.snd = List.filter (fun (p : Pr) => !!inL (keepF x.fst x.snd.fst x.snd.snd).fst p.fst) (List.take (findFrom (fun (x_1 : Int × Int) => !inL (keepF x.fst x.snd.fst x.snd.snd).fst x_1.fst) (0 : Int) x.snd.snd + (1 : Int)).toNat x.snd.snd) ∧ List.drop (findFrom (fun (x_1 : Int × Int) => !inL (keepF x.fst x.snd.fst x.snd.snd).fst x_1.fst) (0 : Int) x.snd.snd + (1 : Int)).toNat x.snd.snd = List.drop (findFrom (fun (x_1 : Int × Int) => !inL (keepF x.fst x.snd.fst x.snd.snd).fst x_1.fst) (0 : Int) x.snd.snd + (1 : Int)).toNat x.snd.snd) ∧ ∀ (x_1 : List (Int × Int) × Int × Int), (0 : Int) ≤ x_1.snd.fst ∧ x_1.snd.fst < x_1.snd.snd ∧ x_1.snd.snd ≤ (↑x.snd.snd.length : Int) ∧ x_1.fst.length = x.snd.snd.length ∧ List.take x_1.snd.fst.toNat x_1.fst = List.filter (fun (p : Pr) => !!inL (keepF x.fst x.snd.fst x.snd.snd).fst p.fst) (List.take x_1.snd.snd.toNat x.snd.snd) ∧ List.drop x_1.snd.snd.toNat x_1.fst = List.drop x_1.snd.snd.toNat x.snd.snd → (decide (x_1.snd.snd < (↑x_1.fst.length : Int)) = true → (0 : Int) ≤ x_1.snd.snd ∧ x_1.snd.snd < (↑x_1.fst.length : Int) ∧ x_1.snd.snd.toNat < x_1.fst.length ∧ True ∧ ((!!inL (keepF x.fst x.snd.fst x.snd.snd).fst (x_1.fst.getD x_1.snd.snd.toNat ((0 : Int), (0 : Int))).fst) = true → (0 : Int) ≤ x_1.snd.fst ∧ x_1.snd.fst < (↑x_1.fst.length : Int) ∧ x_1.snd.fst.toNat < x_1.fst.length ∧ InR IntKind.i64 (x_1.snd.fst + (1 : Int)) ∧ InR IntKind.i64 (x_1.snd.snd + (1 : Int)) ∧ ((0 : Int) ≤ x_1.snd.fst + (1 : Int) ∧ x_1.snd.fst + (1 : Int) < x_1.snd.snd + (1 : Int) ∧ x_1.snd.snd + (1 : Int) ≤ (↑x.snd.snd.length : Int) ∧ (x_1.fst.set x_1.snd.fst.toNat (x_1.fst.getD x_1.snd.snd.toNat ((0 : Int), (0 : Int)))).length = x.snd.snd.length ∧ List.take (x_1.snd.fst + (1 : Int)).toNat (x_1.fst.set x_1.snd.fst.toNat (x_1.fst.getD x_1.snd.snd.toNat ((0 : Int), (0 : Int)))) = List.filter (fun (p : Pr) => !!inL (keepF x.fst x.snd.fst x.snd.snd).fst p.fst) (List.take (x_1.snd.snd + (1 : Int)).toNat x.snd.snd) ∧ List.drop (x_1.snd.snd + (1 : Int)).toNat (x_1.fst.set x_1.snd.fst.toNat (x_1.fst.getD x_1.snd.snd.toNat ((0 : Int), (0 : Int)))) = List.drop (x_1.snd.snd + (1 : Int)).toNat x.snd.snd) ∧ ((↑x.snd.snd.length : Int) - (x_1.snd.snd + (1 : Int))).toNat < ((↑x.snd.snd.length : Int) - x_1.snd.snd).toNat) ∧ ((!!inL (keepF x.fst x.snd.fst x.snd.snd).fst (x_1.fst.getD x_1.snd.snd.toNat ((0 : Int), (0 : Int))).fst) = false → InR IntKind.i64 (x_1.snd.snd + (1 : Int)) ∧ ((0 : Int) ≤ x_1.snd.fst ∧ x_1.snd.fst < x_1.snd.snd + (1 : Int) ∧ x_1.snd.snd + (1 : Int) ≤ (↑x.snd.snd.length : Int) ∧ x_1.fst.length = x.snd.snd.length ∧ List.take x_1.snd.fst.toNat x_1.fst = List.filter (fun (p : Pr) => !!inL (keepF x.fst x.snd.fst x.snd.snd).fst p.fst) (List.take (x_1.snd.snd + (1 : Int)).toNat x.snd.snd) ∧ List.drop (x_1.snd.snd + (1 : Int)).toNat x_1.fst = List.drop (x_1.snd.snd + (1 : Int)).toNat x.snd.snd) ∧ ((↑x.snd.snd.length : Int) - (x_1.snd.snd + (1 : Int))).toNat < ((↑x.snd.snd.length : Int) - x_1.snd.snd).toNat)) ∧ (decide (x_1.snd.snd < (↑x_1.fst.length : Int)) = false → (0 : Int) ≤ x_1.snd.fst ∧ x_1.snd.fst ≤ (↑x_1.fst.length : Int) ∧ x_1.snd.fst.toNat + (x_1.fst.length - x_1.snd.fst.toNat) ≤ x_1.fst.length ∧ (0 : Int) ≤ x_1.snd.fst ∧ x_1.snd.fst ≤ (↑(List.take x_1.snd.fst.toNat x_1.fst ++ (List.replicate (x_1.fst.length - x_1.snd.fst.toNat) ((0 : Int), (0 : Int)) ++ List.drop (x_1.snd.fst.toNat + (x_1.fst.length - x_1.snd.fst.toNat)) x_1.fst)).length : Int) ∧ List.take x_1.snd.fst.toNat (List.take x_1.snd.fst.toNat x_1.fst ++ (List.replicate (x_1.fst.length - x_1.snd.fst.toNat) ((0 : Int), (0 : Int)) ++ List.drop (x_1.snd.fst.toNat + (x_1.fst.length - x_1.snd.fst.toNat)) x_1.fst)) = (clearF x.fst x.snd.fst x.snd.snd).fst ∧ (0 : Int) = (clearF x.fst x.snd.fst x.snd.snd).snd ∧ True)))
theorem vcp_Clear : pv_Clear := by
  unfold pv_Clear
  intro ⟨a, f, q⟩ ⟨⟨hb, hw⟩, ⟨hbf, hf⟩, hbq, hq⟩ _
  unfold big at hb hbf hbq
  simp only at hb hw hbf hf hbq hq ⊢
  have e1 : keepF a f q = if keepFault a f q ≠ 0 then ([], keepFault a f q) else (keptL a f q, 0) := rfl
  have e2 : clearF a f q = if keepFault a f q ≠ 0 then ([], keepFault a f q) else (q.filter fun p => inL (keptL a f q) p.1, 0) := rfl
  rw [e1, e2]
  by_cases he : keepFault a f q ≠ 0
  · rw [if_pos he, if_pos he]
    exact ⟨trivial, fun _ => ⟨rfl, rfl, trivial⟩, fun h => absurd he (of_decide_eq_false h)⟩
  rw [if_neg he, if_neg he]
  generalize keptL a f q = live
  have hd : (q.filter fun p => inL live p.1) = q.filter fun p => !(!inL live p.1) := by simp only [Bool.not_not]
  have htl : (q.filter fun p => inL live p.1).length ≤ q.length := List.length_filter_le _ _
  simp only
  refine ⟨trivial, fun h => absurd rfl (of_decide_eq_true h), fun _ => ⟨trivial, fun _ => ⟨fun _ _ => trivial, fun h2 => ?_, fun h2 => ?_⟩⟩⟩
  · have h2 := of_decide_eq_true h2
    rcases findFrom_filter (fun p : Pr => !inL live p.1) q 0 (by omega) with ⟨_, h3⟩ | ⟨j, h3, _⟩
    · exact ⟨by rw [hd]; exact h3.symm, by first | trivial | rfl, trivial⟩
    · exact absurd (h3.symm.trans h2) (by omega)
  have h2 := of_decide_eq_false h2
  rcases findFrom_filter (fun p : Pr => !inL live p.1) q 0 (by omega) with ⟨h3, _⟩ | ⟨j, h3, h4, h5⟩
  · exact absurd h3 h2
  rw [h3]
  refine ⟨by simp only [InR]; omega, ⟨by omega, by omega, by omega, trivial, ?_, trivial⟩, fun ⟨row, i, j⟩ ⟨k0, k1, k2, k3, k4, k5⟩ => ⟨fun hlt => ?_, fun hge => ?_⟩⟩
  · rw [show (0 + (j : Int) + 1).toNat = j + 1 by omega, show (0 + (j : Int)).toNat = j by omega]
    exact h5.symm
  · simp only at k0 k1 k2 k3 k4 k5 hlt ⊢
    have hlt := of_decide_eq_true hlt
    have hs := del_step ((0, 0) : Pr) (p := fun p => !(!inL live p.1)) (xs := q) (row := row) (i := i.toNat) (j := j.toNat) (by omega) (by omega) k3 k4 k5
    refine ⟨by omega, by omega, by omega, trivial, fun hp => ?_, fun hp => ?_⟩
    · obtain ⟨q1, q2⟩ := hs.1 hp
      refine ⟨by omega, by omega, by omega, by simp only [InR]; omega, by simp only [InR]; omega, ⟨by omega, by omega, by omega, by simpa using k3, ?_, ?_⟩, by omega⟩
      · rw [show (i + 1).toNat = i.toNat + 1 by omega, show (j + 1).toNat = j.toNat + 1 by omega]
        exact q1
      · rw [show (j + 1).toNat = j.toNat + 1 by omega]
        exact q2
    · obtain ⟨q1, q2⟩ := hs.2 hp
      refine ⟨by simp only [InR]; omega, ⟨by omega, by omega, by omega, k3, ?_, ?_⟩, by omega⟩
      · rw [show (j + 1).toNat = j.toNat + 1 by omega]
        exact q1
      · rw [show (j + 1).toNat = j.toNat + 1 by omega]
        exact q2
  · simp only at k0 k1 k2 k3 k4 k5 hge ⊢
    have hge := of_decide_eq_false hge
    have hj : j.toNat = q.length := by omega
    have e1 : List.take i.toNat (List.take i.toNat row ++ (List.replicate (row.length - i.toNat) (0, 0) ++ List.drop (i.toNat + (row.length - i.toNat)) row)) = List.take i.toNat row := by
      rw [List.take_append_of_le_length (by simp; omega), List.take_take, Nat.min_self]
    have e3 : List.take i.toNat row = q.filter fun p => inL live p.1 := by rw [k4, hj, List.take_of_length_le (Nat.le_refl _), hd]
    have hl3 : (q.filter fun p => inL live p.1).length = i.toNat := by rw [← e3]; simp; omega
    rw [e1, e3]
    exact ⟨by omega, by omega, by omega, by omega, by simp only [List.length_append, List.length_replicate, List.length_drop, hl3]; omega, by first | trivial | rfl, by first | trivial | rfl, trivial⟩
theorem e_Clear : pv_Clear = fnVC Try.prog (tbl [(148, sp_keep), (150, sp_cloneFaints), (151, sp_clearC), (200, sp_idxFF)]) an_Clear Try.f77 sp_Clear := by kernel_rfl
theorem vc_Clear : fnVC Try.prog (tbl [(148, sp_keep), (150, sp_cloneFaints), (151, sp_clearC), (200, sp_idxFF)]) an_Clear Try.f77 sp_Clear := @Eq.mp _ _ @e_Clear @vcp_Clear
theorem ok_Clear : sp_Clear.ok Try.prog 77 := fn_sound (P := Try.prog) (ss := tbl [(148, sp_keep), (150, sp_cloneFaints), (151, sp_clearC), (200, sp_idxFF)]) (ann := an_Clear) (f := 77) (fn := Try.f77) (s := sp_Clear) (tbl_cons ok_keep (tbl_cons ok_cloneFaints (tbl_cons ok_clearC (tbl_cons ok_idxFF tbl_nil)))) Try.func77 @vc_Clear

def an_rFaintKept : Nat → Option LoopGen
  | 3 => some { rd := [.dat 0 (.arr ty_W), .dat 1 (.arr ty_I), .dat 2 (.arr ty_Faint)], A := fun ((a, f, ps) : List Int × List Int × List Pr) => { cs := [.own 7 3 ty_I, .dat 15 ty_I], inv := fun ((l, i) : List Int × Int) => 0 ≤ i ∧ i ≤ ps.length ∧ l = kepN a ps i.toNat (reachL a f), mu := fun ((_, i) : List Int × Int) => (ps.length - i).toNat } }
  | 5 => some { rd := [.dat 0 (.arr ty_W), .dat 17 (.arr ty_Faint), .own 7 3 ty_I], A := fun ((a, ps, l0) : List Int × List Pr × List Int) => { cs := [.own 7 3 ty_I, .dat 19 ty_I], inv := fun ((l, j) : List Int × Int) => 0 ≤ j ∧ j ≤ ps.length ∧ l = passK a (ps.take j.toNat) l0, mu := fun ((_, j) : List Int × Int) => (ps.length - j).toNat } }
  | _ => none
def sp_rFaintKept : Spec := { Ts := [.arr ty_W, .arr ty_I, .arr ty_Faint], Rs := [.own 3 ty_I], pre := fun ((a, f, ps) : List Int × List Int × List Pr) => fromFault a f = 0 ∧ fromFault a (besideL ps) = 0 ∧ (f.length + 256) * 8 ≤ 140737488355328, F := fun ((a, f, ps) : List Int × List Int × List Pr) => keptL a f ps }
def pv_rFaintKept : Prop :=
    ∀ (x : List Int × List Int × List (Int × Int)), ((x.fst.length * (8 : Nat) ≤ big ∧ ∀ (x_1 : Int), x_1 ∈ x.fst → InR IntKind.u64 x_1) ∧ (x.snd.fst.length * (8 : Nat) ≤ big ∧ ∀ (x_1 : Int), x_1 ∈ x.snd.fst → InR IntKind.i64 x_1) ∧ x.snd.snd.length * ((8 : Nat) + (8 : Nat)) ≤ big ∧ ∀ (x_1 : Int × Int), x_1 ∈ x.snd.snd → InR IntKind.i64 x_1.fst ∧ InR IntKind.i64 x_1.snd) → fromFault x.fst x.snd.fst = (0 : Int) ∧ fromFault x.fst (besideL x.snd.snd) = (0 : Int) ∧ (x.snd.fst.length + (256 : Nat)) * (8 : Nat) ≤ (140737488355328 : Nat) → (fromFault x.fst x.snd.fst = (0 : Int) ∧ (x.snd.fst.length + (256 : Nat)) * (8 : Nat) ≤ (140737488355328 : Nat)) ∧ ((0 : Int) ≤ (0 : Int) ∧ (0 : Int) ≤ (↑x.snd.snd.length : Int) ∧ reachL x.fst x.snd.fst = kepN x.fst x.snd.snd (Int.toNat (0 : Int)) (reachL x.fst x.snd.fst)) ∧ ∀ (x_1 : List Int × Int), (0 : Int) ≤ x_1.snd ∧ x_1.snd ≤ (↑x.snd.snd.length : Int) ∧ x_1.fst = kepN x.fst x.snd.snd x_1.snd.toNat (reachL x.fst x.snd.fst) → (decide (x_1.snd < (↑x.snd.snd.length : Int)) = true → ((0 : Int) ≤ (0 : Int) ∧ (0 : Int) ≤ (↑x.snd.snd.length : Int) ∧ x_1.fst = passK x.fst (List.take (Int.toNat (0 : Int)) x.snd.snd) x_1.fst) ∧ ∀ (x_2 : List Int × Int), (0 : Int) ≤ x_2.snd ∧ x_2.snd ≤ (↑x.snd.snd.length : Int) ∧ x_2.fst = passK x.fst (List.take x_2.snd.toNat x.snd.snd) x_1.fst → (decide (x_2.snd < (↑x.snd.snd.length : Int)) = true → (0 : Int) ≤ x_2.snd ∧ x_2.snd < (↑x.snd.snd.length : Int) ∧ True ∧ (inL x_2.fst (x.snd.snd.getD x_2.snd.toNat ((0 : Int), (0 : Int))).fst = true → x_2.fst.length * (8 : Nat) ≤ big ∧ (x_2.fst.length + [(x.snd.snd.getD x_2.snd.toNat ((0 : Int), (0 : Int))).snd].length) * (8 : Nat) ≤ big ∧ x.fst = x.fst ∧ x.fst = x.fst ∧ (x.snd.snd.getD x_2.snd.toNat ((0 : Int), (0 : Int))).snd = (x.snd.snd.getD x_2.snd.toNat ((0 : Int), (0 : Int))).snd ∧ [(x.snd.snd.getD x_2.snd.toNat ((0 : Int), (0 : Int))).snd] = [(x.snd.snd.getD x_2.snd.toNat ((0 : Int), (0 : Int))).snd] ∧ (fromFault x.fst (x_2.fst ++ [(x.snd.snd.getD x_2.snd.toNat ((0 : Int), (0 : Int))).snd]) = (0 : Int) ∧ ((x_2.fst ++ [(x.snd.snd.getD x_2.snd.toNat ((0 : Int), (0 : Int))).snd]).length + (256 : Nat)) * (8 : Nat) ≤ (140737488355328 : Nat)) ∧ InR IntKind.i64 (x_2.snd + (1 : Int)) ∧ ((0 : Int) ≤ x_2.snd + (1 : Int) ∧ x_2.snd + (1 : Int) ≤ (↑x.snd.snd.length : Int) ∧ reachL x.fst (x_2.fst ++ [(x.snd.snd.getD x_2.snd.toNat ((0 : Int), (0 : Int))).snd]) = passK x.fst (List.take (x_2.snd + (1 : Int)).toNat x.snd.snd) x_1.fst) ∧ ((↑x.snd.snd.length : Int) - (x_2.snd + (1 : Int))).toNat < ((↑x.snd.snd.length : Int) - x_2.snd).toNat) ∧ (inL x_2.fst (x.snd.snd.getD x_2.snd.toNat ((0 : Int), (0 : Int))).fst = false → InR IntKind.i64 (x_2.snd + (1 : Int)) ∧ ((0 : Int) ≤ x_2.snd + (1 : Int) ∧ x_2.snd + (1 : Int) ≤ (↑x.snd.snd.length : Int) ∧ x_2.fst = passK x.fst (List.take (x_2.snd + (1 : Int)).toNat x.snd.snd) x_1.fst) ∧ ((↑x.snd.snd.length : Int) - (x_2.snd + (1 : Int))).toNat < ((↑x.snd.snd.length : Int) - x_2.snd).toNat)) ∧ (decide (x_2.snd < (↑x.snd.snd.length : Int)) = false → InR IntKind.i64 (x_1.snd + (1 : Int)) ∧ ((0 : Int) ≤ x_1.snd + (1 : Int) ∧ x_1.snd + (1 : Int) ≤ (↑x.snd.snd.length : Int) ∧ x_2.fst = kepN x.fst x.snd.snd (x_1.snd + (1 : Int)).toNat (reachL x.fst x.snd.fst)) ∧ ((↑x.snd.snd.length : Int) - (x_1.snd + (1 : Int))).toNat < ((↑x.snd.snd.length : Int) - x_1.snd).toNat)) ∧ (decide (x_1.snd < (↑x.snd.snd.length : Int)) = false → x_1.fst = keptL x.fst x.snd.fst x.snd.snd ∧ True)
theorem vcp_rFaintKept : pv_rFaintKept := by
  unfold pv_rFaintKept
  intro ⟨a, f, ps⟩ ⟨⟨hb, hw⟩, ⟨hbf, hf⟩, hbp, hp⟩ ⟨hff, hfb, hlen⟩
  unfold big at hb hbf hbp
  simp only at hb hw hbf hf hbp hp hff hfb hlen ⊢
  obtain ⟨hc, hfB⟩ := fromFault_ok hff
  obtain ⟨_, hbB⟩ := fromFault_ok hfb
  have hv : ∀ p ∈ ps, isB (spotsF a).1 p.2 = true := fun p hp => hbB _ (beside_mem hp).2
  have hclo : Clo a (reachL a f) := ⟨f, hfB, rfl⟩
  refine ⟨⟨hff, hlen⟩, ⟨by omega, by omega, by first | trivial | rfl⟩, fun ⟨l0, i⟩ ⟨i0, i1, hi⟩ => ⟨fun hlt => ⟨⟨by omega, by omega, by first | trivial | rfl⟩, fun ⟨l, j⟩ ⟨j0, j1, r1⟩ => ⟨fun hlt2 => ?_, fun hge2 => ?_⟩⟩, fun hge => ?_⟩⟩
  · simp only at i0 i1 hi hlt j0 j1 r1 hlt2 ⊢
    have hcl0 : Clo a l0 := by rw [hi]; exact kep_clo hw hc hv hclo _
    have hlt2 := of_decide_eq_true hlt2
    have ht := take_snoc ((0, 0) : Pr) j0 hlt2
    have hm := getD_mem ((0, 0) : Pr) j0 hlt2
    rw [ht]
    generalize ps.getD j.toNat (0, 0) = p at *
    rw [pass_snoc, ← r1]
    obtain ⟨hcl, _, _⟩ := pass_clo hw hc (ps := ps) (List.take j.toNat ps) l0 (fun q hq => List.mem_of_mem_take hq) (fun q hq => hv q (List.mem_of_mem_take hq)) hcl0
    rw [← r1] at hcl
    have hl : l.length ≤ 256 := by
      obtain ⟨g, _, e⟩ := hcl
      rw [e]; exact reach_length _ _
    refine ⟨j0, hlt2, trivial, fun hin => ?_, fun hin => ?_⟩
    · have hS : stepK a l p = reachL a (l ++ [p.2]) := by unfold stepK; rw [if_pos hin]
      rw [hS]
      unfold big
      refine ⟨by omega, by simp only [List.length_cons, List.length_nil]; omega, by first | trivial | rfl, by first | trivial | rfl, by first | trivial | rfl, by first | trivial | rfl, ⟨fromFault_of hc (hcl.ok hw hc (hv p hm)), by simp only [List.length_append, List.length_cons, List.length_nil]; omega⟩, by simp only [InR]; omega, ⟨by omega, by omega, by first | trivial | rfl⟩, by omega⟩
    · have hS : stepK a l p = l := by unfold stepK; rw [if_neg (by rw [hin]; simp)]
      rw [hS]
      exact ⟨by simp only [InR]; omega, ⟨by omega, by omega, by first | trivial | rfl⟩, by omega⟩
  · simp only at i0 i1 hi hlt j0 j1 r1 hge2 ⊢
    have hge2 := of_decide_eq_false hge2
    have hlt := of_decide_eq_true hlt
    rw [List.take_of_length_le (by omega)] at r1
    refine ⟨by simp only [InR]; omega, ⟨by omega, by omega, ?_⟩, by omega⟩
    rw [r1, hi, show (i + 1).toNat = i.toNat + 1 by omega]
    rfl
  · simp only at i0 i1 hi hge ⊢
    have hge := of_decide_eq_false hge
    refine ⟨?_, trivial⟩
    rw [hi, show i.toNat = ps.length by omega]
    rfl
theorem e_rFaintKept : pv_rFaintKept = fnVC Try.prog (tbl [(84, sp_rReached), (48, sp_rIn)]) an_rFaintKept Try.f79 sp_rFaintKept := by kernel_rfl
theorem vc_rFaintKept : fnVC Try.prog (tbl [(84, sp_rReached), (48, sp_rIn)]) an_rFaintKept Try.f79 sp_rFaintKept := @Eq.mp _ _ @e_rFaintKept @vcp_rFaintKept
theorem ok_rFaintKept : sp_rFaintKept.ok Try.prog 79 := fn_sound (P := Try.prog) (ss := tbl [(84, sp_rReached), (48, sp_rIn)]) (ann := an_rFaintKept) (f := 79) (fn := Try.f79) (s := sp_rFaintKept) (tbl_cons ok_rReached (tbl_cons ok_rIn tbl_nil)) Try.func79 @vc_rFaintKept

def an_lawFaintTells : Nat → Option LoopGen
  | 1000005 => some { rd := [.dat 11 ty_I, .dat 2 (.arr ty_Faint)], A := fun ((c, q) : Int × List Pr) => { cs := [.dat 11 ty_I], inv := fun (e : Int) => e = if c = 0 ∧ 32 < q.length then 2 else c, mu := fun _ => 0 } }
  | 7 => some { rd := [.dat 0 (.arr ty_W), .dat 43 (.arr ty_Faint), .dat 11 ty_I], A := fun ((a, ps, c) : List Int × List Pr × Int) => { cs := [.dat 11 ty_I, .dat 45 ty_I], inv := fun ((e, i) : Int × Int) => 0 ≤ i ∧ i ≤ ps.length ∧ e = if c = 0 then fromFault a (besideL (ps.take i.toNat)) else c, mu := fun ((_, i) : Int × Int) => (ps.length - i).toNat } }
  | 17 => some { rd := [.own 14 3 ty_I, .dat 84 (.arr ty_Faint)], A := fun ((l, ps) : List Int × List Pr) => { cs := [.own 15 127 ty_Faint, .dat 86 ty_I], inv := fun ((out, i) : List Pr × Int) => 0 ≤ i ∧ i ≤ ps.length ∧ out = (ps.take i.toNat).filter (fun p => inL l p.1), mu := fun ((_, i) : List Pr × Int) => (ps.length - i).toNat } }
  | _ => none
def sp_lawFaintTells : Spec := sp_law [.arr ty_W, .arr ty_I, .arr ty_Faint]
def pv_lawFaintTells : Prop :=
    ∀ (x : List Int × List Int × List (Int × Int)), ((x.fst.length * (8 : Nat) ≤ big ∧ ∀ (x_1 : Int), x_1 ∈ x.fst → InR IntKind.u64 x_1) ∧ (x.snd.fst.length * (8 : Nat) ≤ big ∧ ∀ (x_1 : Int), x_1 ∈ x.snd.fst → InR IntKind.i64 x_1) ∧ x.snd.snd.length * ((8 : Nat) + (8 : Nat)) ≤ big ∧ ∀ (x_1 : Int × Int), x_1 ∈ x.snd.snd → InR IntKind.i64 x_1.fst ∧ InR IntKind.i64 x_1.snd) → ((x.fst.length * (8 : Nat) ≤ (140737488351232 : Nat) ∧ ∀ (x_1 : Int), x_1 ∈ x.fst → sp_room ty_W x_1) ∧ (x.snd.fst.length * (8 : Nat) ≤ (140737488351232 : Nat) ∧ ∀ (x_1 : Int), x_1 ∈ x.snd.fst → sp_room ty_I x_1) ∧ x.snd.snd.length * ((8 : Nat) + (8 : Nat)) ≤ (140737488351232 : Nat) ∧ ∀ (x_1 : Int × Int), x_1 ∈ x.snd.snd → sp_room ty_Faint x_1) → True ∧ True ∧ True ∧ (((decide (fromF x.fst [x.snd.fst] = (0 : Int)) && decide ((32 : Int) < (↑x.snd.snd.length : Int))) = true → (2 : Int) = if fromF x.fst [x.snd.fst] = (0 : Int) ∧ (32 : Nat) < x.snd.snd.length then (2 : Int) else fromF x.fst [x.snd.fst]) ∧ ((decide (fromF x.fst [x.snd.fst] = (0 : Int)) && decide ((32 : Int) < (↑x.snd.snd.length : Int))) = false → fromF x.fst [x.snd.fst] = if fromF x.fst [x.snd.fst] = (0 : Int) ∧ (32 : Nat) < x.snd.snd.length then (2 : Int) else fromF x.fst [x.snd.fst])) ∧ ∀ (x_1 : Int), (x_1 = if fromF x.fst [x.snd.fst] = (0 : Int) ∧ (32 : Nat) < x.snd.snd.length then (2 : Int) else fromF x.fst [x.snd.fst]) → ((0 : Int) ≤ (0 : Int) ∧ (0 : Int) ≤ (↑x.snd.snd.length : Int) ∧ x_1 = if x_1 = (0 : Int) then fromFault x.fst (besideL (List.take (Int.toNat (0 : Int)) x.snd.snd)) else x_1) ∧ ∀ (x_2 : Int × Int), ((0 : Int) ≤ x_2.snd ∧ x_2.snd ≤ (↑x.snd.snd.length : Int) ∧ x_2.fst = if x_1 = (0 : Int) then fromFault x.fst (besideL (List.take x_2.snd.toNat x.snd.snd)) else x_1) → (decide (x_2.snd < (↑x.snd.snd.length : Int)) = true → (0 : Int) ≤ x_2.snd ∧ x_2.snd < (↑x.snd.snd.length : Int) ∧ (decide (x_2.fst = (0 : Int)) = true → True ∧ InR IntKind.i64 (x_2.snd + (1 : Int)) ∧ ((0 : Int) ≤ x_2.snd + (1 : Int) ∧ x_2.snd + (1 : Int) ≤ (↑x.snd.snd.length : Int) ∧ fromF x.fst [[(x.snd.snd.getD x_2.snd.toNat ((0 : Int), (0 : Int))).fst, (x.snd.snd.getD x_2.snd.toNat ((0 : Int), (0 : Int))).snd]] = if x_1 = (0 : Int) then fromFault x.fst (besideL (List.take (x_2.snd + (1 : Int)).toNat x.snd.snd)) else x_1) ∧ ((↑x.snd.snd.length : Int) - (x_2.snd + (1 : Int))).toNat < ((↑x.snd.snd.length : Int) - x_2.snd).toNat) ∧ (decide (x_2.fst = (0 : Int)) = false → InR IntKind.i64 (x_2.snd + (1 : Int)) ∧ ((0 : Int) ≤ x_2.snd + (1 : Int) ∧ x_2.snd + (1 : Int) ≤ (↑x.snd.snd.length : Int) ∧ x_2.fst = if x_1 = (0 : Int) then fromFault x.fst (besideL (List.take (x_2.snd + (1 : Int)).toNat x.snd.snd)) else x_1) ∧ ((↑x.snd.snd.length : Int) - (x_2.snd + (1 : Int))).toNat < ((↑x.snd.snd.length : Int) - x_2.snd).toNat)) ∧ (decide (x_2.snd < (↑x.snd.snd.length : Int)) = false → (decide (x_2.fst ≠ (0 : Int)) = true → (decide ((↑(keepF x.fst x.snd.fst x.snd.snd).fst.length : Int) = (0 : Int)) && decide ((keepF x.fst x.snd.fst x.snd.snd).snd = x_2.fst) && decide ((↑(clearF x.fst x.snd.fst x.snd.snd).fst.length : Int) = (0 : Int)) && decide ((clearF x.fst x.snd.fst x.snd.snd).snd = x_2.fst)) = true ∧ True) ∧ (decide (x_2.fst ≠ (0 : Int)) = false → (fromFault x.fst x.snd.fst = (0 : Int) ∧ fromFault x.fst (besideL x.snd.snd) = (0 : Int) ∧ (x.snd.fst.length + (256 : Nat)) * (8 : Nat) ≤ (140737488355328 : Nat)) ∧ ((0 : Int) ≤ (0 : Int) ∧ (0 : Int) ≤ (↑x.snd.snd.length : Int) ∧ ([] : List (Int × Int)) = List.filter (fun (p : Pr) => inL (keptL x.fst x.snd.fst x.snd.snd) p.fst) (List.take (Int.toNat (0 : Int)) x.snd.snd)) ∧ ∀ (x_3 : List (Int × Int) × Int), (0 : Int) ≤ x_3.snd ∧ x_3.snd ≤ (↑x.snd.snd.length : Int) ∧ x_3.fst = List.filter (fun (p : Pr) => inL (keptL x.fst x.snd.fst x.snd.snd) p.fst) (List.take x_3.snd.toNat x.snd.snd) → (decide (x_3.snd < (↑x.snd.snd.length : Int)) = true → (0 : Int) ≤ x_3.snd ∧ x_3.snd < (↑x.snd.snd.length : Int) ∧ True ∧ (inL (keptL x.fst x.snd.fst x.snd.snd) (x.snd.snd.getD x_3.snd.toNat ((0 : Int), (0 : Int))).fst = true → (x_3.fst.length + [x.snd.snd.getD x_3.snd.toNat ((0 : Int), (0 : Int))].length) * ((8 : Nat) + (8 : Nat)) ≤ big ∧ InR IntKind.i64 (x_3.snd + (1 : Int)) ∧ ((0 : Int) ≤ x_3.snd + (1 : Int) ∧ x_3.snd + (1 : Int) ≤ (↑x.snd.snd.length : Int) ∧ x_3.fst ++ [x.snd.snd.getD x_3.snd.toNat ((0 : Int), (0 : Int))] = List.filter (fun (p : Pr) => inL (keptL x.fst x.snd.fst x.snd.snd) p.fst) (List.take (x_3.snd + (1 : Int)).toNat x.snd.snd)) ∧ ((↑x.snd.snd.length : Int) - (x_3.snd + (1 : Int))).toNat < ((↑x.snd.snd.length : Int) - x_3.snd).toNat) ∧ (inL (keptL x.fst x.snd.fst x.snd.snd) (x.snd.snd.getD x_3.snd.toNat ((0 : Int), (0 : Int))).fst = false → InR IntKind.i64 (x_3.snd + (1 : Int)) ∧ ((0 : Int) ≤ x_3.snd + (1 : Int) ∧ x_3.snd + (1 : Int) ≤ (↑x.snd.snd.length : Int) ∧ x_3.fst = List.filter (fun (p : Pr) => inL (keptL x.fst x.snd.fst x.snd.snd) p.fst) (List.take (x_3.snd + (1 : Int)).toNat x.snd.snd)) ∧ ((↑x.snd.snd.length : Int) - (x_3.snd + (1 : Int))).toNat < ((↑x.snd.snd.length : Int) - x_3.snd).toNat)) ∧ (decide (x_3.snd < (↑x.snd.snd.length : Int)) = false → (decide ((keepF x.fst x.snd.fst x.snd.snd).snd = (0 : Int)) = true → True) ∧ ((decide ((keepF x.fst x.snd.fst x.snd.snd).snd = (0 : Int)) && decide ((keepF x.fst x.snd.fst x.snd.snd).fst = keptL x.fst x.snd.fst x.snd.snd) && decide ((clearF x.fst x.snd.fst x.snd.snd).snd = (0 : Int))) = true → True) ∧ (decide ((keepF x.fst x.snd.fst x.snd.snd).snd = (0 : Int)) && decide ((keepF x.fst x.snd.fst x.snd.snd).fst = keptL x.fst x.snd.fst x.snd.snd) && decide ((clearF x.fst x.snd.fst x.snd.snd).snd = (0 : Int)) && decide ((clearF x.fst x.snd.fst x.snd.snd).fst = x_3.fst)) = true ∧ True)))
theorem vcp_lawFaintTells : pv_lawFaintTells := by
  unfold pv_lawFaintTells
  intro ⟨a, f, ps⟩ ⟨⟨hb, hw⟩, ⟨hbf, hf⟩, hbp, hp⟩ ⟨⟨_, _⟩, ⟨hrf, _⟩, hrp, _⟩
  unfold big at hb hbf hbp
  simp only at hb hw hbf hf hbp hp hrf hrp ⊢
  simp only [from_one hw]
  refine ⟨trivial, trivial, trivial, ⟨fun h => ?_, fun h => ?_⟩, fun c hcd => ⟨⟨by omega, by omega, ?_⟩, fun ⟨e, i⟩ ⟨i0, i1, hi⟩ => ⟨fun hlt => ?_, fun hge => ?_⟩⟩⟩
  · simp only [Bool.and_eq_true, decide_eq_true_eq] at h
    rw [if_pos ⟨h.1, by omega⟩]
  · rw [if_neg (fun h' => by simp [h'.1, h'.2] at h; omega)]
  · by_cases h0 : c = 0
    · rw [if_pos h0, h0]
      have hff : fromFault a f = 0 := by
        rw [h0] at hcd
        split at hcd
        · omega
        · exact hcd.symm
      exact (fromFault_of (fromFault_ok hff).1 (fun x hx => by simp [besideL] at hx)).symm
    · rw [if_neg h0]
  · simp only at i0 i1 hi hlt ⊢
    have hlt := of_decide_eq_true hlt
    have ht := take_snoc ((0, 0) : Pr) i0 hlt
    rw [ht]
    generalize ps.getD i.toNat (0, 0) = p at *
    rw [beside_snoc]
    have hstep : c = 0 → fromFault a (besideL (List.take i.toNat ps) ++ [p.1, p.2]) = if fromFault a (besideL (List.take i.toNat ps)) = 0 then fromFault a [p.1, p.2] else fromFault a (besideL (List.take i.toNat ps)) := by
      intro h0
      have hff : fromFault a f = 0 := by
        rw [h0] at hcd
        split at hcd
        · omega
        · exact hcd.symm
      exact fault_snoc (fromFault_ok hff).1 _ _ _
    refine ⟨i0, hlt, fun he => ⟨trivial, by simp only [InR]; omega, ⟨by omega, by omega, ?_⟩, by omega⟩, fun he => ⟨by simp only [InR]; omega, ⟨by omega, by omega, ?_⟩, by omega⟩⟩
    · have he := of_decide_eq_true he
      by_cases h0 : c = 0
      · rw [if_pos h0] at hi ⊢
        rw [hstep h0, if_pos (by omega)]
      · rw [if_neg h0] at hi
        omega
    · have he := of_decide_eq_false he
      by_cases h0 : c = 0
      · rw [if_pos h0] at hi ⊢
        rw [hstep h0, if_neg (by omega)]
        exact hi
      · rw [if_neg h0] at hi ⊢
        exact hi
  simp only at i0 i1 hi hge ⊢
  have hge := of_decide_eq_false hge
  rw [List.take_of_length_le (by omega)] at hi
  have hbad : e = keepFault a f ps := by
    unfold keepFault faintFault
    by_cases c1 : fromFault a f = 0
    · by_cases c2 : 32 < ps.length
      · rw [if_pos ⟨c1, c2⟩] at hcd
        rw [hcd, if_neg (by omega)] at hi
        rw [if_neg (by omega), if_pos (by omega), hi]
      · rw [if_neg (by omega), c1] at hcd
        rw [hcd, if_pos rfl] at hi
        rw [if_neg (by omega), if_neg (by omega), if_pos (by omega), hi]
    · rw [if_neg (fun h => c1 h.1)] at hcd
      rw [hcd, if_neg c1] at hi
      rw [if_pos c1, hi]
  have e1 : keepF a f ps = if keepFault a f ps ≠ 0 then ([], keepFault a f ps) else (keptL a f ps, 0) := rfl
  have e2 : clearF a f ps = if keepFault a f ps ≠ 0 then ([], keepFault a f ps) else (ps.filter fun p => inL (keptL a f ps) p.1, 0) := rfl
  rw [e1, e2, hbad]
  refine ⟨fun h => ?_, fun h => ?_⟩
  · rw [if_pos (of_decide_eq_true h), if_pos (of_decide_eq_true h)]
    simp
  have h := of_decide_eq_false h
  rw [if_neg h, if_neg h]
  have he : keepFault a f ps = 0 := by omega
  obtain ⟨hff, h32, hfb⟩ : fromFault a f = 0 ∧ ps.length ≤ 32 ∧ fromFault a (besideL ps) = 0 := by
    unfold keepFault faintFault at he
    split at he
    · rename_i h; exact absurd he h
    · split at he
      · omega
      · rename_i h1 h2
        rw [if_pos (by omega)] at he
        exact ⟨by omega, by omega, he⟩
  generalize keptL a f ps = live
  refine ⟨⟨hff, hfb, by omega⟩, ⟨by omega, by omega, by simp⟩, fun ⟨out, j⟩ ⟨j0, j1, hj⟩ => ⟨fun hlt => ?_, fun hge => ?_⟩⟩
  · simp only at j0 j1 hj hlt ⊢
    have hlt := of_decide_eq_true hlt
    have ht := take_snoc ((0, 0) : Pr) j0 hlt
    rw [ht]
    generalize ps.getD j.toNat (0, 0) = p at *
    have hol : out.length ≤ j.toNat := by
      rw [hj]
      exact Nat.le_trans (List.length_filter_le _ _) (by simp; omega)
    refine ⟨j0, hlt, trivial, fun hin => ⟨by simp only [List.length_cons, List.length_nil]; unfold big; omega, by simp only [InR]; omega, ⟨by omega, by omega, ?_⟩, by omega⟩, fun hin => ⟨by simp only [InR]; omega, ⟨by omega, by omega, ?_⟩, by omega⟩⟩
    · rw [List.filter_append, List.filter_cons_of_pos (by simpa using hin), List.filter_nil, hj]
    · rw [List.filter_append, List.filter_cons_of_neg (by rw [hin]; simp), List.filter_nil, List.append_nil, hj]
  · simp only at j0 j1 hj hge ⊢
    have hge := of_decide_eq_false hge
    rw [List.take_of_length_le (by omega)] at hj
    subst hj
    simp
theorem e_lawFaintTells : pv_lawFaintTells = fnVC Try.prog (tbl [(76, sp_Keep), (77, sp_Clear), (78, sp_rFrom), (79, sp_rFaintKept), (48, sp_rIn), (20, sp_eqInts), (80, sp_sameFaint)]) an_lawFaintTells Try.f11 sp_lawFaintTells := by kernel_rfl
theorem vc_lawFaintTells : fnVC Try.prog (tbl [(76, sp_Keep), (77, sp_Clear), (78, sp_rFrom), (79, sp_rFaintKept), (48, sp_rIn), (20, sp_eqInts), (80, sp_sameFaint)]) an_lawFaintTells Try.f11 sp_lawFaintTells := @Eq.mp _ _ @e_lawFaintTells @vcp_lawFaintTells
theorem ok_lawFaintTells : sp_lawFaintTells.ok Try.prog 11 := fn_sound (P := Try.prog) (ss := tbl [(76, sp_Keep), (77, sp_Clear), (78, sp_rFrom), (79, sp_rFaintKept), (48, sp_rIn), (20, sp_eqInts), (80, sp_sameFaint)]) (ann := an_lawFaintTells) (f := 11) (fn := Try.f11) (s := sp_lawFaintTells) (tbl_cons ok_Keep (tbl_cons ok_Clear (tbl_cons ok_rFrom (tbl_cons ok_rFaintKept (tbl_cons ok_rIn (tbl_cons ok_eqInts (tbl_cons ok_sameFaint tbl_nil))))))) Try.func11 @vc_lawFaintTells

end Go.Proofs.Ytgnamdjmjkeodaa
