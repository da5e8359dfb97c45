
import Derived.Test.YtcnoiiohmpgckaaRowK
import Derived.Test.YtcnoiiohmpgckaaTwinPure
namespace Go.Proofs.Ytcnoiiohmpgckaa
open Go Go.RowKit Go.Lib
set_option maxHeartbeats 4000000 in
set_option maxRecDepth 100000 in
theorem shift_insRoom : InsShift Try.prog 75 33 3 := by
  intro w W1 W2 g n c i vb m vc tA tB kA kB hi hm hroom hc63 hvb hsa hsb hkB hfa hfe hcp1 hcp2
  have hov : ∀ o lb cb, (callFunc 137 #[.slice (some ⟨vb, 0, none⟩) m vc, .slice (some ⟨g, o, none⟩) lb cb]).run Try.prog w = .ok (.value (.bool false)) w := fun o lb cb => by
    rw [run_callFunc_extern Try.func137 (by kernel_rfl) (by kernel_rfl) (by kernel_rfl) (e := Extern.SlicesOverlaps.overlaps #[33, 33] #[4]) (by kernel_rfl),
      Lib.run_overlaps_apart w 33 4 52 (by kernel_rfl) 3 (fun _ => by kernel_rfl) ⟨vb, 0, none⟩ ⟨g, o, none⟩ m vc lb cb hvb tA tB kA kB hsa hsb hkB hfa hfe]
    rfl
  have hz1 : ¬ ((m : Int) = 0) := by omega
  have hz2 : ¬ ((i : Int) = (n : Int)) := by omega
  have mixed : Try.prog.follows .mixedOrders = true := by kernel_rfl
  have hw1 : IntKind.i64.wrap ((i : Int) + (m : Int)) = (i : Int) + (m : Int) := by rw [IntKind.wrap_i64]; omega
  have hb1 : (0 : Int) ≤ (i : Int) + (m : Int) := by omega
  have hin : i ≤ n := by omega
  have htn : ((i : Int) + (m : Int)).toNat = i + m := by omega
  have hb2 : ¬ (c = i + m) := by omega
  have hb3 : (i : Int) ≤ (n : Int) + (m : Int) := by omega
  have hb4 : ¬ (c = i) := by omega
  go_enter Try.func75, Try.ntmps75
  go_wp2_with (simp only [hov])
  go_region_law_o (refine step_copy_runI rfl _ _ 33 33 rfl (.slice (some ⟨g, (i + m) * 3, none⟩) (n + m - (i + m)) (c - (i + m))) (.slice (some ⟨g, i * 3, none⟩) (n + m - i) (c - i)) (by simp [Act.eval, Act.put]) (by simp [Act.eval, Act.put]) (hcp1 _ _ _ _ _ (by omega) rfl) ?_)
  go_wp2_with (at_builtin; refine wpList_copy_runI _ rfl _ _ 33 33 rfl _ _ rfl rfl (hcp2 _ _ _ (by omega)) ?_)
  go_ret
  exact ⟨rfl, rfl⟩
set_option maxHeartbeats 4000000 in
set_option maxRecDepth 100000 in
theorem grow_insRoom : InsGrow Try.prog 75 33 3 3 := by
  intro w W0 W1 W2 g N n c i vb m vc G hi hm hn hroom hG h63 hG63 hrz hcp1 hcp2
  have hz1 : ¬ ((m : Int) = 0) := by omega
  have hz2 : ¬ ((i : Int) = (n : Int)) := by omega
  have hz3 : (c : Int) < (n : Int) + (m : Int) := by omega
  have mixed : Try.prog.follows .mixedOrders = true := by kernel_rfl
  have hGi : ¬ (G = i) := by omega
  have hGim : ¬ (G = i + m) := by omega
  have hci : ¬ (c = i) := by omega
  have hw1 : IntKind.i64.wrap ((i : Int) + (m : Int)) = (i : Int) + (m : Int) := by rw [IntKind.wrap_i64]; omega
  have hb1 : (0 : Int) ≤ (i : Int) + (m : Int) := by omega
  have hin : i ≤ n := by omega
  have htn : ((i : Int) + (m : Int)).toNat = i + m := by omega
  have hb3 : (i : Int) ≤ (n : Int) := by omega
  go_enter Try.func75, Try.ntmps75
  go_wp2_with (first
    | (at_builtin; refine Lib.wpList_append_run _ rfl _ _ _ _ rfl _ _ rfl rfl _ _ (hrz _) ?_)
    | (at_builtin; refine wpList_copy_runI _ rfl _ _ 33 33 rfl _ _ rfl rfl (hcp1 _ _ _ rfl) ?_))
  go_region_law_o (refine step_copy_runI rfl _ _ 33 33 rfl (.slice (some ⟨N, (i + m) * 3, none⟩) (n + m - (i + m)) (G - (i + m))) (.slice (some ⟨g, i * 3, none⟩) (n - i) (c - i)) (by simp [Act.eval, Act.put]) (by simp [Act.eval, Act.put]) (hcp2 _ _ _ _ _ (by omega) rfl) ?_)
  go_wp2
  go_ret
  exact ⟨rfl, rfl⟩
set_option maxHeartbeats 4000000 in
set_option maxRecDepth 100000 in
theorem end_insRoom : InsEnd Try.prog 75 33 := by
  intro w W A n c vb m vc v' hm hnc hnil hsome hr
  have mixed : Try.prog.follows .mixedOrders = true := by kernel_rfl
  have hz1 : ¬ ((m : Int) = 0) := by omega
  cases A with
  | none =>
    obtain ⟨rfl, rfl⟩ := hnil rfl
    go_enter Try.func75, Try.ntmps75
    go_wp2_with (at_builtin; refine Lib.wpList_append_run _ rfl _ _ _ _ rfl _ _ rfl rfl _ _ hr ?_)
    go_ret
    exact ⟨rfl, rfl⟩
  | some ad =>
    obtain ⟨ab, ao, asp⟩ := ad
    obtain ⟨e1, e2⟩ := hsome _ rfl
    simp only at e1 e2
    subst e1 e2
    go_enter Try.func75, Try.ntmps75
    go_wp2_with (at_builtin; refine Lib.wpList_append_run _ rfl _ _ _ _ rfl _ _ rfl rfl _ _ hr ?_)
    all_goals (go_ret; exact ⟨rfl, rfl⟩)
def sp_insRoom : RowFn := sp_insG 52 ty_Room
theorem ok_insRoom : sp_insRoom.ok Try.prog 75 := insG_ok (P := Try.prog) (S := 33) (E := 52) (I := 3) (by kernel_rfl) (by kernel_rfl) (by kernel_rfl) shift_insRoom grow_insRoom end_insRoom
set_option maxHeartbeats 4000000 in
set_option maxRecDepth 100000 in
theorem walk_delRoom : DelWalk Try.prog 79 33 3 := by
  intro w W1 W2 g n c i j hij hj hn hc63 hap hcl
  have mixed : Try.prog.follows .mixedOrders = true := by kernel_rfl
  have hz1 : ¬ ((i : Int) = (j : Int)) := by omega
  have hb1 : i ≤ j := by omega
  have hb2 : j ≤ c := by omega
  have hb3 : i ≤ c := by omega
  have hb4 : i ≤ n := by omega
  have hb5 : ¬ (c = i + (n - j)) := by omega
  have hb6 : i + (n - j) ≤ n := by omega
  have e1 : n - (i + (n - j)) = j - i := by omega
  have hcl' := fun ty d4 => hcl ty d4
  simp only [← e1] at hcl'
  by_cases hcj : c = j
  · subst hcj
    have hnj : n = c := by omega
    subst hnj
    simp only [Nat.sub_self, Nat.add_zero] at hcl' ⊢
    go_enter Try.func79, Try.ntmps79
    go_wp2
    go_region_law_o (refine step_append_run rfl _ _ 33 33 rfl (.slice (some ⟨g, 0, none⟩) i n) (.slice (some ⟨g, 0, none⟩) (n - n) (n - n)) (by simp [Act.eval, Act.put]) (by simp [Act.eval, Act.put]) (hap _ _ _ (.inl trivial)) ?_)
    go_wp2_with (at_builtin; refine wpList_clear_run _ rfl _ _ rfl _ rfl _ _ (hcl' _ _) ?_)
    go_ret
    exact ⟨rfl, rfl⟩
  · go_enter Try.func79, Try.ntmps79
    go_wp2
    go_region_law_o (refine step_append_run rfl _ _ 33 33 rfl (.slice (some ⟨g, 0, none⟩) i c) (.slice (some ⟨g, j * 3, none⟩) (n - j) (c - j)) (by simp [Act.eval, Act.put]) (by simp [Act.eval, Act.put]) (hap _ _ _ (.inr rfl)) ?_)
    go_wp2_with (at_builtin; refine wpList_clear_run _ rfl _ _ rfl _ rfl _ _ (hcl' _ _) ?_)
    go_ret
    exact ⟨rfl, rfl⟩
def sp_delRoom : RowFn := sp_delG 52 ty_Room
theorem ok_delRoom : sp_delRoom.ok Try.prog 79 := delG_ok (P := Try.prog) (S := 33) (E := 52) (by kernel_rfl) (by kernel_rfl) (fun i z hi hz u hu => one_zero (by kernel_rfl) hi hz u hu) walk_delRoom
end Go.Proofs.Ytcnoiiohmpgckaa
