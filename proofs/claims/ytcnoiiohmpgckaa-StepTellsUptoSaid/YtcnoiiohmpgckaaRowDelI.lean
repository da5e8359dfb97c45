
import Derived.Test.YtcnoiiohmpgckaaRowK
namespace Go.Proofs.Ytcnoiiohmpgckaa
open Go Go.RowKit Go.Lib
set_option maxHeartbeats 4000000 in
set_option maxRecDepth 100000 in
theorem walk_delI : DelWalk Try.prog 134 56 1 := by
  intro w W1 W2 g n c i j hij hj hn hc63 hap hcl
  simp only [Nat.mul_one] at hap hcl
  have mixed : Try.prog.follows .mixedOrders = true := by kernel_rfl
  have hz1 : ¬ ((i : Int) = (j : Int)) := by omega
  have hb1 : i ≤ j := by omega
  have hb2 : j ≤ c := by omega
  have hb3 : i ≤ c := by omega
  have hb4 : i ≤ n := by omega
  have hb5 : ¬ (c = i + (n - j)) := by omega
  have hb6 : i + (n - j) ≤ n := by omega
  have e1 : n - (i + (n - j)) = j - i := by omega
  have hcl' := fun ty d4 => hcl ty d4
  simp only [← e1] at hcl'
  by_cases hcj : c = j
  · subst hcj
    have hnj : n = c := by omega
    subst hnj
    simp only [Nat.sub_self, Nat.add_zero] at hcl' ⊢
    go_enter Try.func134, Try.ntmps134
    go_wp2
    go_region_law_o (refine step_append_run rfl _ _ 56 56 rfl (.slice (some ⟨g, 0, none⟩) i n) (.slice (some ⟨g, 0, none⟩) (n - n) (n - n)) (by simp [Act.eval, Act.put]) (by simp [Act.eval, Act.put]) (hap _ _ _ (.inl trivial)) ?_)
    go_wp2_with (at_builtin; refine wpList_clear_run _ rfl _ _ rfl _ rfl _ _ (hcl' _ _) ?_)
    go_ret
    exact ⟨rfl, rfl⟩
  · go_enter Try.func134, Try.ntmps134
    go_wp2
    go_region_law_o (refine step_append_run rfl _ _ 56 56 rfl (.slice (some ⟨g, 0, none⟩) i c) (.slice (some ⟨g, j, none⟩) (n - j) (c - j)) (by simp [Act.eval, Act.put]) (by simp [Act.eval, Act.put]) (hap _ _ _ (.inr rfl)) ?_)
    go_wp2_with (at_builtin; refine wpList_clear_run _ rfl _ _ rfl _ rfl _ _ (hcl' _ _) ?_)
    go_ret
    exact ⟨rfl, rfl⟩
def sp_delI : RowFn := sp_delG 3 ty_I
theorem ok_delI : sp_delI.ok Try.prog 134 := delG_ok (P := Try.prog) (S := 56) (E := 3) (by kernel_rfl) (by kernel_rfl) (fun i z hi hz u hu => one_zero (by kernel_rfl) hi hz u hu) walk_delI
end Go.Proofs.Ytcnoiiohmpgckaa
