
import Derived.Test.YtglchojglcobjaaGreatRowK
import Derived.Test.YtglchojglcobjaaGreatPinPure
namespace Go.Proofs.YtglchojglcobjaaGreat
open Go Go.RowKit Go.Lib
set_option maxHeartbeats 4000000 in
set_option maxRecDepth 100000 in
theorem shift_insPin:InsShift Tryz.prog 109 24 2:=by
 intro w W1 W2 g n c i vb m vc tA tB kA kB hi hm hroom hc63 hvb hsa hsb hkB hfa hfe hcp1 hcp2
 have hov:∀ o lb cb,(callFunc 145 #[.slice (some ⟨vb,0,none⟩) m vc,.slice (some ⟨g,o,none⟩) lb cb]).run Tryz.prog w=.ok (.value (.bool false)) w:=fun o lb cb=>by
  rw [run_callFunc_extern Tryz.func145 (by kernel_rfl) (by kernel_rfl) (by kernel_rfl) (e:=Extern.SlicesOverlaps.overlaps #[24,24] #[4]) (by kernel_rfl),
   Lib.run_overlaps_apart w 24 4 89 (by kernel_rfl) 2 (fun _=>by kernel_rfl) ⟨vb,0,none⟩ ⟨g,o,none⟩ m vc lb cb hvb tA tB kA kB hsa hsb hkB hfa hfe]
  rfl
 have hz1:¬ ((m:Int)=0):=by omega
 have hz2:¬ ((i:Int)=(n:Int)):=by omega
 have mixed:Tryz.prog.follows .mixedOrders=true:=by kernel_rfl
 have hw1:IntKind.i64.wrap ((i:Int)+(m:Int))=(i:Int)+(m:Int):=by rw [IntKind.wrap_i64]; omega
 have hb1:(0:Int)≤(i:Int)+(m:Int):=by omega
 have hin:i≤n:=by omega
 have htn:((i:Int)+(m:Int)).toNat=i+m:=by omega
 have hb2:¬ (c=i+m):=by omega
 have hb3:(i:Int)≤(n:Int)+(m:Int):=by omega
 have hb4:¬ (c=i):=by omega
 go_enter Tryz.func109,Tryz.ntmps109
 go_wp2_with (simp only [hov])
 go_region_law_o (refine step_copy_runI rfl _ _ 24 24 rfl (.slice (some ⟨g,(i+m) * 2,none⟩) (n+m - (i+m)) (c - (i+m))) (.slice (some ⟨g,i * 2,none⟩) (n+m - i) (c - i)) (by simp [Act.eval,Act.put]) (by simp [Act.eval,Act.put]) (hcp1 _ _ _ _ _ (by omega) rfl) ?_)
 go_wp2_with (at_builtin; refine wpList_copy_runI _ rfl _ _ 24 24 rfl _ _ rfl rfl (hcp2 _ _ _ (by omega)) ?_)
 go_ret
 exact ⟨rfl,rfl⟩
set_option maxHeartbeats 4000000 in
set_option maxRecDepth 100000 in
theorem grow_insPin:InsGrow Tryz.prog 109 24 3 2:=by
 intro w W0 W1 W2 g N n c i vb m vc G hi hm hn hroom hG h63 hG63 hrz hcp1 hcp2
 have hz1:¬ ((m:Int)=0):=by omega
 have hz2:¬ ((i:Int)=(n:Int)):=by omega
 have hz3:(c:Int)<(n:Int)+(m:Int):=by omega
 have mixed:Tryz.prog.follows .mixedOrders=true:=by kernel_rfl
 have hGi:¬ (G=i):=by omega
 have hGim:¬ (G=i+m):=by omega
 have hci:¬ (c=i):=by omega
 have hw1:IntKind.i64.wrap ((i:Int)+(m:Int))=(i:Int)+(m:Int):=by rw [IntKind.wrap_i64]; omega
 have hb1:(0:Int)≤(i:Int)+(m:Int):=by omega
 have hin:i≤n:=by omega
 have htn:((i:Int)+(m:Int)).toNat=i+m:=by omega
 have hb3:(i:Int)≤(n:Int):=by omega
 go_enter Tryz.func109,Tryz.ntmps109
 go_wp2_with (first
  | (at_builtin; refine Lib.wpList_append_run _ rfl _ _ _ _ rfl _ _ rfl rfl _ _ (hrz _) ?_)
  | (at_builtin; refine wpList_copy_runI _ rfl _ _ 24 24 rfl _ _ rfl rfl (hcp1 _ _ _ rfl) ?_))
 go_region_law_o (refine step_copy_runI rfl _ _ 24 24 rfl (.slice (some ⟨N,(i+m) * 2,none⟩) (n+m - (i+m)) (G - (i+m))) (.slice (some ⟨g,i * 2,none⟩) (n - i) (c - i)) (by simp [Act.eval,Act.put]) (by simp [Act.eval,Act.put]) (hcp2 _ _ _ _ _ (by omega) rfl) ?_)
 go_wp2
 go_ret
 exact ⟨rfl,rfl⟩
set_option maxHeartbeats 4000000 in
set_option maxRecDepth 100000 in
theorem end_insPin:InsEnd Tryz.prog 109 24:=by
 intro w W A n c vb m vc v' hm hnc hnil hsome hr
 have mixed:Tryz.prog.follows .mixedOrders=true:=by kernel_rfl
 have hz1:¬ ((m:Int)=0):=by omega
 cases A with
 | none =>
  obtain ⟨rfl,rfl⟩:=hnil rfl
  go_enter Tryz.func109,Tryz.ntmps109
  go_wp2_with (at_builtin; refine Lib.wpList_append_run _ rfl _ _ _ _ rfl _ _ rfl rfl _ _ hr ?_)
  go_ret
  exact ⟨rfl,rfl⟩
 | some ad =>
  obtain ⟨ab,ao,asp⟩:=ad
  obtain ⟨e1,e2⟩:=hsome _ rfl
  simp only at e1 e2
  subst e1 e2
  go_enter Tryz.func109,Tryz.ntmps109
  go_wp2_with (at_builtin; refine Lib.wpList_append_run _ rfl _ _ _ _ rfl _ _ rfl rfl _ _ hr ?_)
  all_goals (go_ret; exact ⟨rfl,rfl⟩)
def sp_insPin:RowFn:=sp_insG 89 ty_Pin
theorem ok_insPin:sp_insPin.ok Tryz.prog 109:=insG_ok (P:=Tryz.prog) (S:=24) (E:=89) (I:=3) (by kernel_rfl) (by kernel_rfl) (by kernel_rfl) shift_insPin grow_insPin end_insPin
set_option maxHeartbeats 4000000 in
set_option maxRecDepth 100000 in
theorem walk_delPin:DelWalk Tryz.prog 110 24 2:=by
 intro w W1 W2 g n c i j hij hj hn hc63 hap hcl
 have mixed:Tryz.prog.follows .mixedOrders=true:=by kernel_rfl
 have hz1:¬ ((i:Int)=(j:Int)):=by omega
 have hb1:i≤j:=by omega
 have hb2:j≤c:=by omega
 have hb3:i≤c:=by omega
 have hb4:i≤n:=by omega
 have hb5:¬ (c=i+(n - j)):=by omega
 have hb6:i+(n - j)≤n:=by omega
 have e1:n - (i+(n - j))=j - i:=by omega
 have hcl':=fun ty d4=>hcl ty d4
 simp only [← e1] at hcl'
 by_cases hcj:c=j
 ·subst hcj
  have hnj:n=c:=by omega
  subst hnj
  simp only [Nat.sub_self,Nat.add_zero] at hcl' ⊢
  go_enter Tryz.func110,Tryz.ntmps110
  go_wp2
  go_region_law_o (refine step_append_run rfl _ _ 24 24 rfl (.slice (some ⟨g,0,none⟩) i n) (.slice (some ⟨g,0,none⟩) (n - n) (n - n)) (by simp [Act.eval,Act.put]) (by simp [Act.eval,Act.put]) (hap _ _ _ (.inl trivial)) ?_)
  go_wp2_with (at_builtin; refine wpList_clear_run _ rfl _ _ rfl _ rfl _ _ (hcl' _ _) ?_)
  go_ret
  exact ⟨rfl,rfl⟩
 ·go_enter Tryz.func110,Tryz.ntmps110
  go_wp2
  go_region_law_o (refine step_append_run rfl _ _ 24 24 rfl (.slice (some ⟨g,0,none⟩) i c) (.slice (some ⟨g,j * 2,none⟩) (n - j) (c - j)) (by simp [Act.eval,Act.put]) (by simp [Act.eval,Act.put]) (hap _ _ _ (.inr rfl)) ?_)
  go_wp2_with (at_builtin; refine wpList_clear_run _ rfl _ _ rfl _ rfl _ _ (hcl' _ _) ?_)
  go_ret
  exact ⟨rfl,rfl⟩
def sp_delPin:RowFn:=sp_delG 89 ty_Pin
theorem ok_delPin:sp_delPin.ok Tryz.prog 110:=delG_ok (P:=Tryz.prog) (S:=24) (E:=89) (by kernel_rfl) (by kernel_rfl) (fun i z hi hz u hu=>one_zero (by kernel_rfl) hi hz u hu) walk_delPin
end Go.Proofs.YtglchojglcobjaaGreat
