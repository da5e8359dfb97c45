
import Derived.Test.YtcnoiiohmpgckaaBase
namespace Go.Proofs.Ytcnoiiohmpgckaa
open Go
set_option maxRecDepth 100000
set_option maxHeartbeats 1000000
abbrev Head := Int × Int × Int × Bool
def headLong (h : Head) : Int := 1 + h.1 + h.2.1
def headFault (h : Head) : Int :=
  if h.1 < 0 ∨ 256 < h.1 ∨ h.2.1 < 0 ∨ 256 < h.2.1 ∨ h.2.2.1 < 0 ∨ 65535 < h.2.2.1 then 4
  else if h.2.2.2 = true ∧ (h.1 ≠ 0 ∨ h.2.2.1 ≠ 0) then 3
  else if 256 < headLong h then 2 else 0
def headOf (v : Int) : Head := (v % 65536, v / 65536 % 65536, v / 4294967296 % 65536, decide (v / 281474976710656 = 1))
def isHead (v : Int) : Bool := v / 281474976710656 ≤ 1 && headFault (headOf v) == 0
def headNone : Head := (0, 0, 0, false)
theorem headFault_zero {h : Head} (h0 : headFault h = 0) : 0 ≤ h.1 ∧ 0 ≤ h.2.1 ∧ 0 ≤ h.2.2.1 ∧ h.2.2.1 ≤ 65535 ∧ 1 + h.1 + h.2.1 ≤ 256 ∧ (h.2.2.2 = true → h.1 = 0 ∧ h.2.2.1 = 0) := by
  grind [headFault, headLong]
theorem headOf_bits {v : Int} (h0 : 0 ≤ v) :
    (IntKind.i64.wrap ↑(v.toNat &&& Int.toNat 65535), IntKind.i64.wrap ↑((v / 2 ^ Int.toNat 16).toNat &&& Int.toNat 65535), IntKind.i64.wrap ↑((v / 2 ^ Int.toNat 32).toNat &&& Int.toNat 65535),
      decide (((v.toNat &&& Int.toNat 281474976710656 : Nat) : Int) ≠ 0)) = (v % 65536, v / 65536 % 65536, v / 4294967296 % 65536, decide (v / 281474976710656 % 2 = 1)) := by
  have e : Int.toNat 65535 = 2 ^ 16 - 1 := rfl
  have e2 : Int.toNat 281474976710656 = 2 ^ 48 := rfl
  have e3 : v / 2 ^ Int.toNat 16 = v / 65536 := rfl
  have e4 : v / 2 ^ Int.toNat 32 = v / 4294967296 := rfl
  rw [e, e2, e3, e4, land_mod h0, land_mod (by omega), land_mod (by omega), land_bit h0]
  rw [show (2 : Int) ^ 16 = 65536 from rfl, show (2 : Int) ^ 48 = 281474976710656 from rfl]
  rw [wrapI (by omega) (by omega), wrapI (by omega) (by omega), wrapI (by omega) (by omega)]
  congr 3
  apply decide_eq_decide.2
  omega
theorem headOf_eq {v : Int} (h1 : v / 281474976710656 ≤ 1) (h0 : 0 ≤ v) : (v % 65536, v / 65536 % 65536, v / 4294967296 % 65536, decide (v / 281474976710656 % 2 = 1)) = headOf v := by
  simp only [headOf]
  congr 3
  apply decide_eq_decide.2
  omega
def sp_headLong : Spec := { Ts := [ty_Head], Rs := [.dat ty_I], pre := fun (h : Head) => InR .i64 (1 + h.1) ∧ InR .i64 (1 + h.1 + h.2.1), F := headLong }
def pv_headLong : Prop :=
    ∀ (x : Int × Int × Int × Bool), InR IntKind.i64 x.1 ∧ InR IntKind.i64 x.2.1 ∧ InR IntKind.i64 x.2.2.1 ∧ True → InR IntKind.i64 (1 + x.1) ∧ InR IntKind.i64 (1 + x.1 + x.2.1) → InR IntKind.i64 (1 + x.1) ∧ InR IntKind.i64 (1 + x.1 + x.2.1) ∧ 1 + x.1 + x.2.1 = headLong x ∧ True
theorem vcp_headLong : pv_headLong := by
  unfold pv_headLong
  intro x h1 h2
  exact ⟨h2.1, h2.2, rfl, trivial⟩
theorem ok_headLong : sp_headLong.ok Try.prog 157 := fn_ok (ann := an_0) tbl_nil Try.func157 (by kernel_rfl) vcp_headLong
def sp_headCheck : Spec := { Ts := [ty_Head], Rs := [.dat ty_I], pre := fun _ => True, F := headFault }
def pv_headCheck : Prop :=
    ∀ (x : Int × Int × Int × Bool), InR IntKind.i64 x.1 ∧ InR IntKind.i64 x.2.1 ∧ InR IntKind.i64 x.2.2.1 ∧ True → True → ((decide ((if x.2.2.1 < if x.2.1 < x.1 then x.2.1 else x.1 then x.2.2.1 else if x.2.1 < x.1 then x.2.1 else x.1) < 0) || decide (256 < if x.1 < x.2.1 then x.2.1 else x.1) || decide (65535 < x.2.2.1)) = true → 4 = headFault x ∧ True) ∧ ((decide ((if x.2.2.1 < if x.2.1 < x.1 then x.2.1 else x.1 then x.2.2.1 else if x.2.1 < x.1 then x.2.1 else x.1) < 0) || decide (256 < if x.1 < x.2.1 then x.2.1 else x.1) || decide (65535 < x.2.2.1)) = false → ((x.2.2.2 && (decide (0 < x.1) || decide (0 < x.2.2.1))) = true → 3 = headFault x ∧ True) ∧ ((x.2.2.2 && (decide (0 < x.1) || decide (0 < x.2.2.1))) = false → (InR IntKind.i64 (1 + x.1) ∧ InR IntKind.i64 (1 + x.1 + x.2.1)) ∧ (decide (256 < headLong x) = true → 2 = headFault x ∧ True) ∧ (decide (256 < headLong x) = false → 0 = headFault x ∧ True)))
theorem vcp_headCheck : pv_headCheck := by
  unfold pv_headCheck
  intro x h1 _
  grind [InR, headFault, headLong]
theorem ok_headCheck : sp_headCheck.ok Try.prog 156 := fn_ok (ann := an_0) (tbl_cons ok_headLong tbl_nil) Try.func156 (by kernel_rfl) vcp_headCheck
def sp_headLongC : Spec := { Ts := [ty_Head], Rs := [.dat ty_I, .dat ty_I], pre := fun _ => True, F := fun (h : Head) => ((if headFault h = 0 then headLong h else 0, headFault h) : Int × Int) }
def pv_headLongC : Prop :=
    ∀ (x : Int × Int × Int × Bool), InR IntKind.i64 x.1 ∧ InR IntKind.i64 x.2.1 ∧ InR IntKind.i64 x.2.2.1 ∧ True → True → True ∧ (decide (headFault x ≠ 0) = true → (0 = if headFault x = 0 then headLong x else 0) ∧ headFault x = headFault x ∧ True) ∧ (decide (headFault x ≠ 0) = false → (InR IntKind.i64 (1 + x.1) ∧ InR IntKind.i64 (1 + x.1 + x.2.1)) ∧ (headLong x = if headFault x = 0 then headLong x else 0) ∧ 0 = headFault x ∧ True)
theorem vcp_headLongC : pv_headLongC := by
  unfold pv_headLongC
  intro x hw _
  refine ⟨trivial, fun h => ?_, fun h => ?_⟩
  · have : headFault x ≠ 0 := by simpa using h
    simp [this]
  · have h0 : headFault x = 0 := by simpa using h
    obtain ⟨b1, b2, b3, b4, b5, _⟩ := headFault_zero h0
    simp only [InR, h0, if_true, and_true]
    omega
theorem ok_headLongC : sp_headLongC.ok Try.prog 120 := fn_ok (ann := an_0) (tbl_cons ok_headCheck (tbl_cons ok_headLong tbl_nil)) Try.func120 (by kernel_rfl) vcp_headLongC
def sp_headRead : Spec := { Ts := [ty_W], Rs := [.dat ty_Head, .dat ty_I], pre := fun _ => True, F := fun (v : Int) => ((if isHead v then headOf v else headNone, if isHead v then 0 else 3) : Head × Int) }
def pv_headRead : Prop :=
    ∀ (x : Int), InR IntKind.u64 x → True → (0 : Int) ≤ (16 : Int) ∧ (16 : Int) < (↑IntKind.u64.bits : Int) ∧ (0 : Int) ≤ (32 : Int) ∧ (32 : Int) < (↑IntKind.u64.bits : Int) ∧ (0 : Int) ≤ (49 : Int) ∧ (49 : Int) < (↑IntKind.u64.bits : Int) ∧ (decide (x / (2 : Int) ^ Int.toNat (49 : Int) ≠ (0 : Int)) = false → True) ∧ ((decide (x / (2 : Int) ^ Int.toNat (49 : Int) ≠ (0 : Int)) || decide (headFault (IntKind.i64.wrap (↑(x.toNat &&& Int.toNat (65535 : Int)) : Int), IntKind.i64.wrap (↑((x / (2 : Int) ^ Int.toNat (16 : Int)).toNat &&& Int.toNat (65535 : Int)) : Int), IntKind.i64.wrap (↑((x / (2 : Int) ^ Int.toNat (32 : Int)).toNat &&& Int.toNat (65535 : Int)) : Int), decide ((↑(x.toNat &&& Int.toNat (281474976710656 : Int)) : Int) ≠ (0 : Int))) ≠ (0 : Int))) = true → (((0 : Int), (0 : Int), (0 : Int), false) = if isHead x = true then headOf x else headNone) ∧ ((3 : Int) = if isHead x = true then (0 : Int) else (3 : Int)) ∧ True) ∧ ((decide (x / (2 : Int) ^ Int.toNat (49 : Int) ≠ (0 : Int)) || decide (headFault (IntKind.i64.wrap (↑(x.toNat &&& Int.toNat (65535 : Int)) : Int), IntKind.i64.wrap (↑((x / (2 : Int) ^ Int.toNat (16 : Int)).toNat &&& Int.toNat (65535 : Int)) : Int), IntKind.i64.wrap (↑((x / (2 : Int) ^ Int.toNat (32 : Int)).toNat &&& Int.toNat (65535 : Int)) : Int), decide ((↑(x.toNat &&& Int.toNat (281474976710656 : Int)) : Int) ≠ (0 : Int))) ≠ (0 : Int))) = false → ((IntKind.i64.wrap (↑(x.toNat &&& Int.toNat (65535 : Int)) : Int), IntKind.i64.wrap (↑((x / (2 : Int) ^ Int.toNat (16 : Int)).toNat &&& Int.toNat (65535 : Int)) : Int), IntKind.i64.wrap (↑((x / (2 : Int) ^ Int.toNat (32 : Int)).toNat &&& Int.toNat (65535 : Int)) : Int), decide ((↑(x.toNat &&& Int.toNat (281474976710656 : Int)) : Int) ≠ (0 : Int))) = if isHead x = true then headOf x else headNone) ∧ ((0 : Int) = if isHead x = true then (0 : Int) else (3 : Int)) ∧ True)
theorem vcp_headRead : pv_headRead := by
  unfold pv_headRead
  intro x hw _
  have hx : 0 ≤ x := hw.1
  rw [headOf_bits hx, show x / 2 ^ Int.toNat 49 = x / 562949953421312 from rfl]
  refine ⟨by decide, by decide, by decide, by decide, by decide, by decide, fun _ => trivial, fun h => ?_, fun h => ?_⟩
  · have : isHead x = false := by
      rcases Int.lt_or_le 1 (x / 281474976710656) with h1 | h1
      · simp [isHead, show ¬ x / 281474976710656 ≤ 1 by omega]
      · rw [headOf_eq h1 hx] at h
        have e : x / 562949953421312 = 0 := by omega
        simp only [e, ne_eq, not_true_eq_false, decide_false, Bool.false_or, decide_eq_true_eq] at h
        simp [isHead, h]
    simp [this, headNone]
  · have h1 : x / 281474976710656 ≤ 1 := by
      have : x / 562949953421312 = 0 := by
        apply Classical.byContradiction
        intro hne
        simp [hne] at h
      omega
    rw [headOf_eq h1 hx] at h ⊢
    have : isHead x = true := by
      simp only [Bool.or_eq_false_iff, decide_eq_false_iff_not, ne_eq, Classical.not_not] at h
      simp [isHead, h1, h.2]
    simp [this]
theorem ok_headRead : sp_headRead.ok Try.prog 171 := fn_ok (ann := an_0) (tbl_cons ok_headCheck tbl_nil) Try.func171 (by kernel_rfl) vcp_headRead
def sp_rHeadFault : Spec := { Ts := [ty_Head], Rs := [.dat ty_I], pre := fun _ => True, F := headFault }
def pv_rHeadFault : Prop :=
    ∀ (x : Int × Int × Int × Bool), InR IntKind.i64 x.1 ∧ InR IntKind.i64 x.2.1 ∧ InR IntKind.i64 x.2.2.1 ∧ True → True → ((decide (x.1 < 0) || decide (256 < x.1) || decide (x.2.1 < 0) || decide (256 < x.2.1) || decide (x.2.2.1 < 0) || decide (65535 < x.2.2.1)) = true → 4 = headFault x ∧ True) ∧ ((decide (x.1 < 0) || decide (256 < x.1) || decide (x.2.1 < 0) || decide (256 < x.2.1) || decide (x.2.2.1 < 0) || decide (65535 < x.2.2.1)) = false → ((x.2.2.2 && (decide (x.1 ≠ 0) || decide (x.2.2.1 ≠ 0))) = true → 3 = headFault x ∧ True) ∧ ((x.2.2.2 && (decide (x.1 ≠ 0) || decide (x.2.2.1 ≠ 0))) = false → InR IntKind.i64 (1 + x.1) ∧ InR IntKind.i64 (1 + x.1 + x.2.1) ∧ (decide (256 < 1 + x.1 + x.2.1) = true → 2 = headFault x ∧ True) ∧ (decide (256 < 1 + x.1 + x.2.1) = false → 0 = headFault x ∧ True)))
theorem vcp_rHeadFault : pv_rHeadFault := by
  unfold pv_rHeadFault
  intro x h1 _
  grind [InR, headFault, headLong]
theorem ok_rHeadFault : sp_rHeadFault.ok Try.prog 183 := fn_ok (ann := an_0) tbl_nil Try.func183 (by kernel_rfl) vcp_rHeadFault
def sp_rHeadLong : Spec := { Ts := [ty_Head], Rs := [.dat ty_I], pre := fun (h : Head) => InR .i64 (1 + h.1) ∧ InR .i64 (1 + h.1 + h.2.1), F := headLong }
def pv_rHeadLong : Prop :=
    ∀ (x : Int × Int × Int × Bool), InR IntKind.i64 x.1 ∧ InR IntKind.i64 x.2.1 ∧ InR IntKind.i64 x.2.2.1 ∧ True → InR IntKind.i64 (1 + x.1) ∧ InR IntKind.i64 (1 + x.1 + x.2.1) → InR IntKind.i64 (1 + x.1) ∧ InR IntKind.i64 (1 + x.1 + x.2.1) ∧ 1 + x.1 + x.2.1 = headLong x ∧ True
theorem vcp_rHeadLong : pv_rHeadLong := by
  unfold pv_rHeadLong
  intro x h1 h2
  exact ⟨h2.1, h2.2, rfl, trivial⟩
theorem ok_rHeadLong : sp_rHeadLong.ok Try.prog 58 := fn_ok (ann := an_0) tbl_nil Try.func58 (by kernel_rfl) vcp_rHeadLong
def sp_rHeadRead : Spec := { Ts := [ty_W], Rs := [.dat ty_Head, .dat .bool], pre := fun _ => True, F := fun (v : Int) => ((if isHead v then headOf v else headNone, isHead v) : Head × Bool) }
def pv_rHeadRead : Prop :=
    ∀ (x : Int), InR IntKind.u64 x → True → 0 ≤ x ∧ (0 : Int) < 65536 ∧ 0 ≤ x ∧ (0 : Int) < 65536 ∧ 0 ≤ x / 65536 ∧ (0 : Int) < 65536 ∧ 0 ≤ x ∧ (0 : Int) < 65536 ∧ 0 ≤ x / 65536 ∧ (0 : Int) < 65536 ∧ 0 ≤ x / 65536 / 65536 ∧ (0 : Int) < 65536 ∧ 0 ≤ x ∧ (0 : Int) < 65536 ∧ 0 ≤ x / 65536 ∧ (0 : Int) < 65536 ∧ 0 ≤ x / 65536 / 65536 ∧ (0 : Int) < 65536 ∧ (decide (1 < x / 65536 / 65536 / 65536) = false → True) ∧ ((decide (1 < x / 65536 / 65536 / 65536) || decide (headFault (IntKind.i64.wrap (x % 65536), IntKind.i64.wrap (x / 65536 % 65536), IntKind.i64.wrap (x / 65536 / 65536 % 65536), decide (x / 65536 / 65536 / 65536 = 1)) ≠ 0)) = true → ((0, 0, 0, false) = if isHead x = true then headOf x else headNone) ∧ false = isHead x ∧ True) ∧ ((decide (1 < x / 65536 / 65536 / 65536) || decide (headFault (IntKind.i64.wrap (x % 65536), IntKind.i64.wrap (x / 65536 % 65536), IntKind.i64.wrap (x / 65536 / 65536 % 65536), decide (x / 65536 / 65536 / 65536 = 1)) ≠ 0)) = false → ((IntKind.i64.wrap (x % 65536), IntKind.i64.wrap (x / 65536 % 65536), IntKind.i64.wrap (x / 65536 / 65536 % 65536), decide (x / 65536 / 65536 / 65536 = 1)) = if isHead x = true then headOf x else headNone) ∧ true = isHead x ∧ True)
theorem vcp_rHeadRead : pv_rHeadRead := by
  unfold pv_rHeadRead
  intro x hw _
  have hx : 0 ≤ x := hw.1
  have e1 : x / 65536 / 65536 = x / 4294967296 := by omega
  have e2 : x / 4294967296 / 65536 = x / 281474976710656 := by omega
  rw [e1, e2, wrapI (by omega) (by omega), wrapI (by omega) (by omega), wrapI (by omega) (by omega)]
  have e3 : (x % 65536, x / 65536 % 65536, x / 4294967296 % 65536, decide (x / 281474976710656 = 1)) = headOf x := by
    simp only [headOf]
  rw [e3]
  refine ⟨by omega, by decide, by omega, by decide, by omega, by decide, by omega, by decide, by omega, by decide, by omega, by decide, by omega, by decide, by omega, by decide, by omega, by decide, fun _ => trivial, fun h => ?_, fun h => ?_⟩
  · have : isHead x = false := by
      simp only [Bool.or_eq_true, decide_eq_true_eq] at h
      simp only [isHead, Bool.and_eq_false_iff, decide_eq_false_iff_not, beq_eq_false_iff_ne]
      omega
    simp [this, headNone]
  · have : isHead x = true := by
      simp only [Bool.or_eq_false_iff, decide_eq_false_iff_not] at h
      simp only [isHead, Bool.and_eq_true, decide_eq_true_eq, beq_iff_eq]
      omega
    simp [this]
theorem ok_rHeadRead : sp_rHeadRead.ok Try.prog 147 := fn_ok (ann := an_0) (tbl_cons ok_rHeadFault tbl_nil) Try.func147 (by kernel_rfl) vcp_rHeadRead
end Go.Proofs.Ytcnoiiohmpgckaa
