/- New stores, and the law StoreNews. -/
import Derived.Test.YtbidboeemnlglaaStores
import Derived.Test.YtbidboeemnlglaaGapsRef
namespace Go.Proofs.Ytbidboeemnlglaa
open Go
set_option maxRecDepth 100000
set_option maxHeartbeats 1000000

def sp_mul64 : Spec := { Ts := [ty_W, ty_W], Rs := [.dat ty_W, .dat ty_W], pre := fun ((x, y) : Int × Int) => x = 1 ∧ y ≤ 1000, F := fun ((_, y) : Int × Int) => ((0, y) : Int × Int) }
def pv_mul64 : Prop :=
    ∀ (x : Int × Int), InR IntKind.u64 x.fst ∧ InR IntKind.u64 x.snd → x.fst = (1 : Int) ∧ x.snd ≤ (1000 : Int) → (0 : Int) ≤ (32 : Int) ∧ (32 : Int) < (↑IntKind.u64.bits : Int) ∧ (0 : Int) ≤ (32 : Int) ∧ (32 : Int) < (↑IntKind.u64.bits : Int) ∧ InR IntKind.u64 ((↑(x.fst.toNat &&& Int.toNat (4294967295 : Int)) : Int) * (↑(x.snd.toNat &&& Int.toNat (4294967295 : Int)) : Int)) ∧ InR IntKind.u64 (x.fst / (2 : Int) ^ Int.toNat (32 : Int) * (↑(x.snd.toNat &&& Int.toNat (4294967295 : Int)) : Int)) ∧ (0 : Int) ≤ (32 : Int) ∧ (32 : Int) < (↑IntKind.u64.bits : Int) ∧ InR IntKind.u64 (x.fst / (2 : Int) ^ Int.toNat (32 : Int) * (↑(x.snd.toNat &&& Int.toNat (4294967295 : Int)) : Int) + (↑(x.fst.toNat &&& Int.toNat (4294967295 : Int)) : Int) * (↑(x.snd.toNat &&& Int.toNat (4294967295 : Int)) : Int) / (2 : Int) ^ Int.toNat (32 : Int)) ∧ (0 : Int) ≤ (32 : Int) ∧ (32 : Int) < (↑IntKind.u64.bits : Int) ∧ InR IntKind.u64 ((↑(x.fst.toNat &&& Int.toNat (4294967295 : Int)) : Int) * (x.snd / (2 : Int) ^ Int.toNat (32 : Int))) ∧ InR IntKind.u64 ((↑((x.fst / (2 : Int) ^ Int.toNat (32 : Int) * (↑(x.snd.toNat &&& Int.toNat (4294967295 : Int)) : Int) + (↑(x.fst.toNat &&& Int.toNat (4294967295 : Int)) : Int) * (↑(x.snd.toNat &&& Int.toNat (4294967295 : Int)) : Int) / (2 : Int) ^ Int.toNat (32 : Int)).toNat &&& Int.toNat (4294967295 : Int)) : Int) + (↑(x.fst.toNat &&& Int.toNat (4294967295 : Int)) : Int) * (x.snd / (2 : Int) ^ Int.toNat (32 : Int))) ∧ InR IntKind.u64 (x.fst / (2 : Int) ^ Int.toNat (32 : Int) * (x.snd / (2 : Int) ^ Int.toNat (32 : Int))) ∧ InR IntKind.u64 (x.fst / (2 : Int) ^ Int.toNat (32 : Int) * (x.snd / (2 : Int) ^ Int.toNat (32 : Int)) + (x.fst / (2 : Int) ^ Int.toNat (32 : Int) * (↑(x.snd.toNat &&& Int.toNat (4294967295 : Int)) : Int) + (↑(x.fst.toNat &&& Int.toNat (4294967295 : Int)) : Int) * (↑(x.snd.toNat &&& Int.toNat (4294967295 : Int)) : Int) / (2 : Int) ^ Int.toNat (32 : Int)) / (2 : Int) ^ Int.toNat (32 : Int)) ∧ (0 : Int) ≤ (32 : Int) ∧ (32 : Int) < (↑IntKind.u64.bits : Int) ∧ InR IntKind.u64 (x.fst / (2 : Int) ^ Int.toNat (32 : Int) * (x.snd / (2 : Int) ^ Int.toNat (32 : Int)) + (x.fst / (2 : Int) ^ Int.toNat (32 : Int) * (↑(x.snd.toNat &&& Int.toNat (4294967295 : Int)) : Int) + (↑(x.fst.toNat &&& Int.toNat (4294967295 : Int)) : Int) * (↑(x.snd.toNat &&& Int.toNat (4294967295 : Int)) : Int) / (2 : Int) ^ Int.toNat (32 : Int)) / (2 : Int) ^ Int.toNat (32 : Int) + ((↑((x.fst / (2 : Int) ^ Int.toNat (32 : Int) * (↑(x.snd.toNat &&& Int.toNat (4294967295 : Int)) : Int) + (↑(x.fst.toNat &&& Int.toNat (4294967295 : Int)) : Int) * (↑(x.snd.toNat &&& Int.toNat (4294967295 : Int)) : Int) / (2 : Int) ^ Int.toNat (32 : Int)).toNat &&& Int.toNat (4294967295 : Int)) : Int) + (↑(x.fst.toNat &&& Int.toNat (4294967295 : Int)) : Int) * (x.snd / (2 : Int) ^ Int.toNat (32 : Int))) / (2 : Int) ^ Int.toNat (32 : Int)) ∧ InR IntKind.u64 (x.fst * x.snd) ∧ x.fst / (2 : Int) ^ Int.toNat (32 : Int) * (x.snd / (2 : Int) ^ Int.toNat (32 : Int)) + (x.fst / (2 : Int) ^ Int.toNat (32 : Int) * (↑(x.snd.toNat &&& Int.toNat (4294967295 : Int)) : Int) + (↑(x.fst.toNat &&& Int.toNat (4294967295 : Int)) : Int) * (↑(x.snd.toNat &&& Int.toNat (4294967295 : Int)) : Int) / (2 : Int) ^ Int.toNat (32 : Int)) / (2 : Int) ^ Int.toNat (32 : Int) + ((↑((x.fst / (2 : Int) ^ Int.toNat (32 : Int) * (↑(x.snd.toNat &&& Int.toNat (4294967295 : Int)) : Int) + (↑(x.fst.toNat &&& Int.toNat (4294967295 : Int)) : Int) * (↑(x.snd.toNat &&& Int.toNat (4294967295 : Int)) : Int) / (2 : Int) ^ Int.toNat (32 : Int)).toNat &&& Int.toNat (4294967295 : Int)) : Int) + (↑(x.fst.toNat &&& Int.toNat (4294967295 : Int)) : Int) * (x.snd / (2 : Int) ^ Int.toNat (32 : Int))) / (2 : Int) ^ Int.toNat (32 : Int) = (0 : Int) ∧ x.fst * x.snd = x.snd ∧ True
theorem vcp_mul64 : pv_mul64 := by
  unfold pv_mul64
  intro ⟨x, y⟩ ⟨hx, hy⟩ ⟨h1, h2⟩
  simp only [InR] at hx hy h1 h2 ⊢
  subst h1
  have e1 : (((1 : Int).toNat &&& Int.toNat 4294967295 : Nat) : Int) = 1 := by decide
  have e2 : ((y.toNat &&& Int.toNat 4294967295 : Nat) : Int) = y := by
    have h := land_mod hy.1 32
    have h3 : Int.toNat 4294967295 = 2 ^ 32 - 1 := by decide
    rw [h3, h]
    omega
  have e3 : (1 : Int) / 2 ^ Int.toNat 32 = 0 := by decide
  have e4 : y / 2 ^ Int.toNat 32 = 0 := by
    have : (2 : Int) ^ Int.toNat 32 = 4294967296 := by decide
    rw [this]; omega
  have e5 : (0 : Int) / 2 ^ Int.toNat 32 = 0 := by decide
  have e6 : (((0 : Int).toNat &&& Int.toNat 4294967295 : Nat) : Int) = 0 := by decide
  simp only [e1, e2, e3, e4, Int.one_mul, Int.zero_mul, Int.mul_zero, Int.add_zero, Int.zero_add, e5, e6]
  have eb : ((IntKind.u64.bits : Nat) : Int) = 64 := rfl
  rw [eb]
  simp only [true_and, and_true]
  omega
theorem e_mul64 : pv_mul64 = (fnVC Try.prog (tbl []) an_0 Try.f189 sp_mul64) := by kernel_rfl
theorem vc_mul64 : fnVC Try.prog (tbl []) an_0 Try.f189 sp_mul64 := @Eq.mp _ _ @e_mul64 @vcp_mul64
theorem ok_mul64 : sp_mul64.ok Try.prog 189 := fn_sound (P := Try.prog) (ss := tbl []) (ann := an_0) (f := 189) (fn := Try.f189) (s := sp_mul64) tbl_nil Try.func189 @vc_mul64

def sp_mul : Spec := sp_mul64
def pv_mul : Prop :=
    ∀ (x : Int × Int), InR IntKind.u64 x.fst ∧ InR IntKind.u64 x.snd → x.fst = (1 : Int) ∧ x.snd ≤ (1000 : Int) → (false = true → False) ∧ (false = false → (x.fst = (1 : Int) ∧ x.snd ≤ (1000 : Int)) ∧ (0 : Int) = (0 : Int) ∧ x.snd = x.snd ∧ True)
theorem vcp_mul : pv_mul := by
  unfold pv_mul
  intro ⟨x, y⟩ _ ⟨h1, h2⟩
  exact ⟨fun h => (by cases h), fun _ => ⟨⟨h1, h2⟩, rfl, rfl, trivial⟩⟩
theorem e_mul : pv_mul = (fnVC Try.prog (tbl [(189, sp_mul64)]) an_0 Try.f155 sp_mul) := by kernel_rfl
theorem vc_mul : fnVC Try.prog (tbl [(189, sp_mul64)]) an_0 Try.f155 sp_mul := @Eq.mp _ _ @e_mul @vcp_mul
theorem ok_mul : sp_mul.ok Try.prog 155 := fn_sound (P := Try.prog) (ss := tbl [(189, sp_mul64)]) (ann := an_0) (f := 155) (fn := Try.f155) (s := sp_mul) (tbl_cons ok_mul64 tbl_nil) Try.func155 @vc_mul

theorem repeat_first {v n : Int} (h : 0 < n) : List.take 1 [v] ++ List.drop (0 + 1) (List.replicate n.toNat 0) = List.replicate (1 : Int).toNat v ++ List.replicate (n - 1).toNat 0 := by
  rw [List.drop_replicate, show n.toNat - (0 + 1) = (n - 1).toNat by omega]
  rfl
theorem repeat_step {v n k : Int} {row : List Int} (k0 : 0 ≤ k) (kn : k ≤ n) (hrow : row = List.replicate k.toNat v ++ List.replicate (n - k).toNat 0) {m : Nat} (hm : m = min k.toNat (n - k).toNat) :
    row.take k.toNat ++ ((row.take k.toNat).take m ++ row.drop (k.toNat + m)) = List.replicate (k + m).toNat v ++ List.replicate (n - (k + m)).toNat 0 := by
  have h1 : row.take k.toNat = List.replicate k.toNat v := by
    rw [hrow, List.take_append_of_le_length (by simp), List.take_of_length_le (by simp)]
  have h2 : row.drop (k.toNat + m) = List.replicate (n - (k + m)).toNat 0 := by
    rw [hrow, List.drop_append, List.drop_of_length_le (by simp), List.nil_append, List.drop_replicate, List.length_replicate]
    congr 1
    omega
  rw [h1, h2, List.take_replicate, ← List.append_assoc, List.replicate_append_replicate]
  congr 2
  omega

def an_repeatI : Nat → Option LoopGen
  | 8 => some { wr := [7], rd := [.dat 0 (.arr ty_I), .dat 1 ty_I], A := fun ((xs, n) : List Int × Int) => { cs := [.own 7 3 ty_I, .dat 8 ty_I], inv := fun ((row, k) : List Int × Int) => 0 ≤ k ∧ k ≤ n ∧ (0 < n → 0 < k) ∧ row = List.replicate k.toNat (xs.getD 0 0) ++ List.replicate (n - k).toNat 0, mu := fun ((_, k) : List Int × Int) => (n - k).toNat } }
  | _ => none
def sp_repeatI : Spec := { Ts := [.arr ty_I, ty_I], Rs := [.own 3 ty_I], pre := fun ((xs, n) : List Int × Int) => xs.length = 1 ∧ 0 ≤ n ∧ n ≤ 1000, F := fun ((xs, n) : List Int × Int) => List.replicate n.toNat (xs.getD 0 0) }
def pv_repeatI : Prop :=
    ∀ (x : List Int × Int), (x.fst.length * (8 : Nat) ≤ big ∧ ∀ (x_1 : Int), x_1 ∈ x.fst → InR IntKind.i64 x_1) ∧ InR IntKind.i64 x.snd → x.fst.length = (1 : Nat) ∧ (0 : Int) ≤ x.snd ∧ x.snd ≤ (1000 : Int) → (decide (x.snd < (0 : Int)) = true → False) ∧ (decide (x.snd < (0 : Int)) = false → (IntKind.u64.wrap (↑x.fst.length : Int) = (1 : Int) ∧ IntKind.u64.wrap x.snd ≤ (1000 : Int)) ∧ ((decide ((0 : Int) < (0 : Int)) || decide ((9223372036854775807 : Int) < IntKind.u64.wrap x.snd)) = true → False) ∧ ((decide ((0 : Int) < (0 : Int)) || decide ((9223372036854775807 : Int) < IntKind.u64.wrap x.snd)) = false → (0 : Int) ≤ IntKind.i64.wrap (IntKind.u64.wrap x.snd) ∧ (IntKind.i64.wrap (IntKind.u64.wrap x.snd)).toNat * (8 : Nat) ≤ big ∧ (0 : Nat) + (List.replicate (IntKind.i64.wrap (IntKind.u64.wrap x.snd)).toNat (0 : Int)).length ≤ (List.replicate (IntKind.i64.wrap (IntKind.u64.wrap x.snd)).toNat (0 : Int)).length ∧ ((0 : Int) ≤ (↑(min x.fst.length (List.replicate (IntKind.i64.wrap (IntKind.u64.wrap x.snd)).toNat (0 : Int)).length) : Int) ∧ (↑(min x.fst.length (List.replicate (IntKind.i64.wrap (IntKind.u64.wrap x.snd)).toNat (0 : Int)).length) : Int) ≤ x.snd ∧ ((0 : Int) < x.snd → (0 : Int) < (↑(min x.fst.length (List.replicate (IntKind.i64.wrap (IntKind.u64.wrap x.snd)).toNat (0 : Int)).length) : Int)) ∧ List.take (0 : Nat) (List.replicate (IntKind.i64.wrap (IntKind.u64.wrap x.snd)).toNat (0 : Int)) ++ (List.take (min x.fst.length (List.replicate (IntKind.i64.wrap (IntKind.u64.wrap x.snd)).toNat (0 : Int)).length) x.fst ++ List.drop ((0 : Nat) + min x.fst.length (List.replicate (IntKind.i64.wrap (IntKind.u64.wrap x.snd)).toNat (0 : Int)).length) (List.replicate (IntKind.i64.wrap (IntKind.u64.wrap x.snd)).toNat (0 : Int))) = List.replicate (↑(min x.fst.length (List.replicate (IntKind.i64.wrap (IntKind.u64.wrap x.snd)).toNat (0 : Int)).length) : Int).toNat (x.fst.getD (0 : Nat) (0 : Int)) ++ List.replicate (x.snd - (↑(min x.fst.length (List.replicate (IntKind.i64.wrap (IntKind.u64.wrap x.snd)).toNat (0 : Int)).length) : Int)).toNat (0 : Int)) ∧ ∀ (x_1 : List Int × Int), (0 : Int) ≤ x_1.snd ∧ x_1.snd ≤ x.snd ∧ ((0 : Int) < x.snd → (0 : Int) < x_1.snd) ∧ x_1.fst = List.replicate x_1.snd.toNat (x.fst.getD (0 : Nat) (0 : Int)) ++ List.replicate (x.snd - x_1.snd).toNat (0 : Int) → (decide (x_1.snd < (↑x_1.fst.length : Int)) = true → (0 : Int) ≤ x_1.snd ∧ x_1.snd ≤ (↑x_1.fst.length : Int) ∧ (0 : Int) ≤ x_1.snd ∧ x_1.snd ≤ (↑x_1.fst.length : Int) ∧ (0 : Nat) + x_1.snd.toNat ≤ x_1.fst.length ∧ x_1.snd.toNat + (x_1.fst.length - x_1.snd.toNat) ≤ x_1.fst.length ∧ x_1.snd = x_1.snd ∧ InR IntKind.i64 (x_1.snd + (↑(min (List.take x_1.snd.toNat (List.drop (0 : Nat) x_1.fst)).length (x_1.fst.length - x_1.snd.toNat)) : Int)) ∧ ((0 : Int) ≤ x_1.snd + (↑(min (List.take x_1.snd.toNat (List.drop (0 : Nat) x_1.fst)).length (x_1.fst.length - x_1.snd.toNat)) : Int) ∧ x_1.snd + (↑(min (List.take x_1.snd.toNat (List.drop (0 : Nat) x_1.fst)).length (x_1.fst.length - x_1.snd.toNat)) : Int) ≤ x.snd ∧ ((0 : Int) < x.snd → (0 : Int) < x_1.snd + (↑(min (List.take x_1.snd.toNat (List.drop (0 : Nat) x_1.fst)).length (x_1.fst.length - x_1.snd.toNat)) : Int)) ∧ List.take x_1.snd.toNat x_1.fst ++ (List.take (min (List.take x_1.snd.toNat (List.drop (0 : Nat) x_1.fst)).length (x_1.fst.length - x_1.snd.toNat)) (List.take x_1.snd.toNat (List.drop (0 : Nat) x_1.fst)) ++ List.drop (x_1.snd.toNat + min (List.take x_1.snd.toNat (List.drop (0 : Nat) x_1.fst)).length (x_1.fst.length - x_1.snd.toNat)) x_1.fst) = List.replicate (x_1.snd + (↑(min (List.take x_1.snd.toNat (List.drop (0 : Nat) x_1.fst)).length (x_1.fst.length - x_1.snd.toNat)) : Int)).toNat (x.fst.getD (0 : Nat) (0 : Int)) ++ List.replicate (x.snd - (x_1.snd + (↑(min (List.take x_1.snd.toNat (List.drop (0 : Nat) x_1.fst)).length (x_1.fst.length - x_1.snd.toNat)) : Int))).toNat (0 : Int)) ∧ (x.snd - (x_1.snd + (↑(min (List.take x_1.snd.toNat (List.drop (0 : Nat) x_1.fst)).length (x_1.fst.length - x_1.snd.toNat)) : Int))).toNat < (x.snd - x_1.snd).toNat) ∧ (decide (x_1.snd < (↑x_1.fst.length : Int)) = false → x_1.fst = List.replicate x.snd.toNat (x.fst.getD (0 : Nat) (0 : Int)) ∧ True)))
theorem vcp_repeatI : pv_repeatI := by
  unfold pv_repeatI
  intro ⟨xs, n⟩ _ ⟨h1, h2, h3⟩
  simp only at h1 h2 h3 ⊢
  obtain ⟨v, rfl⟩ : ∃ v, xs = [v] := by
    match xs, h1 with
    | [v], _ => exact ⟨v, rfl⟩
  have e1 : IntKind.u64.wrap n = n := wrapU h2 (by omega)
  have e2 : IntKind.i64.wrap n = n := wrapI (by omega) (by omega)
  have e3 : IntKind.u64.wrap (([v].length : Nat) : Int) = 1 := wrapU (by simp) (by simp)
  have e4 : [v].getD 0 0 = v := rfl
  rw [e1, e2, e3, e4]
  refine ⟨fun h => absurd (of_decide_eq_true h) (by omega), fun _ => ⟨⟨rfl, by omega⟩, fun h => ?_, fun _ => ⟨h2, by unfold big; omega, by omega, ?_, fun ⟨row, k⟩ ⟨k0, kn, kp, kr⟩ => ⟨fun hlt => ?_, fun hge => ?_⟩⟩⟩⟩
  · simp only [Bool.or_eq_true, decide_eq_true_eq] at h
    omega
  · by_cases hn : 0 < n
    · have hm : min [v].length (List.replicate n.toNat (0 : Int)).length = 1 := by
        rw [List.length_replicate, List.length_singleton]; omega
      rw [hm]
      refine ⟨by omega, by omega, by omega, ?_⟩
      rw [List.take_zero, List.nil_append]
      exact repeat_first hn
    · have hz : n = 0 := by omega
      subst hz
      simp
  · simp only at k0 kn kp kr hlt ⊢
    have hl : (row.length : Int) = n := by rw [kr]; simp; omega
    have hlt := of_decide_eq_true hlt
    have htl : (List.take k.toNat row).length = k.toNat := by rw [List.length_take]; omega
    have hmin : min (List.take k.toNat row).length (row.length - k.toNat) = min k.toNat (n - k).toNat := by rw [htl]; omega
    rw [List.drop_zero, hmin, repeat_step k0 kn kr rfl]
    simp only [InR]
    exact ⟨by omega, by omega, by omega, by omega, by omega, by omega, by first | rfl | trivial, by omega, ⟨by omega, by omega, by omega, by first | rfl | trivial⟩, by omega⟩
  · simp only at k0 kn kp kr hge ⊢
    have hl : (row.length : Int) = n := by rw [kr]; simp; omega
    have hge := of_decide_eq_false hge
    have hk : k = n := by omega
    refine ⟨?_, trivial⟩
    rw [kr, hk]
    simp
theorem e_repeatI : pv_repeatI = (fnVC Try.prog (tbl [(155, sp_mul)]) an_repeatI Try.f117 sp_repeatI) := by kernel_rfl
theorem vc_repeatI : fnVC Try.prog (tbl [(155, sp_mul)]) an_repeatI Try.f117 sp_repeatI := @Eq.mp _ _ @e_repeatI @vcp_repeatI
theorem ok_repeatI : sp_repeatI.ok Try.prog 117 := fn_sound (P := Try.prog) (ss := tbl [(155, sp_mul)]) (ann := an_repeatI) (f := 117) (fn := Try.f117) (s := sp_repeatI) (tbl_cons ok_mul tbl_nil) Try.func117 @vc_repeatI

theorem fill_zeros (w : Int) : fillL (List.replicate w.toNat 0) 0 w 0 w = List.replicate w.toNat 0 := by
  unfold fillL putAt
  simp

def newArena (w : Int) : List Int := if 0 < w then (List.replicate w.toNat 0).set 0 (headWord (0, w - 1, 0, true)) else List.replicate w.toNat 0
def newStoreF (w r h : Int) : StoreD × Int := if w < 0 ∨ 256 < w then (([], [], [], []), 4) else if r < 0 ∨ 32 < r then (([], [], [], []), 4) else if h < 0 ∨ 16 < h then (([], [], [], []), 4) else ((newArena w, List.replicate r.toNat (-1), [], List.replicate h.toNat (0, false, 0)), 0)
def sp_stNew : Spec := { Ts := [ty_I, ty_I, ty_I], Rs := [.dat ty_Store, .dat ty_I], al := true, pre := fun _ => True, F := fun ((w, r, h) : Int × Int × Int) => newStoreF w r h }
def pv_stNew : Prop :=
    ∀ (x : Int × Int × Int), InR IntKind.i64 x.fst ∧ InR IntKind.i64 x.snd.fst ∧ InR IntKind.i64 x.snd.snd → True → True ∧ (decide ((newF x.fst).snd ≠ (0 : Int)) = true → (([] : List Int), ([] : List Int), ([] : List (Int × Int)), ([] : List (Int × Bool × Int))) = (newStoreF x.fst x.snd.fst x.snd.snd).fst ∧ (newF x.fst).snd = (newStoreF x.fst x.snd.fst x.snd.snd).snd ∧ True) ∧ (decide ((newF x.fst).snd ≠ (0 : Int)) = false → ((decide (x.snd.fst < (0 : Int)) || decide ((32 : Int) < x.snd.fst)) = true → (([] : List Int), ([] : List Int), ([] : List (Int × Int)), ([] : List (Int × Bool × Int))) = (newStoreF x.fst x.snd.fst x.snd.snd).fst ∧ (4 : Int) = (newStoreF x.fst x.snd.fst x.snd.snd).snd ∧ True) ∧ ((decide (x.snd.fst < (0 : Int)) || decide ((32 : Int) < x.snd.fst)) = false → True ∧ (decide ((newHandsF x.snd.snd).snd ≠ (0 : Int)) = true → (([] : List Int), ([] : List Int), ([] : List (Int × Int)), ([] : List (Int × Bool × Int))) = (newStoreF x.fst x.snd.fst x.snd.snd).fst ∧ (newHandsF x.snd.snd).snd = (newStoreF x.fst x.snd.fst x.snd.snd).snd ∧ True) ∧ (decide ((newHandsF x.snd.snd).snd ≠ (0 : Int)) = false → (decide ((0 : Int) < x.fst) = true → InR IntKind.i64 (x.fst - (1 : Int)) ∧ True ∧ (0 : Int) ≤ (0 : Int) ∧ (0 : Int) < (↑(newF x.fst).fst.length : Int) ∧ Int.toNat (0 : Int) < (newF x.fst).fst.length ∧ ([(-1 : Int)].length = (1 : Nat) ∧ (0 : Int) ≤ x.snd.fst ∧ x.snd.fst ≤ (1000 : Int)) ∧ ((newF x.fst).fst.set (Int.toNat (0 : Int)) (if headFault ((0 : Int), x.fst - (1 : Int), (0 : Int), true) = (0 : Int) then headWord ((0 : Int), x.fst - (1 : Int), (0 : Int), true) else (0 : Int)), List.replicate x.snd.fst.toNat ([(-1 : Int)].getD (0 : Nat) (0 : Int)), ([] : List (Int × Int)), (newHandsF x.snd.snd).fst) = (newStoreF x.fst x.snd.fst x.snd.snd).fst ∧ (0 : Int) = (newStoreF x.fst x.snd.fst x.snd.snd).snd ∧ True) ∧ (decide ((0 : Int) < x.fst) = false → ([(-1 : Int)].length = (1 : Nat) ∧ (0 : Int) ≤ x.snd.fst ∧ x.snd.fst ≤ (1000 : Int)) ∧ ((newF x.fst).fst, List.replicate x.snd.fst.toNat ([(-1 : Int)].getD (0 : Nat) (0 : Int)), ([] : List (Int × Int)), (newHandsF x.snd.snd).fst) = (newStoreF x.fst x.snd.fst x.snd.snd).fst ∧ (0 : Int) = (newStoreF x.fst x.snd.fst x.snd.snd).snd ∧ True))))
theorem vcp_stNew : pv_stNew := by
  unfold pv_stNew
  intro ⟨w, r, h⟩ _ _
  simp only
  have hF : newStoreF w r h = if w < 0 ∨ 256 < w then (([], [], [], []), 4) else if r < 0 ∨ 32 < r then (([], [], [], []), 4) else if h < 0 ∨ 16 < h then (([], [], [], []), 4) else ((newArena w, List.replicate r.toNat (-1), [], List.replicate h.toNat (0, false, 0)), 0) := rfl
  have hW : newF w = if w < 0 ∨ 256 < w then ([], 4) else (List.replicate w.toNat 0, 0) := rfl
  have hH : newHandsF h = if h < 0 ∨ 16 < h then ([], 4) else (List.replicate h.toNat (0, false, 0), 0) := rfl
  by_cases cw : w < 0 ∨ 256 < w
  · rw [if_pos cw] at hW hF
    rw [hW, hF]
    exact ⟨trivial, fun _ => ⟨by first | rfl | trivial, by first | rfl | trivial, trivial⟩, fun hn => by simp at hn⟩
  rw [if_neg cw] at hW hF
  rw [hW]
  refine ⟨trivial, fun hn => by simp at hn, fun _ => ⟨fun hr => ?_, fun hr => ?_⟩⟩
  · rw [hF, if_pos (by simpa using hr)]
    exact ⟨by first | rfl | trivial, by first | rfl | trivial, trivial⟩
  have hr : ¬ (r < 0 ∨ 32 < r) := by simpa using hr
  rw [if_neg hr] at hF
  by_cases ch : h < 0 ∨ 16 < h
  · rw [if_pos ch] at hH hF
    rw [hH, hF]
    exact ⟨trivial, fun _ => ⟨by first | rfl | trivial, by first | rfl | trivial, trivial⟩, fun hn => by simp at hn⟩
  rw [if_neg ch] at hH hF
  rw [hH, hF]
  refine ⟨trivial, fun hn => by simp at hn, fun _ => ⟨fun h0 => ?_, fun h0 => ?_⟩⟩
  · have h0 := of_decide_eq_true h0
    have hhf : headFault (0, w - 1, 0, true) = 0 := by simp [headFault, headLong]; omega
    rw [if_pos hhf]
    simp only [InR, List.length_replicate]
    refine ⟨by omega, trivial, by omega, by omega, by simp; omega, ⟨rfl, by omega, by omega⟩, ?_, by first | rfl | trivial, trivial⟩
    unfold newArena
    rw [if_pos h0]
    rfl
  · have h0 := of_decide_eq_false h0
    refine ⟨⟨rfl, by omega, by omega⟩, ?_, by first | rfl | trivial, trivial⟩
    unfold newArena
    rw [if_neg h0]
    rfl
theorem e_stNew : pv_stNew = (fnVC Try.prog (tbl [(75, sp_wordNew), (116, sp_handNew), (76, sp_headWord), (117, sp_repeatI)]) an_0 Try.f53 sp_stNew) := by kernel_rfl
theorem vc_stNew : fnVC Try.prog (tbl [(75, sp_wordNew), (116, sp_handNew), (76, sp_headWord), (117, sp_repeatI)]) an_0 Try.f53 sp_stNew := @Eq.mp _ _ @e_stNew @vcp_stNew
theorem ok_stNew : sp_stNew.ok Try.prog 53 := fn_sound (P := Try.prog) (ss := tbl [(75, sp_wordNew), (116, sp_handNew), (76, sp_headWord), (117, sp_repeatI)]) (ann := an_0) (f := 53) (fn := Try.f53) (s := sp_stNew) (tbl_cons ok_wordNew (tbl_cons ok_handNew (tbl_cons ok_headWord (tbl_cons ok_repeatI tbl_nil)))) Try.func53 @vc_stNew

def sp_rEmptiedD : Spec := { Ts := [.arr ty_W, ty_I, ty_I], Rs := [.dat (.arr ty_W)], al := true, pre := fun ((a, at_, n) : List Int × Int × Int) => layPre a at_ n, F := fun ((a, at_, n) : List Int × Int × Int) => emptiedL a at_ n }
def pv_rEmptiedD : Prop :=
    ∀ (x : List Int × Int × Int), (x.fst.length * (8 : Nat) ≤ big ∧ ∀ (x_1 : Int), x_1 ∈ x.fst → InR IntKind.u64 x_1) ∧ InR IntKind.i64 x.snd.fst ∧ InR IntKind.i64 x.snd.snd → layPre x.fst x.snd.fst x.snd.snd → True ∧ ((0 : Int) ≤ (0 : Int) ∧ (0 : Int) ≤ x.snd.snd ∧ layPre x.fst x.snd.fst x.snd.snd ∧ x.fst = fillL x.fst x.snd.fst x.snd.snd (0 : Int) (0 : Int)) ∧ ∀ (x_1 : List Int × Int), (0 : Int) ≤ x_1.snd ∧ x_1.snd ≤ x.snd.snd ∧ layPre x.fst x.snd.fst x.snd.snd ∧ x_1.fst = fillL x.fst x.snd.fst x.snd.snd (0 : Int) x_1.snd → (decide (x_1.snd < x.snd.snd) = true → InR IntKind.i64 (x.snd.fst + x_1.snd) ∧ (0 : Int) ≤ x.snd.fst + x_1.snd ∧ x.snd.fst + x_1.snd < (↑x_1.fst.length : Int) ∧ (x.snd.fst + x_1.snd).toNat < x_1.fst.length ∧ InR IntKind.i64 (x_1.snd + (1 : Int)) ∧ ((0 : Int) ≤ x_1.snd + (1 : Int) ∧ x_1.snd + (1 : Int) ≤ x.snd.snd ∧ layPre x.fst x.snd.fst x.snd.snd ∧ x_1.fst.set (x.snd.fst + x_1.snd).toNat (0 : Int) = fillL x.fst x.snd.fst x.snd.snd (0 : Int) (x_1.snd + (1 : Int))) ∧ (x.snd.snd - (x_1.snd + (1 : Int))).toNat < (x.snd.snd - x_1.snd).toNat) ∧ (decide (x_1.snd < x.snd.snd) = false → (decide ((0 : Int) < x.snd.snd) = true → ((1 : Int) ≤ x.snd.snd ∧ x.snd.snd ≤ (256 : Int)) ∧ (0 : Int) ≤ x.snd.fst ∧ x.snd.fst < (↑x_1.fst.length : Int) ∧ x.snd.fst.toNat < x_1.fst.length ∧ x_1.fst.set x.snd.fst.toNat (headWord ((0 : Int), x.snd.snd - (1 : Int), (0 : Int), true)) = emptiedL x.fst x.snd.fst x.snd.snd ∧ True) ∧ (decide ((0 : Int) < x.snd.snd) = false → x_1.fst = emptiedL x.fst x.snd.fst x.snd.snd ∧ True))
theorem vcp_rEmptiedD : pv_rEmptiedD := by
  unfold pv_rEmptiedD
  exact vcp_rEmptied
theorem e_rEmptiedD : pv_rEmptiedD = (fnVC Try.prog (tbl [(34, sp_refClone), (80, sp_rFreeHead), (39, sp_rEmptied)]) an_rEmptied Try.f39 sp_rEmptiedD) := by kernel_rfl
theorem vc_rEmptiedD : fnVC Try.prog (tbl [(34, sp_refClone), (80, sp_rFreeHead), (39, sp_rEmptied)]) an_rEmptied Try.f39 sp_rEmptiedD := @Eq.mp _ _ @e_rEmptiedD @vcp_rEmptiedD
theorem ok_rEmptiedD : sp_rEmptiedD.ok Try.prog 39 := fn_sound (P := Try.prog) (ss := tbl [(34, sp_refClone), (80, sp_rFreeHead), (39, sp_rEmptied)]) (ann := an_rEmptied) (f := 39) (fn := Try.f39) (s := sp_rEmptiedD) (tbl_cons ok_refClone (tbl_cons ok_rFreeHead (tbl_cons ok_rEmptied tbl_nil))) Try.func39 @vc_rEmptiedD

def an_lawStoreNews : Nat → Option LoopGen
  | 8 => some { rd := [.boxS 11 [.dat (.arr ty_W), .own 3 ty_I, .dat (.arr ty_Pin), .dat (.arr ty_Slot)], .dat 60 ty_I], A := fun ((b0, n) : StoreD × Int) => { cs := [.boxS 11 [.dat (.arr ty_W), .own 3 ty_I, .dat (.arr ty_Pin), .dat (.arr ty_Slot)], .dat 61 ty_I], inv := fun ((b, i) : StoreD × Int) => 0 ≤ i ∧ i ≤ n ∧ b = (b0.1, List.replicate i.toNat (-1), b0.2.2.1, b0.2.2.2), mu := fun ((_, i) : StoreD × Int) => (n - i).toNat } }
  | _ => none
def sp_lawStoreNews : Spec := sp_law [ty_I, ty_I, ty_I, ty_Store]
def pv_lawStoreNews : Prop :=
    ∀ (x : Int × Int × Int × List Int × List Int × List (Int × Int) × List (Int × Bool × Int)), (InR IntKind.i64 x.fst ∧ InR IntKind.i64 x.snd.fst ∧ InR IntKind.i64 x.snd.snd.fst ∧ (x.snd.snd.snd.fst.length * (8 : Nat) ≤ big ∧ ∀ (x_1 : Int), x_1 ∈ x.snd.snd.snd.fst → InR IntKind.u64 x_1) ∧ (x.snd.snd.snd.snd.fst.length * (8 : Nat) ≤ big ∧ ∀ (x_1 : Int), x_1 ∈ x.snd.snd.snd.snd.fst → InR IntKind.i64 x_1) ∧ (x.snd.snd.snd.snd.snd.fst.length * ((8 : Nat) + (8 : Nat)) ≤ big ∧ ∀ (x_1 : Int × Int), x_1 ∈ x.snd.snd.snd.snd.snd.fst → InR IntKind.i64 x_1.fst ∧ InR IntKind.i64 x_1.snd) ∧ x.snd.snd.snd.snd.snd.snd.length * ((8 : Nat) + ((8 : Nat) + (8 : Nat))) ≤ big ∧ ∀ (x_1 : Int × Bool × Int), x_1 ∈ x.snd.snd.snd.snd.snd.snd → InR IntKind.i64 x_1.fst ∧ True ∧ InR IntKind.i64 x_1.snd.snd) → (True ∧ True ∧ True ∧ (x.snd.snd.snd.fst.length * (8 : Nat) ≤ (140737488351232 : Nat) ∧ ∀ (x_1 : Int), x_1 ∈ x.snd.snd.snd.fst → sp_room ty_W x_1) ∧ (x.snd.snd.snd.snd.fst.length * (8 : Nat) ≤ (140737488351232 : Nat) ∧ ∀ (x_1 : Int), x_1 ∈ x.snd.snd.snd.snd.fst → sp_room ty_I x_1) ∧ (x.snd.snd.snd.snd.snd.fst.length * ((8 : Nat) + (8 : Nat)) ≤ (140737488351232 : Nat) ∧ ∀ (x_1 : Int × Int), x_1 ∈ x.snd.snd.snd.snd.snd.fst → sp_room ty_Pin x_1) ∧ x.snd.snd.snd.snd.snd.snd.length * ((8 : Nat) + ((8 : Nat) + (8 : Nat))) ≤ (140737488351232 : Nat) ∧ ∀ (x_1 : Int × Bool × Int), x_1 ∈ x.snd.snd.snd.snd.snd.snd → sp_room ty_Slot x_1) → True ∧ True ∧ True ∧ (decide (storeF x.snd.snd.snd ≠ storeF x.snd.snd.snd) = true → false = true ∧ True) ∧ (decide (storeF x.snd.snd.snd ≠ storeF x.snd.snd.snd) = false → ((decide (x.fst < (0 : Int)) || decide ((256 : Int) < x.fst) || decide (x.snd.fst < (0 : Int)) || decide ((32 : Int) < x.snd.fst) || decide (x.snd.snd.fst < (0 : Int)) || decide ((16 : Int) < x.snd.snd.fst)) = true → True ∧ (decide ((newStoreF x.fst x.snd.fst x.snd.snd.fst).fst = (([] : List Int), ([] : List Int), ([] : List (Int × Int)), ([] : List (Int × Bool × Int)))) && decide ((newStoreF x.fst x.snd.fst x.snd.snd.fst).snd = (4 : Int))) = true ∧ True) ∧ ((decide (x.fst < (0 : Int)) || decide ((256 : Int) < x.fst) || decide (x.snd.fst < (0 : Int)) || decide ((32 : Int) < x.snd.fst) || decide (x.snd.snd.fst < (0 : Int)) || decide ((16 : Int) < x.snd.snd.fst)) = false → (0 : Int) ≤ x.fst ∧ x.fst.toNat * (8 : Nat) ≤ big ∧ layPre (List.replicate x.fst.toNat (0 : Int)) (0 : Int) x.fst ∧ (0 : Int) ≤ x.snd.snd.fst ∧ x.snd.snd.fst.toNat * ((8 : Nat) + ((8 : Nat) + (8 : Nat))) ≤ big ∧ x.fst = x.fst ∧ (0 : Int) ≤ x.fst ∧ x.fst.toNat * (8 : Nat) ≤ big ∧ List.replicate x.fst.toNat (0 : Int) = List.replicate x.fst.toNat (0 : Int) ∧ x.fst = x.fst ∧ layPre (List.replicate x.fst.toNat (0 : Int)) (0 : Int) x.fst ∧ emptiedL (List.replicate x.fst.toNat (0 : Int)) (0 : Int) x.fst = emptiedL (List.replicate x.fst.toNat (0 : Int)) (0 : Int) x.fst ∧ x.snd.snd.fst = x.snd.snd.fst ∧ (0 : Int) ≤ x.snd.snd.fst ∧ x.snd.snd.fst.toNat * ((8 : Nat) + ((8 : Nat) + (8 : Nat))) ≤ big ∧ List.replicate x.snd.snd.fst.toNat ((0 : Int), false, (0 : Int)) = List.replicate x.snd.snd.fst.toNat ((0 : Int), false, (0 : Int)) ∧ emptiedL (List.replicate x.fst.toNat (0 : Int)) (0 : Int) x.fst = emptiedL (List.replicate x.fst.toNat (0 : Int)) (0 : Int) x.fst ∧ List.replicate x.snd.snd.fst.toNat ((0 : Int), false, (0 : Int)) = List.replicate x.snd.snd.fst.toNat ((0 : Int), false, (0 : Int)) ∧ ((0 : Int) ≤ (0 : Int) ∧ (0 : Int) ≤ x.snd.fst ∧ (emptiedL (List.replicate x.fst.toNat (0 : Int)) (0 : Int) x.fst, ([] : List Int), ([] : List (Int × Int)), List.replicate x.snd.snd.fst.toNat ((0 : Int), false, (0 : Int))) = (emptiedL (List.replicate x.fst.toNat (0 : Int)) (0 : Int) x.fst, List.replicate (Int.toNat (0 : Int)) (-1 : Int), (([] : List Int), ([] : List (Int × Int)), List.replicate x.snd.snd.fst.toNat ((0 : Int), false, (0 : Int))).snd)) ∧ ∀ (x_1 : (List Int × List Int × List (Int × Int) × List (Int × Bool × Int)) × Int), (0 : Int) ≤ x_1.snd ∧ x_1.snd ≤ x.snd.fst ∧ x_1.fst = (emptiedL (List.replicate x.fst.toNat (0 : Int)) (0 : Int) x.fst, List.replicate x_1.snd.toNat (-1 : Int), (([] : List Int), ([] : List (Int × Int)), List.replicate x.snd.snd.fst.toNat ((0 : Int), false, (0 : Int))).snd) → (decide (x_1.snd < x.snd.fst) = true → (x_1.fst.snd.fst.length + [(-1 : Int)].length) * (8 : Nat) ≤ big ∧ InR IntKind.i64 (x_1.snd + (1 : Int)) ∧ ((0 : Int) ≤ x_1.snd + (1 : Int) ∧ x_1.snd + (1 : Int) ≤ x.snd.fst ∧ (x_1.fst.fst, x_1.fst.snd.fst ++ [(-1 : Int)], x_1.fst.snd.snd) = (emptiedL (List.replicate x.fst.toNat (0 : Int)) (0 : Int) x.fst, List.replicate (x_1.snd + (1 : Int)).toNat (-1 : Int), (([] : List Int), ([] : List (Int × Int)), List.replicate x.snd.snd.fst.toNat ((0 : Int), false, (0 : Int))).snd)) ∧ (x.snd.fst - (x_1.snd + (1 : Int))).toNat < (x.snd.fst - x_1.snd).toNat) ∧ (decide (x_1.snd < x.snd.fst) = false → (decide ((newStoreF x.fst x.snd.fst x.snd.snd.fst).snd = (0 : Int)) = true → True) ∧ (decide ((newStoreF x.fst x.snd.fst x.snd.snd.fst).snd = (0 : Int)) && decide ((newStoreF x.fst x.snd.fst x.snd.snd.fst).fst = x_1.fst)) = true ∧ True)))
theorem vcp_lawStoreNews : pv_lawStoreNews := by
  unfold pv_lawStoreNews
  intro ⟨w, r, h, s⟩ _ _
  simp only
  have hF : newStoreF w r h = if w < 0 ∨ 256 < w then (([], [], [], []), 4) else if r < 0 ∨ 32 < r then (([], [], [], []), 4) else if h < 0 ∨ 16 < h then (([], [], [], []), 4) else ((newArena w, List.replicate r.toNat (-1), [], List.replicate h.toNat (0, false, 0)), 0) := rfl
  refine ⟨trivial, trivial, trivial, fun hn => absurd rfl (of_decide_eq_true hn), fun _ => ⟨fun hb => ?_, fun hb => ?_⟩⟩
  · simp only [Bool.or_eq_true, decide_eq_true_eq] at hb
    have : newStoreF w r h = (([], [], [], []), 4) := by
      rw [hF]
      by_cases c1 : w < 0 ∨ 256 < w
      · rw [if_pos c1]
      · rw [if_neg c1]
        by_cases c2 : r < 0 ∨ 32 < r
        · rw [if_pos c2]
        · rw [if_neg c2, if_pos (by omega)]
    rw [this]
    simp
  · simp only [Bool.or_eq_false_iff, decide_eq_false_iff_not] at hb
    rw [if_neg (by omega), if_neg (by omega), if_neg (by omega)] at hF
    have hem : emptiedL (List.replicate w.toNat 0) 0 w = newArena w := by
      unfold emptiedL newArena
      rw [fill_zeros]
      rfl
    have hlp : layPre (List.replicate w.toNat 0) 0 w := by
      unfold layPre
      rw [List.length_replicate]
      omega
    rw [hem, hF]
    unfold big
    refine ⟨by omega, by omega, hlp, by omega, by omega, by first | rfl | trivial, by omega, by omega, by first | rfl | trivial, by first | rfl | trivial, hlp, by first | rfl | trivial, by first | rfl | trivial, by omega, by omega, by first | rfl | trivial, by first | rfl | trivial, by first | rfl | trivial, ⟨by omega, by omega, by first | rfl | trivial⟩, fun ⟨b, i⟩ ⟨i0, i1, i2⟩ => ⟨fun hlt => ?_, fun hge => ?_⟩⟩
    · simp only at i0 i1 i2 hlt ⊢
      have hlt := of_decide_eq_true hlt
      subst i2
      simp only [InR, List.length_replicate, List.length_singleton]
      refine ⟨by omega, by omega, ⟨by omega, by omega, ?_⟩, by omega⟩
      rw [show (i + 1).toNat = i.toNat + 1 by omega, List.replicate_succ']
    · simp only at i0 i1 i2 hge ⊢
      have hge := of_decide_eq_false hge
      subst i2
      rw [show i = r by omega]
      simp
theorem e_lawStoreNews : pv_lawStoreNews = (fnVC Try.prog (tbl [(53, sp_stNew), (54, sp_stCheck), (48, sp_rStoreFault), (52, sp_rSameStore), (39, sp_rEmptiedD)]) an_lawStoreNews Try.f9 sp_lawStoreNews) := by kernel_rfl
theorem vc_lawStoreNews : fnVC Try.prog (tbl [(53, sp_stNew), (54, sp_stCheck), (48, sp_rStoreFault), (52, sp_rSameStore), (39, sp_rEmptiedD)]) an_lawStoreNews Try.f9 sp_lawStoreNews := @Eq.mp _ _ @e_lawStoreNews @vcp_lawStoreNews
theorem ok_lawStoreNews : sp_lawStoreNews.ok Try.prog 9 := fn_sound (P := Try.prog) (ss := tbl [(53, sp_stNew), (54, sp_stCheck), (48, sp_rStoreFault), (52, sp_rSameStore), (39, sp_rEmptiedD)]) (ann := an_lawStoreNews) (f := 9) (fn := Try.f9) (s := sp_lawStoreNews) (tbl_cons ok_stNew (tbl_cons ok_stCheck (tbl_cons ok_rStoreFault (tbl_cons ok_rSameStore (tbl_cons ok_rEmptiedD tbl_nil))))) Try.func9 @vc_lawStoreNews

end Go.Proofs.Ytbidboeemnlglaa
