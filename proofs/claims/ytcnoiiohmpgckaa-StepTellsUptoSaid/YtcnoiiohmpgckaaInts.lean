
import Derived.Test.YtcnoiiohmpgckaaFinds
import Derived.Test.YtcnoiiohmpgckaaSlices
namespace Go.Proofs.Ytcnoiiohmpgckaa
open Go
set_option maxRecDepth 100000
set_option maxHeartbeats 1000000
def an_in : LoopGen := { rd := [], A := fun _ => { cs := [], inv := fun _ => True, mu := fun _ => 0 } }
def place (l : List Int) (n : Int) : Int := findFrom (fun x => decide (x = n)) 0 l
def an_rPlace : Nat → Option LoopGen
  | 2 => some { rd := [.dat 7 (.arr ty_I), .dat 1 ty_I], A := fun ((l, n) : List Int × Int) => { cs := [.dat 9 ty_I], inv := fun (i : Int) => 0 ≤ i ∧ i ≤ l.length ∧ findFrom (fun x => decide (x = n)) i (l.drop i.toNat) = place l n, mu := fun (i : Int) => (l.length - i).toNat } }
  | _ => none
def sp_rPlace : Spec := { Ts := [.arr ty_I, ty_I], Rs := [.dat ty_I], pre := fun _ => True, F := fun ((l, n) : List Int × Int) => place l n }
def pv_rPlace : Prop :=
    ∀ (x : List Int × Int), (x.1.length * 8 ≤ big ∧ ∀ (x_1 : Int), x_1 ∈ x.1 → InR IntKind.i64 x_1) ∧ InR IntKind.i64 x.2 → True → ((0 : Int) ≤ 0 ∧ 0 ≤ (↑x.1.length : Int) ∧ findFrom (fun (x_1 : Int) => decide (x_1 = x.2)) 0 (List.drop (Int.toNat 0) x.1) = place x.1 x.2) ∧ ∀ (x_1 : Int), 0 ≤ x_1 ∧ x_1 ≤ (↑x.1.length : Int) ∧ findFrom (fun (x_2 : Int) => decide (x_2 = x.2)) x_1 (List.drop x_1.toNat x.1) = place x.1 x.2 → (decide (x_1 < (↑x.1.length : Int)) = true → 0 ≤ x_1 ∧ x_1 < (↑x.1.length : Int) ∧ (decide (x.1.getD x_1.toNat 0 = x.2) = true → x_1 = place x.1 x.2 ∧ True) ∧ (decide (x.1.getD x_1.toNat 0 = x.2) = false → InR IntKind.i64 (x_1 + 1) ∧ (0 ≤ x_1 + 1 ∧ x_1 + 1 ≤ (↑x.1.length : Int) ∧ findFrom (fun (x_2 : Int) => decide (x_2 = x.2)) (x_1 + 1) (List.drop (x_1 + 1).toNat x.1) = place x.1 x.2) ∧ ((↑x.1.length : Int) - (x_1 + 1)).toNat < ((↑x.1.length : Int) - x_1).toNat)) ∧ (decide (x_1 < (↑x.1.length : Int)) = false → (-1) = place x.1 x.2 ∧ True)
theorem vcp_rPlace : pv_rPlace := by
  unfold pv_rPlace
  intro ⟨l, n⟩ ⟨⟨hb, _⟩, _⟩ _
  unfold big at hb
  refine ⟨⟨by omega, by omega, rfl⟩, fun i ⟨h0, h1, h2⟩ => ⟨fun hlt => ?_, fun hge => ?_⟩⟩
  · have hlt : i < (l.length : Int) := by simpa using hlt
    simp only at *
    rw [drop_cons (0 : Int) h0 hlt] at h2
    simp only [findFrom] at h2
    simp only [InR]
    refine ⟨h0, hlt, fun hc => ?_, fun hc => ?_⟩
    · rw [if_pos hc] at h2
      exact ⟨h2, trivial⟩
    · rw [if_neg (by rw [hc]; simp)] at h2
      exact ⟨by omega, ⟨by omega, by omega, h2⟩, by omega⟩
  · rw [drop_end (by simpa using hge)] at h2
    exact ⟨h2, trivial⟩
theorem ok_rPlace : sp_rPlace.ok Try.prog 88 := fn_ok (ann := an_rPlace) tbl_nil Try.func88 (by kernel_rfl) vcp_rPlace
def inL (l : List Int) (n : Int) : Bool := l.any fun x => decide (x = n)
def sp_rIn : Spec := { Ts := [.arr ty_I, ty_I], Rs := [.dat .bool], pre := fun _ => True, F := fun ((l, n) : List Int × Int) => inL l n }
def pv_rIn : Prop :=
    ∀ (x : List Int × Int), (x.1.length * 8 ≤ big ∧ ∀ (x_1 : Int), x_1 ∈ x.1 → InR IntKind.i64 x_1) ∧ InR IntKind.i64 x.2 → True → True ∧ decide (0 ≤ place x.1 x.2) = inL x.1 x.2 ∧ True
theorem vcp_rIn : pv_rIn := by
  unfold pv_rIn
  intro ⟨l, n⟩ _ _
  exact ⟨trivial, findFrom_any _ l 0 (by omega), trivial⟩
theorem ok_rIn : sp_rIn.ok Try.prog 34 := fn_ok (ann := an_0) (tbl_cons ok_rPlace tbl_nil) Try.func34 (by kernel_rfl) vcp_rIn
def sp_idxI : Spec := { Ts := [.arr ty_I, ty_I], Rs := [.dat ty_I], pre := fun _ => True, F := fun ((l, v) : List Int × Int) => place l v }
def an_idxI : Nat → Option LoopGen
  | 2 => some { rd := [.dat 0 (.arr ty_I), .dat 1 ty_I], A := fun ((l, v) : List Int × Int) => { cs := [.dat 8 ty_I], inv := fun (i : Int) => 0 ≤ i ∧ i ≤ l.length ∧ findFrom (fun x => decide (x = v)) i (l.drop i.toNat) = place l v, mu := fun (i : Int) => (l.length - i).toNat } }
  | _ => none
def pv_idxI : Prop :=
    ∀ (x : List Int × Int), (x.1.length * 8 ≤ big ∧ ∀ (x_1 : Int), x_1 ∈ x.1 → InR IntKind.i64 x_1) ∧ InR IntKind.i64 x.2 → True → ((0 : Int) ≤ 0 ∧ 0 ≤ (↑x.1.length : Int) ∧ findFrom (fun (x_1 : Int) => decide (x_1 = x.2)) 0 (List.drop (Int.toNat 0) x.1) = place x.1 x.2) ∧ ∀ (x_1 : Int), 0 ≤ x_1 ∧ x_1 ≤ (↑x.1.length : Int) ∧ findFrom (fun (x_2 : Int) => decide (x_2 = x.2)) x_1 (List.drop x_1.toNat x.1) = place x.1 x.2 → (decide (x_1 < (↑x.1.length : Int)) = true → 0 ≤ x_1 ∧ x_1 < (↑x.1.length : Int) ∧ (decide (x.2 = x.1.getD x_1.toNat 0) = true → x_1 = place x.1 x.2 ∧ True) ∧ (decide (x.2 = x.1.getD x_1.toNat 0) = false → InR IntKind.i64 (x_1 + 1) ∧ (0 ≤ x_1 + 1 ∧ x_1 + 1 ≤ (↑x.1.length : Int) ∧ findFrom (fun (x_2 : Int) => decide (x_2 = x.2)) (x_1 + 1) (List.drop (x_1 + 1).toNat x.1) = place x.1 x.2) ∧ ((↑x.1.length : Int) - (x_1 + 1)).toNat < ((↑x.1.length : Int) - x_1).toNat)) ∧ (decide (x_1 < (↑x.1.length : Int)) = false → (-1) = place x.1 x.2 ∧ True)
theorem vcp_idxI : pv_idxI := by
  unfold pv_idxI
  intro ⟨l, n⟩ ⟨⟨hb, _⟩, _⟩ _
  unfold big at hb
  refine ⟨⟨by omega, by omega, rfl⟩, fun i ⟨h0, h1, h2⟩ => ⟨fun hlt => ?_, fun hge => ?_⟩⟩
  · have hlt : i < (l.length : Int) := by simpa using hlt
    simp only at *
    rw [drop_cons (0 : Int) h0 hlt] at h2
    simp only [findFrom] at h2
    simp only [InR]
    refine ⟨h0, hlt, fun hc => ?_, fun hc => ?_⟩
    · rw [if_pos (decide_eq_true (of_decide_eq_true hc).symm)] at h2
      exact ⟨h2, trivial⟩
    · rw [if_neg (fun e => of_decide_eq_false hc (of_decide_eq_true e).symm)] at h2
      exact ⟨by omega, ⟨by omega, by omega, h2⟩, by omega⟩
  · rw [drop_end (by simpa using hge)] at h2
    exact ⟨h2, trivial⟩
theorem ok_idxI : sp_idxI.ok Try.prog 146 := fn_ok (ann := an_idxI) tbl_nil Try.func146 (by kernel_rfl) vcp_idxI
def sp_hasI : Spec := { Ts := [.arr ty_I, ty_I], Rs := [.dat .bool], pre := fun _ => True, F := fun ((l, v) : List Int × Int) => inL l v }
def pv_hasI : Prop :=
    ∀ (x : List Int × Int), (x.1.length * 8 ≤ big ∧ ∀ (x_1 : Int), x_1 ∈ x.1 → InR IntKind.i64 x_1) ∧ InR IntKind.i64 x.2 → True → True ∧ decide (0 ≤ place x.1 x.2) = inL x.1 x.2 ∧ True
theorem vcp_hasI : pv_hasI := by
  unfold pv_hasI
  intro ⟨l, v⟩ _ _
  exact ⟨trivial, findFrom_any _ l 0 (by omega), trivial⟩
theorem ok_hasI : sp_hasI.ok Try.prog 85 := fn_ok (ann := an_0) (tbl_cons ok_idxI tbl_nil) Try.func85 (by kernel_rfl) vcp_hasI
def sp_idxIF : Spec := { Ts := [.arr ty_I, .fn ty_I .bool], Rs := [.dat ty_I], pre := fun ((l, g) : List Int × (Int → Prop) × (Int → Bool)) => ∀ s ∈ l, g.1 s, F := fun ((l, g) : List Int × (Int → Prop) × (Int → Bool)) => findFrom g.2 0 l }
def an_idxIF : Nat → Option LoopGen
  | 2 => some { rd := [.dat 0 (.arr ty_I), .dat 1 (.fn ty_I .bool)], A := fun ((l, g) : List Int × (Int → Prop) × (Int → Bool)) => { cs := [.dat 8 ty_I], inv := fun (i : Int) => 0 ≤ i ∧ i ≤ l.length ∧ findFrom g.2 i (l.drop i.toNat) = findFrom g.2 0 l, mu := fun (i : Int) => (l.length - i).toNat } }
  | _ => none
def pv_idxIF : Prop :=
    ∀ (x : List Int × (Int → Prop) × (Int → Bool)), (x.1.length * 8 ≤ big ∧ ∀ (x_1 : Int), x_1 ∈ x.1 → InR IntKind.i64 x_1) ∧ True → (∀ (s : Int), s ∈ x.1 → x.2.1 s) → ((0 : Int) ≤ 0 ∧ 0 ≤ (↑x.1.length : Int) ∧ findFrom x.2.2 0 (List.drop (Int.toNat 0) x.1) = findFrom x.2.2 0 x.1) ∧ ∀ (x_1 : Int), 0 ≤ x_1 ∧ x_1 ≤ (↑x.1.length : Int) ∧ findFrom x.2.2 x_1 (List.drop x_1.toNat x.1) = findFrom x.2.2 0 x.1 → (decide (x_1 < (↑x.1.length : Int)) = true → 0 ≤ x_1 ∧ x_1 < (↑x.1.length : Int) ∧ x.2.1 (x.1.getD x_1.toNat 0) ∧ (x.2.2 (x.1.getD x_1.toNat 0) = true → x_1 = findFrom x.2.2 0 x.1 ∧ True) ∧ (x.2.2 (x.1.getD x_1.toNat 0) = false → InR IntKind.i64 (x_1 + 1) ∧ (0 ≤ x_1 + 1 ∧ x_1 + 1 ≤ (↑x.1.length : Int) ∧ findFrom x.2.2 (x_1 + 1) (List.drop (x_1 + 1).toNat x.1) = findFrom x.2.2 0 x.1) ∧ ((↑x.1.length : Int) - (x_1 + 1)).toNat < ((↑x.1.length : Int) - x_1).toNat)) ∧ (decide (x_1 < (↑x.1.length : Int)) = false → (-1) = findFrom x.2.2 0 x.1 ∧ True)
theorem vcp_idxIF : pv_idxIF := by
  unfold pv_idxIF
  intro ⟨l, g⟩ ⟨⟨hl, _⟩, _⟩ hp
  unfold big at *
  refine ⟨⟨by omega, by omega, by simp⟩, fun i ⟨h0, h1, h2⟩ => ⟨fun hlt => ?_, fun hge => ?_⟩⟩
  · have hlt : i < (l.length : Int) := by simpa using hlt
    have e := drop_cons (0 : Int) h0 hlt
    have hm := hp _ (getD_mem (0 : Int) h0 hlt)
    simp only at *
    rw [e] at h2
    simp only [findFrom] at h2
    refine ⟨h0, hlt, hm, fun hc => ?_, fun hc => ?_⟩
    · rw [if_pos hc] at h2
      exact ⟨h2, trivial⟩
    · rw [if_neg (by rw [hc]; simp)] at h2
      exact ⟨by simp only [InR]; omega, ⟨by omega, by omega, h2⟩, by omega⟩
  · rw [drop_end (by simpa using hge)] at h2
    exact ⟨h2, trivial⟩
theorem ok_idxIF : sp_idxIF.ok Try.prog 153 := fn_ok (ann := an_idxIF) tbl_nil Try.func153 (by kernel_rfl) vcp_idxIF
def sp_anyI : Spec := { Ts := [.arr ty_I, .fn ty_I .bool], Rs := [.dat .bool], pre := fun ((l, g) : List Int × (Int → Prop) × (Int → Bool)) => ∀ s ∈ l, g.1 s, F := fun ((l, g) : List Int × (Int → Prop) × (Int → Bool)) => l.any g.2 }
def pv_anyI : Prop :=
    ∀ (x : List Int × (Int → Prop) × (Int → Bool)), (x.1.length * 8 ≤ big ∧ ∀ (x_1 : Int), x_1 ∈ x.1 → InR IntKind.i64 x_1) ∧ True → (∀ (s : Int), s ∈ x.1 → x.2.1 s) → (∀ (s : Int), s ∈ x.1 → x.2.1 s) ∧ decide (0 ≤ findFrom x.2.2 0 x.1) = x.1.any x.2.2 ∧ True
theorem vcp_anyI : pv_anyI := by
  unfold pv_anyI
  intro ⟨l, g⟩ _ hp
  exact ⟨hp, findFrom_any _ l 0 (by omega), trivial⟩
theorem ok_anyI : sp_anyI.ok Try.prog 108 := fn_ok (ann := an_0) (tbl_cons ok_idxIF tbl_nil) Try.func108 (by kernel_rfl) vcp_anyI
def risesL : List Int → Bool
  | x :: y :: l => decide (x < y) && risesL (y :: l)
  | _ => true
theorem risesL_short : ∀ {l : List Int}, l.length ≤ 1 → risesL l = true
  | [], _ => rfl
  | [_], _ => rfl
  | _ :: _ :: _, h => by simp at h
def an_rises : Nat → Option LoopGen
  | 2 => some { rd := [.dat 0 (.arr ty_I)], A := fun (l : List Int) => { cs := [.dat 3 ty_I], inv := fun (i : Int) => 1 ≤ i ∧ i ≤ l.length + 1 ∧ risesL (l.drop (i - 1).toNat) = risesL l, mu := fun (i : Int) => (l.length - i).toNat } }
  | _ => none
def sp_rRises : Spec := { Ts := [.arr ty_I], Rs := [.dat .bool], pre := fun _ => True, F := risesL }
def pv_rRises : Prop :=
    ∀ (x : List Int), (x.length * (8 : Nat) ≤ big ∧ ∀ (x_1 : Int), x_1 ∈ x → InR IntKind.i64 x_1) → True → ((1 : Int) ≤ (1 : Int) ∧ (1 : Int) ≤ (↑x.length : Int) + (1 : Int) ∧ risesL (List.drop ((1 : Int) - (1 : Int)).toNat x) = risesL x) ∧ ∀ (x_1 : Int), (1 : Int) ≤ x_1 ∧ x_1 ≤ (↑x.length : Int) + (1 : Int) ∧ risesL (List.drop (x_1 - (1 : Int)).toNat x) = risesL x → (decide (x_1 < (↑x.length : Int)) = true → InR IntKind.i64 (x_1 - (1 : Int)) ∧ (0 : Int) ≤ x_1 - (1 : Int) ∧ x_1 - (1 : Int) < (↑x.length : Int) ∧ (0 : Int) ≤ x_1 ∧ x_1 < (↑x.length : Int) ∧ (decide (x.getD x_1.toNat (0 : Int) ≤ x.getD (x_1 - (1 : Int)).toNat (0 : Int)) = true → false = risesL x ∧ True) ∧ (decide (x.getD x_1.toNat (0 : Int) ≤ x.getD (x_1 - (1 : Int)).toNat (0 : Int)) = false → InR IntKind.i64 (x_1 + (1 : Int)) ∧ ((1 : Int) ≤ x_1 + (1 : Int) ∧ x_1 + (1 : Int) ≤ (↑x.length : Int) + (1 : Int) ∧ risesL (List.drop (x_1 + (1 : Int) - (1 : Int)).toNat x) = risesL x) ∧ ((↑x.length : Int) - (x_1 + (1 : Int))).toNat < ((↑x.length : Int) - x_1).toNat)) ∧ (decide (x_1 < (↑x.length : Int)) = false → true = risesL x ∧ True)
theorem vcp_rRises : pv_rRises := by
  unfold pv_rRises
  intro l ⟨hb, _⟩ _
  unfold big at hb
  refine ⟨⟨by omega, by omega, rfl⟩, fun i ⟨h0, h1, h2⟩ => ⟨fun hlt => ?_, fun hge => ?_⟩⟩
  · have hlt : i < (l.length : Int) := of_decide_eq_true hlt
    have e1 := drop_cons (0 : Int) (xs := l) (i := i - 1) (by omega) (by omega)
    have e2 := drop_cons (0 : Int) (xs := l) (i := i) (by omega) hlt
    rw [show i - 1 + 1 = i by omega] at e1
    simp only [InR] at h2 ⊢
    rw [e1, e2] at h2
    simp only [risesL] at h2
    rw [← e2] at h2
    refine ⟨by omega, by omega, by omega, by omega, hlt, fun hc => ?_, fun hc => ⟨by omega, ⟨by omega, by omega, ?_⟩, by omega⟩⟩
    · have hc := of_decide_eq_true hc
      rw [← h2, decide_eq_false (by omega)]
      exact ⟨rfl, trivial⟩
    · have hc := of_decide_eq_false hc
      rw [decide_eq_true (by omega), Bool.true_and] at h2
      rw [show i + 1 - 1 = i by omega]
      exact h2
  · have hge : ¬ i < (l.length : Int) := of_decide_eq_false hge
    rw [risesL_short (by rw [List.length_drop]; omega)] at h2
    exact ⟨h2, trivial⟩
theorem ok_rRises : sp_rRises.ok Try.prog 113 := fn_ok (ann := an_rises) tbl_nil Try.func113 (by kernel_rfl) vcp_rRises
end Go.Proofs.Ytcnoiiohmpgckaa
