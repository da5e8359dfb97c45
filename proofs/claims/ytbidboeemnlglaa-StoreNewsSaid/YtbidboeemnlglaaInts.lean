/- Contracts of functions on lists of ints: the reference's Place, In; slices.Index, Contains, IndexFunc, ContainsFunc; rises. -/
import Derived.Test.YtbidboeemnlglaaFinds
import Derived.Test.YtbidboeemnlglaaSlices
namespace Go.Proofs.Ytbidboeemnlglaa
open Go
set_option maxRecDepth 100000
set_option maxHeartbeats 1000000

/-- A function that is walked through where it is called. -/
def an_in : LoopGen := { rd := [], A := fun _ => { cs := [], inv := fun _ => True, mu := fun _ => 0 } }

def place (l : List Int) (n : Int) : Int := findFrom (fun x => decide (x = n)) 0 l
def an_rPlace : Nat → Option LoopGen
  | 2 => some { rd := [.dat 7 (.arr ty_I), .dat 1 ty_I], A := fun ((l, n) : List Int × Int) => { cs := [.dat 9 ty_I], inv := fun (i : Int) => 0 ≤ i ∧ i ≤ l.length ∧ findFrom (fun x => decide (x = n)) i (l.drop i.toNat) = place l n, mu := fun (i : Int) => (l.length - i).toNat } }
  | _ => none
def sp_rPlace : Spec := { Ts := [.arr ty_I, ty_I], Rs := [.dat ty_I], pre := fun _ => True, F := fun ((l, n) : List Int × Int) => place l n }
def pv_rPlace : Prop :=
    ∀ (x : List Int × Int), (x.fst.length * (8 : Nat) ≤ big ∧ ∀ (x_1 : Int), x_1 ∈ x.fst → InR IntKind.i64 x_1) ∧ InR IntKind.i64 x.snd → True → ((0 : Int) ≤ (0 : Int) ∧ (0 : Int) ≤ (↑x.fst.length : Int) ∧ findFrom (fun (x_1 : Int) => decide (x_1 = x.snd)) (0 : Int) (List.drop (Int.toNat (0 : Int)) x.fst) = place x.fst x.snd) ∧ ∀ (x_1 : Int), (0 : Int) ≤ x_1 ∧ x_1 ≤ (↑x.fst.length : Int) ∧ findFrom (fun (x_2 : Int) => decide (x_2 = x.snd)) x_1 (List.drop x_1.toNat x.fst) = place x.fst x.snd → (decide (x_1 < (↑x.fst.length : Int)) = true → (0 : Int) ≤ x_1 ∧ x_1 < (↑x.fst.length : Int) ∧ (decide (x.fst.getD x_1.toNat (0 : Int) = x.snd) = true → x_1 = place x.fst x.snd ∧ True) ∧ (decide (x.fst.getD x_1.toNat (0 : Int) = x.snd) = false → InR IntKind.i64 (x_1 + (1 : Int)) ∧ ((0 : Int) ≤ x_1 + (1 : Int) ∧ x_1 + (1 : Int) ≤ (↑x.fst.length : Int) ∧ findFrom (fun (x_2 : Int) => decide (x_2 = x.snd)) (x_1 + (1 : Int)) (List.drop (x_1 + (1 : Int)).toNat x.fst) = place x.fst x.snd) ∧ ((↑x.fst.length : Int) - (x_1 + (1 : Int))).toNat < ((↑x.fst.length : Int) - x_1).toNat)) ∧ (decide (x_1 < (↑x.fst.length : Int)) = false → (-1 : Int) = place x.fst x.snd ∧ True)
theorem vcp_rPlace : pv_rPlace := by
  unfold pv_rPlace
  intro ⟨l, n⟩ ⟨⟨hb, _⟩, _⟩ _
  unfold big at hb
  refine ⟨⟨by omega, by omega, rfl⟩, fun i ⟨h0, h1, h2⟩ => ⟨fun hlt => ?_, fun hge => ?_⟩⟩
  · have hlt : i < (l.length : Int) := by simpa using hlt
    simp only at *
    rw [drop_cons (0 : Int) h0 hlt] at h2
    simp only [findFrom] at h2
    simp only [InR]
    refine ⟨h0, hlt, fun hc => ?_, fun hc => ?_⟩
    · rw [if_pos hc] at h2
      exact ⟨h2, trivial⟩
    · rw [if_neg (by rw [hc]; simp)] at h2
      exact ⟨by omega, ⟨by omega, by omega, h2⟩, by omega⟩
  · rw [drop_end (by simpa using hge)] at h2
    exact ⟨h2, trivial⟩
theorem e_rPlace : pv_rPlace = (fnVC Try.prog (tbl []) an_rPlace Try.f45 sp_rPlace) := by kernel_rfl
theorem vc_rPlace : fnVC Try.prog (tbl []) an_rPlace Try.f45 sp_rPlace := @Eq.mp _ _ @e_rPlace @vcp_rPlace
theorem ok_rPlace : sp_rPlace.ok Try.prog 45 := fn_sound (P := Try.prog) (ss := tbl []) (ann := an_rPlace) (f := 45) (fn := Try.f45) (s := sp_rPlace) tbl_nil Try.func45 @vc_rPlace

def inL (l : List Int) (n : Int) : Bool := l.any fun x => decide (x = n)
def sp_rIn : Spec := { Ts := [.arr ty_I, ty_I], Rs := [.dat .bool], pre := fun _ => True, F := fun ((l, n) : List Int × Int) => inL l n }
def pv_rIn : Prop :=
    ∀ (x : List Int × Int), (x.fst.length * (8 : Nat) ≤ big ∧ ∀ (x_1 : Int), x_1 ∈ x.fst → InR IntKind.i64 x_1) ∧ InR IntKind.i64 x.snd → True → True ∧ decide ((0 : Int) ≤ place x.fst x.snd) = inL x.fst x.snd ∧ True
theorem vcp_rIn : pv_rIn := by
  unfold pv_rIn
  intro ⟨l, n⟩ _ _
  exact ⟨trivial, findFrom_any _ l 0 (by omega), trivial⟩
theorem e_rIn : pv_rIn = (fnVC Try.prog (tbl [(45, sp_rPlace)]) an_0 Try.f37 sp_rIn) := by kernel_rfl
theorem vc_rIn : fnVC Try.prog (tbl [(45, sp_rPlace)]) an_0 Try.f37 sp_rIn := @Eq.mp _ _ @e_rIn @vcp_rIn
theorem ok_rIn : sp_rIn.ok Try.prog 37 := fn_sound (P := Try.prog) (ss := tbl [(45, sp_rPlace)]) (ann := an_0) (f := 37) (fn := Try.f37) (s := sp_rIn) (tbl_cons ok_rPlace tbl_nil) Try.func37 @vc_rIn

def sp_idxI : Spec := { Ts := [.arr ty_I, ty_I], Rs := [.dat ty_I], pre := fun _ => True, F := fun ((l, v) : List Int × Int) => place l v }
def an_idxI : Nat → Option LoopGen
  | 2 => some { rd := [.dat 0 (.arr ty_I), .dat 1 ty_I], A := fun ((l, v) : List Int × Int) => { cs := [.dat 8 ty_I], inv := fun (i : Int) => 0 ≤ i ∧ i ≤ l.length ∧ findFrom (fun x => decide (x = v)) i (l.drop i.toNat) = place l v, mu := fun (i : Int) => (l.length - i).toNat } }
  | _ => none

def sp_hasI : Spec := { Ts := [.arr ty_I, ty_I], Rs := [.dat .bool], pre := fun _ => True, F := fun ((l, v) : List Int × Int) => inL l v }

def sp_idxIF : Spec := { Ts := [.arr ty_I, .fn ty_I .bool], Rs := [.dat ty_I], pre := fun ((l, g) : List Int × (Int → Prop) × (Int → Bool)) => ∀ s ∈ l, g.1 s, F := fun ((l, g) : List Int × (Int → Prop) × (Int → Bool)) => findFrom g.2 0 l }
def an_idxIF : Nat → Option LoopGen
  | 2 => some { rd := [.dat 0 (.arr ty_I), .dat 1 (.fn ty_I .bool)], A := fun ((l, g) : List Int × (Int → Prop) × (Int → Bool)) => { cs := [.dat 8 ty_I], inv := fun (i : Int) => 0 ≤ i ∧ i ≤ l.length ∧ findFrom g.2 i (l.drop i.toNat) = findFrom g.2 0 l, mu := fun (i : Int) => (l.length - i).toNat } }
  | _ => none
def pv_idxIF : Prop :=
    ∀ (x : List Int × (Int → Prop) × (Int → Bool)), (x.fst.length * (8 : Nat) ≤ big ∧ ∀ (x_1 : Int), x_1 ∈ x.fst → InR IntKind.i64 x_1) ∧ True → (∀ (s : Int), s ∈ x.fst → x.snd.fst s) → ((0 : Int) ≤ (0 : Int) ∧ (0 : Int) ≤ (↑x.fst.length : Int) ∧ findFrom x.snd.snd (0 : Int) (List.drop (Int.toNat (0 : Int)) x.fst) = findFrom x.snd.snd (0 : Int) x.fst) ∧ ∀ (x_1 : Int), (0 : Int) ≤ x_1 ∧ x_1 ≤ (↑x.fst.length : Int) ∧ findFrom x.snd.snd x_1 (List.drop x_1.toNat x.fst) = findFrom x.snd.snd (0 : Int) x.fst → (decide (x_1 < (↑x.fst.length : Int)) = true → (0 : Int) ≤ x_1 ∧ x_1 < (↑x.fst.length : Int) ∧ x.snd.fst (x.fst.getD x_1.toNat (0 : Int)) ∧ (x.snd.snd (x.fst.getD x_1.toNat (0 : Int)) = true → x_1 = findFrom x.snd.snd (0 : Int) x.fst ∧ True) ∧ (x.snd.snd (x.fst.getD x_1.toNat (0 : Int)) = false → InR IntKind.i64 (x_1 + (1 : Int)) ∧ ((0 : Int) ≤ x_1 + (1 : Int) ∧ x_1 + (1 : Int) ≤ (↑x.fst.length : Int) ∧ findFrom x.snd.snd (x_1 + (1 : Int)) (List.drop (x_1 + (1 : Int)).toNat x.fst) = findFrom x.snd.snd (0 : Int) x.fst) ∧ ((↑x.fst.length : Int) - (x_1 + (1 : Int))).toNat < ((↑x.fst.length : Int) - x_1).toNat)) ∧ (decide (x_1 < (↑x.fst.length : Int)) = false → (-1 : Int) = findFrom x.snd.snd (0 : Int) x.fst ∧ True)
theorem vcp_idxIF : pv_idxIF := by
  unfold pv_idxIF
  intro ⟨l, g⟩ ⟨⟨hl, _⟩, _⟩ hp
  unfold big at *
  refine ⟨⟨by omega, by omega, by simp⟩, fun i ⟨h0, h1, h2⟩ => ⟨fun hlt => ?_, fun hge => ?_⟩⟩
  · have hlt : i < (l.length : Int) := by simpa using hlt
    have e := drop_cons (0 : Int) h0 hlt
    have hm := hp _ (getD_mem (0 : Int) h0 hlt)
    simp only at *
    rw [e] at h2
    simp only [findFrom] at h2
    refine ⟨h0, hlt, hm, fun hc => ?_, fun hc => ?_⟩
    · rw [if_pos hc] at h2
      exact ⟨h2, trivial⟩
    · rw [if_neg (by rw [hc]; simp)] at h2
      exact ⟨by simp only [InR]; omega, ⟨by omega, by omega, h2⟩, by omega⟩
  · rw [drop_end (by simpa using hge)] at h2
    exact ⟨h2, trivial⟩
theorem e_idxIF : pv_idxIF = (fnVC Try.prog (tbl []) an_idxIF Try.f142 sp_idxIF) := by kernel_rfl
theorem vc_idxIF : fnVC Try.prog (tbl []) an_idxIF Try.f142 sp_idxIF := @Eq.mp _ _ @e_idxIF @vcp_idxIF
theorem ok_idxIF : sp_idxIF.ok Try.prog 142 := fn_sound (P := Try.prog) (ss := tbl []) (ann := an_idxIF) (f := 142) (fn := Try.f142) (s := sp_idxIF) tbl_nil Try.func142 @vc_idxIF

def sp_anyI : Spec := { Ts := [.arr ty_I, .fn ty_I .bool], Rs := [.dat .bool], pre := fun ((l, g) : List Int × (Int → Prop) × (Int → Bool)) => ∀ s ∈ l, g.1 s, F := fun ((l, g) : List Int × (Int → Prop) × (Int → Bool)) => l.any g.2 }
def pv_anyI : Prop :=
    ∀ (x : List Int × (Int → Prop) × (Int → Bool)), (x.fst.length * (8 : Nat) ≤ big ∧ ∀ (x_1 : Int), x_1 ∈ x.fst → InR IntKind.i64 x_1) ∧ True → (∀ (s : Int), s ∈ x.fst → x.snd.fst s) → (∀ (s : Int), s ∈ x.fst → x.snd.fst s) ∧ decide ((0 : Int) ≤ findFrom x.snd.snd (0 : Int) x.fst) = x.fst.any x.snd.snd ∧ True
theorem vcp_anyI : pv_anyI := by
  unfold pv_anyI
  intro ⟨l, g⟩ _ hp
  exact ⟨hp, findFrom_any _ l 0 (by omega), trivial⟩
theorem e_anyI : pv_anyI = (fnVC Try.prog (tbl [(142, sp_idxIF)]) an_0 Try.f88 sp_anyI) := by kernel_rfl
theorem vc_anyI : fnVC Try.prog (tbl [(142, sp_idxIF)]) an_0 Try.f88 sp_anyI := @Eq.mp _ _ @e_anyI @vcp_anyI
theorem ok_anyI : sp_anyI.ok Try.prog 88 := fn_sound (P := Try.prog) (ss := tbl [(142, sp_idxIF)]) (ann := an_0) (f := 88) (fn := Try.f88) (s := sp_anyI) (tbl_cons ok_idxIF tbl_nil) Try.func88 @vc_anyI

/-- Each above the one ahead. -/
def risesL : List Int → Bool
  | x :: y :: l => decide (x < y) && risesL (y :: l)
  | _ => true
theorem risesL_short : ∀ {l : List Int}, l.length ≤ 1 → risesL l = true
  | [], _ => rfl
  | [_], _ => rfl
  | _ :: _ :: _, h => by simp at h
def an_rises : Nat → Option LoopGen
  | 2 => some { rd := [.dat 0 (.arr ty_I)], A := fun (l : List Int) => { cs := [.dat 3 ty_I], inv := fun (i : Int) => 1 ≤ i ∧ i ≤ l.length + 1 ∧ risesL (l.drop (i - 1).toNat) = risesL l, mu := fun (i : Int) => (l.length - i).toNat } }
  | _ => none
def sp_rises : Spec := { Ts := [.arr ty_I], Rs := [.dat .bool], pre := fun _ => True, F := risesL }

def sp_rRises : Spec := { Ts := [.arr ty_I], Rs := [.dat .bool], pre := fun _ => True, F := risesL }

end Go.Proofs.Ytbidboeemnlglaa
