/- Contracts of walk.Lay and of the reference's Laid, with slices.Grow and slices.Concat; and the law WalkLays. -/
import Derived.Test.YtbidboeemnlglaaWords
import Derived.Test.YtbidboeemnlglaaHead
namespace Go.Proofs.Ytbidboeemnlglaa
open Go
set_option maxRecDepth 100000
set_option maxHeartbeats 1000000

def sp_growWords : Spec := { Ts := [.nil, ty_I], Rs := [.own 46 ty_W], pre := fun ((_, n) : Unit × Int) => 0 ≤ n ∧ n.toNat * 8 ≤ big, F := fun _ => ([] : List Int) }

def sp_concatWords : Spec := { Ts := [.arr (.arr ty_W)], Rs := [.own 46 ty_W], pre := fun (xs : List (List Int)) => xs.flatten.length * 8 ≤ big, F := fun (xs : List (List Int)) => xs.flatten }
def an_concatWords : Nat → Option LoopGen
  | 3 => some { rd := [.dat 9 (.arr (.arr ty_W))], A := fun (xs : List (List Int)) => { cs := [.dat 3 ty_I, .dat 11 ty_I], inv := fun ((n, i) : Int × Int) => 0 ≤ i ∧ i ≤ xs.length ∧ n = ((xs.take i.toNat).flatten.length : Int) ∧ xs.flatten.length * 8 ≤ big, mu := fun ((_, i) : Int × Int) => (xs.length - i).toNat } }
  | 11 => some { rd := [.dat 25 (.arr (.arr ty_W))], A := fun (xs : List (List Int)) => { cs := [.own 6 46 ty_W, .dat 27 ty_I], inv := fun ((out, i) : List Int × Int) => 0 ≤ i ∧ i ≤ xs.length ∧ out ++ (xs.drop i.toNat).flatten = xs.flatten, mu := fun ((_, i) : List Int × Int) => (xs.length - i).toNat } }
  | _ => none

def objHead (o : Obj) : Head := (o.2.1.length, o.2.2.1.length, o.1, o.2.2.2)
def objLong (o : Obj) : Int := 1 + o.2.1.length + o.2.2.1.length
def laysFault : List Obj → Int
  | [] => 0
  | o :: l => if headFault (objHead o) ≠ 0 then headFault (objHead o) else laysFault l
def endOf : List Obj → Int
  | [] => 0
  | o :: l => objLong o + endOf l
def beginsOf : Int → List Obj → List Int
  | _, [] => []
  | e, o :: l => e :: beginsOf (e + objLong o) l
def refBad (l : List Obj) (k : Int) : Bool := decide (k ≠ -1) && (decide (k < 0) || decide ((l.length : Int) ≤ k) || (l.getD k.toNat (0, [], [], false)).2.2.2)
def refWord (bs : List Int) (k : Int) : Int := if k = -1 then 0 else bs.getD k.toNat 0 + 1
def objWords (bs : List Int) (o : Obj) : List Int := headWord (objHead o) :: (o.2.1.map (refWord bs) ++ o.2.2.1)
def layTail (k : Int) : List Int := if 0 < k then headWord (0, k - 1, 0, true) :: List.replicate (k - 1).toNat 0 else []
def layF (l : List Obj) (n : Int) : List Int × Int :=
  if n < 0 ∨ 256 < n then ([], 4) else if laysFault l ≠ 0 then ([], laysFault l) else if n < endOf l then ([], 7) else if (l.any fun o => o.2.1.any (refBad l)) = true then ([], 5)
  else (l.flatMap (objWords (beginsOf 0 l)) ++ layTail (n - endOf l), 0)

def sp_headOfObj : Spec := { Ts := [ty_Obj], Rs := [.dat ty_Head], pre := fun _ => True, F := objHead }

def sp_rHeadOfObj : Spec := sp_headOfObj
def pv_rHeadOfObj : Prop :=
    ∀ (x : Int × List Int × List Int × Bool), InR IntKind.i64 x.fst ∧ (x.snd.fst.length * (8 : Nat) ≤ big ∧ ∀ (x_1 : Int), x_1 ∈ x.snd.fst → InR IntKind.i64 x_1) ∧ (x.snd.snd.fst.length * (8 : Nat) ≤ big ∧ ∀ (x_1 : Int), x_1 ∈ x.snd.snd.fst → InR IntKind.u64 x_1) ∧ True → True → ((↑x.snd.fst.length : Int), (↑x.snd.snd.fst.length : Int), x.fst, x.snd.snd.snd) = objHead x ∧ True
theorem vcp_rHeadOfObj : pv_rHeadOfObj := by
  unfold pv_rHeadOfObj
  intro o _ _
  simp [objHead]
theorem e_rHeadOfObj : pv_rHeadOfObj = (fnVC Try.prog (tbl []) an_0 Try.f78 sp_rHeadOfObj) := by kernel_rfl
theorem vc_rHeadOfObj : fnVC Try.prog (tbl []) an_0 Try.f78 sp_rHeadOfObj := @Eq.mp _ _ @e_rHeadOfObj @vcp_rHeadOfObj
theorem ok_rHeadOfObj : sp_rHeadOfObj.ok Try.prog 78 := fn_sound (P := Try.prog) (ss := tbl []) (ann := an_0) (f := 78) (fn := Try.f78) (s := sp_rHeadOfObj) tbl_nil Try.func78 @vc_rHeadOfObj

theorem laysFault_zero : ∀ {l : List Obj}, laysFault l = 0 → ∀ o ∈ l, headFault (objHead o) = 0
  | [], _ => by simp
  | x :: l, h => by
    simp only [laysFault] at h
    split at h
    · omega
    · intro s hs
      rcases List.mem_cons.1 hs with rfl | hs
      · omega
      · exact laysFault_zero h s hs

theorem objLong_pos (o : Obj) : 1 ≤ objLong o := by unfold objLong; omega
theorem objLong_le {o : Obj} (h : headFault (objHead o) = 0) : objLong o ≤ 256 ∧ headLong (objHead o) = objLong o := by
  have h2 := headFault_zero h
  clear h
  simp only [objHead] at h2
  have e : headLong (objHead o) = objLong o := rfl
  have e2 : objLong o = 1 + o.2.1.length + o.2.2.1.length := rfl
  exact ⟨by omega, e⟩
theorem endOf_nonneg : ∀ l : List Obj, 0 ≤ endOf l
  | [] => by simp [endOf]
  | o :: l => by have := endOf_nonneg l; have := objLong_pos o; simp only [endOf]; omega
theorem endOf_append : ∀ (a b : List Obj), endOf (a ++ b) = endOf a + endOf b
  | [], b => by simp [endOf]
  | o :: a, b => by have := endOf_append a b; simp only [List.cons_append, endOf, this]; omega
theorem endOf_split (l : List Obj) (k : Nat) : endOf (l.take k) + endOf (l.drop k) = endOf l := by
  rw [← endOf_append, List.take_append_drop]
theorem endOf_le (l : List Obj) (k : Nat) : endOf (l.take k) ≤ endOf l := by
  have := endOf_split l k
  have := endOf_nonneg (l.drop k)
  omega
theorem beginsOf_length : ∀ (l : List Obj) (e : Int), (beginsOf e l).length = l.length
  | [], _ => rfl
  | o :: l, e => by simp [beginsOf, beginsOf_length l]
theorem beginsOf_snoc (o : Obj) : ∀ (l : List Obj) (e : Int), beginsOf e (l ++ [o]) = beginsOf e l ++ [e + endOf l]
  | [], e => by simp [beginsOf, endOf]
  | x :: l, e => by
    have := beginsOf_snoc o l (e + objLong x)
    simp only [List.cons_append, beginsOf, this, endOf]
    congr 3
    omega
theorem beginsOf_get : ∀ (l : List Obj) (e : Int) (k : Nat), k < l.length → (beginsOf e l).getD k 0 = e + endOf (l.take k)
  | [], _, k, h => by simp at h
  | x :: l, e, 0, _ => by simp [beginsOf, endOf]
  | x :: l, e, k + 1, h => by
    have := beginsOf_get l (e + objLong x) k (by simpa using h)
    simp only [beginsOf, List.getD_cons_succ, this, List.take_succ_cons, endOf]
    omega
theorem objWords_length (bs : List Int) (o : Obj) : ((objWords bs o).length : Int) = objLong o := by
  simp [objWords, objLong]; omega
theorem words_length (bs : List Int) : ∀ (l : List Obj), ((l.flatMap (objWords bs)).length : Int) = endOf l
  | [] => by simp [endOf]
  | o :: l => by
    have := words_length bs l
    have := objWords_length bs o
    simp only [List.flatMap_cons, List.length_append, endOf]
    omega

/-- One object more is copied. -/
theorem lay_copy (W Y : List Int) (n : Nat) (h : W.length + Y.length ≤ n) :
    (W ++ List.replicate (n - W.length) 0).take W.length ++ (Y.take (min Y.length ((W ++ List.replicate (n - W.length) 0).length - W.length)) ++ (W ++ List.replicate (n - W.length) 0).drop (W.length + min Y.length ((W ++ List.replicate (n - W.length) 0).length - W.length))) =
      W ++ Y ++ List.replicate (n - W.length - Y.length) (0 : Int) := by
  have e : min Y.length ((W ++ List.replicate (n - W.length) (0 : Int)).length - W.length) = Y.length := by simp; omega
  rw [e]
  simp [List.drop_append]

theorem lay_tail (W : List Int) (n : Nat) (v : Int) (h : W.length < n) : (W ++ List.replicate (n - W.length) (0 : Int)).set W.length v = W ++ v :: List.replicate (n - W.length - 1) 0 := by
  rw [List.set_append_right _ _ (Nat.le_refl _), Nat.sub_self, show n - W.length = (n - W.length - 1) + 1 by omega, List.replicate_succ, List.set_cons_zero]
  simp

def an_lay : Nat → Option LoopGen
  | 7 => some { rd := [.dat 32 (.arr ty_Obj), .dat 1 ty_I], wr := [8], A := fun ((l, n) : List Obj × Int) => { cs := [.own 8 3 ty_I, .dat 9 ty_I, .dat 34 ty_I], inv := fun ((bs, e, i) : List Int × Int × Int) => 0 ≤ i ∧ i ≤ l.length ∧ 0 ≤ n ∧ n ≤ 256 ∧ laysFault (l.drop i.toNat) = laysFault l ∧ 0 ≤ e ∧ e ≤ 256 * i ∧ e = endOf (l.take i.toNat) ∧ bs = beginsOf 0 (l.take i.toNat) ++ List.replicate (l.length - i.toNat) 0, mu := fun ((_, _, i) : List Int × Int × Int) => (l.length - i).toNat } }
  | 18 => some { rd := [.dat 59 (.arr ty_Obj), .dat 1 ty_I, .own 8 3 ty_I], wr := [6], A := fun ((l, n, bs) : List Obj × Int × List Int) => { cs := [.own 6 46 ty_W, .dat 61 ty_I], inv := fun ((a, i) : List Int × Int) => 0 ≤ i ∧ i ≤ l.length ∧ 0 ≤ n ∧ n ≤ 256 ∧ laysFault l = 0 ∧ endOf l ≤ n ∧ bs = beginsOf 0 l ∧ ((l.drop i.toNat).any fun o => o.2.1.any (refBad l)) = (l.any fun o => o.2.1.any (refBad l)) ∧ a = (l.take i.toNat).flatMap (objWords bs) ++ List.replicate (n - endOf (l.take i.toNat)).toNat 0, mu := fun ((_, i) : List Int × Int) => (l.length - i).toNat } }
  | 23 => some { rd := [.dat 75 (.arr ty_I), .dat 59 (.arr ty_Obj), .own 8 3 ty_I, .dat 16 ty_W], A := fun ((rs, l, bs, v) : List Int × List Obj × List Int × Int) => { cs := [.own 18 46 ty_W, .dat 77 ty_I], inv := fun ((row, j) : List Int × Int) => 0 ≤ j ∧ j ≤ rs.length ∧ (rs.drop j.toNat).any (refBad l) = rs.any (refBad l) ∧ row = v :: (rs.take j.toNat).map (refWord bs), mu := fun ((_, j) : List Int × Int) => (rs.length - j).toNat } }
  | _ => none
def sp_lay : Spec := { Ts := [.arr ty_Obj, ty_I], Rs := [.own 46 ty_W, .dat ty_I], pre := fun _ => True, F := fun ((l, n) : List Obj × Int) => layF l n }

theorem refBad_eq (l : List Obj) (k : Int) : refBad l k = (decide (k < -1) || decide ((l.length : Int) ≤ k) || decide (0 ≤ k) && (l.getD k.toNat (0, [], [], false)).2.2.2) := by
  unfold refBad
  by_cases h : k = -1
  · subst h
    rw [show decide ((l.length : Int) ≤ -1) = false from decide_eq_false (by omega)]
    rfl
  by_cases h2 : k < -1
  · simp [h, h2]; omega
  · simp [h, h2, show 0 ≤ k by omega, show ¬ k < 0 by omega]

theorem pad_step (a : List Int) (n : Nat) (h : a.length < n) : a ++ [0] ++ List.replicate (n - (a ++ [0]).length) (0 : Int) = a ++ List.replicate (n - a.length) 0 := by
  rw [List.length_append, List.append_assoc]
  congr 1
  rw [show n - a.length = (n - (a.length + [(0 : Int)].length)) + 1 by simp only [List.length_cons, List.length_nil]; omega, List.replicate_succ]
  rfl
theorem pad_end (a : List Int) (n : Nat) (h : n ≤ a.length) : a ++ List.replicate (n - a.length) (0 : Int) = a := by
  rw [show n - a.length = 0 by omega]; simp

def an_rLaid : Nat → Option LoopGen
  | 6 => some { rd := [.dat 23 (.arr ty_Obj), .dat 1 ty_I], A := fun ((l, n) : List Obj × Int) => { cs := [.own 6 3 ty_I, .dat 7 ty_I, .dat 25 ty_I], inv := fun ((bs, e, i) : List Int × Int × Int) => 0 ≤ i ∧ i ≤ l.length ∧ 0 ≤ n ∧ n ≤ 256 ∧ laysFault (l.drop i.toNat) = laysFault l ∧ 0 ≤ e ∧ e ≤ 256 * i ∧ e = endOf (l.take i.toNat) ∧ bs = beginsOf 0 (l.take i.toNat), mu := fun ((_, _, i) : List Int × Int × Int) => (l.length - i).toNat } }
  | 18 => some { rd := [.dat 48 (.arr ty_Obj), .dat 1 ty_I, .own 6 3 ty_I], A := fun ((l, n, bs) : List Obj × Int × List Int) => { cs := [.own 11 46 ty_W, .dat 50 ty_I], inv := fun ((a, i) : List Int × Int) => 0 ≤ i ∧ i ≤ l.length ∧ 0 ≤ n ∧ n ≤ 256 ∧ laysFault l = 0 ∧ endOf l ≤ n ∧ bs = beginsOf 0 l ∧ ((l.drop i.toNat).any fun o => o.2.1.any (refBad l)) = (l.any fun o => o.2.1.any (refBad l)) ∧ a = (l.take i.toNat).flatMap (objWords bs), mu := fun ((_, i) : List Int × Int) => (l.length - i).toNat } }
  | 22 => some { rd := [.dat 61 (.arr ty_I), .dat 48 (.arr ty_Obj), .own 6 3 ty_I, .dat 50 ty_I], A := fun ((rs, l, bs, i) : List Int × List Obj × List Int × Int) => { cs := [.own 11 46 ty_W, .dat 63 ty_I], inv := fun ((a, j) : List Int × Int) => 0 ≤ j ∧ j ≤ rs.length ∧ (rs.drop j.toNat).any (refBad l) = rs.any (refBad l) ∧ a = (l.take i.toNat).flatMap (objWords bs) ++ headWord (objHead (l.getD i.toNat (0, [], [], false))) :: (rs.take j.toNat).map (refWord bs), mu := fun ((_, j) : List Int × Int) => (rs.length - j).toNat } }
  | 35 => some { rd := [.dat 0 (.arr ty_Obj), .dat 1 ty_I, .own 6 3 ty_I, .dat 7 ty_I], A := fun ((l, n, bs, e) : List Obj × Int × List Int × Int) => { cs := [.own 11 46 ty_W], inv := fun (a : List Int) => a.length ≤ n ∧ n ≤ 256 ∧ a ++ List.replicate (n.toNat - a.length) 0 = l.flatMap (objWords bs) ++ layTail (n - e), mu := fun (a : List Int) => n.toNat - a.length } }
  | _ => none
def sp_rLaid : Spec := { Ts := [.arr ty_Obj, ty_I], Rs := [.own 46 ty_W, .dat ty_I], pre := fun _ => True, F := fun ((l, n) : List Obj × Int) => layF l n }
def pv_rLaid : Prop :=
    ∀ (x : List (Int × List Int × List Int × Bool) × Int), (x.fst.length * ((8 : Nat) + ((24 : Nat) + ((24 : Nat) + (8 : Nat)))) ≤ big ∧ ∀ (x_1 : Int × List Int × List Int × Bool), x_1 ∈ x.fst → InR IntKind.i64 x_1.fst ∧ (x_1.snd.fst.length * (8 : Nat) ≤ big ∧ ∀ (x : Int), x ∈ x_1.snd.fst → InR IntKind.i64 x) ∧ (x_1.snd.snd.fst.length * (8 : Nat) ≤ big ∧ ∀ (x : Int), x ∈ x_1.snd.snd.fst → InR IntKind.u64 x) ∧ True) ∧ InR IntKind.i64 x.snd → True → ((decide (x.snd < (0 : Int)) || decide ((256 : Int) < x.snd)) = true → ([] : List Int) = (layF x.fst x.snd).fst ∧ (4 : Int) = (layF x.fst x.snd).snd ∧ True) ∧ ((decide (x.snd < (0 : Int)) || decide ((256 : Int) < x.snd)) = false → ((0 : Int) ≤ (0 : Int) ∧ (0 : Int) ≤ (↑x.fst.length : Int) ∧ (0 : Int) ≤ x.snd ∧ x.snd ≤ (256 : Int) ∧ laysFault (List.drop (Int.toNat (0 : Int)) x.fst) = laysFault x.fst ∧ (0 : Int) ≤ (0 : Int) ∧ (0 : Int) ≤ (256 : Int) * (0 : Int) ∧ (0 : Int) = endOf (List.take (Int.toNat (0 : Int)) x.fst) ∧ ([] : List Int) = beginsOf (0 : Int) (List.take (Int.toNat (0 : Int)) x.fst)) ∧ ∀ (x_1 : List Int × Int × Int), (0 : Int) ≤ x_1.snd.snd ∧ x_1.snd.snd ≤ (↑x.fst.length : Int) ∧ (0 : Int) ≤ x.snd ∧ x.snd ≤ (256 : Int) ∧ laysFault (List.drop x_1.snd.snd.toNat x.fst) = laysFault x.fst ∧ (0 : Int) ≤ x_1.snd.fst ∧ x_1.snd.fst ≤ (256 : Int) * x_1.snd.snd ∧ x_1.snd.fst = endOf (List.take x_1.snd.snd.toNat x.fst) ∧ x_1.fst = beginsOf (0 : Int) (List.take x_1.snd.snd.toNat x.fst) → (decide (x_1.snd.snd < (↑x.fst.length : Int)) = true → (0 : Int) ≤ x_1.snd.snd ∧ x_1.snd.snd < (↑x.fst.length : Int) ∧ True ∧ True ∧ (decide (headFault (objHead (x.fst.getD x_1.snd.snd.toNat ((0 : Int), ([] : List Int), ([] : List Int), false))) ≠ (0 : Int)) = true → ([] : List Int) = (layF x.fst x.snd).fst ∧ headFault (objHead (x.fst.getD x_1.snd.snd.toNat ((0 : Int), ([] : List Int), ([] : List Int), false))) = (layF x.fst x.snd).snd ∧ True) ∧ (decide (headFault (objHead (x.fst.getD x_1.snd.snd.toNat ((0 : Int), ([] : List Int), ([] : List Int), false))) ≠ (0 : Int)) = false → (x_1.fst.length + [x_1.snd.fst].length) * (8 : Nat) ≤ big ∧ True ∧ (InR IntKind.i64 ((1 : Int) + (objHead (x.fst.getD x_1.snd.snd.toNat ((0 : Int), ([] : List Int), ([] : List Int), false))).fst) ∧ InR IntKind.i64 ((1 : Int) + (objHead (x.fst.getD x_1.snd.snd.toNat ((0 : Int), ([] : List Int), ([] : List Int), false))).fst + (objHead (x.fst.getD x_1.snd.snd.toNat ((0 : Int), ([] : List Int), ([] : List Int), false))).snd.fst)) ∧ InR IntKind.i64 (x_1.snd.fst + headLong (objHead (x.fst.getD x_1.snd.snd.toNat ((0 : Int), ([] : List Int), ([] : List Int), false)))) ∧ InR IntKind.i64 (x_1.snd.snd + (1 : Int)) ∧ ((0 : Int) ≤ x_1.snd.snd + (1 : Int) ∧ x_1.snd.snd + (1 : Int) ≤ (↑x.fst.length : Int) ∧ (0 : Int) ≤ x.snd ∧ x.snd ≤ (256 : Int) ∧ laysFault (List.drop (x_1.snd.snd + (1 : Int)).toNat x.fst) = laysFault x.fst ∧ (0 : Int) ≤ x_1.snd.fst + headLong (objHead (x.fst.getD x_1.snd.snd.toNat ((0 : Int), ([] : List Int), ([] : List Int), false))) ∧ x_1.snd.fst + headLong (objHead (x.fst.getD x_1.snd.snd.toNat ((0 : Int), ([] : List Int), ([] : List Int), false))) ≤ (256 : Int) * (x_1.snd.snd + (1 : Int)) ∧ x_1.snd.fst + headLong (objHead (x.fst.getD x_1.snd.snd.toNat ((0 : Int), ([] : List Int), ([] : List Int), false))) = endOf (List.take (x_1.snd.snd + (1 : Int)).toNat x.fst) ∧ x_1.fst ++ [x_1.snd.fst] = beginsOf (0 : Int) (List.take (x_1.snd.snd + (1 : Int)).toNat x.fst)) ∧ ((↑x.fst.length : Int) - (x_1.snd.snd + (1 : Int))).toNat < ((↑x.fst.length : Int) - x_1.snd.snd).toNat)) ∧ (decide (x_1.snd.snd < (↑x.fst.length : Int)) = false → (decide (x.snd < x_1.snd.fst) = true → ([] : List Int) = (layF x.fst x.snd).fst ∧ (7 : Int) = (layF x.fst x.snd).snd ∧ True) ∧ (decide (x.snd < x_1.snd.fst) = false → ((0 : Int) ≤ (0 : Int) ∧ (0 : Int) ≤ (↑x.fst.length : Int) ∧ (0 : Int) ≤ x.snd ∧ x.snd ≤ (256 : Int) ∧ laysFault x.fst = (0 : Int) ∧ endOf x.fst ≤ x.snd ∧ x_1.fst = beginsOf (0 : Int) x.fst ∧ (((List.drop (Int.toNat (0 : Int)) x.fst).any fun (o : Obj) => o.snd.fst.any (refBad x.fst)) = x.fst.any fun (o : Obj) => o.snd.fst.any (refBad x.fst)) ∧ ([] : List Int) = List.flatMap (objWords x_1.fst) (List.take (Int.toNat (0 : Int)) x.fst)) ∧ ∀ (x_2 : List Int × Int), (0 : Int) ≤ x_2.snd ∧ x_2.snd ≤ (↑x.fst.length : Int) ∧ (0 : Int) ≤ x.snd ∧ x.snd ≤ (256 : Int) ∧ laysFault x.fst = (0 : Int) ∧ endOf x.fst ≤ x.snd ∧ x_1.fst = beginsOf (0 : Int) x.fst ∧ (((List.drop x_2.snd.toNat x.fst).any fun (o : Obj) => o.snd.fst.any (refBad x.fst)) = x.fst.any fun (o : Obj) => o.snd.fst.any (refBad x.fst)) ∧ x_2.fst = List.flatMap (objWords x_1.fst) (List.take x_2.snd.toNat x.fst) → (decide (x_2.snd < (↑x.fst.length : Int)) = true → (0 : Int) ≤ x_2.snd ∧ x_2.snd < (↑x.fst.length : Int) ∧ True ∧ headFault (objHead (x.fst.getD x_2.snd.toNat ((0 : Int), ([] : List Int), ([] : List Int), false))) = (0 : Int) ∧ (x_2.fst.length + [headWord (objHead (x.fst.getD x_2.snd.toNat ((0 : Int), ([] : List Int), ([] : List Int), false)))].length) * (8 : Nat) ≤ big ∧ ((0 : Int) ≤ (0 : Int) ∧ (0 : Int) ≤ (↑(x.fst.getD x_2.snd.toNat ((0 : Int), ([] : List Int), ([] : List Int), false)).snd.fst.length : Int) ∧ (List.drop (Int.toNat (0 : Int)) (x.fst.getD x_2.snd.toNat ((0 : Int), ([] : List Int), ([] : List Int), false)).snd.fst).any (refBad x.fst) = (x.fst.getD x_2.snd.toNat ((0 : Int), ([] : List Int), ([] : List Int), false)).snd.fst.any (refBad x.fst) ∧ x_2.fst ++ [headWord (objHead (x.fst.getD x_2.snd.toNat ((0 : Int), ([] : List Int), ([] : List Int), false)))] = List.flatMap (objWords x_1.fst) (List.take x_2.snd.toNat x.fst) ++ headWord (objHead (x.fst.getD x_2.snd.toNat ((0 : Int), ([] : List Int), ([] : List Int), false))) :: List.map (refWord x_1.fst) (List.take (Int.toNat (0 : Int)) (x.fst.getD x_2.snd.toNat ((0 : Int), ([] : List Int), ([] : List Int), false)).snd.fst)) ∧ ∀ (x_3 : List Int × Int), (0 : Int) ≤ x_3.snd ∧ x_3.snd ≤ (↑(x.fst.getD x_2.snd.toNat ((0 : Int), ([] : List Int), ([] : List Int), false)).snd.fst.length : Int) ∧ (List.drop x_3.snd.toNat (x.fst.getD x_2.snd.toNat ((0 : Int), ([] : List Int), ([] : List Int), false)).snd.fst).any (refBad x.fst) = (x.fst.getD x_2.snd.toNat ((0 : Int), ([] : List Int), ([] : List Int), false)).snd.fst.any (refBad x.fst) ∧ x_3.fst = List.flatMap (objWords x_1.fst) (List.take x_2.snd.toNat x.fst) ++ headWord (objHead (x.fst.getD x_2.snd.toNat ((0 : Int), ([] : List Int), ([] : List Int), false))) :: List.map (refWord x_1.fst) (List.take x_3.snd.toNat (x.fst.getD x_2.snd.toNat ((0 : Int), ([] : List Int), ([] : List Int), false)).snd.fst) → (decide (x_3.snd < (↑(x.fst.getD x_2.snd.toNat ((0 : Int), ([] : List Int), ([] : List Int), false)).snd.fst.length : Int)) = true → (0 : Int) ≤ x_3.snd ∧ x_3.snd < (↑(x.fst.getD x_2.snd.toNat ((0 : Int), ([] : List Int), ([] : List Int), false)).snd.fst.length : Int) ∧ (decide ((0 : Int) ≤ (x.fst.getD x_2.snd.toNat ((0 : Int), ([] : List Int), ([] : List Int), false)).snd.fst.getD x_3.snd.toNat (0 : Int)) = true → (decide ((x.fst.getD x_2.snd.toNat ((0 : Int), ([] : List Int), ([] : List Int), false)).snd.fst.getD x_3.snd.toNat (0 : Int) < (-1 : Int)) || decide ((↑x.fst.length : Int) ≤ (x.fst.getD x_2.snd.toNat ((0 : Int), ([] : List Int), ([] : List Int), false)).snd.fst.getD x_3.snd.toNat (0 : Int))) = false → (0 : Int) ≤ (x.fst.getD x_2.snd.toNat ((0 : Int), ([] : List Int), ([] : List Int), false)).snd.fst.getD x_3.snd.toNat (0 : Int)) ∧ (decide ((0 : Int) ≤ (x.fst.getD x_2.snd.toNat ((0 : Int), ([] : List Int), ([] : List Int), false)).snd.fst.getD x_3.snd.toNat (0 : Int)) = true → (decide ((x.fst.getD x_2.snd.toNat ((0 : Int), ([] : List Int), ([] : List Int), false)).snd.fst.getD x_3.snd.toNat (0 : Int) < (-1 : Int)) || decide ((↑x.fst.length : Int) ≤ (x.fst.getD x_2.snd.toNat ((0 : Int), ([] : List Int), ([] : List Int), false)).snd.fst.getD x_3.snd.toNat (0 : Int))) = false → (x.fst.getD x_2.snd.toNat ((0 : Int), ([] : List Int), ([] : List Int), false)).snd.fst.getD x_3.snd.toNat (0 : Int) < (↑x.fst.length : Int)) ∧ ((decide ((x.fst.getD x_2.snd.toNat ((0 : Int), ([] : List Int), ([] : List Int), false)).snd.fst.getD x_3.snd.toNat (0 : Int) < (-1 : Int)) || decide ((↑x.fst.length : Int) ≤ (x.fst.getD x_2.snd.toNat ((0 : Int), ([] : List Int), ([] : List Int), false)).snd.fst.getD x_3.snd.toNat (0 : Int)) || decide ((0 : Int) ≤ (x.fst.getD x_2.snd.toNat ((0 : Int), ([] : List Int), ([] : List Int), false)).snd.fst.getD x_3.snd.toNat (0 : Int)) && (x.fst.getD ((x.fst.getD x_2.snd.toNat ((0 : Int), ([] : List Int), ([] : List Int), false)).snd.fst.getD x_3.snd.toNat (0 : Int)).toNat ((0 : Int), ([] : List Int), ([] : List Int), false)).snd.snd.snd) = true → ([] : List Int) = (layF x.fst x.snd).fst ∧ (5 : Int) = (layF x.fst x.snd).snd ∧ True) ∧ ((decide ((x.fst.getD x_2.snd.toNat ((0 : Int), ([] : List Int), ([] : List Int), false)).snd.fst.getD x_3.snd.toNat (0 : Int) < (-1 : Int)) || decide ((↑x.fst.length : Int) ≤ (x.fst.getD x_2.snd.toNat ((0 : Int), ([] : List Int), ([] : List Int), false)).snd.fst.getD x_3.snd.toNat (0 : Int)) || decide ((0 : Int) ≤ (x.fst.getD x_2.snd.toNat ((0 : Int), ([] : List Int), ([] : List Int), false)).snd.fst.getD x_3.snd.toNat (0 : Int)) && (x.fst.getD ((x.fst.getD x_2.snd.toNat ((0 : Int), ([] : List Int), ([] : List Int), false)).snd.fst.getD x_3.snd.toNat (0 : Int)).toNat ((0 : Int), ([] : List Int), ([] : List Int), false)).snd.snd.snd) = false → (decide ((0 : Int) ≤ (x.fst.getD x_2.snd.toNat ((0 : Int), ([] : List Int), ([] : List Int), false)).snd.fst.getD x_3.snd.toNat (0 : Int)) = true → (0 : Int) ≤ (x.fst.getD x_2.snd.toNat ((0 : Int), ([] : List Int), ([] : List Int), false)).snd.fst.getD x_3.snd.toNat (0 : Int) ∧ (x.fst.getD x_2.snd.toNat ((0 : Int), ([] : List Int), ([] : List Int), false)).snd.fst.getD x_3.snd.toNat (0 : Int) < (↑x_1.fst.length : Int) ∧ ((x.fst.getD x_2.snd.toNat ((0 : Int), ([] : List Int), ([] : List Int), false)).snd.fst.getD x_3.snd.toNat (0 : Int)).toNat < x_1.fst.length ∧ InR IntKind.u64 (IntKind.u64.wrap (x_1.fst.getD ((x.fst.getD x_2.snd.toNat ((0 : Int), ([] : List Int), ([] : List Int), false)).snd.fst.getD x_3.snd.toNat (0 : Int)).toNat (0 : Int)) + (1 : Int)) ∧ (x_3.fst.length + [IntKind.u64.wrap (x_1.fst.getD ((x.fst.getD x_2.snd.toNat ((0 : Int), ([] : List Int), ([] : List Int), false)).snd.fst.getD x_3.snd.toNat (0 : Int)).toNat (0 : Int)) + (1 : Int)].length) * (8 : Nat) ≤ big ∧ InR IntKind.i64 (x_3.snd + (1 : Int)) ∧ ((0 : Int) ≤ x_3.snd + (1 : Int) ∧ x_3.snd + (1 : Int) ≤ (↑(x.fst.getD x_2.snd.toNat ((0 : Int), ([] : List Int), ([] : List Int), false)).snd.fst.length : Int) ∧ (List.drop (x_3.snd + (1 : Int)).toNat (x.fst.getD x_2.snd.toNat ((0 : Int), ([] : List Int), ([] : List Int), false)).snd.fst).any (refBad x.fst) = (x.fst.getD x_2.snd.toNat ((0 : Int), ([] : List Int), ([] : List Int), false)).snd.fst.any (refBad x.fst) ∧ x_3.fst ++ [IntKind.u64.wrap (x_1.fst.getD ((x.fst.getD x_2.snd.toNat ((0 : Int), ([] : List Int), ([] : List Int), false)).snd.fst.getD x_3.snd.toNat (0 : Int)).toNat (0 : Int)) + (1 : Int)] = List.flatMap (objWords x_1.fst) (List.take x_2.snd.toNat x.fst) ++ headWord (objHead (x.fst.getD x_2.snd.toNat ((0 : Int), ([] : List Int), ([] : List Int), false))) :: List.map (refWord x_1.fst) (List.take (x_3.snd + (1 : Int)).toNat (x.fst.getD x_2.snd.toNat ((0 : Int), ([] : List Int), ([] : List Int), false)).snd.fst)) ∧ ((↑(x.fst.getD x_2.snd.toNat ((0 : Int), ([] : List Int), ([] : List Int), false)).snd.fst.length : Int) - (x_3.snd + (1 : Int))).toNat < ((↑(x.fst.getD x_2.snd.toNat ((0 : Int), ([] : List Int), ([] : List Int), false)).snd.fst.length : Int) - x_3.snd).toNat) ∧ (decide ((0 : Int) ≤ (x.fst.getD x_2.snd.toNat ((0 : Int), ([] : List Int), ([] : List Int), false)).snd.fst.getD x_3.snd.toNat (0 : Int)) = false → (x_3.fst.length + [(0 : Int)].length) * (8 : Nat) ≤ big ∧ InR IntKind.i64 (x_3.snd + (1 : Int)) ∧ ((0 : Int) ≤ x_3.snd + (1 : Int) ∧ x_3.snd + (1 : Int) ≤ (↑(x.fst.getD x_2.snd.toNat ((0 : Int), ([] : List Int), ([] : List Int), false)).snd.fst.length : Int) ∧ (List.drop (x_3.snd + (1 : Int)).toNat (x.fst.getD x_2.snd.toNat ((0 : Int), ([] : List Int), ([] : List Int), false)).snd.fst).any (refBad x.fst) = (x.fst.getD x_2.snd.toNat ((0 : Int), ([] : List Int), ([] : List Int), false)).snd.fst.any (refBad x.fst) ∧ x_3.fst ++ [(0 : Int)] = List.flatMap (objWords x_1.fst) (List.take x_2.snd.toNat x.fst) ++ headWord (objHead (x.fst.getD x_2.snd.toNat ((0 : Int), ([] : List Int), ([] : List Int), false))) :: List.map (refWord x_1.fst) (List.take (x_3.snd + (1 : Int)).toNat (x.fst.getD x_2.snd.toNat ((0 : Int), ([] : List Int), ([] : List Int), false)).snd.fst)) ∧ ((↑(x.fst.getD x_2.snd.toNat ((0 : Int), ([] : List Int), ([] : List Int), false)).snd.fst.length : Int) - (x_3.snd + (1 : Int))).toNat < ((↑(x.fst.getD x_2.snd.toNat ((0 : Int), ([] : List Int), ([] : List Int), false)).snd.fst.length : Int) - x_3.snd).toNat))) ∧ (decide (x_3.snd < (↑(x.fst.getD x_2.snd.toNat ((0 : Int), ([] : List Int), ([] : List Int), false)).snd.fst.length : Int)) = false → (x_3.fst.length + (x.fst.getD x_2.snd.toNat ((0 : Int), ([] : List Int), ([] : List Int), false)).snd.snd.fst.length) * (8 : Nat) ≤ big ∧ InR IntKind.i64 (x_2.snd + (1 : Int)) ∧ ((0 : Int) ≤ x_2.snd + (1 : Int) ∧ x_2.snd + (1 : Int) ≤ (↑x.fst.length : Int) ∧ (0 : Int) ≤ x.snd ∧ x.snd ≤ (256 : Int) ∧ laysFault x.fst = (0 : Int) ∧ endOf x.fst ≤ x.snd ∧ x_1.fst = beginsOf (0 : Int) x.fst ∧ (((List.drop (x_2.snd + (1 : Int)).toNat x.fst).any fun (o : Obj) => o.snd.fst.any (refBad x.fst)) = x.fst.any fun (o : Obj) => o.snd.fst.any (refBad x.fst)) ∧ x_3.fst ++ (x.fst.getD x_2.snd.toNat ((0 : Int), ([] : List Int), ([] : List Int), false)).snd.snd.fst = List.flatMap (objWords x_1.fst) (List.take (x_2.snd + (1 : Int)).toNat x.fst)) ∧ ((↑x.fst.length : Int) - (x_2.snd + (1 : Int))).toNat < ((↑x.fst.length : Int) - x_2.snd).toNat)) ∧ (decide (x_2.snd < (↑x.fst.length : Int)) = false → (decide (x_1.snd.fst < x.snd) = true → InR IntKind.i64 (x.snd - x_1.snd.fst) ∧ ((1 : Int) ≤ x.snd - x_1.snd.fst ∧ x.snd - x_1.snd.fst ≤ (256 : Int)) ∧ (x_2.fst.length + [headWord ((0 : Int), x.snd - x_1.snd.fst - (1 : Int), (0 : Int), true)].length) * (8 : Nat) ≤ big ∧ ((↑(x_2.fst ++ [headWord ((0 : Int), x.snd - x_1.snd.fst - (1 : Int), (0 : Int), true)]).length : Int) ≤ x.snd ∧ x.snd ≤ (256 : Int) ∧ x_2.fst ++ [headWord ((0 : Int), x.snd - x_1.snd.fst - (1 : Int), (0 : Int), true)] ++ List.replicate (x.snd.toNat - (x_2.fst ++ [headWord ((0 : Int), x.snd - x_1.snd.fst - (1 : Int), (0 : Int), true)]).length) (0 : Int) = List.flatMap (objWords x_1.fst) x.fst ++ layTail (x.snd - x_1.snd.fst)) ∧ ∀ (x_3 : List Int), (↑x_3.length : Int) ≤ x.snd ∧ x.snd ≤ (256 : Int) ∧ x_3 ++ List.replicate (x.snd.toNat - x_3.length) (0 : Int) = List.flatMap (objWords x_1.fst) x.fst ++ layTail (x.snd - x_1.snd.fst) → (decide ((↑x_3.length : Int) < x.snd) = true → (x_3.length + [(0 : Int)].length) * (8 : Nat) ≤ big ∧ ((↑(x_3 ++ [(0 : Int)]).length : Int) ≤ x.snd ∧ x.snd ≤ (256 : Int) ∧ x_3 ++ [(0 : Int)] ++ List.replicate (x.snd.toNat - (x_3 ++ [(0 : Int)]).length) (0 : Int) = List.flatMap (objWords x_1.fst) x.fst ++ layTail (x.snd - x_1.snd.fst)) ∧ x.snd.toNat - (x_3 ++ [(0 : Int)]).length < x.snd.toNat - x_3.length) ∧ (decide ((↑x_3.length : Int) < x.snd) = false → x_3 = (layF x.fst x.snd).fst ∧ (0 : Int) = (layF x.fst x.snd).snd ∧ True)) ∧ (decide (x_1.snd.fst < x.snd) = false → ((↑x_2.fst.length : Int) ≤ x.snd ∧ x.snd ≤ (256 : Int) ∧ x_2.fst ++ List.replicate (x.snd.toNat - x_2.fst.length) (0 : Int) = List.flatMap (objWords x_1.fst) x.fst ++ layTail (x.snd - x_1.snd.fst)) ∧ ∀ (x_3 : List Int), (↑x_3.length : Int) ≤ x.snd ∧ x.snd ≤ (256 : Int) ∧ x_3 ++ List.replicate (x.snd.toNat - x_3.length) (0 : Int) = List.flatMap (objWords x_1.fst) x.fst ++ layTail (x.snd - x_1.snd.fst) → (decide ((↑x_3.length : Int) < x.snd) = true → (x_3.length + [(0 : Int)].length) * (8 : Nat) ≤ big ∧ ((↑(x_3 ++ [(0 : Int)]).length : Int) ≤ x.snd ∧ x.snd ≤ (256 : Int) ∧ x_3 ++ [(0 : Int)] ++ List.replicate (x.snd.toNat - (x_3 ++ [(0 : Int)]).length) (0 : Int) = List.flatMap (objWords x_1.fst) x.fst ++ layTail (x.snd - x_1.snd.fst)) ∧ x.snd.toNat - (x_3 ++ [(0 : Int)]).length < x.snd.toNat - x_3.length) ∧ (decide ((↑x_3.length : Int) < x.snd) = false → x_3 = (layF x.fst x.snd).fst ∧ (0 : Int) = (layF x.fst x.snd).snd ∧ True))))))
theorem vcp_rLaid : pv_rLaid := by
  unfold pv_rLaid
  intro ⟨l, n⟩ ⟨⟨hb, hw⟩, hn⟩ _
  simp only [InR] at hn
  simp only at *
  unfold big at hb
  have cond : (decide (n < 0) || decide (256 < n)) = decide (n < 0 ∨ 256 < n) := by simp
  rw [cond]
  refine ⟨fun cn => ?_, fun cn => ⟨⟨by omega, by omega, ?_, ?_, by simp, by omega, by omega, by simp [endOf], by simp [beginsOf]⟩, fun ⟨bs, e, i⟩ ⟨h0, h1, _, _, h2, h3, h4, h5, h6⟩ => ⟨fun hlt => ?_, fun hge => ?_⟩⟩⟩
  · have cn := of_decide_eq_true cn
    have e2 : layF l n = ([], 4) := by unfold layF; rw [if_pos cn]
    simp [e2]
  · have cn := of_decide_eq_false cn
    omega
  · have cn := of_decide_eq_false cn
    omega
  all_goals have cn := of_decide_eq_false cn
  · have hlt : i < (l.length : Int) := by simpa using hlt
    simp only at *
    have ed := drop_cons ((0, [], [], false) : Obj) h0 hlt
    have et := take_snoc ((0, [], [], false) : Obj) h0 hlt
    have hbl : bs.length = i.toNat := by rw [h6, beginsOf_length, List.length_take]; omega
    rw [ed] at h2
    simp only [laysFault] at h2
    rw [et, endOf_append, ← h5, beginsOf_snoc]
    generalize l.getD i.toNat (0, [], [], false) = o at *
    refine ⟨h0, hlt, trivial, trivial, fun hc => ?_, fun hc => ?_⟩
    · have hc : headFault (objHead o) ≠ 0 := by simpa using hc
      rw [if_pos hc] at h2
      have : layF l n = ([], laysFault l) := by unfold layF; rw [if_neg cn, if_pos (by omega)]
      rw [this, ← h2]
      exact ⟨rfl, rfl, trivial⟩
    · have hc : headFault (objHead o) = 0 := by simpa using hc
      have k2 := objLong_le hc
      have k3 := objLong_pos o
      have k4 := headFault_zero hc
      rw [if_neg (by omega)] at h2
      rw [k2.2]
      have k5 : headLong (objHead o) = 1 + (objHead o).1 + (objHead o).2.1 := rfl
      unfold big
      simp only [InR, endOf, List.length_cons, List.length_nil]
      exact ⟨by omega, trivial, by omega, by omega, by omega, ⟨by omega, by omega, by omega, by omega, h2, by omega, by omega, by omega, by rw [← h6, ← h5, Int.zero_add]⟩, by omega⟩
  have hge : ¬ i < (l.length : Int) := by simpa using hge
  simp only at *
  rw [drop_end hge] at h2
  rw [take_end hge] at h5 h6
  have hlf : laysFault l = 0 := h2.symm
  have hz := laysFault_zero hlf
  have hbs : bs = beginsOf 0 l := h6
  clear h6 h2
  refine ⟨fun hc => ?_, fun hc => ?_⟩
  · have hc : n < endOf l := by have := of_decide_eq_true hc; omega
    have : layF l n = ([], 7) := by unfold layF; rw [if_neg cn, if_neg (by omega), if_pos hc]
    rw [this]
    exact ⟨rfl, rfl, trivial⟩
  have hen : endOf l ≤ n := by have := of_decide_eq_false hc; omega
  have hF : layF l n = if (l.any fun o => o.2.1.any (refBad l)) = true then ([], 5) else (l.flatMap (objWords (beginsOf 0 l)) ++ layTail (n - endOf l), 0) := by
    unfold layF
    rw [if_neg cn, if_neg (by omega), if_neg (by omega)]
  rw [hF]
  have hbl : bs.length = l.length := by rw [hbs, beginsOf_length]
  refine ⟨⟨by omega, by omega, by omega, by omega, hlf, hen, hbs, by simp, by simp⟩, fun ⟨a, j⟩ ⟨g0, g1, _, _, _, _, _, g2, g3⟩ => ⟨fun hlt => ?_, fun hge => ?_⟩⟩
  · have hlt : j < (l.length : Int) := by simpa using hlt
    simp only at *
    have ed := drop_cons ((0, [], [], false) : Obj) g0 hlt
    have et := take_snoc ((0, [], [], false) : Obj) g0 hlt
    have hm := getD_mem ((0, [], [], false) : Obj) g0 hlt
    rw [ed] at g2
    simp only [List.any_cons] at g2
    have hle := endOf_le l (j + 1).toNat
    rw [et, endOf_append] at hle
    simp only [endOf] at hle
    have hwl := words_length bs (l.take j.toNat)
    have hoz := hz _ hm
    rw [et, List.flatMap_append]
    simp only [List.flatMap_cons, List.flatMap_nil, List.append_nil]
    generalize l.getD j.toNat (0, [], [], false) = o at *
    have k2 := objLong_le hoz
    have k3 := objLong_pos o
    have hol : objLong o = 1 + o.2.1.length + o.2.2.1.length := rfl
    rw [← g3] at hwl
    unfold big
    refine ⟨g0, hlt, trivial, hoz, by simp only [List.length_cons, List.length_nil]; omega, ⟨by omega, by omega, by simp, by simp [g3]⟩, fun ⟨row, t⟩ ⟨t0, t1, t2, t3⟩ => ⟨fun htl => ?_, fun htg => ?_⟩⟩
    · have htl : t < (o.2.1.length : Int) := by simpa using htl
      simp only at *
      have ed2 := drop_cons (0 : Int) t0 htl
      have et2 := take_snoc (0 : Int) t0 htl
      have hrl : row.length = a.length + (1 + t.toNat) := by rw [t3, ← g3, List.length_append, List.length_cons, List.length_map, List.length_take]; omega
      rw [ed2] at t2
      simp only [List.any_cons] at t2
      rw [et2, List.map_append, ← List.cons_append, ← List.append_assoc, ← t3]
      generalize o.2.1.getD t.toNat 0 = k at *
      simp only [List.map_cons, List.map_nil]
      have hrb := refBad_eq l k
      rw [← hrb]
      refine ⟨t0, htl, fun h1 h2 => by simpa using h1, fun h1 h2 => by simp at h2; omega, fun hc => ?_, fun hc => ?_⟩
      · rw [hc, Bool.true_or] at t2
        rw [← t2, Bool.true_or] at g2
        rw [if_pos g2.symm]
        exact ⟨rfl, rfl, trivial⟩
      · rw [hc] at hrb
        rw [hc, Bool.false_or] at t2
        have hrb := hrb.symm
        simp only [Bool.or_eq_false_iff, decide_eq_false_iff_not] at hrb
        simp only [List.length_cons, List.length_nil, InR]
        refine ⟨fun hk => ?_, fun hk => ?_⟩
        · have hk : 0 ≤ k := by simpa using hk
          have hkl : k.toNat < l.length := by omega
          have hbk : bs.getD k.toNat 0 = endOf (l.take k.toNat) := by rw [hbs, beginsOf_get _ _ _ hkl]; omega
          have hk0 := endOf_nonneg (l.take k.toNat)
          have hk1 := endOf_le l k.toNat
          rw [wrapU (by omega) (by omega)]
          exact ⟨by omega, by omega, by omega, by omega, by omega, by omega, ⟨by omega, by omega, t2, by simp [refWord, show ¬ k = -1 by omega]⟩, by omega⟩
        · have hk : ¬ 0 ≤ k := by simpa using hk
          exact ⟨by omega, by omega, ⟨by omega, by omega, t2, by simp [refWord, show k = -1 by omega]⟩, by omega⟩
    · have htg : ¬ t < (o.2.1.length : Int) := by simpa using htg
      simp only at *
      rw [drop_end htg, List.any_nil] at t2
      rw [take_end htg] at t3
      rw [← t2, Bool.false_or] at g2
      have hrl : row.length = a.length + (1 + o.2.1.length) := by rw [t3, ← g3, List.length_append, List.length_cons, List.length_map]; omega
      refine ⟨by omega, by simp only [InR]; omega, ⟨by omega, by omega, by omega, by omega, hlf, hen, hbs, g2, ?_⟩, by omega⟩
      rw [t3]
      simp [objWords]
  · have hge : ¬ j < (l.length : Int) := by simpa using hge
    simp only at *
    rw [drop_end hge, List.any_nil] at g2
    rw [take_end hge] at g3
    have hF2 : (if (l.any fun o => o.2.1.any (refBad l)) = true then (([] : List Int), (5 : Int)) else (l.flatMap (objWords (beginsOf 0 l)) ++ layTail (n - endOf l), 0)) = (l.flatMap (objWords bs) ++ layTail (n - endOf l), 0) := by
      rw [if_neg (by rw [← g2]; simp), hbs]
    rw [hF2]
    have hwl := words_length bs l
    have he0 := endOf_nonneg l
    rw [← g3] at hwl ⊢
    rw [← h5]
    have hloop : ∀ (x : List Int), (x.length : Int) ≤ n ∧ n ≤ 256 ∧ x ++ List.replicate (n.toNat - x.length) 0 = a ++ layTail (n - e) →
        (decide ((x.length : Int) < n) = true → (x.length + [(0 : Int)].length) * 8 ≤ big ∧ (((x ++ [0]).length : Int) ≤ n ∧ n ≤ 256 ∧ x ++ [0] ++ List.replicate (n.toNat - (x ++ [0]).length) 0 = a ++ layTail (n - e)) ∧ n.toNat - (x ++ [0]).length < n.toNat - x.length) ∧
        (decide ((x.length : Int) < n) = false → x = a ++ layTail (n - e) ∧ (0 : Int) = 0 ∧ True) := by
      intro x ⟨x1, x2, x3⟩
      refine ⟨fun hc => ?_, fun hc => ?_⟩
      · have hc : (x.length : Int) < n := of_decide_eq_true hc
        rw [pad_step x n.toNat (by omega), List.length_append, List.length_cons, List.length_nil]
        unfold big
        exact ⟨by omega, ⟨by omega, by omega, x3⟩, by omega⟩
      · have hc : ¬ (x.length : Int) < n := of_decide_eq_false hc
        rw [pad_end x n.toNat (by omega)] at x3
        exact ⟨x3, rfl, trivial⟩
    refine ⟨fun hc => ?_, fun hc => ?_⟩
    · have hc : e < n := of_decide_eq_true hc
      refine ⟨by simp only [InR]; omega, by omega, by unfold big; simp only [List.length_cons, List.length_nil]; omega, ⟨by rw [List.length_append, List.length_cons, List.length_nil]; omega, by omega, ?_⟩, hloop⟩
      unfold layTail
      rw [if_pos (by omega), List.append_assoc]
      congr 1
      rw [List.length_append, List.length_cons, List.length_nil, show n.toNat - (a.length + (0 + 1)) = (n - e - 1).toNat by omega]
      rfl
    · have hc : ¬ e < n := of_decide_eq_false hc
      refine ⟨⟨by omega, by omega, ?_⟩, hloop⟩
      unfold layTail
      rw [if_neg (by omega), show n.toNat - a.length = 0 by omega]
      rfl
theorem e_rLaid : pv_rLaid = (fnVC Try.prog (tbl [(78, sp_rHeadOfObj), (77, sp_rHeadFault), (40, sp_rHeadLong), (79, sp_rHeadWord), (80, sp_rFreeHead)]) an_rLaid Try.f22 sp_rLaid) := by kernel_rfl
theorem vc_rLaid : fnVC Try.prog (tbl [(78, sp_rHeadOfObj), (77, sp_rHeadFault), (40, sp_rHeadLong), (79, sp_rHeadWord), (80, sp_rFreeHead)]) an_rLaid Try.f22 sp_rLaid := @Eq.mp _ _ @e_rLaid @vcp_rLaid
theorem ok_rLaid : sp_rLaid.ok Try.prog 22 := fn_sound (P := Try.prog) (ss := tbl [(78, sp_rHeadOfObj), (77, sp_rHeadFault), (40, sp_rHeadLong), (79, sp_rHeadWord), (80, sp_rFreeHead)]) (ann := an_rLaid) (f := 22) (fn := Try.f22) (s := sp_rLaid) (tbl_cons ok_rHeadOfObj (tbl_cons ok_rHeadFault (tbl_cons ok_rHeadLong (tbl_cons ok_rHeadWord (tbl_cons ok_rFreeHead tbl_nil))))) Try.func22 @vc_rLaid

def sp_lawWalkLays : Spec := sp_law [.arr ty_Obj, ty_I]

end Go.Proofs.Ytbidboeemnlglaa
