/- Contracts of package word: New, Load, Store, Move, Fill; of slices.Clone and slices.Equal on words; the reference's Stretch and Clone; and the law WordTells. -/
import Derived.Test.YtbidboeemnlglaaWord
namespace Go.Proofs.Ytbidboeemnlglaa
open Go
set_option maxRecDepth 100000
set_option maxHeartbeats 1000000

def sp_eqWords : Spec := { Ts := [.arr ty_W, .arr ty_W], Rs := [.dat .bool], pre := fun _ => True, F := fun (x : List Int × List Int) => decide (x.1 = x.2) }
def an_eqWords : Nat → Option LoopGen
  | 4 => some { rd := [.dat 0 (.arr ty_W), .dat 1 (.arr ty_W)], A := fun (g : List Int × List Int) => { cs := [.dat 13 ty_I], inv := fun (i : Int) => g.1.length = g.2.length ∧ 0 ≤ i ∧ i ≤ g.1.length ∧ g.1.take i.toNat = g.2.take i.toNat, mu := fun (i : Int) => (g.1.length - i).toNat } }
  | _ => none

def sp_cloneWords : Spec := { Ts := [.arr ty_W], Rs := [.own 46 ty_W], pre := fun _ => True, F := fun (x : List Int) => x }
def pv_cloneWords : Prop :=
    ∀ (x : List Int), (x.length * (8 : Nat) ≤ big ∧ ∀ (x_1 : Int), x_1 ∈ x → InR IntKind.u64 x_1) → True → (x = ([] : List Int) → ([] : List Int) = x ∧ True) ∧ (True → ((0 : Nat) + x.length) * (8 : Nat) ≤ big ∧ ([] : List Int) ++ x = x ∧ True)
theorem vcp_cloneWords : pv_cloneWords := by
  unfold pv_cloneWords
  intro x ⟨hb, _⟩ _
  simp [hb]
theorem e_cloneWords : pv_cloneWords = (fnVC Try.prog (tbl []) an_0 Try.f81 sp_cloneWords) := by kernel_rfl
theorem vc_cloneWords : fnVC Try.prog (tbl []) an_0 Try.f81 sp_cloneWords := @Eq.mp _ _ @e_cloneWords @vcp_cloneWords
theorem ok_cloneWords : sp_cloneWords.ok Try.prog 81 := fn_sound (P := Try.prog) (ss := tbl []) (ann := an_0) (f := 81) (fn := Try.f81) (s := sp_cloneWords) tbl_nil Try.func81 @vc_cloneWords

def sp_refClone : Spec := { Ts := [.arr ty_W], Rs := [.own 46 ty_W], pre := fun _ => True, F := fun (x : List Int) => x }
def pv_refClone : Prop :=
    ∀ (x : List Int), (x.length * (8 : Nat) ≤ big ∧ ∀ (x_1 : Int), x_1 ∈ x → InR IntKind.u64 x_1) → True → x.length * (8 : Nat) ≤ big ∧ x = x ∧ True
theorem vcp_refClone : pv_refClone := by
  unfold pv_refClone
  intro x ⟨hb, _⟩ _
  simp [hb]
theorem e_refClone : pv_refClone = (fnVC Try.prog (tbl []) an_0 Try.f34 sp_refClone) := by kernel_rfl
theorem vc_refClone : fnVC Try.prog (tbl []) an_0 Try.f34 sp_refClone := @Eq.mp _ _ @e_refClone @vcp_refClone
theorem ok_refClone : sp_refClone.ok Try.prog 34 := fn_sound (P := Try.prog) (ss := tbl []) (ann := an_0) (f := 34) (fn := Try.f34) (s := sp_refClone) tbl_nil Try.func34 @vc_refClone

def stretchOK (L at_ n : Int) : Bool := decide (0 ≤ n) && decide (0 ≤ at_) && decide (at_ ≤ L) && decide (n ≤ L - at_)
def sp_refStretch : Spec := { Ts := [ty_I, ty_I, ty_I], Rs := [.dat .bool], pre := fun _ => True, F := fun ((L, at_, n) : Int × Int × Int) => stretchOK L at_ n }

theorem stretch1 (L : Nat) (n k : Int) : stretchF L n [k] = if 256 < L then 2 else if stretchOK L k n = true then 0 else 4 := by
  simp only [stretchF, stretchBad, stretchOK, List.any_cons, List.any_nil]
  grind
theorem stretch2 (L : Nat) (n f t : Int) : stretchF L n [f, t] = if 256 < L then 2 else if stretchOK L f n = true ∧ stretchOK L t n = true then 0 else 4 := by
  simp only [stretchF, stretchBad, stretchOK, List.any_cons, List.any_nil]
  grind
theorem stretchOK_iff (L k n : Int) : stretchOK L k n = true ↔ 0 ≤ n ∧ 0 ≤ k ∧ k ≤ L ∧ n ≤ L - k := by
  simp [stretchOK, and_assoc]

def newF (n : Int) : List Int × Int := if n < 0 ∨ 256 < n then ([], 4) else (List.replicate n.toNat 0, 0)
def sp_wordNew : Spec := { Ts := [ty_I], Rs := [.own 46 ty_W, .dat ty_I], pre := fun _ => True, F := newF }
def pv_wordNew : Prop :=
    ∀ (x : Int), InR IntKind.i64 x → True → ((decide (x < (0 : Int)) || decide ((256 : Int) < x)) = true → ([] : List Int) = (newF x).fst ∧ (4 : Int) = (newF x).snd ∧ True) ∧ ((decide (x < (0 : Int)) || decide ((256 : Int) < x)) = false → (0 : Int) ≤ x ∧ x.toNat * (8 : Nat) ≤ big ∧ List.replicate x.toNat (0 : Int) = (newF x).fst ∧ (0 : Int) = (newF x).snd ∧ True)
theorem vcp_wordNew : pv_wordNew := by
  unfold pv_wordNew
  intro n hw _
  simp only [InR, newF, big] at *
  grind
theorem e_wordNew : pv_wordNew = (fnVC Try.prog (tbl []) an_0 Try.f75 sp_wordNew) := by kernel_rfl
theorem vc_wordNew : fnVC Try.prog (tbl []) an_0 Try.f75 sp_wordNew := @Eq.mp _ _ @e_wordNew @vcp_wordNew
theorem ok_wordNew : sp_wordNew.ok Try.prog 75 := fn_sound (P := Try.prog) (ss := tbl []) (ann := an_0) (f := 75) (fn := Try.f75) (s := sp_wordNew) tbl_nil Try.func75 @vc_wordNew

def loadF (a : List Int) (at_ : Int) : Int × Int := if stretchF a.length 1 [at_] = 0 then (a.getD at_.toNat 0, 0) else (0, stretchF a.length 1 [at_])
def sp_wordLoad : Spec := { Ts := [.arr ty_W, ty_I], Rs := [.dat ty_W, .dat ty_I], pre := fun _ => True, F := fun ((a, at_) : List Int × Int) => loadF a at_ }

/-- The first k of ys, laid over a from place t on. -/
def putAt (a : List Int) (t : Nat) (ys : List Int) (k : Nat) : List Int := a.take t ++ (ys.take k ++ a.drop (t + k))
def fillL (a : List Int) (at_ n v : Int) (k : Int) : List Int := putAt a at_.toNat (List.replicate n.toNat v) k.toNat
def moveL (a : List Int) (f t n : Int) (k : Int) : List Int := putAt a t.toNat ((a.drop f.toNat).take n.toNat) k.toNat

theorem putAt_zero (a : List Int) (t : Nat) (ys : List Int) : putAt a t ys 0 = a := by simp [putAt]
theorem putAt_length (a : List Int) (t : Nat) (ys : List Int) (k : Nat) (h : t + ys.length ≤ a.length) (hk : k ≤ ys.length) : (putAt a t ys k).length = a.length := by
  simp [putAt]; omega
theorem putAt_set (a : List Int) (t : Nat) (ys : List Int) (k : Nat) (v : Int) (h : t + ys.length ≤ a.length) (hk : k < ys.length) (hv : ys.getD k 0 = v) : (putAt a t ys k).set (t + k) v = putAt a t ys (k + 1) := by
  have hv : v = ys[k] := by rw [← hv]; simp [hk]
  subst hv
  unfold putAt
  have l1 : (a.take t).length = t := by simp; omega
  have l2 : (ys.take k).length = k := by simp; omega
  rw [List.set_append_right _ _ (by omega), l1, List.set_append_right _ _ (by omega), l2, show t + k - t - k = 0 by omega, List.drop_eq_getElem_cons (show t + k < a.length by omega), List.set_cons_zero,
    List.take_succ_eq_append_getElem hk, show t + (k + 1) = t + k + 1 by omega, List.append_assoc]
  rfl

theorem fillL_zero (a : List Int) (at_ n v : Int) : fillL a at_ n v 0 = a := putAt_zero _ _ _
theorem fillL_step (a : List Int) (at_ n v k : Int) (h0 : 0 ≤ at_) (h1 : at_ + n ≤ a.length) (k0 : 0 ≤ k) (k1 : k < n) : (fillL a at_ n v k).set (at_ + k).toNat v = fillL a at_ n v (k + 1) := by
  unfold fillL
  rw [show (at_ + k).toNat = at_.toNat + k.toNat by omega, show (k + 1).toNat = k.toNat + 1 by omega]
  exact putAt_set _ _ _ _ _ (by simp; omega) (by simp; omega) (by simp [show k.toNat < n.toNat by omega])
theorem fillL_length (a : List Int) (at_ n v k : Int) (h0 : 0 ≤ at_) (h1 : at_ + n ≤ a.length) (k0 : 0 ≤ k) (k1 : k ≤ n) : (fillL a at_ n v k).length = a.length :=
  putAt_length _ _ _ _ (by simp; omega) (by simp; omega)
theorem moveL_zero (a : List Int) (f t n : Int) : moveL a f t n 0 = a := putAt_zero _ _ _
theorem moveL_step (a : List Int) (f t n k : Int) (hf0 : 0 ≤ f) (hf1 : f + n ≤ a.length) (h0 : 0 ≤ t) (h1 : t + n ≤ a.length) (k0 : 0 ≤ k) (k1 : k < n) : (moveL a f t n k).set (t + k).toNat (a.getD (f + k).toNat 0) = moveL a f t n (k + 1) := by
  unfold moveL
  rw [show (t + k).toNat = t.toNat + k.toNat by omega, show (k + 1).toNat = k.toNat + 1 by omega]
  refine putAt_set _ _ _ _ _ (by simp; omega) (by simp; omega) ?_
  simp only [List.getD_eq_getElem?_getD, List.getElem?_take, List.getElem?_drop]
  rw [if_pos (by omega), show f.toNat + k.toNat = (f + k).toNat by omega]
theorem moveL_length (a : List Int) (f t n k : Int) (hf0 : 0 ≤ f) (hf1 : f + n ≤ a.length) (h0 : 0 ≤ t) (h1 : t + n ≤ a.length) (k0 : 0 ≤ k) (k1 : k ≤ n) : (moveL a f t n k).length = a.length :=
  putAt_length _ _ _ _ (by simp; omega) (by simp; omega)

def fillF (a : List Int) (at_ n v : Int) : List Int × Int := if stretchF a.length n [at_] = 0 then (fillL a at_ n v n, 0) else ([], stretchF a.length n [at_])
def an_wordFill : Nat → Option LoopGen
  | 6 => some { rd := [.dat 0 (.arr ty_W), .dat 1 ty_I, .dat 2 ty_I, .dat 3 ty_W], wr := [11], A := fun ((a, at_, n, v) : List Int × Int × Int × Int) => { cs := [.own 11 46 ty_W, .dat 24 ty_I], inv := fun ((out, k) : List Int × Int) => 0 ≤ k ∧ k ≤ n ∧ 0 ≤ at_ ∧ at_ + n ≤ a.length ∧ a.length ≤ 256 ∧ out = fillL a at_ n v k, mu := fun ((_, k) : List Int × Int) => (n - k).toNat } }
  | _ => none
def sp_wordFill : Spec := { Ts := [.arr ty_W, ty_I, ty_I, ty_W], Rs := [.own 46 ty_W, .dat ty_I], pre := fun _ => True, F := fun ((a, at_, n, v) : List Int × Int × Int × Int) => fillF a at_ n v }

def sp_wordStore : Spec := { Ts := [.arr ty_W, ty_I, ty_W], Rs := [.own 46 ty_W, .dat ty_I], pre := fun _ => True, F := fun ((a, at_, v) : List Int × Int × Int) => fillF a at_ 1 v }

def moveF (a : List Int) (f t n : Int) : List Int × Int := if stretchF a.length n [f, t] = 0 then (moveL a f t n n, 0) else ([], stretchF a.length n [f, t])
def sp_wordMove : Spec := { Ts := [.arr ty_W, ty_I, ty_I, ty_I], Rs := [.own 46 ty_W, .dat ty_I], pre := fun _ => True, F := fun ((a, f, t, n) : List Int × Int × Int × Int) => moveF a f t n }

theorem fill_loop {a : List Int} {f n v : Int} {K : List Int × Int → Prop} (ok : stretchOK a.length f n = true) (hl : a.length ≤ 256) (hK : K (fillL a f n v n, n)) :
    ((0 : Int) ≤ 0 ∧ 0 ≤ n ∧ 0 ≤ f ∧ f + n ≤ (a.length : Int) ∧ a.length ≤ 256 ∧ a = fillL a f n v 0) ∧
    ∀ x : List Int × Int, (0 ≤ x.2 ∧ x.2 ≤ n ∧ 0 ≤ f ∧ f + n ≤ (a.length : Int) ∧ a.length ≤ 256 ∧ x.1 = fillL a f n v x.2) →
      (decide (x.2 < n) = true → InR IntKind.i64 (f + x.2) ∧ 0 ≤ f + x.2 ∧ f + x.2 < (x.1.length : Int) ∧ (f + x.2).toNat < x.1.length ∧ InR IntKind.i64 (x.2 + 1) ∧
        (0 ≤ x.2 + 1 ∧ x.2 + 1 ≤ n ∧ 0 ≤ f ∧ f + n ≤ (a.length : Int) ∧ a.length ≤ 256 ∧ x.1.set (f + x.2).toNat v = fillL a f n v (x.2 + 1)) ∧ (n - (x.2 + 1)).toNat < (n - x.2).toNat) ∧
      (decide (x.2 < n) = false → K x) := by
  obtain ⟨o1, o2, o3, o4⟩ := (stretchOK_iff _ _ _).1 ok
  refine ⟨⟨by omega, o1, o2, by omega, hl, (fillL_zero _ _ _ _).symm⟩, fun ⟨out, k⟩ ⟨k0, k1, _, q1, q2, q3⟩ => ⟨fun hk => ?_, fun hk => ?_⟩⟩
  · have hk : k < n := by simpa using hk
    simp only at *
    have hl : out.length = a.length := by rw [q3]; exact fillL_length _ _ _ _ _ o2 q1 k0 k1
    refine ⟨by simp only [InR]; omega, by omega, by omega, by omega, by simp only [InR]; omega, ⟨by omega, by omega, o2, q1, q2, ?_⟩, by omega⟩
    rw [q3]
    exact fillL_step _ _ _ _ _ o2 q1 k0 hk
  · have hk : ¬ k < n := by simpa using hk
    simp only at *
    have : k = n := by omega
    rw [q3, this]
    exact hK

theorem move_loop {a : List Int} {f t n : Int} {K : List Int × Int → Prop} (ok : stretchOK a.length f n = true) (ok' : stretchOK a.length t n = true) (hl : a.length ≤ 256) (hK : K (moveL a f t n n, n)) :
    ((0 : Int) ≤ 0 ∧ 0 ≤ n ∧ 0 ≤ f ∧ f + n ≤ (a.length : Int) ∧ 0 ≤ t ∧ t + n ≤ (a.length : Int) ∧ a.length ≤ 256 ∧ a = moveL a f t n 0) ∧
    ∀ x : List Int × Int, (0 ≤ x.2 ∧ x.2 ≤ n ∧ 0 ≤ f ∧ f + n ≤ (a.length : Int) ∧ 0 ≤ t ∧ t + n ≤ (a.length : Int) ∧ a.length ≤ 256 ∧ x.1 = moveL a f t n x.2) →
      (decide (x.2 < n) = true → InR IntKind.i64 (t + x.2) ∧ InR IntKind.i64 (f + x.2) ∧ 0 ≤ f + x.2 ∧ f + x.2 < (a.length : Int) ∧ 0 ≤ t + x.2 ∧ t + x.2 < (x.1.length : Int) ∧ (t + x.2).toNat < x.1.length ∧ InR IntKind.i64 (x.2 + 1) ∧
        (0 ≤ x.2 + 1 ∧ x.2 + 1 ≤ n ∧ 0 ≤ f ∧ f + n ≤ (a.length : Int) ∧ 0 ≤ t ∧ t + n ≤ (a.length : Int) ∧ a.length ≤ 256 ∧ x.1.set (t + x.2).toNat (a.getD (f + x.2).toNat 0) = moveL a f t n (x.2 + 1)) ∧ (n - (x.2 + 1)).toNat < (n - x.2).toNat) ∧
      (decide (x.2 < n) = false → K x) := by
  obtain ⟨o1, o2, o3, o4⟩ := (stretchOK_iff _ _ _).1 ok
  obtain ⟨_, p2, p3, p4⟩ := (stretchOK_iff _ _ _).1 ok'
  refine ⟨⟨by omega, o1, o2, by omega, p2, by omega, hl, (moveL_zero _ _ _ _).symm⟩, fun ⟨out, k⟩ ⟨k0, k1, _, _, _, q1, q2, q3⟩ => ⟨fun hk => ?_, fun hk => ?_⟩⟩
  · have hk : k < n := by simpa using hk
    simp only at *
    have hl : out.length = a.length := by rw [q3]; exact moveL_length _ _ _ _ _ o2 (by omega) p2 q1 k0 k1
    refine ⟨by simp only [InR]; omega, by simp only [InR]; omega, by omega, by omega, by omega, by omega, by omega, by simp only [InR]; omega, ⟨by omega, by omega, o2, by omega, p2, q1, q2, ?_⟩, by omega⟩
    rw [q3]
    exact moveL_step _ _ _ _ _ o2 (by omega) p2 q1 k0 hk
  · have hk : ¬ k < n := by simpa using hk
    simp only at *
    have : k = n := by omega
    rw [q3, this]
    exact hK

def an_lawWordTells : Nat → Option LoopGen
  | 24 => some { rd := [.dat 0 (.arr ty_W), .dat 1 ty_I, .dat 3 ty_I, .dat 4 ty_W], wr := [22], A := fun ((a, at_, n, v) : List Int × Int × Int × Int) => { cs := [.own 22 46 ty_W, .dat 182 ty_I], inv := fun ((out, k) : List Int × Int) => 0 ≤ k ∧ k ≤ n ∧ 0 ≤ at_ ∧ at_ + n ≤ a.length ∧ a.length ≤ 256 ∧ out = fillL a at_ n v k, mu := fun ((_, k) : List Int × Int) => (n - k).toNat } }
  | 34 => some { rd := [.dat 0 (.arr ty_W), .dat 1 ty_I, .dat 2 ty_I, .dat 3 ty_I], wr := [22], A := fun ((a, f, t, n) : List Int × Int × Int × Int) => { cs := [.own 22 46 ty_W, .dat 216 ty_I], inv := fun ((out, k) : List Int × Int) => 0 ≤ k ∧ k ≤ n ∧ 0 ≤ f ∧ f + n ≤ a.length ∧ 0 ≤ t ∧ t + n ≤ a.length ∧ a.length ≤ 256 ∧ out = moveL a f t n k, mu := fun ((_, k) : List Int × Int) => (n - k).toNat } }
  | _ => none
def sp_lawWordTells : Spec := sp_law [.arr ty_W, ty_I, ty_I, ty_I, ty_W]

end Go.Proofs.Ytbidboeemnlglaa
