/- Contracts of functions on lists: slices.Index, Contains, IndexFunc, ContainsFunc on []int; rises; FromFault. -/
import Derived.Test.YtgnamdjmjkeodaaWalkSame
namespace Go.Proofs.Ytgnamdjmjkeodaa
open Go
set_option maxRecDepth 100000
set_option maxHeartbeats 1000000

def sp_idxI : Spec := { Ts := [.arr ty_I, ty_I], Rs := [.dat ty_I], pre := fun _ => True, F := fun ((l, v) : List Int × Int) => place l v }
def an_idxI : Nat → Option LoopGen
  | 2 => some { rd := [.dat 0 (.arr ty_I), .dat 1 ty_I], A := fun ((l, v) : List Int × Int) => { cs := [.dat 8 ty_I], inv := fun (i : Int) => 0 ≤ i ∧ i ≤ l.length ∧ findFrom (fun x => decide (x = v)) i (l.drop i.toNat) = place l v, mu := fun (i : Int) => (l.length - i).toNat } }
  | _ => none
def pv_idxI : Prop :=
    ∀ (x : List Int × Int),
  (x.fst.length * (8 : Nat) ≤ big ∧ ∀ (x_1 : Int), x_1 ∈ x.fst → InR IntKind.i64 x_1) ∧ InR IntKind.i64 x.snd →
    True →
      ((0 : Int) ≤ (0 : Int) ∧
          (0 : Int) ≤ (↑x.fst.length : Int) ∧
            findFrom (fun (x_1 : Int) => decide (x_1 = x.snd)) (0 : Int) (List.drop (Int.toNat (0 : Int)) x.fst) =
              place x.fst x.snd) ∧
        ∀ (x_1 : Int),
          (0 : Int) ≤ x_1 ∧
              x_1 ≤ (↑x.fst.length : Int) ∧
                findFrom (fun (x_2 : Int) => decide (x_2 = x.snd)) x_1 (List.drop x_1.toNat x.fst) = place x.fst x.snd →
            (decide (x_1 < (↑x.fst.length : Int)) = true →
                (0 : Int) ≤ x_1 ∧
                  x_1 < (↑x.fst.length : Int) ∧
                    (decide (x.snd = x.fst.getD x_1.toNat (0 : Int)) = true → x_1 = place x.fst x.snd ∧ True) ∧
                      (decide (x.snd = x.fst.getD x_1.toNat (0 : Int)) = false →
                        InR IntKind.i64 (x_1 + (1 : Int)) ∧
                          ((0 : Int) ≤ x_1 + (1 : Int) ∧
                              x_1 + (1 : Int) ≤ (↑x.fst.length : Int) ∧
                                findFrom (fun (x_2 : Int) => decide (x_2 = x.snd)) (x_1 + (1 : Int))
                                    (List.drop (x_1 + (1 : Int)).toNat x.fst) =
                                  place x.fst x.snd) ∧
                            ((↑x.fst.length : Int) - (x_1 + (1 : Int))).toNat < ((↑x.fst.length : Int) - x_1).toNat)) ∧
              (decide (x_1 < (↑x.fst.length : Int)) = false → (-1 : Int) = place x.fst x.snd ∧ True)
theorem vcp_idxI : pv_idxI := by
  unfold pv_idxI
  intro ⟨l, n⟩ ⟨⟨hb, _⟩, _⟩ _
  unfold big at hb
  refine ⟨⟨by omega, by omega, rfl⟩, fun i ⟨h0, h1, h2⟩ => ⟨fun hlt => ?_, fun hge => ?_⟩⟩
  · have hlt : i < (l.length : Int) := by simpa using hlt
    simp only at *
    rw [drop_cons (0 : Int) h0 hlt] at h2
    simp only [findFrom] at h2
    simp only [InR]
    refine ⟨h0, hlt, fun hc => ?_, fun hc => ?_⟩
    · rw [if_pos (decide_eq_true (of_decide_eq_true hc).symm)] at h2
      exact ⟨h2, trivial⟩
    · rw [if_neg (fun e => of_decide_eq_false hc (of_decide_eq_true e).symm)] at h2
      exact ⟨by omega, ⟨by omega, by omega, h2⟩, by omega⟩
  · rw [drop_end (by simpa using hge)] at h2
    exact ⟨h2, trivial⟩
theorem e_idxI : pv_idxI = fnVC Try.prog (tbl []) an_idxI Try.f195 sp_idxI := by kernel_rfl
theorem vc_idxI : fnVC Try.prog (tbl []) an_idxI Try.f195 sp_idxI := @Eq.mp _ _ @e_idxI @vcp_idxI
theorem ok_idxI : sp_idxI.ok Try.prog 195 := fn_sound (P := Try.prog) (ss := tbl []) (ann := an_idxI) (f := 195) (fn := Try.f195) (s := sp_idxI) tbl_nil Try.func195 @vc_idxI

def sp_hasI : Spec := { Ts := [.arr ty_I, ty_I], Rs := [.dat .bool], pre := fun _ => True, F := fun ((l, v) : List Int × Int) => inL l v }
def pv_hasI : Prop :=
    ∀ (x : List Int × Int),
  (x.fst.length * (8 : Nat) ≤ big ∧ ∀ (x_1 : Int), x_1 ∈ x.fst → InR IntKind.i64 x_1) ∧ InR IntKind.i64 x.snd →
    True → True ∧ decide ((0 : Int) ≤ place x.fst x.snd) = inL x.fst x.snd ∧ True
theorem vcp_hasI : pv_hasI := by
  unfold pv_hasI
  intro ⟨l, v⟩ _ _
  exact ⟨trivial, findFrom_any _ l 0 (by omega), trivial⟩
theorem e_hasI : pv_hasI = fnVC Try.prog (tbl [(195, sp_idxI)]) an_0 Try.f132 sp_hasI := by kernel_rfl
theorem vc_hasI : fnVC Try.prog (tbl [(195, sp_idxI)]) an_0 Try.f132 sp_hasI := @Eq.mp _ _ @e_hasI @vcp_hasI
theorem ok_hasI : sp_hasI.ok Try.prog 132 := fn_sound (P := Try.prog) (ss := tbl [(195, sp_idxI)]) (ann := an_0) (f := 132) (fn := Try.f132) (s := sp_hasI) (tbl_cons ok_idxI tbl_nil) Try.func132 @vc_hasI

def sp_idxIF : Spec := { Ts := [.arr ty_I, .fn ty_I .bool], Rs := [.dat ty_I], pre := fun ((l, g) : List Int × (Int → Prop) × (Int → Bool)) => ∀ s ∈ l, g.1 s, F := fun ((l, g) : List Int × (Int → Prop) × (Int → Bool)) => findFrom g.2 0 l }
def an_idxIF : Nat → Option LoopGen
  | 2 => some { rd := [.dat 0 (.arr ty_I), .dat 1 (.fn ty_I .bool)], A := fun ((l, g) : List Int × (Int → Prop) × (Int → Bool)) => { cs := [.dat 8 ty_I], inv := fun (i : Int) => 0 ≤ i ∧ i ≤ l.length ∧ findFrom g.2 i (l.drop i.toNat) = findFrom g.2 0 l, mu := fun (i : Int) => (l.length - i).toNat } }
  | _ => none
def pv_idxIF : Prop :=
    ∀ (x : List Int × (Int → Prop) × (Int → Bool)),
  (x.fst.length * (8 : Nat) ≤ big ∧ ∀ (x_1 : Int), x_1 ∈ x.fst → InR IntKind.i64 x_1) ∧ True →
    (∀ (s : Int), s ∈ x.fst → x.snd.fst s) →
      ((0 : Int) ≤ (0 : Int) ∧
          (0 : Int) ≤ (↑x.fst.length : Int) ∧
            findFrom x.snd.snd (0 : Int) (List.drop (Int.toNat (0 : Int)) x.fst) = findFrom x.snd.snd (0 : Int) x.fst) ∧
        ∀ (x_1 : Int),
          (0 : Int) ≤ x_1 ∧
              x_1 ≤ (↑x.fst.length : Int) ∧
                findFrom x.snd.snd x_1 (List.drop x_1.toNat x.fst) = findFrom x.snd.snd (0 : Int) x.fst →
            (decide (x_1 < (↑x.fst.length : Int)) = true →
                (0 : Int) ≤ x_1 ∧
                  x_1 < (↑x.fst.length : Int) ∧
                    x.snd.fst (x.fst.getD x_1.toNat (0 : Int)) ∧
                      (x.snd.snd (x.fst.getD x_1.toNat (0 : Int)) = true →
                          x_1 = findFrom x.snd.snd (0 : Int) x.fst ∧ True) ∧
                        (x.snd.snd (x.fst.getD x_1.toNat (0 : Int)) = false →
                          InR IntKind.i64 (x_1 + (1 : Int)) ∧
                            ((0 : Int) ≤ x_1 + (1 : Int) ∧
                                x_1 + (1 : Int) ≤ (↑x.fst.length : Int) ∧
                                  findFrom x.snd.snd (x_1 + (1 : Int)) (List.drop (x_1 + (1 : Int)).toNat x.fst) =
                                    findFrom x.snd.snd (0 : Int) x.fst) ∧
                              ((↑x.fst.length : Int) - (x_1 + (1 : Int))).toNat <
                                ((↑x.fst.length : Int) - x_1).toNat)) ∧
              (decide (x_1 < (↑x.fst.length : Int)) = false →
                (-1 : Int) = findFrom x.snd.snd (0 : Int) x.fst ∧ True)
theorem vcp_idxIF : pv_idxIF := by
  unfold pv_idxIF
  intro ⟨l, g⟩ ⟨⟨hl, _⟩, _⟩ hp
  unfold big at *
  refine ⟨⟨by omega, by omega, by simp⟩, fun i ⟨h0, h1, h2⟩ => ⟨fun hlt => ?_, fun hge => ?_⟩⟩
  · have hlt : i < (l.length : Int) := by simpa using hlt
    have e := drop_cons (0 : Int) h0 hlt
    have hm := hp _ (getD_mem (0 : Int) h0 hlt)
    simp only at *
    rw [e] at h2
    simp only [findFrom] at h2
    refine ⟨h0, hlt, hm, fun hc => ?_, fun hc => ?_⟩
    · rw [if_pos hc] at h2
      exact ⟨h2, trivial⟩
    · rw [if_neg (by rw [hc]; simp)] at h2
      exact ⟨by simp only [InR]; omega, ⟨by omega, by omega, h2⟩, by omega⟩
  · rw [drop_end (by simpa using hge)] at h2
    exact ⟨h2, trivial⟩
theorem e_idxIF : pv_idxIF = fnVC Try.prog (tbl []) an_idxIF Try.f147 sp_idxIF := by kernel_rfl
theorem vc_idxIF : fnVC Try.prog (tbl []) an_idxIF Try.f147 sp_idxIF := @Eq.mp _ _ @e_idxIF @vcp_idxIF
theorem ok_idxIF : sp_idxIF.ok Try.prog 147 := fn_sound (P := Try.prog) (ss := tbl []) (ann := an_idxIF) (f := 147) (fn := Try.f147) (s := sp_idxIF) tbl_nil Try.func147 @vc_idxIF

def sp_anyI : Spec := { Ts := [.arr ty_I, .fn ty_I .bool], Rs := [.dat .bool], pre := fun ((l, g) : List Int × (Int → Prop) × (Int → Bool)) => ∀ s ∈ l, g.1 s, F := fun ((l, g) : List Int × (Int → Prop) × (Int → Bool)) => l.any g.2 }
def pv_anyI : Prop :=
    ∀ (x : List Int × (Int → Prop) × (Int → Bool)),
  (x.fst.length * (8 : Nat) ≤ big ∧ ∀ (x_1 : Int), x_1 ∈ x.fst → InR IntKind.i64 x_1) ∧ True →
    (∀ (s : Int), s ∈ x.fst → x.snd.fst s) →
      (∀ (s : Int), s ∈ x.fst → x.snd.fst s) ∧
        decide ((0 : Int) ≤ findFrom x.snd.snd (0 : Int) x.fst) = x.fst.any x.snd.snd ∧ True
theorem vcp_anyI : pv_anyI := by
  unfold pv_anyI
  intro ⟨l, g⟩ _ hp
  exact ⟨hp, findFrom_any _ l 0 (by omega), trivial⟩
theorem e_anyI : pv_anyI = fnVC Try.prog (tbl [(147, sp_idxIF)]) an_0 Try.f74 sp_anyI := by kernel_rfl
theorem vc_anyI : fnVC Try.prog (tbl [(147, sp_idxIF)]) an_0 Try.f74 sp_anyI := @Eq.mp _ _ @e_anyI @vcp_anyI
theorem ok_anyI : sp_anyI.ok Try.prog 74 := fn_sound (P := Try.prog) (ss := tbl [(147, sp_idxIF)]) (ann := an_0) (f := 74) (fn := Try.f74) (s := sp_anyI) (tbl_cons ok_idxIF tbl_nil) Try.func74 @vc_anyI

/-- Each above the one ahead. -/
def risesL : List Int → Bool
  | x :: y :: l => decide (x < y) && risesL (y :: l)
  | _ => true
theorem risesL_short : ∀ {l : List Int}, l.length ≤ 1 → risesL l = true
  | [], _ => rfl
  | [_], _ => rfl
  | _ :: _ :: _, h => by simp at h
def an_rises : Nat → Option LoopGen
  | 2 => some { rd := [.dat 0 (.arr ty_I)], A := fun (l : List Int) => { cs := [.dat 3 ty_I], inv := fun (i : Int) => 1 ≤ i ∧ i ≤ l.length + 1 ∧ risesL (l.drop (i - 1).toNat) = risesL l, mu := fun (i : Int) => (l.length - i).toNat } }
  | _ => none
def sp_rises : Spec := { Ts := [.arr ty_I], Rs := [.dat .bool], pre := fun _ => True, F := risesL }
def pv_rises : Prop :=
    ∀ (x : List Int),
  (x.length * (8 : Nat) ≤ big ∧ ∀ (x_1 : Int), x_1 ∈ x → InR IntKind.i64 x_1) →
    True →
      ((1 : Int) ≤ (1 : Int) ∧
          (1 : Int) ≤ (↑x.length : Int) + (1 : Int) ∧ risesL (List.drop ((1 : Int) - (1 : Int)).toNat x) = risesL x) ∧
        ∀ (x_1 : Int),
          (1 : Int) ≤ x_1 ∧
              x_1 ≤ (↑x.length : Int) + (1 : Int) ∧ risesL (List.drop (x_1 - (1 : Int)).toNat x) = risesL x →
            (decide (x_1 < (↑x.length : Int)) = true →
                InR IntKind.i64 (x_1 - (1 : Int)) ∧
                  (0 : Int) ≤ x_1 - (1 : Int) ∧
                    x_1 - (1 : Int) < (↑x.length : Int) ∧
                      (0 : Int) ≤ x_1 ∧
                        x_1 < (↑x.length : Int) ∧
                          (decide (x.getD x_1.toNat (0 : Int) ≤ x.getD (x_1 - (1 : Int)).toNat (0 : Int)) = true →
                              false = risesL x ∧ True) ∧
                            (decide (x.getD x_1.toNat (0 : Int) ≤ x.getD (x_1 - (1 : Int)).toNat (0 : Int)) = false →
                              InR IntKind.i64 (x_1 + (1 : Int)) ∧
                                ((1 : Int) ≤ x_1 + (1 : Int) ∧
                                    x_1 + (1 : Int) ≤ (↑x.length : Int) + (1 : Int) ∧
                                      risesL (List.drop (x_1 + (1 : Int) - (1 : Int)).toNat x) = risesL x) ∧
                                  ((↑x.length : Int) - (x_1 + (1 : Int))).toNat < ((↑x.length : Int) - x_1).toNat)) ∧
              (decide (x_1 < (↑x.length : Int)) = false → true = risesL x ∧ True)
theorem vcp_rises : pv_rises := by
  unfold pv_rises
  intro l ⟨hb, _⟩ _
  unfold big at hb
  refine ⟨⟨by omega, by omega, rfl⟩, fun i ⟨h0, h1, h2⟩ => ⟨fun hlt => ?_, fun hge => ?_⟩⟩
  · have hlt : i < (l.length : Int) := of_decide_eq_true hlt
    have e1 := drop_cons (0 : Int) (xs := l) (i := i - 1) (by omega) (by omega)
    have e2 := drop_cons (0 : Int) (xs := l) (i := i) (by omega) hlt
    rw [show i - 1 + 1 = i by omega] at e1
    simp only [InR] at h2 ⊢
    rw [e1, e2] at h2
    simp only [risesL] at h2
    rw [← e2] at h2
    refine ⟨by omega, by omega, by omega, by omega, hlt, fun hc => ?_, fun hc => ⟨by omega, ⟨by omega, by omega, ?_⟩, by omega⟩⟩
    · have hc := of_decide_eq_true hc
      rw [← h2, decide_eq_false (by omega)]
      exact ⟨rfl, trivial⟩
    · have hc := of_decide_eq_false hc
      rw [decide_eq_true (by omega), Bool.true_and] at h2
      rw [show i + 1 - 1 = i by omega]
      exact h2
  · have hge : ¬ i < (l.length : Int) := of_decide_eq_false hge
    rw [risesL_short (by rw [List.length_drop]; omega)] at h2
    exact ⟨h2, trivial⟩
theorem e_rises : pv_rises = fnVC Try.prog (tbl []) an_rises Try.f173 sp_rises := by kernel_rfl
theorem vc_rises : fnVC Try.prog (tbl []) an_rises Try.f173 sp_rises := @Eq.mp _ _ @e_rises @vcp_rises
theorem ok_rises : sp_rises.ok Try.prog 173 := fn_sound (P := Try.prog) (ss := tbl []) (ann := an_rises) (f := 173) (fn := Try.f173) (s := sp_rises) tbl_nil Try.func173 @vc_rises

def sp_rRises : Spec := { Ts := [.arr ty_I], Rs := [.dat .bool], pre := fun _ => True, F := risesL }
def pv_rRises : Prop :=
    ∀ (x : List Int),
  (x.length * (8 : Nat) ≤ big ∧ ∀ (x_1 : Int), x_1 ∈ x → InR IntKind.i64 x_1) →
    True →
      ((1 : Int) ≤ (1 : Int) ∧
          (1 : Int) ≤ (↑x.length : Int) + (1 : Int) ∧ risesL (List.drop ((1 : Int) - (1 : Int)).toNat x) = risesL x) ∧
        ∀ (x_1 : Int),
          (1 : Int) ≤ x_1 ∧
              x_1 ≤ (↑x.length : Int) + (1 : Int) ∧ risesL (List.drop (x_1 - (1 : Int)).toNat x) = risesL x →
            (decide (x_1 < (↑x.length : Int)) = true →
                InR IntKind.i64 (x_1 - (1 : Int)) ∧
                  (0 : Int) ≤ x_1 - (1 : Int) ∧
                    x_1 - (1 : Int) < (↑x.length : Int) ∧
                      (0 : Int) ≤ x_1 ∧
                        x_1 < (↑x.length : Int) ∧
                          (decide (x.getD x_1.toNat (0 : Int) ≤ x.getD (x_1 - (1 : Int)).toNat (0 : Int)) = true →
                              false = risesL x ∧ True) ∧
                            (decide (x.getD x_1.toNat (0 : Int) ≤ x.getD (x_1 - (1 : Int)).toNat (0 : Int)) = false →
                              InR IntKind.i64 (x_1 + (1 : Int)) ∧
                                ((1 : Int) ≤ x_1 + (1 : Int) ∧
                                    x_1 + (1 : Int) ≤ (↑x.length : Int) + (1 : Int) ∧
                                      risesL (List.drop (x_1 + (1 : Int) - (1 : Int)).toNat x) = risesL x) ∧
                                  ((↑x.length : Int) - (x_1 + (1 : Int))).toNat < ((↑x.length : Int) - x_1).toNat)) ∧
              (decide (x_1 < (↑x.length : Int)) = false → true = risesL x ∧ True)
theorem vcp_rRises : pv_rRises := by
  unfold pv_rRises
  intro l ⟨hb, _⟩ _
  unfold big at hb
  refine ⟨⟨by omega, by omega, rfl⟩, fun i ⟨h0, h1, h2⟩ => ⟨fun hlt => ?_, fun hge => ?_⟩⟩
  · have hlt : i < (l.length : Int) := of_decide_eq_true hlt
    have e1 := drop_cons (0 : Int) (xs := l) (i := i - 1) (by omega) (by omega)
    have e2 := drop_cons (0 : Int) (xs := l) (i := i) (by omega) hlt
    rw [show i - 1 + 1 = i by omega] at e1
    simp only [InR] at h2 ⊢
    rw [e1, e2] at h2
    simp only [risesL] at h2
    rw [← e2] at h2
    refine ⟨by omega, by omega, by omega, by omega, hlt, fun hc => ?_, fun hc => ⟨by omega, ⟨by omega, by omega, ?_⟩, by omega⟩⟩
    · have hc := of_decide_eq_true hc
      rw [← h2, decide_eq_false (by omega)]
      exact ⟨rfl, trivial⟩
    · have hc := of_decide_eq_false hc
      rw [decide_eq_true (by omega), Bool.true_and] at h2
      rw [show i + 1 - 1 = i by omega]
      exact h2
  · have hge : ¬ i < (l.length : Int) := of_decide_eq_false hge
    rw [risesL_short (by rw [List.length_drop]; omega)] at h2
    exact ⟨h2, trivial⟩
theorem e_rRises : pv_rRises = fnVC Try.prog (tbl []) an_rises Try.f101 sp_rRises := by kernel_rfl
theorem vc_rRises : fnVC Try.prog (tbl []) an_rises Try.f101 sp_rRises := @Eq.mp _ _ @e_rRises @vcp_rRises
theorem ok_rRises : sp_rRises.ok Try.prog 101 := fn_sound (P := Try.prog) (ss := tbl []) (ann := an_rises) (f := 101) (fn := Try.f101) (s := sp_rRises) tbl_nil Try.func101 @vc_rRises

def fromF (a : List Int) (ls : List (List Int)) : Int := if arenaF a ≠ 0 then arenaF a else if (ls.all fun l => l.all (inL (beginsL (spotsF a).1))) = true then 0 else 5
def an_rFrom : Nat → Option LoopGen
  | 6 => some { rd := [.own 6 3 ty_I, .dat 18 (.arr (.arr ty_I))], A := fun ((b, ls) : List Int × List (List Int)) => { cs := [.dat 20 ty_I], inv := fun (i : Int) => 0 ≤ i ∧ i ≤ ls.length ∧ ((ls.drop i.toNat).all fun l => l.all (inL b)) = (ls.all fun l => l.all (inL b)), mu := fun (i : Int) => (ls.length - i).toNat } }
  | 9 => some { rd := [.own 6 3 ty_I, .dat 24 (.arr ty_I)], A := fun ((b, l) : List Int × List Int) => { cs := [.dat 26 ty_I], inv := fun (i : Int) => 0 ≤ i ∧ i ≤ l.length ∧ (l.drop i.toNat).all (inL b) = l.all (inL b), mu := fun (i : Int) => (l.length - i).toNat } }
  | _ => none
def sp_rFrom : Spec := { Ts := [.arr ty_W, .arr (.arr ty_I)], Rs := [.dat ty_I], pre := fun _ => True, F := fun ((a, ls) : List Int × List (List Int)) => fromF a ls }
def pv_rFrom : Prop :=
    ∀ (x : List Int × List (List Int)),
  ((x.fst.length * (8 : Nat) ≤ big ∧ ∀ (x_1 : Int), x_1 ∈ x.fst → InR IntKind.u64 x_1) ∧
      x.snd.length * (24 : Nat) ≤ big ∧
        ∀ (x_1 : List Int), x_1 ∈ x.snd → x_1.length * (8 : Nat) ≤ big ∧ ∀ (x : Int), x ∈ x_1 → InR IntKind.i64 x) →
    True →
      True ∧
        (decide (arenaF x.fst ≠ (0 : Int)) = true → arenaF x.fst = fromF x.fst x.snd ∧ True) ∧
          (decide (arenaF x.fst ≠ (0 : Int)) = false →
            True ∧
              ((0 : Int) ≤ (0 : Int) ∧
                  (0 : Int) ≤ (↑x.snd.length : Int) ∧
                    ((List.drop (Int.toNat (0 : Int)) x.snd).all fun (l : List Int) =>
                        l.all (inL (beginsL (spotsF x.fst).fst))) =
                      x.snd.all fun (l : List Int) => l.all (inL (beginsL (spotsF x.fst).fst))) ∧
                ∀ (x_1 : Int),
                  ((0 : Int) ≤ x_1 ∧
                      x_1 ≤ (↑x.snd.length : Int) ∧
                        ((List.drop x_1.toNat x.snd).all fun (l : List Int) =>
                            l.all (inL (beginsL (spotsF x.fst).fst))) =
                          x.snd.all fun (l : List Int) => l.all (inL (beginsL (spotsF x.fst).fst))) →
                    (decide (x_1 < (↑x.snd.length : Int)) = true →
                        (0 : Int) ≤ x_1 ∧
                          x_1 < (↑x.snd.length : Int) ∧
                            ((0 : Int) ≤ (0 : Int) ∧
                                (0 : Int) ≤ (↑(x.snd.getD x_1.toNat ([] : List Int)).length : Int) ∧
                                  (List.drop (Int.toNat (0 : Int)) (x.snd.getD x_1.toNat ([] : List Int))).all
                                      (inL (beginsL (spotsF x.fst).fst)) =
                                    (x.snd.getD x_1.toNat ([] : List Int)).all (inL (beginsL (spotsF x.fst).fst))) ∧
                              ∀ (x_2 : Int),
                                (0 : Int) ≤ x_2 ∧
                                    x_2 ≤ (↑(x.snd.getD x_1.toNat ([] : List Int)).length : Int) ∧
                                      (List.drop x_2.toNat (x.snd.getD x_1.toNat ([] : List Int))).all
                                          (inL (beginsL (spotsF x.fst).fst)) =
                                        (x.snd.getD x_1.toNat ([] : List Int)).all (inL (beginsL (spotsF x.fst).fst)) →
                                  (decide (x_2 < (↑(x.snd.getD x_1.toNat ([] : List Int)).length : Int)) = true →
                                      (0 : Int) ≤ x_2 ∧
                                        x_2 < (↑(x.snd.getD x_1.toNat ([] : List Int)).length : Int) ∧
                                          True ∧
                                            ((!inL (beginsL (spotsF x.fst).fst)
                                                      ((x.snd.getD x_1.toNat ([] : List Int)).getD x_2.toNat
                                                        (0 : Int))) =
                                                  true →
                                                (5 : Int) = fromF x.fst x.snd ∧ True) ∧
                                              ((!inL (beginsL (spotsF x.fst).fst)
                                                      ((x.snd.getD x_1.toNat ([] : List Int)).getD x_2.toNat
                                                        (0 : Int))) =
                                                  false →
                                                InR IntKind.i64 (x_2 + (1 : Int)) ∧
                                                  ((0 : Int) ≤ x_2 + (1 : Int) ∧
                                                      x_2 + (1 : Int) ≤
                                                          (↑(x.snd.getD x_1.toNat ([] : List Int)).length : Int) ∧
                                                        (List.drop (x_2 + (1 : Int)).toNat
                                                                (x.snd.getD x_1.toNat ([] : List Int))).all
                                                            (inL (beginsL (spotsF x.fst).fst)) =
                                                          (x.snd.getD x_1.toNat ([] : List Int)).all
                                                            (inL (beginsL (spotsF x.fst).fst))) ∧
                                                    ((↑(x.snd.getD x_1.toNat ([] : List Int)).length : Int) -
                                                          (x_2 + (1 : Int))).toNat <
                                                      ((↑(x.snd.getD x_1.toNat ([] : List Int)).length : Int) -
                                                          x_2).toNat)) ∧
                                    (decide (x_2 < (↑(x.snd.getD x_1.toNat ([] : List Int)).length : Int)) = false →
                                      InR IntKind.i64 (x_1 + (1 : Int)) ∧
                                        ((0 : Int) ≤ x_1 + (1 : Int) ∧
                                            x_1 + (1 : Int) ≤ (↑x.snd.length : Int) ∧
                                              ((List.drop (x_1 + (1 : Int)).toNat x.snd).all fun (l : List Int) =>
                                                  l.all (inL (beginsL (spotsF x.fst).fst))) =
                                                x.snd.all fun (l : List Int) =>
                                                  l.all (inL (beginsL (spotsF x.fst).fst))) ∧
                                          ((↑x.snd.length : Int) - (x_1 + (1 : Int))).toNat <
                                            ((↑x.snd.length : Int) - x_1).toNat)) ∧
                      (decide (x_1 < (↑x.snd.length : Int)) = false → (0 : Int) = fromF x.fst x.snd ∧ True))
theorem vcp_rFrom : pv_rFrom := by
  unfold pv_rFrom
  intro ⟨a, ls⟩ ⟨_, hb, hls⟩ _
  unfold big at hb
  simp only at hb hls
  have hF : fromF a ls = if arenaF a ≠ 0 then arenaF a else if (ls.all fun l => l.all (inL (beginsL (spotsF a).1))) = true then 0 else 5 := rfl
  simp only [hF]
  refine ⟨trivial, fun hc => ?_, fun hc => ⟨trivial, ⟨by omega, by omega, rfl⟩, fun i ⟨h0, h1, h2⟩ => ⟨fun hlt => ?_, fun hge => ?_⟩⟩⟩
  · rw [if_pos (of_decide_eq_true hc)]
    exact ⟨rfl, trivial⟩
  · have hlt : i < (ls.length : Int) := of_decide_eq_true hlt
    rw [if_neg (of_decide_eq_false hc)]
    have hm := hls _ (getD_mem ([] : List Int) h0 hlt)
    rw [drop_cons ([] : List Int) h0 hlt, List.all_cons] at h2
    generalize ls.getD i.toNat [] = l at *
    unfold big at hm
    simp only [InR]
    refine ⟨h0, hlt, ⟨by omega, by omega, rfl⟩, fun j ⟨j0, j1, j2⟩ => ⟨fun hj => ?_, fun hj => ?_⟩⟩
    · have hj : j < (l.length : Int) := of_decide_eq_true hj
      rw [drop_cons (0 : Int) j0 hj, List.all_cons] at j2
      refine ⟨j0, hj, trivial, fun hn => ?_, fun hn => ⟨by omega, ⟨by omega, by omega, ?_⟩, by omega⟩⟩
      · have hn : inL (beginsL (spotsF a).1) (l.getD j.toNat 0) = false := by simpa using hn
        rw [hn, Bool.false_and] at j2
        rw [← j2, Bool.false_and] at h2
        rw [← h2]
        exact ⟨rfl, trivial⟩
      · have hn : inL (beginsL (spotsF a).1) (l.getD j.toNat 0) = true := by simpa using hn
        rw [hn, Bool.true_and] at j2
        exact j2
    · rw [drop_end (of_decide_eq_false hj), List.all_nil] at j2
      rw [← j2, Bool.true_and] at h2
      exact ⟨by omega, ⟨by omega, by omega, h2⟩, by omega⟩
  · rw [if_neg (of_decide_eq_false hc)]
    rw [drop_end (of_decide_eq_false hge), List.all_nil] at h2
    rw [← h2]
    exact ⟨rfl, trivial⟩
theorem e_rFrom : pv_rFrom = fnVC Try.prog (tbl [(39, sp_rArenaFault), (47, sp_rBegins), (48, sp_rIn)]) an_rFrom Try.f78 sp_rFrom := by kernel_rfl
theorem vc_rFrom : fnVC Try.prog (tbl [(39, sp_rArenaFault), (47, sp_rBegins), (48, sp_rIn)]) an_rFrom Try.f78 sp_rFrom := @Eq.mp _ _ @e_rFrom @vcp_rFrom
theorem ok_rFrom : sp_rFrom.ok Try.prog 78 := fn_sound (P := Try.prog) (ss := tbl [(39, sp_rArenaFault), (47, sp_rBegins), (48, sp_rIn)]) (ann := an_rFrom) (f := 78) (fn := Try.f78) (s := sp_rFrom) (tbl_cons ok_rArenaFault (tbl_cons ok_rBegins (tbl_cons ok_rIn tbl_nil))) Try.func78 @vc_rFrom

end Go.Proofs.Ytgnamdjmjkeodaa
