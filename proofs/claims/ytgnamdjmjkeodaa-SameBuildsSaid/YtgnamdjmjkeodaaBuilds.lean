/- Contract of same.Build; what lies in an arena that is laid; and the law SameBuilds. -/
import Derived.Test.YtgnamdjmjkeodaaLays
import Derived.Test.YtgnamdjmjkeodaaWalks
namespace Go.Proofs.Ytgnamdjmjkeodaa
open Go
set_option maxRecDepth 100000
set_option maxHeartbeats 1000000

theorem headOf_headWord {h : Head} (h0 : headFault h = 0) : headOf (headWord h) = h ∧ isHead (headWord h) = true := by
  obtain ⟨h1, h2, h3, h4, h5, h6⟩ := headFault_zero h0
  have e : headOf (headWord h) = h := by
    obtain ⟨a, b, c, d⟩ := h
    simp only at h1 h2 h3 h4 h5
    simp only [headWord, headOf]
    cases d
    · simp only [Bool.false_eq_true, if_false, Prod.mk.injEq]
      refine ⟨by omega, by omega, by omega, decide_eq_false (by omega)⟩
    · simp only [if_true, Prod.mk.injEq]
      refine ⟨by omega, by omega, by omega, decide_eq_true (by omega)⟩
  refine ⟨e, ?_⟩
  unfold isHead
  rw [e, h0]
  have : headWord h / 281474976710656 ≤ 1 := by
    unfold headWord
    cases h.2.2.2 <;> simp <;> omega
  simp [this]

def spotList (at_ : Int) : List Obj → List Spot
  | [] => []
  | o :: l => (at_, objHead o) :: spotList (at_ + objLong o) l

theorem spotList_length : ∀ (l : List Obj) (e : Int), (spotList e l).length = l.length
  | [], _ => rfl
  | o :: l, e => by simp [spotList, spotList_length l]

theorem spotList_get : ∀ (l : List Obj) (e : Int) (k : Nat) (d : Spot), k < l.length → ((spotList e l).getD k d).1 = e + endOf (l.take k)
  | [], _, k, _, h => by simp at h
  | x :: l, e, 0, d, _ => by simp [spotList, endOf]
  | x :: l, e, k + 1, d, h => by
    have := spotList_get l (e + objLong x) k d (by simpa using h)
    simp only [spotList, List.getD_cons_succ, this, List.take_succ_cons, endOf]
    omega

theorem spots_tail (at_ k : Int) (hk : k ≤ 256) : spotsS at_ (layTail k) = some (if 0 < k then [(at_, (0, k - 1, 0, true))] else []) := by
  unfold layTail
  split
  · rename_i h
    have hf : headFault (0, k - 1, 0, true) = 0 := by simp [headFault, headLong]; omega
    obtain ⟨e1, e2⟩ := headOf_headWord hf
    have hl : headLong (0, k - 1, 0, true) = k := by simp only [headLong]; omega
    rw [spotsS_cons e2 (by rw [e1, hl, List.length_cons, List.length_replicate]; omega), e1, hl, List.drop_of_length_le (by rw [List.length_cons, List.length_replicate]; omega)]
    simp [spotsS]
  · simp [spotsS]

theorem spots_laid (bs : List Int) (k : Int) (hk : k ≤ 256) : ∀ (l : List Obj) (at_ : Int), (∀ o ∈ l, headFault (objHead o) = 0) →
    spotsS at_ (l.flatMap (objWords bs) ++ layTail k) = some (spotList at_ l ++ if 0 < k then [(at_ + endOf l, (0, k - 1, 0, true))] else [])
  | [], at_, _ => by
    simp only [List.flatMap_nil, List.nil_append, spotList, endOf, Int.add_zero]
    exact spots_tail at_ k hk
  | o :: l, at_, h => by
    have ho := h o (by simp)
    obtain ⟨e1, e2⟩ := headOf_headWord ho
    have ih := spots_laid bs k hk l (at_ + objLong o) (fun t ht => h t (by simp [ht]))
    have hl := (objLong_le ho).2
    have hw := objWords_length bs o
    have hp := objLong_pos o
    have hc : (o :: l).flatMap (objWords bs) ++ layTail k = headWord (objHead o) :: (o.2.1.map (refWord bs) ++ o.2.2.1 ++ (l.flatMap (objWords bs) ++ layTail k)) := by
      simp [objWords]
    have hd : (headWord (objHead o) :: (o.2.1.map (refWord bs) ++ o.2.2.1 ++ (l.flatMap (objWords bs) ++ layTail k))).drop (objLong o).toNat = l.flatMap (objWords bs) ++ layTail k := by
      have : headWord (objHead o) :: (o.2.1.map (refWord bs) ++ o.2.2.1 ++ (l.flatMap (objWords bs) ++ layTail k)) = objWords bs o ++ (l.flatMap (objWords bs) ++ layTail k) := by
        simp [objWords]
      rw [this, List.drop_append_of_le_length (by omega), List.drop_of_length_le (by omega)]
      rfl
    rw [hc, spotsS_cons e2 (by
      rw [e1, hl, List.length_cons, List.length_append, List.length_append, List.length_map]
      unfold objLong
      omega), e1, hl, hd, ih]
    simp only [Option.map_some, spotList, endOf, List.cons_append]
    congr 4
    rw [Int.add_assoc]

theorem lay_spots {l : List Obj} {n : Int} (h : (layF l n).2 = 0) : spotsF (layF l n).1 = (spotList 0 l ++ if 0 < n - endOf l then [(endOf l, (0, n - endOf l - 1, 0, true))] else [], 0) := by
  unfold layF at h ⊢
  split at h
  · simp at h
  rename_i h1
  rw [if_neg h1]
  split at h
  · rename_i h2; exact absurd h h2
  rename_i h2
  rw [if_neg h2]
  split at h
  · simp at h
  rename_i h3
  rw [if_neg h3]
  split at h
  · simp at h
  rename_i h4
  rw [if_neg h4]
  simp only
  have he := endOf_nonneg l
  have hs := spots_laid (beginsOf 0 l) (n - endOf l) (by omega) l 0 (laysFault_zero (by omega))
  have hlen : (l.flatMap (objWords (beginsOf 0 l)) ++ layTail (n - endOf l)).length ≤ 256 := by
    have := words_length (beginsOf 0 l) l
    rw [List.length_append]
    unfold layTail
    split
    · rw [List.length_cons, List.length_replicate]; omega
    · rw [List.length_nil]; omega
  unfold spotsF
  rw [if_neg (by omega), hs]
  simp only [Int.zero_add]

abbrev ty_Form : Ty := .pair (.arr ty_Obj) (.arr ty_I)
def fromBad (l : List Obj) (k : Int) : Bool := decide (k < 0) || decide ((l.length : Int) ≤ k) || (l.getD k.toNat (0, [], [], false)).2.2.2
def buildF (l : List Obj) (f : List Int) (n : Int) : List Int × List Int × Int :=
  if (layF l n).2 ≠ 0 then ([], [], (layF l n).2) else if f.any (fromBad l) = true then ([], [], 5) else ((layF l n).1, f.map (fun k => endOf (l.take k.toNat)), 0)

theorem lay_ok {l : List Obj} {n : Int} (h : (layF l n).2 = 0) : laysFault l = 0 ∧ endOf l ≤ n ∧ n ≤ 256 := by
  unfold layF at h
  split at h
  · simp at h
  rename_i h1
  split at h
  · rename_i h2; exact absurd h h2
  rename_i h2
  split at h
  · simp at h
  exact ⟨by omega, by omega, by omega⟩

theorem lay_spots_get {l : List Obj} {n : Int} (h : (layF l n).2 = 0) (k : Nat) (hk : k < l.length) : k < (spotsF (layF l n).1).1.length ∧ ((spotsF (layF l n).1).1.getD k (0, 0, 0, 0, false)).1 = endOf (l.take k) := by
  rw [lay_spots h]
  have e1 := spotList_length l 0
  refine ⟨by rw [List.length_append]; omega, ?_⟩
  have e2 := spotList_get l 0 k (0, 0, 0, 0, false) hk
  rw [Int.zero_add] at e2
  rw [← e2]
  simp [List.getElem?_append_left (show k < (spotList 0 l).length by omega)]

def an_build : Nat → Option LoopGen
  | 7 => some { rd := [.box 2 ty_Form, .own 9 78 ty_Spot, .dat 30 (.arr ty_I)], A := fun (((l, _), sp, f) : (List Obj × List Int) × List Spot × List Int) => { cs := [.own 11 3 ty_I, .dat 32 ty_I], inv := fun ((out, i) : List Int × Int) => 0 ≤ i ∧ i ≤ f.length ∧ f.length * 8 ≤ big ∧ (∀ k : Nat, k < l.length → k < sp.length ∧ (sp.getD k (0, 0, 0, 0, false)).1 = endOf (l.take k)) ∧ (f.drop i.toNat).any (fromBad l) = f.any (fromBad l) ∧ out = (f.take i.toNat).map (fun k => endOf (l.take k.toNat)), mu := fun ((_, i) : List Int × Int) => (f.length - i).toNat } }
  | _ => none
def sp_build : Spec := { Ts := [ty_Form, ty_I], Rs := [.own 39 ty_W, .own 3 ty_I, .dat ty_I], pre := fun _ => True, F := fun ((f, n) : (List Obj × List Int) × Int) => buildF f.1 f.2 n }
def pv_build : Prop :=
    ∀ (x : (List (Int × List Int × List Int × Bool) × List Int) × Int),
  ((x.fst.fst.length * ((8 : Nat) + ((24 : Nat) + ((24 : Nat) + (8 : Nat)))) ≤ big ∧
          ∀ (x_1 : Int × List Int × List Int × Bool),
            x_1 ∈ x.fst.fst →
              InR IntKind.i64 x_1.fst ∧
                (x_1.snd.fst.length * (8 : Nat) ≤ big ∧ ∀ (x : Int), x ∈ x_1.snd.fst → InR IntKind.i64 x) ∧
                  (x_1.snd.snd.fst.length * (8 : Nat) ≤ big ∧ ∀ (x : Int), x ∈ x_1.snd.snd.fst → InR IntKind.u64 x) ∧
                    True) ∧
        x.fst.snd.length * (8 : Nat) ≤ big ∧ ∀ (x_1 : Int), x_1 ∈ x.fst.snd → InR IntKind.i64 x_1) ∧
      InR IntKind.i64 x.snd →
    True →
      True ∧
        (decide ((layF x.fst.fst x.snd).snd ≠ (0 : Int)) = true →
            ([] : List Int) = (buildF x.fst.fst x.fst.snd x.snd).fst ∧
              ([] : List Int) = (buildF x.fst.fst x.fst.snd x.snd).snd.fst ∧
                (layF x.fst.fst x.snd).snd = (buildF x.fst.fst x.fst.snd x.snd).snd.snd ∧ True) ∧
          (decide ((layF x.fst.fst x.snd).snd ≠ (0 : Int)) = false →
            True ∧
              ((0 : Int) ≤ (0 : Int) ∧
                  (0 : Int) ≤ (↑x.fst.snd.length : Int) ∧
                    x.fst.snd.length * (8 : Nat) ≤ big ∧
                      (∀ (k : Nat),
                          k < x.fst.fst.length →
                            k < (spotsF (layF x.fst.fst x.snd).fst).fst.length ∧
                              ((spotsF (layF x.fst.fst x.snd).fst).fst.getD k
                                    ((0 : Int), (0 : Int), (0 : Int), (0 : Int), false)).fst =
                                endOf (List.take k x.fst.fst)) ∧
                        (List.drop (Int.toNat (0 : Int)) x.fst.snd).any (fromBad x.fst.fst) =
                            x.fst.snd.any (fromBad x.fst.fst) ∧
                          ([] : List Int) =
                            List.map (fun (k : Int) => endOf (List.take k.toNat x.fst.fst))
                              (List.take (Int.toNat (0 : Int)) x.fst.snd)) ∧
                ∀ (x_1 : List Int × Int),
                  (0 : Int) ≤ x_1.snd ∧
                      x_1.snd ≤ (↑x.fst.snd.length : Int) ∧
                        x.fst.snd.length * (8 : Nat) ≤ big ∧
                          (∀ (k : Nat),
                              k < x.fst.fst.length →
                                k < (spotsF (layF x.fst.fst x.snd).fst).fst.length ∧
                                  ((spotsF (layF x.fst.fst x.snd).fst).fst.getD k
                                        ((0 : Int), (0 : Int), (0 : Int), (0 : Int), false)).fst =
                                    endOf (List.take k x.fst.fst)) ∧
                            (List.drop x_1.snd.toNat x.fst.snd).any (fromBad x.fst.fst) =
                                x.fst.snd.any (fromBad x.fst.fst) ∧
                              x_1.fst =
                                List.map (fun (k : Int) => endOf (List.take k.toNat x.fst.fst))
                                  (List.take x_1.snd.toNat x.fst.snd) →
                    (decide (x_1.snd < (↑x.fst.snd.length : Int)) = true →
                        (0 : Int) ≤ x_1.snd ∧
                          x_1.snd < (↑x.fst.snd.length : Int) ∧
                            ((decide (x.fst.snd.getD x_1.snd.toNat (0 : Int) < (0 : Int)) ||
                                    decide ((↑x.fst.fst.length : Int) ≤ x.fst.snd.getD x_1.snd.toNat (0 : Int))) =
                                  false →
                                (0 : Int) ≤ x.fst.snd.getD x_1.snd.toNat (0 : Int)) ∧
                              ((decide (x.fst.snd.getD x_1.snd.toNat (0 : Int) < (0 : Int)) ||
                                      decide ((↑x.fst.fst.length : Int) ≤ x.fst.snd.getD x_1.snd.toNat (0 : Int))) =
                                    false →
                                  x.fst.snd.getD x_1.snd.toNat (0 : Int) < (↑x.fst.fst.length : Int)) ∧
                                ((decide (x.fst.snd.getD x_1.snd.toNat (0 : Int) < (0 : Int)) ||
                                          decide ((↑x.fst.fst.length : Int) ≤ x.fst.snd.getD x_1.snd.toNat (0 : Int)) ||
                                        (x.fst.fst.getD (x.fst.snd.getD x_1.snd.toNat (0 : Int)).toNat
                                                ((0 : Int), ([] : List Int), ([] : List Int), false)).snd.snd.snd) =
                                      true →
                                    ([] : List Int) = (buildF x.fst.fst x.fst.snd x.snd).fst ∧
                                      ([] : List Int) = (buildF x.fst.fst x.fst.snd x.snd).snd.fst ∧
                                        (5 : Int) = (buildF x.fst.fst x.fst.snd x.snd).snd.snd ∧ True) ∧
                                  ((decide (x.fst.snd.getD x_1.snd.toNat (0 : Int) < (0 : Int)) ||
                                          decide ((↑x.fst.fst.length : Int) ≤ x.fst.snd.getD x_1.snd.toNat (0 : Int)) ||
                                        (x.fst.fst.getD (x.fst.snd.getD x_1.snd.toNat (0 : Int)).toNat
                                                ((0 : Int), ([] : List Int), ([] : List Int), false)).snd.snd.snd) =
                                      false →
                                    (0 : Int) ≤ x.fst.snd.getD x_1.snd.toNat (0 : Int) ∧
                                      x.fst.snd.getD x_1.snd.toNat (0 : Int) <
                                          (↑(spotsF (layF x.fst.fst x.snd).fst).fst.length : Int) ∧
                                        (x.fst.snd.getD x_1.snd.toNat (0 : Int)).toNat <
                                            (spotsF (layF x.fst.fst x.snd).fst).fst.length ∧
                                          (x_1.fst.length +
                                                  [((spotsF (layF x.fst.fst x.snd).fst).fst.getD
                                                          (x.fst.snd.getD x_1.snd.toNat (0 : Int)).toNat
                                                          ((0 : Int), (0 : Int), (0 : Int), (0 : Int),
                                                            false)).fst].length) *
                                                (8 : Nat) ≤
                                              big ∧
                                            InR IntKind.i64 (x_1.snd + (1 : Int)) ∧
                                              ((0 : Int) ≤ x_1.snd + (1 : Int) ∧
                                                  x_1.snd + (1 : Int) ≤ (↑x.fst.snd.length : Int) ∧
                                                    x.fst.snd.length * (8 : Nat) ≤ big ∧
                                                      (∀ (k : Nat),
                                                          k < x.fst.fst.length →
                                                            k < (spotsF (layF x.fst.fst x.snd).fst).fst.length ∧
                                                              ((spotsF (layF x.fst.fst x.snd).fst).fst.getD k
                                                                    ((0 : Int), (0 : Int), (0 : Int), (0 : Int),
                                                                      false)).fst =
                                                                endOf (List.take k x.fst.fst)) ∧
                                                        (List.drop (x_1.snd + (1 : Int)).toNat x.fst.snd).any
                                                              (fromBad x.fst.fst) =
                                                            x.fst.snd.any (fromBad x.fst.fst) ∧
                                                          x_1.fst ++
                                                              [((spotsF (layF x.fst.fst x.snd).fst).fst.getD
                                                                    (x.fst.snd.getD x_1.snd.toNat (0 : Int)).toNat
                                                                    ((0 : Int), (0 : Int), (0 : Int), (0 : Int),
                                                                      false)).fst] =
                                                            List.map
                                                              (fun (k : Int) => endOf (List.take k.toNat x.fst.fst))
                                                              (List.take (x_1.snd + (1 : Int)).toNat x.fst.snd)) ∧
                                                ((↑x.fst.snd.length : Int) - (x_1.snd + (1 : Int))).toNat <
                                                  ((↑x.fst.snd.length : Int) - x_1.snd).toNat)) ∧
                      (decide (x_1.snd < (↑x.fst.snd.length : Int)) = false →
                        (layF x.fst.fst x.snd).fst = (buildF x.fst.fst x.fst.snd x.snd).fst ∧
                          x_1.fst = (buildF x.fst.fst x.fst.snd x.snd).snd.fst ∧
                            (0 : Int) = (buildF x.fst.fst x.fst.snd x.snd).snd.snd ∧ True))
theorem vcp_build : pv_build := by
  unfold pv_build
  intro ⟨⟨l, f⟩, n⟩ ⟨⟨_, hf, _⟩, _⟩ _
  have hF : buildF l f n = if (layF l n).2 ≠ 0 then ([], [], (layF l n).2) else if f.any (fromBad l) = true then ([], [], 5) else ((layF l n).1, f.map (fun k => endOf (l.take k.toNat)), 0) := rfl
  have hget := lay_spots_get (l := l) (n := n)
  simp only at hf hF ⊢
  refine ⟨trivial, fun hc => ?_, fun hc => ?_⟩
  · have hc : (layF l n).2 ≠ 0 := by simpa using hc
    rw [hF, if_pos hc]
    exact ⟨rfl, rfl, rfl, trivial⟩
  have hc : (layF l n).2 = 0 := by simpa using hc
  rw [if_neg (by omega)] at hF
  have hget := hget hc
  generalize (spotsF (layF l n).1).1 = sp at *
  refine ⟨trivial, ⟨by omega, by omega, hf, hget, rfl, by simp⟩, fun ⟨out, i⟩ ⟨h0, h1, _, _, h2, h3⟩ => ⟨fun hlt => ?_, fun hge => ?_⟩⟩
  · have hlt : i < (f.length : Int) := of_decide_eq_true hlt
    simp only at h0 h1 h2 h3 ⊢
    rw [drop_cons (0 : Int) h0 hlt, List.any_cons] at h2
    have e := take_snoc (0 : Int) h0 hlt
    have hl : out.length = i.toNat := by rw [h3]; simp; omega
    rw [e, List.map_append, ← h3]
    generalize f.getD i.toNat 0 = k at *
    have hfb : (decide (k < 0) || decide ((l.length : Int) ≤ k) || (l.getD k.toNat (0, [], [], false)).2.2.2) = fromBad l k := rfl
    rw [hfb]
    unfold big at *
    simp only [InR, List.length_cons, List.length_nil]
    refine ⟨h0, hlt, fun hk => by simp at hk; omega, fun hk => by simp at hk; omega, fun hk => ?_, fun hk => ?_⟩
    · rw [hk, Bool.true_or] at h2
      rw [hF, if_pos h2.symm]
      exact ⟨rfl, rfl, rfl, trivial⟩
    · rw [hk, Bool.false_or] at h2
      have hk' := hk
      simp only [fromBad, Bool.or_eq_false_iff, decide_eq_false_iff_not] at hk'
      have hkl : k.toNat < l.length := by omega
      obtain ⟨q1, q2⟩ := hget k.toNat hkl
      rw [q2]
      exact ⟨by omega, by omega, q1, by omega, by omega, ⟨by omega, by omega, hf, hget, h2, rfl⟩, by omega⟩
  · have hge : ¬ i < (f.length : Int) := of_decide_eq_false hge
    simp only at h0 h1 h2 h3
    rw [drop_end hge, List.any_nil] at h2
    rw [take_end hge] at h3
    rw [hF, if_neg (by rw [← h2]; simp), h3]
    exact ⟨rfl, rfl, rfl, trivial⟩
theorem e_build : pv_build = fnVC Try.prog (tbl [(95, sp_lay), (96, sp_walkSpots)]) an_build Try.f15 sp_build := by kernel_rfl
theorem vc_build : fnVC Try.prog (tbl [(95, sp_lay), (96, sp_walkSpots)]) an_build Try.f15 sp_build := @Eq.mp _ _ @e_build @vcp_build
theorem ok_build : sp_build.ok Try.prog 15 := fn_sound (P := Try.prog) (ss := tbl [(95, sp_lay), (96, sp_walkSpots)]) (ann := an_build) (f := 15) (fn := Try.f15) (s := sp_build) (tbl_cons ok_lay (tbl_cons ok_walkSpots tbl_nil)) Try.func15 @vc_build

def an_lawSameBuilds : Nat → Option LoopGen
  | 7 => some { rd := [.box 2 ty_Form, .dat 34 (.arr ty_I), .dat 9 ty_I], A := fun (((l, _), f, e) : (List Obj × List Int) × List Int × Int) => { cs := [.dat 9 ty_I, .own 10 3 ty_I, .dat 36 ty_I], inv := fun ((b, out, i) : Int × List Int × Int) => 0 ≤ i ∧ i ≤ f.length ∧ f.length * 8 ≤ big ∧ (e = 0 → endOf l ≤ 256) ∧ b = (if e ≠ 0 then e else if (f.take i.toNat).any (fromBad l) = true then 5 else 0) ∧ out.length = i ∧ (b = 0 → out = (f.take i.toNat).map (fun k => endOf (l.take k.toNat))), mu := fun ((_, _, i) : Int × List Int × Int) => (f.length - i).toNat } }
  | 1000010 => some { rd := [.box 2 ty_Form, .dat 9 ty_I, .dat 12 ty_I], A := fun (((l, _), b, k) : (List Obj × List Int) × Int × Int) => { cs := [.dat 9 ty_I], inv := fun (c : Int) => c = if b = 0 ∧ fromBad l k = true then 5 else b, mu := fun _ => 0 } }
  | 13 => some { rd := [.box 2 ty_Form, .dat 9 ty_I, .dat 12 ty_I], A := fun (((l, _), b, k) : (List Obj × List Int) × Int × Int) => { cs := [.dat 13 ty_I, .dat 14 ty_I], inv := fun ((at_, i) : Int × Int) => (b = 0 → 0 ≤ k ∧ k < l.length ∧ endOf l ≤ 256 ∧ i ≤ k) ∧ 0 ≤ i ∧ at_ = endOf (l.take i.toNat), mu := fun ((_, i) : Int × Int) => (k - i).toNat } }
  | _ => none
def sp_lawSameBuilds : Spec := sp_law [ty_Form, ty_I]
def pv_lawSameBuilds : Prop :=
    ∀ (x : (List (Int × List Int × List Int × Bool) × List Int) × Int),
  ((x.fst.fst.length * ((8 : Nat) + ((24 : Nat) + ((24 : Nat) + (8 : Nat)))) ≤ big ∧
          ∀ (x_1 : Int × List Int × List Int × Bool),
            x_1 ∈ x.fst.fst →
              InR IntKind.i64 x_1.fst ∧
                (x_1.snd.fst.length * (8 : Nat) ≤ big ∧ ∀ (x : Int), x ∈ x_1.snd.fst → InR IntKind.i64 x) ∧
                  (x_1.snd.snd.fst.length * (8 : Nat) ≤ big ∧ ∀ (x : Int), x ∈ x_1.snd.snd.fst → InR IntKind.u64 x) ∧
                    True) ∧
        x.fst.snd.length * (8 : Nat) ≤ big ∧ ∀ (x_1 : Int), x_1 ∈ x.fst.snd → InR IntKind.i64 x_1) ∧
      InR IntKind.i64 x.snd →
    True →
      True ∧
        (decide ((60 : Int) < (↑x.fst.fst.length : Int)) = true → true = true ∧ True) ∧
          (decide ((60 : Int) < (↑x.fst.fst.length : Int)) = false →
            True ∧
              ((0 : Int) ≤ (0 : Int) ∧
                  (0 : Int) ≤ (↑x.fst.snd.length : Int) ∧
                    x.fst.snd.length * (8 : Nat) ≤ big ∧
                      ((layF x.fst.fst x.snd).snd = (0 : Int) → endOf x.fst.fst ≤ (256 : Int)) ∧
                        ((layF x.fst.fst x.snd).snd =
                            if (layF x.fst.fst x.snd).snd ≠ (0 : Int) then (layF x.fst.fst x.snd).snd
                            else
                              if (List.take (Int.toNat (0 : Int)) x.fst.snd).any (fromBad x.fst.fst) = true then
                                (5 : Int)
                              else (0 : Int)) ∧
                          (↑(0 : Nat) : Int) = (0 : Int) ∧
                            ((layF x.fst.fst x.snd).snd = (0 : Int) →
                              ([] : List Int) =
                                List.map (fun (k : Int) => endOf (List.take k.toNat x.fst.fst))
                                  (List.take (Int.toNat (0 : Int)) x.fst.snd))) ∧
                ∀ (x_1 : Int × List Int × Int),
                  (0 : Int) ≤ x_1.snd.snd ∧
                      x_1.snd.snd ≤ (↑x.fst.snd.length : Int) ∧
                        x.fst.snd.length * (8 : Nat) ≤ big ∧
                          ((layF x.fst.fst x.snd).snd = (0 : Int) → endOf x.fst.fst ≤ (256 : Int)) ∧
                            (x_1.fst =
                                if (layF x.fst.fst x.snd).snd ≠ (0 : Int) then (layF x.fst.fst x.snd).snd
                                else
                                  if (List.take x_1.snd.snd.toNat x.fst.snd).any (fromBad x.fst.fst) = true then
                                    (5 : Int)
                                  else (0 : Int)) ∧
                              (↑x_1.snd.fst.length : Int) = x_1.snd.snd ∧
                                (x_1.fst = (0 : Int) →
                                  x_1.snd.fst =
                                    List.map (fun (k : Int) => endOf (List.take k.toNat x.fst.fst))
                                      (List.take x_1.snd.snd.toNat x.fst.snd)) →
                    (decide (x_1.snd.snd < (↑x.fst.snd.length : Int)) = true →
                        (0 : Int) ≤ x_1.snd.snd ∧
                          x_1.snd.snd < (↑x.fst.snd.length : Int) ∧
                            ((decide (x.fst.snd.getD x_1.snd.snd.toNat (0 : Int) < (0 : Int)) ||
                                    decide ((↑x.fst.fst.length : Int) ≤ x.fst.snd.getD x_1.snd.snd.toNat (0 : Int))) =
                                  false →
                                decide (x_1.fst = (0 : Int)) = true →
                                  (0 : Int) ≤ x.fst.snd.getD x_1.snd.snd.toNat (0 : Int)) ∧
                              ((decide (x.fst.snd.getD x_1.snd.snd.toNat (0 : Int) < (0 : Int)) ||
                                      decide ((↑x.fst.fst.length : Int) ≤ x.fst.snd.getD x_1.snd.snd.toNat (0 : Int))) =
                                    false →
                                  decide (x_1.fst = (0 : Int)) = true →
                                    x.fst.snd.getD x_1.snd.snd.toNat (0 : Int) < (↑x.fst.fst.length : Int)) ∧
                                (((decide (x_1.fst = (0 : Int)) &&
                                          (decide (x.fst.snd.getD x_1.snd.snd.toNat (0 : Int) < (0 : Int)) ||
                                              decide
                                                ((↑x.fst.fst.length : Int) ≤
                                                  x.fst.snd.getD x_1.snd.snd.toNat (0 : Int)) ||
                                            (x.fst.fst.getD (x.fst.snd.getD x_1.snd.snd.toNat (0 : Int)).toNat
                                                    ((0 : Int), ([] : List Int), ([] : List Int),
                                                      false)).snd.snd.snd)) =
                                        true →
                                      (5 : Int) =
                                        if
                                            x_1.fst = (0 : Int) ∧
                                              fromBad x.fst.fst (x.fst.snd.getD x_1.snd.snd.toNat (0 : Int)) = true then
                                          (5 : Int)
                                        else x_1.fst) ∧
                                    ((decide (x_1.fst = (0 : Int)) &&
                                          (decide (x.fst.snd.getD x_1.snd.snd.toNat (0 : Int) < (0 : Int)) ||
                                              decide
                                                ((↑x.fst.fst.length : Int) ≤
                                                  x.fst.snd.getD x_1.snd.snd.toNat (0 : Int)) ||
                                            (x.fst.fst.getD (x.fst.snd.getD x_1.snd.snd.toNat (0 : Int)).toNat
                                                    ((0 : Int), ([] : List Int), ([] : List Int),
                                                      false)).snd.snd.snd)) =
                                        false →
                                      x_1.fst =
                                        if
                                            x_1.fst = (0 : Int) ∧
                                              fromBad x.fst.fst (x.fst.snd.getD x_1.snd.snd.toNat (0 : Int)) = true then
                                          (5 : Int)
                                        else x_1.fst)) ∧
                                  ∀ (x_2 : Int),
                                    (x_2 =
                                        if
                                            x_1.fst = (0 : Int) ∧
                                              fromBad x.fst.fst (x.fst.snd.getD x_1.snd.snd.toNat (0 : Int)) = true then
                                          (5 : Int)
                                        else x_1.fst) →
                                      ((x_2 = (0 : Int) →
                                            (0 : Int) ≤ x.fst.snd.getD x_1.snd.snd.toNat (0 : Int) ∧
                                              x.fst.snd.getD x_1.snd.snd.toNat (0 : Int) < (↑x.fst.fst.length : Int) ∧
                                                endOf x.fst.fst ≤ (256 : Int) ∧
                                                  (0 : Int) ≤ x.fst.snd.getD x_1.snd.snd.toNat (0 : Int)) ∧
                                          (0 : Int) ≤ (0 : Int) ∧
                                            (0 : Int) = endOf (List.take (Int.toNat (0 : Int)) x.fst.fst)) ∧
                                        ∀ (x_3 : Int × Int),
                                          (x_2 = (0 : Int) →
                                                (0 : Int) ≤ x.fst.snd.getD x_1.snd.snd.toNat (0 : Int) ∧
                                                  x.fst.snd.getD x_1.snd.snd.toNat (0 : Int) <
                                                      (↑x.fst.fst.length : Int) ∧
                                                    endOf x.fst.fst ≤ (256 : Int) ∧
                                                      x_3.snd ≤ x.fst.snd.getD x_1.snd.snd.toNat (0 : Int)) ∧
                                              (0 : Int) ≤ x_3.snd ∧
                                                x_3.fst = endOf (List.take x_3.snd.toNat x.fst.fst) →
                                            ((decide (x_2 = (0 : Int)) &&
                                                    decide (x_3.snd < x.fst.snd.getD x_1.snd.snd.toNat (0 : Int))) =
                                                  true →
                                                (0 : Int) ≤ x_3.snd ∧
                                                  x_3.snd < (↑x.fst.fst.length : Int) ∧
                                                    True ∧
                                                      (InR IntKind.i64
                                                            ((1 : Int) +
                                                              (objHead
                                                                  (x.fst.fst.getD x_3.snd.toNat
                                                                    ((0 : Int), ([] : List Int), ([] : List Int),
                                                                      false))).fst) ∧
                                                          InR IntKind.i64
                                                            ((1 : Int) +
                                                                (objHead
                                                                    (x.fst.fst.getD x_3.snd.toNat
                                                                      ((0 : Int), ([] : List Int), ([] : List Int),
                                                                        false))).fst +
                                                              (objHead
                                                                    (x.fst.fst.getD x_3.snd.toNat
                                                                      ((0 : Int), ([] : List Int), ([] : List Int),
                                                                        false))).snd.fst)) ∧
                                                        InR IntKind.i64
                                                            (x_3.fst +
                                                              headLong
                                                                (objHead
                                                                  (x.fst.fst.getD x_3.snd.toNat
                                                                    ((0 : Int), ([] : List Int), ([] : List Int),
                                                                      false)))) ∧
                                                          InR IntKind.i64 (x_3.snd + (1 : Int)) ∧
                                                            ((x_2 = (0 : Int) →
                                                                  (0 : Int) ≤
                                                                      x.fst.snd.getD x_1.snd.snd.toNat (0 : Int) ∧
                                                                    x.fst.snd.getD x_1.snd.snd.toNat (0 : Int) <
                                                                        (↑x.fst.fst.length : Int) ∧
                                                                      endOf x.fst.fst ≤ (256 : Int) ∧
                                                                        x_3.snd + (1 : Int) ≤
                                                                          x.fst.snd.getD x_1.snd.snd.toNat (0 : Int)) ∧
                                                                (0 : Int) ≤ x_3.snd + (1 : Int) ∧
                                                                  x_3.fst +
                                                                      headLong
                                                                        (objHead
                                                                          (x.fst.fst.getD x_3.snd.toNat
                                                                            ((0 : Int), ([] : List Int),
                                                                              ([] : List Int), false))) =
                                                                    endOf
                                                                      (List.take (x_3.snd + (1 : Int)).toNat
                                                                        x.fst.fst)) ∧
                                                              (x.fst.snd.getD x_1.snd.snd.toNat (0 : Int) -
                                                                    (x_3.snd + (1 : Int))).toNat <
                                                                (x.fst.snd.getD x_1.snd.snd.toNat (0 : Int) -
                                                                    x_3.snd).toNat) ∧
                                              ((decide (x_2 = (0 : Int)) &&
                                                    decide (x_3.snd < x.fst.snd.getD x_1.snd.snd.toNat (0 : Int))) =
                                                  false →
                                                (x_1.snd.fst.length + [x_3.fst].length) * (8 : Nat) ≤ big ∧
                                                  InR IntKind.i64 (x_1.snd.snd + (1 : Int)) ∧
                                                    ((0 : Int) ≤ x_1.snd.snd + (1 : Int) ∧
                                                        x_1.snd.snd + (1 : Int) ≤ (↑x.fst.snd.length : Int) ∧
                                                          x.fst.snd.length * (8 : Nat) ≤ big ∧
                                                            ((layF x.fst.fst x.snd).snd = (0 : Int) →
                                                                endOf x.fst.fst ≤ (256 : Int)) ∧
                                                              (x_2 =
                                                                  if (layF x.fst.fst x.snd).snd ≠ (0 : Int) then
                                                                    (layF x.fst.fst x.snd).snd
                                                                  else
                                                                    if
                                                                        (List.take (x_1.snd.snd + (1 : Int)).toNat
                                                                                x.fst.snd).any
                                                                            (fromBad x.fst.fst) =
                                                                          true then
                                                                      (5 : Int)
                                                                    else (0 : Int)) ∧
                                                                (↑(x_1.snd.fst ++ [x_3.fst]).length : Int) =
                                                                    x_1.snd.snd + (1 : Int) ∧
                                                                  (x_2 = (0 : Int) →
                                                                    x_1.snd.fst ++ [x_3.fst] =
                                                                      List.map
                                                                        (fun (k : Int) =>
                                                                          endOf (List.take k.toNat x.fst.fst))
                                                                        (List.take (x_1.snd.snd + (1 : Int)).toNat
                                                                          x.fst.snd))) ∧
                                                      ((↑x.fst.snd.length : Int) - (x_1.snd.snd + (1 : Int))).toNat <
                                                        ((↑x.fst.snd.length : Int) - x_1.snd.snd).toNat)) ∧
                      (decide (x_1.snd.snd < (↑x.fst.snd.length : Int)) = false →
                        (decide (x_1.fst ≠ (0 : Int)) = true →
                            InR IntKind.i64
                                ((↑(buildF x.fst.fst x.fst.snd x.snd).fst.length : Int) +
                                  (↑(buildF x.fst.fst x.fst.snd x.snd).snd.fst.length : Int)) ∧
                              (decide
                                      ((↑(buildF x.fst.fst x.fst.snd x.snd).fst.length : Int) +
                                          (↑(buildF x.fst.fst x.fst.snd x.snd).snd.fst.length : Int) =
                                        (0 : Int)) &&
                                    decide ((buildF x.fst.fst x.fst.snd x.snd).snd.snd = x_1.fst)) =
                                  true ∧
                                True) ∧
                          (decide (x_1.fst ≠ (0 : Int)) = false →
                            (decide ((buildF x.fst.fst x.fst.snd x.snd).snd.snd = (0 : Int)) = true → True) ∧
                              ((decide ((buildF x.fst.fst x.fst.snd x.snd).snd.snd = (0 : Int)) &&
                                      decide ((buildF x.fst.fst x.fst.snd x.snd).fst = (layF x.fst.fst x.snd).fst)) =
                                    true →
                                  True) ∧
                                (decide ((buildF x.fst.fst x.fst.snd x.snd).snd.snd = (0 : Int)) &&
                                        decide ((buildF x.fst.fst x.fst.snd x.snd).fst = (layF x.fst.fst x.snd).fst) &&
                                      decide ((buildF x.fst.fst x.fst.snd x.snd).snd.fst = x_1.snd.fst)) =
                                    true ∧
                                  True)))
theorem vcp_lawSameBuilds : pv_lawSameBuilds := by
  unfold pv_lawSameBuilds
  intro ⟨⟨l, f⟩, n⟩ ⟨⟨⟨hbl, hw⟩, hf, _⟩, _⟩ _
  have hF : buildF l f n = if (layF l n).2 ≠ 0 then ([], [], (layF l n).2) else if f.any (fromBad l) = true then ([], [], 5) else ((layF l n).1, f.map (fun k => endOf (l.take k.toNat)), 0) := rfl
  have hok := lay_ok (l := l) (n := n)
  simp only at hbl hf hF hw ⊢
  refine ⟨trivial, fun _ => ⟨trivial, trivial⟩, fun _ => ⟨trivial, ⟨by omega, by omega, hf, fun h => by have := hok h; omega, ?_, by simp, by simp⟩, fun ⟨b, out, i⟩ ⟨h0, h1, _, h2, h3, h4, h5⟩ => ⟨fun hlt => ?_, fun hge => ?_⟩⟩⟩
  · by_cases hz : (layF l n).2 = 0
    · simp [hz]
    · simp [hz]
  · have hlt : i < (f.length : Int) := of_decide_eq_true hlt
    simp only at h0 h1 h2 h3 h4 h5 ⊢
    have e := take_snoc (0 : Int) h0 hlt
    rw [e, List.map_append, List.any_append]
    generalize f.getD i.toNat 0 = k at *
    have hfb : (decide (k < 0) || decide ((l.length : Int) ≤ k) || (l.getD k.toNat (0, [], [], false)).2.2.2) = fromBad l k := rfl
    rw [hfb]
    refine ⟨h0, hlt, fun hk _ => by simp at hk; omega, fun hk _ => by simp at hk; omega, ⟨fun hc => ?_, fun hc => ?_⟩, fun c hcd => ?_⟩
    · simp only [Bool.and_eq_true, decide_eq_true_eq] at hc
      rw [if_pos hc]
    · rw [if_neg]
      rintro ⟨q1, q2⟩
      simp [q1, q2] at hc
    have hc0 : c = 0 → b = 0 ∧ fromBad l k = false := by
      intro hc
      by_cases hq : b = 0 ∧ fromBad l k = true
      · rw [if_pos hq] at hcd; omega
      · rw [if_neg hq] at hcd
        refine ⟨by omega, ?_⟩
        cases hk : fromBad l k
        · rfl
        · exact absurd ⟨by omega, hk⟩ hq
    have hk0 : c = 0 → 0 ≤ k ∧ k < (l.length : Int) ∧ endOf l ≤ 256 := by
      intro hc
      obtain ⟨q1, q2⟩ := hc0 hc
      simp only [fromBad, Bool.or_eq_false_iff, decide_eq_false_iff_not] at q2
      have hz : (layF l n).2 = 0 := by
        rw [q1] at h3
        by_cases hz : (layF l n).2 = 0
        · exact hz
        · rw [if_pos hz] at h3; omega
      exact ⟨by omega, by omega, h2 hz⟩
    unfold big at *
    simp only [InR, List.length_cons, List.length_nil, List.length_append]
    refine ⟨⟨fun hc => ⟨(hk0 hc).1, (hk0 hc).2.1, (hk0 hc).2.2, (hk0 hc).1⟩, by omega, by simp [endOf]⟩, fun ⟨at_, j⟩ ⟨g0, g1, g2⟩ => ⟨fun hj => ?_, fun hj => ?_⟩⟩
    · simp only [Bool.and_eq_true, decide_eq_true_eq] at hj
      simp only at g0 g1 g2 hj ⊢
      obtain ⟨q1, q2, q3, q4⟩ := g0 hj.1
      have hjl : j < (l.length : Int) := by omega
      have e2 := take_snoc ((0, [], [], false) : Obj) g1 hjl
      have hmm := hw _ (getD_mem ((0, [], [], false) : Obj) g1 hjl)
      have hle := endOf_le l (j + 1).toNat
      have h00 := endOf_nonneg (l.take j.toNat)
      rw [e2, endOf_append] at hle ⊢
      generalize l.getD j.toNat (0, [], [], false) = o at *
      have hL : headLong (objHead o) = objLong o := rfl
      have hL1 : (objHead o).1 = o.2.1.length := rfl
      have hL2 : (objHead o).2.1 = o.2.2.1.length := rfl
      have hp := objLong_pos o
      have m1 := hmm.2.1.1
      have m2 := hmm.2.2.1.1
      rw [hL, hL1, hL2]
      simp only [endOf] at hle ⊢
      exact ⟨by omega, by omega, trivial, ⟨by omega, by omega⟩, by omega, by omega, ⟨fun hc => ⟨q1, q2, q3, by omega⟩, by omega, by omega⟩, by omega⟩
    · simp only at g0 g1 g2 ⊢
      refine ⟨by omega, by omega, ⟨by omega, by omega, hf, h2, ?_, by omega, fun hc => ?_⟩, by omega⟩
      · rw [hcd]
        simp only [List.any_cons, List.any_nil, Bool.or_false]
        generalize (f.take i.toNat).any (fromBad l) = B at h3 ⊢
        generalize fromBad l k = K
        by_cases hz : (layF l n).2 = 0
        · have hz' : ¬ ((layF l n).2 ≠ 0) := by omega
          rw [if_neg hz'] at h3 ⊢
          rw [h3]
          cases B <;> cases K <;> rfl
        · rw [if_pos hz] at h3 ⊢
          rw [if_neg (by omega), h3]
      · obtain ⟨q1, q2⟩ := hc0 hc
        obtain ⟨p1, p2, p3⟩ := hk0 hc
        obtain ⟨r1, r2, r3, r4⟩ := g0 hc
        have : j = k := by
          simp [hc] at hj
          omega
        rw [h5 q1, g2, this]
        rfl
  · have hge : ¬ i < (f.length : Int) := of_decide_eq_false hge
    simp only at h0 h1 h2 h3 h4 h5 ⊢
    rw [take_end hge] at h3 h5
    by_cases hz : (layF l n).2 = 0
    · rw [if_neg (by omega)] at hF h3
      cases hb : f.any (fromBad l)
      · rw [hb] at hF h3
        simp at hF h3
        rw [h3, hF]
        refine ⟨fun h => by simp at h, fun _ => ⟨fun _ => trivial, fun _ => trivial, ?_, trivial⟩⟩
        rw [h5 h3]
        simp
      · rw [hb] at hF h3
        simp at hF h3
        rw [h3, hF]
        simp [InR]
    · rw [if_pos hz] at hF h3
      rw [h3, hF]
      simp [InR, hz]
theorem e_lawSameBuilds : pv_lawSameBuilds = fnVC Try.prog (tbl [(15, sp_build), (16, sp_rLaid), (18, sp_rHeadOfObj), (17, sp_rHeadLong), (19, sp_eqWords), (20, sp_eqInts)]) an_lawSameBuilds Try.f3 sp_lawSameBuilds := by kernel_rfl
theorem vc_lawSameBuilds : fnVC Try.prog (tbl [(15, sp_build), (16, sp_rLaid), (18, sp_rHeadOfObj), (17, sp_rHeadLong), (19, sp_eqWords), (20, sp_eqInts)]) an_lawSameBuilds Try.f3 sp_lawSameBuilds := @Eq.mp _ _ @e_lawSameBuilds @vcp_lawSameBuilds
theorem ok_lawSameBuilds : sp_lawSameBuilds.ok Try.prog 3 := fn_sound (P := Try.prog) (ss := tbl [(15, sp_build), (16, sp_rLaid), (18, sp_rHeadOfObj), (17, sp_rHeadLong), (19, sp_eqWords), (20, sp_eqInts)]) (ann := an_lawSameBuilds) (f := 3) (fn := Try.f3) (s := sp_lawSameBuilds) (tbl_cons ok_build (tbl_cons ok_rLaid (tbl_cons ok_rHeadOfObj (tbl_cons ok_rHeadLong (tbl_cons ok_eqWords (tbl_cons ok_eqInts tbl_nil)))))) Try.func3 @vc_lawSameBuilds

end Go.Proofs.Ytgnamdjmjkeodaa
