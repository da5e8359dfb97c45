
import Derived.Test.YtcnoiiohmpgckaaWords
import Derived.Test.YtcnoiiohmpgckaaFinds
import Derived.Test.YtcnoiiohmpgckaaHead
namespace Go.Proofs.Ytcnoiiohmpgckaa
open Go
set_option maxRecDepth 100000
set_option maxHeartbeats 1000000
abbrev ty_Spot : Ty := .pair ty_I ty_Head
abbrev Spot := Int × Head
theorem isHead_long {v : Int} (h : isHead v = true) : 1 ≤ headLong (headOf v) ∧ headLong (headOf v) ≤ 256 := by
  simp only [isHead, Bool.and_eq_true, beq_iff_eq] at h
  have := headFault_zero h.2
  unfold headLong
  omega
def spotsS (at_ : Int) (l : List Int) : Option (List Spot) :=
  match l with
  | [] => some []
  | v :: r => if _h : isHead v = true ∧ headLong (headOf v) ≤ ((v :: r).length : Int) then (spotsS (at_ + headLong (headOf v)) ((v :: r).drop (headLong (headOf v)).toNat)).map ((at_, headOf v) :: ·) else none
termination_by l.length
decreasing_by
  have := isHead_long _h.1
  simp only [List.length_drop, List.length_cons]
  omega
def spotsF (a : List Int) : List Spot × Int := if 256 < a.length then ([], 2) else match spotsS 0 a with
  | none => ([], 3)
  | some l => (l, 0)
theorem spotsS_cons {at_ : Int} {v : Int} {r : List Int} (h : isHead v = true) (h2 : headLong (headOf v) ≤ ((v :: r).length : Int)) :
    spotsS at_ (v :: r) = (spotsS (at_ + headLong (headOf v)) ((v :: r).drop (headLong (headOf v)).toNat)).map ((at_, headOf v) :: ·) := by
  rw [spotsS, dif_pos ⟨h, h2⟩]
theorem spotsS_none {at_ : Int} {v : Int} {r : List Int} (h : ¬ (isHead v = true ∧ headLong (headOf v) ≤ ((v :: r).length : Int))) : spotsS at_ (v :: r) = none := by
  rw [spotsS, dif_neg h]
theorem spotsS_in (at_ : Int) (l : List Int) (r : List Spot) (h : spotsS at_ l = some r) : ∀ s ∈ r, at_ ≤ s.1 ∧ s.1 + headLong s.2 ≤ at_ + l.length ∧ headFault s.2 = 0 := by
  induction at_, l using spotsS.induct generalizing r with
  | case1 at_ =>
    simp only [spotsS, Option.some.injEq] at h
    subst h
    simp
  | case2 at_ v l hv ih =>
    rw [spotsS_cons hv.1 hv.2] at h
    obtain ⟨r', hr, rfl⟩ := Option.map_eq_some_iff.1 h
    have hl := isHead_long hv.1
    have hf : headFault (headOf v) = 0 := by
      have := hv.1
      simp only [isHead, Bool.and_eq_true, beq_iff_eq] at this
      exact this.2
    intro s hs
    rcases List.mem_cons.1 hs with rfl | hs
    · have := hv.2
      exact ⟨by simp, by simp only; omega, hf⟩
    · obtain ⟨h1, h2, h3⟩ := ih r' hr s hs
      rw [List.length_drop] at h2
      have := hv.2
      exact ⟨by omega, by omega, h3⟩
  | case3 at_ v l hv =>
    rw [spotsS_none hv] at h
    cases h
theorem spotsS_length (at_ : Int) (l : List Int) (r : List Spot) (h : spotsS at_ l = some r) : r.length ≤ l.length := by
  induction at_, l using spotsS.induct generalizing r with
  | case1 at_ =>
    simp only [spotsS, Option.some.injEq] at h
    subst h
    simp
  | case2 at_ v l hv ih =>
    rw [spotsS_cons hv.1 hv.2] at h
    obtain ⟨r', hr, rfl⟩ := Option.map_eq_some_iff.1 h
    have hl := isHead_long hv.1
    have := ih r' hr
    rw [List.length_drop] at this
    simp only [List.length_cons] at *
    omega
  | case3 at_ v l hv =>
    rw [spotsS_none hv] at h
    cases h
theorem spotsF_length (a : List Int) : (spotsF a).1.length ≤ 256 := by
  unfold spotsF
  split
  · simp
  · cases e : spotsS 0 a with
    | none => simp
    | some l =>
      have := spotsS_length 0 a l e
      simp only
      omega
def an_walkSpots : Nat → Option LoopGen
  | 5 => some { rd := [.dat 0 (.arr ty_W)], A := fun (a : List Int) => { cs := [.own 4 158 ty_Spot, .dat 5 ty_I], inv := fun ((out, at_) : List Spot × Int) => a.length ≤ 256 ∧ 0 ≤ at_ ∧ at_ ≤ a.length ∧ out.length ≤ at_ ∧ spotsS 0 a = (spotsS at_ (a.drop at_.toNat)).map (out ++ ·), mu := fun ((_, at_) : List Spot × Int) => (a.length - at_).toNat } }
  | _ => none
def sp_walkSpots : Spec := { Ts := [.arr ty_W], Rs := [.own 158 ty_Spot, .dat ty_I], pre := fun _ => True, F := spotsF }
def pv_walkSpots : Prop :=
    ∀ (x : List Int), (x.length * (8 : Nat) ≤ big ∧ ∀ (x_1 : Int), x_1 ∈ x → InR IntKind.u64 x_1) → True → (decide ((256 : Int) < (↑x.length : Int)) = true → ([] : List (Int × Int × Int × Int × Bool)) = (spotsF x).1 ∧ (2 : Int) = (spotsF x).2 ∧ True) ∧ (decide ((256 : Int) < (↑x.length : Int)) = false → (x.length ≤ (256 : Nat) ∧ (0 : Int) ≤ (0 : Int) ∧ (0 : Int) ≤ (↑x.length : Int) ∧ (↑(0 : Nat) : Int) ≤ (0 : Int) ∧ spotsS (0 : Int) x = Option.map (fun (x : List Spot) => ([] : List (Int × Int × Int × Int × Bool)) ++ x) (spotsS (0 : Int) (List.drop (Int.toNat (0 : Int)) x))) ∧ ∀ (x_1 : List (Int × Int × Int × Int × Bool) × Int), x.length ≤ (256 : Nat) ∧ (0 : Int) ≤ x_1.2 ∧ x_1.2 ≤ (↑x.length : Int) ∧ (↑x_1.1.length : Int) ≤ x_1.2 ∧ spotsS (0 : Int) x = Option.map (fun (x : List Spot) => x_1.1 ++ x) (spotsS x_1.2 (List.drop x_1.2.toNat x)) → (decide (x_1.2 < (↑x.length : Int)) = true → (0 : Int) ≤ x_1.2 ∧ x_1.2 < (↑x.length : Int) ∧ True ∧ True ∧ (decide ((if isHead (x.getD x_1.2.toNat (0 : Int)) = true then (0 : Int) else (3 : Int)) ≠ (0 : Int)) = false → InR IntKind.i64 ((↑x.length : Int) - x_1.2)) ∧ ((decide ((if isHead (x.getD x_1.2.toNat (0 : Int)) = true then (0 : Int) else (3 : Int)) ≠ (0 : Int)) || decide ((↑x.length : Int) - x_1.2 < if headFault (if isHead (x.getD x_1.2.toNat (0 : Int)) = true then headOf (x.getD x_1.2.toNat (0 : Int)) else headNone) = (0 : Int) then headLong (if isHead (x.getD x_1.2.toNat (0 : Int)) = true then headOf (x.getD x_1.2.toNat (0 : Int)) else headNone) else (0 : Int))) = true → ([] : List (Int × Int × Int × Int × Bool)) = (spotsF x).1 ∧ (3 : Int) = (spotsF x).2 ∧ True) ∧ ((decide ((if isHead (x.getD x_1.2.toNat (0 : Int)) = true then (0 : Int) else (3 : Int)) ≠ (0 : Int)) || decide ((↑x.length : Int) - x_1.2 < if headFault (if isHead (x.getD x_1.2.toNat (0 : Int)) = true then headOf (x.getD x_1.2.toNat (0 : Int)) else headNone) = (0 : Int) then headLong (if isHead (x.getD x_1.2.toNat (0 : Int)) = true then headOf (x.getD x_1.2.toNat (0 : Int)) else headNone) else (0 : Int))) = false → (x_1.1.length + [(x_1.2, if isHead (x.getD x_1.2.toNat (0 : Int)) = true then headOf (x.getD x_1.2.toNat (0 : Int)) else headNone)].length) * ((8 : Nat) + ((8 : Nat) + ((8 : Nat) + ((8 : Nat) + (8 : Nat))))) ≤ big ∧ InR IntKind.i64 (x_1.2 + if headFault (if isHead (x.getD x_1.2.toNat (0 : Int)) = true then headOf (x.getD x_1.2.toNat (0 : Int)) else headNone) = (0 : Int) then headLong (if isHead (x.getD x_1.2.toNat (0 : Int)) = true then headOf (x.getD x_1.2.toNat (0 : Int)) else headNone) else (0 : Int)) ∧ (x.length ≤ (256 : Nat) ∧ ((0 : Int) ≤ x_1.2 + if headFault (if isHead (x.getD x_1.2.toNat (0 : Int)) = true then headOf (x.getD x_1.2.toNat (0 : Int)) else headNone) = (0 : Int) then headLong (if isHead (x.getD x_1.2.toNat (0 : Int)) = true then headOf (x.getD x_1.2.toNat (0 : Int)) else headNone) else (0 : Int)) ∧ (x_1.2 + if headFault (if isHead (x.getD x_1.2.toNat (0 : Int)) = true then headOf (x.getD x_1.2.toNat (0 : Int)) else headNone) = (0 : Int) then headLong (if isHead (x.getD x_1.2.toNat (0 : Int)) = true then headOf (x.getD x_1.2.toNat (0 : Int)) else headNone) else (0 : Int)) ≤ (↑x.length : Int) ∧ ((↑(x_1.1 ++ [(x_1.2, if isHead (x.getD x_1.2.toNat (0 : Int)) = true then headOf (x.getD x_1.2.toNat (0 : Int)) else headNone)]).length : Int) ≤ x_1.2 + if headFault (if isHead (x.getD x_1.2.toNat (0 : Int)) = true then headOf (x.getD x_1.2.toNat (0 : Int)) else headNone) = (0 : Int) then headLong (if isHead (x.getD x_1.2.toNat (0 : Int)) = true then headOf (x.getD x_1.2.toNat (0 : Int)) else headNone) else (0 : Int)) ∧ spotsS (0 : Int) x = Option.map (fun (x_2 : List Spot) => x_1.1 ++ [(x_1.2, if isHead (x.getD x_1.2.toNat (0 : Int)) = true then headOf (x.getD x_1.2.toNat (0 : Int)) else headNone)] ++ x_2) (spotsS (x_1.2 + if headFault (if isHead (x.getD x_1.2.toNat (0 : Int)) = true then headOf (x.getD x_1.2.toNat (0 : Int)) else headNone) = (0 : Int) then headLong (if isHead (x.getD x_1.2.toNat (0 : Int)) = true then headOf (x.getD x_1.2.toNat (0 : Int)) else headNone) else (0 : Int)) (List.drop (x_1.2 + if headFault (if isHead (x.getD x_1.2.toNat (0 : Int)) = true then headOf (x.getD x_1.2.toNat (0 : Int)) else headNone) = (0 : Int) then headLong (if isHead (x.getD x_1.2.toNat (0 : Int)) = true then headOf (x.getD x_1.2.toNat (0 : Int)) else headNone) else (0 : Int)).toNat x))) ∧ ((↑x.length : Int) - (x_1.2 + if headFault (if isHead (x.getD x_1.2.toNat (0 : Int)) = true then headOf (x.getD x_1.2.toNat (0 : Int)) else headNone) = (0 : Int) then headLong (if isHead (x.getD x_1.2.toNat (0 : Int)) = true then headOf (x.getD x_1.2.toNat (0 : Int)) else headNone) else (0 : Int))).toNat < ((↑x.length : Int) - x_1.2).toNat)) ∧ (decide (x_1.2 < (↑x.length : Int)) = false → x_1.1 = (spotsF x).1 ∧ (0 : Int) = (spotsF x).2 ∧ True))
theorem vcp_walkSpots : pv_walkSpots := by
  unfold pv_walkSpots
  intro a ⟨hb, hw⟩ _
  by_cases cl : 256 < a.length
  · have e : spotsF a = ([], 2) := by unfold spotsF; rw [if_pos cl]
    simp [e]
    omega
  have eF : spotsF a = match spotsS 0 a with | none => ([], 3) | some l => (l, 0) := by unfold spotsF; rw [if_neg cl]
  refine ⟨fun h => by simp at h; omega, fun _ => ⟨⟨by omega, by omega, by omega, by simp, by simp⟩, fun ⟨out, k⟩ ⟨_, h0, h1, h2, h3⟩ => ⟨fun hlt => ?_, fun hge => ?_⟩⟩⟩
  · have hlt : k < (a.length : Int) := by simpa using hlt
    simp only at *
    rw [drop_cons (0 : Int) h0 hlt] at h3
    have hdl : (((a.getD k.toNat 0 :: a.drop (k + 1).toNat).length : Nat) : Int) = a.length - k := by rw [List.length_cons, List.length_drop]; omega
    have hdd : ∀ n : Int, 0 ≤ n → (a.getD k.toNat 0 :: a.drop (k + 1).toNat).drop n.toNat = a.drop (k + n).toNat := fun n hn => by
      rw [← drop_cons (0 : Int) h0 hlt, List.drop_drop]
      congr 1
      omega
    generalize a.getD k.toNat 0 = v at *
    refine ⟨h0, hlt, trivial, trivial, fun _ => by simp only [InR]; omega, fun hc => ?_, fun hc => ?_⟩
    · have hn : ¬ (isHead v = true ∧ headLong (headOf v) ≤ ((v :: a.drop (k + 1).toNat).length : Int)) := by
        rintro ⟨g1, g2⟩
        have hf : headFault (headOf v) = 0 := by
          have := g1
          simp only [isHead, Bool.and_eq_true, beq_iff_eq] at this
          exact this.2
        rw [if_pos g1, if_pos g1, if_pos hf] at hc
        simp at hc
        omega
      rw [spotsS_none hn] at h3
      rw [eF, h3]
      exact ⟨rfl, rfl, trivial⟩
    · have g1 : isHead v = true := by
        cases hv : isHead v
        · rw [hv] at hc; simp at hc
        · rfl
      have hf : headFault (headOf v) = 0 := by
        have := g1
        simp only [isHead, Bool.and_eq_true, beq_iff_eq] at this
        exact this.2
      rw [if_pos g1, if_pos g1, if_pos hf] at hc
      simp at hc
      have hl := isHead_long g1
      rw [spotsS_cons g1 (by omega), hdd _ (by omega), Option.map_map] at h3
      rw [if_pos g1, if_pos hf]
      unfold big
      simp only [List.length_append, List.length_cons, List.length_nil, InR]
      refine ⟨by omega, by omega, ⟨by omega, by omega, by omega, by omega, ?_⟩, by omega⟩
      rw [h3]
      congr 1
      funext x
      simp
  · have hge : ¬ k < (a.length : Int) := by simpa using hge
    simp only at *
    rw [drop_end hge] at h3
    simp only [spotsS, Option.map_some, List.append_nil] at h3
    rw [eF, h3]
    exact ⟨rfl, rfl, trivial⟩
theorem ok_walkSpots : sp_walkSpots.ok Try.prog 143 := fn_ok (ann := an_walkSpots) (tbl_cons ok_headRead (tbl_cons ok_headLongC tbl_nil)) Try.func143 (by kernel_rfl) vcp_walkSpots
def spotRefs (a : List Int) (s : Spot) : List Int := (a.take (s.1 + 1 + s.2.1).toNat).drop (s.1 + 1).toNat
def spotIn (a : List Int) (s : Spot) : Prop := 0 ≤ s.1 ∧ 0 ≤ s.2.1 ∧ 0 ≤ s.2.2.1 ∧ s.1 + 1 + s.2.1 + s.2.2.1 ≤ a.length
def sp_walkRefs : Spec := { Ts := [.arr ty_W, ty_Spot], Rs := [.dat (.arr ty_W)], al := true, pre := fun ((a, s) : List Int × Spot) => a.length ≤ 256 ∧ spotIn a s, F := fun ((a, s) : List Int × Spot) => spotRefs a s }
def pv_walkRefs : Prop :=
    ∀ (x : List Int × Int × Int × Int × Int × Bool), (x.1.length * 8 ≤ big ∧ ∀ (x_1 : Int), x_1 ∈ x.1 → InR IntKind.u64 x_1) ∧ InR IntKind.i64 x.2.1 ∧ InR IntKind.i64 x.2.2.1 ∧ InR IntKind.i64 x.2.2.2.1 ∧ InR IntKind.i64 x.2.2.2.2.1 ∧ True → x.1.length ≤ 256 ∧ spotIn x.1 x.2 → InR IntKind.i64 (x.2.1 + 1) ∧ InR IntKind.i64 (x.2.1 + 1) ∧ InR IntKind.i64 (x.2.1 + 1 + x.2.2.1) ∧ 0 ≤ x.2.1 + 1 ∧ x.2.1 + 1 ≤ x.2.1 + 1 + x.2.2.1 ∧ x.2.1 + 1 + x.2.2.1 ≤ (↑x.1.length : Int) ∧ List.drop (x.2.1 + 1).toNat (List.take (x.2.1 + 1 + x.2.2.1).toNat x.1) = spotRefs x.1 x.2 ∧ True
theorem vcp_walkRefs : pv_walkRefs := by
  unfold pv_walkRefs
  intro ⟨a, s⟩ _ ⟨h, h1, h2, h3, h4⟩
  simp only [InR, spotRefs] at *
  exact ⟨by omega, by omega, by omega, by omega, by omega, by omega, trivial, trivial⟩
theorem ok_walkRefs : sp_walkRefs.ok Try.prog 188 := fn_ok (ann := an_0) tbl_nil Try.func188 (by kernel_rfl) vcp_walkRefs
def placesFrom (m : List (Int × Int)) (i : Int) : List Spot → List (Int × Int)
  | [] => m
  | s :: l => placesFrom (if s.2.2.2.2 = true then m else mput m (s.1 + 1) i) (i + 1) l
def placesF (l : List Spot) : List (Int × Int) := placesFrom [(0, -1)] 0 l
def an_walkPlaces : Nat → Option LoopGen
  | 3 => some { rd := [.dat 8 (.arr ty_Spot)], A := fun (l : List Spot) => { cs := [.map 6 .u64 ty_I, .dat 10 ty_I], inv := fun ((m, i) : List (Int × Int) × Int) => 0 ≤ i ∧ i ≤ l.length ∧ (∀ s ∈ l, 0 ≤ s.1 ∧ s.1 ≤ 256) ∧ placesFrom m i (l.drop i.toNat) = placesF l, mu := fun ((_, i) : List (Int × Int) × Int) => (l.length - i).toNat } }
  | _ => none
def sp_walkPlaces : Spec := { Ts := [.arr ty_Spot], Rs := [.map .u64 ty_I], pre := fun (l : List Spot) => ∀ s ∈ l, 0 ≤ s.1 ∧ s.1 ≤ 256, F := placesF }
def pv_walkPlaces : Prop :=
    ∀ (x : List (Int × Int × Int × Int × Bool)), (x.length * (8 + (8 + (8 + (8 + 8)))) ≤ big ∧ ∀ (x_1 : Int × Int × Int × Int × Bool), x_1 ∈ x → InR IntKind.i64 x_1.1 ∧ InR IntKind.i64 x_1.2.1 ∧ InR IntKind.i64 x_1.2.2.1 ∧ InR IntKind.i64 x_1.2.2.2.1 ∧ True) → (∀ (s : Spot), s ∈ x → 0 ≤ s.1 ∧ s.1 ≤ 256) → ((0 : Int) ≤ 0 ∧ 0 ≤ (↑x.length : Int) ∧ (∀ (s : Spot), s ∈ x → 0 ≤ s.1 ∧ s.1 ≤ 256) ∧ placesFrom (mput ([] : List (Int × Int)) 0 (-1)) 0 (List.drop (Int.toNat 0) x) = placesF x) ∧ ∀ (x_1 : List (Int × Int) × Int), 0 ≤ x_1.2 ∧ x_1.2 ≤ (↑x.length : Int) ∧ (∀ (s : Spot), s ∈ x → 0 ≤ s.1 ∧ s.1 ≤ 256) ∧ placesFrom x_1.1 x_1.2 (List.drop x_1.2.toNat x) = placesF x → (decide (x_1.2 < (↑x.length : Int)) = true → 0 ≤ x_1.2 ∧ x_1.2 < (↑x.length : Int) ∧ ((!(x.getD x_1.2.toNat (0, 0, 0, 0, false)).2.2.2.2) = true → InR IntKind.u64 (IntKind.u64.wrap (x.getD x_1.2.toNat (0, 0, 0, 0, false)).1 + 1) ∧ InR IntKind.i64 (x_1.2 + 1) ∧ (0 ≤ x_1.2 + 1 ∧ x_1.2 + 1 ≤ (↑x.length : Int) ∧ (∀ (s : Spot), s ∈ x → 0 ≤ s.1 ∧ s.1 ≤ 256) ∧ placesFrom (mput x_1.1 (IntKind.u64.wrap (x.getD x_1.2.toNat (0, 0, 0, 0, false)).1 + 1) x_1.2) (x_1.2 + 1) (List.drop (x_1.2 + 1).toNat x) = placesF x) ∧ ((↑x.length : Int) - (x_1.2 + 1)).toNat < ((↑x.length : Int) - x_1.2).toNat) ∧ ((!(x.getD x_1.2.toNat (0, 0, 0, 0, false)).2.2.2.2) = false → InR IntKind.i64 (x_1.2 + 1) ∧ (0 ≤ x_1.2 + 1 ∧ x_1.2 + 1 ≤ (↑x.length : Int) ∧ (∀ (s : Spot), s ∈ x → 0 ≤ s.1 ∧ s.1 ≤ 256) ∧ placesFrom x_1.1 (x_1.2 + 1) (List.drop (x_1.2 + 1).toNat x) = placesF x) ∧ ((↑x.length : Int) - (x_1.2 + 1)).toNat < ((↑x.length : Int) - x_1.2).toNat)) ∧ (decide (x_1.2 < (↑x.length : Int)) = false → x_1.1 = placesF x ∧ True)
theorem vcp_walkPlaces : pv_walkPlaces := by
  unfold pv_walkPlaces
  intro l ⟨hb, _⟩ hp
  refine ⟨⟨by omega, by omega, hp, rfl⟩, fun ⟨m, i⟩ ⟨h0, h1, _, h2⟩ => ⟨fun hlt => ?_, fun hge => ?_⟩⟩
  · have hlt : i < (l.length : Int) := by simpa using hlt
    simp only at *
    have hs := hp _ (getD_mem ((0, 0, 0, 0, false) : Spot) h0 hlt)
    rw [drop_cons ((0, 0, 0, 0, false) : Spot) h0 hlt] at h2
    simp only [placesFrom] at h2
    generalize l.getD i.toNat (0, 0, 0, 0, false) = s at *
    unfold big at hb
    refine ⟨h0, hlt, fun hc => ?_, fun hc => ?_⟩
    · have hc : ¬ s.2.2.2.2 = true := by simpa using hc
      rw [if_neg hc] at h2
      rw [wrapU (by omega) (by omega)]
      simp only [InR]
      exact ⟨by omega, by omega, ⟨by omega, by omega, hp, h2⟩, by omega⟩
    · have hc : s.2.2.2.2 = true := by simpa using hc
      rw [if_pos hc] at h2
      simp only [InR]
      exact ⟨by omega, ⟨by omega, by omega, hp, h2⟩, by omega⟩
  · rw [drop_end (by simpa using hge)] at h2
    exact ⟨h2, trivial⟩
theorem ok_walkPlaces : sp_walkPlaces.ok Try.prog 187 := fn_ok (ann := an_walkPlaces) tbl_nil Try.func187 (by kernel_rfl) vcp_walkPlaces
def refsOK (m : List (Int × Int)) (a : List Int) (l : List Spot) : Bool := l.all fun s => (spotRefs a s).all fun v => (mget m v).isSome
def checkF (a : List Int) : List Spot × List (Int × Int) × Int :=
  if (spotsF a).2 ≠ 0 then ([], [], (spotsF a).2) else if refsOK (placesF (spotsF a).1) a (spotsF a).1 = true then ((spotsF a).1, placesF (spotsF a).1, 0) else ([], [], 5)
theorem spotsF_in {a : List Int} (h : (spotsF a).2 = 0) : a.length ≤ 256 ∧ ∀ s ∈ (spotsF a).1, spotIn a s ∧ headFault s.2 = 0 := by
  unfold spotsF at h ⊢
  split at h
  · simp at h
  rename_i cl
  rw [if_neg cl]
  refine ⟨by omega, ?_⟩
  cases e : spotsS 0 a with
  | none => rw [e] at h; simp at h
  | some l =>
    intro s hs
    obtain ⟨h1, h2, h3⟩ := spotsS_in 0 a l e s hs
    have := headFault_zero h3
    unfold headLong at h2
    exact ⟨⟨h1, this.1, this.2.1, by omega⟩, h3⟩
def an_walkCheckC : Nat → Option LoopGen
  | 6 => some { rd := [.own 24 158 ty_Spot, .dat 0 (.arr ty_W), .map 23 .u64 ty_I], A := fun ((l, a, m) : List Spot × List Int × List (Int × Int)) => { cs := [.dat 26 ty_I], inv := fun (i : Int) => 0 ≤ i ∧ i ≤ l.length ∧ a.length ≤ 256 ∧ (∀ s ∈ l, spotIn a s) ∧ refsOK m a (l.drop i.toNat) = refsOK m a l, mu := fun (i : Int) => (l.length - i).toNat } }
  | 9 => some { rd := [.dat 32 (.arr ty_W), .map 23 .u64 ty_I], A := fun ((rs, m) : List Int × List (Int × Int)) => { cs := [.dat 34 ty_I], inv := fun (j : Int) => 0 ≤ j ∧ j ≤ rs.length ∧ ((rs.drop j.toNat).all fun v => (mget m v).isSome) = (rs.all fun v => (mget m v).isSome), mu := fun (j : Int) => (rs.length - j).toNat } }
  | _ => none
def sp_walkCheckC : Spec := { Ts := [.arr ty_W], Rs := [.dat (.arr ty_Spot), .dat (.map .u64 ty_I), .dat ty_I], al := true, pre := fun _ => True, F := checkF }
def pv_walkCheckC : Prop :=
    ∀ (x : List Int), (x.length * 8 ≤ big ∧ ∀ (x_1 : Int), x_1 ∈ x → InR IntKind.u64 x_1) → True → True ∧ (decide ((spotsF x).2 ≠ 0) = true → ([] : List (Int × Int × Int × Int × Bool)) = (checkF x).1 ∧ ([] : List (Int × Int)) = (checkF x).2.1 ∧ (spotsF x).2 = (checkF x).2.2 ∧ True) ∧ (decide ((spotsF x).2 ≠ 0) = false → (∀ (s : Spot), s ∈ (spotsF x).1 → 0 ≤ s.1 ∧ s.1 ≤ 256) ∧ ((0 : Int) ≤ 0 ∧ 0 ≤ (↑(spotsF x).1.length : Int) ∧ x.length ≤ 256 ∧ (∀ (s : Spot), s ∈ (spotsF x).1 → spotIn x s) ∧ refsOK (placesF (spotsF x).1) x (List.drop (Int.toNat 0) (spotsF x).1) = refsOK (placesF (spotsF x).1) x (spotsF x).1) ∧ ∀ (x_1 : Int), 0 ≤ x_1 ∧ x_1 ≤ (↑(spotsF x).1.length : Int) ∧ x.length ≤ 256 ∧ (∀ (s : Spot), s ∈ (spotsF x).1 → spotIn x s) ∧ refsOK (placesF (spotsF x).1) x (List.drop x_1.toNat (spotsF x).1) = refsOK (placesF (spotsF x).1) x (spotsF x).1 → (decide (x_1 < (↑(spotsF x).1.length : Int)) = true → 0 ≤ x_1 ∧ x_1 < (↑(spotsF x).1.length : Int) ∧ x_1.toNat < (spotsF x).1.length ∧ (x.length ≤ 256 ∧ spotIn x ((spotsF x).1.getD x_1.toNat (0, 0, 0, 0, false))) ∧ ((0 : Int) ≤ 0 ∧ 0 ≤ (↑(spotRefs x ((spotsF x).1.getD x_1.toNat (0, 0, 0, 0, false))).length : Int) ∧ ((List.drop (Int.toNat 0) (spotRefs x ((spotsF x).1.getD x_1.toNat (0, 0, 0, 0, false)))).all fun (v : Int) => (mget (placesF (spotsF x).1) v).isSome) = (spotRefs x ((spotsF x).1.getD x_1.toNat (0, 0, 0, 0, false))).all fun (v : Int) => (mget (placesF (spotsF x).1) v).isSome) ∧ ∀ (x_2 : Int), (0 ≤ x_2 ∧ x_2 ≤ (↑(spotRefs x ((spotsF x).1.getD x_1.toNat (0, 0, 0, 0, false))).length : Int) ∧ ((List.drop x_2.toNat (spotRefs x ((spotsF x).1.getD x_1.toNat (0, 0, 0, 0, false)))).all fun (v : Int) => (mget (placesF (spotsF x).1) v).isSome) = (spotRefs x ((spotsF x).1.getD x_1.toNat (0, 0, 0, 0, false))).all fun (v : Int) => (mget (placesF (spotsF x).1) v).isSome) → (decide (x_2 < (↑(spotRefs x ((spotsF x).1.getD x_1.toNat (0, 0, 0, 0, false))).length : Int)) = true → 0 ≤ x_2 ∧ x_2 < (↑(spotRefs x ((spotsF x).1.getD x_1.toNat (0, 0, 0, 0, false))).length : Int) ∧ ((!(mget (placesF (spotsF x).1) ((spotRefs x ((spotsF x).1.getD x_1.toNat (0, 0, 0, 0, false))).getD x_2.toNat 0)).isSome) = true → ([] : List (Int × Int × Int × Int × Bool)) = (checkF x).1 ∧ ([] : List (Int × Int)) = (checkF x).2.1 ∧ 5 = (checkF x).2.2 ∧ True) ∧ ((!(mget (placesF (spotsF x).1) ((spotRefs x ((spotsF x).1.getD x_1.toNat (0, 0, 0, 0, false))).getD x_2.toNat 0)).isSome) = false → InR IntKind.i64 (x_2 + 1) ∧ (0 ≤ x_2 + 1 ∧ x_2 + 1 ≤ (↑(spotRefs x ((spotsF x).1.getD x_1.toNat (0, 0, 0, 0, false))).length : Int) ∧ ((List.drop (x_2 + 1).toNat (spotRefs x ((spotsF x).1.getD x_1.toNat (0, 0, 0, 0, false)))).all fun (v : Int) => (mget (placesF (spotsF x).1) v).isSome) = (spotRefs x ((spotsF x).1.getD x_1.toNat (0, 0, 0, 0, false))).all fun (v : Int) => (mget (placesF (spotsF x).1) v).isSome) ∧ ((↑(spotRefs x ((spotsF x).1.getD x_1.toNat (0, 0, 0, 0, false))).length : Int) - (x_2 + 1)).toNat < ((↑(spotRefs x ((spotsF x).1.getD x_1.toNat (0, 0, 0, 0, false))).length : Int) - x_2).toNat)) ∧ (decide (x_2 < (↑(spotRefs x ((spotsF x).1.getD x_1.toNat (0, 0, 0, 0, false))).length : Int)) = false → InR IntKind.i64 (x_1 + 1) ∧ (0 ≤ x_1 + 1 ∧ x_1 + 1 ≤ (↑(spotsF x).1.length : Int) ∧ x.length ≤ 256 ∧ (∀ (s : Spot), s ∈ (spotsF x).1 → spotIn x s) ∧ refsOK (placesF (spotsF x).1) x (List.drop (x_1 + 1).toNat (spotsF x).1) = refsOK (placesF (spotsF x).1) x (spotsF x).1) ∧ ((↑(spotsF x).1.length : Int) - (x_1 + 1)).toNat < ((↑(spotsF x).1.length : Int) - x_1).toNat)) ∧ (decide (x_1 < (↑(spotsF x).1.length : Int)) = false → (spotsF x).1 = (checkF x).1 ∧ placesF (spotsF x).1 = (checkF x).2.1 ∧ 0 = (checkF x).2.2 ∧ True))
theorem vcp_walkCheckC : pv_walkCheckC := by
  unfold pv_walkCheckC
  intro a ⟨hb, hw⟩ _
  have hlen := spotsF_length a
  have hin := spotsF_in (a := a)
  have hF : checkF a = if (spotsF a).2 ≠ 0 then ([], [], (spotsF a).2) else if refsOK (placesF (spotsF a).1) a (spotsF a).1 = true then ((spotsF a).1, placesF (spotsF a).1, 0) else ([], [], 5) := rfl
  generalize placesF (spotsF a).1 = m at *
  generalize (spotsF a).1 = l at *
  refine ⟨trivial, fun hc => ?_, fun hc => ?_⟩
  · have hc : (spotsF a).2 ≠ 0 := by simpa using hc
    rw [hF, if_pos hc]
    exact ⟨rfl, rfl, rfl, trivial⟩
  have hc : (spotsF a).2 = 0 := by simpa using hc
  rw [if_neg (by omega)] at hF
  obtain ⟨hal, hsp⟩ := hin hc
  refine ⟨fun s hs => ?_, ⟨by omega, by omega, hal, fun s hs => (hsp s hs).1, rfl⟩, fun i ⟨h0, h1, _, _, h2⟩ => ⟨fun hlt => ?_, fun hge => ?_⟩⟩
  · have := (hsp s hs).1
    unfold spotIn at this
    omega
  · have hlt : i < (l.length : Int) := by simpa using hlt
    have hs := hsp _ (getD_mem ((0, 0, 0, 0, false) : Spot) h0 hlt)
    rw [drop_cons ((0, 0, 0, 0, false) : Spot) h0 hlt] at h2
    simp only [refsOK, List.all_cons] at h2
    generalize l.getD i.toNat (0, 0, 0, 0, false) = s at *
    have hrl : (spotRefs a s).length ≤ 256 := by simp only [spotRefs, List.length_drop, List.length_take]; omega
    generalize spotRefs a s = rs at *
    refine ⟨h0, hlt, by omega, ⟨hal, hs.1⟩, ⟨by omega, by omega, rfl⟩, fun j ⟨g0, g1, g2⟩ => ⟨fun hlt => ?_, fun hge => ?_⟩⟩
    · have hlt : j < (rs.length : Int) := by simpa using hlt
      rw [drop_cons (0 : Int) g0 hlt] at g2
      simp only [List.all_cons] at g2
      generalize rs.getD j.toNat 0 = v at *
      refine ⟨g0, hlt, fun hv => ?_, fun hv => ?_⟩
      · have hv : (mget m v).isSome = false := by simpa using hv
        rw [hv, Bool.false_and] at g2
        rw [← g2, Bool.false_and] at h2
        rw [hF, if_neg (by unfold refsOK; rw [← h2]; simp)]
        exact ⟨rfl, rfl, rfl, trivial⟩
      · have hv : (mget m v).isSome = true := by simpa using hv
        rw [hv, Bool.true_and] at g2
        simp only [InR]
        exact ⟨by omega, ⟨by omega, by omega, g2⟩, by omega⟩
    · rw [drop_end (by simpa using hge), List.all_nil] at g2
      rw [← g2, Bool.true_and] at h2
      simp only [InR]
      exact ⟨by omega, ⟨by omega, by omega, hal, fun s hs => (hsp s hs).1, h2⟩, by omega⟩
  · rw [drop_end (by simpa using hge)] at h2
    have h2 : refsOK m a l = true := by rw [← h2]; rfl
    rw [hF, if_pos h2]
    exact ⟨rfl, rfl, rfl, trivial⟩
theorem ok_walkCheckC : sp_walkCheckC.ok Try.prog 152 := fn_ok (ann := an_walkCheckC) (tbl_cons ok_walkSpots (tbl_cons ok_walkPlaces (tbl_cons ok_walkRefs tbl_nil))) Try.func152 (by kernel_rfl) vcp_walkCheckC
def sp_walkCheck : Spec := { Ts := [.arr ty_W], Rs := [.dat ty_I], pre := fun _ => True, F := fun (a : List Int) => (checkF a).2.2 }
def pv_walkCheck : Prop :=
    ∀ (x : List Int), (x.length * 8 ≤ big ∧ ∀ (x_1 : Int), x_1 ∈ x → InR IntKind.u64 x_1) → True → True ∧ (checkF x).2.2 = (checkF x).2.2 ∧ True
theorem vcp_walkCheck : pv_walkCheck := by
  unfold pv_walkCheck
  intro a _ _
  simp
theorem ok_walkCheck : sp_walkCheck.ok Try.prog 105 := fn_ok (ann := an_0) (tbl_cons ok_walkCheckC tbl_nil) Try.func105 (by kernel_rfl) vcp_walkCheck
def spotBody (a : List Int) (s : Spot) : List Int := (a.take (s.1 + 1 + s.2.1 + s.2.2.1).toNat).drop (s.1 + 1 + s.2.1).toNat
theorem checkF_in {a : List Int} (h : (checkF a).2.2 = 0) : a.length ≤ 256 ∧ (checkF a).1.length ≤ 256 ∧ (checkF a).1 = (spotsF a).1 ∧ (spotsF a).2 = 0 ∧ (checkF a).2.1 = placesF (spotsF a).1 ∧ refsOK (placesF (spotsF a).1) a (spotsF a).1 = true ∧ ∀ s ∈ (checkF a).1, spotIn a s ∧ headFault s.2 = 0 := by
  unfold checkF at h ⊢
  by_cases h1 : (spotsF a).2 ≠ 0
  · rw [if_pos h1] at h
    exact absurd h h1
  · rw [if_neg h1] at h ⊢
    have h1 : (spotsF a).2 = 0 := by omega
    by_cases h2 : refsOK (placesF (spotsF a).1) a (spotsF a).1 = true
    · rw [if_pos h2]
      exact ⟨(spotsF_in h1).1, spotsF_length a, rfl, h1, rfl, h2, (spotsF_in h1).2⟩
    · rw [if_neg h2] at h
      simp at h
end Go.Proofs.Ytcnoiiohmpgckaa
