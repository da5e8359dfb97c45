/- Contracts of package word: bytes, words, stretches; and of the reference's ByteText. -/
import Derived.Test.YtjkmfgneonifeaaSlices
namespace Go.Proofs.Ytjkmfgneonifeaa
open Go
set_option maxRecDepth 100000
set_option maxHeartbeats 1000000

/-- Is a stretch of n words from one of these places not in an arena of L words? -/
def stretchBad (L : Nat) (n : Int) (ks : List Int) : Bool := ks.any fun k => decide (n < 0) || decide (k < 0) || decide (k > (L : Int)) || decide (n > (L : Int) - k)
def stretchF (L : Nat) (n : Int) (ks : List Int) : Int := if 256 < L then 2 else if stretchBad L n ks then 4 else 0

def byteAt (a : List Int) (i : Nat) : Int := a.getD (i / 8) 0 / 256 ^ (i % 8) % 256
/-- The first n bytes of an arena. -/
def bytesTo (a : List Int) (n : Nat) : List Int := (List.range n).map (byteAt a)
def bytesOf (a : List Int) : List Int := bytesTo a (8 * a.length)

theorem bytesTo_succ (a : List Int) (n : Nat) : bytesTo a (n + 1) = bytesTo a n ++ [byteAt a n] := by
  simp [bytesTo, List.range_succ]

theorem bytesTo_length (a : List Int) (n : Nat) : (bytesTo a n).length = n := by simp [bytesTo]

theorem byteAt_at (a : List Int) (i k : Nat) (h : k < 8) : byteAt a (8 * i + k) = a.getD i 0 / 256 ^ k % 256 := by
  unfold byteAt
  rw [show (8 * i + k) / 8 = i by omega, show (8 * i + k) % 8 = k by omega]

/-- The word of some bytes, the lowest one first. -/
def wordOf : List Int → Int
  | [] => 0
  | b :: l => b + 256 * wordOf l

def IsB (l : List Int) : Prop := ∀ b ∈ l, 0 ≤ b ∧ b < 256

theorem wordOf_snoc (b : Int) : ∀ l : List Int, wordOf (l ++ [b]) = wordOf l + b * 256 ^ l.length
  | [] => by simp [wordOf]
  | c :: l => by
    have := wordOf_snoc b l
    simp only [List.cons_append, wordOf, this, List.length_cons, Int.pow_succ]
    grind

theorem wordOf_lt : ∀ {l : List Int}, IsB l → 0 ≤ wordOf l ∧ wordOf l < 256 ^ l.length
  | [], _ => by simp [wordOf]
  | b :: l, h => by
    have h1 := h b (by simp)
    have h2 := wordOf_lt (l := l) (fun c hc => h c (by simp [hc]))
    simp only [wordOf, List.length_cons, Int.pow_succ]
    omega

theorem wordOf_get : ∀ {l : List Int}, IsB l → ∀ (k : Nat), k < l.length → wordOf l / 256 ^ k % 256 = l.getD k 0
  | [], _, k, hk => by simp at hk
  | b :: l, h, 0, _ => by
    have h1 := h b (by simp)
    simp only [wordOf, List.getD_cons_zero, Int.pow_zero]
    omega
  | b :: l, h, k + 1, hk => by
    have h1 := h b (by simp)
    have h2 := wordOf_get (l := l) (fun c hc => h c (by simp [hc])) k (by simpa using hk)
    simp only [wordOf, List.getD_cons_succ]
    rw [Int.pow_succ, Int.mul_comm (256 ^ k), ← Int.ediv_ediv_of_nonneg (by omega), show (b + 256 * wordOf l) / 256 = wordOf l by omega]
    exact h2

def nums (s : List UInt8) : List Int := s.map fun b => (b.toNat : Int)

theorem nums_isB (s : List UInt8) : IsB (nums s) := by
  intro b hb
  simp only [nums, List.mem_map] at hb
  obtain ⟨c, _, rfl⟩ := hb
  have := c.toNat_lt
  omega

/-- Of word j, what lies ahead of byte i. -/
def chunk (s : List UInt8) (i j : Nat) : List Int := ((nums s).drop (8 * j)).take (min 8 (i - 8 * j))
def wordsOf (s : List UInt8) (i : Nat) : List Int := (List.range (s.length / 8)).map fun j => wordOf (chunk s i j)

theorem chunk_isB (s : List UInt8) (i j : Nat) : IsB (chunk s i j) := fun b hb => nums_isB s b (List.mem_of_mem_drop (List.mem_of_mem_take hb))
theorem chunk_length (s : List UInt8) (i j : Nat) (h : i ≤ s.length) : (chunk s i j).length = min 8 (i - 8 * j) := by
  simp only [chunk, nums, List.length_take, List.length_drop, List.length_map]
  omega

theorem chunk_snoc (s : List UInt8) (i : Nat) (h : i < s.length) : chunk s (i + 1) (i / 8) = chunk s i (i / 8) ++ [((s.getD i 0).toNat : Int)] := by
  unfold chunk
  rw [show min 8 (i + 1 - 8 * (i / 8)) = min 8 (i - 8 * (i / 8)) + 1 by omega]
  have hl : min 8 (i - 8 * (i / 8)) < ((nums s).drop (8 * (i / 8))).length := by
    simp only [nums, List.length_drop, List.length_map]; omega
  rw [List.take_succ_eq_append_getElem hl]
  congr 2
  simp only [nums, List.getElem_drop, List.getElem_map]
  simp only [show 8 * (i / 8) + min 8 (i - 8 * (i / 8)) = i by omega]
  simp [h]

theorem chunk_other (s : List UInt8) (i j : Nat) (h : j ≠ i / 8) : chunk s (i + 1) j = chunk s i j := by
  unfold chunk
  congr 1
  omega

theorem wordsOf_length (s : List UInt8) (i : Nat) : (wordsOf s i).length = s.length / 8 := by simp [wordsOf]

theorem wordsOf_zero (s : List UInt8) : wordsOf s 0 = List.replicate (s.length / 8) 0 := by
  apply List.ext_getElem
  · simp [wordsOf]
  · intro j h1 h2
    simp [wordsOf, chunk, wordOf]

theorem wordsOf_get (s : List UInt8) (i j : Nat) (h : j < s.length / 8) : (wordsOf s i).getD j 0 = wordOf (chunk s i j) := by
  simp [wordsOf, h]

theorem wordsOf_step (s : List UInt8) (i : Nat) (h : i < s.length) (h8 : s.length % 8 = 0) :
    wordsOf s (i + 1) = (wordsOf s i).set (i / 8) (wordOf (chunk s i (i / 8)) + ((s.getD i 0).toNat : Int) * 256 ^ (i % 8)) := by
  apply List.ext_getElem
  · simp [wordsOf]
  · intro j h1 h2
    simp only [wordsOf_length] at h1
    rw [List.getElem_set]
    split
    · rename_i e
      subst e
      simp only [wordsOf, List.getElem_map, List.getElem_range]
      rw [chunk_snoc s i h, wordOf_snoc, chunk_length s i _ (by omega), show min 8 (i - 8 * (i / 8)) = i % 8 by omega]
    · rename_i e
      simp only [wordsOf, List.getElem_map, List.getElem_range]
      rw [chunk_other s i j (fun h => e h.symm)]

theorem getD_mem_or {l : List Int} {k : Nat} (h : k < l.length) : l.getD k 0 ∈ l := by
  simp [h]

theorem bytes_words (s : List UInt8) (h8 : s.length % 8 = 0) : bytesOf (wordsOf s s.length) = nums s := by
  apply List.ext_getElem
  · simp only [bytesOf, bytesTo_length, wordsOf_length, nums, List.length_map]; omega
  · intro i h1 h2
    have hi : i < s.length := by simpa [nums] using h2
    simp only [bytesOf, bytesTo, List.getElem_map, List.getElem_range, byteAt]
    rw [wordsOf_get _ _ _ (by omega), wordOf_get (chunk_isB _ _ _) _ (by rw [chunk_length _ _ _ (Nat.le_refl _)]; omega)]
    simp only [chunk, List.getD_eq_getElem?_getD, List.getElem?_take, List.getElem?_drop]
    rw [if_pos (by omega), show 8 * (i / 8) + i % 8 = i by omega, List.getElem?_eq_getElem h2]
    simp [nums]

def an_stretches : Nat → Option LoopGen
  | 4 => some { rd := [.dat 2 (.arr ty_I), .dat 1 ty_I, .dat 0 (.arr ty_W)], A := fun (ks, n, a) => { cs := [.dat 14 ty_I], inv := fun (i : Int) => 0 ≤ i ∧ i ≤ (ks : List Int).length ∧ (a : List Int).length ≤ 256 ∧ stretchBad (a : List Int).length n ((ks : List Int).drop i.toNat) = stretchBad (a : List Int).length n ks, mu := fun (i : Int) => ((ks : List Int).length - i).toNat } }
  | _ => none

def sp_stretches : Spec := { Ts := [.arr ty_W, ty_I, .arr ty_I], Rs := [.dat ty_I], pre := fun _ => True, F := fun ((a, n, ks) : List Int × Int × List Int) => stretchF a.length n ks }
def pv_stretches : Prop :=
    ∀ (x : List Int × Int × List Int),
  ((x.fst.length * (8 : Nat) ≤ big ∧ ∀ (x_1 : Int), x_1 ∈ x.fst → InR IntKind.u64 x_1) ∧
      InR IntKind.i64 x.snd.fst ∧
        x.snd.snd.length * (8 : Nat) ≤ big ∧ ∀ (x_1 : Int), x_1 ∈ x.snd.snd → InR IntKind.i64 x_1) →
    True →
      (decide ((256 : Int) < (↑x.fst.length : Int)) = true →
          (2 : Int) = stretchF x.fst.length x.snd.fst x.snd.snd ∧ True) ∧
        (decide ((256 : Int) < (↑x.fst.length : Int)) = false →
          ((0 : Int) ≤ (0 : Int) ∧
              (0 : Int) ≤ (↑x.snd.snd.length : Int) ∧
                x.fst.length ≤ (256 : Nat) ∧
                  stretchBad x.fst.length x.snd.fst (List.drop (Int.toNat (0 : Int)) x.snd.snd) =
                    stretchBad x.fst.length x.snd.fst x.snd.snd) ∧
            ∀ (x_1 : Int),
              (0 : Int) ≤ x_1 ∧
                  x_1 ≤ (↑x.snd.snd.length : Int) ∧
                    x.fst.length ≤ (256 : Nat) ∧
                      stretchBad x.fst.length x.snd.fst (List.drop x_1.toNat x.snd.snd) =
                        stretchBad x.fst.length x.snd.fst x.snd.snd →
                (decide (x_1 < (↑x.snd.snd.length : Int)) = true →
                    (0 : Int) ≤ x_1 ∧
                      x_1 < (↑x.snd.snd.length : Int) ∧
                        ((decide (x.snd.fst < (0 : Int)) || decide (x.snd.snd.getD x_1.toNat (0 : Int) < (0 : Int)) ||
                                decide ((↑x.fst.length : Int) < x.snd.snd.getD x_1.toNat (0 : Int))) =
                              false →
                            InR IntKind.i64 ((↑x.fst.length : Int) - x.snd.snd.getD x_1.toNat (0 : Int))) ∧
                          ((decide (x.snd.fst < (0 : Int)) || decide (x.snd.snd.getD x_1.toNat (0 : Int) < (0 : Int)) ||
                                    decide ((↑x.fst.length : Int) < x.snd.snd.getD x_1.toNat (0 : Int)) ||
                                  decide ((↑x.fst.length : Int) - x.snd.snd.getD x_1.toNat (0 : Int) < x.snd.fst)) =
                                true →
                              (4 : Int) = stretchF x.fst.length x.snd.fst x.snd.snd ∧ True) ∧
                            ((decide (x.snd.fst < (0 : Int)) ||
                                      decide (x.snd.snd.getD x_1.toNat (0 : Int) < (0 : Int)) ||
                                    decide ((↑x.fst.length : Int) < x.snd.snd.getD x_1.toNat (0 : Int)) ||
                                  decide ((↑x.fst.length : Int) - x.snd.snd.getD x_1.toNat (0 : Int) < x.snd.fst)) =
                                false →
                              InR IntKind.i64 (x_1 + (1 : Int)) ∧
                                ((0 : Int) ≤ x_1 + (1 : Int) ∧
                                    x_1 + (1 : Int) ≤ (↑x.snd.snd.length : Int) ∧
                                      x.fst.length ≤ (256 : Nat) ∧
                                        stretchBad x.fst.length x.snd.fst
                                            (List.drop (x_1 + (1 : Int)).toNat x.snd.snd) =
                                          stretchBad x.fst.length x.snd.fst x.snd.snd) ∧
                                  ((↑x.snd.snd.length : Int) - (x_1 + (1 : Int))).toNat <
                                    ((↑x.snd.snd.length : Int) - x_1).toNat)) ∧
                  (decide (x_1 < (↑x.snd.snd.length : Int)) = false →
                    (0 : Int) = stretchF x.fst.length x.snd.fst x.snd.snd ∧ True))
theorem vcp_stretches : pv_stretches := by
  unfold pv_stretches
  intro ⟨a, n, ks⟩ ⟨⟨ha, _⟩, ⟨_, _⟩, hk, hks⟩ _
  unfold stretchF big at *
  refine ⟨fun h => ?_, fun h => ⟨⟨by omega, by grind, by grind, by simp⟩, fun i ⟨h0, h1, h2, h3⟩ => ⟨fun hlt => ?_, fun hge => ?_⟩⟩⟩
  · grind
  · have hlt : i < (ks.length : Int) := by simpa using hlt
    have e := drop_cons (0 : Int) h0 hlt
    have hm := hks _ (getD_mem (0 : Int) h0 hlt)
    simp only [e] at h3
    simp only [stretchBad, List.any_cons, InR] at *
    grind
  · rw [drop_end (by simpa using hge)] at h3
    simp only [stretchBad, List.any_nil] at *
    grind
theorem e_stretches : pv_stretches = fnVC Try.prog (tbl []) an_stretches Try.f65 sp_stretches := by kernel_rfl
theorem vc_stretches : fnVC Try.prog (tbl []) an_stretches Try.f65 sp_stretches := @Eq.mp _ _ @e_stretches @vcp_stretches
theorem ok_stretches : sp_stretches.ok Try.prog 65 := fn_sound (P := Try.prog) (ss := tbl []) (ann := an_stretches) (f := 65) (fn := Try.f65) (s := sp_stretches) tbl_nil Try.func65 @vc_stretches

theorem pow8 {k : Int} (h : 0 ≤ k) : (2 : Int) ^ (8 * k).toNat = 256 ^ k.toNat := by
  rw [show (8 * k).toNat = 8 * k.toNat by omega, Int.pow_mul]
  rfl

theorem int_le {a b : Int} (h : a ≤ b) : (b - a).NonNeg := h

def bytesF (a : List Int) : List UInt8 × Int := if 256 < a.length then ([], 2) else (toBytes (bytesOf a), 0)
def an_bytes : Nat → Option LoopGen
  | 6 => some { rd := [.dat 14 (.arr ty_W)], A := fun (a : List Int) => { cs := [.own 5 5 (.int .u8), .dat 16 ty_I], inv := fun ((out, i) : List Int × Int) => 0 ≤ i ∧ i ≤ a.length ∧ a.length ≤ 256 ∧ out = bytesTo a (8 * i.toNat), mu := fun ((_, i) : List Int × Int) => (a.length - i).toNat } }
  | 9 => some { rd := [.dat 14 (.arr ty_W), .dat 16 ty_I], A := fun ((a, i) : List Int × Int) => { cs := [.own 5 5 (.int .u8), .dat 20 ty_I], inv := fun ((out, k) : List Int × Int) => 0 ≤ k ∧ k ≤ 8 ∧ out = bytesTo a (8 * i.toNat + k.toNat), mu := fun ((_, k) : List Int × Int) => (8 - k).toNat } }
  | _ => none

def sp_bytes : Spec := { Ts := [.arr ty_W], Rs := [.dat .str, .dat ty_I], pre := fun _ => True, F := bytesF }
def pv_bytes : Prop :=
    ∀ (x : List Int),
  (x.length * (8 : Nat) ≤ big ∧ ∀ (x_1 : Int), x_1 ∈ x → InR IntKind.u64 x_1) →
    True →
      True ∧
        (decide (stretchF x.length (0 : Int) [] ≠ (0 : Int)) = true →
            [] = (bytesF x).fst ∧ stretchF x.length (0 : Int) [] = (bytesF x).snd ∧ True) ∧
          (decide (stretchF x.length (0 : Int) [] ≠ (0 : Int)) = false →
            ((0 : Int) ≤ (0 : Int) ∧
                (0 : Int) ≤ (↑x.length : Int) ∧
                  x.length ≤ (256 : Nat) ∧ [] = bytesTo x ((8 : Nat) * Int.toNat (0 : Int))) ∧
              ∀ (x_1 : List Int × Int),
                (0 : Int) ≤ x_1.snd ∧
                    x_1.snd ≤ (↑x.length : Int) ∧
                      x.length ≤ (256 : Nat) ∧ x_1.fst = bytesTo x ((8 : Nat) * x_1.snd.toNat) →
                  (decide (x_1.snd < (↑x.length : Int)) = true →
                      (0 : Int) ≤ x_1.snd ∧
                        x_1.snd < (↑x.length : Int) ∧
                          ((0 : Int) ≤ (0 : Int) ∧
                              (0 : Int) ≤ (8 : Int) ∧
                                x_1.fst = bytesTo x ((8 : Nat) * x_1.snd.toNat + Int.toNat (0 : Int))) ∧
                            ∀ (x_2 : List Int × Int),
                              (0 : Int) ≤ x_2.snd ∧
                                  x_2.snd ≤ (8 : Int) ∧
                                    x_2.fst = bytesTo x ((8 : Nat) * x_1.snd.toNat + x_2.snd.toNat) →
                                (decide (x_2.snd < (8 : Int)) = true →
                                    InR IntKind.i64 ((8 : Int) * x_2.snd) ∧
                                      (0 : Int) ≤ (8 : Int) * x_2.snd ∧
                                        (8 : Int) * x_2.snd < (↑IntKind.u64.bits : Int) ∧
                                          (x_2.fst.length +
                                                  [IntKind.u8.wrap
                                                        (x.getD x_1.snd.toNat (0 : Int) /
                                                          (2 : Int) ^ ((8 : Int) * x_2.snd).toNat)].length) *
                                                (8 : Nat) ≤
                                              big ∧
                                            InR IntKind.i64 (x_2.snd + (1 : Int)) ∧
                                              ((0 : Int) ≤ x_2.snd + (1 : Int) ∧
                                                  x_2.snd + (1 : Int) ≤ (8 : Int) ∧
                                                    x_2.fst ++
                                                        [IntKind.u8.wrap
                                                            (x.getD x_1.snd.toNat (0 : Int) /
                                                              (2 : Int) ^ ((8 : Int) * x_2.snd).toNat)] =
                                                      bytesTo x
                                                        ((8 : Nat) * x_1.snd.toNat + (x_2.snd + (1 : Int)).toNat)) ∧
                                                ((8 : Int) - (x_2.snd + (1 : Int))).toNat <
                                                  ((8 : Int) - x_2.snd).toNat) ∧
                                  (decide (x_2.snd < (8 : Int)) = false →
                                    InR IntKind.i64 (x_1.snd + (1 : Int)) ∧
                                      ((0 : Int) ≤ x_1.snd + (1 : Int) ∧
                                          x_1.snd + (1 : Int) ≤ (↑x.length : Int) ∧
                                            x.length ≤ (256 : Nat) ∧
                                              x_2.fst = bytesTo x ((8 : Nat) * (x_1.snd + (1 : Int)).toNat)) ∧
                                        ((↑x.length : Int) - (x_1.snd + (1 : Int))).toNat <
                                          ((↑x.length : Int) - x_1.snd).toNat)) ∧
                    (decide (x_1.snd < (↑x.length : Int)) = false →
                      toBytes x_1.fst = (bytesF x).fst ∧ (0 : Int) = (bytesF x).snd ∧ True))
theorem vcp_bytes : pv_bytes := by
  unfold pv_bytes
  intro a ⟨ha, hw⟩ _
  unfold bytesF bytesOf stretchF stretchBad big at *
  simp only [List.any_nil]
  refine ⟨trivial, fun h => by grind, fun h => ⟨⟨by omega, by omega, by grind, rfl⟩, fun ⟨out, i⟩ ⟨h0, h1, h2, h3⟩ => ⟨fun hlt => ?_, fun hge => ?_⟩⟩⟩
  · have hlt : i < (a.length : Int) := by simpa using hlt
    refine ⟨h0, hlt, ⟨by omega, by omega, h3⟩, fun ⟨o2, k⟩ ⟨k0, k1, k2⟩ => ⟨fun hk => ?_, fun hk => ?_⟩⟩
    · have hk : k < 8 := by simpa using hk
      simp only at *
      have hl : o2.length = 8 * i.toNat + k.toNat := by rw [k2, bytesTo_length]
      refine ⟨by simp only [InR]; omega, by omega, by rw [bitsU]; omega, by simp only [hl, List.length_cons, List.length_nil]; omega, by simp only [InR]; omega, ⟨by omega, by omega, ?_⟩, by omega⟩
      rw [k2, show 8 * i.toNat + (k + 1).toNat = 8 * i.toNat + k.toNat + 1 by omega, bytesTo_succ, byteAt_at _ _ _ (by omega), wrapB, pow8 k0]
    · have hk : k = 8 := by have : ¬ k < 8 := by simpa using hk
                            simp only at *; omega
      simp only at *
      refine ⟨by simp only [InR]; omega, ⟨by omega, by omega, h2, ?_⟩, by omega⟩
      rw [k2, hk]
      congr 1
      omega
  · have : ¬ i < (a.length : Int) := by simpa using hge
    have e : i.toNat = a.length := by omega
    simp only at *
    rw [if_neg (by omega)]
    rw [e] at h3
    exact ⟨by rw [h3], rfl, trivial⟩
theorem e_bytes : pv_bytes = fnVC Try.prog (tbl [(65, sp_stretches)]) an_bytes Try.f21 sp_bytes := by kernel_rfl
theorem vc_bytes : fnVC Try.prog (tbl [(65, sp_stretches)]) an_bytes Try.f21 sp_bytes := @Eq.mp _ _ @e_bytes @vcp_bytes
theorem ok_bytes : sp_bytes.ok Try.prog 21 := fn_sound (P := Try.prog) (ss := tbl [(65, sp_stretches)]) (ann := an_bytes) (f := 21) (fn := Try.f21) (s := sp_bytes) (tbl_cons ok_stretches tbl_nil) Try.func21 @vc_bytes

def an_byteText : Nat → Option LoopGen
  | 3 => some { rd := [.dat 6 (.arr ty_W)], A := fun (a : List Int) => { cs := [.own 3 5 (.int .u8), .dat 8 ty_I], inv := fun ((out, i) : List Int × Int) => 0 ≤ i ∧ i ≤ a.length ∧ out = bytesTo a (8 * i.toNat), mu := fun ((_, i) : List Int × Int) => (a.length - i).toNat } }
  | 6 => some { rd := [.dat 6 (.arr ty_W), .dat 8 ty_I], A := fun ((a, i) : List Int × Int) => { cs := [.own 3 5 (.int .u8), .dat 5 ty_W, .dat 12 ty_I], inv := fun ((out, v, k) : List Int × Int × Int) => 0 ≤ k ∧ k ≤ 8 ∧ v = a.getD i.toNat 0 / 256 ^ k.toNat ∧ out = bytesTo a (8 * i.toNat + k.toNat), mu := fun ((_, _, k) : List Int × Int × Int) => (8 - k).toNat } }
  | _ => none

def sp_byteText : Spec := { Ts := [.arr ty_W], Rs := [.dat .str], pre := fun a => (a : List Int).length ≤ 1000000, F := fun (a : List Int) => toBytes (bytesOf a) }
def pv_byteText : Prop :=
    ∀ (x : List Int),
  (x.length * (8 : Nat) ≤ big ∧ ∀ (x_1 : Int), x_1 ∈ x → InR IntKind.u64 x_1) →
    x.length ≤ (1000000 : Nat) →
      ((0 : Int) ≤ (0 : Int) ∧ (0 : Int) ≤ (↑x.length : Int) ∧ [] = bytesTo x ((8 : Nat) * Int.toNat (0 : Int))) ∧
        ∀ (x_1 : List Int × Int),
          (0 : Int) ≤ x_1.snd ∧ x_1.snd ≤ (↑x.length : Int) ∧ x_1.fst = bytesTo x ((8 : Nat) * x_1.snd.toNat) →
            (decide (x_1.snd < (↑x.length : Int)) = true →
                (0 : Int) ≤ x_1.snd ∧
                  x_1.snd < (↑x.length : Int) ∧
                    ((0 : Int) ≤ (0 : Int) ∧
                        (0 : Int) ≤ (8 : Int) ∧
                          x.getD x_1.snd.toNat (0 : Int) =
                              x.getD x_1.snd.toNat (0 : Int) / (256 : Int) ^ Int.toNat (0 : Int) ∧
                            x_1.fst = bytesTo x ((8 : Nat) * x_1.snd.toNat + Int.toNat (0 : Int))) ∧
                      ∀ (x_2 : List Int × Int × Int),
                        (0 : Int) ≤ x_2.snd.snd ∧
                            x_2.snd.snd ≤ (8 : Int) ∧
                              x_2.snd.fst = x.getD x_1.snd.toNat (0 : Int) / (256 : Int) ^ x_2.snd.snd.toNat ∧
                                x_2.fst = bytesTo x ((8 : Nat) * x_1.snd.toNat + x_2.snd.snd.toNat) →
                          (decide (x_2.snd.snd < (8 : Int)) = true →
                              (0 : Int) ≤ x_2.snd.fst ∧
                                (0 : Int) < (256 : Int) ∧
                                  (x_2.fst.length + [IntKind.u8.wrap (x_2.snd.fst % (256 : Int))].length) * (8 : Nat) ≤
                                      big ∧
                                    (0 : Int) ≤ x_2.snd.fst ∧
                                      (0 : Int) < (256 : Int) ∧
                                        InR IntKind.i64 (x_2.snd.snd + (1 : Int)) ∧
                                          ((0 : Int) ≤ x_2.snd.snd + (1 : Int) ∧
                                              x_2.snd.snd + (1 : Int) ≤ (8 : Int) ∧
                                                x_2.snd.fst / (256 : Int) =
                                                    x.getD x_1.snd.toNat (0 : Int) /
                                                      (256 : Int) ^ (x_2.snd.snd + (1 : Int)).toNat ∧
                                                  x_2.fst ++ [IntKind.u8.wrap (x_2.snd.fst % (256 : Int))] =
                                                    bytesTo x
                                                      ((8 : Nat) * x_1.snd.toNat + (x_2.snd.snd + (1 : Int)).toNat)) ∧
                                            ((8 : Int) - (x_2.snd.snd + (1 : Int))).toNat <
                                              ((8 : Int) - x_2.snd.snd).toNat) ∧
                            (decide (x_2.snd.snd < (8 : Int)) = false →
                              InR IntKind.i64 (x_1.snd + (1 : Int)) ∧
                                ((0 : Int) ≤ x_1.snd + (1 : Int) ∧
                                    x_1.snd + (1 : Int) ≤ (↑x.length : Int) ∧
                                      x_2.fst = bytesTo x ((8 : Nat) * (x_1.snd + (1 : Int)).toNat)) ∧
                                  ((↑x.length : Int) - (x_1.snd + (1 : Int))).toNat <
                                    ((↑x.length : Int) - x_1.snd).toNat)) ∧
              (decide (x_1.snd < (↑x.length : Int)) = false → toBytes x_1.fst = toBytes (bytesOf x) ∧ True)
theorem vcp_byteText : pv_byteText := by
  unfold pv_byteText
  intro a ⟨ha, hw⟩ hsz
  unfold bytesOf big at *
  refine ⟨⟨by omega, by omega, rfl⟩, fun ⟨out, i⟩ ⟨h0, h1, h3⟩ => ⟨fun hlt => ?_, fun hge => ?_⟩⟩
  · have hlt : i < (a.length : Int) := by simpa using hlt
    have hm := hw _ (getD_mem (0 : Int) h0 hlt)
    simp only [InR] at hm
    refine ⟨h0, hlt, ⟨by omega, by omega, by simp, h3⟩, fun ⟨o2, v, k⟩ ⟨k0, k1, kv, k2⟩ => ⟨fun hk => ?_, fun hk => ?_⟩⟩
    · have hk : k < 8 := by simpa using hk
      simp only at *
      have hl : o2.length = 8 * i.toNat + k.toNat := by rw [k2, bytesTo_length]
      have hv : 0 ≤ v := by rw [kv]; exact Int.ediv_nonneg hm.1 (Int.pow_nonneg (by omega))
      refine ⟨hv, by omega, by simp only [hl, List.length_cons, List.length_nil]; omega, hv, by omega, by simp only [InR]; omega, ⟨by omega, by omega, ?_, ?_⟩, by omega⟩
      · rw [kv, show (k + 1).toNat = k.toNat + 1 by omega, Int.pow_succ, Int.ediv_ediv_of_nonneg (Int.pow_nonneg (by omega))]
      · rw [k2, show 8 * i.toNat + (k + 1).toNat = 8 * i.toNat + k.toNat + 1 by omega, bytesTo_succ, byteAt_at _ _ _ (by omega), wrapB, kv]
        simp
    · have hk : k = 8 := by have : ¬ k < 8 := by simpa using hk
                            simp only at *; omega
      simp only at *
      refine ⟨by simp only [InR]; omega, ⟨by omega, by omega, ?_⟩, by omega⟩
      rw [k2, hk]
      congr 1
      omega
  · have : ¬ i < (a.length : Int) := by simpa using hge
    have e : i.toNat = a.length := by omega
    simp only at *
    rw [e] at h3
    exact ⟨by rw [h3], trivial⟩
theorem e_byteText : pv_byteText = fnVC Try.prog (tbl []) an_byteText Try.f23 sp_byteText := by kernel_rfl
theorem vc_byteText : fnVC Try.prog (tbl []) an_byteText Try.f23 sp_byteText := @Eq.mp _ _ @e_byteText @vcp_byteText
theorem ok_byteText : sp_byteText.ok Try.prog 23 := fn_sound (P := Try.prog) (ss := tbl []) (ann := an_byteText) (f := 23) (fn := Try.f23) (s := sp_byteText) tbl_nil Try.func23 @vc_byteText

def wordsF (s : List UInt8) : List Int × Int := if 2048 < s.length then ([], 2) else if s.length % 8 ≠ 0 then ([], 3) else (wordsOf s s.length, 0)
def an_words : Nat → Option LoopGen
  | 7 => some { rd := [.dat 19 .str], wr := [4], A := fun (s : List UInt8) => { cs := [.own 4 29 ty_W, .dat 21 ty_I], inv := fun ((out, i) : List Int × Int) => 0 ≤ i ∧ i ≤ s.length ∧ s.length ≤ 2048 ∧ s.length % 8 = 0 ∧ out = wordsOf s i.toNat, mu := fun ((_, i) : List Int × Int) => (s.length - i).toNat } }
  | _ => none

def sp_words : Spec := { Ts := [.str], Rs := [.own 29 ty_W, .dat ty_I], pre := fun _ => True, F := wordsF }
def pv_words : Prop :=
    ∀ (x : List UInt8),
  x.length ≤ big →
    True →
      (decide ((2048 : Int) < (↑x.length : Int)) = true → [] = (wordsF x).fst ∧ (2 : Int) = (wordsF x).snd ∧ True) ∧
        (decide ((2048 : Int) < (↑x.length : Int)) = false →
          (0 : Int) ≤ (↑x.length : Int) ∧
            (0 : Int) < (8 : Int) ∧
              (decide ((↑x.length : Int) % (8 : Int) ≠ (0 : Int)) = true →
                  [] = (wordsF x).fst ∧ (3 : Int) = (wordsF x).snd ∧ True) ∧
                (decide ((↑x.length : Int) % (8 : Int) ≠ (0 : Int)) = false →
                  (0 : Int) ≤ (↑x.length : Int) ∧
                    (0 : Int) < (8 : Int) ∧
                      (0 : Int) ≤ (↑x.length : Int) / (8 : Int) ∧
                        ((↑x.length : Int) / (8 : Int)).toNat * (8 : Nat) ≤ big ∧
                          ((0 : Int) ≤ (0 : Int) ∧
                              (0 : Int) ≤ (↑x.length : Int) ∧
                                x.length ≤ (2048 : Nat) ∧
                                  x.length % (8 : Nat) = (0 : Nat) ∧
                                    List.replicate ((↑x.length : Int) / (8 : Int)).toNat (0 : Int) =
                                      wordsOf x (Int.toNat (0 : Int))) ∧
                            ∀ (x_1 : List Int × Int),
                              (0 : Int) ≤ x_1.snd ∧
                                  x_1.snd ≤ (↑x.length : Int) ∧
                                    x.length ≤ (2048 : Nat) ∧
                                      x.length % (8 : Nat) = (0 : Nat) ∧ x_1.fst = wordsOf x x_1.snd.toNat →
                                (decide (x_1.snd < (↑x.length : Int)) = true →
                                    (0 : Int) ≤ x_1.snd ∧
                                      (0 : Int) < (8 : Int) ∧
                                        (0 : Int) ≤ x_1.snd / (8 : Int) ∧
                                          x_1.snd / (8 : Int) < (↑x_1.fst.length : Int) ∧
                                            (x_1.snd / (8 : Int)).toNat < x_1.fst.length ∧
                                              (0 : Int) ≤ x_1.snd ∧
                                                x_1.snd < (↑x.length : Int) ∧
                                                  (0 : Int) ≤ x_1.snd ∧
                                                    (0 : Int) < (8 : Int) ∧
                                                      InR IntKind.i64 ((8 : Int) * (x_1.snd % (8 : Int))) ∧
                                                        (0 : Int) ≤ (8 : Int) * (x_1.snd % (8 : Int)) ∧
                                                          (8 : Int) * (x_1.snd % (8 : Int)) <
                                                              (↑IntKind.u64.bits : Int) ∧
                                                            (0 : Int) ≤ x_1.snd / (8 : Int) ∧
                                                              x_1.snd / (8 : Int) < (↑x_1.fst.length : Int) ∧
                                                                (x_1.snd / (8 : Int)).toNat < x_1.fst.length ∧
                                                                  InR IntKind.i64 (x_1.snd + (1 : Int)) ∧
                                                                    ((0 : Int) ≤ x_1.snd + (1 : Int) ∧
                                                                        x_1.snd + (1 : Int) ≤ (↑x.length : Int) ∧
                                                                          x.length ≤ (2048 : Nat) ∧
                                                                            x.length % (8 : Nat) = (0 : Nat) ∧
                                                                              x_1.fst.set (x_1.snd / (8 : Int)).toNat
                                                                                  (↑((x_1.fst.getD
                                                                                            (x_1.snd / (8 : Int)).toNat
                                                                                            (0 : Int)).toNat |||
                                                                                        (IntKind.u64.wrap
                                                                                            ((↑(x.getD x_1.snd.toNat
                                                                                                      (0 :
                                                                                                        UInt8)).toNat :
                                                                                                Int) *
                                                                                              (2 : Int) ^
                                                                                                ((8 : Int) *
                                                                                                    (x_1.snd %
                                                                                                      (8 :
                                                                                                        Int))).toNat)).toNat) :
                                                                                    Int) =
                                                                                wordsOf x (x_1.snd + (1 : Int)).toNat) ∧
                                                                      ((↑x.length : Int) -
                                                                            (x_1.snd + (1 : Int))).toNat <
                                                                        ((↑x.length : Int) - x_1.snd).toNat) ∧
                                  (decide (x_1.snd < (↑x.length : Int)) = false →
                                    x_1.fst = (wordsF x).fst ∧ (0 : Int) = (wordsF x).snd ∧ True)))
theorem vcp_words : pv_words := by
  unfold pv_words
  intro s hs _
  unfold wordsF big at *
  refine ⟨fun h => by grind, fun h => ⟨by omega, by omega, fun h8 => by grind, fun h8 => ?_⟩⟩
  have h : s.length ≤ 2048 := by have := of_decide_eq_false h; omega
  have h8 : s.length % 8 = 0 := by have := of_decide_eq_false h8; omega
  refine ⟨by omega, by omega, by omega, by omega, ⟨by omega, by omega, h, h8, ?_⟩, fun ⟨out, i⟩ ⟨h0, h1, _, _, h3⟩ => ⟨fun hlt => ?_, fun hge => ?_⟩⟩
  · rw [show Int.toNat 0 = 0 from rfl, wordsOf_zero]
    congr 1
  · have hlt : i < (s.length : Int) := by simpa using hlt
    simp only at *
    have hl : out.length = s.length / 8 := by rw [h3, wordsOf_length]
    refine ⟨h0, by omega, by omega, by omega, by omega, h0, hlt, h0, by omega, by simp only [InR]; omega, by omega, by rw [bitsU]; omega, by omega, by omega, by omega, by simp only [InR]; omega, ⟨by omega, by omega, h, h8, ?_⟩, by omega⟩
    have hb : (s.getD i.toNat 0).toNat < 256 := (s.getD i.toNat 0).toNat_lt
    have hq : (i / 8).toNat = i.toNat / 8 := by omega
    have hr : (8 * (i % 8)).toNat = 8 * (i.toNat % 8) := by omega
    have hc := wordOf_lt (chunk_isB s i.toNat (i.toNat / 8))
    rw [chunk_length _ _ _ (by omega), show min 8 (i.toNat - 8 * (i.toNat / 8)) = i.toNat % 8 by omega] at hc
    have hp : (2 : Int) ^ (8 * (i.toNat % 8)) = 256 ^ (i.toNat % 8) := by rw [Int.pow_mul]; rfl
    have hp8 : (256 : Int) ^ (i.toNat % 8) ≤ 256 ^ 7 := by
      have : i.toNat % 8 < 8 := by omega
      generalize i.toNat % 8 = r at this
      have : r = 0 ∨ r = 1 ∨ r = 2 ∨ r = 3 ∨ r = 4 ∨ r = 5 ∨ r = 6 ∨ r = 7 := by omega
      rcases this with rfl | rfl | rfl | rfl | rfl | rfl | rfl | rfl <;> decide
    have hp0 : (0 : Int) ≤ 256 ^ (i.toNat % 8) := Int.pow_nonneg (by omega)
    have hbnd : ((s.getD i.toNat 0).toNat : Int) * 256 ^ (i.toNat % 8) ≤ 255 * 256 ^ 7 := Int.mul_le_mul (by omega) hp8 hp0 (by omega)
    rw [show (i + 1).toNat = i.toNat + 1 by omega, wordsOf_step s i.toNat (by omega) h8, hq, hr, h3, wordsOf_get _ _ _ (by omega), wrapU (by rw [hp]; exact Int.mul_nonneg (by omega) hp0) (by rw [hp]; omega),
      lor_add hc.1 (by omega) (by rw [hp]; exact hc.2), hp]
  · have : ¬ i < (s.length : Int) := by simpa using hge
    have e : i.toNat = s.length := by omega
    simp only at *
    rw [if_neg (by omega), if_neg (by omega)]
    rw [e] at h3
    exact ⟨h3, rfl, trivial⟩
theorem e_words : pv_words = fnVC Try.prog (tbl []) an_words Try.f22 sp_words := by kernel_rfl
theorem vc_words : fnVC Try.prog (tbl []) an_words Try.f22 sp_words := @Eq.mp _ _ @e_words @vcp_words
theorem ok_words : sp_words.ok Try.prog 22 := fn_sound (P := Try.prog) (ss := tbl []) (ann := an_words) (f := 22) (fn := Try.f22) (s := sp_words) tbl_nil Try.func22 @vc_words

def sp_lawWordBytes : Spec := sp_law [.arr ty_W, .str]
def pv_lawWordBytes : Prop :=
    ∀ (x : List Int × List UInt8),
  (x.fst.length * (8 : Nat) ≤ big ∧ ∀ (x_1 : Int), x_1 ∈ x.fst → InR IntKind.u64 x_1) ∧ x.snd.length ≤ big →
    True →
      True ∧
        True ∧
          (decide ((256 : Int) < (↑x.fst.length : Int)) = true →
              ((decide ((bytesF x.fst).fst ≠ []) || decide ((bytesF x.fst).snd ≠ (2 : Int))) = true →
                  false = true ∧ True) ∧
                ((decide ((bytesF x.fst).fst ≠ []) || decide ((bytesF x.fst).snd ≠ (2 : Int))) = false →
                  (decide ((2048 : Int) < (↑x.snd.length : Int)) = true →
                      (decide ((↑(wordsF x.snd).fst.length : Int) = (0 : Int)) &&
                            decide ((wordsF x.snd).snd = (2 : Int))) =
                          true ∧
                        True) ∧
                    (decide ((2048 : Int) < (↑x.snd.length : Int)) = false →
                      (0 : Int) ≤ (↑x.snd.length : Int) ∧
                        (0 : Int) < (8 : Int) ∧
                          (decide ((↑x.snd.length : Int) % (8 : Int) ≠ (0 : Int)) = true →
                              (decide ((↑(wordsF x.snd).fst.length : Int) = (0 : Int)) &&
                                    decide ((wordsF x.snd).snd = (3 : Int))) =
                                  true ∧
                                True) ∧
                            (decide ((↑x.snd.length : Int) % (8 : Int) ≠ (0 : Int)) = false →
                              (decide ((wordsF x.snd).snd = (0 : Int)) = true → (0 : Int) ≤ (↑x.snd.length : Int)) ∧
                                (decide ((wordsF x.snd).snd = (0 : Int)) = true → (0 : Int) < (8 : Int)) ∧
                                  ((decide ((wordsF x.snd).snd = (0 : Int)) &&
                                          decide
                                            ((↑(wordsF x.snd).fst.length : Int) = (↑x.snd.length : Int) / (8 : Int))) =
                                        true →
                                      (wordsF x.snd).fst.length ≤ (1000000 : Nat)) ∧
                                    (decide ((wordsF x.snd).snd = (0 : Int)) &&
                                            decide
                                              ((↑(wordsF x.snd).fst.length : Int) =
                                                (↑x.snd.length : Int) / (8 : Int)) &&
                                          decide (toBytes (bytesOf (wordsF x.snd).fst) = x.snd)) =
                                        true ∧
                                      True)))) ∧
            (decide ((256 : Int) < (↑x.fst.length : Int)) = false →
              x.fst.length ≤ (1000000 : Nat) ∧
                ((decide ((bytesF x.fst).fst ≠ toBytes (bytesOf x.fst)) || decide ((bytesF x.fst).snd ≠ (0 : Int))) =
                      true →
                    false = true ∧ True) ∧
                  ((decide ((bytesF x.fst).fst ≠ toBytes (bytesOf x.fst)) || decide ((bytesF x.fst).snd ≠ (0 : Int))) =
                      false →
                    (decide ((2048 : Int) < (↑x.snd.length : Int)) = true →
                        (decide ((↑(wordsF x.snd).fst.length : Int) = (0 : Int)) &&
                              decide ((wordsF x.snd).snd = (2 : Int))) =
                            true ∧
                          True) ∧
                      (decide ((2048 : Int) < (↑x.snd.length : Int)) = false →
                        (0 : Int) ≤ (↑x.snd.length : Int) ∧
                          (0 : Int) < (8 : Int) ∧
                            (decide ((↑x.snd.length : Int) % (8 : Int) ≠ (0 : Int)) = true →
                                (decide ((↑(wordsF x.snd).fst.length : Int) = (0 : Int)) &&
                                      decide ((wordsF x.snd).snd = (3 : Int))) =
                                    true ∧
                                  True) ∧
                              (decide ((↑x.snd.length : Int) % (8 : Int) ≠ (0 : Int)) = false →
                                (decide ((wordsF x.snd).snd = (0 : Int)) = true → (0 : Int) ≤ (↑x.snd.length : Int)) ∧
                                  (decide ((wordsF x.snd).snd = (0 : Int)) = true → (0 : Int) < (8 : Int)) ∧
                                    ((decide ((wordsF x.snd).snd = (0 : Int)) &&
                                            decide
                                              ((↑(wordsF x.snd).fst.length : Int) =
                                                (↑x.snd.length : Int) / (8 : Int))) =
                                          true →
                                        (wordsF x.snd).fst.length ≤ (1000000 : Nat)) ∧
                                      (decide ((wordsF x.snd).snd = (0 : Int)) &&
                                              decide
                                                ((↑(wordsF x.snd).fst.length : Int) =
                                                  (↑x.snd.length : Int) / (8 : Int)) &&
                                            decide (toBytes (bytesOf (wordsF x.snd).fst) = x.snd)) =
                                          true ∧
                                        True))))
theorem vcp_lawWordBytes : pv_lawWordBytes := by
  unfold pv_lawWordBytes
  intro ⟨a, s⟩ ⟨⟨ha, hw⟩, hs⟩ _
  have hn : toBytes (nums s) = s := by
    unfold toBytes nums
    rw [List.map_map]
    conv => rhs; rw [← List.map_id s]
    apply List.map_congr_left
    intro b _
    simp
  have h1 : a.length ≤ 256 → bytesF a = (toBytes (bytesOf a), 0) := fun h => by unfold bytesF; rw [if_neg (by omega)]
  have h2 : ¬ a.length ≤ 256 → bytesF a = ([], 2) := fun h => by unfold bytesF; rw [if_pos (by omega)]
  have g1 : 2048 < s.length → wordsF s = ([], 2) := fun h => by unfold wordsF; rw [if_pos h]
  have g2 : ¬ 2048 < s.length → s.length % 8 ≠ 0 → wordsF s = ([], 3) := fun h h' => by unfold wordsF; rw [if_neg h, if_pos h']
  have g3 : ¬ 2048 < s.length → s.length % 8 = 0 → wordsF s = (wordsOf s s.length, 0) := fun h h' => by unfold wordsF; rw [if_neg h, if_neg (by omega)]
  have g4 : s.length % 8 = 0 → toBytes (bytesOf (wordsOf s s.length)) = s := fun h => by rw [bytes_words s h, hn]
  have g5 := wordsOf_length s s.length
  simp only at *
  by_cases q : 2048 < s.length
  · refine ⟨trivial, trivial, fun h => ?_, fun h => ?_⟩
    · rw [h2 (by have := of_decide_eq_true h; omega)]
      simp [g1 q]
      try omega
    · have h := of_decide_eq_false h
      rw [h1 (by omega)]
      simp [g1 q]
      try omega
  by_cases q8 : s.length % 8 = 0
  · refine ⟨trivial, trivial, fun h => ?_, fun h => ?_⟩
    · rw [h2 (by have := of_decide_eq_true h; omega)]
      simp [g3 q q8, g4 q8, g5]
      try omega
    · have h := of_decide_eq_false h
      rw [h1 (by omega)]
      simp [g3 q q8, g4 q8, g5]
      try omega
  · refine ⟨trivial, trivial, fun h => ?_, fun h => ?_⟩
    · rw [h2 (by have := of_decide_eq_true h; omega)]
      simp [g2 q q8]
      try omega
    · have h := of_decide_eq_false h
      rw [h1 (by omega)]
      simp [g2 q q8]
      try omega
theorem e_lawWordBytes : pv_lawWordBytes = fnVC Try.prog (tbl [(21, sp_bytes), (22, sp_words), (23, sp_byteText)]) an_0 Try.f5 sp_lawWordBytes := by kernel_rfl
theorem vc_lawWordBytes : fnVC Try.prog (tbl [(21, sp_bytes), (22, sp_words), (23, sp_byteText)]) an_0 Try.f5 sp_lawWordBytes := @Eq.mp _ _ @e_lawWordBytes @vcp_lawWordBytes
theorem ok_lawWordBytes : sp_lawWordBytes.ok Try.prog 5 := fn_sound (P := Try.prog) (ss := tbl [(21, sp_bytes), (22, sp_words), (23, sp_byteText)]) (ann := an_0) (f := 5) (fn := Try.f5) (s := sp_lawWordBytes) (tbl_cons ok_bytes (tbl_cons ok_words (tbl_cons ok_byteText tbl_nil))) Try.func5 @vc_lawWordBytes

end Go.Proofs.Ytjkmfgneonifeaa
