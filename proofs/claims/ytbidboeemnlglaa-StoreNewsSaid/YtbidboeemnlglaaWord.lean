/- Contracts of package word: bytes, words, stretches; and of the reference's ByteText. -/
import Derived.Test.YtbidboeemnlglaaSlices
namespace Go.Proofs.Ytbidboeemnlglaa
open Go
set_option maxRecDepth 100000
set_option maxHeartbeats 1000000

/-- Is a stretch of n words from one of these places not in an arena of L words? -/
def stretchBad (L : Nat) (n : Int) (ks : List Int) : Bool := ks.any fun k => decide (n < 0) || decide (k < 0) || decide (k > (L : Int)) || decide (n > (L : Int) - k)
def stretchF (L : Nat) (n : Int) (ks : List Int) : Int := if 256 < L then 2 else if stretchBad L n ks then 4 else 0

def byteAt (a : List Int) (i : Nat) : Int := a.getD (i / 8) 0 / 256 ^ (i % 8) % 256
/-- The first n bytes of an arena. -/
def bytesTo (a : List Int) (n : Nat) : List Int := (List.range n).map (byteAt a)
def bytesOf (a : List Int) : List Int := bytesTo a (8 * a.length)

theorem bytesTo_succ (a : List Int) (n : Nat) : bytesTo a (n + 1) = bytesTo a n ++ [byteAt a n] := by
  simp [bytesTo, List.range_succ]

theorem bytesTo_length (a : List Int) (n : Nat) : (bytesTo a n).length = n := by simp [bytesTo]

theorem byteAt_at (a : List Int) (i k : Nat) (h : k < 8) : byteAt a (8 * i + k) = a.getD i 0 / 256 ^ k % 256 := by
  unfold byteAt
  rw [show (8 * i + k) / 8 = i by omega, show (8 * i + k) % 8 = k by omega]

/-- The word of some bytes, the lowest one first. -/
def wordOf : List Int → Int
  | [] => 0
  | b :: l => b + 256 * wordOf l

def IsB (l : List Int) : Prop := ∀ b ∈ l, 0 ≤ b ∧ b < 256

theorem wordOf_snoc (b : Int) : ∀ l : List Int, wordOf (l ++ [b]) = wordOf l + b * 256 ^ l.length
  | [] => by simp [wordOf]
  | c :: l => by
    have := wordOf_snoc b l
    simp only [List.cons_append, wordOf, this, List.length_cons, Int.pow_succ]
    grind

theorem wordOf_lt : ∀ {l : List Int}, IsB l → 0 ≤ wordOf l ∧ wordOf l < 256 ^ l.length
  | [], _ => by simp [wordOf]
  | b :: l, h => by
    have h1 := h b (by simp)
    have h2 := wordOf_lt (l := l) (fun c hc => h c (by simp [hc]))
    simp only [wordOf, List.length_cons, Int.pow_succ]
    omega

theorem wordOf_get : ∀ {l : List Int}, IsB l → ∀ (k : Nat), k < l.length → wordOf l / 256 ^ k % 256 = l.getD k 0
  | [], _, k, hk => by simp at hk
  | b :: l, h, 0, _ => by
    have h1 := h b (by simp)
    simp only [wordOf, List.getD_cons_zero, Int.pow_zero]
    omega
  | b :: l, h, k + 1, hk => by
    have h1 := h b (by simp)
    have h2 := wordOf_get (l := l) (fun c hc => h c (by simp [hc])) k (by simpa using hk)
    simp only [wordOf, List.getD_cons_succ]
    rw [Int.pow_succ, Int.mul_comm (256 ^ k), ← Int.ediv_ediv_of_nonneg (by omega), show (b + 256 * wordOf l) / 256 = wordOf l by omega]
    exact h2

def nums (s : List UInt8) : List Int := s.map fun b => (b.toNat : Int)

theorem nums_isB (s : List UInt8) : IsB (nums s) := by
  intro b hb
  simp only [nums, List.mem_map] at hb
  obtain ⟨c, _, rfl⟩ := hb
  have := c.toNat_lt
  omega

/-- Of word j, what lies ahead of byte i. -/
def chunk (s : List UInt8) (i j : Nat) : List Int := ((nums s).drop (8 * j)).take (min 8 (i - 8 * j))
def wordsOf (s : List UInt8) (i : Nat) : List Int := (List.range (s.length / 8)).map fun j => wordOf (chunk s i j)

theorem chunk_isB (s : List UInt8) (i j : Nat) : IsB (chunk s i j) := fun b hb => nums_isB s b (List.mem_of_mem_drop (List.mem_of_mem_take hb))
theorem chunk_length (s : List UInt8) (i j : Nat) (h : i ≤ s.length) : (chunk s i j).length = min 8 (i - 8 * j) := by
  simp only [chunk, nums, List.length_take, List.length_drop, List.length_map]
  omega

theorem chunk_snoc (s : List UInt8) (i : Nat) (h : i < s.length) : chunk s (i + 1) (i / 8) = chunk s i (i / 8) ++ [((s.getD i 0).toNat : Int)] := by
  unfold chunk
  rw [show min 8 (i + 1 - 8 * (i / 8)) = min 8 (i - 8 * (i / 8)) + 1 by omega]
  have hl : min 8 (i - 8 * (i / 8)) < ((nums s).drop (8 * (i / 8))).length := by
    simp only [nums, List.length_drop, List.length_map]; omega
  rw [List.take_succ_eq_append_getElem hl]
  congr 2
  simp only [nums, List.getElem_drop, List.getElem_map]
  simp only [show 8 * (i / 8) + min 8 (i - 8 * (i / 8)) = i by omega]
  simp [h]

theorem chunk_other (s : List UInt8) (i j : Nat) (h : j ≠ i / 8) : chunk s (i + 1) j = chunk s i j := by
  unfold chunk
  congr 1
  omega

theorem wordsOf_length (s : List UInt8) (i : Nat) : (wordsOf s i).length = s.length / 8 := by simp [wordsOf]

theorem wordsOf_zero (s : List UInt8) : wordsOf s 0 = List.replicate (s.length / 8) 0 := by
  apply List.ext_getElem
  · simp [wordsOf]
  · intro j h1 h2
    simp [wordsOf, chunk, wordOf]

theorem wordsOf_get (s : List UInt8) (i j : Nat) (h : j < s.length / 8) : (wordsOf s i).getD j 0 = wordOf (chunk s i j) := by
  simp [wordsOf, h]

theorem wordsOf_step (s : List UInt8) (i : Nat) (h : i < s.length) (h8 : s.length % 8 = 0) :
    wordsOf s (i + 1) = (wordsOf s i).set (i / 8) (wordOf (chunk s i (i / 8)) + ((s.getD i 0).toNat : Int) * 256 ^ (i % 8)) := by
  apply List.ext_getElem
  · simp [wordsOf]
  · intro j h1 h2
    simp only [wordsOf_length] at h1
    rw [List.getElem_set]
    split
    · rename_i e
      subst e
      simp only [wordsOf, List.getElem_map, List.getElem_range]
      rw [chunk_snoc s i h, wordOf_snoc, chunk_length s i _ (by omega), show min 8 (i - 8 * (i / 8)) = i % 8 by omega]
    · rename_i e
      simp only [wordsOf, List.getElem_map, List.getElem_range]
      rw [chunk_other s i j (fun h => e h.symm)]

theorem getD_mem_or {l : List Int} {k : Nat} (h : k < l.length) : l.getD k 0 ∈ l := by
  simp [h]

theorem bytes_words (s : List UInt8) (h8 : s.length % 8 = 0) : bytesOf (wordsOf s s.length) = nums s := by
  apply List.ext_getElem
  · simp only [bytesOf, bytesTo_length, wordsOf_length, nums, List.length_map]; omega
  · intro i h1 h2
    have hi : i < s.length := by simpa [nums] using h2
    simp only [bytesOf, bytesTo, List.getElem_map, List.getElem_range, byteAt]
    rw [wordsOf_get _ _ _ (by omega), wordOf_get (chunk_isB _ _ _) _ (by rw [chunk_length _ _ _ (Nat.le_refl _)]; omega)]
    simp only [chunk, List.getD_eq_getElem?_getD, List.getElem?_take, List.getElem?_drop]
    rw [if_pos (by omega), show 8 * (i / 8) + i % 8 = i by omega, List.getElem?_eq_getElem h2]
    simp [nums]

def an_stretches : Nat → Option LoopGen
  | 4 => some { rd := [.dat 2 (.arr ty_I), .dat 1 ty_I, .dat 0 (.arr ty_W)], A := fun (ks, n, a) => { cs := [.dat 14 ty_I], inv := fun (i : Int) => 0 ≤ i ∧ i ≤ (ks : List Int).length ∧ (a : List Int).length ≤ 256 ∧ stretchBad (a : List Int).length n ((ks : List Int).drop i.toNat) = stretchBad (a : List Int).length n ks, mu := fun (i : Int) => ((ks : List Int).length - i).toNat } }
  | _ => none

def sp_stretches : Spec := { Ts := [.arr ty_W, ty_I, .arr ty_I], Rs := [.dat ty_I], pre := fun _ => True, F := fun ((a, n, ks) : List Int × Int × List Int) => stretchF a.length n ks }

theorem pow8 {k : Int} (h : 0 ≤ k) : (2 : Int) ^ (8 * k).toNat = 256 ^ k.toNat := by
  rw [show (8 * k).toNat = 8 * k.toNat by omega, Int.pow_mul]
  rfl

theorem int_le {a b : Int} (h : a ≤ b) : (b - a).NonNeg := h

def bytesF (a : List Int) : List UInt8 × Int := if 256 < a.length then ([], 2) else (toBytes (bytesOf a), 0)
def an_bytes : Nat → Option LoopGen
  | 6 => some { rd := [.dat 14 (.arr ty_W)], A := fun (a : List Int) => { cs := [.own 5 5 (.int .u8), .dat 16 ty_I], inv := fun ((out, i) : List Int × Int) => 0 ≤ i ∧ i ≤ a.length ∧ a.length ≤ 256 ∧ out = bytesTo a (8 * i.toNat), mu := fun ((_, i) : List Int × Int) => (a.length - i).toNat } }
  | 9 => some { rd := [.dat 14 (.arr ty_W), .dat 16 ty_I], A := fun ((a, i) : List Int × Int) => { cs := [.own 5 5 (.int .u8), .dat 20 ty_I], inv := fun ((out, k) : List Int × Int) => 0 ≤ k ∧ k ≤ 8 ∧ out = bytesTo a (8 * i.toNat + k.toNat), mu := fun ((_, k) : List Int × Int) => (8 - k).toNat } }
  | _ => none

def sp_bytes : Spec := { Ts := [.arr ty_W], Rs := [.dat .str, .dat ty_I], pre := fun _ => True, F := bytesF }

def an_byteText : Nat → Option LoopGen
  | 3 => some { rd := [.dat 6 (.arr ty_W)], A := fun (a : List Int) => { cs := [.own 3 5 (.int .u8), .dat 8 ty_I], inv := fun ((out, i) : List Int × Int) => 0 ≤ i ∧ i ≤ a.length ∧ out = bytesTo a (8 * i.toNat), mu := fun ((_, i) : List Int × Int) => (a.length - i).toNat } }
  | 6 => some { rd := [.dat 6 (.arr ty_W), .dat 8 ty_I], A := fun ((a, i) : List Int × Int) => { cs := [.own 3 5 (.int .u8), .dat 5 ty_W, .dat 12 ty_I], inv := fun ((out, v, k) : List Int × Int × Int) => 0 ≤ k ∧ k ≤ 8 ∧ v = a.getD i.toNat 0 / 256 ^ k.toNat ∧ out = bytesTo a (8 * i.toNat + k.toNat), mu := fun ((_, _, k) : List Int × Int × Int) => (8 - k).toNat } }
  | _ => none

def sp_byteText : Spec := { Ts := [.arr ty_W], Rs := [.dat .str], pre := fun a => (a : List Int).length ≤ 1000000, F := fun (a : List Int) => toBytes (bytesOf a) }

def wordsF (s : List UInt8) : List Int × Int := if 2048 < s.length then ([], 2) else if s.length % 8 ≠ 0 then ([], 3) else (wordsOf s s.length, 0)
def an_words : Nat → Option LoopGen
  | 7 => some { rd := [.dat 19 .str], wr := [4], A := fun (s : List UInt8) => { cs := [.own 4 46 ty_W, .dat 21 ty_I], inv := fun ((out, i) : List Int × Int) => 0 ≤ i ∧ i ≤ s.length ∧ s.length ≤ 2048 ∧ s.length % 8 = 0 ∧ out = wordsOf s i.toNat, mu := fun ((_, i) : List Int × Int) => (s.length - i).toNat } }
  | _ => none

def sp_words : Spec := { Ts := [.str], Rs := [.own 46 ty_W, .dat ty_I], pre := fun _ => True, F := wordsF }

def sp_lawWordBytes : Spec := sp_law [.arr ty_W, .str]

end Go.Proofs.Ytbidboeemnlglaa
