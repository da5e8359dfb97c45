/- The engine, part 3: operations that compute a value and leave the world alone. -/
import Derived.Test.YtgnamdjmjkeodaaE2
namespace Go.Proofs.Ytgnamdjmjkeodaa
open Go

abbrev Res := Option (List Prop × AV)

def tyFs (g : TypeId → Option Ty) : List Field → Option Ty
  | [] => none
  | [f] => g f.type
  | f :: f2 :: fs => match g f.type, tyFs g (f2 :: fs) with
    | some A, some B => some (.pair A B)
    | _, _ => none

/-- The type of data that the program's type t is. -/
def tyOf (P : Program) : Nat → TypeId → Option Ty
  | 0, _ => none
  | n + 1, t => match P.underlying t with
    | some (.int k) => some (.int k)
    | some .bool => some .bool
    | some .string => some .str
    | some (.slice e) => (tyOf P n e).map .arr
    | some (.struct fs) => tyFs (tyOf P n) fs.toList
    | some (.map kt e) => match P.underlying kt with
      | some (.int k) => (tyOf P n e).map (.map k)
      | _ => none
    | _ => none

/-- That n is not below 0: nothing to say of an unsigned number. -/
def nonneg (k : IntKind) (n : Int) : List Prop := if k.signed then [0 ≤ n] else []

def evShift (op : BinOp) (k : IntKind) (a b : Int) : Res :=
  match op with
  | .shl => some ([0 ≤ b, b < (k.bits : Int)], .int k (k.wrap (a * 2 ^ b.toNat)))
  | .shr => some (nonneg k a ++ [0 ≤ b, b < (k.bits : Int)], .int k (a / 2 ^ b.toNat))
  | _ => none

def isBool (P : Program) (t : TypeId) : Bool := match P.underlying t with | some .bool => true | _ => false

theorem isBool_eq {P : Program} {t : TypeId} (h : isBool P t = true) : P.underlying t = some .bool := by
  unfold isBool at h; split at h
  · assumption
  · cases h

def evBin (P : Program) (t : TypeId) (op : BinOp) (x y : AV) : Res :=
  match x, y with
  | .int k a, .int k' b =>
    if k = k' then
      match op with
      | .add => some ([InR k (a + b)], .int k (a + b))
      | .sub => some ([InR k (a - b)], .int k (a - b))
      | .mul => some ([InR k (a * b)], .int k (a * b))
      | .quo => some ([0 ≤ a, 0 < b], .int k (a / b))
      | .rem => some ([0 ≤ a, 0 < b], .int k (a % b))
      | .eql => some ([], .bool (decide (a = b)))
      | .neq => some ([], .bool (decide (a ≠ b)))
      | .lss => some ([], .bool (decide (a < b)))
      | .leq => some ([], .bool (decide (a ≤ b)))
      | .gtr => some ([], .bool (decide (b < a)))
      | .geq => some ([], .bool (decide (b ≤ a)))
      | .and => some (nonneg k a ++ nonneg k b, .int k ((a.toNat &&& b.toNat : Nat) : Int))
      | .or => some (nonneg k a ++ nonneg k b, .int k ((a.toNat ||| b.toNat : Nat) : Int))
      | .xor => some (nonneg k a ++ nonneg k b, .int k ((a.toNat ^^^ b.toNat : Nat) : Int))
      | .shl => evShift op k a b
      | .shr => evShift op k a b
      | _ => none
    else evShift op k a b
  | .bool a, .bool b =>
    if isBool P t = true then
      match op with
      | .eql => some ([], .bool (a == b))
      | .neq => some ([], .bool (!(a == b)))
      | _ => none
    else none
  | .str a, .str b =>
    match op with
    | .eql => some ([], .bool (decide (a = b)))
    | .neq => some ([], .bool (decide (a ≠ b)))
    | .add => some ([a.length + b.length ≤ big], .str (a ++ b))
    | _ => none
  | _, _ => none

section
variable {P : Program} {w : World} {p : PH} {β : Nat → Value} {tm : Array Value}

theorem val_int {k : IntKind} {n : Int} {v : Value} (h : (AV.int k n).val p β tm v) : v = .int k n ∧ InR k n := h
theorem val_bool {b : Bool} {v : Value} (h : (AV.bool b).val p β tm v) : v = .bool b := h
theorem val_str {s : List UInt8} {v : Value} (h : (AV.str s).val p β tm v) : v = .string ⟨s.toArray⟩ ∧ s.length ≤ big := h

/-- What the machine does at an operation that yields a value. -/
def Yields (P : Program) (s : Sem Value) (w : World) (p : PH) (β : Nat → Value) (tm : Array Value) (a : AV) : Prop := ∃ v, s.run P w = .ok v w ∧ a.val p β tm v

theorem tdiv_inR {k : IntKind} {a b : Int} (ha : InR k a) (h0 : 0 ≤ a) (hb : 0 < b) : InR k (a / b) := by
  have h1 : a / b ≤ a := Int.ediv_le_self b h0
  have h2 : 0 ≤ a / b := Int.ediv_nonneg h0 (by omega)
  cases k <;> simp only [InR] at ha ⊢ <;> omega

theorem tmod_inR {k : IntKind} {a b : Int} (ha : InR k a) (h0 : 0 ≤ a) (hb : 0 < b) : InR k (a % b) := by
  have h1 : a % b ≤ a := by
    have := Int.emod_add_mul_ediv a b
    have h2 : 0 ≤ b * (a / b) := Int.mul_nonneg (by omega) (Int.ediv_nonneg h0 (by omega))
    omega
  have h2 : 0 ≤ a % b := Int.emod_nonneg a (by omega)
  cases k <;> simp only [InR] at ha ⊢ <;> omega

theorem str_inj {a b : List UInt8} : ((⟨a.toArray⟩ : ByteArray) = ⟨b.toArray⟩) ↔ a = b := by
  constructor
  · intro h; injection h with h; injection h
  · rintro rfl; rfl

theorem nonneg_of {k : IntKind} {n : Int} (h : InR k n) (hs : ∀ q ∈ nonneg k n, q) : 0 ≤ n := by
  cases hk : k.signed
  · cases k <;> simp only [InR] at h <;> first | omega | (cases hk; done)
  · exact hs _ (by simp [nonneg, hk])

theorem ofInt_toNat {k : IntKind} {n : Int} (h : InR k n) (h0 : 0 ≤ n) : (BitVec.ofInt k.bits n).toNat = n.toNat := by
  obtain ⟨m, rfl⟩ := Int.eq_ofNat_of_zero_le h0
  rw [BitVec.ofInt_natCast, BitVec.toNat_ofNat, Int.toNat_natCast]
  apply Nat.mod_eq_of_lt
  cases k <;> simp only [InR, IntKind.bits] at h ⊢ <;> omega

theorem inR_of_lt {k : IntKind} {n m : Int} (h : InR k n) (h0 : 0 ≤ m) (h1 : m ≤ n) : InR k m := by
  cases k <;> simp only [InR] at h ⊢ <;> omega

/-- How many bits a number of kind k that is not below 0 has at most. -/
def ubits (k : IntKind) : Nat := if k.signed then k.bits - 1 else k.bits

theorem inR_iff {k : IntKind} {m : Nat} : InR k (m : Int) ↔ m < 2 ^ ubits k := by
  cases k <;> simp only [InR, ubits, IntKind.signed, IntKind.bits, if_true, Bool.false_eq_true, if_false, Nat.reduceSub, Nat.reducePow] <;> omega

theorem toNat_lt {k : IntKind} {n : Int} (h : InR k n) (h0 : 0 ≤ n) : n.toNat < 2 ^ ubits k := by
  apply inR_iff.1
  rwa [Int.toNat_of_nonneg h0]

theorem run_bits {op : BinOp} {k : IntKind} {a b : Int} {r : Nat} (ha : InR k a) (hb : InR k b) (h0 : 0 ≤ a) (h1 : 0 ≤ b)
    (h : (op = .and ∧ r = a.toNat &&& b.toNat) ∨ (op = .or ∧ r = a.toNat ||| b.toNat) ∨ (op = .xor ∧ r = a.toNat ^^^ b.toNat)) :
    (Op.intBits op k a b).run P w = .ok (.int k (r : Int)) w ∧ InR k (r : Int) := by
  have la := toNat_lt ha h0
  have lb := toNat_lt hb h1
  have hr : InR k (r : Int) := by
    apply inR_iff.2
    rcases h with ⟨_, rfl⟩ | ⟨_, rfl⟩ | ⟨_, rfl⟩
    · exact Nat.and_lt_two_pow _ lb
    · exact Nat.or_lt_two_pow la lb
    · exact Nat.xor_lt_two_pow la lb
  refine ⟨?_, hr⟩
  have hw := wrap_of_inR hr
  rcases h with ⟨rfl, rfl⟩ | ⟨rfl, rfl⟩ | ⟨rfl, rfl⟩
  · simp only [Op.intBits, Sem.run_pure, BitVec.toNat_and, ofInt_toNat ha h0, ofInt_toNat hb h1, hw]
  · simp only [Op.intBits, Sem.run_pure, BitVec.toNat_or, ofInt_toNat ha h0, ofInt_toNat hb h1, hw]
  · simp only [Op.intBits, Sem.run_pure, BitVec.toNat_xor, ofInt_toNat ha h0, ofInt_toNat hb h1, hw]

theorem evShift_sound {op : BinOp} {t : TypeId} {ox oy : Operand} {k k' : IntKind} {a b : Int} {ps : List Prop} {r : AV} (h : evShift op k a b = some (ps, r)) (hps : ∀ q ∈ ps, q)
    (ha : InR k a) : Yields P (do eqGuard op t ox oy (.int k a) (.int k' b); binOp op t (.int k a) (.int k' b)) w p β tm r := by
  unfold evShift at h
  split at h <;> simp only [Option.some.injEq, Prod.mk.injEq, reduceCtorEq] at h <;> obtain ⟨rfl, rfl⟩ := h
  · have h1 : 0 ≤ b := hps _ (by simp)
    have h2 : b < (k.bits : Int) := hps _ (by simp)
    have e : min b.toNat k.bits = b.toNat := by omega
    refine ⟨_, ?_, rfl, inR_wrap _ _⟩
    simp only [eqGuard, binOp, Op.shift, if_neg (show ¬ b < 0 by omega), e]
    rfl
  · have h1 : 0 ≤ b := hps _ (by simp)
    have h2 : b < (k.bits : Int) := hps _ (by simp)
    have h0 : 0 ≤ a := nonneg_of ha (fun q hq => hps q (List.mem_append_left _ hq))
    have e : min b.toNat k.bits = b.toNat := by omega
    have hp : (0 : Int) < 2 ^ b.toNat := Int.pow_pos (by omega)
    refine ⟨_, ?_, rfl, tdiv_inR ha h0 hp⟩
    have e2 : a.fdiv (2 ^ b.toNat) = a / 2 ^ b.toNat := Int.fdiv_eq_ediv_of_nonneg _ (Int.le_of_lt hp)
    simp only [eqGuard, binOp, Op.shift, if_neg (show ¬ b < 0 by omega), e, e2]
    rfl

theorem evBin_sound {op : BinOp} {t : TypeId} {ox oy : Operand} {x y : AV} {vx vy : Value} {ps : List Prop} {r : AV} (h : evBin P t op x y = some (ps, r)) (hps : ∀ q ∈ ps, q)
    (hx : x.val p β tm vx) (hy : y.val p β tm vy) :
    Yields P (do eqGuard op t ox oy vx vy; binOp op t vx vy) w p β tm r := by
  unfold evBin at h
  split at h
  · rename_i k a k' b
    obtain ⟨rfl, ha⟩ := val_int hx
    obtain ⟨rfl, hb⟩ := val_int hy
    split at h
    · rename_i hk
      subst hk
      split at h
      case h_15 => exact evShift_sound h hps ha
      case h_16 => exact evShift_sound h hps ha
      case h_17 => cases h
      all_goals simp only [Option.some.injEq, Prod.mk.injEq] at h
      all_goals obtain ⟨rfl, rfl⟩ := h
      · have h1 := hps _ (List.mem_cons_self); exact ⟨_, by simp [eqGuard, binOp, Op.intArith, go_sem]; rfl, by rw [wrap_of_inR h1]; exact ⟨rfl, h1⟩⟩
      · have h1 := hps _ (List.mem_cons_self); exact ⟨_, by simp [eqGuard, binOp, Op.intArith, go_sem]; rfl, by rw [wrap_of_inR h1]; exact ⟨rfl, h1⟩⟩
      · have h1 := hps _ (List.mem_cons_self); exact ⟨_, by simp [eqGuard, binOp, Op.intArith, go_sem]; rfl, by rw [wrap_of_inR h1]; exact ⟨rfl, h1⟩⟩
      · have h1 := hps _ (List.mem_cons_self)
        have h2 := hps (0 < b) (by simp)
        have h3 : b ≠ 0 := by omega
        refine ⟨.int k (a / b), ?_, rfl, tdiv_inR ha h1 h2⟩
        simp [eqGuard, binOp, Op.intDiv, go_sem, h3]
        rw [Int.tdiv_eq_ediv_of_nonneg h1, wrap_of_inR (tdiv_inR ha h1 h2)]
      · have h1 := hps _ (List.mem_cons_self)
        have h2 := hps (0 < b) (by simp)
        have h3 : b ≠ 0 := by omega
        refine ⟨.int k (a % b), ?_, rfl, tmod_inR ha h1 h2⟩
        simp [eqGuard, binOp, Op.intDiv, go_sem, h3]
        rw [Int.tmod_eq_emod_of_nonneg h1]
      iterate 6
        refine ⟨_, by simp [eqGuard, binOp, Op.intCmp, go_sem]; rfl, ?_⟩
        first
          | rfl
          | (show Value.bool _ = Value.bool _; congr 1; rw [Bool.eq_iff_iff]; simp)
      · have h0 := nonneg_of ha (fun q hq => hps q (List.mem_append_left _ hq))
        have h1 := nonneg_of hb (fun q hq => hps q (List.mem_append_right _ hq))
        have hr := run_bits (P := P) (w := w) (op := .and) ha hb h0 h1 (.inl ⟨rfl, rfl⟩)
        exact ⟨_, by simp only [eqGuard, binOp, ne_eq, not_true, if_false]; exact hr.1, rfl, hr.2⟩
      · have h0 := nonneg_of ha (fun q hq => hps q (List.mem_append_left _ hq))
        have h1 := nonneg_of hb (fun q hq => hps q (List.mem_append_right _ hq))
        have hr := run_bits (P := P) (w := w) (op := .or) ha hb h0 h1 (.inr (.inl ⟨rfl, rfl⟩))
        exact ⟨_, by simp only [eqGuard, binOp, ne_eq, not_true, if_false]; exact hr.1, rfl, hr.2⟩
      · have h0 := nonneg_of ha (fun q hq => hps q (List.mem_append_left _ hq))
        have h1 := nonneg_of hb (fun q hq => hps q (List.mem_append_right _ hq))
        have hr := run_bits (P := P) (w := w) (op := .xor) ha hb h0 h1 (.inr (.inr ⟨rfl, rfl⟩))
        exact ⟨_, by simp only [eqGuard, binOp, ne_eq, not_true, if_false]; exact hr.1, rfl, hr.2⟩
    · exact evShift_sound h hps ha
  · rename_i a b
    obtain rfl := val_bool hx
    obtain rfl := val_bool hy
    split at h
    · rename_i hb
      have hu := isBool_eq hb
      split at h <;> simp only [Option.some.injEq, Prod.mk.injEq, reduceCtorEq] at h <;> obtain ⟨rfl, rfl⟩ := h
      · exact ⟨_, by simp [eqGuard, run_eql_bool w t a b hu], rfl⟩
      · exact ⟨_, by simp [eqGuard, run_neq_bool w t a b hu], rfl⟩
    · cases h
  · rename_i a b
    obtain ⟨rfl, ha⟩ := val_str hx
    obtain ⟨rfl, hb⟩ := val_str hy
    split at h <;> simp only [Option.some.injEq, Prod.mk.injEq, reduceCtorEq] at h <;> obtain ⟨rfl, rfl⟩ := h
    · refine ⟨_, by simp [eqGuard, binOp, Op.stringOp, go_sem]; rfl, ?_⟩
      show Value.bool _ = Value.bool _; congr 1; rw [Bool.eq_iff_iff]; simp
    · refine ⟨_, by simp [eqGuard, binOp, Op.stringOp, go_sem]; rfl, ?_⟩
      show Value.bool _ = Value.bool _; congr 1; rw [Bool.eq_iff_iff]; simp
    · have h1 := hps _ (List.mem_cons_self)
      refine ⟨.string ⟨(a ++ b).toArray⟩, ?_, rfl, by simpa using h1⟩
      have hb : (a.length : Int) + (b.length : Int) ≤ 9223372036854775807 := by simp only [big] at h1; omega
      simp [eqGuard, binOp, Op.stringOp, go_sem, IntKind.max, IntKind.signed, IntKind.bits]
      rw [if_neg (by omega)]
      congr 2
  · cases h
end
end Go.Proofs.Ytgnamdjmjkeodaa
