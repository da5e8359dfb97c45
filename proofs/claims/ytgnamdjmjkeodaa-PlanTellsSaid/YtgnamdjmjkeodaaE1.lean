/- The engine, part 1: types of data, abstract values, abstract states, and what it means that a state describes a frame and a world. -/
import Derived.WalkKit
import Derived.KernelRfl
import Derived.Test.YtgnamdjmjkeodaaProg
namespace Go.Proofs.Ytgnamdjmjkeodaa
open Go

/-- Types of data. -/
inductive Ty where
  | int (k : IntKind)
  | bool
  | str
  | arr (T : Ty)
  | pair (A B : Ty)
  | nil
  | ref (T : Ty)
  | fn (A B : Ty)
  | map (k : IntKind) (V : Ty)
  deriving DecidableEq

def Ty.den : Ty → Type
  | .int _ => Int
  | .bool => Bool
  | .str => List UInt8
  | .arr T => List T.den
  | .pair A B => A.den × B.den
  | .nil => Unit
  | .ref T => T.den
  | .fn A B => (A.den → Prop) × (A.den → B.den)
  | .map _ V => List (Int × V.den)

def Ty.size : Ty → Nat
  | .pair A B => A.size + B.size
  | _ => 1

def Ty.bytes : Ty → Nat
  | .int _ => 8
  | .bool => 8
  | .str => 16
  | .arr _ => 24
  | .pair A B => A.bytes + B.bytes
  | .nil => 24
  | .ref _ => 8
  | .fn _ _ => 8
  | .map _ _ => 8

def Ty.dflt : (T : Ty) → T.den
  | .int _ => (0 : Int)
  | .bool => false
  | .str => ([] : List UInt8)
  | .arr T => ([] : List T.den)
  | .pair A B => (A.dflt, B.dflt)
  | .nil => ()
  | .ref T => T.dflt
  | .fn _ B => (fun _ => False, fun _ => B.dflt)
  | .map _ V => ([] : List (Int × V.den))

/-- n lies in the range of kind k. -/
def InR : IntKind → Int → Prop
  | .i8, n => -128 ≤ n ∧ n ≤ 127
  | .i16, n => -32768 ≤ n ∧ n ≤ 32767
  | .i32, n => -2147483648 ≤ n ∧ n ≤ 2147483647
  | .i64, n => -9223372036854775808 ≤ n ∧ n ≤ 9223372036854775807
  | .u8, n => 0 ≤ n ∧ n ≤ 255
  | .u16, n => 0 ≤ n ∧ n ≤ 65535
  | .u32, n => 0 ≤ n ∧ n ≤ 4294967295
  | .u64, n => 0 ≤ n ∧ n ≤ 18446744073709551615

theorem wrap_of_inR {k : IntKind} {n : Int} (h : InR k n) : k.wrap n = n := by
  cases k <;> simp [InR, IntKind.wrap, IntKind.bits, IntKind.signed] at h ⊢ <;> omega

theorem inR_wrap (k : IntKind) (n : Int) : InR k (k.wrap n) := by
  cases k <;> simp [InR, IntKind.wrap, IntKind.bits, IntKind.signed] <;> omega

/-- What a block holds. -/
inductive Blk where
  | cells (cs : Array Value)
  | map (es : Array MapEntry)

def Blk.get : Blk → Nat → Option Value
  | .cells cs, o => cs[o]?
  | .map _, _ => none

/-- The numbers that a map gives its entries rise. -/
def Stamped (es : Array MapEntry) (clock : Nat) : Prop := (es.toList.map (·.born)).Pairwise (· < ·) ∧ ∀ e ∈ es.toList, e.born < clock

def Blk.In : Blk → Option Obj → Prop
  | .cells cs, o => ∃ t fz, o = some (.cells cs t fz)
  | .map es, o => ∃ clock, o = some (.map es clock)

/-- A part of memory that is known and does not change: blocks of cells, maps. -/
abbrev PH := Nat → Option Blk
def PH.cell (p : PH) (b o : Nat) : Option Value := (p b).bind (fun cs => cs.get o)
def PH.le (p q : PH) : Prop := ∀ b cs, p b = some cs → q b = some cs
theorem PH.le.refl (p : PH) : PH.le p p := fun _ _ h => h
theorem PH.le.trans {p q r : PH} (h : PH.le p q) (k : PH.le q r) : PH.le p r := fun b cs e => k b cs (h b cs e)
theorem PH.le.cell {p q : PH} (h : PH.le p q) {b o : Nat} {v : Value} (e : p.cell b o = some v) : q.cell b o = some v := by
  unfold PH.cell at e ⊢
  cases hp : p b with
  | none => rw [hp] at e; cases e
  | some cs => rw [hp] at e; rw [h b cs hp]; exact e

/-- The cells cs are those of the elements xs, one behind the other. -/
def rowHold {α : Type} (h : α → List Value → Prop) : List α → List Value → Prop
  | [], cs => cs = []
  | x :: xs, cs => ∃ c1 c2, cs = c1 ++ c2 ∧ h x c1 ∧ rowHold h xs c2

def big : Nat := 140737488355328

def Agrees (p : PH) (w : World) : Prop := ∀ b cs, p b = some cs → cs.In w.heap[b]?

/-- The entries es are those of the map m, one behind the other. -/
def mapHold {α : Type} (k : IntKind) (h : α → Value → Prop) : List (Int × α) → List MapEntry → Prop
  | [], es => es = []
  | x :: m, es => ∃ e es', es = e :: es' ∧ e.key = .int k x.1 ∧ InR k x.1 ∧ h x.2 e.val ∧ mapHold k h m es'

def mget {α : Type} : List (Int × α) → Int → Option α
  | [], _ => none
  | x :: m, k => if x.1 = k then some x.2 else mget m k

def mput {α : Type} : List (Int × α) → Int → α → List (Int × α)
  | [], k, v => [(k, v)]
  | x :: m, k, v => if x.1 = k then (k, v) :: m else x :: mput m k v

/-- From w0 to w nothing has turned but what M lets, and new blocks. -/
structure Keep (M : Nat → Prop) (w0 w : World) : Prop where
  os : w.os = w0.os
  tape : w.tape = w0.tape
  output : w.output = w0.output
  size : w0.heap.size ≤ w.heap.size
  block : ∀ i, i < w0.heap.size → ¬ M i → w.heap[i]? = w0.heap[i]?

def PH.union (p q : PH) : PH := fun b => match p b with | some c => some c | none => q b

def callable (P : Program) (f : FuncId) : Bool :=
  match P.funcs[f]? with
  | some fn => !(fn.name == "runtime.NumGoroutine") && fn.body.isSome
  | none => false

def Ty.isPair : Ty → Bool
  | .pair _ _ => true
  | _ => false

/-- A value that is no cell of a struct: h says what its cells hold. -/
def vhold (T : Ty) (h : List Value → Prop) (v : Value) : Prop := if T.isPair = true then ∃ cs, v = .agg cs ∧ h cs.toList else h [v]

/-- The cells cs hold the datum x, in the unchanging memory p. -/
def Ty.holds : (T : Ty) → PH → T.den → List Value → Prop
  | .int k, _, n, cs => cs = [.int k n] ∧ InR k n
  | .bool, _, b, cs => cs = [.bool b]
  | .str, _, s, cs => cs = [.string ⟨s.toArray⟩] ∧ s.length ≤ big
  | .arr T, p, xs, cs => ∃ A c l, cs = [.slice A xs.length c] ∧ xs.length ≤ c ∧ xs.length * T.bytes ≤ big ∧ rowHold (T.holds p) xs l ∧
      (xs ≠ [] → ∃ b o, A = some ⟨b, o, none⟩ ∧ ∀ j u, l[j]? = some u → p.cell b (o + j) = some u)
  | .pair A B, p, x, cs => ∃ c1 c2, cs = c1 ++ c2 ∧ A.holds p x.1 c1 ∧ B.holds p x.2 c2
  | .nil, _, _, cs => cs = [.slice none 0 0]
  | .ref T, p, x, cs => ∃ b o l, cs = [.pointer (some ⟨b, o, none⟩)] ∧ T.holds p x l ∧ ∀ j u, l[j]? = some u → p.cell b (o + j) = some u
  | .fn A B, p, g, cs => ∃ f v1 v2, cs = [.func (.func f) v1 v2] ∧ callable Try.prog f = true ∧ ∀ (q : PH) (w : World) (va : Value) (x : A.den), PH.le p q → Agrees q w → vhold A (A.holds q x) va → g.1 x →
      Calls Try.prog f (v1 ++ #[va] ++ v2) w fun e w' => ∃ r q', e = .returned r ∧ Keep (fun _ => False) w w' ∧ (∀ b cs, q' b = some cs → w.heap.size ≤ b) ∧ Agrees q' w' ∧ vhold B (B.holds (q.union q') (g.2 x)) r
  | .map k V, p, m, cs => (cs = [.map none] ∧ (show List (Int × V.den) from m) = []) ∨ ∃ r es, cs = [.map (some r)] ∧ p r = some (.map es) ∧ mapHold k (fun x v => vhold V (V.holds p x) v) m es.toList

/-- What is known of the range of a datum that lies in memory. -/
def Ty.wf : (T : Ty) → T.den → Prop
  | .int k, n => InR k n
  | .bool, _ => True
  | .str, s => s.length ≤ big
  | .arr T, xs => (show List T.den from xs).length * T.bytes ≤ big ∧ ∀ x ∈ (show List T.den from xs), T.wf x
  | .pair A B, x => A.wf x.1 ∧ B.wf x.2
  | .nil, _ => True
  | .ref T, x => T.wf x
  | .fn _ _, _ => True
  | .map k V, m => ∀ x ∈ (show List (Int × V.den) from m), InR k x.1 ∧ V.wf x.2

theorem rowHold_mono {α : Type} {h k : α → List Value → Prop} (hk : ∀ x cs, h x cs → k x cs) : ∀ (xs : List α) (cs : List Value), rowHold h xs cs → rowHold k xs cs
  | [], _, e => e
  | _ :: xs, _, ⟨c1, c2, e, h1, h2⟩ => ⟨c1, c2, e, hk _ _ h1, rowHold_mono hk xs _ h2⟩

theorem mapHold_mono {α : Type} {k : IntKind} {h h' : α → Value → Prop} (hk : ∀ x v, h x v → h' x v) : ∀ (m : List (Int × α)) (es : List MapEntry), mapHold k h m es → mapHold k h' m es
  | [], _, e => e
  | _ :: m, _, ⟨e, es', e1, h1, h2, h3, h4⟩ => ⟨e, es', e1, h1, h2, hk _ _ h3, mapHold_mono hk m _ h4⟩

theorem vhold_mono {T : Ty} {h h' : List Value → Prop} (hk : ∀ cs, h cs → h' cs) {v : Value} (hv : vhold T h v) : vhold T h' v := by
  unfold vhold at hv ⊢
  split
  · rename_i hp
    rw [if_pos hp] at hv
    obtain ⟨cs, e, h1⟩ := hv
    exact ⟨cs, e, hk _ h1⟩
  · rename_i hp
    rw [if_neg hp] at hv
    exact hk _ hv

theorem Ty.holds_mono {p q : PH} (h : PH.le p q) : ∀ (T : Ty) (x : T.den) (cs : List Value), T.holds p x cs → T.holds q x cs
  | .nil, _, _, e => e
  | .ref T, _, _, ⟨b, o, l, e, hl, hc⟩ => ⟨b, o, l, e, Ty.holds_mono h T _ _ hl, fun j u hu => h.cell (hc j u hu)⟩
  | .fn _ _, _, _, ⟨f, v1, v2, e, hc, hf⟩ => ⟨f, v1, v2, e, hc, fun r w va x hr => hf r w va x (h.trans hr)⟩
  | .map _ _, _, _, .inl e => .inl e
  | .map _ V, _, _, .inr ⟨r, es, e, hp, hm⟩ => .inr ⟨r, es, e, h _ _ hp, mapHold_mono (fun x _ => vhold_mono (fun cs => Ty.holds_mono h V x cs)) _ _ hm⟩
  | .int _, _, _, e => e
  | .bool, _, _, e => e
  | .str, _, _, e => e
  | .arr T, _, _, ⟨A, c, l, e, hc, hb, hr, hp⟩ => ⟨A, c, l, e, hc, hb, rowHold_mono (fun x cs => Ty.holds_mono h T x cs) _ _ hr, fun hne => by
      obtain ⟨b, o, ha, hcell⟩ := hp hne
      exact ⟨b, o, ha, fun j u hu => h.cell (hcell j u hu)⟩⟩
  | .pair A B, _, _, ⟨c1, c2, e, h1, h2⟩ => ⟨c1, c2, e, Ty.holds_mono h A _ _ h1, Ty.holds_mono h B _ _ h2⟩

theorem rowHold_length {α : Type} {h : α → List Value → Prop} {n : Nat} (hn : ∀ x cs, h x cs → cs.length = n) : ∀ (xs : List α) (cs : List Value), rowHold h xs cs → cs.length = xs.length * n
  | [], _, e => by simp [rowHold] at e; simp [e]
  | _ :: xs, _, ⟨c1, c2, e, h1, h2⟩ => by
    rw [e, List.length_append, hn _ _ h1, rowHold_length hn xs _ h2, List.length_cons, Nat.succ_mul]; omega

theorem Ty.holds_length {p : PH} : ∀ (T : Ty) (x : T.den) (cs : List Value), T.holds p x cs → cs.length = T.size
  | .nil, _, _, e => by simp only [Ty.holds] at e; rw [e]; rfl
  | .ref _, _, _, ⟨_, _, _, e, _⟩ => by rw [e]; rfl
  | .fn _ _, _, _, ⟨_, _, _, e, _⟩ => by rw [e]; rfl
  | .map _ _, _, _, .inl e => by rw [e.1]; rfl
  | .map _ _, _, _, .inr ⟨_, _, e, _⟩ => by rw [e]; rfl
  | .int _, _, _, e => by rw [e.1]; rfl
  | .bool, _, _, e => by simp only [Ty.holds] at e; rw [e]; rfl
  | .str, _, _, e => by rw [e.1]; rfl
  | .arr _, _, _, ⟨_, _, _, e, _⟩ => by rw [e]; rfl
  | .pair A B, _, _, ⟨c1, c2, e, h1, h2⟩ => by
    rw [e, List.length_append, Ty.holds_length A _ _ h1, Ty.holds_length B _ _ h2]; rfl

theorem Ty.size_pos : ∀ T : Ty, 0 < T.size
  | .int _ => by simp [Ty.size]
  | .bool => by simp [Ty.size]
  | .str => by simp [Ty.size]
  | .arr _ => by simp [Ty.size]
  | .nil => by simp [Ty.size]
  | .ref _ => by simp [Ty.size]
  | .fn _ _ => by simp [Ty.size]
  | .map _ _ => by simp [Ty.size]
  | .pair A B => by have := Ty.size_pos A; simp [Ty.size]; omega

theorem rowHold_wf {α : Type} {h : α → List Value → Prop} {k : α → Prop} (hk : ∀ x cs, h x cs → k x) : ∀ (xs : List α) (cs : List Value), rowHold h xs cs → ∀ x ∈ xs, k x
  | [], _, _ => by simp
  | y :: xs, _, ⟨c1, c2, _, h1, h2⟩ => by
    intro x hx
    rcases List.mem_cons.1 hx with rfl | hx
    · exact hk _ _ h1
    · exact rowHold_wf hk xs _ h2 x hx

theorem mapHold_wf {α : Type} {k : IntKind} {h : α → Value → Prop} {r : α → Prop} (hk : ∀ x v, h x v → r x) : ∀ (m : List (Int × α)) (es : List MapEntry), mapHold k h m es → ∀ x ∈ m, InR k x.1 ∧ r x.2
  | [], _, _ => by simp
  | y :: m, _, ⟨_, es', _, _, h2, h3, h4⟩ => by
    intro x hx
    rcases List.mem_cons.1 hx with rfl | hx
    · exact ⟨h2, hk _ _ h3⟩
    · exact mapHold_wf hk m es' h4 x hx

theorem vhold_imp {T : Ty} {h : List Value → Prop} {r : Prop} (hk : ∀ cs, h cs → r) {v : Value} (hv : vhold T h v) : r := by
  unfold vhold at hv
  split at hv
  · obtain ⟨cs, _, h1⟩ := hv
    exact hk _ h1
  · exact hk _ hv

theorem Ty.holds_wf {p : PH} : ∀ (T : Ty) (x : T.den) (cs : List Value), T.holds p x cs → T.wf x
  | .int _, _, _, e => e.2
  | .bool, _, _, _ => trivial
  | .str, _, _, e => e.2
  | .arr T, _, _, ⟨_, _, _, _, _, hb, hr, _⟩ => ⟨hb, rowHold_wf (fun x cs => Ty.holds_wf T x cs) _ _ hr⟩
  | .pair A B, _, _, ⟨_, _, _, h1, h2⟩ => ⟨Ty.holds_wf A _ _ h1, Ty.holds_wf B _ _ h2⟩
  | .nil, _, _, _ => trivial
  | .ref T, _, _, ⟨_, _, _, _, h, _⟩ => Ty.holds_wf T _ _ h
  | .fn _ _, _, _, _ => trivial
  | .map _ V, m, _, .inl e => by
    have : (show List (Int × V.den) from m) = [] := e.2
    intro x hx
    rw [this] at hx
    cases hx
  | .map _ V, _, _, .inr ⟨_, _, _, _, hm⟩ => mapHold_wf (fun x _ h => vhold_imp (fun cs => Ty.holds_wf V x cs) h) _ _ hm

/-- The cells of element number j. -/
theorem rowHold_get {α : Type} {h : α → List Value → Prop} {n : Nat} (hn : ∀ x cs, h x cs → cs.length = n) : ∀ (xs : List α) (cs : List Value), rowHold h xs cs →
    ∀ (j : Nat) (x : α), xs[j]? = some x → h x ((cs.drop (j * n)).take n)
  | [], _, _ => by intro j x hx; simp at hx
  | y :: xs, cs, ⟨c1, c2, e, h1, h2⟩ => by
    intro j x hx
    have l1 := hn _ _ h1
    match j with
    | 0 =>
      simp at hx
      subst hx
      rw [e]
      simp only [Nat.zero_mul, List.drop_zero]
      rw [List.take_append_of_le_length (by omega), List.take_of_length_le (by omega)]
      exact h1
    | j + 1 =>
      simp at hx
      have := rowHold_get hn xs c2 h2 j x hx
      rw [e]
      have e2 : (c1 ++ c2).drop ((j + 1) * n) = c2.drop (j * n) := by
        rw [Nat.succ_mul, List.drop_append, List.drop_of_length_le (by omega)]
        simp only [List.nil_append]
        congr 1
        omega
      rw [e2]
      exact this

theorem rowHold_append {α : Type} {h : α → List Value → Prop} : ∀ (xs ys : List α) (cs ds : List Value), rowHold h xs cs → rowHold h ys ds → rowHold h (xs ++ ys) (cs ++ ds)
  | [], ys, cs, ds, h1, h2 => by simp only [rowHold] at h1; subst h1; exact h2
  | x :: xs, ys, cs, ds, ⟨c1, c2, e, hx, hxs⟩, h2 => ⟨c1, c2 ++ ds, by rw [e, List.append_assoc], hx, rowHold_append xs ys c2 ds hxs h2⟩

/-- Abstract values. -/
inductive AV where
  | any
  | int (k : IntKind) (n : Int)
  | bool (b : Bool)
  | str (s : List UInt8)
  | nils
  | sl (T : Ty) (xs : List T.den)
  | own (d : Nat)
  | pair (a b : AV)
  | tup (a b : AV)
  | tnil
  | loc (d off : Nat)
  | pt (T : Ty) (x : T.den) (off : Nat)
  | el (d : Nat) (T : Ty) (i : Nat) (off : Nat)
  | fn (f : Nat) (c1 c2 : List (Nat × Nat))
  | mp (d : Nat)
  | gd (g : Nat) (w : Bool) (a : AV)
  | bl (t f : Prop)
  | osl (d : Nat) (T : Ty) (i n : Nat)
  | fd (A B : Ty) (g : (A.den → Prop) × (A.den → B.den))
  | md (k : IntKind) (V : Ty) (m : List (Int × V.den))
  | nilm

/-- What is known of a block of the call's own. -/
inductive LE where
  | cells (c : AV)
  | row (e : TypeId) (T : Ty) (xs : List T.den)
  | froz (T : Ty) (xs : List T.den)
  | mapp (k : IntKind) (V : Ty) (m : List (Int × V.den))
  | frozm (k : IntKind) (V : Ty) (m : List (Int × V.den))
  | dead
  /-- the frame of a caller whose call is walked through: its slots, what is known of them -/
  | frame (tm : Array Value) (env : Nat → AV)

def LE.live : LE → Bool
  | .cells _ => true
  | .row .. => true
  | .mapp .. => true
  | _ => false

def AV.app : AV → AV → AV
  | .pair a b, c => .pair a (b.app c)
  | a, c => .pair a c

def AV.len : AV → Nat
  | .pair _ b => 1 + b.len
  | _ => 1

def AV.drop : Nat → AV → AV
  | 0, a => a
  | n + 1, .pair _ b => b.drop n
  | _ + 1, _ => .any

def AV.take : Nat → AV → AV
  | 0, _ => .any
  | 1, .pair a _ => a
  | 1, a => a
  | n + 2, .pair a b => .pair a (b.take (n + 1))
  | _ + 2, _ => .any

/-- The content a, its cells from off on taken by those of v (n cells). -/
def AV.put : Nat → AV → Nat → AV → AV
  | 0, v, n, a => if Nat.beq a.len n then v else v.app (a.drop n)
  | off + 1, v, n, .pair a b => .pair a (AV.put off v n b)
  | _ + 1, _, _, _ => .any

def Ty.av : (T : Ty) → T.den → AV
  | .int k, n => .int k n
  | .bool, b => .bool b
  | .str, s => .str s
  | .arr T, xs => .sl T xs
  | .pair A B, x => (A.av x.1).app (B.av x.2)
  | .nil, _ => .nils
  | .ref T, x => .pt T x 0
  | .fn A B, g => .fd A B g
  | .map k V, m => .md k V m

def blkOf : Value → Option Nat
  | .pointer (some a) => some a.block
  | .slice (some a) _ _ => some a.block
  | .map (some r) => some r
  | _ => none

def locsHold (β : Nat → Value) : List (Nat × Nat) → List Value → Prop
  | [], vs => vs = []
  | (d, off) :: c, vs => ∃ b rest, vs = .pointer (some ⟨b, off, none⟩) :: rest ∧ β d = .pointer (some ⟨b, 0, none⟩) ∧ locsHold β c rest

/-- One cell holds a leaf. -/
def AV.one (p : PH) (β : Nat → Value) : AV → Value → Prop
  | .any, _ => True
  | .int k n, v => v = .int k n ∧ InR k n
  | .bool b, v => v = .bool b
  | .str s, v => v = .string ⟨s.toArray⟩ ∧ s.length ≤ big
  | .nils, v => v = .slice none 0 0
  | .sl T xs, v => (Ty.arr T).holds p xs [v]
  | .own d, v => v = β d
  | .loc d off, v => ∃ b, β d = .pointer (some ⟨b, 0, none⟩) ∧ v = .pointer (some ⟨b, off, none⟩)
  | .pt T x off, v => ∃ b o es, v = .pointer (some ⟨b, o + off, none⟩) ∧ T.holds p x es ∧ ∀ j u, es[j]? = some u → p.cell b (o + j) = some u
  | .el d T i off, v => ∃ b n c, β d = .slice (some ⟨b, 0, none⟩) n c ∧ v = .pointer (some ⟨b, i * T.size + off, none⟩)
  | .fn f c1 c2, v => ∃ v1 v2, v = .func (.func f) v1 v2 ∧ locsHold β c1 v1.toList ∧ locsHold β c2 v2.toList
  | .mp d, v => v = β d
  | .bl t f, v => ∃ b, v = .bool b ∧ (b = true → t) ∧ (b = false → f)
  | .osl d T i n, v => (∃ b m c c', β d = .slice (some ⟨b, 0, none⟩) m c ∧ v = .slice (some ⟨b, i * T.size, none⟩) n c') ∨ (n = 0 ∧ ∃ A c, v = .slice A 0 c)
  | .fd A B g, v => (Ty.fn A B).holds p g [v]
  | .md k V m, v => (Ty.map k V).holds p m [v]
  | .nilm, v => v = .map none
  | _, _ => False

/-- The cells of a box, a struct, a row hold an abstract value. -/
def AV.cells (p : PH) (β : Nat → Value) : AV → List Value → Prop
  | .pair a b, v :: cs => a.one p β v ∧ b.cells p β cs
  | .pair _ _, [] => False
  | a, [v] => a.one p β v
  | _, _ => False

/-- A value that is no tuple. -/
def AV.val1 (p : PH) (β : Nat → Value) : AV → Value → Prop
  | .pair a b, v => ∃ cs, v = .agg cs ∧ (AV.pair a b).cells p β cs.toList
  | a, v => a.one p β v

def AV.vals (p : PH) (β : Nat → Value) : AV → List Value → Prop
  | .tup a b, v :: vs => a.val1 p β v ∧ b.vals p β vs
  | .tnil, [] => True
  | _, _ => False

/-- What lies in a slot. tm: the slots (for what only a guard's truth tells). -/
def AV.val (p : PH) (β : Nat → Value) (tm : Array Value) : AV → Value → Prop
  | .tup a b, v => ∃ vs, v = .tuple vs.toArray ∧ (AV.tup a b).vals p β vs
  | .tnil, v => v = .tuple #[]
  | .gd g w a, v => (tm.getD g undef = .bool w ∧ a.val p β tm v) ∨ (tm.getD g undef ≠ .bool w ∧ v = undef)
  | a, v => a.val1 p β v

/-- Block d (its own name) holds what the entry says. -/
def LE.sat (p : PH) (β : Nat → Value) (w : World) (d : Nat) : LE → Prop
  | .cells c => ∃ b cs t, β d = .pointer (some ⟨b, 0, none⟩) ∧ w.heap[b]? = some (.cells cs t (0, 0)) ∧ c.cells p β cs.toList
  | .row e T xs => ∃ l, w.ownsRow 0 e T.size (β d) xs.length l ∧ rowHold (T.holds p) xs l ∧ xs.length * T.bytes ≤ big
  | .froz T xs => (Ty.arr T).holds p xs [β d]
  | .mapp k V m => ∃ r es clock, β d = .map (some r) ∧ w.heap[r]? = some (.map es clock) ∧ Stamped es clock ∧ mapHold k (fun x v => vhold V (V.holds p x) v) m es.toList
  | .frozm k V m => (Ty.map k V).holds p m [β d]
  | .dead => True
  | .frame tm env => ∀ s, (env s).val p β tm (tm.getD s undef)

/-- An abstract state: slots, blocks of one's own, how many slots there are, which blocks a loop's rounds leave alone. -/
structure St where
  env : Nat → AV
  lh : Nat → Option LE
  n : Nat
  lock : Nat → Bool

structure SatB (M : Nat → Prop) (p0 : PH) (w0 : World) (S : St) (tm : Array Value) (w : World) (p : PH) (β : Nat → Value) : Prop where
  keep : Keep M w0 w
  agr : Agrees p w
  old : ∀ b cs, p b = some cs → w0.heap.size ≤ b ∨ M b ∨ p0 b = some cs
  size : tm.size = S.n
  lhs : ∀ d e, S.lh d = some e → e.sat p β w d
  owns : ∀ d e b, S.lh d = some e → e.live = true → blkOf (β d) = some b → (M b ∨ w0.heap.size ≤ b) ∧ p b = none
  inj : ∀ d d' e e' b, S.lh d = some e → e.live = true → S.lh d' = some e' → e'.live = true → blkOf (β d) = some b → blkOf (β d') = some b → d = d'
  env : ∀ s, (S.env s).val p β tm (tm.getD s undef)

def Sat (M : Nat → Prop) (p0 : PH) (w0 : World) (S : St) (tm : Array Value) (w : World) : Prop := ∃ p β, SatB M p0 w0 S tm w p β
end Go.Proofs.Ytgnamdjmjkeodaa
