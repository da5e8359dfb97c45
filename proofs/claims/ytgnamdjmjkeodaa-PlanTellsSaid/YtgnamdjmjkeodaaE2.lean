/- The engine, part 2: how the description of a frame and a world is handed on over writes to slots, new blocks, stores. -/
import Derived.Test.YtgnamdjmjkeodaaE1
namespace Go.Proofs.Ytgnamdjmjkeodaa
open Go

theorem AV.one_mono {p q : PH} (h : PH.le p q) {β : Nat → Value} : ∀ (a : AV) (v : Value), a.one p β v → a.one q β v := by
  intro a v ha
  cases a <;> simp only [AV.one] at ha ⊢ <;> try exact ha
  · exact Ty.holds_mono h _ _ _ ha
  · obtain ⟨b, o, es, e1, e2, e3⟩ := ha
    exact ⟨b, o, es, e1, Ty.holds_mono h _ _ _ e2, fun j u hu => h.cell (e3 j u hu)⟩
  · exact Ty.holds_mono h _ _ _ ha
  · exact Ty.holds_mono h _ _ _ ha

theorem AV.cells_mono {p q : PH} (h : PH.le p q) {β : Nat → Value} : ∀ (a : AV) (cs : List Value), a.cells p β cs → a.cells q β cs
  | .pair _ _, [] => fun h' => h'.elim
  | .pair a b, v :: cs => fun h' => ⟨AV.one_mono h a v h'.1, AV.cells_mono h b cs h'.2⟩
  | .any, [v] => AV.one_mono h _ v | .int .., [v] => AV.one_mono h _ v | .bool _, [v] => AV.one_mono h _ v | .str _, [v] => AV.one_mono h _ v | .nils, [v] => AV.one_mono h _ v
  | .sl .., [v] => AV.one_mono h _ v | .own _, [v] => AV.one_mono h _ v | .tup .., [v] => AV.one_mono h _ v | .tnil, [v] => AV.one_mono h _ v | .loc .., [v] => AV.one_mono h _ v
  | .pt .., [v] => AV.one_mono h _ v | .el .., [v] => AV.one_mono h _ v | .fn .., [v] => AV.one_mono h _ v | .mp _, [v] => AV.one_mono h _ v | .gd .., [v] => AV.one_mono h _ v | .bl .., [v] => AV.one_mono h _ v | .fd .., [v] => AV.one_mono h _ v | .osl .., [v] => AV.one_mono h _ v | .md .., [v] => AV.one_mono h _ v | .nilm, [v] => AV.one_mono h _ v
  | .any, [] | .int .., [] | .bool _, [] | .str _, [] | .nils, [] | .sl .., [] | .own _, [] | .tup .., [] | .tnil, [] | .loc .., [] | .pt .., [] | .el .., [] | .fn .., [] | .mp _, [] | .gd .., [] | .bl .., [] | .fd .., [] | .osl .., [] | .md .., [] | .nilm, [] => fun h' => h'
  | .any, _ :: _ :: _ | .int .., _ :: _ :: _ | .bool _, _ :: _ :: _ | .str _, _ :: _ :: _ | .nils, _ :: _ :: _ | .sl .., _ :: _ :: _ | .own _, _ :: _ :: _ | .tup .., _ :: _ :: _ | .tnil, _ :: _ :: _
  | .loc .., _ :: _ :: _ | .pt .., _ :: _ :: _ | .el .., _ :: _ :: _ | .fn .., _ :: _ :: _ | .mp _, _ :: _ :: _ | .gd .., _ :: _ :: _ | .bl .., _ :: _ :: _ | .fd .., _ :: _ :: _ | .osl .., _ :: _ :: _ | .md .., _ :: _ :: _ | .nilm, _ :: _ :: _ => fun h' => h'

theorem AV.val1_mono {p q : PH} (h : PH.le p q) {β : Nat → Value} (a : AV) (v : Value) (ha : a.val1 p β v) : a.val1 q β v := by
  cases a <;> simp only [AV.val1] at ha ⊢ <;> try exact AV.one_mono h _ v ha
  obtain ⟨cs, e, hc⟩ := ha
  exact ⟨cs, e, AV.cells_mono h _ _ hc⟩

theorem AV.vals_mono {p q : PH} (h : PH.le p q) {β : Nat → Value} : ∀ (a : AV) (vs : List Value), a.vals p β vs → a.vals q β vs
  | .tup a b, v :: vs => fun h' => ⟨AV.val1_mono h a v h'.1, AV.vals_mono h b vs h'.2⟩
  | .tup _ _, [] => fun h' => h'
  | .tnil, [] => fun h' => h'
  | .tnil, _ :: _ => fun h' => h'
  | .any, _ | .int .., _ | .bool _, _ | .str _, _ | .nils, _ | .sl .., _ | .own _, _ | .pair .., _ | .loc .., _ | .pt .., _ | .el .., _ | .fn .., _ | .mp _, _ | .gd .., _ | .bl .., _ | .fd .., _ | .osl .., _ | .md .., _ | .nilm, _ => fun h' => by simp [AV.vals] at h'

theorem AV.val_mono {p q : PH} (h : PH.le p q) {β : Nat → Value} {tm : Array Value} : ∀ (a : AV) (v : Value), a.val p β tm v → a.val q β tm v := by
  intro a v ha
  induction a generalizing v with
  | gd g w a ih =>
    simp only [AV.val] at ha ⊢
    rcases ha with ⟨e, ha⟩ | ha
    · exact .inl ⟨e, ih v ha⟩
    · exact .inr ha
  | tup a b =>
    simp only [AV.val] at ha ⊢
    obtain ⟨vs, e, hv⟩ := ha
    exact ⟨vs, e, AV.vals_mono h _ _ hv⟩
  | _ => simp only [AV.val] at ha ⊢ <;> first | exact AV.val1_mono h _ v ha | exact ha

/-- What names a block on the list 'bad' is forgotten. -/
def AV.scrub (bad : Nat → Bool) : AV → AV
  | .own d => bif bad d then .any else .own d
  | .loc d off => bif bad d then .any else .loc d off
  | .el d T i off => bif bad d then .any else .el d T i off
  | .mp d => bif bad d then .any else .mp d
  | .fn f c1 c2 => bif (c1.any fun x => bad x.1) || (c2.any fun x => bad x.1) then .any else .fn f c1 c2
  | .pair a b => .pair (a.scrub bad) (b.scrub bad)
  | .tup a b => .tup (a.scrub bad) (b.scrub bad)
  | .gd g w a => .gd g w (a.scrub bad)
  | .any => .any
  | .int k n => .int k n
  | .bool b => .bool b
  | .str s => .str s
  | .nils => .nils
  | .sl T xs => .sl T xs
  | .tnil => .tnil
  | .pt T x off => .pt T x off
  | .bl t f => .bl t f
  | .fd A B g => .fd A B g
  | .osl d T i n => bif bad d then .any else .osl d T i n
  | .md k V m => .md k V m
  | .nilm => .nilm

def LE.scrub (bad : Nat → Bool) : LE → LE
  | .cells c => .cells (c.scrub bad)
  | .row e T xs => .row e T xs
  | .froz T xs => .froz T xs
  | .mapp k V m => .mapp k V m
  | .frozm k V m => .frozm k V m
  | .dead => .dead
  | .frame tm env => .frame tm (fun s => (env s).scrub bad)

theorem locsHold_scrub {bad : Nat → Bool} {β β' : Nat → Value} (h : ∀ d, bad d = false → β' d = β d) : ∀ (c : List (Nat × Nat)) (vs : List Value), (c.any fun x => bad x.1) = false → locsHold β c vs → locsHold β' c vs
  | [], _, _, h' => h'
  | (d, off) :: c, _, hb, ⟨b, rest, e, hd, hr⟩ => by
    simp only [List.any_cons, Bool.or_eq_false_iff] at hb
    exact ⟨b, rest, e, (h d hb.1).trans hd, locsHold_scrub h c rest hb.2 hr⟩

theorem AV.one_scrub {p : PH} {bad : Nat → Bool} {β β' : Nat → Value} (h : ∀ d, bad d = false → β' d = β d) (a : AV) (v : Value) (ha : a.one p β v) : (a.scrub bad).one p β' v := by
  cases a <;> simp only [AV.scrub] <;> try (simp only [AV.one] at ha ⊢ <;> exact ha)
  case own d => cases hb : bad d <;> simp only [cond_true, cond_false, AV.one] at ha ⊢; exact ha.trans (h d hb).symm
  case loc d off => cases hb : bad d <;> simp only [cond_true, cond_false, AV.one] at ha ⊢; obtain ⟨b, e, e2⟩ := ha; exact ⟨b, (h d hb).trans e, e2⟩
  case el d T i off => cases hb : bad d <;> simp only [cond_true, cond_false, AV.one] at ha ⊢; obtain ⟨b, n, c, e, e2⟩ := ha; exact ⟨b, n, c, (h d hb).trans e, e2⟩
  case osl d T i n =>
    cases hb : bad d <;> simp only [cond_true, cond_false, AV.one] at ha ⊢
    rcases ha with ⟨b, m, c, c', e, e2⟩ | ha
    · exact .inl ⟨b, m, c, c', (h d hb).trans e, e2⟩
    · exact .inr ha
  case mp d => cases hb : bad d <;> simp only [cond_true, cond_false, AV.one] at ha ⊢; exact ha.trans (h d hb).symm
  case fn f c1 c2 =>
    cases hb : (c1.any fun x => bad x.1) || (c2.any fun x => bad x.1) <;> simp only [cond_true, cond_false, AV.one] at ha ⊢
    simp only [Bool.or_eq_false_iff] at hb
    obtain ⟨v1, v2, e, h1, h2⟩ := ha
    exact ⟨v1, v2, e, locsHold_scrub h _ _ hb.1 h1, locsHold_scrub h _ _ hb.2 h2⟩

theorem AV.cells_leaf {p : PH} {β : Nat → Value} (a : AV) (hp : ∀ x y, a ≠ .pair x y) (cs : List Value) : a.cells p β cs ↔ ∃ v, cs = [v] ∧ a.one p β v := by
  constructor
  · intro h
    cases a <;> (first | exact absurd rfl (hp _ _) | skip) <;> (match cs, h with | [v], h => exact ⟨v, rfl, h⟩)
  · rintro ⟨v, rfl, h⟩
    cases a <;> (first | exact absurd rfl (hp _ _) | exact h)

theorem AV.scrub_pair {bad : Nat → Bool} (a : AV) (hp : ∀ x y, a ≠ .pair x y) : ∀ x y, a.scrub bad ≠ .pair x y := by
  intro x y e
  cases a <;> simp only [AV.scrub] at e <;> first | (exact absurd rfl (hp _ _)) | cases e | (revert e; cases bad _ <;> intro e <;> cases e) | (revert e; cases (_ || _) <;> intro e <;> cases e)

theorem AV.cells_scrub {p : PH} {bad : Nat → Bool} {β β' : Nat → Value} (h : ∀ d, bad d = false → β' d = β d) : ∀ (a : AV) (cs : List Value), a.cells p β cs → (a.scrub bad).cells p β' cs := by
  intro a
  induction a with
  | pair a b _ ih2 =>
    intro cs hc
    match cs, hc with
    | v :: cs, hc => exact ⟨AV.one_scrub h a v hc.1, ih2 cs hc.2⟩
  | _ =>
    intro cs hc
    obtain ⟨v, e, hv⟩ := (AV.cells_leaf _ (by intro x y e; cases e) cs).1 hc
    exact (AV.cells_leaf _ (AV.scrub_pair _ (by intro x y e; cases e)) cs).2 ⟨v, e, AV.one_scrub h _ v hv⟩

theorem AV.val1_leaf {p : PH} {β : Nat → Value} (a : AV) (hp : ∀ x y, a ≠ .pair x y) (v : Value) : a.val1 p β v ↔ a.one p β v := by
  cases a <;> (first | exact absurd rfl (hp _ _) | exact Iff.rfl)

theorem AV.val1_scrub {p : PH} {bad : Nat → Bool} {β β' : Nat → Value} (h : ∀ d, bad d = false → β' d = β d) (a : AV) (v : Value) (ha : a.val1 p β v) : (a.scrub bad).val1 p β' v := by
  by_cases hp : ∀ x y, a ≠ .pair x y
  · exact (AV.val1_leaf _ (AV.scrub_pair a hp) v).2 (AV.one_scrub h a v ((AV.val1_leaf a hp v).1 ha))
  · cases a <;> (first | (exfalso; apply hp; intro x y e; cases e; done) | skip)
    obtain ⟨cs, e, hc⟩ := ha
    exact ⟨cs, e, AV.cells_scrub h _ _ hc⟩

theorem AV.vals_scrub {p : PH} {bad : Nat → Bool} {β β' : Nat → Value} (h : ∀ d, bad d = false → β' d = β d) : ∀ (a : AV) (vs : List Value), a.vals p β vs → (a.scrub bad).vals p β' vs := by
  intro a
  induction a with
  | tup a b _ ih2 =>
    intro vs hv
    match vs, hv with
    | v :: vs, hv => exact ⟨AV.val1_scrub h a v hv.1, ih2 vs hv.2⟩
  | tnil => intro vs hv; cases vs <;> exact hv
  | _ => intro vs hv; simp [AV.vals] at hv

theorem AV.val_leaf {p : PH} {β : Nat → Value} {tm : Array Value} (a : AV) (h1 : ∀ x y, a ≠ .tup x y) (h2 : a ≠ .tnil) (h3 : ∀ g w x, a ≠ .gd g w x) (v : Value) : a.val p β tm v ↔ a.val1 p β v := by
  cases a <;> first | exact absurd rfl (h1 _ _) | exact absurd rfl h2 | exact absurd rfl (h3 _ _ _) | exact Iff.rfl

theorem AV.val_scrub {p : PH} {bad : Nat → Bool} {β β' : Nat → Value} {tm : Array Value} (h : ∀ d, bad d = false → β' d = β d) : ∀ (a : AV) (v : Value), a.val p β tm v → (a.scrub bad).val p β' tm v := by
  intro a
  induction a with
  | gd g w a ih =>
    intro v ha
    rcases ha with ⟨e, ha⟩ | ha
    · exact .inl ⟨e, ih v ha⟩
    · exact .inr ha
  | tup a b =>
    intro v ha
    obtain ⟨vs, e, hv⟩ := ha
    exact ⟨vs, e, AV.vals_scrub h _ _ hv⟩
  | tnil => intro v ha; exact ha
  | pair a b => intro v ha; exact AV.val1_scrub h _ v ha
  | _ =>
    intro v ha
    have hs := AV.val1_scrub h _ v ha
    simp only [AV.scrub] at hs ⊢
    first
      | exact hs
      | (revert hs; cases bad _ <;> exact fun hs => hs)
      | (revert hs; cases (_ || _) <;> exact fun hs => hs)

theorem LE.sat_scrub {p : PH} {bad : Nat → Bool} {β β' : Nat → Value} {w : World} (h : ∀ d, bad d = false → β' d = β d) (d : Nat) (hd : bad d = false) (e : LE) (he : e.sat p β w d) : (e.scrub bad).sat p β' w d := by
  cases e with
  | cells c => obtain ⟨b, cs, t, e1, e2, e3⟩ := he; exact ⟨b, cs, t, (h d hd).trans e1, e2, AV.cells_scrub h _ _ e3⟩
  | row e T xs => simpa only [LE.scrub, LE.sat, h d hd] using he
  | froz T xs => simpa only [LE.scrub, LE.sat, h d hd] using he
  | mapp k V m => simpa only [LE.scrub, LE.sat, h d hd] using he
  | frozm k V m => simpa only [LE.scrub, LE.sat, h d hd] using he
  | dead => trivial
  | frame tm env => exact fun s => AV.val_scrub h _ _ (he s)

/-- What hangs on slot d is forgotten. -/
def AV.killG (d : Nat) : AV → AV
  | .gd g w a => bif Nat.beq g d then .any else .gd g w (a.killG d)
  | a => a

theorem AV.val_killG {p : PH} {β : Nat → Value} {tm : Array Value} {d : Nat} {x : Value} : ∀ (a : AV) (v : Value), a.val p β tm v → (a.killG d).val p β (tm.setIfInBounds d x) v := by
  intro a
  induction a with
  | gd g w a ih =>
    intro v ha
    simp only [AV.killG]
    cases hb : Nat.beq g d
    · have hne : d ≠ g := by intro e; subst e; simp at hb
      have e : (tm.setIfInBounds d x).getD g undef = tm.getD g undef := by simp [Array.getElem?_setIfInBounds_ne hne]
      simp only [cond_false, AV.val, e]
      rcases ha with ⟨e, ha⟩ | ha
      · exact .inl ⟨e, ih v ha⟩
      · exact .inr ha
    · trivial
  | _ => intro v ha; exact ha

def St.set (S : St) (d : Nat) (a : AV) : St := { S with env := fun s => bif Nat.beq s d then a else (S.env s).killG d }

theorem getD_setIfInBounds_ne {tm : Array Value} {d s : Nat} {x : Value} (h : s ≠ d) : (tm.setIfInBounds d x).getD s undef = tm.getD s undef := by
  simp [Array.getElem?_setIfInBounds_ne (Ne.symm h)]

theorem getD_setIfInBounds_eq {tm : Array Value} {d : Nat} {x : Value} (h : d < tm.size) : (tm.setIfInBounds d x).getD d undef = x := by
  simp [h]

section
variable {M : Nat → Prop} {p0 : PH} {w0 : World} {S : St} {tm : Array Value} {w : World} {p : PH} {β : Nat → Value}

theorem SatB.set (h : SatB M p0 w0 S tm w p β) {d : Nat} {x : Value} {a : AV} (hd : d < S.n) (ha : a.val p β (tm.setIfInBounds d x) x) : SatB M p0 w0 (S.set d a) (tm.setIfInBounds d x) w p β where
  keep := h.keep
  agr := h.agr
  old := h.old
  size := by simpa [St.set] using h.size
  lhs := h.lhs
  owns := h.owns
  inj := h.inj
  env := by
    intro s
    by_cases e : s = d
    · subst e
      rw [getD_setIfInBounds_eq (by rw [h.size]; exact hd)]
      simpa [St.set] using ha
    · rw [getD_setIfInBounds_ne e]
      have hb : Nat.beq s d = false := by
        cases hb : Nat.beq s d
        · rfl
        · exact absurd (Nat.eq_of_beq_eq_true hb) e
      simp only [St.set, hb, cond_false]
      exact AV.val_killG _ _ (h.env s)

theorem ownsRow_same {w w' : World} {base : Nat} {e : TypeId} {size n : Nat} {v : Value} {l : List Value} (h : w.ownsRow base e size v n l) (hb : ∀ b, blkOf v = some b → w'.heap[b]? = w.heap[b]?) : w'.ownsRow base e size v n l := by
  refine ⟨h.1, ?_⟩
  rcases h.2 with h | ⟨g, cap, cur, rfl, h1, h2, h3⟩
  · exact .inl h
  · exact .inr ⟨g, cap, cur, rfl, h1, (hb g rfl).trans h2, h3⟩

theorem LE.sat_world {w' : World} (d : Nat) (e : LE) (he : e.sat p β w d) (hb : ∀ b, e.live = true → blkOf (β d) = some b → w'.heap[b]? = w.heap[b]?) : e.sat p β w' d := by
  cases e with
  | cells c => obtain ⟨b, cs, t, e1, e2, e3⟩ := he; exact ⟨b, cs, t, e1, (hb b rfl (by rw [e1]; rfl)).trans e2, e3⟩
  | row e T xs => obtain ⟨l, h1, h2, h3⟩ := he; exact ⟨l, ownsRow_same h1 (fun b hbb => hb b rfl hbb), h2, h3⟩
  | froz T xs => exact he
  | mapp k V m => obtain ⟨r, es, clock, e1, e2, e3⟩ := he; exact ⟨r, es, clock, e1, (hb r rfl (by rw [e1]; rfl)).trans e2, e3⟩
  | frozm k V m => exact he
  | dead => trivial
  | frame tm env => exact he

theorem LE.sat_lt (d : Nat) (e : LE) (hl : e.live = true) (he : e.sat p β w d) {b : Nat} (hb : blkOf (β d) = some b) : b < w.heap.size := by
  cases e with
  | cells c =>
    obtain ⟨b', cs, t, e1, e2, e3⟩ := he
    rw [e1] at hb
    injection hb with hb
    subst hb
    exact (Array.getElem?_eq_some_iff.1 e2).1
  | row e T xs =>
    obtain ⟨l, h1, h2, h3⟩ := he
    rcases h1.2 with ⟨e1, _⟩ | ⟨g, cap, cur, e1, _, h5, _⟩
    · rw [e1] at hb; cases hb
    · rw [e1] at hb
      injection hb with hb
      subst hb
      exact (Array.getElem?_eq_some_iff.1 h5).1
  | mapp k V m =>
    obtain ⟨r, es, clock, e1, e2, _⟩ := he
    rw [e1] at hb
    injection hb with hb
    subst hb
    exact (Array.getElem?_eq_some_iff.1 e2).1
  | froz T xs => cases hl
  | frozm k V m => cases hl
  | dead => cases hl
  | frame tm env => cases hl

theorem Agrees.lt (h : Agrees p w) {b : Nat} {cs : Blk} (hb : p b = some cs) : b < w.heap.size := by
  have h1 := h b cs hb
  cases cs with
  | cells cs => obtain ⟨t, fz, e⟩ := h1; exact (Array.getElem?_eq_some_iff.1 e).1
  | map es => obtain ⟨c, e⟩ := h1; exact (Array.getElem?_eq_some_iff.1 e).1

theorem Keep.trans_grow {w' : World} (h : Keep M w0 w) (ho : w'.os = w.os) (ht : w'.tape = w.tape) (hp : w'.output = w.output) (hs : w.heap.size ≤ w'.heap.size)
    (hb : ∀ b, b < w.heap.size → ¬ M b → b < w0.heap.size → w'.heap[b]? = w.heap[b]?) : Keep M w0 w' :=
  ⟨ho.trans h.os, ht.trans h.tape, hp.trans h.output, Nat.le_trans h.size hs, fun i hi hm => (hb i (Nat.lt_of_lt_of_le hi h.size) hm hi).trans (h.block i hi hm)⟩

/-- A world that only has more blocks. -/
theorem SatB.grow (h : SatB M p0 w0 S tm w p β) {w' : World} (ho : w'.os = w.os) (ht : w'.tape = w.tape) (hp : w'.output = w.output) (hs : w.heap.size ≤ w'.heap.size)
    (hb : ∀ b, b < w.heap.size → w'.heap[b]? = w.heap[b]?) : SatB M p0 w0 S tm w' p β where
  keep := h.keep.trans_grow ho ht hp hs (fun b hb' _ _ => hb b hb')
  agr := fun b cs hbc => by rw [hb b (h.agr.lt hbc)]; exact h.agr b cs hbc
  old := h.old
  size := h.size
  lhs := fun d e he => LE.sat_world d e (h.lhs d e he) (fun b hl hbb => hb b (LE.sat_lt d e hl (h.lhs d e he) hbb))
  owns := h.owns
  inj := h.inj
  env := h.env

/-- More is known of memory that does not change. -/
theorem SatB.more (h : SatB M p0 w0 S tm w p β) {q : PH} (hpq : PH.le p q) (hq : Agrees q w) (hold : ∀ b cs, q b = some cs → p b = some cs ∨ w0.heap.size ≤ b ∨ M b) (hown : ∀ d e b, S.lh d = some e → e.live = true → blkOf (β d) = some b → q b = none) : SatB M p0 w0 S tm w q β where
  keep := h.keep
  agr := hq
  old := fun b cs hb => by
    rcases hold b cs hb with h1 | h1
    · exact h.old b cs h1
    · exact h1.imp id .inl
  size := h.size
  lhs := fun d e he => by
    have := h.lhs d e he
    cases e with
    | cells c => obtain ⟨b, cs, t, e1, e2, e3⟩ := this; exact ⟨b, cs, t, e1, e2, AV.cells_mono hpq _ _ e3⟩
    | row e T xs => obtain ⟨l, h1, h2, h3⟩ := this; exact ⟨l, h1, rowHold_mono (fun x cs => Ty.holds_mono hpq T x cs) _ _ h2, h3⟩
    | froz T xs => exact Ty.holds_mono hpq _ _ _ this
    | mapp k V m => obtain ⟨r, es, clock, e1, e2, e3, e4⟩ := this; exact ⟨r, es, clock, e1, e2, e3, mapHold_mono (fun x _ => vhold_mono (fun cs => Ty.holds_mono hpq V x cs)) _ _ e4⟩
    | frozm k V m => exact Ty.holds_mono hpq _ _ _ this
    | dead => trivial
    | frame tm env => exact fun s => AV.val_mono hpq _ _ (this s)
  owns := fun d e b he hl hb => ⟨(h.owns d e b he hl hb).1, hown d e b he hl hb⟩
  inj := h.inj
  env := fun s => AV.val_mono hpq _ _ (h.env s)

def St.scrub (S : St) (bad : Nat → Bool) : St :=
  { S with env := fun s => (S.env s).scrub bad, lh := fun d => bif bad d then none else (S.lh d).map (LE.scrub bad) }

theorem LE.scrub_live (bad : Nat → Bool) (e : LE) : (e.scrub bad).live = e.live := by cases e <;> rfl

/-- The names on the list 'bad' are free again: their ghosts may turn. -/
theorem SatB.scrub (h : SatB M p0 w0 S tm w p β) {bad : Nat → Bool} {β' : Nat → Value} (hβ : ∀ d, bad d = false → β' d = β d) : SatB M p0 w0 (S.scrub bad) tm w p β' := by
  have key : ∀ d e, (S.scrub bad).lh d = some e → bad d = false ∧ ∃ e0, S.lh d = some e0 ∧ e = e0.scrub bad := by
    intro d e he
    simp only [St.scrub] at he
    cases hb : bad d
    · rw [hb] at he
      simp only [cond_false, Option.map_eq_some_iff] at he
      obtain ⟨e0, h1, h2⟩ := he
      exact ⟨rfl, e0, h1, h2.symm⟩
    · rw [hb] at he; cases he
  refine ⟨h.keep, h.agr, h.old, h.size, ?_, ?_, ?_, fun s => AV.val_scrub hβ _ _ (h.env s)⟩
  · intro d e he
    obtain ⟨hb, e0, h1, rfl⟩ := key d e he
    exact LE.sat_scrub hβ d hb e0 (h.lhs d e0 h1)
  · intro d e b he hl hbb
    obtain ⟨hb, e0, h1, rfl⟩ := key d e he
    rw [LE.scrub_live] at hl
    rw [hβ d hb] at hbb
    exact h.owns d e0 b h1 hl hbb
  · intro d d' e e' b he hl he' hl' hbb hbb'
    obtain ⟨hb, e0, h1, rfl⟩ := key d e he
    obtain ⟨hb', e0', h1', rfl⟩ := key d' e' he'
    rw [LE.scrub_live] at hl hl'
    rw [hβ d hb] at hbb
    rw [hβ d' hb'] at hbb'
    exact h.inj d d' e0 e0' b h1 hl h1' hl' hbb hbb'

def St.entry (S : St) (d : Nat) (e : LE) : St := { S with lh := fun x => bif Nat.beq x d then some e else S.lh x }

theorem beq_ff {a b : Nat} (h : a ≠ b) : Nat.beq a b = false := by
  cases hb : Nat.beq a b
  · rfl
  · exact absurd (Nat.eq_of_beq_eq_true hb) h

theorem beq_tt (a : Nat) : Nat.beq a a = true := by simp

/-- An entry is laid or turned, while the ghosts stay. -/
theorem SatB.entry (h : SatB M p0 w0 S tm w p β) {d : Nat} {e : LE} (hs : e.sat p β w d)
    (ho : ∀ b, e.live = true → blkOf (β d) = some b → (M b ∨ w0.heap.size ≤ b) ∧ p b = none)
    (hi : ∀ d' e' b, d' ≠ d → e.live = true → S.lh d' = some e' → e'.live = true → blkOf (β d) = some b → blkOf (β d') ≠ some b) : SatB M p0 w0 (S.entry d e) tm w p β := by
  refine ⟨h.keep, h.agr, h.old, h.size, ?_, ?_, ?_, h.env⟩
  · intro x e' he
    by_cases hx : x = d
    · subst hx
      simp only [St.entry, beq_tt, cond_true, Option.some.injEq] at he
      subst he; exact hs
    · simp only [St.entry, beq_ff hx, cond_false] at he
      exact h.lhs x e' he
  · intro x e' b he hl hb
    by_cases hx : x = d
    · subst hx
      simp only [St.entry, beq_tt, cond_true, Option.some.injEq] at he
      subst he; exact ho b hl hb
    · simp only [St.entry, beq_ff hx, cond_false] at he
      exact h.owns x e' b he hl hb
  · intro x x' e1 e2 b he hl he' hl' hb hb'
    by_cases hx : x = d <;> by_cases hx' : x' = d
    · rw [hx, hx']
    · subst hx
      simp only [St.entry, beq_tt, cond_true, Option.some.injEq] at he
      simp only [St.entry, beq_ff hx', cond_false] at he'
      subst he
      exact absurd hb' (hi x' e2 b hx' hl he' hl' hb)
    · subst hx'
      simp only [St.entry, beq_tt, cond_true, Option.some.injEq] at he'
      simp only [St.entry, beq_ff hx, cond_false] at he
      subst he'
      exact absurd hb (hi x e1 b hx hl' he hl hb')
    · simp only [St.entry, beq_ff hx, cond_false] at he
      simp only [St.entry, beq_ff hx', cond_false] at he'
      exact h.inj x x' e1 e2 b he hl he' hl' hb hb'

/-- A new name for a block that no live name has. -/
def St.fresh (S : St) (d : Nat) (e : LE) : St := (S.scrub (fun x => Nat.beq x d)).entry d e

theorem SatB.fresh (h : SatB M p0 w0 S tm w p β) {d : Nat} {e : LE} {v : Value}
    (hs : e.sat p (fun x => if x = d then v else β x) w d)
    (ho : ∀ b, e.live = true → blkOf v = some b → (M b ∨ w0.heap.size ≤ b) ∧ p b = none)
    (hi : ∀ d' e' b, d' ≠ d → e.live = true → S.lh d' = some e' → e'.live = true → blkOf v = some b → blkOf (β d') ≠ some b) : SatB M p0 w0 (S.fresh d e) tm w p (fun x => if x = d then v else β x) := by
  have h1 : SatB M p0 w0 (S.scrub (fun x => Nat.beq x d)) tm w p (fun x => if x = d then v else β x) := h.scrub (fun x hx => by
    have : x ≠ d := by intro e; subst e; simp at hx
    simp [this])
  refine h1.entry hs (fun b hl hb => ho b hl (by simpa using hb)) ?_
  intro d' e' b hne hl he hl' hb hb'
  have hx : Nat.beq d' d = false := beq_ff hne
  simp only [St.scrub, hx, cond_false, Option.map_eq_some_iff] at he
  obtain ⟨e0, h2, rfl⟩ := he
  rw [LE.scrub_live] at hl'
  simp only [hne, if_false] at hb'
  exact hi d' e0 b hne hl h2 hl' (by simpa using hb) hb'
end
end Go.Proofs.Ytgnamdjmjkeodaa
