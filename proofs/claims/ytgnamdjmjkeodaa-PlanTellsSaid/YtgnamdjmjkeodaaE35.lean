/- The engine, part 35 (stands between 32 and 22): a call that is walked through: the caller's frame is laid by, its names are handed on. -/
import Derived.Test.YtgnamdjmjkeodaaE21
import Derived.Test.YtgnamdjmjkeodaaE32
namespace Go.Proofs.Ytgnamdjmjkeodaa
open Go

/-- Names are handed on: φ there, ψ back; a name that does not come back is forgotten. -/
def okN (φ ψ : Nat → Nat) (d : Nat) : Bool := Nat.beq (ψ (φ d)) d

def AV.ren (φ ψ : Nat → Nat) : AV → AV
  | .own d => bif okN φ ψ d then .own (φ d) else .any
  | .loc d off => bif okN φ ψ d then .loc (φ d) off else .any
  | .el d T i off => bif okN φ ψ d then .el (φ d) T i off else .any
  | .mp d => bif okN φ ψ d then .mp (φ d) else .any
  | .fn f c1 c2 => bif (c1.all fun x => okN φ ψ x.1) && (c2.all fun x => okN φ ψ x.1) then .fn f (c1.map fun x => (φ x.1, x.2)) (c2.map fun x => (φ x.1, x.2)) else .any
  | .pair a b => .pair (a.ren φ ψ) (b.ren φ ψ)
  | .tup a b => .tup (a.ren φ ψ) (b.ren φ ψ)
  | .gd g w a => .gd g w (a.ren φ ψ)
  | .osl d T i n => bif okN φ ψ d then .osl (φ d) T i n else .any
  | .any => .any
  | .int k n => .int k n
  | .bool b => .bool b
  | .str s => .str s
  | .nils => .nils
  | .sl T xs => .sl T xs
  | .tnil => .tnil
  | .pt T x off => .pt T x off
  | .bl t f => .bl t f
  | .fd A B g => .fd A B g
  | .md k V m => .md k V m
  | .nilm => .nilm

def LE.ren (φ ψ : Nat → Nat) : LE → LE
  | .cells c => .cells (c.ren φ ψ)
  | .row e T xs => .row e T xs
  | .froz T xs => .froz T xs
  | .mapp k V m => .mapp k V m
  | .frozm k V m => .frozm k V m
  | .dead => .dead
  | .frame tm env => .frame tm (fun s => (env s).ren φ ψ)

theorem LE.ren_live (φ ψ : Nat → Nat) (e : LE) : (e.ren φ ψ).live = e.live := by cases e <;> rfl

def renLh (φ ψ : Nat → Nat) (lh : Nat → Option LE) : Nat → Option LE := fun n => bif Nat.beq (φ (ψ n)) n then (lh (ψ n)).map (LE.ren φ ψ) else none

section
variable {φ ψ : Nat → Nat} {p : PH} {β : Nat → Value} {tm : Array Value} {w : World}

theorem okN_eq {d : Nat} (h : okN φ ψ d = true) : ψ (φ d) = d := Nat.eq_of_beq_eq_true h

theorem locsHold_ren : ∀ (c : List (Nat × Nat)) (vs : List Value), (c.all fun x => okN φ ψ x.1) = true → locsHold β c vs → locsHold (fun n => β (ψ n)) (c.map fun x => (φ x.1, x.2)) vs
  | [], _, _, h => h
  | (d, off) :: c, _, hb, ⟨b, rest, e, hd, hr⟩ => by
    simp only [List.all_cons, Bool.and_eq_true] at hb
    exact ⟨b, rest, e, by simp only [okN_eq hb.1]; exact hd, locsHold_ren c rest hb.2 hr⟩

theorem AV.one_ren (a : AV) (v : Value) (ha : a.one p β v) : (a.ren φ ψ).one p (fun n => β (ψ n)) v := by
  cases a <;> simp only [AV.ren] <;> try (simp only [AV.one] at ha ⊢ <;> exact ha)
  case own d => cases hb : okN φ ψ d <;> simp only [cond_true, cond_false, AV.one] at ha ⊢; rw [okN_eq hb]; exact ha
  case loc d off => cases hb : okN φ ψ d <;> simp only [cond_true, cond_false, AV.one] at ha ⊢; rw [okN_eq hb]; exact ha
  case el d T i off => cases hb : okN φ ψ d <;> simp only [cond_true, cond_false, AV.one] at ha ⊢; rw [okN_eq hb]; exact ha
  case osl d T i n => cases hb : okN φ ψ d <;> simp only [cond_true, cond_false, AV.one] at ha ⊢; rw [okN_eq hb]; exact ha
  case mp d => cases hb : okN φ ψ d <;> simp only [cond_true, cond_false, AV.one] at ha ⊢; rw [okN_eq hb]; exact ha
  case fn f c1 c2 =>
    cases hb : (c1.all fun x => okN φ ψ x.1) && (c2.all fun x => okN φ ψ x.1) <;> simp only [cond_true, cond_false, AV.one] at ha ⊢
    simp only [Bool.and_eq_true] at hb
    obtain ⟨v1, v2, e, h1, h2⟩ := ha
    exact ⟨v1, v2, e, locsHold_ren _ _ hb.1 h1, locsHold_ren _ _ hb.2 h2⟩

theorem AV.ren_pair (a : AV) (hp : ∀ x y, a ≠ .pair x y) : ∀ x y, a.ren φ ψ ≠ .pair x y := by
  intro x y e
  cases a <;> simp only [AV.ren] at e <;> first | (exact absurd rfl (hp _ _)) | cases e | (revert e; cases okN _ _ _ <;> intro e <;> cases e) | (revert e; cases (_ && _) <;> intro e <;> cases e)

theorem AV.cells_ren : ∀ (a : AV) (cs : List Value), a.cells p β cs → (a.ren φ ψ).cells p (fun n => β (ψ n)) cs := by
  intro a
  induction a with
  | pair a b _ ih2 =>
    intro cs hc
    match cs, hc with
    | v :: cs, hc => exact ⟨AV.one_ren a v hc.1, ih2 cs hc.2⟩
  | _ =>
    intro cs hc
    obtain ⟨v, e, hv⟩ := (AV.cells_leaf _ (by intro x y e; cases e) cs).1 hc
    exact (AV.cells_leaf _ (AV.ren_pair _ (by intro x y e; cases e)) cs).2 ⟨v, e, AV.one_ren _ v hv⟩

theorem AV.val1_ren (a : AV) (v : Value) (ha : a.val1 p β v) : (a.ren φ ψ).val1 p (fun n => β (ψ n)) v := by
  by_cases hp : ∀ x y, a ≠ .pair x y
  · exact (AV.val1_leaf _ (AV.ren_pair a hp) v).2 (AV.one_ren a v ((AV.val1_leaf a hp v).1 ha))
  · cases a <;> (first | (exfalso; apply hp; intro x y e; cases e; done) | skip)
    obtain ⟨cs, e, hc⟩ := ha
    exact ⟨cs, e, AV.cells_ren _ _ hc⟩

theorem AV.vals_ren : ∀ (a : AV) (vs : List Value), a.vals p β vs → (a.ren φ ψ).vals p (fun n => β (ψ n)) vs := by
  intro a
  induction a with
  | tup a b _ ih2 =>
    intro vs hv
    match vs, hv with
    | v :: vs, hv => exact ⟨AV.val1_ren a v hv.1, ih2 vs hv.2⟩
  | tnil => intro vs hv; cases vs <;> exact hv
  | _ => intro vs hv; simp [AV.vals] at hv

theorem AV.val_ren : ∀ (a : AV) (v : Value), a.val p β tm v → (a.ren φ ψ).val p (fun n => β (ψ n)) tm v := by
  intro a
  induction a with
  | gd g w a ih =>
    intro v ha
    rcases ha with ⟨e, ha⟩ | ha
    · exact .inl ⟨e, ih v ha⟩
    · exact .inr ha
  | tup a b =>
    intro v ha
    obtain ⟨vs, e, hv⟩ := ha
    exact ⟨vs, e, AV.vals_ren _ _ hv⟩
  | tnil => intro v ha; exact ha
  | pair a b => intro v ha; exact AV.val1_ren _ v ha
  | _ =>
    intro v ha
    have hs := AV.val1_ren (φ := φ) (ψ := ψ) _ v ha
    simp only [AV.ren] at hs ⊢
    first
      | exact hs
      | (revert hs; cases okN _ _ _ <;> exact fun hs => hs)
      | (revert hs; cases (_ && _) <;> exact fun hs => hs)

theorem LE.sat_ren {d : Nat} (e : LE) (he : e.sat p β w (ψ d)) : (e.ren φ ψ).sat p (fun n => β (ψ n)) w d := by
  cases e with
  | cells c => obtain ⟨b, cs, t, e1, e2, e3⟩ := he; exact ⟨b, cs, t, e1, e2, AV.cells_ren _ _ e3⟩
  | frame tm env => exact fun s => AV.val_ren _ _ (he s)
  | dead => trivial
  | _ => exact he

theorem AV.ren_noGd {x : AV} (h : x.noGd = true) : (x.ren φ ψ).noGd = true := by
  cases x <;> simp only [AV.ren] <;> first | rfl | (cases h; done) | (cases okN _ _ _ <;> rfl) | (cases (_ && _) <;> rfl)
end

/-- The state S's blocks, under new names, beside any slots. -/
theorem SatB.renamed {M : Nat → Prop} {p0 : PH} {w0 : World} {S : St} {tm tm' : Array Value} {w : World} {p : PH} {β : Nat → Value} (h : SatB M p0 w0 S tm w p β) {φ ψ : Nat → Nat} {T : St}
    (hlh : ∀ n e, T.lh n = some e → e.live = false ∧ e.sat p (fun n => β (ψ n)) w n ∨ renLh φ ψ S.lh n = some e) (hsz : tm'.size = T.n) (henv : ∀ s, (T.env s).val p (fun n => β (ψ n)) tm' (tm'.getD s undef)) : SatB M p0 w0 T tm' w p (fun n => β (ψ n)) := by
  have key : ∀ n e, renLh φ ψ S.lh n = some e → φ (ψ n) = n ∧ ∃ e0, S.lh (ψ n) = some e0 ∧ e = e0.ren φ ψ := by
    intro n e he
    unfold renLh at he
    cases hb : Nat.beq (φ (ψ n)) n
    · rw [hb] at he; cases he
    · rw [hb] at he
      simp only [cond_true, Option.map_eq_some_iff] at he
      obtain ⟨e0, h1, h2⟩ := he
      exact ⟨Nat.eq_of_beq_eq_true hb, e0, h1, h2.symm⟩
  refine ⟨h.keep, h.agr, h.old, hsz, fun n e he => ?_, fun n e b he hl hb => ?_, fun n n' e e' b he hl he' hl' hb hb' => ?_, henv⟩
  · rcases hlh n e he with ⟨_, h1⟩ | h1
    · exact h1
    · obtain ⟨_, e0, h2, rfl⟩ := key n e h1
      exact LE.sat_ren e0 (h.lhs _ _ h2)
  · rcases hlh n e he with ⟨h1, _⟩ | h1
    · rw [h1] at hl; cases hl
    · obtain ⟨_, e0, h2, rfl⟩ := key n e h1
      exact h.owns _ e0 b h2 (by rw [LE.ren_live] at hl; exact hl) hb
  · rcases hlh n e he with ⟨h1, _⟩ | h1
    · rw [h1] at hl; cases hl
    · rcases hlh n' e' he' with ⟨k1, _⟩ | k1
      · rw [k1] at hl'; cases hl'
      · obtain ⟨g1, e0, h2, rfl⟩ := key n e h1
        obtain ⟨g2, e1, k2, rfl⟩ := key n' e' k1
        rw [LE.ren_live] at hl hl'
        have := h.inj _ _ e0 e1 b h2 hl k2 hl' hb hb'
        rw [← g1, ← g2, this]

/-- The caller's names, as the call sees them; and back. -/
def upN (d : Nat) : Nat := 1000000 * d + 900000
def dnN (n : Nat) : Nat := bif Nat.beq (n % 1000000) 900000 then n / 1000000 else n
/-- The call's names, as the caller (whose slot d takes the result) sees them; and back. -/
def outN (d m : Nat) : Nat := bif Nat.beq (m % 1000000) 900000 then m / 1000000 else d + 1000000 * (100 + m)
def inN (d n : Nat) : Nat := bif Nat.beq (n % 1000000) d && Nat.ble 100 (n / 1000000) then n / 1000000 - 100 else 1000000 * n + 900000
def frameN : Nat := 900002

def nthAV : List AV → Nat → AV
  | [], _ => .any
  | a :: _, 0 => a
  | _ :: xs, n + 1 => nthAV xs n

def enterSt (tm : Array Value) (S : St) (n : Nat) (avs : List AV) : St where
  env := fun s => (nthAV avs s).ren upN dnN
  lh := fun d => bif Nat.beq d frameN then some (.frame tm (fun s => (S.env s).ren upN dnN)) else renLh upN dnN S.lh d
  n := n
  lock := fun d => bif Nat.beq d frameN then true else bif Nat.beq (d % 1000000) 900000 then S.lock (d / 1000000) else false

def AV.plain : AV → AV
  | .gd .. => .any
  | .tup .. => .any
  | .tnil => .any
  | a => a

def tupAV : List AV → AV
  | [] => .tnil
  | a :: xs => .tup a.plain (tupAV xs)

def retAV : List AV → AV
  | [a] => a.plain
  | xs => tupAV xs

def outSt (S S' : St) (env' : Nat → AV) (d : Nat) (avs : List AV) : St :=
  St.set { env := fun s => (env' s).ren (outN d) (inN d)
           lh := fun n => bif Nat.beq (inN d n) frameN then none else renLh (outN d) (inN d) S'.lh n
           n := S.n, lock := S.lock } d ((retAV avs).ren (outN d) (inN d))

/-- What names a callee may lay or turn. -/
def badC (bad : Nat → Bool) (n : Nat) : Bool := bif Nat.beq (n % 1000000) 900000 then bad (n / 1000000) else !Nat.beq n frameN

section
variable {M : Nat → Prop} {p0 : PH} {w0 : World} {S S' : St} {tm tm' : Array Value} {w w' : World} {p : PH} {β : Nat → Value} {L L' : List Nat} {bad : Nat → Bool}

theorem nthAV_get : ∀ (avs : List AV) (s : Nat), nthAV avs s = match avs[s]? with | some a => a | none => .any
  | [], s => by simp [nthAV]
  | a :: xs, 0 => rfl
  | a :: xs, s + 1 => by simp only [nthAV, List.getElem?_cons_succ]; exact nthAV_get xs s

theorem enter_sat (h : SatB M p0 w0 S tm w p β) {avs : List AV} {vs : List Value} (hl : vs.length = avs.length) (hv : ∀ (i : Nat) a v, avs[i]? = some a → vs[i]? = some v → a.val p β tm v ∧ a.noGd = true) {n : Nat} (hn : avs.length ≤ n) :
    SatB M p0 w0 (enterSt tm S n avs) (vs.toArray ++ Array.replicate (n - vs.toArray.size) undef) w p (fun n => β (dnN n)) := by
  refine h.renamed (φ := upN) (fun d e he => ?_) (by simp [enterSt, hl]; omega) (fun s => ?_)
  · simp only [enterSt] at he
    cases hb : Nat.beq d frameN
    · rw [hb] at he; exact .inr he
    · rw [hb] at he
      simp only [cond_true, Option.some.injEq] at he
      subst he
      exact .inl ⟨rfl, fun s => AV.val_ren _ _ (h.env s)⟩
  · simp only [enterSt, nthAV_get]
    cases ha : avs[s]? with
    | none => trivial
    | some a =>
      have hs : s < avs.length := (List.getElem?_eq_some_iff.1 ha).1
      have hv1 : vs[s]? = some (vs[s]'(by omega)) := List.getElem?_eq_getElem (by omega)
      have e : (vs.toArray ++ Array.replicate (n - vs.toArray.size) undef).getD s undef = vs[s]'(by omega) := by
        simp only [Array.getD_eq_getD_getElem?, Array.getElem?_append, List.size_toArray, List.getElem?_toArray]
        rw [if_pos (by omega), hv1]
        rfl
      rw [e]
      obtain ⟨k1, k2⟩ := hv s a _ ha hv1
      exact val_noGd (AV.ren_noGd k2) (AV.val_ren _ _ k1)

theorem plain_val1 {a : AV} {v : Value} (h : a.val p β tm v) : a.plain.val1 p β v := by
  cases a <;> first | trivial | exact h

theorem tupAV_vals : ∀ (avs : List AV) (vs : List Value), vs.length = avs.length → (∀ (i : Nat) a v, avs[i]? = some a → vs[i]? = some v → a.val p β tm v) → (tupAV avs).vals p β vs
  | [], [], _, _ => trivial
  | [], _ :: _, h, _ => by cases h
  | _ :: _, [], h, _ => by cases h
  | a :: xs, v :: vs, hl, h => ⟨plain_val1 (h 0 a v rfl rfl), tupAV_vals xs vs (by simpa using hl) (fun i a v ha hv => h (i + 1) a v (by simpa using ha) (by simpa using hv))⟩

theorem plain_noGd (a : AV) : a.plain.noGd = true := by cases a <;> rfl

theorem retAV_noGd (avs : List AV) : (retAV avs).noGd = true := by
  match avs with
  | [] => rfl
  | [a] => exact plain_noGd a
  | _ :: _ :: _ => rfl

theorem retAV_val {avs : List AV} {vs : List Value} (hl : vs.length = avs.length) (h : ∀ (i : Nat) a v, avs[i]? = some a → vs[i]? = some v → a.val p β tm v) : (retAV avs).val p β tm (retValue vs) := by
  match avs, vs, hl, h with
  | [], [], _, _ => rfl
  | [a], [v], _, h => exact AV.val_of_val1 (plain_val1 (h 0 a v rfl rfl))
  | a :: b :: xs, u :: v :: vs, hl, h => exact ⟨u :: v :: vs, rfl, tupAV_vals (a :: b :: xs) (u :: v :: vs) hl h⟩

theorem out_sat (h : SatB M p0 w0 S' tm' w p β) {env' : Nat → AV} (hf : S'.lh frameN = some (.frame tm env')) (hsz : tm.size = S.n) {d : Nat} (hd : d < S.n) {avs : List AV} {vs : List Value} (hl : vs.length = avs.length)
    (hv : ∀ (i : Nat) a v, avs[i]? = some a → vs[i]? = some v → a.val p β tm' v) : Sat M p0 w0 (outSt S S' env' d avs) (tm.setIfInBounds d (retValue vs)) w := by
  refine ⟨p, fun n => β (inN d n), SatB.set ?_ hd (AV.val_ren _ _ (val_noGd (retAV_noGd _) (retAV_val hl hv)))⟩
  refine h.renamed (φ := outN d) (fun n e he => ?_) hsz (fun s => AV.val_ren _ _ (h.lhs _ _ hf s))
  simp only at he
  cases hb : Nat.beq (inN d n) frameN
  · rw [hb] at he; exact .inr he
  · rw [hb] at he; cases he

theorem far_badC (h : ∀ n, far n = true → bad n = true) : ∀ n, far n = true → badC bad n = true := by
  intro n hn
  unfold badC
  unfold far at hn
  rw [farK] at hn
  cases hb : Nat.beq (n % 1000000) 900000
  · rw [hb] at hn
    simp only [cond_false] at hn ⊢
    have := Nat.le_of_ble_eq_true hn
    have hne : n ≠ frameN := by unfold frameN; unfold farB at this; omega
    rw [beq_ff hne]; rfl
  · rw [hb] at hn
    simp only [cond_true] at hn ⊢
    exact h _ (farK_mono 8 _ hn)

theorem named_badC (h : L'.all (Nat.blt · 900000) = true) : Named L' (badC bad) := by
  intro d hd k
  have h1 : d < 900000 := by
    have := List.all_eq_true.1 h d (List.contains_iff_mem.1 hd)
    simpa using this
  have h2 : resName d k % 1000000 = d := by unfold resName; omega
  have h3 : resName d k ≠ frameN := by unfold frameN resName; omega
  unfold badC
  rw [h2, beq_ff (by omega), beq_ff h3]
  rfl

theorem dn_up (d : Nat) : dnN (upN d) = d := by
  unfold dnN upN
  have e1 : (1000000 * d + 900000) % 1000000 = 900000 := by omega
  have e2 : (1000000 * d + 900000) / 1000000 = d := by omega
  rw [e1, e2]
  rfl

theorem up_mod (d : Nat) : upN d % 1000000 = 900000 := by unfold upN; omega
theorem up_div (d : Nat) : upN d / 1000000 = d := by unfold upN; omega
theorem up_frame (d : Nat) : upN d ≠ frameN := by unfold upN frameN; omega

theorem badC_up (d : Nat) : badC bad (upN d) = bad d := by
  unfold badC
  rw [up_mod, up_div]
  rfl

/-- A name that the call sees and is no own of its: a caller's. -/
theorem up_dn {n : Nat} (h : upN (dnN n) = n) : ∃ m, n = upN m := ⟨dnN n, h.symm⟩

theorem enter_lh_up {n : Nat} {avs : List AV} (d : Nat) : (enterSt tm S n avs).lh (upN d) = (S.lh d).map (LE.ren upN dnN) := by
  simp only [enterSt, beq_ff (up_frame d), cond_false, renLh, dn_up, beq_tt, cond_true]

theorem enter_lock_up {n : Nat} {avs : List AV} (d : Nat) : (enterSt tm S n avs).lock (upN d) = S.lock d := by
  simp only [enterSt, beq_ff (up_frame d), cond_false, up_mod, up_div, beq_tt, cond_true]

theorem renLh_up {n : Nat} {e : LE} (h : renLh upN dnN S.lh n = some e) : ∃ m e0, n = upN m ∧ S.lh m = some e0 ∧ e = e0.ren upN dnN := by
  unfold renLh at h
  cases hb : Nat.beq (upN (dnN n)) n
  · rw [hb] at h; cases h
  · rw [hb] at h
    simp only [cond_true, Option.map_eq_some_iff] at h
    obtain ⟨e0, h1, h2⟩ := h
    exact ⟨dnN n, e0, (Nat.eq_of_beq_eq_true hb).symm, h1, h2.symm⟩

theorem enter_tidy (hT : Tidy bad S) {n : Nat} {avs : List AV} : Tidy (badC bad) (enterSt tm S n avs) := by
  refine ⟨fun d hd => ?_, fun d e T xs hd hl => ?_, fun d tm' env hd => ?_⟩
  · simp only [enterSt] at hd
    cases hb : Nat.beq d frameN
    · rw [hb] at hd
      simp only [cond_false] at hd
      unfold badC
      cases hu : Nat.beq (d % 1000000) 900000
      · rw [hu] at hd; cases hd
      · rw [hu] at hd; exact hT.lock _ hd
    · have := Nat.eq_of_beq_eq_true hb
      subst this
      rfl
  · simp only [enterSt] at hd
    cases hb : Nat.beq d frameN
    · rw [hb] at hd
      obtain ⟨m, e0, rfl, h2, h3⟩ := renLh_up hd
      rw [enter_lock_up] at hl
      rw [badC_up]
      cases e0 <;> simp only [LE.ren, reduceCtorEq] at h3
      exact hT.row m _ _ _ h2 hl
    · rw [hb] at hd; cases hd
  · simp only [enterSt] at hd
    cases hb : Nat.beq d frameN
    · rw [hb] at hd
      obtain ⟨m, e0, rfl, h2, h3⟩ := renLh_up hd
      rw [enter_lock_up]
      cases e0 <;> simp only [LE.ren, reduceCtorEq] at h3
      exact hT.frame m _ _ h2
    · simp only [enterSt, hb, cond_true]

/-- What is not bad comes back as it was. -/
theorem out_up {d n : Nat} (hN : Named L bad) (hd : L.contains d = true) (hn : bad n = false) : inN d n = upN n := by
  unfold inN
  cases hb : Nat.beq (n % 1000000) d && Nat.ble 100 (n / 1000000)
  · rfl
  · exfalso
    simp only [Bool.and_eq_true] at hb
    have h1 := Nat.eq_of_beq_eq_true hb.1
    have := hN d hd (n / 1000000)
    have e : resName d (n / 1000000) = n := by unfold resName; omega
    rw [e, hn] at this
    cases this

theorem out_okN {d m : Nat} (h : inN d m = upN m) : okN (outN d) (inN d) (upN m) = true ∧ outN d (upN m) = m := by
  have e : outN d (upN m) = m := by
    unfold outN
    rw [up_mod, up_div]
    rfl
  exact ⟨by unfold okN; rw [e, h]; exact beq_tt _, e⟩

theorem up_okN (m : Nat) : okN upN dnN m = true := by unfold okN; rw [dn_up]; exact beq_tt _

theorem back_av {d : Nat} (hback : ∀ m, bad m = false → inN d m = upN m) : ∀ (x : AV), x.scrub bad = x → (x.ren upN dnN).scrub (badC bad) = x.ren upN dnN ∧ (x.ren upN dnN).ren (outN d) (inN d) = x := by
  have leaf : ∀ m, bad m = false → badC bad (upN m) = false ∧ okN (outN d) (inN d) (upN m) = true ∧ outN d (upN m) = m := fun m hm => ⟨by rw [badC_up]; exact hm, out_okN (hback m hm)⟩
  intro x
  induction x with
  | own m =>
    intro h
    have hm : bad m = false := by simp only [AV.scrub] at h; cases hb : bad m; rfl; rw [hb] at h; cases h
    obtain ⟨k1, k2, k3⟩ := leaf m hm
    simp only [AV.ren, up_okN, AV.scrub, k1, k2, k3, cond_true, cond_false, and_self]
  | loc m off =>
    intro h
    have hm : bad m = false := by simp only [AV.scrub] at h; cases hb : bad m; rfl; rw [hb] at h; cases h
    obtain ⟨k1, k2, k3⟩ := leaf m hm
    simp only [AV.ren, up_okN, AV.scrub, k1, k2, k3, cond_true, cond_false, and_self]
  | el m T i off =>
    intro h
    have hm : bad m = false := by simp only [AV.scrub] at h; cases hb : bad m; rfl; rw [hb] at h; cases h
    obtain ⟨k1, k2, k3⟩ := leaf m hm
    simp only [AV.ren, up_okN, AV.scrub, k1, k2, k3, cond_true, cond_false, and_self]
  | mp m =>
    intro h
    have hm : bad m = false := by simp only [AV.scrub] at h; cases hb : bad m; rfl; rw [hb] at h; cases h
    obtain ⟨k1, k2, k3⟩ := leaf m hm
    simp only [AV.ren, up_okN, AV.scrub, k1, k2, k3, cond_true, cond_false, and_self]
  | osl m T i n =>
    intro h
    have hm : bad m = false := by simp only [AV.scrub] at h; cases hb : bad m; rfl; rw [hb] at h; cases h
    obtain ⟨k1, k2, k3⟩ := leaf m hm
    simp only [AV.ren, up_okN, AV.scrub, k1, k2, k3, cond_true, cond_false, and_self]
  | fn f c1 c2 =>
    intro h
    have hm : ((c1.any fun x => bad x.1) || (c2.any fun x => bad x.1)) = false := by
      simp only [AV.scrub] at h
      cases hb : (c1.any fun x => bad x.1) || (c2.any fun x => bad x.1)
      · rfl
      · rw [hb] at h; cases h
    simp only [Bool.or_eq_false_iff] at hm
    have all : ∀ c : List (Nat × Nat), (c.all fun x => okN upN dnN x.1) = true := fun c => List.all_eq_true.2 (fun x _ => up_okN _)
    have key : ∀ c : List (Nat × Nat), (c.any fun x => bad x.1) = false → ((c.map fun x => (upN x.1, x.2)).any fun x => badC bad x.1) = false ∧ ((c.map fun x => (upN x.1, x.2)).all fun x => okN (outN d) (inN d) x.1) = true ∧ ((c.map fun x => (upN x.1, x.2)).map fun x => (outN d x.1, x.2)) = c := by
      intro c
      induction c with
      | nil => intro _; exact ⟨rfl, rfl, rfl⟩
      | cons x c ih =>
        intro hc
        simp only [List.any_cons, Bool.or_eq_false_iff] at hc
        obtain ⟨j1, j2, j3⟩ := ih hc.2
        obtain ⟨k1, k2, k3⟩ := leaf _ hc.1
        simp only [List.map_cons, List.any_cons, List.all_cons, k1, k2, k3, j1, j2, j3, Bool.or_self, Bool.and_self, and_self]
    obtain ⟨a1, a2, a3⟩ := key c1 hm.1
    obtain ⟨b1, b2, b3⟩ := key c2 hm.2
    simp only [AV.ren, all, Bool.and_self, cond_true, AV.scrub, a1, b1, Bool.or_self, cond_false, a2, b2, a3, b3, and_self]
  | pair a b iha ihb =>
    intro h
    simp only [AV.scrub, AV.pair.injEq] at h
    simp only [AV.ren, AV.scrub, (iha h.1).1, (ihb h.2).1, (iha h.1).2, (ihb h.2).2, and_self]
  | tup a b iha ihb =>
    intro h
    simp only [AV.scrub, AV.tup.injEq] at h
    simp only [AV.ren, AV.scrub, (iha h.1).1, (ihb h.2).1, (iha h.1).2, (ihb h.2).2, and_self]
  | gd g w a iha =>
    intro h
    simp only [AV.scrub, AV.gd.injEq, true_and] at h
    simp only [AV.ren, AV.scrub, (iha h).1, (iha h).2, and_self]
  | _ => intro _; exact ⟨rfl, rfl⟩

theorem back_le {d : Nat} (hback : ∀ m, bad m = false → inN d m = upN m) (e : LE) (h : e.scrub bad = e) : (e.ren upN dnN).scrub (badC bad) = e.ren upN dnN ∧ (e.ren upN dnN).ren (outN d) (inN d) = e := by
  cases e with
  | cells c =>
    simp only [LE.scrub, LE.cells.injEq] at h
    simp only [LE.ren, LE.scrub, (back_av hback c h).1, (back_av hback c h).2, and_self]
  | frame tm env =>
    simp only [LE.scrub, LE.frame.injEq, true_and] at h
    have k := fun s => back_av hback (env s) (congrFun h s)
    simp only [LE.ren, LE.scrub, (k _).1, (k _).2, and_self]
  | _ => exact ⟨rfl, rfl⟩

theorem out_fr (hT : Tidy bad S) (hN : Named L bad) {d : Nat} (hd : L.contains d = true) {S2 : St} (hlu : ∀ m, S2.lh (upN m) = (S.lh m).map (LE.ren upN dnN)) (hlf : S2.lh frameN = some (.frame tm (fun s => (S.env s).ren upN dnN)))
    (hku : ∀ m, S2.lock (upN m) = S.lock m) (hko : ∀ n, S2.lock n = true → n = frameN ∨ ∃ m, n = upN m) (hF : Fr L' (badC bad) S2 S') (hT' : Tidy (badC bad) S') {env' : Nat → AV} (hf : S'.lh frameN = some (.frame tm env')) (avs : List AV) :
    Fr L bad S (outSt S S' env' d avs) ∧ Tidy bad (outSt S S' env' d avs) := by
  have hback : ∀ m, bad m = false → inN d m = upN m := fun m hm => out_up hN hd hm
  have hlh : ∀ m, bad m = false → (outSt S S' env' d avs).lh m = (S'.lh (upN m)).map (LE.ren (outN d) (inN d)) := by
    intro m hm
    simp only [outSt, St.set, hback m hm, beq_ff (up_frame m), cond_false, renLh, (out_okN (hback m hm)).2, beq_tt, cond_true]
  obtain ⟨env2, k1, k2⟩ := hF.frames frameN tm _ hlf
  rw [hf] at k1
  injection k1 with k1
  injection k1 with _ k1
  subst k1
  refine ⟨⟨rfl, rfl, fun s hs hst => ?_, fun n hn hst => ?_, fun n tm1 env1 hn => ?_⟩, ⟨hT.lock, fun n e T xs hn hl => ?_, fun n tm1 env1 hn => ?_⟩⟩
  · have hne : s ≠ d := by intro e; subst e; rw [hd] at hs; cases hs
    have kb := back_av hback (S.env s) hst.1
    have e1 : (outSt S S' env' d avs).env s = ((env' s).ren (outN d) (inN d)).killG d := by simp only [outSt, St.set, beq_ff hne, cond_false]
    rw [e1, k2 s ⟨kb.1, AV.ren_noGd hst.2⟩, kb.2]
    exact killG_noGd hst.2 d
  · have hb := hT.lock n hn
    rw [hlh n hb]
    have e1 := hF.lh (upN n) (by rw [hku]; exact hn) (fun e he => by
      rw [hlu] at he
      simp only [Option.map_eq_some_iff] at he
      obtain ⟨e0, g1, rfl⟩ := he
      exact (back_le hback e0 (hst e0 g1)).1)
    rw [e1, hlu]
    cases hl : S.lh n with
    | none => rfl
    | some e0 => simp only [Option.map_some, (back_le hback e0 (hst e0 hl)).2]
  · have hb := hT.lock n (hT.frame n tm1 env1 hn)
    have e1 := hlu n
    rw [hn] at e1
    simp only [Option.map_some, LE.ren] at e1
    obtain ⟨env3, g1, g2⟩ := hF.frames _ _ _ e1
    refine ⟨fun s => (env3 s).ren (outN d) (inN d), by rw [hlh n hb, g1]; rfl, fun s hs => ?_⟩
    have kb := back_av hback (env1 s) hs.1
    show (env3 s).ren (outN d) (inN d) = env1 s
    rw [g2 s ⟨kb.1, AV.ren_noGd hs.2⟩, kb.2]
  · cases hb : bad n
    · exfalso
      rw [hlh n hb] at hn
      simp only [Option.map_eq_some_iff] at hn
      obtain ⟨e0, g1, g2⟩ := hn
      cases e0 <;> simp only [LE.ren, reduceCtorEq] at g2
      have := hT'.row _ _ _ _ g1 (by rw [hF.lock, hku]; exact hl)
      rw [badC_up, hb] at this
      cases this
    · rfl
  · have hn' : (bif Nat.beq (inN d n) frameN then none else renLh (outN d) (inN d) S'.lh n) = some (.frame tm1 env1) := hn
    cases hfr : Nat.beq (inN d n) frameN
    · rw [hfr] at hn'
      simp only [cond_false, renLh] at hn'
      cases ho : Nat.beq (outN d (inN d n)) n
      · rw [ho] at hn'; cases hn'
      · rw [ho] at hn'
        simp only [cond_true, Option.map_eq_some_iff] at hn'
        obtain ⟨e0, g1, g2⟩ := hn'
        cases e0 <;> simp only [LE.ren, reduceCtorEq] at g2
        have hlk := hT'.frame _ _ _ g1
        rw [hF.lock] at hlk
        rcases hko _ hlk with h1 | ⟨m, h1⟩
        · rw [h1] at hfr; simp at hfr
        · rw [h1, hku] at hlk
          have := Nat.eq_of_beq_eq_true ho
          rw [h1] at this
          have e2 : outN d (upN m) = m := by unfold outN; rw [up_mod, up_div]; rfl
          rw [e2] at this
          subst this
          exact hlk
    · rw [hfr] at hn'; cases hn'
end
end Go.Proofs.Ytgnamdjmjkeodaa
