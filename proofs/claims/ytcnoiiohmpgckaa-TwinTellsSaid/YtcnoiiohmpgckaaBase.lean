
import Derived.Test.YtcnoiiohmpgckaaEG6
import Derived.Test.YtcnoiiohmpgckaaRows
namespace Go.Proofs.Ytcnoiiohmpgckaa
open Go
def tblF : List (Nat × Spec) → FuncId → Option Spec
  | [], _ => none
  | e :: l, f => if Nat.beq e.1 f then some e.2 else tblF l f
def tblR : List (Nat × RowFn) → FuncId → Option RowFn
  | [], _ => none
  | e :: l, f => if Nat.beq e.1 f then some e.2 else tblR l f
def tbl (l : List (Nat × Spec)) (r : List (Nat × RowFn) := []) : Specs := ⟨tblF l, tblR r⟩
theorem tbl_nil : (tbl []).ok Try.prog := by
  refine ⟨rfl, ?_, ?_⟩
  · intro f s h
    cases h
  · intro f s h
    cases h
theorem tbl_row {P : Program} {f : Nat} {s : RowFn} {r : List (Nat × RowFn)} (h : s.ok P f) (hl : (tbl [] r).ok P) : (tbl [] ((f, s) :: r)).ok P := by
  refine ⟨hl.1, hl.2.1, ?_⟩
  intro g t e
  have e : tblR ((f, s) :: r) g = some t := e
  unfold tblR at e
  split at e
  · rename_i he
    have he := Nat.eq_of_beq_eq_true he
    injection e with e
    subst e
    simp only at he
    subst he
    exact h
  · exact hl.2.2 g t e
theorem tbl_cons {P : Program} {f : Nat} {s : Spec} {l : List (Nat × Spec)} {r : List (Nat × RowFn)} (h : s.ok P f) (hl : (tbl l r).ok P) : (tbl ((f, s) :: l) r).ok P := by
  refine ⟨hl.1, ?_, hl.2.2⟩
  intro g t e
  have e : tblF ((f, s) :: l) g = some t := e
  unfold tblF at e
  split at e
  · rename_i he
    have he := Nat.eq_of_beq_eq_true he
    injection e with e
    subst e
    simp only at he
    subst he
    exact h
  · exact hl.2.1 g t e
theorem fn_ok {ss : Specs} {ann : Nat → Option LoopGen} {f : FuncId} {fn : Func} {s : Spec} {pv : Prop} (hss : ss.ok Try.prog) (hfn : Try.prog.funcs[f]? = some fn) (e : pv = fnVC Try.prog ss ann fn s) (h : pv) : s.ok Try.prog f := fn_sound hss hfn (e.mp h)
def sp_lim (s : Spec) (mu : Dens s.Ts → Nat) (k : Nat) : Spec := { Ts := s.Ts, Rs := s.Rs, al := s.al, pre := fun x => s.pre x ∧ mu x < k, F := s.F }
theorem rec_sound {P : Program} {f : Nat} {s : Spec} {mu : Dens s.Ts → Nat} (h : ∀ k, (sp_lim s mu k).ok P f → (sp_lim s mu (k + 1)).ok P f) : s.ok P f := by
  have all : ∀ k, (sp_lim s mu k).ok P f := by
    intro k
    induction k with
    | zero => intro p w vs x _ _ hp; exact absurd hp.2 (Nat.not_lt_zero _)
    | succ k ih => exact h k ih
  intro p w vs x hA hv hp
  exact all (mu x + 1) p w vs x hA hv ⟨hp, Nat.lt_succ_self _⟩
def sp_room : (T : Ty) → T.den → Prop
  | .arr T, xs => (show List T.den from xs).length * T.bytes ≤ 140737488351232 ∧ ∀ x ∈ (show List T.den from xs), sp_room T x
  | .pair A B, x => sp_room A x.1 ∧ sp_room B x.2
  | .str, s => s.length ≤ 140737488351232
  | .int _, _ => True
  | .bool, _ => True
  | .nil, _ => True
  | .ref _, _ => True
  | .fn _ _, _ => True
  | .map _ _, _ => True
def sp_rooms : (Ts : List Ty) → Dens Ts → Prop
  | [], _ => True
  | [T], x => sp_room T x
  | T :: U :: Ts, x => sp_room T x.1 ∧ sp_rooms (U :: Ts) x.2
def sp_law (Ts : List Ty) : Spec := { Ts := Ts, Rs := [.dat .bool], pre := sp_rooms Ts, F := fun _ => (true : Bool) }
def sp_small (B : Nat) : (T : Ty) → T.den → Prop
  | .arr T, xs => (show List T.den from xs).length ≤ B ∧ ∀ x ∈ (show List T.den from xs), sp_small B T x
  | .pair A C, x => sp_small B A x.1 ∧ sp_small B C x.2
  | .str, s => s.length ≤ B
  | .int _, _ => True
  | .bool, _ => True
  | .nil, _ => True
  | .ref _, _ => True
  | .fn _ _, _ => True
  | .map _ _, _ => True
def sp_smalls (B : Nat) : (Ts : List Ty) → Dens Ts → Prop
  | [], _ => True
  | [T], x => sp_small B T x
  | T :: U :: Ts, x => sp_small B T x.1 ∧ sp_smalls B (U :: Ts) x.2
def an_0 : Nat → Option LoopGen := fun _ => none
abbrev ty_I : Ty := .int .i64
abbrev ty_W : Ty := .int .u64
abbrev Obj := Int × List Int × List Int × Bool
theorem wrapU {n : Int} (h : 0 ≤ n) (h2 : n ≤ 18446744073709551615) : IntKind.u64.wrap n = n := wrap_of_inR (k := .u64) ⟨h, h2⟩
theorem wrapI {n : Int} (h : -9223372036854775808 ≤ n) (h2 : n ≤ 9223372036854775807) : IntKind.i64.wrap n = n := wrap_of_inR (k := .i64) ⟨h, h2⟩
theorem drop_cons {α : Type} {xs : List α} (d : α) {i : Int} (h0 : 0 ≤ i) (h : i < (xs.length : Int)) : xs.drop i.toNat = xs.getD i.toNat d :: xs.drop (i + 1).toNat := by
  have hi : i.toNat < xs.length := by omega
  rw [List.drop_eq_getElem_cons hi, show (i + 1).toNat = i.toNat + 1 by omega]
  simp [hi]
theorem drop_end {α : Type} {xs : List α} {i : Int} (h : ¬ i < (xs.length : Int)) : xs.drop i.toNat = [] := by
  rw [List.drop_eq_nil_iff]; omega
theorem take_snoc {α : Type} {xs : List α} (d : α) {i : Int} (h0 : 0 ≤ i) (h : i < (xs.length : Int)) : xs.take (i + 1).toNat = xs.take i.toNat ++ [xs.getD i.toNat d] := by
  have hi : i.toNat < xs.length := by omega
  rw [show (i + 1).toNat = i.toNat + 1 by omega, List.take_succ_eq_append_getElem hi]
  simp [hi]
theorem take_end {α : Type} {xs : List α} {i : Int} (h : ¬ i < (xs.length : Int)) : xs.take i.toNat = xs := by
  rw [List.take_of_length_le]; omega
theorem getD_mem {α : Type} {xs : List α} (d : α) {i : Int} (h0 : 0 ≤ i) (h : i < (xs.length : Int)) : xs.getD i.toNat d ∈ xs := by
  have hi : i.toNat < xs.length := by omega
  simp [hi]
end Go.Proofs.Ytcnoiiohmpgckaa
