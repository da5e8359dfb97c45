
import Derived.Test.YtcnoiiohmpgckaaEG6
import Derived.Test.YtcnoiiohmpgckaaRows
namespace Go.Proofs.Ytcnoiiohmpgckaa
open Go
def u0:List (Nat×Spec)→FuncId→Option Spec
 | [],_=>none
 | e::l,f=>if Nat.beq e.1 f then some e.2 else u0 l f
def uZ:List (Nat×TFn)→FuncId→Option TFn
 | [],_=>none
 | e::l,f=>if Nat.beq e.1 f then some e.2 else uZ l f
def vL (l:List (Nat×Spec)) (r:List (Nat×TFn):=[]):Specs:={ fn:=u0 l,row:=uZ r }
theorem aJ:(vL []).ok Try.prog:=by
 refine ⟨rfl,?_,?_⟩
 ·intro f s h
  cases h
 ·intro f s h
  cases h
theorem tN {P:Program} {f:Nat} {s:TFn} {r:List (Nat×TFn)} (h:s.ok P f) (hl:(vL [] r).ok P):(vL [] ((f,s)::r)).ok P:=by
 refine ⟨hl.1,hl.2.1,?_⟩
 intro g t e
 have e:uZ ((f,s)::r) g=some t:=e
 unfold uZ at e
 split at e
 ·rename_i he
  have he:=Nat.eq_of_beq_eq_true he
  injection e with e
  subst e
  simp only at he
  subst he
  exact h
 ·exact hl.2.2 g t e
theorem r9 {P:Program} {f:Nat} {s:RowFn} {r:List (Nat×TFn)} (h:s.ok P f) (hl:(vL [] r).ok P):(vL [] ((f,.row s)::r)).ok P:=tN (s:=.row s) h hl
theorem ai {P:Program} {f:Nat} {s:Spec} {l:List (Nat×Spec)} {r:List (Nat×TFn)} (h:s.ok P f) (hl:(vL l r).ok P):(vL ((f,s)::l) r).ok P:=by
 refine ⟨hl.1,?_,hl.2.2⟩
 intro g t e
 have e:u0 ((f,s)::l) g=some t:=e
 unfold u0 at e
 split at e
 ·rename_i he
  have he:=Nat.eq_of_beq_eq_true he
  injection e with e
  subst e
  simp only at he
  subst he
  exact h
 ·exact hl.2.1 g t e
theorem bJ {ss:Specs} {ann:Nat→Option LoopGen} {f:FuncId} {fn:Func} {s:Spec} {pv:Prop} (hss:ss.ok Try.prog) (hfn:Try.prog.funcs[f]?=some fn) (e:pv=vV Try.prog ss ann fn s) (h:pv):s.ok Try.prog f:=ux hss hfn (e.mp h)
def dF:(T:Ty)→T.den→Prop
 | .arr T,xs=>(show List T.den from xs).length * T.bytes≤140737488351232∧∀ x∈(show List T.den from xs),dF T x
 | .pair A B,x=>dF A x.1∧dF B x.2
 | .str,s=>s.length≤140737488351232
 | .int _,_=>True
 | .bool,_=>True
 | .nil,_=>True
 | .ref _,_=>True
 | .fn _ _,_=>True
 | .map _ _,_=>True
def gl:(Ts:List Ty)→dC Ts→Prop
 | [],_=>True
 | [T],x=>dF T x
 | T::U::Ts,x=>dF T x.1∧gl (U::Ts) x.2
def tT (Ts:List Ty):Spec:={ Ts:=Ts,Rs:=[.dat .bool],pre:=gl Ts,F:=fun _=>(true:Bool) }
def dE (B:Nat):(T:Ty)→T.den→Prop
 | .arr T,xs=>(show List T.den from xs).length≤B∧∀ x∈(show List T.den from xs),dE B T x
 | .pair A C,x=>dE B A x.1∧dE B C x.2
 | .str,s=>s.length≤B
 | .int _,_=>True
 | .bool,_=>True
 | .nil,_=>True
 | .ref _,_=>True
 | .fn _ _,_=>True
 | .map _ _,_=>True
def jr (B:Nat):(Ts:List Ty)→dC Ts→Prop
 | [],_=>True
 | [T],x=>dE B T x
 | T::U::Ts,x=>dE B T x.1∧jr B (U::Ts) x.2
def kM:Nat→Option LoopGen:=fun _=>none
abbrev ty_I:Ty:=.int .i64
abbrev ci:Ty:=.int .u64
abbrev dl:Ty:=.pair ty_I (.pair ty_I (.pair ty_I .bool))
abbrev Obj:=Int×List Int×List Int×Bool
theorem v6 {n:Int} (h:0≤n) (h2:n≤18446744073709551615):IntKind.u64.wrap n=n:=bO (k:=.u64) ⟨h,h2⟩
theorem eo {n:Int} (h:-9223372036854775808≤n) (h2:n≤9223372036854775807):IntKind.i64.wrap n=n:=bO (k:=.i64) ⟨h,h2⟩
theorem lQ {a:Int} (ha:0≤a) (i:Nat):((a.toNat &&& (2 ^ i - 1):Nat):Int)=a % 2 ^ i:=by
 obtain ⟨m,rfl⟩:=Int.eq_ofNat_of_zero_le ha
 rw [Nat.and_two_pow_sub_one_eq_mod]
 push_cast
 rw [Int.toNat_natCast]
theorem oW (m i:Nat):m &&& 2 ^ i=m / 2 ^ i % 2 * 2 ^ i:=by
 apply Nat.eq_of_testBit_eq
 intro j
 rw [Nat.testBit_and,Nat.testBit_two_pow]
 have key:m / 2 ^ i % 2=(m.testBit i).toNat:=by
  rw [Nat.testBit_eq_decide_div_mod_eq]
  rcases Nat.mod_two_eq_zero_or_one (m / 2 ^ i) with h | h <;> simp [h]
 rw [key]
 by_cases hij:i=j
 ·subst hij
  cases h:m.testBit i <;> simp
 ·cases h:m.testBit i <;> simp [hij]
theorem um {a:Int} (ha:0≤a) (i:Nat):((a.toNat &&& 2 ^ i:Nat):Int)=a / 2 ^ i % 2 * 2 ^ i:=by
 obtain ⟨m,rfl⟩:=Int.eq_ofNat_of_zero_le ha
 rw [Int.toNat_natCast,oW]
 push_cast
 rfl
theorem aV {α:Type} {xs:List α} (d:α) {i:Int} (h0:0≤i) (h:i<(xs.length:Int)):xs.drop i.toNat=xs.getD i.toNat d::xs.drop (i+1).toNat:=by
 have hi:i.toNat<xs.length:=by omega
 rw [List.drop_eq_getElem_cons hi,show (i+1).toNat=i.toNat+1 by omega]
 simp [hi]
theorem br {α:Type} {xs:List α} {i:Int} (h:¬ i<(xs.length:Int)):xs.drop i.toNat=[]:=by
 rw [List.drop_eq_nil_iff]; omega
theorem aI {α:Type} {xs:List α} (d:α) {i:Int} (h0:0≤i) (h:i<(xs.length:Int)):xs.take (i+1).toNat=xs.take i.toNat++[xs.getD i.toNat d]:=by
 have hi:i.toNat<xs.length:=by omega
 rw [show (i+1).toNat=i.toNat+1 by omega,List.take_succ_eq_append_getElem hi]
 simp [hi]
theorem aX {α:Type} {xs:List α} {i:Int} (h:¬ i<(xs.length:Int)):xs.take i.toNat=xs:=by
 rw [List.take_of_length_le]; omega
theorem bk {α:Type} {xs:List α} (d:α) {i:Int} (h0:0≤i) (h:i<(xs.length:Int)):xs.getD i.toNat d∈xs:=by
 have hi:i.toNat<xs.length:=by omega
 simp [hi]
end Go.Proofs.Ytcnoiiohmpgckaa
