
import Derived.Test.YtcnoiiohmpgckaaEG6
import Derived.Test.YtcnoiiohmpgckaaRows
namespace Go.Proofs.Ytcnoiiohmpgckaa
open Go
def uy:List (Nat×Spec)→FuncId→Option Spec
 | [],_=>none
 | e::l,f=>if Nat.beq e.1 f then some e.2 else uy l f
def ux:List (Nat×RowFn)→FuncId→Option RowFn
 | [],_=>none
 | e::l,f=>if Nat.beq e.1 f then some e.2 else ux l f
def vE (l:List (Nat×Spec)) (r:List (Nat×RowFn):=[]):Specs:=⟨uy l,ux r⟩
theorem au:(vE []).ok Try.prog:=by
 refine ⟨rfl,?_,?_⟩
 ·intro f s h
  cases h
 ·intro f s h
  cases h
theorem rB {P:Program} {f:Nat} {s:RowFn} {r:List (Nat×RowFn)} (h:s.ok P f) (hl:(vE [] r).ok P):(vE [] ((f,s)::r)).ok P:=by
 refine ⟨hl.1,hl.2.1,?_⟩
 intro g t e
 have e:ux ((f,s)::r) g=some t:=e
 unfold ux at e
 split at e
 ·rename_i he
  have he:=Nat.eq_of_beq_eq_true he
  injection e with e
  subst e
  simp only at he
  subst he
  exact h
 ·exact hl.2.2 g t e
theorem af {P:Program} {f:Nat} {s:Spec} {l:List (Nat×Spec)} {r:List (Nat×RowFn)} (h:s.ok P f) (hl:(vE l r).ok P):(vE ((f,s)::l) r).ok P:=by
 refine ⟨hl.1,?_,hl.2.2⟩
 intro g t e
 have e:uy ((f,s)::l) g=some t:=e
 unfold uy at e
 split at e
 ·rename_i he
  have he:=Nat.eq_of_beq_eq_true he
  injection e with e
  subst e
  simp only at he
  subst he
  exact h
 ·exact hl.2.1 g t e
theorem aQ {ss:Specs} {ann:Nat→Option LoopGen} {f:FuncId} {fn:Func} {s:Spec} {pv:Prop} (hss:ss.ok Try.prog) (hfn:Try.prog.funcs[f]?=some fn) (e:pv=vt Try.prog ss ann fn s) (h:pv):s.ok Try.prog f:=tY hss hfn (e.mp h)
def cp:(T:Ty)→T.den→Prop
 | .arr T,xs=>(show List T.den from xs).length * T.bytes≤140737488351232∧∀ x∈(show List T.den from xs),cp T x
 | .pair A B,x=>cp A x.1∧cp B x.2
 | .str,s=>s.length≤140737488351232
 | .int _,_=>True
 | .bool,_=>True
 | .nil,_=>True
 | .ref _,_=>True
 | .fn _ _,_=>True
 | .map _ _,_=>True
def fB:(Ts:List Ty)→dt Ts→Prop
 | [],_=>True
 | [T],x=>cp T x
 | T::U::Ts,x=>cp T x.1∧fB (U::Ts) x.2
def bF (B:Nat):(T:Ty)→T.den→Prop
 | .arr T,xs=>(show List T.den from xs).length≤B∧∀ x∈(show List T.den from xs),bF B T x
 | .pair A C,x=>bF B A x.1∧bF B C x.2
 | .str,s=>s.length≤B
 | .int _,_=>True
 | .bool,_=>True
 | .nil,_=>True
 | .ref _,_=>True
 | .fn _ _,_=>True
 | .map _ _,_=>True
def eM (B:Nat):(Ts:List Ty)→dt Ts→Prop
 | [],_=>True
 | [T],x=>bF B T x
 | T::U::Ts,x=>bF B T x.1∧eM B (U::Ts) x.2
def rC (Ts:List Ty):Spec:={ Ts:=Ts,Rs:=[.dat .bool],pre:=fun x=>fB Ts x∧eM 1048576 Ts x,F:=fun _=>(true:Bool) }
def eV:Nat→Option LoopGen:=fun _=>none
abbrev ty_I:Ty:=.int .i64
abbrev bZ:Ty:=.int .u64
abbrev bS:Ty:=.pair ty_I (.pair ty_I (.pair ty_I .bool))
abbrev Obj:=Int×List Int×List Int×Bool
theorem vC {n:Int} (h:0≤n) (h2:n≤18446744073709551615):IntKind.u64.wrap n=n:=bp (k:=.u64) ⟨h,h2⟩
theorem fv {n:Int} (h:-9223372036854775808≤n) (h2:n≤9223372036854775807):IntKind.i64.wrap n=n:=bp (k:=.i64) ⟨h,h2⟩
theorem kX {a:Int} (ha:0≤a) (i:Nat):((a.toNat &&& (2 ^ i - 1):Nat):Int)=a % 2 ^ i:=by
 obtain ⟨m,rfl⟩:=Int.eq_ofNat_of_zero_le ha
 rw [Nat.and_two_pow_sub_one_eq_mod]
 push_cast
 rw [Int.toNat_natCast]
theorem oc (m i:Nat):m &&& 2 ^ i=m / 2 ^ i % 2 * 2 ^ i:=by
 apply Nat.eq_of_testBit_eq
 intro j
 rw [Nat.testBit_and,Nat.testBit_two_pow]
 have key:m / 2 ^ i % 2=(m.testBit i).toNat:=by
  rw [Nat.testBit_eq_decide_div_mod_eq]
  rcases Nat.mod_two_eq_zero_or_one (m / 2 ^ i) with h | h <;> simp [h]
 rw [key]
 by_cases hij:i=j
 ·subst hij
  cases h:m.testBit i <;> simp
 ·cases h:m.testBit i <;> simp [hij]
theorem tN {a:Int} (ha:0≤a) (i:Nat):((a.toNat &&& 2 ^ i:Nat):Int)=a / 2 ^ i % 2 * 2 ^ i:=by
 obtain ⟨m,rfl⟩:=Int.eq_ofNat_of_zero_le ha
 rw [Int.toNat_natCast,oc]
 push_cast
 rfl
theorem az {α:Type} {xs:List α} (d:α) {i:Int} (h0:0≤i) (h:i<(xs.length:Int)):xs.drop i.toNat=xs.getD i.toNat d::xs.drop (i+1).toNat:=by
 have hi:i.toNat<xs.length:=by omega
 rw [List.drop_eq_getElem_cons hi,show (i+1).toNat=i.toNat+1 by omega]
 simp [hi]
theorem aL {α:Type} {xs:List α} {i:Int} (h:¬ i<(xs.length:Int)):xs.drop i.toNat=[]:=by
 rw [List.drop_eq_nil_iff]; omega
theorem dl {α:Type} {xs:List α} (d:α) {i:Int} (h0:0≤i) (h:i<(xs.length:Int)):xs.take (i+1).toNat=xs.take i.toNat++[xs.getD i.toNat d]:=by
 have hi:i.toNat<xs.length:=by omega
 rw [show (i+1).toNat=i.toNat+1 by omega,List.take_succ_eq_append_getElem hi]
 simp [hi]
theorem gX {α:Type} {xs:List α} {i:Int} (h:¬ i<(xs.length:Int)):xs.take i.toNat=xs:=by
 rw [List.take_of_length_le]; omega
theorem bW {α:Type} {xs:List α} (d:α) {i:Int} (h0:0≤i) (h:i<(xs.length:Int)):xs.getD i.toNat d∈xs:=by
 have hi:i.toNat<xs.length:=by omega
 simp [hi]
end Go.Proofs.Ytcnoiiohmpgckaa
