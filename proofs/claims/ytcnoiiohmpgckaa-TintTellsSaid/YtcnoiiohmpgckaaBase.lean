
import Derived.Test.YtcnoiiohmpgckaaEG6
import Derived.Test.YtcnoiiohmpgckaaRows
namespace Go.Proofs.Ytcnoiiohmpgckaa
open Go
def w6:List (Nat×Spec)→FuncId→Option Spec
 | [],_=>none
 | e::l,f=>if Nat.beq e.1 f then some e.2 else w6 l f
def w5:List (Nat×TFn)→FuncId→Option TFn
 | [],_=>none
 | e::l,f=>if Nat.beq e.1 f then some e.2 else w5 l f
def xP (l:List (Nat×Spec)) (r:List (Nat×TFn):=[]):Specs:={ fn:=w6 l,row:=w5 r }
theorem aD:(xP []).ok Try.prog:=by
 refine ⟨rfl,?_,?_⟩
 ·intro f s h
  cases h
 ·intro f s h
  cases h
theorem vE {P:Program} {f:Nat} {s:TFn} {r:List (Nat×TFn)} (h:s.ok P f) (hl:(xP [] r).ok P):(xP [] ((f,s)::r)).ok P:=by
 refine ⟨hl.1,hl.2.1,?_⟩
 intro g t e
 have e:w5 ((f,s)::r) g=some t:=e
 unfold w5 at e
 split at e
 ·rename_i he
  have he:=Nat.eq_of_beq_eq_true he
  injection e with e
  subst e
  simp only at he
  subst he
  exact h
 ·exact hl.2.2 g t e
theorem w4 {P:Program} {f:Nat} {s:RowFn} {r:List (Nat×TFn)} (h:s.ok P f) (hl:(xP [] r).ok P):(xP [] ((f,.row s)::r)).ok P:=vE (s:=.row s) h hl
theorem ak {P:Program} {f:Nat} {s:Spec} {l:List (Nat×Spec)} {r:List (Nat×TFn)} (h:s.ok P f) (hl:(xP l r).ok P):(xP ((f,s)::l) r).ok P:=by
 refine ⟨hl.1,?_,hl.2.2⟩
 intro g t e
 have e:w6 ((f,s)::l) g=some t:=e
 unfold w6 at e
 split at e
 ·rename_i he
  have he:=Nat.eq_of_beq_eq_true he
  injection e with e
  subst e
  simp only at he
  subst he
  exact h
 ·exact hl.2.1 g t e
theorem bg {ss:Specs} {ann:Nat→Option LoopGen} {f:FuncId} {fn:Func} {s:Spec} {pv:Prop} (hss:ss.ok Try.prog) (hfn:Try.prog.funcs[f]?=some fn) (e:pv=x4 Try.prog ss ann fn s) (h:pv):s.ok Try.prog f:=wv hss hfn (e.mp h)
def dK:(T:Ty)→T.den→Prop
 | .arr T,xs=>(show List T.den from xs).length * T.bytes≤140737488351232∧∀ x∈(show List T.den from xs),dK T x
 | .pair A B,x=>dK A x.1∧dK B x.2
 | .str,s=>s.length≤140737488351232
 | .int _,_=>True
 | .bool,_=>True
 | .nil,_=>True
 | .ref _,_=>True
 | .fn _ _,_=>True
 | .map _ _,_=>True
def gy:(Ts:List Ty)→dH Ts→Prop
 | [],_=>True
 | [T],x=>dK T x
 | T::U::Ts,x=>dK T x.1∧gy (U::Ts) x.2
def vK (Ts:List Ty):Spec:={ Ts:=Ts,Rs:=[.dat .bool],pre:=gy Ts,F:=fun _=>(true:Bool) }
def dJ (B:Nat):(T:Ty)→T.den→Prop
 | .arr T,xs=>(show List T.den from xs).length≤B∧∀ x∈(show List T.den from xs),dJ B T x
 | .pair A C,x=>dJ B A x.1∧dJ B C x.2
 | .str,s=>s.length≤B
 | .int _,_=>True
 | .bool,_=>True
 | .nil,_=>True
 | .ref _,_=>True
 | .fn _ _,_=>True
 | .map _ _,_=>True
def jP (B:Nat):(Ts:List Ty)→dH Ts→Prop
 | [],_=>True
 | [T],x=>dJ B T x
 | T::U::Ts,x=>dJ B T x.1∧jP B (U::Ts) x.2
def gr:Nat→Option LoopGen:=fun _=>none
abbrev ty_I:Ty:=.int .i64
abbrev aM:Ty:=.int .u64
abbrev cO:Ty:=.pair ty_I (.pair ty_I (.pair ty_I .bool))
abbrev Obj:=Int×List Int×List Int×Bool
theorem xB {n:Int} (h:0≤n) (h2:n≤18446744073709551615):IntKind.u64.wrap n=n:=bK (k:=.u64) ⟨h,h2⟩
theorem gj {n:Int} (h:-9223372036854775808≤n) (h2:n≤9223372036854775807):IntKind.i64.wrap n=n:=bK (k:=.i64) ⟨h,h2⟩
theorem wQ:((IntKind.u64.bits:Nat):Int)=64:=rfl
theorem jm {a:Int} (ha:0≤a) (i:Nat):((a.toNat &&& (2 ^ i - 1):Nat):Int)=a % 2 ^ i:=by
 obtain ⟨m,rfl⟩:=Int.eq_ofNat_of_zero_le ha
 rw [Nat.and_two_pow_sub_one_eq_mod]
 push_cast
 rw [Int.toNat_natCast]
theorem pZ (m i:Nat):m &&& 2 ^ i=m / 2 ^ i % 2 * 2 ^ i:=by
 apply Nat.eq_of_testBit_eq
 intro j
 rw [Nat.testBit_and,Nat.testBit_two_pow]
 have key:m / 2 ^ i % 2=(m.testBit i).toNat:=by
  rw [Nat.testBit_eq_decide_div_mod_eq]
  rcases Nat.mod_two_eq_zero_or_one (m / 2 ^ i) with h | h <;> simp [h]
 rw [key]
 by_cases hij:i=j
 ·subst hij
  cases h:m.testBit i <;> simp
 ·cases h:m.testBit i <;> simp [hij]
theorem wg {a:Int} (ha:0≤a) (i:Nat):((a.toNat &&& 2 ^ i:Nat):Int)=a / 2 ^ i % 2 * 2 ^ i:=by
 obtain ⟨m,rfl⟩:=Int.eq_ofNat_of_zero_le ha
 rw [Int.toNat_natCast,pZ]
 push_cast
 rfl
theorem aS {α:Type} {xs:List α} (d:α) {i:Int} (h0:0≤i) (h:i<(xs.length:Int)):xs.drop i.toNat=xs.getD i.toNat d::xs.drop (i+1).toNat:=by
 have hi:i.toNat<xs.length:=by omega
 rw [List.drop_eq_getElem_cons hi,show (i+1).toNat=i.toNat+1 by omega]
 simp [hi]
theorem bo {α:Type} {xs:List α} {i:Int} (h:¬ i<(xs.length:Int)):xs.drop i.toNat=[]:=by
 rw [List.drop_eq_nil_iff]; omega
theorem bh {α:Type} {xs:List α} (d:α) {i:Int} (h0:0≤i) (h:i<(xs.length:Int)):xs.take (i+1).toNat=xs.take i.toNat++[xs.getD i.toNat d]:=by
 have hi:i.toNat<xs.length:=by omega
 rw [show (i+1).toNat=i.toNat+1 by omega,List.take_succ_eq_append_getElem hi]
 simp [hi]
theorem bZ {α:Type} {xs:List α} {i:Int} (h:¬ i<(xs.length:Int)):xs.take i.toNat=xs:=by
 rw [List.take_of_length_le]; omega
theorem bc {α:Type} {xs:List α} (d:α) {i:Int} (h0:0≤i) (h:i<(xs.length:Int)):xs.getD i.toNat d∈xs:=by
 have hi:i.toNat<xs.length:=by omega
 simp [hi]
end Go.Proofs.Ytcnoiiohmpgckaa
