
import Derived.Test.YtcnoiiohmpgckaaEG6
import Derived.Test.YtcnoiiohmpgckaaRows
namespace Go.Proofs.Ytcnoiiohmpgckaa
open Go
def Bu:List (Nat×Spec)→FuncId→Option Spec
 | [],_=>none
 | e::l,f=>if Nat.beq e.1 f then some e.2 else Bu l f
def Bt:List (Nat×TFn)→FuncId→Option TFn
 | [],_=>none
 | e::l,f=>if Nat.beq e.1 f then some e.2 else Bt l f
def z8 (l:List (Nat×Spec)) (r:List (Nat×TFn):=[]):Specs:=⟨Bu l,Bt r⟩
theorem ax:(z8 []).ok Try.prog:=by
 refine ⟨rfl,?_,?_⟩
 ·intro f s h
  cases h
 ·intro f s h
  cases h
theorem vf {P:Program} {f:Nat} {s:TFn} {r:List (Nat×TFn)} (h:s.ok P f) (hl:(z8 [] r).ok P):(z8 [] ((f,s)::r)).ok P:=by
 refine ⟨hl.1,hl.2.1,?_⟩
 intro g t e
 have e:Bt ((f,s)::r) g=some t:=e
 unfold Bt at e
 split at e
 ·rename_i he
  have he:=Nat.eq_of_beq_eq_true he
  injection e with e
  subst e
  simp only at he
  subst he
  exact h
 ·exact hl.2.2 g t e
theorem kG {P:Program} {f:Nat} {s:RowFn} {r:List (Nat×TFn)} (h:s.ok P f) (hl:(z8 [] r).ok P):(z8 [] ((f,.row s)::r)).ok P:=vf (s:=.row s) h hl
theorem tf {P:Program} {f:Nat} {s:BoxFn} {r:List (Nat×TFn)} (h:s.ok P f) (hl:(z8 [] r).ok P):(z8 [] ((f,.box s)::r)).ok P:=vf (s:=.box s) h hl
theorem ai {P:Program} {f:Nat} {s:Spec} {l:List (Nat×Spec)} {r:List (Nat×TFn)} (h:s.ok P f) (hl:(z8 l r).ok P):(z8 ((f,s)::l) r).ok P:=by
 refine ⟨hl.1,?_,hl.2.2⟩
 intro g t e
 have e:Bu ((f,s)::l) g=some t:=e
 unfold Bu at e
 split at e
 ·rename_i he
  have he:=Nat.eq_of_beq_eq_true he
  injection e with e
  subst e
  simp only at he
  subst he
  exact h
 ·exact hl.2.1 g t e
theorem aQ {ss:Specs} {ann:Nat→Option LoopGen} {f:FuncId} {fn:Func} {s:Spec} {pv:Prop} (hss:ss.ok Try.prog) (hfn:Try.prog.funcs[f]?=some fn) (e:pv=A1 Try.prog ss ann fn s) (h:pv):s.ok Try.prog f:=wA hss hfn (e.mp h)
def hO (s:Spec) (mu:dv s.Ts→Nat) (k:Nat):Spec:={ Ts:=s.Ts,Rs:=s.Rs,al:=s.al,pre:=fun x=>s.pre x∧mu x<k,F:=s.F }
theorem zo {P:Program} {f:Nat} {s:Spec} {mu:dv s.Ts→Nat} (h:∀ k,(hO s mu k).ok P f→(hO s mu (k+1)).ok P f):s.ok P f:=by
 have all:∀ k,(hO s mu k).ok P f:=by
  intro k
  induction k with
  | zero=>intro p w vs x _ _ _ hp; exact absurd hp.2 (Nat.not_lt_zero _)
  | succ k ih=>exact h k ih
 intro p w vs x hL hA hv hp
 exact all (mu x+1) p w vs x hL hA hv ⟨hp,Nat.lt_succ_self _⟩
def dx:(T:Ty)→T.den→Prop
 | .arr T,xs=>(show List T.den from xs).length * T.bytes≤140737488351232∧∀ x∈(show List T.den from xs),dx T x
 | .pair A B,x=>dx A x.1∧dx B x.2
 | .str,s=>s.length≤140737488351232
 | .int _,_=>True
 | .bool,_=>True
 | .nil,_=>True
 | .ref _,_=>True
 | .fn _ _,_=>True
 | .map _ _,_=>True
def iH:(Ts:List Ty)→dv Ts→Prop
 | [],_=>True
 | [T],x=>dx T x
 | T::U::Ts,x=>dx T x.1∧iH (U::Ts) x.2
def Aq (Ts:List Ty):Spec:={ Ts:=Ts,Rs:=[.dat .bool],pre:=iH Ts,F:=fun _=>(true:Bool) }
def eh (B:Nat):(T:Ty)→T.den→Prop
 | .arr T,xs=>(show List T.den from xs).length≤B∧∀ x∈(show List T.den from xs),eh B T x
 | .pair A C,x=>eh B A x.1∧eh B C x.2
 | .str,s=>s.length≤B
 | .int _,_=>True
 | .bool,_=>True
 | .nil,_=>True
 | .ref _,_=>True
 | .fn _ _,_=>True
 | .map _ _,_=>True
def mr (B:Nat):(Ts:List Ty)→dv Ts→Prop
 | [],_=>True
 | [T],x=>eh B T x
 | T::U::Ts,x=>eh B T x.1∧mr B (U::Ts) x.2
def ew:Nat→Option LoopGen:=fun _=>none
abbrev ty_I:Ty:=.int .i64
abbrev bv:Ty:=.int .u64
abbrev eP:Ty:=.pair ty_I (.pair ty_I (.pair ty_I .bool))
abbrev Ah:Ty:=.pair ty_I (.pair (.arr ty_I) (.pair (.arr bv) .bool))
abbrev Obj:=Int×List Int×List Int×Bool
theorem m5 {n:Int} (h:0≤n) (h2:n≤18446744073709551615):IntKind.u64.wrap n=n:=b7 (k:=.u64) ⟨h,h2⟩
theorem eT {n:Int} (h:-9223372036854775808≤n) (h2:n≤9223372036854775807):IntKind.i64.wrap n=n:=b7 (k:=.i64) ⟨h,h2⟩
theorem yk {n:Int}:IntKind.u8.wrap n=n % 256:=by
 simp [IntKind.wrap,IntKind.bits,IntKind.signed]
theorem B2:((IntKind.u64.bits:Nat):Int)=64:=rfl
theorem yD {a b:Int} {i:Nat} (ha:0≤a) (hb:0≤b) (h:a<2 ^ i):((a.toNat ||| (b * 2 ^ i).toNat:Nat):Int)=a+b * 2 ^ i:=by
 obtain ⟨m,rfl⟩:=Int.eq_ofNat_of_zero_le ha
 obtain ⟨n,rfl⟩:=Int.eq_ofNat_of_zero_le hb
 have h1:m<2 ^ i:=by exact_mod_cast h
 have e:((n:Int) * 2 ^ i).toNat=n * 2 ^ i:=by
  have:((n:Int) * 2 ^ i)=((n * 2 ^ i:Nat):Int):=by push_cast; rfl
  rw [this,Int.toNat_natCast]
 rw [e,Int.toNat_natCast,Nat.or_comm,Nat.mul_comm n,← Nat.two_pow_add_eq_or_of_lt h1 n]
 push_cast
 rw [Int.add_comm,Int.mul_comm]
theorem pP {a:Int} (ha:0≤a) (i:Nat):((a.toNat &&& (2 ^ i - 1):Nat):Int)=a % 2 ^ i:=by
 obtain ⟨m,rfl⟩:=Int.eq_ofNat_of_zero_le ha
 rw [Nat.and_two_pow_sub_one_eq_mod]
 push_cast
 rw [Int.toNat_natCast]
theorem ud (m i:Nat):m &&& 2 ^ i=m / 2 ^ i % 2 * 2 ^ i:=by
 apply Nat.eq_of_testBit_eq
 intro j
 rw [Nat.testBit_and,Nat.testBit_two_pow]
 have key:m / 2 ^ i % 2=(m.testBit i).toNat:=by
  rw [Nat.testBit_eq_decide_div_mod_eq]
  rcases Nat.mod_two_eq_zero_or_one (m / 2 ^ i) with h | h <;> simp [h]
 rw [key]
 by_cases hij:i=j
 ·subst hij
  cases h:m.testBit i <;> simp
 ·cases h:m.testBit i <;> simp [hij]
theorem AO {a:Int} (ha:0≤a) (i:Nat):((a.toNat &&& 2 ^ i:Nat):Int)=a / 2 ^ i % 2 * 2 ^ i:=by
 obtain ⟨m,rfl⟩:=Int.eq_ofNat_of_zero_le ha
 rw [Int.toNat_natCast,ud]
 push_cast
 rfl
theorem aY {α:Type} {xs:List α} (d:α) {i:Int} (h0:0≤i) (h:i<(xs.length:Int)):xs.drop i.toNat=xs.getD i.toNat d::xs.drop (i+1).toNat:=by
 have hi:i.toNat<xs.length:=by omega
 rw [List.drop_eq_getElem_cons hi,show (i+1).toNat=i.toNat+1 by omega]
 simp [hi]
theorem bt {α:Type} {xs:List α} {i:Int} (h:¬ i<(xs.length:Int)):xs.drop i.toNat=[]:=by
 rw [List.drop_eq_nil_iff]; omega
theorem aW {α:Type} {xs:List α} (d:α) {i:Int} (h0:0≤i) (h:i<(xs.length:Int)):xs.take (i+1).toNat=xs.take i.toNat++[xs.getD i.toNat d]:=by
 have hi:i.toNat<xs.length:=by omega
 rw [show (i+1).toNat=i.toNat+1 by omega,List.take_succ_eq_append_getElem hi]
 simp [hi]
theorem bM {α:Type} {xs:List α} {i:Int} (h:¬ i<(xs.length:Int)):xs.take i.toNat=xs:=by
 rw [List.take_of_length_le]; omega
theorem aU {α:Type} {xs:List α} (d:α) {i:Int} (h0:0≤i) (h:i<(xs.length:Int)):xs.getD i.toNat d∈xs:=by
 have hi:i.toNat<xs.length:=by omega
 simp [hi]
end Go.Proofs.Ytcnoiiohmpgckaa
