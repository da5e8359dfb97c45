
import Derived.Test.YtglchojglcobjaaGreatEG6
import Derived.Test.YtglchojglcobjaaGreatRows
namespace Go.Proofs.YtglchojglcobjaaGreat
open Go
def GU:List (Nat×Spec)→FuncId→Option Spec
 | [],_=>none
 | e::l,f=>if Nat.beq e.1 f then some e.2 else GU l f
def GT:List (Nat×RowFn)→FuncId→Option RowFn
 | [],_=>none
 | e::l,f=>if Nat.beq e.1 f then some e.2 else GT l f
def Ia (l:List (Nat×Spec)) (r:List (Nat×RowFn):=[]):Specs:=⟨GU l,GT r⟩
theorem ap:(Ia []).ok Tryz.prog:=by
 refine ⟨rfl,?_,?_⟩
 ·intro f s h
  cases h
 ·intro f s h
  cases h
theorem ne {P:Program} {f:Nat} {s:RowFn} {r:List (Nat×RowFn)} (h:s.ok P f) (hl:(Ia [] r).ok P):(Ia [] ((f,s)::r)).ok P:=by
 refine ⟨hl.1,hl.2.1,?_⟩
 intro g t e
 have e:GT ((f,s)::r) g=some t:=e
 unfold GT at e
 split at e
 ·rename_i he
  have he:=Nat.eq_of_beq_eq_true he
  injection e with e
  subst e
  simp only at he
  subst he
  exact h
 ·exact hl.2.2 g t e
theorem ae {P:Program} {f:Nat} {s:Spec} {l:List (Nat×Spec)} {r:List (Nat×RowFn)} (h:s.ok P f) (hl:(Ia l r).ok P):(Ia ((f,s)::l) r).ok P:=by
 refine ⟨hl.1,?_,hl.2.2⟩
 intro g t e
 have e:GU ((f,s)::l) g=some t:=e
 unfold GU at e
 split at e
 ·rename_i he
  have he:=Nat.eq_of_beq_eq_true he
  injection e with e
  subst e
  simp only at he
  subst he
  exact h
 ·exact hl.2.1 g t e
theorem aI {ss:Specs} {ann:Nat→Option LoopGen} {f:FuncId} {fn:Func} {s:Spec} {pv:Prop} (hss:ss.ok Tryz.prog) (hfn:Tryz.prog.funcs[f]?=some fn) (e:pv=H3 Tryz.prog ss ann fn s) (h:pv):s.ok Tryz.prog f:=Ge hss hfn (e.mp h)
def fe:(T:Ty)→T.den→Prop
 | .arr T,xs=>(show List T.den from xs).length * T.bytes≤140737488351232∧∀ x∈(show List T.den from xs),fe T x
 | .pair A B,x=>fe A x.1∧fe B x.2
 | .str,s=>s.length≤140737488351232
 | .int _,_=>True
 | .bool,_=>True
 | .nil,_=>True
 | .ref _,_=>True
 | .fn _ _,_=>True
 | .map _ _,_=>True
def kp:(Ts:List Ty)→gy Ts→Prop
 | [],_=>True
 | [T],x=>fe T x
 | T::U::Ts,x=>fe T x.1∧kp (U::Ts) x.2
def Fl (Ts:List Ty):Spec:={ Ts:=Ts,Rs:=[.dat .bool],pre:=kp Ts,F:=fun _=>(true:Bool) }
def fZ (B:Nat):(T:Ty)→T.den→Prop
 | .arr T,xs=>(show List T.den from xs).length≤B∧∀ x∈(show List T.den from xs),fZ B T x
 | .pair A C,x=>fZ B A x.1∧fZ B C x.2
 | .str,s=>s.length≤B
 | .int _,_=>True
 | .bool,_=>True
 | .nil,_=>True
 | .ref _,_=>True
 | .fn _ _,_=>True
 | .map _ _,_=>True
def oM (B:Nat):(Ts:List Ty)→gy Ts→Prop
 | [],_=>True
 | [T],x=>fZ B T x
 | T::U::Ts,x=>fZ B T x.1∧oM B (U::Ts) x.2
def cT:Nat→Option LoopGen:=fun _=>none
abbrev ty_I:Ty:=.int .i64
abbrev be:Ty:=.int .u64
abbrev cN:Ty:=.pair ty_I (.pair ty_I (.pair ty_I .bool))
abbrev E8:Ty:=.pair ty_I (.pair (.arr ty_I) (.pair (.arr be) .bool))
abbrev Obj:=Int×List Int×List Int×Bool
theorem gj {n:Int} (h:0≤n) (h2:n≤18446744073709551615):IntKind.u64.wrap n=n:=c6 (k:=.u64) ⟨h,h2⟩
theorem ki {n:Int} (h:-9223372036854775808≤n) (h2:n≤9223372036854775807):IntKind.i64.wrap n=n:=c6 (k:=.i64) ⟨h,h2⟩
theorem xF {a b:Int} {i:Nat} (ha:0≤a) (hb:0≤b) (h:a<2 ^ i):((a.toNat ||| (b * 2 ^ i).toNat:Nat):Int)=a+b * 2 ^ i:=by
 obtain ⟨m,rfl⟩:=Int.eq_ofNat_of_zero_le ha
 obtain ⟨n,rfl⟩:=Int.eq_ofNat_of_zero_le hb
 have h1:m<2 ^ i:=by exact_mod_cast h
 have e:((n:Int) * 2 ^ i).toNat=n * 2 ^ i:=by
  have:((n:Int) * 2 ^ i)=((n * 2 ^ i:Nat):Int):=by push_cast; rfl
  rw [this,Int.toNat_natCast]
 rw [e,Int.toNat_natCast,Nat.or_comm,Nat.mul_comm n,← Nat.two_pow_add_eq_or_of_lt h1 n]
 push_cast
 rw [Int.add_comm,Int.mul_comm]
theorem sG {a:Int} (ha:0≤a) (i:Nat):((a.toNat &&& (2 ^ i - 1):Nat):Int)=a % 2 ^ i:=by
 obtain ⟨m,rfl⟩:=Int.eq_ofNat_of_zero_le ha
 rw [Nat.and_two_pow_sub_one_eq_mod]
 push_cast
 rw [Int.toNat_natCast]
theorem xD (m i:Nat):m &&& 2 ^ i=m / 2 ^ i % 2 * 2 ^ i:=by
 apply Nat.eq_of_testBit_eq
 intro j
 rw [Nat.testBit_and,Nat.testBit_two_pow]
 have key:m / 2 ^ i % 2=(m.testBit i).toNat:=by
  rw [Nat.testBit_eq_decide_div_mod_eq]
  rcases Nat.mod_two_eq_zero_or_one (m / 2 ^ i) with h | h <;> simp [h]
 rw [key]
 by_cases hij:i=j
 ·subst hij
  cases h:m.testBit i <;> simp
 ·cases h:m.testBit i <;> simp [hij]
theorem FY {a:Int} (ha:0≤a) (i:Nat):((a.toNat &&& 2 ^ i:Nat):Int)=a / 2 ^ i % 2 * 2 ^ i:=by
 obtain ⟨m,rfl⟩:=Int.eq_ofNat_of_zero_le ha
 rw [Int.toNat_natCast,xD]
 push_cast
 rfl
theorem aS {α:Type} {xs:List α} (d:α) {i:Int} (h0:0≤i) (h:i<(xs.length:Int)):xs.drop i.toNat=xs.getD i.toNat d::xs.drop (i+1).toNat:=by
 have hi:i.toNat<xs.length:=by omega
 rw [List.drop_eq_getElem_cons hi,show (i+1).toNat=i.toNat+1 by omega]
 simp [hi]
theorem bn {α:Type} {xs:List α} {i:Int} (h:¬ i<(xs.length:Int)):xs.drop i.toNat=[]:=by
 rw [List.drop_eq_nil_iff]; omega
theorem bj {α:Type} {xs:List α} (d:α) {i:Int} (h0:0≤i) (h:i<(xs.length:Int)):xs.take (i+1).toNat=xs.take i.toNat++[xs.getD i.toNat d]:=by
 have hi:i.toNat<xs.length:=by omega
 rw [show (i+1).toNat=i.toNat+1 by omega,List.take_succ_eq_append_getElem hi]
 simp [hi]
theorem bE {α:Type} {xs:List α} {i:Int} (h:¬ i<(xs.length:Int)):xs.take i.toNat=xs:=by
 rw [List.take_of_length_le]; omega
theorem aD {α:Type} {xs:List α} (d:α) {i:Int} (h0:0≤i) (h:i<(xs.length:Int)):xs.getD i.toNat d∈xs:=by
 have hi:i.toNat<xs.length:=by omega
 simp [hi]
end Go.Proofs.YtglchojglcobjaaGreat
