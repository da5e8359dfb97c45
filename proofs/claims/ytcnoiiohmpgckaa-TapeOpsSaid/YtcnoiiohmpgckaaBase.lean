
import Derived.Test.YtcnoiiohmpgckaaEG6
import Derived.Test.YtcnoiiohmpgckaaRows
namespace Go.Proofs.Ytcnoiiohmpgckaa
open Go
def qa:List (Nat×Spec)→FuncId→Option Spec
 | [],_=>none
 | e::l,f=>if Nat.beq e.1 f then some e.2 else qa l f
def q9:List (Nat×RowFn)→FuncId→Option RowFn
 | [],_=>none
 | e::l,f=>if Nat.beq e.1 f then some e.2 else q9 l f
def qX (l:List (Nat×Spec)) (r:List (Nat×RowFn):=[]):Specs:=⟨qa l,q9 r⟩
theorem cV:(qX []).ok Try.prog:=by
 refine ⟨rfl,?_,?_⟩
 ·intro f s h
  cases h
 ·intro f s h
  cases h
theorem b9 {P:Program} {f:Nat} {s:Spec} {l:List (Nat×Spec)} {r:List (Nat×RowFn)} (h:s.ok P f) (hl:(qX l r).ok P):(qX ((f,s)::l) r).ok P:=by
 refine ⟨hl.1,?_,hl.2.2⟩
 intro g t e
 have e:qa ((f,s)::l) g=some t:=e
 unfold qa at e
 split at e
 ·rename_i he
  have he:=Nat.eq_of_beq_eq_true he
  injection e with e
  subst e
  simp only at he
  subst he
  exact h
 ·exact hl.2.1 g t e
theorem ie {ss:Specs} {ann:Nat→Option LoopGen} {f:FuncId} {fn:Func} {s:Spec} {pv:Prop} (hss:ss.ok Try.prog) (hfn:Try.prog.funcs[f]?=some fn) (e:pv=pJ Try.prog ss ann fn s) (h:pv):s.ok Try.prog f:=my hss hfn (e.mp h)
def dU (s:Spec) (mu:cD s.Ts→Nat) (k:Nat):Spec:={ Ts:=s.Ts,Rs:=s.Rs,al:=s.al,pre:=fun x=>s.pre x∧mu x<k,F:=s.F }
theorem oI {P:Program} {f:Nat} {s:Spec} {mu:cD s.Ts→Nat} (h:∀ k,(dU s mu k).ok P f→(dU s mu (k+1)).ok P f):s.ok P f:=by
 have all:∀ k,(dU s mu k).ok P f:=by
  intro k
  induction k with
  | zero=>intro p w vs x _ _ _ hp; exact absurd hp.2 (Nat.not_lt_zero _)
  | succ k ih=>exact h k ih
 intro p w vs x hL hA hv hp
 exact all (mu x+1) p w vs x hL hA hv ⟨hp,Nat.lt_succ_self _⟩
def cI:(T:Ty)→T.den→Prop
 | .arr T,xs=>(show List T.den from xs).length * T.bytes≤140737488351232∧∀ x∈(show List T.den from xs),cI T x
 | .pair A B,x=>cI A x.1∧cI B x.2
 | .str,s=>s.length≤140737488351232
 | .int _,_=>True
 | .bool,_=>True
 | .nil,_=>True
 | .ref _,_=>True
 | .fn _ _,_=>True
 | .map _ _,_=>True
def eu:(Ts:List Ty)→cD Ts→Prop
 | [],_=>True
 | [T],x=>cI T x
 | T::U::Ts,x=>cI T x.1∧eu (U::Ts) x.2
def ph (Ts:List Ty):Spec:={ Ts:=Ts,Rs:=[.dat .bool],pre:=eu Ts,F:=fun _=>(true:Bool) }
def cu (B:Nat):(T:Ty)→T.den→Prop
 | .arr T,xs=>(show List T.den from xs).length≤B∧∀ x∈(show List T.den from xs),cu B T x
 | .pair A C,x=>cu B A x.1∧cu B C x.2
 | .str,s=>s.length≤B
 | .int _,_=>True
 | .bool,_=>True
 | .nil,_=>True
 | .ref _,_=>True
 | .fn _ _,_=>True
 | .map _ _,_=>True
def gA (B:Nat):(Ts:List Ty)→cD Ts→Prop
 | [],_=>True
 | [T],x=>cu B T x
 | T::U::Ts,x=>cu B T x.1∧gA B (U::Ts) x.2
def qt:Nat→Option LoopGen:=fun _=>none
abbrev gw:Ty:=.int .i64
abbrev eo:Ty:=.int .u64
abbrev Obj:=Int×List Int×List Int×Bool
theorem nL {n:Int} (h:0≤n) (h2:n≤18446744073709551615):IntKind.u64.wrap n=n:=aT (k:=.u64) ⟨h,h2⟩
theorem qZ {n:Int} (h:-9223372036854775808≤n) (h2:n≤9223372036854775807):IntKind.i64.wrap n=n:=aT (k:=.i64) ⟨h,h2⟩
theorem nM {n:Int}:IntKind.u8.wrap n=n % 256:=by
 simp [IntKind.wrap,IntKind.bits,IntKind.signed]
theorem qC:((IntKind.u64.bits:Nat):Int)=64:=rfl
theorem nZ {a b:Int} {i:Nat} (ha:0≤a) (hb:0≤b) (h:a<2 ^ i):((a.toNat ||| (b * 2 ^ i).toNat:Nat):Int)=a+b * 2 ^ i:=by
 obtain ⟨m,rfl⟩:=Int.eq_ofNat_of_zero_le ha
 obtain ⟨n,rfl⟩:=Int.eq_ofNat_of_zero_le hb
 have h1:m<2 ^ i:=by exact_mod_cast h
 have e:((n:Int) * 2 ^ i).toNat=n * 2 ^ i:=by
  have:((n:Int) * 2 ^ i)=((n * 2 ^ i:Nat):Int):=by push_cast; rfl
  rw [this,Int.toNat_natCast]
 rw [e,Int.toNat_natCast,Nat.or_comm,Nat.mul_comm n,← Nat.two_pow_add_eq_or_of_lt h1 n]
 push_cast
 rw [Int.add_comm,Int.mul_comm]
theorem eU {α:Type} {xs:List α} (d:α) {i:Int} (h0:0≤i) (h:i<(xs.length:Int)):xs.take (i+1).toNat=xs.take i.toNat++[xs.getD i.toNat d]:=by
 have hi:i.toNat<xs.length:=by omega
 rw [show (i+1).toNat=i.toNat+1 by omega,List.take_succ_eq_append_getElem hi]
 simp [hi]
theorem lO {α:Type} {xs:List α} {i:Int} (h:¬ i<(xs.length:Int)):xs.take i.toNat=xs:=by
 rw [List.take_of_length_le]; omega
theorem jd {α:Type} {xs:List α} (d:α) {i:Int} (h0:0≤i) (h:i<(xs.length:Int)):xs.getD i.toNat d∈xs:=by
 have hi:i.toNat<xs.length:=by omega
 simp [hi]
end Go.Proofs.Ytcnoiiohmpgckaa
