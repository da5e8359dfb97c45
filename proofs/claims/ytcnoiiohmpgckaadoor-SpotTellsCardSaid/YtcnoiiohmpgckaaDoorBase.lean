
import Derived.Test.YtcnoiiohmpgckaaDoorEG6
import Derived.Test.YtcnoiiohmpgckaaDoorRows
namespace Go.Proofs.YtcnoiiohmpgckaaDoor
open Go
def qI:List (Nat×Spec)→FuncId→Option Spec
 | [],_=>none
 | e::l,f=>if Nat.beq e.1 f then some e.2 else qI l f
def rM:List (Nat×RowFn)→FuncId→Option RowFn
 | [],_=>none
 | e::l,f=>if Nat.beq e.1 f then some e.2 else rM l f
def rU (l:List (Nat×Spec)) (r:List (Nat×RowFn):=[]):Specs:=⟨qI l,rM r⟩
theorem aI:(rU []).ok Tryd.prog:=by
 refine ⟨rfl,?_,?_⟩
 ·intro f s h
  cases h
 ·intro f s h
  cases h
theorem am {P:Program} {f:Nat} {s:Spec} {l:List (Nat×Spec)} {r:List (Nat×RowFn)} (h:s.ok P f) (hl:(rU l r).ok P):(rU ((f,s)::l) r).ok P:=by
 refine ⟨hl.1,?_,hl.2.2⟩
 intro g t e
 have e:qI ((f,s)::l) g=some t:=e
 unfold qI at e
 split at e
 ·rename_i he
  have he:=Nat.eq_of_beq_eq_true he
  injection e with e
  subst e
  simp only at he
  subst he
  exact h
 ·exact hl.2.1 g t e
theorem ce {ss:Specs} {ann:Nat→Option LoopGen} {f:FuncId} {fn:Func} {s:Spec} {pv:Prop} (hss:ss.ok Tryd.prog) (hfn:Tryd.prog.funcs[f]?=some fn) (e:pv=rF Tryd.prog ss ann fn s) (h:pv):s.ok Tryd.prog f:=qj hss hfn (e.mp h)
def cJ:(T:Ty)→T.den→Prop
 | .arr T,xs=>(show List T.den from xs).length * T.bytes≤140737488351232∧∀ x∈(show List T.den from xs),cJ T x
 | .pair A B,x=>cJ A x.1∧cJ B x.2
 | .str,s=>s.length≤140737488351232
 | .int _,_=>True
 | .bool,_=>True
 | .nil,_=>True
 | .ref _,_=>True
 | .fn _ _,_=>True
 | .map _ _,_=>True
def ez:(Ts:List Ty)→cG Ts→Prop
 | [],_=>True
 | [T],x=>cJ T x
 | T::U::Ts,x=>cJ T x.1∧ez (U::Ts) x.2
def pM (Ts:List Ty):Spec:={ Ts:=Ts,Rs:=[.dat .bool],pre:=ez Ts,F:=fun _=>(true:Bool) }
def cq (B:Nat):(T:Ty)→T.den→Prop
 | .arr T,xs=>(show List T.den from xs).length≤B∧∀ x∈(show List T.den from xs),cq B T x
 | .pair A C,x=>cq B A x.1∧cq B C x.2
 | .str,s=>s.length≤B
 | .int _,_=>True
 | .bool,_=>True
 | .nil,_=>True
 | .ref _,_=>True
 | .fn _ _,_=>True
 | .map _ _,_=>True
def gz (B:Nat):(Ts:List Ty)→cG Ts→Prop
 | [],_=>True
 | [T],x=>cq B T x
 | T::U::Ts,x=>cq B T x.1∧gz B (U::Ts) x.2
def ko:Nat→Option LoopGen:=fun _=>none
abbrev ar:Ty:=.int .i64
abbrev bT:Ty:=.int .u64
abbrev Obj:=Int×List Int×List Int×Bool
theorem rK {n:Int} (h:0≤n) (h2:n≤18446744073709551615):IntKind.u64.wrap n=n:=bg (k:=.u64) ⟨h,h2⟩
theorem oQ:((IntKind.u64.bits:Nat):Int)=64:=rfl
theorem p8 {a:Int} (ha:0≤a) (i:Nat):((a.toNat &&& (2 ^ i - 1):Nat):Int)=a % 2 ^ i:=by
 obtain ⟨m,rfl⟩:=Int.eq_ofNat_of_zero_le ha
 rw [Nat.and_two_pow_sub_one_eq_mod]
 push_cast
 rw [Int.toNat_natCast]
theorem qd {α:Type} {xs:List α} (d:α) {i:Int} (h0:0≤i) (h:i<(xs.length:Int)):xs.getD i.toNat d∈xs:=by
 have hi:i.toNat<xs.length:=by omega
 simp [hi]
end Go.Proofs.YtcnoiiohmpgckaaDoor
