import Derived.Test.YtglchojglcobjaaGreatDoorEG6
import Derived.Test.YtglchojglcobjaaGreatDoorRows
namespace Go.Proofs.YtglchojglcobjaaGreatDoor
section
open Go
def J3:List (Nat×Spec)→FuncId→Option Spec
 | [],_=>none
 | e::l,f=>if Nat.beq e.1 f then some e.2 else J3 l f
def J2:List (Nat×RowFn)→FuncId→Option RowFn
 | [],_=>none
 | e::l,f=>if Nat.beq e.1 f then some e.2 else J2 l f
def LF (l:List (Nat×Spec)) (r:List (Nat×RowFn):=[]):Specs:=⟨J3 l,J2 r⟩
theorem aq:(LF []).ok Tryz.prog:=by
 refine ⟨rfl,?_,?_⟩
 ·intro f s h;cases h
 ·intro f s h;cases h
theorem kx {P:Program} {f:Nat} {s:RowFn} {r:List (Nat×RowFn)} (h:s.ok P f) (hl:(LF [] r).ok P):(LF [] ((f,s)::r)).ok P:=by
 refine ⟨hl.1,hl.2.1,?_⟩;intro g t e;have e:J2 ((f,s)::r) g=some t:=e;unfold J2 at e;split at e
 ·rename_i he;have he:=Nat.eq_of_beq_eq_true he;injection e with e
  subst e;simp only at he;subst he;exact h
 ·exact hl.2.2 g t e
theorem ae {P:Program} {f:Nat} {s:Spec} {l:List (Nat×Spec)} {r:List (Nat×RowFn)} (h:s.ok P f) (hl:(LF l r).ok P):(LF ((f,s)::l) r).ok P:=by
 refine ⟨hl.1,?_,hl.2.2⟩;intro g t e;have e:J3 ((f,s)::l) g=some t:=e;unfold J3 at e;split at e
 ·rename_i he;have he:=Nat.eq_of_beq_eq_true he;injection e with e
  subst e;simp only at he;subst he;exact h
 ·exact hl.2.1 g t e
theorem aD {ss:Specs} {ann:Nat→Option LoopGen} {f:FuncId} {fn:Func} {s:Spec} {pv:Prop} (hss:ss.ok Tryz.prog) (hfn:Tryz.prog.funcs[f]?=some fn) (e:pv=Lu Tryz.prog ss ann fn s) (h:pv):s.ok Tryz.prog f:=Jg hss hfn (e.mp h)
def fI:(T:Ty)→T.den→Prop
 | .arr T,xs=>(show List T.den from xs).length * T.bytes≤140737488351232∧∀ x∈(show List T.den from xs),fI T x
 | .pair A B,x=>fI A x.1∧fI B x.2
 | .str,s=>s.length≤140737488351232
 | .int _,_=>True
 | .bool,_=>True
 | .nil,_=>True
 | .ref _,_=>True
 | .fn _ _,_=>True
 | .map _ _,_=>True
def lp:(Ts:List Ty)→ia Ts→Prop
 | [],_=>True
 | [T],x=>fI T x
 | T::U::Ts,x=>fI T x.1∧lp (U::Ts) x.2
def If (Ts:List Ty):Spec:={ Ts:=Ts,Rs:=[.dat .bool],pre:=lp Ts,F:=fun _=>(true:Bool) }
def gG (B:Nat):(T:Ty)→T.den→Prop
 | .arr T,xs=>(show List T.den from xs).length≤B∧∀ x∈(show List T.den from xs),gG B T x
 | .pair A C,x=>gG B A x.1∧gG B C x.2
 | .str,s=>s.length≤B
 | .int _,_=>True
 | .bool,_=>True
 | .nil,_=>True
 | .ref _,_=>True
 | .fn _ _,_=>True
 | .map _ _,_=>True
def pA (B:Nat):(Ts:List Ty)→ia Ts→Prop
 | [],_=>True
 | [T],x=>gG B T x
 | T::U::Ts,x=>gG B T x.1∧pA B (U::Ts) x.2
def cp:Nat→Option LoopGen:=fun _=>none
abbrev ty_I:Ty:=.int .i64
abbrev a8:Ty:=.int .u64
abbrev de:Ty:=.pair ty_I (.pair ty_I (.pair ty_I .bool))
abbrev Dl:Ty:=.pair ty_I (.pair (.arr ty_I) (.pair (.arr a8) .bool))
abbrev Obj:=Int×List Int×List Int×Bool
theorem fk {n:Int} (h:0≤n) (h2:n≤18446744073709551615):IntKind.u64.wrap n=n:=dl (k:=.u64) ⟨h,h2⟩
theorem jb {n:Int} (h:-9223372036854775808≤n) (h2:n≤9223372036854775807):IntKind.i64.wrap n=n:=dl (k:=.i64) ⟨h,h2⟩
theorem LW:((IntKind.u64.bits:Nat):Int)=64:=rfl
theorem r7 {a b:Int} {i:Nat} (ha:0≤a) (hb:0≤b) (h:a<2 ^ i):((a.toNat ||| (b * 2 ^ i).toNat:Nat):Int)=a+b * 2 ^ i:=by
 obtain ⟨m,rfl⟩:=Int.eq_ofNat_of_zero_le ha;obtain ⟨n,rfl⟩:=Int.eq_ofNat_of_zero_le hb;have h1:m<2 ^ i:=by exact_mod_cast h
 have e:((n:Int) * 2 ^ i).toNat=n * 2 ^ i:=by
  have:((n:Int) * 2 ^ i)=((n * 2 ^ i:Nat):Int):=by push_cast; rfl
  rw [this,Int.toNat_natCast]
 rw [e,Int.toNat_natCast,Nat.or_comm,Nat.mul_comm n,← Nat.two_pow_add_eq_or_of_lt h1 n]
 push_cast
 rw [Int.add_comm,Int.mul_comm]
theorem oU {a:Int} (ha:0≤a) (i:Nat):((a.toNat &&& (2 ^ i - 1):Nat):Int)=a % 2 ^ i:=by
 obtain ⟨m,rfl⟩:=Int.eq_ofNat_of_zero_le ha;rw [Nat.and_two_pow_sub_one_eq_mod]
 push_cast
 rw [Int.toNat_natCast]
theorem zd (m i:Nat):m &&& 2 ^ i=m / 2 ^ i % 2 * 2 ^ i:=by
 apply Nat.eq_of_testBit_eq;intro j;rw [Nat.testBit_and,Nat.testBit_two_pow]
 have key:m / 2 ^ i % 2=(m.testBit i).toNat:=by
  rw [Nat.testBit_eq_decide_div_mod_eq];rcases Nat.mod_two_eq_zero_or_one (m / 2 ^ i) with h | h <;> simp [h]
 rw [key];by_cases hij:i=j
 ·subst hij;cases h:m.testBit i <;> simp
 ·cases h:m.testBit i <;> simp [hij]
theorem I1 {a:Int} (ha:0≤a) (i:Nat):((a.toNat &&& 2 ^ i:Nat):Int)=a / 2 ^ i % 2 * 2 ^ i:=by
 obtain ⟨m,rfl⟩:=Int.eq_ofNat_of_zero_le ha;rw [Int.toNat_natCast,zd]
 push_cast
 rfl
theorem aW {α:Type} {xs:List α} (d:α) {i:Int} (h0:0≤i) (h:i<(xs.length:Int)):xs.drop i.toNat=xs.getD i.toNat d::xs.drop (i+1).toNat:=by
 have hi:i.toNat<xs.length:=by omega
 rw [List.drop_eq_getElem_cons hi,show (i+1).toNat=i.toNat+1 by omega];simp [hi]
theorem br {α:Type} {xs:List α} {i:Int} (h:¬ i<(xs.length:Int)):xs.drop i.toNat=[]:=by
 rw [List.drop_eq_nil_iff]; omega
theorem bt {α:Type} {xs:List α} (d:α) {i:Int} (h0:0≤i) (h:i<(xs.length:Int)):xs.take (i+1).toNat=xs.take i.toNat++[xs.getD i.toNat d]:=by
 have hi:i.toNat<xs.length:=by omega
 rw [show (i+1).toNat=i.toNat+1 by omega,List.take_succ_eq_append_getElem hi];simp [hi]
theorem bN {α:Type} {xs:List α} {i:Int} (h:¬ i<(xs.length:Int)):xs.take i.toNat=xs:=by
 rw [List.take_of_length_le]; omega
theorem aI {α:Type} {xs:List α} (d:α) {i:Int} (h0:0≤i) (h:i<(xs.length:Int)):xs.getD i.toNat d∈xs:=by
 have hi:i.toNat<xs.length:=by omega
 simp [hi]
end
section
open Go
set_option maxRecDepth 100000
set_option maxHeartbeats 1000000
theorem l8 {α:Type} {a b:List α} {z:α} {i:Nat} (hl:a.length=b.length) (hi:i<a.length) (ht:a.take i=b.take i) (he:a.getD i z=b.getD i z):a.take (i+1)=b.take (i+1):=by
 rw [List.take_succ_eq_append_getElem hi,List.take_succ_eq_append_getElem (by omega),ht];have h1:a.getD i z=a[i]:=by simp [hi]
 have h2:b.getD i z=b[i]'(by omega):=by simp [show i<b.length by omega]
 rw [← h1,← h2,he]
end
section
open Go
set_option maxRecDepth 100000
set_option maxHeartbeats 1000000
def da (L:Nat) (n:Int) (ks:List Int):Bool:=ks.any fun k=>decide (n<0)||decide (k<0)||decide (k > (L:Int))||decide (n > (L:Int) - k)
def ep (L:Nat) (n:Int) (ks:List Int):Int:=if 256<L then 2 else if da L n ks then 4 else 0
def LB (a:List Int) (i:Nat):Int:=a.getD (i / 8) 0 / 256 ^ (i % 8) % 256
def KL (a:List Int) (n:Nat):List Int:=(List.range n).map (LB a)
def bytesOf (a:List Int):List Int:=KL a (8 * a.length)
def zP:Nat→Option LoopGen
 | 4=>some { rd:=[.dat 2 (.arr ty_I),.dat 1 ty_I,.dat 0 (.arr a8)],A:=fun (ks,n,a)=>{ cs:=[.dat 14 ty_I],inv:=fun (i:Int)=>0≤i∧i≤(ks:List Int).length∧(a:List Int).length≤256∧da (a:List Int).length n ((ks:List Int).drop i.toNat)=da (a:List Int).length n ks,mu:=fun (i:Int)=>((ks:List Int).length - i).toNat } }
 | _=>none
def yn:Spec:={ Ts:=[.arr a8,ty_I,.arr ty_I],Rs:=[.dat ty_I],pre:=fun _=>True,F:=fun ((a,n,ks):List Int×Int×List Int)=>ep a.length n ks }
def oc:Prop :=
  ∀ (x:List Int×Int×List Int),((x.1.length * 8≤aA∧∀ (x_1:Int),x_1∈x.1→ak .u64 x_1)∧ak .i64 x.2.1∧x.2.2.length * 8≤aA∧∀ (x_1:Int),x_1∈x.2.2→ak .i64 x_1)→True→(decide (256<(↑x.1.length:Int))=true→2=ep x.1.length x.2.1 x.2.2∧True)∧(decide (256<(↑x.1.length:Int))=false→((0:Int)≤0∧0≤(↑x.2.2.length:Int)∧x.1.length≤256∧da x.1.length x.2.1 (List.drop (Int.toNat 0) x.2.2)=da x.1.length x.2.1 x.2.2)∧∀ (x_1:Int),0≤x_1∧x_1≤(↑x.2.2.length:Int)∧x.1.length≤256∧da x.1.length x.2.1 (List.drop x_1.toNat x.2.2)=da x.1.length x.2.1 x.2.2→(decide (x_1<(↑x.2.2.length:Int))=true→0≤x_1∧x_1<(↑x.2.2.length:Int)∧((decide (x.2.1<0)||decide (x.2.2.getD x_1.toNat (0:Int)<0)||decide ((↑x.1.length:Int)<x.2.2.getD x_1.toNat 0))=false→ak .i64 ((↑x.1.length:Int) - x.2.2.getD x_1.toNat 0))∧((decide (x.2.1<0)||decide (x.2.2.getD x_1.toNat (0:Int)<0)||decide ((↑x.1.length:Int)<x.2.2.getD x_1.toNat 0)||decide ((↑x.1.length:Int) - x.2.2.getD x_1.toNat 0<x.2.1))=true→4=ep x.1.length x.2.1 x.2.2∧True)∧((decide (x.2.1<0)||decide (x.2.2.getD x_1.toNat (0:Int)<0)||decide ((↑x.1.length:Int)<x.2.2.getD x_1.toNat 0)||decide ((↑x.1.length:Int) - x.2.2.getD x_1.toNat 0<x.2.1))=false→ak .i64 (x_1+1)∧(0≤x_1+1∧x_1+1≤(↑x.2.2.length:Int)∧x.1.length≤256∧da x.1.length x.2.1 (List.drop (x_1+1).toNat x.2.2)=da x.1.length x.2.1 x.2.2)∧((↑x.2.2.length:Int) - (x_1+1)).toNat<((↑x.2.2.length:Int) - x_1).toNat))∧(decide (x_1<(↑x.2.2.length:Int))=false→0=ep x.1.length x.2.1 x.2.2∧True))
theorem uR:oc:=by
 unfold oc;intro ⟨a,n,ks⟩ ⟨⟨ha,_⟩,⟨_,_⟩,hk,hks⟩ _;unfold ep aA at *;refine ⟨fun h=>?_,fun h=>⟨⟨by omega,by grind,by grind,by simp⟩,fun i ⟨h0,h1,h2,h3⟩=>⟨fun hlt=>?_,fun hge=>?_⟩⟩⟩
 ·grind
 ·have hlt:i<(ks.length:Int):=by simpa using hlt
  have e:=aW (0:Int) h0 hlt;have hm:=hks _ (aI (0:Int) h0 hlt);simp only [e] at h3;simp only [da,List.any_cons,ak] at *
  grind
 ·rw [br (by simpa using hge)] at h3;simp only [da,List.any_nil] at *
  grind
theorem y0:yn.ok Tryz.prog 155:=aD (ann:=zP) aq Tryz.func155 (by kernel_rfl) uR
end
section
open Go
set_option maxRecDepth 100000
set_option maxHeartbeats 1000000
def vE:Spec:={ Ts:=[.arr a8],Rs:=[.own 29 a8],pre:=fun _=>True,F:=fun (x:List Int)=>x }
def mP:Prop :=
  ∀ (x:List Int),(x.length * 8≤aA∧∀ (x_1:Int),x_1∈x→ak .u64 x_1)→True→(x=([]:List Int)→([]:List Int)=x∧True)∧(True→(0+x.length) * 8≤aA∧([]:List Int)++x=x∧True)
theorem sy:mP:=by
 unfold mP;intro x ⟨hb,_⟩ _;simp [hb]
theorem bX:vE.ok Tryz.prog 85:=aD (ann:=cp) aq Tryz.func85 (by kernel_rfl) sy
def AI:Spec:={ Ts:=[.arr a8],Rs:=[.own 29 a8],pre:=fun _=>True,F:=fun (x:List Int)=>x }
def qI:Prop :=
  ∀ (x:List Int),(x.length * 8≤aA∧∀ (x_1:Int),x_1∈x→ak .u64 x_1)→True→x.length * 8≤aA∧x=x∧True
theorem xP:qI:=by
 unfold qI;intro x ⟨hb,_⟩ _;simp [hb]
theorem ir:AI.ok Tryz.prog 54:=aD (ann:=cp) aq Tryz.func54 (by kernel_rfl) xP
def ke (L at_ n:Int):Bool:=decide (0≤n)&&decide (0≤at_)&&decide (at_≤L)&&decide (n≤L - at_)
theorem Ax (L:Nat) (n k:Int):ep L n [k]=if 256<L then 2 else if ke L k n=true then 0 else 4:=by
 simp only [ep,da,ke,List.any_cons,List.any_nil]
 grind
theorem mC (L k n:Int):ke L k n=true ↔ 0≤n∧0≤k∧k≤L∧n≤L - k:=by
 simp [ke,and_assoc]
def kZ (a:List Int) (t:Nat) (ys:List Int) (k:Nat):List Int:=a.take t++(ys.take k++a.drop (t+k))
def dA (a:List Int) (at_ n v:Int) (k:Int):List Int:=kZ a at_.toNat (List.replicate n.toNat v) k.toNat
theorem DV (a:List Int) (t:Nat) (ys:List Int):kZ a t ys 0=a:=by simp [kZ]
theorem yV (a:List Int) (t:Nat) (ys:List Int) (k:Nat) (h:t+ys.length≤a.length) (hk:k≤ys.length):(kZ a t ys k).length=a.length:=by
 simp [kZ]; omega
theorem GK (a:List Int) (t:Nat) (ys:List Int) (k:Nat) (v:Int) (h:t+ys.length≤a.length) (hk:k<ys.length) (hv:ys.getD k 0=v):(kZ a t ys k).set (t+k) v=kZ a t ys (k+1):=by
 have hv:v=ys[k]:=by rw [← hv]; simp [hk]
 subst hv;unfold kZ;have l1:(a.take t).length=t:=by simp; omega
 have l2:(ys.take k).length=k:=by simp; omega
 rw [List.set_append_right _ _ (by omega),l1,List.set_append_right _ _ (by omega),l2,show t+k - t - k=0 by omega,List.drop_eq_getElem_cons (show t+k<a.length by omega),List.set_cons_zero,
  List.take_succ_eq_append_getElem hk,show t+(k+1)=t+k+1 by omega,List.append_assoc]
 rfl
theorem nC (a:List Int) (at_ n v:Int):dA a at_ n v 0=a:=DV _ _ _
theorem ul (a:List Int) (at_ n v k:Int) (h0:0≤at_) (h1:at_+n≤a.length) (k0:0≤k) (k1:k<n):(dA a at_ n v k).set (at_+k).toNat v=dA a at_ n v (k+1):=by
 unfold dA;rw [show (at_+k).toNat=at_.toNat+k.toNat by omega,show (k+1).toNat=k.toNat+1 by omega];exact GK _ _ _ _ _ (by simp; omega) (by simp; omega) (by simp [show k.toNat<n.toNat by omega])
theorem dW (a:List Int) (at_ n v k:Int) (h0:0≤at_) (h1:at_+n≤a.length) (k0:0≤k) (k1:k≤n):(dA a at_ n v k).length=a.length :=
 yV _ _ _ _ (by simp; omega) (by simp; omega)
def gT (a:List Int) (at_ n v:Int):List Int×Int:=if ep a.length n [at_]=0 then (dA a at_ n v n,0) else ([],ep a.length n [at_])
def Cy:Nat→Option LoopGen
 | 6=>some { rd:=[.dat 0 (.arr a8),.dat 1 ty_I,.dat 2 ty_I,.dat 3 a8],wr:=[11],A:=fun ((a,at_,n,v):List Int×Int×Int×Int)=>{ cs:=[.own 11 29 a8,.dat 24 ty_I],inv:=fun ((out,k):List Int×Int)=>0≤k∧k≤n∧0≤at_∧at_+n≤a.length∧a.length≤256∧out=dA a at_ n v k,mu:=fun ((_,k):List Int×Int)=>(n - k).toNat } }
 | _=>none
def AA:Spec:={ Ts:=[.arr a8,ty_I,ty_I,a8],Rs:=[.own 29 a8,.dat ty_I],pre:=fun _=>True,F:=fun ((a,at_,n,v):List Int×Int×Int×Int)=>gT a at_ n v }
def qB:Prop :=
  ∀ (x:List Int×Int×Int×Int),(x.1.length * 8≤aA∧∀ (x_1:Int),x_1∈x.1→ak .u64 x_1)∧ak .i64 x.2.1∧ak .i64 x.2.2.1∧ak .u64 x.2.2.2→True→True∧(decide (ep x.1.length x.2.2.1 [x.2.1]≠0)=true→([]:List Int)=(gT x.1 x.2.1 x.2.2.1 x.2.2.2).1∧ep x.1.length x.2.2.1 [x.2.1]=(gT x.1 x.2.1 x.2.2.1 x.2.2.2).2∧True)∧(decide (ep x.1.length x.2.2.1 [x.2.1]≠0)=false→True∧((0:Int)≤0∧0≤x.2.2.1∧0≤x.2.1∧x.2.1+x.2.2.1≤(↑x.1.length:Int)∧x.1.length≤256∧x.1=dA x.1 x.2.1 x.2.2.1 x.2.2.2 0)∧∀ (x_1:List Int×Int),0≤x_1.2∧x_1.2≤x.2.2.1∧0≤x.2.1∧x.2.1+x.2.2.1≤(↑x.1.length:Int)∧x.1.length≤256∧x_1.1=dA x.1 x.2.1 x.2.2.1 x.2.2.2 x_1.2→(decide (x_1.2<x.2.2.1)=true→ak .i64 (x.2.1+x_1.2)∧0≤x.2.1+x_1.2∧x.2.1+x_1.2<(↑x_1.1.length:Int)∧(x.2.1+x_1.2).toNat<x_1.1.length∧ak .i64 (x_1.2+1)∧(0≤x_1.2+1∧x_1.2+1≤x.2.2.1∧0≤x.2.1∧x.2.1+x.2.2.1≤(↑x.1.length:Int)∧x.1.length≤256∧x_1.1.set (x.2.1+x_1.2).toNat x.2.2.2=dA x.1 x.2.1 x.2.2.1 x.2.2.2 (x_1.2+1))∧(x.2.2.1 - (x_1.2+1)).toNat<(x.2.2.1 - x_1.2).toNat)∧(decide (x_1.2<x.2.2.1)=false→x_1.1=(gT x.1 x.2.1 x.2.2.1 x.2.2.2).1∧0=(gT x.1 x.2.1 x.2.2.1 x.2.2.2).2∧True))
theorem xI:qB:=by
 unfold qB;intro ⟨a,at_,n,v⟩ ⟨⟨ha,_⟩,h1,h2,_⟩ _;simp only [gT,Ax] at *;by_cases cl:256<a.length
 ·simp [cl]
 by_cases ok:ke a.length at_ n=true
 ·obtain ⟨o1,o2,o3,o4⟩:=(mC _ _ _).1 ok;simp only [cl,ok,if_true,if_false];refine ⟨trivial,fun h=>by simp at h,fun _=>⟨trivial,⟨by omega,o1,o2,by omega,by omega,(nC _ _ _ _).symm⟩,fun ⟨out,k⟩ ⟨k0,k1,_,q1,q2,q3⟩=>⟨fun hk=>?_,fun hk=>?_⟩⟩⟩
  ·have hk:k<n:=by simpa using hk
   simp only at *;have hl:out.length=a.length:=by rw [q3]; exact dW _ _ _ _ _ o2 q1 k0 k1
   refine ⟨by simp only [ak]; omega,by omega,by omega,by omega,by simp only [ak]; omega,⟨by omega,by omega,o2,q1,q2,?_⟩,by omega⟩;rw [q3];exact ul _ _ _ _ _ o2 q1 k0 hk
  ·have hk:¬ k<n:=by simpa using hk
   simp only at *;have:k=n:=by omega
   subst this;simp [q3]
 ·simp [cl,ok]
theorem lC:AA.ok Tryz.prog 134:=aD (ann:=Cy) (ae y0 (ae bX aq)) Tryz.func134 (by kernel_rfl) xI
end
section
open Go
def ai {α:Type} (f:α→Bool):Int→List α→Int
 | _,[]=>-1
 | k,x::l=>if f x then k else ai f (k+1) l
theorem gP {α:Type} (f:α→Bool):∀ (l:List α) (k:Int),ai f k l=-1∨(k≤ai f k l∧ai f k l<k+l.length)
 | [],_=>.inl rfl
 | x::l,k=>by
  have ih:=gP f l (k+1);simp only [ai,List.length_cons];split
  ·right; omega
  ·rcases ih with h | h
   ·exact .inl h
   ·right; omega
theorem dq {α:Type} (f:α→Bool) (_:α) (l:List α) (k:Int) (_:0≤k):ai f k l<k+l.length:=by
 rcases gP f l k with h | h <;> omega
theorem gE {α:Type} (f:α→Bool) (d:α):∀ (l:List α) (k:Int),0≤ai f k l→0≤k→f (l.getD (ai f k l - k).toNat d)=true
 | [],_,h,_=>by simp [ai] at h
 | x::l,k,h,hk=>by
  have hr:=gP f l (k+1);have ih:=gE f d l (k+1);simp only [ai] at h ⊢;split at h
  ·rename_i hx;rw [if_pos hx];simpa using hx
  ·rename_i hx;rw [if_neg hx];have:=ih h (by omega);rw [show (ai f (k+1) l - k).toNat=(ai f (k+1) l - (k+1)).toNat+1 by omega];simpa using this
theorem cW {α:Type} (f:α→Bool):∀ (l:List α) (k:Int),0≤k→(decide (0≤ai f k l)=l.any f)
 | [],_,_=>rfl
 | x::l,k,h=>by
  have ih:=cW f l (k+1) (by omega);simp only [ai,List.any_cons];by_cases hx:f x=true
  ·simp [hx,h]
  ·have hx:f x=false:=by simpa using hx
   simp only [hx,Bool.false_eq_true,if_false,Bool.false_or];exact ih
end
section
open Go
set_option maxRecDepth 100000
set_option maxHeartbeats 1000000
abbrev du:=Int×Int×Int×Bool
def ac (h:du):Int:=1+h.1+h.2.1
def af (h:du):Int :=
 if h.1<0∨256<h.1∨h.2.1<0∨256<h.2.1∨h.2.2.1<0∨65535<h.2.2.1 then 4
 else if h.2.2.2=true∧(h.1≠0∨h.2.2.1≠0) then 3
 else if 256<ac h then 2 else 0
def a6 (h:du):Int:=h.1+65536 * h.2.1+4294967296 * h.2.2.1+(if h.2.2.2 then 281474976710656 else 0)
def aS (v:Int):du:=(v % 65536,v / 65536 % 65536,v / 4294967296 % 65536,decide (v / 281474976710656=1))
def aQ (v:Int):Bool:=v / 281474976710656≤1&&af (aS v) == 0
def aY:du:=(0,0,0,false)
theorem bj {h:du} (h0:af h=0):0≤h.1∧0≤h.2.1∧0≤h.2.2.1∧h.2.2.1≤65535∧1+h.1+h.2.1≤256∧(h.2.2.2=true→h.1=0∧h.2.2.1=0):=by
 grind [af,ac]
theorem vU {h:du} (h0:af h=0) :
  (↑((IntKind.u64.wrap h.1).toNat ||| (IntKind.u64.wrap (IntKind.u64.wrap h.2.1 * 2 ^ Int.toNat 16)).toNat):Int)=h.1+65536 * h.2.1 ∧
  (↑((h.1+65536 * h.2.1).toNat ||| (IntKind.u64.wrap (IntKind.u64.wrap h.2.2.1 * 2 ^ Int.toNat 32)).toNat):Int)=h.1+65536 * h.2.1+4294967296 * h.2.2.1 ∧
  (↑((h.1+65536 * h.2.1+4294967296 * h.2.2.1).toNat ||| Int.toNat 281474976710656):Int)=h.1+65536 * h.2.1+4294967296 * h.2.2.1+281474976710656:=by
 obtain ⟨h1,h2,h3,h4,h5,_⟩:=bj h0;rw [fk h1 (by omega),fk h2 (by omega),fk h3 (by omega)];have e1:(h.2.1 * 2 ^ Int.toNat 16)=h.2.1 * 65536:=rfl;have e2:(h.2.2.1 * 2 ^ Int.toNat 32)=h.2.2.1 * 4294967296:=rfl;rw [e1,e2,fk (by omega) (by omega),fk (by omega) (by omega)];have k1:=r7 (i:=16) h1 h2 (by omega);have k2:=r7 (i:=32) (a:=h.1+65536 * h.2.1) (by omega) h3 (by omega);have k3:=r7 (i:=48) (a:=h.1+65536 * h.2.1+4294967296 * h.2.2.1) (b:=1) (by omega) (by omega) (by omega);refine ⟨?_,?_,?_⟩
 ·rw [show h.2.1 * 65536=h.2.1 * 2 ^ 16 from rfl,k1]; omega
 ·rw [show h.2.2.1 * 4294967296=h.2.2.1 * 2 ^ 32 from rfl,k2]; omega
 ·rw [show Int.toNat 281474976710656=((1:Int) * 2 ^ 48).toNat from rfl,k3]; rfl
theorem B3 {v:Int} (h0:0≤v) :
  (IntKind.i64.wrap ↑(v.toNat &&& Int.toNat 65535),IntKind.i64.wrap ↑((v / 2 ^ Int.toNat 16).toNat &&& Int.toNat 65535),IntKind.i64.wrap ↑((v / 2 ^ Int.toNat 32).toNat &&& Int.toNat 65535),
   decide (((v.toNat &&& Int.toNat 281474976710656:Nat):Int)≠0))=(v % 65536,v / 65536 % 65536,v / 4294967296 % 65536,decide (v / 281474976710656 % 2=1)):=by
 have e:Int.toNat 65535=2 ^ 16 - 1:=rfl;have e2:Int.toNat 281474976710656=2 ^ 48:=rfl;have e3:v / 2 ^ Int.toNat 16=v / 65536:=rfl;have e4:v / 2 ^ Int.toNat 32=v / 4294967296:=rfl;rw [e,e2,e3,e4,oU h0,oU (by omega),oU (by omega),I1 h0];rw [show (2:Int) ^ 16=65536 from rfl,show (2:Int) ^ 48=281474976710656 from rfl];rw [jb (by omega) (by omega),jb (by omega) (by omega),jb (by omega) (by omega)];congr 3;apply decide_eq_decide.2;omega
theorem xo {v:Int} (h1:v / 281474976710656≤1) (h0:0≤v):(v % 65536,v / 65536 % 65536,v / 4294967296 % 65536,decide (v / 281474976710656 % 2=1))=aS v:=by
 simp only [aS];congr 3;apply decide_eq_decide.2;omega
def AT:Spec:={ Ts:=[de],Rs:=[.dat ty_I],pre:=fun (h:du)=>ak .i64 (1+h.1)∧ak .i64 (1+h.1+h.2.1),F:=ac }
def qT:Prop :=
  ∀ (x:Int×Int×Int×Bool),ak .i64 x.1∧ak .i64 x.2.1∧ak .i64 x.2.2.1∧True→ak .i64 (1+x.1)∧ak .i64 (1+x.1+x.2.1)→ak .i64 (1+x.1)∧ak .i64 (1+x.1+x.2.1)∧1+x.1+x.2.1=ac x∧True
theorem x6:qT:=by
 unfold qT;intro x h1 h2;exact ⟨h2.1,h2.2,rfl,trivial⟩
theorem ro:AT.ok Tryz.prog 92:=aD (ann:=cp) aq Tryz.func92 (by kernel_rfl) x6
def yE:Spec:={ Ts:=[de],Rs:=[.dat ty_I],pre:=fun _=>True,F:=af }
def oD:Prop :=
  ∀ (x:Int×Int×Int×Bool),ak .i64 x.1∧ak .i64 x.2.1∧ak .i64 x.2.2.1∧True→True→((decide ((if x.2.2.1<if x.2.1<x.1 then x.2.1 else x.1 then x.2.2.1 else if x.2.1<x.1 then x.2.1 else x.1)<0)||decide (256<if x.1<x.2.1 then x.2.1 else x.1)||decide (65535<x.2.2.1))=true→4=af x∧True)∧((decide ((if x.2.2.1<if x.2.1<x.1 then x.2.1 else x.1 then x.2.2.1 else if x.2.1<x.1 then x.2.1 else x.1)<0)||decide (256<if x.1<x.2.1 then x.2.1 else x.1)||decide (65535<x.2.2.1))=false→((x.2.2.2&&(decide (0<x.1)||decide (0<x.2.2.1)))=true→3=af x∧True)∧((x.2.2.2&&(decide (0<x.1)||decide (0<x.2.2.1)))=false→(ak .i64 (1+x.1)∧ak .i64 (1+x.1+x.2.1))∧(decide (256<ac x)=true→2=af x∧True)∧(decide (256<ac x)=false→0=af x∧True)))
theorem ve:oD:=by
 unfold oD;intro x h1 _
 grind [ak,af,ac]
theorem iM:yE.ok Tryz.prog 55:=aD (ann:=cp) (ae ro aq) Tryz.func55 (by kernel_rfl) ve
def AR:Spec:={ Ts:=[de],Rs:=[.dat a8,.dat ty_I],pre:=fun _=>True,F:=fun (h:du)=>((if af h=0 then a6 h else 0,af h):Int×Int) }
def qR:Prop :=
  ∀ (x:Int×Int×Int×Bool),ak .i64 x.1∧ak .i64 x.2.1∧ak .i64 x.2.2.1∧True→True→True∧(decide (af x≠0)=true→((0:Int)=if af x=0 then a6 x else (0:Int))∧af x=af x∧True)∧(decide (af x≠0)=false→(0:Int)≤16∧16<(↑IntKind.u64.bits:Int)∧(0:Int)≤32∧32<(↑IntKind.u64.bits:Int)∧(x.2.2.2=true→((↑((↑((↑((IntKind.u64.wrap x.1).toNat ||| (IntKind.u64.wrap (IntKind.u64.wrap x.2.1 * 2 ^ Int.toNat 16)).toNat):Int).toNat ||| (IntKind.u64.wrap (IntKind.u64.wrap x.2.2.1 * 2 ^ Int.toNat 32)).toNat):Int).toNat ||| Int.toNat 281474976710656):Int)=if af x=0 then a6 x else (0:Int))∧0=af x∧True)∧(x.2.2.2=false→((↑((↑((IntKind.u64.wrap x.1).toNat ||| (IntKind.u64.wrap (IntKind.u64.wrap x.2.1 * 2 ^ Int.toNat 16)).toNat):Int).toNat ||| (IntKind.u64.wrap (IntKind.u64.wrap x.2.2.1 * 2 ^ Int.toNat 32)).toNat):Int)=if af x=0 then a6 x else (0:Int))∧0=af x∧True))
theorem xY:qR:=by
 unfold qR;intro x hw _;refine ⟨trivial,fun h=>?_,fun h=>?_⟩
 ·have:af x≠0:=by simpa using h
  simp [this]
 ·have h0:af x=0:=by simpa using h
  obtain ⟨b1,b2,b3⟩:=vU h0;refine ⟨by decide,by decide,by decide,by decide,fun hf=>?_,fun hf=>?_⟩
  ·rw [b1,b2,b3,if_pos h0,h0];exact ⟨by simp [a6,hf],rfl,trivial⟩
  ·rw [b1,b2,if_pos h0,h0];exact ⟨by simp [a6,hf],rfl,trivial⟩
theorem jJ:AR.ok Tryz.prog 131:=aD (ann:=cp) (ae iM aq) Tryz.func131 (by kernel_rfl) xY
def yD:Spec:={ Ts:=[de],Rs:=[.dat ty_I,.dat ty_I],pre:=fun _=>True,F:=fun (h:du)=>((if af h=0 then ac h else 0,af h):Int×Int) }
def oC:Prop :=
  ∀ (x:Int×Int×Int×Bool),ak .i64 x.1∧ak .i64 x.2.1∧ak .i64 x.2.2.1∧True→True→True∧(decide (af x≠0)=true→((0:Int)=if af x=0 then ac x else (0:Int))∧af x=af x∧True)∧(decide (af x≠0)=false→(ak .i64 (1+x.1)∧ak .i64 (1+x.1+x.2.1))∧(ac x=if af x=0 then ac x else (0:Int))∧0=af x∧True)
theorem vd:oC:=by
 unfold oC;intro x hw _;refine ⟨trivial,fun h=>?_,fun h=>?_⟩
 ·have:af x≠0:=by simpa using h
  simp [this]
 ·have h0:af x=0:=by simpa using h
  obtain ⟨b1,b2,b3,b4,b5,_⟩:=bj h0;simp only [ak,h0,if_true,and_true];omega
theorem iL:yD.ok Tryz.prog 93:=aD (ann:=cp) (ae iM (ae ro aq)) Tryz.func93 (by kernel_rfl) vd
def AS:Spec:={ Ts:=[a8],Rs:=[.dat de,.dat ty_I],pre:=fun _=>True,F:=fun (v:Int)=>((if aQ v then aS v else aY,if aQ v then 0 else 3):du×Int) }
def qS:Prop :=
  ∀ (x:Int),ak .u64 x→True→(0:Int)≤16∧16<(↑IntKind.u64.bits:Int)∧(0:Int)≤32∧32<(↑IntKind.u64.bits:Int)∧(0:Int)≤49∧49<(↑IntKind.u64.bits:Int)∧(decide (x / 2 ^ Int.toNat (49:Int)≠0)=false→True)∧((decide (x / 2 ^ Int.toNat (49:Int)≠0)||decide (af (IntKind.i64.wrap (↑(x.toNat &&& Int.toNat 65535):Int),IntKind.i64.wrap (↑((x / 2 ^ Int.toNat 16).toNat &&& Int.toNat 65535):Int),IntKind.i64.wrap (↑((x / 2 ^ Int.toNat 32).toNat &&& Int.toNat 65535):Int),decide ((↑(x.toNat &&& Int.toNat 281474976710656):Int)≠0))≠0))=true→((0,0,0,false)=if aQ x=true then aS x else aY)∧((3:Int)=if aQ x=true then (0:Int) else (3:Int))∧True)∧((decide (x / 2 ^ Int.toNat (49:Int)≠0)||decide (af (IntKind.i64.wrap (↑(x.toNat &&& Int.toNat 65535):Int),IntKind.i64.wrap (↑((x / 2 ^ Int.toNat 16).toNat &&& Int.toNat 65535):Int),IntKind.i64.wrap (↑((x / 2 ^ Int.toNat 32).toNat &&& Int.toNat 65535):Int),decide ((↑(x.toNat &&& Int.toNat 281474976710656):Int)≠0))≠0))=false→((IntKind.i64.wrap (↑(x.toNat &&& Int.toNat 65535):Int),IntKind.i64.wrap (↑((x / 2 ^ Int.toNat 16).toNat &&& Int.toNat 65535):Int),IntKind.i64.wrap (↑((x / 2 ^ Int.toNat 32).toNat &&& Int.toNat 65535):Int),decide ((↑(x.toNat &&& Int.toNat 281474976710656):Int)≠0))=if aQ x=true then aS x else aY)∧((0:Int)=if aQ x=true then (0:Int) else (3:Int))∧True)
theorem xZ:qS:=by
 unfold qS;intro x hw _;have hx:0≤x:=hw.1;rw [B3 hx,show x / 2 ^ Int.toNat 49=x / 562949953421312 from rfl];refine ⟨by decide,by decide,by decide,by decide,by decide,by decide,fun _=>trivial,fun h=>?_,fun h=>?_⟩
 ·have:aQ x=false:=by
   rcases Int.lt_or_le 1 (x / 281474976710656) with h1 | h1
   ·simp [aQ,show ¬ x / 281474976710656≤1 by omega]
   ·rw [xo h1 hx] at h;have e:x / 562949953421312=0:=by omega
    simp only [e,ne_eq,not_true_eq_false,decide_false,Bool.false_or,decide_eq_true_eq] at h;simp [aQ,h]
  simp [this,aY]
 ·have h1:x / 281474976710656≤1:=by
   have:x / 562949953421312=0:=by
    apply Classical.byContradiction;intro hne;simp [hne] at h
   omega
  rw [xo h1 hx] at h ⊢
  have:aQ x=true:=by
   simp only [Bool.or_eq_false_iff,decide_eq_false_iff_not,ne_eq,Classical.not_not] at h;simp [aQ,h1,h.2]
  simp [this]
theorem BP:AS.ok Tryz.prog 163:=aD (ann:=cp) (ae iM aq) Tryz.func163 (by kernel_rfl) xZ
def vA:Spec:={ Ts:=[de],Rs:=[.dat ty_I],pre:=fun _=>True,F:=af }
def mL:Prop :=
  ∀ (x:Int×Int×Int×Bool),ak .i64 x.1∧ak .i64 x.2.1∧ak .i64 x.2.2.1∧True→True→((decide (x.1<0)||decide (256<x.1)||decide (x.2.1<0)||decide (256<x.2.1)||decide (x.2.2.1<0)||decide (65535<x.2.2.1))=true→4=af x∧True)∧((decide (x.1<0)||decide (256<x.1)||decide (x.2.1<0)||decide (256<x.2.1)||decide (x.2.2.1<0)||decide (65535<x.2.2.1))=false→((x.2.2.2&&(decide (x.1≠0)||decide (x.2.2.1≠0)))=true→3=af x∧True)∧((x.2.2.2&&(decide (x.1≠0)||decide (x.2.2.1≠0)))=false→ak .i64 (1+x.1)∧ak .i64 (1+x.1+x.2.1)∧(decide ((256:Int)<1+x.1+x.2.1)=true→2=af x∧True)∧(decide ((256:Int)<1+x.1+x.2.1)=false→0=af x∧True)))
theorem sr:mL:=by
 unfold mL;intro x h1 _
 grind [ak,af,ac]
theorem mT:vA.ok Tryz.prog 32:=aD (ann:=cp) aq Tryz.func32 (by kernel_rfl) sr
def yz:Spec:={ Ts:=[de],Rs:=[.dat ty_I],pre:=fun (h:du)=>ak .i64 (1+h.1)∧ak .i64 (1+h.1+h.2.1),F:=ac }
def ow:Prop :=
  ∀ (x:Int×Int×Int×Bool),ak .i64 x.1∧ak .i64 x.2.1∧ak .i64 x.2.2.1∧True→ak .i64 (1+x.1)∧ak .i64 (1+x.1+x.2.1)→ak .i64 (1+x.1)∧ak .i64 (1+x.1+x.2.1)∧1+x.1+x.2.1=ac x∧True
theorem u5:ow:=by
 unfold ow;intro x h1 h2;exact ⟨h2.1,h2.2,rfl,trivial⟩
theorem gJ:yz.ok Tryz.prog 72:=aD (ann:=cp) aq Tryz.func72 (by kernel_rfl) u5
def yx:Spec:={ Ts:=[de],Rs:=[.dat a8],pre:=fun (h:du)=>af h=0,F:=a6 }
def ou:Prop :=
  ∀ (x:Int×Int×Int×Bool),ak .i64 x.1∧ak .i64 x.2.1∧ak .i64 x.2.2.1∧True→af x=0→ak .u64 (65536 * IntKind.u64.wrap x.2.1)∧ak .u64 (IntKind.u64.wrap x.1+65536 * IntKind.u64.wrap x.2.1)∧ak .u64 (4294967296 * IntKind.u64.wrap x.2.2.1)∧ak .u64 (IntKind.u64.wrap x.1+65536 * IntKind.u64.wrap x.2.1+4294967296 * IntKind.u64.wrap x.2.2.1)∧(x.2.2.2=true→ak .u64 (IntKind.u64.wrap x.1+65536 * IntKind.u64.wrap x.2.1+4294967296 * IntKind.u64.wrap x.2.2.1+281474976710656)∧IntKind.u64.wrap x.1+65536 * IntKind.u64.wrap x.2.1+4294967296 * IntKind.u64.wrap x.2.2.1+281474976710656=a6 x∧True)∧(x.2.2.2=false→IntKind.u64.wrap x.1+65536 * IntKind.u64.wrap x.2.1+4294967296 * IntKind.u64.wrap x.2.2.1=a6 x∧True)
theorem uZ:ou:=by
 unfold ou;intro x h1 h0;obtain ⟨b1,b2,b3,b4,b5,_⟩:=bj h0;rw [fk b1 (by omega),fk b2 (by omega),fk b3 (by omega)];simp only [ak];refine ⟨by omega,by omega,by omega,by omega,fun hf=>⟨by omega,?_,trivial⟩,fun hf=>⟨?_,trivial⟩⟩
 ·simp [a6,hf]
 ·simp [a6,hf]
theorem kH:yx.ok Tryz.prog 75:=aD (ann:=cp) aq Tryz.func75 (by kernel_rfl) uZ
def yB:Spec:={ Ts:=[ty_I],Rs:=[.dat a8],pre:=fun (n:Int)=>1≤n∧n≤256,F:=fun (n:Int)=>a6 (0,n - 1,0,true) }
def oA:Prop :=
  ∀ (x:Int),ak .i64 x→1≤x∧x≤256→ak .i64 (x - 1)∧af (0,x - 1,0,true)=0∧a6 (0,x - 1,0,true)=a6 (0,x - 1,0,true)∧True
theorem u7:oA:=by
 unfold oA;intro n hn ⟨h1,h2⟩;have:af (0,n - 1,0,true)=0:=by simp [af,ac]; omega
 simp only [ak,this];refine ⟨?_,?_⟩ <;> first | omega | simp
theorem oM:yB.ok Tryz.prog 117:=aD (ann:=cp) (ae kH aq) Tryz.func117 (by kernel_rfl) u7
def yy:Spec:={ Ts:=[a8],Rs:=[.dat de,.dat .bool],pre:=fun _=>True,F:=fun (v:Int)=>((if aQ v then aS v else aY,aQ v):du×Bool) }
def ov:Prop :=
  ∀ (x:Int),ak .u64 x→True→0≤x∧(0:Int)<65536∧0≤x∧(0:Int)<65536∧0≤x / 65536∧(0:Int)<65536∧0≤x∧(0:Int)<65536∧0≤x / 65536∧(0:Int)<65536∧0≤x / 65536 / 65536∧(0:Int)<65536∧0≤x∧(0:Int)<65536∧0≤x / 65536∧(0:Int)<65536∧0≤x / 65536 / 65536∧(0:Int)<65536∧(decide (1<x / 65536 / 65536 / 65536)=false→True)∧((decide (1<x / 65536 / 65536 / 65536)||decide (af (IntKind.i64.wrap (x % 65536),IntKind.i64.wrap (x / 65536 % 65536),IntKind.i64.wrap (x / 65536 / 65536 % 65536),decide (x / 65536 / 65536 / 65536=1))≠0))=true→((0,0,0,false)=if aQ x=true then aS x else aY)∧false=aQ x∧True)∧((decide (1<x / 65536 / 65536 / 65536)||decide (af (IntKind.i64.wrap (x % 65536),IntKind.i64.wrap (x / 65536 % 65536),IntKind.i64.wrap (x / 65536 / 65536 % 65536),decide (x / 65536 / 65536 / 65536=1))≠0))=false→((IntKind.i64.wrap (x % 65536),IntKind.i64.wrap (x / 65536 % 65536),IntKind.i64.wrap (x / 65536 / 65536 % 65536),decide (x / 65536 / 65536 / 65536=1))=if aQ x=true then aS x else aY)∧true=aQ x∧True)
theorem u0:ov:=by
 unfold ov;intro x hw _;have hx:0≤x:=hw.1;have e1:x / 65536 / 65536=x / 4294967296:=by omega
 have e2:x / 4294967296 / 65536=x / 281474976710656:=by omega
 rw [e1,e2,jb (by omega) (by omega),jb (by omega) (by omega),jb (by omega) (by omega)]
 have e3:(x % 65536,x / 65536 % 65536,x / 4294967296 % 65536,decide (x / 281474976710656=1))=aS x:=by
  simp only [aS]
 rw [e3];refine ⟨by omega,by decide,by omega,by decide,by omega,by decide,by omega,by decide,by omega,by decide,by omega,by decide,by omega,by decide,by omega,by decide,by omega,by decide,fun _=>trivial,fun h=>?_,fun h=>?_⟩
 ·have:aQ x=false:=by
   simp only [Bool.or_eq_true,decide_eq_true_eq] at h;simp only [aQ,Bool.and_eq_false_iff,decide_eq_false_iff_not,beq_eq_false_iff_ne];omega
  simp [this,aY]
 ·have:aQ x=true:=by
   simp only [Bool.or_eq_false_iff,decide_eq_false_iff_not] at h;simp only [aQ,Bool.and_eq_true,decide_eq_true_eq,beq_iff_eq];omega
  simp [this]
theorem y8:yy.ok Tryz.prog 114:=aD (ann:=cp) (ae mT aq) Tryz.func114 (by kernel_rfl) u0
end
section
open Go
set_option maxRecDepth 100000
set_option maxHeartbeats 1000000
abbrev cg:Ty:=.pair ty_I de
abbrev aC:=Int×du
theorem eK {v:Int} (h:aQ v=true):1≤ac (aS v)∧ac (aS v)≤256:=by
 simp only [aQ,Bool.and_eq_true,beq_iff_eq] at h;have:=bj h.2;unfold ac;omega
def spotsS (at_:Int) (l:List Int):Option (List aC) :=
 match l with
 | []=>some []
 | v::r=>if _h:aQ v=true∧ac (aS v)≤((v::r).length:Int) then (spotsS (at_+ac (aS v)) ((v::r).drop (ac (aS v)).toNat)).map ((at_,aS v)::·) else none
termination_by l.length
decreasing_by
 have:=eK _h.1;simp only [List.length_drop,List.length_cons];omega
def aa (a:List Int):List aC×Int:=if 256<a.length then ([],2) else match spotsS 0 a with
 | none=>([],3)
 | some l=>(l,0)
theorem eI {at_:Int} {v:Int} {r:List Int} (h:aQ v=true) (h2:ac (aS v)≤((v::r).length:Int)) :
  spotsS at_ (v::r)=(spotsS (at_+ac (aS v)) ((v::r).drop (ac (aS v)).toNat)).map ((at_,aS v)::·):=by
 rw [spotsS,dif_pos ⟨h,h2⟩]
theorem eH {at_:Int} {v:Int} {r:List Int} (h:¬ (aQ v=true∧ac (aS v)≤((v::r).length:Int))):spotsS at_ (v::r)=none:=by
 rw [spotsS,dif_neg h]
theorem wv (at_:Int) (l:List Int) (r:List aC) (h:spotsS at_ l=some r):∀ s∈r,at_≤s.1∧s.1+ac s.2≤at_+l.length∧af s.2=0:=by
 induction at_,l using spotsS.induct generalizing r with
 | case1 at_ =>
  simp only [spotsS,Option.some.injEq] at h;subst h;simp
 | case2 at_ v l hv ih =>
  rw [eI hv.1 hv.2] at h;obtain ⟨r',hr,rfl⟩:=Option.map_eq_some_iff.1 h;have hl:=eK hv.1
  have hf:af (aS v)=0:=by
   have:=hv.1;simp only [aQ,Bool.and_eq_true,beq_iff_eq] at this;exact this.2
  intro s hs;rcases List.mem_cons.1 hs with rfl | hs
  ·have:=hv.2;exact ⟨by simp,by simp only; omega,hf⟩
  ·obtain ⟨h1,h2,h3⟩:=ih r' hr s hs;rw [List.length_drop] at h2;have:=hv.2;exact ⟨by omega,by omega,h3⟩
 | case3 at_ v l hv =>
  rw [eH hv] at h;cases h
theorem vp (at_:Int) (l:List Int) (r:List aC) (h:spotsS at_ l=some r):r.length≤l.length:=by
 induction at_,l using spotsS.induct generalizing r with
 | case1 at_ =>
  simp only [spotsS,Option.some.injEq] at h;subst h;simp
 | case2 at_ v l hv ih =>
  rw [eI hv.1 hv.2] at h;obtain ⟨r',hr,rfl⟩:=Option.map_eq_some_iff.1 h;have hl:=eK hv.1;have:=ih r' hr;rw [List.length_drop] at this;simp only [List.length_cons] at *;omega
 | case3 at_ v l hv =>
  rw [eH hv] at h;cases h
theorem cD (a:List Int):(aa a).1.length≤256:=by
 unfold aa;split
 ·simp
 ·cases e:spotsS 0 a with
  | none=>simp
  | some l =>
   have:=vp 0 a l e;simp only;omega
def zO:Nat→Option LoopGen
 | 5=>some { rd:=[.dat 0 (.arr a8)],A:=fun (a:List Int)=>{ cs:=[.own 4 124 cg,.dat 5 ty_I],inv:=fun ((out,at_):List aC×Int)=>a.length≤256∧0≤at_∧at_≤a.length∧out.length≤at_∧spotsS 0 a=(spotsS at_ (a.drop at_.toNat)).map (out++·),mu:=fun ((_,at_):List aC×Int)=>(a.length - at_).toNat } }
 | _=>none
def yl:Spec:={ Ts:=[.arr a8],Rs:=[.own 124 cg,.dat ty_I],pre:=fun _=>True,F:=aa }
def oa:Prop :=
  ∀ (x:List Int),(x.length * 8≤aA∧∀ (x_1:Int),x_1∈x→ak .u64 x_1)→True→(decide (256<(↑x.length:Int))=true→([]:List (Int×Int×Int×Int×Bool))=(aa x).1∧2=(aa x).2∧True)∧(decide (256<(↑x.length:Int))=false→(x.length≤256∧(0:Int)≤0∧0≤(↑x.length:Int)∧(↑(0:Nat):Int)≤0∧spotsS 0 x=Option.map (fun (x:List aC)=>([]:List (Int×Int×Int×Int×Bool))++x) (spotsS 0 (List.drop (Int.toNat 0) x)))∧∀ (x_1:List (Int×Int×Int×Int×Bool)×Int),x.length≤256∧0≤x_1.2∧x_1.2≤(↑x.length:Int)∧(↑x_1.1.length:Int)≤x_1.2∧spotsS 0 x=Option.map (fun (x:List aC)=>x_1.1++x) (spotsS x_1.2 (List.drop x_1.2.toNat x))→(decide (x_1.2<(↑x.length:Int))=true→0≤x_1.2∧x_1.2<(↑x.length:Int)∧True∧True∧(decide ((if aQ (x.getD x_1.2.toNat 0)=true then (0:Int) else (3:Int))≠0)=false→ak .i64 ((↑x.length:Int) - x_1.2))∧((decide ((if aQ (x.getD x_1.2.toNat 0)=true then (0:Int) else (3:Int))≠0)||decide ((↑x.length:Int) - x_1.2<if af (if aQ (x.getD x_1.2.toNat 0)=true then aS (x.getD x_1.2.toNat 0) else aY)=0 then ac (if aQ (x.getD x_1.2.toNat 0)=true then aS (x.getD x_1.2.toNat 0) else aY) else (0:Int)))=true→([]:List (Int×Int×Int×Int×Bool))=(aa x).1∧3=(aa x).2∧True)∧((decide ((if aQ (x.getD x_1.2.toNat 0)=true then (0:Int) else (3:Int))≠0)||decide ((↑x.length:Int) - x_1.2<if af (if aQ (x.getD x_1.2.toNat 0)=true then aS (x.getD x_1.2.toNat 0) else aY)=0 then ac (if aQ (x.getD x_1.2.toNat 0)=true then aS (x.getD x_1.2.toNat 0) else aY) else (0:Int)))=false→(x_1.1.length+[(x_1.2,if aQ (x.getD x_1.2.toNat 0)=true then aS (x.getD x_1.2.toNat 0) else aY)].length) * (8+(8+(8+(8+8))))≤aA∧ak .i64 (x_1.2+if af (if aQ (x.getD x_1.2.toNat 0)=true then aS (x.getD x_1.2.toNat 0) else aY)=0 then ac (if aQ (x.getD x_1.2.toNat 0)=true then aS (x.getD x_1.2.toNat 0) else aY) else (0:Int))∧(x.length≤256∧(0≤x_1.2+if af (if aQ (x.getD x_1.2.toNat 0)=true then aS (x.getD x_1.2.toNat 0) else aY)=0 then ac (if aQ (x.getD x_1.2.toNat 0)=true then aS (x.getD x_1.2.toNat 0) else aY) else (0:Int))∧(x_1.2+if af (if aQ (x.getD x_1.2.toNat 0)=true then aS (x.getD x_1.2.toNat 0) else aY)=0 then ac (if aQ (x.getD x_1.2.toNat 0)=true then aS (x.getD x_1.2.toNat 0) else aY) else (0:Int))≤(↑x.length:Int)∧((↑(x_1.1++[(x_1.2,if aQ (x.getD x_1.2.toNat 0)=true then aS (x.getD x_1.2.toNat 0) else aY)]).length:Int)≤x_1.2+if af (if aQ (x.getD x_1.2.toNat 0)=true then aS (x.getD x_1.2.toNat 0) else aY)=0 then ac (if aQ (x.getD x_1.2.toNat 0)=true then aS (x.getD x_1.2.toNat 0) else aY) else (0:Int))∧spotsS 0 x=Option.map (fun (x_2:List aC)=>x_1.1++[(x_1.2,if aQ (x.getD x_1.2.toNat 0)=true then aS (x.getD x_1.2.toNat 0) else aY)]++x_2) (spotsS (x_1.2+if af (if aQ (x.getD x_1.2.toNat 0)=true then aS (x.getD x_1.2.toNat 0) else aY)=0 then ac (if aQ (x.getD x_1.2.toNat 0)=true then aS (x.getD x_1.2.toNat 0) else aY) else (0:Int)) (List.drop (x_1.2+if af (if aQ (x.getD x_1.2.toNat 0)=true then aS (x.getD x_1.2.toNat 0) else aY)=0 then ac (if aQ (x.getD x_1.2.toNat 0)=true then aS (x.getD x_1.2.toNat 0) else aY) else (0:Int)).toNat x)))∧((↑x.length:Int) - (x_1.2+if af (if aQ (x.getD x_1.2.toNat 0)=true then aS (x.getD x_1.2.toNat 0) else aY)=0 then ac (if aQ (x.getD x_1.2.toNat 0)=true then aS (x.getD x_1.2.toNat 0) else aY) else (0:Int))).toNat<((↑x.length:Int) - x_1.2).toNat))∧(decide (x_1.2<(↑x.length:Int))=false→x_1.1=(aa x).1∧0=(aa x).2∧True))
theorem uP:oa:=by
 unfold oa;intro a ⟨hb,hw⟩ _;by_cases cl:256<a.length
 ·have e:aa a=([],2):=by unfold aa; rw [if_pos cl]
  simp [e];omega
 have eF:aa a=match spotsS 0 a with | none=>([],3) | some l=>(l,0):=by unfold aa; rw [if_neg cl]
 refine ⟨fun h=>by simp at h; omega,fun _=>⟨⟨by omega,by omega,by omega,by simp,by simp⟩,fun ⟨out,k⟩ ⟨_,h0,h1,h2,h3⟩=>⟨fun hlt=>?_,fun hge=>?_⟩⟩⟩
 ·have hlt:k<(a.length:Int):=by simpa using hlt
  simp only at *;rw [aW (0:Int) h0 hlt] at h3;have hdl:(((a.getD k.toNat 0::a.drop (k+1).toNat).length:Nat):Int)=a.length - k:=by rw [List.length_cons,List.length_drop]; omega
  have hdd:∀ n:Int,0≤n→(a.getD k.toNat 0::a.drop (k+1).toNat).drop n.toNat=a.drop (k+n).toNat:=fun n hn=>by
   rw [← aW (0:Int) h0 hlt,List.drop_drop];congr 1;omega
  generalize a.getD k.toNat 0=v at *;refine ⟨h0,hlt,trivial,trivial,fun _=>by simp only [ak]; omega,fun hc=>?_,fun hc=>?_⟩
  ·have hn:¬ (aQ v=true∧ac (aS v)≤((v::a.drop (k+1).toNat).length:Int)):=by
    rintro ⟨g1,g2⟩
    have hf:af (aS v)=0:=by
     have:=g1;simp only [aQ,Bool.and_eq_true,beq_iff_eq] at this;exact this.2
    rw [if_pos g1,if_pos g1,if_pos hf] at hc;simp at hc;omega
   rw [eH hn] at h3;rw [eF,h3];exact ⟨rfl,rfl,trivial⟩
  ·have g1:aQ v=true:=by
    cases hv:aQ v
    ·rw [hv] at hc; simp at hc
    ·rfl
   have hf:af (aS v)=0:=by
    have:=g1;simp only [aQ,Bool.and_eq_true,beq_iff_eq] at this;exact this.2
   rw [if_pos g1,if_pos g1,if_pos hf] at hc;simp at hc;have hl:=eK g1;rw [eI g1 (by omega),hdd _ (by omega),Option.map_map] at h3;rw [if_pos g1,if_pos hf];unfold aA;simp only [List.length_append,List.length_cons,List.length_nil,ak];refine ⟨by omega,by omega,⟨by omega,by omega,by omega,by omega,?_⟩,by omega⟩;rw [h3];congr 1;funext x;simp
 ·have hge:¬ k<(a.length:Int):=by simpa using hge
  simp only at *;rw [br hge] at h3;simp only [spotsS,Option.map_some,List.append_nil] at h3;rw [eF,h3];exact ⟨rfl,rfl,trivial⟩
theorem iJ:yl.ok Tryz.prog 144:=aD (ann:=zO) (ae BP (ae iL aq)) Tryz.func144 (by kernel_rfl) uP
def aJ (a:List Int) (s:aC):List Int:=(a.take (s.1+1+s.2.1).toNat).drop (s.1+1).toNat
def ck (a:List Int) (s:aC):Prop:=0≤s.1∧0≤s.2.1∧0≤s.2.2.1∧s.1+1+s.2.1+s.2.2.1≤a.length
def AB:Spec:={ Ts:=[.arr a8,cg],Rs:=[.dat (.arr a8)],al:=true,pre:=fun ((a,s):List Int×aC)=>a.length≤256∧ck a s,F:=fun ((a,s):List Int×aC)=>aJ a s }
def qC:Prop :=
  ∀ (x:List Int×Int×Int×Int×Int×Bool),(x.1.length * 8≤aA∧∀ (x_1:Int),x_1∈x.1→ak .u64 x_1)∧ak .i64 x.2.1∧ak .i64 x.2.2.1∧ak .i64 x.2.2.2.1∧ak .i64 x.2.2.2.2.1∧True→x.1.length≤256∧ck x.1 x.2→ak .i64 (x.2.1+1)∧ak .i64 (x.2.1+1)∧ak .i64 (x.2.1+1+x.2.2.1)∧0≤x.2.1+1∧x.2.1+1≤x.2.1+1+x.2.2.1∧x.2.1+1+x.2.2.1≤(↑x.1.length:Int)∧List.drop (x.2.1+1).toNat (List.take (x.2.1+1+x.2.2.1).toNat x.1)=aJ x.1 x.2∧True
theorem xJ:qC:=by
 unfold qC;intro ⟨a,s⟩ _ ⟨h,h1,h2,h3,h4⟩;simp only [ak,aJ] at *;exact ⟨by omega,by omega,by omega,by omega,by omega,by omega,trivial,trivial⟩
theorem rk:AB.ok Tryz.prog 146:=aD (ann:=cp) aq Tryz.func146 (by kernel_rfl) xJ
def d8 (m:List (Int×Int)) (i:Int):List aC→List (Int×Int)
 | []=>m
 | s::l=>d8 (if s.2.2.2.2=true then m else ef m (s.1+1) i) (i+1) l
def bI (l:List aC):List (Int×Int):=d8 [(0,-1)] 0 l
def wj:Nat→Option LoopGen
 | 3=>some { rd:=[.dat 8 (.arr cg)],A:=fun (l:List aC)=>{ cs:=[.map 6 .u64 ty_I,.dat 10 ty_I],inv:=fun ((m,i):List (Int×Int)×Int)=>0≤i∧i≤l.length∧(∀ s∈l,0≤s.1∧s.1≤256)∧d8 m i (l.drop i.toNat)=bI l,mu:=fun ((_,i):List (Int×Int)×Int)=>(l.length - i).toNat } }
 | _=>none
def vq:Spec:={ Ts:=[.arr cg],Rs:=[.map .u64 ty_I],pre:=fun (l:List aC)=>∀ s∈l,0≤s.1∧s.1≤256,F:=bI }
def mE:Prop :=
  ∀ (x:List (Int×Int×Int×Int×Bool)),(x.length * (8+(8+(8+(8+8))))≤aA∧∀ (x_1:Int×Int×Int×Int×Bool),x_1∈x→ak .i64 x_1.1∧ak .i64 x_1.2.1∧ak .i64 x_1.2.2.1∧ak .i64 x_1.2.2.2.1∧True)→(∀ (s:aC),s∈x→0≤s.1∧s.1≤256)→((0:Int)≤0∧0≤(↑x.length:Int)∧(∀ (s:aC),s∈x→0≤s.1∧s.1≤256)∧d8 (ef ([]:List (Int×Int)) 0 (-1)) 0 (List.drop (Int.toNat 0) x)=bI x)∧∀ (x_1:List (Int×Int)×Int),0≤x_1.2∧x_1.2≤(↑x.length:Int)∧(∀ (s:aC),s∈x→0≤s.1∧s.1≤256)∧d8 x_1.1 x_1.2 (List.drop x_1.2.toNat x)=bI x→(decide (x_1.2<(↑x.length:Int))=true→0≤x_1.2∧x_1.2<(↑x.length:Int)∧((!(x.getD x_1.2.toNat (0,0,0,0,false)).2.2.2.2)=true→ak .u64 (IntKind.u64.wrap (x.getD x_1.2.toNat (0,0,0,0,false)).1+1)∧ak .i64 (x_1.2+1)∧(0≤x_1.2+1∧x_1.2+1≤(↑x.length:Int)∧(∀ (s:aC),s∈x→0≤s.1∧s.1≤256)∧d8 (ef x_1.1 (IntKind.u64.wrap (x.getD x_1.2.toNat (0,0,0,0,false)).1+1) x_1.2) (x_1.2+1) (List.drop (x_1.2+1).toNat x)=bI x)∧((↑x.length:Int) - (x_1.2+1)).toNat<((↑x.length:Int) - x_1.2).toNat)∧((!(x.getD x_1.2.toNat (0,0,0,0,false)).2.2.2.2)=false→ak .i64 (x_1.2+1)∧(0≤x_1.2+1∧x_1.2+1≤(↑x.length:Int)∧(∀ (s:aC),s∈x→0≤s.1∧s.1≤256)∧d8 x_1.1 (x_1.2+1) (List.drop (x_1.2+1).toNat x)=bI x)∧((↑x.length:Int) - (x_1.2+1)).toNat<((↑x.length:Int) - x_1.2).toNat))∧(decide (x_1.2<(↑x.length:Int))=false→x_1.1=bI x∧True)
theorem sh:mE:=by
 unfold mE;intro l ⟨hb,_⟩ hp;refine ⟨⟨by omega,by omega,hp,rfl⟩,fun ⟨m,i⟩ ⟨h0,h1,_,h2⟩=>⟨fun hlt=>?_,fun hge=>?_⟩⟩
 ·have hlt:i<(l.length:Int):=by simpa using hlt
  simp only at *;have hs:=hp _ (aI ((0,0,0,0,false):aC) h0 hlt);rw [aW ((0,0,0,0,false):aC) h0 hlt] at h2;simp only [d8] at h2;generalize l.getD i.toNat (0,0,0,0,false)=s at *;unfold aA at hb;refine ⟨h0,hlt,fun hc=>?_,fun hc=>?_⟩
  ·have hc:¬ s.2.2.2.2=true:=by simpa using hc
   rw [if_neg hc] at h2;rw [fk (by omega) (by omega)];simp only [ak];exact ⟨by omega,by omega,⟨by omega,by omega,hp,h2⟩,by omega⟩
  ·have hc:s.2.2.2.2=true:=by simpa using hc
   rw [if_pos hc] at h2;simp only [ak];exact ⟨by omega,⟨by omega,by omega,hp,h2⟩,by omega⟩
 ·rw [br (by simpa using hge)] at h2;exact ⟨h2,trivial⟩
theorem vJ:vq.ok Tryz.prog 145:=aD (ann:=wj) aq Tryz.func145 (by kernel_rfl) sh
def fx (m:List (Int×Int)) (a:List Int) (l:List aC):Bool:=l.all fun s=>(aJ a s).all fun v=>(aT m v).isSome
def au (a:List Int):List aC×List (Int×Int)×Int :=
 if (aa a).2≠0 then ([],[],(aa a).2) else if fx (bI (aa a).1) a (aa a).1=true then ((aa a).1,bI (aa a).1,0) else ([],[],5)
theorem gU {a:List Int} (h:(aa a).2=0):a.length≤256∧∀ s∈(aa a).1,ck a s∧af s.2=0:=by
 unfold aa at h ⊢;split at h
 ·simp at h
 rename_i cl;rw [if_neg cl];refine ⟨by omega,?_⟩;cases e:spotsS 0 a with
 | none=>rw [e] at h; simp at h
 | some l =>
  intro s hs;obtain ⟨h1,h2,h3⟩:=wv 0 a l e s hs;have:=bj h3;unfold ac at h2;exact ⟨⟨h1,this.1,this.2.1,by omega⟩,h3⟩
def wl:Nat→Option LoopGen
 | 6=>some { rd:=[.own 24 124 cg,.dat 0 (.arr a8),.map 23 .u64 ty_I],A:=fun ((l,a,m):List aC×List Int×List (Int×Int))=>{ cs:=[.dat 26 ty_I],inv:=fun (i:Int)=>0≤i∧i≤l.length∧a.length≤256∧(∀ s∈l,ck a s)∧fx m a (l.drop i.toNat)=fx m a l,mu:=fun (i:Int)=>(l.length - i).toNat } }
 | 9=>some { rd:=[.dat 32 (.arr a8),.map 23 .u64 ty_I],A:=fun ((rs,m):List Int×List (Int×Int))=>{ cs:=[.dat 34 ty_I],inv:=fun (j:Int)=>0≤j∧j≤rs.length∧((rs.drop j.toNat).all fun v=>(aT m v).isSome)=(rs.all fun v=>(aT m v).isSome),mu:=fun (j:Int)=>(rs.length - j).toNat } }
 | _=>none
def vt:Spec:={ Ts:=[.arr a8],Rs:=[.dat (.arr cg),.dat (.map .u64 ty_I),.dat ty_I],al:=true,pre:=fun _=>True,F:=au }
def mG:Prop :=
  ∀ (x:List Int),(x.length * 8≤aA∧∀ (x_1:Int),x_1∈x→ak .u64 x_1)→True→True∧(decide ((aa x).2≠0)=true→([]:List (Int×Int×Int×Int×Bool))=(au x).1∧([]:List (Int×Int))=(au x).2.1∧(aa x).2=(au x).2.2∧True)∧(decide ((aa x).2≠0)=false→(∀ (s:aC),s∈(aa x).1→0≤s.1∧s.1≤256)∧((0:Int)≤0∧0≤(↑(aa x).1.length:Int)∧x.length≤256∧(∀ (s:aC),s∈(aa x).1→ck x s)∧fx (bI (aa x).1) x (List.drop (Int.toNat 0) (aa x).1)=fx (bI (aa x).1) x (aa x).1)∧∀ (x_1:Int),0≤x_1∧x_1≤(↑(aa x).1.length:Int)∧x.length≤256∧(∀ (s:aC),s∈(aa x).1→ck x s)∧fx (bI (aa x).1) x (List.drop x_1.toNat (aa x).1)=fx (bI (aa x).1) x (aa x).1→(decide (x_1<(↑(aa x).1.length:Int))=true→0≤x_1∧x_1<(↑(aa x).1.length:Int)∧x_1.toNat<(aa x).1.length∧(x.length≤256∧ck x ((aa x).1.getD x_1.toNat (0,0,0,0,false)))∧((0:Int)≤0∧0≤(↑(aJ x ((aa x).1.getD x_1.toNat (0,0,0,0,false))).length:Int)∧((List.drop (Int.toNat 0) (aJ x ((aa x).1.getD x_1.toNat (0,0,0,0,false)))).all fun (v:Int)=>(aT (bI (aa x).1) v).isSome)=(aJ x ((aa x).1.getD x_1.toNat (0,0,0,0,false))).all fun (v:Int)=>(aT (bI (aa x).1) v).isSome)∧∀ (x_2:Int),(0≤x_2∧x_2≤(↑(aJ x ((aa x).1.getD x_1.toNat (0,0,0,0,false))).length:Int)∧((List.drop x_2.toNat (aJ x ((aa x).1.getD x_1.toNat (0,0,0,0,false)))).all fun (v:Int)=>(aT (bI (aa x).1) v).isSome)=(aJ x ((aa x).1.getD x_1.toNat (0,0,0,0,false))).all fun (v:Int)=>(aT (bI (aa x).1) v).isSome)→(decide (x_2<(↑(aJ x ((aa x).1.getD x_1.toNat (0,0,0,0,false))).length:Int))=true→0≤x_2∧x_2<(↑(aJ x ((aa x).1.getD x_1.toNat (0,0,0,0,false))).length:Int)∧((!(aT (bI (aa x).1) ((aJ x ((aa x).1.getD x_1.toNat (0,0,0,0,false))).getD x_2.toNat 0)).isSome)=true→([]:List (Int×Int×Int×Int×Bool))=(au x).1∧([]:List (Int×Int))=(au x).2.1∧5=(au x).2.2∧True)∧((!(aT (bI (aa x).1) ((aJ x ((aa x).1.getD x_1.toNat (0,0,0,0,false))).getD x_2.toNat 0)).isSome)=false→ak .i64 (x_2+1)∧(0≤x_2+1∧x_2+1≤(↑(aJ x ((aa x).1.getD x_1.toNat (0,0,0,0,false))).length:Int)∧((List.drop (x_2+1).toNat (aJ x ((aa x).1.getD x_1.toNat (0,0,0,0,false)))).all fun (v:Int)=>(aT (bI (aa x).1) v).isSome)=(aJ x ((aa x).1.getD x_1.toNat (0,0,0,0,false))).all fun (v:Int)=>(aT (bI (aa x).1) v).isSome)∧((↑(aJ x ((aa x).1.getD x_1.toNat (0,0,0,0,false))).length:Int) - (x_2+1)).toNat<((↑(aJ x ((aa x).1.getD x_1.toNat (0,0,0,0,false))).length:Int) - x_2).toNat))∧(decide (x_2<(↑(aJ x ((aa x).1.getD x_1.toNat (0,0,0,0,false))).length:Int))=false→ak .i64 (x_1+1)∧(0≤x_1+1∧x_1+1≤(↑(aa x).1.length:Int)∧x.length≤256∧(∀ (s:aC),s∈(aa x).1→ck x s)∧fx (bI (aa x).1) x (List.drop (x_1+1).toNat (aa x).1)=fx (bI (aa x).1) x (aa x).1)∧((↑(aa x).1.length:Int) - (x_1+1)).toNat<((↑(aa x).1.length:Int) - x_1).toNat))∧(decide (x_1<(↑(aa x).1.length:Int))=false→(aa x).1=(au x).1∧bI (aa x).1=(au x).2.1∧0=(au x).2.2∧True))
theorem sj:mG:=by
 unfold mG;intro a ⟨hb,hw⟩ _;have hlen:=cD a;have hin:=gU (a:=a);have hF:au a=if (aa a).2≠0 then ([],[],(aa a).2) else if fx (bI (aa a).1) a (aa a).1=true then ((aa a).1,bI (aa a).1,0) else ([],[],5):=rfl
 generalize bI (aa a).1=m at *;generalize (aa a).1=l at *;refine ⟨trivial,fun hc=>?_,fun hc=>?_⟩
 ·have hc:(aa a).2≠0:=by simpa using hc
  rw [hF,if_pos hc];exact ⟨rfl,rfl,rfl,trivial⟩
 have hc:(aa a).2=0:=by simpa using hc
 rw [if_neg (by omega)] at hF;obtain ⟨hal,hsp⟩:=hin hc;refine ⟨fun s hs=>?_,⟨by omega,by omega,hal,fun s hs=>(hsp s hs).1,rfl⟩,fun i ⟨h0,h1,_,_,h2⟩=>⟨fun hlt=>?_,fun hge=>?_⟩⟩
 ·have:=(hsp s hs).1;unfold ck at this;omega
 ·have hlt:i<(l.length:Int):=by simpa using hlt
  have hs:=hsp _ (aI ((0,0,0,0,false):aC) h0 hlt);rw [aW ((0,0,0,0,false):aC) h0 hlt] at h2;simp only [fx,List.all_cons] at h2;generalize l.getD i.toNat (0,0,0,0,false)=s at *;have hrl:(aJ a s).length≤256:=by simp only [aJ,List.length_drop,List.length_take]; omega
  generalize aJ a s=rs at *;refine ⟨h0,hlt,by omega,⟨hal,hs.1⟩,⟨by omega,by omega,rfl⟩,fun j ⟨g0,g1,g2⟩=>⟨fun hlt=>?_,fun hge=>?_⟩⟩
  ·have hlt:j<(rs.length:Int):=by simpa using hlt
   rw [aW (0:Int) g0 hlt] at g2;simp only [List.all_cons] at g2;generalize rs.getD j.toNat 0=v at *;refine ⟨g0,hlt,fun hv=>?_,fun hv=>?_⟩
   ·have hv:(aT m v).isSome=false:=by simpa using hv
    rw [hv,Bool.false_and] at g2;rw [← g2,Bool.false_and] at h2;rw [hF,if_neg (by unfold fx; rw [← h2]; simp)];exact ⟨rfl,rfl,rfl,trivial⟩
   ·have hv:(aT m v).isSome=true:=by simpa using hv
    rw [hv,Bool.true_and] at g2;simp only [ak];exact ⟨by omega,⟨by omega,by omega,g2⟩,by omega⟩
  ·rw [br (by simpa using hge),List.all_nil] at g2;rw [← g2,Bool.true_and] at h2;simp only [ak];exact ⟨by omega,⟨by omega,by omega,hal,fun s hs=>(hsp s hs).1,h2⟩,by omega⟩
 ·rw [br (by simpa using hge)] at h2;have h2:fx m a l=true:=by rw [← h2]; rfl
  rw [hF,if_pos h2];exact ⟨rfl,rfl,rfl,trivial⟩
theorem mR:vt.ok Tryz.prog 105:=aD (ann:=wl) (ae iJ (ae vJ (ae rk aq))) Tryz.func105 (by kernel_rfl) sj
def ym:Spec:={ Ts:=[.arr a8],Rs:=[.dat ty_I],pre:=fun _=>True,F:=fun (a:List Int)=>(au a).2.2 }
def ob:Prop :=
  ∀ (x:List Int),(x.length * 8≤aA∧∀ (x_1:Int),x_1∈x→ak .u64 x_1)→True→True∧(au x).2.2=(au x).2.2∧True
theorem uQ:ob:=by
 unfold ob;intro a _ _;simp
theorem iK:ym.ok Tryz.prog 80:=aD (ann:=cp) (ae mR aq) Tryz.func80 (by kernel_rfl) uQ
def je (a:List Int) (s:aC):List Int:=(a.take (s.1+1+s.2.1+s.2.2.1).toNat).drop (s.1+1+s.2.1).toNat
def gK (a:List Int) (s:aC) (m:List (Int×Int)):Obj:=(s.2.2.2.1,(aJ a s).map (fun v=>(aT m v).getD 0),je a s,s.2.2.2.2)
def wk:Nat→Option LoopGen
 | 3=>some { rd:=[.dat 20 (.arr a8),.dat 2 (.map .u64 ty_I),.box 4 cg],A:=fun ((rs,m,s):List Int×List (Int×Int)×aC)=>{ cs:=[.boxS 7 [.dat ty_I,.own 3 ty_I,.dat (.arr a8),.dat .bool],.dat 22 ty_I],inv:=fun ((o,j):Obj×Int)=>0≤j∧j≤rs.length∧rs.length≤256∧o=(s.2.2.2.1,(rs.take j.toNat).map (fun v=>(aT m v).getD 0),[],s.2.2.2.2),mu:=fun ((_,j):Obj×Int)=>(rs.length - j).toNat } }
 | _=>none
def vr:Spec:={ Ts:=[.arr a8,cg,.map .u64 ty_I],Rs:=[.dat Dl],al:=true,pre:=fun ((a,s,_):List Int×aC×List (Int×Int))=>a.length≤256∧ck a s,F:=fun ((a,s,m):List Int×aC×List (Int×Int))=>gK a s m }
def mF:Prop :=
  ∀ (x:List Int×(Int×Int×Int×Int×Bool)×List (Int×Int)),((x.1.length * 8≤aA∧∀ (x_1:Int),x_1∈x.1→ak .u64 x_1)∧(ak .i64 x.2.1.1∧ak .i64 x.2.1.2.1∧ak .i64 x.2.1.2.2.1∧ak .i64 x.2.1.2.2.2.1∧True)∧∀ (x_1:Int×Int),x_1∈x.2.2→ak .u64 x_1.1∧ak .i64 x_1.2)→x.1.length≤256∧ck x.1 x.2.1→(x.1.length≤256∧ck x.1 x.2.1)∧((0:Int)≤0∧0≤(↑(aJ x.1 x.2.1).length:Int)∧(aJ x.1 x.2.1).length≤256∧(x.2.1.2.2.2.1,([]:List Int),([]:List Int),x.2.1.2.2.2.2)=(x.2.1.2.2.2.1,List.map (fun (v:Int)=>(aT x.2.2 v).getD 0) (List.take (Int.toNat 0) (aJ x.1 x.2.1)),([]:List Int),x.2.1.2.2.2.2))∧∀ (x_1:(Int×List Int×List Int×Bool)×Int),0≤x_1.2∧x_1.2≤(↑(aJ x.1 x.2.1).length:Int)∧(aJ x.1 x.2.1).length≤256∧x_1.1=(x.2.1.2.2.2.1,List.map (fun (v:Int)=>(aT x.2.2 v).getD 0) (List.take x_1.2.toNat (aJ x.1 x.2.1)),([]:List Int),x.2.1.2.2.2.2)→(decide (x_1.2<(↑(aJ x.1 x.2.1).length:Int))=true→0≤x_1.2∧x_1.2<(↑(aJ x.1 x.2.1).length:Int)∧(x_1.1.2.1.length+[(aT x.2.2 ((aJ x.1 x.2.1).getD x_1.2.toNat 0)).getD 0].length) * 8≤aA∧ak .i64 (x_1.2+1)∧(0≤x_1.2+1∧x_1.2+1≤(↑(aJ x.1 x.2.1).length:Int)∧(aJ x.1 x.2.1).length≤256∧(x_1.1.1,x_1.1.2.1++[(aT x.2.2 ((aJ x.1 x.2.1).getD x_1.2.toNat 0)).getD 0],x_1.1.2.2)=(x.2.1.2.2.2.1,List.map (fun (v:Int)=>(aT x.2.2 v).getD 0) (List.take (x_1.2+1).toNat (aJ x.1 x.2.1)),([]:List Int),x.2.1.2.2.2.2))∧((↑(aJ x.1 x.2.1).length:Int) - (x_1.2+1)).toNat<((↑(aJ x.1 x.2.1).length:Int) - x_1.2).toNat)∧(decide (x_1.2<(↑(aJ x.1 x.2.1).length:Int))=false→ak .i64 (x.2.1.1+1)∧ak .i64 (x.2.1.1+1+x.2.1.2.1)∧ak .i64 (x.2.1.1+1+x.2.1.2.1+x.2.1.2.2.1)∧0≤x.2.1.1+1+x.2.1.2.1∧x.2.1.1+1+x.2.1.2.1≤x.2.1.1+1+x.2.1.2.1+x.2.1.2.2.1∧x.2.1.1+1+x.2.1.2.1+x.2.1.2.2.1≤(↑x.1.length:Int)∧True∧(x_1.1.1,x_1.1.2.1,List.drop (x.2.1.1+1+x.2.1.2.1).toNat (List.take (x.2.1.1+1+x.2.1.2.1+x.2.1.2.2.1).toNat x.1),x_1.1.2.2.2)=gK x.1 x.2.1 x.2.2∧True)
theorem si:mF:=by
 unfold mF;intro ⟨a,s,m⟩ _ ⟨hal,hs⟩;have hs':=hs;unfold ck at hs';simp only at *;have hrl:(aJ a s).length≤256:=by simp only [aJ,List.length_drop,List.length_take]; omega
 have hF:gK a s m=(s.2.2.2.1,(aJ a s).map (fun v=>(aT m v).getD 0),je a s,s.2.2.2.2):=rfl;have hB:je a s=(a.take (s.1+1+s.2.1+s.2.2.1).toNat).drop (s.1+1+s.2.1).toNat:=rfl;rw [hF,hB];generalize aJ a s=rs at *;refine ⟨⟨hal,hs⟩,⟨by omega,by omega,hrl,by simp⟩,fun ⟨o,j⟩ ⟨g0,g1,_,g2⟩=>⟨fun hlt=>?_,fun hge=>?_⟩⟩
 ·have hlt:j<(rs.length:Int):=by simpa using hlt
  simp only at g0 g1 g2;have e:=bt (0:Int) g0 hlt;have hl:o.2.1.length=j.toNat:=by rw [g2]; simp; omega
  unfold aA;simp only [ak,List.length_cons,List.length_nil];refine ⟨g0,hlt,by omega,by omega,⟨by omega,by omega,hrl,?_⟩,by omega⟩;rw [e,List.map_append,g2];rfl
 ·have hge:¬ j<(rs.length:Int):=by simpa using hge
  simp only at g0 g1 g2;rw [bN hge] at g2;simp only [ak];refine ⟨by omega,by omega,by omega,by omega,by omega,by omega,trivial,?_,trivial⟩;rw [g2]
theorem vK:vr.ok Tryz.prog 108:=aD (ann:=wk) (ae rk (ae bX aq)) Tryz.func108 (by kernel_rfl) si
theorem b7 {a:List Int} (h:(au a).2.2=0):a.length≤256∧(au a).1.length≤256∧(au a).1=(aa a).1∧(aa a).2=0∧(au a).2.1=bI (aa a).1∧fx (bI (aa a).1) a (aa a).1=true∧∀ s∈(au a).1,ck a s∧af s.2=0:=by
 unfold au at h ⊢;by_cases h1:(aa a).2≠0
 ·rw [if_pos h1] at h;exact absurd h h1
 ·rw [if_neg h1] at h ⊢;have h1:(aa a).2=0:=by omega
  by_cases h2:fx (bI (aa a).1) a (aa a).1=true
  ·rw [if_pos h2];exact ⟨(gU h1).1,cD a,rfl,h1,rfl,h2,(gU h1).2⟩
  ·rw [if_neg h2] at h;simp at h
def DH:Spec:={ Ts:=[.arr cg,.fn cg .bool],Rs:=[.dat ty_I],pre:=fun ((l,g):List aC×(aC→Prop)×(aC→Bool))=>∀ s∈l,g.1 s,F:=fun ((l,g):List aC×(aC→Prop)×(aC→Bool))=>ai g.2 0 l }
def EN:Nat→Option LoopGen
 | 2=>some { rd:=[.dat 0 (.arr cg),.dat 1 (.fn cg .bool)],A:=fun ((l,g):List aC×(aC→Prop)×(aC→Bool))=>{ cs:=[.dat 8 ty_I],inv:=fun (i:Int)=>0≤i∧i≤l.length∧ai g.2 i (l.drop i.toNat)=ai g.2 0 l,mu:=fun (i:Int)=>(l.length - i).toNat } }
 | _=>none
def tp:Prop :=
  ∀ (x:List (Int×Int×Int×Int×Bool)×(Int×Int×Int×Int×Bool→Prop)×(Int×Int×Int×Int×Bool→Bool)),(x.1.length * (8+(8+(8+(8+8))))≤aA∧∀ (x_1:Int×Int×Int×Int×Bool),x_1∈x.1→ak .i64 x_1.1∧ak .i64 x_1.2.1∧ak .i64 x_1.2.2.1∧ak .i64 x_1.2.2.2.1∧True)∧True→(∀ (s:aC),s∈x.1→x.2.1 s)→((0:Int)≤0∧0≤(↑x.1.length:Int)∧ai x.2.2 0 (List.drop (Int.toNat 0) x.1)=ai x.2.2 0 x.1)∧∀ (x_1:Int),0≤x_1∧x_1≤(↑x.1.length:Int)∧ai x.2.2 x_1 (List.drop x_1.toNat x.1)=ai x.2.2 0 x.1→(decide (x_1<(↑x.1.length:Int))=true→0≤x_1∧x_1<(↑x.1.length:Int)∧x.2.1 (x.1.getD x_1.toNat (0,0,0,0,false))∧(x.2.2 (x.1.getD x_1.toNat (0,0,0,0,false))=true→x_1=ai x.2.2 0 x.1∧True)∧(x.2.2 (x.1.getD x_1.toNat (0,0,0,0,false))=false→ak .i64 (x_1+1)∧(0≤x_1+1∧x_1+1≤(↑x.1.length:Int)∧ai x.2.2 (x_1+1) (List.drop (x_1+1).toNat x.1)=ai x.2.2 0 x.1)∧((↑x.1.length:Int) - (x_1+1)).toNat<((↑x.1.length:Int) - x_1).toNat))∧(decide (x_1<(↑x.1.length:Int))=false→(-1)=ai x.2.2 0 x.1∧True)
theorem Ak:tp:=by
 unfold tp;intro ⟨l,g⟩ ⟨⟨hl,_⟩,_⟩ hp;unfold aA at *;refine ⟨⟨by omega,by omega,by simp⟩,fun i ⟨h0,h1,h2⟩=>⟨fun hlt=>?_,fun hge=>?_⟩⟩
 ·have hlt:i<(l.length:Int):=by simpa using hlt
  have e:=aW ((0,0,0,0,false):aC) h0 hlt;have hm:=hp _ (aI ((0,0,0,0,false):aC) h0 hlt);simp only at *;rw [e] at h2;simp only [ai] at h2;refine ⟨h0,hlt,hm,fun hc=>?_,fun hc=>?_⟩
  ·rw [if_pos hc] at h2;exact ⟨h2,trivial⟩
  ·rw [if_neg (by rw [hc]; simp)] at h2;exact ⟨by simp only [ak]; omega,⟨by omega,by omega,h2⟩,by omega⟩
 ·rw [br (by simpa using hge)] at h2;exact ⟨h2,trivial⟩
theorem nt:DH.ok Tryz.prog 106:=aD (ann:=EN) aq Tryz.func106 (by kernel_rfl) Ak
def GA:Spec:={ Ts:=[cg,.ref ty_I],Rs:=[.dat .bool],pre:=fun _=>True,F:=fun ((s,at_):aC×Int)=>decide (s.1=at_) }
def w5:Prop :=
  ∀ (x:(Int×Int×Int×Int×Bool)×Int),(ak .i64 x.1.1∧ak .i64 x.1.2.1∧ak .i64 x.1.2.2.1∧ak .i64 x.1.2.2.2.1∧True)∧ak .i64 x.2→True→decide (x.1.1=x.2)=decide (x.1.1=x.2)∧True
theorem Dh:w5:=by
 unfold w5;intro ⟨s,at_⟩ _ _;simp
theorem G6:GA.ok Tryz.prog 107:=aD (ann:=cp) aq Tryz.func107 (by kernel_rfl) Dh
def ie:Obj:=(0,[],[],false)
def db (a:List Int) (at_:Int):Obj×Int :=
 if (au a).2.2≠0 then (ie,(au a).2.2) else if ai (fun s=>decide (s.1=at_)) 0 (au a).1<0 then (ie,5)
 else (gK a ((au a).1.getD (ai (fun s=>decide (s.1=at_)) 0 (au a).1).toNat (0,0,0,0,false)) (au a).2.1,0)
def F9:Spec:={ Ts:=[.arr a8,ty_I],Rs:=[.dat Dl,.dat ty_I],al:=true,pre:=fun _=>True,F:=fun ((a,at_):List Int×Int)=>db a at_ }
def wD:Prop :=
  ∀ (x:List Int×Int),(x.1.length * 8≤aA∧∀ (x_1:Int),x_1∈x.1→ak .u64 x_1)∧ak .i64 x.2→True→True∧(decide ((au x.1).2.2≠0)=true→(0,([]:List Int),([]:List Int),false)=(db x.1 x.2).1∧(au x.1).2.2=(db x.1 x.2).2∧True)∧(decide ((au x.1).2.2≠0)=false→(∀ (s:aC),s∈(au x.1).1→(fun (_:Int×Int×Int×Int×Bool)=>True,fun (x_1:Int×Int×Int×Int×Bool)=>decide (x_1.1=x.2)).1 s)∧(decide (ai (fun (x_1:Int×Int×Int×Int×Bool)=>decide (x_1.1=x.2)) 0 (au x.1).1<0)=true→(0,([]:List Int),([]:List Int),false)=(db x.1 x.2).1∧5=(db x.1 x.2).2∧True)∧(decide (ai (fun (x_1:Int×Int×Int×Int×Bool)=>decide (x_1.1=x.2)) 0 (au x.1).1<0)=false→0≤ai (fun (x_1:Int×Int×Int×Int×Bool)=>decide (x_1.1=x.2)) 0 (au x.1).1∧ai (fun (x_1:Int×Int×Int×Int×Bool)=>decide (x_1.1=x.2)) 0 (au x.1).1<(↑(au x.1).1.length:Int)∧(x.1.length≤256∧ck x.1 ((au x.1).1.getD (ai (fun (x_1:Int×Int×Int×Int×Bool)=>decide (x_1.1=x.2)) 0 (au x.1).1).toNat (0,0,0,0,false)))∧gK x.1 ((au x.1).1.getD (ai (fun (x_1:Int×Int×Int×Int×Bool)=>decide (x_1.1=x.2)) 0 (au x.1).1).toNat (0,0,0,0,false)) (au x.1).2.1=(db x.1 x.2).1∧0=(db x.1 x.2).2∧True))
theorem CS:wD:=by
 unfold wD;intro ⟨a,at_⟩ _ _;have hin:=b7 (a:=a)
 have hF:db a at_=if (au a).2.2≠0 then (ie,(au a).2.2) else if ai (fun s=>decide (s.1=at_)) 0 (au a).1<0 then (ie,5)
   else (gK a ((au a).1.getD (ai (fun s=>decide (s.1=at_)) 0 (au a).1).toNat (0,0,0,0,false)) (au a).2.1,0):=rfl
 simp only at *;generalize (au a).1=l at *;have hlt:=dq (fun s:aC=>decide (s.1=at_)) (0,0,0,0,false) l 0 (by omega);rw [hF];refine ⟨trivial,fun hc=>?_,fun hc=>⟨fun _ _=>trivial,fun h2=>?_,fun h2=>?_⟩⟩
 ·have hc:(au a).2.2≠0:=by simpa using hc
  rw [if_pos hc];exact ⟨rfl,rfl,trivial⟩
 ·have hc:(au a).2.2=0:=by simpa using hc
  rw [if_neg (by omega),if_pos (of_decide_eq_true h2)];exact ⟨rfl,rfl,trivial⟩
 ·have hc:(au a).2.2=0:=by simpa using hc
  have h2:=of_decide_eq_false h2;rw [if_neg (by omega),if_neg h2];obtain ⟨hal,hll,_,_,_,_,hsp⟩:=hin hc;have hlt':ai (fun s:aC=>decide (s.1=at_)) 0 l<(l.length:Int):=by omega
  have h2':0≤ai (fun s:aC=>decide (s.1=at_)) 0 l:=Int.not_lt.1 h2;exact ⟨h2',hlt',⟨hal,(hsp _ (aI _ h2' hlt')).1⟩,rfl,rfl,trivial⟩
theorem mm:F9.ok Tryz.prog 66:=aD (ann:=cp) (ae mR (ae vK (ae nt (ae G6 aq)))) Tryz.func66 (by kernel_rfl) CS
end
section
open Go
set_option maxRecDepth 100000
set_option maxHeartbeats 1000000
def fe:LoopGen:={ rd:=[],A:=fun _=>{ cs:=[],inv:=fun _=>True,mu:=fun _=>0 } }
def bF (l:List Int) (n:Int):Int:=ai (fun x=>decide (x=n)) 0 l
def HE:Nat→Option LoopGen
 | 2=>some { rd:=[.dat 7 (.arr ty_I),.dat 1 ty_I],A:=fun ((l,n):List Int×Int)=>{ cs:=[.dat 9 ty_I],inv:=fun (i:Int)=>0≤i∧i≤l.length∧ai (fun x=>decide (x=n)) i (l.drop i.toNat)=bF l n,mu:=fun (i:Int)=>(l.length - i).toNat } }
 | _=>none
def Gq:Spec:={ Ts:=[.arr ty_I,ty_I],Rs:=[.dat ty_I],pre:=fun _=>True,F:=fun ((l,n):List Int×Int)=>bF l n }
def wT:Prop :=
  ∀ (x:List Int×Int),(x.1.length * 8≤aA∧∀ (x_1:Int),x_1∈x.1→ak .i64 x_1)∧ak .i64 x.2→True→((0:Int)≤0∧0≤(↑x.1.length:Int)∧ai (fun (x_1:Int)=>decide (x_1=x.2)) 0 (List.drop (Int.toNat 0) x.1)=bF x.1 x.2)∧∀ (x_1:Int),0≤x_1∧x_1≤(↑x.1.length:Int)∧ai (fun (x_2:Int)=>decide (x_2=x.2)) x_1 (List.drop x_1.toNat x.1)=bF x.1 x.2→(decide (x_1<(↑x.1.length:Int))=true→0≤x_1∧x_1<(↑x.1.length:Int)∧(decide (x.1.getD x_1.toNat 0=x.2)=true→x_1=bF x.1 x.2∧True)∧(decide (x.1.getD x_1.toNat 0=x.2)=false→ak .i64 (x_1+1)∧(0≤x_1+1∧x_1+1≤(↑x.1.length:Int)∧ai (fun (x_2:Int)=>decide (x_2=x.2)) (x_1+1) (List.drop (x_1+1).toNat x.1)=bF x.1 x.2)∧((↑x.1.length:Int) - (x_1+1)).toNat<((↑x.1.length:Int) - x_1).toNat))∧(decide (x_1<(↑x.1.length:Int))=false→(-1)=bF x.1 x.2∧True)
theorem C9:wT:=by
 unfold wT;intro ⟨l,n⟩ ⟨⟨hb,_⟩,_⟩ _;unfold aA at hb;refine ⟨⟨by omega,by omega,rfl⟩,fun i ⟨h0,h1,h2⟩=>⟨fun hlt=>?_,fun hge=>?_⟩⟩
 ·have hlt:i<(l.length:Int):=by simpa using hlt
  simp only at *;rw [aW (0:Int) h0 hlt] at h2;simp only [ai] at h2;simp only [ak];refine ⟨h0,hlt,fun hc=>?_,fun hc=>?_⟩
  ·rw [if_pos hc] at h2;exact ⟨h2,trivial⟩
  ·rw [if_neg (by rw [hc]; simp)] at h2;exact ⟨by omega,⟨by omega,by omega,h2⟩,by omega⟩
 ·rw [br (by simpa using hge)] at h2;exact ⟨h2,trivial⟩
theorem pO:Gq.ok Tryz.prog 79:=aD (ann:=HE) aq Tryz.func79 (by kernel_rfl) C9
def cP (l:List Int) (n:Int):Bool:=l.any fun x=>decide (x=n)
def K7:Spec:={ Ts:=[.arr ty_I,ty_I],Rs:=[.dat .bool],pre:=fun _=>True,F:=fun ((l,n):List Int×Int)=>cP l n }
def Iv:Prop :=
  ∀ (x:List Int×Int),(x.1.length * 8≤aA∧∀ (x_1:Int),x_1∈x.1→ak .i64 x_1)∧ak .i64 x.2→True→True∧decide (0≤bF x.1 x.2)=cP x.1 x.2∧True
theorem JZ:Iv:=by
 unfold Iv;intro ⟨l,n⟩ _ _;exact ⟨trivial,cW _ l 0 (by omega),trivial⟩
theorem tK:K7.ok Tryz.prog 90:=aD (ann:=cp) (ae pO aq) Tryz.func90 (by kernel_rfl) JZ
def Ka:Spec:={ Ts:=[.arr ty_I,ty_I],Rs:=[.dat ty_I],pre:=fun _=>True,F:=fun ((l,v):List Int×Int)=>bF l v }
def KP:Nat→Option LoopGen
 | 2=>some { rd:=[.dat 0 (.arr ty_I),.dat 1 ty_I],A:=fun ((l,v):List Int×Int)=>{ cs:=[.dat 8 ty_I],inv:=fun (i:Int)=>0≤i∧i≤l.length∧ai (fun x=>decide (x=v)) i (l.drop i.toNat)=bF l v,mu:=fun (i:Int)=>(l.length - i).toNat } }
 | _=>none
def E3:Prop :=
  ∀ (x:List Int×Int),(x.1.length * 8≤aA∧∀ (x_1:Int),x_1∈x.1→ak .i64 x_1)∧ak .i64 x.2→True→((0:Int)≤0∧0≤(↑x.1.length:Int)∧ai (fun (x_1:Int)=>decide (x_1=x.2)) 0 (List.drop (Int.toNat 0) x.1)=bF x.1 x.2)∧∀ (x_1:Int),0≤x_1∧x_1≤(↑x.1.length:Int)∧ai (fun (x_2:Int)=>decide (x_2=x.2)) x_1 (List.drop x_1.toNat x.1)=bF x.1 x.2→(decide (x_1<(↑x.1.length:Int))=true→0≤x_1∧x_1<(↑x.1.length:Int)∧(decide (x.2=x.1.getD x_1.toNat 0)=true→x_1=bF x.1 x.2∧True)∧(decide (x.2=x.1.getD x_1.toNat 0)=false→ak .i64 (x_1+1)∧(0≤x_1+1∧x_1+1≤(↑x.1.length:Int)∧ai (fun (x_2:Int)=>decide (x_2=x.2)) (x_1+1) (List.drop (x_1+1).toNat x.1)=bF x.1 x.2)∧((↑x.1.length:Int) - (x_1+1)).toNat<((↑x.1.length:Int) - x_1).toNat))∧(decide (x_1<(↑x.1.length:Int))=false→(-1)=bF x.1 x.2∧True)
theorem HN:E3:=by
 unfold E3;intro ⟨l,n⟩ ⟨⟨hb,_⟩,_⟩ _;unfold aA at hb;refine ⟨⟨by omega,by omega,rfl⟩,fun i ⟨h0,h1,h2⟩=>⟨fun hlt=>?_,fun hge=>?_⟩⟩
 ·have hlt:i<(l.length:Int):=by simpa using hlt
  simp only at *;rw [aW (0:Int) h0 hlt] at h2;simp only [ai] at h2;simp only [ak];refine ⟨h0,hlt,fun hc=>?_,fun hc=>?_⟩
  ·rw [if_pos (decide_eq_true (of_decide_eq_true hc).symm)] at h2;exact ⟨h2,trivial⟩
  ·rw [if_neg (fun e=>of_decide_eq_false hc (of_decide_eq_true e).symm)] at h2;exact ⟨by omega,⟨by omega,by omega,h2⟩,by omega⟩
 ·rw [br (by simpa using hge)] at h2;exact ⟨h2,trivial⟩
theorem Fh:Ka.ok Tryz.prog 104:=aD (ann:=KP) aq Tryz.func104 (by kernel_rfl) HN
def Kb:Spec:={ Ts:=[.arr ty_I,ty_I],Rs:=[.dat .bool],pre:=fun _=>True,F:=fun ((l,v):List Int×Int)=>cP l v }
def E4:Prop :=
  ∀ (x:List Int×Int),(x.1.length * 8≤aA∧∀ (x_1:Int),x_1∈x.1→ak .i64 x_1)∧ak .i64 x.2→True→True∧decide (0≤bF x.1 x.2)=cP x.1 x.2∧True
theorem HO:E4:=by
 unfold E4;intro ⟨l,v⟩ _ _;exact ⟨trivial,cW _ l 0 (by omega),trivial⟩
theorem za:Kb.ok Tryz.prog 64:=aD (ann:=cp) (ae Fh aq) Tryz.func64 (by kernel_rfl) HO
def Ig:Spec:={ Ts:=[.arr ty_I,.fn ty_I .bool],Rs:=[.dat ty_I],pre:=fun ((l,g):List Int×(Int→Prop)×(Int→Bool))=>∀ s∈l,g.1 s,F:=fun ((l,g):List Int×(Int→Prop)×(Int→Bool))=>ai g.2 0 l }
def JS:Nat→Option LoopGen
 | 2=>some { rd:=[.dat 0 (.arr ty_I),.dat 1 (.fn ty_I .bool)],A:=fun ((l,g):List Int×(Int→Prop)×(Int→Bool))=>{ cs:=[.dat 8 ty_I],inv:=fun (i:Int)=>0≤i∧i≤l.length∧ai g.2 i (l.drop i.toNat)=ai g.2 0 l,mu:=fun (i:Int)=>(l.length - i).toNat } }
 | _=>none
def Bu:Prop :=
  ∀ (x:List Int×(Int→Prop)×(Int→Bool)),(x.1.length * 8≤aA∧∀ (x_1:Int),x_1∈x.1→ak .i64 x_1)∧True→(∀ (s:Int),s∈x.1→x.2.1 s)→((0:Int)≤0∧0≤(↑x.1.length:Int)∧ai x.2.2 0 (List.drop (Int.toNat 0) x.1)=ai x.2.2 0 x.1)∧∀ (x_1:Int),0≤x_1∧x_1≤(↑x.1.length:Int)∧ai x.2.2 x_1 (List.drop x_1.toNat x.1)=ai x.2.2 0 x.1→(decide (x_1<(↑x.1.length:Int))=true→0≤x_1∧x_1<(↑x.1.length:Int)∧x.2.1 (x.1.getD x_1.toNat 0)∧(x.2.2 (x.1.getD x_1.toNat 0)=true→x_1=ai x.2.2 0 x.1∧True)∧(x.2.2 (x.1.getD x_1.toNat 0)=false→ak .i64 (x_1+1)∧(0≤x_1+1∧x_1+1≤(↑x.1.length:Int)∧ai x.2.2 (x_1+1) (List.drop (x_1+1).toNat x.1)=ai x.2.2 0 x.1)∧((↑x.1.length:Int) - (x_1+1)).toNat<((↑x.1.length:Int) - x_1).toNat))∧(decide (x_1<(↑x.1.length:Int))=false→(-1)=ai x.2.2 0 x.1∧True)
theorem FW:Bu:=by
 unfold Bu;intro ⟨l,g⟩ ⟨⟨hl,_⟩,_⟩ hp;unfold aA at *;refine ⟨⟨by omega,by omega,by simp⟩,fun i ⟨h0,h1,h2⟩=>⟨fun hlt=>?_,fun hge=>?_⟩⟩
 ·have hlt:i<(l.length:Int):=by simpa using hlt
  have e:=aW (0:Int) h0 hlt;have hm:=hp _ (aI (0:Int) h0 hlt);simp only at *;rw [e] at h2;simp only [ai] at h2;refine ⟨h0,hlt,hm,fun hc=>?_,fun hc=>?_⟩
  ·rw [if_pos hc] at h2;exact ⟨h2,trivial⟩
  ·rw [if_neg (by rw [hc]; simp)] at h2;exact ⟨by simp only [ak]; omega,⟨by omega,by omega,h2⟩,by omega⟩
 ·rw [br (by simpa using hge)] at h2;exact ⟨h2,trivial⟩
theorem BO:Ig.ok Tryz.prog 148:=aD (ann:=JS) aq Tryz.func148 (by kernel_rfl) FW
def Kg:Spec:={ Ts:=[.arr ty_I,.fn ty_I .bool],Rs:=[.dat .bool],pre:=fun ((l,g):List Int×(Int→Prop)×(Int→Bool))=>∀ s∈l,g.1 s,F:=fun ((l,g):List Int×(Int→Prop)×(Int→Bool))=>l.any g.2 }
def E9:Prop :=
  ∀ (x:List Int×(Int→Prop)×(Int→Bool)),(x.1.length * 8≤aA∧∀ (x_1:Int),x_1∈x.1→ak .i64 x_1)∧True→(∀ (s:Int),s∈x.1→x.2.1 s)→(∀ (s:Int),s∈x.1→x.2.1 s)∧decide (0≤ai x.2.2 0 x.1)=x.1.any x.2.2∧True
theorem HT:E9:=by
 unfold E9;intro ⟨l,g⟩ _ hp;exact ⟨hp,cW _ l 0 (by omega),trivial⟩
theorem zc:Kg.ok Tryz.prog 119:=aD (ann:=cp) (ae BO aq) Tryz.func119 (by kernel_rfl) HT
def bA:List Int→Bool
 | x::y::l=>decide (x<y)&&bA (y::l)
 | _=>true
theorem yQ:∀ {l:List Int},l.length≤1→bA l=true
 | [],_=>rfl
 | [_],_=>rfl
 | _::_::_,h=>by simp at h
def JL:Nat→Option LoopGen
 | 2=>some { rd:=[.dat 0 (.arr ty_I)],A:=fun (l:List Int)=>{ cs:=[.dat 3 ty_I],inv:=fun (i:Int)=>1≤i∧i≤l.length+1∧bA (l.drop (i - 1).toNat)=bA l,mu:=fun (i:Int)=>(l.length - i).toNat } }
 | _=>none
def H4:Spec:={ Ts:=[.arr ty_I],Rs:=[.dat .bool],pre:=fun _=>True,F:=bA }
def Bk:Prop :=
  ∀ (x:List Int),(x.length * (8:Nat)≤aA∧∀ (x_1:Int),x_1∈x→ak IntKind.i64 x_1)→True→((1:Int)≤(1:Int)∧(1:Int)≤(↑x.length:Int)+(1:Int)∧bA (List.drop ((1:Int) - (1:Int)).toNat x)=bA x)∧∀ (x_1:Int),(1:Int)≤x_1∧x_1≤(↑x.length:Int)+(1:Int)∧bA (List.drop (x_1 - (1:Int)).toNat x)=bA x→(decide (x_1<(↑x.length:Int))=true→ak IntKind.i64 (x_1 - (1:Int))∧(0:Int)≤x_1 - (1:Int)∧x_1 - (1:Int)<(↑x.length:Int)∧(0:Int)≤x_1∧x_1<(↑x.length:Int)∧(decide (x.getD x_1.toNat (0:Int)≤x.getD (x_1 - (1:Int)).toNat (0:Int))=true→false=bA x∧True)∧(decide (x.getD x_1.toNat (0:Int)≤x.getD (x_1 - (1:Int)).toNat (0:Int))=false→ak IntKind.i64 (x_1+(1:Int))∧((1:Int)≤x_1+(1:Int)∧x_1+(1:Int)≤(↑x.length:Int)+(1:Int)∧bA (List.drop (x_1+(1:Int) - (1:Int)).toNat x)=bA x)∧((↑x.length:Int) - (x_1+(1:Int))).toNat<((↑x.length:Int) - x_1).toNat))∧(decide (x_1<(↑x.length:Int))=false→true=bA x∧True)
theorem FM:Bk:=by
 unfold Bk;intro l ⟨hb,_⟩ _;unfold aA at hb;refine ⟨⟨by omega,by omega,rfl⟩,fun i ⟨h0,h1,h2⟩=>⟨fun hlt=>?_,fun hge=>?_⟩⟩
 ·have hlt:i<(l.length:Int):=of_decide_eq_true hlt;have e1:=aW (0:Int) (xs:=l) (i:=i - 1) (by omega) (by omega);have e2:=aW (0:Int) (xs:=l) (i:=i) (by omega) hlt;rw [show i - 1+1=i by omega] at e1;simp only [ak] at h2 ⊢;rw [e1,e2] at h2;simp only [bA] at h2;rw [← e2] at h2;refine ⟨by omega,by omega,by omega,by omega,hlt,fun hc=>?_,fun hc=>⟨by omega,⟨by omega,by omega,?_⟩,by omega⟩⟩
  ·have hc:=of_decide_eq_true hc;rw [← h2,decide_eq_false (by omega)];exact ⟨rfl,trivial⟩
  ·have hc:=of_decide_eq_false hc;rw [decide_eq_true (by omega),Bool.true_and] at h2;rw [show i+1 - 1=i by omega];exact h2
 ·have hge:¬ i<(l.length:Int):=of_decide_eq_false hge;rw [yQ (by rw [List.length_drop]; omega)] at h2;exact ⟨h2,trivial⟩
theorem IJ:H4.ok Tryz.prog 184:=aD (ann:=JL) aq Tryz.func184 (by kernel_rfl) FM
end
section
open Go
set_option maxRecDepth 100000
set_option maxHeartbeats 1000000
def Gn:Spec:={ Ts:=[.arr a8],Rs:=[.own 124 cg,.dat ty_I],pre:=fun _=>True,F:=aa }
def HC:Nat→Option LoopGen
 | 6=>some { rd:=[.dat 12 (.arr a8)],A:=fun (a:List Int)=>{ cs:=[.own 4 124 cg,.dat 5 ty_I,.dat 14 ty_I],inv:=fun ((out,nx,at_):List aC×Int×Int)=>a.length≤256∧0≤at_∧at_≤a.length∧at_≤nx∧nx≤a.length∧out.length≤at_∧spotsS 0 a=(spotsS nx (a.drop nx.toNat)).map (out++·),mu:=fun ((_,_,at_):List aC×Int×Int)=>(a.length - at_).toNat } }
 | _=>none
def wR:Prop :=
  ∀ (x:List Int),(x.length * 8≤aA∧∀ (x_1:Int),x_1∈x→ak .u64 x_1)→True→(decide (256<(↑x.length:Int))=true→([]:List (Int×Int×Int×Int×Bool))=(aa x).1∧2=(aa x).2∧True)∧(decide (256<(↑x.length:Int))=false→(x.length≤256∧(0:Int)≤0∧0≤(↑x.length:Int)∧(0:Int)≤0∧0≤(↑x.length:Int)∧(↑(0:Nat):Int)≤0∧spotsS 0 x=Option.map (fun (x:List aC)=>([]:List (Int×Int×Int×Int×Bool))++x) (spotsS 0 (List.drop (Int.toNat 0) x)))∧∀ (x_1:List (Int×Int×Int×Int×Bool)×Int×Int),x.length≤256∧0≤x_1.2.2∧x_1.2.2≤(↑x.length:Int)∧x_1.2.2≤x_1.2.1∧x_1.2.1≤(↑x.length:Int)∧(↑x_1.1.length:Int)≤x_1.2.2∧spotsS 0 x=Option.map (fun (x:List aC)=>x_1.1++x) (spotsS x_1.2.1 (List.drop x_1.2.1.toNat x))→(decide (x_1.2.2<(↑x.length:Int))=true→(decide (x_1.2.2≠x_1.2.1)=true→ak .i64 (x_1.2.2+1)∧(x.length≤256∧0≤x_1.2.2+1∧x_1.2.2+1≤(↑x.length:Int)∧x_1.2.2+1≤x_1.2.1∧x_1.2.1≤(↑x.length:Int)∧(↑x_1.1.length:Int)≤x_1.2.2+1∧spotsS 0 x=Option.map (fun (x:List aC)=>x_1.1++x) (spotsS x_1.2.1 (List.drop x_1.2.1.toNat x)))∧((↑x.length:Int) - (x_1.2.2+1)).toNat<((↑x.length:Int) - x_1.2.2).toNat)∧(decide (x_1.2.2≠x_1.2.1)=false→0≤x_1.2.2∧x_1.2.2<(↑x.length:Int)∧True∧((!aQ (x.getD x_1.2.2.toNat 0))=false→ak .i64 (1+(if aQ (x.getD x_1.2.2.toNat 0)=true then aS (x.getD x_1.2.2.toNat 0) else aY).1)∧ak .i64 (1+(if aQ (x.getD x_1.2.2.toNat 0)=true then aS (x.getD x_1.2.2.toNat 0) else aY).1+(if aQ (x.getD x_1.2.2.toNat 0)=true then aS (x.getD x_1.2.2.toNat 0) else aY).2.1))∧((!aQ (x.getD x_1.2.2.toNat 0))=false→ak .i64 (x_1.2.2+ac (if aQ (x.getD x_1.2.2.toNat 0)=true then aS (x.getD x_1.2.2.toNat 0) else aY)))∧((!aQ (x.getD x_1.2.2.toNat 0)||decide ((↑x.length:Int)<x_1.2.2+ac (if aQ (x.getD x_1.2.2.toNat 0)=true then aS (x.getD x_1.2.2.toNat 0) else aY)))=true→([]:List (Int×Int×Int×Int×Bool))=(aa x).1∧3=(aa x).2∧True)∧((!aQ (x.getD x_1.2.2.toNat 0)||decide ((↑x.length:Int)<x_1.2.2+ac (if aQ (x.getD x_1.2.2.toNat 0)=true then aS (x.getD x_1.2.2.toNat 0) else aY)))=false→(x_1.1.length+[(x_1.2.2,if aQ (x.getD x_1.2.2.toNat 0)=true then aS (x.getD x_1.2.2.toNat 0) else aY)].length) * (8+(8+(8+(8+8))))≤aA∧(ak .i64 (1+(if aQ (x.getD x_1.2.2.toNat 0)=true then aS (x.getD x_1.2.2.toNat 0) else aY).1)∧ak .i64 (1+(if aQ (x.getD x_1.2.2.toNat 0)=true then aS (x.getD x_1.2.2.toNat 0) else aY).1+(if aQ (x.getD x_1.2.2.toNat 0)=true then aS (x.getD x_1.2.2.toNat 0) else aY).2.1))∧ak .i64 (x_1.2.2+ac (if aQ (x.getD x_1.2.2.toNat 0)=true then aS (x.getD x_1.2.2.toNat 0) else aY))∧ak .i64 (x_1.2.2+1)∧(x.length≤256∧0≤x_1.2.2+1∧x_1.2.2+1≤(↑x.length:Int)∧x_1.2.2+1≤x_1.2.2+ac (if aQ (x.getD x_1.2.2.toNat 0)=true then aS (x.getD x_1.2.2.toNat 0) else aY)∧x_1.2.2+ac (if aQ (x.getD x_1.2.2.toNat 0)=true then aS (x.getD x_1.2.2.toNat 0) else aY)≤(↑x.length:Int)∧(↑(x_1.1++[(x_1.2.2,if aQ (x.getD x_1.2.2.toNat 0)=true then aS (x.getD x_1.2.2.toNat 0) else aY)]).length:Int)≤x_1.2.2+1∧spotsS 0 x=Option.map (fun (x_2:List aC)=>x_1.1++[(x_1.2.2,if aQ (x.getD x_1.2.2.toNat 0)=true then aS (x.getD x_1.2.2.toNat 0) else aY)]++x_2) (spotsS (x_1.2.2+ac (if aQ (x.getD x_1.2.2.toNat 0)=true then aS (x.getD x_1.2.2.toNat 0) else aY)) (List.drop (x_1.2.2+ac (if aQ (x.getD x_1.2.2.toNat 0)=true then aS (x.getD x_1.2.2.toNat 0) else aY)).toNat x)))∧((↑x.length:Int) - (x_1.2.2+1)).toNat<((↑x.length:Int) - x_1.2.2).toNat)))∧(decide (x_1.2.2<(↑x.length:Int))=false→x_1.1=(aa x).1∧0=(aa x).2∧True))
theorem C7:wR:=by
 unfold wR;intro a ⟨hb,hw⟩ _;by_cases cl:256<a.length
 ·have e:aa a=([],2):=by unfold aa; rw [if_pos cl]
  simp [e];omega
 have eF:aa a=match spotsS 0 a with | none=>([],3) | some l=>(l,0):=by unfold aa; rw [if_neg cl] <;> rfl
 refine ⟨fun h=>by simp at h; omega,fun _=>⟨⟨by omega,by omega,by omega,by omega,by omega,by simp,by simp⟩,fun ⟨out,nx,k⟩ ⟨_,h0,h1,h4,h5,h2,h3⟩=>⟨fun hlt0=>?_,fun hge=>?_⟩⟩⟩
 ·have hlt:k<(a.length:Int):=of_decide_eq_true hlt0;clear hlt0;simp only at h0 h1 h2 h3 h4 h5 hlt ⊢;refine ⟨fun hne=>?_,fun heq=>?_⟩
  ·have hne:k≠nx:=by simpa using hne
   simp only [ak];exact ⟨by omega,⟨by omega,by omega,by omega,by omega,by omega,by omega,h3⟩,by omega⟩
  have heq:k=nx:=by simpa using heq
  subst heq;rw [aW (0:Int) h0 hlt] at h3;have hdl:(((a.getD k.toNat 0::a.drop (k+1).toNat).length:Nat):Int)=a.length - k:=by rw [List.length_cons,List.length_drop]; omega
  have hdd:∀ n:Int,0≤n→(a.getD k.toNat 0::a.drop (k+1).toNat).drop n.toNat=a.drop (k+n).toNat:=fun n hn=>by
   rw [← aW (0:Int) h0 hlt,List.drop_drop];congr 1;omega
  generalize a.getD k.toNat 0=v at *;by_cases g1:aQ v=true
  ·have hl:=eK g1
   have hf:af (aS v)=0:=by
    have:=g1;simp only [aQ,Bool.and_eq_true,beq_iff_eq] at this;exact this.2
   have hz:=bj hf;have hL:ac (aS v)=1+(aS v).1+(aS v).2.1:=rfl;simp only [g1,if_true,Bool.not_true,Bool.false_or,ak];refine ⟨h0,hlt,trivial,fun _=>⟨by omega,by omega⟩,fun _=>by omega,fun hc=>?_,fun hc=>?_⟩
   ·have hc:=of_decide_eq_true hc;rw [eH (by rintro ⟨_,g2⟩; omega)] at h3;rw [eF,h3];exact ⟨rfl,rfl,trivial⟩
   ·have hc:=of_decide_eq_false hc;rw [eI g1 (by omega),hdd _ (by omega),Option.map_map] at h3;unfold aA;simp only [List.length_append,List.length_cons,List.length_nil];refine ⟨by omega,⟨by omega,by omega⟩,by omega,by omega,⟨by omega,by omega,by omega,by omega,by omega,by omega,?_⟩,by omega⟩;rw [h3];congr 1;funext x;simp
  ·have g1':aQ v=false:=by simpa using g1
   rw [eH (fun h=>g1 h.1)] at h3;simp only [g1',Bool.not_false,Bool.true_or];refine ⟨h0,hlt,trivial,fun h=>by simp at h,fun h=>by simp at h,fun _=>?_,fun h=>by simp at h⟩;rw [eF,h3];exact ⟨rfl,rfl,trivial⟩
 ·have hge:¬ k<(a.length:Int):=by simpa using hge
  simp only at *;rw [br (by omega)] at h3;simp only [spotsS,Option.map_some,List.append_nil] at h3;rw [eF,h3];exact ⟨rfl,rfl,trivial⟩
theorem mn:Gn.ok Tryz.prog 71:=aD (ann:=HC) (ae y8 (ae gJ aq)) Tryz.func71 (by kernel_rfl) C7
def aj (at_:Int):List aC→du×Bool
 | []=>(aY,false)
 | s::l=>if s.1=at_∧s.2.2.2.2=false then (s.2,true) else aj at_ l
theorem gl (at_:Int):∀ (l:List aC),aj at_ l=(aY,false)∨∃ s∈l,s.1=at_∧s.2.2.2.2=false∧aj at_ l=(s.2,true)
 | []=>.inl rfl
 | s::l=>by
  simp only [aj];split
  ·rename_i h;exact .inr ⟨s,by simp,h.1,h.2,rfl⟩
  ·rcases gl at_ l with h | ⟨t,h1,h2⟩
   ·exact .inl h
   ·exact .inr ⟨t,by simp [h1],h2⟩
def EI:Nat→Option LoopGen
 | 3=>some { rd:=[.own 15 124 cg,.dat 1 ty_I],A:=fun ((l,at_):List aC×Int)=>{ cs:=[.box 4 de,.dat 17 ty_I],inv:=fun ((_,i):du×Int)=>0≤i∧i≤l.length∧l.length≤256∧aj at_ (l.drop i.toNat)=aj at_ l,mu:=fun ((_,i):du×Int)=>(l.length - i).toNat } }
 | _=>none
def DA:Spec:={ Ts:=[.arr a8,ty_I],Rs:=[.dat de,.dat .bool],pre:=fun _=>True,F:=fun ((a,at_):List Int×Int)=>aj at_ (aa a).1 }
def tf:Prop :=
  ∀ (x:List Int×Int),(x.1.length * 8≤aA∧∀ (x_1:Int),x_1∈x.1→ak .u64 x_1)∧ak .i64 x.2→True→True∧((0:Int)≤0∧0≤(↑(aa x.1).1.length:Int)∧(aa x.1).1.length≤256∧aj x.2 (List.drop (Int.toNat 0) (aa x.1).1)=aj x.2 (aa x.1).1)∧∀ (x_1:(Int×Int×Int×Bool)×Int),0≤x_1.2∧x_1.2≤(↑(aa x.1).1.length:Int)∧(aa x.1).1.length≤256∧aj x.2 (List.drop x_1.2.toNat (aa x.1).1)=aj x.2 (aa x.1).1→(decide (x_1.2<(↑(aa x.1).1.length:Int))=true→0≤x_1.2∧x_1.2<(↑(aa x.1).1.length:Int)∧x_1.2.toNat<(aa x.1).1.length∧((decide (((aa x.1).1.getD x_1.2.toNat (0,0,0,0,false)).1=x.2)&&!((aa x.1).1.getD x_1.2.toNat (0,0,0,0,false)).2.2.2.2)=true→((aa x.1).1.getD x_1.2.toNat (0,0,0,0,false)).2=(aj x.2 (aa x.1).1).1∧true=(aj x.2 (aa x.1).1).2∧True)∧((decide (((aa x.1).1.getD x_1.2.toNat (0,0,0,0,false)).1=x.2)&&!((aa x.1).1.getD x_1.2.toNat (0,0,0,0,false)).2.2.2.2)=false→ak .i64 (x_1.2+1)∧(0≤x_1.2+1∧x_1.2+1≤(↑(aa x.1).1.length:Int)∧(aa x.1).1.length≤256∧aj x.2 (List.drop (x_1.2+1).toNat (aa x.1).1)=aj x.2 (aa x.1).1)∧((↑(aa x.1).1.length:Int) - (x_1.2+1)).toNat<((↑(aa x.1).1.length:Int) - x_1.2).toNat))∧(decide (x_1.2<(↑(aa x.1).1.length:Int))=false→(0,0,0,false)=(aj x.2 (aa x.1).1).1∧false=(aj x.2 (aa x.1).1).2∧True)
theorem Ad:tf:=by
 unfold tf;intro ⟨a,at_⟩ _ _;have hlen:=cD a;simp only at *;generalize (aa a).1=l at *;refine ⟨trivial,⟨by omega,by omega,hlen,by simp⟩,fun ⟨_,i⟩ ⟨h0,h1,_,h2⟩=>⟨fun hlt=>?_,fun hge=>?_⟩⟩
 ·have hlt:i<(l.length:Int):=by simpa using hlt
  simp only at h0 h1 h2 ⊢;rw [aW ((0,0,0,0,false):aC) h0 hlt] at h2;simp only [aj] at h2;generalize l.getD i.toNat (0,0,0,0,false)=s at *;simp only [ak];refine ⟨h0,hlt,by omega,fun hc=>?_,fun hc=>?_⟩
  ·have hc:s.1=at_∧s.2.2.2.2=false:=by simpa using hc
   rw [if_pos hc] at h2;rw [← h2];exact ⟨rfl,rfl,trivial⟩
  ·have hc:¬ (s.1=at_∧s.2.2.2.2=false):=by
    rintro ⟨g1,g2⟩;rw [g1,g2] at hc;simp at hc
   rw [if_neg hc] at h2;exact ⟨by omega,⟨by omega,by omega,hlen,h2⟩,by omega⟩
 ·rw [br (by simpa using hge)] at h2;rw [← h2];exact ⟨rfl,rfl,trivial⟩
theorem gX:DA.ok Tryz.prog 31:=aD (ann:=EI) (ae mn aq) Tryz.func31 (by kernel_rfl) Ad
theorem DP {α:Type} {a:List α} {p q:Nat} (d:α) (h:p≤q) (hq:q<a.length):(a.take (q+1)).drop p=(a.take q).drop p++[a.getD q d]:=by
 rw [List.take_succ_eq_append_getElem hq,List.drop_append_of_le_length (by rw [List.length_take]; omega)];simp [hq]
def nameOf (v:Int):Int:=(if 256<v then 9999 else v) - 1
def aK (a:List Int) (at_:Int) (h:du):List Int:=((a.take (at_+1+h.1).toNat).drop (at_+1).toNat).map nameOf
def HF:Nat→Option LoopGen
 | 4=>some { rd:=[.dat 0 (.arr a8),.dat 1 ty_I,.dat 17 ty_I],A:=fun ((a,at_,n):List Int×Int×Int)=>{ cs:=[.own 7 3 ty_I,.dat 18 ty_I],inv:=fun ((out,k):List Int×Int)=>0≤k∧k≤n∧out.length=k∧(0<n→0≤at_∧at_+1+n≤a.length∧a.length≤256)∧out=((a.take (at_+1+k).toNat).drop (at_+1).toNat).map nameOf,mu:=fun ((_,k):List Int×Int)=>(n - k).toNat } }
 | _=>none
def Gr:Spec:={ Ts:=[.arr a8,ty_I],Rs:=[.own 3 ty_I],pre:=fun _=>True,F:=fun ((a,at_):List Int×Int)=>aK a at_ (aj at_ (aa a).1).1 }
def wU:Prop :=
  ∀ (x:List Int×Int),(x.1.length * 8≤aA∧∀ (x_1:Int),x_1∈x.1→ak .u64 x_1)∧ak .i64 x.2→True→True∧((0:Int)≤0∧0≤(aj x.2 (aa x.1).1).1.1∧(↑(0:Nat):Int)=0∧(0<(aj x.2 (aa x.1).1).1.1→0≤x.2∧x.2+1+(aj x.2 (aa x.1).1).1.1≤(↑x.1.length:Int)∧x.1.length≤256)∧([]:List Int)=List.map nameOf (List.drop (x.2+1).toNat (List.take (x.2+1+0).toNat x.1)))∧∀ (x_1:List Int×Int),0≤x_1.2∧x_1.2≤(aj x.2 (aa x.1).1).1.1∧(↑x_1.1.length:Int)=x_1.2∧(0<(aj x.2 (aa x.1).1).1.1→0≤x.2∧x.2+1+(aj x.2 (aa x.1).1).1.1≤(↑x.1.length:Int)∧x.1.length≤256)∧x_1.1=List.map nameOf (List.drop (x.2+1).toNat (List.take (x.2+1+x_1.2).toNat x.1))→(decide (x_1.2<(aj x.2 (aa x.1).1).1.1)=true→ak .i64 (x.2+1)∧ak .i64 (x.2+1+x_1.2)∧0≤x.2+1+x_1.2∧x.2+1+x_1.2<(↑x.1.length:Int)∧(decide (256<x.1.getD (x.2+1+x_1.2).toNat 0)=true→ak .i64 (IntKind.i64.wrap 9999 - 1)∧(x_1.1.length+[IntKind.i64.wrap 9999 - 1].length) * 8≤aA∧ak .i64 (x_1.2+1)∧(0≤x_1.2+1∧x_1.2+1≤(aj x.2 (aa x.1).1).1.1∧(↑(x_1.1++[IntKind.i64.wrap 9999 - 1]).length:Int)=x_1.2+1∧(0<(aj x.2 (aa x.1).1).1.1→0≤x.2∧x.2+1+(aj x.2 (aa x.1).1).1.1≤(↑x.1.length:Int)∧x.1.length≤256)∧x_1.1++[IntKind.i64.wrap 9999 - 1]=List.map nameOf (List.drop (x.2+1).toNat (List.take (x.2+1+(x_1.2+1)).toNat x.1)))∧((aj x.2 (aa x.1).1).1.1 - (x_1.2+1)).toNat<((aj x.2 (aa x.1).1).1.1 - x_1.2).toNat)∧(decide (256<x.1.getD (x.2+1+x_1.2).toNat 0)=false→ak .i64 (IntKind.i64.wrap (x.1.getD (x.2+1+x_1.2).toNat 0) - 1)∧(x_1.1.length+[IntKind.i64.wrap (x.1.getD (x.2+1+x_1.2).toNat 0) - 1].length) * 8≤aA∧ak .i64 (x_1.2+1)∧(0≤x_1.2+1∧x_1.2+1≤(aj x.2 (aa x.1).1).1.1∧(↑(x_1.1++[IntKind.i64.wrap (x.1.getD (x.2+1+x_1.2).toNat 0) - 1]).length:Int)=x_1.2+1∧(0<(aj x.2 (aa x.1).1).1.1→0≤x.2∧x.2+1+(aj x.2 (aa x.1).1).1.1≤(↑x.1.length:Int)∧x.1.length≤256)∧x_1.1++[IntKind.i64.wrap (x.1.getD (x.2+1+x_1.2).toNat 0) - 1]=List.map nameOf (List.drop (x.2+1).toNat (List.take (x.2+1+(x_1.2+1)).toNat x.1)))∧((aj x.2 (aa x.1).1).1.1 - (x_1.2+1)).toNat<((aj x.2 (aa x.1).1).1.1 - x_1.2).toNat))∧(decide (x_1.2<(aj x.2 (aa x.1).1).1.1)=false→x_1.1=aK x.1 x.2 (aj x.2 (aa x.1).1).1∧True)
theorem Da:wU:=by
 unfold wU;intro ⟨a,at_⟩ ⟨⟨hb,hw⟩,_⟩ _
 have hin:0≤(aj at_ (aa a).1).1.1∧(0<(aj at_ (aa a).1).1.1→0≤at_∧at_+1+(aj at_ (aa a).1).1.1≤a.length∧a.length≤256):=by
  rcases gl at_ (aa a).1 with e | ⟨s,h1,h2,_,e⟩
  ·rw [e]; simp [aY]
  ·rw [e]
   have hz:(aa a).2=0:=by
    unfold aa at h1 ⊢;split at h1
    ·simp at h1
    ·rename_i cl;rw [if_neg cl];cases hs:spotsS 0 a with
     | none=>rw [hs] at h1; simp at h1
     | some l=>rfl
   obtain ⟨k1,k2⟩:=gU hz;have:=(k2 s h1).1;unfold ck at this;simp only;omega
 have hF:aK a at_ (aj at_ (aa a).1).1=((a.take (at_+1+(aj at_ (aa a).1).1.1).toNat).drop (at_+1).toNat).map nameOf:=rfl;simp only at *;rw [hF];generalize (aj at_ (aa a).1).1.1=n at *;clear hF;obtain ⟨hn,hin⟩:=hin;refine ⟨trivial,⟨by omega,hn,by simp,hin,?_⟩,fun ⟨out,k⟩ ⟨h0,h1,h2,_,h3⟩=>⟨fun hlt=>?_,fun hge=>?_⟩⟩
 ·rw [Int.add_zero,List.drop_of_length_le (by rw [List.length_take]; omega)];rfl
 ·have hlt:k<n:=of_decide_eq_true hlt;simp only at h0 h1 h2 h3 ⊢;obtain ⟨q1,q2,q3⟩:=hin (by omega);have hs:=DP (a:=a) (p:=(at_+1).toNat) (q:=(at_+1+k).toNat) 0 (by omega) (by omega);rw [show (at_+1+k).toNat+1=(at_+1+(k+1)).toNat by omega] at hs;have hv:=hw _ (aI (0:Int) (xs:=a) (i:=at_+1+k) (by omega) (by omega));rw [hs,List.map_append,← h3];generalize a.getD (at_+1+k).toNat 0=v at *;unfold aA;simp only [ak] at hv;simp only [ak,List.length_append,List.length_cons,List.length_nil];refine ⟨by omega,by omega,by omega,by omega,fun hc=>?_,fun hc=>?_⟩
  ·have hc:=of_decide_eq_true hc;rw [jb (by omega) (by omega)];exact ⟨by omega,by omega,by omega,⟨by omega,by omega,by omega,hin,by simp [nameOf,hc]⟩,by omega⟩
  ·have hc:=of_decide_eq_false hc;rw [jb (by omega) (by omega)];exact ⟨by omega,by omega,by omega,⟨by omega,by omega,by omega,hin,by simp [nameOf,hc]⟩,by omega⟩
 ·have hge:¬ k<n:=of_decide_eq_false hge;simp only at h0 h1 h2 h3;rw [h3,show k=n by omega];exact ⟨rfl,trivial⟩
theorem mo:Gr.ok Tryz.prog 36:=aD (ann:=HF) (ae gX aq) Tryz.func36 (by kernel_rfl) Da
def ah:List aC→List Int
 | []=>[]
 | s::l=>if s.2.2.2.2=true then ah l else s.1::ah l
def EK:Nat→Option LoopGen
 | 4=>some { rd:=[.own 13 124 cg],A:=fun (l:List aC)=>{ cs:=[.own 5 3 ty_I,.dat 15 ty_I],inv:=fun ((out,i):List Int×Int)=>0≤i∧i≤l.length∧l.length≤256∧out.length≤i∧out++ah (l.drop i.toNat)=ah l,mu:=fun ((_,i):List Int×Int)=>(l.length - i).toNat } }
 | _=>none
def DC:Spec:={ Ts:=[.arr a8],Rs:=[.own 3 ty_I],pre:=fun _=>True,F:=fun (a:List Int)=>ah (aa a).1 }
def th:Prop :=
  ∀ (x:List Int),(x.length * 8≤aA∧∀ (x_1:Int),x_1∈x→ak .u64 x_1)→True→True∧((0:Int)≤0∧0≤(↑(aa x).1.length:Int)∧(aa x).1.length≤256∧(↑(0:Nat):Int)≤0∧([]:List Int)++ah (List.drop (Int.toNat 0) (aa x).1)=ah (aa x).1)∧∀ (x_1:List Int×Int),0≤x_1.2∧x_1.2≤(↑(aa x).1.length:Int)∧(aa x).1.length≤256∧(↑x_1.1.length:Int)≤x_1.2∧x_1.1++ah (List.drop x_1.2.toNat (aa x).1)=ah (aa x).1→(decide (x_1.2<(↑(aa x).1.length:Int))=true→0≤x_1.2∧x_1.2<(↑(aa x).1.length:Int)∧x_1.2.toNat<(aa x).1.length∧((!((aa x).1.getD x_1.2.toNat (0,0,0,0,false)).2.2.2.2)=true→(x_1.1.length+[((aa x).1.getD x_1.2.toNat (0,0,0,0,false)).1].length) * 8≤aA∧ak .i64 (x_1.2+1)∧(0≤x_1.2+1∧x_1.2+1≤(↑(aa x).1.length:Int)∧(aa x).1.length≤256∧(↑(x_1.1++[((aa x).1.getD x_1.2.toNat (0,0,0,0,false)).1]).length:Int)≤x_1.2+1∧x_1.1++[((aa x).1.getD x_1.2.toNat (0,0,0,0,false)).1]++ah (List.drop (x_1.2+1).toNat (aa x).1)=ah (aa x).1)∧((↑(aa x).1.length:Int) - (x_1.2+1)).toNat<((↑(aa x).1.length:Int) - x_1.2).toNat)∧((!((aa x).1.getD x_1.2.toNat (0,0,0,0,false)).2.2.2.2)=false→ak .i64 (x_1.2+1)∧(0≤x_1.2+1∧x_1.2+1≤(↑(aa x).1.length:Int)∧(aa x).1.length≤256∧(↑x_1.1.length:Int)≤x_1.2+1∧x_1.1++ah (List.drop (x_1.2+1).toNat (aa x).1)=ah (aa x).1)∧((↑(aa x).1.length:Int) - (x_1.2+1)).toNat<((↑(aa x).1.length:Int) - x_1.2).toNat))∧(decide (x_1.2<(↑(aa x).1.length:Int))=false→x_1.1=ah (aa x).1∧True)
theorem Af:th:=by
 unfold th;intro a _ _;have hlen:=cD a;generalize (aa a).1=l at *;refine ⟨trivial,⟨by omega,by omega,hlen,by simp,by simp⟩,fun ⟨out,i⟩ ⟨h0,h1,_,h3,h2⟩=>⟨fun hlt=>?_,fun hge=>?_⟩⟩
 ·have hlt:i<(l.length:Int):=by simpa using hlt
  simp only at *;rw [aW ((0,0,0,0,false):aC) h0 hlt] at h2;simp only [ah] at h2;generalize l.getD i.toNat (0,0,0,0,false)=s at *;unfold aA;simp only [ak,List.length_append,List.length_cons,List.length_nil];refine ⟨h0,hlt,by omega,fun hc=>?_,fun hc=>?_⟩
  ·have hc:¬ s.2.2.2.2=true:=by simpa using hc
   rw [if_neg hc] at h2;exact ⟨by omega,by omega,⟨by omega,by omega,hlen,by omega,by rw [List.append_assoc]; exact h2⟩,by omega⟩
  ·have hc:s.2.2.2.2=true:=by simpa using hc
   rw [if_pos hc] at h2;exact ⟨by omega,⟨by omega,by omega,hlen,by omega,h2⟩,by omega⟩
 ·rw [br (by simpa using hge)] at h2;simp only [ah,List.append_nil] at h2;exact ⟨h2,trivial⟩
theorem nq:DC.ok Tryz.prog 89:=aD (ann:=EK) (ae mn aq) Tryz.func89 (by kernel_rfl) Af
end
section
open Go
set_option maxRecDepth 100000
set_option maxHeartbeats 1000000
def yv:Spec:={ Ts:=[.arr ty_I,.arr ty_I],Rs:=[.dat .bool],pre:=fun _=>True,F:=fun (x:List Int×List Int)=>decide (x.1=x.2) }
def zT:Nat→Option LoopGen
 | 4=>some { rd:=[.dat 0 (.arr ty_I),.dat 1 (.arr ty_I)],A:=fun (g:List Int×List Int)=>{ cs:=[.dat 13 ty_I],inv:=fun (i:Int)=>g.1.length=g.2.length∧0≤i∧i≤g.1.length∧g.1.take i.toNat=g.2.take i.toNat,mu:=fun (i:Int)=>(g.1.length - i).toNat } }
 | _=>none
def oo:Prop :=
  ∀ (x:List Int×List Int),((x.1.length * 8≤aA∧∀ (x_1:Int),x_1∈x.1→ak .i64 x_1)∧x.2.length * 8≤aA∧∀ (x_1:Int),x_1∈x.2→ak .i64 x_1)→True→(decide ((↑x.1.length:Int)≠(↑x.2.length:Int))=true→false=decide (x.1=x.2)∧True)∧(decide ((↑x.1.length:Int)≠(↑x.2.length:Int))=false→(x.1.length=x.2.length∧(0:Int)≤0∧0≤(↑x.1.length:Int)∧List.take (Int.toNat 0) x.1=List.take (Int.toNat 0) x.2)∧∀ (x_1:Int),x.1.length=x.2.length∧0≤x_1∧x_1≤(↑x.1.length:Int)∧List.take x_1.toNat x.1=List.take x_1.toNat x.2→(decide (x_1<(↑x.1.length:Int))=true→0≤x_1∧x_1<(↑x.1.length:Int)∧0≤x_1∧x_1<(↑x.2.length:Int)∧(decide (x.1.getD x_1.toNat 0≠x.2.getD x_1.toNat 0)=true→false=decide (x.1=x.2)∧True)∧(decide (x.1.getD x_1.toNat 0≠x.2.getD x_1.toNat 0)=false→ak .i64 (x_1+1)∧(x.1.length=x.2.length∧0≤x_1+1∧x_1+1≤(↑x.1.length:Int)∧List.take (x_1+1).toNat x.1=List.take (x_1+1).toNat x.2)∧((↑x.1.length:Int) - (x_1+1)).toNat<((↑x.1.length:Int) - x_1).toNat))∧(decide (x_1<(↑x.1.length:Int))=false→true=decide (x.1=x.2)∧True))
theorem uX:oo:=by
 unfold oo;intro x hw _;refine ⟨fun h=>?_,fun h=>?_⟩
 ·have h:x.1.length≠x.2.length:=by have:=of_decide_eq_true h; omega
  have:x.1≠x.2:=fun e=>h (by rw [e])
  simp [this]
 have hl:x.1.length=x.2.length:=by have:=of_decide_eq_false h; omega
 refine ⟨⟨hl,by omega,by omega,by simp⟩,fun i ⟨_,h0,h1,ht⟩=>⟨fun hlt=>?_,fun hge=>?_⟩⟩
 ·have hlt:i<x.1.length:=by simpa using hlt
  refine ⟨h0,hlt,h0,by omega,fun hne=>?_,fun he=>?_⟩
  ·have hne:x.1.getD i.toNat 0≠x.2.getD i.toNat 0:=by simpa using hne
   have:x.1≠x.2:=fun e=>hne (by rw [e])
   simp [this]
  ·have he:x.1.getD i.toNat 0=x.2.getD i.toNat 0:=by simpa using he
   have hb:=hw.1.1;unfold aA at hb;refine ⟨by simp only [ak]; omega,⟨hl,by omega,by omega,?_⟩,by omega⟩;rw [show (i+1).toNat=i.toNat+1 by omega];exact l8 hl (by omega) ht he
 ·have hge:¬ i<x.1.length:=by simpa using hge
  have hi:i.toNat=x.1.length:=by omega
  rw [hi,List.take_of_length_le (Nat.le_refl _),List.take_of_length_le (by omega)] at ht;simp [ht]
theorem y6:yv.ok Tryz.prog 51:=aD (ann:=zT) aq Tryz.func51 (by kernel_rfl) uX
def vw:Spec:={ Ts:=[.arr a8,.arr a8],Rs:=[.dat .bool],pre:=fun _=>True,F:=fun (x:List Int×List Int)=>decide (x.1=x.2) }
def wn:Nat→Option LoopGen
 | 4=>some { rd:=[.dat 0 (.arr a8),.dat 1 (.arr a8)],A:=fun (g:List Int×List Int)=>{ cs:=[.dat 13 ty_I],inv:=fun (i:Int)=>g.1.length=g.2.length∧0≤i∧i≤g.1.length∧g.1.take i.toNat=g.2.take i.toNat,mu:=fun (i:Int)=>(g.1.length - i).toNat } }
 | _=>none
def mJ:Prop :=
  ∀ (x:List Int×List Int),((x.1.length * 8≤aA∧∀ (x_1:Int),x_1∈x.1→ak .u64 x_1)∧x.2.length * 8≤aA∧∀ (x_1:Int),x_1∈x.2→ak .u64 x_1)→True→(decide ((↑x.1.length:Int)≠(↑x.2.length:Int))=true→false=decide (x.1=x.2)∧True)∧(decide ((↑x.1.length:Int)≠(↑x.2.length:Int))=false→(x.1.length=x.2.length∧(0:Int)≤0∧0≤(↑x.1.length:Int)∧List.take (Int.toNat 0) x.1=List.take (Int.toNat 0) x.2)∧∀ (x_1:Int),x.1.length=x.2.length∧0≤x_1∧x_1≤(↑x.1.length:Int)∧List.take x_1.toNat x.1=List.take x_1.toNat x.2→(decide (x_1<(↑x.1.length:Int))=true→0≤x_1∧x_1<(↑x.1.length:Int)∧0≤x_1∧x_1<(↑x.2.length:Int)∧(decide (x.1.getD x_1.toNat 0≠x.2.getD x_1.toNat 0)=true→false=decide (x.1=x.2)∧True)∧(decide (x.1.getD x_1.toNat 0≠x.2.getD x_1.toNat 0)=false→ak .i64 (x_1+1)∧(x.1.length=x.2.length∧0≤x_1+1∧x_1+1≤(↑x.1.length:Int)∧List.take (x_1+1).toNat x.1=List.take (x_1+1).toNat x.2)∧((↑x.1.length:Int) - (x_1+1)).toNat<((↑x.1.length:Int) - x_1).toNat))∧(decide (x_1<(↑x.1.length:Int))=false→true=decide (x.1=x.2)∧True))
theorem so:mJ:=by
 unfold mJ;intro x hw _;refine ⟨fun h=>?_,fun h=>?_⟩
 ·have h:x.1.length≠x.2.length:=by have:=of_decide_eq_true h; omega
  have:x.1≠x.2:=fun e=>h (by rw [e])
  simp [this]
 have hl:x.1.length=x.2.length:=by have:=of_decide_eq_false h; omega
 refine ⟨⟨hl,by omega,by omega,by simp⟩,fun i ⟨_,h0,h1,ht⟩=>⟨fun hlt=>?_,fun hge=>?_⟩⟩
 ·have hlt:i<x.1.length:=by simpa using hlt
  refine ⟨h0,hlt,h0,by omega,fun hne=>?_,fun he=>?_⟩
  ·have hne:x.1.getD i.toNat 0≠x.2.getD i.toNat 0:=by simpa using hne
   have:x.1≠x.2:=fun e=>hne (by rw [e])
   simp [this]
  ·have he:x.1.getD i.toNat 0=x.2.getD i.toNat 0:=by simpa using he
   have hb:=hw.1.1;unfold aA at hb;refine ⟨by simp only [ak]; omega,⟨hl,by omega,by omega,?_⟩,by omega⟩;rw [show (i+1).toNat=i.toNat+1 by omega];exact l8 hl (by omega) ht he
 ·have hge:¬ i<x.1.length:=by simpa using hge
  have hi:i.toNat=x.1.length:=by omega
  rw [hi,List.take_of_length_le (Nat.le_refl _),List.take_of_length_le (by omega)] at ht;simp [ht]
theorem vM:vw.ok Tryz.prog 50:=aD (ann:=wn) aq Tryz.func50 (by kernel_rfl) so
theorem fF:∀ l:List aC,(ah l).length≤l.length
 | []=>by simp [ah]
 | s::l=>by
  have:=fF l;simp only [ah];split <;> simp <;> omega
def fJ (all:List Int) (rs:List Int):Bool:=rs.all fun to=>decide (to=-1)||cP all to
def eT (a:List Int) (l:List aC) (all:List Int):List Int→Bool
 | []=>true
 | at_::r=>fJ all (aK a at_ (aj at_ l).1)&&eT a l all r
def fG (a:List Int):Int:=if (aa a).2≠0 then (aa a).2 else if eT a (aa a).1 (ah (aa a).1) (ah (aa a).1)=true then 0 else 5
def uK:Nat→Option LoopGen
 | 6=>some { rd:=[.own 20 3 ty_I,.dat 0 (.arr a8)],A:=fun ((all,a):List Int×List Int)=>{ cs:=[.dat 22 ty_I],inv:=fun (i:Int)=>0≤i∧i≤all.length∧all.length≤256∧a.length≤256∧eT a (aa a).1 all (all.drop i.toNat)=eT a (aa a).1 all all,mu:=fun (i:Int)=>(all.length - i).toNat } }
 | 9=>some { rd:=[.own 28 3 ty_I,.own 20 3 ty_I],A:=fun ((rs,all):List Int×List Int)=>{ cs:=[.dat 30 ty_I],inv:=fun (j:Int)=>0≤j∧j≤rs.length∧rs.length≤256∧fJ all (rs.drop j.toNat)=fJ all rs,mu:=fun (j:Int)=>(rs.length - j).toNat } }
 | _=>none
def sK:Spec:={ Ts:=[.arr a8],Rs:=[.dat ty_I],pre:=fun _=>True,F:=fG }
def lz:Prop :=
  ∀ (x:List Int),(x.length * 8≤aA∧∀ (x_1:Int),x_1∈x→ak .u64 x_1)→True→True∧(decide ((aa x).2≠0)=true→(aa x).2=fG x∧True)∧(decide ((aa x).2≠0)=false→True∧((0:Int)≤0∧0≤(↑(ah (aa x).1).length:Int)∧(ah (aa x).1).length≤256∧x.length≤256∧eT x (aa x).1 (ah (aa x).1) (List.drop (Int.toNat 0) (ah (aa x).1))=eT x (aa x).1 (ah (aa x).1) (ah (aa x).1))∧∀ (x_1:Int),0≤x_1∧x_1≤(↑(ah (aa x).1).length:Int)∧(ah (aa x).1).length≤256∧x.length≤256∧eT x (aa x).1 (ah (aa x).1) (List.drop x_1.toNat (ah (aa x).1))=eT x (aa x).1 (ah (aa x).1) (ah (aa x).1)→(decide (x_1<(↑(ah (aa x).1).length:Int))=true→0≤x_1∧x_1<(↑(ah (aa x).1).length:Int)∧x_1.toNat<(ah (aa x).1).length∧True∧((0:Int)≤0∧0≤(↑(aK x ((ah (aa x).1).getD x_1.toNat 0) (aj ((ah (aa x).1).getD x_1.toNat 0) (aa x).1).1).length:Int)∧(aK x ((ah (aa x).1).getD x_1.toNat 0) (aj ((ah (aa x).1).getD x_1.toNat 0) (aa x).1).1).length≤256∧fJ (ah (aa x).1) (List.drop (Int.toNat 0) (aK x ((ah (aa x).1).getD x_1.toNat 0) (aj ((ah (aa x).1).getD x_1.toNat 0) (aa x).1).1))=fJ (ah (aa x).1) (aK x ((ah (aa x).1).getD x_1.toNat 0) (aj ((ah (aa x).1).getD x_1.toNat 0) (aa x).1).1))∧∀ (x_2:Int),0≤x_2∧x_2≤(↑(aK x ((ah (aa x).1).getD x_1.toNat 0) (aj ((ah (aa x).1).getD x_1.toNat 0) (aa x).1).1).length:Int)∧(aK x ((ah (aa x).1).getD x_1.toNat 0) (aj ((ah (aa x).1).getD x_1.toNat 0) (aa x).1).1).length≤256∧fJ (ah (aa x).1) (List.drop x_2.toNat (aK x ((ah (aa x).1).getD x_1.toNat 0) (aj ((ah (aa x).1).getD x_1.toNat 0) (aa x).1).1))=fJ (ah (aa x).1) (aK x ((ah (aa x).1).getD x_1.toNat 0) (aj ((ah (aa x).1).getD x_1.toNat 0) (aa x).1).1)→(decide (x_2<(↑(aK x ((ah (aa x).1).getD x_1.toNat 0) (aj ((ah (aa x).1).getD x_1.toNat 0) (aa x).1).1).length:Int))=true→0≤x_2∧x_2<(↑(aK x ((ah (aa x).1).getD x_1.toNat 0) (aj ((ah (aa x).1).getD x_1.toNat 0) (aa x).1).1).length:Int)∧x_2.toNat<(aK x ((ah (aa x).1).getD x_1.toNat 0) (aj ((ah (aa x).1).getD x_1.toNat 0) (aa x).1).1).length∧(decide ((aK x ((ah (aa x).1).getD x_1.toNat 0) (aj ((ah (aa x).1).getD x_1.toNat 0) (aa x).1).1).getD x_2.toNat (0:Int)≠-1)=true→True)∧((decide ((aK x ((ah (aa x).1).getD x_1.toNat 0) (aj ((ah (aa x).1).getD x_1.toNat 0) (aa x).1).1).getD x_2.toNat (0:Int)≠-1)&&!cP (ah (aa x).1) ((aK x ((ah (aa x).1).getD x_1.toNat 0) (aj ((ah (aa x).1).getD x_1.toNat 0) (aa x).1).1).getD x_2.toNat 0))=true→5=fG x∧True)∧((decide ((aK x ((ah (aa x).1).getD x_1.toNat 0) (aj ((ah (aa x).1).getD x_1.toNat 0) (aa x).1).1).getD x_2.toNat (0:Int)≠-1)&&!cP (ah (aa x).1) ((aK x ((ah (aa x).1).getD x_1.toNat 0) (aj ((ah (aa x).1).getD x_1.toNat 0) (aa x).1).1).getD x_2.toNat 0))=false→ak .i64 (x_2+1)∧(0≤x_2+1∧x_2+1≤(↑(aK x ((ah (aa x).1).getD x_1.toNat 0) (aj ((ah (aa x).1).getD x_1.toNat 0) (aa x).1).1).length:Int)∧(aK x ((ah (aa x).1).getD x_1.toNat 0) (aj ((ah (aa x).1).getD x_1.toNat 0) (aa x).1).1).length≤256∧fJ (ah (aa x).1) (List.drop (x_2+1).toNat (aK x ((ah (aa x).1).getD x_1.toNat 0) (aj ((ah (aa x).1).getD x_1.toNat 0) (aa x).1).1))=fJ (ah (aa x).1) (aK x ((ah (aa x).1).getD x_1.toNat 0) (aj ((ah (aa x).1).getD x_1.toNat 0) (aa x).1).1))∧((↑(aK x ((ah (aa x).1).getD x_1.toNat 0) (aj ((ah (aa x).1).getD x_1.toNat 0) (aa x).1).1).length:Int) - (x_2+1)).toNat<((↑(aK x ((ah (aa x).1).getD x_1.toNat 0) (aj ((ah (aa x).1).getD x_1.toNat 0) (aa x).1).1).length:Int) - x_2).toNat))∧(decide (x_2<(↑(aK x ((ah (aa x).1).getD x_1.toNat 0) (aj ((ah (aa x).1).getD x_1.toNat 0) (aa x).1).1).length:Int))=false→ak .i64 (x_1+1)∧(0≤x_1+1∧x_1+1≤(↑(ah (aa x).1).length:Int)∧(ah (aa x).1).length≤256∧x.length≤256∧eT x (aa x).1 (ah (aa x).1) (List.drop (x_1+1).toNat (ah (aa x).1))=eT x (aa x).1 (ah (aa x).1) (ah (aa x).1))∧((↑(ah (aa x).1).length:Int) - (x_1+1)).toNat<((↑(ah (aa x).1).length:Int) - x_1).toNat))∧(decide (x_1<(↑(ah (aa x).1).length:Int))=false→0=fG x∧True))
theorem rM:lz:=by
 unfold lz;intro a _ _;have hlen:=cD a;have hbl:=fF (aa a).1;have hF:fG a=if (aa a).2≠0 then (aa a).2 else if eT a (aa a).1 (ah (aa a).1) (ah (aa a).1)=true then 0 else 5:=rfl
 generalize ah (aa a).1=all at *;refine ⟨trivial,fun hc=>?_,fun hc=>?_⟩
 ·have hc:(aa a).2≠0:=by simpa using hc
  rw [hF,if_pos hc];exact ⟨rfl,trivial⟩
 have hc:(aa a).2=0:=by simpa using hc
 rw [if_neg (by omega)] at hF;have hal:=(gU hc).1;have hnl:∀ at_ h,(aK a at_ h).length≤256:=fun at_ h=>by simp only [aK,List.length_map,List.length_drop,List.length_take]; omega
 generalize hl:(aa a).1=l at *;refine ⟨trivial,⟨by omega,by omega,by omega,hal,rfl⟩,fun i ⟨h0,h1,_,_,h2⟩=>⟨fun hlt=>?_,fun hge=>?_⟩⟩
 ·have hlt:i<(all.length:Int):=by simpa using hlt
  rw [aW (0:Int) h0 hlt] at h2;simp only [eT] at h2;have hnl:=hnl (all.getD i.toNat 0) (aj (all.getD i.toNat 0) l).1;generalize aK a (all.getD i.toNat 0) (aj (all.getD i.toNat 0) l).1=rs at *;refine ⟨h0,hlt,by omega,trivial,⟨by omega,by omega,hnl,rfl⟩,fun j ⟨g0,g1,_,g2⟩=>⟨fun hlt=>?_,fun hge=>?_⟩⟩
  ·have hlt:j<(rs.length:Int):=by simpa using hlt
   rw [aW (0:Int) g0 hlt] at g2;simp only [fJ,List.all_cons] at g2;generalize rs.getD j.toNat 0=v at *;have hv:(decide (v≠-1)&&!cP all v)=!(decide (v=-1)||cP all v):=by simp
   rw [hv];simp only [ak];refine ⟨g0,hlt,by omega,fun _=>trivial,fun hv=>?_,fun hv=>?_⟩
   ·have hv:(decide (v=-1)||cP all v)=false:=by simpa using hv
    rw [hv,Bool.false_and] at g2;have g2:fJ all rs=false:=g2.symm;rw [g2,Bool.false_and] at h2;rw [hF,if_neg (by rw [← h2]; simp)];exact ⟨rfl,trivial⟩
   ·have hv:(decide (v=-1)||cP all v)=true:=by
     cases h:(decide (v=-1)||cP all v)
     ·rw [h] at hv; cases hv
     ·rfl
    rw [hv,Bool.true_and] at g2;exact ⟨by omega,⟨by omega,by omega,hnl,g2⟩,by omega⟩
  ·rw [br (by simpa using hge)] at g2;have g2:fJ all rs=true:=g2.symm;rw [g2,Bool.true_and] at h2;simp only [ak];exact ⟨by omega,⟨by omega,by omega,by omega,hal,h2⟩,by omega⟩
 ·rw [br (by simpa using hge)] at h2;have h2:eT a l all all=true:=h2.symm;rw [hF,if_pos h2];exact ⟨rfl,trivial⟩
theorem lD:sK.ok Tryz.prog 44:=aD (ann:=uK) (ae mn (ae nq (ae mo (ae tK aq)))) Tryz.func44 (by kernel_rfl) rM
theorem dw (a:List Int):∀ s∈(aa a).1,a.length≤256∧ck a s∧af s.2=0:=by
 intro s hs
 have hz:(aa a).2=0:=by
  unfold aa at hs ⊢;split at hs
  ·simp at hs
  ·rename_i cl;rw [if_neg cl];cases h:spotsS 0 a with
   | none=>rw [h] at hs; simp at hs
   | some l=>rfl
 have h:=gU hz;exact ⟨h.1,(h.2 s hs).1,(h.2 s hs).2⟩
end
section
open Go
set_option maxRecDepth 100000
set_option maxHeartbeats 1000000
theorem vo (at_:Int) (l:List Int) (r:List aC) (h:spotsS at_ l=some r):r.Pairwise (fun s t=>s.1<t.1):=by
 induction at_,l using spotsS.induct generalizing r with
 | case1 at_ =>
  simp only [spotsS,Option.some.injEq] at h;subst h;exact List.Pairwise.nil
 | case2 at_ v l hv ih =>
  rw [eI hv.1 hv.2] at h;obtain ⟨r',hr,rfl⟩:=Option.map_eq_some_iff.1 h;have hl:=eK hv.1;refine List.pairwise_cons.2 ⟨fun t ht=>?_,ih r' hr⟩;have:=(wv _ _ _ hr t ht).1;simp only;omega
 | case3 at_ v l hv =>
  rw [eH hv] at h;cases h
theorem co (a:List Int):(aa a).1.Pairwise (fun s t=>s.1<t.1):=by
 unfold aa;split
 ·exact List.Pairwise.nil
 ·cases h:spotsS 0 a with
  | none=>exact List.Pairwise.nil
  | some l=>exact vo 0 a l h
theorem iY {α:Type} (k k':Int) (x:α):∀ (m:List (Int×α)),aT (ef m k x) k'=if k'=k then some x else aT m k'
 | []=>by
  simp only [ef,aT];by_cases h:k=k'
  ·simp [h]
  ·simp [h,Ne.symm h]
 | y::m=>by
  have ih:=iY k k' x m;simp only [ef];by_cases hy:y.1=k
  ·rw [if_pos hy];simp only [aT];by_cases h:k=k'
   ·simp [h]
   ·simp [h,Ne.symm h,hy]
  ·rw [if_neg hy];simp only [aT,ih];by_cases h:y.1=k'
   ·have:k'≠k:=fun e=>hy (h.trans e)
    simp [h,this]
   ·simp [h]
def mA (v:Int):Int→List aC→Option Int
 | _,[]=>none
 | i,s::l=>if s.2.2.2.2=false∧s.1+1=v then some i else mA v (i+1) l
theorem xa {v:Int}:∀ (l:List aC) (i:Int),(∀ s∈l,s.1+1≠v)→mA v i l=none
 | [],_,_=>rfl
 | s::l,i,h=>by
  simp only [mA];rw [if_neg (fun e=>h s (by simp) e.2)];exact xa l (i+1) (fun t ht=>h t (by simp [ht]))
theorem ji (v:Int):∀ (l:List aC) (m:List (Int×Int)) (i:Int),l.Pairwise (fun s t=>s.1<t.1)→aT (d8 m i l) v=(mA v i l).or (aT m v)
 | [],m,i,_=>rfl
 | s::l,m,i,h=>by
  obtain ⟨h1,h2⟩:=List.pairwise_cons.1 h;simp only [d8,mA];rw [ji v l _ (i+1) h2];cases hf:s.2.2.2.2
  ·simp only [Bool.false_eq_true,if_false,true_and];rw [iY];by_cases hv:s.1+1=v
   ·rw [xa l (i+1) (fun t ht e=>by have:=h1 t ht; omega),if_pos hv,if_pos hv.symm];rfl
   ·rw [if_neg hv,if_neg (fun e=>hv e.symm)]
  ·simp
theorem ki (v:Int):∀ (l:List aC) (i:Int),(mA v i l).isSome=cP (ah l) (v - 1)
 | [],_=>rfl
 | s::l,i=>by
  have ih:=ki v l (i+1);simp only [mA,ah];cases hf:s.2.2.2.2
  ·simp only [true_and,Bool.false_eq_true,if_false,cP,List.any_cons];by_cases hv:s.1+1=v
   ·rw [if_pos hv];simp;left; omega
   ·rw [if_neg hv,ih];have:¬ s.1=v - 1:=by omega
    simp [this,cP]
  ·simp [ih]
theorem fZ (n:Int):∀ (l:List aC),(∀ s∈l,0≤s.1∧s.1≤255)→(n<0∨255<n)→cP (ah l) n=false
 | [],_,_=>rfl
 | s::l,h,hn=>by
  have ih:=fZ n l (fun t ht=>h t (by simp [ht])) hn;have hs:=h s (by simp);simp only [ah];split
  ·exact ih
  ·simp only [cP,List.any_cons] at ih ⊢;rw [ih];simp;omega
theorem pL {l:List aC} (hs:l.Pairwise (fun s t=>s.1<t.1)) (hr:∀ s∈l,0≤s.1∧s.1≤255) {v:Int} (hv:0≤v) :
  (decide (nameOf v=-1)||cP (ah l) (nameOf v))=(aT (bI l) v).isSome:=by
 unfold bI;rw [ji v l _ 0 hs];by_cases h0:v=0
 ·subst h0;cases h:mA 0 0 l <;> simp [nameOf,aT]
 ·have e1:aT [((0:Int),(-1:Int))] v=none:=by simp [aT,Ne.symm h0]
  rw [e1,Option.or_none,ki];by_cases hb:256<v
  ·have:nameOf v=9998:=by simp [nameOf,hb]
   rw [this,fZ 9998 l hr (by omega),fZ (v - 1) l hr (by omega)];rfl
  ·have:nameOf v=v - 1:=by simp [nameOf,hb]
   rw [this];have:¬ v - 1=-1:=by omega
   simp [this]
theorem kN:∀ {l:List aC} {s:aC},l.Pairwise (fun s t=>s.1<t.1)→s∈l→s.2.2.2.2=false→aj s.1 l=(s.2,true)
 | t::l,s,hs,hm,hf=>by
  obtain ⟨h1,h2⟩:=List.pairwise_cons.1 hs;simp only [aj];rcases List.mem_cons.1 hm with rfl | hm
  ·rw [if_pos ⟨rfl,hf⟩]
  ·rw [if_neg (fun e=>by have:=h1 s hm; omega)];exact kN h2 hm hf
theorem Eb (a:List Int) (s:aC):aK a s.1 s.2=(aJ a s).map nameOf:=rfl
theorem GJ {a:List Int} {s:aC} (hf:s.2.2.2.2=true) (h:af s.2=0):aJ a s=[]:=by
 have:=(bj h).2.2.2.2.2 hf;unfold aJ;rw [this.1];apply List.drop_of_length_le;rw [List.length_take,Int.add_zero];omega
theorem iv {a:List Int} {s:aC} (hw:∀ x∈a,ak .u64 x):∀ v∈aJ a s,0≤v:=by
 intro v hv;exact (hw v (List.mem_of_mem_take (List.mem_of_mem_drop hv))).1
theorem uJ {a:List Int} (hw:∀ x∈a,ak .u64 x) {l:List aC} (hs:l.Pairwise (fun s t=>s.1<t.1)) (hr:∀ s∈l,0≤s.1∧s.1≤255) (hf:∀ s∈l,af s.2=0) :
  ∀ (l':List aC),(∀ s∈l',s∈l)→eT a l (ah l) (ah l')=fx (bI l) a l'
 | [],_=>rfl
 | s::l',h=>by
  have ih:=uJ hw hs hr hf l' (fun t ht=>h t (by simp [ht]));have hm:=h s (by simp);simp only [ah];unfold fx at ih ⊢;rw [List.all_cons];cases hfr:s.2.2.2.2
  ·simp only [Bool.false_eq_true,if_false,eT];rw [kN hs hm hfr,Eb,ih];congr 1;unfold fJ;rw [List.all_map];apply Bool.eq_iff_iff.2;rw [List.all_eq_true,List.all_eq_true];constructor
   ·intro hh v hv;rw [← pL hs hr (iv hw v hv)];exact hh v hv
   ·intro hh v hv;have:=hh v hv;rw [← pL hs hr (iv hw v hv)] at this;exact this
  ·simp only [if_true];rw [ih,GJ hfr (hf s hm)];rfl
theorem gt {a:List Int}:∀ s∈(aa a).1,0≤s.1∧s.1≤255:=by
 intro s hs;obtain ⟨h1,h2,h3⟩:=dw a s hs;unfold ck at h2;omega
theorem rJ {a:List Int} (hw:∀ x∈a,ak .u64 x):fG a=(au a).2.2:=by
 unfold fG au;rw [uJ hw (co a) gt (fun s hs=>(dw a s hs).2.2) (aa a).1 (fun _ h=>h)];split
 ·rfl
 ·split <;> rfl
def isB (l:List aC) (at_:Int):Bool:=(aj at_ l).2
theorem g7 (n:Int):∀ l:List aC,cP (ah l) n=isB l n
 | []=>rfl
 | s::l=>by
  have ih:=g7 n l;unfold isB at ih ⊢;simp only [ah,aj];cases hf:s.2.2.2.2
  ·simp only [Bool.false_eq_true,if_false,and_true,cP,List.any_cons];by_cases hv:s.1=n
   ·rw [if_pos hv];simp [hv]
   ·rw [if_neg hv];simp only [cP] at ih;rw [← ih];simp [hv]
  ·simp only [if_true,and_false,if_false,Bool.true_eq_false];exact ih
theorem nl {a:List Int} (hw:∀ x∈a,ak .u64 x) (hc:(au a).2.2=0):∀ s∈(aa a).1,∀ v∈aJ a s,v=0∨1≤v∧v≤256∧isB (aa a).1 (v - 1)=true:=by
 intro s hs v hv;obtain ⟨_,_,_,_,_,hok,_⟩:=b7 hc;have h1:=List.all_eq_true.1 (List.all_eq_true.1 hok s hs) v hv;have h0:=iv hw v hv;rw [← pL (co a) gt h0] at h1;by_cases hz:v=0
 ·exact .inl hz
 refine .inr ?_
 have hr:∀ n,cP (ah (aa a).1) n=true→0≤n∧n≤255:=fun n hn=>by
  refine ⟨Int.not_lt.1 fun h=>?_,Int.not_lt.1 fun h=>?_⟩
  ·rw [fZ n _ gt (.inl h)] at hn; cases hn
  ·rw [fZ n _ gt (.inr h)] at hn; cases hn
 unfold nameOf at h1;split at h1
 ·have h2:cP (ah (aa a).1) (9999 - 1)=true:=by simpa using h1
  have:=hr _ h2;omega
 ·have h2:cP (ah (aa a).1) (v - 1)=true:=by
   rcases Bool.or_eq_true _ _ ▸ h1 with h | h
   ·have:=of_decide_eq_true h; omega
   ·exact h
  have:=hr _ h2;refine ⟨by omega,by omega,?_⟩;rw [← g7];exact h2
theorem t8 {a:List Int} {at_:Int} (h:isB (aa a).1 at_=true):(at_,(aj at_ (aa a).1).1)∈(aa a).1∧ck a (at_,(aj at_ (aa a).1).1)∧af (aj at_ (aa a).1).1=0∧(aj at_ (aa a).1).1.2.2.2=false∧a.length≤256:=by
 rcases gl at_ (aa a).1 with e | ⟨s,h1,h2,h3,e⟩
 ·unfold isB at h;rw [e] at h;cases h
 ·obtain ⟨k1,k2,k3⟩:=dw a s h1;rw [e];simp only;subst h2;exact ⟨h1,k2,k3,h3,k1⟩
end
section
open Go
set_option maxRecDepth 100000
set_option maxHeartbeats 1000000
def rB (a:List Int) (ls:List (List Int)):Int:=if fG a≠0 then fG a else if (ls.all fun l=>l.all (cP (ah (aa a).1)))=true then 0 else 5
def JP:Nat→Option LoopGen
 | 6=>some { rd:=[.own 6 3 ty_I,.dat 18 (.arr (.arr ty_I))],A:=fun ((b,ls):List Int×List (List Int))=>{ cs:=[.dat 20 ty_I],inv:=fun (i:Int)=>0≤i∧i≤ls.length∧((ls.drop i.toNat).all fun l=>l.all (cP b))=(ls.all fun l=>l.all (cP b)),mu:=fun (i:Int)=>(ls.length - i).toNat } }
 | 9=>some { rd:=[.own 6 3 ty_I,.dat 24 (.arr ty_I)],A:=fun ((b,l):List Int×List Int)=>{ cs:=[.dat 26 ty_I],inv:=fun (i:Int)=>0≤i∧i≤l.length∧(l.drop i.toNat).all (cP b)=l.all (cP b),mu:=fun (i:Int)=>(l.length - i).toNat } }
 | _=>none
def H9:Spec:={ Ts:=[.arr a8,.arr (.arr ty_I)],Rs:=[.dat ty_I],pre:=fun _=>True,F:=fun ((a,ls):List Int×List (List Int))=>rB a ls }
def Bo:Prop :=
  ∀ (x:List Int×List (List Int)),((x.1.length * 8≤aA∧∀ (x_1:Int),x_1∈x.1→ak .u64 x_1)∧x.2.length * 24≤aA∧∀ (x_1:List Int),x_1∈x.2→x_1.length * 8≤aA∧∀ (x:Int),x∈x_1→ak .i64 x)→True→True∧(decide (fG x.1≠0)=true→fG x.1=rB x.1 x.2∧True)∧(decide (fG x.1≠0)=false→True∧((0:Int)≤0∧0≤(↑x.2.length:Int)∧((List.drop (Int.toNat 0) x.2).all fun (l:List Int)=>l.all (cP (ah (aa x.1).1)))=x.2.all fun (l:List Int)=>l.all (cP (ah (aa x.1).1)))∧∀ (x_1:Int),(0≤x_1∧x_1≤(↑x.2.length:Int)∧((List.drop x_1.toNat x.2).all fun (l:List Int)=>l.all (cP (ah (aa x.1).1)))=x.2.all fun (l:List Int)=>l.all (cP (ah (aa x.1).1)))→(decide (x_1<(↑x.2.length:Int))=true→0≤x_1∧x_1<(↑x.2.length:Int)∧((0:Int)≤0∧0≤(↑(x.2.getD x_1.toNat ([]:List Int)).length:Int)∧(List.drop (Int.toNat 0) (x.2.getD x_1.toNat ([]:List Int))).all (cP (ah (aa x.1).1))=(x.2.getD x_1.toNat ([]:List Int)).all (cP (ah (aa x.1).1)))∧∀ (x_2:Int),0≤x_2∧x_2≤(↑(x.2.getD x_1.toNat ([]:List Int)).length:Int)∧(List.drop x_2.toNat (x.2.getD x_1.toNat ([]:List Int))).all (cP (ah (aa x.1).1))=(x.2.getD x_1.toNat ([]:List Int)).all (cP (ah (aa x.1).1))→(decide (x_2<(↑(x.2.getD x_1.toNat ([]:List Int)).length:Int))=true→0≤x_2∧x_2<(↑(x.2.getD x_1.toNat ([]:List Int)).length:Int)∧True∧((!cP (ah (aa x.1).1) ((x.2.getD x_1.toNat ([]:List Int)).getD x_2.toNat 0))=true→5=rB x.1 x.2∧True)∧((!cP (ah (aa x.1).1) ((x.2.getD x_1.toNat ([]:List Int)).getD x_2.toNat 0))=false→ak .i64 (x_2+1)∧(0≤x_2+1∧x_2+1≤(↑(x.2.getD x_1.toNat ([]:List Int)).length:Int)∧(List.drop (x_2+1).toNat (x.2.getD x_1.toNat ([]:List Int))).all (cP (ah (aa x.1).1))=(x.2.getD x_1.toNat ([]:List Int)).all (cP (ah (aa x.1).1)))∧((↑(x.2.getD x_1.toNat ([]:List Int)).length:Int) - (x_2+1)).toNat<((↑(x.2.getD x_1.toNat ([]:List Int)).length:Int) - x_2).toNat))∧(decide (x_2<(↑(x.2.getD x_1.toNat ([]:List Int)).length:Int))=false→ak .i64 (x_1+1)∧(0≤x_1+1∧x_1+1≤(↑x.2.length:Int)∧((List.drop (x_1+1).toNat x.2).all fun (l:List Int)=>l.all (cP (ah (aa x.1).1)))=x.2.all fun (l:List Int)=>l.all (cP (ah (aa x.1).1)))∧((↑x.2.length:Int) - (x_1+1)).toNat<((↑x.2.length:Int) - x_1).toNat))∧(decide (x_1<(↑x.2.length:Int))=false→0=rB x.1 x.2∧True))
theorem FQ:Bo:=by
 unfold Bo;intro ⟨a,ls⟩ ⟨_,hb,hls⟩ _;unfold aA at hb;simp only at hb hls;have hF:rB a ls=if fG a≠0 then fG a else if (ls.all fun l=>l.all (cP (ah (aa a).1)))=true then 0 else 5:=rfl
 simp only [hF];refine ⟨trivial,fun hc=>?_,fun hc=>⟨trivial,⟨by omega,by omega,rfl⟩,fun i ⟨h0,h1,h2⟩=>⟨fun hlt=>?_,fun hge=>?_⟩⟩⟩
 ·rw [if_pos (of_decide_eq_true hc)];exact ⟨rfl,trivial⟩
 ·have hlt:i<(ls.length:Int):=of_decide_eq_true hlt;rw [if_neg (of_decide_eq_false hc)];have hm:=hls _ (aI ([]:List Int) h0 hlt);rw [aW ([]:List Int) h0 hlt,List.all_cons] at h2;generalize ls.getD i.toNat []=l at *;unfold aA at hm;simp only [ak];refine ⟨h0,hlt,⟨by omega,by omega,rfl⟩,fun j ⟨j0,j1,j2⟩=>⟨fun hj=>?_,fun hj=>?_⟩⟩
  ·have hj:j<(l.length:Int):=of_decide_eq_true hj;rw [aW (0:Int) j0 hj,List.all_cons] at j2;refine ⟨j0,hj,trivial,fun hn=>?_,fun hn=>⟨by omega,⟨by omega,by omega,?_⟩,by omega⟩⟩
   ·have hn:cP (ah (aa a).1) (l.getD j.toNat 0)=false:=by simpa using hn
    rw [hn,Bool.false_and] at j2;rw [← j2,Bool.false_and] at h2;rw [← h2];exact ⟨rfl,trivial⟩
   ·have hn:cP (ah (aa a).1) (l.getD j.toNat 0)=true:=by simpa using hn
    rw [hn,Bool.true_and] at j2;exact j2
  ·rw [br (of_decide_eq_false hj),List.all_nil] at j2;rw [← j2,Bool.true_and] at h2;exact ⟨by omega,⟨by omega,by omega,h2⟩,by omega⟩
 ·rw [if_neg (of_decide_eq_false hc)];rw [br (of_decide_eq_false hge),List.all_nil] at h2;rw [← h2];exact ⟨rfl,trivial⟩
theorem IN:H9.ok Tryz.prog 48:=aD (ann:=JP) (ae lD (ae nq (ae tK aq))) Tryz.func48 (by kernel_rfl) FQ
end
section
open Go
set_option maxRecDepth 100000
set_option maxHeartbeats 1000000
abbrev ft:Ty:=.pair ty_I ty_I
abbrev bW:=Int×Int
def DK:Spec:={ Ts:=[de],Rs:=[.dat ty_I],pre:=fun _=>True,F:=fun (h:du)=>(if af h=0 then ac h else 0:Int) }
def tt:Prop :=
  ∀ (x:Int×Int×Int×Bool),ak .i64 x.1∧ak .i64 x.2.1∧ak .i64 x.2.2.1∧True→True→True∧((if af x=0 then ac x else (0:Int))=if af x=0 then ac x else (0:Int))∧True
theorem An:tt:=by
 unfold tt;intro h _ _;simp
theorem tN:DK.ok Tryz.prog 133:=aD (ann:=cp) (ae iL aq) Tryz.func133 (by kernel_rfl) An
def aO (a:List Int):List aC×Int:=if (au a).2.2≠0 then ([],(au a).2.2) else ((aa a).1,0)
def A1:Spec:={ Ts:=[.arr a8],Rs:=[.own 124 cg,.dat ty_I],pre:=fun _=>True,F:=aO }
def rc:Prop :=
  ∀ (x:List Int),(x.length * 8≤aA∧∀ (x_1:Int),x_1∈x→ak .u64 x_1)→True→True∧(decide ((au x).2.2≠0)=true→([]:List (Int×Int×Int×Int×Bool))=(aO x).1∧(au x).2.2=(aO x).2∧True)∧(decide ((au x).2.2≠0)=false→True∧(aa x).1=(aO x).1∧(aa x).2=(aO x).2∧True)
theorem ye:rc:=by
 unfold rc;intro a _ _;have h:=b7 (a:=a);unfold aO;refine ⟨trivial,fun hc=>?_,fun hc=>?_⟩
 ·have hc:(au a).2.2≠0:=by simpa using hc
  rw [if_pos hc];exact ⟨rfl,rfl,trivial⟩
 ·have hc:(au a).2.2=0:=by simpa using hc
  obtain ⟨_,_,_,h4,_⟩:=h hc;rw [if_neg (by omega),h4];exact ⟨trivial,rfl,rfl,trivial⟩
theorem lE:A1.ok Tryz.prog 127:=aD (ann:=cp) (ae iK (ae iJ aq)) Tryz.func127 (by kernel_rfl) ye
def fQ (out:List bW) (n:Int):List bW:=out.set (out.length - 1) ((out.getD (out.length - 1) (0,0)).1,(out.getD (out.length - 1) (0,0)).2+n)
def aU:Bool→List bW→List aC→List bW
 | _,out,[]=>out
 | p,out,s::l=>aU s.2.2.2.2 (if s.2.2.2.2=true then (if p=true then fQ out (ac s.2) else out++[(s.1,ac s.2)]) else out) l
theorem dj (out:List bW) (n:Int):(fQ out n).length=out.length:=by simp [fQ]
def c6 (l:List aC) (i:Int):Bool:=decide (0<i)&&(l.getD (i - 1).toNat (0,0,0,0,false)).2.2.2.2
def EQ:Nat→Option LoopGen
 | 3=>some { rd:=[.dat 6 (.arr cg)],A:=fun (l:List aC)=>{ cs:=[.own 3 129 ft,.dat 8 ty_I],inv:=fun ((out,i):List bW×Int)=>0≤i∧i≤l.length∧l.length≤256∧(∀ s∈l,af s.2=0)∧out.length≤i∧(c6 l i=true→0<out.length)∧(∀ r∈out,0≤r.2∧r.2≤256 * i)∧aU (c6 l i) out (l.drop i.toNat)=aU false [] l,mu:=fun ((_,i):List bW×Int)=>(l.length - i).toNat } }
 | _=>none
def DM:Spec:={ Ts:=[.arr cg],Rs:=[.own 129 ft],pre:=fun (l:List aC)=>l.length≤256∧∀ s∈l,af s.2=0,F:=fun (l:List aC)=>aU false [] l }
def tv:Prop :=
  ∀ (x:List (Int×Int×Int×Int×Bool)),(x.length * (8+(8+(8+(8+8))))≤aA∧∀ (x_1:Int×Int×Int×Int×Bool),x_1∈x→ak .i64 x_1.1∧ak .i64 x_1.2.1∧ak .i64 x_1.2.2.1∧ak .i64 x_1.2.2.2.1∧True)→(x.length≤256∧∀ (s:aC),s∈x→af s.2=0)→((0:Int)≤0∧0≤(↑x.length:Int)∧x.length≤256∧(∀ (s:aC),s∈x→af s.2=0)∧(↑(0:Nat):Int)≤0∧(c6 x 0=true→(0:Nat)<0)∧(∀ (r:bW),r∈([]:List (Int×Int))→0≤r.2∧r.2≤256 * 0)∧aU (c6 x 0) ([]:List (Int×Int)) (List.drop (Int.toNat 0) x)=aU false ([]:List bW) x)∧∀ (x_1:List (Int×Int)×Int),0≤x_1.2∧x_1.2≤(↑x.length:Int)∧x.length≤256∧(∀ (s:aC),s∈x→af s.2=0)∧(↑x_1.1.length:Int)≤x_1.2∧(c6 x x_1.2=true→0<x_1.1.length)∧(∀ (r:bW),r∈x_1.1→0≤r.2∧r.2≤256 * x_1.2)∧aU (c6 x x_1.2) x_1.1 (List.drop x_1.2.toNat x)=aU false ([]:List bW) x→(decide (x_1.2<(↑x.length:Int))=true→0≤x_1.2∧x_1.2<(↑x.length:Int)∧((!(x.getD x_1.2.toNat (0,0,0,0,false)).2.2.2.2)=true→ak .i64 (x_1.2+1)∧(0≤x_1.2+1∧x_1.2+1≤(↑x.length:Int)∧x.length≤256∧(∀ (s:aC),s∈x→af s.2=0)∧(↑x_1.1.length:Int)≤x_1.2+1∧(c6 x (x_1.2+1)=true→0<x_1.1.length)∧(∀ (r:bW),r∈x_1.1→0≤r.2∧r.2≤256 * (x_1.2+1))∧aU (c6 x (x_1.2+1)) x_1.1 (List.drop (x_1.2+1).toNat x)=aU false ([]:List bW) x)∧((↑x.length:Int) - (x_1.2+1)).toNat<((↑x.length:Int) - x_1.2).toNat)∧((!(x.getD x_1.2.toNat (0,0,0,0,false)).2.2.2.2)=false→(decide (0<x_1.2)=true→ak .i64 (x_1.2 - 1))∧(decide (0<x_1.2)=true→0≤x_1.2 - 1)∧(decide (0<x_1.2)=true→x_1.2 - 1<(↑x.length:Int))∧((decide (0<x_1.2)&&(x.getD (x_1.2 - 1).toNat (0,0,0,0,false)).2.2.2.2)=true→ak .i64 ((↑x_1.1.length:Int) - 1)∧0≤(↑x_1.1.length:Int) - 1∧(↑x_1.1.length:Int) - 1<(↑x_1.1.length:Int)∧((↑x_1.1.length:Int) - 1).toNat<x_1.1.length∧True∧ak .i64 ((x_1.1.getD ((↑x_1.1.length:Int) - 1).toNat (0,0)).2+if af (x.getD x_1.2.toNat (0,0,0,0,false)).2=0 then ac (x.getD x_1.2.toNat (0,0,0,0,false)).2 else (0:Int))∧0≤(↑x_1.1.length:Int) - 1∧(↑x_1.1.length:Int) - 1<(↑x_1.1.length:Int)∧((↑x_1.1.length:Int) - 1).toNat<x_1.1.length∧ak .i64 (x_1.2+1)∧(0≤x_1.2+1∧x_1.2+1≤(↑x.length:Int)∧x.length≤256∧(∀ (s:aC),s∈x→af s.2=0)∧(↑(x_1.1.set ((↑x_1.1.length:Int) - 1).toNat ((x_1.1.getD ((↑x_1.1.length:Int) - 1).toNat (0,0)).1,(x_1.1.getD ((↑x_1.1.length:Int) - 1).toNat (0,0)).2+if af (x.getD x_1.2.toNat (0,0,0,0,false)).2=0 then ac (x.getD x_1.2.toNat (0,0,0,0,false)).2 else (0:Int))).length:Int)≤x_1.2+1∧(c6 x (x_1.2+1)=true→0<(x_1.1.set ((↑x_1.1.length:Int) - 1).toNat ((x_1.1.getD ((↑x_1.1.length:Int) - 1).toNat (0,0)).1,(x_1.1.getD ((↑x_1.1.length:Int) - 1).toNat (0,0)).2+if af (x.getD x_1.2.toNat (0,0,0,0,false)).2=0 then ac (x.getD x_1.2.toNat (0,0,0,0,false)).2 else (0:Int))).length)∧(∀ (r:bW),r∈x_1.1.set ((↑x_1.1.length:Int) - 1).toNat ((x_1.1.getD ((↑x_1.1.length:Int) - 1).toNat (0,0)).1,(x_1.1.getD ((↑x_1.1.length:Int) - 1).toNat (0,0)).2+if af (x.getD x_1.2.toNat (0,0,0,0,false)).2=0 then ac (x.getD x_1.2.toNat (0,0,0,0,false)).2 else (0:Int))→0≤r.2∧r.2≤256 * (x_1.2+1))∧aU (c6 x (x_1.2+1)) (x_1.1.set ((↑x_1.1.length:Int) - 1).toNat ((x_1.1.getD ((↑x_1.1.length:Int) - 1).toNat (0,0)).1,(x_1.1.getD ((↑x_1.1.length:Int) - 1).toNat (0,0)).2+if af (x.getD x_1.2.toNat (0,0,0,0,false)).2=0 then ac (x.getD x_1.2.toNat (0,0,0,0,false)).2 else (0:Int))) (List.drop (x_1.2+1).toNat x)=aU false ([]:List bW) x)∧((↑x.length:Int) - (x_1.2+1)).toNat<((↑x.length:Int) - x_1.2).toNat)∧((decide (0<x_1.2)&&(x.getD (x_1.2 - 1).toNat (0,0,0,0,false)).2.2.2.2)=false→True∧(x_1.1.length+[((x.getD x_1.2.toNat (0,0,0,0,false)).1,if af (x.getD x_1.2.toNat (0,0,0,0,false)).2=0 then ac (x.getD x_1.2.toNat (0,0,0,0,false)).2 else (0:Int))].length) * (8+8)≤aA∧ak .i64 (x_1.2+1)∧(0≤x_1.2+1∧x_1.2+1≤(↑x.length:Int)∧x.length≤256∧(∀ (s:aC),s∈x→af s.2=0)∧(↑(x_1.1++[((x.getD x_1.2.toNat (0,0,0,0,false)).1,if af (x.getD x_1.2.toNat (0,0,0,0,false)).2=0 then ac (x.getD x_1.2.toNat (0,0,0,0,false)).2 else (0:Int))]).length:Int)≤x_1.2+1∧(c6 x (x_1.2+1)=true→0<(x_1.1++[((x.getD x_1.2.toNat (0,0,0,0,false)).1,if af (x.getD x_1.2.toNat (0,0,0,0,false)).2=0 then ac (x.getD x_1.2.toNat (0,0,0,0,false)).2 else (0:Int))]).length)∧(∀ (r:bW),r∈x_1.1++[((x.getD x_1.2.toNat (0,0,0,0,false)).1,if af (x.getD x_1.2.toNat (0,0,0,0,false)).2=0 then ac (x.getD x_1.2.toNat (0,0,0,0,false)).2 else (0:Int))]→0≤r.2∧r.2≤256 * (x_1.2+1))∧aU (c6 x (x_1.2+1)) (x_1.1++[((x.getD x_1.2.toNat (0,0,0,0,false)).1,if af (x.getD x_1.2.toNat (0,0,0,0,false)).2=0 then ac (x.getD x_1.2.toNat (0,0,0,0,false)).2 else (0:Int))]) (List.drop (x_1.2+1).toNat x)=aU false ([]:List bW) x)∧((↑x.length:Int) - (x_1.2+1)).toNat<((↑x.length:Int) - x_1.2).toNat)))∧(decide (x_1.2<(↑x.length:Int))=false→x_1.1=aU false ([]:List bW) x∧True)
theorem Ap:tv:=by
 unfold tv;intro l ⟨hb,_⟩ ⟨hl,hf⟩;refine ⟨⟨by omega,by omega,hl,hf,by simp,by simp [c6],by simp,by simp [c6]⟩,fun ⟨out,i⟩ ⟨h0,h1,_,_,h2,h3,h4,h5⟩=>⟨fun hlt=>?_,fun hge=>?_⟩⟩
 ·have hlt:i<(l.length:Int):=of_decide_eq_true hlt;simp only at h0 h1 h2 h3 h4 h5 ⊢;rw [aW ((0,0,0,0,false):aC) h0 hlt] at h5;simp only [aU] at h5;have hs:=hf _ (aI ((0,0,0,0,false):aC) h0 hlt)
  have hlf:c6 l (i+1)=(l.getD i.toNat (0,0,0,0,false)).2.2.2.2:=by
   unfold c6;rw [show i+1 - 1=i by omega];simp;omega
  rw [hlf,if_pos hs];have hz:=bj hs;have hL:ac (l.getD i.toNat (0,0,0,0,false)).2=1+(l.getD i.toNat (0,0,0,0,false)).2.1+(l.getD i.toNat (0,0,0,0,false)).2.2.1:=rfl;have hlfi:c6 l i=(decide (0<i)&&(l.getD (i - 1).toNat (0,0,0,0,false)).2.2.2.2):=rfl;rw [← hlfi];generalize l.getD i.toNat (0,0,0,0,false)=s at *;generalize ac s.2=L at *;simp only [ak];refine ⟨h0,hlt,fun hc=>?_,fun hc=>⟨fun hp=>by have:=of_decide_eq_true hp; omega,fun hp=>by have:=of_decide_eq_true hp; omega,fun _=>by omega,fun hp=>?_,fun hp=>?_⟩⟩
  ·have hc:s.2.2.2.2=false:=by simpa using hc
   rw [hc] at h5 ⊢;simp only [Bool.false_eq_true,if_false] at h5;exact ⟨by omega,⟨by omega,by omega,hl,hf,by omega,fun h=>by simp at h,fun r hr=>by have:=h4 r hr; omega,h5⟩,by omega⟩
  ·have hc:s.2.2.2.2=true:=by simpa using hc
   rw [hc,hp] at h5;simp only [if_true] at h5;rw [hc];have hlen:=h3 hp;have hlast:=h4 _ (aI ((0,0):bW) (xs:=out) (i:=(out.length:Int) - 1) (by omega) (by omega));have e:((out.length:Int) - 1).toNat=out.length - 1:=by omega
   rw [e] at hlast ⊢;have hbump:out.set (out.length - 1) ((out.getD (out.length - 1) (0,0)).1,(out.getD (out.length - 1) (0,0)).2+L)=fQ out L:=rfl;rw [hbump];rw [dj];refine ⟨by omega,by omega,by omega,by omega,trivial,by omega,by omega,by omega,by omega,by omega,⟨by omega,by omega,hl,hf,by omega,fun _=>hlen,fun r hr=>?_,h5⟩,by omega⟩;rcases List.mem_or_eq_of_mem_set hr with hr | rfl
   ·have:=h4 r hr; omega
   ·simp only; omega
  ·have hc:s.2.2.2.2=true:=by simpa using hc
   rw [hc,hp] at h5;simp only [if_true,Bool.false_eq_true,if_false] at h5;rw [hc];unfold aA;simp only [List.length_append,List.length_cons,List.length_nil];refine ⟨trivial,by omega,by omega,⟨by omega,by omega,hl,hf,by omega,fun _=>by omega,fun r hr=>?_,h5⟩,by omega⟩;rcases List.mem_append.1 hr with hr | hr
   ·have:=h4 r hr; omega
   ·simp only [List.mem_singleton] at hr;subst hr;simp only;omega
 ·have hge:¬ i<(l.length:Int):=of_decide_eq_false hge;simp only at h5;rw [br hge] at h5;exact ⟨h5,trivial⟩
theorem tO:DM.ok Tryz.prog 128:=aD (ann:=EQ) (ae tN aq) Tryz.func128 (by kernel_rfl) Ap
def ax (a:List Int):List bW×Int:=if (au a).2.2≠0 then ([],(au a).2.2) else (aU false [] (aa a).1,0)
def A0:Spec:={ Ts:=[.arr a8],Rs:=[.own 129 ft,.dat ty_I],pre:=fun _=>True,F:=ax }
def rb:Prop :=
  ∀ (x:List Int),(x.length * 8≤aA∧∀ (x_1:Int),x_1∈x→ak .u64 x_1)→True→True∧(decide ((aO x).2≠0)=true→([]:List (Int×Int))=(ax x).1∧(aO x).2=(ax x).2∧True)∧(decide ((aO x).2≠0)=false→((aO x).1.length≤256∧∀ (s:aC),s∈(aO x).1→af s.2=0)∧aU false ([]:List bW) (aO x).1=(ax x).1∧0=(ax x).2∧True)
theorem yd:rb:=by
 unfold rb;intro a _ _;have h:=b7 (a:=a);have hlen:=cD a;unfold aO ax;refine ⟨trivial,fun hc=>?_,fun hc=>?_⟩
 ·have hc:(au a).2.2≠0:=by
   intro e;rw [if_neg (by omega)] at hc;simp at hc
  rw [if_pos hc,if_pos hc];exact ⟨rfl,rfl,trivial⟩
 ·have hc:(au a).2.2=0:=by
   apply Classical.byContradiction;intro e;rw [if_pos e] at hc;simp [e] at hc
  obtain ⟨_,_,h3,h4,_,_,h5⟩:=h hc;rw [if_neg (by omega),if_neg (by omega)];rw [h3] at h5;exact ⟨⟨hlen,fun s hs=>(h5 s hs).2⟩,rfl,rfl,trivial⟩
theorem rt:A0.ok Tryz.prog 94:=aD (ann:=cp) (ae lE (ae tO aq)) Tryz.func94 (by kernel_rfl) yd
def aR (a:List Int) (at_ n:Int):List Int:=if 0<n then (dA a at_ n 0 n).set at_.toNat (a6 (0,n - 1,0,true)) else a
def dy (a:List Int) (at_ n:Int):Prop:=0≤at_∧0≤n∧at_+n≤a.length∧a.length≤256
theorem um {a:List Int} {at_ n v:Int} (h:dy a at_ n):gT a at_ n v=(dA a at_ n v n,0):=by
 obtain ⟨h1,h2,h3,h4⟩:=h
 have:ep a.length n [at_]=0:=by
  rw [Ax,if_neg (by omega),if_pos];rw [mC];omega
 unfold gT;rw [if_pos this]
def J9:Spec:={ Ts:=[.arr a8,ty_I,ty_I],Rs:=[.own 29 a8],pre:=fun ((a,at_,n):List Int×Int×Int)=>dy a at_ n∧1≤n,F:=fun ((a,at_,n):List Int×Int×Int)=>aR a at_ n }
def E2:Prop :=
  ∀ (x:List Int×Int×Int),(x.1.length * 8≤aA∧∀ (x_1:Int),x_1∈x.1→ak .u64 x_1)∧ak .i64 x.2.1∧ak .i64 x.2.2→dy x.1 x.2.1 x.2.2∧1≤x.2.2→(decide (x.2.2=0)=true→False)∧(decide (x.2.2=0)=false→ak .i64 (x.2.2 - 1)∧True∧True∧0≤x.2.1∧x.2.1<(↑(gT x.1 x.2.1 x.2.2 0).1.length:Int)∧x.2.1.toNat<(gT x.1 x.2.1 x.2.2 0).1.length∧(gT x.1 x.2.1 x.2.2 0).1.set x.2.1.toNat (if af (0,x.2.2 - 1,0,true)=0 then a6 (0,x.2.2 - 1,0,true) else (0:Int))=aR x.1 x.2.1 x.2.2∧True)
theorem HM:E2:=by
 unfold E2;intro ⟨a,at_,n⟩ _ ⟨hp,h1⟩;simp only at hp h1 ⊢;rw [um hp];obtain ⟨p1,p2,p3,p4⟩:=hp;have hf:af (0,n - 1,0,true)=0:=by simp [af,ac]; omega
 have hl:=dW a at_ n 0 n p1 p3 p2 (by omega);rw [if_pos hf];have hE:aR a at_ n=(dA a at_ n 0 n).set at_.toNat (a6 (0,n - 1,0,true)):=by unfold aR; rw [if_pos (by omega)]
 rw [hE];simp only [ak];exact ⟨fun h=>by have:=of_decide_eq_true h; omega,fun _=>⟨by omega,trivial,trivial,by omega,by omega,by omega,trivial,trivial⟩⟩
theorem Kq:J9.ok Tryz.prog 130:=aD (ann:=cp) (ae jJ (ae lC aq)) Tryz.func130 (by kernel_rfl) HM
def J8:Spec:={ Ts:=[.arr a8,ty_I,ty_I],Rs:=[.dat (.arr a8)],al:=true,pre:=fun ((a,at_,n):List Int×Int×Int)=>dy a at_ n,F:=fun ((a,at_,n):List Int×Int×Int)=>aR a at_ n }
def E1:Prop :=
  ∀ (x:List Int×Int×Int),(x.1.length * 8≤aA∧∀ (x_1:Int),x_1∈x.1→ak .u64 x_1)∧ak .i64 x.2.1∧ak .i64 x.2.2→dy x.1 x.2.1 x.2.2→(decide (x.2.2=0)=true→x.1=aR x.1 x.2.1 x.2.2∧True)∧(decide (x.2.2=0)=false→ak .i64 (x.2.2 - 1)∧True∧True∧0≤x.2.1∧x.2.1<(↑(gT x.1 x.2.1 x.2.2 0).1.length:Int)∧x.2.1.toNat<(gT x.1 x.2.1 x.2.2 0).1.length∧(gT x.1 x.2.1 x.2.2 0).1.set x.2.1.toNat (if af (0,x.2.2 - 1,0,true)=0 then a6 (0,x.2.2 - 1,0,true) else (0:Int))=aR x.1 x.2.1 x.2.2∧True)
theorem HL:E1:=by
 unfold E1;intro ⟨a,at_,n⟩ _ hp;simp only at hp ⊢;rw [um hp];obtain ⟨p1,p2,p3,p4⟩:=hp;refine ⟨fun h=>?_,fun h=>?_⟩
 ·have h:=of_decide_eq_true h;unfold aR;rw [if_neg (by omega)];exact ⟨rfl,trivial⟩
 ·have h:=of_decide_eq_false h;have hf:af (0,n - 1,0,true)=0:=by simp [af,ac]; omega
  have hl:=dW a at_ n 0 n p1 p3 p2 (by omega);rw [if_pos hf];have hE:aR a at_ n=(dA a at_ n 0 n).set at_.toNat (a6 (0,n - 1,0,true)):=by unfold aR; rw [if_pos (by omega)]
  rw [hE];simp only [ak];exact ⟨by omega,trivial,trivial,by omega,by omega,by omega,trivial,trivial⟩
theorem Kp:J8.ok Tryz.prog 130:=aD (ann:=cp) (ae jJ (ae lC aq)) Tryz.func130 (by kernel_rfl) HL
def dm (a:List Int):List Int×Int:=if (au a).2.2≠0 then ([],(au a).2.2) else ((aU false [] (aa a).1).foldl (fun a r=>aR a r.1 r.2) a,0)
theorem iC {a:List Int} {at_ n:Int} (h:dy a at_ n):(aR a at_ n).length=a.length:=by
 obtain ⟨p1,p2,p3,p4⟩:=h;unfold aR;split
 ·rw [List.length_set];exact dW a at_ n 0 n p1 p3 p2 (by omega)
 ·rfl
def fo:Int→Int→List aC→Prop
 | s,e,[]=>s=e
 | s,e,x::r=>x.1=s∧1≤ac x.2∧fo (s+ac x.2) e r
theorem nQ (at_:Int) (l:List Int) (r:List aC) (h:spotsS at_ l=some r):fo at_ (at_+l.length) r:=by
 induction at_,l using spotsS.induct generalizing r with
 | case1 at_ =>
  simp only [spotsS,Option.some.injEq] at h;subst h;simp [fo]
 | case2 at_ v l hv ih =>
  rw [eI hv.1 hv.2] at h;obtain ⟨r',hr,rfl⟩:=Option.map_eq_some_iff.1 h;have hl:=eK hv.1;have h2:=ih r' hr;refine ⟨rfl,hl.1,?_⟩
  have e:at_+ac (aS v)+(((v::l).drop (ac (aS v)).toNat).length:Nat)=at_+((v::l).length:Nat):=by
   rw [List.length_drop];have:=hv.2;omega
  rw [e] at h2;exact h2
 | case3 at_ v l hv =>
  rw [eH hv] at h;cases h
theorem gF {a:List Int} (h:(aa a).2=0):fo 0 a.length (aa a).1:=by
 unfold aa at h ⊢;split at h
 ·simp at h
 rename_i cl;rw [if_neg cl];cases e:spotsS 0 a with
 | none=>rw [e] at h; simp at h
 | some l =>
  have:=nQ 0 a l e;rw [Int.zero_add] at this;exact this
def lM (n:Int) (l:List bW):Prop:=∀ r∈l,0≤r.1∧1≤r.2∧r.1+r.2≤n
theorem o8:∀ (l:List aC) (s e:Int) (p:Bool) (out:List bW),fo s e l→0≤s→lM s out→(p=true→0<out.length∧(out.getD (out.length - 1) (0,0)).1+(out.getD (out.length - 1) (0,0)).2=s)→lM e (aU p out l)∧s≤e
 | [],s,e,p,out,ht,h0,ho,_=>by
  have:s=e:=ht;subst this;exact ⟨ho,Int.le_refl _⟩
 | x::l,s,e,p,out,⟨h1,h2,h3⟩,h0,ho,hp=>by
  simp only [aU];have up:lM (s+ac x.2) out:=fun r hr=>by have:=ho r hr; omega
  cases hf:x.2.2.2.2
  ·have ih:=o8 l _ e false out h3 (by omega) up (fun h=>by cases h);simp only [Bool.false_eq_true,if_false];exact ⟨ih.1,by omega⟩
  ·simp only [if_true];cases p
   ·have ih:=o8 l _ e true (out++[(x.1,ac x.2)]) h3 (by omega) (fun r hr=>by
     rcases List.mem_append.1 hr with hr | hr
     ·exact up r hr
     ·simp only [List.mem_singleton] at hr;subst hr;simp only;omega) (fun _=>⟨by simp,by simp; omega⟩)
    simp only [Bool.false_eq_true,if_false];exact ⟨ih.1,by omega⟩
   ·obtain ⟨q1,q2⟩:=hp rfl;have hlast:=ho _ (aI ((0,0):bW) (xs:=out) (i:=(out.length:Int) - 1) (by omega) (by omega));rw [show ((out.length:Int) - 1).toNat=out.length - 1 by omega] at hlast
    have ih:=o8 l _ e true (fQ out (ac x.2)) h3 (by omega) (fun r hr=>by
     rcases List.mem_or_eq_of_mem_set hr with hr | rfl
     ·exact up r hr
     ·simp only
      omega) (fun _=>⟨by rw [dj]; exact q1,by
       rw [dj];unfold fQ;simp [show out.length - 1<out.length by omega];simp [show out.length - 1<out.length by omega] at q2;omega⟩)
    simp only [if_true];exact ⟨ih.1,by omega⟩
theorem o7:∀ (l:List aC) (p:Bool) (out:List bW),(aU p out l).length≤out.length+l.length
 | [],_,_=>by simp [aU]
 | x::l,p,out=>by
  have h1:=o7 l x.2.2.2.2 (if x.2.2.2.2=true then (if p=true then fQ out (ac x.2) else out++[(x.1,ac x.2)]) else out);simp only [aU,List.length_cons]
  have:(if x.2.2.2.2=true then (if p=true then fQ out (ac x.2) else out++[(x.1,ac x.2)]) else out).length≤out.length+1:=by
   split
   ·split
    ·rw [dj]; omega
    ·simp
   ·omega
  omega
theorem o6 {a:List Int} (h:(aa a).2=0):lM a.length (aU false [] (aa a).1)∧(aU false [] (aa a).1).length≤256:=by
 have h1:=o8 _ 0 a.length false [] (gF h) (Int.le_refl _) (fun r hr=>by cases hr) (fun h=>by cases h);have h2:=o7 (aa a).1 false [];have h3:=cD a;exact ⟨h1.1,by simp at h2; omega⟩
def EP:Nat→Option LoopGen
 | 6=>some { rd:=[.own 19 129 ft,.own 0 29 a8],A:=fun ((g,b):List bW×List Int)=>{ cs:=[.own 0 29 a8,.dat 21 ty_I],inv:=fun ((a,i):List Int×Int)=>0≤i∧i≤g.length∧g.length≤256∧a.length≤256∧lM a.length g∧a=(g.take i.toNat).foldl (fun a r=>aR a r.1 r.2) b,mu:=fun ((_,i):List Int×Int)=>(g.length - i).toNat } }
 | _=>none
def DL:Spec:={ Ts:=[.arr a8],Rs:=[.own 29 a8,.dat ty_I],pre:=fun _=>True,F:=dm }
def tu:Prop :=
  ∀ (x:List Int),(x.length * 8≤aA∧∀ (x_1:Int),x_1∈x→ak .u64 x_1)→True→True∧(decide ((aO x).2≠0)=true→([]:List Int)=(dm x).1∧(aO x).2=(dm x).2∧True)∧(decide ((aO x).2≠0)=false→True∧((aO x).1.length≤256∧∀ (s:aC),s∈(aO x).1→af s.2=0)∧((0:Int)≤0∧0≤(↑(aU false ([]:List bW) (aO x).1).length:Int)∧(aU false ([]:List bW) (aO x).1).length≤256∧x.length≤256∧lM (↑x.length:Int) (aU false ([]:List bW) (aO x).1)∧x=List.foldl (fun (a:List Int) (r:bW)=>aR a r.1 r.2) x (List.take (Int.toNat 0) (aU false ([]:List bW) (aO x).1)))∧∀ (x_1:List Int×Int),0≤x_1.2∧x_1.2≤(↑(aU false ([]:List bW) (aO x).1).length:Int)∧(aU false ([]:List bW) (aO x).1).length≤256∧x_1.1.length≤256∧lM (↑x_1.1.length:Int) (aU false ([]:List bW) (aO x).1)∧x_1.1=List.foldl (fun (a:List Int) (r:bW)=>aR a r.1 r.2) x (List.take x_1.2.toNat (aU false ([]:List bW) (aO x).1))→(decide (x_1.2<(↑(aU false ([]:List bW) (aO x).1).length:Int))=true→0≤x_1.2∧x_1.2<(↑(aU false ([]:List bW) (aO x).1).length:Int)∧x_1.2.toNat<(aU false ([]:List bW) (aO x).1).length∧(dy x_1.1 ((aU false ([]:List bW) (aO x).1).getD x_1.2.toNat (0,0)).1 ((aU false ([]:List bW) (aO x).1).getD x_1.2.toNat (0,0)).2∧1≤((aU false ([]:List bW) (aO x).1).getD x_1.2.toNat (0,0)).2)∧ak .i64 (x_1.2+1)∧(0≤x_1.2+1∧x_1.2+1≤(↑(aU false ([]:List bW) (aO x).1).length:Int)∧(aU false ([]:List bW) (aO x).1).length≤256∧(aR x_1.1 ((aU false ([]:List bW) (aO x).1).getD x_1.2.toNat (0,0)).1 ((aU false ([]:List bW) (aO x).1).getD x_1.2.toNat (0,0)).2).length≤256∧lM (↑(aR x_1.1 ((aU false ([]:List bW) (aO x).1).getD x_1.2.toNat (0,0)).1 ((aU false ([]:List bW) (aO x).1).getD x_1.2.toNat (0,0)).2).length:Int) (aU false ([]:List bW) (aO x).1)∧aR x_1.1 ((aU false ([]:List bW) (aO x).1).getD x_1.2.toNat (0,0)).1 ((aU false ([]:List bW) (aO x).1).getD x_1.2.toNat (0,0)).2=List.foldl (fun (a:List Int) (r:bW)=>aR a r.1 r.2) x (List.take (x_1.2+1).toNat (aU false ([]:List bW) (aO x).1)))∧((↑(aU false ([]:List bW) (aO x).1).length:Int) - (x_1.2+1)).toNat<((↑(aU false ([]:List bW) (aO x).1).length:Int) - x_1.2).toNat)∧(decide (x_1.2<(↑(aU false ([]:List bW) (aO x).1).length:Int))=false→x_1.1=(dm x).1∧0=(dm x).2∧True))
theorem Ao:tu:=by
 unfold tu;intro a _ _;have h:=b7 (a:=a);have hlen:=cD a;unfold aO dm;refine ⟨trivial,fun hc=>?_,fun hc=>?_⟩
 ·have hc:(au a).2.2≠0:=by
   intro e;rw [if_neg (by omega)] at hc;simp at hc
  rw [if_pos hc,if_pos hc];exact ⟨rfl,rfl,trivial⟩
 ·have hc:(au a).2.2=0:=by
   apply Classical.byContradiction;intro e;rw [if_pos e] at hc;simp [e] at hc
  obtain ⟨hal,_,h3,h4,_,_,h5⟩:=h hc;rw [if_neg (by omega),if_neg (by omega)];rw [h3] at h5;obtain ⟨g1,g2⟩:=o6 h4;simp only;generalize aU false [] (aa a).1=g at *;refine ⟨trivial,⟨hlen,fun s hs=>(h5 s hs).2⟩,⟨by omega,by omega,g2,hal,g1,rfl⟩,fun ⟨b,i⟩ ⟨q0,q1,_,q2,q3,q4⟩=>⟨fun hlt=>?_,fun hge=>?_⟩⟩
  ·have hlt:i<(g.length:Int):=of_decide_eq_true hlt;simp only at q0 q1 q2 q3 q4 ⊢;have e:=bt ((0,0):bW) q0 hlt;have hr:=q3 _ (aI ((0,0):bW) q0 hlt);rw [e,List.foldl_append,← q4];generalize g.getD i.toNat (0,0)=r at *;have hp:dy b r.1 r.2:=⟨hr.1,by omega,hr.2.2,q2⟩;rw [iC hp];simp only [ak];exact ⟨q0,hlt,by omega,⟨hp,hr.2.1⟩,by omega,⟨by omega,by omega,g2,q2,q3,rfl⟩,by omega⟩
  ·have hge:¬ i<(g.length:Int):=of_decide_eq_false hge;simp only at q4;rw [bN hge] at q4;exact ⟨q4,trivial,trivial⟩
theorem D7:DL.ok Tryz.prog 96:=aD (ann:=EP) (ae lE (ae bX (ae tO (ae Kq aq)))) Tryz.func96 (by kernel_rfl) Ao
def bw (l:List aC) (at_:Int) (fr:Bool):aC×Bool :=
 if ai (fun s:aC=>decide (s.1=at_)&&s.2.2.2.2 == fr) 0 l<0 then ((0,0,0,0,false),false) else (l.getD (ai (fun s:aC=>decide (s.1=at_)&&s.2.2.2.2 == fr) 0 l).toNat (0,0,0,0,false),true)
def Ih:Spec:={ Ts:=[cg,.ref ty_I,.ref .bool],Rs:=[.dat .bool],pre:=fun _=>True,F:=fun ((s,at_,fr):aC×Int×Bool)=>decide (s.1=at_)&&s.2.2.2.2 == fr }
def Bv:Prop :=
  ∀ (x:(Int×Int×Int×Int×Bool)×Int×Bool),(ak .i64 x.1.1∧ak .i64 x.1.2.1∧ak .i64 x.1.2.2.1∧ak .i64 x.1.2.2.2.1∧True)∧ak .i64 x.2.1∧True→True→(decide (x.1.1=x.2.1)&&x.1.2.2.2.2 == x.2.2)=(decide (x.1.1=x.2.1)&&x.1.2.2.2.2 == x.2.2)∧True
theorem FX:Bv:=by
 unfold Bv;intro ⟨s,at_,fr⟩ _ _;simp
theorem IS:Ih.ok Tryz.prog 154:=aD (ann:=cp) aq Tryz.func154 (by kernel_rfl) FX
def DN:Spec:={ Ts:=[.arr cg,ty_I,.bool],Rs:=[.dat cg,.dat .bool],pre:=fun _=>True,F:=fun ((l,at_,fr):List aC×Int×Bool)=>bw l at_ fr }
def tw:Prop :=
  ∀ (x:List (Int×Int×Int×Int×Bool)×Int×Bool),(x.1.length * (8+(8+(8+(8+8))))≤aA∧∀ (x_1:Int×Int×Int×Int×Bool),x_1∈x.1→ak .i64 x_1.1∧ak .i64 x_1.2.1∧ak .i64 x_1.2.2.1∧ak .i64 x_1.2.2.2.1∧True)∧ak .i64 x.2.1∧True→True→(∀ (s:aC),s∈x.1→(fun (_:Int×Int×Int×Int×Bool)=>True,fun (x_1:Int×Int×Int×Int×Bool)=>decide (x_1.1=x.2.1)&&x_1.2.2.2.2 == x.2.2).1 s)∧(decide (ai (fun (x_1:Int×Int×Int×Int×Bool)=>decide (x_1.1=x.2.1)&&x_1.2.2.2.2 == x.2.2) 0 x.1<0)=true→(0,0,0,0,false)=(bw x.1 x.2.1 x.2.2).1∧false=(bw x.1 x.2.1 x.2.2).2∧True)∧(decide (ai (fun (x_1:Int×Int×Int×Int×Bool)=>decide (x_1.1=x.2.1)&&x_1.2.2.2.2 == x.2.2) 0 x.1<0)=false→0≤ai (fun (x_1:Int×Int×Int×Int×Bool)=>decide (x_1.1=x.2.1)&&x_1.2.2.2.2 == x.2.2) 0 x.1∧ai (fun (x_1:Int×Int×Int×Int×Bool)=>decide (x_1.1=x.2.1)&&x_1.2.2.2.2 == x.2.2) 0 x.1<(↑x.1.length:Int)∧x.1.getD (ai (fun (x_1:Int×Int×Int×Int×Bool)=>decide (x_1.1=x.2.1)&&x_1.2.2.2.2 == x.2.2) 0 x.1).toNat (0,0,0,0,false)=(bw x.1 x.2.1 x.2.2).1∧true=(bw x.1 x.2.1 x.2.2).2∧True)
theorem Aq:tw:=by
 unfold tw;intro ⟨l,at_,fr⟩ _ _;simp only;have hlt:=dq (fun s:aC=>decide (s.1=at_)&&s.2.2.2.2 == fr) (0,0,0,0,false) l 0 (by omega);unfold bw;refine ⟨fun _ _=>trivial,fun h=>?_,fun h=>?_⟩
 ·rw [if_pos (of_decide_eq_true h)];exact ⟨rfl,rfl,trivial⟩
 ·rw [if_neg (of_decide_eq_false h)];have h1:0≤ai (fun s:aC=>decide (s.1=at_)&&s.2.2.2.2 == fr) 0 l:=Int.not_lt.1 (of_decide_eq_false h);have h2:ai (fun s:aC=>decide (s.1=at_)&&s.2.2.2.2 == fr) 0 l<(l.length:Int):=by omega
  exact ⟨h1,h2,rfl,rfl,trivial⟩
theorem D8:DN.ok Tryz.prog 132:=aD (ann:=cp) (ae nt (ae IS aq)) Tryz.func132 (by kernel_rfl) Aq
theorem uk (l:List aC) (at_:Int) (fr:Bool) (h:(bw l at_ fr).2=true):(bw l at_ fr).1∈l∧(bw l at_ fr).1.1=at_∧(bw l at_ fr).1.2.2.2.2=fr:=by
 have hlt:=dq (fun s:aC=>decide (s.1=at_)&&s.2.2.2.2 == fr) (0,0,0,0,false) l 0 (by omega);have his:=gE (fun s:aC=>decide (s.1=at_)&&s.2.2.2.2 == fr) (0,0,0,0,false) l 0;unfold bw at h ⊢;split at h
 ·cases h
 ·rename_i hn;rw [if_neg hn];have his:=his (by omega) (by omega);rw [Int.sub_zero] at his;simp only [Bool.and_eq_true,decide_eq_true_eq,beq_iff_eq] at his;exact ⟨aI _ (by omega) (by omega),his.1,his.2⟩
theorem zm {a:List Int}:(aO a).2=(au a).2.2:=by
 unfold aO;split
 ·rfl
 ·simp only; omega
theorem xq {a:List Int} (h:(au a).2.2=0):(aO a).1=(aa a).1∧a.length≤256∧∀ s∈(aa a).1,ck a s∧af s.2=0:=by
 obtain ⟨h1,_,h3,_,_,_,h5⟩:=b7 h;rw [h3] at h5;unfold aO;rw [if_neg (by omega)];exact ⟨rfl,h1,h5⟩
def ek (a:List Int) (at_:Int) (h:du):List Int×Int :=
 if af h≠0 then ([],af h) else if h.2.2.2=true then ([],3) else if (au a).2.2≠0 then ([],(au a).2.2)
 else if (bw (aa a).1 at_ true).2=false then ([],5) else if ac (bw (aa a).1 at_ true).1.2<ac h then ([],7)
 else (aR ((dA a at_ (ac (bw (aa a).1 at_ true).1.2) 0 (ac (bw (aa a).1 at_ true).1.2)).set at_.toNat (a6 h)) (at_+ac h) (ac (bw (aa a).1 at_ true).1.2 - ac h),0)
def DJ:Spec:={ Ts:=[.arr a8,ty_I,de],Rs:=[.dat (.arr a8),.dat ty_I],al:=true,pre:=fun _=>True,F:=fun ((a,at_,h):List Int×Int×du)=>ek a at_ h }
def tr:Prop :=
  ∀ (x:List Int×Int×Int×Int×Int×Bool),(x.1.length * 8≤aA∧∀ (x_1:Int),x_1∈x.1→ak .u64 x_1)∧ak .i64 x.2.1∧ak .i64 x.2.2.1∧ak .i64 x.2.2.2.1∧ak .i64 x.2.2.2.2.1∧True→True→True∧(decide (af x.2.2≠0)=true→([]:List Int)=(ek x.1 x.2.1 x.2.2).1∧af x.2.2=(ek x.1 x.2.1 x.2.2).2∧True)∧(decide (af x.2.2≠0)=false→(x.2.2.2.2.2=true→([]:List Int)=(ek x.1 x.2.1 x.2.2).1∧3=(ek x.1 x.2.1 x.2.2).2∧True)∧(x.2.2.2.2.2=false→True∧(decide ((aO x.1).2≠0)=true→([]:List Int)=(ek x.1 x.2.1 x.2.2).1∧(aO x.1).2=(ek x.1 x.2.1 x.2.2).2∧True)∧(decide ((aO x.1).2≠0)=false→True∧((!(bw (aO x.1).1 x.2.1 true).2)=true→([]:List Int)=(ek x.1 x.2.1 x.2.2).1∧5=(ek x.1 x.2.1 x.2.2).2∧True)∧((!(bw (aO x.1).1 x.2.1 true).2)=false→True∧True∧(decide ((if af (bw (aO x.1).1 x.2.1 true).1.2=0 then ac (bw (aO x.1).1 x.2.1 true).1.2 else (0:Int))<if af x.2.2=0 then ac x.2.2 else (0:Int))=true→([]:List Int)=(ek x.1 x.2.1 x.2.2).1∧7=(ek x.1 x.2.1 x.2.2).2∧True)∧(decide ((if af (bw (aO x.1).1 x.2.1 true).1.2=0 then ac (bw (aO x.1).1 x.2.1 true).1.2 else (0:Int))<if af x.2.2=0 then ac x.2.2 else (0:Int))=false→True∧True∧0≤x.2.1∧x.2.1<(↑(gT x.1 x.2.1 (if af (bw (aO x.1).1 x.2.1 true).1.2=0 then ac (bw (aO x.1).1 x.2.1 true).1.2 else (0:Int)) 0).1.length:Int)∧x.2.1.toNat<(gT x.1 x.2.1 (if af (bw (aO x.1).1 x.2.1 true).1.2=0 then ac (bw (aO x.1).1 x.2.1 true).1.2 else (0:Int)) 0).1.length∧True∧ak .i64 (x.2.1+if af x.2.2=0 then ac x.2.2 else (0:Int))∧True∧True∧ak .i64 ((if af (bw (aO x.1).1 x.2.1 true).1.2=0 then ac (bw (aO x.1).1 x.2.1 true).1.2 else (0:Int)) - if af x.2.2=0 then ac x.2.2 else (0:Int))∧dy ((gT x.1 x.2.1 (if af (bw (aO x.1).1 x.2.1 true).1.2=0 then ac (bw (aO x.1).1 x.2.1 true).1.2 else (0:Int)) 0).1.set x.2.1.toNat (if af x.2.2=0 then a6 x.2.2 else (0:Int))) (x.2.1+if af x.2.2=0 then ac x.2.2 else (0:Int)) ((if af (bw (aO x.1).1 x.2.1 true).1.2=0 then ac (bw (aO x.1).1 x.2.1 true).1.2 else (0:Int)) - if af x.2.2=0 then ac x.2.2 else (0:Int))∧aR ((gT x.1 x.2.1 (if af (bw (aO x.1).1 x.2.1 true).1.2=0 then ac (bw (aO x.1).1 x.2.1 true).1.2 else (0:Int)) 0).1.set x.2.1.toNat (if af x.2.2=0 then a6 x.2.2 else (0:Int))) (x.2.1+if af x.2.2=0 then ac x.2.2 else (0:Int)) ((if af (bw (aO x.1).1 x.2.1 true).1.2=0 then ac (bw (aO x.1).1 x.2.1 true).1.2 else (0:Int)) - if af x.2.2=0 then ac x.2.2 else (0:Int))=(ek x.1 x.2.1 x.2.2).1∧0=(ek x.1 x.2.1 x.2.2).2∧True)))))
theorem Am:tr:=by
 unfold tr;intro ⟨a,at_,h⟩ _ _
 have hF:ek a at_ h=if af h≠0 then ([],af h) else if h.2.2.2=true then ([],3) else if (au a).2.2≠0 then ([],(au a).2.2)
  else if (bw (aa a).1 at_ true).2=false then ([],5) else if ac (bw (aa a).1 at_ true).1.2<ac h then ([],7)
  else (aR ((dA a at_ (ac (bw (aa a).1 at_ true).1.2) 0 (ac (bw (aa a).1 at_ true).1.2)).set at_.toNat (a6 h)) (at_+ac h) (ac (bw (aa a).1 at_ true).1.2 - ac h),0):=rfl
 simp only;rw [zm];refine ⟨trivial,fun hc=>?_,fun hc=>⟨fun h2=>?_,fun h2=>⟨trivial,fun h3=>?_,fun h3=>?_⟩⟩⟩
 ·have hc:af h≠0:=by simpa using hc
  rw [hF,if_pos hc];exact ⟨rfl,rfl,trivial⟩
 ·have hc:af h=0:=by simpa using hc
  rw [hF,if_neg (by omega),if_pos h2];exact ⟨rfl,rfl,trivial⟩
 ·have hc:af h=0:=by simpa using hc
  have h3:(au a).2.2≠0:=by simpa using h3
  rw [hF,if_neg (by omega),if_neg (by rw [h2]; simp),if_pos h3];exact ⟨rfl,rfl,trivial⟩
 have hc:af h=0:=by simpa using hc
 have h3:(au a).2.2=0:=by simpa using h3
 obtain ⟨e1,hal,hsp⟩:=xq h3;have hfi:=uk (aa a).1 at_ true;rw [if_neg (by omega),if_neg (by rw [h2]; simp),if_neg (by omega)] at hF;rw [e1,hF];refine ⟨trivial,fun h4=>?_,fun h4=>⟨trivial,trivial,fun h5=>?_,fun h5=>?_⟩⟩
 ·have h4:(bw (aa a).1 at_ true).2=false:=by simpa using h4
  rw [if_pos h4];exact ⟨rfl,rfl,trivial⟩
 ·have h4:(bw (aa a).1 at_ true).2=true:=by simpa using h4
  obtain ⟨q1,q2,q3⟩:=hfi h4;have hh:=(hsp _ q1).2;rw [if_pos hh,if_pos hc] at h5;have hn4:¬ (bw (aa a).1 at_ true).2=false:=by rw [h4]; simp
  rw [if_neg hn4,if_pos (of_decide_eq_true h5)];exact ⟨rfl,rfl,trivial⟩
 ·have h4:(bw (aa a).1 at_ true).2=true:=by simpa using h4
  obtain ⟨q1,q2,q3⟩:=hfi h4;obtain ⟨hin,hh⟩:=hsp _ q1;rw [if_pos hh,if_pos hc] at h5;have h5:=of_decide_eq_false h5;have hn4:¬ (bw (aa a).1 at_ true).2=false:=by rw [h4]; simp
  rw [if_neg hn4,if_neg h5];have hz:=bj hc;have hn:ac h=1+h.1+h.2.1:=rfl;have hL:ac (bw (aa a).1 at_ true).1.2=1+(bw (aa a).1 at_ true).1.2.1+(bw (aa a).1 at_ true).1.2.2.1:=rfl;unfold ck at hin;rw [if_pos hh,if_pos hc,if_pos hc];rw [q2] at hin;generalize ac (bw (aa a).1 at_ true).1.2=L at *;have hp:dy a at_ L:=⟨by omega,by omega,by omega,hal⟩;have hl:=dW a at_ L 0 L (by omega) (by omega) (by omega) (by omega);rw [um hp];simp only [ak];exact ⟨trivial,trivial,by omega,by omega,by omega,trivial,by omega,trivial,trivial,by omega,⟨by omega,by omega,by rw [List.length_set]; omega,by rw [List.length_set]; omega⟩,trivial,trivial,trivial⟩
theorem D6:DJ.ok Tryz.prog 97:=aD (ann:=cp) (ae jJ (ae lE (ae D8 (ae tN (ae lC (ae Kp aq)))))) Tryz.func97 (by kernel_rfl) Am
end
section
open Go
set_option maxRecDepth 100000
set_option maxHeartbeats 1000000
def bi (f:Int→Bool):Nat→Int→List bW→List bW
 | 0,_,out=>out
 | m+1,k,out=>bi f m (k+1) (if f k=true then (if (decide (0<k)&&f (k - 1))=true then fQ out 1 else out++[(k,1)]) else out)
def JO:Nat→Option LoopGen
 | 3=>some { rd:=[.dat 7 ty_I,.dat 1 (.fn ty_I .bool)],A:=fun ((n,g):Int×(Int→Prop)×(Int→Bool))=>{ cs:=[.own 5 129 ft,.dat 8 ty_I],inv:=fun ((out,k):List bW×Int)=>0≤k∧k≤n∧n≤300∧(∀ i,0≤i→i<n→g.1 i)∧out.length≤k∧((decide (0<k)&&g.2 (k - 1))=true→0<out.length)∧(∀ r∈out,0≤r.2∧r.2≤k)∧bi g.2 (n - k).toNat k out=bi g.2 n.toNat 0 [],mu:=fun ((_,k):List bW×Int)=>(n - k).toNat } }
 | _=>none
def H8:Spec:={ Ts:=[ty_I,.fn ty_I .bool],Rs:=[.own 129 ft],pre:=fun ((n,g):Int×(Int→Prop)×(Int→Bool))=>0≤n∧n≤300∧∀ i,0≤i→i<n→g.1 i,F:=fun ((n,g):Int×(Int→Prop)×(Int→Bool))=>bi g.2 n.toNat 0 [] }
def Bn:Prop :=
  ∀ (x:Int×(Int→Prop)×(Int→Bool)),ak .i64 x.1∧True→(0≤x.1∧x.1≤300∧∀ (i:Int),0≤i→i<x.1→x.2.1 i)→((0:Int)≤0∧0≤x.1∧x.1≤300∧(∀ (i:Int),0≤i→i<x.1→x.2.1 i)∧(↑(0:Nat):Int)≤0∧((decide ((0:Int)<0)&&x.2.2 (0 - 1))=true→(0:Nat)<0)∧(∀ (r:bW),r∈([]:List (Int×Int))→0≤r.2∧r.2≤0)∧bi x.2.2 (x.1 - 0).toNat 0 ([]:List (Int×Int))=bi x.2.2 x.1.toNat 0 ([]:List bW))∧∀ (x_1:List (Int×Int)×Int),0≤x_1.2∧x_1.2≤x.1∧x.1≤300∧(∀ (i:Int),0≤i→i<x.1→x.2.1 i)∧(↑x_1.1.length:Int)≤x_1.2∧((decide (0<x_1.2)&&x.2.2 (x_1.2 - 1))=true→0<x_1.1.length)∧(∀ (r:bW),r∈x_1.1→0≤r.2∧r.2≤x_1.2)∧bi x.2.2 (x.1 - x_1.2).toNat x_1.2 x_1.1=bi x.2.2 x.1.toNat 0 ([]:List bW)→(decide (x_1.2<x.1)=true→x.2.1 x_1.2∧((!x.2.2 x_1.2)=true→ak .i64 (x_1.2+1)∧(0≤x_1.2+1∧x_1.2+1≤x.1∧x.1≤300∧(∀ (i:Int),0≤i→i<x.1→x.2.1 i)∧(↑x_1.1.length:Int)≤x_1.2+1∧((decide (0<x_1.2+1)&&x.2.2 (x_1.2+1 - 1))=true→0<x_1.1.length)∧(∀ (r:bW),r∈x_1.1→0≤r.2∧r.2≤x_1.2+1)∧bi x.2.2 (x.1 - (x_1.2+1)).toNat (x_1.2+1) x_1.1=bi x.2.2 x.1.toNat 0 ([]:List bW))∧(x.1 - (x_1.2+1)).toNat<(x.1 - x_1.2).toNat)∧((!x.2.2 x_1.2)=false→(decide (0<x_1.2)=true→ak .i64 (x_1.2 - 1))∧(decide (0<x_1.2)=true→x.2.1 (x_1.2 - 1))∧((decide (0<x_1.2)&&x.2.2 (x_1.2 - 1))=true→ak .i64 ((↑x_1.1.length:Int) - 1)∧0≤(↑x_1.1.length:Int) - 1∧(↑x_1.1.length:Int) - 1<(↑x_1.1.length:Int)∧((↑x_1.1.length:Int) - 1).toNat<x_1.1.length∧ak .i64 ((x_1.1.getD ((↑x_1.1.length:Int) - 1).toNat (0,0)).2+1)∧0≤(↑x_1.1.length:Int) - 1∧(↑x_1.1.length:Int) - 1<(↑x_1.1.length:Int)∧((↑x_1.1.length:Int) - 1).toNat<x_1.1.length∧ak .i64 (x_1.2+1)∧(0≤x_1.2+1∧x_1.2+1≤x.1∧x.1≤300∧(∀ (i:Int),0≤i→i<x.1→x.2.1 i)∧(↑(x_1.1.set ((↑x_1.1.length:Int) - 1).toNat ((x_1.1.getD ((↑x_1.1.length:Int) - 1).toNat (0,0)).1,(x_1.1.getD ((↑x_1.1.length:Int) - 1).toNat (0,0)).2+1)).length:Int)≤x_1.2+1∧((decide (0<x_1.2+1)&&x.2.2 (x_1.2+1 - 1))=true→0<(x_1.1.set ((↑x_1.1.length:Int) - 1).toNat ((x_1.1.getD ((↑x_1.1.length:Int) - 1).toNat (0,0)).1,(x_1.1.getD ((↑x_1.1.length:Int) - 1).toNat (0,0)).2+1)).length)∧(∀ (r:bW),r∈x_1.1.set ((↑x_1.1.length:Int) - 1).toNat ((x_1.1.getD ((↑x_1.1.length:Int) - 1).toNat (0,0)).1,(x_1.1.getD ((↑x_1.1.length:Int) - 1).toNat (0,0)).2+1)→0≤r.2∧r.2≤x_1.2+1)∧bi x.2.2 (x.1 - (x_1.2+1)).toNat (x_1.2+1) (x_1.1.set ((↑x_1.1.length:Int) - 1).toNat ((x_1.1.getD ((↑x_1.1.length:Int) - 1).toNat (0,0)).1,(x_1.1.getD ((↑x_1.1.length:Int) - 1).toNat (0,0)).2+1))=bi x.2.2 x.1.toNat 0 ([]:List bW))∧(x.1 - (x_1.2+1)).toNat<(x.1 - x_1.2).toNat)∧((decide (0<x_1.2)&&x.2.2 (x_1.2 - 1))=false→(x_1.1.length+[(x_1.2,1)].length) * (8+8)≤aA∧ak .i64 (x_1.2+1)∧(0≤x_1.2+1∧x_1.2+1≤x.1∧x.1≤300∧(∀ (i:Int),0≤i→i<x.1→x.2.1 i)∧(↑(x_1.1++[(x_1.2,1)]).length:Int)≤x_1.2+1∧((decide (0<x_1.2+1)&&x.2.2 (x_1.2+1 - 1))=true→0<(x_1.1++[(x_1.2,1)]).length)∧(∀ (r:bW),r∈x_1.1++[(x_1.2,1)]→0≤r.2∧r.2≤x_1.2+1)∧bi x.2.2 (x.1 - (x_1.2+1)).toNat (x_1.2+1) (x_1.1++[(x_1.2,1)])=bi x.2.2 x.1.toNat 0 ([]:List bW))∧(x.1 - (x_1.2+1)).toNat<(x.1 - x_1.2).toNat)))∧(decide (x_1.2<x.1)=false→x_1.1=bi x.2.2 x.1.toNat 0 ([]:List bW)∧True)
theorem FP:Bn:=by
 unfold Bn;intro ⟨n,g⟩ _ ⟨h1,h2,h3⟩;refine ⟨⟨by omega,h1,h2,h3,by simp,by simp,by simp,by simp⟩,fun ⟨out,k⟩ ⟨k0,k1,_,_,q1,q2,q3,q4⟩=>⟨fun hlt=>?_,fun hge=>?_⟩⟩
 ·have hlt:k<n:=of_decide_eq_true hlt;simp only at h1 h2 h3 k0 k1 q1 q2 q3 q4 hlt ⊢;rw [show (n - k).toNat=(n - (k+1)).toNat+1 by omega] at q4;simp only [bi] at q4
  have hp:(decide (0<k+1)&&g.2 (k+1 - 1))=g.2 k:=by
   rw [show k+1 - 1=k by omega];simp;omega
  rw [hp];simp only [ak];refine ⟨h3 k k0 hlt,fun hc=>?_,fun hc=>⟨fun hk=>by have:=of_decide_eq_true hk; omega,fun hk=>h3 _ (by have:=of_decide_eq_true hk; omega) (by omega),fun hk=>?_,fun hk=>?_⟩⟩
  ·have hc:g.2 k=false:=by simpa using hc
   rw [hc] at q4 ⊢;simp only [Bool.false_eq_true,if_false] at q4;exact ⟨by omega,⟨by omega,by omega,h2,h3,by omega,fun h=>by simp at h,fun r hr=>by have:=q3 r hr; omega,q4⟩,by omega⟩
  ·have hc:g.2 k=true:=by simpa using hc
   rw [if_pos hc,if_pos hk] at q4;have hlen:=q2 hk;have hlast:=q3 _ (aI ((0,0):bW) (xs:=out) (i:=(out.length:Int) - 1) (by omega) (by omega));have e:((out.length:Int) - 1).toNat=out.length - 1:=by omega
   rw [e] at hlast ⊢;have hbump:out.set (out.length - 1) ((out.getD (out.length - 1) (0,0)).1,(out.getD (out.length - 1) (0,0)).2+1)=fQ out 1:=rfl;rw [hbump];rw [dj];refine ⟨by omega,by omega,by omega,by omega,by omega,by omega,by omega,by omega,by omega,⟨by omega,by omega,h2,h3,by omega,fun _=>hlen,fun r hr=>?_,q4⟩,by omega⟩;rcases List.mem_or_eq_of_mem_set hr with hr | rfl
   ·have:=q3 r hr; omega
   ·simp only; omega
  ·have hc:g.2 k=true:=by simpa using hc
   rw [if_pos hc,if_neg (by rw [hk]; simp)] at q4;unfold aA;simp only [List.length_append,List.length_cons,List.length_nil];refine ⟨by omega,by omega,⟨by omega,by omega,h2,h3,by omega,fun _=>by omega,fun r hr=>?_,q4⟩,by omega⟩;rcases List.mem_append.1 hr with hr | hr
   ·have:=q3 r hr; omega
   ·simp only [List.mem_singleton] at hr;subst hr;simp only;omega
 ·have hge:¬ k<n:=of_decide_eq_false hge;simp only at q4 k1;rw [show (n - k).toNat=0 by omega] at q4;exact ⟨q4,trivial⟩
theorem BH:H8.ok Tryz.prog 115:=aD (ann:=JO) aq Tryz.func115 (by kernel_rfl) FP
def Ia:Spec:={ Ts:=[ty_I,.ref (.arr .bool)],Rs:=[.dat .bool],pre:=fun ((k,fr):Int×List Bool)=>0≤k∧k<fr.length,F:=fun ((k,fr):Int×List Bool)=>fr.getD k.toNat false }
def Bp:Prop :=
  ∀ (x:Int×List Bool),(ak .i64 x.1∧x.2.length * 8≤aA∧∀ (x_1:Bool),x_1∈x.2→True)→0≤x.1∧x.1<(↑x.2.length:Int)→0≤x.1∧x.1<(↑x.2.length:Int)∧x.2.getD x.1.toNat false=x.2.getD x.1.toNat false∧True
theorem FR:Bp:=by
 unfold Bp;intro ⟨k,fr⟩ _ ⟨h1,h2⟩;exact ⟨h1,h2,rfl,trivial⟩
theorem IO:Ia.ok Tryz.prog 116:=aD (ann:=cp) aq Tryz.func116 (by kernel_rfl) FR
def gj (fr:List Bool) (at_:Nat) (b:Bool):Nat→List Bool
 | 0=>fr
 | n+1=>(gj fr at_ b n).set (at_+n) b
def fS:List Bool→List aC→List Bool
 | fr,[]=>fr
 | fr,s::l=>fS (gj fr s.1.toNat s.2.2.2.2 (ac s.2).toNat) l
theorem fW (fr:List Bool) (at_:Nat) (b:Bool):∀ n,(gj fr at_ b n).length=fr.length
 | 0=>rfl
 | n+1=>by simp [gj,fW fr at_ b n]
def aM (a:List Int):List bW:=bi (fun k=>(fS (List.replicate (a.length+1) false) (aa a).1).getD k.toNat false) a.length 0 []
def EJ:Nat→Option LoopGen
 | 4=>some { rd:=[.own 18 124 cg,.dat 0 (.arr a8)],A:=fun ((l,a):List aC×List Int)=>{ cs:=[.boxS 5 [.own 4 .bool],.dat 20 ty_I],inv:=fun ((fr,i):List Bool×Int)=>0≤i∧i≤l.length∧l.length≤256∧a.length≤256∧(∀ s∈l,ck a s)∧fr.length=a.length+1∧fS fr (l.drop i.toNat)=fS (List.replicate (a.length+1) false) l,mu:=fun ((_,i):List Bool×Int)=>(l.length - i).toNat } }
 | 7=>some { rd:=[.box 7 cg,.dat 26 ty_I,.dat 0 (.arr a8),.boxS 5 [.own 4 .bool]],A:=fun ((s,n,a,fr0):aC×Int×List Int×List Bool)=>{ cs:=[.boxS 5 [.own 4 .bool],.dat 27 ty_I],inv:=fun ((fr,k):List Bool×Int)=>0≤k∧k≤n∧n=ac s.2∧a.length≤256∧ck a s∧fr0.length=a.length+1∧fr=gj fr0 s.1.toNat s.2.2.2.2 k.toNat,mu:=fun ((_,k):List Bool×Int)=>(n - k).toNat } }
 | _=>none
def DB:Spec:={ Ts:=[.arr a8],Rs:=[.own 129 ft],pre:=fun (a:List Int)=>a.length≤256,F:=aM }
def tg:Prop :=
  ∀ (x:List Int),(x.length * 8≤aA∧∀ (x_1:Int),x_1∈x→ak .u64 x_1)→x.length≤256→True∧ak .i64 ((↑x.length:Int)+1)∧0≤(↑x.length:Int)+1∧((↑x.length:Int)+1).toNat * 8≤aA∧((0:Int)≤0∧0≤(↑(aa x).1.length:Int)∧(aa x).1.length≤256∧x.length≤256∧(∀ (s:aC),s∈(aa x).1→ck x s)∧(List.replicate ((↑x.length:Int)+1).toNat false).length=x.length+1∧fS (List.replicate ((↑x.length:Int)+1).toNat false) (List.drop (Int.toNat 0) (aa x).1)=fS (List.replicate (x.length+1) false) (aa x).1)∧∀ (x_1:List Bool×Int),0≤x_1.2∧x_1.2≤(↑(aa x).1.length:Int)∧(aa x).1.length≤256∧x.length≤256∧(∀ (s:aC),s∈(aa x).1→ck x s)∧x_1.1.length=x.length+1∧fS x_1.1 (List.drop x_1.2.toNat (aa x).1)=fS (List.replicate (x.length+1) false) (aa x).1→(decide (x_1.2<(↑(aa x).1.length:Int))=true→0≤x_1.2∧x_1.2<(↑(aa x).1.length:Int)∧x_1.2.toNat<(aa x).1.length∧(ak .i64 (1+((aa x).1.getD x_1.2.toNat (0,0,0,0,false)).2.1)∧ak .i64 (1+((aa x).1.getD x_1.2.toNat (0,0,0,0,false)).2.1+((aa x).1.getD x_1.2.toNat (0,0,0,0,false)).2.2.1))∧((0:Int)≤0∧0≤ac ((aa x).1.getD x_1.2.toNat (0,0,0,0,false)).2∧ac ((aa x).1.getD x_1.2.toNat (0,0,0,0,false)).2=ac ((aa x).1.getD x_1.2.toNat (0,0,0,0,false)).2∧x.length≤256∧ck x ((aa x).1.getD x_1.2.toNat (0,0,0,0,false))∧x_1.1.length=x.length+1∧x_1.1=gj x_1.1 ((aa x).1.getD x_1.2.toNat (0,0,0,0,false)).1.toNat ((aa x).1.getD x_1.2.toNat (0,0,0,0,false)).2.2.2.2 (Int.toNat 0))∧∀ (x_2:List Bool×Int),0≤x_2.2∧x_2.2≤ac ((aa x).1.getD x_1.2.toNat (0,0,0,0,false)).2∧ac ((aa x).1.getD x_1.2.toNat (0,0,0,0,false)).2=ac ((aa x).1.getD x_1.2.toNat (0,0,0,0,false)).2∧x.length≤256∧ck x ((aa x).1.getD x_1.2.toNat (0,0,0,0,false))∧x_1.1.length=x.length+1∧x_2.1=gj x_1.1 ((aa x).1.getD x_1.2.toNat (0,0,0,0,false)).1.toNat ((aa x).1.getD x_1.2.toNat (0,0,0,0,false)).2.2.2.2 x_2.2.toNat→(decide (x_2.2<ac ((aa x).1.getD x_1.2.toNat (0,0,0,0,false)).2)=true→ak .i64 (((aa x).1.getD x_1.2.toNat (0,0,0,0,false)).1+x_2.2)∧0≤((aa x).1.getD x_1.2.toNat (0,0,0,0,false)).1+x_2.2∧((aa x).1.getD x_1.2.toNat (0,0,0,0,false)).1+x_2.2<(↑x_2.1.length:Int)∧(((aa x).1.getD x_1.2.toNat (0,0,0,0,false)).1+x_2.2).toNat<x_2.1.length∧ak .i64 (x_2.2+1)∧(0≤x_2.2+1∧x_2.2+1≤ac ((aa x).1.getD x_1.2.toNat (0,0,0,0,false)).2∧ac ((aa x).1.getD x_1.2.toNat (0,0,0,0,false)).2=ac ((aa x).1.getD x_1.2.toNat (0,0,0,0,false)).2∧x.length≤256∧ck x ((aa x).1.getD x_1.2.toNat (0,0,0,0,false))∧x_1.1.length=x.length+1∧x_2.1.set (((aa x).1.getD x_1.2.toNat (0,0,0,0,false)).1+x_2.2).toNat ((aa x).1.getD x_1.2.toNat (0,0,0,0,false)).2.2.2.2=gj x_1.1 ((aa x).1.getD x_1.2.toNat (0,0,0,0,false)).1.toNat ((aa x).1.getD x_1.2.toNat (0,0,0,0,false)).2.2.2.2 (x_2.2+1).toNat)∧(ac ((aa x).1.getD x_1.2.toNat (0,0,0,0,false)).2 - (x_2.2+1)).toNat<(ac ((aa x).1.getD x_1.2.toNat (0,0,0,0,false)).2 - x_2.2).toNat)∧(decide (x_2.2<ac ((aa x).1.getD x_1.2.toNat (0,0,0,0,false)).2)=false→ak .i64 (x_1.2+1)∧(0≤x_1.2+1∧x_1.2+1≤(↑(aa x).1.length:Int)∧(aa x).1.length≤256∧x.length≤256∧(∀ (s:aC),s∈(aa x).1→ck x s)∧x_2.1.length=x.length+1∧fS x_2.1 (List.drop (x_1.2+1).toNat (aa x).1)=fS (List.replicate (x.length+1) false) (aa x).1)∧((↑(aa x).1.length:Int) - (x_1.2+1)).toNat<((↑(aa x).1.length:Int) - x_1.2).toNat))∧(decide (x_1.2<(↑(aa x).1.length:Int))=false→(0≤(↑x.length:Int)∧(↑x.length:Int)≤300∧∀ (i:Int),0≤i→i<(↑x.length:Int)→(fun (x:Int)=>0≤x∧x<(↑x_1.1.length:Int),fun (x:Int)=>x_1.1.getD x.toNat false).1 i)∧bi (fun (x:Int)=>x_1.1.getD x.toNat false) (↑x.length:Int).toNat 0 ([]:List bW)=aM x∧True)
theorem Ae:tg:=by
 unfold tg;intro a _ hal;have hlen:=cD a;have hin:=dw a;have hF:aM a=bi (fun k=>(fS (List.replicate (a.length+1) false) (aa a).1).getD k.toNat false) a.length 0 []:=rfl;rw [hF];generalize (aa a).1=l at *;have ea:((a.length:Int)+1).toNat=a.length+1:=by omega
 rw [ea];unfold aA;simp only [ak];refine ⟨trivial,by omega,by omega,by omega,⟨by omega,by omega,hlen,hal,fun s hs=>(hin s hs).2.1,by simp,by simp⟩,fun ⟨fr,i⟩ ⟨h0,h1,_,_,_,h2,h3⟩=>⟨fun hlt=>?_,fun hge=>?_⟩⟩
 ·have hlt:i<(l.length:Int):=of_decide_eq_true hlt;simp only at h0 h1 h2 h3 ⊢;rw [aW ((0,0,0,0,false):aC) h0 hlt] at h3;simp only [fS] at h3;obtain ⟨_,hs,hf⟩:=hin _ (aI ((0,0,0,0,false):aC) h0 hlt);generalize l.getD i.toNat (0,0,0,0,false)=s at *;have hz:=bj hf;have hL:ac s.2=1+s.2.1+s.2.2.1:=rfl;have hs':=hs;unfold ck at hs';generalize hLg:ac s.2=L at *;refine ⟨h0,hlt,by omega,⟨by omega,by omega⟩,⟨by omega,by omega,trivial,hal,hs,h2,rfl⟩,fun ⟨fr2,k⟩ ⟨k0,k1,_,_,_,_,k2⟩=>⟨fun hk=>?_,fun hk=>?_⟩⟩
  ·have hk:k<L:=of_decide_eq_true hk;simp only at k0 k1 k2 ⊢;have hl2:fr2.length=a.length+1:=by rw [k2,fW,h2]
   refine ⟨by omega,by omega,by omega,by omega,by omega,⟨by omega,by omega,trivial,hal,hs,h2,?_⟩,by omega⟩;rw [show (k+1).toNat=k.toNat+1 by omega,k2];simp only [gj];congr 1;omega
  ·have hk:¬ k<L:=of_decide_eq_false hk;simp only at k0 k1 k2 ⊢;have hkL:k=L:=by omega
   refine ⟨by omega,⟨by omega,by omega,hlen,hal,fun s hs=>(hin s hs).2.1,by rw [k2,fW,h2],?_⟩,by omega⟩;rw [k2,hkL];exact h3
 ·simp only at h2 h3 ⊢;rw [br (of_decide_eq_false hge)] at h3;simp only [fS] at h3;rw [h3];refine ⟨⟨by omega,by omega,fun i h4 h5=>?_⟩,?_,trivial⟩
  ·rw [← h3,h2];omega
  ·congr 1
theorem tL:DB.ok Tryz.prog 73:=aD (ann:=EJ) (ae mn (ae gJ (ae IO (ae BH aq)))) Tryz.func73 (by kernel_rfl) Ae
def CF:Nat→Option LoopGen
 | 3=>some { rd:=[.dat 0 (.arr a8),.dat 1 ty_I,.dat 11 ty_I],wr:=[7],A:=fun ((a,at_,n):List Int×Int×Int)=>{ cs:=[.own 7 29 a8,.dat 12 ty_I],inv:=fun ((out,k):List Int×Int)=>0≤k∧k≤n∧dy a at_ n∧out=dA a at_ n 0 k,mu:=fun ((_,k):List Int×Int)=>(n - k).toNat } }
 | _=>none
def AL:Spec:={ Ts:=[.arr a8,ty_I,ty_I],Rs:=[.own 29 a8],pre:=fun ((a,at_,n):List Int×Int×Int)=>dy a at_ n,F:=fun ((a,at_,n):List Int×Int×Int)=>aR a at_ n }
def qL:Prop :=
  ∀ (x:List Int×Int×Int),(x.1.length * 8≤aA∧∀ (x_1:Int),x_1∈x.1→ak .u64 x_1)∧ak .i64 x.2.1∧ak .i64 x.2.2→dy x.1 x.2.1 x.2.2→True∧((0:Int)≤0∧0≤x.2.2∧dy x.1 x.2.1 x.2.2∧x.1=dA x.1 x.2.1 x.2.2 0 0)∧∀ (x_1:List Int×Int),0≤x_1.2∧x_1.2≤x.2.2∧dy x.1 x.2.1 x.2.2∧x_1.1=dA x.1 x.2.1 x.2.2 0 x_1.2→(decide (x_1.2<x.2.2)=true→ak .i64 (x.2.1+x_1.2)∧0≤x.2.1+x_1.2∧x.2.1+x_1.2<(↑x_1.1.length:Int)∧(x.2.1+x_1.2).toNat<x_1.1.length∧ak .i64 (x_1.2+1)∧(0≤x_1.2+1∧x_1.2+1≤x.2.2∧dy x.1 x.2.1 x.2.2∧x_1.1.set (x.2.1+x_1.2).toNat 0=dA x.1 x.2.1 x.2.2 0 (x_1.2+1))∧(x.2.2 - (x_1.2+1)).toNat<(x.2.2 - x_1.2).toNat)∧(decide (x_1.2<x.2.2)=false→(decide (0<x.2.2)=true→(1≤x.2.2∧x.2.2≤256)∧0≤x.2.1∧x.2.1<(↑x_1.1.length:Int)∧x.2.1.toNat<x_1.1.length∧x_1.1.set x.2.1.toNat (a6 (0,x.2.2 - 1,0,true))=aR x.1 x.2.1 x.2.2∧True)∧(decide (0<x.2.2)=false→x_1.1=aR x.1 x.2.1 x.2.2∧True))
theorem xS:qL:=by
 unfold qL;intro ⟨a,at_,n⟩ _ hp;have hp':=hp;obtain ⟨p1,p2,p3,p4⟩:=hp';simp only at p1 p2 p3 p4 hp ⊢;simp only [ak];refine ⟨trivial,⟨by omega,p2,hp,(nC _ _ _ _).symm⟩,fun ⟨out,k⟩ ⟨k0,k1,_,k2⟩=>⟨fun hk=>?_,fun hk=>?_⟩⟩
 ·have hk:k<n:=of_decide_eq_true hk;simp only at k0 k1 k2 ⊢;have hl:=dW a at_ n 0 k p1 p3 k0 k1;rw [← k2] at hl;refine ⟨by omega,by omega,by omega,by omega,by omega,⟨by omega,by omega,hp,?_⟩,by omega⟩;rw [k2];exact ul a at_ n 0 k p1 p3 k0 hk
 ·have hk:¬ k<n:=of_decide_eq_false hk;simp only at k0 k1 k2 ⊢;have hkn:k=n:=by omega
  have hl:=dW a at_ n 0 k p1 p3 k0 k1;rw [← k2] at hl;refine ⟨fun hc=>?_,fun hc=>?_⟩
  ·have hc:0<n:=of_decide_eq_true hc;unfold aR;rw [if_pos hc,k2,hkn];rw [k2,hkn] at hl;exact ⟨⟨by omega,by omega⟩,p1,by omega,by omega,rfl,trivial⟩
  ·have hc:¬ 0<n:=of_decide_eq_false hc;unfold aR;rw [if_neg hc,k2,show k=0 by omega,nC];exact ⟨rfl,trivial⟩
theorem BJ:AL.ok Tryz.prog 74:=aD (ann:=CF) (ae ir (ae oM aq)) Tryz.func74 (by kernel_rfl) xS
end
section
open Go
set_option maxRecDepth 100000
set_option maxHeartbeats 1000000
theorem sQ (fr:List Bool) (at_:Nat) (b:Bool) (i:Nat):∀ n,(gj fr at_ b n).getD i false=if at_≤i∧i<at_+n∧i<fr.length then b else fr.getD i false
 | 0=>by
  have:¬ (at_≤i∧i<at_+0∧i<fr.length):=by omega
  rw [if_neg this];rfl
 | n+1=>by
  have ih:=sQ fr at_ b i n;have hl:=fW fr at_ b n;simp only [gj];by_cases hi:i=at_+n
  ·by_cases hlen:i<fr.length
   ·rw [if_pos (by omega)];simp [← hi,hl,hlen]
   ·rw [if_neg (by omega)];simp [hlen,show ¬ i<(gj fr at_ b n).length by omega]
  ·have e:((gj fr at_ b n).set (at_+n) b).getD i false=(gj fr at_ b n).getD i false:=by
    simp [List.getElem?_set,Ne.symm hi]
   rw [e,ih];by_cases hc:at_≤i∧i<at_+n∧i<fr.length
   ·rw [if_pos hc,if_pos (by omega)]
   ·rw [if_neg hc,if_neg (by omega)]
def nd (k:Int):List aC→Bool
 | []=>false
 | x::r=>if k<x.1+ac x.2 then x.2.2.2.2 else nd k r
theorem xw:∀ (r:List aC) (s e:Int) (fr:List Bool),fo s e r→0≤s→e≤fr.length→s≤e∧∀ k:Int,0≤k→k<e→(fS fr r).getD k.toNat false=if k<s then fr.getD k.toNat false else nd k r
 | [],s,e,fr,h,_,_=>by
  have:s=e:=h;subst this;refine ⟨Int.le_refl _,fun k _ hk=>?_⟩;rw [if_pos hk];rfl
 | x::r,s,e,fr,⟨h1,h2,h3⟩,h0,hl=>by
  have ih:=xw r (s+ac x.2) e (gj fr x.1.toNat x.2.2.2.2 (ac x.2).toNat) h3 (by omega) (by rw [fW]; exact hl);refine ⟨by omega,fun k k0 k1=>?_⟩;simp only [fS,nd];rw [ih.2 k k0 k1,sQ];by_cases hk:k<s
  ·rw [if_pos (by omega),if_neg (by omega),if_pos hk]
  ·rw [if_neg hk];by_cases hk2:k<s+ac x.2
   ·rw [if_pos hk2,if_pos (by omega),if_pos (by omega)]
   ·rw [if_neg hk2,if_neg (by omega)]
theorem xC {out:List bW} {a b:Int} (h:0<out.length):fQ (fQ out a) b=fQ out (a+b):=by
 unfold fQ;simp [show out.length - 1<out.length by omega,Int.add_assoc]
theorem qj (out:List bW) (k a b:Int):fQ (out++[(k,a)]) b=out++[(k,a+b)]:=by
 unfold fQ;simp
theorem pC (f:Int→Bool):∀ (n m:Nat) (k:Int) (out:List bW),0<out.length→0<k→(∀ i,k - 1≤i→i<k+n→f i=true)→bi f (n+m) k out=bi f m (k+n) (if n=0 then out else fQ out n)
 | 0,m,k,out,_,_,_=>by simp
 | n+1,m,k,out,h1,h2,h3=>by
  rw [show n+1+m=(n+m)+1 by omega];simp only [bi];rw [if_pos (h3 k (by omega) (by omega)),if_pos (by rw [h3 (k - 1) (by omega) (by omega)]; simp; omega)];rw [pC f n m (k+1) (fQ out 1) (by rw [dj]; exact h1) (by omega) (fun i hi hj=>h3 i (by omega) (by omega))];rw [if_neg (by omega:¬ n+1=0),show k+1+(n:Int)=k+((n+1:Nat):Int) by omega];congr 1;by_cases hn:n=0
  ·subst hn; simp
  ·rw [if_neg hn,xC h1];congr 1;omega
theorem pD (f:Int→Bool):∀ (n m:Nat) (k:Int) (out:List bW),(∀ i,k≤i→i<k+n→f i=false)→bi f (n+m) k out=bi f m (k+n) out
 | 0,m,k,out,_=>by simp
 | n+1,m,k,out,h=>by
  rw [show n+1+m=(n+m)+1 by omega];simp only [bi];rw [if_neg (by rw [h k (by omega) (by omega)]; simp),pD f n m (k+1) out (fun i hi hj=>h i (by omega) (by omega)),show k+1+(n:Int)=k+((n+1:Nat):Int) by omega]
theorem nh (f:Int→Bool):∀ (r:List aC) (s e:Int) (out:List bW),fo s e r→0≤s→(∀ k,s≤k→k<e→f k=nd k r)→((decide (0<s)&&f (s - 1))=true→0<out.length) →
  s≤e∧bi f (e - s).toNat s out=aU (decide (0<s)&&f (s - 1)) out r
 | [],s,e,out,h,_,_,_=>by
  have:s=e:=h;subst this;rw [Int.sub_self];exact ⟨Int.le_refl _,rfl⟩
 | x::r,s,e,out,⟨h1,h2,h3⟩,h0,hf,ho=>by
  have hx:∀ k,s≤k→k<s+ac x.2→k<e→f k=x.2.2.2.2:=fun k k0 k1 k2=>by
   rw [hf k k0 k2];simp only [nd];rw [if_pos (by omega)]
  have hr:s+ac x.2≤e→∀ k,s+ac x.2≤k→k<e→f k=nd k r:=fun _ k k0 k1=>by
   rw [hf k (by omega) k1];simp only [nd];rw [if_neg (by omega)]
  have hle:s+ac x.2≤e:=by
   have:∀ (r:List aC) (s e:Int),fo s e r→s≤e:=by
    intro r
    induction r with
    | nil=>intro s e h; exact Int.le_of_eq h
    | cons y r ih=>intro s e ⟨_,q2,q3⟩; have:=ih _ _ q3; omega
   exact this r _ _ h3
  refine ⟨by omega,?_⟩
  have hprev:(decide (0<s+ac x.2)&&f (s+ac x.2 - 1))=x.2.2.2.2:=by
   rw [hx _ (by omega) (by omega) (by omega)];simp;omega
  obtain ⟨L,hL⟩:=Int.eq_ofNat_of_zero_le (show 0≤ac x.2 by omega);rw [show (e - s).toNat=L+(e - (s+ac x.2)).toNat by omega];simp only [aU];cases hfr:x.2.2.2.2
  ·rw [hfr] at hx hprev;rw [pD f L _ s out (fun i hi hj=>hx i hi (by omega) (by omega)),← hL];have ih:=nh f r (s+ac x.2) e out h3 (by omega) (hr hle) (fun h=>by rw [hprev] at h; cases h);rw [ih.2,hprev];simp
  ·rw [hfr] at hx hprev;have hL1:L=(L - 1)+1:=by omega
   have step:bi f (L+(e - (s+ac x.2)).toNat) s out=bi f (e - (s+ac x.2)).toNat (s+ac x.2) (if (decide (0<s)&&f (s - 1))=true then fQ out (ac x.2) else out++[(x.1,ac x.2)]):=by
    rw [show L+(e - (s+ac x.2)).toNat=((L - 1)+(e - (s+ac x.2)).toNat)+1 by omega];simp only [bi];rw [if_pos (hx s (by omega) (by omega) (by omega))]
    rw [pC f (L - 1) _ (s+1) _ (by
     split
     ·rename_i hp;rw [dj];exact ho hp
     ·simp) (by omega) (fun i hi hj=>hx i (by omega) (by omega) (by omega))]
    rw [show s+1+((L - 1:Nat):Int)=s+ac x.2 by omega];congr 1;by_cases hp:(decide (0<s)&&f (s - 1))=true
    ·rw [if_pos hp,if_pos hp];by_cases hz:L - 1=0
     ·rw [if_pos hz];congr 1;omega
     ·rw [if_neg hz,xC (ho hp)];congr 1;omega
    ·rw [if_neg hp,if_neg hp];by_cases hz:L - 1=0
     ·rw [if_pos hz,h1];congr 3;omega
     ·rw [if_neg hz,qj,h1];congr 3;omega
   rw [step]
   have ih:=nh f r (s+ac x.2) e (if (decide (0<s)&&f (s - 1))=true then fQ out (ac x.2) else out++[(x.1,ac x.2)]) h3 (by omega) (hr hle) (fun _=>by
    split
    ·rename_i hp;rw [dj];exact ho hp
    ·simp)
   rw [ih.2,hprev];simp
theorem xr {a:List Int} (h:(aa a).2=0):aM a=aU false [] (aa a).1:=by
 have ht:=gF h;have hfl:=xw (aa a).1 0 a.length (List.replicate (a.length+1) false) ht (Int.le_refl _) (by simp; omega)
 have hr:=nh (fun k=>(fS (List.replicate (a.length+1) false) (aa a).1).getD k.toNat false) (aa a).1 0 a.length [] ht (Int.le_refl _) (fun k k0 k1=>by
  rw [hfl.2 k k0 k1,if_neg (by omega)]) (fun h=>by simp at h)
 have h2:=hr.2;rw [show ((a.length:Int) - 0).toNat=a.length by omega] at h2;unfold aM;rw [h2];simp
def iE (at_:Int):Int→List aC→Int
 | r,[]=>r
 | r,s::l=>iE at_ (if s.1=at_∧s.2.2.2.2=true then ac s.2 else r) l
theorem sZ (at_:Int):∀ (l:List aC) (r:Int),(∀ s∈l,s.1≠at_)→iE at_ r l=r
 | [],_,_=>rfl
 | s::l,r,h=>by
  simp only [iE];rw [if_neg (fun e=>h s (by simp) e.1)];exact sZ at_ l r (fun t ht=>h t (by simp [ht]))
theorem Bd (at_:Int):∀ (l:List aC) (r:Int),(∀ s∈l,¬ (s.1=at_∧s.2.2.2.2=true))→iE at_ r l=r
 | [],_,_=>rfl
 | s::l,r,h=>by
  simp only [iE];rw [if_neg (h s (by simp))];exact Bd at_ l r (fun t ht=>h t (by simp [ht]))
theorem sY {at_:Int}:∀ (l:List aC) (r:Int) (s:aC),l.Pairwise (fun s t=>s.1<t.1)→s∈l→s.1=at_→s.2.2.2.2=true→iE at_ r l=ac s.2
 | t::l,r,s,hs,hm,h1,h2=>by
  obtain ⟨p1,p2⟩:=List.pairwise_cons.1 hs;simp only [iE];rcases List.mem_cons.1 hm with rfl | hm
  ·rw [if_pos ⟨h1,h2⟩];exact sZ at_ l _ (fun u hu e=>by have:=p1 u hu; omega)
  ·exact sY l _ s p2 hm h1 h2
theorem Ce {l:List aC} {at_:Int} {fr:Bool} (h:(bw l at_ fr).2=false):∀ s∈l,¬ (s.1=at_∧s.2.2.2.2=fr):=by
 intro s hs ⟨h1,h2⟩;have ha:=cW (fun s:aC=>decide (s.1=at_)&&s.2.2.2.2 == fr) l 0 (by omega);have:(l.any fun s:aC=>decide (s.1=at_)&&s.2.2.2.2 == fr)=true:=List.any_eq_true.2 ⟨s,hs,by simp [h1,h2]⟩;rw [this] at ha;have ha:=of_decide_eq_true ha;unfold bw at h;rw [if_neg (by omega)] at h;cases h
theorem zk {l:List aC} (hs:l.Pairwise (fun s t=>s.1<t.1)) (at_:Int):(aj at_ l).2=(bw l at_ false).2∧((bw l at_ false).2=true→(aj at_ l).1=(bw l at_ false).1.2):=by
 cases h:(bw l at_ false).2
 ·rcases gl at_ l with e | ⟨s,h1,h2,h3,_⟩
  ·rw [e]; exact ⟨rfl,fun h=>by cases h⟩
  ·exact absurd ⟨h2,h3⟩ (Ce h s h1)
 ·obtain ⟨q1,q2,q3⟩:=uk l at_ false h;have:=kN hs q1 q3;rw [q2] at this;rw [this];exact ⟨rfl,fun _=>rfl⟩
theorem Hl {b:List Int} {at_ n v k:Int} {i:Nat} (x:Int) (h:i<at_.toNat) (hl:at_.toNat≤b.length):dA (b.set i x) at_ n v k=(dA b at_ n v k).set i x:=by
 unfold dA kZ;rw [List.take_set,List.drop_set,if_pos (by omega),List.set_append,if_pos (by rw [List.length_take]; omega)]
theorem pi {b:List Int} {at_ n:Int} {i:Nat} (x:Int) (h:i<at_.toNat) (hl:at_.toNat≤b.length):aR (b.set i x) at_ n=(aR b at_ n).set i x:=by
 unfold aR;split
 ·rw [Hl x h hl,List.set_comm _ _ (by omega)]
 ·rfl
theorem Hm {b:List Int} {at_ n:Int} {i:Nat} (h:at_.toNat≤i) (h2:i<at_.toNat+n.toNat) (hl:at_.toNat+n.toNat≤b.length):(dA b at_ n 0 n).getD i 0=0:=by
 unfold dA kZ;have e:(List.take at_.toNat b).length=at_.toNat:=by rw [List.length_take]; omega
 rw [List.getD_eq_getElem?_getD,List.getElem?_append_right (by omega),e,List.getElem?_append_left (by simp; omega)];rw [List.take_of_length_le (by simp),List.getElem?_replicate];split <;> rfl
theorem zF {b:List Int} {at_ n:Int} {i:Nat} (h:i<at_.toNat) (hl:at_.toNat≤b.length):(aR b at_ n).getD i 0=b.getD i 0:=by
 unfold aR;split
 ·unfold dA kZ;rw [List.getD_eq_getElem?_getD,List.getElem?_set_ne (by omega),List.getElem?_append_left (by rw [List.length_take]; omega),List.getElem?_take,if_pos h];rfl
 ·rfl
theorem Dn {a:List Int} {at_ L n:Int} (hp:dy a at_ L) (h1:1≤n) (h2:n≤L) (hw:Int) :
  (aR (aR a at_ L) (at_+n) (L - n)).set at_.toNat hw=aR ((dA a at_ L 0 L).set at_.toNat hw) (at_+n) (L - n) ∧
  ∀ j,1≤j→j<n→((aR (aR a at_ L) (at_+n) (L - n)).set at_.toNat hw).getD (at_+j).toNat 0=0:=by
 obtain ⟨p1,p2,p3,p4⟩:=hp;have hl:=dW a at_ L 0 L p1 p3 p2 (by omega);have hE:aR a at_ L=(dA a at_ L 0 L).set at_.toNat (a6 (0,L - 1,0,true)):=by unfold aR; rw [if_pos (by omega)]
 rw [hE,pi _ (by omega) (by omega),pi _ (by omega) (by omega),List.set_set];refine ⟨rfl,fun j h3 h4=>?_⟩;rw [List.getD_eq_getElem?_getD,List.getElem?_set_ne (by omega),← List.getD_eq_getElem?_getD,zF (by omega) (by omega)];exact Hm (by omega) (by omega) (by omega)
def rV (h:du):Int:=if af h=0∧h.2.2.2=true then 3 else af h
def fH (e r n:Int):Int:=if e≠0 then e else if r=0 then 5 else if r<n then 7 else 0
theorem Do {a:List Int} (hz:(au a).2.2=0) (at_:Int) (h:du) :
  ek a at_ h=(if fH (rV h) (iE at_ 0 (aa a).1) (ac h)≠0 then [] else aR ((dA a at_ (iE at_ 0 (aa a).1) 0 (iE at_ 0 (aa a).1)).set at_.toNat (a6 h)) (at_+ac h) (iE at_ 0 (aa a).1 - ac h),fH (rV h) (iE at_ 0 (aa a).1) (ac h)) ∧
  (fH (rV h) (iE at_ 0 (aa a).1) (ac h)=0→dy a at_ (iE at_ 0 (aa a).1)∧1≤ac h∧ac h≤iE at_ 0 (aa a).1∧af h=0):=by
 obtain ⟨_,hal,hsp⟩:=xq hz
 have hF:ek a at_ h=if af h≠0 then ([],af h) else if h.2.2.2=true then ([],3) else if (au a).2.2≠0 then ([],(au a).2.2)
  else if (bw (aa a).1 at_ true).2=false then ([],5) else if ac (bw (aa a).1 at_ true).1.2<ac h then ([],7)
  else (aR ((dA a at_ (ac (bw (aa a).1 at_ true).1.2) 0 (ac (bw (aa a).1 at_ true).1.2)).set at_.toNat (a6 h)) (at_+ac h) (ac (bw (aa a).1 at_ true).1.2 - ac h),0):=rfl
 rw [hF];by_cases h1:af h=0
 ·rw [if_neg (by omega)];have hz1:=bj h1;have hn:ac h=1+h.1+h.2.1:=rfl;cases h2:h.2.2.2
  ·have e0:rV h=0:=by unfold rV; rw [h2,if_neg (by simp),h1]
   rw [e0,if_neg (by simp),if_neg (by omega)];cases h3:(bw (aa a).1 at_ true).2
   ·rw [Bd at_ _ 0 (Ce h3),if_pos rfl];have e1:fH 0 0 (ac h)=5:=rfl;rw [e1,if_pos (by omega)];exact ⟨rfl,fun h=>by omega⟩
   ·obtain ⟨q1,q2,q3⟩:=uk (aa a).1 at_ true h3;rw [sY _ 0 _ (co a) q1 q2 q3,if_neg (by simp)];obtain ⟨hin,hh⟩:=hsp _ q1;have hz2:=bj hh;have hL:ac (bw (aa a).1 at_ true).1.2=1+(bw (aa a).1 at_ true).1.2.1+(bw (aa a).1 at_ true).1.2.2.1:=rfl;unfold ck at hin;rw [q2] at hin;generalize ac (bw (aa a).1 at_ true).1.2=L at *;by_cases h4:L<ac h
    ·have e1:fH 0 L (ac h)=7:=by unfold fH; rw [if_neg (by omega),if_neg (by omega),if_pos h4]
     rw [e1,if_pos h4,if_pos (by omega)];exact ⟨rfl,fun h=>by omega⟩
    ·have e1:fH 0 L (ac h)=0:=by unfold fH; rw [if_neg (by omega),if_neg (by omega),if_neg h4]
     rw [e1,if_neg h4,if_neg (by omega)];exact ⟨rfl,fun _=>⟨⟨by omega,by omega,by omega,hal⟩,by omega,by omega,h1⟩⟩
  ·have e0:rV h=3:=by unfold rV; rw [h2,if_pos ⟨h1,rfl⟩]
   rw [e0,if_pos rfl];have e1:∀ r,fH 3 r (ac h)=3:=fun _=>rfl
   rw [e1,if_pos (by omega)];exact ⟨rfl,fun h=>by omega⟩
 ·have e0:rV h=af h:=by unfold rV; rw [if_neg (fun e=>h1 e.1)]
  have e1:∀ r,fH (af h) r (ac h)=af h:=fun _=>by unfold fH; rw [if_pos h1]
  rw [e0,if_pos h1,e1,if_pos h1];exact ⟨rfl,fun h=>absurd h h1⟩
end
section
open Go
set_option maxRecDepth 100000
set_option maxHeartbeats 1000000
def aE (l:List aC) (at_:Int):Int:=ac (aj at_ l).1
def am (a keep pinned:List Int):List Int×Int :=
 if (au a).2.2≠0 then ([],(au a).2.2) else if (bA keep&&bA pinned)=false then ([],3)
 else if (keep.all (isB (aa a).1))=false then ([],5) else if (pinned.all (cP keep))=false then ([],5) else (keep.map (aE (aa a).1),0)
theorem I3 {l:List aC} (hs:l.Pairwise (fun s t=>s.1<t.1)) (at_:Int) :
  (ai (fun s:aC=>decide (s.1=at_)&&!s.2.2.2.2) 0 l<0→isB l at_=false) ∧
  (¬ ai (fun s:aC=>decide (s.1=at_)&&!s.2.2.2.2) 0 l<0→isB l at_=true∧ai (fun s:aC=>decide (s.1=at_)&&!s.2.2.2.2) 0 l<(l.length:Int) ∧
   (l.getD (ai (fun s:aC=>decide (s.1=at_)&&!s.2.2.2.2) 0 l).toNat (0,0,0,0,false)).2=(aj at_ l).1∧l.getD (ai (fun s:aC=>decide (s.1=at_)&&!s.2.2.2.2) 0 l).toNat (0,0,0,0,false)∈l):=by
 have hf:(fun s:aC=>decide (s.1=at_)&&!s.2.2.2.2)=(fun s:aC=>decide (s.1=at_)&&s.2.2.2.2 == false):=by
  funext s;cases s.2.2.2.2 <;> rfl
 obtain ⟨k1,k2⟩:=zk hs at_;have hlt:=dq (fun s:aC=>decide (s.1=at_)&&s.2.2.2.2 == false) (0,0,0,0,false) l 0 (by omega);rw [hf];unfold isB;refine ⟨fun h=>?_,fun h=>?_⟩
 ·rw [k1];unfold bw;rw [if_pos h]
 ·have e:bw l at_ false=(l.getD (ai (fun s:aC=>decide (s.1=at_)&&s.2.2.2.2 == false) 0 l).toNat (0,0,0,0,false),true):=by
   unfold bw;rw [if_neg h]
  have k3:=k2 (by rw [e]);rw [k1,k3,e];exact ⟨rfl,by omega,rfl,aI _ (by omega) (by omega)⟩
def Gu:Spec:={ Ts:=[cg,.ref ty_I],Rs:=[.dat .bool],pre:=fun _=>True,F:=fun ((s,at_):aC×Int)=>decide (s.1=at_)&&!s.2.2.2.2 }
def wX:Prop :=
  ∀ (x:(Int×Int×Int×Int×Bool)×Int),(ak .i64 x.1.1∧ak .i64 x.1.2.1∧ak .i64 x.1.2.2.1∧ak .i64 x.1.2.2.2.1∧True)∧ak .i64 x.2→True→(decide (x.1.1=x.2)&&!x.1.2.2.2.2)=(decide (x.1.1=x.2)&&!x.1.2.2.2.2)∧True
theorem Dd:wX:=by
 unfold wX;intro ⟨s,at_⟩ _ _;simp
theorem G0:Gu.ok Tryz.prog 185:=aD (ann:=cp) aq Tryz.func185 (by kernel_rfl) Dd
def DG:Spec:={ Ts:=[ty_I,.ref (.arr ty_I)],Rs:=[.dat .bool],pre:=fun _=>True,F:=fun ((at_,keep):Int×List Int)=>!cP keep at_ }
def tl:Prop :=
  ∀ (x:Int×List Int),(ak .i64 x.1∧x.2.length * 8≤aA∧∀ (x_1:Int),x_1∈x.2→ak .i64 x_1)→True→True∧(!cP x.2 x.1)=!cP x.2 x.1∧True
theorem Aj:tl:=by
 unfold tl;intro _ _ _;exact ⟨trivial,rfl,trivial⟩
theorem D4:DG.ok Tryz.prog 186:=aD (ann:=cp) (ae za aq) Tryz.func186 (by kernel_rfl) Aj
def JR:Nat→Option LoopGen
 | 9=>some { rd:=[.own 9 124 cg,.dat 35 (.arr ty_I)],A:=fun ((l,keep):List aC×List Int)=>{ cs:=[.own 11 3 ty_I,.dat 37 ty_I],inv:=fun ((out,i):List Int×Int)=>0≤i∧i≤keep.length∧(keep.drop i.toNat).all (isB l)=keep.all (isB l)∧out=(keep.take i.toNat).map (aE l),mu:=fun ((_,i):List Int×Int)=>(keep.length - i).toNat } }
 | _=>none
def Ie:Spec:={ Ts:=[.arr a8,.arr ty_I,.arr ty_I],Rs:=[.own 3 ty_I,.dat ty_I],pre:=fun _=>True,F:=fun ((a,keep,pinned):List Int×List Int×List Int)=>am a keep pinned }
def Bt:Prop :=
  ∀ (x:List Int×List Int×List Int),((x.1.length * 8≤aA∧∀ (x_1:Int),x_1∈x.1→ak .u64 x_1)∧(x.2.1.length * 8≤aA∧∀ (x_1:Int),x_1∈x.2.1→ak .i64 x_1)∧x.2.2.length * 8≤aA∧∀ (x_1:Int),x_1∈x.2.2→ak .i64 x_1)→True→True∧(decide ((au x.1).2.2≠0)=true→([]:List Int)=(am x.1 x.2.1 x.2.2).1∧(au x.1).2.2=(am x.1 x.2.1 x.2.2).2∧True)∧(decide ((au x.1).2.2≠0)=false→True∧((!bA x.2.1)=false→True)∧((!bA x.2.1||!bA x.2.2)=true→([]:List Int)=(am x.1 x.2.1 x.2.2).1∧3=(am x.1 x.2.1 x.2.2).2∧True)∧((!bA x.2.1||!bA x.2.2)=false→True∧((0:Int)≤0∧0≤(↑x.2.1.length:Int)∧(List.drop (Int.toNat 0) x.2.1).all (isB (aa x.1).1)=x.2.1.all (isB (aa x.1).1)∧([]:List Int)=List.map (aE (aa x.1).1) (List.take (Int.toNat 0) x.2.1))∧∀ (x_1:List Int×Int),0≤x_1.2∧x_1.2≤(↑x.2.1.length:Int)∧(List.drop x_1.2.toNat x.2.1).all (isB (aa x.1).1)=x.2.1.all (isB (aa x.1).1)∧x_1.1=List.map (aE (aa x.1).1) (List.take x_1.2.toNat x.2.1)→(decide (x_1.2<(↑x.2.1.length:Int))=true→0≤x_1.2∧x_1.2<(↑x.2.1.length:Int)∧(∀ (s:aC),s∈(aa x.1).1→(fun (_:Int×Int×Int×Int×Bool)=>True,fun (x_2:Int×Int×Int×Int×Bool)=>decide (x_2.1=x.2.1.getD x_1.2.toNat 0)&&!x_2.2.2.2.2).1 s)∧(decide (ai (fun (x_2:Int×Int×Int×Int×Bool)=>decide (x_2.1=x.2.1.getD x_1.2.toNat 0)&&!x_2.2.2.2.2) 0 (aa x.1).1<0)=true→([]:List Int)=(am x.1 x.2.1 x.2.2).1∧5=(am x.1 x.2.1 x.2.2).2∧True)∧(decide (ai (fun (x_2:Int×Int×Int×Int×Bool)=>decide (x_2.1=x.2.1.getD x_1.2.toNat 0)&&!x_2.2.2.2.2) 0 (aa x.1).1<0)=false→0≤ai (fun (x_2:Int×Int×Int×Int×Bool)=>decide (x_2.1=x.2.1.getD x_1.2.toNat 0)&&!x_2.2.2.2.2) 0 (aa x.1).1∧ai (fun (x_2:Int×Int×Int×Int×Bool)=>decide (x_2.1=x.2.1.getD x_1.2.toNat 0)&&!x_2.2.2.2.2) 0 (aa x.1).1<(↑(aa x.1).1.length:Int)∧(ai (fun (x_2:Int×Int×Int×Int×Bool)=>decide (x_2.1=x.2.1.getD x_1.2.toNat 0)&&!x_2.2.2.2.2) 0 (aa x.1).1).toNat<(aa x.1).1.length∧True∧(x_1.1.length+[if af ((aa x.1).1.getD (ai (fun (x_2:Int×Int×Int×Int×Bool)=>decide (x_2.1=x.2.1.getD x_1.2.toNat 0)&&!x_2.2.2.2.2) 0 (aa x.1).1).toNat (0,0,0,0,false)).2=0 then ac ((aa x.1).1.getD (ai (fun (x_2:Int×Int×Int×Int×Bool)=>decide (x_2.1=x.2.1.getD x_1.2.toNat 0)&&!x_2.2.2.2.2) 0 (aa x.1).1).toNat (0,0,0,0,false)).2 else (0:Int)].length) * 8≤aA∧ak .i64 (x_1.2+1)∧(0≤x_1.2+1∧x_1.2+1≤(↑x.2.1.length:Int)∧(List.drop (x_1.2+1).toNat x.2.1).all (isB (aa x.1).1)=x.2.1.all (isB (aa x.1).1)∧x_1.1++[if af ((aa x.1).1.getD (ai (fun (x_2:Int×Int×Int×Int×Bool)=>decide (x_2.1=x.2.1.getD x_1.2.toNat 0)&&!x_2.2.2.2.2) 0 (aa x.1).1).toNat (0,0,0,0,false)).2=0 then ac ((aa x.1).1.getD (ai (fun (x_2:Int×Int×Int×Int×Bool)=>decide (x_2.1=x.2.1.getD x_1.2.toNat 0)&&!x_2.2.2.2.2) 0 (aa x.1).1).toNat (0,0,0,0,false)).2 else (0:Int)]=List.map (aE (aa x.1).1) (List.take (x_1.2+1).toNat x.2.1))∧((↑x.2.1.length:Int) - (x_1.2+1)).toNat<((↑x.2.1.length:Int) - x_1.2).toNat))∧(decide (x_1.2<(↑x.2.1.length:Int))=false→(∀ (s:Int),s∈x.2.2→(fun (_:Int)=>True,fun (x_2:Int)=>!cP x.2.1 x_2).1 s)∧((x.2.2.any fun (x_2:Int)=>!cP x.2.1 x_2)=true→([]:List Int)=(am x.1 x.2.1 x.2.2).1∧5=(am x.1 x.2.1 x.2.2).2∧True)∧((x.2.2.any fun (x_2:Int)=>!cP x.2.1 x_2)=false→x_1.1=(am x.1 x.2.1 x.2.2).1∧0=(am x.1 x.2.1 x.2.2).2∧True))))
theorem FV:Bt:=by
 unfold Bt;intro ⟨a,keep,pinned⟩ ⟨_,⟨hb,_⟩,_⟩ _;unfold aA at hb;simp only at hb ⊢
 have hF:am a keep pinned=if (au a).2.2≠0 then ([],(au a).2.2) else if (bA keep&&bA pinned)=false then ([],3)
  else if (keep.all (isB (aa a).1))=false then ([],5) else if (pinned.all (cP keep))=false then ([],5) else (keep.map (aE (aa a).1),0):=rfl
 rw [hF];refine ⟨trivial,fun hc=>?_,fun hc=>⟨trivial,fun _=>trivial,fun hr=>?_,fun hr=>⟨trivial,⟨by omega,by omega,rfl,rfl⟩,fun ⟨out,i⟩ ⟨h0,h1,h2,h3⟩=>⟨fun hlt=>?_,fun hge=>?_⟩⟩⟩⟩
 ·rw [if_pos (of_decide_eq_true hc)];exact ⟨rfl,rfl,trivial⟩
 ·rw [if_neg (of_decide_eq_false hc),if_pos (by revert hr; cases bA keep <;> cases bA pinned <;> simp)];exact ⟨rfl,rfl,trivial⟩
 ·have hlt:i<(keep.length:Int):=of_decide_eq_true hlt;simp only at h0 h1 h2 h3 ⊢;rw [if_neg (of_decide_eq_false hc),if_neg (by revert hr; cases bA keep <;> cases bA pinned <;> simp)];rw [aW (0:Int) h0 hlt,List.all_cons] at h2;have hts:=bt (0:Int) h0 hlt;obtain ⟨f1,f2⟩:=I3 (co a) (keep.getD i.toNat 0);rw [hts];generalize keep.getD i.toNat 0=at_ at *;refine ⟨h0,hlt,fun _ _=>trivial,fun hn=>?_,fun hn=>?_⟩
  ·rw [f1 (of_decide_eq_true hn),Bool.false_and] at h2;rw [if_pos h2.symm];exact ⟨rfl,rfl,trivial⟩
  ·obtain ⟨g1,g2,g3,g4⟩:=f2 (of_decide_eq_false hn);have hn:¬ ai (fun s:aC=>decide (s.1=at_)&&!s.2.2.2.2) 0 (aa a).1<0:=of_decide_eq_false hn;rw [g1,Bool.true_and] at h2;have hh:=(dw a _ g4).2.2;rw [g3] at hh ⊢;rw [if_pos hh];have hl:out.length=i.toNat:=by rw [h3,List.length_map,List.length_take]; omega
   unfold aA;simp only [ak,List.length_cons,List.length_nil];refine ⟨Int.not_lt.1 hn,g2,(Int.toNat_lt (Int.not_lt.1 hn)).2 g2,trivial,by omega,by omega,⟨by omega,by omega,h2,?_⟩,by omega⟩;rw [List.map_append,← h3];rfl
 ·have hge:¬ i<(keep.length:Int):=of_decide_eq_false hge;simp only at h2 h3 ⊢;rw [br hge,List.all_nil] at h2;rw [bN hge] at h3;rw [if_neg (of_decide_eq_false hc),if_neg (by revert hr; cases bA keep <;> cases bA pinned <;> simp),if_neg (by rw [← h2]; simp)];have e:(pinned.any fun at_=>!cP keep at_)=!(pinned.all (cP keep)):=by rw [List.not_all_eq_any_not]
  refine ⟨fun _ _=>trivial,fun hp=>?_,fun hp=>?_⟩
  ·rw [e] at hp;rw [if_pos (by simpa using hp)];exact ⟨rfl,rfl,trivial⟩
  ·rw [e] at hp;rw [if_neg (by simpa using hp)];exact ⟨h3,rfl,trivial⟩
theorem BN:Ie.ok Tryz.prog 175:=aD (ann:=JR) (ae iK (ae IJ (ae iJ (ae nt (ae G0 (ae iL (ae zc (ae D4 aq)))))))) Tryz.func175 (by kernel_rfl) FV
def ba (pinned keep long:List Int):Nat→Int
 | 0=>0
 | i+1=>(if cP pinned (keep.getD i 0)=true then keep.getD i 0 else ba pinned keep long i)+long.getD i 0
def cT (pinned keep long:List Int) (i:Nat):Int:=if cP pinned (keep.getD i 0)=true then keep.getD i 0 else ba pinned keep long i
def ar (keep long pinned:List Int):List Int:=(List.range keep.length).map (cT pinned keep long)
def dD (keep long:List Int):Prop:=long.length=keep.length∧keep.length≤256∧(∀ x∈keep,0≤x∧x≤255)∧∀ n∈long,1≤n∧n≤256
theorem cf {keep long:List Int} (pinned:List Int) (h:dD keep long):∀ i:Nat,i≤keep.length→0≤ba pinned keep long i∧ba pinned keep long i≤512 * i
 | 0,_=>by simp [ba]
 | i+1,hi=>by
  have ih:=cf pinned h i (by omega);obtain ⟨h1,h2,h3,h4⟩:=h;have k1:=h3 _ (aI (0:Int) (xs:=keep) (i:=i) (by omega) (by omega));have k2:=h4 _ (aI (0:Int) (xs:=long) (i:=i) (by omega) (by omega));simp only [Int.toNat_natCast] at k1 k2;simp only [ba];split <;> omega
theorem kc {keep long:List Int} (pinned:List Int) (h:dD keep long) {i:Nat} (hi:i<keep.length):0≤cT pinned keep long i∧cT pinned keep long i≤512 * i+255:=by
 have h0:=cf pinned h i (by omega);have k1:=h.2.2.1 _ (aI (0:Int) (xs:=keep) (i:=i) (by omega) (by omega));simp only [Int.toNat_natCast] at k1;unfold cT;split <;> omega
def KN:Nat→Option LoopGen
 | 4=>some { rd:=[.dat 11 (.arr ty_I),.dat 1 (.arr ty_I),.dat 2 (.arr ty_I)],A:=fun ((keep,long,pinned):List Int×List Int×List Int)=>{ cs:=[.own 7 3 ty_I,.dat 8 ty_I,.dat 13 ty_I],inv:=fun ((out,e,i):List Int×Int×Int)=>0≤i∧i≤keep.length∧out=(List.range i.toNat).map (cT pinned keep long)∧e=ba pinned keep long i.toNat,mu:=fun ((_,_,i):List Int×Int×Int)=>(keep.length - i).toNat } }
 | _=>none
def J7:Spec:={ Ts:=[.arr ty_I,.arr ty_I,.arr ty_I],Rs:=[.own 3 ty_I],pre:=fun ((keep,long,_):List Int×List Int×List Int)=>dD keep long,F:=fun ((keep,long,pinned):List Int×List Int×List Int)=>ar keep long pinned }
def E0:Prop :=
  ∀ (x:List Int×List Int×List Int),((x.1.length * 8≤aA∧∀ (x_1:Int),x_1∈x.1→ak .i64 x_1)∧(x.2.1.length * 8≤aA∧∀ (x_1:Int),x_1∈x.2.1→ak .i64 x_1)∧x.2.2.length * 8≤aA∧∀ (x_1:Int),x_1∈x.2.2→ak .i64 x_1)→dD x.1 x.2.1→((0:Int)≤0∧0≤(↑x.1.length:Int)∧([]:List Int)=List.map (cT x.2.2 x.1 x.2.1) (List.range (Int.toNat 0))∧0=ba x.2.2 x.1 x.2.1 (Int.toNat 0))∧∀ (x_1:List Int×Int×Int),0≤x_1.2.2∧x_1.2.2≤(↑x.1.length:Int)∧x_1.1=List.map (cT x.2.2 x.1 x.2.1) (List.range x_1.2.2.toNat)∧x_1.2.1=ba x.2.2 x.1 x.2.1 x_1.2.2.toNat→(decide (x_1.2.2<(↑x.1.length:Int))=true→0≤x_1.2.2∧x_1.2.2<(↑x.1.length:Int)∧True∧((!cP x.2.2 (x.1.getD x_1.2.2.toNat 0))=true→(x_1.1.length+[x_1.2.1].length) * 8≤aA∧0≤x_1.2.2∧x_1.2.2<(↑x.2.1.length:Int)∧ak .i64 (x_1.2.1+x.2.1.getD x_1.2.2.toNat 0)∧ak .i64 (x_1.2.2+1)∧(0≤x_1.2.2+1∧x_1.2.2+1≤(↑x.1.length:Int)∧x_1.1++[x_1.2.1]=List.map (cT x.2.2 x.1 x.2.1) (List.range (x_1.2.2+1).toNat)∧x_1.2.1+x.2.1.getD x_1.2.2.toNat 0=ba x.2.2 x.1 x.2.1 (x_1.2.2+1).toNat)∧((↑x.1.length:Int) - (x_1.2.2+1)).toNat<((↑x.1.length:Int) - x_1.2.2).toNat)∧((!cP x.2.2 (x.1.getD x_1.2.2.toNat 0))=false→(x_1.1.length+[x.1.getD x_1.2.2.toNat 0].length) * 8≤aA∧0≤x_1.2.2∧x_1.2.2<(↑x.2.1.length:Int)∧ak .i64 (x.1.getD x_1.2.2.toNat 0+x.2.1.getD x_1.2.2.toNat 0)∧ak .i64 (x_1.2.2+1)∧(0≤x_1.2.2+1∧x_1.2.2+1≤(↑x.1.length:Int)∧x_1.1++[x.1.getD x_1.2.2.toNat 0]=List.map (cT x.2.2 x.1 x.2.1) (List.range (x_1.2.2+1).toNat)∧x.1.getD x_1.2.2.toNat 0+x.2.1.getD x_1.2.2.toNat 0=ba x.2.2 x.1 x.2.1 (x_1.2.2+1).toNat)∧((↑x.1.length:Int) - (x_1.2.2+1)).toNat<((↑x.1.length:Int) - x_1.2.2).toNat))∧(decide (x_1.2.2<(↑x.1.length:Int))=false→x_1.1=ar x.1 x.2.1 x.2.2∧True)
theorem HK:E0:=by
 unfold E0;intro ⟨keep,long,pinned⟩ _ hp;have hp':=hp;obtain ⟨p1,p2,p3,p4⟩:=hp';simp only at p1 p2 p3 p4 hp ⊢;refine ⟨⟨by omega,by omega,rfl,rfl⟩,fun ⟨out,e,i⟩ ⟨h0,h1,h2,h3⟩=>⟨fun hlt=>?_,fun hge=>?_⟩⟩
 ·have hlt':i<(keep.length:Int):=of_decide_eq_true hlt;simp only at h0 h1 h2 h3 ⊢;have ht:=kc pinned hp (i:=i.toNat) (by omega);have he:=cf pinned hp (i.toNat+1) (by omega);have k1:=p3 _ (aI (0:Int) h0 hlt');have k2:=p4 _ (aI (0:Int) (xs:=long) h0 (by omega))
  have hs:out++[cT pinned keep long i.toNat]=(List.range (i+1).toNat).map (cT pinned keep long):=by
   rw [show (i+1).toNat=i.toNat+1 by omega,List.range_succ,List.map_append,← h2];rfl
  have hE:ba pinned keep long (i+1).toNat=cT pinned keep long i.toNat+long.getD i.toNat 0:=by
   rw [show (i+1).toNat=i.toNat+1 by omega];rfl
  have hl:out.length=i.toNat:=by rw [h2]; simp
  rw [hE,← hs];subst h3;unfold aA;simp only [ak,List.length_cons,List.length_nil];have hT:cT pinned keep long i.toNat=if cP pinned (keep.getD i.toNat 0)=true then keep.getD i.toNat 0 else ba pinned keep long i.toNat:=rfl
  have hE':ba pinned keep long (i.toNat+1)=cT pinned keep long i.toNat+long.getD i.toNat 0:=rfl;rw [hE'] at he;refine ⟨h0,hlt',trivial,fun hc=>?_,fun hc=>?_⟩
  ·have hc:cP pinned (keep.getD i.toNat 0)=false:=by simpa using hc
   rw [if_neg (by rw [hc]; simp)] at hT;rw [hT] at he ⊢;exact ⟨by omega,h0,by omega,by omega,by omega,⟨by omega,by omega,rfl,rfl⟩,by omega⟩
  ·have hc:cP pinned (keep.getD i.toNat 0)=true:=by simpa using hc
   rw [if_pos hc] at hT;rw [hT] at he ⊢;exact ⟨by omega,h0,by omega,by omega,by omega,⟨by omega,by omega,rfl,rfl⟩,by omega⟩
 ·have hge:¬ i<(keep.length:Int):=of_decide_eq_false hge;simp only at h0 h1 h2;rw [h2,show i.toNat=keep.length by omega];exact ⟨rfl,trivial⟩
theorem Fg:J7.ok Tryz.prog 176:=aD (ann:=KN) (ae za aq) Tryz.func176 (by kernel_rfl) HK
def Gs:Spec:={ Ts:=[.arr a8,.arr ty_I,.arr ty_I],Rs:=[.own 3 ty_I,.dat ty_I],pre:=fun _=>True,F:=fun ((a,keep,pinned):List Int×List Int×List Int)=>((if (am a keep pinned).2≠0 then [] else ar keep (am a keep pinned).1 pinned,(am a keep pinned).2):List Int×Int) }
theorem gf:∀ {l:List Int},bA l=true→l.Pairwise (·<·)
 | [],_=>List.Pairwise.nil
 | [x],_=>by simp
 | x::y::l,h=>by
  simp only [bA,Bool.and_eq_true,decide_eq_true_eq] at h;have ih:=gf h.2;refine List.pairwise_cons.2 ⟨fun z hz=>?_,ih⟩;rcases List.mem_cons.1 hz with rfl | hz
  ·exact h.1
  ·have:=(List.pairwise_cons.1 ih).1 z hz;omega
theorem iy:∀ {l:List Int} {s:Int},l.Pairwise (·<·)→(∀ x∈l,s≤x∧x≤255)→s≤256→(l.length:Int)≤256 - s
 | [],s,_,_,h=>by simp; omega
 | x::l,s,hp,hr,_=>by
  obtain ⟨h1,h2⟩:=List.pairwise_cons.1 hp;have h3:=hr x (by simp);have ih:=iy (s:=x+1) h2 (fun y hy=>by have:=h1 y hy; have:=hr y (by simp [hy]); omega) (by omega);simp only [List.length_cons];omega
theorem ua {a:List Int} {at_:Int} (h:isB (aa a).1 at_=true):∃ s∈(aa a).1,s.1=at_∧s.2.2.2.2=false∧aE (aa a).1 at_=ac s.2:=by
 unfold isB aE at *;rcases gl at_ (aa a).1 with e | ⟨s,h1,h2,h3,e⟩
 ·rw [e] at h; cases h
 ·exact ⟨s,h1,h2,h3,by rw [e]⟩
theorem lG {a keep pinned:List Int} (h:(am a keep pinned).2=0):(au a).2.2=0∧bA keep=true∧bA pinned=true∧(∀ x∈keep,isB (aa a).1 x=true)∧(∀ x∈pinned,cP keep x=true)∧(am a keep pinned).1=keep.map (aE (aa a).1):=by
 unfold am at *;by_cases h1:(au a).2.2≠0
 ·rw [if_pos h1] at h; exact absurd h h1
 rw [if_neg h1] at h ⊢;by_cases h2:(bA keep&&bA pinned)=false
 ·rw [if_pos h2] at h; simp at h
 rw [if_neg h2] at h ⊢;by_cases h3:(keep.all (isB (aa a).1))=false
 ·rw [if_pos h3] at h; simp at h
 rw [if_neg h3] at h ⊢;by_cases h4:(pinned.all (cP keep))=false
 ·rw [if_pos h4] at h; simp at h
 rw [if_neg h4];have h2:bA keep=true∧bA pinned=true:=by simpa using h2
 have h3:keep.all (isB (aa a).1)=true:=by simpa using h3
 have h4:pinned.all (cP keep)=true:=by simpa using h4
 exact ⟨by omega,h2.1,h2.2,fun x hx=>List.all_eq_true.1 h3 x hx,fun x hx=>List.all_eq_true.1 h4 x hx,rfl⟩
theorem mv {a keep pinned:List Int} (h:(am a keep pinned).2=0):dD keep (am a keep pinned).1:=by
 obtain ⟨_,h2,_,h4,_,h6⟩:=lG h
 have hr:∀ x∈keep,0≤x∧x≤255:=fun x hx=>by
  obtain ⟨s,h1,h2,_⟩:=ua (h4 x hx);have:=gt s h1;omega
 have hl:=iy (gf h2) hr (by omega);refine ⟨by rw [h6]; simp,by omega,hr,fun n hn=>?_⟩;rw [h6] at hn;obtain ⟨x,hx,rfl⟩:=List.mem_map.1 hn;obtain ⟨s,h1,_,_,e⟩:=ua (h4 x hx);have hz:=bj (dw a s h1).2.2;rw [e];unfold ac;omega
def wV:Prop :=
  ∀ (x:List Int×List Int×List Int),((x.1.length * 8≤aA∧∀ (x_1:Int),x_1∈x.1→ak .u64 x_1)∧(x.2.1.length * 8≤aA∧∀ (x_1:Int),x_1∈x.2.1→ak .i64 x_1)∧x.2.2.length * 8≤aA∧∀ (x_1:Int),x_1∈x.2.2→ak .i64 x_1)→True→True∧(decide ((am x.1 x.2.1 x.2.2).2≠0)=true→(([]:List Int)=if (am x.1 x.2.1 x.2.2).2≠0 then ([]:List Int) else ar x.2.1 (am x.1 x.2.1 x.2.2).1 x.2.2)∧(am x.1 x.2.1 x.2.2).2=(am x.1 x.2.1 x.2.2).2∧True)∧(decide ((am x.1 x.2.1 x.2.2).2≠0)=false→dD x.2.1 (am x.1 x.2.1 x.2.2).1∧(ar x.2.1 (am x.1 x.2.1 x.2.2).1 x.2.2=if (am x.1 x.2.1 x.2.2).2≠0 then ([]:List Int) else ar x.2.1 (am x.1 x.2.1 x.2.2).1 x.2.2)∧0=(am x.1 x.2.1 x.2.2).2∧True)
theorem Db:wV:=by
 unfold wV;intro ⟨a,keep,pinned⟩ _ _;simp only;refine ⟨trivial,fun hc=>?_,fun hc=>?_⟩
 ·rw [if_pos (of_decide_eq_true hc)];exact ⟨rfl,trivial,trivial⟩
 ·have hz:(am a keep pinned).2=0:=by simpa using of_decide_eq_false hc
  rw [if_neg (by omega)];exact ⟨mv hz,rfl,hz.symm,trivial⟩
theorem GY:Gs.ok Tryz.prog 159:=aD (ann:=cp) (ae BN (ae Fg aq)) Tryz.func159 (by kernel_rfl) Db
def eQ (pinned keep long:List Int):Nat→List bW
 | 0=>[]
 | i+1=>eQ pinned keep long i++(if ba pinned keep long i<cT pinned keep long i then [(ba pinned keep long i,cT pinned keep long i - ba pinned keep long i)] else [])
theorem ii (pinned keep long:List Int):∀ i,(eQ pinned keep long i).length≤i
 | 0=>by simp [eQ]
 | i+1=>by
  have:=ii pinned keep long i;simp only [eQ,List.length_append];split <;> simp <;> omega
def bT (n:Int) (keep long pinned:List Int):List bW:=eQ pinned keep long keep.length++(if ba pinned keep long keep.length<n then [(ba pinned keep long keep.length,n - ba pinned keep long keep.length)] else [])
def bo (a keep pinned:List Int):List bW×Int:=(if (am a keep pinned).2≠0 then [] else bT a.length keep (am a keep pinned).1 pinned,(am a keep pinned).2)
def CG:Nat→Option LoopGen
 | 3000177=>some fe
 | 8=>some { rd:=[.own 8 3 ty_I,.own 29 3 ty_I,.dat 1 (.arr ty_I),.dat 2 (.arr ty_I)],A:=fun ((long,to,keep,pinned):List Int×List Int×List Int×List Int)=>{ cs:=[.boxS 10 [.own 129 ft],.box 11 ty_I,.dat 31 ty_I],inv:=fun ((out,e,i):List bW×Int×Int)=>0≤i∧i≤keep.length∧to=ar keep long pinned∧out=eQ pinned keep long i.toNat∧e=ba pinned keep long i.toNat,mu:=fun ((_,_,i):List bW×Int×Int)=>(keep.length - i).toNat } }
 | _=>none
def AM:Spec:={ Ts:=[.arr a8,.arr ty_I,.arr ty_I],Rs:=[.own 129 ft,.dat ty_I],pre:=fun _=>True,F:=fun ((a,keep,pinned):List Int×List Int×List Int)=>bo a keep pinned }
def qM:Prop :=
  ∀ (x:List Int×List Int×List Int),((x.1.length * 8≤aA∧∀ (x_1:Int),x_1∈x.1→ak .u64 x_1)∧(x.2.1.length * 8≤aA∧∀ (x_1:Int),x_1∈x.2.1→ak .i64 x_1)∧x.2.2.length * 8≤aA∧∀ (x_1:Int),x_1∈x.2.2→ak .i64 x_1)→True→True∧(decide ((am x.1 x.2.1 x.2.2).2≠0)=true→([]:List (Int×Int))=(bo x.1 x.2.1 x.2.2).1∧(am x.1 x.2.1 x.2.2).2=(bo x.1 x.2.1 x.2.2).2∧True)∧(decide ((am x.1 x.2.1 x.2.2).2≠0)=false→dD x.2.1 (am x.1 x.2.1 x.2.2).1∧((0:Int)≤0∧0≤(↑x.2.1.length:Int)∧ar x.2.1 (am x.1 x.2.1 x.2.2).1 x.2.2=ar x.2.1 (am x.1 x.2.1 x.2.2).1 x.2.2∧([]:List (Int×Int))=eQ x.2.2 x.2.1 (am x.1 x.2.1 x.2.2).1 (Int.toNat 0)∧0=ba x.2.2 x.2.1 (am x.1 x.2.1 x.2.2).1 (Int.toNat 0))∧∀ (x_1:List (Int×Int)×Int×Int),0≤x_1.2.2∧x_1.2.2≤(↑x.2.1.length:Int)∧ar x.2.1 (am x.1 x.2.1 x.2.2).1 x.2.2=ar x.2.1 (am x.1 x.2.1 x.2.2).1 x.2.2∧x_1.1=eQ x.2.2 x.2.1 (am x.1 x.2.1 x.2.2).1 x_1.2.2.toNat∧x_1.2.1=ba x.2.2 x.2.1 (am x.1 x.2.1 x.2.2).1 x_1.2.2.toNat→(decide (x_1.2.2<(↑(ar x.2.1 (am x.1 x.2.1 x.2.2).1 x.2.2).length:Int))=true→0≤x_1.2.2∧x_1.2.2<(↑(ar x.2.1 (am x.1 x.2.1 x.2.2).1 x.2.2).length:Int)∧x_1.2.2.toNat<(ar x.2.1 (am x.1 x.2.1 x.2.2).1 x.2.2).length∧∀ (_:Array Value),(decide (x_1.2.1<(ar x.2.1 (am x.1 x.2.1 x.2.2).1 x.2.2).getD x_1.2.2.toNat 0)=true→ak .i64 ((ar x.2.1 (am x.1 x.2.1 x.2.2).1 x.2.2).getD x_1.2.2.toNat 0 - x_1.2.1)∧(x_1.1.length+[(x_1.2.1,(ar x.2.1 (am x.1 x.2.1 x.2.2).1 x.2.2).getD x_1.2.2.toNat 0 - x_1.2.1)].length) * (8+8)≤aA∧0≤x_1.2.2∧x_1.2.2<(↑(am x.1 x.2.1 x.2.2).1.length:Int)∧x_1.2.2.toNat<(am x.1 x.2.1 x.2.2).1.length∧ak .i64 ((ar x.2.1 (am x.1 x.2.1 x.2.2).1 x.2.2).getD x_1.2.2.toNat 0+(am x.1 x.2.1 x.2.2).1.getD x_1.2.2.toNat 0)∧ak .i64 (x_1.2.2+1)∧(0≤x_1.2.2+1∧x_1.2.2+1≤(↑x.2.1.length:Int)∧ar x.2.1 (am x.1 x.2.1 x.2.2).1 x.2.2=ar x.2.1 (am x.1 x.2.1 x.2.2).1 x.2.2∧x_1.1++[(x_1.2.1,(ar x.2.1 (am x.1 x.2.1 x.2.2).1 x.2.2).getD x_1.2.2.toNat 0 - x_1.2.1)]=eQ x.2.2 x.2.1 (am x.1 x.2.1 x.2.2).1 (x_1.2.2+1).toNat∧(ar x.2.1 (am x.1 x.2.1 x.2.2).1 x.2.2).getD x_1.2.2.toNat 0+(am x.1 x.2.1 x.2.2).1.getD x_1.2.2.toNat 0=ba x.2.2 x.2.1 (am x.1 x.2.1 x.2.2).1 (x_1.2.2+1).toNat)∧((↑x.2.1.length:Int) - (x_1.2.2+1)).toNat<((↑x.2.1.length:Int) - x_1.2.2).toNat)∧(decide (x_1.2.1<(ar x.2.1 (am x.1 x.2.1 x.2.2).1 x.2.2).getD x_1.2.2.toNat 0)=false→0≤x_1.2.2∧x_1.2.2<(↑(am x.1 x.2.1 x.2.2).1.length:Int)∧x_1.2.2.toNat<(am x.1 x.2.1 x.2.2).1.length∧ak .i64 ((ar x.2.1 (am x.1 x.2.1 x.2.2).1 x.2.2).getD x_1.2.2.toNat 0+(am x.1 x.2.1 x.2.2).1.getD x_1.2.2.toNat 0)∧ak .i64 (x_1.2.2+1)∧(0≤x_1.2.2+1∧x_1.2.2+1≤(↑x.2.1.length:Int)∧ar x.2.1 (am x.1 x.2.1 x.2.2).1 x.2.2=ar x.2.1 (am x.1 x.2.1 x.2.2).1 x.2.2∧x_1.1=eQ x.2.2 x.2.1 (am x.1 x.2.1 x.2.2).1 (x_1.2.2+1).toNat∧(ar x.2.1 (am x.1 x.2.1 x.2.2).1 x.2.2).getD x_1.2.2.toNat 0+(am x.1 x.2.1 x.2.2).1.getD x_1.2.2.toNat 0=ba x.2.2 x.2.1 (am x.1 x.2.1 x.2.2).1 (x_1.2.2+1).toNat)∧((↑x.2.1.length:Int) - (x_1.2.2+1)).toNat<((↑x.2.1.length:Int) - x_1.2.2).toNat))∧(decide (x_1.2.2<(↑(ar x.2.1 (am x.1 x.2.1 x.2.2).1 x.2.2).length:Int))=false→∀ (_:Array Value),(decide (x_1.2.1<(↑x.1.length:Int))=true→ak .i64 ((↑x.1.length:Int) - x_1.2.1)∧(x_1.1.length+[(x_1.2.1,(↑x.1.length:Int) - x_1.2.1)].length) * (8+8)≤aA∧x_1.1++[(x_1.2.1,(↑x.1.length:Int) - x_1.2.1)]=(bo x.1 x.2.1 x.2.2).1∧0=(bo x.1 x.2.1 x.2.2).2∧True)∧(decide (x_1.2.1<(↑x.1.length:Int))=false→x_1.1=(bo x.1 x.2.1 x.2.2).1∧0=(bo x.1 x.2.1 x.2.2).2∧True)))
theorem xT:qM:=by
 unfold qM;intro ⟨a,keep,pinned⟩ ⟨⟨ha,_⟩,_⟩ _;unfold aA at ha;simp only at ha ⊢;have hF:bo a keep pinned=(if (am a keep pinned).2≠0 then [] else bT a.length keep (am a keep pinned).1 pinned,(am a keep pinned).2):=rfl;rw [hF];refine ⟨trivial,fun hc=>?_,fun hc=>?_⟩
 ·rw [if_pos (of_decide_eq_true hc)];exact ⟨rfl,rfl,trivial⟩
 have hz:(am a keep pinned).2=0:=by simpa using of_decide_eq_false hc
 have hp:=mv hz;rw [if_neg (by omega),hz];generalize (am a keep pinned).1=long at *;have hlen:(ar keep long pinned).length=keep.length:=by simp [ar]
 have hp':=hp;obtain ⟨p1,p2,p3,p4⟩:=hp';rw [hlen];refine ⟨hp,⟨by omega,by omega,trivial,rfl,rfl⟩,fun ⟨out,e,i⟩ ⟨h0,h1,_,h2,h3⟩=>⟨fun hlt=>?_,fun hge=>?_⟩⟩
 ·have hlt':i<(keep.length:Int):=of_decide_eq_true hlt;simp only at h0 h1 h2 h3 ⊢;have ht:=kc pinned hp (i:=i.toNat) (by omega);have he:=cf pinned hp i.toNat (by omega);have he':=cf pinned hp (i.toNat+1) (by omega);have hE':ba pinned keep long (i.toNat+1)=cT pinned keep long i.toNat+long.getD i.toNat 0:=rfl
  have hg:(ar keep long pinned).getD i.toNat 0=cT pinned keep long i.toNat:=by
   unfold ar;rw [List.getD_eq_getElem?_getD,List.getElem?_map,List.getElem?_range (by omega)];rfl
  have hl:=ii pinned keep long i.toNat;rw [← h2] at hl;have hs:(i+1).toNat=i.toNat+1:=by omega
  have hG:eQ pinned keep long (i.toNat+1)=out++(if ba pinned keep long i.toNat<cT pinned keep long i.toNat then [(ba pinned keep long i.toNat,cT pinned keep long i.toNat - ba pinned keep long i.toNat)] else []):=by
   rw [h2];rfl
  rw [hg,hs,hG,hE',← h3];rw [hE'] at he';rw [← h3] at he;unfold aA;simp only [ak,List.length_cons,List.length_nil];refine ⟨h0,hlt',by omega,fun _=>⟨fun hc=>?_,fun hc=>?_⟩⟩
  ·rw [if_pos (of_decide_eq_true hc)];exact ⟨by omega,by omega,h0,by omega,by omega,by omega,by omega,⟨by omega,by omega,trivial,rfl,trivial⟩,by omega⟩
  ·rw [if_neg (of_decide_eq_false hc),List.append_nil];exact ⟨h0,by omega,by omega,by omega,by omega,⟨by omega,by omega,trivial,rfl,trivial⟩,by omega⟩
 ·have hge:¬ i<(keep.length:Int):=of_decide_eq_false hge;simp only at h0 h1 h2 h3 ⊢;have hi:i.toNat=keep.length:=by omega
  rw [hi] at h2 h3;have he:=cf pinned hp keep.length (by omega);have hl:=ii pinned keep long keep.length
  have hP:bT a.length keep long pinned=out++(if ba pinned keep long keep.length<a.length then [(ba pinned keep long keep.length,a.length - ba pinned keep long keep.length)] else []):=by
   rw [h2];rfl
  rw [← h2] at hl;rw [hP,← h3];rw [← h3] at he;unfold aA;simp only [ak,List.length_cons,List.length_nil];refine fun _=>⟨fun hc=>?_,fun hc=>?_⟩
  ·rw [if_pos (of_decide_eq_true hc)];exact ⟨by omega,by omega,rfl,trivial,trivial⟩
  ·rw [if_neg (of_decide_eq_false hc),List.append_nil];exact ⟨rfl,trivial,trivial⟩
theorem BK:AM.ok Tryz.prog 160:=aD (ann:=CG) (ae BN (ae Fg aq)) Tryz.func160 (by kernel_rfl) xT
theorem xp (a:List Int) (at_:Int):af (aj at_ (aa a).1).1=0:=by
 rcases gl at_ (aa a).1 with e | ⟨s,h1,_,_,e⟩
 ·rw [e]; rfl
 ·rw [e]; exact (dw a s h1).2.2
def EL:Nat→Option LoopGen
 | 3=>some { rd:=[.dat 0 (.arr a8),.dat 13 (.arr ty_I),.dat 2 (.arr ty_I)],A:=fun ((a,keep,pinned):List Int×List Int×List Int)=>{ cs:=[.own 7 3 ty_I,.dat 15 ty_I],inv:=fun ((out,i):List Int×Int)=>0≤i∧i≤keep.length∧out=(List.range i.toNat).map (cT pinned keep (keep.map (aE (aa a).1))),mu:=fun ((_,i):List Int×Int)=>(keep.length - i).toNat } }
 | 9=>some { rd:=[.dat 0 (.arr a8),.dat 1 (.arr ty_I),.dat 2 (.arr ty_I),.dat 8 ty_I],A:=fun ((a,keep,pinned,i):List Int×List Int×List Int×Int)=>{ cs:=[.dat 9 ty_I,.dat 10 ty_I],inv:=fun ((s,k):Int×Int)=>-1≤k∧k<i∧0≤s∧s+ba pinned keep (keep.map (aE (aa a).1)) (k+1).toNat=ba pinned keep (keep.map (aE (aa a).1)) i.toNat,mu:=fun ((_,k):Int×Int)=>(k+1).toNat } }
 | _=>none
def DD:Spec:={ Ts:=[.arr a8,.arr ty_I,.arr ty_I],Rs:=[.own 3 ty_I],pre:=fun ((a,keep,_):List Int×List Int×List Int)=>dD keep (keep.map (aE (aa a).1)),F:=fun ((a,keep,pinned):List Int×List Int×List Int)=>ar keep (keep.map (aE (aa a).1)) pinned }
def ti:Prop :=
  ∀ (x:List Int×List Int×List Int),((x.1.length * 8≤aA∧∀ (x_1:Int),x_1∈x.1→ak .u64 x_1)∧(x.2.1.length * 8≤aA∧∀ (x_1:Int),x_1∈x.2.1→ak .i64 x_1)∧x.2.2.length * 8≤aA∧∀ (x_1:Int),x_1∈x.2.2→ak .i64 x_1)→dD x.2.1 (List.map (aE (aa x.1).1) x.2.1)→((0:Int)≤0∧0≤(↑x.2.1.length:Int)∧([]:List Int)=List.map (cT x.2.2 x.2.1 (List.map (aE (aa x.1).1) x.2.1)) (List.range (Int.toNat 0)))∧∀ (x_1:List Int×Int),0≤x_1.2∧x_1.2≤(↑x.2.1.length:Int)∧x_1.1=List.map (cT x.2.2 x.2.1 (List.map (aE (aa x.1).1) x.2.1)) (List.range x_1.2.toNat)→(decide (x_1.2<(↑x.2.1.length:Int))=true→0≤x_1.2∧x_1.2<(↑x.2.1.length:Int)∧True∧(cP x.2.2 (x.2.1.getD x_1.2.toNat 0)=true→0≤x_1.2∧x_1.2<(↑x.2.1.length:Int)∧(x_1.1.length+[x.2.1.getD x_1.2.toNat 0].length) * 8≤aA∧ak .i64 (x_1.2+1)∧(0≤x_1.2+1∧x_1.2+1≤(↑x.2.1.length:Int)∧x_1.1++[x.2.1.getD x_1.2.toNat 0]=List.map (cT x.2.2 x.2.1 (List.map (aE (aa x.1).1) x.2.1)) (List.range (x_1.2+1).toNat))∧((↑x.2.1.length:Int) - (x_1.2+1)).toNat<((↑x.2.1.length:Int) - x_1.2).toNat)∧(cP x.2.2 (x.2.1.getD x_1.2.toNat 0)=false→ak .i64 (x_1.2 - 1)∧((-1)≤x_1.2 - 1∧x_1.2 - 1<x_1.2∧(0:Int)≤0∧0+ba x.2.2 x.2.1 (List.map (aE (aa x.1).1) x.2.1) (x_1.2 - 1+1).toNat=ba x.2.2 x.2.1 (List.map (aE (aa x.1).1) x.2.1) x_1.2.toNat)∧∀ (x_2:Int×Int),(-1)≤x_2.2∧x_2.2<x_1.2∧0≤x_2.1∧x_2.1+ba x.2.2 x.2.1 (List.map (aE (aa x.1).1) x.2.1) (x_2.2+1).toNat=ba x.2.2 x.2.1 (List.map (aE (aa x.1).1) x.2.1) x_1.2.toNat→(decide (0≤x_2.2)=true→0≤x_2.2∧x_2.2<(↑x.2.1.length:Int)∧True∧(ak .i64 (1+(aj (x.2.1.getD x_2.2.toNat 0) (aa x.1).1).1.1)∧ak .i64 (1+(aj (x.2.1.getD x_2.2.toNat 0) (aa x.1).1).1.1+(aj (x.2.1.getD x_2.2.toNat 0) (aa x.1).1).1.2.1))∧ak .i64 (x_2.1+ac (aj (x.2.1.getD x_2.2.toNat 0) (aa x.1).1).1)∧0≤x_2.2∧x_2.2<(↑x.2.1.length:Int)∧True∧(cP x.2.2 (x.2.1.getD x_2.2.toNat 0)=true→0≤x_2.2∧x_2.2<(↑x.2.1.length:Int)∧ak .i64 (x_2.1+ac (aj (x.2.1.getD x_2.2.toNat 0) (aa x.1).1).1+x.2.1.getD x_2.2.toNat 0)∧(x_1.1.length+[x_2.1+ac (aj (x.2.1.getD x_2.2.toNat 0) (aa x.1).1).1+x.2.1.getD x_2.2.toNat 0].length) * 8≤aA∧ak .i64 (x_1.2+1)∧(0≤x_1.2+1∧x_1.2+1≤(↑x.2.1.length:Int)∧x_1.1++[x_2.1+ac (aj (x.2.1.getD x_2.2.toNat 0) (aa x.1).1).1+x.2.1.getD x_2.2.toNat 0]=List.map (cT x.2.2 x.2.1 (List.map (aE (aa x.1).1) x.2.1)) (List.range (x_1.2+1).toNat))∧((↑x.2.1.length:Int) - (x_1.2+1)).toNat<((↑x.2.1.length:Int) - x_1.2).toNat)∧(cP x.2.2 (x.2.1.getD x_2.2.toNat 0)=false→ak .i64 (x_2.2 - 1)∧((-1)≤x_2.2 - 1∧x_2.2 - 1<x_1.2∧0≤x_2.1+ac (aj (x.2.1.getD x_2.2.toNat 0) (aa x.1).1).1∧x_2.1+ac (aj (x.2.1.getD x_2.2.toNat 0) (aa x.1).1).1+ba x.2.2 x.2.1 (List.map (aE (aa x.1).1) x.2.1) (x_2.2 - 1+1).toNat=ba x.2.2 x.2.1 (List.map (aE (aa x.1).1) x.2.1) x_1.2.toNat)∧(x_2.2 - 1+1).toNat<(x_2.2+1).toNat))∧(decide (0≤x_2.2)=false→(x_1.1.length+[x_2.1].length) * 8≤aA∧ak .i64 (x_1.2+1)∧(0≤x_1.2+1∧x_1.2+1≤(↑x.2.1.length:Int)∧x_1.1++[x_2.1]=List.map (cT x.2.2 x.2.1 (List.map (aE (aa x.1).1) x.2.1)) (List.range (x_1.2+1).toNat))∧((↑x.2.1.length:Int) - (x_1.2+1)).toNat<((↑x.2.1.length:Int) - x_1.2).toNat)))∧(decide (x_1.2<(↑x.2.1.length:Int))=false→x_1.1=ar x.2.1 (List.map (aE (aa x.1).1) x.2.1) x.2.2∧True)
theorem Ag:ti:=by
 unfold ti;intro ⟨a,keep,pinned⟩ _ hp;have hp':=hp;obtain ⟨p1,p2,p3,p4⟩:=hp';simp only at p1 p2 p3 p4 hp ⊢
 have hG:∀ k:Nat,k<keep.length→(keep.map (aE (aa a).1)).getD k 0=ac (aj (keep.getD k 0) (aa a).1).1:=by
  intro k hk;rw [List.getD_eq_getElem?_getD,List.getElem?_map,List.getD_eq_getElem?_getD,List.getElem?_eq_getElem hk];rfl
 have hH:=fun x=>bj (xp a x)
 have hrg:=fun i hi=>cf (i:=i) pinned hp hi
 have hE:∀ i:Nat,ba pinned keep (keep.map (aE (aa a).1)) (i+1)=cT pinned keep (keep.map (aE (aa a).1)) i+(keep.map (aE (aa a).1)).getD i 0:=fun _=>rfl
 have hT:∀ i:Nat,cT pinned keep (keep.map (aE (aa a).1)) i=if cP pinned (keep.getD i 0)=true then keep.getD i 0 else ba pinned keep (keep.map (aE (aa a).1)) i:=fun _=>rfl
 have hP:ar keep (keep.map (aE (aa a).1)) pinned=(List.range keep.length).map (cT pinned keep (keep.map (aE (aa a).1))):=rfl;rw [hP];clear hP;generalize keep.map (aE (aa a).1)=long at *;unfold aA;simp only [ak];refine ⟨⟨by omega,by omega,rfl⟩,fun ⟨out,i⟩ ⟨h0,h1,h2⟩=>⟨fun hlt=>?_,fun hge=>?_⟩⟩
 ·have hlt':i<(keep.length:Int):=of_decide_eq_true hlt;simp only at h0 h1 h2 ⊢;have hl:out.length=i.toNat:=by rw [h2]; simp
  have hs:(List.range (i+1).toNat).map (cT pinned keep long)=out++[cT pinned keep long i.toNat]:=by
   rw [show (i+1).toNat=i.toNat+1 by omega,List.range_succ,List.map_append,← h2];rfl
  have hri:=hrg i.toNat (by omega);rw [hs,hT];simp only [List.length_cons,List.length_nil];refine ⟨h0,hlt',trivial,fun hc=>?_,fun hc=>?_⟩
  ·rw [if_pos hc];exact ⟨h0,hlt',by omega,by omega,⟨by omega,by omega,rfl⟩,by omega⟩
  ·rw [if_neg (by rw [hc]; simp)];refine ⟨by omega,⟨by omega,by omega,by omega,by rw [show i - 1+1=i by omega]; omega⟩,fun ⟨s,k⟩ ⟨k0,k1,k2,k3⟩=>⟨fun hk=>?_,fun hk=>?_⟩⟩
   ·have hk:0≤k:=of_decide_eq_true hk;simp only at k0 k1 k2 k3 ⊢;have hh:=hH (keep.getD k.toNat 0);have hx:=p3 _ (aI (0:Int) (xs:=keep) (i:=k) hk (by omega));have hrk:=hrg (k+1).toNat (by omega);have hrk0:=hrg k.toNat (by omega);rw [show (k+1).toNat=k.toNat+1 by omega,hE,hT,hG k.toNat (by omega)] at k3 hrk;have hLd:ac (aj (keep.getD k.toNat 0) (aa a).1).1=1+(aj (keep.getD k.toNat 0) (aa a).1).1.1+(aj (keep.getD k.toNat 0) (aa a).1).1.2.1:=rfl;generalize ac (aj (keep.getD k.toNat 0) (aa a).1).1=n at *;generalize (aj (keep.getD k.toNat 0) (aa a).1).1=hd at *;rw [show k - 1+1=k by omega];refine ⟨hk,by omega,trivial,⟨by omega,by omega⟩,by omega,hk,by omega,trivial,fun hp1=>?_,fun hp1=>?_⟩
    ·rw [if_pos hp1] at k3 hrk;refine ⟨hk,by omega,by omega,by omega,by omega,⟨by omega,by omega,?_⟩,by omega⟩;rw [show s+n+keep.getD k.toNat 0=ba pinned keep long i.toNat by omega]
    ·rw [if_neg (by rw [hp1]; simp)] at k3 hrk;exact ⟨by omega,⟨by omega,by omega,by omega,by omega⟩,by omega⟩
   ·have hk:¬ 0≤k:=of_decide_eq_false hk;simp only at k0 k1 k2 k3 ⊢;have e0:ba pinned keep long 0=0:=rfl;rw [show (k+1).toNat=0 by omega,e0] at k3;refine ⟨by omega,by omega,⟨by omega,by omega,?_⟩,by omega⟩;rw [show s=ba pinned keep long i.toNat by omega]
 ·have hge:¬ i<(keep.length:Int):=of_decide_eq_false hge;simp only at h0 h1 h2;rw [h2,show i.toNat=keep.length by omega];exact ⟨rfl,trivial⟩
theorem nr:DD.ok Tryz.prog 77:=aD (ann:=EL) (ae tK (ae gX (ae gJ aq))) Tryz.func77 (by kernel_rfl) Ag
def go (l:List aC) (keep to:List Int) (k:Int):Bool:=(List.range keep.length).any fun i=>decide (to.getD i 0≤k)&&decide (k<to.getD i 0+aE l (keep.getD i 0))
def CH:Nat→Option LoopGen
 | 2=>some { rd:=[.dat 0 ty_I,.dat 10 (.arr ty_I),.dat 2 (.ref (.arr a8)),.dat 3 (.ref (.arr ty_I))],A:=fun ((k,keep,a,to):Int×List Int×List Int×List Int)=>{ cs:=[.dat 12 ty_I],inv:=fun (i:Int)=>0≤i∧i≤keep.length∧((List.range i.toNat).any fun i=>decide (to.getD i 0≤k)&&decide (k<to.getD i 0+aE (aa a).1 (keep.getD i 0)))=false,mu:=fun (i:Int)=>(keep.length - i).toNat } }
 | _=>none
def AN:Spec:={ Ts:=[ty_I,.ref (.arr ty_I),.ref (.arr a8),.ref (.arr ty_I)],Rs:=[.dat .bool],pre:=fun ((_,keep,_,to):Int×List Int×List Int×List Int)=>to.length=keep.length∧keep.length≤256∧∀ x∈to,0≤x∧x≤200000,F:=fun ((k,keep,a,to):Int×List Int×List Int×List Int)=>!go (aa a).1 keep to k }
def qN:Prop :=
  ∀ (x:Int×List Int×List Int×List Int),(ak .i64 x.1∧(x.2.1.length * 8≤aA∧∀ (x_1:Int),x_1∈x.2.1→ak .i64 x_1)∧(x.2.2.1.length * 8≤aA∧∀ (x_1:Int),x_1∈x.2.2.1→ak .u64 x_1)∧x.2.2.2.length * 8≤aA∧∀ (x_1:Int),x_1∈x.2.2.2→ak .i64 x_1)→(x.2.2.2.length=x.2.1.length∧x.2.1.length≤256∧∀ (x_1:Int),x_1∈x.2.2.2→0≤x_1∧x_1≤200000)→((0:Int)≤0∧0≤(↑x.2.1.length:Int)∧((List.range (Int.toNat 0)).any fun (i:Nat)=>decide (x.2.2.2.getD i 0≤x.1)&&decide (x.1<x.2.2.2.getD i 0+aE (aa x.2.2.1).1 (x.2.1.getD i 0)))=false)∧∀ (x_1:Int),0≤x_1∧x_1≤(↑x.2.1.length:Int)∧((List.range x_1.toNat).any fun (i:Nat)=>decide (x.2.2.2.getD i 0≤x.1)&&decide (x.1<x.2.2.2.getD i 0+aE (aa x.2.2.1).1 (x.2.1.getD i 0)))=false→(decide (x_1<(↑x.2.1.length:Int))=true→0≤x_1∧x_1<(↑x.2.1.length:Int)∧True∧0≤x_1∧x_1<(↑x.2.2.2.length:Int)∧(decide (x.2.2.2.getD x_1.toNat 0≤x.1)=true→0≤x_1)∧(decide (x.2.2.2.getD x_1.toNat 0≤x.1)=true→x_1<(↑x.2.2.2.length:Int))∧(decide (x.2.2.2.getD x_1.toNat 0≤x.1)=true→ak .i64 (1+(aj (x.2.1.getD x_1.toNat 0) (aa x.2.2.1).1).1.1)∧ak .i64 (1+(aj (x.2.1.getD x_1.toNat 0) (aa x.2.2.1).1).1.1+(aj (x.2.1.getD x_1.toNat 0) (aa x.2.2.1).1).1.2.1))∧(decide (x.2.2.2.getD x_1.toNat 0≤x.1)=true→ak .i64 (x.2.2.2.getD x_1.toNat 0+ac (aj (x.2.1.getD x_1.toNat 0) (aa x.2.2.1).1).1))∧((decide (x.2.2.2.getD x_1.toNat 0≤x.1)&&decide (x.1<x.2.2.2.getD x_1.toNat 0+ac (aj (x.2.1.getD x_1.toNat 0) (aa x.2.2.1).1).1))=true→false=!go (aa x.2.2.1).1 x.2.1 x.2.2.2 x.1∧True)∧((decide (x.2.2.2.getD x_1.toNat 0≤x.1)&&decide (x.1<x.2.2.2.getD x_1.toNat 0+ac (aj (x.2.1.getD x_1.toNat 0) (aa x.2.2.1).1).1))=false→ak .i64 (x_1+1)∧(0≤x_1+1∧x_1+1≤(↑x.2.1.length:Int)∧((List.range (x_1+1).toNat).any fun (i:Nat)=>decide (x.2.2.2.getD i 0≤x.1)&&decide (x.1<x.2.2.2.getD i 0+aE (aa x.2.2.1).1 (x.2.1.getD i 0)))=false)∧((↑x.2.1.length:Int) - (x_1+1)).toNat<((↑x.2.1.length:Int) - x_1).toNat))∧(decide (x_1<(↑x.2.1.length:Int))=false→true=!go (aa x.2.2.1).1 x.2.1 x.2.2.2 x.1∧True)
theorem xU:qN:=by
 unfold qN;intro ⟨k,keep,a,to⟩ _ ⟨p1,p2,p3⟩;simp only at p1 p2 p3 ⊢;have hC:go (aa a).1 keep to k=(List.range keep.length).any fun i=>decide (to.getD i 0≤k)&&decide (k<to.getD i 0+aE (aa a).1 (keep.getD i 0)):=rfl
 rw [hC];generalize hf:(fun i:Nat=>decide (to.getD i 0≤k)&&decide (k<to.getD i 0+aE (aa a).1 (keep.getD i 0)))=f;simp only [ak];refine ⟨⟨by omega,by omega,rfl⟩,fun i ⟨h0,h1,h2⟩=>⟨fun hlt=>?_,fun hge=>?_⟩⟩
 ·have hlt:i<(keep.length:Int):=of_decide_eq_true hlt;have hh:=bj (xp a (keep.getD i.toNat 0));have hx:=p3 _ (aI (0:Int) (xs:=to) h0 (by omega));have hfi:f i.toNat=(decide (to.getD i.toNat 0≤k)&&decide (k<to.getD i.toNat 0+ac (aj (keep.getD i.toNat 0) (aa a).1).1)):=by rw [← hf]; rfl
  have hLd:ac (aj (keep.getD i.toNat 0) (aa a).1).1=1+(aj (keep.getD i.toNat 0) (aa a).1).1.1+(aj (keep.getD i.toNat 0) (aa a).1).1.2.1:=rfl;rw [← hfi];refine ⟨h0,hlt,trivial,h0,by omega,fun _=>h0,fun _=>by omega,fun _=>⟨by omega,by omega⟩,fun _=>by omega,fun hc=>?_,fun hc=>⟨by omega,⟨by omega,by omega,?_⟩,by omega⟩⟩
  ·have:(List.range keep.length).any f=true:=List.any_eq_true.2 ⟨i.toNat,List.mem_range.2 (by omega),hc⟩;rw [this];exact ⟨rfl,trivial⟩
  ·rw [show (i+1).toNat=i.toNat+1 by omega,List.range_succ,List.any_append,h2];simpa using hc
 ·have hge:¬ i<(keep.length:Int):=of_decide_eq_false hge;rw [show keep.length=i.toNat by omega,h2];exact ⟨rfl,trivial⟩
theorem BL:AN.ok Tryz.prog 147:=aD (ann:=CH) (ae gX (ae gJ aq)) Tryz.func147 (by kernel_rfl) xU
def yw:Spec:={ Ts:=[.arr a8,.arr ty_I,.arr ty_I],Rs:=[.own 129 ft],pre:=fun ((a,keep,_):List Int×List Int×List Int)=>a.length≤256∧dD keep (keep.map (aE (aa a).1)),F:=fun ((a,keep,pinned):List Int×List Int×List Int)=>bi (fun k=>!go (aa a).1 keep (ar keep (keep.map (aE (aa a).1)) pinned) k) a.length 0 [] }
def ot:Prop :=
  ∀ (x:List Int×List Int×List Int),((x.1.length * 8≤aA∧∀ (x_1:Int),x_1∈x.1→ak .u64 x_1)∧(x.2.1.length * 8≤aA∧∀ (x_1:Int),x_1∈x.2.1→ak .i64 x_1)∧x.2.2.length * 8≤aA∧∀ (x_1:Int),x_1∈x.2.2→ak .i64 x_1)→x.1.length≤256∧dD x.2.1 (List.map (aE (aa x.1).1) x.2.1)→dD x.2.1 (List.map (aE (aa x.1).1) x.2.1)∧(0≤(↑x.1.length:Int)∧(↑x.1.length:Int)≤300∧∀ (i:Int),0≤i→i<(↑x.1.length:Int)→(fun (x_1:Int)=>(ar x.2.1 (List.map (aE (aa x.1).1) x.2.1) x.2.2).length=x.2.1.length∧x.2.1.length≤256∧∀ (x_2:Int),x_2∈ar x.2.1 (List.map (aE (aa x.1).1) x.2.1) x.2.2→0≤x_2∧x_2≤200000,fun (x_1:Int)=>!go (aa x.1).1 x.2.1 (ar x.2.1 (List.map (aE (aa x.1).1) x.2.1) x.2.2) x_1).1 i)∧bi (fun (x_1:Int)=>!go (aa x.1).1 x.2.1 (ar x.2.1 (List.map (aE (aa x.1).1) x.2.1) x.2.2) x_1) (↑x.1.length:Int).toNat 0 ([]:List bW)=bi (fun (k:Int)=>!go (aa x.1).1 x.2.1 (ar x.2.1 (List.map (aE (aa x.1).1) x.2.1) x.2.2) k) x.1.length 0 ([]:List bW)∧True
theorem uY:ot:=by
 unfold ot;intro ⟨a,keep,pinned⟩ _ ⟨hal,hp⟩;simp only at hal hp ⊢;refine ⟨hp,⟨by omega,by omega,fun _ _ _=>⟨by simp [ar],hp.2.1,fun x hx=>?_⟩⟩,rfl,trivial⟩;unfold ar at hx;obtain ⟨i,hi,rfl⟩:=List.mem_map.1 hx;have hi:=List.mem_range.1 hi;have:=kc pinned hp hi;have:=hp.2.1;omega
theorem y7:yw.ok Tryz.prog 118:=aD (ann:=cp) (ae nr (ae BL (ae BH aq))) Tryz.func118 (by kernel_rfl) uY
end
section
open Go
set_option maxRecDepth 100000
set_option maxHeartbeats 1000000
theorem nc:∀ {l:List aC} {s e:Int},fo s e l→∀ x∈l,s≤x.1∧1≤ac x.2
 | [],_,_,_,x,h=>by cases h
 | y::l,s,e,⟨h1,h2,h3⟩,x,h=>by
  rcases List.mem_cons.1 h with rfl | h
  ·omega
  ·have:=nc h3 x h;omega
theorem sE:∀ {l:List aC} {s e:Int},fo s e l→∀ x∈l,∀ y∈l,x.1<y.1→x.1+ac x.2≤y.1
 | [],_,_,_,x,h,_,_,_=>by cases h
 | z::l,s,e,⟨h1,h2,h3⟩,x,hx,y,hy,hlt=>by
  rcases List.mem_cons.1 hx with hx1 | hx1 <;> rcases List.mem_cons.1 hy with hy1 | hy1
  ·subst hx1; subst hy1; omega
  ·have:=nc h3 y hy1;subst hx1; omega
  ·have:=nc h3 x hx1;subst hy1; omega
  ·exact sE h3 x hx1 y hy1 hlt
theorem A9 (f:Int→Bool) {n m:Nat} {k:Int} {out:List bW} (hn:0<n) (hk:0≤k) (hp:k=0∨f (k - 1)=false) (h:∀ i,k≤i→i<k+n→f i=true) :
  bi f (n+m) k out=bi f m (k+n) (out++[(k,(n:Int))]):=by
 obtain ⟨n,rfl⟩:∃ j,n=j+1:=⟨n - 1,by omega⟩;rw [show n+1+m=(n+m)+1 by omega];simp only [bi]
 have e:(decide (0<k)&&f (k - 1))=false:=by
  rcases hp with rfl | hp
  ·simp
  ·rw [hp]; simp
 rw [if_pos (h k (by omega) (by omega)),e,if_neg (by simp)];rw [pC f n m (k+1) _ (by simp) (by omega) (fun i h1 h2=>h i (by omega) (by omega))];rw [show k+1+(n:Int)=k+((n+1:Nat):Int) by omega];congr 1;by_cases hz:n=0
 ·subst hz; simp
 ·rw [if_neg hz,qj];congr 3;omega
theorem Dm {pinned keep long:List Int} {i:Nat} (hle:ba pinned keep long i≤keep.getD i 0):ba pinned keep long i≤cT pinned keep long i∧cT pinned keep long i≤keep.getD i 0:=by
 unfold cT;split <;> omega
theorem zE {pinned keep long:List Int} {N:Int} (hp:dD keep long) (hd:∀ i:Nat,i+1<keep.length→keep.getD i 0+long.getD i 0≤keep.getD (i+1) 0) (hN:∀ i:Nat,i<keep.length→keep.getD i 0+long.getD i 0≤N) :
  ∀ i:Nat,i<keep.length→ba pinned keep long i≤keep.getD i 0
 | 0,hi=>by
  have:=hp.2.2.1 _ (aI (0:Int) (xs:=keep) (i:=(0:Nat)) (by omega) (by omega));simp only [Int.toNat_natCast] at this;simp only [ba];omega
 | i+1,hi=>by
  have ih:=zE (pinned:=pinned) hp hd hN i (by omega);have h1:=Dm ih;have h2:=hd i hi;have e:ba pinned keep long (i+1)=cT pinned keep long i+long.getD i 0:=rfl;rw [e];omega
theorem Hj {pinned keep long:List Int} {n:Nat} {f:Int→Bool} (hp:dD keep long) (hd:∀ i:Nat,i+1<keep.length→keep.getD i 0+long.getD i 0≤keep.getD (i+1) 0) (hN:∀ i:Nat,i<keep.length→keep.getD i 0+long.getD i 0≤(n:Int))
  (hf:∀ k,f k=!((List.range keep.length).any fun i=>decide (cT pinned keep long i≤k)&&decide (k<cT pinned keep long i+long.getD i 0))):bi f n 0 []=bT n keep long pinned:=by
 have hE:∀ i:Nat,ba pinned keep long (i+1)=cT pinned keep long i+long.getD i 0:=fun _=>rfl
 have hle:=zE (pinned:=pinned) hp hd hN
 have hpos:∀ i:Nat,i<keep.length→1≤long.getD i 0:=fun i hi=>by
  have:=hp.2.2.2 _ (aI (0:Int) (xs:=long) (i:=i) (by omega) (by have:=hp.1; omega));simp only [Int.toNat_natCast] at this;exact this.1
 have hto:∀ i:Nat,i<keep.length→ba pinned keep long i≤cT pinned keep long i∧cT pinned keep long i+long.getD i 0≤(n:Int):=fun i hi=>by
  have h1:=Dm (hle i hi);have h2:=hN i hi;omega
 have mono:∀ j i:Nat,i≤j→j≤keep.length→ba pinned keep long i≤ba pinned keep long j:=by
  intro j
  induction j with
  | zero=>intro i h1 _; rw [show i=0 by omega]; exact Int.le_refl _
  | succ j ih =>
   intro i h1 h2;by_cases e:i=j+1
   ·rw [e]; exact Int.le_refl _
   ·have:=ih i (by omega) (by omega);have h3:=hto j (by omega);have h4:=hpos j (by omega);rw [hE];omega
 have h0:∀ i,i≤keep.length→0≤ba pinned keep long i:=fun i hi=>(cf pinned hp i hi).1
 have hen:∀ i,i≤keep.length→ba pinned keep long i≤(n:Int):=by
  intro i hi;cases i with
  | zero=>simp [ba]
  | succ i=>have:=hto i (by omega); rw [hE]; omega
 have cov:∀ (i:Nat) (k:Int),i<keep.length→cT pinned keep long i≤k→k<cT pinned keep long i+long.getD i 0→f k=false:=by
  intro i k hi h1 h2;rw [hf];have:((List.range keep.length).any fun i=>decide (cT pinned keep long i≤k)&&decide (k<cT pinned keep long i+long.getD i 0))=true:=List.any_eq_true.2 ⟨i,List.mem_range.2 hi,by simp only [decide_eq_true h1,decide_eq_true h2,Bool.and_self]⟩;rw [this];rfl
 have free:∀ (i:Nat) (k:Int),i≤keep.length→ba pinned keep long i≤k→(i<keep.length→k<cT pinned keep long i)→f k=true:=by
  intro i k hi h1 h2;rw [hf]
  have:((List.range keep.length).any fun i=>decide (cT pinned keep long i≤k)&&decide (k<cT pinned keep long i+long.getD i 0))=false:=by
   rw [List.any_eq_false];intro j hj;have hj:=List.mem_range.1 hj;simp only [Bool.and_eq_true,decide_eq_true_eq,not_and];intro h3 h4;rcases Nat.lt_or_ge j i with hji | hji
   ·have:=mono i (j+1) (by omega) hi;rw [hE] at this;omega
   ·have h5:=h2 (by omega);by_cases e:j=i
    ·subst e; omega
    ·have h6:=mono j (i+1) (by omega) (by omega);have h7:=hto j hj;have h8:=hpos i (by omega);rw [hE] at h6;omega
  rw [this];rfl
 have prev:∀ i:Nat,i≤keep.length→ba pinned keep long i=0∨f (ba pinned keep long i - 1)=false:=by
  intro i hi;cases i with
  | zero=>exact .inl rfl
  | succ i =>
   right;have h4:=hpos i (by omega);rw [hE];exact cov i _ (by omega) (by omega) (by omega)
 have main:∀ i:Nat,i≤keep.length→bi f n 0 []=bi f ((n:Int) - ba pinned keep long i).toNat (ba pinned keep long i) (eQ pinned keep long i):=by
  intro i
  induction i with
  | zero=>intro _; simp [ba,eQ]
  | succ i ih =>
   intro hi;rw [ih (by omega)];have h1:=hto i (by omega);have h2:=hpos i (by omega);have h3:=h0 i (by omega);have hG:eQ pinned keep long (i+1)=eQ pinned keep long i++(if ba pinned keep long i<cT pinned keep long i then [(ba pinned keep long i,cT pinned keep long i - ba pinned keep long i)] else []):=rfl;have fr:=free i;have cv:=fun k=>cov i k (by omega)
   have pv:=prev i (by omega);rw [hG,hE];generalize ba pinned keep long i=e at *;generalize cT pinned keep long i=t at *;generalize long.getD i 0=L at *;obtain ⟨g,hg⟩:=Int.eq_ofNat_of_zero_le (show 0≤t - e by omega);obtain ⟨l,hl⟩:=Int.eq_ofNat_of_zero_le (show 0≤L by omega);obtain ⟨r,hr⟩:=Int.eq_ofNat_of_zero_le (show 0≤(n:Int) - (t+L) by omega);rw [show ((n:Int) - e).toNat=g+(l+r) by omega,show ((n:Int) - (t+L)).toNat=r by omega]
   have second:∀ out,bi f (l+r) t out=bi f r (t+L) out:=fun out=>by
    rw [pD f l r t out (fun k k0 k1=>cv k k0 (by omega)),← hl]
   by_cases hgt:e<t
   ·rw [if_pos hgt,A9 f (by omega) h3 pv (fun k k0 k1=>fr k (by omega) k0 (fun _=>by omega)),← hg,show e+(t - e)=t by omega];exact second _
   ·rw [if_neg hgt,List.append_nil,show g=0 by omega,Nat.zero_add,show e=t by omega];exact second _
 rw [main keep.length (Nat.le_refl _)];unfold bT;have h1:=hen keep.length (Nat.le_refl _);have h3:=h0 keep.length (Nat.le_refl _);have fr:=free keep.length;have pv:=prev keep.length (Nat.le_refl _);generalize ba pinned keep long keep.length=e at *;by_cases hgt:e<(n:Int)
 ·obtain ⟨g,hg⟩:=Int.eq_ofNat_of_zero_le (show 0≤(n:Int) - e by omega);rw [if_pos hgt,show ((n:Int) - e).toNat=g+0 by omega,A9 f (by omega) h3 pv (fun k k0 k1=>fr k (Nat.le_refl _) k0 (fun h=>absurd h (Nat.lt_irrefl _))),hg];rfl
 ·rw [if_neg hgt,List.append_nil,show ((n:Int) - e).toNat=0 by omega];rfl
theorem xl {a keep pinned:List Int} (h:(am a keep pinned).2=0):(∀ i:Nat,i+1<keep.length→keep.getD i 0+(keep.map (aE (aa a).1)).getD i 0≤keep.getD (i+1) 0)∧∀ i:Nat,i<keep.length→keep.getD i 0+(keep.map (aE (aa a).1)).getD i 0≤(a.length:Int):=by
 obtain ⟨h1,h2,_,h4,_,_⟩:=lG h
 have hG:∀ k:Nat,k<keep.length→(keep.map (aE (aa a).1)).getD k 0=aE (aa a).1 (keep.getD k 0):=by
  intro k hk;rw [List.getD_eq_getElem?_getD,List.getElem?_map,List.getD_eq_getElem?_getD,List.getElem?_eq_getElem hk];rfl
 obtain ⟨_,_,hs3,hs4,_,_,_⟩:=b7 h1;have ht:=gF hs4
 have hm:∀ i:Nat,i<keep.length→keep.getD i 0∈keep:=fun i hi=>by
  have:=aI (0:Int) (xs:=keep) (i:=i) (by omega) (by omega);simpa only [Int.toNat_natCast] using this
 refine ⟨fun i hi=>?_,fun i hi=>?_⟩
 ·rw [hG i (by omega)];obtain ⟨s,s1,s2,_,s4⟩:=ua (h4 _ (hm i (by omega)));obtain ⟨t,t1,t2,_,_⟩:=ua (h4 _ (hm (i+1) hi))
  have hlt:keep.getD i 0<keep.getD (i+1) 0:=by
   have hp:=List.pairwise_iff_getElem.1 (gf h2) i (i+1) (by omega) hi (by omega);rw [List.getD_eq_getElem?_getD,List.getElem?_eq_getElem (by omega),List.getD_eq_getElem?_getD,List.getElem?_eq_getElem hi];exact hp
  rw [s4,← s2,← t2];exact sE ht s s1 t t1 (by omega)
 ·rw [hG i hi];obtain ⟨s,s1,s2,_,s4⟩:=ua (h4 _ (hm i hi));obtain ⟨_,hin,hh⟩:=dw a s s1;have hz:=bj hh;rw [s4,← s2];unfold ck at hin;unfold ac;omega
end
end Go.Proofs.YtglchojglcobjaaGreatDoor
