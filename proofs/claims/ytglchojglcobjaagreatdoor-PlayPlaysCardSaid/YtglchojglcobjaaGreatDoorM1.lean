import Derived.Test.YtglchojglcobjaaGreatDoorEG6
import Derived.Test.YtglchojglcobjaaGreatDoorRows
namespace Go.Proofs.YtglchojglcobjaaGreatDoor
section
open Go
def Kp:List (Nat×Spec)→FuncId→Option Spec
 | [],_=>none
 | e::l,f=>if Nat.beq e.1 f then some e.2 else Kp l f
def Ko:List (Nat×RowFn)→FuncId→Option RowFn
 | [],_=>none
 | e::l,f=>if Nat.beq e.1 f then some e.2 else Ko l f
def L4 (l:List (Nat×Spec)) (r:List (Nat×RowFn):=[]):Specs:=⟨Kp l,Ko r⟩
theorem aq:(L4 []).ok Tryz.prog:=by
 refine ⟨rfl,?_,?_⟩
 ·intro f s h;cases h
 ·intro f s h;cases h
theorem kD {P:Program} {f:Nat} {s:RowFn} {r:List (Nat×RowFn)} (h:s.ok P f) (hl:(L4 [] r).ok P):(L4 [] ((f,s)::r)).ok P:=by
 refine ⟨hl.1,hl.2.1,?_⟩;intro g t e;have e:Ko ((f,s)::r) g=some t:=e;unfold Ko at e;split at e
 ·rename_i he;have he:=Nat.eq_of_beq_eq_true he;injection e with e
  subst e;simp only at he;subst he;exact h
 ·exact hl.2.2 g t e
theorem ae {P:Program} {f:Nat} {s:Spec} {l:List (Nat×Spec)} {r:List (Nat×RowFn)} (h:s.ok P f) (hl:(L4 l r).ok P):(L4 ((f,s)::l) r).ok P:=by
 refine ⟨hl.1,?_,hl.2.2⟩;intro g t e;have e:Kp ((f,s)::l) g=some t:=e;unfold Kp at e;split at e
 ·rename_i he;have he:=Nat.eq_of_beq_eq_true he;injection e with e
  subst e;simp only at he;subst he;exact h
 ·exact hl.2.1 g t e
theorem aF {ss:Specs} {ann:Nat→Option LoopGen} {f:FuncId} {fn:Func} {s:Spec} {pv:Prop} (hss:ss.ok Tryz.prog) (hfn:Tryz.prog.funcs[f]?=some fn) (e:pv=LR Tryz.prog ss ann fn s) (h:pv):s.ok Tryz.prog f:=JB hss hfn (e.mp h)
def fo:(T:Ty)→T.den→Prop
 | .arr T,xs=>(show List T.den from xs).length * T.bytes≤140737488351232∧∀ x∈(show List T.den from xs),fo T x
 | .pair A B,x=>fo A x.1∧fo B x.2
 | .str,s=>s.length≤140737488351232
 | .int _,_=>True
 | .bool,_=>True
 | .nil,_=>True
 | .ref _,_=>True
 | .fn _ _,_=>True
 | .map _ _,_=>True
def lx:(Ts:List Ty)→ig Ts→Prop
 | [],_=>True
 | [T],x=>fo T x
 | T::U::Ts,x=>fo T x.1∧lx (U::Ts) x.2
def IA (Ts:List Ty):Spec:={ Ts:=Ts,Rs:=[.dat .bool],pre:=lx Ts,F:=fun _=>(true:Bool) }
def gJ (B:Nat):(T:Ty)→T.den→Prop
 | .arr T,xs=>(show List T.den from xs).length≤B∧∀ x∈(show List T.den from xs),gJ B T x
 | .pair A C,x=>gJ B A x.1∧gJ B C x.2
 | .str,s=>s.length≤B
 | .int _,_=>True
 | .bool,_=>True
 | .nil,_=>True
 | .ref _,_=>True
 | .fn _ _,_=>True
 | .map _ _,_=>True
def pL (B:Nat):(Ts:List Ty)→ig Ts→Prop
 | [],_=>True
 | [T],x=>gJ B T x
 | T::U::Ts,x=>gJ B T x.1∧pL B (U::Ts) x.2
def cw:Nat→Option LoopGen:=fun _=>none
abbrev ty_I:Ty:=.int .i64
abbrev bb:Ty:=.int .u64
abbrev de:Ty:=.pair ty_I (.pair ty_I (.pair ty_I .bool))
abbrev DB:Ty:=.pair ty_I (.pair (.arr ty_I) (.pair (.arr bb) .bool))
abbrev Obj:=Int×List Int×List Int×Bool
theorem fm {n:Int} (h:0≤n) (h2:n≤18446744073709551615):IntKind.u64.wrap n=n:=dl (k:=.u64) ⟨h,h2⟩
theorem je {n:Int} (h:-9223372036854775808≤n) (h2:n≤9223372036854775807):IntKind.i64.wrap n=n:=dl (k:=.i64) ⟨h,h2⟩
theorem Ml:((IntKind.u64.bits:Nat):Int)=64:=rfl
theorem sr {a b:Int} {i:Nat} (ha:0≤a) (hb:0≤b) (h:a<2 ^ i):((a.toNat ||| (b * 2 ^ i).toNat:Nat):Int)=a+b * 2 ^ i:=by
 obtain ⟨m,rfl⟩:=Int.eq_ofNat_of_zero_le ha;obtain ⟨n,rfl⟩:=Int.eq_ofNat_of_zero_le hb;have h1:m<2 ^ i:=by exact_mod_cast h
 have e:((n:Int) * 2 ^ i).toNat=n * 2 ^ i:=by
  have:((n:Int) * 2 ^ i)=((n * 2 ^ i:Nat):Int):=by push_cast; rfl
  rw [this,Int.toNat_natCast]
 rw [e,Int.toNat_natCast,Nat.or_comm,Nat.mul_comm n,← Nat.two_pow_add_eq_or_of_lt h1 n]
 push_cast
 rw [Int.add_comm,Int.mul_comm]
theorem o8 {a:Int} (ha:0≤a) (i:Nat):((a.toNat &&& (2 ^ i - 1):Nat):Int)=a % 2 ^ i:=by
 obtain ⟨m,rfl⟩:=Int.eq_ofNat_of_zero_le ha;rw [Nat.and_two_pow_sub_one_eq_mod]
 push_cast
 rw [Int.toNat_natCast]
theorem zv (m i:Nat):m &&& 2 ^ i=m / 2 ^ i % 2 * 2 ^ i:=by
 apply Nat.eq_of_testBit_eq;intro j;rw [Nat.testBit_and,Nat.testBit_two_pow]
 have key:m / 2 ^ i % 2=(m.testBit i).toNat:=by
  rw [Nat.testBit_eq_decide_div_mod_eq];rcases Nat.mod_two_eq_zero_or_one (m / 2 ^ i) with h | h <;> simp [h]
 rw [key];by_cases hij:i=j
 ·subst hij;cases h:m.testBit i <;> simp
 ·cases h:m.testBit i <;> simp [hij]
theorem Jm {a:Int} (ha:0≤a) (i:Nat):((a.toNat &&& 2 ^ i:Nat):Int)=a / 2 ^ i % 2 * 2 ^ i:=by
 obtain ⟨m,rfl⟩:=Int.eq_ofNat_of_zero_le ha;rw [Int.toNat_natCast,zv]
 push_cast
 rfl
theorem aW {α:Type} {xs:List α} (d:α) {i:Int} (h0:0≤i) (h:i<(xs.length:Int)):xs.drop i.toNat=xs.getD i.toNat d::xs.drop (i+1).toNat:=by
 have hi:i.toNat<xs.length:=by omega
 rw [List.drop_eq_getElem_cons hi,show (i+1).toNat=i.toNat+1 by omega];simp [hi]
theorem bt {α:Type} {xs:List α} {i:Int} (h:¬ i<(xs.length:Int)):xs.drop i.toNat=[]:=by
 rw [List.drop_eq_nil_iff]; omega
theorem bo {α:Type} {xs:List α} (d:α) {i:Int} (h0:0≤i) (h:i<(xs.length:Int)):xs.take (i+1).toNat=xs.take i.toNat++[xs.getD i.toNat d]:=by
 have hi:i.toNat<xs.length:=by omega
 rw [show (i+1).toNat=i.toNat+1 by omega,List.take_succ_eq_append_getElem hi];simp [hi]
theorem bF {α:Type} {xs:List α} {i:Int} (h:¬ i<(xs.length:Int)):xs.take i.toNat=xs:=by
 rw [List.take_of_length_le]; omega
theorem aI {α:Type} {xs:List α} (d:α) {i:Int} (h0:0≤i) (h:i<(xs.length:Int)):xs.getD i.toNat d∈xs:=by
 have hi:i.toNat<xs.length:=by omega
 simp [hi]
end
section
open Go
set_option maxRecDepth 100000
set_option maxHeartbeats 1000000
theorem mf {α:Type} {a b:List α} {z:α} {i:Nat} (hl:a.length=b.length) (hi:i<a.length) (ht:a.take i=b.take i) (he:a.getD i z=b.getD i z):a.take (i+1)=b.take (i+1):=by
 rw [List.take_succ_eq_append_getElem hi,List.take_succ_eq_append_getElem (by omega),ht];have h1:a.getD i z=a[i]:=by simp [hi]
 have h2:b.getD i z=b[i]'(by omega):=by simp [show i<b.length by omega]
 rw [← h1,← h2,he]
end
section
open Go
set_option maxRecDepth 100000
set_option maxHeartbeats 1000000
def da (L:Nat) (n:Int) (ks:List Int):Bool:=ks.any fun k=>decide (n<0)||decide (k<0)||decide (k > (L:Int))||decide (n > (L:Int) - k)
def eq (L:Nat) (n:Int) (ks:List Int):Int:=if 256<L then 2 else if da L n ks then 4 else 0
def LY (a:List Int) (i:Nat):Int:=a.getD (i / 8) 0 / 256 ^ (i % 8) % 256
def K7 (a:List Int) (n:Nat):List Int:=(List.range n).map (LY a)
def bytesOf (a:List Int):List Int:=K7 a (8 * a.length)
def Ac:Nat→Option LoopGen
 | 4=>some { rd:=[.dat 2 (.arr ty_I),.dat 1 ty_I,.dat 0 (.arr bb)],A:=fun (ks,n,a)=>{ cs:=[.dat 14 ty_I],inv:=fun (i:Int)=>0≤i∧i≤(ks:List Int).length∧(a:List Int).length≤256∧da (a:List Int).length n ((ks:List Int).drop i.toNat)=da (a:List Int).length n ks,mu:=fun (i:Int)=>((ks:List Int).length - i).toNat } }
 | _=>none
def yD:Spec:={ Ts:=[.arr bb,ty_I,.arr ty_I],Rs:=[.dat ty_I],pre:=fun _=>True,F:=fun ((a,n,ks):List Int×Int×List Int)=>eq a.length n ks }
def ot:Prop :=
  ∀ (x:List Int×Int×List Int),((x.1.length * 8≤aA∧∀ (x_1:Int),x_1∈x.1→ak .u64 x_1)∧ak .i64 x.2.1∧x.2.2.length * 8≤aA∧∀ (x_1:Int),x_1∈x.2.2→ak .i64 x_1)→True→(decide (256<(↑x.1.length:Int))=true→2=eq x.1.length x.2.1 x.2.2∧True)∧(decide (256<(↑x.1.length:Int))=false→((0:Int)≤0∧0≤(↑x.2.2.length:Int)∧x.1.length≤256∧da x.1.length x.2.1 (List.drop (Int.toNat 0) x.2.2)=da x.1.length x.2.1 x.2.2)∧∀ (x_1:Int),0≤x_1∧x_1≤(↑x.2.2.length:Int)∧x.1.length≤256∧da x.1.length x.2.1 (List.drop x_1.toNat x.2.2)=da x.1.length x.2.1 x.2.2→(decide (x_1<(↑x.2.2.length:Int))=true→0≤x_1∧x_1<(↑x.2.2.length:Int)∧((decide (x.2.1<0)||decide (x.2.2.getD x_1.toNat (0:Int)<0)||decide ((↑x.1.length:Int)<x.2.2.getD x_1.toNat 0))=false→ak .i64 ((↑x.1.length:Int) - x.2.2.getD x_1.toNat 0))∧((decide (x.2.1<0)||decide (x.2.2.getD x_1.toNat (0:Int)<0)||decide ((↑x.1.length:Int)<x.2.2.getD x_1.toNat 0)||decide ((↑x.1.length:Int) - x.2.2.getD x_1.toNat 0<x.2.1))=true→4=eq x.1.length x.2.1 x.2.2∧True)∧((decide (x.2.1<0)||decide (x.2.2.getD x_1.toNat (0:Int)<0)||decide ((↑x.1.length:Int)<x.2.2.getD x_1.toNat 0)||decide ((↑x.1.length:Int) - x.2.2.getD x_1.toNat 0<x.2.1))=false→ak .i64 (x_1+1)∧(0≤x_1+1∧x_1+1≤(↑x.2.2.length:Int)∧x.1.length≤256∧da x.1.length x.2.1 (List.drop (x_1+1).toNat x.2.2)=da x.1.length x.2.1 x.2.2)∧((↑x.2.2.length:Int) - (x_1+1)).toNat<((↑x.2.2.length:Int) - x_1).toNat))∧(decide (x_1<(↑x.2.2.length:Int))=false→0=eq x.1.length x.2.1 x.2.2∧True))
theorem u6:ot:=by
 unfold ot;intro ⟨a,n,ks⟩ ⟨⟨ha,_⟩,⟨_,_⟩,hk,hks⟩ _;unfold eq aA at *;refine ⟨fun h=>?_,fun h=>⟨⟨by omega,by grind,by grind,by simp⟩,fun i ⟨h0,h1,h2,h3⟩=>⟨fun hlt=>?_,fun hge=>?_⟩⟩⟩
 ·grind
 ·have hlt:i<(ks.length:Int):=by simpa using hlt
  have e:=aW (0:Int) h0 hlt;have hm:=hks _ (aI (0:Int) h0 hlt);simp only [e] at h3;simp only [da,List.any_cons,ak] at *
  grind
 ·rw [bt (by simpa using hge)] at h3;simp only [da,List.any_nil] at *
  grind
theorem zh:yD.ok Tryz.prog 155:=aF (ann:=Ac) aq Tryz.func155 (by kernel_rfl) u6
end
section
open Go
set_option maxRecDepth 100000
set_option maxHeartbeats 1000000
def vQ:Spec:={ Ts:=[.arr bb],Rs:=[.own 29 bb],pre:=fun _=>True,F:=fun (x:List Int)=>x }
def mV:Prop :=
  ∀ (x:List Int),(x.length * 8≤aA∧∀ (x_1:Int),x_1∈x→ak .u64 x_1)→True→(x=([]:List Int)→([]:List Int)=x∧True)∧(True→(0+x.length) * 8≤aA∧([]:List Int)++x=x∧True)
theorem sM:mV:=by
 unfold mV;intro x ⟨hb,_⟩ _;simp [hb]
theorem bT:vQ.ok Tryz.prog 85:=aF (ann:=cw) aq Tryz.func85 (by kernel_rfl) sM
def AX:Spec:={ Ts:=[.arr bb],Rs:=[.own 29 bb],pre:=fun _=>True,F:=fun (x:List Int)=>x }
def qT:Prop :=
  ∀ (x:List Int),(x.length * 8≤aA∧∀ (x_1:Int),x_1∈x→ak .u64 x_1)→True→x.length * 8≤aA∧x=x∧True
theorem x8:qT:=by
 unfold qT;intro x ⟨hb,_⟩ _;simp [hb]
theorem gA:AX.ok Tryz.prog 54:=aF (ann:=cw) aq Tryz.func54 (by kernel_rfl) x8
def ki (L at_ n:Int):Bool:=decide (0≤n)&&decide (0≤at_)&&decide (at_≤L)&&decide (n≤L - at_)
theorem AL (L:Nat) (n k:Int):eq L n [k]=if 256<L then 2 else if ki L k n=true then 0 else 4:=by
 simp only [eq,da,ki,List.any_cons,List.any_nil]
 grind
theorem mI (L k n:Int):ki L k n=true ↔ 0≤n∧0≤k∧k≤L∧n≤L - k:=by
 simp [ki,and_assoc]
def lj (a:List Int) (t:Nat) (ys:List Int) (k:Nat):List Int:=a.take t++(ys.take k++a.drop (t+k))
def dA (a:List Int) (at_ n v:Int) (k:Int):List Int:=lj a at_.toNat (List.replicate n.toNat v) k.toNat
theorem Eb (a:List Int) (t:Nat) (ys:List Int):lj a t ys 0=a:=by simp [lj]
theorem zc (a:List Int) (t:Nat) (ys:List Int) (k:Nat) (h:t+ys.length≤a.length) (hk:k≤ys.length):(lj a t ys k).length=a.length:=by
 simp [lj]; omega
theorem G2 (a:List Int) (t:Nat) (ys:List Int) (k:Nat) (v:Int) (h:t+ys.length≤a.length) (hk:k<ys.length) (hv:ys.getD k 0=v):(lj a t ys k).set (t+k) v=lj a t ys (k+1):=by
 have hv:v=ys[k]:=by rw [← hv]; simp [hk]
 subst hv;unfold lj;have l1:(a.take t).length=t:=by simp; omega
 have l2:(ys.take k).length=k:=by simp; omega
 rw [List.set_append_right _ _ (by omega),l1,List.set_append_right _ _ (by omega),l2,show t+k - t - k=0 by omega,List.drop_eq_getElem_cons (show t+k<a.length by omega),List.set_cons_zero,
  List.take_succ_eq_append_getElem hk,show t+(k+1)=t+k+1 by omega,List.append_assoc]
 rfl
theorem nJ (a:List Int) (at_ n v:Int):dA a at_ n v 0=a:=Eb _ _ _
theorem ux (a:List Int) (at_ n v k:Int) (h0:0≤at_) (h1:at_+n≤a.length) (k0:0≤k) (k1:k<n):(dA a at_ n v k).set (at_+k).toNat v=dA a at_ n v (k+1):=by
 unfold dA;rw [show (at_+k).toNat=at_.toNat+k.toNat by omega,show (k+1).toNat=k.toNat+1 by omega];exact G2 _ _ _ _ _ (by simp; omega) (by simp; omega) (by simp [show k.toNat<n.toNat by omega])
theorem dX (a:List Int) (at_ n v k:Int) (h0:0≤at_) (h1:at_+n≤a.length) (k0:0≤k) (k1:k≤n):(dA a at_ n v k).length=a.length :=
 zc _ _ _ _ (by simp; omega) (by simp; omega)
def gX (a:List Int) (at_ n v:Int):List Int×Int:=if eq a.length n [at_]=0 then (dA a at_ n v n,0) else ([],eq a.length n [at_])
def CO:Nat→Option LoopGen
 | 6=>some { rd:=[.dat 0 (.arr bb),.dat 1 ty_I,.dat 2 ty_I,.dat 3 bb],wr:=[11],A:=fun ((a,at_,n,v):List Int×Int×Int×Int)=>{ cs:=[.own 11 29 bb,.dat 24 ty_I],inv:=fun ((out,k):List Int×Int)=>0≤k∧k≤n∧0≤at_∧at_+n≤a.length∧a.length≤256∧out=dA a at_ n v k,mu:=fun ((_,k):List Int×Int)=>(n - k).toNat } }
 | _=>none
def AO:Spec:={ Ts:=[.arr bb,ty_I,ty_I,bb],Rs:=[.own 29 bb,.dat ty_I],pre:=fun _=>True,F:=fun ((a,at_,n,v):List Int×Int×Int×Int)=>gX a at_ n v }
def qM:Prop :=
  ∀ (x:List Int×Int×Int×Int),(x.1.length * 8≤aA∧∀ (x_1:Int),x_1∈x.1→ak .u64 x_1)∧ak .i64 x.2.1∧ak .i64 x.2.2.1∧ak .u64 x.2.2.2→True→True∧(decide (eq x.1.length x.2.2.1 [x.2.1]≠0)=true→([]:List Int)=(gX x.1 x.2.1 x.2.2.1 x.2.2.2).1∧eq x.1.length x.2.2.1 [x.2.1]=(gX x.1 x.2.1 x.2.2.1 x.2.2.2).2∧True)∧(decide (eq x.1.length x.2.2.1 [x.2.1]≠0)=false→True∧((0:Int)≤0∧0≤x.2.2.1∧0≤x.2.1∧x.2.1+x.2.2.1≤(↑x.1.length:Int)∧x.1.length≤256∧x.1=dA x.1 x.2.1 x.2.2.1 x.2.2.2 0)∧∀ (x_1:List Int×Int),0≤x_1.2∧x_1.2≤x.2.2.1∧0≤x.2.1∧x.2.1+x.2.2.1≤(↑x.1.length:Int)∧x.1.length≤256∧x_1.1=dA x.1 x.2.1 x.2.2.1 x.2.2.2 x_1.2→(decide (x_1.2<x.2.2.1)=true→ak .i64 (x.2.1+x_1.2)∧0≤x.2.1+x_1.2∧x.2.1+x_1.2<(↑x_1.1.length:Int)∧(x.2.1+x_1.2).toNat<x_1.1.length∧ak .i64 (x_1.2+1)∧(0≤x_1.2+1∧x_1.2+1≤x.2.2.1∧0≤x.2.1∧x.2.1+x.2.2.1≤(↑x.1.length:Int)∧x.1.length≤256∧x_1.1.set (x.2.1+x_1.2).toNat x.2.2.2=dA x.1 x.2.1 x.2.2.1 x.2.2.2 (x_1.2+1))∧(x.2.2.1 - (x_1.2+1)).toNat<(x.2.2.1 - x_1.2).toNat)∧(decide (x_1.2<x.2.2.1)=false→x_1.1=(gX x.1 x.2.1 x.2.2.1 x.2.2.2).1∧0=(gX x.1 x.2.1 x.2.2.1 x.2.2.2).2∧True))
theorem xV:qM:=by
 unfold qM;intro ⟨a,at_,n,v⟩ ⟨⟨ha,_⟩,h1,h2,_⟩ _;simp only [gX,AL] at *;by_cases cl:256<a.length
 ·simp [cl]
 by_cases ok:ki a.length at_ n=true
 ·obtain ⟨o1,o2,o3,o4⟩:=(mI _ _ _).1 ok;simp only [cl,ok,if_true,if_false];refine ⟨trivial,fun h=>by simp at h,fun _=>⟨trivial,⟨by omega,o1,o2,by omega,by omega,(nJ _ _ _ _).symm⟩,fun ⟨out,k⟩ ⟨k0,k1,_,q1,q2,q3⟩=>⟨fun hk=>?_,fun hk=>?_⟩⟩⟩
  ·have hk:k<n:=by simpa using hk
   simp only at *;have hl:out.length=a.length:=by rw [q3]; exact dX _ _ _ _ _ o2 q1 k0 k1
   refine ⟨by simp only [ak]; omega,by omega,by omega,by omega,by simp only [ak]; omega,⟨by omega,by omega,o2,q1,q2,?_⟩,by omega⟩;rw [q3];exact ux _ _ _ _ _ o2 q1 k0 hk
  ·have hk:¬ k<n:=by simpa using hk
   simp only at *;have:k=n:=by omega
   subst this;simp [q3]
 ·simp [cl,ok]
theorem lH:AO.ok Tryz.prog 134:=aF (ann:=CO) (ae zh (ae bT aq)) Tryz.func134 (by kernel_rfl) xV
end
section
open Go
def ai {α:Type} (f:α→Bool):Int→List α→Int
 | _,[]=>-1
 | k,x::l=>if f x then k else ai f (k+1) l
theorem gT {α:Type} (f:α→Bool):∀ (l:List α) (k:Int),ai f k l=-1∨(k≤ai f k l∧ai f k l<k+l.length)
 | [],_=>.inl rfl
 | x::l,k=>by
  have ih:=gT f l (k+1);simp only [ai,List.length_cons];split
  ·right; omega
  ·rcases ih with h | h
   ·exact .inl h
   ·right; omega
theorem dq {α:Type} (f:α→Bool) (_:α) (l:List α) (k:Int) (_:0≤k):ai f k l<k+l.length:=by
 rcases gT f l k with h | h <;> omega
theorem gH {α:Type} (f:α→Bool) (d:α):∀ (l:List α) (k:Int),0≤ai f k l→0≤k→f (l.getD (ai f k l - k).toNat d)=true
 | [],_,h,_=>by simp [ai] at h
 | x::l,k,h,hk=>by
  have hr:=gT f l (k+1);have ih:=gH f d l (k+1);simp only [ai] at h ⊢;split at h
  ·rename_i hx;rw [if_pos hx];simpa using hx
  ·rename_i hx;rw [if_neg hx];have:=ih h (by omega);rw [show (ai f (k+1) l - k).toNat=(ai f (k+1) l - (k+1)).toNat+1 by omega];simpa using this
theorem cW {α:Type} (f:α→Bool):∀ (l:List α) (k:Int),0≤k→(decide (0≤ai f k l)=l.any f)
 | [],_,_=>rfl
 | x::l,k,h=>by
  have ih:=cW f l (k+1) (by omega);simp only [ai,List.any_cons];by_cases hx:f x=true
  ·simp [hx,h]
  ·have hx:f x=false:=by simpa using hx
   simp only [hx,Bool.false_eq_true,if_false,Bool.false_or];exact ih
end
section
open Go
set_option maxRecDepth 100000
set_option maxHeartbeats 1000000
abbrev du:=Int×Int×Int×Bool
def ac (h:du):Int:=1+h.1+h.2.1
def af (h:du):Int :=
 if h.1<0∨256<h.1∨h.2.1<0∨256<h.2.1∨h.2.2.1<0∨65535<h.2.2.1 then 4
 else if h.2.2.2=true∧(h.1≠0∨h.2.2.1≠0) then 3
 else if 256<ac h then 2 else 0
def a6 (h:du):Int:=h.1+65536 * h.2.1+4294967296 * h.2.2.1+(if h.2.2.2 then 281474976710656 else 0)
def aS (v:Int):du:=(v % 65536,v / 65536 % 65536,v / 4294967296 % 65536,decide (v / 281474976710656=1))
def aQ (v:Int):Bool:=v / 281474976710656≤1&&af (aS v) == 0
def aY:du:=(0,0,0,false)
theorem bj {h:du} (h0:af h=0):0≤h.1∧0≤h.2.1∧0≤h.2.2.1∧h.2.2.1≤65535∧1+h.1+h.2.1≤256∧(h.2.2.2=true→h.1=0∧h.2.2.1=0):=by
 grind [af,ac]
theorem wd {h:du} (h0:af h=0) :
  (↑((IntKind.u64.wrap h.1).toNat ||| (IntKind.u64.wrap (IntKind.u64.wrap h.2.1 * 2 ^ Int.toNat 16)).toNat):Int)=h.1+65536 * h.2.1 ∧
  (↑((h.1+65536 * h.2.1).toNat ||| (IntKind.u64.wrap (IntKind.u64.wrap h.2.2.1 * 2 ^ Int.toNat 32)).toNat):Int)=h.1+65536 * h.2.1+4294967296 * h.2.2.1 ∧
  (↑((h.1+65536 * h.2.1+4294967296 * h.2.2.1).toNat ||| Int.toNat 281474976710656):Int)=h.1+65536 * h.2.1+4294967296 * h.2.2.1+281474976710656:=by
 obtain ⟨h1,h2,h3,h4,h5,_⟩:=bj h0;rw [fm h1 (by omega),fm h2 (by omega),fm h3 (by omega)];have e1:(h.2.1 * 2 ^ Int.toNat 16)=h.2.1 * 65536:=rfl;have e2:(h.2.2.1 * 2 ^ Int.toNat 32)=h.2.2.1 * 4294967296:=rfl;rw [e1,e2,fm (by omega) (by omega),fm (by omega) (by omega)];have k1:=sr (i:=16) h1 h2 (by omega);have k2:=sr (i:=32) (a:=h.1+65536 * h.2.1) (by omega) h3 (by omega);have k3:=sr (i:=48) (a:=h.1+65536 * h.2.1+4294967296 * h.2.2.1) (b:=1) (by omega) (by omega) (by omega);refine ⟨?_,?_,?_⟩
 ·rw [show h.2.1 * 65536=h.2.1 * 2 ^ 16 from rfl,k1]; omega
 ·rw [show h.2.2.1 * 4294967296=h.2.2.1 * 2 ^ 32 from rfl,k2]; omega
 ·rw [show Int.toNat 281474976710656=((1:Int) * 2 ^ 48).toNat from rfl,k3]; rfl
theorem Cj {v:Int} (h0:0≤v) :
  (IntKind.i64.wrap ↑(v.toNat &&& Int.toNat 65535),IntKind.i64.wrap ↑((v / 2 ^ Int.toNat 16).toNat &&& Int.toNat 65535),IntKind.i64.wrap ↑((v / 2 ^ Int.toNat 32).toNat &&& Int.toNat 65535),
   decide (((v.toNat &&& Int.toNat 281474976710656:Nat):Int)≠0))=(v % 65536,v / 65536 % 65536,v / 4294967296 % 65536,decide (v / 281474976710656 % 2=1)):=by
 have e:Int.toNat 65535=2 ^ 16 - 1:=rfl;have e2:Int.toNat 281474976710656=2 ^ 48:=rfl;have e3:v / 2 ^ Int.toNat 16=v / 65536:=rfl;have e4:v / 2 ^ Int.toNat 32=v / 4294967296:=rfl;rw [e,e2,e3,e4,o8 h0,o8 (by omega),o8 (by omega),Jm h0];rw [show (2:Int) ^ 16=65536 from rfl,show (2:Int) ^ 48=281474976710656 from rfl];rw [je (by omega) (by omega),je (by omega) (by omega),je (by omega) (by omega)];congr 3;apply decide_eq_decide.2;omega
theorem xB {v:Int} (h1:v / 281474976710656≤1) (h0:0≤v):(v % 65536,v / 65536 % 65536,v / 4294967296 % 65536,decide (v / 281474976710656 % 2=1))=aS v:=by
 simp only [aS];congr 3;apply decide_eq_decide.2;omega
def A8:Spec:={ Ts:=[de],Rs:=[.dat ty_I],pre:=fun (h:du)=>ak .i64 (1+h.1)∧ak .i64 (1+h.1+h.2.1),F:=ac }
def rg:Prop :=
  ∀ (x:Int×Int×Int×Bool),ak .i64 x.1∧ak .i64 x.2.1∧ak .i64 x.2.2.1∧True→ak .i64 (1+x.1)∧ak .i64 (1+x.1+x.2.1)→ak .i64 (1+x.1)∧ak .i64 (1+x.1+x.2.1)∧1+x.1+x.2.1=ac x∧True
theorem yj:rg:=by
 unfold rg;intro x h1 h2;exact ⟨h2.1,h2.2,rfl,trivial⟩
theorem rC:A8.ok Tryz.prog 92:=aF (ann:=cw) aq Tryz.func92 (by kernel_rfl) yj
def yT:Spec:={ Ts:=[de],Rs:=[.dat ty_I],pre:=fun _=>True,F:=af }
def oL:Prop :=
  ∀ (x:Int×Int×Int×Bool),ak .i64 x.1∧ak .i64 x.2.1∧ak .i64 x.2.2.1∧True→True→((decide ((if x.2.2.1<if x.2.1<x.1 then x.2.1 else x.1 then x.2.2.1 else if x.2.1<x.1 then x.2.1 else x.1)<0)||decide (256<if x.1<x.2.1 then x.2.1 else x.1)||decide (65535<x.2.2.1))=true→4=af x∧True)∧((decide ((if x.2.2.1<if x.2.1<x.1 then x.2.1 else x.1 then x.2.2.1 else if x.2.1<x.1 then x.2.1 else x.1)<0)||decide (256<if x.1<x.2.1 then x.2.1 else x.1)||decide (65535<x.2.2.1))=false→((x.2.2.2&&(decide (0<x.1)||decide (0<x.2.2.1)))=true→3=af x∧True)∧((x.2.2.2&&(decide (0<x.1)||decide (0<x.2.2.1)))=false→(ak .i64 (1+x.1)∧ak .i64 (1+x.1+x.2.1))∧(decide (256<ac x)=true→2=af x∧True)∧(decide (256<ac x)=false→0=af x∧True)))
theorem vt:oL:=by
 unfold oL;intro x h1 _
 grind [ak,af,ac]
theorem iP:yT.ok Tryz.prog 55:=aF (ann:=cw) (ae rC aq) Tryz.func55 (by kernel_rfl) vt
def A6:Spec:={ Ts:=[de],Rs:=[.dat bb,.dat ty_I],pre:=fun _=>True,F:=fun (h:du)=>((if af h=0 then a6 h else 0,af h):Int×Int) }
def re:Prop :=
  ∀ (x:Int×Int×Int×Bool),ak .i64 x.1∧ak .i64 x.2.1∧ak .i64 x.2.2.1∧True→True→True∧(decide (af x≠0)=true→((0:Int)=if af x=0 then a6 x else (0:Int))∧af x=af x∧True)∧(decide (af x≠0)=false→(0:Int)≤16∧16<(↑IntKind.u64.bits:Int)∧(0:Int)≤32∧32<(↑IntKind.u64.bits:Int)∧(x.2.2.2=true→((↑((↑((↑((IntKind.u64.wrap x.1).toNat ||| (IntKind.u64.wrap (IntKind.u64.wrap x.2.1 * 2 ^ Int.toNat 16)).toNat):Int).toNat ||| (IntKind.u64.wrap (IntKind.u64.wrap x.2.2.1 * 2 ^ Int.toNat 32)).toNat):Int).toNat ||| Int.toNat 281474976710656):Int)=if af x=0 then a6 x else (0:Int))∧0=af x∧True)∧(x.2.2.2=false→((↑((↑((IntKind.u64.wrap x.1).toNat ||| (IntKind.u64.wrap (IntKind.u64.wrap x.2.1 * 2 ^ Int.toNat 16)).toNat):Int).toNat ||| (IntKind.u64.wrap (IntKind.u64.wrap x.2.2.1 * 2 ^ Int.toNat 32)).toNat):Int)=if af x=0 then a6 x else (0:Int))∧0=af x∧True))
theorem yh:re:=by
 unfold re;intro x hw _;refine ⟨trivial,fun h=>?_,fun h=>?_⟩
 ·have:af x≠0:=by simpa using h
  simp [this]
 ·have h0:af x=0:=by simpa using h
  obtain ⟨b1,b2,b3⟩:=wd h0;refine ⟨by decide,by decide,by decide,by decide,fun hf=>?_,fun hf=>?_⟩
  ·rw [b1,b2,b3,if_pos h0,h0];exact ⟨by simp [a6,hf],rfl,trivial⟩
  ·rw [b1,b2,if_pos h0,h0];exact ⟨by simp [a6,hf],rfl,trivial⟩
theorem jN:A6.ok Tryz.prog 131:=aF (ann:=cw) (ae iP aq) Tryz.func131 (by kernel_rfl) yh
def yS:Spec:={ Ts:=[de],Rs:=[.dat ty_I,.dat ty_I],pre:=fun _=>True,F:=fun (h:du)=>((if af h=0 then ac h else 0,af h):Int×Int) }
def oK:Prop :=
  ∀ (x:Int×Int×Int×Bool),ak .i64 x.1∧ak .i64 x.2.1∧ak .i64 x.2.2.1∧True→True→True∧(decide (af x≠0)=true→((0:Int)=if af x=0 then ac x else (0:Int))∧af x=af x∧True)∧(decide (af x≠0)=false→(ak .i64 (1+x.1)∧ak .i64 (1+x.1+x.2.1))∧(ac x=if af x=0 then ac x else (0:Int))∧0=af x∧True)
theorem vr:oK:=by
 unfold oK;intro x hw _;refine ⟨trivial,fun h=>?_,fun h=>?_⟩
 ·have:af x≠0:=by simpa using h
  simp [this]
 ·have h0:af x=0:=by simpa using h
  obtain ⟨b1,b2,b3,b4,b5,_⟩:=bj h0;simp only [ak,h0,if_true,and_true];omega
theorem iO:yS.ok Tryz.prog 93:=aF (ann:=cw) (ae iP (ae rC aq)) Tryz.func93 (by kernel_rfl) vr
def A7:Spec:={ Ts:=[bb],Rs:=[.dat de,.dat ty_I],pre:=fun _=>True,F:=fun (v:Int)=>((if aQ v then aS v else aY,if aQ v then 0 else 3):du×Int) }
def rf:Prop :=
  ∀ (x:Int),ak .u64 x→True→(0:Int)≤16∧16<(↑IntKind.u64.bits:Int)∧(0:Int)≤32∧32<(↑IntKind.u64.bits:Int)∧(0:Int)≤49∧49<(↑IntKind.u64.bits:Int)∧(decide (x / 2 ^ Int.toNat (49:Int)≠0)=false→True)∧((decide (x / 2 ^ Int.toNat (49:Int)≠0)||decide (af (IntKind.i64.wrap (↑(x.toNat &&& Int.toNat 65535):Int),IntKind.i64.wrap (↑((x / 2 ^ Int.toNat 16).toNat &&& Int.toNat 65535):Int),IntKind.i64.wrap (↑((x / 2 ^ Int.toNat 32).toNat &&& Int.toNat 65535):Int),decide ((↑(x.toNat &&& Int.toNat 281474976710656):Int)≠0))≠0))=true→((0,0,0,false)=if aQ x=true then aS x else aY)∧((3:Int)=if aQ x=true then (0:Int) else (3:Int))∧True)∧((decide (x / 2 ^ Int.toNat (49:Int)≠0)||decide (af (IntKind.i64.wrap (↑(x.toNat &&& Int.toNat 65535):Int),IntKind.i64.wrap (↑((x / 2 ^ Int.toNat 16).toNat &&& Int.toNat 65535):Int),IntKind.i64.wrap (↑((x / 2 ^ Int.toNat 32).toNat &&& Int.toNat 65535):Int),decide ((↑(x.toNat &&& Int.toNat 281474976710656):Int)≠0))≠0))=false→((IntKind.i64.wrap (↑(x.toNat &&& Int.toNat 65535):Int),IntKind.i64.wrap (↑((x / 2 ^ Int.toNat 16).toNat &&& Int.toNat 65535):Int),IntKind.i64.wrap (↑((x / 2 ^ Int.toNat 32).toNat &&& Int.toNat 65535):Int),decide ((↑(x.toNat &&& Int.toNat 281474976710656):Int)≠0))=if aQ x=true then aS x else aY)∧((0:Int)=if aQ x=true then (0:Int) else (3:Int))∧True)
theorem yi:rf:=by
 unfold rf;intro x hw _;have hx:0≤x:=hw.1;rw [Cj hx,show x / 2 ^ Int.toNat 49=x / 562949953421312 from rfl];refine ⟨by decide,by decide,by decide,by decide,by decide,by decide,fun _=>trivial,fun h=>?_,fun h=>?_⟩
 ·have:aQ x=false:=by
   rcases Int.lt_or_le 1 (x / 281474976710656) with h1 | h1
   ·simp [aQ,show ¬ x / 281474976710656≤1 by omega]
   ·rw [xB h1 hx] at h;have e:x / 562949953421312=0:=by omega
    simp only [e,ne_eq,not_true_eq_false,decide_false,Bool.false_or,decide_eq_true_eq] at h;simp [aQ,h]
  simp [this,aY]
 ·have h1:x / 281474976710656≤1:=by
   have:x / 562949953421312=0:=by
    apply Classical.byContradiction;intro hne;simp [hne] at h
   omega
  rw [xB h1 hx] at h ⊢
  have:aQ x=true:=by
   simp only [Bool.or_eq_false_iff,decide_eq_false_iff_not,ne_eq,Classical.not_not] at h;simp [aQ,h1,h.2]
  simp [this]
theorem B5:A7.ok Tryz.prog 163:=aF (ann:=cw) (ae iP aq) Tryz.func163 (by kernel_rfl) yi
def vM:Spec:={ Ts:=[de],Rs:=[.dat ty_I],pre:=fun _=>True,F:=af }
def mR:Prop :=
  ∀ (x:Int×Int×Int×Bool),ak .i64 x.1∧ak .i64 x.2.1∧ak .i64 x.2.2.1∧True→True→((decide (x.1<0)||decide (256<x.1)||decide (x.2.1<0)||decide (256<x.2.1)||decide (x.2.2.1<0)||decide (65535<x.2.2.1))=true→4=af x∧True)∧((decide (x.1<0)||decide (256<x.1)||decide (x.2.1<0)||decide (256<x.2.1)||decide (x.2.2.1<0)||decide (65535<x.2.2.1))=false→((x.2.2.2&&(decide (x.1≠0)||decide (x.2.2.1≠0)))=true→3=af x∧True)∧((x.2.2.2&&(decide (x.1≠0)||decide (x.2.2.1≠0)))=false→ak .i64 (1+x.1)∧ak .i64 (1+x.1+x.2.1)∧(decide ((256:Int)<1+x.1+x.2.1)=true→2=af x∧True)∧(decide ((256:Int)<1+x.1+x.2.1)=false→0=af x∧True)))
theorem sI:mR:=by
 unfold mR;intro x h1 _
 grind [ak,af,ac]
theorem mZ:vM.ok Tryz.prog 32:=aF (ann:=cw) aq Tryz.func32 (by kernel_rfl) sI
def yO:Spec:={ Ts:=[de],Rs:=[.dat ty_I],pre:=fun (h:du)=>ak .i64 (1+h.1)∧ak .i64 (1+h.1+h.2.1),F:=ac }
def oG:Prop :=
  ∀ (x:Int×Int×Int×Bool),ak .i64 x.1∧ak .i64 x.2.1∧ak .i64 x.2.2.1∧True→ak .i64 (1+x.1)∧ak .i64 (1+x.1+x.2.1)→ak .i64 (1+x.1)∧ak .i64 (1+x.1+x.2.1)∧1+x.1+x.2.1=ac x∧True
theorem vn:oG:=by
 unfold oG;intro x h1 h2;exact ⟨h2.1,h2.2,rfl,trivial⟩
theorem gN:yO.ok Tryz.prog 72:=aF (ann:=cw) aq Tryz.func72 (by kernel_rfl) vn
def yM:Spec:={ Ts:=[de],Rs:=[.dat bb],pre:=fun (h:du)=>af h=0,F:=a6 }
def oE:Prop :=
  ∀ (x:Int×Int×Int×Bool),ak .i64 x.1∧ak .i64 x.2.1∧ak .i64 x.2.2.1∧True→af x=0→ak .u64 (65536 * IntKind.u64.wrap x.2.1)∧ak .u64 (IntKind.u64.wrap x.1+65536 * IntKind.u64.wrap x.2.1)∧ak .u64 (4294967296 * IntKind.u64.wrap x.2.2.1)∧ak .u64 (IntKind.u64.wrap x.1+65536 * IntKind.u64.wrap x.2.1+4294967296 * IntKind.u64.wrap x.2.2.1)∧(x.2.2.2=true→ak .u64 (IntKind.u64.wrap x.1+65536 * IntKind.u64.wrap x.2.1+4294967296 * IntKind.u64.wrap x.2.2.1+281474976710656)∧IntKind.u64.wrap x.1+65536 * IntKind.u64.wrap x.2.1+4294967296 * IntKind.u64.wrap x.2.2.1+281474976710656=a6 x∧True)∧(x.2.2.2=false→IntKind.u64.wrap x.1+65536 * IntKind.u64.wrap x.2.1+4294967296 * IntKind.u64.wrap x.2.2.1=a6 x∧True)
theorem vk:oE:=by
 unfold oE;intro x h1 h0;obtain ⟨b1,b2,b3,b4,b5,_⟩:=bj h0;rw [fm b1 (by omega),fm b2 (by omega),fm b3 (by omega)];simp only [ak];refine ⟨by omega,by omega,by omega,by omega,fun hf=>⟨by omega,?_,trivial⟩,fun hf=>⟨?_,trivial⟩⟩
 ·simp [a6,hf]
 ·simp [a6,hf]
theorem kL:yM.ok Tryz.prog 75:=aF (ann:=cw) aq Tryz.func75 (by kernel_rfl) vk
def yQ:Spec:={ Ts:=[ty_I],Rs:=[.dat bb],pre:=fun (n:Int)=>1≤n∧n≤256,F:=fun (n:Int)=>a6 (0,n - 1,0,true) }
def oI:Prop :=
  ∀ (x:Int),ak .i64 x→1≤x∧x≤256→ak .i64 (x - 1)∧af (0,x - 1,0,true)=0∧a6 (0,x - 1,0,true)=a6 (0,x - 1,0,true)∧True
theorem vp:oI:=by
 unfold oI;intro n hn ⟨h1,h2⟩;have:af (0,n - 1,0,true)=0:=by simp [af,ac]; omega
 simp only [ak,this];refine ⟨?_,?_⟩ <;> first | omega | simp
theorem oU:yQ.ok Tryz.prog 117:=aF (ann:=cw) (ae kL aq) Tryz.func117 (by kernel_rfl) vp
def yN:Spec:={ Ts:=[bb],Rs:=[.dat de,.dat .bool],pre:=fun _=>True,F:=fun (v:Int)=>((if aQ v then aS v else aY,aQ v):du×Bool) }
def oF:Prop :=
  ∀ (x:Int),ak .u64 x→True→0≤x∧(0:Int)<65536∧0≤x∧(0:Int)<65536∧0≤x / 65536∧(0:Int)<65536∧0≤x∧(0:Int)<65536∧0≤x / 65536∧(0:Int)<65536∧0≤x / 65536 / 65536∧(0:Int)<65536∧0≤x∧(0:Int)<65536∧0≤x / 65536∧(0:Int)<65536∧0≤x / 65536 / 65536∧(0:Int)<65536∧(decide (1<x / 65536 / 65536 / 65536)=false→True)∧((decide (1<x / 65536 / 65536 / 65536)||decide (af (IntKind.i64.wrap (x % 65536),IntKind.i64.wrap (x / 65536 % 65536),IntKind.i64.wrap (x / 65536 / 65536 % 65536),decide (x / 65536 / 65536 / 65536=1))≠0))=true→((0,0,0,false)=if aQ x=true then aS x else aY)∧false=aQ x∧True)∧((decide (1<x / 65536 / 65536 / 65536)||decide (af (IntKind.i64.wrap (x % 65536),IntKind.i64.wrap (x / 65536 % 65536),IntKind.i64.wrap (x / 65536 / 65536 % 65536),decide (x / 65536 / 65536 / 65536=1))≠0))=false→((IntKind.i64.wrap (x % 65536),IntKind.i64.wrap (x / 65536 % 65536),IntKind.i64.wrap (x / 65536 / 65536 % 65536),decide (x / 65536 / 65536 / 65536=1))=if aQ x=true then aS x else aY)∧true=aQ x∧True)
theorem vl:oF:=by
 unfold oF;intro x hw _;have hx:0≤x:=hw.1;have e1:x / 65536 / 65536=x / 4294967296:=by omega
 have e2:x / 4294967296 / 65536=x / 281474976710656:=by omega
 rw [e1,e2,je (by omega) (by omega),je (by omega) (by omega),je (by omega) (by omega)]
 have e3:(x % 65536,x / 65536 % 65536,x / 4294967296 % 65536,decide (x / 281474976710656=1))=aS x:=by
  simp only [aS]
 rw [e3];refine ⟨by omega,by decide,by omega,by decide,by omega,by decide,by omega,by decide,by omega,by decide,by omega,by decide,by omega,by decide,by omega,by decide,by omega,by decide,fun _=>trivial,fun h=>?_,fun h=>?_⟩
 ·have:aQ x=false:=by
   simp only [Bool.or_eq_true,decide_eq_true_eq] at h;simp only [aQ,Bool.and_eq_false_iff,decide_eq_false_iff_not,beq_eq_false_iff_ne];omega
  simp [this,aY]
 ·have:aQ x=true:=by
   simp only [Bool.or_eq_false_iff,decide_eq_false_iff_not] at h;simp only [aQ,Bool.and_eq_true,decide_eq_true_eq,beq_iff_eq];omega
  simp [this]
theorem zp:yN.ok Tryz.prog 114:=aF (ann:=cw) (ae mZ aq) Tryz.func114 (by kernel_rfl) vl
end
section
open Go
set_option maxRecDepth 100000
set_option maxHeartbeats 1000000
abbrev ch:Ty:=.pair ty_I de
abbrev aD:=Int×du
theorem eL {v:Int} (h:aQ v=true):1≤ac (aS v)∧ac (aS v)≤256:=by
 simp only [aQ,Bool.and_eq_true,beq_iff_eq] at h;have:=bj h.2;unfold ac;omega
def spotsS (at_:Int) (l:List Int):Option (List aD) :=
 match l with
 | []=>some []
 | v::r=>if _h:aQ v=true∧ac (aS v)≤((v::r).length:Int) then (spotsS (at_+ac (aS v)) ((v::r).drop (ac (aS v)).toNat)).map ((at_,aS v)::·) else none
termination_by l.length
decreasing_by
 have:=eL _h.1;simp only [List.length_drop,List.length_cons];omega
def aa (a:List Int):List aD×Int:=if 256<a.length then ([],2) else match spotsS 0 a with
 | none=>([],3)
 | some l=>(l,0)
theorem eJ {at_:Int} {v:Int} {r:List Int} (h:aQ v=true) (h2:ac (aS v)≤((v::r).length:Int)) :
  spotsS at_ (v::r)=(spotsS (at_+ac (aS v)) ((v::r).drop (ac (aS v)).toNat)).map ((at_,aS v)::·):=by
 rw [spotsS,dif_pos ⟨h,h2⟩]
theorem eI {at_:Int} {v:Int} {r:List Int} (h:¬ (aQ v=true∧ac (aS v)≤((v::r).length:Int))):spotsS at_ (v::r)=none:=by
 rw [spotsS,dif_neg h]
theorem wH (at_:Int) (l:List Int) (r:List aD) (h:spotsS at_ l=some r):∀ s∈r,at_≤s.1∧s.1+ac s.2≤at_+l.length∧af s.2=0:=by
 induction at_,l using spotsS.induct generalizing r with
 | case1 at_ =>
  simp only [spotsS,Option.some.injEq] at h;subst h;simp
 | case2 at_ v l hv ih =>
  rw [eJ hv.1 hv.2] at h;obtain ⟨r',hr,rfl⟩:=Option.map_eq_some_iff.1 h;have hl:=eL hv.1
  have hf:af (aS v)=0:=by
   have:=hv.1;simp only [aQ,Bool.and_eq_true,beq_iff_eq] at this;exact this.2
  intro s hs;rcases List.mem_cons.1 hs with rfl | hs
  ·have:=hv.2;exact ⟨by simp,by simp only; omega,hf⟩
  ·obtain ⟨h1,h2,h3⟩:=ih r' hr s hs;rw [List.length_drop] at h2;have:=hv.2;exact ⟨by omega,by omega,h3⟩
 | case3 at_ v l hv =>
  rw [eI hv] at h;cases h
theorem vE (at_:Int) (l:List Int) (r:List aD) (h:spotsS at_ l=some r):r.length≤l.length:=by
 induction at_,l using spotsS.induct generalizing r with
 | case1 at_ =>
  simp only [spotsS,Option.some.injEq] at h;subst h;simp
 | case2 at_ v l hv ih =>
  rw [eJ hv.1 hv.2] at h;obtain ⟨r',hr,rfl⟩:=Option.map_eq_some_iff.1 h;have hl:=eL hv.1;have:=ih r' hr;rw [List.length_drop] at this;simp only [List.length_cons] at *;omega
 | case3 at_ v l hv =>
  rw [eI hv] at h;cases h
theorem cD (a:List Int):(aa a).1.length≤256:=by
 unfold aa;split
 ·simp
 ·cases e:spotsS 0 a with
  | none=>simp
  | some l =>
   have:=vE 0 a l e;simp only;omega
def Ab:Nat→Option LoopGen
 | 5=>some { rd:=[.dat 0 (.arr bb)],A:=fun (a:List Int)=>{ cs:=[.own 4 124 ch,.dat 5 ty_I],inv:=fun ((out,at_):List aD×Int)=>a.length≤256∧0≤at_∧at_≤a.length∧out.length≤at_∧spotsS 0 a=(spotsS at_ (a.drop at_.toNat)).map (out++·),mu:=fun ((_,at_):List aD×Int)=>(a.length - at_).toNat } }
 | _=>none
def yB:Spec:={ Ts:=[.arr bb],Rs:=[.own 124 ch,.dat ty_I],pre:=fun _=>True,F:=aa }
def om:Prop :=
  ∀ (x:List Int),(x.length * 8≤aA∧∀ (x_1:Int),x_1∈x→ak .u64 x_1)→True→(decide (256<(↑x.length:Int))=true→([]:List (Int×Int×Int×Int×Bool))=(aa x).1∧2=(aa x).2∧True)∧(decide (256<(↑x.length:Int))=false→(x.length≤256∧(0:Int)≤0∧0≤(↑x.length:Int)∧(↑(0:Nat):Int)≤0∧spotsS 0 x=Option.map (fun (x:List aD)=>([]:List (Int×Int×Int×Int×Bool))++x) (spotsS 0 (List.drop (Int.toNat 0) x)))∧∀ (x_1:List (Int×Int×Int×Int×Bool)×Int),x.length≤256∧0≤x_1.2∧x_1.2≤(↑x.length:Int)∧(↑x_1.1.length:Int)≤x_1.2∧spotsS 0 x=Option.map (fun (x:List aD)=>x_1.1++x) (spotsS x_1.2 (List.drop x_1.2.toNat x))→(decide (x_1.2<(↑x.length:Int))=true→0≤x_1.2∧x_1.2<(↑x.length:Int)∧True∧True∧(decide ((if aQ (x.getD x_1.2.toNat 0)=true then (0:Int) else (3:Int))≠0)=false→ak .i64 ((↑x.length:Int) - x_1.2))∧((decide ((if aQ (x.getD x_1.2.toNat 0)=true then (0:Int) else (3:Int))≠0)||decide ((↑x.length:Int) - x_1.2<if af (if aQ (x.getD x_1.2.toNat 0)=true then aS (x.getD x_1.2.toNat 0) else aY)=0 then ac (if aQ (x.getD x_1.2.toNat 0)=true then aS (x.getD x_1.2.toNat 0) else aY) else (0:Int)))=true→([]:List (Int×Int×Int×Int×Bool))=(aa x).1∧3=(aa x).2∧True)∧((decide ((if aQ (x.getD x_1.2.toNat 0)=true then (0:Int) else (3:Int))≠0)||decide ((↑x.length:Int) - x_1.2<if af (if aQ (x.getD x_1.2.toNat 0)=true then aS (x.getD x_1.2.toNat 0) else aY)=0 then ac (if aQ (x.getD x_1.2.toNat 0)=true then aS (x.getD x_1.2.toNat 0) else aY) else (0:Int)))=false→(x_1.1.length+[(x_1.2,if aQ (x.getD x_1.2.toNat 0)=true then aS (x.getD x_1.2.toNat 0) else aY)].length) * (8+(8+(8+(8+8))))≤aA∧ak .i64 (x_1.2+if af (if aQ (x.getD x_1.2.toNat 0)=true then aS (x.getD x_1.2.toNat 0) else aY)=0 then ac (if aQ (x.getD x_1.2.toNat 0)=true then aS (x.getD x_1.2.toNat 0) else aY) else (0:Int))∧(x.length≤256∧(0≤x_1.2+if af (if aQ (x.getD x_1.2.toNat 0)=true then aS (x.getD x_1.2.toNat 0) else aY)=0 then ac (if aQ (x.getD x_1.2.toNat 0)=true then aS (x.getD x_1.2.toNat 0) else aY) else (0:Int))∧(x_1.2+if af (if aQ (x.getD x_1.2.toNat 0)=true then aS (x.getD x_1.2.toNat 0) else aY)=0 then ac (if aQ (x.getD x_1.2.toNat 0)=true then aS (x.getD x_1.2.toNat 0) else aY) else (0:Int))≤(↑x.length:Int)∧((↑(x_1.1++[(x_1.2,if aQ (x.getD x_1.2.toNat 0)=true then aS (x.getD x_1.2.toNat 0) else aY)]).length:Int)≤x_1.2+if af (if aQ (x.getD x_1.2.toNat 0)=true then aS (x.getD x_1.2.toNat 0) else aY)=0 then ac (if aQ (x.getD x_1.2.toNat 0)=true then aS (x.getD x_1.2.toNat 0) else aY) else (0:Int))∧spotsS 0 x=Option.map (fun (x_2:List aD)=>x_1.1++[(x_1.2,if aQ (x.getD x_1.2.toNat 0)=true then aS (x.getD x_1.2.toNat 0) else aY)]++x_2) (spotsS (x_1.2+if af (if aQ (x.getD x_1.2.toNat 0)=true then aS (x.getD x_1.2.toNat 0) else aY)=0 then ac (if aQ (x.getD x_1.2.toNat 0)=true then aS (x.getD x_1.2.toNat 0) else aY) else (0:Int)) (List.drop (x_1.2+if af (if aQ (x.getD x_1.2.toNat 0)=true then aS (x.getD x_1.2.toNat 0) else aY)=0 then ac (if aQ (x.getD x_1.2.toNat 0)=true then aS (x.getD x_1.2.toNat 0) else aY) else (0:Int)).toNat x)))∧((↑x.length:Int) - (x_1.2+if af (if aQ (x.getD x_1.2.toNat 0)=true then aS (x.getD x_1.2.toNat 0) else aY)=0 then ac (if aQ (x.getD x_1.2.toNat 0)=true then aS (x.getD x_1.2.toNat 0) else aY) else (0:Int))).toNat<((↑x.length:Int) - x_1.2).toNat))∧(decide (x_1.2<(↑x.length:Int))=false→x_1.1=(aa x).1∧0=(aa x).2∧True))
theorem u0:om:=by
 unfold om;intro a ⟨hb,hw⟩ _;by_cases cl:256<a.length
 ·have e:aa a=([],2):=by unfold aa; rw [if_pos cl]
  simp [e];omega
 have eF:aa a=match spotsS 0 a with | none=>([],3) | some l=>(l,0):=by unfold aa; rw [if_neg cl]
 refine ⟨fun h=>by simp at h; omega,fun _=>⟨⟨by omega,by omega,by omega,by simp,by simp⟩,fun ⟨out,k⟩ ⟨_,h0,h1,h2,h3⟩=>⟨fun hlt=>?_,fun hge=>?_⟩⟩⟩
 ·have hlt:k<(a.length:Int):=by simpa using hlt
  simp only at *;rw [aW (0:Int) h0 hlt] at h3;have hdl:(((a.getD k.toNat 0::a.drop (k+1).toNat).length:Nat):Int)=a.length - k:=by rw [List.length_cons,List.length_drop]; omega
  have hdd:∀ n:Int,0≤n→(a.getD k.toNat 0::a.drop (k+1).toNat).drop n.toNat=a.drop (k+n).toNat:=fun n hn=>by
   rw [← aW (0:Int) h0 hlt,List.drop_drop];congr 1;omega
  generalize a.getD k.toNat 0=v at *;refine ⟨h0,hlt,trivial,trivial,fun _=>by simp only [ak]; omega,fun hc=>?_,fun hc=>?_⟩
  ·have hn:¬ (aQ v=true∧ac (aS v)≤((v::a.drop (k+1).toNat).length:Int)):=by
    rintro ⟨g1,g2⟩
    have hf:af (aS v)=0:=by
     have:=g1;simp only [aQ,Bool.and_eq_true,beq_iff_eq] at this;exact this.2
    rw [if_pos g1,if_pos g1,if_pos hf] at hc;simp at hc;omega
   rw [eI hn] at h3;rw [eF,h3];exact ⟨rfl,rfl,trivial⟩
  ·have g1:aQ v=true:=by
    cases hv:aQ v
    ·rw [hv] at hc; simp at hc
    ·rfl
   have hf:af (aS v)=0:=by
    have:=g1;simp only [aQ,Bool.and_eq_true,beq_iff_eq] at this;exact this.2
   rw [if_pos g1,if_pos g1,if_pos hf] at hc;simp at hc;have hl:=eL g1;rw [eJ g1 (by omega),hdd _ (by omega),Option.map_map] at h3;rw [if_pos g1,if_pos hf];unfold aA;simp only [List.length_append,List.length_cons,List.length_nil,ak];refine ⟨by omega,by omega,⟨by omega,by omega,by omega,by omega,?_⟩,by omega⟩;rw [h3];congr 1;funext x;simp
 ·have hge:¬ k<(a.length:Int):=by simpa using hge
  simp only at *;rw [bt hge] at h3;simp only [spotsS,Option.map_some,List.append_nil] at h3;rw [eF,h3];exact ⟨rfl,rfl,trivial⟩
theorem iM:yB.ok Tryz.prog 144:=aF (ann:=Ab) (ae B5 (ae iO aq)) Tryz.func144 (by kernel_rfl) u0
def aJ (a:List Int) (s:aD):List Int:=(a.take (s.1+1+s.2.1).toNat).drop (s.1+1).toNat
def cm (a:List Int) (s:aD):Prop:=0≤s.1∧0≤s.2.1∧0≤s.2.2.1∧s.1+1+s.2.1+s.2.2.1≤a.length
def AP:Spec:={ Ts:=[.arr bb,ch],Rs:=[.dat (.arr bb)],al:=true,pre:=fun ((a,s):List Int×aD)=>a.length≤256∧cm a s,F:=fun ((a,s):List Int×aD)=>aJ a s }
def qN:Prop :=
  ∀ (x:List Int×Int×Int×Int×Int×Bool),(x.1.length * 8≤aA∧∀ (x_1:Int),x_1∈x.1→ak .u64 x_1)∧ak .i64 x.2.1∧ak .i64 x.2.2.1∧ak .i64 x.2.2.2.1∧ak .i64 x.2.2.2.2.1∧True→x.1.length≤256∧cm x.1 x.2→ak .i64 (x.2.1+1)∧ak .i64 (x.2.1+1)∧ak .i64 (x.2.1+1+x.2.2.1)∧0≤x.2.1+1∧x.2.1+1≤x.2.1+1+x.2.2.1∧x.2.1+1+x.2.2.1≤(↑x.1.length:Int)∧List.drop (x.2.1+1).toNat (List.take (x.2.1+1+x.2.2.1).toNat x.1)=aJ x.1 x.2∧True
theorem xW:qN:=by
 unfold qN;intro ⟨a,s⟩ _ ⟨h,h1,h2,h3,h4⟩;simp only [ak,aJ] at *;exact ⟨by omega,by omega,by omega,by omega,by omega,by omega,trivial,trivial⟩
theorem ry:AP.ok Tryz.prog 146:=aF (ann:=cw) aq Tryz.func146 (by kernel_rfl) xW
def d9 (m:List (Int×Int)) (i:Int):List aD→List (Int×Int)
 | []=>m
 | s::l=>d9 (if s.2.2.2.2=true then m else eg m (s.1+1) i) (i+1) l
def bJ (l:List aD):List (Int×Int):=d9 [(0,-1)] 0 l
def wx:Nat→Option LoopGen
 | 3=>some { rd:=[.dat 8 (.arr ch)],A:=fun (l:List aD)=>{ cs:=[.map 6 .u64 ty_I,.dat 10 ty_I],inv:=fun ((m,i):List (Int×Int)×Int)=>0≤i∧i≤l.length∧(∀ s∈l,0≤s.1∧s.1≤256)∧d9 m i (l.drop i.toNat)=bJ l,mu:=fun ((_,i):List (Int×Int)×Int)=>(l.length - i).toNat } }
 | _=>none
def vF:Spec:={ Ts:=[.arr ch],Rs:=[.map .u64 ty_I],pre:=fun (l:List aD)=>∀ s∈l,0≤s.1∧s.1≤256,F:=bJ }
def mK:Prop :=
  ∀ (x:List (Int×Int×Int×Int×Bool)),(x.length * (8+(8+(8+(8+8))))≤aA∧∀ (x_1:Int×Int×Int×Int×Bool),x_1∈x→ak .i64 x_1.1∧ak .i64 x_1.2.1∧ak .i64 x_1.2.2.1∧ak .i64 x_1.2.2.2.1∧True)→(∀ (s:aD),s∈x→0≤s.1∧s.1≤256)→((0:Int)≤0∧0≤(↑x.length:Int)∧(∀ (s:aD),s∈x→0≤s.1∧s.1≤256)∧d9 (eg ([]:List (Int×Int)) 0 (-1)) 0 (List.drop (Int.toNat 0) x)=bJ x)∧∀ (x_1:List (Int×Int)×Int),0≤x_1.2∧x_1.2≤(↑x.length:Int)∧(∀ (s:aD),s∈x→0≤s.1∧s.1≤256)∧d9 x_1.1 x_1.2 (List.drop x_1.2.toNat x)=bJ x→(decide (x_1.2<(↑x.length:Int))=true→0≤x_1.2∧x_1.2<(↑x.length:Int)∧((!(x.getD x_1.2.toNat (0,0,0,0,false)).2.2.2.2)=true→ak .u64 (IntKind.u64.wrap (x.getD x_1.2.toNat (0,0,0,0,false)).1+1)∧ak .i64 (x_1.2+1)∧(0≤x_1.2+1∧x_1.2+1≤(↑x.length:Int)∧(∀ (s:aD),s∈x→0≤s.1∧s.1≤256)∧d9 (eg x_1.1 (IntKind.u64.wrap (x.getD x_1.2.toNat (0,0,0,0,false)).1+1) x_1.2) (x_1.2+1) (List.drop (x_1.2+1).toNat x)=bJ x)∧((↑x.length:Int) - (x_1.2+1)).toNat<((↑x.length:Int) - x_1.2).toNat)∧((!(x.getD x_1.2.toNat (0,0,0,0,false)).2.2.2.2)=false→ak .i64 (x_1.2+1)∧(0≤x_1.2+1∧x_1.2+1≤(↑x.length:Int)∧(∀ (s:aD),s∈x→0≤s.1∧s.1≤256)∧d9 x_1.1 (x_1.2+1) (List.drop (x_1.2+1).toNat x)=bJ x)∧((↑x.length:Int) - (x_1.2+1)).toNat<((↑x.length:Int) - x_1.2).toNat))∧(decide (x_1.2<(↑x.length:Int))=false→x_1.1=bJ x∧True)
theorem sB:mK:=by
 unfold mK;intro l ⟨hb,_⟩ hp;refine ⟨⟨by omega,by omega,hp,rfl⟩,fun ⟨m,i⟩ ⟨h0,h1,_,h2⟩=>⟨fun hlt=>?_,fun hge=>?_⟩⟩
 ·have hlt:i<(l.length:Int):=by simpa using hlt
  simp only at *;have hs:=hp _ (aI ((0,0,0,0,false):aD) h0 hlt);rw [aW ((0,0,0,0,false):aD) h0 hlt] at h2;simp only [d9] at h2;generalize l.getD i.toNat (0,0,0,0,false)=s at *;unfold aA at hb;refine ⟨h0,hlt,fun hc=>?_,fun hc=>?_⟩
  ·have hc:¬ s.2.2.2.2=true:=by simpa using hc
   rw [if_neg hc] at h2;rw [fm (by omega) (by omega)];simp only [ak];exact ⟨by omega,by omega,⟨by omega,by omega,hp,h2⟩,by omega⟩
  ·have hc:s.2.2.2.2=true:=by simpa using hc
   rw [if_pos hc] at h2;simp only [ak];exact ⟨by omega,⟨by omega,by omega,hp,h2⟩,by omega⟩
 ·rw [bt (by simpa using hge)] at h2;exact ⟨h2,trivial⟩
theorem vV:vF.ok Tryz.prog 145:=aF (ann:=wx) aq Tryz.func145 (by kernel_rfl) sB
def fB (m:List (Int×Int)) (a:List Int) (l:List aD):Bool:=l.all fun s=>(aJ a s).all fun v=>(aT m v).isSome
def au (a:List Int):List aD×List (Int×Int)×Int :=
 if (aa a).2≠0 then ([],[],(aa a).2) else if fB (bJ (aa a).1) a (aa a).1=true then ((aa a).1,bJ (aa a).1,0) else ([],[],5)
theorem gY {a:List Int} (h:(aa a).2=0):a.length≤256∧∀ s∈(aa a).1,cm a s∧af s.2=0:=by
 unfold aa at h ⊢;split at h
 ·simp at h
 rename_i cl;rw [if_neg cl];refine ⟨by omega,?_⟩;cases e:spotsS 0 a with
 | none=>rw [e] at h; simp at h
 | some l =>
  intro s hs;obtain ⟨h1,h2,h3⟩:=wH 0 a l e s hs;have:=bj h3;unfold ac at h2;exact ⟨⟨h1,this.1,this.2.1,by omega⟩,h3⟩
def wz:Nat→Option LoopGen
 | 6=>some { rd:=[.own 24 124 ch,.dat 0 (.arr bb),.map 23 .u64 ty_I],A:=fun ((l,a,m):List aD×List Int×List (Int×Int))=>{ cs:=[.dat 26 ty_I],inv:=fun (i:Int)=>0≤i∧i≤l.length∧a.length≤256∧(∀ s∈l,cm a s)∧fB m a (l.drop i.toNat)=fB m a l,mu:=fun (i:Int)=>(l.length - i).toNat } }
 | 9=>some { rd:=[.dat 32 (.arr bb),.map 23 .u64 ty_I],A:=fun ((rs,m):List Int×List (Int×Int))=>{ cs:=[.dat 34 ty_I],inv:=fun (j:Int)=>0≤j∧j≤rs.length∧((rs.drop j.toNat).all fun v=>(aT m v).isSome)=(rs.all fun v=>(aT m v).isSome),mu:=fun (j:Int)=>(rs.length - j).toNat } }
 | _=>none
def vH:Spec:={ Ts:=[.arr bb],Rs:=[.dat (.arr ch),.dat (.map .u64 ty_I),.dat ty_I],al:=true,pre:=fun _=>True,F:=au }
def mM:Prop :=
  ∀ (x:List Int),(x.length * 8≤aA∧∀ (x_1:Int),x_1∈x→ak .u64 x_1)→True→True∧(decide ((aa x).2≠0)=true→([]:List (Int×Int×Int×Int×Bool))=(au x).1∧([]:List (Int×Int))=(au x).2.1∧(aa x).2=(au x).2.2∧True)∧(decide ((aa x).2≠0)=false→(∀ (s:aD),s∈(aa x).1→0≤s.1∧s.1≤256)∧((0:Int)≤0∧0≤(↑(aa x).1.length:Int)∧x.length≤256∧(∀ (s:aD),s∈(aa x).1→cm x s)∧fB (bJ (aa x).1) x (List.drop (Int.toNat 0) (aa x).1)=fB (bJ (aa x).1) x (aa x).1)∧∀ (x_1:Int),0≤x_1∧x_1≤(↑(aa x).1.length:Int)∧x.length≤256∧(∀ (s:aD),s∈(aa x).1→cm x s)∧fB (bJ (aa x).1) x (List.drop x_1.toNat (aa x).1)=fB (bJ (aa x).1) x (aa x).1→(decide (x_1<(↑(aa x).1.length:Int))=true→0≤x_1∧x_1<(↑(aa x).1.length:Int)∧x_1.toNat<(aa x).1.length∧(x.length≤256∧cm x ((aa x).1.getD x_1.toNat (0,0,0,0,false)))∧((0:Int)≤0∧0≤(↑(aJ x ((aa x).1.getD x_1.toNat (0,0,0,0,false))).length:Int)∧((List.drop (Int.toNat 0) (aJ x ((aa x).1.getD x_1.toNat (0,0,0,0,false)))).all fun (v:Int)=>(aT (bJ (aa x).1) v).isSome)=(aJ x ((aa x).1.getD x_1.toNat (0,0,0,0,false))).all fun (v:Int)=>(aT (bJ (aa x).1) v).isSome)∧∀ (x_2:Int),(0≤x_2∧x_2≤(↑(aJ x ((aa x).1.getD x_1.toNat (0,0,0,0,false))).length:Int)∧((List.drop x_2.toNat (aJ x ((aa x).1.getD x_1.toNat (0,0,0,0,false)))).all fun (v:Int)=>(aT (bJ (aa x).1) v).isSome)=(aJ x ((aa x).1.getD x_1.toNat (0,0,0,0,false))).all fun (v:Int)=>(aT (bJ (aa x).1) v).isSome)→(decide (x_2<(↑(aJ x ((aa x).1.getD x_1.toNat (0,0,0,0,false))).length:Int))=true→0≤x_2∧x_2<(↑(aJ x ((aa x).1.getD x_1.toNat (0,0,0,0,false))).length:Int)∧((!(aT (bJ (aa x).1) ((aJ x ((aa x).1.getD x_1.toNat (0,0,0,0,false))).getD x_2.toNat 0)).isSome)=true→([]:List (Int×Int×Int×Int×Bool))=(au x).1∧([]:List (Int×Int))=(au x).2.1∧5=(au x).2.2∧True)∧((!(aT (bJ (aa x).1) ((aJ x ((aa x).1.getD x_1.toNat (0,0,0,0,false))).getD x_2.toNat 0)).isSome)=false→ak .i64 (x_2+1)∧(0≤x_2+1∧x_2+1≤(↑(aJ x ((aa x).1.getD x_1.toNat (0,0,0,0,false))).length:Int)∧((List.drop (x_2+1).toNat (aJ x ((aa x).1.getD x_1.toNat (0,0,0,0,false)))).all fun (v:Int)=>(aT (bJ (aa x).1) v).isSome)=(aJ x ((aa x).1.getD x_1.toNat (0,0,0,0,false))).all fun (v:Int)=>(aT (bJ (aa x).1) v).isSome)∧((↑(aJ x ((aa x).1.getD x_1.toNat (0,0,0,0,false))).length:Int) - (x_2+1)).toNat<((↑(aJ x ((aa x).1.getD x_1.toNat (0,0,0,0,false))).length:Int) - x_2).toNat))∧(decide (x_2<(↑(aJ x ((aa x).1.getD x_1.toNat (0,0,0,0,false))).length:Int))=false→ak .i64 (x_1+1)∧(0≤x_1+1∧x_1+1≤(↑(aa x).1.length:Int)∧x.length≤256∧(∀ (s:aD),s∈(aa x).1→cm x s)∧fB (bJ (aa x).1) x (List.drop (x_1+1).toNat (aa x).1)=fB (bJ (aa x).1) x (aa x).1)∧((↑(aa x).1.length:Int) - (x_1+1)).toNat<((↑(aa x).1.length:Int) - x_1).toNat))∧(decide (x_1<(↑(aa x).1.length:Int))=false→(aa x).1=(au x).1∧bJ (aa x).1=(au x).2.1∧0=(au x).2.2∧True))
theorem sD:mM:=by
 unfold mM;intro a ⟨hb,hw⟩ _;have hlen:=cD a;have hin:=gY (a:=a);have hF:au a=if (aa a).2≠0 then ([],[],(aa a).2) else if fB (bJ (aa a).1) a (aa a).1=true then ((aa a).1,bJ (aa a).1,0) else ([],[],5):=rfl
 generalize bJ (aa a).1=m at *;generalize (aa a).1=l at *;refine ⟨trivial,fun hc=>?_,fun hc=>?_⟩
 ·have hc:(aa a).2≠0:=by simpa using hc
  rw [hF,if_pos hc];exact ⟨rfl,rfl,rfl,trivial⟩
 have hc:(aa a).2=0:=by simpa using hc
 rw [if_neg (by omega)] at hF;obtain ⟨hal,hsp⟩:=hin hc;refine ⟨fun s hs=>?_,⟨by omega,by omega,hal,fun s hs=>(hsp s hs).1,rfl⟩,fun i ⟨h0,h1,_,_,h2⟩=>⟨fun hlt=>?_,fun hge=>?_⟩⟩
 ·have:=(hsp s hs).1;unfold cm at this;omega
 ·have hlt:i<(l.length:Int):=by simpa using hlt
  have hs:=hsp _ (aI ((0,0,0,0,false):aD) h0 hlt);rw [aW ((0,0,0,0,false):aD) h0 hlt] at h2;simp only [fB,List.all_cons] at h2;generalize l.getD i.toNat (0,0,0,0,false)=s at *;have hrl:(aJ a s).length≤256:=by simp only [aJ,List.length_drop,List.length_take]; omega
  generalize aJ a s=rs at *;refine ⟨h0,hlt,by omega,⟨hal,hs.1⟩,⟨by omega,by omega,rfl⟩,fun j ⟨g0,g1,g2⟩=>⟨fun hlt=>?_,fun hge=>?_⟩⟩
  ·have hlt:j<(rs.length:Int):=by simpa using hlt
   rw [aW (0:Int) g0 hlt] at g2;simp only [List.all_cons] at g2;generalize rs.getD j.toNat 0=v at *;refine ⟨g0,hlt,fun hv=>?_,fun hv=>?_⟩
   ·have hv:(aT m v).isSome=false:=by simpa using hv
    rw [hv,Bool.false_and] at g2;rw [← g2,Bool.false_and] at h2;rw [hF,if_neg (by unfold fB; rw [← h2]; simp)];exact ⟨rfl,rfl,rfl,trivial⟩
   ·have hv:(aT m v).isSome=true:=by simpa using hv
    rw [hv,Bool.true_and] at g2;simp only [ak];exact ⟨by omega,⟨by omega,by omega,g2⟩,by omega⟩
  ·rw [bt (by simpa using hge),List.all_nil] at g2;rw [← g2,Bool.true_and] at h2;simp only [ak];exact ⟨by omega,⟨by omega,by omega,hal,fun s hs=>(hsp s hs).1,h2⟩,by omega⟩
 ·rw [bt (by simpa using hge)] at h2;have h2:fB m a l=true:=by rw [← h2]; rfl
  rw [hF,if_pos h2];exact ⟨rfl,rfl,rfl,trivial⟩
theorem mX:vH.ok Tryz.prog 105:=aF (ann:=wz) (ae iM (ae vV (ae ry aq))) Tryz.func105 (by kernel_rfl) sD
def yC:Spec:={ Ts:=[.arr bb],Rs:=[.dat ty_I],pre:=fun _=>True,F:=fun (a:List Int)=>(au a).2.2 }
def oo:Prop :=
  ∀ (x:List Int),(x.length * 8≤aA∧∀ (x_1:Int),x_1∈x→ak .u64 x_1)→True→True∧(au x).2.2=(au x).2.2∧True
theorem u5:oo:=by
 unfold oo;intro a _ _;simp
theorem iN:yC.ok Tryz.prog 80:=aF (ann:=cw) (ae mX aq) Tryz.func80 (by kernel_rfl) u5
def jh (a:List Int) (s:aD):List Int:=(a.take (s.1+1+s.2.1+s.2.2.1).toNat).drop (s.1+1+s.2.1).toNat
def gO (a:List Int) (s:aD) (m:List (Int×Int)):Obj:=(s.2.2.2.1,(aJ a s).map (fun v=>(aT m v).getD 0),jh a s,s.2.2.2.2)
def wy:Nat→Option LoopGen
 | 3=>some { rd:=[.dat 20 (.arr bb),.dat 2 (.map .u64 ty_I),.box 4 ch],A:=fun ((rs,m,s):List Int×List (Int×Int)×aD)=>{ cs:=[.boxS 7 [.dat ty_I,.own 3 ty_I,.dat (.arr bb),.dat .bool],.dat 22 ty_I],inv:=fun ((o,j):Obj×Int)=>0≤j∧j≤rs.length∧rs.length≤256∧o=(s.2.2.2.1,(rs.take j.toNat).map (fun v=>(aT m v).getD 0),[],s.2.2.2.2),mu:=fun ((_,j):Obj×Int)=>(rs.length - j).toNat } }
 | _=>none
def vG:Spec:={ Ts:=[.arr bb,ch,.map .u64 ty_I],Rs:=[.dat DB],al:=true,pre:=fun ((a,s,_):List Int×aD×List (Int×Int))=>a.length≤256∧cm a s,F:=fun ((a,s,m):List Int×aD×List (Int×Int))=>gO a s m }
def mL:Prop :=
  ∀ (x:List Int×(Int×Int×Int×Int×Bool)×List (Int×Int)),((x.1.length * 8≤aA∧∀ (x_1:Int),x_1∈x.1→ak .u64 x_1)∧(ak .i64 x.2.1.1∧ak .i64 x.2.1.2.1∧ak .i64 x.2.1.2.2.1∧ak .i64 x.2.1.2.2.2.1∧True)∧∀ (x_1:Int×Int),x_1∈x.2.2→ak .u64 x_1.1∧ak .i64 x_1.2)→x.1.length≤256∧cm x.1 x.2.1→(x.1.length≤256∧cm x.1 x.2.1)∧((0:Int)≤0∧0≤(↑(aJ x.1 x.2.1).length:Int)∧(aJ x.1 x.2.1).length≤256∧(x.2.1.2.2.2.1,([]:List Int),([]:List Int),x.2.1.2.2.2.2)=(x.2.1.2.2.2.1,List.map (fun (v:Int)=>(aT x.2.2 v).getD 0) (List.take (Int.toNat 0) (aJ x.1 x.2.1)),([]:List Int),x.2.1.2.2.2.2))∧∀ (x_1:(Int×List Int×List Int×Bool)×Int),0≤x_1.2∧x_1.2≤(↑(aJ x.1 x.2.1).length:Int)∧(aJ x.1 x.2.1).length≤256∧x_1.1=(x.2.1.2.2.2.1,List.map (fun (v:Int)=>(aT x.2.2 v).getD 0) (List.take x_1.2.toNat (aJ x.1 x.2.1)),([]:List Int),x.2.1.2.2.2.2)→(decide (x_1.2<(↑(aJ x.1 x.2.1).length:Int))=true→0≤x_1.2∧x_1.2<(↑(aJ x.1 x.2.1).length:Int)∧(x_1.1.2.1.length+[(aT x.2.2 ((aJ x.1 x.2.1).getD x_1.2.toNat 0)).getD 0].length) * 8≤aA∧ak .i64 (x_1.2+1)∧(0≤x_1.2+1∧x_1.2+1≤(↑(aJ x.1 x.2.1).length:Int)∧(aJ x.1 x.2.1).length≤256∧(x_1.1.1,x_1.1.2.1++[(aT x.2.2 ((aJ x.1 x.2.1).getD x_1.2.toNat 0)).getD 0],x_1.1.2.2)=(x.2.1.2.2.2.1,List.map (fun (v:Int)=>(aT x.2.2 v).getD 0) (List.take (x_1.2+1).toNat (aJ x.1 x.2.1)),([]:List Int),x.2.1.2.2.2.2))∧((↑(aJ x.1 x.2.1).length:Int) - (x_1.2+1)).toNat<((↑(aJ x.1 x.2.1).length:Int) - x_1.2).toNat)∧(decide (x_1.2<(↑(aJ x.1 x.2.1).length:Int))=false→ak .i64 (x.2.1.1+1)∧ak .i64 (x.2.1.1+1+x.2.1.2.1)∧ak .i64 (x.2.1.1+1+x.2.1.2.1+x.2.1.2.2.1)∧0≤x.2.1.1+1+x.2.1.2.1∧x.2.1.1+1+x.2.1.2.1≤x.2.1.1+1+x.2.1.2.1+x.2.1.2.2.1∧x.2.1.1+1+x.2.1.2.1+x.2.1.2.2.1≤(↑x.1.length:Int)∧True∧(x_1.1.1,x_1.1.2.1,List.drop (x.2.1.1+1+x.2.1.2.1).toNat (List.take (x.2.1.1+1+x.2.1.2.1+x.2.1.2.2.1).toNat x.1),x_1.1.2.2.2)=gO x.1 x.2.1 x.2.2∧True)
theorem sC:mL:=by
 unfold mL;intro ⟨a,s,m⟩ _ ⟨hal,hs⟩;have hs':=hs;unfold cm at hs';simp only at *;have hrl:(aJ a s).length≤256:=by simp only [aJ,List.length_drop,List.length_take]; omega
 have hF:gO a s m=(s.2.2.2.1,(aJ a s).map (fun v=>(aT m v).getD 0),jh a s,s.2.2.2.2):=rfl;have hB:jh a s=(a.take (s.1+1+s.2.1+s.2.2.1).toNat).drop (s.1+1+s.2.1).toNat:=rfl;rw [hF,hB];generalize aJ a s=rs at *;refine ⟨⟨hal,hs⟩,⟨by omega,by omega,hrl,by simp⟩,fun ⟨o,j⟩ ⟨g0,g1,_,g2⟩=>⟨fun hlt=>?_,fun hge=>?_⟩⟩
 ·have hlt:j<(rs.length:Int):=by simpa using hlt
  simp only at g0 g1 g2;have e:=bo (0:Int) g0 hlt;have hl:o.2.1.length=j.toNat:=by rw [g2]; simp; omega
  unfold aA;simp only [ak,List.length_cons,List.length_nil];refine ⟨g0,hlt,by omega,by omega,⟨by omega,by omega,hrl,?_⟩,by omega⟩;rw [e,List.map_append,g2];rfl
 ·have hge:¬ j<(rs.length:Int):=by simpa using hge
  simp only at g0 g1 g2;rw [bF hge] at g2;simp only [ak];refine ⟨by omega,by omega,by omega,by omega,by omega,by omega,trivial,?_,trivial⟩;rw [g2]
theorem vW:vG.ok Tryz.prog 108:=aF (ann:=wy) (ae ry (ae bT aq)) Tryz.func108 (by kernel_rfl) sC
theorem b7 {a:List Int} (h:(au a).2.2=0):a.length≤256∧(au a).1.length≤256∧(au a).1=(aa a).1∧(aa a).2=0∧(au a).2.1=bJ (aa a).1∧fB (bJ (aa a).1) a (aa a).1=true∧∀ s∈(au a).1,cm a s∧af s.2=0:=by
 unfold au at h ⊢;by_cases h1:(aa a).2≠0
 ·rw [if_pos h1] at h;exact absurd h h1
 ·rw [if_neg h1] at h ⊢;have h1:(aa a).2=0:=by omega
  by_cases h2:fB (bJ (aa a).1) a (aa a).1=true
  ·rw [if_pos h2];exact ⟨(gY h1).1,cD a,rfl,h1,rfl,h2,(gY h1).2⟩
  ·rw [if_neg h2] at h;simp at h
def DX:Spec:={ Ts:=[.arr ch,.fn ch .bool],Rs:=[.dat ty_I],pre:=fun ((l,g):List aD×(aD→Prop)×(aD→Bool))=>∀ s∈l,g.1 s,F:=fun ((l,g):List aD×(aD→Prop)×(aD→Bool))=>ai g.2 0 l }
def E3:Nat→Option LoopGen
 | 2=>some { rd:=[.dat 0 (.arr ch),.dat 1 (.fn ch .bool)],A:=fun ((l,g):List aD×(aD→Prop)×(aD→Bool))=>{ cs:=[.dat 8 ty_I],inv:=fun (i:Int)=>0≤i∧i≤l.length∧ai g.2 i (l.drop i.toNat)=ai g.2 0 l,mu:=fun (i:Int)=>(l.length - i).toNat } }
 | _=>none
def tG:Prop :=
  ∀ (x:List (Int×Int×Int×Int×Bool)×(Int×Int×Int×Int×Bool→Prop)×(Int×Int×Int×Int×Bool→Bool)),(x.1.length * (8+(8+(8+(8+8))))≤aA∧∀ (x_1:Int×Int×Int×Int×Bool),x_1∈x.1→ak .i64 x_1.1∧ak .i64 x_1.2.1∧ak .i64 x_1.2.2.1∧ak .i64 x_1.2.2.2.1∧True)∧True→(∀ (s:aD),s∈x.1→x.2.1 s)→((0:Int)≤0∧0≤(↑x.1.length:Int)∧ai x.2.2 0 (List.drop (Int.toNat 0) x.1)=ai x.2.2 0 x.1)∧∀ (x_1:Int),0≤x_1∧x_1≤(↑x.1.length:Int)∧ai x.2.2 x_1 (List.drop x_1.toNat x.1)=ai x.2.2 0 x.1→(decide (x_1<(↑x.1.length:Int))=true→0≤x_1∧x_1<(↑x.1.length:Int)∧x.2.1 (x.1.getD x_1.toNat (0,0,0,0,false))∧(x.2.2 (x.1.getD x_1.toNat (0,0,0,0,false))=true→x_1=ai x.2.2 0 x.1∧True)∧(x.2.2 (x.1.getD x_1.toNat (0,0,0,0,false))=false→ak .i64 (x_1+1)∧(0≤x_1+1∧x_1+1≤(↑x.1.length:Int)∧ai x.2.2 (x_1+1) (List.drop (x_1+1).toNat x.1)=ai x.2.2 0 x.1)∧((↑x.1.length:Int) - (x_1+1)).toNat<((↑x.1.length:Int) - x_1).toNat))∧(decide (x_1<(↑x.1.length:Int))=false→(-1)=ai x.2.2 0 x.1∧True)
theorem AA:tG:=by
 unfold tG;intro ⟨l,g⟩ ⟨⟨hl,_⟩,_⟩ hp;unfold aA at *;refine ⟨⟨by omega,by omega,by simp⟩,fun i ⟨h0,h1,h2⟩=>⟨fun hlt=>?_,fun hge=>?_⟩⟩
 ·have hlt:i<(l.length:Int):=by simpa using hlt
  have e:=aW ((0,0,0,0,false):aD) h0 hlt;have hm:=hp _ (aI ((0,0,0,0,false):aD) h0 hlt);simp only at *;rw [e] at h2;simp only [ai] at h2;refine ⟨h0,hlt,hm,fun hc=>?_,fun hc=>?_⟩
  ·rw [if_pos hc] at h2;exact ⟨h2,trivial⟩
  ·rw [if_neg (by rw [hc]; simp)] at h2;exact ⟨by simp only [ak]; omega,⟨by omega,by omega,h2⟩,by omega⟩
 ·rw [bt (by simpa using hge)] at h2;exact ⟨h2,trivial⟩
theorem nB:DX.ok Tryz.prog 106:=aF (ann:=E3) aq Tryz.func106 (by kernel_rfl) AA
def GR:Spec:={ Ts:=[ch,.ref ty_I],Rs:=[.dat .bool],pre:=fun _=>True,F:=fun ((s,at_):aD×Int)=>decide (s.1=at_) }
def xh:Prop :=
  ∀ (x:(Int×Int×Int×Int×Bool)×Int),(ak .i64 x.1.1∧ak .i64 x.1.2.1∧ak .i64 x.1.2.2.1∧ak .i64 x.1.2.2.2.1∧True)∧ak .i64 x.2→True→decide (x.1.1=x.2)=decide (x.1.1=x.2)∧True
theorem Dx:xh:=by
 unfold xh;intro ⟨s,at_⟩ _ _;simp
theorem Hp:GR.ok Tryz.prog 107:=aF (ann:=cw) aq Tryz.func107 (by kernel_rfl) Dx
def ik:Obj:=(0,[],[],false)
def db (a:List Int) (at_:Int):Obj×Int :=
 if (au a).2.2≠0 then (ik,(au a).2.2) else if ai (fun s=>decide (s.1=at_)) 0 (au a).1<0 then (ik,5)
 else (gO a ((au a).1.getD (ai (fun s=>decide (s.1=at_)) 0 (au a).1).toNat (0,0,0,0,false)) (au a).2.1,0)
def Gr:Spec:={ Ts:=[.arr bb,ty_I],Rs:=[.dat DB,.dat ty_I],al:=true,pre:=fun _=>True,F:=fun ((a,at_):List Int×Int)=>db a at_ }
def wP:Prop :=
  ∀ (x:List Int×Int),(x.1.length * 8≤aA∧∀ (x_1:Int),x_1∈x.1→ak .u64 x_1)∧ak .i64 x.2→True→True∧(decide ((au x.1).2.2≠0)=true→(0,([]:List Int),([]:List Int),false)=(db x.1 x.2).1∧(au x.1).2.2=(db x.1 x.2).2∧True)∧(decide ((au x.1).2.2≠0)=false→(∀ (s:aD),s∈(au x.1).1→(fun (_:Int×Int×Int×Int×Bool)=>True,fun (x_1:Int×Int×Int×Int×Bool)=>decide (x_1.1=x.2)).1 s)∧(decide (ai (fun (x_1:Int×Int×Int×Int×Bool)=>decide (x_1.1=x.2)) 0 (au x.1).1<0)=true→(0,([]:List Int),([]:List Int),false)=(db x.1 x.2).1∧5=(db x.1 x.2).2∧True)∧(decide (ai (fun (x_1:Int×Int×Int×Int×Bool)=>decide (x_1.1=x.2)) 0 (au x.1).1<0)=false→0≤ai (fun (x_1:Int×Int×Int×Int×Bool)=>decide (x_1.1=x.2)) 0 (au x.1).1∧ai (fun (x_1:Int×Int×Int×Int×Bool)=>decide (x_1.1=x.2)) 0 (au x.1).1<(↑(au x.1).1.length:Int)∧(x.1.length≤256∧cm x.1 ((au x.1).1.getD (ai (fun (x_1:Int×Int×Int×Int×Bool)=>decide (x_1.1=x.2)) 0 (au x.1).1).toNat (0,0,0,0,false)))∧gO x.1 ((au x.1).1.getD (ai (fun (x_1:Int×Int×Int×Int×Bool)=>decide (x_1.1=x.2)) 0 (au x.1).1).toNat (0,0,0,0,false)) (au x.1).2.1=(db x.1 x.2).1∧0=(db x.1 x.2).2∧True))
theorem C9:wP:=by
 unfold wP;intro ⟨a,at_⟩ _ _;have hin:=b7 (a:=a)
 have hF:db a at_=if (au a).2.2≠0 then (ik,(au a).2.2) else if ai (fun s=>decide (s.1=at_)) 0 (au a).1<0 then (ik,5)
   else (gO a ((au a).1.getD (ai (fun s=>decide (s.1=at_)) 0 (au a).1).toNat (0,0,0,0,false)) (au a).2.1,0):=rfl
 simp only at *;generalize (au a).1=l at *;have hlt:=dq (fun s:aD=>decide (s.1=at_)) (0,0,0,0,false) l 0 (by omega);rw [hF];refine ⟨trivial,fun hc=>?_,fun hc=>⟨fun _ _=>trivial,fun h2=>?_,fun h2=>?_⟩⟩
 ·have hc:(au a).2.2≠0:=by simpa using hc
  rw [if_pos hc];exact ⟨rfl,rfl,trivial⟩
 ·have hc:(au a).2.2=0:=by simpa using hc
  rw [if_neg (by omega),if_pos (of_decide_eq_true h2)];exact ⟨rfl,rfl,trivial⟩
 ·have hc:(au a).2.2=0:=by simpa using hc
  have h2:=of_decide_eq_false h2;rw [if_neg (by omega),if_neg h2];obtain ⟨hal,hll,_,_,_,_,hsp⟩:=hin hc;have hlt':ai (fun s:aD=>decide (s.1=at_)) 0 l<(l.length:Int):=by omega
  have h2':0≤ai (fun s:aD=>decide (s.1=at_)) 0 l:=Int.not_lt.1 h2;exact ⟨h2',hlt',⟨hal,(hsp _ (aI _ h2' hlt')).1⟩,rfl,rfl,trivial⟩
theorem mv:Gr.ok Tryz.prog 66:=aF (ann:=cw) (ae mX (ae vW (ae nB (ae Hp aq)))) Tryz.func66 (by kernel_rfl) C9
end
section
open Go
set_option maxRecDepth 100000
set_option maxHeartbeats 1000000
def eM:LoopGen:={ rd:=[],A:=fun _=>{ cs:=[],inv:=fun _=>True,mu:=fun _=>0 } }
def bG (l:List Int) (n:Int):Int:=ai (fun x=>decide (x=n)) 0 l
def HX:Nat→Option LoopGen
 | 2=>some { rd:=[.dat 7 (.arr ty_I),.dat 1 ty_I],A:=fun ((l,n):List Int×Int)=>{ cs:=[.dat 9 ty_I],inv:=fun (i:Int)=>0≤i∧i≤l.length∧ai (fun x=>decide (x=n)) i (l.drop i.toNat)=bG l n,mu:=fun (i:Int)=>(l.length - i).toNat } }
 | _=>none
def GH:Spec:={ Ts:=[.arr ty_I,ty_I],Rs:=[.dat ty_I],pre:=fun _=>True,F:=fun ((l,n):List Int×Int)=>bG l n }
def w9:Prop :=
  ∀ (x:List Int×Int),(x.1.length * 8≤aA∧∀ (x_1:Int),x_1∈x.1→ak .i64 x_1)∧ak .i64 x.2→True→((0:Int)≤0∧0≤(↑x.1.length:Int)∧ai (fun (x_1:Int)=>decide (x_1=x.2)) 0 (List.drop (Int.toNat 0) x.1)=bG x.1 x.2)∧∀ (x_1:Int),0≤x_1∧x_1≤(↑x.1.length:Int)∧ai (fun (x_2:Int)=>decide (x_2=x.2)) x_1 (List.drop x_1.toNat x.1)=bG x.1 x.2→(decide (x_1<(↑x.1.length:Int))=true→0≤x_1∧x_1<(↑x.1.length:Int)∧(decide (x.1.getD x_1.toNat 0=x.2)=true→x_1=bG x.1 x.2∧True)∧(decide (x.1.getD x_1.toNat 0=x.2)=false→ak .i64 (x_1+1)∧(0≤x_1+1∧x_1+1≤(↑x.1.length:Int)∧ai (fun (x_2:Int)=>decide (x_2=x.2)) (x_1+1) (List.drop (x_1+1).toNat x.1)=bG x.1 x.2)∧((↑x.1.length:Int) - (x_1+1)).toNat<((↑x.1.length:Int) - x_1).toNat))∧(decide (x_1<(↑x.1.length:Int))=false→(-1)=bG x.1 x.2∧True)
theorem Dp:w9:=by
 unfold w9;intro ⟨l,n⟩ ⟨⟨hb,_⟩,_⟩ _;unfold aA at hb;refine ⟨⟨by omega,by omega,rfl⟩,fun i ⟨h0,h1,h2⟩=>⟨fun hlt=>?_,fun hge=>?_⟩⟩
 ·have hlt:i<(l.length:Int):=by simpa using hlt
  simp only at *;rw [aW (0:Int) h0 hlt] at h2;simp only [ai] at h2;simp only [ak];refine ⟨h0,hlt,fun hc=>?_,fun hc=>?_⟩
  ·rw [if_pos hc] at h2;exact ⟨h2,trivial⟩
  ·rw [if_neg (by rw [hc]; simp)] at h2;exact ⟨by omega,⟨by omega,by omega,h2⟩,by omega⟩
 ·rw [bt (by simpa using hge)] at h2;exact ⟨h2,trivial⟩
theorem pZ:GH.ok Tryz.prog 79:=aF (ann:=HX) aq Tryz.func79 (by kernel_rfl) Dp
def cP (l:List Int) (n:Int):Bool:=l.any fun x=>decide (x=n)
def Lt:Spec:={ Ts:=[.arr ty_I,ty_I],Rs:=[.dat .bool],pre:=fun _=>True,F:=fun ((l,n):List Int×Int)=>cP l n }
def IP:Prop :=
  ∀ (x:List Int×Int),(x.1.length * 8≤aA∧∀ (x_1:Int),x_1∈x.1→ak .i64 x_1)∧ak .i64 x.2→True→True∧decide (0≤bG x.1 x.2)=cP x.1 x.2∧True
theorem Kl:IP:=by
 unfold IP;intro ⟨l,n⟩ _ _;exact ⟨trivial,cW _ l 0 (by omega),trivial⟩
theorem tW:Lt.ok Tryz.prog 90:=aF (ann:=cw) (ae pZ aq) Tryz.func90 (by kernel_rfl) Kl
def Kw:Spec:={ Ts:=[.arr ty_I,ty_I],Rs:=[.dat ty_I],pre:=fun _=>True,F:=fun ((l,v):List Int×Int)=>bG l v }
def Lb:Nat→Option LoopGen
 | 2=>some { rd:=[.dat 0 (.arr ty_I),.dat 1 ty_I],A:=fun ((l,v):List Int×Int)=>{ cs:=[.dat 8 ty_I],inv:=fun (i:Int)=>0≤i∧i≤l.length∧ai (fun x=>decide (x=v)) i (l.drop i.toNat)=bG l v,mu:=fun (i:Int)=>(l.length - i).toNat } }
 | _=>none
def Fj:Prop :=
  ∀ (x:List Int×Int),(x.1.length * 8≤aA∧∀ (x_1:Int),x_1∈x.1→ak .i64 x_1)∧ak .i64 x.2→True→((0:Int)≤0∧0≤(↑x.1.length:Int)∧ai (fun (x_1:Int)=>decide (x_1=x.2)) 0 (List.drop (Int.toNat 0) x.1)=bG x.1 x.2)∧∀ (x_1:Int),0≤x_1∧x_1≤(↑x.1.length:Int)∧ai (fun (x_2:Int)=>decide (x_2=x.2)) x_1 (List.drop x_1.toNat x.1)=bG x.1 x.2→(decide (x_1<(↑x.1.length:Int))=true→0≤x_1∧x_1<(↑x.1.length:Int)∧(decide (x.2=x.1.getD x_1.toNat 0)=true→x_1=bG x.1 x.2∧True)∧(decide (x.2=x.1.getD x_1.toNat 0)=false→ak .i64 (x_1+1)∧(0≤x_1+1∧x_1+1≤(↑x.1.length:Int)∧ai (fun (x_2:Int)=>decide (x_2=x.2)) (x_1+1) (List.drop (x_1+1).toNat x.1)=bG x.1 x.2)∧((↑x.1.length:Int) - (x_1+1)).toNat<((↑x.1.length:Int) - x_1).toNat))∧(decide (x_1<(↑x.1.length:Int))=false→(-1)=bG x.1 x.2∧True)
theorem H6:Fj:=by
 unfold Fj;intro ⟨l,n⟩ ⟨⟨hb,_⟩,_⟩ _;unfold aA at hb;refine ⟨⟨by omega,by omega,rfl⟩,fun i ⟨h0,h1,h2⟩=>⟨fun hlt=>?_,fun hge=>?_⟩⟩
 ·have hlt:i<(l.length:Int):=by simpa using hlt
  simp only at *;rw [aW (0:Int) h0 hlt] at h2;simp only [ai] at h2;simp only [ak];refine ⟨h0,hlt,fun hc=>?_,fun hc=>?_⟩
  ·rw [if_pos (decide_eq_true (of_decide_eq_true hc).symm)] at h2;exact ⟨h2,trivial⟩
  ·rw [if_neg (fun e=>of_decide_eq_false hc (of_decide_eq_true e).symm)] at h2;exact ⟨by omega,⟨by omega,by omega,h2⟩,by omega⟩
 ·rw [bt (by simpa using hge)] at h2;exact ⟨h2,trivial⟩
theorem Fy:Kw.ok Tryz.prog 104:=aF (ann:=Lb) aq Tryz.func104 (by kernel_rfl) H6
def Kx:Spec:={ Ts:=[.arr ty_I,ty_I],Rs:=[.dat .bool],pre:=fun _=>True,F:=fun ((l,v):List Int×Int)=>cP l v }
def Fk:Prop :=
  ∀ (x:List Int×Int),(x.1.length * 8≤aA∧∀ (x_1:Int),x_1∈x.1→ak .i64 x_1)∧ak .i64 x.2→True→True∧decide (0≤bG x.1 x.2)=cP x.1 x.2∧True
theorem H7:Fk:=by
 unfold Fk;intro ⟨l,v⟩ _ _;exact ⟨trivial,cW _ l 0 (by omega),trivial⟩
theorem zr:Kx.ok Tryz.prog 64:=aF (ann:=cw) (ae Fy aq) Tryz.func64 (by kernel_rfl) H7
def IB:Spec:={ Ts:=[.arr ty_I,.fn ty_I .bool],Rs:=[.dat ty_I],pre:=fun ((l,g):List Int×(Int→Prop)×(Int→Bool))=>∀ s∈l,g.1 s,F:=fun ((l,g):List Int×(Int→Prop)×(Int→Bool))=>ai g.2 0 l }
def Ke:Nat→Option LoopGen
 | 2=>some { rd:=[.dat 0 (.arr ty_I),.dat 1 (.fn ty_I .bool)],A:=fun ((l,g):List Int×(Int→Prop)×(Int→Bool))=>{ cs:=[.dat 8 ty_I],inv:=fun (i:Int)=>0≤i∧i≤l.length∧ai g.2 i (l.drop i.toNat)=ai g.2 0 l,mu:=fun (i:Int)=>(l.length - i).toNat } }
 | _=>none
def BK:Prop :=
  ∀ (x:List Int×(Int→Prop)×(Int→Bool)),(x.1.length * 8≤aA∧∀ (x_1:Int),x_1∈x.1→ak .i64 x_1)∧True→(∀ (s:Int),s∈x.1→x.2.1 s)→((0:Int)≤0∧0≤(↑x.1.length:Int)∧ai x.2.2 0 (List.drop (Int.toNat 0) x.1)=ai x.2.2 0 x.1)∧∀ (x_1:Int),0≤x_1∧x_1≤(↑x.1.length:Int)∧ai x.2.2 x_1 (List.drop x_1.toNat x.1)=ai x.2.2 0 x.1→(decide (x_1<(↑x.1.length:Int))=true→0≤x_1∧x_1<(↑x.1.length:Int)∧x.2.1 (x.1.getD x_1.toNat 0)∧(x.2.2 (x.1.getD x_1.toNat 0)=true→x_1=ai x.2.2 0 x.1∧True)∧(x.2.2 (x.1.getD x_1.toNat 0)=false→ak .i64 (x_1+1)∧(0≤x_1+1∧x_1+1≤(↑x.1.length:Int)∧ai x.2.2 (x_1+1) (List.drop (x_1+1).toNat x.1)=ai x.2.2 0 x.1)∧((↑x.1.length:Int) - (x_1+1)).toNat<((↑x.1.length:Int) - x_1).toNat))∧(decide (x_1<(↑x.1.length:Int))=false→(-1)=ai x.2.2 0 x.1∧True)
theorem Ge:BK:=by
 unfold BK;intro ⟨l,g⟩ ⟨⟨hl,_⟩,_⟩ hp;unfold aA at *;refine ⟨⟨by omega,by omega,by simp⟩,fun i ⟨h0,h1,h2⟩=>⟨fun hlt=>?_,fun hge=>?_⟩⟩
 ·have hlt:i<(l.length:Int):=by simpa using hlt
  have e:=aW (0:Int) h0 hlt;have hm:=hp _ (aI (0:Int) h0 hlt);simp only at *;rw [e] at h2;simp only [ai] at h2;refine ⟨h0,hlt,hm,fun hc=>?_,fun hc=>?_⟩
  ·rw [if_pos hc] at h2;exact ⟨h2,trivial⟩
  ·rw [if_neg (by rw [hc]; simp)] at h2;exact ⟨by simp only [ak]; omega,⟨by omega,by omega,h2⟩,by omega⟩
 ·rw [bt (by simpa using hge)] at h2;exact ⟨h2,trivial⟩
theorem B4:IB.ok Tryz.prog 148:=aF (ann:=Ke) aq Tryz.func148 (by kernel_rfl) Ge
def KC:Spec:={ Ts:=[.arr ty_I,.fn ty_I .bool],Rs:=[.dat .bool],pre:=fun ((l,g):List Int×(Int→Prop)×(Int→Bool))=>∀ s∈l,g.1 s,F:=fun ((l,g):List Int×(Int→Prop)×(Int→Bool))=>l.any g.2 }
def Fp:Prop :=
  ∀ (x:List Int×(Int→Prop)×(Int→Bool)),(x.1.length * 8≤aA∧∀ (x_1:Int),x_1∈x.1→ak .i64 x_1)∧True→(∀ (s:Int),s∈x.1→x.2.1 s)→(∀ (s:Int),s∈x.1→x.2.1 s)∧decide (0≤ai x.2.2 0 x.1)=x.1.any x.2.2∧True
theorem Ic:Fp:=by
 unfold Fp;intro ⟨l,g⟩ _ hp;exact ⟨hp,cW _ l 0 (by omega),trivial⟩
theorem zu:KC.ok Tryz.prog 119:=aF (ann:=cw) (ae B4 aq) Tryz.func119 (by kernel_rfl) Ic
def bA:List Int→Bool
 | x::y::l=>decide (x<y)&&bA (y::l)
 | _=>true
theorem y7:∀ {l:List Int},l.length≤1→bA l=true
 | [],_=>rfl
 | [_],_=>rfl
 | _::_::_,h=>by simp at h
def J6:Nat→Option LoopGen
 | 2=>some { rd:=[.dat 0 (.arr ty_I)],A:=fun (l:List Int)=>{ cs:=[.dat 3 ty_I],inv:=fun (i:Int)=>1≤i∧i≤l.length+1∧bA (l.drop (i - 1).toNat)=bA l,mu:=fun (i:Int)=>(l.length - i).toNat } }
 | _=>none
def Io:Spec:={ Ts:=[.arr ty_I],Rs:=[.dat .bool],pre:=fun _=>True,F:=bA }
def By:Prop :=
  ∀ (x:List Int),(x.length * (8:Nat)≤aA∧∀ (x_1:Int),x_1∈x→ak IntKind.i64 x_1)→True→((1:Int)≤(1:Int)∧(1:Int)≤(↑x.length:Int)+(1:Int)∧bA (List.drop ((1:Int) - (1:Int)).toNat x)=bA x)∧∀ (x_1:Int),(1:Int)≤x_1∧x_1≤(↑x.length:Int)+(1:Int)∧bA (List.drop (x_1 - (1:Int)).toNat x)=bA x→(decide (x_1<(↑x.length:Int))=true→ak IntKind.i64 (x_1 - (1:Int))∧(0:Int)≤x_1 - (1:Int)∧x_1 - (1:Int)<(↑x.length:Int)∧(0:Int)≤x_1∧x_1<(↑x.length:Int)∧(decide (x.getD x_1.toNat (0:Int)≤x.getD (x_1 - (1:Int)).toNat (0:Int))=true→false=bA x∧True)∧(decide (x.getD x_1.toNat (0:Int)≤x.getD (x_1 - (1:Int)).toNat (0:Int))=false→ak IntKind.i64 (x_1+(1:Int))∧((1:Int)≤x_1+(1:Int)∧x_1+(1:Int)≤(↑x.length:Int)+(1:Int)∧bA (List.drop (x_1+(1:Int) - (1:Int)).toNat x)=bA x)∧((↑x.length:Int) - (x_1+(1:Int))).toNat<((↑x.length:Int) - x_1).toNat))∧(decide (x_1<(↑x.length:Int))=false→true=bA x∧True)
theorem F3:By:=by
 unfold By;intro l ⟨hb,_⟩ _;unfold aA at hb;refine ⟨⟨by omega,by omega,rfl⟩,fun i ⟨h0,h1,h2⟩=>⟨fun hlt=>?_,fun hge=>?_⟩⟩
 ·have hlt:i<(l.length:Int):=of_decide_eq_true hlt;have e1:=aW (0:Int) (xs:=l) (i:=i - 1) (by omega) (by omega);have e2:=aW (0:Int) (xs:=l) (i:=i) (by omega) hlt;rw [show i - 1+1=i by omega] at e1;simp only [ak] at h2 ⊢;rw [e1,e2] at h2;simp only [bA] at h2;rw [← e2] at h2;refine ⟨by omega,by omega,by omega,by omega,hlt,fun hc=>?_,fun hc=>⟨by omega,⟨by omega,by omega,?_⟩,by omega⟩⟩
  ·have hc:=of_decide_eq_true hc;rw [← h2,decide_eq_false (by omega)];exact ⟨rfl,trivial⟩
  ·have hc:=of_decide_eq_false hc;rw [decide_eq_true (by omega),Bool.true_and] at h2;rw [show i+1 - 1=i by omega];exact h2
 ·have hge:¬ i<(l.length:Int):=of_decide_eq_false hge;rw [y7 (by rw [List.length_drop]; omega)] at h2;exact ⟨h2,trivial⟩
theorem I3:Io.ok Tryz.prog 184:=aF (ann:=J6) aq Tryz.func184 (by kernel_rfl) F3
end
section
open Go
set_option maxRecDepth 100000
set_option maxHeartbeats 1000000
def GF:Spec:={ Ts:=[.arr bb],Rs:=[.own 124 ch,.dat ty_I],pre:=fun _=>True,F:=aa }
def HV:Nat→Option LoopGen
 | 6=>some { rd:=[.dat 12 (.arr bb)],A:=fun (a:List Int)=>{ cs:=[.own 4 124 ch,.dat 5 ty_I,.dat 14 ty_I],inv:=fun ((out,nx,at_):List aD×Int×Int)=>a.length≤256∧0≤at_∧at_≤a.length∧at_≤nx∧nx≤a.length∧out.length≤at_∧spotsS 0 a=(spotsS nx (a.drop nx.toNat)).map (out++·),mu:=fun ((_,_,at_):List aD×Int×Int)=>(a.length - at_).toNat } }
 | _=>none
def w7:Prop :=
  ∀ (x:List Int),(x.length * 8≤aA∧∀ (x_1:Int),x_1∈x→ak .u64 x_1)→True→(decide (256<(↑x.length:Int))=true→([]:List (Int×Int×Int×Int×Bool))=(aa x).1∧2=(aa x).2∧True)∧(decide (256<(↑x.length:Int))=false→(x.length≤256∧(0:Int)≤0∧0≤(↑x.length:Int)∧(0:Int)≤0∧0≤(↑x.length:Int)∧(↑(0:Nat):Int)≤0∧spotsS 0 x=Option.map (fun (x:List aD)=>([]:List (Int×Int×Int×Int×Bool))++x) (spotsS 0 (List.drop (Int.toNat 0) x)))∧∀ (x_1:List (Int×Int×Int×Int×Bool)×Int×Int),x.length≤256∧0≤x_1.2.2∧x_1.2.2≤(↑x.length:Int)∧x_1.2.2≤x_1.2.1∧x_1.2.1≤(↑x.length:Int)∧(↑x_1.1.length:Int)≤x_1.2.2∧spotsS 0 x=Option.map (fun (x:List aD)=>x_1.1++x) (spotsS x_1.2.1 (List.drop x_1.2.1.toNat x))→(decide (x_1.2.2<(↑x.length:Int))=true→(decide (x_1.2.2≠x_1.2.1)=true→ak .i64 (x_1.2.2+1)∧(x.length≤256∧0≤x_1.2.2+1∧x_1.2.2+1≤(↑x.length:Int)∧x_1.2.2+1≤x_1.2.1∧x_1.2.1≤(↑x.length:Int)∧(↑x_1.1.length:Int)≤x_1.2.2+1∧spotsS 0 x=Option.map (fun (x:List aD)=>x_1.1++x) (spotsS x_1.2.1 (List.drop x_1.2.1.toNat x)))∧((↑x.length:Int) - (x_1.2.2+1)).toNat<((↑x.length:Int) - x_1.2.2).toNat)∧(decide (x_1.2.2≠x_1.2.1)=false→0≤x_1.2.2∧x_1.2.2<(↑x.length:Int)∧True∧((!aQ (x.getD x_1.2.2.toNat 0))=false→ak .i64 (1+(if aQ (x.getD x_1.2.2.toNat 0)=true then aS (x.getD x_1.2.2.toNat 0) else aY).1)∧ak .i64 (1+(if aQ (x.getD x_1.2.2.toNat 0)=true then aS (x.getD x_1.2.2.toNat 0) else aY).1+(if aQ (x.getD x_1.2.2.toNat 0)=true then aS (x.getD x_1.2.2.toNat 0) else aY).2.1))∧((!aQ (x.getD x_1.2.2.toNat 0))=false→ak .i64 (x_1.2.2+ac (if aQ (x.getD x_1.2.2.toNat 0)=true then aS (x.getD x_1.2.2.toNat 0) else aY)))∧((!aQ (x.getD x_1.2.2.toNat 0)||decide ((↑x.length:Int)<x_1.2.2+ac (if aQ (x.getD x_1.2.2.toNat 0)=true then aS (x.getD x_1.2.2.toNat 0) else aY)))=true→([]:List (Int×Int×Int×Int×Bool))=(aa x).1∧3=(aa x).2∧True)∧((!aQ (x.getD x_1.2.2.toNat 0)||decide ((↑x.length:Int)<x_1.2.2+ac (if aQ (x.getD x_1.2.2.toNat 0)=true then aS (x.getD x_1.2.2.toNat 0) else aY)))=false→(x_1.1.length+[(x_1.2.2,if aQ (x.getD x_1.2.2.toNat 0)=true then aS (x.getD x_1.2.2.toNat 0) else aY)].length) * (8+(8+(8+(8+8))))≤aA∧(ak .i64 (1+(if aQ (x.getD x_1.2.2.toNat 0)=true then aS (x.getD x_1.2.2.toNat 0) else aY).1)∧ak .i64 (1+(if aQ (x.getD x_1.2.2.toNat 0)=true then aS (x.getD x_1.2.2.toNat 0) else aY).1+(if aQ (x.getD x_1.2.2.toNat 0)=true then aS (x.getD x_1.2.2.toNat 0) else aY).2.1))∧ak .i64 (x_1.2.2+ac (if aQ (x.getD x_1.2.2.toNat 0)=true then aS (x.getD x_1.2.2.toNat 0) else aY))∧ak .i64 (x_1.2.2+1)∧(x.length≤256∧0≤x_1.2.2+1∧x_1.2.2+1≤(↑x.length:Int)∧x_1.2.2+1≤x_1.2.2+ac (if aQ (x.getD x_1.2.2.toNat 0)=true then aS (x.getD x_1.2.2.toNat 0) else aY)∧x_1.2.2+ac (if aQ (x.getD x_1.2.2.toNat 0)=true then aS (x.getD x_1.2.2.toNat 0) else aY)≤(↑x.length:Int)∧(↑(x_1.1++[(x_1.2.2,if aQ (x.getD x_1.2.2.toNat 0)=true then aS (x.getD x_1.2.2.toNat 0) else aY)]).length:Int)≤x_1.2.2+1∧spotsS 0 x=Option.map (fun (x_2:List aD)=>x_1.1++[(x_1.2.2,if aQ (x.getD x_1.2.2.toNat 0)=true then aS (x.getD x_1.2.2.toNat 0) else aY)]++x_2) (spotsS (x_1.2.2+ac (if aQ (x.getD x_1.2.2.toNat 0)=true then aS (x.getD x_1.2.2.toNat 0) else aY)) (List.drop (x_1.2.2+ac (if aQ (x.getD x_1.2.2.toNat 0)=true then aS (x.getD x_1.2.2.toNat 0) else aY)).toNat x)))∧((↑x.length:Int) - (x_1.2.2+1)).toNat<((↑x.length:Int) - x_1.2.2).toNat)))∧(decide (x_1.2.2<(↑x.length:Int))=false→x_1.1=(aa x).1∧0=(aa x).2∧True))
theorem Dn:w7:=by
 unfold w7;intro a ⟨hb,hw⟩ _;by_cases cl:256<a.length
 ·have e:aa a=([],2):=by unfold aa; rw [if_pos cl]
  simp [e];omega
 have eF:aa a=match spotsS 0 a with | none=>([],3) | some l=>(l,0):=by unfold aa; rw [if_neg cl] <;> rfl
 refine ⟨fun h=>by simp at h; omega,fun _=>⟨⟨by omega,by omega,by omega,by omega,by omega,by simp,by simp⟩,fun ⟨out,nx,k⟩ ⟨_,h0,h1,h4,h5,h2,h3⟩=>⟨fun hlt0=>?_,fun hge=>?_⟩⟩⟩
 ·have hlt:k<(a.length:Int):=of_decide_eq_true hlt0;clear hlt0;simp only at h0 h1 h2 h3 h4 h5 hlt ⊢;refine ⟨fun hne=>?_,fun heq=>?_⟩
  ·have hne:k≠nx:=by simpa using hne
   simp only [ak];exact ⟨by omega,⟨by omega,by omega,by omega,by omega,by omega,by omega,h3⟩,by omega⟩
  have heq:k=nx:=by simpa using heq
  subst heq;rw [aW (0:Int) h0 hlt] at h3;have hdl:(((a.getD k.toNat 0::a.drop (k+1).toNat).length:Nat):Int)=a.length - k:=by rw [List.length_cons,List.length_drop]; omega
  have hdd:∀ n:Int,0≤n→(a.getD k.toNat 0::a.drop (k+1).toNat).drop n.toNat=a.drop (k+n).toNat:=fun n hn=>by
   rw [← aW (0:Int) h0 hlt,List.drop_drop];congr 1;omega
  generalize a.getD k.toNat 0=v at *;by_cases g1:aQ v=true
  ·have hl:=eL g1
   have hf:af (aS v)=0:=by
    have:=g1;simp only [aQ,Bool.and_eq_true,beq_iff_eq] at this;exact this.2
   have hz:=bj hf;have hL:ac (aS v)=1+(aS v).1+(aS v).2.1:=rfl;simp only [g1,if_true,Bool.not_true,Bool.false_or,ak];refine ⟨h0,hlt,trivial,fun _=>⟨by omega,by omega⟩,fun _=>by omega,fun hc=>?_,fun hc=>?_⟩
   ·have hc:=of_decide_eq_true hc;rw [eI (by rintro ⟨_,g2⟩; omega)] at h3;rw [eF,h3];exact ⟨rfl,rfl,trivial⟩
   ·have hc:=of_decide_eq_false hc;rw [eJ g1 (by omega),hdd _ (by omega),Option.map_map] at h3;unfold aA;simp only [List.length_append,List.length_cons,List.length_nil];refine ⟨by omega,⟨by omega,by omega⟩,by omega,by omega,⟨by omega,by omega,by omega,by omega,by omega,by omega,?_⟩,by omega⟩;rw [h3];congr 1;funext x;simp
  ·have g1':aQ v=false:=by simpa using g1
   rw [eI (fun h=>g1 h.1)] at h3;simp only [g1',Bool.not_false,Bool.true_or];refine ⟨h0,hlt,trivial,fun h=>by simp at h,fun h=>by simp at h,fun _=>?_,fun h=>by simp at h⟩;rw [eF,h3];exact ⟨rfl,rfl,trivial⟩
 ·have hge:¬ k<(a.length:Int):=by simpa using hge
  simp only at *;rw [bt (by omega)] at h3;simp only [spotsS,Option.map_some,List.append_nil] at h3;rw [eF,h3];exact ⟨rfl,rfl,trivial⟩
theorem mw:GF.ok Tryz.prog 71:=aF (ann:=HV) (ae zp (ae gN aq)) Tryz.func71 (by kernel_rfl) Dn
def aj (at_:Int):List aD→du×Bool
 | []=>(aY,false)
 | s::l=>if s.1=at_∧s.2.2.2.2=false then (s.2,true) else aj at_ l
theorem gn (at_:Int):∀ (l:List aD),aj at_ l=(aY,false)∨∃ s∈l,s.1=at_∧s.2.2.2.2=false∧aj at_ l=(s.2,true)
 | []=>.inl rfl
 | s::l=>by
  simp only [aj];split
  ·rename_i h;exact .inr ⟨s,by simp,h.1,h.2,rfl⟩
  ·rcases gn at_ l with h | ⟨t,h1,h2⟩
   ·exact .inl h
   ·exact .inr ⟨t,by simp [h1],h2⟩
def EY:Nat→Option LoopGen
 | 3=>some { rd:=[.own 15 124 ch,.dat 1 ty_I],A:=fun ((l,at_):List aD×Int)=>{ cs:=[.box 4 de,.dat 17 ty_I],inv:=fun ((_,i):du×Int)=>0≤i∧i≤l.length∧l.length≤256∧aj at_ (l.drop i.toNat)=aj at_ l,mu:=fun ((_,i):du×Int)=>(l.length - i).toNat } }
 | _=>none
def DQ:Spec:={ Ts:=[.arr bb,ty_I],Rs:=[.dat de,.dat .bool],pre:=fun _=>True,F:=fun ((a,at_):List Int×Int)=>aj at_ (aa a).1 }
def tw:Prop :=
  ∀ (x:List Int×Int),(x.1.length * 8≤aA∧∀ (x_1:Int),x_1∈x.1→ak .u64 x_1)∧ak .i64 x.2→True→True∧((0:Int)≤0∧0≤(↑(aa x.1).1.length:Int)∧(aa x.1).1.length≤256∧aj x.2 (List.drop (Int.toNat 0) (aa x.1).1)=aj x.2 (aa x.1).1)∧∀ (x_1:(Int×Int×Int×Bool)×Int),0≤x_1.2∧x_1.2≤(↑(aa x.1).1.length:Int)∧(aa x.1).1.length≤256∧aj x.2 (List.drop x_1.2.toNat (aa x.1).1)=aj x.2 (aa x.1).1→(decide (x_1.2<(↑(aa x.1).1.length:Int))=true→0≤x_1.2∧x_1.2<(↑(aa x.1).1.length:Int)∧x_1.2.toNat<(aa x.1).1.length∧((decide (((aa x.1).1.getD x_1.2.toNat (0,0,0,0,false)).1=x.2)&&!((aa x.1).1.getD x_1.2.toNat (0,0,0,0,false)).2.2.2.2)=true→((aa x.1).1.getD x_1.2.toNat (0,0,0,0,false)).2=(aj x.2 (aa x.1).1).1∧true=(aj x.2 (aa x.1).1).2∧True)∧((decide (((aa x.1).1.getD x_1.2.toNat (0,0,0,0,false)).1=x.2)&&!((aa x.1).1.getD x_1.2.toNat (0,0,0,0,false)).2.2.2.2)=false→ak .i64 (x_1.2+1)∧(0≤x_1.2+1∧x_1.2+1≤(↑(aa x.1).1.length:Int)∧(aa x.1).1.length≤256∧aj x.2 (List.drop (x_1.2+1).toNat (aa x.1).1)=aj x.2 (aa x.1).1)∧((↑(aa x.1).1.length:Int) - (x_1.2+1)).toNat<((↑(aa x.1).1.length:Int) - x_1.2).toNat))∧(decide (x_1.2<(↑(aa x.1).1.length:Int))=false→(0,0,0,false)=(aj x.2 (aa x.1).1).1∧false=(aj x.2 (aa x.1).1).2∧True)
theorem At:tw:=by
 unfold tw;intro ⟨a,at_⟩ _ _;have hlen:=cD a;simp only at *;generalize (aa a).1=l at *;refine ⟨trivial,⟨by omega,by omega,hlen,by simp⟩,fun ⟨_,i⟩ ⟨h0,h1,_,h2⟩=>⟨fun hlt=>?_,fun hge=>?_⟩⟩
 ·have hlt:i<(l.length:Int):=by simpa using hlt
  simp only at h0 h1 h2 ⊢;rw [aW ((0,0,0,0,false):aD) h0 hlt] at h2;simp only [aj] at h2;generalize l.getD i.toNat (0,0,0,0,false)=s at *;simp only [ak];refine ⟨h0,hlt,by omega,fun hc=>?_,fun hc=>?_⟩
  ·have hc:s.1=at_∧s.2.2.2.2=false:=by simpa using hc
   rw [if_pos hc] at h2;rw [← h2];exact ⟨rfl,rfl,trivial⟩
  ·have hc:¬ (s.1=at_∧s.2.2.2.2=false):=by
    rintro ⟨g1,g2⟩;rw [g1,g2] at hc;simp at hc
   rw [if_neg hc] at h2;exact ⟨by omega,⟨by omega,by omega,hlen,h2⟩,by omega⟩
 ·rw [bt (by simpa using hge)] at h2;rw [← h2];exact ⟨rfl,rfl,trivial⟩
theorem g8:DQ.ok Tryz.prog 31:=aF (ann:=EY) (ae mw aq) Tryz.func31 (by kernel_rfl) At
theorem D5 {α:Type} {a:List α} {p q:Nat} (d:α) (h:p≤q) (hq:q<a.length):(a.take (q+1)).drop p=(a.take q).drop p++[a.getD q d]:=by
 rw [List.take_succ_eq_append_getElem hq,List.drop_append_of_le_length (by rw [List.length_take]; omega)];simp [hq]
def nameOf (v:Int):Int:=(if 256<v then 9999 else v) - 1
def aL (a:List Int) (at_:Int) (h:du):List Int:=((a.take (at_+1+h.1).toNat).drop (at_+1).toNat).map nameOf
def HY:Nat→Option LoopGen
 | 4=>some { rd:=[.dat 0 (.arr bb),.dat 1 ty_I,.dat 17 ty_I],A:=fun ((a,at_,n):List Int×Int×Int)=>{ cs:=[.own 7 3 ty_I,.dat 18 ty_I],inv:=fun ((out,k):List Int×Int)=>0≤k∧k≤n∧out.length=k∧(0<n→0≤at_∧at_+1+n≤a.length∧a.length≤256)∧out=((a.take (at_+1+k).toNat).drop (at_+1).toNat).map nameOf,mu:=fun ((_,k):List Int×Int)=>(n - k).toNat } }
 | _=>none
def GI:Spec:={ Ts:=[.arr bb,ty_I],Rs:=[.own 3 ty_I],pre:=fun _=>True,F:=fun ((a,at_):List Int×Int)=>aL a at_ (aj at_ (aa a).1).1 }
def xa:Prop :=
  ∀ (x:List Int×Int),(x.1.length * 8≤aA∧∀ (x_1:Int),x_1∈x.1→ak .u64 x_1)∧ak .i64 x.2→True→True∧((0:Int)≤0∧0≤(aj x.2 (aa x.1).1).1.1∧(↑(0:Nat):Int)=0∧(0<(aj x.2 (aa x.1).1).1.1→0≤x.2∧x.2+1+(aj x.2 (aa x.1).1).1.1≤(↑x.1.length:Int)∧x.1.length≤256)∧([]:List Int)=List.map nameOf (List.drop (x.2+1).toNat (List.take (x.2+1+0).toNat x.1)))∧∀ (x_1:List Int×Int),0≤x_1.2∧x_1.2≤(aj x.2 (aa x.1).1).1.1∧(↑x_1.1.length:Int)=x_1.2∧(0<(aj x.2 (aa x.1).1).1.1→0≤x.2∧x.2+1+(aj x.2 (aa x.1).1).1.1≤(↑x.1.length:Int)∧x.1.length≤256)∧x_1.1=List.map nameOf (List.drop (x.2+1).toNat (List.take (x.2+1+x_1.2).toNat x.1))→(decide (x_1.2<(aj x.2 (aa x.1).1).1.1)=true→ak .i64 (x.2+1)∧ak .i64 (x.2+1+x_1.2)∧0≤x.2+1+x_1.2∧x.2+1+x_1.2<(↑x.1.length:Int)∧(decide (256<x.1.getD (x.2+1+x_1.2).toNat 0)=true→ak .i64 (IntKind.i64.wrap 9999 - 1)∧(x_1.1.length+[IntKind.i64.wrap 9999 - 1].length) * 8≤aA∧ak .i64 (x_1.2+1)∧(0≤x_1.2+1∧x_1.2+1≤(aj x.2 (aa x.1).1).1.1∧(↑(x_1.1++[IntKind.i64.wrap 9999 - 1]).length:Int)=x_1.2+1∧(0<(aj x.2 (aa x.1).1).1.1→0≤x.2∧x.2+1+(aj x.2 (aa x.1).1).1.1≤(↑x.1.length:Int)∧x.1.length≤256)∧x_1.1++[IntKind.i64.wrap 9999 - 1]=List.map nameOf (List.drop (x.2+1).toNat (List.take (x.2+1+(x_1.2+1)).toNat x.1)))∧((aj x.2 (aa x.1).1).1.1 - (x_1.2+1)).toNat<((aj x.2 (aa x.1).1).1.1 - x_1.2).toNat)∧(decide (256<x.1.getD (x.2+1+x_1.2).toNat 0)=false→ak .i64 (IntKind.i64.wrap (x.1.getD (x.2+1+x_1.2).toNat 0) - 1)∧(x_1.1.length+[IntKind.i64.wrap (x.1.getD (x.2+1+x_1.2).toNat 0) - 1].length) * 8≤aA∧ak .i64 (x_1.2+1)∧(0≤x_1.2+1∧x_1.2+1≤(aj x.2 (aa x.1).1).1.1∧(↑(x_1.1++[IntKind.i64.wrap (x.1.getD (x.2+1+x_1.2).toNat 0) - 1]).length:Int)=x_1.2+1∧(0<(aj x.2 (aa x.1).1).1.1→0≤x.2∧x.2+1+(aj x.2 (aa x.1).1).1.1≤(↑x.1.length:Int)∧x.1.length≤256)∧x_1.1++[IntKind.i64.wrap (x.1.getD (x.2+1+x_1.2).toNat 0) - 1]=List.map nameOf (List.drop (x.2+1).toNat (List.take (x.2+1+(x_1.2+1)).toNat x.1)))∧((aj x.2 (aa x.1).1).1.1 - (x_1.2+1)).toNat<((aj x.2 (aa x.1).1).1.1 - x_1.2).toNat))∧(decide (x_1.2<(aj x.2 (aa x.1).1).1.1)=false→x_1.1=aL x.1 x.2 (aj x.2 (aa x.1).1).1∧True)
theorem Dq:xa:=by
 unfold xa;intro ⟨a,at_⟩ ⟨⟨hb,hw⟩,_⟩ _
 have hin:0≤(aj at_ (aa a).1).1.1∧(0<(aj at_ (aa a).1).1.1→0≤at_∧at_+1+(aj at_ (aa a).1).1.1≤a.length∧a.length≤256):=by
  rcases gn at_ (aa a).1 with e | ⟨s,h1,h2,_,e⟩
  ·rw [e]; simp [aY]
  ·rw [e]
   have hz:(aa a).2=0:=by
    unfold aa at h1 ⊢;split at h1
    ·simp at h1
    ·rename_i cl;rw [if_neg cl];cases hs:spotsS 0 a with
     | none=>rw [hs] at h1; simp at h1
     | some l=>rfl
   obtain ⟨k1,k2⟩:=gY hz;have:=(k2 s h1).1;unfold cm at this;simp only;omega
 have hF:aL a at_ (aj at_ (aa a).1).1=((a.take (at_+1+(aj at_ (aa a).1).1.1).toNat).drop (at_+1).toNat).map nameOf:=rfl;simp only at *;rw [hF];generalize (aj at_ (aa a).1).1.1=n at *;clear hF;obtain ⟨hn,hin⟩:=hin;refine ⟨trivial,⟨by omega,hn,by simp,hin,?_⟩,fun ⟨out,k⟩ ⟨h0,h1,h2,_,h3⟩=>⟨fun hlt=>?_,fun hge=>?_⟩⟩
 ·rw [Int.add_zero,List.drop_of_length_le (by rw [List.length_take]; omega)];rfl
 ·have hlt:k<n:=of_decide_eq_true hlt;simp only at h0 h1 h2 h3 ⊢;obtain ⟨q1,q2,q3⟩:=hin (by omega);have hs:=D5 (a:=a) (p:=(at_+1).toNat) (q:=(at_+1+k).toNat) 0 (by omega) (by omega);rw [show (at_+1+k).toNat+1=(at_+1+(k+1)).toNat by omega] at hs;have hv:=hw _ (aI (0:Int) (xs:=a) (i:=at_+1+k) (by omega) (by omega));rw [hs,List.map_append,← h3];generalize a.getD (at_+1+k).toNat 0=v at *;unfold aA;simp only [ak] at hv;simp only [ak,List.length_append,List.length_cons,List.length_nil];refine ⟨by omega,by omega,by omega,by omega,fun hc=>?_,fun hc=>?_⟩
  ·have hc:=of_decide_eq_true hc;rw [je (by omega) (by omega)];exact ⟨by omega,by omega,by omega,⟨by omega,by omega,by omega,hin,by simp [nameOf,hc]⟩,by omega⟩
  ·have hc:=of_decide_eq_false hc;rw [je (by omega) (by omega)];exact ⟨by omega,by omega,by omega,⟨by omega,by omega,by omega,hin,by simp [nameOf,hc]⟩,by omega⟩
 ·have hge:¬ k<n:=of_decide_eq_false hge;simp only at h0 h1 h2 h3;rw [h3,show k=n by omega];exact ⟨rfl,trivial⟩
theorem my:GI.ok Tryz.prog 36:=aF (ann:=HY) (ae g8 aq) Tryz.func36 (by kernel_rfl) Dq
def ah:List aD→List Int
 | []=>[]
 | s::l=>if s.2.2.2.2=true then ah l else s.1::ah l
def E0:Nat→Option LoopGen
 | 4=>some { rd:=[.own 13 124 ch],A:=fun (l:List aD)=>{ cs:=[.own 5 3 ty_I,.dat 15 ty_I],inv:=fun ((out,i):List Int×Int)=>0≤i∧i≤l.length∧l.length≤256∧out.length≤i∧out++ah (l.drop i.toNat)=ah l,mu:=fun ((_,i):List Int×Int)=>(l.length - i).toNat } }
 | _=>none
def DS:Spec:={ Ts:=[.arr bb],Rs:=[.own 3 ty_I],pre:=fun _=>True,F:=fun (a:List Int)=>ah (aa a).1 }
def tz:Prop :=
  ∀ (x:List Int),(x.length * 8≤aA∧∀ (x_1:Int),x_1∈x→ak .u64 x_1)→True→True∧((0:Int)≤0∧0≤(↑(aa x).1.length:Int)∧(aa x).1.length≤256∧(↑(0:Nat):Int)≤0∧([]:List Int)++ah (List.drop (Int.toNat 0) (aa x).1)=ah (aa x).1)∧∀ (x_1:List Int×Int),0≤x_1.2∧x_1.2≤(↑(aa x).1.length:Int)∧(aa x).1.length≤256∧(↑x_1.1.length:Int)≤x_1.2∧x_1.1++ah (List.drop x_1.2.toNat (aa x).1)=ah (aa x).1→(decide (x_1.2<(↑(aa x).1.length:Int))=true→0≤x_1.2∧x_1.2<(↑(aa x).1.length:Int)∧x_1.2.toNat<(aa x).1.length∧((!((aa x).1.getD x_1.2.toNat (0,0,0,0,false)).2.2.2.2)=true→(x_1.1.length+[((aa x).1.getD x_1.2.toNat (0,0,0,0,false)).1].length) * 8≤aA∧ak .i64 (x_1.2+1)∧(0≤x_1.2+1∧x_1.2+1≤(↑(aa x).1.length:Int)∧(aa x).1.length≤256∧(↑(x_1.1++[((aa x).1.getD x_1.2.toNat (0,0,0,0,false)).1]).length:Int)≤x_1.2+1∧x_1.1++[((aa x).1.getD x_1.2.toNat (0,0,0,0,false)).1]++ah (List.drop (x_1.2+1).toNat (aa x).1)=ah (aa x).1)∧((↑(aa x).1.length:Int) - (x_1.2+1)).toNat<((↑(aa x).1.length:Int) - x_1.2).toNat)∧((!((aa x).1.getD x_1.2.toNat (0,0,0,0,false)).2.2.2.2)=false→ak .i64 (x_1.2+1)∧(0≤x_1.2+1∧x_1.2+1≤(↑(aa x).1.length:Int)∧(aa x).1.length≤256∧(↑x_1.1.length:Int)≤x_1.2+1∧x_1.1++ah (List.drop (x_1.2+1).toNat (aa x).1)=ah (aa x).1)∧((↑(aa x).1.length:Int) - (x_1.2+1)).toNat<((↑(aa x).1.length:Int) - x_1.2).toNat))∧(decide (x_1.2<(↑(aa x).1.length:Int))=false→x_1.1=ah (aa x).1∧True)
theorem Av:tz:=by
 unfold tz;intro a _ _;have hlen:=cD a;generalize (aa a).1=l at *;refine ⟨trivial,⟨by omega,by omega,hlen,by simp,by simp⟩,fun ⟨out,i⟩ ⟨h0,h1,_,h3,h2⟩=>⟨fun hlt=>?_,fun hge=>?_⟩⟩
 ·have hlt:i<(l.length:Int):=by simpa using hlt
  simp only at *;rw [aW ((0,0,0,0,false):aD) h0 hlt] at h2;simp only [ah] at h2;generalize l.getD i.toNat (0,0,0,0,false)=s at *;unfold aA;simp only [ak,List.length_append,List.length_cons,List.length_nil];refine ⟨h0,hlt,by omega,fun hc=>?_,fun hc=>?_⟩
  ·have hc:¬ s.2.2.2.2=true:=by simpa using hc
   rw [if_neg hc] at h2;exact ⟨by omega,by omega,⟨by omega,by omega,hlen,by omega,by rw [List.append_assoc]; exact h2⟩,by omega⟩
  ·have hc:s.2.2.2.2=true:=by simpa using hc
   rw [if_pos hc] at h2;exact ⟨by omega,⟨by omega,by omega,hlen,by omega,h2⟩,by omega⟩
 ·rw [bt (by simpa using hge)] at h2;simp only [ah,List.append_nil] at h2;exact ⟨h2,trivial⟩
theorem nz:DS.ok Tryz.prog 89:=aF (ann:=E0) (ae mw aq) Tryz.func89 (by kernel_rfl) Av
end
section
open Go
set_option maxRecDepth 100000
set_option maxHeartbeats 1000000
def yJ:Spec:={ Ts:=[.arr ty_I,.arr ty_I],Rs:=[.dat .bool],pre:=fun _=>True,F:=fun (x:List Int×List Int)=>decide (x.1=x.2) }
def Ag:Nat→Option LoopGen
 | 4=>some { rd:=[.dat 0 (.arr ty_I),.dat 1 (.arr ty_I)],A:=fun (g:List Int×List Int)=>{ cs:=[.dat 13 ty_I],inv:=fun (i:Int)=>g.1.length=g.2.length∧0≤i∧i≤g.1.length∧g.1.take i.toNat=g.2.take i.toNat,mu:=fun (i:Int)=>(g.1.length - i).toNat } }
 | _=>none
def oB:Prop :=
  ∀ (x:List Int×List Int),((x.1.length * 8≤aA∧∀ (x_1:Int),x_1∈x.1→ak .i64 x_1)∧x.2.length * 8≤aA∧∀ (x_1:Int),x_1∈x.2→ak .i64 x_1)→True→(decide ((↑x.1.length:Int)≠(↑x.2.length:Int))=true→false=decide (x.1=x.2)∧True)∧(decide ((↑x.1.length:Int)≠(↑x.2.length:Int))=false→(x.1.length=x.2.length∧(0:Int)≤0∧0≤(↑x.1.length:Int)∧List.take (Int.toNat 0) x.1=List.take (Int.toNat 0) x.2)∧∀ (x_1:Int),x.1.length=x.2.length∧0≤x_1∧x_1≤(↑x.1.length:Int)∧List.take x_1.toNat x.1=List.take x_1.toNat x.2→(decide (x_1<(↑x.1.length:Int))=true→0≤x_1∧x_1<(↑x.1.length:Int)∧0≤x_1∧x_1<(↑x.2.length:Int)∧(decide (x.1.getD x_1.toNat 0≠x.2.getD x_1.toNat 0)=true→false=decide (x.1=x.2)∧True)∧(decide (x.1.getD x_1.toNat 0≠x.2.getD x_1.toNat 0)=false→ak .i64 (x_1+1)∧(x.1.length=x.2.length∧0≤x_1+1∧x_1+1≤(↑x.1.length:Int)∧List.take (x_1+1).toNat x.1=List.take (x_1+1).toNat x.2)∧((↑x.1.length:Int) - (x_1+1)).toNat<((↑x.1.length:Int) - x_1).toNat))∧(decide (x_1<(↑x.1.length:Int))=false→true=decide (x.1=x.2)∧True))
theorem vg:oB:=by
 unfold oB;intro x hw _;refine ⟨fun h=>?_,fun h=>?_⟩
 ·have h:x.1.length≠x.2.length:=by have:=of_decide_eq_true h; omega
  have:x.1≠x.2:=fun e=>h (by rw [e])
  simp [this]
 have hl:x.1.length=x.2.length:=by have:=of_decide_eq_false h; omega
 refine ⟨⟨hl,by omega,by omega,by simp⟩,fun i ⟨_,h0,h1,ht⟩=>⟨fun hlt=>?_,fun hge=>?_⟩⟩
 ·have hlt:i<x.1.length:=by simpa using hlt
  refine ⟨h0,hlt,h0,by omega,fun hne=>?_,fun he=>?_⟩
  ·have hne:x.1.getD i.toNat 0≠x.2.getD i.toNat 0:=by simpa using hne
   have:x.1≠x.2:=fun e=>hne (by rw [e])
   simp [this]
  ·have he:x.1.getD i.toNat 0=x.2.getD i.toNat 0:=by simpa using he
   have hb:=hw.1.1;unfold aA at hb;refine ⟨by simp only [ak]; omega,⟨hl,by omega,by omega,?_⟩,by omega⟩;rw [show (i+1).toNat=i.toNat+1 by omega];exact mf hl (by omega) ht he
 ·have hge:¬ i<x.1.length:=by simpa using hge
  have hi:i.toNat=x.1.length:=by omega
  rw [hi,List.take_of_length_le (Nat.le_refl _),List.take_of_length_le (by omega)] at ht;simp [ht]
theorem zm:yJ.ok Tryz.prog 51:=aF (ann:=Ag) aq Tryz.func51 (by kernel_rfl) vg
def vK:Spec:={ Ts:=[.arr bb,.arr bb],Rs:=[.dat .bool],pre:=fun _=>True,F:=fun (x:List Int×List Int)=>decide (x.1=x.2) }
def wB:Nat→Option LoopGen
 | 4=>some { rd:=[.dat 0 (.arr bb),.dat 1 (.arr bb)],A:=fun (g:List Int×List Int)=>{ cs:=[.dat 13 ty_I],inv:=fun (i:Int)=>g.1.length=g.2.length∧0≤i∧i≤g.1.length∧g.1.take i.toNat=g.2.take i.toNat,mu:=fun (i:Int)=>(g.1.length - i).toNat } }
 | _=>none
def mP:Prop :=
  ∀ (x:List Int×List Int),((x.1.length * 8≤aA∧∀ (x_1:Int),x_1∈x.1→ak .u64 x_1)∧x.2.length * 8≤aA∧∀ (x_1:Int),x_1∈x.2→ak .u64 x_1)→True→(decide ((↑x.1.length:Int)≠(↑x.2.length:Int))=true→false=decide (x.1=x.2)∧True)∧(decide ((↑x.1.length:Int)≠(↑x.2.length:Int))=false→(x.1.length=x.2.length∧(0:Int)≤0∧0≤(↑x.1.length:Int)∧List.take (Int.toNat 0) x.1=List.take (Int.toNat 0) x.2)∧∀ (x_1:Int),x.1.length=x.2.length∧0≤x_1∧x_1≤(↑x.1.length:Int)∧List.take x_1.toNat x.1=List.take x_1.toNat x.2→(decide (x_1<(↑x.1.length:Int))=true→0≤x_1∧x_1<(↑x.1.length:Int)∧0≤x_1∧x_1<(↑x.2.length:Int)∧(decide (x.1.getD x_1.toNat 0≠x.2.getD x_1.toNat 0)=true→false=decide (x.1=x.2)∧True)∧(decide (x.1.getD x_1.toNat 0≠x.2.getD x_1.toNat 0)=false→ak .i64 (x_1+1)∧(x.1.length=x.2.length∧0≤x_1+1∧x_1+1≤(↑x.1.length:Int)∧List.take (x_1+1).toNat x.1=List.take (x_1+1).toNat x.2)∧((↑x.1.length:Int) - (x_1+1)).toNat<((↑x.1.length:Int) - x_1).toNat))∧(decide (x_1<(↑x.1.length:Int))=false→true=decide (x.1=x.2)∧True))
theorem sG:mP:=by
 unfold mP;intro x hw _;refine ⟨fun h=>?_,fun h=>?_⟩
 ·have h:x.1.length≠x.2.length:=by have:=of_decide_eq_true h; omega
  have:x.1≠x.2:=fun e=>h (by rw [e])
  simp [this]
 have hl:x.1.length=x.2.length:=by have:=of_decide_eq_false h; omega
 refine ⟨⟨hl,by omega,by omega,by simp⟩,fun i ⟨_,h0,h1,ht⟩=>⟨fun hlt=>?_,fun hge=>?_⟩⟩
 ·have hlt:i<x.1.length:=by simpa using hlt
  refine ⟨h0,hlt,h0,by omega,fun hne=>?_,fun he=>?_⟩
  ·have hne:x.1.getD i.toNat 0≠x.2.getD i.toNat 0:=by simpa using hne
   have:x.1≠x.2:=fun e=>hne (by rw [e])
   simp [this]
  ·have he:x.1.getD i.toNat 0=x.2.getD i.toNat 0:=by simpa using he
   have hb:=hw.1.1;unfold aA at hb;refine ⟨by simp only [ak]; omega,⟨hl,by omega,by omega,?_⟩,by omega⟩;rw [show (i+1).toNat=i.toNat+1 by omega];exact mf hl (by omega) ht he
 ·have hge:¬ i<x.1.length:=by simpa using hge
  have hi:i.toNat=x.1.length:=by omega
  rw [hi,List.take_of_length_le (Nat.le_refl _),List.take_of_length_le (by omega)] at ht;simp [ht]
theorem vY:vK.ok Tryz.prog 50:=aF (ann:=wB) aq Tryz.func50 (by kernel_rfl) sG
theorem fJ:∀ l:List aD,(ah l).length≤l.length
 | []=>by simp [ah]
 | s::l=>by
  have:=fJ l;simp only [ah];split <;> simp <;> omega
def fM (all:List Int) (rs:List Int):Bool:=rs.all fun to=>decide (to=-1)||cP all to
def eV (a:List Int) (l:List aD) (all:List Int):List Int→Bool
 | []=>true
 | at_::r=>fM all (aL a at_ (aj at_ l).1)&&eV a l all r
def fK (a:List Int):Int:=if (aa a).2≠0 then (aa a).2 else if eV a (aa a).1 (ah (aa a).1) (ah (aa a).1)=true then 0 else 5
def uV:Nat→Option LoopGen
 | 6=>some { rd:=[.own 20 3 ty_I,.dat 0 (.arr bb)],A:=fun ((all,a):List Int×List Int)=>{ cs:=[.dat 22 ty_I],inv:=fun (i:Int)=>0≤i∧i≤all.length∧all.length≤256∧a.length≤256∧eV a (aa a).1 all (all.drop i.toNat)=eV a (aa a).1 all all,mu:=fun (i:Int)=>(all.length - i).toNat } }
 | 9=>some { rd:=[.own 28 3 ty_I,.own 20 3 ty_I],A:=fun ((rs,all):List Int×List Int)=>{ cs:=[.dat 30 ty_I],inv:=fun (j:Int)=>0≤j∧j≤rs.length∧rs.length≤256∧fM all (rs.drop j.toNat)=fM all rs,mu:=fun (j:Int)=>(rs.length - j).toNat } }
 | _=>none
def sZ:Spec:={ Ts:=[.arr bb],Rs:=[.dat ty_I],pre:=fun _=>True,F:=fK }
def lF:Prop :=
  ∀ (x:List Int),(x.length * 8≤aA∧∀ (x_1:Int),x_1∈x→ak .u64 x_1)→True→True∧(decide ((aa x).2≠0)=true→(aa x).2=fK x∧True)∧(decide ((aa x).2≠0)=false→True∧((0:Int)≤0∧0≤(↑(ah (aa x).1).length:Int)∧(ah (aa x).1).length≤256∧x.length≤256∧eV x (aa x).1 (ah (aa x).1) (List.drop (Int.toNat 0) (ah (aa x).1))=eV x (aa x).1 (ah (aa x).1) (ah (aa x).1))∧∀ (x_1:Int),0≤x_1∧x_1≤(↑(ah (aa x).1).length:Int)∧(ah (aa x).1).length≤256∧x.length≤256∧eV x (aa x).1 (ah (aa x).1) (List.drop x_1.toNat (ah (aa x).1))=eV x (aa x).1 (ah (aa x).1) (ah (aa x).1)→(decide (x_1<(↑(ah (aa x).1).length:Int))=true→0≤x_1∧x_1<(↑(ah (aa x).1).length:Int)∧x_1.toNat<(ah (aa x).1).length∧True∧((0:Int)≤0∧0≤(↑(aL x ((ah (aa x).1).getD x_1.toNat 0) (aj ((ah (aa x).1).getD x_1.toNat 0) (aa x).1).1).length:Int)∧(aL x ((ah (aa x).1).getD x_1.toNat 0) (aj ((ah (aa x).1).getD x_1.toNat 0) (aa x).1).1).length≤256∧fM (ah (aa x).1) (List.drop (Int.toNat 0) (aL x ((ah (aa x).1).getD x_1.toNat 0) (aj ((ah (aa x).1).getD x_1.toNat 0) (aa x).1).1))=fM (ah (aa x).1) (aL x ((ah (aa x).1).getD x_1.toNat 0) (aj ((ah (aa x).1).getD x_1.toNat 0) (aa x).1).1))∧∀ (x_2:Int),0≤x_2∧x_2≤(↑(aL x ((ah (aa x).1).getD x_1.toNat 0) (aj ((ah (aa x).1).getD x_1.toNat 0) (aa x).1).1).length:Int)∧(aL x ((ah (aa x).1).getD x_1.toNat 0) (aj ((ah (aa x).1).getD x_1.toNat 0) (aa x).1).1).length≤256∧fM (ah (aa x).1) (List.drop x_2.toNat (aL x ((ah (aa x).1).getD x_1.toNat 0) (aj ((ah (aa x).1).getD x_1.toNat 0) (aa x).1).1))=fM (ah (aa x).1) (aL x ((ah (aa x).1).getD x_1.toNat 0) (aj ((ah (aa x).1).getD x_1.toNat 0) (aa x).1).1)→(decide (x_2<(↑(aL x ((ah (aa x).1).getD x_1.toNat 0) (aj ((ah (aa x).1).getD x_1.toNat 0) (aa x).1).1).length:Int))=true→0≤x_2∧x_2<(↑(aL x ((ah (aa x).1).getD x_1.toNat 0) (aj ((ah (aa x).1).getD x_1.toNat 0) (aa x).1).1).length:Int)∧x_2.toNat<(aL x ((ah (aa x).1).getD x_1.toNat 0) (aj ((ah (aa x).1).getD x_1.toNat 0) (aa x).1).1).length∧(decide ((aL x ((ah (aa x).1).getD x_1.toNat 0) (aj ((ah (aa x).1).getD x_1.toNat 0) (aa x).1).1).getD x_2.toNat (0:Int)≠-1)=true→True)∧((decide ((aL x ((ah (aa x).1).getD x_1.toNat 0) (aj ((ah (aa x).1).getD x_1.toNat 0) (aa x).1).1).getD x_2.toNat (0:Int)≠-1)&&!cP (ah (aa x).1) ((aL x ((ah (aa x).1).getD x_1.toNat 0) (aj ((ah (aa x).1).getD x_1.toNat 0) (aa x).1).1).getD x_2.toNat 0))=true→5=fK x∧True)∧((decide ((aL x ((ah (aa x).1).getD x_1.toNat 0) (aj ((ah (aa x).1).getD x_1.toNat 0) (aa x).1).1).getD x_2.toNat (0:Int)≠-1)&&!cP (ah (aa x).1) ((aL x ((ah (aa x).1).getD x_1.toNat 0) (aj ((ah (aa x).1).getD x_1.toNat 0) (aa x).1).1).getD x_2.toNat 0))=false→ak .i64 (x_2+1)∧(0≤x_2+1∧x_2+1≤(↑(aL x ((ah (aa x).1).getD x_1.toNat 0) (aj ((ah (aa x).1).getD x_1.toNat 0) (aa x).1).1).length:Int)∧(aL x ((ah (aa x).1).getD x_1.toNat 0) (aj ((ah (aa x).1).getD x_1.toNat 0) (aa x).1).1).length≤256∧fM (ah (aa x).1) (List.drop (x_2+1).toNat (aL x ((ah (aa x).1).getD x_1.toNat 0) (aj ((ah (aa x).1).getD x_1.toNat 0) (aa x).1).1))=fM (ah (aa x).1) (aL x ((ah (aa x).1).getD x_1.toNat 0) (aj ((ah (aa x).1).getD x_1.toNat 0) (aa x).1).1))∧((↑(aL x ((ah (aa x).1).getD x_1.toNat 0) (aj ((ah (aa x).1).getD x_1.toNat 0) (aa x).1).1).length:Int) - (x_2+1)).toNat<((↑(aL x ((ah (aa x).1).getD x_1.toNat 0) (aj ((ah (aa x).1).getD x_1.toNat 0) (aa x).1).1).length:Int) - x_2).toNat))∧(decide (x_2<(↑(aL x ((ah (aa x).1).getD x_1.toNat 0) (aj ((ah (aa x).1).getD x_1.toNat 0) (aa x).1).1).length:Int))=false→ak .i64 (x_1+1)∧(0≤x_1+1∧x_1+1≤(↑(ah (aa x).1).length:Int)∧(ah (aa x).1).length≤256∧x.length≤256∧eV x (aa x).1 (ah (aa x).1) (List.drop (x_1+1).toNat (ah (aa x).1))=eV x (aa x).1 (ah (aa x).1) (ah (aa x).1))∧((↑(ah (aa x).1).length:Int) - (x_1+1)).toNat<((↑(ah (aa x).1).length:Int) - x_1).toNat))∧(decide (x_1<(↑(ah (aa x).1).length:Int))=false→0=fK x∧True))
theorem rY:lF:=by
 unfold lF;intro a _ _;have hlen:=cD a;have hbl:=fJ (aa a).1;have hF:fK a=if (aa a).2≠0 then (aa a).2 else if eV a (aa a).1 (ah (aa a).1) (ah (aa a).1)=true then 0 else 5:=rfl
 generalize ah (aa a).1=all at *;refine ⟨trivial,fun hc=>?_,fun hc=>?_⟩
 ·have hc:(aa a).2≠0:=by simpa using hc
  rw [hF,if_pos hc];exact ⟨rfl,trivial⟩
 have hc:(aa a).2=0:=by simpa using hc
 rw [if_neg (by omega)] at hF;have hal:=(gY hc).1;have hnl:∀ at_ h,(aL a at_ h).length≤256:=fun at_ h=>by simp only [aL,List.length_map,List.length_drop,List.length_take]; omega
 generalize hl:(aa a).1=l at *;refine ⟨trivial,⟨by omega,by omega,by omega,hal,rfl⟩,fun i ⟨h0,h1,_,_,h2⟩=>⟨fun hlt=>?_,fun hge=>?_⟩⟩
 ·have hlt:i<(all.length:Int):=by simpa using hlt
  rw [aW (0:Int) h0 hlt] at h2;simp only [eV] at h2;have hnl:=hnl (all.getD i.toNat 0) (aj (all.getD i.toNat 0) l).1;generalize aL a (all.getD i.toNat 0) (aj (all.getD i.toNat 0) l).1=rs at *;refine ⟨h0,hlt,by omega,trivial,⟨by omega,by omega,hnl,rfl⟩,fun j ⟨g0,g1,_,g2⟩=>⟨fun hlt=>?_,fun hge=>?_⟩⟩
  ·have hlt:j<(rs.length:Int):=by simpa using hlt
   rw [aW (0:Int) g0 hlt] at g2;simp only [fM,List.all_cons] at g2;generalize rs.getD j.toNat 0=v at *;have hv:(decide (v≠-1)&&!cP all v)=!(decide (v=-1)||cP all v):=by simp
   rw [hv];simp only [ak];refine ⟨g0,hlt,by omega,fun _=>trivial,fun hv=>?_,fun hv=>?_⟩
   ·have hv:(decide (v=-1)||cP all v)=false:=by simpa using hv
    rw [hv,Bool.false_and] at g2;have g2:fM all rs=false:=g2.symm;rw [g2,Bool.false_and] at h2;rw [hF,if_neg (by rw [← h2]; simp)];exact ⟨rfl,trivial⟩
   ·have hv:(decide (v=-1)||cP all v)=true:=by
     cases h:(decide (v=-1)||cP all v)
     ·rw [h] at hv; cases hv
     ·rfl
    rw [hv,Bool.true_and] at g2;exact ⟨by omega,⟨by omega,by omega,hnl,g2⟩,by omega⟩
  ·rw [bt (by simpa using hge)] at g2;have g2:fM all rs=true:=g2.symm;rw [g2,Bool.true_and] at h2;simp only [ak];exact ⟨by omega,⟨by omega,by omega,by omega,hal,h2⟩,by omega⟩
 ·rw [bt (by simpa using hge)] at h2;have h2:eV a l all all=true:=h2.symm;rw [hF,if_pos h2];exact ⟨rfl,trivial⟩
theorem lJ:sZ.ok Tryz.prog 44:=aF (ann:=uV) (ae mw (ae nz (ae my (ae tW aq)))) Tryz.func44 (by kernel_rfl) rY
theorem dw (a:List Int):∀ s∈(aa a).1,a.length≤256∧cm a s∧af s.2=0:=by
 intro s hs
 have hz:(aa a).2=0:=by
  unfold aa at hs ⊢;split at hs
  ·simp at hs
  ·rename_i cl;rw [if_neg cl];cases h:spotsS 0 a with
   | none=>rw [h] at hs; simp at hs
   | some l=>rfl
 have h:=gY hz;exact ⟨h.1,(h.2 s hs).1,(h.2 s hs).2⟩
end
section
open Go
set_option maxRecDepth 100000
set_option maxHeartbeats 1000000
theorem vD (at_:Int) (l:List Int) (r:List aD) (h:spotsS at_ l=some r):r.Pairwise (fun s t=>s.1<t.1):=by
 induction at_,l using spotsS.induct generalizing r with
 | case1 at_ =>
  simp only [spotsS,Option.some.injEq] at h;subst h;exact List.Pairwise.nil
 | case2 at_ v l hv ih =>
  rw [eJ hv.1 hv.2] at h;obtain ⟨r',hr,rfl⟩:=Option.map_eq_some_iff.1 h;have hl:=eL hv.1;refine List.pairwise_cons.2 ⟨fun t ht=>?_,ih r' hr⟩;have:=(wH _ _ _ hr t ht).1;simp only;omega
 | case3 at_ v l hv =>
  rw [eI hv] at h;cases h
theorem cp (a:List Int):(aa a).1.Pairwise (fun s t=>s.1<t.1):=by
 unfold aa;split
 ·exact List.Pairwise.nil
 ·cases h:spotsS 0 a with
  | none=>exact List.Pairwise.nil
  | some l=>exact vD 0 a l h
theorem ja {α:Type} (k k':Int) (x:α):∀ (m:List (Int×α)),aT (eg m k x) k'=if k'=k then some x else aT m k'
 | []=>by
  simp only [eg,aT];by_cases h:k=k'
  ·simp [h]
  ·simp [h,Ne.symm h]
 | y::m=>by
  have ih:=ja k k' x m;simp only [eg];by_cases hy:y.1=k
  ·rw [if_pos hy];simp only [aT];by_cases h:k=k'
   ·simp [h]
   ·simp [h,Ne.symm h,hy]
  ·rw [if_neg hy];simp only [aT,ih];by_cases h:y.1=k'
   ·have:k'≠k:=fun e=>hy (h.trans e)
    simp [h,this]
   ·simp [h]
def mG (v:Int):Int→List aD→Option Int
 | _,[]=>none
 | i,s::l=>if s.2.2.2.2=false∧s.1+1=v then some i else mG v (i+1) l
theorem xm {v:Int}:∀ (l:List aD) (i:Int),(∀ s∈l,s.1+1≠v)→mG v i l=none
 | [],_,_=>rfl
 | s::l,i,h=>by
  simp only [mG];rw [if_neg (fun e=>h s (by simp) e.2)];exact xm l (i+1) (fun t ht=>h t (by simp [ht]))
theorem jm (v:Int):∀ (l:List aD) (m:List (Int×Int)) (i:Int),l.Pairwise (fun s t=>s.1<t.1)→aT (d9 m i l) v=(mG v i l).or (aT m v)
 | [],m,i,_=>rfl
 | s::l,m,i,h=>by
  obtain ⟨h1,h2⟩:=List.pairwise_cons.1 h;simp only [d9,mG];rw [jm v l _ (i+1) h2];cases hf:s.2.2.2.2
  ·simp only [Bool.false_eq_true,if_false,true_and];rw [ja];by_cases hv:s.1+1=v
   ·rw [xm l (i+1) (fun t ht e=>by have:=h1 t ht; omega),if_pos hv,if_pos hv.symm];rfl
   ·rw [if_neg hv,if_neg (fun e=>hv e.symm)]
  ·simp
theorem ko (v:Int):∀ (l:List aD) (i:Int),(mG v i l).isSome=cP (ah l) (v - 1)
 | [],_=>rfl
 | s::l,i=>by
  have ih:=ko v l (i+1);simp only [mG,ah];cases hf:s.2.2.2.2
  ·simp only [true_and,Bool.false_eq_true,if_false,cP,List.any_cons];by_cases hv:s.1+1=v
   ·rw [if_pos hv];simp;left; omega
   ·rw [if_neg hv,ih];have:¬ s.1=v - 1:=by omega
    simp [this,cP]
  ·simp [ih]
theorem gb (n:Int):∀ (l:List aD),(∀ s∈l,0≤s.1∧s.1≤255)→(n<0∨255<n)→cP (ah l) n=false
 | [],_,_=>rfl
 | s::l,h,hn=>by
  have ih:=gb n l (fun t ht=>h t (by simp [ht])) hn;have hs:=h s (by simp);simp only [ah];split
  ·exact ih
  ·simp only [cP,List.any_cons] at ih ⊢;rw [ih];simp;omega
theorem pW {l:List aD} (hs:l.Pairwise (fun s t=>s.1<t.1)) (hr:∀ s∈l,0≤s.1∧s.1≤255) {v:Int} (hv:0≤v) :
  (decide (nameOf v=-1)||cP (ah l) (nameOf v))=(aT (bJ l) v).isSome:=by
 unfold bJ;rw [jm v l _ 0 hs];by_cases h0:v=0
 ·subst h0;cases h:mG 0 0 l <;> simp [nameOf,aT]
 ·have e1:aT [((0:Int),(-1:Int))] v=none:=by simp [aT,Ne.symm h0]
  rw [e1,Option.or_none,ko];by_cases hb:256<v
  ·have:nameOf v=9998:=by simp [nameOf,hb]
   rw [this,gb 9998 l hr (by omega),gb (v - 1) l hr (by omega)];rfl
  ·have:nameOf v=v - 1:=by simp [nameOf,hb]
   rw [this];have:¬ v - 1=-1:=by omega
   simp [this]
theorem kR:∀ {l:List aD} {s:aD},l.Pairwise (fun s t=>s.1<t.1)→s∈l→s.2.2.2.2=false→aj s.1 l=(s.2,true)
 | t::l,s,hs,hm,hf=>by
  obtain ⟨h1,h2⟩:=List.pairwise_cons.1 hs;simp only [aj];rcases List.mem_cons.1 hm with rfl | hm
  ·rw [if_pos ⟨rfl,hf⟩]
  ·rw [if_neg (fun e=>by have:=h1 s hm; omega)];exact kR h2 hm hf
theorem Er (a:List Int) (s:aD):aL a s.1 s.2=(aJ a s).map nameOf:=rfl
theorem G1 {a:List Int} {s:aD} (hf:s.2.2.2.2=true) (h:af s.2=0):aJ a s=[]:=by
 have:=(bj h).2.2.2.2.2 hf;unfold aJ;rw [this.1];apply List.drop_of_length_le;rw [List.length_take,Int.add_zero];omega
theorem iy {a:List Int} {s:aD} (hw:∀ x∈a,ak .u64 x):∀ v∈aJ a s,0≤v:=by
 intro v hv;exact (hw v (List.mem_of_mem_take (List.mem_of_mem_drop hv))).1
theorem uU {a:List Int} (hw:∀ x∈a,ak .u64 x) {l:List aD} (hs:l.Pairwise (fun s t=>s.1<t.1)) (hr:∀ s∈l,0≤s.1∧s.1≤255) (hf:∀ s∈l,af s.2=0) :
  ∀ (l':List aD),(∀ s∈l',s∈l)→eV a l (ah l) (ah l')=fB (bJ l) a l'
 | [],_=>rfl
 | s::l',h=>by
  have ih:=uU hw hs hr hf l' (fun t ht=>h t (by simp [ht]));have hm:=h s (by simp);simp only [ah];unfold fB at ih ⊢;rw [List.all_cons];cases hfr:s.2.2.2.2
  ·simp only [Bool.false_eq_true,if_false,eV];rw [kR hs hm hfr,Er,ih];congr 1;unfold fM;rw [List.all_map];apply Bool.eq_iff_iff.2;rw [List.all_eq_true,List.all_eq_true];constructor
   ·intro hh v hv;rw [← pW hs hr (iy hw v hv)];exact hh v hv
   ·intro hh v hv;have:=hh v hv;rw [← pW hs hr (iy hw v hv)] at this;exact this
  ·simp only [if_true];rw [ih,G1 hfr (hf s hm)];rfl
theorem gv {a:List Int}:∀ s∈(aa a).1,0≤s.1∧s.1≤255:=by
 intro s hs;obtain ⟨h1,h2,h3⟩:=dw a s hs;unfold cm at h2;omega
theorem rV {a:List Int} (hw:∀ x∈a,ak .u64 x):fK a=(au a).2.2:=by
 unfold fK au;rw [uU hw (cp a) gv (fun s hs=>(dw a s hs).2.2) (aa a).1 (fun _ h=>h)];split
 ·rfl
 ·split <;> rfl
def isB (l:List aD) (at_:Int):Bool:=(aj at_ l).2
theorem hZ (n:Int):∀ l:List aD,cP (ah l) n=isB l n
 | []=>rfl
 | s::l=>by
  have ih:=hZ n l;unfold isB at ih ⊢;simp only [ah,aj];cases hf:s.2.2.2.2
  ·simp only [Bool.false_eq_true,if_false,and_true,cP,List.any_cons];by_cases hv:s.1=n
   ·rw [if_pos hv];simp [hv]
   ·rw [if_neg hv];simp only [cP] at ih;rw [← ih];simp [hv]
  ·simp only [if_true,and_false,if_false,Bool.true_eq_false];exact ih
theorem nt {a:List Int} (hw:∀ x∈a,ak .u64 x) (hc:(au a).2.2=0):∀ s∈(aa a).1,∀ v∈aJ a s,v=0∨1≤v∧v≤256∧isB (aa a).1 (v - 1)=true:=by
 intro s hs v hv;obtain ⟨_,_,_,_,_,hok,_⟩:=b7 hc;have h1:=List.all_eq_true.1 (List.all_eq_true.1 hok s hs) v hv;have h0:=iy hw v hv;rw [← pW (cp a) gv h0] at h1;by_cases hz:v=0
 ·exact .inl hz
 refine .inr ?_
 have hr:∀ n,cP (ah (aa a).1) n=true→0≤n∧n≤255:=fun n hn=>by
  refine ⟨Int.not_lt.1 fun h=>?_,Int.not_lt.1 fun h=>?_⟩
  ·rw [gb n _ gv (.inl h)] at hn; cases hn
  ·rw [gb n _ gv (.inr h)] at hn; cases hn
 unfold nameOf at h1;split at h1
 ·have h2:cP (ah (aa a).1) (9999 - 1)=true:=by simpa using h1
  have:=hr _ h2;omega
 ·have h2:cP (ah (aa a).1) (v - 1)=true:=by
   rcases Bool.or_eq_true _ _ ▸ h1 with h | h
   ·have:=of_decide_eq_true h; omega
   ·exact h
  have:=hr _ h2;refine ⟨by omega,by omega,?_⟩;rw [← hZ];exact h2
theorem uk {a:List Int} {at_:Int} (h:isB (aa a).1 at_=true):(at_,(aj at_ (aa a).1).1)∈(aa a).1∧cm a (at_,(aj at_ (aa a).1).1)∧af (aj at_ (aa a).1).1=0∧(aj at_ (aa a).1).1.2.2.2=false∧a.length≤256:=by
 rcases gn at_ (aa a).1 with e | ⟨s,h1,h2,h3,e⟩
 ·unfold isB at h;rw [e] at h;cases h
 ·obtain ⟨k1,k2,k3⟩:=dw a s h1;rw [e];simp only;subst h2;exact ⟨h1,k2,k3,h3,k1⟩
end
section
open Go
set_option maxRecDepth 100000
set_option maxHeartbeats 1000000
def rN (a:List Int) (ls:List (List Int)):Int:=if fK a≠0 then fK a else if (ls.all fun l=>l.all (cP (ah (aa a).1)))=true then 0 else 5
def Ka:Nat→Option LoopGen
 | 6=>some { rd:=[.own 6 3 ty_I,.dat 18 (.arr (.arr ty_I))],A:=fun ((b,ls):List Int×List (List Int))=>{ cs:=[.dat 20 ty_I],inv:=fun (i:Int)=>0≤i∧i≤ls.length∧((ls.drop i.toNat).all fun l=>l.all (cP b))=(ls.all fun l=>l.all (cP b)),mu:=fun (i:Int)=>(ls.length - i).toNat } }
 | 9=>some { rd:=[.own 6 3 ty_I,.dat 24 (.arr ty_I)],A:=fun ((b,l):List Int×List Int)=>{ cs:=[.dat 26 ty_I],inv:=fun (i:Int)=>0≤i∧i≤l.length∧(l.drop i.toNat).all (cP b)=l.all (cP b),mu:=fun (i:Int)=>(l.length - i).toNat } }
 | _=>none
def It:Spec:={ Ts:=[.arr bb,.arr (.arr ty_I)],Rs:=[.dat ty_I],pre:=fun _=>True,F:=fun ((a,ls):List Int×List (List Int))=>rN a ls }
def BC:Prop :=
  ∀ (x:List Int×List (List Int)),((x.1.length * 8≤aA∧∀ (x_1:Int),x_1∈x.1→ak .u64 x_1)∧x.2.length * 24≤aA∧∀ (x_1:List Int),x_1∈x.2→x_1.length * 8≤aA∧∀ (x:Int),x∈x_1→ak .i64 x)→True→True∧(decide (fK x.1≠0)=true→fK x.1=rN x.1 x.2∧True)∧(decide (fK x.1≠0)=false→True∧((0:Int)≤0∧0≤(↑x.2.length:Int)∧((List.drop (Int.toNat 0) x.2).all fun (l:List Int)=>l.all (cP (ah (aa x.1).1)))=x.2.all fun (l:List Int)=>l.all (cP (ah (aa x.1).1)))∧∀ (x_1:Int),(0≤x_1∧x_1≤(↑x.2.length:Int)∧((List.drop x_1.toNat x.2).all fun (l:List Int)=>l.all (cP (ah (aa x.1).1)))=x.2.all fun (l:List Int)=>l.all (cP (ah (aa x.1).1)))→(decide (x_1<(↑x.2.length:Int))=true→0≤x_1∧x_1<(↑x.2.length:Int)∧((0:Int)≤0∧0≤(↑(x.2.getD x_1.toNat ([]:List Int)).length:Int)∧(List.drop (Int.toNat 0) (x.2.getD x_1.toNat ([]:List Int))).all (cP (ah (aa x.1).1))=(x.2.getD x_1.toNat ([]:List Int)).all (cP (ah (aa x.1).1)))∧∀ (x_2:Int),0≤x_2∧x_2≤(↑(x.2.getD x_1.toNat ([]:List Int)).length:Int)∧(List.drop x_2.toNat (x.2.getD x_1.toNat ([]:List Int))).all (cP (ah (aa x.1).1))=(x.2.getD x_1.toNat ([]:List Int)).all (cP (ah (aa x.1).1))→(decide (x_2<(↑(x.2.getD x_1.toNat ([]:List Int)).length:Int))=true→0≤x_2∧x_2<(↑(x.2.getD x_1.toNat ([]:List Int)).length:Int)∧True∧((!cP (ah (aa x.1).1) ((x.2.getD x_1.toNat ([]:List Int)).getD x_2.toNat 0))=true→5=rN x.1 x.2∧True)∧((!cP (ah (aa x.1).1) ((x.2.getD x_1.toNat ([]:List Int)).getD x_2.toNat 0))=false→ak .i64 (x_2+1)∧(0≤x_2+1∧x_2+1≤(↑(x.2.getD x_1.toNat ([]:List Int)).length:Int)∧(List.drop (x_2+1).toNat (x.2.getD x_1.toNat ([]:List Int))).all (cP (ah (aa x.1).1))=(x.2.getD x_1.toNat ([]:List Int)).all (cP (ah (aa x.1).1)))∧((↑(x.2.getD x_1.toNat ([]:List Int)).length:Int) - (x_2+1)).toNat<((↑(x.2.getD x_1.toNat ([]:List Int)).length:Int) - x_2).toNat))∧(decide (x_2<(↑(x.2.getD x_1.toNat ([]:List Int)).length:Int))=false→ak .i64 (x_1+1)∧(0≤x_1+1∧x_1+1≤(↑x.2.length:Int)∧((List.drop (x_1+1).toNat x.2).all fun (l:List Int)=>l.all (cP (ah (aa x.1).1)))=x.2.all fun (l:List Int)=>l.all (cP (ah (aa x.1).1)))∧((↑x.2.length:Int) - (x_1+1)).toNat<((↑x.2.length:Int) - x_1).toNat))∧(decide (x_1<(↑x.2.length:Int))=false→0=rN x.1 x.2∧True))
theorem F7:BC:=by
 unfold BC;intro ⟨a,ls⟩ ⟨_,hb,hls⟩ _;unfold aA at hb;simp only at hb hls;have hF:rN a ls=if fK a≠0 then fK a else if (ls.all fun l=>l.all (cP (ah (aa a).1)))=true then 0 else 5:=rfl
 simp only [hF];refine ⟨trivial,fun hc=>?_,fun hc=>⟨trivial,⟨by omega,by omega,rfl⟩,fun i ⟨h0,h1,h2⟩=>⟨fun hlt=>?_,fun hge=>?_⟩⟩⟩
 ·rw [if_pos (of_decide_eq_true hc)];exact ⟨rfl,trivial⟩
 ·have hlt:i<(ls.length:Int):=of_decide_eq_true hlt;rw [if_neg (of_decide_eq_false hc)];have hm:=hls _ (aI ([]:List Int) h0 hlt);rw [aW ([]:List Int) h0 hlt,List.all_cons] at h2;generalize ls.getD i.toNat []=l at *;unfold aA at hm;simp only [ak];refine ⟨h0,hlt,⟨by omega,by omega,rfl⟩,fun j ⟨j0,j1,j2⟩=>⟨fun hj=>?_,fun hj=>?_⟩⟩
  ·have hj:j<(l.length:Int):=of_decide_eq_true hj;rw [aW (0:Int) j0 hj,List.all_cons] at j2;refine ⟨j0,hj,trivial,fun hn=>?_,fun hn=>⟨by omega,⟨by omega,by omega,?_⟩,by omega⟩⟩
   ·have hn:cP (ah (aa a).1) (l.getD j.toNat 0)=false:=by simpa using hn
    rw [hn,Bool.false_and] at j2;rw [← j2,Bool.false_and] at h2;rw [← h2];exact ⟨rfl,trivial⟩
   ·have hn:cP (ah (aa a).1) (l.getD j.toNat 0)=true:=by simpa using hn
    rw [hn,Bool.true_and] at j2;exact j2
  ·rw [bt (of_decide_eq_false hj),List.all_nil] at j2;rw [← j2,Bool.true_and] at h2;exact ⟨by omega,⟨by omega,by omega,h2⟩,by omega⟩
 ·rw [if_neg (of_decide_eq_false hc)];rw [bt (of_decide_eq_false hge),List.all_nil] at h2;rw [← h2];exact ⟨rfl,trivial⟩
theorem I7:It.ok Tryz.prog 48:=aF (ann:=Ka) (ae lJ (ae nz (ae tW aq))) Tryz.func48 (by kernel_rfl) F7
end
section
open Go
set_option maxRecDepth 100000
set_option maxHeartbeats 1000000
abbrev fw:Ty:=.pair ty_I ty_I
abbrev bY:=Int×Int
def D0:Spec:={ Ts:=[de],Rs:=[.dat ty_I],pre:=fun _=>True,F:=fun (h:du)=>(if af h=0 then ac h else 0:Int) }
def tJ:Prop :=
  ∀ (x:Int×Int×Int×Bool),ak .i64 x.1∧ak .i64 x.2.1∧ak .i64 x.2.2.1∧True→True→True∧((if af x=0 then ac x else (0:Int))=if af x=0 then ac x else (0:Int))∧True
theorem AD:tJ:=by
 unfold tJ;intro h _ _;simp
theorem tY:D0.ok Tryz.prog 133:=aF (ann:=cw) (ae iO aq) Tryz.func133 (by kernel_rfl) AD
def aP (a:List Int):List aD×Int:=if (au a).2.2≠0 then ([],(au a).2.2) else ((aa a).1,0)
def Bf:Spec:={ Ts:=[.arr bb],Rs:=[.own 124 ch,.dat ty_I],pre:=fun _=>True,F:=aP }
def ro:Prop :=
  ∀ (x:List Int),(x.length * 8≤aA∧∀ (x_1:Int),x_1∈x→ak .u64 x_1)→True→True∧(decide ((au x).2.2≠0)=true→([]:List (Int×Int×Int×Int×Bool))=(aP x).1∧(au x).2.2=(aP x).2∧True)∧(decide ((au x).2.2≠0)=false→True∧(aa x).1=(aP x).1∧(aa x).2=(aP x).2∧True)
theorem yr:ro:=by
 unfold ro;intro a _ _;have h:=b7 (a:=a);unfold aP;refine ⟨trivial,fun hc=>?_,fun hc=>?_⟩
 ·have hc:(au a).2.2≠0:=by simpa using hc
  rw [if_pos hc];exact ⟨rfl,rfl,trivial⟩
 ·have hc:(au a).2.2=0:=by simpa using hc
  obtain ⟨_,_,_,h4,_⟩:=h hc;rw [if_neg (by omega),h4];exact ⟨trivial,rfl,rfl,trivial⟩
theorem lK:Bf.ok Tryz.prog 127:=aF (ann:=cw) (ae iN (ae iM aq)) Tryz.func127 (by kernel_rfl) yr
def fT (out:List bY) (n:Int):List bY:=out.set (out.length - 1) ((out.getD (out.length - 1) (0,0)).1,(out.getD (out.length - 1) (0,0)).2+n)
def aU:Bool→List bY→List aD→List bY
 | _,out,[]=>out
 | p,out,s::l=>aU s.2.2.2.2 (if s.2.2.2.2=true then (if p=true then fT out (ac s.2) else out++[(s.1,ac s.2)]) else out) l
theorem dj (out:List bY) (n:Int):(fT out n).length=out.length:=by simp [fT]
def c6 (l:List aD) (i:Int):Bool:=decide (0<i)&&(l.getD (i - 1).toNat (0,0,0,0,false)).2.2.2.2
def E6:Nat→Option LoopGen
 | 3=>some { rd:=[.dat 6 (.arr ch)],A:=fun (l:List aD)=>{ cs:=[.own 3 129 fw,.dat 8 ty_I],inv:=fun ((out,i):List bY×Int)=>0≤i∧i≤l.length∧l.length≤256∧(∀ s∈l,af s.2=0)∧out.length≤i∧(c6 l i=true→0<out.length)∧(∀ r∈out,0≤r.2∧r.2≤256 * i)∧aU (c6 l i) out (l.drop i.toNat)=aU false [] l,mu:=fun ((_,i):List bY×Int)=>(l.length - i).toNat } }
 | _=>none
def D2:Spec:={ Ts:=[.arr ch],Rs:=[.own 129 fw],pre:=fun (l:List aD)=>l.length≤256∧∀ s∈l,af s.2=0,F:=fun (l:List aD)=>aU false [] l }
def tL:Prop :=
  ∀ (x:List (Int×Int×Int×Int×Bool)),(x.length * (8+(8+(8+(8+8))))≤aA∧∀ (x_1:Int×Int×Int×Int×Bool),x_1∈x→ak .i64 x_1.1∧ak .i64 x_1.2.1∧ak .i64 x_1.2.2.1∧ak .i64 x_1.2.2.2.1∧True)→(x.length≤256∧∀ (s:aD),s∈x→af s.2=0)→((0:Int)≤0∧0≤(↑x.length:Int)∧x.length≤256∧(∀ (s:aD),s∈x→af s.2=0)∧(↑(0:Nat):Int)≤0∧(c6 x 0=true→(0:Nat)<0)∧(∀ (r:bY),r∈([]:List (Int×Int))→0≤r.2∧r.2≤256 * 0)∧aU (c6 x 0) ([]:List (Int×Int)) (List.drop (Int.toNat 0) x)=aU false ([]:List bY) x)∧∀ (x_1:List (Int×Int)×Int),0≤x_1.2∧x_1.2≤(↑x.length:Int)∧x.length≤256∧(∀ (s:aD),s∈x→af s.2=0)∧(↑x_1.1.length:Int)≤x_1.2∧(c6 x x_1.2=true→0<x_1.1.length)∧(∀ (r:bY),r∈x_1.1→0≤r.2∧r.2≤256 * x_1.2)∧aU (c6 x x_1.2) x_1.1 (List.drop x_1.2.toNat x)=aU false ([]:List bY) x→(decide (x_1.2<(↑x.length:Int))=true→0≤x_1.2∧x_1.2<(↑x.length:Int)∧((!(x.getD x_1.2.toNat (0,0,0,0,false)).2.2.2.2)=true→ak .i64 (x_1.2+1)∧(0≤x_1.2+1∧x_1.2+1≤(↑x.length:Int)∧x.length≤256∧(∀ (s:aD),s∈x→af s.2=0)∧(↑x_1.1.length:Int)≤x_1.2+1∧(c6 x (x_1.2+1)=true→0<x_1.1.length)∧(∀ (r:bY),r∈x_1.1→0≤r.2∧r.2≤256 * (x_1.2+1))∧aU (c6 x (x_1.2+1)) x_1.1 (List.drop (x_1.2+1).toNat x)=aU false ([]:List bY) x)∧((↑x.length:Int) - (x_1.2+1)).toNat<((↑x.length:Int) - x_1.2).toNat)∧((!(x.getD x_1.2.toNat (0,0,0,0,false)).2.2.2.2)=false→(decide (0<x_1.2)=true→ak .i64 (x_1.2 - 1))∧(decide (0<x_1.2)=true→0≤x_1.2 - 1)∧(decide (0<x_1.2)=true→x_1.2 - 1<(↑x.length:Int))∧((decide (0<x_1.2)&&(x.getD (x_1.2 - 1).toNat (0,0,0,0,false)).2.2.2.2)=true→ak .i64 ((↑x_1.1.length:Int) - 1)∧0≤(↑x_1.1.length:Int) - 1∧(↑x_1.1.length:Int) - 1<(↑x_1.1.length:Int)∧((↑x_1.1.length:Int) - 1).toNat<x_1.1.length∧True∧ak .i64 ((x_1.1.getD ((↑x_1.1.length:Int) - 1).toNat (0,0)).2+if af (x.getD x_1.2.toNat (0,0,0,0,false)).2=0 then ac (x.getD x_1.2.toNat (0,0,0,0,false)).2 else (0:Int))∧0≤(↑x_1.1.length:Int) - 1∧(↑x_1.1.length:Int) - 1<(↑x_1.1.length:Int)∧((↑x_1.1.length:Int) - 1).toNat<x_1.1.length∧ak .i64 (x_1.2+1)∧(0≤x_1.2+1∧x_1.2+1≤(↑x.length:Int)∧x.length≤256∧(∀ (s:aD),s∈x→af s.2=0)∧(↑(x_1.1.set ((↑x_1.1.length:Int) - 1).toNat ((x_1.1.getD ((↑x_1.1.length:Int) - 1).toNat (0,0)).1,(x_1.1.getD ((↑x_1.1.length:Int) - 1).toNat (0,0)).2+if af (x.getD x_1.2.toNat (0,0,0,0,false)).2=0 then ac (x.getD x_1.2.toNat (0,0,0,0,false)).2 else (0:Int))).length:Int)≤x_1.2+1∧(c6 x (x_1.2+1)=true→0<(x_1.1.set ((↑x_1.1.length:Int) - 1).toNat ((x_1.1.getD ((↑x_1.1.length:Int) - 1).toNat (0,0)).1,(x_1.1.getD ((↑x_1.1.length:Int) - 1).toNat (0,0)).2+if af (x.getD x_1.2.toNat (0,0,0,0,false)).2=0 then ac (x.getD x_1.2.toNat (0,0,0,0,false)).2 else (0:Int))).length)∧(∀ (r:bY),r∈x_1.1.set ((↑x_1.1.length:Int) - 1).toNat ((x_1.1.getD ((↑x_1.1.length:Int) - 1).toNat (0,0)).1,(x_1.1.getD ((↑x_1.1.length:Int) - 1).toNat (0,0)).2+if af (x.getD x_1.2.toNat (0,0,0,0,false)).2=0 then ac (x.getD x_1.2.toNat (0,0,0,0,false)).2 else (0:Int))→0≤r.2∧r.2≤256 * (x_1.2+1))∧aU (c6 x (x_1.2+1)) (x_1.1.set ((↑x_1.1.length:Int) - 1).toNat ((x_1.1.getD ((↑x_1.1.length:Int) - 1).toNat (0,0)).1,(x_1.1.getD ((↑x_1.1.length:Int) - 1).toNat (0,0)).2+if af (x.getD x_1.2.toNat (0,0,0,0,false)).2=0 then ac (x.getD x_1.2.toNat (0,0,0,0,false)).2 else (0:Int))) (List.drop (x_1.2+1).toNat x)=aU false ([]:List bY) x)∧((↑x.length:Int) - (x_1.2+1)).toNat<((↑x.length:Int) - x_1.2).toNat)∧((decide (0<x_1.2)&&(x.getD (x_1.2 - 1).toNat (0,0,0,0,false)).2.2.2.2)=false→True∧(x_1.1.length+[((x.getD x_1.2.toNat (0,0,0,0,false)).1,if af (x.getD x_1.2.toNat (0,0,0,0,false)).2=0 then ac (x.getD x_1.2.toNat (0,0,0,0,false)).2 else (0:Int))].length) * (8+8)≤aA∧ak .i64 (x_1.2+1)∧(0≤x_1.2+1∧x_1.2+1≤(↑x.length:Int)∧x.length≤256∧(∀ (s:aD),s∈x→af s.2=0)∧(↑(x_1.1++[((x.getD x_1.2.toNat (0,0,0,0,false)).1,if af (x.getD x_1.2.toNat (0,0,0,0,false)).2=0 then ac (x.getD x_1.2.toNat (0,0,0,0,false)).2 else (0:Int))]).length:Int)≤x_1.2+1∧(c6 x (x_1.2+1)=true→0<(x_1.1++[((x.getD x_1.2.toNat (0,0,0,0,false)).1,if af (x.getD x_1.2.toNat (0,0,0,0,false)).2=0 then ac (x.getD x_1.2.toNat (0,0,0,0,false)).2 else (0:Int))]).length)∧(∀ (r:bY),r∈x_1.1++[((x.getD x_1.2.toNat (0,0,0,0,false)).1,if af (x.getD x_1.2.toNat (0,0,0,0,false)).2=0 then ac (x.getD x_1.2.toNat (0,0,0,0,false)).2 else (0:Int))]→0≤r.2∧r.2≤256 * (x_1.2+1))∧aU (c6 x (x_1.2+1)) (x_1.1++[((x.getD x_1.2.toNat (0,0,0,0,false)).1,if af (x.getD x_1.2.toNat (0,0,0,0,false)).2=0 then ac (x.getD x_1.2.toNat (0,0,0,0,false)).2 else (0:Int))]) (List.drop (x_1.2+1).toNat x)=aU false ([]:List bY) x)∧((↑x.length:Int) - (x_1.2+1)).toNat<((↑x.length:Int) - x_1.2).toNat)))∧(decide (x_1.2<(↑x.length:Int))=false→x_1.1=aU false ([]:List bY) x∧True)
theorem AF:tL:=by
 unfold tL;intro l ⟨hb,_⟩ ⟨hl,hf⟩;refine ⟨⟨by omega,by omega,hl,hf,by simp,by simp [c6],by simp,by simp [c6]⟩,fun ⟨out,i⟩ ⟨h0,h1,_,_,h2,h3,h4,h5⟩=>⟨fun hlt=>?_,fun hge=>?_⟩⟩
 ·have hlt:i<(l.length:Int):=of_decide_eq_true hlt;simp only at h0 h1 h2 h3 h4 h5 ⊢;rw [aW ((0,0,0,0,false):aD) h0 hlt] at h5;simp only [aU] at h5;have hs:=hf _ (aI ((0,0,0,0,false):aD) h0 hlt)
  have hlf:c6 l (i+1)=(l.getD i.toNat (0,0,0,0,false)).2.2.2.2:=by
   unfold c6;rw [show i+1 - 1=i by omega];simp;omega
  rw [hlf,if_pos hs];have hz:=bj hs;have hL:ac (l.getD i.toNat (0,0,0,0,false)).2=1+(l.getD i.toNat (0,0,0,0,false)).2.1+(l.getD i.toNat (0,0,0,0,false)).2.2.1:=rfl;have hlfi:c6 l i=(decide (0<i)&&(l.getD (i - 1).toNat (0,0,0,0,false)).2.2.2.2):=rfl;rw [← hlfi];generalize l.getD i.toNat (0,0,0,0,false)=s at *;generalize ac s.2=L at *;simp only [ak];refine ⟨h0,hlt,fun hc=>?_,fun hc=>⟨fun hp=>by have:=of_decide_eq_true hp; omega,fun hp=>by have:=of_decide_eq_true hp; omega,fun _=>by omega,fun hp=>?_,fun hp=>?_⟩⟩
  ·have hc:s.2.2.2.2=false:=by simpa using hc
   rw [hc] at h5 ⊢;simp only [Bool.false_eq_true,if_false] at h5;exact ⟨by omega,⟨by omega,by omega,hl,hf,by omega,fun h=>by simp at h,fun r hr=>by have:=h4 r hr; omega,h5⟩,by omega⟩
  ·have hc:s.2.2.2.2=true:=by simpa using hc
   rw [hc,hp] at h5;simp only [if_true] at h5;rw [hc];have hlen:=h3 hp;have hlast:=h4 _ (aI ((0,0):bY) (xs:=out) (i:=(out.length:Int) - 1) (by omega) (by omega));have e:((out.length:Int) - 1).toNat=out.length - 1:=by omega
   rw [e] at hlast ⊢;have hbump:out.set (out.length - 1) ((out.getD (out.length - 1) (0,0)).1,(out.getD (out.length - 1) (0,0)).2+L)=fT out L:=rfl;rw [hbump];rw [dj];refine ⟨by omega,by omega,by omega,by omega,trivial,by omega,by omega,by omega,by omega,by omega,⟨by omega,by omega,hl,hf,by omega,fun _=>hlen,fun r hr=>?_,h5⟩,by omega⟩;rcases List.mem_or_eq_of_mem_set hr with hr | rfl
   ·have:=h4 r hr; omega
   ·simp only; omega
  ·have hc:s.2.2.2.2=true:=by simpa using hc
   rw [hc,hp] at h5;simp only [if_true,Bool.false_eq_true,if_false] at h5;rw [hc];unfold aA;simp only [List.length_append,List.length_cons,List.length_nil];refine ⟨trivial,by omega,by omega,⟨by omega,by omega,hl,hf,by omega,fun _=>by omega,fun r hr=>?_,h5⟩,by omega⟩;rcases List.mem_append.1 hr with hr | hr
   ·have:=h4 r hr; omega
   ·simp only [List.mem_singleton] at hr;subst hr;simp only;omega
 ·have hge:¬ i<(l.length:Int):=of_decide_eq_false hge;simp only at h5;rw [bt hge] at h5;exact ⟨h5,trivial⟩
theorem tZ:D2.ok Tryz.prog 128:=aF (ann:=E6) (ae tY aq) Tryz.func128 (by kernel_rfl) AF
def ay (a:List Int):List bY×Int:=if (au a).2.2≠0 then ([],(au a).2.2) else (aU false [] (aa a).1,0)
def Be:Spec:={ Ts:=[.arr bb],Rs:=[.own 129 fw,.dat ty_I],pre:=fun _=>True,F:=ay }
def rn:Prop :=
  ∀ (x:List Int),(x.length * 8≤aA∧∀ (x_1:Int),x_1∈x→ak .u64 x_1)→True→True∧(decide ((aP x).2≠0)=true→([]:List (Int×Int))=(ay x).1∧(aP x).2=(ay x).2∧True)∧(decide ((aP x).2≠0)=false→((aP x).1.length≤256∧∀ (s:aD),s∈(aP x).1→af s.2=0)∧aU false ([]:List bY) (aP x).1=(ay x).1∧0=(ay x).2∧True)
theorem yq:rn:=by
 unfold rn;intro a _ _;have h:=b7 (a:=a);have hlen:=cD a;unfold aP ay;refine ⟨trivial,fun hc=>?_,fun hc=>?_⟩
 ·have hc:(au a).2.2≠0:=by
   intro e;rw [if_neg (by omega)] at hc;simp at hc
  rw [if_pos hc,if_pos hc];exact ⟨rfl,rfl,trivial⟩
 ·have hc:(au a).2.2=0:=by
   apply Classical.byContradiction;intro e;rw [if_pos e] at hc;simp [e] at hc
  obtain ⟨_,_,h3,h4,_,_,h5⟩:=h hc;rw [if_neg (by omega),if_neg (by omega)];rw [h3] at h5;exact ⟨⟨hlen,fun s hs=>(h5 s hs).2⟩,rfl,rfl,trivial⟩
theorem rG:Be.ok Tryz.prog 94:=aF (ann:=cw) (ae lK (ae tZ aq)) Tryz.func94 (by kernel_rfl) yq
def aR (a:List Int) (at_ n:Int):List Int:=if 0<n then (dA a at_ n 0 n).set at_.toNat (a6 (0,n - 1,0,true)) else a
def dy (a:List Int) (at_ n:Int):Prop:=0≤at_∧0≤n∧at_+n≤a.length∧a.length≤256
theorem uy {a:List Int} {at_ n v:Int} (h:dy a at_ n):gX a at_ n v=(dA a at_ n v n,0):=by
 obtain ⟨h1,h2,h3,h4⟩:=h
 have:eq a.length n [at_]=0:=by
  rw [AL,if_neg (by omega),if_pos];rw [mI];omega
 unfold gX;rw [if_pos this]
def Kv:Spec:={ Ts:=[.arr bb,ty_I,ty_I],Rs:=[.own 29 bb],pre:=fun ((a,at_,n):List Int×Int×Int)=>dy a at_ n∧1≤n,F:=fun ((a,at_,n):List Int×Int×Int)=>aR a at_ n }
def Fi:Prop :=
  ∀ (x:List Int×Int×Int),(x.1.length * 8≤aA∧∀ (x_1:Int),x_1∈x.1→ak .u64 x_1)∧ak .i64 x.2.1∧ak .i64 x.2.2→dy x.1 x.2.1 x.2.2∧1≤x.2.2→(decide (x.2.2=0)=true→False)∧(decide (x.2.2=0)=false→ak .i64 (x.2.2 - 1)∧True∧True∧0≤x.2.1∧x.2.1<(↑(gX x.1 x.2.1 x.2.2 0).1.length:Int)∧x.2.1.toNat<(gX x.1 x.2.1 x.2.2 0).1.length∧(gX x.1 x.2.1 x.2.2 0).1.set x.2.1.toNat (if af (0,x.2.2 - 1,0,true)=0 then a6 (0,x.2.2 - 1,0,true) else (0:Int))=aR x.1 x.2.1 x.2.2∧True)
theorem H5:Fi:=by
 unfold Fi;intro ⟨a,at_,n⟩ _ ⟨hp,h1⟩;simp only at hp h1 ⊢;rw [uy hp];obtain ⟨p1,p2,p3,p4⟩:=hp;have hf:af (0,n - 1,0,true)=0:=by simp [af,ac]; omega
 have hl:=dX a at_ n 0 n p1 p3 p2 (by omega);rw [if_pos hf];have hE:aR a at_ n=(dA a at_ n 0 n).set at_.toNat (a6 (0,n - 1,0,true)):=by unfold aR; rw [if_pos (by omega)]
 rw [hE];simp only [ak];exact ⟨fun h=>by have:=of_decide_eq_true h; omega,fun _=>⟨by omega,trivial,trivial,by omega,by omega,by omega,trivial,trivial⟩⟩
theorem KM:Kv.ok Tryz.prog 130:=aF (ann:=cw) (ae jN (ae lH aq)) Tryz.func130 (by kernel_rfl) H5
def Ku:Spec:={ Ts:=[.arr bb,ty_I,ty_I],Rs:=[.dat (.arr bb)],al:=true,pre:=fun ((a,at_,n):List Int×Int×Int)=>dy a at_ n,F:=fun ((a,at_,n):List Int×Int×Int)=>aR a at_ n }
def Fh:Prop :=
  ∀ (x:List Int×Int×Int),(x.1.length * 8≤aA∧∀ (x_1:Int),x_1∈x.1→ak .u64 x_1)∧ak .i64 x.2.1∧ak .i64 x.2.2→dy x.1 x.2.1 x.2.2→(decide (x.2.2=0)=true→x.1=aR x.1 x.2.1 x.2.2∧True)∧(decide (x.2.2=0)=false→ak .i64 (x.2.2 - 1)∧True∧True∧0≤x.2.1∧x.2.1<(↑(gX x.1 x.2.1 x.2.2 0).1.length:Int)∧x.2.1.toNat<(gX x.1 x.2.1 x.2.2 0).1.length∧(gX x.1 x.2.1 x.2.2 0).1.set x.2.1.toNat (if af (0,x.2.2 - 1,0,true)=0 then a6 (0,x.2.2 - 1,0,true) else (0:Int))=aR x.1 x.2.1 x.2.2∧True)
theorem H4:Fh:=by
 unfold Fh;intro ⟨a,at_,n⟩ _ hp;simp only at hp ⊢;rw [uy hp];obtain ⟨p1,p2,p3,p4⟩:=hp;refine ⟨fun h=>?_,fun h=>?_⟩
 ·have h:=of_decide_eq_true h;unfold aR;rw [if_neg (by omega)];exact ⟨rfl,trivial⟩
 ·have h:=of_decide_eq_false h;have hf:af (0,n - 1,0,true)=0:=by simp [af,ac]; omega
  have hl:=dX a at_ n 0 n p1 p3 p2 (by omega);rw [if_pos hf];have hE:aR a at_ n=(dA a at_ n 0 n).set at_.toNat (a6 (0,n - 1,0,true)):=by unfold aR; rw [if_pos (by omega)]
  rw [hE];simp only [ak];exact ⟨by omega,trivial,trivial,by omega,by omega,by omega,trivial,trivial⟩
theorem KL:Ku.ok Tryz.prog 130:=aF (ann:=cw) (ae jN (ae lH aq)) Tryz.func130 (by kernel_rfl) H4
def dm (a:List Int):List Int×Int:=if (au a).2.2≠0 then ([],(au a).2.2) else ((aU false [] (aa a).1).foldl (fun a r=>aR a r.1 r.2) a,0)
theorem iF {a:List Int} {at_ n:Int} (h:dy a at_ n):(aR a at_ n).length=a.length:=by
 obtain ⟨p1,p2,p3,p4⟩:=h;unfold aR;split
 ·rw [List.length_set];exact dX a at_ n 0 n p1 p3 p2 (by omega)
 ·rfl
def ft:Int→Int→List aD→Prop
 | s,e,[]=>s=e
 | s,e,x::r=>x.1=s∧1≤ac x.2∧ft (s+ac x.2) e r
theorem nX (at_:Int) (l:List Int) (r:List aD) (h:spotsS at_ l=some r):ft at_ (at_+l.length) r:=by
 induction at_,l using spotsS.induct generalizing r with
 | case1 at_ =>
  simp only [spotsS,Option.some.injEq] at h;subst h;simp [ft]
 | case2 at_ v l hv ih =>
  rw [eJ hv.1 hv.2] at h;obtain ⟨r',hr,rfl⟩:=Option.map_eq_some_iff.1 h;have hl:=eL hv.1;have h2:=ih r' hr;refine ⟨rfl,hl.1,?_⟩
  have e:at_+ac (aS v)+(((v::l).drop (ac (aS v)).toNat).length:Nat)=at_+((v::l).length:Nat):=by
   rw [List.length_drop];have:=hv.2;omega
  rw [e] at h2;exact h2
 | case3 at_ v l hv =>
  rw [eI hv] at h;cases h
theorem gI {a:List Int} (h:(aa a).2=0):ft 0 a.length (aa a).1:=by
 unfold aa at h ⊢;split at h
 ·simp at h
 rename_i cl;rw [if_neg cl];cases e:spotsS 0 a with
 | none=>rw [e] at h; simp at h
 | some l =>
  have:=nX 0 a l e;rw [Int.zero_add] at this;exact this
def lS (n:Int) (l:List bY):Prop:=∀ r∈l,0≤r.1∧1≤r.2∧r.1+r.2≤n
theorem ph:∀ (l:List aD) (s e:Int) (p:Bool) (out:List bY),ft s e l→0≤s→lS s out→(p=true→0<out.length∧(out.getD (out.length - 1) (0,0)).1+(out.getD (out.length - 1) (0,0)).2=s)→lS e (aU p out l)∧s≤e
 | [],s,e,p,out,ht,h0,ho,_=>by
  have:s=e:=ht;subst this;exact ⟨ho,Int.le_refl _⟩
 | x::l,s,e,p,out,⟨h1,h2,h3⟩,h0,ho,hp=>by
  simp only [aU];have up:lS (s+ac x.2) out:=fun r hr=>by have:=ho r hr; omega
  cases hf:x.2.2.2.2
  ·have ih:=ph l _ e false out h3 (by omega) up (fun h=>by cases h);simp only [Bool.false_eq_true,if_false];exact ⟨ih.1,by omega⟩
  ·simp only [if_true];cases p
   ·have ih:=ph l _ e true (out++[(x.1,ac x.2)]) h3 (by omega) (fun r hr=>by
     rcases List.mem_append.1 hr with hr | hr
     ·exact up r hr
     ·simp only [List.mem_singleton] at hr;subst hr;simp only;omega) (fun _=>⟨by simp,by simp; omega⟩)
    simp only [Bool.false_eq_true,if_false];exact ⟨ih.1,by omega⟩
   ·obtain ⟨q1,q2⟩:=hp rfl;have hlast:=ho _ (aI ((0,0):bY) (xs:=out) (i:=(out.length:Int) - 1) (by omega) (by omega));rw [show ((out.length:Int) - 1).toNat=out.length - 1 by omega] at hlast
    have ih:=ph l _ e true (fT out (ac x.2)) h3 (by omega) (fun r hr=>by
     rcases List.mem_or_eq_of_mem_set hr with hr | rfl
     ·exact up r hr
     ·simp only
      omega) (fun _=>⟨by rw [dj]; exact q1,by
       rw [dj];unfold fT;simp [show out.length - 1<out.length by omega];simp [show out.length - 1<out.length by omega] at q2;omega⟩)
    simp only [if_true];exact ⟨ih.1,by omega⟩
theorem pg:∀ (l:List aD) (p:Bool) (out:List bY),(aU p out l).length≤out.length+l.length
 | [],_,_=>by simp [aU]
 | x::l,p,out=>by
  have h1:=pg l x.2.2.2.2 (if x.2.2.2.2=true then (if p=true then fT out (ac x.2) else out++[(x.1,ac x.2)]) else out);simp only [aU,List.length_cons]
  have:(if x.2.2.2.2=true then (if p=true then fT out (ac x.2) else out++[(x.1,ac x.2)]) else out).length≤out.length+1:=by
   split
   ·split
    ·rw [dj]; omega
    ·simp
   ·omega
  omega
theorem pf {a:List Int} (h:(aa a).2=0):lS a.length (aU false [] (aa a).1)∧(aU false [] (aa a).1).length≤256:=by
 have h1:=ph _ 0 a.length false [] (gI h) (Int.le_refl _) (fun r hr=>by cases hr) (fun h=>by cases h);have h2:=pg (aa a).1 false [];have h3:=cD a;exact ⟨h1.1,by simp at h2; omega⟩
def E5:Nat→Option LoopGen
 | 6=>some { rd:=[.own 19 129 fw,.own 0 29 bb],A:=fun ((g,b):List bY×List Int)=>{ cs:=[.own 0 29 bb,.dat 21 ty_I],inv:=fun ((a,i):List Int×Int)=>0≤i∧i≤g.length∧g.length≤256∧a.length≤256∧lS a.length g∧a=(g.take i.toNat).foldl (fun a r=>aR a r.1 r.2) b,mu:=fun ((_,i):List Int×Int)=>(g.length - i).toNat } }
 | _=>none
def D1:Spec:={ Ts:=[.arr bb],Rs:=[.own 29 bb,.dat ty_I],pre:=fun _=>True,F:=dm }
def tK:Prop :=
  ∀ (x:List Int),(x.length * 8≤aA∧∀ (x_1:Int),x_1∈x→ak .u64 x_1)→True→True∧(decide ((aP x).2≠0)=true→([]:List Int)=(dm x).1∧(aP x).2=(dm x).2∧True)∧(decide ((aP x).2≠0)=false→True∧((aP x).1.length≤256∧∀ (s:aD),s∈(aP x).1→af s.2=0)∧((0:Int)≤0∧0≤(↑(aU false ([]:List bY) (aP x).1).length:Int)∧(aU false ([]:List bY) (aP x).1).length≤256∧x.length≤256∧lS (↑x.length:Int) (aU false ([]:List bY) (aP x).1)∧x=List.foldl (fun (a:List Int) (r:bY)=>aR a r.1 r.2) x (List.take (Int.toNat 0) (aU false ([]:List bY) (aP x).1)))∧∀ (x_1:List Int×Int),0≤x_1.2∧x_1.2≤(↑(aU false ([]:List bY) (aP x).1).length:Int)∧(aU false ([]:List bY) (aP x).1).length≤256∧x_1.1.length≤256∧lS (↑x_1.1.length:Int) (aU false ([]:List bY) (aP x).1)∧x_1.1=List.foldl (fun (a:List Int) (r:bY)=>aR a r.1 r.2) x (List.take x_1.2.toNat (aU false ([]:List bY) (aP x).1))→(decide (x_1.2<(↑(aU false ([]:List bY) (aP x).1).length:Int))=true→0≤x_1.2∧x_1.2<(↑(aU false ([]:List bY) (aP x).1).length:Int)∧x_1.2.toNat<(aU false ([]:List bY) (aP x).1).length∧(dy x_1.1 ((aU false ([]:List bY) (aP x).1).getD x_1.2.toNat (0,0)).1 ((aU false ([]:List bY) (aP x).1).getD x_1.2.toNat (0,0)).2∧1≤((aU false ([]:List bY) (aP x).1).getD x_1.2.toNat (0,0)).2)∧ak .i64 (x_1.2+1)∧(0≤x_1.2+1∧x_1.2+1≤(↑(aU false ([]:List bY) (aP x).1).length:Int)∧(aU false ([]:List bY) (aP x).1).length≤256∧(aR x_1.1 ((aU false ([]:List bY) (aP x).1).getD x_1.2.toNat (0,0)).1 ((aU false ([]:List bY) (aP x).1).getD x_1.2.toNat (0,0)).2).length≤256∧lS (↑(aR x_1.1 ((aU false ([]:List bY) (aP x).1).getD x_1.2.toNat (0,0)).1 ((aU false ([]:List bY) (aP x).1).getD x_1.2.toNat (0,0)).2).length:Int) (aU false ([]:List bY) (aP x).1)∧aR x_1.1 ((aU false ([]:List bY) (aP x).1).getD x_1.2.toNat (0,0)).1 ((aU false ([]:List bY) (aP x).1).getD x_1.2.toNat (0,0)).2=List.foldl (fun (a:List Int) (r:bY)=>aR a r.1 r.2) x (List.take (x_1.2+1).toNat (aU false ([]:List bY) (aP x).1)))∧((↑(aU false ([]:List bY) (aP x).1).length:Int) - (x_1.2+1)).toNat<((↑(aU false ([]:List bY) (aP x).1).length:Int) - x_1.2).toNat)∧(decide (x_1.2<(↑(aU false ([]:List bY) (aP x).1).length:Int))=false→x_1.1=(dm x).1∧0=(dm x).2∧True))
theorem AE:tK:=by
 unfold tK;intro a _ _;have h:=b7 (a:=a);have hlen:=cD a;unfold aP dm;refine ⟨trivial,fun hc=>?_,fun hc=>?_⟩
 ·have hc:(au a).2.2≠0:=by
   intro e;rw [if_neg (by omega)] at hc;simp at hc
  rw [if_pos hc,if_pos hc];exact ⟨rfl,rfl,trivial⟩
 ·have hc:(au a).2.2=0:=by
   apply Classical.byContradiction;intro e;rw [if_pos e] at hc;simp [e] at hc
  obtain ⟨hal,_,h3,h4,_,_,h5⟩:=h hc;rw [if_neg (by omega),if_neg (by omega)];rw [h3] at h5;obtain ⟨g1,g2⟩:=pf h4;simp only;generalize aU false [] (aa a).1=g at *;refine ⟨trivial,⟨hlen,fun s hs=>(h5 s hs).2⟩,⟨by omega,by omega,g2,hal,g1,rfl⟩,fun ⟨b,i⟩ ⟨q0,q1,_,q2,q3,q4⟩=>⟨fun hlt=>?_,fun hge=>?_⟩⟩
  ·have hlt:i<(g.length:Int):=of_decide_eq_true hlt;simp only at q0 q1 q2 q3 q4 ⊢;have e:=bo ((0,0):bY) q0 hlt;have hr:=q3 _ (aI ((0,0):bY) q0 hlt);rw [e,List.foldl_append,← q4];generalize g.getD i.toNat (0,0)=r at *;have hp:dy b r.1 r.2:=⟨hr.1,by omega,hr.2.2,q2⟩;rw [iF hp];simp only [ak];exact ⟨q0,hlt,by omega,⟨hp,hr.2.1⟩,by omega,⟨by omega,by omega,g2,q2,q3,rfl⟩,by omega⟩
  ·have hge:¬ i<(g.length:Int):=of_decide_eq_false hge;simp only at q4;rw [bF hge] at q4;exact ⟨q4,trivial,trivial⟩
theorem En:D1.ok Tryz.prog 96:=aF (ann:=E5) (ae lK (ae bT (ae tZ (ae KM aq)))) Tryz.func96 (by kernel_rfl) AE
def bw (l:List aD) (at_:Int) (fr:Bool):aD×Bool :=
 if ai (fun s:aD=>decide (s.1=at_)&&s.2.2.2.2 == fr) 0 l<0 then ((0,0,0,0,false),false) else (l.getD (ai (fun s:aD=>decide (s.1=at_)&&s.2.2.2.2 == fr) 0 l).toNat (0,0,0,0,false),true)
def IC:Spec:={ Ts:=[ch,.ref ty_I,.ref .bool],Rs:=[.dat .bool],pre:=fun _=>True,F:=fun ((s,at_,fr):aD×Int×Bool)=>decide (s.1=at_)&&s.2.2.2.2 == fr }
def BL:Prop :=
  ∀ (x:(Int×Int×Int×Int×Bool)×Int×Bool),(ak .i64 x.1.1∧ak .i64 x.1.2.1∧ak .i64 x.1.2.2.1∧ak .i64 x.1.2.2.2.1∧True)∧ak .i64 x.2.1∧True→True→(decide (x.1.1=x.2.1)&&x.1.2.2.2.2 == x.2.2)=(decide (x.1.1=x.2.1)&&x.1.2.2.2.2 == x.2.2)∧True
theorem Gf:BL:=by
 unfold BL;intro ⟨s,at_,fr⟩ _ _;simp
theorem Jd:IC.ok Tryz.prog 154:=aF (ann:=cw) aq Tryz.func154 (by kernel_rfl) Gf
def D3:Spec:={ Ts:=[.arr ch,ty_I,.bool],Rs:=[.dat ch,.dat .bool],pre:=fun _=>True,F:=fun ((l,at_,fr):List aD×Int×Bool)=>bw l at_ fr }
def tM:Prop :=
  ∀ (x:List (Int×Int×Int×Int×Bool)×Int×Bool),(x.1.length * (8+(8+(8+(8+8))))≤aA∧∀ (x_1:Int×Int×Int×Int×Bool),x_1∈x.1→ak .i64 x_1.1∧ak .i64 x_1.2.1∧ak .i64 x_1.2.2.1∧ak .i64 x_1.2.2.2.1∧True)∧ak .i64 x.2.1∧True→True→(∀ (s:aD),s∈x.1→(fun (_:Int×Int×Int×Int×Bool)=>True,fun (x_1:Int×Int×Int×Int×Bool)=>decide (x_1.1=x.2.1)&&x_1.2.2.2.2 == x.2.2).1 s)∧(decide (ai (fun (x_1:Int×Int×Int×Int×Bool)=>decide (x_1.1=x.2.1)&&x_1.2.2.2.2 == x.2.2) 0 x.1<0)=true→(0,0,0,0,false)=(bw x.1 x.2.1 x.2.2).1∧false=(bw x.1 x.2.1 x.2.2).2∧True)∧(decide (ai (fun (x_1:Int×Int×Int×Int×Bool)=>decide (x_1.1=x.2.1)&&x_1.2.2.2.2 == x.2.2) 0 x.1<0)=false→0≤ai (fun (x_1:Int×Int×Int×Int×Bool)=>decide (x_1.1=x.2.1)&&x_1.2.2.2.2 == x.2.2) 0 x.1∧ai (fun (x_1:Int×Int×Int×Int×Bool)=>decide (x_1.1=x.2.1)&&x_1.2.2.2.2 == x.2.2) 0 x.1<(↑x.1.length:Int)∧x.1.getD (ai (fun (x_1:Int×Int×Int×Int×Bool)=>decide (x_1.1=x.2.1)&&x_1.2.2.2.2 == x.2.2) 0 x.1).toNat (0,0,0,0,false)=(bw x.1 x.2.1 x.2.2).1∧true=(bw x.1 x.2.1 x.2.2).2∧True)
theorem AG:tM:=by
 unfold tM;intro ⟨l,at_,fr⟩ _ _;simp only;have hlt:=dq (fun s:aD=>decide (s.1=at_)&&s.2.2.2.2 == fr) (0,0,0,0,false) l 0 (by omega);unfold bw;refine ⟨fun _ _=>trivial,fun h=>?_,fun h=>?_⟩
 ·rw [if_pos (of_decide_eq_true h)];exact ⟨rfl,rfl,trivial⟩
 ·rw [if_neg (of_decide_eq_false h)];have h1:0≤ai (fun s:aD=>decide (s.1=at_)&&s.2.2.2.2 == fr) 0 l:=Int.not_lt.1 (of_decide_eq_false h);have h2:ai (fun s:aD=>decide (s.1=at_)&&s.2.2.2.2 == fr) 0 l<(l.length:Int):=by omega
  exact ⟨h1,h2,rfl,rfl,trivial⟩
theorem Eo:D3.ok Tryz.prog 132:=aF (ann:=cw) (ae nB (ae Jd aq)) Tryz.func132 (by kernel_rfl) AG
theorem uw (l:List aD) (at_:Int) (fr:Bool) (h:(bw l at_ fr).2=true):(bw l at_ fr).1∈l∧(bw l at_ fr).1.1=at_∧(bw l at_ fr).1.2.2.2.2=fr:=by
 have hlt:=dq (fun s:aD=>decide (s.1=at_)&&s.2.2.2.2 == fr) (0,0,0,0,false) l 0 (by omega);have his:=gH (fun s:aD=>decide (s.1=at_)&&s.2.2.2.2 == fr) (0,0,0,0,false) l 0;unfold bw at h ⊢;split at h
 ·cases h
 ·rename_i hn;rw [if_neg hn];have his:=his (by omega) (by omega);rw [Int.sub_zero] at his;simp only [Bool.and_eq_true,decide_eq_true_eq,beq_iff_eq] at his;exact ⟨aI _ (by omega) (by omega),his.1,his.2⟩
theorem zD {a:List Int}:(aP a).2=(au a).2.2:=by
 unfold aP;split
 ·rfl
 ·simp only; omega
theorem xD {a:List Int} (h:(au a).2.2=0):(aP a).1=(aa a).1∧a.length≤256∧∀ s∈(aa a).1,cm a s∧af s.2=0:=by
 obtain ⟨h1,_,h3,_,_,_,h5⟩:=b7 h;rw [h3] at h5;unfold aP;rw [if_neg (by omega)];exact ⟨rfl,h1,h5⟩
def eo (a:List Int) (at_:Int) (h:du):List Int×Int :=
 if af h≠0 then ([],af h) else if h.2.2.2=true then ([],3) else if (au a).2.2≠0 then ([],(au a).2.2)
 else if (bw (aa a).1 at_ true).2=false then ([],5) else if ac (bw (aa a).1 at_ true).1.2<ac h then ([],7)
 else (aR ((dA a at_ (ac (bw (aa a).1 at_ true).1.2) 0 (ac (bw (aa a).1 at_ true).1.2)).set at_.toNat (a6 h)) (at_+ac h) (ac (bw (aa a).1 at_ true).1.2 - ac h),0)
def DZ:Spec:={ Ts:=[.arr bb,ty_I,de],Rs:=[.dat (.arr bb),.dat ty_I],al:=true,pre:=fun _=>True,F:=fun ((a,at_,h):List Int×Int×du)=>eo a at_ h }
def tI:Prop :=
  ∀ (x:List Int×Int×Int×Int×Int×Bool),(x.1.length * 8≤aA∧∀ (x_1:Int),x_1∈x.1→ak .u64 x_1)∧ak .i64 x.2.1∧ak .i64 x.2.2.1∧ak .i64 x.2.2.2.1∧ak .i64 x.2.2.2.2.1∧True→True→True∧(decide (af x.2.2≠0)=true→([]:List Int)=(eo x.1 x.2.1 x.2.2).1∧af x.2.2=(eo x.1 x.2.1 x.2.2).2∧True)∧(decide (af x.2.2≠0)=false→(x.2.2.2.2.2=true→([]:List Int)=(eo x.1 x.2.1 x.2.2).1∧3=(eo x.1 x.2.1 x.2.2).2∧True)∧(x.2.2.2.2.2=false→True∧(decide ((aP x.1).2≠0)=true→([]:List Int)=(eo x.1 x.2.1 x.2.2).1∧(aP x.1).2=(eo x.1 x.2.1 x.2.2).2∧True)∧(decide ((aP x.1).2≠0)=false→True∧((!(bw (aP x.1).1 x.2.1 true).2)=true→([]:List Int)=(eo x.1 x.2.1 x.2.2).1∧5=(eo x.1 x.2.1 x.2.2).2∧True)∧((!(bw (aP x.1).1 x.2.1 true).2)=false→True∧True∧(decide ((if af (bw (aP x.1).1 x.2.1 true).1.2=0 then ac (bw (aP x.1).1 x.2.1 true).1.2 else (0:Int))<if af x.2.2=0 then ac x.2.2 else (0:Int))=true→([]:List Int)=(eo x.1 x.2.1 x.2.2).1∧7=(eo x.1 x.2.1 x.2.2).2∧True)∧(decide ((if af (bw (aP x.1).1 x.2.1 true).1.2=0 then ac (bw (aP x.1).1 x.2.1 true).1.2 else (0:Int))<if af x.2.2=0 then ac x.2.2 else (0:Int))=false→True∧True∧0≤x.2.1∧x.2.1<(↑(gX x.1 x.2.1 (if af (bw (aP x.1).1 x.2.1 true).1.2=0 then ac (bw (aP x.1).1 x.2.1 true).1.2 else (0:Int)) 0).1.length:Int)∧x.2.1.toNat<(gX x.1 x.2.1 (if af (bw (aP x.1).1 x.2.1 true).1.2=0 then ac (bw (aP x.1).1 x.2.1 true).1.2 else (0:Int)) 0).1.length∧True∧ak .i64 (x.2.1+if af x.2.2=0 then ac x.2.2 else (0:Int))∧True∧True∧ak .i64 ((if af (bw (aP x.1).1 x.2.1 true).1.2=0 then ac (bw (aP x.1).1 x.2.1 true).1.2 else (0:Int)) - if af x.2.2=0 then ac x.2.2 else (0:Int))∧dy ((gX x.1 x.2.1 (if af (bw (aP x.1).1 x.2.1 true).1.2=0 then ac (bw (aP x.1).1 x.2.1 true).1.2 else (0:Int)) 0).1.set x.2.1.toNat (if af x.2.2=0 then a6 x.2.2 else (0:Int))) (x.2.1+if af x.2.2=0 then ac x.2.2 else (0:Int)) ((if af (bw (aP x.1).1 x.2.1 true).1.2=0 then ac (bw (aP x.1).1 x.2.1 true).1.2 else (0:Int)) - if af x.2.2=0 then ac x.2.2 else (0:Int))∧aR ((gX x.1 x.2.1 (if af (bw (aP x.1).1 x.2.1 true).1.2=0 then ac (bw (aP x.1).1 x.2.1 true).1.2 else (0:Int)) 0).1.set x.2.1.toNat (if af x.2.2=0 then a6 x.2.2 else (0:Int))) (x.2.1+if af x.2.2=0 then ac x.2.2 else (0:Int)) ((if af (bw (aP x.1).1 x.2.1 true).1.2=0 then ac (bw (aP x.1).1 x.2.1 true).1.2 else (0:Int)) - if af x.2.2=0 then ac x.2.2 else (0:Int))=(eo x.1 x.2.1 x.2.2).1∧0=(eo x.1 x.2.1 x.2.2).2∧True)))))
theorem AC:tI:=by
 unfold tI;intro ⟨a,at_,h⟩ _ _
 have hF:eo a at_ h=if af h≠0 then ([],af h) else if h.2.2.2=true then ([],3) else if (au a).2.2≠0 then ([],(au a).2.2)
  else if (bw (aa a).1 at_ true).2=false then ([],5) else if ac (bw (aa a).1 at_ true).1.2<ac h then ([],7)
  else (aR ((dA a at_ (ac (bw (aa a).1 at_ true).1.2) 0 (ac (bw (aa a).1 at_ true).1.2)).set at_.toNat (a6 h)) (at_+ac h) (ac (bw (aa a).1 at_ true).1.2 - ac h),0):=rfl
 simp only;rw [zD];refine ⟨trivial,fun hc=>?_,fun hc=>⟨fun h2=>?_,fun h2=>⟨trivial,fun h3=>?_,fun h3=>?_⟩⟩⟩
 ·have hc:af h≠0:=by simpa using hc
  rw [hF,if_pos hc];exact ⟨rfl,rfl,trivial⟩
 ·have hc:af h=0:=by simpa using hc
  rw [hF,if_neg (by omega),if_pos h2];exact ⟨rfl,rfl,trivial⟩
 ·have hc:af h=0:=by simpa using hc
  have h3:(au a).2.2≠0:=by simpa using h3
  rw [hF,if_neg (by omega),if_neg (by rw [h2]; simp),if_pos h3];exact ⟨rfl,rfl,trivial⟩
 have hc:af h=0:=by simpa using hc
 have h3:(au a).2.2=0:=by simpa using h3
 obtain ⟨e1,hal,hsp⟩:=xD h3;have hfi:=uw (aa a).1 at_ true;rw [if_neg (by omega),if_neg (by rw [h2]; simp),if_neg (by omega)] at hF;rw [e1,hF];refine ⟨trivial,fun h4=>?_,fun h4=>⟨trivial,trivial,fun h5=>?_,fun h5=>?_⟩⟩
 ·have h4:(bw (aa a).1 at_ true).2=false:=by simpa using h4
  rw [if_pos h4];exact ⟨rfl,rfl,trivial⟩
 ·have h4:(bw (aa a).1 at_ true).2=true:=by simpa using h4
  obtain ⟨q1,q2,q3⟩:=hfi h4;have hh:=(hsp _ q1).2;rw [if_pos hh,if_pos hc] at h5;have hn4:¬ (bw (aa a).1 at_ true).2=false:=by rw [h4]; simp
  rw [if_neg hn4,if_pos (of_decide_eq_true h5)];exact ⟨rfl,rfl,trivial⟩
 ·have h4:(bw (aa a).1 at_ true).2=true:=by simpa using h4
  obtain ⟨q1,q2,q3⟩:=hfi h4;obtain ⟨hin,hh⟩:=hsp _ q1;rw [if_pos hh,if_pos hc] at h5;have h5:=of_decide_eq_false h5;have hn4:¬ (bw (aa a).1 at_ true).2=false:=by rw [h4]; simp
  rw [if_neg hn4,if_neg h5];have hz:=bj hc;have hn:ac h=1+h.1+h.2.1:=rfl;have hL:ac (bw (aa a).1 at_ true).1.2=1+(bw (aa a).1 at_ true).1.2.1+(bw (aa a).1 at_ true).1.2.2.1:=rfl;unfold cm at hin;rw [if_pos hh,if_pos hc,if_pos hc];rw [q2] at hin;generalize ac (bw (aa a).1 at_ true).1.2=L at *;have hp:dy a at_ L:=⟨by omega,by omega,by omega,hal⟩;have hl:=dX a at_ L 0 L (by omega) (by omega) (by omega) (by omega);rw [uy hp];simp only [ak];exact ⟨trivial,trivial,by omega,by omega,by omega,trivial,by omega,trivial,trivial,by omega,⟨by omega,by omega,by rw [List.length_set]; omega,by rw [List.length_set]; omega⟩,trivial,trivial,trivial⟩
theorem Em:DZ.ok Tryz.prog 97:=aF (ann:=cw) (ae jN (ae lK (ae Eo (ae tY (ae lH (ae KL aq)))))) Tryz.func97 (by kernel_rfl) AC
end
section
open Go
set_option maxRecDepth 100000
set_option maxHeartbeats 1000000
def bi (f:Int→Bool):Nat→Int→List bY→List bY
 | 0,_,out=>out
 | m+1,k,out=>bi f m (k+1) (if f k=true then (if (decide (0<k)&&f (k - 1))=true then fT out 1 else out++[(k,1)]) else out)
def J9:Nat→Option LoopGen
 | 3=>some { rd:=[.dat 7 ty_I,.dat 1 (.fn ty_I .bool)],A:=fun ((n,g):Int×(Int→Prop)×(Int→Bool))=>{ cs:=[.own 5 129 fw,.dat 8 ty_I],inv:=fun ((out,k):List bY×Int)=>0≤k∧k≤n∧n≤300∧(∀ i,0≤i→i<n→g.1 i)∧out.length≤k∧((decide (0<k)&&g.2 (k - 1))=true→0<out.length)∧(∀ r∈out,0≤r.2∧r.2≤k)∧bi g.2 (n - k).toNat k out=bi g.2 n.toNat 0 [],mu:=fun ((_,k):List bY×Int)=>(n - k).toNat } }
 | _=>none
def Is:Spec:={ Ts:=[ty_I,.fn ty_I .bool],Rs:=[.own 129 fw],pre:=fun ((n,g):Int×(Int→Prop)×(Int→Bool))=>0≤n∧n≤300∧∀ i,0≤i→i<n→g.1 i,F:=fun ((n,g):Int×(Int→Prop)×(Int→Bool))=>bi g.2 n.toNat 0 [] }
def BB:Prop :=
  ∀ (x:Int×(Int→Prop)×(Int→Bool)),ak .i64 x.1∧True→(0≤x.1∧x.1≤300∧∀ (i:Int),0≤i→i<x.1→x.2.1 i)→((0:Int)≤0∧0≤x.1∧x.1≤300∧(∀ (i:Int),0≤i→i<x.1→x.2.1 i)∧(↑(0:Nat):Int)≤0∧((decide ((0:Int)<0)&&x.2.2 (0 - 1))=true→(0:Nat)<0)∧(∀ (r:bY),r∈([]:List (Int×Int))→0≤r.2∧r.2≤0)∧bi x.2.2 (x.1 - 0).toNat 0 ([]:List (Int×Int))=bi x.2.2 x.1.toNat 0 ([]:List bY))∧∀ (x_1:List (Int×Int)×Int),0≤x_1.2∧x_1.2≤x.1∧x.1≤300∧(∀ (i:Int),0≤i→i<x.1→x.2.1 i)∧(↑x_1.1.length:Int)≤x_1.2∧((decide (0<x_1.2)&&x.2.2 (x_1.2 - 1))=true→0<x_1.1.length)∧(∀ (r:bY),r∈x_1.1→0≤r.2∧r.2≤x_1.2)∧bi x.2.2 (x.1 - x_1.2).toNat x_1.2 x_1.1=bi x.2.2 x.1.toNat 0 ([]:List bY)→(decide (x_1.2<x.1)=true→x.2.1 x_1.2∧((!x.2.2 x_1.2)=true→ak .i64 (x_1.2+1)∧(0≤x_1.2+1∧x_1.2+1≤x.1∧x.1≤300∧(∀ (i:Int),0≤i→i<x.1→x.2.1 i)∧(↑x_1.1.length:Int)≤x_1.2+1∧((decide (0<x_1.2+1)&&x.2.2 (x_1.2+1 - 1))=true→0<x_1.1.length)∧(∀ (r:bY),r∈x_1.1→0≤r.2∧r.2≤x_1.2+1)∧bi x.2.2 (x.1 - (x_1.2+1)).toNat (x_1.2+1) x_1.1=bi x.2.2 x.1.toNat 0 ([]:List bY))∧(x.1 - (x_1.2+1)).toNat<(x.1 - x_1.2).toNat)∧((!x.2.2 x_1.2)=false→(decide (0<x_1.2)=true→ak .i64 (x_1.2 - 1))∧(decide (0<x_1.2)=true→x.2.1 (x_1.2 - 1))∧((decide (0<x_1.2)&&x.2.2 (x_1.2 - 1))=true→ak .i64 ((↑x_1.1.length:Int) - 1)∧0≤(↑x_1.1.length:Int) - 1∧(↑x_1.1.length:Int) - 1<(↑x_1.1.length:Int)∧((↑x_1.1.length:Int) - 1).toNat<x_1.1.length∧ak .i64 ((x_1.1.getD ((↑x_1.1.length:Int) - 1).toNat (0,0)).2+1)∧0≤(↑x_1.1.length:Int) - 1∧(↑x_1.1.length:Int) - 1<(↑x_1.1.length:Int)∧((↑x_1.1.length:Int) - 1).toNat<x_1.1.length∧ak .i64 (x_1.2+1)∧(0≤x_1.2+1∧x_1.2+1≤x.1∧x.1≤300∧(∀ (i:Int),0≤i→i<x.1→x.2.1 i)∧(↑(x_1.1.set ((↑x_1.1.length:Int) - 1).toNat ((x_1.1.getD ((↑x_1.1.length:Int) - 1).toNat (0,0)).1,(x_1.1.getD ((↑x_1.1.length:Int) - 1).toNat (0,0)).2+1)).length:Int)≤x_1.2+1∧((decide (0<x_1.2+1)&&x.2.2 (x_1.2+1 - 1))=true→0<(x_1.1.set ((↑x_1.1.length:Int) - 1).toNat ((x_1.1.getD ((↑x_1.1.length:Int) - 1).toNat (0,0)).1,(x_1.1.getD ((↑x_1.1.length:Int) - 1).toNat (0,0)).2+1)).length)∧(∀ (r:bY),r∈x_1.1.set ((↑x_1.1.length:Int) - 1).toNat ((x_1.1.getD ((↑x_1.1.length:Int) - 1).toNat (0,0)).1,(x_1.1.getD ((↑x_1.1.length:Int) - 1).toNat (0,0)).2+1)→0≤r.2∧r.2≤x_1.2+1)∧bi x.2.2 (x.1 - (x_1.2+1)).toNat (x_1.2+1) (x_1.1.set ((↑x_1.1.length:Int) - 1).toNat ((x_1.1.getD ((↑x_1.1.length:Int) - 1).toNat (0,0)).1,(x_1.1.getD ((↑x_1.1.length:Int) - 1).toNat (0,0)).2+1))=bi x.2.2 x.1.toNat 0 ([]:List bY))∧(x.1 - (x_1.2+1)).toNat<(x.1 - x_1.2).toNat)∧((decide (0<x_1.2)&&x.2.2 (x_1.2 - 1))=false→(x_1.1.length+[(x_1.2,1)].length) * (8+8)≤aA∧ak .i64 (x_1.2+1)∧(0≤x_1.2+1∧x_1.2+1≤x.1∧x.1≤300∧(∀ (i:Int),0≤i→i<x.1→x.2.1 i)∧(↑(x_1.1++[(x_1.2,1)]).length:Int)≤x_1.2+1∧((decide (0<x_1.2+1)&&x.2.2 (x_1.2+1 - 1))=true→0<(x_1.1++[(x_1.2,1)]).length)∧(∀ (r:bY),r∈x_1.1++[(x_1.2,1)]→0≤r.2∧r.2≤x_1.2+1)∧bi x.2.2 (x.1 - (x_1.2+1)).toNat (x_1.2+1) (x_1.1++[(x_1.2,1)])=bi x.2.2 x.1.toNat 0 ([]:List bY))∧(x.1 - (x_1.2+1)).toNat<(x.1 - x_1.2).toNat)))∧(decide (x_1.2<x.1)=false→x_1.1=bi x.2.2 x.1.toNat 0 ([]:List bY)∧True)
theorem F6:BB:=by
 unfold BB;intro ⟨n,g⟩ _ ⟨h1,h2,h3⟩;refine ⟨⟨by omega,h1,h2,h3,by simp,by simp,by simp,by simp⟩,fun ⟨out,k⟩ ⟨k0,k1,_,_,q1,q2,q3,q4⟩=>⟨fun hlt=>?_,fun hge=>?_⟩⟩
 ·have hlt:k<n:=of_decide_eq_true hlt;simp only at h1 h2 h3 k0 k1 q1 q2 q3 q4 hlt ⊢;rw [show (n - k).toNat=(n - (k+1)).toNat+1 by omega] at q4;simp only [bi] at q4
  have hp:(decide (0<k+1)&&g.2 (k+1 - 1))=g.2 k:=by
   rw [show k+1 - 1=k by omega];simp;omega
  rw [hp];simp only [ak];refine ⟨h3 k k0 hlt,fun hc=>?_,fun hc=>⟨fun hk=>by have:=of_decide_eq_true hk; omega,fun hk=>h3 _ (by have:=of_decide_eq_true hk; omega) (by omega),fun hk=>?_,fun hk=>?_⟩⟩
  ·have hc:g.2 k=false:=by simpa using hc
   rw [hc] at q4 ⊢;simp only [Bool.false_eq_true,if_false] at q4;exact ⟨by omega,⟨by omega,by omega,h2,h3,by omega,fun h=>by simp at h,fun r hr=>by have:=q3 r hr; omega,q4⟩,by omega⟩
  ·have hc:g.2 k=true:=by simpa using hc
   rw [if_pos hc,if_pos hk] at q4;have hlen:=q2 hk;have hlast:=q3 _ (aI ((0,0):bY) (xs:=out) (i:=(out.length:Int) - 1) (by omega) (by omega));have e:((out.length:Int) - 1).toNat=out.length - 1:=by omega
   rw [e] at hlast ⊢;have hbump:out.set (out.length - 1) ((out.getD (out.length - 1) (0,0)).1,(out.getD (out.length - 1) (0,0)).2+1)=fT out 1:=rfl;rw [hbump];rw [dj];refine ⟨by omega,by omega,by omega,by omega,by omega,by omega,by omega,by omega,by omega,⟨by omega,by omega,h2,h3,by omega,fun _=>hlen,fun r hr=>?_,q4⟩,by omega⟩;rcases List.mem_or_eq_of_mem_set hr with hr | rfl
   ·have:=q3 r hr; omega
   ·simp only; omega
  ·have hc:g.2 k=true:=by simpa using hc
   rw [if_pos hc,if_neg (by rw [hk]; simp)] at q4;unfold aA;simp only [List.length_append,List.length_cons,List.length_nil];refine ⟨by omega,by omega,⟨by omega,by omega,h2,h3,by omega,fun _=>by omega,fun r hr=>?_,q4⟩,by omega⟩;rcases List.mem_append.1 hr with hr | hr
   ·have:=q3 r hr; omega
   ·simp only [List.mem_singleton] at hr;subst hr;simp only;omega
 ·have hge:¬ k<n:=of_decide_eq_false hge;simp only at q4 k1;rw [show (n - k).toNat=0 by omega] at q4;exact ⟨q4,trivial⟩
theorem BX:Is.ok Tryz.prog 115:=aF (ann:=J9) aq Tryz.func115 (by kernel_rfl) F6
def Iu:Spec:={ Ts:=[ty_I,.ref (.arr .bool)],Rs:=[.dat .bool],pre:=fun ((k,fr):Int×List Bool)=>0≤k∧k<fr.length,F:=fun ((k,fr):Int×List Bool)=>fr.getD k.toNat false }
def BD:Prop :=
  ∀ (x:Int×List Bool),(ak .i64 x.1∧x.2.length * 8≤aA∧∀ (x_1:Bool),x_1∈x.2→True)→0≤x.1∧x.1<(↑x.2.length:Int)→0≤x.1∧x.1<(↑x.2.length:Int)∧x.2.getD x.1.toNat false=x.2.getD x.1.toNat false∧True
theorem F8:BD:=by
 unfold BD;intro ⟨k,fr⟩ _ ⟨h1,h2⟩;exact ⟨h1,h2,rfl,trivial⟩
theorem I8:Iu.ok Tryz.prog 116:=aF (ann:=cw) aq Tryz.func116 (by kernel_rfl) F8
def gm (fr:List Bool) (at_:Nat) (b:Bool):Nat→List Bool
 | 0=>fr
 | n+1=>(gm fr at_ b n).set (at_+n) b
def fV:List Bool→List aD→List Bool
 | fr,[]=>fr
 | fr,s::l=>fV (gm fr s.1.toNat s.2.2.2.2 (ac s.2).toNat) l
theorem fZ (fr:List Bool) (at_:Nat) (b:Bool):∀ n,(gm fr at_ b n).length=fr.length
 | 0=>rfl
 | n+1=>by simp [gm,fZ fr at_ b n]
def aN (a:List Int):List bY:=bi (fun k=>(fV (List.replicate (a.length+1) false) (aa a).1).getD k.toNat false) a.length 0 []
def EZ:Nat→Option LoopGen
 | 4=>some { rd:=[.own 18 124 ch,.dat 0 (.arr bb)],A:=fun ((l,a):List aD×List Int)=>{ cs:=[.boxS 5 [.own 4 .bool],.dat 20 ty_I],inv:=fun ((fr,i):List Bool×Int)=>0≤i∧i≤l.length∧l.length≤256∧a.length≤256∧(∀ s∈l,cm a s)∧fr.length=a.length+1∧fV fr (l.drop i.toNat)=fV (List.replicate (a.length+1) false) l,mu:=fun ((_,i):List Bool×Int)=>(l.length - i).toNat } }
 | 7=>some { rd:=[.box 7 ch,.dat 26 ty_I,.dat 0 (.arr bb),.boxS 5 [.own 4 .bool]],A:=fun ((s,n,a,fr0):aD×Int×List Int×List Bool)=>{ cs:=[.boxS 5 [.own 4 .bool],.dat 27 ty_I],inv:=fun ((fr,k):List Bool×Int)=>0≤k∧k≤n∧n=ac s.2∧a.length≤256∧cm a s∧fr0.length=a.length+1∧fr=gm fr0 s.1.toNat s.2.2.2.2 k.toNat,mu:=fun ((_,k):List Bool×Int)=>(n - k).toNat } }
 | _=>none
def DR:Spec:={ Ts:=[.arr bb],Rs:=[.own 129 fw],pre:=fun (a:List Int)=>a.length≤256,F:=aN }
def tx:Prop :=
  ∀ (x:List Int),(x.length * 8≤aA∧∀ (x_1:Int),x_1∈x→ak .u64 x_1)→x.length≤256→True∧ak .i64 ((↑x.length:Int)+1)∧0≤(↑x.length:Int)+1∧((↑x.length:Int)+1).toNat * 8≤aA∧((0:Int)≤0∧0≤(↑(aa x).1.length:Int)∧(aa x).1.length≤256∧x.length≤256∧(∀ (s:aD),s∈(aa x).1→cm x s)∧(List.replicate ((↑x.length:Int)+1).toNat false).length=x.length+1∧fV (List.replicate ((↑x.length:Int)+1).toNat false) (List.drop (Int.toNat 0) (aa x).1)=fV (List.replicate (x.length+1) false) (aa x).1)∧∀ (x_1:List Bool×Int),0≤x_1.2∧x_1.2≤(↑(aa x).1.length:Int)∧(aa x).1.length≤256∧x.length≤256∧(∀ (s:aD),s∈(aa x).1→cm x s)∧x_1.1.length=x.length+1∧fV x_1.1 (List.drop x_1.2.toNat (aa x).1)=fV (List.replicate (x.length+1) false) (aa x).1→(decide (x_1.2<(↑(aa x).1.length:Int))=true→0≤x_1.2∧x_1.2<(↑(aa x).1.length:Int)∧x_1.2.toNat<(aa x).1.length∧(ak .i64 (1+((aa x).1.getD x_1.2.toNat (0,0,0,0,false)).2.1)∧ak .i64 (1+((aa x).1.getD x_1.2.toNat (0,0,0,0,false)).2.1+((aa x).1.getD x_1.2.toNat (0,0,0,0,false)).2.2.1))∧((0:Int)≤0∧0≤ac ((aa x).1.getD x_1.2.toNat (0,0,0,0,false)).2∧ac ((aa x).1.getD x_1.2.toNat (0,0,0,0,false)).2=ac ((aa x).1.getD x_1.2.toNat (0,0,0,0,false)).2∧x.length≤256∧cm x ((aa x).1.getD x_1.2.toNat (0,0,0,0,false))∧x_1.1.length=x.length+1∧x_1.1=gm x_1.1 ((aa x).1.getD x_1.2.toNat (0,0,0,0,false)).1.toNat ((aa x).1.getD x_1.2.toNat (0,0,0,0,false)).2.2.2.2 (Int.toNat 0))∧∀ (x_2:List Bool×Int),0≤x_2.2∧x_2.2≤ac ((aa x).1.getD x_1.2.toNat (0,0,0,0,false)).2∧ac ((aa x).1.getD x_1.2.toNat (0,0,0,0,false)).2=ac ((aa x).1.getD x_1.2.toNat (0,0,0,0,false)).2∧x.length≤256∧cm x ((aa x).1.getD x_1.2.toNat (0,0,0,0,false))∧x_1.1.length=x.length+1∧x_2.1=gm x_1.1 ((aa x).1.getD x_1.2.toNat (0,0,0,0,false)).1.toNat ((aa x).1.getD x_1.2.toNat (0,0,0,0,false)).2.2.2.2 x_2.2.toNat→(decide (x_2.2<ac ((aa x).1.getD x_1.2.toNat (0,0,0,0,false)).2)=true→ak .i64 (((aa x).1.getD x_1.2.toNat (0,0,0,0,false)).1+x_2.2)∧0≤((aa x).1.getD x_1.2.toNat (0,0,0,0,false)).1+x_2.2∧((aa x).1.getD x_1.2.toNat (0,0,0,0,false)).1+x_2.2<(↑x_2.1.length:Int)∧(((aa x).1.getD x_1.2.toNat (0,0,0,0,false)).1+x_2.2).toNat<x_2.1.length∧ak .i64 (x_2.2+1)∧(0≤x_2.2+1∧x_2.2+1≤ac ((aa x).1.getD x_1.2.toNat (0,0,0,0,false)).2∧ac ((aa x).1.getD x_1.2.toNat (0,0,0,0,false)).2=ac ((aa x).1.getD x_1.2.toNat (0,0,0,0,false)).2∧x.length≤256∧cm x ((aa x).1.getD x_1.2.toNat (0,0,0,0,false))∧x_1.1.length=x.length+1∧x_2.1.set (((aa x).1.getD x_1.2.toNat (0,0,0,0,false)).1+x_2.2).toNat ((aa x).1.getD x_1.2.toNat (0,0,0,0,false)).2.2.2.2=gm x_1.1 ((aa x).1.getD x_1.2.toNat (0,0,0,0,false)).1.toNat ((aa x).1.getD x_1.2.toNat (0,0,0,0,false)).2.2.2.2 (x_2.2+1).toNat)∧(ac ((aa x).1.getD x_1.2.toNat (0,0,0,0,false)).2 - (x_2.2+1)).toNat<(ac ((aa x).1.getD x_1.2.toNat (0,0,0,0,false)).2 - x_2.2).toNat)∧(decide (x_2.2<ac ((aa x).1.getD x_1.2.toNat (0,0,0,0,false)).2)=false→ak .i64 (x_1.2+1)∧(0≤x_1.2+1∧x_1.2+1≤(↑(aa x).1.length:Int)∧(aa x).1.length≤256∧x.length≤256∧(∀ (s:aD),s∈(aa x).1→cm x s)∧x_2.1.length=x.length+1∧fV x_2.1 (List.drop (x_1.2+1).toNat (aa x).1)=fV (List.replicate (x.length+1) false) (aa x).1)∧((↑(aa x).1.length:Int) - (x_1.2+1)).toNat<((↑(aa x).1.length:Int) - x_1.2).toNat))∧(decide (x_1.2<(↑(aa x).1.length:Int))=false→(0≤(↑x.length:Int)∧(↑x.length:Int)≤300∧∀ (i:Int),0≤i→i<(↑x.length:Int)→(fun (x:Int)=>0≤x∧x<(↑x_1.1.length:Int),fun (x:Int)=>x_1.1.getD x.toNat false).1 i)∧bi (fun (x:Int)=>x_1.1.getD x.toNat false) (↑x.length:Int).toNat 0 ([]:List bY)=aN x∧True)
theorem Au:tx:=by
 unfold tx;intro a _ hal;have hlen:=cD a;have hin:=dw a;have hF:aN a=bi (fun k=>(fV (List.replicate (a.length+1) false) (aa a).1).getD k.toNat false) a.length 0 []:=rfl;rw [hF];generalize (aa a).1=l at *;have ea:((a.length:Int)+1).toNat=a.length+1:=by omega
 rw [ea];unfold aA;simp only [ak];refine ⟨trivial,by omega,by omega,by omega,⟨by omega,by omega,hlen,hal,fun s hs=>(hin s hs).2.1,by simp,by simp⟩,fun ⟨fr,i⟩ ⟨h0,h1,_,_,_,h2,h3⟩=>⟨fun hlt=>?_,fun hge=>?_⟩⟩
 ·have hlt:i<(l.length:Int):=of_decide_eq_true hlt;simp only at h0 h1 h2 h3 ⊢;rw [aW ((0,0,0,0,false):aD) h0 hlt] at h3;simp only [fV] at h3;obtain ⟨_,hs,hf⟩:=hin _ (aI ((0,0,0,0,false):aD) h0 hlt);generalize l.getD i.toNat (0,0,0,0,false)=s at *;have hz:=bj hf;have hL:ac s.2=1+s.2.1+s.2.2.1:=rfl;have hs':=hs;unfold cm at hs';generalize hLg:ac s.2=L at *;refine ⟨h0,hlt,by omega,⟨by omega,by omega⟩,⟨by omega,by omega,trivial,hal,hs,h2,rfl⟩,fun ⟨fr2,k⟩ ⟨k0,k1,_,_,_,_,k2⟩=>⟨fun hk=>?_,fun hk=>?_⟩⟩
  ·have hk:k<L:=of_decide_eq_true hk;simp only at k0 k1 k2 ⊢;have hl2:fr2.length=a.length+1:=by rw [k2,fZ,h2]
   refine ⟨by omega,by omega,by omega,by omega,by omega,⟨by omega,by omega,trivial,hal,hs,h2,?_⟩,by omega⟩;rw [show (k+1).toNat=k.toNat+1 by omega,k2];simp only [gm];congr 1;omega
  ·have hk:¬ k<L:=of_decide_eq_false hk;simp only at k0 k1 k2 ⊢;have hkL:k=L:=by omega
   refine ⟨by omega,⟨by omega,by omega,hlen,hal,fun s hs=>(hin s hs).2.1,by rw [k2,fZ,h2],?_⟩,by omega⟩;rw [k2,hkL];exact h3
 ·simp only at h2 h3 ⊢;rw [bt (of_decide_eq_false hge)] at h3;simp only [fV] at h3;rw [h3];refine ⟨⟨by omega,by omega,fun i h4 h5=>?_⟩,?_,trivial⟩
  ·rw [← h3,h2];omega
  ·congr 1
theorem tX:DR.ok Tryz.prog 73:=aF (ann:=EZ) (ae mw (ae gN (ae I8 (ae BX aq)))) Tryz.func73 (by kernel_rfl) Au
def CV:Nat→Option LoopGen
 | 3=>some { rd:=[.dat 0 (.arr bb),.dat 1 ty_I,.dat 11 ty_I],wr:=[7],A:=fun ((a,at_,n):List Int×Int×Int)=>{ cs:=[.own 7 29 bb,.dat 12 ty_I],inv:=fun ((out,k):List Int×Int)=>0≤k∧k≤n∧dy a at_ n∧out=dA a at_ n 0 k,mu:=fun ((_,k):List Int×Int)=>(n - k).toNat } }
 | _=>none
def A0:Spec:={ Ts:=[.arr bb,ty_I,ty_I],Rs:=[.own 29 bb],pre:=fun ((a,at_,n):List Int×Int×Int)=>dy a at_ n,F:=fun ((a,at_,n):List Int×Int×Int)=>aR a at_ n }
def qW:Prop :=
  ∀ (x:List Int×Int×Int),(x.1.length * 8≤aA∧∀ (x_1:Int),x_1∈x.1→ak .u64 x_1)∧ak .i64 x.2.1∧ak .i64 x.2.2→dy x.1 x.2.1 x.2.2→True∧((0:Int)≤0∧0≤x.2.2∧dy x.1 x.2.1 x.2.2∧x.1=dA x.1 x.2.1 x.2.2 0 0)∧∀ (x_1:List Int×Int),0≤x_1.2∧x_1.2≤x.2.2∧dy x.1 x.2.1 x.2.2∧x_1.1=dA x.1 x.2.1 x.2.2 0 x_1.2→(decide (x_1.2<x.2.2)=true→ak .i64 (x.2.1+x_1.2)∧0≤x.2.1+x_1.2∧x.2.1+x_1.2<(↑x_1.1.length:Int)∧(x.2.1+x_1.2).toNat<x_1.1.length∧ak .i64 (x_1.2+1)∧(0≤x_1.2+1∧x_1.2+1≤x.2.2∧dy x.1 x.2.1 x.2.2∧x_1.1.set (x.2.1+x_1.2).toNat 0=dA x.1 x.2.1 x.2.2 0 (x_1.2+1))∧(x.2.2 - (x_1.2+1)).toNat<(x.2.2 - x_1.2).toNat)∧(decide (x_1.2<x.2.2)=false→(decide (0<x.2.2)=true→(1≤x.2.2∧x.2.2≤256)∧0≤x.2.1∧x.2.1<(↑x_1.1.length:Int)∧x.2.1.toNat<x_1.1.length∧x_1.1.set x.2.1.toNat (a6 (0,x.2.2 - 1,0,true))=aR x.1 x.2.1 x.2.2∧True)∧(decide (0<x.2.2)=false→x_1.1=aR x.1 x.2.1 x.2.2∧True))
theorem yb:qW:=by
 unfold qW;intro ⟨a,at_,n⟩ _ hp;have hp':=hp;obtain ⟨p1,p2,p3,p4⟩:=hp';simp only at p1 p2 p3 p4 hp ⊢;simp only [ak];refine ⟨trivial,⟨by omega,p2,hp,(nJ _ _ _ _).symm⟩,fun ⟨out,k⟩ ⟨k0,k1,_,k2⟩=>⟨fun hk=>?_,fun hk=>?_⟩⟩
 ·have hk:k<n:=of_decide_eq_true hk;simp only at k0 k1 k2 ⊢;have hl:=dX a at_ n 0 k p1 p3 k0 k1;rw [← k2] at hl;refine ⟨by omega,by omega,by omega,by omega,by omega,⟨by omega,by omega,hp,?_⟩,by omega⟩;rw [k2];exact ux a at_ n 0 k p1 p3 k0 hk
 ·have hk:¬ k<n:=of_decide_eq_false hk;simp only at k0 k1 k2 ⊢;have hkn:k=n:=by omega
  have hl:=dX a at_ n 0 k p1 p3 k0 k1;rw [← k2] at hl;refine ⟨fun hc=>?_,fun hc=>?_⟩
  ·have hc:0<n:=of_decide_eq_true hc;unfold aR;rw [if_pos hc,k2,hkn];rw [k2,hkn] at hl;exact ⟨⟨by omega,by omega⟩,p1,by omega,by omega,rfl,trivial⟩
  ·have hc:¬ 0<n:=of_decide_eq_false hc;unfold aR;rw [if_neg hc,k2,show k=0 by omega,nJ];exact ⟨rfl,trivial⟩
theorem BZ:A0.ok Tryz.prog 74:=aF (ann:=CV) (ae gA (ae oU aq)) Tryz.func74 (by kernel_rfl) yb
end
section
open Go
set_option maxRecDepth 100000
set_option maxHeartbeats 1000000
theorem tc (fr:List Bool) (at_:Nat) (b:Bool) (i:Nat):∀ n,(gm fr at_ b n).getD i false=if at_≤i∧i<at_+n∧i<fr.length then b else fr.getD i false
 | 0=>by
  have:¬ (at_≤i∧i<at_+0∧i<fr.length):=by omega
  rw [if_neg this];rfl
 | n+1=>by
  have ih:=tc fr at_ b i n;have hl:=fZ fr at_ b n;simp only [gm];by_cases hi:i=at_+n
  ·by_cases hlen:i<fr.length
   ·rw [if_pos (by omega)];simp [← hi,hl,hlen]
   ·rw [if_neg (by omega)];simp [hlen,show ¬ i<(gm fr at_ b n).length by omega]
  ·have e:((gm fr at_ b n).set (at_+n) b).getD i false=(gm fr at_ b n).getD i false:=by
    simp [List.getElem?_set,Ne.symm hi]
   rw [e,ih];by_cases hc:at_≤i∧i<at_+n∧i<fr.length
   ·rw [if_pos hc,if_pos (by omega)]
   ·rw [if_neg hc,if_neg (by omega)]
def nj (k:Int):List aD→Bool
 | []=>false
 | x::r=>if k<x.1+ac x.2 then x.2.2.2.2 else nj k r
theorem xI:∀ (r:List aD) (s e:Int) (fr:List Bool),ft s e r→0≤s→e≤fr.length→s≤e∧∀ k:Int,0≤k→k<e→(fV fr r).getD k.toNat false=if k<s then fr.getD k.toNat false else nj k r
 | [],s,e,fr,h,_,_=>by
  have:s=e:=h;subst this;refine ⟨Int.le_refl _,fun k _ hk=>?_⟩;rw [if_pos hk];rfl
 | x::r,s,e,fr,⟨h1,h2,h3⟩,h0,hl=>by
  have ih:=xI r (s+ac x.2) e (gm fr x.1.toNat x.2.2.2.2 (ac x.2).toNat) h3 (by omega) (by rw [fZ]; exact hl);refine ⟨by omega,fun k k0 k1=>?_⟩;simp only [fV,nj];rw [ih.2 k k0 k1,tc];by_cases hk:k<s
  ·rw [if_pos (by omega),if_neg (by omega),if_pos hk]
  ·rw [if_neg hk];by_cases hk2:k<s+ac x.2
   ·rw [if_pos hk2,if_pos (by omega),if_pos (by omega)]
   ·rw [if_neg hk2,if_neg (by omega)]
theorem xO {out:List bY} {a b:Int} (h:0<out.length):fT (fT out a) b=fT out (a+b):=by
 unfold fT;simp [show out.length - 1<out.length by omega,Int.add_assoc]
theorem qx (out:List bY) (k a b:Int):fT (out++[(k,a)]) b=out++[(k,a+b)]:=by
 unfold fT;simp
theorem pN (f:Int→Bool):∀ (n m:Nat) (k:Int) (out:List bY),0<out.length→0<k→(∀ i,k - 1≤i→i<k+n→f i=true)→bi f (n+m) k out=bi f m (k+n) (if n=0 then out else fT out n)
 | 0,m,k,out,_,_,_=>by simp
 | n+1,m,k,out,h1,h2,h3=>by
  rw [show n+1+m=(n+m)+1 by omega];simp only [bi];rw [if_pos (h3 k (by omega) (by omega)),if_pos (by rw [h3 (k - 1) (by omega) (by omega)]; simp; omega)];rw [pN f n m (k+1) (fT out 1) (by rw [dj]; exact h1) (by omega) (fun i hi hj=>h3 i (by omega) (by omega))];rw [if_neg (by omega:¬ n+1=0),show k+1+(n:Int)=k+((n+1:Nat):Int) by omega];congr 1;by_cases hn:n=0
  ·subst hn; simp
  ·rw [if_neg hn,xO h1];congr 1;omega
theorem pO (f:Int→Bool):∀ (n m:Nat) (k:Int) (out:List bY),(∀ i,k≤i→i<k+n→f i=false)→bi f (n+m) k out=bi f m (k+n) out
 | 0,m,k,out,_=>by simp
 | n+1,m,k,out,h=>by
  rw [show n+1+m=(n+m)+1 by omega];simp only [bi];rw [if_neg (by rw [h k (by omega) (by omega)]; simp),pO f n m (k+1) out (fun i hi hj=>h i (by omega) (by omega)),show k+1+(n:Int)=k+((n+1:Nat):Int) by omega]
theorem no (f:Int→Bool):∀ (r:List aD) (s e:Int) (out:List bY),ft s e r→0≤s→(∀ k,s≤k→k<e→f k=nj k r)→((decide (0<s)&&f (s - 1))=true→0<out.length) →
  s≤e∧bi f (e - s).toNat s out=aU (decide (0<s)&&f (s - 1)) out r
 | [],s,e,out,h,_,_,_=>by
  have:s=e:=h;subst this;rw [Int.sub_self];exact ⟨Int.le_refl _,rfl⟩
 | x::r,s,e,out,⟨h1,h2,h3⟩,h0,hf,ho=>by
  have hx:∀ k,s≤k→k<s+ac x.2→k<e→f k=x.2.2.2.2:=fun k k0 k1 k2=>by
   rw [hf k k0 k2];simp only [nj];rw [if_pos (by omega)]
  have hr:s+ac x.2≤e→∀ k,s+ac x.2≤k→k<e→f k=nj k r:=fun _ k k0 k1=>by
   rw [hf k (by omega) k1];simp only [nj];rw [if_neg (by omega)]
  have hle:s+ac x.2≤e:=by
   have:∀ (r:List aD) (s e:Int),ft s e r→s≤e:=by
    intro r
    induction r with
    | nil=>intro s e h; exact Int.le_of_eq h
    | cons y r ih=>intro s e ⟨_,q2,q3⟩; have:=ih _ _ q3; omega
   exact this r _ _ h3
  refine ⟨by omega,?_⟩
  have hprev:(decide (0<s+ac x.2)&&f (s+ac x.2 - 1))=x.2.2.2.2:=by
   rw [hx _ (by omega) (by omega) (by omega)];simp;omega
  obtain ⟨L,hL⟩:=Int.eq_ofNat_of_zero_le (show 0≤ac x.2 by omega);rw [show (e - s).toNat=L+(e - (s+ac x.2)).toNat by omega];simp only [aU];cases hfr:x.2.2.2.2
  ·rw [hfr] at hx hprev;rw [pO f L _ s out (fun i hi hj=>hx i hi (by omega) (by omega)),← hL];have ih:=no f r (s+ac x.2) e out h3 (by omega) (hr hle) (fun h=>by rw [hprev] at h; cases h);rw [ih.2,hprev];simp
  ·rw [hfr] at hx hprev;have hL1:L=(L - 1)+1:=by omega
   have step:bi f (L+(e - (s+ac x.2)).toNat) s out=bi f (e - (s+ac x.2)).toNat (s+ac x.2) (if (decide (0<s)&&f (s - 1))=true then fT out (ac x.2) else out++[(x.1,ac x.2)]):=by
    rw [show L+(e - (s+ac x.2)).toNat=((L - 1)+(e - (s+ac x.2)).toNat)+1 by omega];simp only [bi];rw [if_pos (hx s (by omega) (by omega) (by omega))]
    rw [pN f (L - 1) _ (s+1) _ (by
     split
     ·rename_i hp;rw [dj];exact ho hp
     ·simp) (by omega) (fun i hi hj=>hx i (by omega) (by omega) (by omega))]
    rw [show s+1+((L - 1:Nat):Int)=s+ac x.2 by omega];congr 1;by_cases hp:(decide (0<s)&&f (s - 1))=true
    ·rw [if_pos hp,if_pos hp];by_cases hz:L - 1=0
     ·rw [if_pos hz];congr 1;omega
     ·rw [if_neg hz,xO (ho hp)];congr 1;omega
    ·rw [if_neg hp,if_neg hp];by_cases hz:L - 1=0
     ·rw [if_pos hz,h1];congr 3;omega
     ·rw [if_neg hz,qx,h1];congr 3;omega
   rw [step]
   have ih:=no f r (s+ac x.2) e (if (decide (0<s)&&f (s - 1))=true then fT out (ac x.2) else out++[(x.1,ac x.2)]) h3 (by omega) (hr hle) (fun _=>by
    split
    ·rename_i hp;rw [dj];exact ho hp
    ·simp)
   rw [ih.2,hprev];simp
theorem xE {a:List Int} (h:(aa a).2=0):aN a=aU false [] (aa a).1:=by
 have ht:=gI h;have hfl:=xI (aa a).1 0 a.length (List.replicate (a.length+1) false) ht (Int.le_refl _) (by simp; omega)
 have hr:=no (fun k=>(fV (List.replicate (a.length+1) false) (aa a).1).getD k.toNat false) (aa a).1 0 a.length [] ht (Int.le_refl _) (fun k k0 k1=>by
  rw [hfl.2 k k0 k1,if_neg (by omega)]) (fun h=>by simp at h)
 have h2:=hr.2;rw [show ((a.length:Int) - 0).toNat=a.length by omega] at h2;unfold aN;rw [h2];simp
def iH (at_:Int):Int→List aD→Int
 | r,[]=>r
 | r,s::l=>iH at_ (if s.1=at_∧s.2.2.2.2=true then ac s.2 else r) l
theorem tk (at_:Int):∀ (l:List aD) (r:Int),(∀ s∈l,s.1≠at_)→iH at_ r l=r
 | [],_,_=>rfl
 | s::l,r,h=>by
  simp only [iH];rw [if_neg (fun e=>h s (by simp) e.1)];exact tk at_ l r (fun t ht=>h t (by simp [ht]))
theorem Br (at_:Int):∀ (l:List aD) (r:Int),(∀ s∈l,¬ (s.1=at_∧s.2.2.2.2=true))→iH at_ r l=r
 | [],_,_=>rfl
 | s::l,r,h=>by
  simp only [iH];rw [if_neg (h s (by simp))];exact Br at_ l r (fun t ht=>h t (by simp [ht]))
theorem tj {at_:Int}:∀ (l:List aD) (r:Int) (s:aD),l.Pairwise (fun s t=>s.1<t.1)→s∈l→s.1=at_→s.2.2.2.2=true→iH at_ r l=ac s.2
 | t::l,r,s,hs,hm,h1,h2=>by
  obtain ⟨p1,p2⟩:=List.pairwise_cons.1 hs;simp only [iH];rcases List.mem_cons.1 hm with rfl | hm
  ·rw [if_pos ⟨h1,h2⟩];exact tk at_ l _ (fun u hu e=>by have:=p1 u hu; omega)
  ·exact tj l _ s p2 hm h1 h2
theorem Cv {l:List aD} {at_:Int} {fr:Bool} (h:(bw l at_ fr).2=false):∀ s∈l,¬ (s.1=at_∧s.2.2.2.2=fr):=by
 intro s hs ⟨h1,h2⟩;have ha:=cW (fun s:aD=>decide (s.1=at_)&&s.2.2.2.2 == fr) l 0 (by omega);have:(l.any fun s:aD=>decide (s.1=at_)&&s.2.2.2.2 == fr)=true:=List.any_eq_true.2 ⟨s,hs,by simp [h1,h2]⟩;rw [this] at ha;have ha:=of_decide_eq_true ha;unfold bw at h;rw [if_neg (by omega)] at h;cases h
theorem zC {l:List aD} (hs:l.Pairwise (fun s t=>s.1<t.1)) (at_:Int):(aj at_ l).2=(bw l at_ false).2∧((bw l at_ false).2=true→(aj at_ l).1=(bw l at_ false).1.2):=by
 cases h:(bw l at_ false).2
 ·rcases gn at_ l with e | ⟨s,h1,h2,h3,_⟩
  ·rw [e]; exact ⟨rfl,fun h=>by cases h⟩
  ·exact absurd ⟨h2,h3⟩ (Cv h s h1)
 ·obtain ⟨q1,q2,q3⟩:=uw l at_ false h;have:=kR hs q1 q3;rw [q2] at this;rw [this];exact ⟨rfl,fun _=>rfl⟩
theorem HE {b:List Int} {at_ n v k:Int} {i:Nat} (x:Int) (h:i<at_.toNat) (hl:at_.toNat≤b.length):dA (b.set i x) at_ n v k=(dA b at_ n v k).set i x:=by
 unfold dA lj;rw [List.take_set,List.drop_set,if_pos (by omega),List.set_append,if_pos (by rw [List.length_take]; omega)]
theorem pr {b:List Int} {at_ n:Int} {i:Nat} (x:Int) (h:i<at_.toNat) (hl:at_.toNat≤b.length):aR (b.set i x) at_ n=(aR b at_ n).set i x:=by
 unfold aR;split
 ·rw [HE x h hl,List.set_comm _ _ (by omega)]
 ·rfl
theorem HF {b:List Int} {at_ n:Int} {i:Nat} (h:at_.toNat≤i) (h2:i<at_.toNat+n.toNat) (hl:at_.toNat+n.toNat≤b.length):(dA b at_ n 0 n).getD i 0=0:=by
 unfold dA lj;have e:(List.take at_.toNat b).length=at_.toNat:=by rw [List.length_take]; omega
 rw [List.getD_eq_getElem?_getD,List.getElem?_append_right (by omega),e,List.getElem?_append_left (by simp; omega)];rw [List.take_of_length_le (by simp),List.getElem?_replicate];split <;> rfl
theorem zV {b:List Int} {at_ n:Int} {i:Nat} (h:i<at_.toNat) (hl:at_.toNat≤b.length):(aR b at_ n).getD i 0=b.getD i 0:=by
 unfold aR;split
 ·unfold dA lj;rw [List.getD_eq_getElem?_getD,List.getElem?_set_ne (by omega),List.getElem?_append_left (by rw [List.length_take]; omega),List.getElem?_take,if_pos h];rfl
 ·rfl
theorem DD {a:List Int} {at_ L n:Int} (hp:dy a at_ L) (h1:1≤n) (h2:n≤L) (hw:Int) :
  (aR (aR a at_ L) (at_+n) (L - n)).set at_.toNat hw=aR ((dA a at_ L 0 L).set at_.toNat hw) (at_+n) (L - n) ∧
  ∀ j,1≤j→j<n→((aR (aR a at_ L) (at_+n) (L - n)).set at_.toNat hw).getD (at_+j).toNat 0=0:=by
 obtain ⟨p1,p2,p3,p4⟩:=hp;have hl:=dX a at_ L 0 L p1 p3 p2 (by omega);have hE:aR a at_ L=(dA a at_ L 0 L).set at_.toNat (a6 (0,L - 1,0,true)):=by unfold aR; rw [if_pos (by omega)]
 rw [hE,pr _ (by omega) (by omega),pr _ (by omega) (by omega),List.set_set];refine ⟨rfl,fun j h3 h4=>?_⟩;rw [List.getD_eq_getElem?_getD,List.getElem?_set_ne (by omega),← List.getD_eq_getElem?_getD,zV (by omega) (by omega)];exact HF (by omega) (by omega) (by omega)
def sg (h:du):Int:=if af h=0∧h.2.2.2=true then 3 else af h
def fL (e r n:Int):Int:=if e≠0 then e else if r=0 then 5 else if r<n then 7 else 0
theorem DE {a:List Int} (hz:(au a).2.2=0) (at_:Int) (h:du) :
  eo a at_ h=(if fL (sg h) (iH at_ 0 (aa a).1) (ac h)≠0 then [] else aR ((dA a at_ (iH at_ 0 (aa a).1) 0 (iH at_ 0 (aa a).1)).set at_.toNat (a6 h)) (at_+ac h) (iH at_ 0 (aa a).1 - ac h),fL (sg h) (iH at_ 0 (aa a).1) (ac h)) ∧
  (fL (sg h) (iH at_ 0 (aa a).1) (ac h)=0→dy a at_ (iH at_ 0 (aa a).1)∧1≤ac h∧ac h≤iH at_ 0 (aa a).1∧af h=0):=by
 obtain ⟨_,hal,hsp⟩:=xD hz
 have hF:eo a at_ h=if af h≠0 then ([],af h) else if h.2.2.2=true then ([],3) else if (au a).2.2≠0 then ([],(au a).2.2)
  else if (bw (aa a).1 at_ true).2=false then ([],5) else if ac (bw (aa a).1 at_ true).1.2<ac h then ([],7)
  else (aR ((dA a at_ (ac (bw (aa a).1 at_ true).1.2) 0 (ac (bw (aa a).1 at_ true).1.2)).set at_.toNat (a6 h)) (at_+ac h) (ac (bw (aa a).1 at_ true).1.2 - ac h),0):=rfl
 rw [hF];by_cases h1:af h=0
 ·rw [if_neg (by omega)];have hz1:=bj h1;have hn:ac h=1+h.1+h.2.1:=rfl;cases h2:h.2.2.2
  ·have e0:sg h=0:=by unfold sg; rw [h2,if_neg (by simp),h1]
   rw [e0,if_neg (by simp),if_neg (by omega)];cases h3:(bw (aa a).1 at_ true).2
   ·rw [Br at_ _ 0 (Cv h3),if_pos rfl];have e1:fL 0 0 (ac h)=5:=rfl;rw [e1,if_pos (by omega)];exact ⟨rfl,fun h=>by omega⟩
   ·obtain ⟨q1,q2,q3⟩:=uw (aa a).1 at_ true h3;rw [tj _ 0 _ (cp a) q1 q2 q3,if_neg (by simp)];obtain ⟨hin,hh⟩:=hsp _ q1;have hz2:=bj hh;have hL:ac (bw (aa a).1 at_ true).1.2=1+(bw (aa a).1 at_ true).1.2.1+(bw (aa a).1 at_ true).1.2.2.1:=rfl;unfold cm at hin;rw [q2] at hin;generalize ac (bw (aa a).1 at_ true).1.2=L at *;by_cases h4:L<ac h
    ·have e1:fL 0 L (ac h)=7:=by unfold fL; rw [if_neg (by omega),if_neg (by omega),if_pos h4]
     rw [e1,if_pos h4,if_pos (by omega)];exact ⟨rfl,fun h=>by omega⟩
    ·have e1:fL 0 L (ac h)=0:=by unfold fL; rw [if_neg (by omega),if_neg (by omega),if_neg h4]
     rw [e1,if_neg h4,if_neg (by omega)];exact ⟨rfl,fun _=>⟨⟨by omega,by omega,by omega,hal⟩,by omega,by omega,h1⟩⟩
  ·have e0:sg h=3:=by unfold sg; rw [h2,if_pos ⟨h1,rfl⟩]
   rw [e0,if_pos rfl];have e1:∀ r,fL 3 r (ac h)=3:=fun _=>rfl
   rw [e1,if_pos (by omega)];exact ⟨rfl,fun h=>by omega⟩
 ·have e0:sg h=af h:=by unfold sg; rw [if_neg (fun e=>h1 e.1)]
  have e1:∀ r,fL (af h) r (ac h)=af h:=fun _=>by unfold fL; rw [if_pos h1]
  rw [e0,if_pos h1,e1,if_pos h1];exact ⟨rfl,fun h=>absurd h h1⟩
end
section
open Go
set_option maxRecDepth 100000
set_option maxHeartbeats 1000000
def aG (l:List aD) (at_:Int):Int:=ac (aj at_ l).1
def am (a keep pinned:List Int):List Int×Int :=
 if (au a).2.2≠0 then ([],(au a).2.2) else if (bA keep&&bA pinned)=false then ([],3)
 else if (keep.all (isB (aa a).1))=false then ([],5) else if (pinned.all (cP keep))=false then ([],5) else (keep.map (aG (aa a).1),0)
theorem Jo {l:List aD} (hs:l.Pairwise (fun s t=>s.1<t.1)) (at_:Int) :
  (ai (fun s:aD=>decide (s.1=at_)&&!s.2.2.2.2) 0 l<0→isB l at_=false) ∧
  (¬ ai (fun s:aD=>decide (s.1=at_)&&!s.2.2.2.2) 0 l<0→isB l at_=true∧ai (fun s:aD=>decide (s.1=at_)&&!s.2.2.2.2) 0 l<(l.length:Int) ∧
   (l.getD (ai (fun s:aD=>decide (s.1=at_)&&!s.2.2.2.2) 0 l).toNat (0,0,0,0,false)).2=(aj at_ l).1∧l.getD (ai (fun s:aD=>decide (s.1=at_)&&!s.2.2.2.2) 0 l).toNat (0,0,0,0,false)∈l):=by
 have hf:(fun s:aD=>decide (s.1=at_)&&!s.2.2.2.2)=(fun s:aD=>decide (s.1=at_)&&s.2.2.2.2 == false):=by
  funext s;cases s.2.2.2.2 <;> rfl
 obtain ⟨k1,k2⟩:=zC hs at_;have hlt:=dq (fun s:aD=>decide (s.1=at_)&&s.2.2.2.2 == false) (0,0,0,0,false) l 0 (by omega);rw [hf];unfold isB;refine ⟨fun h=>?_,fun h=>?_⟩
 ·rw [k1];unfold bw;rw [if_pos h]
 ·have e:bw l at_ false=(l.getD (ai (fun s:aD=>decide (s.1=at_)&&s.2.2.2.2 == false) 0 l).toNat (0,0,0,0,false),true):=by
   unfold bw;rw [if_neg h]
  have k3:=k2 (by rw [e]);rw [k1,k3,e];exact ⟨rfl,by omega,rfl,aI _ (by omega) (by omega)⟩
def GL:Spec:={ Ts:=[ch,.ref ty_I],Rs:=[.dat .bool],pre:=fun _=>True,F:=fun ((s,at_):aD×Int)=>decide (s.1=at_)&&!s.2.2.2.2 }
def xd:Prop :=
  ∀ (x:(Int×Int×Int×Int×Bool)×Int),(ak .i64 x.1.1∧ak .i64 x.1.2.1∧ak .i64 x.1.2.2.1∧ak .i64 x.1.2.2.2.1∧True)∧ak .i64 x.2→True→(decide (x.1.1=x.2)&&!x.1.2.2.2.2)=(decide (x.1.1=x.2)&&!x.1.2.2.2.2)∧True
theorem Dt:xd:=by
 unfold xd;intro ⟨s,at_⟩ _ _;simp
theorem Hj:GL.ok Tryz.prog 185:=aF (ann:=cw) aq Tryz.func185 (by kernel_rfl) Dt
def DW:Spec:={ Ts:=[ty_I,.ref (.arr ty_I)],Rs:=[.dat .bool],pre:=fun _=>True,F:=fun ((at_,keep):Int×List Int)=>!cP keep at_ }
def tF:Prop :=
  ∀ (x:Int×List Int),(ak .i64 x.1∧x.2.length * 8≤aA∧∀ (x_1:Int),x_1∈x.2→ak .i64 x_1)→True→True∧(!cP x.2 x.1)=!cP x.2 x.1∧True
theorem Az:tF:=by
 unfold tF;intro _ _ _;exact ⟨trivial,rfl,trivial⟩
theorem Ek:DW.ok Tryz.prog 186:=aF (ann:=cw) (ae zr aq) Tryz.func186 (by kernel_rfl) Az
def Kd:Nat→Option LoopGen
 | 9=>some { rd:=[.own 9 124 ch,.dat 35 (.arr ty_I)],A:=fun ((l,keep):List aD×List Int)=>{ cs:=[.own 11 3 ty_I,.dat 37 ty_I],inv:=fun ((out,i):List Int×Int)=>0≤i∧i≤keep.length∧(keep.drop i.toNat).all (isB l)=keep.all (isB l)∧out=(keep.take i.toNat).map (aG l),mu:=fun ((_,i):List Int×Int)=>(keep.length - i).toNat } }
 | _=>none
def Iz:Spec:={ Ts:=[.arr bb,.arr ty_I,.arr ty_I],Rs:=[.own 3 ty_I,.dat ty_I],pre:=fun _=>True,F:=fun ((a,keep,pinned):List Int×List Int×List Int)=>am a keep pinned }
def BJ:Prop :=
  ∀ (x:List Int×List Int×List Int),((x.1.length * 8≤aA∧∀ (x_1:Int),x_1∈x.1→ak .u64 x_1)∧(x.2.1.length * 8≤aA∧∀ (x_1:Int),x_1∈x.2.1→ak .i64 x_1)∧x.2.2.length * 8≤aA∧∀ (x_1:Int),x_1∈x.2.2→ak .i64 x_1)→True→True∧(decide ((au x.1).2.2≠0)=true→([]:List Int)=(am x.1 x.2.1 x.2.2).1∧(au x.1).2.2=(am x.1 x.2.1 x.2.2).2∧True)∧(decide ((au x.1).2.2≠0)=false→True∧((!bA x.2.1)=false→True)∧((!bA x.2.1||!bA x.2.2)=true→([]:List Int)=(am x.1 x.2.1 x.2.2).1∧3=(am x.1 x.2.1 x.2.2).2∧True)∧((!bA x.2.1||!bA x.2.2)=false→True∧((0:Int)≤0∧0≤(↑x.2.1.length:Int)∧(List.drop (Int.toNat 0) x.2.1).all (isB (aa x.1).1)=x.2.1.all (isB (aa x.1).1)∧([]:List Int)=List.map (aG (aa x.1).1) (List.take (Int.toNat 0) x.2.1))∧∀ (x_1:List Int×Int),0≤x_1.2∧x_1.2≤(↑x.2.1.length:Int)∧(List.drop x_1.2.toNat x.2.1).all (isB (aa x.1).1)=x.2.1.all (isB (aa x.1).1)∧x_1.1=List.map (aG (aa x.1).1) (List.take x_1.2.toNat x.2.1)→(decide (x_1.2<(↑x.2.1.length:Int))=true→0≤x_1.2∧x_1.2<(↑x.2.1.length:Int)∧(∀ (s:aD),s∈(aa x.1).1→(fun (_:Int×Int×Int×Int×Bool)=>True,fun (x_2:Int×Int×Int×Int×Bool)=>decide (x_2.1=x.2.1.getD x_1.2.toNat 0)&&!x_2.2.2.2.2).1 s)∧(decide (ai (fun (x_2:Int×Int×Int×Int×Bool)=>decide (x_2.1=x.2.1.getD x_1.2.toNat 0)&&!x_2.2.2.2.2) 0 (aa x.1).1<0)=true→([]:List Int)=(am x.1 x.2.1 x.2.2).1∧5=(am x.1 x.2.1 x.2.2).2∧True)∧(decide (ai (fun (x_2:Int×Int×Int×Int×Bool)=>decide (x_2.1=x.2.1.getD x_1.2.toNat 0)&&!x_2.2.2.2.2) 0 (aa x.1).1<0)=false→0≤ai (fun (x_2:Int×Int×Int×Int×Bool)=>decide (x_2.1=x.2.1.getD x_1.2.toNat 0)&&!x_2.2.2.2.2) 0 (aa x.1).1∧ai (fun (x_2:Int×Int×Int×Int×Bool)=>decide (x_2.1=x.2.1.getD x_1.2.toNat 0)&&!x_2.2.2.2.2) 0 (aa x.1).1<(↑(aa x.1).1.length:Int)∧(ai (fun (x_2:Int×Int×Int×Int×Bool)=>decide (x_2.1=x.2.1.getD x_1.2.toNat 0)&&!x_2.2.2.2.2) 0 (aa x.1).1).toNat<(aa x.1).1.length∧True∧(x_1.1.length+[if af ((aa x.1).1.getD (ai (fun (x_2:Int×Int×Int×Int×Bool)=>decide (x_2.1=x.2.1.getD x_1.2.toNat 0)&&!x_2.2.2.2.2) 0 (aa x.1).1).toNat (0,0,0,0,false)).2=0 then ac ((aa x.1).1.getD (ai (fun (x_2:Int×Int×Int×Int×Bool)=>decide (x_2.1=x.2.1.getD x_1.2.toNat 0)&&!x_2.2.2.2.2) 0 (aa x.1).1).toNat (0,0,0,0,false)).2 else (0:Int)].length) * 8≤aA∧ak .i64 (x_1.2+1)∧(0≤x_1.2+1∧x_1.2+1≤(↑x.2.1.length:Int)∧(List.drop (x_1.2+1).toNat x.2.1).all (isB (aa x.1).1)=x.2.1.all (isB (aa x.1).1)∧x_1.1++[if af ((aa x.1).1.getD (ai (fun (x_2:Int×Int×Int×Int×Bool)=>decide (x_2.1=x.2.1.getD x_1.2.toNat 0)&&!x_2.2.2.2.2) 0 (aa x.1).1).toNat (0,0,0,0,false)).2=0 then ac ((aa x.1).1.getD (ai (fun (x_2:Int×Int×Int×Int×Bool)=>decide (x_2.1=x.2.1.getD x_1.2.toNat 0)&&!x_2.2.2.2.2) 0 (aa x.1).1).toNat (0,0,0,0,false)).2 else (0:Int)]=List.map (aG (aa x.1).1) (List.take (x_1.2+1).toNat x.2.1))∧((↑x.2.1.length:Int) - (x_1.2+1)).toNat<((↑x.2.1.length:Int) - x_1.2).toNat))∧(decide (x_1.2<(↑x.2.1.length:Int))=false→(∀ (s:Int),s∈x.2.2→(fun (_:Int)=>True,fun (x_2:Int)=>!cP x.2.1 x_2).1 s)∧((x.2.2.any fun (x_2:Int)=>!cP x.2.1 x_2)=true→([]:List Int)=(am x.1 x.2.1 x.2.2).1∧5=(am x.1 x.2.1 x.2.2).2∧True)∧((x.2.2.any fun (x_2:Int)=>!cP x.2.1 x_2)=false→x_1.1=(am x.1 x.2.1 x.2.2).1∧0=(am x.1 x.2.1 x.2.2).2∧True))))
theorem Gd:BJ:=by
 unfold BJ;intro ⟨a,keep,pinned⟩ ⟨_,⟨hb,_⟩,_⟩ _;unfold aA at hb;simp only at hb ⊢
 have hF:am a keep pinned=if (au a).2.2≠0 then ([],(au a).2.2) else if (bA keep&&bA pinned)=false then ([],3)
  else if (keep.all (isB (aa a).1))=false then ([],5) else if (pinned.all (cP keep))=false then ([],5) else (keep.map (aG (aa a).1),0):=rfl
 rw [hF];refine ⟨trivial,fun hc=>?_,fun hc=>⟨trivial,fun _=>trivial,fun hr=>?_,fun hr=>⟨trivial,⟨by omega,by omega,rfl,rfl⟩,fun ⟨out,i⟩ ⟨h0,h1,h2,h3⟩=>⟨fun hlt=>?_,fun hge=>?_⟩⟩⟩⟩
 ·rw [if_pos (of_decide_eq_true hc)];exact ⟨rfl,rfl,trivial⟩
 ·rw [if_neg (of_decide_eq_false hc),if_pos (by revert hr; cases bA keep <;> cases bA pinned <;> simp)];exact ⟨rfl,rfl,trivial⟩
 ·have hlt:i<(keep.length:Int):=of_decide_eq_true hlt;simp only at h0 h1 h2 h3 ⊢;rw [if_neg (of_decide_eq_false hc),if_neg (by revert hr; cases bA keep <;> cases bA pinned <;> simp)];rw [aW (0:Int) h0 hlt,List.all_cons] at h2;have hts:=bo (0:Int) h0 hlt;obtain ⟨f1,f2⟩:=Jo (cp a) (keep.getD i.toNat 0);rw [hts];generalize keep.getD i.toNat 0=at_ at *;refine ⟨h0,hlt,fun _ _=>trivial,fun hn=>?_,fun hn=>?_⟩
  ·rw [f1 (of_decide_eq_true hn),Bool.false_and] at h2;rw [if_pos h2.symm];exact ⟨rfl,rfl,trivial⟩
  ·obtain ⟨g1,g2,g3,g4⟩:=f2 (of_decide_eq_false hn);have hn:¬ ai (fun s:aD=>decide (s.1=at_)&&!s.2.2.2.2) 0 (aa a).1<0:=of_decide_eq_false hn;rw [g1,Bool.true_and] at h2;have hh:=(dw a _ g4).2.2;rw [g3] at hh ⊢;rw [if_pos hh];have hl:out.length=i.toNat:=by rw [h3,List.length_map,List.length_take]; omega
   unfold aA;simp only [ak,List.length_cons,List.length_nil];refine ⟨Int.not_lt.1 hn,g2,(Int.toNat_lt (Int.not_lt.1 hn)).2 g2,trivial,by omega,by omega,⟨by omega,by omega,h2,?_⟩,by omega⟩;rw [List.map_append,← h3];rfl
 ·have hge:¬ i<(keep.length:Int):=of_decide_eq_false hge;simp only at h2 h3 ⊢;rw [bt hge,List.all_nil] at h2;rw [bF hge] at h3;rw [if_neg (of_decide_eq_false hc),if_neg (by revert hr; cases bA keep <;> cases bA pinned <;> simp),if_neg (by rw [← h2]; simp)];have e:(pinned.any fun at_=>!cP keep at_)=!(pinned.all (cP keep)):=by rw [List.not_all_eq_any_not]
  refine ⟨fun _ _=>trivial,fun hp=>?_,fun hp=>?_⟩
  ·rw [e] at hp;rw [if_pos (by simpa using hp)];exact ⟨rfl,rfl,trivial⟩
  ·rw [e] at hp;rw [if_neg (by simpa using hp)];exact ⟨h3,rfl,trivial⟩
theorem B3:Iz.ok Tryz.prog 175:=aF (ann:=Kd) (ae iN (ae I3 (ae iM (ae nB (ae Hj (ae iO (ae zu (ae Ek aq)))))))) Tryz.func175 (by kernel_rfl) Gd
def a8 (pinned keep long:List Int):Nat→Int
 | 0=>0
 | i+1=>(if cP pinned (keep.getD i 0)=true then keep.getD i 0 else a8 pinned keep long i)+long.getD i 0
def cT (pinned keep long:List Int) (i:Nat):Int:=if cP pinned (keep.getD i 0)=true then keep.getD i 0 else a8 pinned keep long i
def ar (keep long pinned:List Int):List Int:=(List.range keep.length).map (cT pinned keep long)
def dD (keep long:List Int):Prop:=long.length=keep.length∧keep.length≤256∧(∀ x∈keep,0≤x∧x≤255)∧∀ n∈long,1≤n∧n≤256
theorem cg {keep long:List Int} (pinned:List Int) (h:dD keep long):∀ i:Nat,i≤keep.length→0≤a8 pinned keep long i∧a8 pinned keep long i≤512 * i
 | 0,_=>by simp [a8]
 | i+1,hi=>by
  have ih:=cg pinned h i (by omega);obtain ⟨h1,h2,h3,h4⟩:=h;have k1:=h3 _ (aI (0:Int) (xs:=keep) (i:=i) (by omega) (by omega));have k2:=h4 _ (aI (0:Int) (xs:=long) (i:=i) (by omega) (by omega));simp only [Int.toNat_natCast] at k1 k2;simp only [a8];split <;> omega
theorem kh {keep long:List Int} (pinned:List Int) (h:dD keep long) {i:Nat} (hi:i<keep.length):0≤cT pinned keep long i∧cT pinned keep long i≤512 * i+255:=by
 have h0:=cg pinned h i (by omega);have k1:=h.2.2.1 _ (aI (0:Int) (xs:=keep) (i:=i) (by omega) (by omega));simp only [Int.toNat_natCast] at k1;unfold cT;split <;> omega
def K9:Nat→Option LoopGen
 | 4=>some { rd:=[.dat 11 (.arr ty_I),.dat 1 (.arr ty_I),.dat 2 (.arr ty_I)],A:=fun ((keep,long,pinned):List Int×List Int×List Int)=>{ cs:=[.own 7 3 ty_I,.dat 8 ty_I,.dat 13 ty_I],inv:=fun ((out,e,i):List Int×Int×Int)=>0≤i∧i≤keep.length∧out=(List.range i.toNat).map (cT pinned keep long)∧e=a8 pinned keep long i.toNat,mu:=fun ((_,_,i):List Int×Int×Int)=>(keep.length - i).toNat } }
 | _=>none
def Ks:Spec:={ Ts:=[.arr ty_I,.arr ty_I,.arr ty_I],Rs:=[.own 3 ty_I],pre:=fun ((keep,long,_):List Int×List Int×List Int)=>dD keep long,F:=fun ((keep,long,pinned):List Int×List Int×List Int)=>ar keep long pinned }
def Ff:Prop :=
  ∀ (x:List Int×List Int×List Int),((x.1.length * 8≤aA∧∀ (x_1:Int),x_1∈x.1→ak .i64 x_1)∧(x.2.1.length * 8≤aA∧∀ (x_1:Int),x_1∈x.2.1→ak .i64 x_1)∧x.2.2.length * 8≤aA∧∀ (x_1:Int),x_1∈x.2.2→ak .i64 x_1)→dD x.1 x.2.1→((0:Int)≤0∧0≤(↑x.1.length:Int)∧([]:List Int)=List.map (cT x.2.2 x.1 x.2.1) (List.range (Int.toNat 0))∧0=a8 x.2.2 x.1 x.2.1 (Int.toNat 0))∧∀ (x_1:List Int×Int×Int),0≤x_1.2.2∧x_1.2.2≤(↑x.1.length:Int)∧x_1.1=List.map (cT x.2.2 x.1 x.2.1) (List.range x_1.2.2.toNat)∧x_1.2.1=a8 x.2.2 x.1 x.2.1 x_1.2.2.toNat→(decide (x_1.2.2<(↑x.1.length:Int))=true→0≤x_1.2.2∧x_1.2.2<(↑x.1.length:Int)∧True∧((!cP x.2.2 (x.1.getD x_1.2.2.toNat 0))=true→(x_1.1.length+[x_1.2.1].length) * 8≤aA∧0≤x_1.2.2∧x_1.2.2<(↑x.2.1.length:Int)∧ak .i64 (x_1.2.1+x.2.1.getD x_1.2.2.toNat 0)∧ak .i64 (x_1.2.2+1)∧(0≤x_1.2.2+1∧x_1.2.2+1≤(↑x.1.length:Int)∧x_1.1++[x_1.2.1]=List.map (cT x.2.2 x.1 x.2.1) (List.range (x_1.2.2+1).toNat)∧x_1.2.1+x.2.1.getD x_1.2.2.toNat 0=a8 x.2.2 x.1 x.2.1 (x_1.2.2+1).toNat)∧((↑x.1.length:Int) - (x_1.2.2+1)).toNat<((↑x.1.length:Int) - x_1.2.2).toNat)∧((!cP x.2.2 (x.1.getD x_1.2.2.toNat 0))=false→(x_1.1.length+[x.1.getD x_1.2.2.toNat 0].length) * 8≤aA∧0≤x_1.2.2∧x_1.2.2<(↑x.2.1.length:Int)∧ak .i64 (x.1.getD x_1.2.2.toNat 0+x.2.1.getD x_1.2.2.toNat 0)∧ak .i64 (x_1.2.2+1)∧(0≤x_1.2.2+1∧x_1.2.2+1≤(↑x.1.length:Int)∧x_1.1++[x.1.getD x_1.2.2.toNat 0]=List.map (cT x.2.2 x.1 x.2.1) (List.range (x_1.2.2+1).toNat)∧x.1.getD x_1.2.2.toNat 0+x.2.1.getD x_1.2.2.toNat 0=a8 x.2.2 x.1 x.2.1 (x_1.2.2+1).toNat)∧((↑x.1.length:Int) - (x_1.2.2+1)).toNat<((↑x.1.length:Int) - x_1.2.2).toNat))∧(decide (x_1.2.2<(↑x.1.length:Int))=false→x_1.1=ar x.1 x.2.1 x.2.2∧True)
theorem H2:Ff:=by
 unfold Ff;intro ⟨keep,long,pinned⟩ _ hp;have hp':=hp;obtain ⟨p1,p2,p3,p4⟩:=hp';simp only at p1 p2 p3 p4 hp ⊢;refine ⟨⟨by omega,by omega,rfl,rfl⟩,fun ⟨out,e,i⟩ ⟨h0,h1,h2,h3⟩=>⟨fun hlt=>?_,fun hge=>?_⟩⟩
 ·have hlt':i<(keep.length:Int):=of_decide_eq_true hlt;simp only at h0 h1 h2 h3 ⊢;have ht:=kh pinned hp (i:=i.toNat) (by omega);have he:=cg pinned hp (i.toNat+1) (by omega);have k1:=p3 _ (aI (0:Int) h0 hlt');have k2:=p4 _ (aI (0:Int) (xs:=long) h0 (by omega))
  have hs:out++[cT pinned keep long i.toNat]=(List.range (i+1).toNat).map (cT pinned keep long):=by
   rw [show (i+1).toNat=i.toNat+1 by omega,List.range_succ,List.map_append,← h2];rfl
  have hE:a8 pinned keep long (i+1).toNat=cT pinned keep long i.toNat+long.getD i.toNat 0:=by
   rw [show (i+1).toNat=i.toNat+1 by omega];rfl
  have hl:out.length=i.toNat:=by rw [h2]; simp
  rw [hE,← hs];subst h3;unfold aA;simp only [ak,List.length_cons,List.length_nil];have hT:cT pinned keep long i.toNat=if cP pinned (keep.getD i.toNat 0)=true then keep.getD i.toNat 0 else a8 pinned keep long i.toNat:=rfl
  have hE':a8 pinned keep long (i.toNat+1)=cT pinned keep long i.toNat+long.getD i.toNat 0:=rfl;rw [hE'] at he;refine ⟨h0,hlt',trivial,fun hc=>?_,fun hc=>?_⟩
  ·have hc:cP pinned (keep.getD i.toNat 0)=false:=by simpa using hc
   rw [if_neg (by rw [hc]; simp)] at hT;rw [hT] at he ⊢;exact ⟨by omega,h0,by omega,by omega,by omega,⟨by omega,by omega,rfl,rfl⟩,by omega⟩
  ·have hc:cP pinned (keep.getD i.toNat 0)=true:=by simpa using hc
   rw [if_pos hc] at hT;rw [hT] at he ⊢;exact ⟨by omega,h0,by omega,by omega,by omega,⟨by omega,by omega,rfl,rfl⟩,by omega⟩
 ·have hge:¬ i<(keep.length:Int):=of_decide_eq_false hge;simp only at h0 h1 h2;rw [h2,show i.toNat=keep.length by omega];exact ⟨rfl,trivial⟩
theorem Fx:Ks.ok Tryz.prog 176:=aF (ann:=K9) (ae zr aq) Tryz.func176 (by kernel_rfl) H2
def GJ:Spec:={ Ts:=[.arr bb,.arr ty_I,.arr ty_I],Rs:=[.own 3 ty_I,.dat ty_I],pre:=fun _=>True,F:=fun ((a,keep,pinned):List Int×List Int×List Int)=>((if (am a keep pinned).2≠0 then [] else ar keep (am a keep pinned).1 pinned,(am a keep pinned).2):List Int×Int) }
theorem gi:∀ {l:List Int},bA l=true→l.Pairwise (·<·)
 | [],_=>List.Pairwise.nil
 | [x],_=>by simp
 | x::y::l,h=>by
  simp only [bA,Bool.and_eq_true,decide_eq_true_eq] at h;have ih:=gi h.2;refine List.pairwise_cons.2 ⟨fun z hz=>?_,ih⟩;rcases List.mem_cons.1 hz with rfl | hz
  ·exact h.1
  ·have:=(List.pairwise_cons.1 ih).1 z hz;omega
theorem iB:∀ {l:List Int} {s:Int},l.Pairwise (·<·)→(∀ x∈l,s≤x∧x≤255)→s≤256→(l.length:Int)≤256 - s
 | [],s,_,_,h=>by simp; omega
 | x::l,s,hp,hr,_=>by
  obtain ⟨h1,h2⟩:=List.pairwise_cons.1 hp;have h3:=hr x (by simp);have ih:=iB (s:=x+1) h2 (fun y hy=>by have:=h1 y hy; have:=hr y (by simp [hy]); omega) (by omega);simp only [List.length_cons];omega
theorem ul {a:List Int} {at_:Int} (h:isB (aa a).1 at_=true):∃ s∈(aa a).1,s.1=at_∧s.2.2.2.2=false∧aG (aa a).1 at_=ac s.2:=by
 unfold isB aG at *;rcases gn at_ (aa a).1 with e | ⟨s,h1,h2,h3,e⟩
 ·rw [e] at h; cases h
 ·exact ⟨s,h1,h2,h3,by rw [e]⟩
theorem lM {a keep pinned:List Int} (h:(am a keep pinned).2=0):(au a).2.2=0∧bA keep=true∧bA pinned=true∧(∀ x∈keep,isB (aa a).1 x=true)∧(∀ x∈pinned,cP keep x=true)∧(am a keep pinned).1=keep.map (aG (aa a).1):=by
 unfold am at *;by_cases h1:(au a).2.2≠0
 ·rw [if_pos h1] at h; exact absurd h h1
 rw [if_neg h1] at h ⊢;by_cases h2:(bA keep&&bA pinned)=false
 ·rw [if_pos h2] at h; simp at h
 rw [if_neg h2] at h ⊢;by_cases h3:(keep.all (isB (aa a).1))=false
 ·rw [if_pos h3] at h; simp at h
 rw [if_neg h3] at h ⊢;by_cases h4:(pinned.all (cP keep))=false
 ·rw [if_pos h4] at h; simp at h
 rw [if_neg h4];have h2:bA keep=true∧bA pinned=true:=by simpa using h2
 have h3:keep.all (isB (aa a).1)=true:=by simpa using h3
 have h4:pinned.all (cP keep)=true:=by simpa using h4
 exact ⟨by omega,h2.1,h2.2,fun x hx=>List.all_eq_true.1 h3 x hx,fun x hx=>List.all_eq_true.1 h4 x hx,rfl⟩
theorem mC {a keep pinned:List Int} (h:(am a keep pinned).2=0):dD keep (am a keep pinned).1:=by
 obtain ⟨_,h2,_,h4,_,h6⟩:=lM h
 have hr:∀ x∈keep,0≤x∧x≤255:=fun x hx=>by
  obtain ⟨s,h1,h2,_⟩:=ul (h4 x hx);have:=gv s h1;omega
 have hl:=iB (gi h2) hr (by omega);refine ⟨by rw [h6]; simp,by omega,hr,fun n hn=>?_⟩;rw [h6] at hn;obtain ⟨x,hx,rfl⟩:=List.mem_map.1 hn;obtain ⟨s,h1,_,_,e⟩:=ul (h4 x hx);have hz:=bj (dw a s h1).2.2;rw [e];unfold ac;omega
def xb:Prop :=
  ∀ (x:List Int×List Int×List Int),((x.1.length * 8≤aA∧∀ (x_1:Int),x_1∈x.1→ak .u64 x_1)∧(x.2.1.length * 8≤aA∧∀ (x_1:Int),x_1∈x.2.1→ak .i64 x_1)∧x.2.2.length * 8≤aA∧∀ (x_1:Int),x_1∈x.2.2→ak .i64 x_1)→True→True∧(decide ((am x.1 x.2.1 x.2.2).2≠0)=true→(([]:List Int)=if (am x.1 x.2.1 x.2.2).2≠0 then ([]:List Int) else ar x.2.1 (am x.1 x.2.1 x.2.2).1 x.2.2)∧(am x.1 x.2.1 x.2.2).2=(am x.1 x.2.1 x.2.2).2∧True)∧(decide ((am x.1 x.2.1 x.2.2).2≠0)=false→dD x.2.1 (am x.1 x.2.1 x.2.2).1∧(ar x.2.1 (am x.1 x.2.1 x.2.2).1 x.2.2=if (am x.1 x.2.1 x.2.2).2≠0 then ([]:List Int) else ar x.2.1 (am x.1 x.2.1 x.2.2).1 x.2.2)∧0=(am x.1 x.2.1 x.2.2).2∧True)
theorem Dr:xb:=by
 unfold xb;intro ⟨a,keep,pinned⟩ _ _;simp only;refine ⟨trivial,fun hc=>?_,fun hc=>?_⟩
 ·rw [if_pos (of_decide_eq_true hc)];exact ⟨rfl,trivial,trivial⟩
 ·have hz:(am a keep pinned).2=0:=by simpa using of_decide_eq_false hc
  rw [if_neg (by omega)];exact ⟨mC hz,rfl,hz.symm,trivial⟩
theorem Hh:GJ.ok Tryz.prog 159:=aF (ann:=cw) (ae B3 (ae Fx aq)) Tryz.func159 (by kernel_rfl) Dr
def eS (pinned keep long:List Int):Nat→List bY
 | 0=>[]
 | i+1=>eS pinned keep long i++(if a8 pinned keep long i<cT pinned keep long i then [(a8 pinned keep long i,cT pinned keep long i - a8 pinned keep long i)] else [])
theorem im (pinned keep long:List Int):∀ i,(eS pinned keep long i).length≤i
 | 0=>by simp [eS]
 | i+1=>by
  have:=im pinned keep long i;simp only [eS,List.length_append];split <;> simp <;> omega
def bV (n:Int) (keep long pinned:List Int):List bY:=eS pinned keep long keep.length++(if a8 pinned keep long keep.length<n then [(a8 pinned keep long keep.length,n - a8 pinned keep long keep.length)] else [])
def bp (a keep pinned:List Int):List bY×Int:=(if (am a keep pinned).2≠0 then [] else bV a.length keep (am a keep pinned).1 pinned,(am a keep pinned).2)
def CW:Nat→Option LoopGen
 | 3000177=>some eM
 | 8=>some { rd:=[.own 8 3 ty_I,.own 29 3 ty_I,.dat 1 (.arr ty_I),.dat 2 (.arr ty_I)],A:=fun ((long,to,keep,pinned):List Int×List Int×List Int×List Int)=>{ cs:=[.boxS 10 [.own 129 fw],.box 11 ty_I,.dat 31 ty_I],inv:=fun ((out,e,i):List bY×Int×Int)=>0≤i∧i≤keep.length∧to=ar keep long pinned∧out=eS pinned keep long i.toNat∧e=a8 pinned keep long i.toNat,mu:=fun ((_,_,i):List bY×Int×Int)=>(keep.length - i).toNat } }
 | _=>none
def A1:Spec:={ Ts:=[.arr bb,.arr ty_I,.arr ty_I],Rs:=[.own 129 fw,.dat ty_I],pre:=fun _=>True,F:=fun ((a,keep,pinned):List Int×List Int×List Int)=>bp a keep pinned }
def qX:Prop :=
  ∀ (x:List Int×List Int×List Int),((x.1.length * 8≤aA∧∀ (x_1:Int),x_1∈x.1→ak .u64 x_1)∧(x.2.1.length * 8≤aA∧∀ (x_1:Int),x_1∈x.2.1→ak .i64 x_1)∧x.2.2.length * 8≤aA∧∀ (x_1:Int),x_1∈x.2.2→ak .i64 x_1)→True→True∧(decide ((am x.1 x.2.1 x.2.2).2≠0)=true→([]:List (Int×Int))=(bp x.1 x.2.1 x.2.2).1∧(am x.1 x.2.1 x.2.2).2=(bp x.1 x.2.1 x.2.2).2∧True)∧(decide ((am x.1 x.2.1 x.2.2).2≠0)=false→dD x.2.1 (am x.1 x.2.1 x.2.2).1∧((0:Int)≤0∧0≤(↑x.2.1.length:Int)∧ar x.2.1 (am x.1 x.2.1 x.2.2).1 x.2.2=ar x.2.1 (am x.1 x.2.1 x.2.2).1 x.2.2∧([]:List (Int×Int))=eS x.2.2 x.2.1 (am x.1 x.2.1 x.2.2).1 (Int.toNat 0)∧0=a8 x.2.2 x.2.1 (am x.1 x.2.1 x.2.2).1 (Int.toNat 0))∧∀ (x_1:List (Int×Int)×Int×Int),0≤x_1.2.2∧x_1.2.2≤(↑x.2.1.length:Int)∧ar x.2.1 (am x.1 x.2.1 x.2.2).1 x.2.2=ar x.2.1 (am x.1 x.2.1 x.2.2).1 x.2.2∧x_1.1=eS x.2.2 x.2.1 (am x.1 x.2.1 x.2.2).1 x_1.2.2.toNat∧x_1.2.1=a8 x.2.2 x.2.1 (am x.1 x.2.1 x.2.2).1 x_1.2.2.toNat→(decide (x_1.2.2<(↑(ar x.2.1 (am x.1 x.2.1 x.2.2).1 x.2.2).length:Int))=true→0≤x_1.2.2∧x_1.2.2<(↑(ar x.2.1 (am x.1 x.2.1 x.2.2).1 x.2.2).length:Int)∧x_1.2.2.toNat<(ar x.2.1 (am x.1 x.2.1 x.2.2).1 x.2.2).length∧∀ (_:Array Value),(decide (x_1.2.1<(ar x.2.1 (am x.1 x.2.1 x.2.2).1 x.2.2).getD x_1.2.2.toNat 0)=true→ak .i64 ((ar x.2.1 (am x.1 x.2.1 x.2.2).1 x.2.2).getD x_1.2.2.toNat 0 - x_1.2.1)∧(x_1.1.length+[(x_1.2.1,(ar x.2.1 (am x.1 x.2.1 x.2.2).1 x.2.2).getD x_1.2.2.toNat 0 - x_1.2.1)].length) * (8+8)≤aA∧0≤x_1.2.2∧x_1.2.2<(↑(am x.1 x.2.1 x.2.2).1.length:Int)∧x_1.2.2.toNat<(am x.1 x.2.1 x.2.2).1.length∧ak .i64 ((ar x.2.1 (am x.1 x.2.1 x.2.2).1 x.2.2).getD x_1.2.2.toNat 0+(am x.1 x.2.1 x.2.2).1.getD x_1.2.2.toNat 0)∧ak .i64 (x_1.2.2+1)∧(0≤x_1.2.2+1∧x_1.2.2+1≤(↑x.2.1.length:Int)∧ar x.2.1 (am x.1 x.2.1 x.2.2).1 x.2.2=ar x.2.1 (am x.1 x.2.1 x.2.2).1 x.2.2∧x_1.1++[(x_1.2.1,(ar x.2.1 (am x.1 x.2.1 x.2.2).1 x.2.2).getD x_1.2.2.toNat 0 - x_1.2.1)]=eS x.2.2 x.2.1 (am x.1 x.2.1 x.2.2).1 (x_1.2.2+1).toNat∧(ar x.2.1 (am x.1 x.2.1 x.2.2).1 x.2.2).getD x_1.2.2.toNat 0+(am x.1 x.2.1 x.2.2).1.getD x_1.2.2.toNat 0=a8 x.2.2 x.2.1 (am x.1 x.2.1 x.2.2).1 (x_1.2.2+1).toNat)∧((↑x.2.1.length:Int) - (x_1.2.2+1)).toNat<((↑x.2.1.length:Int) - x_1.2.2).toNat)∧(decide (x_1.2.1<(ar x.2.1 (am x.1 x.2.1 x.2.2).1 x.2.2).getD x_1.2.2.toNat 0)=false→0≤x_1.2.2∧x_1.2.2<(↑(am x.1 x.2.1 x.2.2).1.length:Int)∧x_1.2.2.toNat<(am x.1 x.2.1 x.2.2).1.length∧ak .i64 ((ar x.2.1 (am x.1 x.2.1 x.2.2).1 x.2.2).getD x_1.2.2.toNat 0+(am x.1 x.2.1 x.2.2).1.getD x_1.2.2.toNat 0)∧ak .i64 (x_1.2.2+1)∧(0≤x_1.2.2+1∧x_1.2.2+1≤(↑x.2.1.length:Int)∧ar x.2.1 (am x.1 x.2.1 x.2.2).1 x.2.2=ar x.2.1 (am x.1 x.2.1 x.2.2).1 x.2.2∧x_1.1=eS x.2.2 x.2.1 (am x.1 x.2.1 x.2.2).1 (x_1.2.2+1).toNat∧(ar x.2.1 (am x.1 x.2.1 x.2.2).1 x.2.2).getD x_1.2.2.toNat 0+(am x.1 x.2.1 x.2.2).1.getD x_1.2.2.toNat 0=a8 x.2.2 x.2.1 (am x.1 x.2.1 x.2.2).1 (x_1.2.2+1).toNat)∧((↑x.2.1.length:Int) - (x_1.2.2+1)).toNat<((↑x.2.1.length:Int) - x_1.2.2).toNat))∧(decide (x_1.2.2<(↑(ar x.2.1 (am x.1 x.2.1 x.2.2).1 x.2.2).length:Int))=false→∀ (_:Array Value),(decide (x_1.2.1<(↑x.1.length:Int))=true→ak .i64 ((↑x.1.length:Int) - x_1.2.1)∧(x_1.1.length+[(x_1.2.1,(↑x.1.length:Int) - x_1.2.1)].length) * (8+8)≤aA∧x_1.1++[(x_1.2.1,(↑x.1.length:Int) - x_1.2.1)]=(bp x.1 x.2.1 x.2.2).1∧0=(bp x.1 x.2.1 x.2.2).2∧True)∧(decide (x_1.2.1<(↑x.1.length:Int))=false→x_1.1=(bp x.1 x.2.1 x.2.2).1∧0=(bp x.1 x.2.1 x.2.2).2∧True)))
theorem yc:qX:=by
 unfold qX;intro ⟨a,keep,pinned⟩ ⟨⟨ha,_⟩,_⟩ _;unfold aA at ha;simp only at ha ⊢;have hF:bp a keep pinned=(if (am a keep pinned).2≠0 then [] else bV a.length keep (am a keep pinned).1 pinned,(am a keep pinned).2):=rfl;rw [hF];refine ⟨trivial,fun hc=>?_,fun hc=>?_⟩
 ·rw [if_pos (of_decide_eq_true hc)];exact ⟨rfl,rfl,trivial⟩
 have hz:(am a keep pinned).2=0:=by simpa using of_decide_eq_false hc
 have hp:=mC hz;rw [if_neg (by omega),hz];generalize (am a keep pinned).1=long at *;have hlen:(ar keep long pinned).length=keep.length:=by simp [ar]
 have hp':=hp;obtain ⟨p1,p2,p3,p4⟩:=hp';rw [hlen];refine ⟨hp,⟨by omega,by omega,trivial,rfl,rfl⟩,fun ⟨out,e,i⟩ ⟨h0,h1,_,h2,h3⟩=>⟨fun hlt=>?_,fun hge=>?_⟩⟩
 ·have hlt':i<(keep.length:Int):=of_decide_eq_true hlt;simp only at h0 h1 h2 h3 ⊢;have ht:=kh pinned hp (i:=i.toNat) (by omega);have he:=cg pinned hp i.toNat (by omega);have he':=cg pinned hp (i.toNat+1) (by omega);have hE':a8 pinned keep long (i.toNat+1)=cT pinned keep long i.toNat+long.getD i.toNat 0:=rfl
  have hg:(ar keep long pinned).getD i.toNat 0=cT pinned keep long i.toNat:=by
   unfold ar;rw [List.getD_eq_getElem?_getD,List.getElem?_map,List.getElem?_range (by omega)];rfl
  have hl:=im pinned keep long i.toNat;rw [← h2] at hl;have hs:(i+1).toNat=i.toNat+1:=by omega
  have hG:eS pinned keep long (i.toNat+1)=out++(if a8 pinned keep long i.toNat<cT pinned keep long i.toNat then [(a8 pinned keep long i.toNat,cT pinned keep long i.toNat - a8 pinned keep long i.toNat)] else []):=by
   rw [h2];rfl
  rw [hg,hs,hG,hE',← h3];rw [hE'] at he';rw [← h3] at he;unfold aA;simp only [ak,List.length_cons,List.length_nil];refine ⟨h0,hlt',by omega,fun _=>⟨fun hc=>?_,fun hc=>?_⟩⟩
  ·rw [if_pos (of_decide_eq_true hc)];exact ⟨by omega,by omega,h0,by omega,by omega,by omega,by omega,⟨by omega,by omega,trivial,rfl,trivial⟩,by omega⟩
  ·rw [if_neg (of_decide_eq_false hc),List.append_nil];exact ⟨h0,by omega,by omega,by omega,by omega,⟨by omega,by omega,trivial,rfl,trivial⟩,by omega⟩
 ·have hge:¬ i<(keep.length:Int):=of_decide_eq_false hge;simp only at h0 h1 h2 h3 ⊢;have hi:i.toNat=keep.length:=by omega
  rw [hi] at h2 h3;have he:=cg pinned hp keep.length (by omega);have hl:=im pinned keep long keep.length
  have hP:bV a.length keep long pinned=out++(if a8 pinned keep long keep.length<a.length then [(a8 pinned keep long keep.length,a.length - a8 pinned keep long keep.length)] else []):=by
   rw [h2];rfl
  rw [← h2] at hl;rw [hP,← h3];rw [← h3] at he;unfold aA;simp only [ak,List.length_cons,List.length_nil];refine fun _=>⟨fun hc=>?_,fun hc=>?_⟩
  ·rw [if_pos (of_decide_eq_true hc)];exact ⟨by omega,by omega,rfl,trivial,trivial⟩
  ·rw [if_neg (of_decide_eq_false hc),List.append_nil];exact ⟨rfl,trivial,trivial⟩
theorem B0:A1.ok Tryz.prog 160:=aF (ann:=CW) (ae B3 (ae Fx aq)) Tryz.func160 (by kernel_rfl) yc
theorem xC (a:List Int) (at_:Int):af (aj at_ (aa a).1).1=0:=by
 rcases gn at_ (aa a).1 with e | ⟨s,h1,_,_,e⟩
 ·rw [e]; rfl
 ·rw [e]; exact (dw a s h1).2.2
def E1:Nat→Option LoopGen
 | 3=>some { rd:=[.dat 0 (.arr bb),.dat 13 (.arr ty_I),.dat 2 (.arr ty_I)],A:=fun ((a,keep,pinned):List Int×List Int×List Int)=>{ cs:=[.own 7 3 ty_I,.dat 15 ty_I],inv:=fun ((out,i):List Int×Int)=>0≤i∧i≤keep.length∧out=(List.range i.toNat).map (cT pinned keep (keep.map (aG (aa a).1))),mu:=fun ((_,i):List Int×Int)=>(keep.length - i).toNat } }
 | 9=>some { rd:=[.dat 0 (.arr bb),.dat 1 (.arr ty_I),.dat 2 (.arr ty_I),.dat 8 ty_I],A:=fun ((a,keep,pinned,i):List Int×List Int×List Int×Int)=>{ cs:=[.dat 9 ty_I,.dat 10 ty_I],inv:=fun ((s,k):Int×Int)=>-1≤k∧k<i∧0≤s∧s+a8 pinned keep (keep.map (aG (aa a).1)) (k+1).toNat=a8 pinned keep (keep.map (aG (aa a).1)) i.toNat,mu:=fun ((_,k):Int×Int)=>(k+1).toNat } }
 | _=>none
def DT:Spec:={ Ts:=[.arr bb,.arr ty_I,.arr ty_I],Rs:=[.own 3 ty_I],pre:=fun ((a,keep,_):List Int×List Int×List Int)=>dD keep (keep.map (aG (aa a).1)),F:=fun ((a,keep,pinned):List Int×List Int×List Int)=>ar keep (keep.map (aG (aa a).1)) pinned }
def tC:Prop :=
  ∀ (x:List Int×List Int×List Int),((x.1.length * 8≤aA∧∀ (x_1:Int),x_1∈x.1→ak .u64 x_1)∧(x.2.1.length * 8≤aA∧∀ (x_1:Int),x_1∈x.2.1→ak .i64 x_1)∧x.2.2.length * 8≤aA∧∀ (x_1:Int),x_1∈x.2.2→ak .i64 x_1)→dD x.2.1 (List.map (aG (aa x.1).1) x.2.1)→((0:Int)≤0∧0≤(↑x.2.1.length:Int)∧([]:List Int)=List.map (cT x.2.2 x.2.1 (List.map (aG (aa x.1).1) x.2.1)) (List.range (Int.toNat 0)))∧∀ (x_1:List Int×Int),0≤x_1.2∧x_1.2≤(↑x.2.1.length:Int)∧x_1.1=List.map (cT x.2.2 x.2.1 (List.map (aG (aa x.1).1) x.2.1)) (List.range x_1.2.toNat)→(decide (x_1.2<(↑x.2.1.length:Int))=true→0≤x_1.2∧x_1.2<(↑x.2.1.length:Int)∧True∧(cP x.2.2 (x.2.1.getD x_1.2.toNat 0)=true→0≤x_1.2∧x_1.2<(↑x.2.1.length:Int)∧(x_1.1.length+[x.2.1.getD x_1.2.toNat 0].length) * 8≤aA∧ak .i64 (x_1.2+1)∧(0≤x_1.2+1∧x_1.2+1≤(↑x.2.1.length:Int)∧x_1.1++[x.2.1.getD x_1.2.toNat 0]=List.map (cT x.2.2 x.2.1 (List.map (aG (aa x.1).1) x.2.1)) (List.range (x_1.2+1).toNat))∧((↑x.2.1.length:Int) - (x_1.2+1)).toNat<((↑x.2.1.length:Int) - x_1.2).toNat)∧(cP x.2.2 (x.2.1.getD x_1.2.toNat 0)=false→ak .i64 (x_1.2 - 1)∧((-1)≤x_1.2 - 1∧x_1.2 - 1<x_1.2∧(0:Int)≤0∧0+a8 x.2.2 x.2.1 (List.map (aG (aa x.1).1) x.2.1) (x_1.2 - 1+1).toNat=a8 x.2.2 x.2.1 (List.map (aG (aa x.1).1) x.2.1) x_1.2.toNat)∧∀ (x_2:Int×Int),(-1)≤x_2.2∧x_2.2<x_1.2∧0≤x_2.1∧x_2.1+a8 x.2.2 x.2.1 (List.map (aG (aa x.1).1) x.2.1) (x_2.2+1).toNat=a8 x.2.2 x.2.1 (List.map (aG (aa x.1).1) x.2.1) x_1.2.toNat→(decide (0≤x_2.2)=true→0≤x_2.2∧x_2.2<(↑x.2.1.length:Int)∧True∧(ak .i64 (1+(aj (x.2.1.getD x_2.2.toNat 0) (aa x.1).1).1.1)∧ak .i64 (1+(aj (x.2.1.getD x_2.2.toNat 0) (aa x.1).1).1.1+(aj (x.2.1.getD x_2.2.toNat 0) (aa x.1).1).1.2.1))∧ak .i64 (x_2.1+ac (aj (x.2.1.getD x_2.2.toNat 0) (aa x.1).1).1)∧0≤x_2.2∧x_2.2<(↑x.2.1.length:Int)∧True∧(cP x.2.2 (x.2.1.getD x_2.2.toNat 0)=true→0≤x_2.2∧x_2.2<(↑x.2.1.length:Int)∧ak .i64 (x_2.1+ac (aj (x.2.1.getD x_2.2.toNat 0) (aa x.1).1).1+x.2.1.getD x_2.2.toNat 0)∧(x_1.1.length+[x_2.1+ac (aj (x.2.1.getD x_2.2.toNat 0) (aa x.1).1).1+x.2.1.getD x_2.2.toNat 0].length) * 8≤aA∧ak .i64 (x_1.2+1)∧(0≤x_1.2+1∧x_1.2+1≤(↑x.2.1.length:Int)∧x_1.1++[x_2.1+ac (aj (x.2.1.getD x_2.2.toNat 0) (aa x.1).1).1+x.2.1.getD x_2.2.toNat 0]=List.map (cT x.2.2 x.2.1 (List.map (aG (aa x.1).1) x.2.1)) (List.range (x_1.2+1).toNat))∧((↑x.2.1.length:Int) - (x_1.2+1)).toNat<((↑x.2.1.length:Int) - x_1.2).toNat)∧(cP x.2.2 (x.2.1.getD x_2.2.toNat 0)=false→ak .i64 (x_2.2 - 1)∧((-1)≤x_2.2 - 1∧x_2.2 - 1<x_1.2∧0≤x_2.1+ac (aj (x.2.1.getD x_2.2.toNat 0) (aa x.1).1).1∧x_2.1+ac (aj (x.2.1.getD x_2.2.toNat 0) (aa x.1).1).1+a8 x.2.2 x.2.1 (List.map (aG (aa x.1).1) x.2.1) (x_2.2 - 1+1).toNat=a8 x.2.2 x.2.1 (List.map (aG (aa x.1).1) x.2.1) x_1.2.toNat)∧(x_2.2 - 1+1).toNat<(x_2.2+1).toNat))∧(decide (0≤x_2.2)=false→(x_1.1.length+[x_2.1].length) * 8≤aA∧ak .i64 (x_1.2+1)∧(0≤x_1.2+1∧x_1.2+1≤(↑x.2.1.length:Int)∧x_1.1++[x_2.1]=List.map (cT x.2.2 x.2.1 (List.map (aG (aa x.1).1) x.2.1)) (List.range (x_1.2+1).toNat))∧((↑x.2.1.length:Int) - (x_1.2+1)).toNat<((↑x.2.1.length:Int) - x_1.2).toNat)))∧(decide (x_1.2<(↑x.2.1.length:Int))=false→x_1.1=ar x.2.1 (List.map (aG (aa x.1).1) x.2.1) x.2.2∧True)
theorem Aw:tC:=by
 unfold tC;intro ⟨a,keep,pinned⟩ _ hp;have hp':=hp;obtain ⟨p1,p2,p3,p4⟩:=hp';simp only at p1 p2 p3 p4 hp ⊢
 have hG:∀ k:Nat,k<keep.length→(keep.map (aG (aa a).1)).getD k 0=ac (aj (keep.getD k 0) (aa a).1).1:=by
  intro k hk;rw [List.getD_eq_getElem?_getD,List.getElem?_map,List.getD_eq_getElem?_getD,List.getElem?_eq_getElem hk];rfl
 have hH:=fun x=>bj (xC a x)
 have hrg:=fun i hi=>cg (i:=i) pinned hp hi
 have hE:∀ i:Nat,a8 pinned keep (keep.map (aG (aa a).1)) (i+1)=cT pinned keep (keep.map (aG (aa a).1)) i+(keep.map (aG (aa a).1)).getD i 0:=fun _=>rfl
 have hT:∀ i:Nat,cT pinned keep (keep.map (aG (aa a).1)) i=if cP pinned (keep.getD i 0)=true then keep.getD i 0 else a8 pinned keep (keep.map (aG (aa a).1)) i:=fun _=>rfl
 have hP:ar keep (keep.map (aG (aa a).1)) pinned=(List.range keep.length).map (cT pinned keep (keep.map (aG (aa a).1))):=rfl;rw [hP];clear hP;generalize keep.map (aG (aa a).1)=long at *;unfold aA;simp only [ak];refine ⟨⟨by omega,by omega,rfl⟩,fun ⟨out,i⟩ ⟨h0,h1,h2⟩=>⟨fun hlt=>?_,fun hge=>?_⟩⟩
 ·have hlt':i<(keep.length:Int):=of_decide_eq_true hlt;simp only at h0 h1 h2 ⊢;have hl:out.length=i.toNat:=by rw [h2]; simp
  have hs:(List.range (i+1).toNat).map (cT pinned keep long)=out++[cT pinned keep long i.toNat]:=by
   rw [show (i+1).toNat=i.toNat+1 by omega,List.range_succ,List.map_append,← h2];rfl
  have hri:=hrg i.toNat (by omega);rw [hs,hT];simp only [List.length_cons,List.length_nil];refine ⟨h0,hlt',trivial,fun hc=>?_,fun hc=>?_⟩
  ·rw [if_pos hc];exact ⟨h0,hlt',by omega,by omega,⟨by omega,by omega,rfl⟩,by omega⟩
  ·rw [if_neg (by rw [hc]; simp)];refine ⟨by omega,⟨by omega,by omega,by omega,by rw [show i - 1+1=i by omega]; omega⟩,fun ⟨s,k⟩ ⟨k0,k1,k2,k3⟩=>⟨fun hk=>?_,fun hk=>?_⟩⟩
   ·have hk:0≤k:=of_decide_eq_true hk;simp only at k0 k1 k2 k3 ⊢;have hh:=hH (keep.getD k.toNat 0);have hx:=p3 _ (aI (0:Int) (xs:=keep) (i:=k) hk (by omega));have hrk:=hrg (k+1).toNat (by omega);have hrk0:=hrg k.toNat (by omega);rw [show (k+1).toNat=k.toNat+1 by omega,hE,hT,hG k.toNat (by omega)] at k3 hrk;have hLd:ac (aj (keep.getD k.toNat 0) (aa a).1).1=1+(aj (keep.getD k.toNat 0) (aa a).1).1.1+(aj (keep.getD k.toNat 0) (aa a).1).1.2.1:=rfl;generalize ac (aj (keep.getD k.toNat 0) (aa a).1).1=n at *;generalize (aj (keep.getD k.toNat 0) (aa a).1).1=hd at *;rw [show k - 1+1=k by omega];refine ⟨hk,by omega,trivial,⟨by omega,by omega⟩,by omega,hk,by omega,trivial,fun hp1=>?_,fun hp1=>?_⟩
    ·rw [if_pos hp1] at k3 hrk;refine ⟨hk,by omega,by omega,by omega,by omega,⟨by omega,by omega,?_⟩,by omega⟩;rw [show s+n+keep.getD k.toNat 0=a8 pinned keep long i.toNat by omega]
    ·rw [if_neg (by rw [hp1]; simp)] at k3 hrk;exact ⟨by omega,⟨by omega,by omega,by omega,by omega⟩,by omega⟩
   ·have hk:¬ 0≤k:=of_decide_eq_false hk;simp only at k0 k1 k2 k3 ⊢;have e0:a8 pinned keep long 0=0:=rfl;rw [show (k+1).toNat=0 by omega,e0] at k3;refine ⟨by omega,by omega,⟨by omega,by omega,?_⟩,by omega⟩;rw [show s=a8 pinned keep long i.toNat by omega]
 ·have hge:¬ i<(keep.length:Int):=of_decide_eq_false hge;simp only at h0 h1 h2;rw [h2,show i.toNat=keep.length by omega];exact ⟨rfl,trivial⟩
theorem nA:DT.ok Tryz.prog 77:=aF (ann:=E1) (ae tW (ae g8 (ae gN aq))) Tryz.func77 (by kernel_rfl) Aw
def gq (l:List aD) (keep to:List Int) (k:Int):Bool:=(List.range keep.length).any fun i=>decide (to.getD i 0≤k)&&decide (k<to.getD i 0+aG l (keep.getD i 0))
def CX:Nat→Option LoopGen
 | 2=>some { rd:=[.dat 0 ty_I,.dat 10 (.arr ty_I),.dat 2 (.ref (.arr bb)),.dat 3 (.ref (.arr ty_I))],A:=fun ((k,keep,a,to):Int×List Int×List Int×List Int)=>{ cs:=[.dat 12 ty_I],inv:=fun (i:Int)=>0≤i∧i≤keep.length∧((List.range i.toNat).any fun i=>decide (to.getD i 0≤k)&&decide (k<to.getD i 0+aG (aa a).1 (keep.getD i 0)))=false,mu:=fun (i:Int)=>(keep.length - i).toNat } }
 | _=>none
def A2:Spec:={ Ts:=[ty_I,.ref (.arr ty_I),.ref (.arr bb),.ref (.arr ty_I)],Rs:=[.dat .bool],pre:=fun ((_,keep,_,to):Int×List Int×List Int×List Int)=>to.length=keep.length∧keep.length≤256∧∀ x∈to,0≤x∧x≤200000,F:=fun ((k,keep,a,to):Int×List Int×List Int×List Int)=>!gq (aa a).1 keep to k }
def qY:Prop :=
  ∀ (x:Int×List Int×List Int×List Int),(ak .i64 x.1∧(x.2.1.length * 8≤aA∧∀ (x_1:Int),x_1∈x.2.1→ak .i64 x_1)∧(x.2.2.1.length * 8≤aA∧∀ (x_1:Int),x_1∈x.2.2.1→ak .u64 x_1)∧x.2.2.2.length * 8≤aA∧∀ (x_1:Int),x_1∈x.2.2.2→ak .i64 x_1)→(x.2.2.2.length=x.2.1.length∧x.2.1.length≤256∧∀ (x_1:Int),x_1∈x.2.2.2→0≤x_1∧x_1≤200000)→((0:Int)≤0∧0≤(↑x.2.1.length:Int)∧((List.range (Int.toNat 0)).any fun (i:Nat)=>decide (x.2.2.2.getD i 0≤x.1)&&decide (x.1<x.2.2.2.getD i 0+aG (aa x.2.2.1).1 (x.2.1.getD i 0)))=false)∧∀ (x_1:Int),0≤x_1∧x_1≤(↑x.2.1.length:Int)∧((List.range x_1.toNat).any fun (i:Nat)=>decide (x.2.2.2.getD i 0≤x.1)&&decide (x.1<x.2.2.2.getD i 0+aG (aa x.2.2.1).1 (x.2.1.getD i 0)))=false→(decide (x_1<(↑x.2.1.length:Int))=true→0≤x_1∧x_1<(↑x.2.1.length:Int)∧True∧0≤x_1∧x_1<(↑x.2.2.2.length:Int)∧(decide (x.2.2.2.getD x_1.toNat 0≤x.1)=true→0≤x_1)∧(decide (x.2.2.2.getD x_1.toNat 0≤x.1)=true→x_1<(↑x.2.2.2.length:Int))∧(decide (x.2.2.2.getD x_1.toNat 0≤x.1)=true→ak .i64 (1+(aj (x.2.1.getD x_1.toNat 0) (aa x.2.2.1).1).1.1)∧ak .i64 (1+(aj (x.2.1.getD x_1.toNat 0) (aa x.2.2.1).1).1.1+(aj (x.2.1.getD x_1.toNat 0) (aa x.2.2.1).1).1.2.1))∧(decide (x.2.2.2.getD x_1.toNat 0≤x.1)=true→ak .i64 (x.2.2.2.getD x_1.toNat 0+ac (aj (x.2.1.getD x_1.toNat 0) (aa x.2.2.1).1).1))∧((decide (x.2.2.2.getD x_1.toNat 0≤x.1)&&decide (x.1<x.2.2.2.getD x_1.toNat 0+ac (aj (x.2.1.getD x_1.toNat 0) (aa x.2.2.1).1).1))=true→false=!gq (aa x.2.2.1).1 x.2.1 x.2.2.2 x.1∧True)∧((decide (x.2.2.2.getD x_1.toNat 0≤x.1)&&decide (x.1<x.2.2.2.getD x_1.toNat 0+ac (aj (x.2.1.getD x_1.toNat 0) (aa x.2.2.1).1).1))=false→ak .i64 (x_1+1)∧(0≤x_1+1∧x_1+1≤(↑x.2.1.length:Int)∧((List.range (x_1+1).toNat).any fun (i:Nat)=>decide (x.2.2.2.getD i 0≤x.1)&&decide (x.1<x.2.2.2.getD i 0+aG (aa x.2.2.1).1 (x.2.1.getD i 0)))=false)∧((↑x.2.1.length:Int) - (x_1+1)).toNat<((↑x.2.1.length:Int) - x_1).toNat))∧(decide (x_1<(↑x.2.1.length:Int))=false→true=!gq (aa x.2.2.1).1 x.2.1 x.2.2.2 x.1∧True)
theorem yd:qY:=by
 unfold qY;intro ⟨k,keep,a,to⟩ _ ⟨p1,p2,p3⟩;simp only at p1 p2 p3 ⊢;have hC:gq (aa a).1 keep to k=(List.range keep.length).any fun i=>decide (to.getD i 0≤k)&&decide (k<to.getD i 0+aG (aa a).1 (keep.getD i 0)):=rfl
 rw [hC];generalize hf:(fun i:Nat=>decide (to.getD i 0≤k)&&decide (k<to.getD i 0+aG (aa a).1 (keep.getD i 0)))=f;simp only [ak];refine ⟨⟨by omega,by omega,rfl⟩,fun i ⟨h0,h1,h2⟩=>⟨fun hlt=>?_,fun hge=>?_⟩⟩
 ·have hlt:i<(keep.length:Int):=of_decide_eq_true hlt;have hh:=bj (xC a (keep.getD i.toNat 0));have hx:=p3 _ (aI (0:Int) (xs:=to) h0 (by omega));have hfi:f i.toNat=(decide (to.getD i.toNat 0≤k)&&decide (k<to.getD i.toNat 0+ac (aj (keep.getD i.toNat 0) (aa a).1).1)):=by rw [← hf]; rfl
  have hLd:ac (aj (keep.getD i.toNat 0) (aa a).1).1=1+(aj (keep.getD i.toNat 0) (aa a).1).1.1+(aj (keep.getD i.toNat 0) (aa a).1).1.2.1:=rfl;rw [← hfi];refine ⟨h0,hlt,trivial,h0,by omega,fun _=>h0,fun _=>by omega,fun _=>⟨by omega,by omega⟩,fun _=>by omega,fun hc=>?_,fun hc=>⟨by omega,⟨by omega,by omega,?_⟩,by omega⟩⟩
  ·have:(List.range keep.length).any f=true:=List.any_eq_true.2 ⟨i.toNat,List.mem_range.2 (by omega),hc⟩;rw [this];exact ⟨rfl,trivial⟩
  ·rw [show (i+1).toNat=i.toNat+1 by omega,List.range_succ,List.any_append,h2];simpa using hc
 ·have hge:¬ i<(keep.length:Int):=of_decide_eq_false hge;rw [show keep.length=i.toNat by omega,h2];exact ⟨rfl,trivial⟩
theorem B1:A2.ok Tryz.prog 147:=aF (ann:=CX) (ae g8 (ae gN aq)) Tryz.func147 (by kernel_rfl) yd
def yK:Spec:={ Ts:=[.arr bb,.arr ty_I,.arr ty_I],Rs:=[.own 129 fw],pre:=fun ((a,keep,_):List Int×List Int×List Int)=>a.length≤256∧dD keep (keep.map (aG (aa a).1)),F:=fun ((a,keep,pinned):List Int×List Int×List Int)=>bi (fun k=>!gq (aa a).1 keep (ar keep (keep.map (aG (aa a).1)) pinned) k) a.length 0 [] }
def oC:Prop :=
  ∀ (x:List Int×List Int×List Int),((x.1.length * 8≤aA∧∀ (x_1:Int),x_1∈x.1→ak .u64 x_1)∧(x.2.1.length * 8≤aA∧∀ (x_1:Int),x_1∈x.2.1→ak .i64 x_1)∧x.2.2.length * 8≤aA∧∀ (x_1:Int),x_1∈x.2.2→ak .i64 x_1)→x.1.length≤256∧dD x.2.1 (List.map (aG (aa x.1).1) x.2.1)→dD x.2.1 (List.map (aG (aa x.1).1) x.2.1)∧(0≤(↑x.1.length:Int)∧(↑x.1.length:Int)≤300∧∀ (i:Int),0≤i→i<(↑x.1.length:Int)→(fun (x_1:Int)=>(ar x.2.1 (List.map (aG (aa x.1).1) x.2.1) x.2.2).length=x.2.1.length∧x.2.1.length≤256∧∀ (x_2:Int),x_2∈ar x.2.1 (List.map (aG (aa x.1).1) x.2.1) x.2.2→0≤x_2∧x_2≤200000,fun (x_1:Int)=>!gq (aa x.1).1 x.2.1 (ar x.2.1 (List.map (aG (aa x.1).1) x.2.1) x.2.2) x_1).1 i)∧bi (fun (x_1:Int)=>!gq (aa x.1).1 x.2.1 (ar x.2.1 (List.map (aG (aa x.1).1) x.2.1) x.2.2) x_1) (↑x.1.length:Int).toNat 0 ([]:List bY)=bi (fun (k:Int)=>!gq (aa x.1).1 x.2.1 (ar x.2.1 (List.map (aG (aa x.1).1) x.2.1) x.2.2) k) x.1.length 0 ([]:List bY)∧True
theorem vh:oC:=by
 unfold oC;intro ⟨a,keep,pinned⟩ _ ⟨hal,hp⟩;simp only at hal hp ⊢;refine ⟨hp,⟨by omega,by omega,fun _ _ _=>⟨by simp [ar],hp.2.1,fun x hx=>?_⟩⟩,rfl,trivial⟩;unfold ar at hx;obtain ⟨i,hi,rfl⟩:=List.mem_map.1 hx;have hi:=List.mem_range.1 hi;have:=kh pinned hp hi;have:=hp.2.1;omega
theorem zn:yK.ok Tryz.prog 118:=aF (ann:=cw) (ae nA (ae B1 (ae BX aq))) Tryz.func118 (by kernel_rfl) vh
end
section
open Go
set_option maxRecDepth 100000
set_option maxHeartbeats 1000000
theorem ni:∀ {l:List aD} {s e:Int},ft s e l→∀ x∈l,s≤x.1∧1≤ac x.2
 | [],_,_,_,x,h=>by cases h
 | y::l,s,e,⟨h1,h2,h3⟩,x,h=>by
  rcases List.mem_cons.1 h with rfl | h
  ·omega
  ·have:=ni h3 x h;omega
theorem sS:∀ {l:List aD} {s e:Int},ft s e l→∀ x∈l,∀ y∈l,x.1<y.1→x.1+ac x.2≤y.1
 | [],_,_,_,x,h,_,_,_=>by cases h
 | z::l,s,e,⟨h1,h2,h3⟩,x,hx,y,hy,hlt=>by
  rcases List.mem_cons.1 hx with hx1 | hx1 <;> rcases List.mem_cons.1 hy with hy1 | hy1
  ·subst hx1; subst hy1; omega
  ·have:=ni h3 y hy1;subst hx1; omega
  ·have:=ni h3 x hx1;subst hy1; omega
  ·exact sS h3 x hx1 y hy1 hlt
theorem Bn (f:Int→Bool) {n m:Nat} {k:Int} {out:List bY} (hn:0<n) (hk:0≤k) (hp:k=0∨f (k - 1)=false) (h:∀ i,k≤i→i<k+n→f i=true) :
  bi f (n+m) k out=bi f m (k+n) (out++[(k,(n:Int))]):=by
 obtain ⟨n,rfl⟩:∃ j,n=j+1:=⟨n - 1,by omega⟩;rw [show n+1+m=(n+m)+1 by omega];simp only [bi]
 have e:(decide (0<k)&&f (k - 1))=false:=by
  rcases hp with rfl | hp
  ·simp
  ·rw [hp]; simp
 rw [if_pos (h k (by omega) (by omega)),e,if_neg (by simp)];rw [pN f n m (k+1) _ (by simp) (by omega) (fun i h1 h2=>h i (by omega) (by omega))];rw [show k+1+(n:Int)=k+((n+1:Nat):Int) by omega];congr 1;by_cases hz:n=0
 ·subst hz; simp
 ·rw [if_neg hz,qx];congr 3;omega
theorem DC {pinned keep long:List Int} {i:Nat} (hle:a8 pinned keep long i≤keep.getD i 0):a8 pinned keep long i≤cT pinned keep long i∧cT pinned keep long i≤keep.getD i 0:=by
 unfold cT;split <;> omega
theorem zU {pinned keep long:List Int} {N:Int} (hp:dD keep long) (hd:∀ i:Nat,i+1<keep.length→keep.getD i 0+long.getD i 0≤keep.getD (i+1) 0) (hN:∀ i:Nat,i<keep.length→keep.getD i 0+long.getD i 0≤N) :
  ∀ i:Nat,i<keep.length→a8 pinned keep long i≤keep.getD i 0
 | 0,hi=>by
  have:=hp.2.2.1 _ (aI (0:Int) (xs:=keep) (i:=(0:Nat)) (by omega) (by omega));simp only [Int.toNat_natCast] at this;simp only [a8];omega
 | i+1,hi=>by
  have ih:=zU (pinned:=pinned) hp hd hN i (by omega);have h1:=DC ih;have h2:=hd i hi;have e:a8 pinned keep long (i+1)=cT pinned keep long i+long.getD i 0:=rfl;rw [e];omega
theorem HC {pinned keep long:List Int} {n:Nat} {f:Int→Bool} (hp:dD keep long) (hd:∀ i:Nat,i+1<keep.length→keep.getD i 0+long.getD i 0≤keep.getD (i+1) 0) (hN:∀ i:Nat,i<keep.length→keep.getD i 0+long.getD i 0≤(n:Int))
  (hf:∀ k,f k=!((List.range keep.length).any fun i=>decide (cT pinned keep long i≤k)&&decide (k<cT pinned keep long i+long.getD i 0))):bi f n 0 []=bV n keep long pinned:=by
 have hE:∀ i:Nat,a8 pinned keep long (i+1)=cT pinned keep long i+long.getD i 0:=fun _=>rfl
 have hle:=zU (pinned:=pinned) hp hd hN
 have hpos:∀ i:Nat,i<keep.length→1≤long.getD i 0:=fun i hi=>by
  have:=hp.2.2.2 _ (aI (0:Int) (xs:=long) (i:=i) (by omega) (by have:=hp.1; omega));simp only [Int.toNat_natCast] at this;exact this.1
 have hto:∀ i:Nat,i<keep.length→a8 pinned keep long i≤cT pinned keep long i∧cT pinned keep long i+long.getD i 0≤(n:Int):=fun i hi=>by
  have h1:=DC (hle i hi);have h2:=hN i hi;omega
 have mono:∀ j i:Nat,i≤j→j≤keep.length→a8 pinned keep long i≤a8 pinned keep long j:=by
  intro j
  induction j with
  | zero=>intro i h1 _; rw [show i=0 by omega]; exact Int.le_refl _
  | succ j ih =>
   intro i h1 h2;by_cases e:i=j+1
   ·rw [e]; exact Int.le_refl _
   ·have:=ih i (by omega) (by omega);have h3:=hto j (by omega);have h4:=hpos j (by omega);rw [hE];omega
 have h0:∀ i,i≤keep.length→0≤a8 pinned keep long i:=fun i hi=>(cg pinned hp i hi).1
 have hen:∀ i,i≤keep.length→a8 pinned keep long i≤(n:Int):=by
  intro i hi;cases i with
  | zero=>simp [a8]
  | succ i=>have:=hto i (by omega); rw [hE]; omega
 have cov:∀ (i:Nat) (k:Int),i<keep.length→cT pinned keep long i≤k→k<cT pinned keep long i+long.getD i 0→f k=false:=by
  intro i k hi h1 h2;rw [hf];have:((List.range keep.length).any fun i=>decide (cT pinned keep long i≤k)&&decide (k<cT pinned keep long i+long.getD i 0))=true:=List.any_eq_true.2 ⟨i,List.mem_range.2 hi,by simp only [decide_eq_true h1,decide_eq_true h2,Bool.and_self]⟩;rw [this];rfl
 have free:∀ (i:Nat) (k:Int),i≤keep.length→a8 pinned keep long i≤k→(i<keep.length→k<cT pinned keep long i)→f k=true:=by
  intro i k hi h1 h2;rw [hf]
  have:((List.range keep.length).any fun i=>decide (cT pinned keep long i≤k)&&decide (k<cT pinned keep long i+long.getD i 0))=false:=by
   rw [List.any_eq_false];intro j hj;have hj:=List.mem_range.1 hj;simp only [Bool.and_eq_true,decide_eq_true_eq,not_and];intro h3 h4;rcases Nat.lt_or_ge j i with hji | hji
   ·have:=mono i (j+1) (by omega) hi;rw [hE] at this;omega
   ·have h5:=h2 (by omega);by_cases e:j=i
    ·subst e; omega
    ·have h6:=mono j (i+1) (by omega) (by omega);have h7:=hto j hj;have h8:=hpos i (by omega);rw [hE] at h6;omega
  rw [this];rfl
 have prev:∀ i:Nat,i≤keep.length→a8 pinned keep long i=0∨f (a8 pinned keep long i - 1)=false:=by
  intro i hi;cases i with
  | zero=>exact .inl rfl
  | succ i =>
   right;have h4:=hpos i (by omega);rw [hE];exact cov i _ (by omega) (by omega) (by omega)
 have main:∀ i:Nat,i≤keep.length→bi f n 0 []=bi f ((n:Int) - a8 pinned keep long i).toNat (a8 pinned keep long i) (eS pinned keep long i):=by
  intro i
  induction i with
  | zero=>intro _; simp [a8,eS]
  | succ i ih =>
   intro hi;rw [ih (by omega)];have h1:=hto i (by omega);have h2:=hpos i (by omega);have h3:=h0 i (by omega);have hG:eS pinned keep long (i+1)=eS pinned keep long i++(if a8 pinned keep long i<cT pinned keep long i then [(a8 pinned keep long i,cT pinned keep long i - a8 pinned keep long i)] else []):=rfl;have fr:=free i;have cv:=fun k=>cov i k (by omega)
   have pv:=prev i (by omega);rw [hG,hE];generalize a8 pinned keep long i=e at *;generalize cT pinned keep long i=t at *;generalize long.getD i 0=L at *;obtain ⟨g,hg⟩:=Int.eq_ofNat_of_zero_le (show 0≤t - e by omega);obtain ⟨l,hl⟩:=Int.eq_ofNat_of_zero_le (show 0≤L by omega);obtain ⟨r,hr⟩:=Int.eq_ofNat_of_zero_le (show 0≤(n:Int) - (t+L) by omega);rw [show ((n:Int) - e).toNat=g+(l+r) by omega,show ((n:Int) - (t+L)).toNat=r by omega]
   have second:∀ out,bi f (l+r) t out=bi f r (t+L) out:=fun out=>by
    rw [pO f l r t out (fun k k0 k1=>cv k k0 (by omega)),← hl]
   by_cases hgt:e<t
   ·rw [if_pos hgt,Bn f (by omega) h3 pv (fun k k0 k1=>fr k (by omega) k0 (fun _=>by omega)),← hg,show e+(t - e)=t by omega];exact second _
   ·rw [if_neg hgt,List.append_nil,show g=0 by omega,Nat.zero_add,show e=t by omega];exact second _
 rw [main keep.length (Nat.le_refl _)];unfold bV;have h1:=hen keep.length (Nat.le_refl _);have h3:=h0 keep.length (Nat.le_refl _);have fr:=free keep.length;have pv:=prev keep.length (Nat.le_refl _);generalize a8 pinned keep long keep.length=e at *;by_cases hgt:e<(n:Int)
 ·obtain ⟨g,hg⟩:=Int.eq_ofNat_of_zero_le (show 0≤(n:Int) - e by omega);rw [if_pos hgt,show ((n:Int) - e).toNat=g+0 by omega,Bn f (by omega) h3 pv (fun k k0 k1=>fr k (Nat.le_refl _) k0 (fun h=>absurd h (Nat.lt_irrefl _))),hg];rfl
 ·rw [if_neg hgt,List.append_nil,show ((n:Int) - e).toNat=0 by omega];rfl
theorem xy {a keep pinned:List Int} (h:(am a keep pinned).2=0):(∀ i:Nat,i+1<keep.length→keep.getD i 0+(keep.map (aG (aa a).1)).getD i 0≤keep.getD (i+1) 0)∧∀ i:Nat,i<keep.length→keep.getD i 0+(keep.map (aG (aa a).1)).getD i 0≤(a.length:Int):=by
 obtain ⟨h1,h2,_,h4,_,_⟩:=lM h
 have hG:∀ k:Nat,k<keep.length→(keep.map (aG (aa a).1)).getD k 0=aG (aa a).1 (keep.getD k 0):=by
  intro k hk;rw [List.getD_eq_getElem?_getD,List.getElem?_map,List.getD_eq_getElem?_getD,List.getElem?_eq_getElem hk];rfl
 obtain ⟨_,_,hs3,hs4,_,_,_⟩:=b7 h1;have ht:=gI hs4
 have hm:∀ i:Nat,i<keep.length→keep.getD i 0∈keep:=fun i hi=>by
  have:=aI (0:Int) (xs:=keep) (i:=i) (by omega) (by omega);simpa only [Int.toNat_natCast] using this
 refine ⟨fun i hi=>?_,fun i hi=>?_⟩
 ·rw [hG i (by omega)];obtain ⟨s,s1,s2,_,s4⟩:=ul (h4 _ (hm i (by omega)));obtain ⟨t,t1,t2,_,_⟩:=ul (h4 _ (hm (i+1) hi))
  have hlt:keep.getD i 0<keep.getD (i+1) 0:=by
   have hp:=List.pairwise_iff_getElem.1 (gi h2) i (i+1) (by omega) hi (by omega);rw [List.getD_eq_getElem?_getD,List.getElem?_eq_getElem (by omega),List.getD_eq_getElem?_getD,List.getElem?_eq_getElem hi];exact hp
  rw [s4,← s2,← t2];exact sS ht s s1 t t1 (by omega)
 ·rw [hG i hi];obtain ⟨s,s1,s2,_,s4⟩:=ul (h4 _ (hm i hi));obtain ⟨_,hin,hh⟩:=dw a s s1;have hz:=bj hh;rw [s4,← s2];unfold cm at hin;unfold ac;omega
end
end Go.Proofs.YtglchojglcobjaaGreatDoor
