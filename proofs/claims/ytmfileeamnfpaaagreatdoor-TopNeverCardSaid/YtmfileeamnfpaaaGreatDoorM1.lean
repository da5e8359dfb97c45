import Derived.Test.YtmfileeamnfpaaaGreatDoorEG6
import Derived.Test.YtmfileeamnfpaaaGreatDoorRows
import Derived.Shelf.Sort.Plain
import Derived.Shelf.Slices.In.SortNone
import Derived.Shelf.Slices.CompactI
import Derived.Sort.OwnSortedInts
namespace Go.Proofs.YtmfileeamnfpaaaGreatDoor
section
open Go
def KG:List (Nat×Spec)->FuncId->Option Spec
 | [],_=>none
 | e::l,f=>if Nat.beq e.1 f then some e.2 else KG l f
def KF:List (Nat×TFn)->FuncId->Option TFn
 | [],_=>none
 | e::l,f=>if Nat.beq e.1 f then some e.2 else KF l f
def KH (l:List (Nat×Spec)) (r:List (Nat×TFn):=[]):Specs:={ fn:=KG l,row:=KF r }
theorem ap:(KH []).ok Tryz.prog:=by
 refine ⟨rfl,?_,?_⟩
 ·intro f s h;cases h
 ·intro f s h;cases h
theorem Aq {P:Program} {f:Nat} {s:TFn} {r:List (Nat×TFn)} (h:s.ok P f) (hl:(KH [] r).ok P):(KH [] ((f,s)::r)).ok P:=by
 refine ⟨hl.1,hl.2.1,?_⟩;intro g t e;have e:KF ((f,s)::r) g=some t:=e;unfold KF at e;split at e
 ·rename_i he;have he:=Nat.eq_of_beq_eq_true he;injection e with e
  subst e;simp only at he;subst he;exact h
 ·exact hl.2.2 g t e
theorem kW {P:Program} {f:Nat} {s:RowFn} {r:List (Nat×TFn)} (h:s.ok P f) (hl:(KH [] r).ok P):(KH [] ((f,.row s)::r)).ok P:=Aq (s:=.row s) h hl
theorem E5 {P:Program} {f:Nat} {s:BoxFn} {r:List (Nat×TFn)} (h:s.ok P f) (hl:(KH [] r).ok P):(KH [] ((f,.box s)::r)).ok P:=Aq (s:=.box s) h hl
theorem ae {P:Program} {f:Nat} {s:Spec} {l:List (Nat×Spec)} {r:List (Nat×TFn)} (h:s.ok P f) (hl:(KH l r).ok P):(KH ((f,s)::l) r).ok P:=by
 refine ⟨hl.1,?_,hl.2.2⟩;intro g t e;have e:KG ((f,s)::l) g=some t:=e;unfold KG at e;split at e
 ·rename_i he;have he:=Nat.eq_of_beq_eq_true he;injection e with e
  subst e;simp only at he;subst he;exact h
 ·exact hl.2.1 g t e
theorem aD {ss:Specs} {ann:Nat->Option LoopGen} {f:FuncId} {fn:Func} {s:Spec} {pv:Prop} (hss:ss.ok Tryz.prog) (hfn:Tryz.prog.funcs[f]?=some fn) (e:pv=MA Tryz.prog ss ann fn s) (h:pv):s.ok Tryz.prog f:=JV hss hfn (e.mp h)
def ic:(T:Ty)->T.den->Prop
 | .arr T,xs=>(show List T.den from xs).length * T.bytes<=140737488351232/\∀ x∈(show List T.den from xs),ic T x
 | .pair A B,x=>ic A x.1/\ic B x.2
 | .str,s=>s.length<=140737488351232
 | .int _,_=>True
 | .bool,_=>True
 | .nil,_=>True
 | .ref _,_=>True
 | .fn _ _,_=>True
 | .map _ _,_=>True
def lZ:(Ts:List Ty)->fS Ts->Prop
 | [],_=>True
 | [T],x=>ic T x
 | T::U::Ts,x=>ic T x.1/\lZ (U::Ts) x.2
def IR (Ts:List Ty):Spec:={ Ts:=Ts,Rs:=[.dat .bool],pre:=lZ Ts,F:=fun _=>(true:Bool) }
def gI (B:Nat):(T:Ty)->T.den->Prop
 | .arr T,xs=>(show List T.den from xs).length<=B/\∀ x∈(show List T.den from xs),gI B T x
 | .pair A C,x=>gI B A x.1/\gI B C x.2
 | .str,s=>s.length<=B
 | .int _,_=>True
 | .bool,_=>True
 | .nil,_=>True
 | .ref _,_=>True
 | .fn _ _,_=>True
 | .map _ _,_=>True
def pX (B:Nat):(Ts:List Ty)->fS Ts->Prop
 | [],_=>True
 | [T],x=>gI B T x
 | T::U::Ts,x=>gI B T x.1/\pX B (U::Ts) x.2
def co:Nat->Option LoopGen:=fun _=>none
abbrev ty_I:Ty:=.int .i64
abbrev bi:Ty:=.int .u64
abbrev gE:Ty:=.pair ty_I (.pair ty_I (.pair ty_I .bool))
abbrev Du:Ty:=.pair ty_I (.pair (.arr ty_I) (.pair (.arr bi) .bool))
abbrev Obj:=Int×List Int×List Int×Bool
theorem fM {n:Int} (h:0<=n) (h2:n<=18446744073709551615):IntKind.u64.wrap n=n:=dp (k:=.u64) ⟨h,h2⟩
theorem m4 {n:Int} (h:-9223372036854775808<=n) (h2:n<=9223372036854775807):IntKind.i64.wrap n=n:=dp (k:=.i64) ⟨h,h2⟩
theorem M8:((IntKind.u64.bits:Nat):Int)=64:=rfl
theorem sx {a b:Int} {i:Nat} (ha:0<=a) (hb:0<=b) (h:a<2 ^ i):((a.toNat ||| (b * 2 ^ i).toNat:Nat):Int)=a+b * 2 ^ i:=by
 obtain ⟨m,rfl⟩:=Int.eq_ofNat_of_zero_le ha;obtain ⟨n,rfl⟩:=Int.eq_ofNat_of_zero_le hb;have h1:m<2 ^ i:=by exact_mod_cast h
 have e:((n:Int) * 2 ^ i).toNat=n * 2 ^ i:=by
  have:((n:Int) * 2 ^ i)=((n * 2 ^ i:Nat):Int):=by push_cast; rfl
  rw [this,Int.toNat_natCast]
 rw [e,Int.toNat_natCast,Nat.or_comm,Nat.mul_comm n,<- Nat.two_pow_add_eq_or_of_lt h1 n]
 push_cast
 rw [Int.add_comm,Int.mul_comm]
theorem mm {a:Int} (ha:0<=a) (i:Nat):((a.toNat &&& (2 ^ i - 1):Nat):Int)=a % 2 ^ i:=by
 obtain ⟨m,rfl⟩:=Int.eq_ofNat_of_zero_le ha;rw [Nat.and_two_pow_sub_one_eq_mod]
 push_cast
 rw [Int.toNat_natCast]
theorem yQ (m i:Nat):m &&& 2 ^ i=m / 2 ^ i % 2 * 2 ^ i:=by
 apply Nat.eq_of_testBit_eq;intro j;rw [Nat.testBit_and,Nat.testBit_two_pow]
 have key:m / 2 ^ i % 2=(m.testBit i).toNat:=by
  rw [Nat.testBit_eq_decide_div_mod_eq];rcases Nat.mod_two_eq_zero_or_one (m / 2 ^ i) with h | h <;> simp [h]
 rw [key];by_cases hij:i=j
 ·subst hij;cases h:m.testBit i <;> simp
 ·cases h:m.testBit i <;> simp [hij]
theorem JG {a:Int} (ha:0<=a) (i:Nat):((a.toNat &&& 2 ^ i:Nat):Int)=a / 2 ^ i % 2 * 2 ^ i:=by
 obtain ⟨m,rfl⟩:=Int.eq_ofNat_of_zero_le ha;rw [Int.toNat_natCast,yQ]
 push_cast
 rfl
theorem bh {α:Type} {xs:List α} (d:α) {i:Int} (h0:0<=i) (h:i<(xs.length:Int)):xs.drop i.toNat=xs.getD i.toNat d::xs.drop (i+1).toNat:=by
 have hi:i.toNat<xs.length:=by omega
 rw [List.drop_eq_getElem_cons hi,show (i+1).toNat=i.toNat+1 by omega];simp [hi]
theorem b7 {α:Type} {xs:List α} {i:Int} (h:¬ i<(xs.length:Int)):xs.drop i.toNat=[]:=by
 rw [List.drop_eq_nil_iff]; omega
theorem bB {α:Type} {xs:List α} (d:α) {i:Int} (h0:0<=i) (h:i<(xs.length:Int)):xs.take (i+1).toNat=xs.take i.toNat++[xs.getD i.toNat d]:=by
 have hi:i.toNat<xs.length:=by omega
 rw [show (i+1).toNat=i.toNat+1 by omega,List.take_succ_eq_append_getElem hi];simp [hi]
theorem cA {α:Type} {xs:List α} {i:Int} (h:¬ i<(xs.length:Int)):xs.take i.toNat=xs:=by
 rw [List.take_of_length_le]; omega
theorem aJ {α:Type} {xs:List α} (d:α) {i:Int} (h0:0<=i) (h:i<(xs.length:Int)):xs.getD i.toNat d∈xs:=by
 have hi:i.toNat<xs.length:=by omega
 simp [hi]
end
section
open Go
set_option maxRecDepth 100000
set_option maxHeartbeats 1000000
theorem Gv {α:Type} {a b:List α} {z:α} {i:Nat} (hl:a.length=b.length) (hi:i<a.length) (ht:a.take i=b.take i) (he:a.getD i z=b.getD i z):a.take (i+1)=b.take (i+1):=by
 rw [List.take_succ_eq_append_getElem hi,List.take_succ_eq_append_getElem (by omega),ht];have h1:a.getD i z=a[i]:=by simp [hi]
 have h2:b.getD i z=b[i]'(by omega):=by simp [show i<b.length by omega]
 rw [<- h1,<- h2,he]
end
section
open Go
set_option maxRecDepth 100000
set_option maxHeartbeats 1000000
def dd (L:Nat) (n:Int) (ks:List Int):Bool:=ks.any fun k=>decide (n<0)||decide (k<0)||decide (k > (L:Int))||decide (n > (L:Int) - k)
def em (L:Nat) (n:Int) (ks:List Int):Int:=if 256<L then 2 else if dd L n ks then 4 else 0
def MK (a:List Int) (i:Nat):Int:=a.getD (i / 8) 0 / 256 ^ (i % 8) % 256
def LG (a:List Int) (n:Nat):List Int:=(List.range n).map (MK a)
def bytesOf (a:List Int):List Int:=LG a (8 * a.length)
def zO:Nat->Option LoopGen
 | 4=>some { rd:=[.dat 2 (.arr ty_I),.dat 1 ty_I,.dat 0 (.arr bi)],A:=fun (ks,n,a)=>{ cs:=[.dat 14 ty_I],inv:=fun (i:Int)=>0<=i/\i<=(ks:List Int).length/\(a:List Int).length<=256/\dd (a:List Int).length n ((ks:List Int).drop i.toNat)=dd (a:List Int).length n ks,mu:=fun (i:Int)=>((ks:List Int).length - i).toNat } }
 | _=>none
def yd:Spec:={ Ts:=[.arr bi,ty_I,.arr ty_I],Rs:=[.dat ty_I],pre:=fun _=>True,F:=fun ((a,n,ks):List Int×Int×List Int)=>em a.length n ks }
def oL:Prop :=
  ∀ (x:List Int×Int×List Int),((x.1.length * 8<=ax/\∀ (x_1:Int),x_1∈x.1->ah .u64 x_1)/\ah .i64 x.2.1/\x.2.2.length * 8<=ax/\∀ (x_1:Int),x_1∈x.2.2->ah .i64 x_1)->True->(decide (256<(x.1.length:Int))=true->2=em x.1.length x.2.1 x.2.2/\True)/\(decide (256<(x.1.length:Int))=false->((0:Int)<=0/\0<=(x.2.2.length:Int)/\x.1.length<=256/\dd x.1.length x.2.1 (List.drop (Int.toNat 0) x.2.2)=dd x.1.length x.2.1 x.2.2)/\∀ (x_1:Int),0<=x_1/\x_1<=(x.2.2.length:Int)/\x.1.length<=256/\dd x.1.length x.2.1 (List.drop x_1.toNat x.2.2)=dd x.1.length x.2.1 x.2.2->(decide (x_1<(x.2.2.length:Int))=true->0<=x_1/\x_1<(x.2.2.length:Int)/\((decide (x.2.1<0)||decide (x.2.2.getD x_1.toNat (0:Int)<0)||decide ((x.1.length:Int)<x.2.2.getD x_1.toNat 0))=false->ah .i64 ((x.1.length:Int) - x.2.2.getD x_1.toNat 0))/\((decide (x.2.1<0)||decide (x.2.2.getD x_1.toNat (0:Int)<0)||decide ((x.1.length:Int)<x.2.2.getD x_1.toNat 0)||decide ((x.1.length:Int) - x.2.2.getD x_1.toNat 0<x.2.1))=true->4=em x.1.length x.2.1 x.2.2/\True)/\((decide (x.2.1<0)||decide (x.2.2.getD x_1.toNat (0:Int)<0)||decide ((x.1.length:Int)<x.2.2.getD x_1.toNat 0)||decide ((x.1.length:Int) - x.2.2.getD x_1.toNat 0<x.2.1))=false->ah .i64 (x_1+1)/\(0<=x_1+1/\x_1+1<=(x.2.2.length:Int)/\x.1.length<=256/\dd x.1.length x.2.1 (List.drop (x_1+1).toNat x.2.2)=dd x.1.length x.2.1 x.2.2)/\((x.2.2.length:Int) - (x_1+1)).toNat<((x.2.2.length:Int) - x_1).toNat))/\(decide (x_1<(x.2.2.length:Int))=false->0=em x.1.length x.2.1 x.2.2/\True))
theorem u7:oL:=by
 unfold oL;intro ⟨a,n,ks⟩ ⟨⟨ha,_⟩,⟨_,_⟩,hk,hks⟩ _;unfold em ax at *;refine ⟨fun h=>?_,fun h=>⟨⟨by omega,by grind,by grind,by simp⟩,fun i ⟨h0,h1,h2,h3⟩=>⟨fun hlt=>?_,fun hge=>?_⟩⟩⟩
 ·grind
 ·have hlt:i<(ks.length:Int):=by simpa using hlt
  have e:=bh (0:Int) h0 hlt;have hm:=hks _ (aJ (0:Int) h0 hlt);simp only [e] at h3;simp only [dd,List.any_cons,ah] at *
  grind
 ·rw [b7 (by simpa using hge)] at h3;simp only [dd,List.any_nil] at *
  grind
theorem yK:yd.ok Tryz.prog 253:=aD (ann:=zO) ap Tryz.func253 (by kernel_rfl) u7
end
section
open Go
set_option maxRecDepth 100000
set_option maxHeartbeats 1000000
def vB:Spec:={ Ts:=[.arr bi],Rs:=[.own 45 bi],pre:=fun _=>True,F:=fun (x:List Int)=>x }
def nc:Prop :=
  ∀ (x:List Int),(x.length * 8<=ax/\∀ (x_1:Int),x_1∈x->ah .u64 x_1)->True->(x=([]:List Int)->([]:List Int)=x/\True)/\(True->(0+x.length) * 8<=ax/\([]:List Int)++x=x/\True)
theorem sM:nc:=by
 unfold nc;intro x ⟨hb,_⟩ _;simp [hb]
theorem bI:vB.ok Tryz.prog 94:=aD (ann:=co) ap Tryz.func94 (by kernel_rfl) sM
def kx (L at_ n:Int):Bool:=decide (0<=n)&&decide (0<=at_)&&decide (at_<=L)&&decide (n<=L - at_)
theorem Av (L:Nat) (n k:Int):em L n [k]=if 256<L then 2 else if kx L k n=true then 0 else 4:=by
 simp only [em,dd,kx,List.any_cons,List.any_nil]
 grind
theorem m6 (L k n:Int):kx L k n=true ↔ 0<=n/\0<=k/\k<=L/\n<=L - k:=by
 simp [kx,and_assoc]
def o8 (n:Int):List Int×Int:=if n<0\/256<n then ([],4) else (List.replicate n.toNat 0,0)
def DD:Spec:={ Ts:=[ty_I],Rs:=[.own 45 bi,.dat ty_I],pre:=fun _=>True,F:=o8 }
def tv:Prop :=
  ∀ (x:Int),ah .i64 x->True->((decide (x<0)||decide (256<x))=true->([]:List Int)=(o8 x).1/\4=(o8 x).2/\True)/\((decide (x<0)||decide (256<x))=false->0<=x/\x.toNat * 8<=ax/\List.replicate x.toNat (0:Int)=(o8 x).1/\0=(o8 x).2/\True)
theorem z6:tv:=by
 unfold tv;intro n hw _;simp only [ah,o8,ax] at *
 grind
theorem D8:DD.ok Tryz.prog 54:=aD (ann:=co) ap Tryz.func54 (by kernel_rfl) z6
def lJ (a:List Int) (t:Nat) (ys:List Int) (k:Nat):List Int:=a.take t++(ys.take k++a.drop (t+k))
def eB (a:List Int) (at_ n v:Int) (k:Int):List Int:=lJ a at_.toNat (List.replicate n.toNat v) k.toNat
theorem D3 (a:List Int) (t:Nat) (ys:List Int):lJ a t ys 0=a:=by simp [lJ]
theorem yG (a:List Int) (t:Nat) (ys:List Int) (k:Nat) (h:t+ys.length<=a.length) (hk:k<=ys.length):(lJ a t ys k).length=a.length:=by
 simp [lJ]; omega
theorem Hd (a:List Int) (t:Nat) (ys:List Int) (k:Nat) (v:Int) (h:t+ys.length<=a.length) (hk:k<ys.length) (hv:ys.getD k 0=v):(lJ a t ys k).set (t+k) v=lJ a t ys (k+1):=by
 have hv:v=ys[k]:=by rw [<- hv]; simp [hk]
 subst hv;unfold lJ;have l1:(a.take t).length=t:=by simp; omega
 have l2:(ys.take k).length=k:=by simp; omega
 rw [List.set_append_right _ _ (by omega),l1,List.set_append_right _ _ (by omega),l2,show t+k - t - k=0 by omega,List.drop_eq_getElem_cons (show t+k<a.length by omega),List.set_cons_zero,
  List.take_succ_eq_append_getElem hk,show t+(k+1)=t+k+1 by omega,List.append_assoc]
 rfl
theorem Ez (a:List Int) (at_ n v:Int):eB a at_ n v 0=a:=D3 _ _ _
theorem EA (a:List Int) (at_ n v k:Int) (h0:0<=at_) (h1:at_+n<=a.length) (k0:0<=k) (k1:k<n):(eB a at_ n v k).set (at_+k).toNat v=eB a at_ n v (k+1):=by
 unfold eB;rw [show (at_+k).toNat=at_.toNat+k.toNat by omega,show (k+1).toNat=k.toNat+1 by omega];exact Hd _ _ _ _ _ (by simp; omega) (by simp; omega) (by simp [show k.toNat<n.toNat by omega])
theorem fH (a:List Int) (at_ n v k:Int) (h0:0<=at_) (h1:at_+n<=a.length) (k0:0<=k) (k1:k<=n):(eB a at_ n v k).length=a.length :=
 yG _ _ _ _ (by simp; omega) (by simp; omega)
def gX (a:List Int) (at_ n v:Int):List Int×Int:=if em a.length n [at_]=0 then (eB a at_ n v n,0) else ([],em a.length n [at_])
def CM:Nat->Option LoopGen
 | 6=>some { rd:=[.dat 0 (.arr bi),.dat 1 ty_I,.dat 2 ty_I,.dat 3 bi],wr:=[11],A:=fun ((a,at_,n,v):List Int×Int×Int×Int)=>{ cs:=[.own 11 45 bi,.dat 24 ty_I],inv:=fun ((out,k):List Int×Int)=>0<=k/\k<=n/\0<=at_/\at_+n<=a.length/\a.length<=256/\out=eB a at_ n v k,mu:=fun ((_,k):List Int×Int)=>(n - k).toNat } }
 | _=>none
def AA:Spec:={ Ts:=[.arr bi,ty_I,ty_I,bi],Rs:=[.own 45 bi,.dat ty_I],pre:=fun _=>True,F:=fun ((a,at_,n,v):List Int×Int×Int×Int)=>gX a at_ n v }
def qV:Prop :=
  ∀ (x:List Int×Int×Int×Int),(x.1.length * 8<=ax/\∀ (x_1:Int),x_1∈x.1->ah .u64 x_1)/\ah .i64 x.2.1/\ah .i64 x.2.2.1/\ah .u64 x.2.2.2->True->True/\(decide (em x.1.length x.2.2.1 [x.2.1]≠0)=true->([]:List Int)=(gX x.1 x.2.1 x.2.2.1 x.2.2.2).1/\em x.1.length x.2.2.1 [x.2.1]=(gX x.1 x.2.1 x.2.2.1 x.2.2.2).2/\True)/\(decide (em x.1.length x.2.2.1 [x.2.1]≠0)=false->True/\((0:Int)<=0/\0<=x.2.2.1/\0<=x.2.1/\x.2.1+x.2.2.1<=(x.1.length:Int)/\x.1.length<=256/\x.1=eB x.1 x.2.1 x.2.2.1 x.2.2.2 0)/\∀ (x_1:List Int×Int),0<=x_1.2/\x_1.2<=x.2.2.1/\0<=x.2.1/\x.2.1+x.2.2.1<=(x.1.length:Int)/\x.1.length<=256/\x_1.1=eB x.1 x.2.1 x.2.2.1 x.2.2.2 x_1.2->(decide (x_1.2<x.2.2.1)=true->ah .i64 (x.2.1+x_1.2)/\0<=x.2.1+x_1.2/\x.2.1+x_1.2<(x_1.1.length:Int)/\(x.2.1+x_1.2).toNat<x_1.1.length/\ah .i64 (x_1.2+1)/\(0<=x_1.2+1/\x_1.2+1<=x.2.2.1/\0<=x.2.1/\x.2.1+x.2.2.1<=(x.1.length:Int)/\x.1.length<=256/\x_1.1.set (x.2.1+x_1.2).toNat x.2.2.2=eB x.1 x.2.1 x.2.2.1 x.2.2.2 (x_1.2+1))/\(x.2.2.1 - (x_1.2+1)).toNat<(x.2.2.1 - x_1.2).toNat)/\(decide (x_1.2<x.2.2.1)=false->x_1.1=(gX x.1 x.2.1 x.2.2.1 x.2.2.2).1/\0=(gX x.1 x.2.1 x.2.2.1 x.2.2.2).2/\True))
theorem xB:qV:=by
 unfold qV;intro ⟨a,at_,n,v⟩ ⟨⟨ha,_⟩,h1,h2,_⟩ _;simp only [gX,Av] at *;by_cases cl:256<a.length
 ·simp [cl]
 by_cases ok:kx a.length at_ n=true
 ·obtain ⟨o1,o2,o3,o4⟩:=(m6 _ _ _).1 ok;simp only [cl,ok,if_true,if_false];refine ⟨trivial,fun h=>by simp at h,fun _=>⟨trivial,⟨by omega,o1,o2,by omega,by omega,(Ez _ _ _ _).symm⟩,fun ⟨out,k⟩ ⟨k0,k1,_,q1,q2,q3⟩=>⟨fun hk=>?_,fun hk=>?_⟩⟩⟩
  ·have hk:k<n:=by simpa using hk
   simp only at *;have hl:out.length=a.length:=by rw [q3]; exact fH _ _ _ _ _ o2 q1 k0 k1
   refine ⟨by simp only [ah]; omega,by omega,by omega,by omega,by simp only [ah]; omega,⟨by omega,by omega,o2,q1,q2,?_⟩,by omega⟩;rw [q3];exact EA _ _ _ _ _ o2 q1 k0 hk
  ·have hk:¬ k<n:=by simpa using hk
   simp only at *;have:k=n:=by omega
   subst this;simp [q3]
 ·simp [cl,ok]
theorem mf:AA.ok Tryz.prog 218:=aD (ann:=CM) (ae yK (ae bI ap)) Tryz.func218 (by kernel_rfl) xB
end
section
open Go
def ag {α:Type} (f:α->Bool):Int->List α->Int
 | _,[]=>-1
 | k,x::l=>if f x then k else ag f (k+1) l
theorem eA {α:Type} (f:α->Bool):∀ (l:List α) (k:Int),ag f k l=-1\/(k<=ag f k l/\ag f k l<k+l.length)
 | [],_=>.inl rfl
 | x::l,k=>by
  have ih:=eA f l (k+1);simp only [ag,List.length_cons];split
  ·right; omega
  ·rcases ih with h | h
   ·exact .inl h
   ·right; omega
theorem dW {α:Type} (f:α->Bool) (_:α) (l:List α) (k:Int) (_:0<=k):ag f k l<k+l.length:=by
 rcases eA f l k with h | h <;> omega
theorem dX {α:Type} (f:α->Bool) (d:α):∀ (l:List α) (k:Int),0<=ag f k l->0<=k->f (l.getD (ag f k l - k).toNat d)=true
 | [],_,h,_=>by simp [ag] at h
 | x::l,k,h,hk=>by
  have hr:=eA f l (k+1);have ih:=dX f d l (k+1);simp only [ag] at h ⊢;split at h
  ·rename_i hx;rw [if_pos hx];simpa using hx
  ·rename_i hx;rw [if_neg hx];have:=ih h (by omega);rw [show (ag f (k+1) l - k).toNat=(ag f (k+1) l - (k+1)).toNat+1 by omega];simpa using this
theorem cR {α:Type} (f:α->Bool):∀ (l:List α) (k:Int),0<=k->(decide (0<=ag f k l)=l.any f)
 | [],_,_=>rfl
 | x::l,k,h=>by
  have ih:=cR f l (k+1) (by omega);simp only [ag,List.any_cons];by_cases hx:f x=true
  ·simp [hx,h]
  ·have hx:f x=false:=by simpa using hx
   simp only [hx,Bool.false_eq_true,if_false,Bool.false_or];exact ih
end
section
open Go
set_option maxRecDepth 100000
set_option maxHeartbeats 1000000
abbrev dZ:=Int×Int×Int×Bool
def aa (h:dZ):Int:=1+h.1+h.2.1
def af (h:dZ):Int :=
 if h.1<0\/256<h.1\/h.2.1<0\/256<h.2.1\/h.2.2.1<0\/65535<h.2.2.1 then 4
 else if h.2.2.2=true/\(h.1≠0\/h.2.2.1≠0) then 3
 else if 256<aa h then 2 else 0
def aI (h:dZ):Int:=h.1+65536 * h.2.1+4294967296 * h.2.2.1+(if h.2.2.2 then 281474976710656 else 0)
def aV (v:Int):dZ:=(v % 65536,v / 65536 % 65536,v / 4294967296 % 65536,decide (v / 281474976710656=1))
def a8 (v:Int):Bool:=v / 281474976710656<=1&&af (aV v) == 0
def bH:dZ:=(0,0,0,false)
theorem aX {h:dZ} (h0:af h=0):0<=h.1/\0<=h.2.1/\0<=h.2.2.1/\h.2.2.1<=65535/\1+h.1+h.2.1<=256/\(h.2.2.2=true->h.1=0/\h.2.2.1=0):=by
 grind [af,aa]
theorem vO {h:dZ} (h0:af h=0) :
  (↑((IntKind.u64.wrap h.1).toNat ||| (IntKind.u64.wrap (IntKind.u64.wrap h.2.1 * 2 ^ Int.toNat 16)).toNat):Int)=h.1+65536 * h.2.1 /\
  (↑((h.1+65536 * h.2.1).toNat ||| (IntKind.u64.wrap (IntKind.u64.wrap h.2.2.1 * 2 ^ Int.toNat 32)).toNat):Int)=h.1+65536 * h.2.1+4294967296 * h.2.2.1 /\
  (↑((h.1+65536 * h.2.1+4294967296 * h.2.2.1).toNat ||| Int.toNat 281474976710656):Int)=h.1+65536 * h.2.1+4294967296 * h.2.2.1+281474976710656:=by
 obtain ⟨h1,h2,h3,h4,h5,_⟩:=aX h0;rw [fM h1 (by omega),fM h2 (by omega),fM h3 (by omega)];have e1:(h.2.1 * 2 ^ Int.toNat 16)=h.2.1 * 65536:=rfl;have e2:(h.2.2.1 * 2 ^ Int.toNat 32)=h.2.2.1 * 4294967296:=rfl;rw [e1,e2,fM (by omega) (by omega),fM (by omega) (by omega)];have k1:=sx (i:=16) h1 h2 (by omega);have k2:=sx (i:=32) (a:=h.1+65536 * h.2.1) (by omega) h3 (by omega);have k3:=sx (i:=48) (a:=h.1+65536 * h.2.1+4294967296 * h.2.2.1) (b:=1) (by omega) (by omega) (by omega);refine ⟨?_,?_,?_⟩
 ·rw [show h.2.1 * 65536=h.2.1 * 2 ^ 16 from rfl,k1]; omega
 ·rw [show h.2.2.1 * 4294967296=h.2.2.1 * 2 ^ 32 from rfl,k2]; omega
 ·rw [show Int.toNat 281474976710656=((1:Int) * 2 ^ 48).toNat from rfl,k3]; rfl
theorem Ca {v:Int} (h0:0<=v) :
  (IntKind.i64.wrap ↑(v.toNat &&& Int.toNat 65535),IntKind.i64.wrap ↑((v / 2 ^ Int.toNat 16).toNat &&& Int.toNat 65535),IntKind.i64.wrap ↑((v / 2 ^ Int.toNat 32).toNat &&& Int.toNat 65535),
   decide (((v.toNat &&& Int.toNat 281474976710656:Nat):Int)≠0))=(v % 65536,v / 65536 % 65536,v / 4294967296 % 65536,decide (v / 281474976710656 % 2=1)):=by
 have e:Int.toNat 65535=2 ^ 16 - 1:=rfl;have e2:Int.toNat 281474976710656=2 ^ 48:=rfl;have e3:v / 2 ^ Int.toNat 16=v / 65536:=rfl;have e4:v / 2 ^ Int.toNat 32=v / 4294967296:=rfl;rw [e,e2,e3,e4,mm h0,mm (by omega),mm (by omega),JG h0];rw [show (2:Int) ^ 16=65536 from rfl,show (2:Int) ^ 48=281474976710656 from rfl];rw [m4 (by omega) (by omega),m4 (by omega) (by omega),m4 (by omega) (by omega)];congr 3;apply decide_eq_decide.2;omega
theorem xm {v:Int} (h1:v / 281474976710656<=1) (h0:0<=v):(v % 65536,v / 65536 % 65536,v / 4294967296 % 65536,decide (v / 281474976710656 % 2=1))=aV v:=by
 simp only [aV];congr 3;apply decide_eq_decide.2;omega
def AQ:Spec:={ Ts:=[gE],Rs:=[.dat ty_I],pre:=fun (h:dZ)=>ah .i64 (1+h.1)/\ah .i64 (1+h.1+h.2.1),F:=aa }
def rl:Prop :=
  ∀ (x:Int×Int×Int×Bool),ah .i64 x.1/\ah .i64 x.2.1/\ah .i64 x.2.2.1/\True->ah .i64 (1+x.1)/\ah .i64 (1+x.1+x.2.1)->ah .i64 (1+x.1)/\ah .i64 (1+x.1+x.2.1)/\1+x.1+x.2.1=aa x/\True
theorem xP:rl:=by
 unfold rl;intro x h1 h2;exact ⟨h2.1,h2.2,rfl,trivial⟩
theorem rH:AQ.ok Tryz.prog 79:=aD (ann:=co) ap Tryz.func79 (by kernel_rfl) xP
def yj:Spec:={ Ts:=[gE],Rs:=[.dat ty_I],pre:=fun _=>True,F:=af }
def oR:Prop :=
  ∀ (x:Int×Int×Int×Bool),ah .i64 x.1/\ah .i64 x.2.1/\ah .i64 x.2.2.1/\True->True->((decide ((if x.2.2.1<if x.2.1<x.1 then x.2.1 else x.1 then x.2.2.1 else if x.2.1<x.1 then x.2.1 else x.1)<0)||decide (256<if x.1<x.2.1 then x.2.1 else x.1)||decide (65535<x.2.2.1))=true->4=af x/\True)/\((decide ((if x.2.2.1<if x.2.1<x.1 then x.2.1 else x.1 then x.2.2.1 else if x.2.1<x.1 then x.2.1 else x.1)<0)||decide (256<if x.1<x.2.1 then x.2.1 else x.1)||decide (65535<x.2.2.1))=false->((x.2.2.2&&(decide (0<x.1)||decide (0<x.2.2.1)))=true->3=af x/\True)/\((x.2.2.2&&(decide (0<x.1)||decide (0<x.2.2.1)))=false->(ah .i64 (1+x.1)/\ah .i64 (1+x.1+x.2.1))/\(decide (256<aa x)=true->2=af x/\True)/\(decide (256<aa x)=false->0=af x/\True)))
theorem vh:oR:=by
 unfold oR;intro x h1 _
 grind [ah,af,aa]
theorem iX:yj.ok Tryz.prog 78:=aD (ann:=co) (ae rH ap) Tryz.func78 (by kernel_rfl) vh
def AO:Spec:={ Ts:=[gE],Rs:=[.dat bi,.dat ty_I],pre:=fun _=>True,F:=fun (h:dZ)=>((if af h=0 then aI h else 0,af h):Int×Int) }
def rj:Prop :=
  ∀ (x:Int×Int×Int×Bool),ah .i64 x.1/\ah .i64 x.2.1/\ah .i64 x.2.2.1/\True->True->True/\(decide (af x≠0)=true->((0:Int)=if af x=0 then aI x else (0:Int))/\af x=af x/\True)/\(decide (af x≠0)=false->(0:Int)<=16/\16<(↑IntKind.u64.bits:Int)/\(0:Int)<=32/\32<(↑IntKind.u64.bits:Int)/\(x.2.2.2=true->((↑((↑((↑((IntKind.u64.wrap x.1).toNat ||| (IntKind.u64.wrap (IntKind.u64.wrap x.2.1 * 2 ^ Int.toNat 16)).toNat):Int).toNat ||| (IntKind.u64.wrap (IntKind.u64.wrap x.2.2.1 * 2 ^ Int.toNat 32)).toNat):Int).toNat ||| Int.toNat 281474976710656):Int)=if af x=0 then aI x else (0:Int))/\0=af x/\True)/\(x.2.2.2=false->((↑((↑((IntKind.u64.wrap x.1).toNat ||| (IntKind.u64.wrap (IntKind.u64.wrap x.2.1 * 2 ^ Int.toNat 16)).toNat):Int).toNat ||| (IntKind.u64.wrap (IntKind.u64.wrap x.2.2.1 * 2 ^ Int.toNat 32)).toNat):Int)=if af x=0 then aI x else (0:Int))/\0=af x/\True))
theorem xN:rj:=by
 unfold rj;intro x hw _;refine ⟨trivial,fun h=>?_,fun h=>?_⟩
 ·have:af x≠0:=by simpa using h
  simp [this]
 ·have h0:af x=0:=by simpa using h
  obtain ⟨b1,b2,b3⟩:=vO h0;refine ⟨by decide,by decide,by decide,by decide,fun hf=>?_,fun hf=>?_⟩
  ·rw [b1,b2,b3,if_pos h0,h0];exact ⟨by simp [aI,hf],rfl,trivial⟩
  ·rw [b1,b2,if_pos h0,h0];exact ⟨by simp [aI,hf],rfl,trivial⟩
theorem ix:AO.ok Tryz.prog 56:=aD (ann:=co) (ae iX ap) Tryz.func56 (by kernel_rfl) xN
def yi:Spec:={ Ts:=[gE],Rs:=[.dat ty_I,.dat ty_I],pre:=fun _=>True,F:=fun (h:dZ)=>((if af h=0 then aa h else 0,af h):Int×Int) }
def oQ:Prop :=
  ∀ (x:Int×Int×Int×Bool),ah .i64 x.1/\ah .i64 x.2.1/\ah .i64 x.2.2.1/\True->True->True/\(decide (af x≠0)=true->((0:Int)=if af x=0 then aa x else (0:Int))/\af x=af x/\True)/\(decide (af x≠0)=false->(ah .i64 (1+x.1)/\ah .i64 (1+x.1+x.2.1))/\(aa x=if af x=0 then aa x else (0:Int))/\0=af x/\True)
theorem vg:oQ:=by
 unfold oQ;intro x hw _;refine ⟨trivial,fun h=>?_,fun h=>?_⟩
 ·have:af x≠0:=by simpa using h
  simp [this]
 ·have h0:af x=0:=by simpa using h
  obtain ⟨b1,b2,b3,b4,b5,_⟩:=aX h0;simp only [ah,h0,if_true,and_true];omega
theorem iW:yi.ok Tryz.prog 20:=aD (ann:=co) (ae iX (ae rH ap)) Tryz.func20 (by kernel_rfl) vg
def AP:Spec:={ Ts:=[bi],Rs:=[.dat gE,.dat ty_I],pre:=fun _=>True,F:=fun (v:Int)=>((if a8 v then aV v else bH,if a8 v then 0 else 3):dZ×Int) }
def rk:Prop :=
  ∀ (x:Int),ah .u64 x->True->(0:Int)<=16/\16<(↑IntKind.u64.bits:Int)/\(0:Int)<=32/\32<(↑IntKind.u64.bits:Int)/\(0:Int)<=49/\49<(↑IntKind.u64.bits:Int)/\(decide (x / 2 ^ Int.toNat (49:Int)≠0)=false->True)/\((decide (x / 2 ^ Int.toNat (49:Int)≠0)||decide (af (IntKind.i64.wrap (↑(x.toNat &&& Int.toNat 65535):Int),IntKind.i64.wrap (↑((x / 2 ^ Int.toNat 16).toNat &&& Int.toNat 65535):Int),IntKind.i64.wrap (↑((x / 2 ^ Int.toNat 32).toNat &&& Int.toNat 65535):Int),decide ((↑(x.toNat &&& Int.toNat 281474976710656):Int)≠0))≠0))=true->((0,0,0,false)=if a8 x=true then aV x else bH)/\((3:Int)=if a8 x=true then (0:Int) else (3:Int))/\True)/\((decide (x / 2 ^ Int.toNat (49:Int)≠0)||decide (af (IntKind.i64.wrap (↑(x.toNat &&& Int.toNat 65535):Int),IntKind.i64.wrap (↑((x / 2 ^ Int.toNat 16).toNat &&& Int.toNat 65535):Int),IntKind.i64.wrap (↑((x / 2 ^ Int.toNat 32).toNat &&& Int.toNat 65535):Int),decide ((↑(x.toNat &&& Int.toNat 281474976710656):Int)≠0))≠0))=false->((IntKind.i64.wrap (↑(x.toNat &&& Int.toNat 65535):Int),IntKind.i64.wrap (↑((x / 2 ^ Int.toNat 16).toNat &&& Int.toNat 65535):Int),IntKind.i64.wrap (↑((x / 2 ^ Int.toNat 32).toNat &&& Int.toNat 65535):Int),decide ((↑(x.toNat &&& Int.toNat 281474976710656):Int)≠0))=if a8 x=true then aV x else bH)/\((0:Int)=if a8 x=true then (0:Int) else (3:Int))/\True)
theorem xO:rk:=by
 unfold rk;intro x hw _;have hx:0<=x:=hw.1;rw [Ca hx,show x / 2 ^ Int.toNat 49=x / 562949953421312 from rfl];refine ⟨by decide,by decide,by decide,by decide,by decide,by decide,fun _=>trivial,fun h=>?_,fun h=>?_⟩
 ·have:a8 x=false:=by
   rcases Int.lt_or_le 1 (x / 281474976710656) with h1 | h1
   ·simp [a8,show ¬ x / 281474976710656<=1 by omega]
   ·rw [xm h1 hx] at h;have e:x / 562949953421312=0:=by omega
    simp only [e,ne_eq,not_true_eq_false,decide_false,Bool.false_or,decide_eq_true_eq] at h;simp [a8,h]
  simp [this,bH]
 ·have h1:x / 281474976710656<=1:=by
   have:x / 562949953421312=0:=by
    apply Classical.byContradiction;intro hne;simp [hne] at h
   omega
  rw [xm h1 hx] at h ⊢
  have:a8 x=true:=by
   simp only [Bool.or_eq_false_iff,decide_eq_false_iff_not,ne_eq,Classical.not_not] at h;simp [a8,h1,h.2]
  simp [this]
theorem BU:AP.ok Tryz.prog 222:=aD (ann:=co) (ae iX ap) Tryz.func222 (by kernel_rfl) xO
end
section
open Go
set_option maxRecDepth 100000
set_option maxHeartbeats 1000000
abbrev cE:Ty:=.pair ty_I gE
abbrev aw:=Int×dZ
theorem dU {v:Int} (h:a8 v=true):1<=aa (aV v)/\aa (aV v)<=256:=by
 simp only [a8,Bool.and_eq_true,beq_iff_eq] at h;have:=aX h.2;unfold aa;omega
def spotsS (at_:Int) (l:List Int):Option (List aw) :=
 match l with
 | []=>some []
 | v::r=>if _h:a8 v=true/\aa (aV v)<=((v::r).length:Int) then (spotsS (at_+aa (aV v)) ((v::r).drop (aa (aV v)).toNat)).map ((at_,aV v)::·) else none
termination_by l.length
decreasing_by
 have:=dU _h.1;simp only [List.length_drop,List.length_cons];omega
def ac (a:List Int):List aw×Int:=if 256<a.length then ([],2) else match spotsS 0 a with
 | none=>([],3)
 | some l=>(l,0)
theorem cK {at_:Int} {v:Int} {r:List Int} (h:a8 v=true) (h2:aa (aV v)<=((v::r).length:Int)) :
  spotsS at_ (v::r)=(spotsS (at_+aa (aV v)) ((v::r).drop (aa (aV v)).toNat)).map ((at_,aV v)::·):=by
 rw [spotsS,dif_pos ⟨h,h2⟩]
theorem eH {at_:Int} {v:Int} {r:List Int} (h:¬ (a8 v=true/\aa (aV v)<=((v::r).length:Int))):spotsS at_ (v::r)=none:=by
 rw [spotsS,dif_neg h]
theorem pW (at_:Int) (l:List Int) (r:List aw) (h:spotsS at_ l=some r):∀ s∈r,at_<=s.1/\s.1+aa s.2<=at_+l.length/\af s.2=0:=by
 induction at_,l using spotsS.induct generalizing r with
 | case1 at_ =>
  simp only [spotsS,Option.some.injEq] at h;subst h;simp
 | case2 at_ v l hv ih =>
  rw [cK hv.1 hv.2] at h;obtain ⟨r',hr,rfl⟩:=Option.map_eq_some_iff.1 h;have hl:=dU hv.1
  have hf:af (aV v)=0:=by
   have:=hv.1;simp only [a8,Bool.and_eq_true,beq_iff_eq] at this;exact this.2
  intro s hs;rcases List.mem_cons.1 hs with rfl | hs
  ·have:=hv.2;exact ⟨by simp,by simp only; omega,hf⟩
  ·obtain ⟨h1,h2,h3⟩:=ih r' hr s hs;rw [List.length_drop] at h2;have:=hv.2;exact ⟨by omega,by omega,h3⟩
 | case3 at_ v l hv =>
  rw [eH hv] at h;cases h
theorem vt (at_:Int) (l:List Int) (r:List aw) (h:spotsS at_ l=some r):r.length<=l.length:=by
 induction at_,l using spotsS.induct generalizing r with
 | case1 at_ =>
  simp only [spotsS,Option.some.injEq] at h;subst h;simp
 | case2 at_ v l hv ih =>
  rw [cK hv.1 hv.2] at h;obtain ⟨r',hr,rfl⟩:=Option.map_eq_some_iff.1 h;have hl:=dU hv.1;have:=ih r' hr;rw [List.length_drop] at this;simp only [List.length_cons] at *;omega
 | case3 at_ v l hv =>
  rw [eH hv] at h;cases h
theorem eV (a:List Int):(ac a).1.length<=256:=by
 unfold ac;split
 ·simp
 ·cases e:spotsS 0 a with
  | none=>simp
  | some l =>
   have:=vt 0 a l e;simp only;omega
def zN:Nat->Option LoopGen
 | 5=>some { rd:=[.dat 0 (.arr bi)],A:=fun (a:List Int)=>{ cs:=[.own 4 202 cE,.dat 5 ty_I],inv:=fun ((out,at_):List aw×Int)=>a.length<=256/\0<=at_/\at_<=a.length/\out.length<=at_/\spotsS 0 a=(spotsS at_ (a.drop at_.toNat)).map (out++·),mu:=fun ((_,at_):List aw×Int)=>(a.length - at_).toNat } }
 | _=>none
def yb:Spec:={ Ts:=[.arr bi],Rs:=[.own 202 cE,.dat ty_I],pre:=fun _=>True,F:=ac }
def oJ:Prop :=
  ∀ (x:List Int),(x.length * 8<=ax/\∀ (x_1:Int),x_1∈x->ah .u64 x_1)->True->(decide (256<(x.length:Int))=true->([]:List (Int×Int×Int×Int×Bool))=(ac x).1/\2=(ac x).2/\True)/\(decide (256<(x.length:Int))=false->(x.length<=256/\(0:Int)<=0/\0<=(x.length:Int)/\(↑(0:Nat):Int)<=0/\spotsS 0 x=Option.map (fun (x:List aw)=>([]:List (Int×Int×Int×Int×Bool))++x) (spotsS 0 (List.drop (Int.toNat 0) x)))/\∀ (x_1:List (Int×Int×Int×Int×Bool)×Int),x.length<=256/\0<=x_1.2/\x_1.2<=(x.length:Int)/\(x_1.1.length:Int)<=x_1.2/\spotsS 0 x=Option.map (fun (x:List aw)=>x_1.1++x) (spotsS x_1.2 (List.drop x_1.2.toNat x))->(decide (x_1.2<(x.length:Int))=true->0<=x_1.2/\x_1.2<(x.length:Int)/\True/\True/\(decide ((if a8 (x.getD x_1.2.toNat 0)=true then (0:Int) else (3:Int))≠0)=false->ah .i64 ((x.length:Int) - x_1.2))/\((decide ((if a8 (x.getD x_1.2.toNat 0)=true then (0:Int) else (3:Int))≠0)||decide ((x.length:Int) - x_1.2<if af (if a8 (x.getD x_1.2.toNat 0)=true then aV (x.getD x_1.2.toNat 0) else bH)=0 then aa (if a8 (x.getD x_1.2.toNat 0)=true then aV (x.getD x_1.2.toNat 0) else bH) else (0:Int)))=true->([]:List (Int×Int×Int×Int×Bool))=(ac x).1/\3=(ac x).2/\True)/\((decide ((if a8 (x.getD x_1.2.toNat 0)=true then (0:Int) else (3:Int))≠0)||decide ((x.length:Int) - x_1.2<if af (if a8 (x.getD x_1.2.toNat 0)=true then aV (x.getD x_1.2.toNat 0) else bH)=0 then aa (if a8 (x.getD x_1.2.toNat 0)=true then aV (x.getD x_1.2.toNat 0) else bH) else (0:Int)))=false->(x_1.1.length+[(x_1.2,if a8 (x.getD x_1.2.toNat 0)=true then aV (x.getD x_1.2.toNat 0) else bH)].length) * (8+(8+(8+(8+8))))<=ax/\ah .i64 (x_1.2+if af (if a8 (x.getD x_1.2.toNat 0)=true then aV (x.getD x_1.2.toNat 0) else bH)=0 then aa (if a8 (x.getD x_1.2.toNat 0)=true then aV (x.getD x_1.2.toNat 0) else bH) else (0:Int))/\(x.length<=256/\(0<=x_1.2+if af (if a8 (x.getD x_1.2.toNat 0)=true then aV (x.getD x_1.2.toNat 0) else bH)=0 then aa (if a8 (x.getD x_1.2.toNat 0)=true then aV (x.getD x_1.2.toNat 0) else bH) else (0:Int))/\(x_1.2+if af (if a8 (x.getD x_1.2.toNat 0)=true then aV (x.getD x_1.2.toNat 0) else bH)=0 then aa (if a8 (x.getD x_1.2.toNat 0)=true then aV (x.getD x_1.2.toNat 0) else bH) else (0:Int))<=(x.length:Int)/\((↑(x_1.1++[(x_1.2,if a8 (x.getD x_1.2.toNat 0)=true then aV (x.getD x_1.2.toNat 0) else bH)]).length:Int)<=x_1.2+if af (if a8 (x.getD x_1.2.toNat 0)=true then aV (x.getD x_1.2.toNat 0) else bH)=0 then aa (if a8 (x.getD x_1.2.toNat 0)=true then aV (x.getD x_1.2.toNat 0) else bH) else (0:Int))/\spotsS 0 x=Option.map (fun (x_2:List aw)=>x_1.1++[(x_1.2,if a8 (x.getD x_1.2.toNat 0)=true then aV (x.getD x_1.2.toNat 0) else bH)]++x_2) (spotsS (x_1.2+if af (if a8 (x.getD x_1.2.toNat 0)=true then aV (x.getD x_1.2.toNat 0) else bH)=0 then aa (if a8 (x.getD x_1.2.toNat 0)=true then aV (x.getD x_1.2.toNat 0) else bH) else (0:Int)) (List.drop (x_1.2+if af (if a8 (x.getD x_1.2.toNat 0)=true then aV (x.getD x_1.2.toNat 0) else bH)=0 then aa (if a8 (x.getD x_1.2.toNat 0)=true then aV (x.getD x_1.2.toNat 0) else bH) else (0:Int)).toNat x)))/\((x.length:Int) - (x_1.2+if af (if a8 (x.getD x_1.2.toNat 0)=true then aV (x.getD x_1.2.toNat 0) else bH)=0 then aa (if a8 (x.getD x_1.2.toNat 0)=true then aV (x.getD x_1.2.toNat 0) else bH) else (0:Int))).toNat<((x.length:Int) - x_1.2).toNat))/\(decide (x_1.2<(x.length:Int))=false->x_1.1=(ac x).1/\0=(ac x).2/\True))
theorem u5:oJ:=by
 unfold oJ;intro a ⟨hb,hw⟩ _;by_cases cl:256<a.length
 ·have e:ac a=([],2):=by unfold ac; rw [if_pos cl]
  simp [e];omega
 have eF:ac a=match spotsS 0 a with | none=>([],3) | some l=>(l,0):=by unfold ac; rw [if_neg cl]
 refine ⟨fun h=>by simp at h; omega,fun _=>⟨⟨by omega,by omega,by omega,by simp,by simp⟩,fun ⟨out,k⟩ ⟨_,h0,h1,h2,h3⟩=>⟨fun hlt=>?_,fun hge=>?_⟩⟩⟩
 ·have hlt:k<(a.length:Int):=by simpa using hlt
  simp only at *;rw [bh (0:Int) h0 hlt] at h3;have hdl:(((a.getD k.toNat 0::a.drop (k+1).toNat).length:Nat):Int)=a.length - k:=by rw [List.length_cons,List.length_drop]; omega
  have hdd:∀ n:Int,0<=n->(a.getD k.toNat 0::a.drop (k+1).toNat).drop n.toNat=a.drop (k+n).toNat:=fun n hn=>by
   rw [<- bh (0:Int) h0 hlt,List.drop_drop];congr 1;omega
  generalize a.getD k.toNat 0=v at *;refine ⟨h0,hlt,trivial,trivial,fun _=>by simp only [ah]; omega,fun hc=>?_,fun hc=>?_⟩
  ·have hn:¬ (a8 v=true/\aa (aV v)<=((v::a.drop (k+1).toNat).length:Int)):=by
    rintro ⟨g1,g2⟩
    have hf:af (aV v)=0:=by
     have:=g1;simp only [a8,Bool.and_eq_true,beq_iff_eq] at this;exact this.2
    rw [if_pos g1,if_pos g1,if_pos hf] at hc;simp at hc;omega
   rw [eH hn] at h3;rw [eF,h3];exact ⟨rfl,rfl,trivial⟩
  ·have g1:a8 v=true:=by
    cases hv:a8 v
    ·rw [hv] at hc; simp at hc
    ·rfl
   have hf:af (aV v)=0:=by
    have:=g1;simp only [a8,Bool.and_eq_true,beq_iff_eq] at this;exact this.2
   rw [if_pos g1,if_pos g1,if_pos hf] at hc;simp at hc;have hl:=dU g1;rw [cK g1 (by omega),hdd _ (by omega),Option.map_map] at h3;rw [if_pos g1,if_pos hf];unfold ax;simp only [List.length_append,List.length_cons,List.length_nil,ah];refine ⟨by omega,by omega,⟨by omega,by omega,by omega,by omega,?_⟩,by omega⟩;rw [h3];congr 1;funext x;simp
 ·have hge:¬ k<(a.length:Int):=by simpa using hge
  simp only at *;rw [b7 hge] at h3;simp only [spotsS,Option.map_some,List.append_nil] at h3;rw [eF,h3];exact ⟨rfl,rfl,trivial⟩
theorem iU:yb.ok Tryz.prog 161:=aD (ann:=zN) (ae BU (ae iW ap)) Tryz.func161 (by kernel_rfl) u5
def aS (a:List Int) (s:aw):List Int:=(a.take (s.1+1+s.2.1).toNat).drop (s.1+1).toNat
def de (a:List Int) (s:aw):Prop:=0<=s.1/\0<=s.2.1/\0<=s.2.2.1/\s.1+1+s.2.1+s.2.2.1<=a.length
def AB:Spec:={ Ts:=[.arr bi,cE],Rs:=[.dat (.arr bi)],al:=true,pre:=fun ((a,s):List Int×aw)=>a.length<=256/\de a s,F:=fun ((a,s):List Int×aw)=>aS a s }
def qW:Prop :=
  ∀ (x:List Int×Int×Int×Int×Int×Bool),(x.1.length * 8<=ax/\∀ (x_1:Int),x_1∈x.1->ah .u64 x_1)/\ah .i64 x.2.1/\ah .i64 x.2.2.1/\ah .i64 x.2.2.2.1/\ah .i64 x.2.2.2.2.1/\True->x.1.length<=256/\de x.1 x.2->ah .i64 (x.2.1+1)/\ah .i64 (x.2.1+1)/\ah .i64 (x.2.1+1+x.2.2.1)/\0<=x.2.1+1/\x.2.1+1<=x.2.1+1+x.2.2.1/\x.2.1+1+x.2.2.1<=(x.1.length:Int)/\List.drop (x.2.1+1).toNat (List.take (x.2.1+1+x.2.2.1).toNat x.1)=aS x.1 x.2/\True
theorem xC:qW:=by
 unfold qW;intro ⟨a,s⟩ _ ⟨h,h1,h2,h3,h4⟩;simp only [ah,aS] at *;exact ⟨by omega,by omega,by omega,by omega,by omega,by omega,trivial,trivial⟩
theorem rD:AB.ok Tryz.prog 224:=aD (ann:=co) ap Tryz.func224 (by kernel_rfl) xC
def d7 (m:List (Int×Int)) (i:Int):List aw->List (Int×Int)
 | []=>m
 | s::l=>d7 (if s.2.2.2.2=true then m else fU m (s.1+1) i) (i+1) l
def cB (l:List aw):List (Int×Int):=d7 [(0,-1)] 0 l
def wg:Nat->Option LoopGen
 | 3=>some { rd:=[.dat 8 (.arr cE)],A:=fun (l:List aw)=>{ cs:=[.map 6 .u64 ty_I,.dat 10 ty_I],inv:=fun ((m,i):List (Int×Int)×Int)=>0<=i/\i<=l.length/\(∀ s∈l,0<=s.1/\s.1<=256)/\d7 m i (l.drop i.toNat)=cB l,mu:=fun ((_,i):List (Int×Int)×Int)=>(l.length - i).toNat } }
 | _=>none
def vu:Spec:={ Ts:=[.arr cE],Rs:=[.map .u64 ty_I],pre:=fun (l:List aw)=>∀ s∈l,0<=s.1/\s.1<=256,F:=cB }
def m7:Prop :=
  ∀ (x:List (Int×Int×Int×Int×Bool)),(x.length * (8+(8+(8+(8+8))))<=ax/\∀ (x_1:Int×Int×Int×Int×Bool),x_1∈x->ah .i64 x_1.1/\ah .i64 x_1.2.1/\ah .i64 x_1.2.2.1/\ah .i64 x_1.2.2.2.1/\True)->(∀ (s:aw),s∈x->0<=s.1/\s.1<=256)->((0:Int)<=0/\0<=(x.length:Int)/\(∀ (s:aw),s∈x->0<=s.1/\s.1<=256)/\d7 (fU ([]:List (Int×Int)) 0 (-1)) 0 (List.drop (Int.toNat 0) x)=cB x)/\∀ (x_1:List (Int×Int)×Int),0<=x_1.2/\x_1.2<=(x.length:Int)/\(∀ (s:aw),s∈x->0<=s.1/\s.1<=256)/\d7 x_1.1 x_1.2 (List.drop x_1.2.toNat x)=cB x->(decide (x_1.2<(x.length:Int))=true->0<=x_1.2/\x_1.2<(x.length:Int)/\((!(x.getD x_1.2.toNat (0,0,0,0,false)).2.2.2.2)=true->ah .u64 (IntKind.u64.wrap (x.getD x_1.2.toNat (0,0,0,0,false)).1+1)/\ah .i64 (x_1.2+1)/\(0<=x_1.2+1/\x_1.2+1<=(x.length:Int)/\(∀ (s:aw),s∈x->0<=s.1/\s.1<=256)/\d7 (fU x_1.1 (IntKind.u64.wrap (x.getD x_1.2.toNat (0,0,0,0,false)).1+1) x_1.2) (x_1.2+1) (List.drop (x_1.2+1).toNat x)=cB x)/\((x.length:Int) - (x_1.2+1)).toNat<((x.length:Int) - x_1.2).toNat)/\((!(x.getD x_1.2.toNat (0,0,0,0,false)).2.2.2.2)=false->ah .i64 (x_1.2+1)/\(0<=x_1.2+1/\x_1.2+1<=(x.length:Int)/\(∀ (s:aw),s∈x->0<=s.1/\s.1<=256)/\d7 x_1.1 (x_1.2+1) (List.drop (x_1.2+1).toNat x)=cB x)/\((x.length:Int) - (x_1.2+1)).toNat<((x.length:Int) - x_1.2).toNat))/\(decide (x_1.2<(x.length:Int))=false->x_1.1=cB x/\True)
theorem sH:m7:=by
 unfold m7;intro l ⟨hb,_⟩ hp;refine ⟨⟨by omega,by omega,hp,rfl⟩,fun ⟨m,i⟩ ⟨h0,h1,_,h2⟩=>⟨fun hlt=>?_,fun hge=>?_⟩⟩
 ·have hlt:i<(l.length:Int):=by simpa using hlt
  simp only at *;have hs:=hp _ (aJ ((0,0,0,0,false):aw) h0 hlt);rw [bh ((0,0,0,0,false):aw) h0 hlt] at h2;simp only [d7] at h2;generalize l.getD i.toNat (0,0,0,0,false)=s at *;unfold ax at hb;refine ⟨h0,hlt,fun hc=>?_,fun hc=>?_⟩
  ·have hc:¬ s.2.2.2.2=true:=by simpa using hc
   rw [if_neg hc] at h2;rw [fM (by omega) (by omega)];simp only [ah];exact ⟨by omega,by omega,⟨by omega,by omega,hp,h2⟩,by omega⟩
  ·have hc:s.2.2.2.2=true:=by simpa using hc
   rw [if_pos hc] at h2;simp only [ah];exact ⟨by omega,⟨by omega,by omega,hp,h2⟩,by omega⟩
 ·rw [b7 (by simpa using hge)] at h2;exact ⟨h2,trivial⟩
theorem vG:vu.ok Tryz.prog 223:=aD (ann:=wg) ap Tryz.func223 (by kernel_rfl) sH
def gf (m:List (Int×Int)) (a:List Int) (l:List aw):Bool:=l.all fun s=>(aS a s).all fun v=>(bt m v).isSome
def am (a:List Int):List aw×List (Int×Int)×Int :=
 if (ac a).2≠0 then ([],[],(ac a).2) else if gf (cB (ac a).1) a (ac a).1=true then ((ac a).1,cB (ac a).1,0) else ([],[],5)
theorem gq {a:List Int} (h:(ac a).2=0):a.length<=256/\∀ s∈(ac a).1,de a s/\af s.2=0:=by
 unfold ac at h ⊢;split at h
 ·simp at h
 rename_i cl;rw [if_neg cl];refine ⟨by omega,?_⟩;cases e:spotsS 0 a with
 | none=>rw [e] at h; simp at h
 | some l =>
  intro s hs;obtain ⟨h1,h2,h3⟩:=pW 0 a l e s hs;have:=aX h3;unfold aa at h2;exact ⟨⟨h1,this.1,this.2.1,by omega⟩,h3⟩
def wi:Nat->Option LoopGen
 | 6=>some { rd:=[.own 24 202 cE,.dat 0 (.arr bi),.map 23 .u64 ty_I],A:=fun ((l,a,m):List aw×List Int×List (Int×Int))=>{ cs:=[.dat 26 ty_I],inv:=fun (i:Int)=>0<=i/\i<=l.length/\a.length<=256/\(∀ s∈l,de a s)/\gf m a (l.drop i.toNat)=gf m a l,mu:=fun (i:Int)=>(l.length - i).toNat } }
 | 9=>some { rd:=[.dat 32 (.arr bi),.map 23 .u64 ty_I],A:=fun ((rs,m):List Int×List (Int×Int))=>{ cs:=[.dat 34 ty_I],inv:=fun (j:Int)=>0<=j/\j<=rs.length/\((rs.drop j.toNat).all fun v=>(bt m v).isSome)=(rs.all fun v=>(bt m v).isSome),mu:=fun (j:Int)=>(rs.length - j).toNat } }
 | _=>none
def vw:Spec:={ Ts:=[.arr bi],Rs:=[.dat (.arr cE),.dat (.map .u64 ty_I),.dat ty_I],al:=true,pre:=fun _=>True,F:=am }
def m9:Prop :=
  ∀ (x:List Int),(fun (v1:type_of% (cB (ac x).1))=>(x.length * 8<=ax/\∀ (x_1:Int),x_1∈x->ah .u64 x_1)->True->True/\(decide ((ac x).2≠0)=true->([]:List (Int×Int×Int×Int×Bool))=(am x).1/\([]:List (Int×Int))=(am x).2.1/\(ac x).2=(am x).2.2/\True)/\(decide ((ac x).2≠0)=false->(∀ (s:aw),s∈(ac x).1->0<=s.1/\s.1<=256)/\((0:Int)<=0/\0<=(↑(ac x).1.length:Int)/\x.length<=256/\(∀ (s:aw),s∈(ac x).1->de x s)/\gf v1 x (List.drop (Int.toNat 0) (ac x).1)=gf v1 x (ac x).1)/\∀ (x_1:Int),(fun (v0:type_of% (aS x ((ac x).1.getD x_1.toNat (0,0,0,0,false))))=>0<=x_1/\x_1<=(↑(ac x).1.length:Int)/\x.length<=256/\(∀ (s:aw),s∈(ac x).1->de x s)/\gf v1 x (List.drop x_1.toNat (ac x).1)=gf v1 x (ac x).1->(decide (x_1<(↑(ac x).1.length:Int))=true->0<=x_1/\x_1<(↑(ac x).1.length:Int)/\x_1.toNat<(ac x).1.length/\(x.length<=256/\de x ((ac x).1.getD x_1.toNat (0,0,0,0,false)))/\((0:Int)<=0/\0<=(v0.length:Int)/\((List.drop (Int.toNat 0) v0).all fun (v:Int)=>(bt v1 v).isSome)=v0.all fun (v:Int)=>(bt v1 v).isSome)/\∀ (x_2:Int),(0<=x_2/\x_2<=(v0.length:Int)/\((List.drop x_2.toNat v0).all fun (v:Int)=>(bt v1 v).isSome)=v0.all fun (v:Int)=>(bt v1 v).isSome)->(decide (x_2<(v0.length:Int))=true->0<=x_2/\x_2<(v0.length:Int)/\((!(bt v1 (v0.getD x_2.toNat 0)).isSome)=true->([]:List (Int×Int×Int×Int×Bool))=(am x).1/\([]:List (Int×Int))=(am x).2.1/\5=(am x).2.2/\True)/\((!(bt v1 (v0.getD x_2.toNat 0)).isSome)=false->ah .i64 (x_2+1)/\(0<=x_2+1/\x_2+1<=(v0.length:Int)/\((List.drop (x_2+1).toNat v0).all fun (v:Int)=>(bt v1 v).isSome)=v0.all fun (v:Int)=>(bt v1 v).isSome)/\((v0.length:Int) - (x_2+1)).toNat<((v0.length:Int) - x_2).toNat))/\(decide (x_2<(v0.length:Int))=false->ah .i64 (x_1+1)/\(0<=x_1+1/\x_1+1<=(↑(ac x).1.length:Int)/\x.length<=256/\(∀ (s:aw),s∈(ac x).1->de x s)/\gf v1 x (List.drop (x_1+1).toNat (ac x).1)=gf v1 x (ac x).1)/\((↑(ac x).1.length:Int) - (x_1+1)).toNat<((↑(ac x).1.length:Int) - x_1).toNat))/\(decide (x_1<(↑(ac x).1.length:Int))=false->(ac x).1=(am x).1/\cB (ac x).1=(am x).2.1/\0=(am x).2.2/\True)) (aS x ((ac x).1.getD x_1.toNat (0,0,0,0,false))))) (cB (ac x).1)
theorem sJ:m9:=by
 unfold m9;intro a ⟨hb,hw⟩ _;have hlen:=eV a;have hin:=gq (a:=a);have hF:am a=if (ac a).2≠0 then ([],[],(ac a).2) else if gf (cB (ac a).1) a (ac a).1=true then ((ac a).1,cB (ac a).1,0) else ([],[],5):=rfl
 generalize cB (ac a).1=m at *;generalize (ac a).1=l at *;refine ⟨trivial,fun hc=>?_,fun hc=>?_⟩
 ·have hc:(ac a).2≠0:=by simpa using hc
  rw [hF,if_pos hc];exact ⟨rfl,rfl,rfl,trivial⟩
 have hc:(ac a).2=0:=by simpa using hc
 rw [if_neg (by omega)] at hF;obtain ⟨hal,hsp⟩:=hin hc;refine ⟨fun s hs=>?_,⟨by omega,by omega,hal,fun s hs=>(hsp s hs).1,rfl⟩,fun i ⟨h0,h1,_,_,h2⟩=>⟨fun hlt=>?_,fun hge=>?_⟩⟩
 ·have:=(hsp s hs).1;unfold de at this;omega
 ·have hlt:i<(l.length:Int):=by simpa using hlt
  have hs:=hsp _ (aJ ((0,0,0,0,false):aw) h0 hlt);rw [bh ((0,0,0,0,false):aw) h0 hlt] at h2;simp only [gf,List.all_cons] at h2;generalize l.getD i.toNat (0,0,0,0,false)=s at *;have hrl:(aS a s).length<=256:=by simp only [aS,List.length_drop,List.length_take]; omega
  generalize aS a s=rs at *;refine ⟨h0,hlt,by omega,⟨hal,hs.1⟩,⟨by omega,by omega,rfl⟩,fun j ⟨g0,g1,g2⟩=>⟨fun hlt=>?_,fun hge=>?_⟩⟩
  ·have hlt:j<(rs.length:Int):=by simpa using hlt
   rw [bh (0:Int) g0 hlt] at g2;simp only [List.all_cons] at g2;generalize rs.getD j.toNat 0=v at *;refine ⟨g0,hlt,fun hv=>?_,fun hv=>?_⟩
   ·have hv:(bt m v).isSome=false:=by simpa using hv
    rw [hv,Bool.false_and] at g2;rw [<- g2,Bool.false_and] at h2;rw [hF,if_neg (by unfold gf; rw [<- h2]; simp)];exact ⟨rfl,rfl,rfl,trivial⟩
   ·have hv:(bt m v).isSome=true:=by simpa using hv
    rw [hv,Bool.true_and] at g2;simp only [ah];exact ⟨by omega,⟨by omega,by omega,g2⟩,by omega⟩
  ·rw [b7 (by simpa using hge),List.all_nil] at g2;rw [<- g2,Bool.true_and] at h2;simp only [ah];exact ⟨by omega,⟨by omega,by omega,hal,fun s hs=>(hsp s hs).1,h2⟩,by omega⟩
 ·rw [b7 (by simpa using hge)] at h2;have h2:gf m a l=true:=by rw [<- h2]; rfl
  rw [hF,if_pos h2];exact ⟨rfl,rfl,rfl,trivial⟩
theorem ng:vw.ok Tryz.prog 162:=aD (ann:=wi) (ae iU (ae vG (ae rD ap))) Tryz.func162 (by kernel_rfl) sJ
def yc:Spec:={ Ts:=[.arr bi],Rs:=[.dat ty_I],pre:=fun _=>True,F:=fun (a:List Int)=>(am a).2.2 }
def oK:Prop :=
  ∀ (x:List Int),(x.length * 8<=ax/\∀ (x_1:Int),x_1∈x->ah .u64 x_1)->True->True/\(am x).2.2=(am x).2.2/\True
theorem u6:oK:=by
 unfold oK;intro a _ _;simp
theorem iV:yc.ok Tryz.prog 148:=aD (ann:=co) (ae ng ap) Tryz.func148 (by kernel_rfl) u6
def iq (a:List Int) (s:aw):List Int:=(a.take (s.1+1+s.2.1+s.2.2.1).toNat).drop (s.1+1+s.2.1).toNat
def gM (a:List Int) (s:aw) (m:List (Int×Int)):Obj:=(s.2.2.2.1,(aS a s).map (fun v=>(bt m v).getD 0),iq a s,s.2.2.2.2)
def wh:Nat->Option LoopGen
 | 3=>some { rd:=[.dat 20 (.arr bi),.dat 2 (.map .u64 ty_I),.box 4 cE],A:=fun ((rs,m,s):List Int×List (Int×Int)×aw)=>{ cs:=[.boxS 7 [.dat ty_I,.own 3 ty_I,.dat (.arr bi),.dat .bool],.dat 22 ty_I],inv:=fun ((o,j):Obj×Int)=>0<=j/\j<=rs.length/\rs.length<=256/\o=(s.2.2.2.1,(rs.take j.toNat).map (fun v=>(bt m v).getD 0),[],s.2.2.2.2),mu:=fun ((_,j):Obj×Int)=>(rs.length - j).toNat } }
 | _=>none
def vv:Spec:={ Ts:=[.arr bi,cE,.map .u64 ty_I],Rs:=[.dat Du],al:=true,pre:=fun ((a,s,_):List Int×aw×List (Int×Int))=>a.length<=256/\de a s,F:=fun ((a,s,m):List Int×aw×List (Int×Int))=>gM a s m }
def m8:Prop :=
  ∀ (x:List Int×(Int×Int×Int×Int×Bool)×List (Int×Int)),(fun (v0:type_of% (aS x.1 x.2.1))=>((x.1.length * 8<=ax/\∀ (x_1:Int),x_1∈x.1->ah .u64 x_1)/\(ah .i64 x.2.1.1/\ah .i64 x.2.1.2.1/\ah .i64 x.2.1.2.2.1/\ah .i64 x.2.1.2.2.2.1/\True)/\∀ (x_1:Int×Int),x_1∈x.2.2->ah .u64 x_1.1/\ah .i64 x_1.2)->x.1.length<=256/\de x.1 x.2.1->(x.1.length<=256/\de x.1 x.2.1)/\((0:Int)<=0/\0<=(v0.length:Int)/\v0.length<=256/\(x.2.1.2.2.2.1,([]:List Int),([]:List Int),x.2.1.2.2.2.2)=(x.2.1.2.2.2.1,List.map (fun (v:Int)=>(bt x.2.2 v).getD 0) (List.take (Int.toNat 0) v0),([]:List Int),x.2.1.2.2.2.2))/\∀ (x_1:(Int×List Int×List Int×Bool)×Int),0<=x_1.2/\x_1.2<=(v0.length:Int)/\v0.length<=256/\x_1.1=(x.2.1.2.2.2.1,List.map (fun (v:Int)=>(bt x.2.2 v).getD 0) (List.take x_1.2.toNat v0),([]:List Int),x.2.1.2.2.2.2)->(decide (x_1.2<(v0.length:Int))=true->0<=x_1.2/\x_1.2<(v0.length:Int)/\(x_1.1.2.1.length+[(bt x.2.2 (v0.getD x_1.2.toNat 0)).getD 0].length) * 8<=ax/\ah .i64 (x_1.2+1)/\(0<=x_1.2+1/\x_1.2+1<=(v0.length:Int)/\v0.length<=256/\(x_1.1.1,x_1.1.2.1++[(bt x.2.2 (v0.getD x_1.2.toNat 0)).getD 0],x_1.1.2.2)=(x.2.1.2.2.2.1,List.map (fun (v:Int)=>(bt x.2.2 v).getD 0) (List.take (x_1.2+1).toNat v0),([]:List Int),x.2.1.2.2.2.2))/\((v0.length:Int) - (x_1.2+1)).toNat<((v0.length:Int) - x_1.2).toNat)/\(decide (x_1.2<(v0.length:Int))=false->ah .i64 (x.2.1.1+1)/\ah .i64 (x.2.1.1+1+x.2.1.2.1)/\ah .i64 (x.2.1.1+1+x.2.1.2.1+x.2.1.2.2.1)/\0<=x.2.1.1+1+x.2.1.2.1/\x.2.1.1+1+x.2.1.2.1<=x.2.1.1+1+x.2.1.2.1+x.2.1.2.2.1/\x.2.1.1+1+x.2.1.2.1+x.2.1.2.2.1<=(x.1.length:Int)/\True/\(x_1.1.1,x_1.1.2.1,List.drop (x.2.1.1+1+x.2.1.2.1).toNat (List.take (x.2.1.1+1+x.2.1.2.1+x.2.1.2.2.1).toNat x.1),x_1.1.2.2.2)=gM x.1 x.2.1 x.2.2/\True)) (aS x.1 x.2.1)
theorem sI:m8:=by
 unfold m8;intro ⟨a,s,m⟩ _ ⟨hal,hs⟩;have hs':=hs;unfold de at hs';simp only at *;have hrl:(aS a s).length<=256:=by simp only [aS,List.length_drop,List.length_take]; omega
 have hF:gM a s m=(s.2.2.2.1,(aS a s).map (fun v=>(bt m v).getD 0),iq a s,s.2.2.2.2):=rfl;have hB:iq a s=(a.take (s.1+1+s.2.1+s.2.2.1).toNat).drop (s.1+1+s.2.1).toNat:=rfl;rw [hF,hB];generalize aS a s=rs at *;refine ⟨⟨hal,hs⟩,⟨by omega,by omega,hrl,by simp⟩,fun ⟨o,j⟩ ⟨g0,g1,_,g2⟩=>⟨fun hlt=>?_,fun hge=>?_⟩⟩
 ·have hlt:j<(rs.length:Int):=by simpa using hlt
  simp only at g0 g1 g2;have e:=bB (0:Int) g0 hlt;have hl:o.2.1.length=j.toNat:=by rw [g2]; simp; omega
  unfold ax;simp only [ah,List.length_cons,List.length_nil];refine ⟨g0,hlt,by omega,by omega,⟨by omega,by omega,hrl,?_⟩,by omega⟩;rw [e,List.map_append,g2];rfl
 ·have hge:¬ j<(rs.length:Int):=by simpa using hge
  simp only at g0 g1 g2;rw [cA hge] at g2;simp only [ah];refine ⟨by omega,by omega,by omega,by omega,by omega,by omega,trivial,?_,trivial⟩;rw [g2]
theorem vH:vv.ok Tryz.prog 165:=aD (ann:=wh) (ae rD (ae bI ap)) Tryz.func165 (by kernel_rfl) sI
theorem bq {a:List Int} (h:(am a).2.2=0):a.length<=256/\(am a).1.length<=256/\(am a).1=(ac a).1/\(ac a).2=0/\(am a).2.1=cB (ac a).1/\gf (cB (ac a).1) a (ac a).1=true/\∀ s∈(am a).1,de a s/\af s.2=0:=by
 unfold am at h ⊢;by_cases h1:(ac a).2≠0
 ·rw [if_pos h1] at h;exact absurd h h1
 ·rw [if_neg h1] at h ⊢;have h1:(ac a).2=0:=by omega
  by_cases h2:gf (cB (ac a).1) a (ac a).1=true
  ·rw [if_pos h2];exact ⟨(gq h1).1,eV a,rfl,h1,rfl,h2,(gq h1).2⟩
  ·rw [if_neg h2] at h;simp at h
def DN:Spec:={ Ts:=[.arr cE,.fn cE .bool],Rs:=[.dat ty_I],pre:=fun ((l,g):List aw×(aw->Prop)×(aw->Bool))=>∀ s∈l,g.1 s,F:=fun ((l,g):List aw×(aw->Prop)×(aw->Bool))=>ag g.2 0 l }
def EW:Nat->Option LoopGen
 | 2=>some { rd:=[.dat 0 (.arr cE),.dat 1 (.fn cE .bool)],A:=fun ((l,g):List aw×(aw->Prop)×(aw->Bool))=>{ cs:=[.dat 8 ty_I],inv:=fun (i:Int)=>0<=i/\i<=l.length/\ag g.2 i (l.drop i.toNat)=ag g.2 0 l,mu:=fun (i:Int)=>(l.length - i).toNat } }
 | _=>none
def tH:Prop :=
  ∀ (x:List (Int×Int×Int×Int×Bool)×(Int×Int×Int×Int×Bool->Prop)×(Int×Int×Int×Int×Bool->Bool)),(x.1.length * (8+(8+(8+(8+8))))<=ax/\∀ (x_1:Int×Int×Int×Int×Bool),x_1∈x.1->ah .i64 x_1.1/\ah .i64 x_1.2.1/\ah .i64 x_1.2.2.1/\ah .i64 x_1.2.2.2.1/\True)/\True->(∀ (s:aw),s∈x.1->x.2.1 s)->((0:Int)<=0/\0<=(x.1.length:Int)/\ag x.2.2 0 (List.drop (Int.toNat 0) x.1)=ag x.2.2 0 x.1)/\∀ (x_1:Int),0<=x_1/\x_1<=(x.1.length:Int)/\ag x.2.2 x_1 (List.drop x_1.toNat x.1)=ag x.2.2 0 x.1->(decide (x_1<(x.1.length:Int))=true->0<=x_1/\x_1<(x.1.length:Int)/\x.2.1 (x.1.getD x_1.toNat (0,0,0,0,false))/\(x.2.2 (x.1.getD x_1.toNat (0,0,0,0,false))=true->x_1=ag x.2.2 0 x.1/\True)/\(x.2.2 (x.1.getD x_1.toNat (0,0,0,0,false))=false->ah .i64 (x_1+1)/\(0<=x_1+1/\x_1+1<=(x.1.length:Int)/\ag x.2.2 (x_1+1) (List.drop (x_1+1).toNat x.1)=ag x.2.2 0 x.1)/\((x.1.length:Int) - (x_1+1)).toNat<((x.1.length:Int) - x_1).toNat))/\(decide (x_1<(x.1.length:Int))=false->(-1)=ag x.2.2 0 x.1/\True)
theorem Af:tH:=by
 unfold tH;intro ⟨l,g⟩ ⟨⟨hl,_⟩,_⟩ hp;unfold ax at *;refine ⟨⟨by omega,by omega,by simp⟩,fun i ⟨h0,h1,h2⟩=>⟨fun hlt=>?_,fun hge=>?_⟩⟩
 ·have hlt:i<(l.length:Int):=by simpa using hlt
  have e:=bh ((0,0,0,0,false):aw) h0 hlt;have hm:=hp _ (aJ ((0,0,0,0,false):aw) h0 hlt);simp only at *;rw [e] at h2;simp only [ag] at h2;refine ⟨h0,hlt,hm,fun hc=>?_,fun hc=>?_⟩
  ·rw [if_pos hc] at h2;exact ⟨h2,trivial⟩
  ·rw [if_neg (by rw [hc]; simp)] at h2;exact ⟨by simp only [ah]; omega,⟨by omega,by omega,h2⟩,by omega⟩
 ·rw [b7 (by simpa using hge)] at h2;exact ⟨h2,trivial⟩
theorem nG:DN.ok Tryz.prog 163:=aD (ann:=EW) ap Tryz.func163 (by kernel_rfl) Af
def G1:Spec:={ Ts:=[cE,.ref ty_I],Rs:=[.dat .bool],pre:=fun _=>True,F:=fun ((s,at_):aw×Int)=>decide (s.1=at_) }
def wV:Prop :=
  ∀ (x:(Int×Int×Int×Int×Bool)×Int),(ah .i64 x.1.1/\ah .i64 x.1.2.1/\ah .i64 x.1.2.2.1/\ah .i64 x.1.2.2.2.1/\True)/\ah .i64 x.2->True->decide (x.1.1=x.2)=decide (x.1.1=x.2)/\True
theorem Dq:wV:=by
 unfold wV;intro ⟨s,at_⟩ _ _;simp
theorem Hz:G1.ok Tryz.prog 164:=aD (ann:=co) ap Tryz.func164 (by kernel_rfl) Dq
def ig:Obj:=(0,[],[],false)
def gU (a:List Int) (at_:Int):Obj×Int :=
 if (am a).2.2≠0 then (ig,(am a).2.2) else if ag (fun s=>decide (s.1=at_)) 0 (am a).1<0 then (ig,5)
 else (gM a ((am a).1.getD (ag (fun s=>decide (s.1=at_)) 0 (am a).1).toNat (0,0,0,0,false)) (am a).2.1,0)
def GE:Spec:={ Ts:=[.arr bi,ty_I],Rs:=[.dat Du,.dat ty_I],al:=true,pre:=fun _=>True,F:=fun ((a,at_):List Int×Int)=>gU a at_ }
def wB:Prop :=
  ∀ (x:List Int×Int),(x.1.length * 8<=ax/\∀ (x_1:Int),x_1∈x.1->ah .u64 x_1)/\ah .i64 x.2->True->True/\(decide ((am x.1).2.2≠0)=true->(0,([]:List Int),([]:List Int),false)=(gU x.1 x.2).1/\(am x.1).2.2=(gU x.1 x.2).2/\True)/\(decide ((am x.1).2.2≠0)=false->(∀ (s:aw),s∈(am x.1).1->(fun (_:Int×Int×Int×Int×Bool)=>True,fun (x_1:Int×Int×Int×Int×Bool)=>decide (x_1.1=x.2)).1 s)/\(decide (ag (fun (x_1:Int×Int×Int×Int×Bool)=>decide (x_1.1=x.2)) 0 (am x.1).1<0)=true->(0,([]:List Int),([]:List Int),false)=(gU x.1 x.2).1/\5=(gU x.1 x.2).2/\True)/\(decide (ag (fun (x_1:Int×Int×Int×Int×Bool)=>decide (x_1.1=x.2)) 0 (am x.1).1<0)=false->0<=ag (fun (x_1:Int×Int×Int×Int×Bool)=>decide (x_1.1=x.2)) 0 (am x.1).1/\ag (fun (x_1:Int×Int×Int×Int×Bool)=>decide (x_1.1=x.2)) 0 (am x.1).1<(↑(am x.1).1.length:Int)/\(x.1.length<=256/\de x.1 ((am x.1).1.getD (ag (fun (x_1:Int×Int×Int×Int×Bool)=>decide (x_1.1=x.2)) 0 (am x.1).1).toNat (0,0,0,0,false)))/\gM x.1 ((am x.1).1.getD (ag (fun (x_1:Int×Int×Int×Int×Bool)=>decide (x_1.1=x.2)) 0 (am x.1).1).toNat (0,0,0,0,false)) (am x.1).2.1=(gU x.1 x.2).1/\0=(gU x.1 x.2).2/\True))
theorem C6:wB:=by
 unfold wB;intro ⟨a,at_⟩ _ _;have hin:=bq (a:=a)
 have hF:gU a at_=if (am a).2.2≠0 then (ig,(am a).2.2) else if ag (fun s=>decide (s.1=at_)) 0 (am a).1<0 then (ig,5)
   else (gM a ((am a).1.getD (ag (fun s=>decide (s.1=at_)) 0 (am a).1).toNat (0,0,0,0,false)) (am a).2.1,0):=rfl
 simp only at *;generalize (am a).1=l at *;have hlt:=dW (fun s:aw=>decide (s.1=at_)) (0,0,0,0,false) l 0 (by omega);rw [hF];refine ⟨trivial,fun hc=>?_,fun hc=>⟨fun _ _=>trivial,fun h2=>?_,fun h2=>?_⟩⟩
 ·have hc:(am a).2.2≠0:=by simpa using hc
  rw [if_pos hc];exact ⟨rfl,rfl,trivial⟩
 ·have hc:(am a).2.2=0:=by simpa using hc
  rw [if_neg (by omega),if_pos (of_decide_eq_true h2)];exact ⟨rfl,rfl,trivial⟩
 ·have hc:(am a).2.2=0:=by simpa using hc
  have h2:=of_decide_eq_false h2;rw [if_neg (by omega),if_neg h2];obtain ⟨hal,hll,_,_,_,_,hsp⟩:=hin hc;have hlt':ag (fun s:aw=>decide (s.1=at_)) 0 l<(l.length:Int):=by omega
  have h2':0<=ag (fun s:aw=>decide (s.1=at_)) 0 l:=Int.not_lt.1 h2;exact ⟨h2',hlt',⟨hal,(hsp _ (aJ _ h2' hlt')).1⟩,rfl,rfl,trivial⟩
theorem mP:GE.ok Tryz.prog 93:=aD (ann:=co) (ae ng (ae vH (ae nG (ae Hz ap)))) Tryz.func93 (by kernel_rfl) C6
end
section
open Go
set_option maxRecDepth 100000
set_option maxHeartbeats 1000000
def eE:LoopGen:={ rd:=[],A:=fun _=>{ cs:=[],inv:=fun _=>True,mu:=fun _=>0 } }
def cC (l:List Int) (n:Int):Int:=ag (fun x=>decide (x=n)) 0 l
def ft (l:List Int) (n:Int):Bool:=l.any fun x=>decide (x=n)
def KQ:Spec:={ Ts:=[.arr ty_I,ty_I],Rs:=[.dat ty_I],pre:=fun _=>True,F:=fun ((l,v):List Int×Int)=>cC l v }
def LL:Nat->Option LoopGen
 | 2=>some { rd:=[.dat 0 (.arr ty_I),.dat 1 ty_I],A:=fun ((l,v):List Int×Int)=>{ cs:=[.dat 8 ty_I],inv:=fun (i:Int)=>0<=i/\i<=l.length/\ag (fun x=>decide (x=v)) i (l.drop i.toNat)=cC l v,mu:=fun (i:Int)=>(l.length - i).toNat } }
 | _=>none
def Fl:Prop :=
  ∀ (x:List Int×Int),(x.1.length * 8<=ax/\∀ (x_1:Int),x_1∈x.1->ah .i64 x_1)/\ah .i64 x.2->True->((0:Int)<=0/\0<=(x.1.length:Int)/\ag (fun (x_1:Int)=>decide (x_1=x.2)) 0 (List.drop (Int.toNat 0) x.1)=cC x.1 x.2)/\∀ (x_1:Int),0<=x_1/\x_1<=(x.1.length:Int)/\ag (fun (x_2:Int)=>decide (x_2=x.2)) x_1 (List.drop x_1.toNat x.1)=cC x.1 x.2->(decide (x_1<(x.1.length:Int))=true->0<=x_1/\x_1<(x.1.length:Int)/\(decide (x.2=x.1.getD x_1.toNat 0)=true->x_1=cC x.1 x.2/\True)/\(decide (x.2=x.1.getD x_1.toNat 0)=false->ah .i64 (x_1+1)/\(0<=x_1+1/\x_1+1<=(x.1.length:Int)/\ag (fun (x_2:Int)=>decide (x_2=x.2)) (x_1+1) (List.drop (x_1+1).toNat x.1)=cC x.1 x.2)/\((x.1.length:Int) - (x_1+1)).toNat<((x.1.length:Int) - x_1).toNat))/\(decide (x_1<(x.1.length:Int))=false->(-1)=cC x.1 x.2/\True)
theorem Im:Fl:=by
 unfold Fl;intro ⟨l,n⟩ ⟨⟨hb,_⟩,_⟩ _;unfold ax at hb;refine ⟨⟨by omega,by omega,rfl⟩,fun i ⟨h0,h1,h2⟩=>⟨fun hlt=>?_,fun hge=>?_⟩⟩
 ·have hlt:i<(l.length:Int):=by simpa using hlt
  simp only at *;rw [bh (0:Int) h0 hlt] at h2;simp only [ag] at h2;simp only [ah];refine ⟨h0,hlt,fun hc=>?_,fun hc=>?_⟩
  ·rw [if_pos (decide_eq_true (of_decide_eq_true hc).symm)] at h2;exact ⟨h2,trivial⟩
  ·rw [if_neg (fun e=>of_decide_eq_false hc (of_decide_eq_true e).symm)] at h2;exact ⟨by omega,⟨by omega,by omega,h2⟩,by omega⟩
 ·rw [b7 (by simpa using hge)] at h2;exact ⟨h2,trivial⟩
theorem FC:KQ.ok Tryz.prog 108:=aD (ann:=LL) ap Tryz.func108 (by kernel_rfl) Im
def KS:Spec:={ Ts:=[.arr ty_I,ty_I],Rs:=[.dat .bool],pre:=fun _=>True,F:=fun ((l,v):List Int×Int)=>ft l v }
def Fn:Prop :=
  ∀ (x:List Int×Int),(x.1.length * 8<=ax/\∀ (x_1:Int),x_1∈x.1->ah .i64 x_1)/\ah .i64 x.2->True->True/\decide (0<=cC x.1 x.2)=ft x.1 x.2/\True
theorem Ip:Fn:=by
 unfold Fn;intro ⟨l,v⟩ _ _;exact ⟨trivial,cR _ l 0 (by omega),trivial⟩
theorem yN:KS.ok Tryz.prog 39:=aD (ann:=co) (ae FC ap) Tryz.func39 (by kernel_rfl) Ip
def IT:Spec:={ Ts:=[.arr ty_I,.fn ty_I .bool],Rs:=[.dat ty_I],pre:=fun ((l,g):List Int×(Int->Prop)×(Int->Bool))=>∀ s∈l,g.1 s,F:=fun ((l,g):List Int×(Int->Prop)×(Int->Bool))=>ag g.2 0 l }
def Ks:Nat->Option LoopGen
 | 2=>some { rd:=[.dat 0 (.arr ty_I),.dat 1 (.fn ty_I .bool)],A:=fun ((l,g):List Int×(Int->Prop)×(Int->Bool))=>{ cs:=[.dat 8 ty_I],inv:=fun (i:Int)=>0<=i/\i<=l.length/\ag g.2 i (l.drop i.toNat)=ag g.2 0 l,mu:=fun (i:Int)=>(l.length - i).toNat } }
 | _=>none
def Bz:Prop :=
  ∀ (x:List Int×(Int->Prop)×(Int->Bool)),(x.1.length * 8<=ax/\∀ (x_1:Int),x_1∈x.1->ah .i64 x_1)/\True->(∀ (s:Int),s∈x.1->x.2.1 s)->((0:Int)<=0/\0<=(x.1.length:Int)/\ag x.2.2 0 (List.drop (Int.toNat 0) x.1)=ag x.2.2 0 x.1)/\∀ (x_1:Int),0<=x_1/\x_1<=(x.1.length:Int)/\ag x.2.2 x_1 (List.drop x_1.toNat x.1)=ag x.2.2 0 x.1->(decide (x_1<(x.1.length:Int))=true->0<=x_1/\x_1<(x.1.length:Int)/\x.2.1 (x.1.getD x_1.toNat 0)/\(x.2.2 (x.1.getD x_1.toNat 0)=true->x_1=ag x.2.2 0 x.1/\True)/\(x.2.2 (x.1.getD x_1.toNat 0)=false->ah .i64 (x_1+1)/\(0<=x_1+1/\x_1+1<=(x.1.length:Int)/\ag x.2.2 (x_1+1) (List.drop (x_1+1).toNat x.1)=ag x.2.2 0 x.1)/\((x.1.length:Int) - (x_1+1)).toNat<((x.1.length:Int) - x_1).toNat))/\(decide (x_1<(x.1.length:Int))=false->(-1)=ag x.2.2 0 x.1/\True)
theorem Gn:Bz:=by
 unfold Bz;intro ⟨l,g⟩ ⟨⟨hl,_⟩,_⟩ hp;unfold ax at *;refine ⟨⟨by omega,by omega,by simp⟩,fun i ⟨h0,h1,h2⟩=>⟨fun hlt=>?_,fun hge=>?_⟩⟩
 ·have hlt:i<(l.length:Int):=by simpa using hlt
  have e:=bh (0:Int) h0 hlt;have hm:=hp _ (aJ (0:Int) h0 hlt);simp only at *;rw [e] at h2;simp only [ag] at h2;refine ⟨h0,hlt,hm,fun hc=>?_,fun hc=>?_⟩
  ·rw [if_pos hc] at h2;exact ⟨h2,trivial⟩
  ·rw [if_neg (by rw [hc]; simp)] at h2;exact ⟨by simp only [ah]; omega,⟨by omega,by omega,h2⟩,by omega⟩
 ·rw [b7 (by simpa using hge)] at h2;exact ⟨h2,trivial⟩
theorem BR:IT.ok Tryz.prog 107:=aD (ann:=Ks) ap Tryz.func107 (by kernel_rfl) Gn
def KX:Spec:={ Ts:=[.arr ty_I,.fn ty_I .bool],Rs:=[.dat .bool],pre:=fun ((l,g):List Int×(Int->Prop)×(Int->Bool))=>∀ s∈l,g.1 s,F:=fun ((l,g):List Int×(Int->Prop)×(Int->Bool))=>l.any g.2 }
def Ft:Prop :=
  ∀ (x:List Int×(Int->Prop)×(Int->Bool)),(x.1.length * 8<=ax/\∀ (x_1:Int),x_1∈x.1->ah .i64 x_1)/\True->(∀ (s:Int),s∈x.1->x.2.1 s)->(∀ (s:Int),s∈x.1->x.2.1 s)/\decide (0<=ag x.2.2 0 x.1)=x.1.any x.2.2/\True
theorem Iu:Ft:=by
 unfold Ft;intro ⟨l,g⟩ _ hp;exact ⟨hp,cR _ l 0 (by omega),trivial⟩
theorem yP:KX.ok Tryz.prog 37:=aD (ann:=co) (ae BR ap) Tryz.func37 (by kernel_rfl) Iu
def be:List Int->Bool
 | x::y::l=>decide (x<y)&&be (y::l)
 | _=>true
theorem yz:∀ {l:List Int},l.length<=1->be l=true
 | [],_=>rfl
 | [_],_=>rfl
 | _::_::_,h=>by simp at h
def Ko:Nat->Option LoopGen
 | 2=>some { rd:=[.dat 0 (.arr ty_I)],A:=fun (l:List Int)=>{ cs:=[.dat 3 ty_I],inv:=fun (i:Int)=>1<=i/\i<=l.length+1/\be (l.drop (i - 1).toNat)=be l,mu:=fun (i:Int)=>(l.length - i).toNat } }
 | _=>none
def IL:Spec:={ Ts:=[.arr ty_I],Rs:=[.dat .bool],pre:=fun _=>True,F:=be }
def Bs:Prop :=
  ∀ (x:List Int),(x.length * 8<=ax/\∀ (x_1:Int),x_1∈x->ah .i64 x_1)->True->((1:Int)<=1/\1<=(x.length:Int)+1/\be (List.drop ((1:Int) - 1).toNat x)=be x)/\∀ (x_1:Int),1<=x_1/\x_1<=(x.length:Int)+1/\be (List.drop (x_1 - 1).toNat x)=be x->(decide (x_1<(x.length:Int))=true->ah .i64 (x_1 - 1)/\0<=x_1 - 1/\x_1 - 1<(x.length:Int)/\0<=x_1/\x_1<(x.length:Int)/\(decide (x.getD x_1.toNat 0<=x.getD (x_1 - 1).toNat 0)=true->false=be x/\True)/\(decide (x.getD x_1.toNat 0<=x.getD (x_1 - 1).toNat 0)=false->ah .i64 (x_1+1)/\(1<=x_1+1/\x_1+1<=(x.length:Int)+1/\be (List.drop (x_1+1 - 1).toNat x)=be x)/\((x.length:Int) - (x_1+1)).toNat<((x.length:Int) - x_1).toNat))/\(decide (x_1<(x.length:Int))=false->true=be x/\True)
theorem Gg:Bs:=by
 unfold Bs;intro l ⟨hb,_⟩ _;unfold ax at hb;refine ⟨⟨by omega,by omega,rfl⟩,fun i ⟨h0,h1,h2⟩=>⟨fun hlt=>?_,fun hge=>?_⟩⟩
 ·have hlt:i<(l.length:Int):=of_decide_eq_true hlt;have e1:=bh (0:Int) (xs:=l) (i:=i - 1) (by omega) (by omega);have e2:=bh (0:Int) (xs:=l) (i:=i) (by omega) hlt;rw [show i - 1+1=i by omega] at e1;simp only [ah] at h2 ⊢;rw [e1,e2] at h2;simp only [be] at h2;rw [<- e2] at h2;refine ⟨by omega,by omega,by omega,by omega,hlt,fun hc=>?_,fun hc=>⟨by omega,⟨by omega,by omega,?_⟩,by omega⟩⟩
  ·have hc:=of_decide_eq_true hc;rw [<- h2,decide_eq_false (by omega)];exact ⟨rfl,trivial⟩
  ·have hc:=of_decide_eq_false hc;rw [decide_eq_true (by omega),Bool.true_and] at h2;rw [show i+1 - 1=i by omega];exact h2
 ·have hge:¬ i<(l.length:Int):=of_decide_eq_false hge;rw [yz (by rw [List.length_drop]; omega)] at h2;exact ⟨h2,trivial⟩
theorem Jk:IL.ok Tryz.prog 288:=aD (ann:=Ko) ap Tryz.func288 (by kernel_rfl) Gg
end
section
open Go
set_option maxRecDepth 100000
set_option maxHeartbeats 1000000
def bU (at_:Int):List aw->dZ×Bool
 | []=>(bH,false)
 | s::l=>if s.1=at_/\s.2.2.2.2=false then (s.2,true) else bU at_ l
theorem gh (at_:Int):∀ (l:List aw),bU at_ l=(bH,false)\/∃ s∈l,s.1=at_/\s.2.2.2.2=false/\bU at_ l=(s.2,true)
 | []=>.inl rfl
 | s::l=>by
  simp only [bU];split
  ·rename_i h;exact .inr ⟨s,by simp,h.1,h.2,rfl⟩
  ·rcases gh at_ l with h | ⟨t,h1,h2⟩
   ·exact .inl h
   ·exact .inr ⟨t,by simp [h1],h2⟩
def nameOf (v:Int):Int:=(if 256<v then 9999 else v) - 1
def aY:List aw->List Int
 | []=>[]
 | s::l=>if s.2.2.2.2=true then aY l else s.1::aY l
end
section
open Go
set_option maxRecDepth 100000
set_option maxHeartbeats 1000000
theorem jx:∀ l:List aw,(aY l).length<=l.length
 | []=>by simp [aY]
 | s::l=>by
  have:=jx l;simp only [aY];split <;> simp <;> omega
theorem eJ (a:List Int):∀ s∈(ac a).1,a.length<=256/\de a s/\af s.2=0:=by
 intro s hs
 have hz:(ac a).2=0:=by
  unfold ac at hs ⊢;split at hs
  ·simp at hs
  ·rename_i cl;rw [if_neg cl];cases h:spotsS 0 a with
   | none=>rw [h] at hs; simp at hs
   | some l=>rfl
 have h:=gq hz;exact ⟨h.1,(h.2 s hs).1,(h.2 s hs).2⟩
end
section
open Go
set_option maxRecDepth 100000
set_option maxHeartbeats 1000000
theorem vr (at_:Int) (l:List Int) (r:List aw) (h:spotsS at_ l=some r):r.Pairwise (fun s t=>s.1<t.1):=by
 induction at_,l using spotsS.induct generalizing r with
 | case1 at_ =>
  simp only [spotsS,Option.some.injEq] at h;subst h;exact List.Pairwise.nil
 | case2 at_ v l hv ih =>
  rw [cK hv.1 hv.2] at h;obtain ⟨r',hr,rfl⟩:=Option.map_eq_some_iff.1 h;have hl:=dU hv.1;refine List.pairwise_cons.2 ⟨fun t ht=>?_,ih r' hr⟩;have:=(pW _ _ _ hr t ht).1;simp only;omega
 | case3 at_ v l hv =>
  rw [eH hv] at h;cases h
theorem bV (a:List Int):(ac a).1.Pairwise (fun s t=>s.1<t.1):=by
 unfold ac;split
 ·exact List.Pairwise.nil
 ·cases h:spotsS 0 a with
  | none=>exact List.Pairwise.nil
  | some l=>exact vr 0 a l h
theorem jc {α:Type} (k k':Int) (x:α):∀ (m:List (Int×α)),bt (fU m k x) k'=if k'=k then some x else bt m k'
 | []=>by
  simp only [fU,bt];by_cases h:k=k'
  ·simp [h]
  ·simp [h,Ne.symm h]
 | y::m=>by
  have ih:=jc k k' x m;simp only [fU];by_cases hy:y.1=k
  ·rw [if_pos hy];simp only [bt];by_cases h:k=k'
   ·simp [h]
   ·simp [h,Ne.symm h,hy]
  ·rw [if_neg hy];simp only [bt,ih];by_cases h:y.1=k'
   ·have:k'≠k:=fun e=>hy (h.trans e)
    simp [h,this]
   ·simp [h]
def mZ (v:Int):Int->List aw->Option Int
 | _,[]=>none
 | i,s::l=>if s.2.2.2.2=false/\s.1+1=v then some i else mZ v (i+1) l
theorem w5 {v:Int}:∀ (l:List aw) (i:Int),(∀ s∈l,s.1+1≠v)->mZ v i l=none
 | [],_,_=>rfl
 | s::l,i,h=>by
  simp only [mZ];rw [if_neg (fun e=>h s (by simp) e.2)];exact w5 l (i+1) (fun t ht=>h t (by simp [ht]))
theorem jl (v:Int):∀ (l:List aw) (m:List (Int×Int)) (i:Int),l.Pairwise (fun s t=>s.1<t.1)->bt (d7 m i l) v=(mZ v i l).or (bt m v)
 | [],m,i,_=>rfl
 | s::l,m,i,h=>by
  obtain ⟨h1,h2⟩:=List.pairwise_cons.1 h;simp only [d7,mZ];rw [jl v l _ (i+1) h2];cases hf:s.2.2.2.2
  ·simp only [Bool.false_eq_true,if_false,true_and];rw [jc];by_cases hv:s.1+1=v
   ·rw [w5 l (i+1) (fun t ht e=>by have:=h1 t ht; omega),if_pos hv,if_pos hv.symm];rfl
   ·rw [if_neg hv,if_neg (fun e=>hv e.symm)]
  ·simp
theorem kI (v:Int):∀ (l:List aw) (i:Int),(mZ v i l).isSome=ft (aY l) (v - 1)
 | [],_=>rfl
 | s::l,i=>by
  have ih:=kI v l (i+1);simp only [mZ,aY];cases hf:s.2.2.2.2
  ·simp only [true_and,Bool.false_eq_true,if_false,ft,List.any_cons];by_cases hv:s.1+1=v
   ·rw [if_pos hv];simp;left; omega
   ·rw [if_neg hv,ih];have:¬ s.1=v - 1:=by omega
    simp [this,ft]
  ·simp [ih]
theorem fX (n:Int):∀ (l:List aw),(∀ s∈l,0<=s.1/\s.1<=255)->(n<0\/255<n)->ft (aY l) n=false
 | [],_,_=>rfl
 | s::l,h,hn=>by
  have ih:=fX n l (fun t ht=>h t (by simp [ht])) hn;have hs:=h s (by simp);simp only [aY];split
  ·exact ih
  ·simp only [ft,List.any_cons] at ih ⊢;rw [ih];simp;omega
theorem wZ {l:List aw} (hs:l.Pairwise (fun s t=>s.1<t.1)) (hr:∀ s∈l,0<=s.1/\s.1<=255) {v:Int} (hv:0<=v) :
  (decide (nameOf v=-1)||ft (aY l) (nameOf v))=(bt (cB l) v).isSome:=by
 unfold cB;rw [jl v l _ 0 hs];by_cases h0:v=0
 ·subst h0;cases h:mZ 0 0 l <;> simp [nameOf,bt]
 ·have e1:bt [((0:Int),(-1:Int))] v=none:=by simp [bt,Ne.symm h0]
  rw [e1,Option.or_none,kI];by_cases hb:256<v
  ·have:nameOf v=9998:=by simp [nameOf,hb]
   rw [this,fX 9998 l hr (by omega),fX (v - 1) l hr (by omega)];rfl
  ·have:nameOf v=v - 1:=by simp [nameOf,hb]
   rw [this];have:¬ v - 1=-1:=by omega
   simp [this]
theorem nN:∀ {l:List aw} {s:aw},l.Pairwise (fun s t=>s.1<t.1)->s∈l->s.2.2.2.2=false->bU s.1 l=(s.2,true)
 | t::l,s,hs,hm,hf=>by
  obtain ⟨h1,h2⟩:=List.pairwise_cons.1 hs;simp only [bU];rcases List.mem_cons.1 hm with rfl | hm
  ·rw [if_pos ⟨rfl,hf⟩]
  ·rw [if_neg (fun e=>by have:=h1 s hm; omega)];exact nN h2 hm hf
theorem rY {a:List Int} {s:aw} (hw:∀ x∈a,ah .u64 x):∀ v∈aS a s,0<=v:=by
 intro v hv;exact (hw v (List.mem_of_mem_take (List.mem_of_mem_drop hv))).1
theorem cJ {a:List Int}:∀ s∈(ac a).1,0<=s.1/\s.1<=255:=by
 intro s hs;obtain ⟨h1,h2,h3⟩:=eJ a s hs;unfold de at h2;omega
def isB (l:List aw) (at_:Int):Bool:=(bU at_ l).2
theorem fq (n:Int):∀ l:List aw,ft (aY l) n=isB l n
 | []=>rfl
 | s::l=>by
  have ih:=fq n l;unfold isB at ih ⊢;simp only [aY,bU];cases hf:s.2.2.2.2
  ·simp only [Bool.false_eq_true,if_false,and_true,ft,List.any_cons];by_cases hv:s.1=n
   ·rw [if_pos hv];simp [hv]
   ·rw [if_neg hv];simp only [ft] at ih;rw [<- ih];simp [hv]
  ·simp only [if_true,and_false,if_false,Bool.true_eq_false];exact ih
theorem nF {a:List Int} (hw:∀ x∈a,ah .u64 x) (hc:(am a).2.2=0):∀ s∈(ac a).1,∀ v∈aS a s,v=0\/1<=v/\v<=256/\isB (ac a).1 (v - 1)=true:=by
 intro s hs v hv;obtain ⟨_,_,_,_,_,hok,_⟩:=bq hc;have h1:=List.all_eq_true.1 (List.all_eq_true.1 hok s hs) v hv;have h0:=rY hw v hv;rw [<- wZ (bV a) cJ h0] at h1;by_cases hz:v=0
 ·exact .inl hz
 refine .inr ?_
 have hr:∀ n,ft (aY (ac a).1) n=true->0<=n/\n<=255:=fun n hn=>by
  refine ⟨Int.not_lt.1 fun h=>?_,Int.not_lt.1 fun h=>?_⟩
  ·rw [fX n _ cJ (.inl h)] at hn; cases hn
  ·rw [fX n _ cJ (.inr h)] at hn; cases hn
 unfold nameOf at h1;split at h1
 ·have h2:ft (aY (ac a).1) (9999 - 1)=true:=by simpa using h1
  have:=hr _ h2;omega
 ·have h2:ft (aY (ac a).1) (v - 1)=true:=by
   rcases Bool.or_eq_true _ _ ▸ h1 with h | h
   ·have:=of_decide_eq_true h; omega
   ·exact h
  have:=hr _ h2;refine ⟨by omega,by omega,?_⟩;rw [<- fq];exact h2
theorem JI {a:List Int} {at_:Int} (h:isB (ac a).1 at_=true):(at_,(bU at_ (ac a).1).1)∈(ac a).1/\de a (at_,(bU at_ (ac a).1).1)/\af (bU at_ (ac a).1).1=0/\(bU at_ (ac a).1).1.2.2.2=false/\a.length<=256:=by
 rcases gh at_ (ac a).1 with e | ⟨s,h1,h2,h3,e⟩
 ·unfold isB at h;rw [e] at h;cases h
 ·obtain ⟨k1,k2,k3⟩:=eJ a s h1;rw [e];simp only;subst h2;exact ⟨h1,k2,k3,h3,k1⟩
end
section
open Go
set_option maxRecDepth 100000
set_option maxHeartbeats 1000000
end
section
open Go
set_option maxRecDepth 100000
set_option maxHeartbeats 1000000
abbrev ji:Ty:=.pair ty_I ty_I
abbrev cS:=Int×Int
def DR:Spec:={ Ts:=[gE],Rs:=[.dat ty_I],pre:=fun _=>True,F:=fun (h:dZ)=>(if af h=0 then aa h else 0:Int) }
def tL:Prop :=
  ∀ (x:Int×Int×Int×Bool),ah .i64 x.1/\ah .i64 x.2.1/\ah .i64 x.2.2.1/\True->True->True/\((if af x=0 then aa x else (0:Int))=if af x=0 then aa x else (0:Int))/\True
theorem Aj:tL:=by
 unfold tL;intro h _ _;simp
theorem tV:DR.ok Tryz.prog 217:=aD (ann:=co) (ae iW ap) Tryz.func217 (by kernel_rfl) Aj
def aR (a:List Int):List aw×Int:=if (am a).2.2≠0 then ([],(am a).2.2) else ((ac a).1,0)
def A0:Spec:={ Ts:=[.arr bi],Rs:=[.own 202 cE,.dat ty_I],pre:=fun _=>True,F:=aR }
def rv:Prop :=
  ∀ (x:List Int),(x.length * 8<=ax/\∀ (x_1:Int),x_1∈x->ah .u64 x_1)->True->True/\(decide ((am x).2.2≠0)=true->([]:List (Int×Int×Int×Int×Bool))=(aR x).1/\(am x).2.2=(aR x).2/\True)/\(decide ((am x).2.2≠0)=false->True/\(ac x).1=(aR x).1/\(ac x).2=(aR x).2/\True)
theorem xY:rv:=by
 unfold rv;intro a _ _;have h:=bq (a:=a);unfold aR;refine ⟨trivial,fun hc=>?_,fun hc=>?_⟩
 ·have hc:(am a).2.2≠0:=by simpa using hc
  rw [if_pos hc];exact ⟨rfl,rfl,trivial⟩
 ·have hc:(am a).2.2=0:=by simpa using hc
  obtain ⟨_,_,_,h4,_⟩:=h hc;rw [if_neg (by omega),h4];exact ⟨trivial,rfl,rfl,trivial⟩
theorem mh:A0.ok Tryz.prog 212:=aD (ann:=co) (ae iV (ae iU ap)) Tryz.func212 (by kernel_rfl) xY
def lM (out:List cS) (n:Int):List cS:=out.set (out.length - 1) ((out.getD (out.length - 1) (0,0)).1,(out.getD (out.length - 1) (0,0)).2+n)
def aM:Bool->List cS->List aw->List cS
 | _,out,[]=>out
 | p,out,s::l=>aM s.2.2.2.2 (if s.2.2.2.2=true then (if p=true then lM out (aa s.2) else out++[(s.1,aa s.2)]) else out) l
theorem fK (out:List cS) (n:Int):(lM out n).length=out.length:=by simp [lM]
def cV (l:List aw) (i:Int):Bool:=decide (0<i)&&(l.getD (i - 1).toNat (0,0,0,0,false)).2.2.2.2
def EZ:Nat->Option LoopGen
 | 3=>some { rd:=[.dat 6 (.arr cE)],A:=fun (l:List aw)=>{ cs:=[.own 3 105 ji,.dat 8 ty_I],inv:=fun ((out,i):List cS×Int)=>0<=i/\i<=l.length/\l.length<=256/\(∀ s∈l,af s.2=0)/\out.length<=i/\(cV l i=true->0<out.length)/\(∀ r∈out,0<=r.2/\r.2<=256 * i)/\aM (cV l i) out (l.drop i.toNat)=aM false [] l,mu:=fun ((_,i):List cS×Int)=>(l.length - i).toNat } }
 | _=>none
def DT:Spec:={ Ts:=[.arr cE],Rs:=[.own 105 ji],pre:=fun (l:List aw)=>l.length<=256/\∀ s∈l,af s.2=0,F:=fun (l:List aw)=>aM false [] l }
def tN:Prop :=
  ∀ (x:List (Int×Int×Int×Int×Bool)),(x.length * (8+(8+(8+(8+8))))<=ax/\∀ (x_1:Int×Int×Int×Int×Bool),x_1∈x->ah .i64 x_1.1/\ah .i64 x_1.2.1/\ah .i64 x_1.2.2.1/\ah .i64 x_1.2.2.2.1/\True)->(x.length<=256/\∀ (s:aw),s∈x->af s.2=0)->((0:Int)<=0/\0<=(x.length:Int)/\x.length<=256/\(∀ (s:aw),s∈x->af s.2=0)/\(↑(0:Nat):Int)<=0/\(cV x 0=true->(0:Nat)<0)/\(∀ (r:cS),r∈([]:List (Int×Int))->0<=r.2/\r.2<=256 * 0)/\aM (cV x 0) ([]:List (Int×Int)) (List.drop (Int.toNat 0) x)=aM false ([]:List cS) x)/\∀ (x_1:List (Int×Int)×Int),(fun (v0:type_of% (x.getD x_1.2.toNat (0,0,0,0,false)))=>0<=x_1.2/\x_1.2<=(x.length:Int)/\x.length<=256/\(∀ (s:aw),s∈x->af s.2=0)/\(x_1.1.length:Int)<=x_1.2/\(cV x x_1.2=true->0<x_1.1.length)/\(∀ (r:cS),r∈x_1.1->0<=r.2/\r.2<=256 * x_1.2)/\aM (cV x x_1.2) x_1.1 (List.drop x_1.2.toNat x)=aM false ([]:List cS) x->(decide (x_1.2<(x.length:Int))=true->0<=x_1.2/\x_1.2<(x.length:Int)/\((!v0.2.2.2.2)=true->ah .i64 (x_1.2+1)/\(0<=x_1.2+1/\x_1.2+1<=(x.length:Int)/\x.length<=256/\(∀ (s:aw),s∈x->af s.2=0)/\(x_1.1.length:Int)<=x_1.2+1/\(cV x (x_1.2+1)=true->0<x_1.1.length)/\(∀ (r:cS),r∈x_1.1->0<=r.2/\r.2<=256 * (x_1.2+1))/\aM (cV x (x_1.2+1)) x_1.1 (List.drop (x_1.2+1).toNat x)=aM false ([]:List cS) x)/\((x.length:Int) - (x_1.2+1)).toNat<((x.length:Int) - x_1.2).toNat)/\((!v0.2.2.2.2)=false->(decide (0<x_1.2)=true->ah .i64 (x_1.2 - 1))/\(decide (0<x_1.2)=true->0<=x_1.2 - 1)/\(decide (0<x_1.2)=true->x_1.2 - 1<(x.length:Int))/\((decide (0<x_1.2)&&(x.getD (x_1.2 - 1).toNat (0,0,0,0,false)).2.2.2.2)=true->ah .i64 ((x_1.1.length:Int) - 1)/\0<=(x_1.1.length:Int) - 1/\(x_1.1.length:Int) - 1<(x_1.1.length:Int)/\((x_1.1.length:Int) - 1).toNat<x_1.1.length/\True/\ah .i64 ((x_1.1.getD ((x_1.1.length:Int) - 1).toNat (0,0)).2+if af v0.2=0 then aa v0.2 else (0:Int))/\0<=(x_1.1.length:Int) - 1/\(x_1.1.length:Int) - 1<(x_1.1.length:Int)/\((x_1.1.length:Int) - 1).toNat<x_1.1.length/\ah .i64 (x_1.2+1)/\(0<=x_1.2+1/\x_1.2+1<=(x.length:Int)/\x.length<=256/\(∀ (s:aw),s∈x->af s.2=0)/\(↑(x_1.1.set ((x_1.1.length:Int) - 1).toNat ((x_1.1.getD ((x_1.1.length:Int) - 1).toNat (0,0)).1,(x_1.1.getD ((x_1.1.length:Int) - 1).toNat (0,0)).2+if af v0.2=0 then aa v0.2 else (0:Int))).length:Int)<=x_1.2+1/\(cV x (x_1.2+1)=true->0<(x_1.1.set ((x_1.1.length:Int) - 1).toNat ((x_1.1.getD ((x_1.1.length:Int) - 1).toNat (0,0)).1,(x_1.1.getD ((x_1.1.length:Int) - 1).toNat (0,0)).2+if af v0.2=0 then aa v0.2 else (0:Int))).length)/\(∀ (r:cS),r∈x_1.1.set ((x_1.1.length:Int) - 1).toNat ((x_1.1.getD ((x_1.1.length:Int) - 1).toNat (0,0)).1,(x_1.1.getD ((x_1.1.length:Int) - 1).toNat (0,0)).2+if af v0.2=0 then aa v0.2 else (0:Int))->0<=r.2/\r.2<=256 * (x_1.2+1))/\aM (cV x (x_1.2+1)) (x_1.1.set ((x_1.1.length:Int) - 1).toNat ((x_1.1.getD ((x_1.1.length:Int) - 1).toNat (0,0)).1,(x_1.1.getD ((x_1.1.length:Int) - 1).toNat (0,0)).2+if af v0.2=0 then aa v0.2 else (0:Int))) (List.drop (x_1.2+1).toNat x)=aM false ([]:List cS) x)/\((x.length:Int) - (x_1.2+1)).toNat<((x.length:Int) - x_1.2).toNat)/\((decide (0<x_1.2)&&(x.getD (x_1.2 - 1).toNat (0,0,0,0,false)).2.2.2.2)=false->True/\(x_1.1.length+[(v0.1,if af v0.2=0 then aa v0.2 else (0:Int))].length) * (8+8)<=ax/\ah .i64 (x_1.2+1)/\(0<=x_1.2+1/\x_1.2+1<=(x.length:Int)/\x.length<=256/\(∀ (s:aw),s∈x->af s.2=0)/\(↑(x_1.1++[(v0.1,if af v0.2=0 then aa v0.2 else (0:Int))]).length:Int)<=x_1.2+1/\(cV x (x_1.2+1)=true->0<(x_1.1++[(v0.1,if af v0.2=0 then aa v0.2 else (0:Int))]).length)/\(∀ (r:cS),r∈x_1.1++[(v0.1,if af v0.2=0 then aa v0.2 else (0:Int))]->0<=r.2/\r.2<=256 * (x_1.2+1))/\aM (cV x (x_1.2+1)) (x_1.1++[(v0.1,if af v0.2=0 then aa v0.2 else (0:Int))]) (List.drop (x_1.2+1).toNat x)=aM false ([]:List cS) x)/\((x.length:Int) - (x_1.2+1)).toNat<((x.length:Int) - x_1.2).toNat)))/\(decide (x_1.2<(x.length:Int))=false->x_1.1=aM false ([]:List cS) x/\True)) (x.getD x_1.2.toNat (0,0,0,0,false))
theorem Al:tN:=by
 unfold tN;intro l ⟨hb,_⟩ ⟨hl,hf⟩;refine ⟨⟨by omega,by omega,hl,hf,by simp,by simp [cV],by simp,by simp [cV]⟩,fun ⟨out,i⟩ ⟨h0,h1,_,_,h2,h3,h4,h5⟩=>⟨fun hlt=>?_,fun hge=>?_⟩⟩
 ·have hlt:i<(l.length:Int):=of_decide_eq_true hlt;simp only at h0 h1 h2 h3 h4 h5 ⊢;rw [bh ((0,0,0,0,false):aw) h0 hlt] at h5;simp only [aM] at h5;have hs:=hf _ (aJ ((0,0,0,0,false):aw) h0 hlt)
  have hlf:cV l (i+1)=(l.getD i.toNat (0,0,0,0,false)).2.2.2.2:=by
   unfold cV;rw [show i+1 - 1=i by omega];simp;omega
  rw [hlf,if_pos hs];have hz:=aX hs;have hL:aa (l.getD i.toNat (0,0,0,0,false)).2=1+(l.getD i.toNat (0,0,0,0,false)).2.1+(l.getD i.toNat (0,0,0,0,false)).2.2.1:=rfl;have hlfi:cV l i=(decide (0<i)&&(l.getD (i - 1).toNat (0,0,0,0,false)).2.2.2.2):=rfl;rw [<- hlfi];generalize l.getD i.toNat (0,0,0,0,false)=s at *;generalize aa s.2=L at *;simp only [ah];refine ⟨h0,hlt,fun hc=>?_,fun hc=>⟨fun hp=>by have:=of_decide_eq_true hp; omega,fun hp=>by have:=of_decide_eq_true hp; omega,fun _=>by omega,fun hp=>?_,fun hp=>?_⟩⟩
  ·have hc:s.2.2.2.2=false:=by simpa using hc
   rw [hc] at h5 ⊢;simp only [Bool.false_eq_true,if_false] at h5;exact ⟨by omega,⟨by omega,by omega,hl,hf,by omega,fun h=>by simp at h,fun r hr=>by have:=h4 r hr; omega,h5⟩,by omega⟩
  ·have hc:s.2.2.2.2=true:=by simpa using hc
   rw [hc,hp] at h5;simp only [if_true] at h5;rw [hc];have hlen:=h3 hp;have hlast:=h4 _ (aJ ((0,0):cS) (xs:=out) (i:=(out.length:Int) - 1) (by omega) (by omega));have e:((out.length:Int) - 1).toNat=out.length - 1:=by omega
   rw [e] at hlast ⊢;have hbump:out.set (out.length - 1) ((out.getD (out.length - 1) (0,0)).1,(out.getD (out.length - 1) (0,0)).2+L)=lM out L:=rfl;rw [hbump];rw [fK];refine ⟨by omega,by omega,by omega,by omega,trivial,by omega,by omega,by omega,by omega,by omega,⟨by omega,by omega,hl,hf,by omega,fun _=>hlen,fun r hr=>?_,h5⟩,by omega⟩;rcases List.mem_or_eq_of_mem_set hr with hr | rfl
   ·have:=h4 r hr; omega
   ·simp only; omega
  ·have hc:s.2.2.2.2=true:=by simpa using hc
   rw [hc,hp] at h5;simp only [if_true,Bool.false_eq_true,if_false] at h5;rw [hc];unfold ax;simp only [List.length_append,List.length_cons,List.length_nil];refine ⟨trivial,by omega,by omega,⟨by omega,by omega,hl,hf,by omega,fun _=>by omega,fun r hr=>?_,h5⟩,by omega⟩;rcases List.mem_append.1 hr with hr | hr
   ·have:=h4 r hr; omega
   ·simp only [List.mem_singleton] at hr;subst hr;simp only;omega
 ·have hge:¬ i<(l.length:Int):=of_decide_eq_false hge;simp only at h5;rw [b7 hge] at h5;exact ⟨h5,trivial⟩
theorem tW:DT.ok Tryz.prog 213:=aD (ann:=EZ) (ae tV ap) Tryz.func213 (by kernel_rfl) Al
def an (a:List Int):List cS×Int:=if (am a).2.2≠0 then ([],(am a).2.2) else (aM false [] (ac a).1,0)
def AZ:Spec:={ Ts:=[.arr bi],Rs:=[.own 105 ji,.dat ty_I],pre:=fun _=>True,F:=an }
def ru:Prop :=
  ∀ (x:List Int),(x.length * 8<=ax/\∀ (x_1:Int),x_1∈x->ah .u64 x_1)->True->True/\(decide ((aR x).2≠0)=true->([]:List (Int×Int))=(an x).1/\(aR x).2=(an x).2/\True)/\(decide ((aR x).2≠0)=false->((aR x).1.length<=256/\∀ (s:aw),s∈(aR x).1->af s.2=0)/\aM false ([]:List cS) (aR x).1=(an x).1/\0=(an x).2/\True)
theorem xX:ru:=by
 unfold ru;intro a _ _;have h:=bq (a:=a);have hlen:=eV a;unfold aR an;refine ⟨trivial,fun hc=>?_,fun hc=>?_⟩
 ·have hc:(am a).2.2≠0:=by
   intro e;rw [if_neg (by omega)] at hc;simp at hc
  rw [if_pos hc,if_pos hc];exact ⟨rfl,rfl,trivial⟩
 ·have hc:(am a).2.2=0:=by
   apply Classical.byContradiction;intro e;rw [if_pos e] at hc;simp [e] at hc
  obtain ⟨_,_,h3,h4,_,_,h5⟩:=h hc;rw [if_neg (by omega),if_neg (by omega)];rw [h3] at h5;exact ⟨⟨hlen,fun s hs=>(h5 s hs).2⟩,rfl,rfl,trivial⟩
theorem jO:AZ.ok Tryz.prog 154:=aD (ann:=co) (ae mh (ae tW ap)) Tryz.func154 (by kernel_rfl) xX
def aU (a:List Int) (at_ n:Int):List Int:=if 0<n then (eB a at_ n 0 n).set at_.toNat (aI (0,n - 1,0,true)) else a
def g8 (a:List Int) (at_ n:Int):Prop:=0<=at_/\0<=n/\at_+n<=a.length/\a.length<=256
theorem ux {a:List Int} {at_ n v:Int} (h:g8 a at_ n):gX a at_ n v=(eB a at_ n v n,0):=by
 obtain ⟨h1,h2,h3,h4⟩:=h
 have:em a.length n [at_]=0:=by
  rw [Av,if_neg (by omega),if_pos];rw [m6];omega
 unfold gX;rw [if_pos this]
def KN:Spec:={ Ts:=[.arr bi,ty_I,ty_I],Rs:=[.own 45 bi],pre:=fun ((a,at_,n):List Int×Int×Int)=>g8 a at_ n/\1<=n,F:=fun ((a,at_,n):List Int×Int×Int)=>aU a at_ n }
def Fj:Prop :=
  ∀ (x:List Int×Int×Int),(x.1.length * 8<=ax/\∀ (x_1:Int),x_1∈x.1->ah .u64 x_1)/\ah .i64 x.2.1/\ah .i64 x.2.2->g8 x.1 x.2.1 x.2.2/\1<=x.2.2->(decide (x.2.2=0)=true->False)/\(decide (x.2.2=0)=false->ah .i64 (x.2.2 - 1)/\True/\True/\0<=x.2.1/\x.2.1<(↑(gX x.1 x.2.1 x.2.2 0).1.length:Int)/\x.2.1.toNat<(gX x.1 x.2.1 x.2.2 0).1.length/\(gX x.1 x.2.1 x.2.2 0).1.set x.2.1.toNat (if af (0,x.2.2 - 1,0,true)=0 then aI (0,x.2.2 - 1,0,true) else (0:Int))=aU x.1 x.2.1 x.2.2/\True)
theorem Ik:Fj:=by
 unfold Fj;intro ⟨a,at_,n⟩ _ ⟨hp,h1⟩;simp only at hp h1 ⊢;rw [ux hp];obtain ⟨p1,p2,p3,p4⟩:=hp;have hf:af (0,n - 1,0,true)=0:=by simp [af,aa]; omega
 have hl:=fH a at_ n 0 n p1 p3 p2 (by omega);rw [if_pos hf];have hE:aU a at_ n=(eB a at_ n 0 n).set at_.toNat (aI (0,n - 1,0,true)):=by unfold aU; rw [if_pos (by omega)]
 rw [hE];simp only [ah];exact ⟨fun h=>by have:=of_decide_eq_true h; omega,fun _=>⟨by omega,trivial,trivial,by omega,by omega,by omega,trivial,trivial⟩⟩
theorem K8:KN.ok Tryz.prog 215:=aD (ann:=co) (ae ix (ae mf ap)) Tryz.func215 (by kernel_rfl) Ik
def KM:Spec:={ Ts:=[.arr bi,ty_I,ty_I],Rs:=[.dat (.arr bi)],al:=true,pre:=fun ((a,at_,n):List Int×Int×Int)=>g8 a at_ n,F:=fun ((a,at_,n):List Int×Int×Int)=>aU a at_ n }
def Fi:Prop :=
  ∀ (x:List Int×Int×Int),(x.1.length * 8<=ax/\∀ (x_1:Int),x_1∈x.1->ah .u64 x_1)/\ah .i64 x.2.1/\ah .i64 x.2.2->g8 x.1 x.2.1 x.2.2->(decide (x.2.2=0)=true->x.1=aU x.1 x.2.1 x.2.2/\True)/\(decide (x.2.2=0)=false->ah .i64 (x.2.2 - 1)/\True/\True/\0<=x.2.1/\x.2.1<(↑(gX x.1 x.2.1 x.2.2 0).1.length:Int)/\x.2.1.toNat<(gX x.1 x.2.1 x.2.2 0).1.length/\(gX x.1 x.2.1 x.2.2 0).1.set x.2.1.toNat (if af (0,x.2.2 - 1,0,true)=0 then aI (0,x.2.2 - 1,0,true) else (0:Int))=aU x.1 x.2.1 x.2.2/\True)
theorem Ij:Fi:=by
 unfold Fi;intro ⟨a,at_,n⟩ _ hp;simp only at hp ⊢;rw [ux hp];obtain ⟨p1,p2,p3,p4⟩:=hp;refine ⟨fun h=>?_,fun h=>?_⟩
 ·have h:=of_decide_eq_true h;unfold aU;rw [if_neg (by omega)];exact ⟨rfl,trivial⟩
 ·have h:=of_decide_eq_false h;have hf:af (0,n - 1,0,true)=0:=by simp [af,aa]; omega
  have hl:=fH a at_ n 0 n p1 p3 p2 (by omega);rw [if_pos hf];have hE:aU a at_ n=(eB a at_ n 0 n).set at_.toNat (aI (0,n - 1,0,true)):=by unfold aU; rw [if_pos (by omega)]
  rw [hE];simp only [ah];exact ⟨by omega,trivial,trivial,by omega,by omega,by omega,trivial,trivial⟩
theorem K7:KM.ok Tryz.prog 215:=aD (ann:=co) (ae ix (ae mf ap)) Tryz.func215 (by kernel_rfl) Ij
def cD (a:List Int):List Int×Int:=if (am a).2.2≠0 then ([],(am a).2.2) else ((aM false [] (ac a).1).foldl (fun a r=>aU a r.1 r.2) a,0)
theorem sm {a:List Int} {at_ n:Int} (h:g8 a at_ n):(aU a at_ n).length=a.length:=by
 obtain ⟨p1,p2,p3,p4⟩:=h;unfold aU;split
 ·rw [List.length_set];exact fH a at_ n 0 n p1 p3 p2 (by omega)
 ·rfl
def fi:Int->Int->List aw->Prop
 | s,e,[]=>s=e
 | s,e,x::r=>x.1=s/\1<=aa x.2/\fi (s+aa x.2) e r
theorem ow (at_:Int) (l:List Int) (r:List aw) (h:spotsS at_ l=some r):fi at_ (at_+l.length) r:=by
 induction at_,l using spotsS.induct generalizing r with
 | case1 at_ =>
  simp only [spotsS,Option.some.injEq] at h;subst h;simp [fi]
 | case2 at_ v l hv ih =>
  rw [cK hv.1 hv.2] at h;obtain ⟨r',hr,rfl⟩:=Option.map_eq_some_iff.1 h;have hl:=dU hv.1;have h2:=ih r' hr;refine ⟨rfl,hl.1,?_⟩
  have e:at_+aa (aV v)+(((v::l).drop (aa (aV v)).toNat).length:Nat)=at_+((v::l).length:Nat):=by
   rw [List.length_drop];have:=hv.2;omega
  rw [e] at h2;exact h2
 | case3 at_ v l hv =>
  rw [eH hv] at h;cases h
theorem fC {a:List Int} (h:(ac a).2=0):fi 0 a.length (ac a).1:=by
 unfold ac at h ⊢;split at h
 ·simp at h
 rename_i cl;rw [if_neg cl];cases e:spotsS 0 a with
 | none=>rw [e] at h; simp at h
 | some l =>
  have:=ow 0 a l e;rw [Int.zero_add] at this;exact this
def mr (n:Int) (l:List cS):Prop:=∀ r∈l,0<=r.1/\1<=r.2/\r.1+r.2<=n
theorem pq:∀ (l:List aw) (s e:Int) (p:Bool) (out:List cS),fi s e l->0<=s->mr s out->(p=true->0<out.length/\(out.getD (out.length - 1) (0,0)).1+(out.getD (out.length - 1) (0,0)).2=s)->mr e (aM p out l)/\s<=e
 | [],s,e,p,out,ht,h0,ho,_=>by
  have:s=e:=ht;subst this;exact ⟨ho,Int.le_refl _⟩
 | x::l,s,e,p,out,⟨h1,h2,h3⟩,h0,ho,hp=>by
  simp only [aM];have up:mr (s+aa x.2) out:=fun r hr=>by have:=ho r hr; omega
  cases hf:x.2.2.2.2
  ·have ih:=pq l _ e false out h3 (by omega) up (fun h=>by cases h);simp only [Bool.false_eq_true,if_false];exact ⟨ih.1,by omega⟩
  ·simp only [if_true];cases p
   ·have ih:=pq l _ e true (out++[(x.1,aa x.2)]) h3 (by omega) (fun r hr=>by
     rcases List.mem_append.1 hr with hr | hr
     ·exact up r hr
     ·simp only [List.mem_singleton] at hr;subst hr;simp only;omega) (fun _=>⟨by simp,by simp; omega⟩)
    simp only [Bool.false_eq_true,if_false];exact ⟨ih.1,by omega⟩
   ·obtain ⟨q1,q2⟩:=hp rfl;have hlast:=ho _ (aJ ((0,0):cS) (xs:=out) (i:=(out.length:Int) - 1) (by omega) (by omega));rw [show ((out.length:Int) - 1).toNat=out.length - 1 by omega] at hlast
    have ih:=pq l _ e true (lM out (aa x.2)) h3 (by omega) (fun r hr=>by
     rcases List.mem_or_eq_of_mem_set hr with hr | rfl
     ·exact up r hr
     ·simp only
      omega) (fun _=>⟨by rw [fK]; exact q1,by
       rw [fK];unfold lM;simp [show out.length - 1<out.length by omega];simp [show out.length - 1<out.length by omega] at q2;omega⟩)
    simp only [if_true];exact ⟨ih.1,by omega⟩
theorem pp:∀ (l:List aw) (p:Bool) (out:List cS),(aM p out l).length<=out.length+l.length
 | [],_,_=>by simp [aM]
 | x::l,p,out=>by
  have h1:=pp l x.2.2.2.2 (if x.2.2.2.2=true then (if p=true then lM out (aa x.2) else out++[(x.1,aa x.2)]) else out);simp only [aM,List.length_cons]
  have:(if x.2.2.2.2=true then (if p=true then lM out (aa x.2) else out++[(x.1,aa x.2)]) else out).length<=out.length+1:=by
   split
   ·split
    ·rw [fK]; omega
    ·simp
   ·omega
  omega
theorem mU {a:List Int} (h:(ac a).2=0):mr a.length (aM false [] (ac a).1)/\(aM false [] (ac a).1).length<=256:=by
 have h1:=pq _ 0 a.length false [] (fC h) (Int.le_refl _) (fun r hr=>by cases hr) (fun h=>by cases h);have h2:=pp (ac a).1 false [];have h3:=eV a;exact ⟨h1.1,by simp at h2; omega⟩
def EY:Nat->Option LoopGen
 | 6=>some { rd:=[.own 19 105 ji,.own 0 45 bi],A:=fun ((g,b):List cS×List Int)=>{ cs:=[.own 0 45 bi,.dat 21 ty_I],inv:=fun ((a,i):List Int×Int)=>0<=i/\i<=g.length/\g.length<=256/\a.length<=256/\mr a.length g/\a=(g.take i.toNat).foldl (fun a r=>aU a r.1 r.2) b,mu:=fun ((_,i):List Int×Int)=>(g.length - i).toNat } }
 | _=>none
def DS:Spec:={ Ts:=[.arr bi],Rs:=[.own 45 bi,.dat ty_I],pre:=fun _=>True,F:=cD }
def tM:Prop :=
  ∀ (x:List Int),(x.length * 8<=ax/\∀ (x_1:Int),x_1∈x->ah .u64 x_1)->True->True/\(decide ((aR x).2≠0)=true->([]:List Int)=(cD x).1/\(aR x).2=(cD x).2/\True)/\(decide ((aR x).2≠0)=false->True/\((aR x).1.length<=256/\∀ (s:aw),s∈(aR x).1->af s.2=0)/\((0:Int)<=0/\0<=(↑(aM false ([]:List cS) (aR x).1).length:Int)/\(aM false ([]:List cS) (aR x).1).length<=256/\x.length<=256/\mr (x.length:Int) (aM false ([]:List cS) (aR x).1)/\x=List.foldl (fun (a:List Int) (r:cS)=>aU a r.1 r.2) x (List.take (Int.toNat 0) (aM false ([]:List cS) (aR x).1)))/\∀ (x_1:List Int×Int),0<=x_1.2/\x_1.2<=(↑(aM false ([]:List cS) (aR x).1).length:Int)/\(aM false ([]:List cS) (aR x).1).length<=256/\x_1.1.length<=256/\mr (x_1.1.length:Int) (aM false ([]:List cS) (aR x).1)/\x_1.1=List.foldl (fun (a:List Int) (r:cS)=>aU a r.1 r.2) x (List.take x_1.2.toNat (aM false ([]:List cS) (aR x).1))->(decide (x_1.2<(↑(aM false ([]:List cS) (aR x).1).length:Int))=true->0<=x_1.2/\x_1.2<(↑(aM false ([]:List cS) (aR x).1).length:Int)/\x_1.2.toNat<(aM false ([]:List cS) (aR x).1).length/\(g8 x_1.1 ((aM false ([]:List cS) (aR x).1).getD x_1.2.toNat (0,0)).1 ((aM false ([]:List cS) (aR x).1).getD x_1.2.toNat (0,0)).2/\1<=((aM false ([]:List cS) (aR x).1).getD x_1.2.toNat (0,0)).2)/\ah .i64 (x_1.2+1)/\(0<=x_1.2+1/\x_1.2+1<=(↑(aM false ([]:List cS) (aR x).1).length:Int)/\(aM false ([]:List cS) (aR x).1).length<=256/\(aU x_1.1 ((aM false ([]:List cS) (aR x).1).getD x_1.2.toNat (0,0)).1 ((aM false ([]:List cS) (aR x).1).getD x_1.2.toNat (0,0)).2).length<=256/\mr (↑(aU x_1.1 ((aM false ([]:List cS) (aR x).1).getD x_1.2.toNat (0,0)).1 ((aM false ([]:List cS) (aR x).1).getD x_1.2.toNat (0,0)).2).length:Int) (aM false ([]:List cS) (aR x).1)/\aU x_1.1 ((aM false ([]:List cS) (aR x).1).getD x_1.2.toNat (0,0)).1 ((aM false ([]:List cS) (aR x).1).getD x_1.2.toNat (0,0)).2=List.foldl (fun (a:List Int) (r:cS)=>aU a r.1 r.2) x (List.take (x_1.2+1).toNat (aM false ([]:List cS) (aR x).1)))/\((↑(aM false ([]:List cS) (aR x).1).length:Int) - (x_1.2+1)).toNat<((↑(aM false ([]:List cS) (aR x).1).length:Int) - x_1.2).toNat)/\(decide (x_1.2<(↑(aM false ([]:List cS) (aR x).1).length:Int))=false->x_1.1=(cD x).1/\0=(cD x).2/\True))
theorem Ak:tM:=by
 unfold tM;intro a _ _;have h:=bq (a:=a);have hlen:=eV a;unfold aR cD;refine ⟨trivial,fun hc=>?_,fun hc=>?_⟩
 ·have hc:(am a).2.2≠0:=by
   intro e;rw [if_neg (by omega)] at hc;simp at hc
  rw [if_pos hc,if_pos hc];exact ⟨rfl,rfl,trivial⟩
 ·have hc:(am a).2.2=0:=by
   apply Classical.byContradiction;intro e;rw [if_pos e] at hc;simp [e] at hc
  obtain ⟨hal,_,h3,h4,_,_,h5⟩:=h hc;rw [if_neg (by omega),if_neg (by omega)];rw [h3] at h5;obtain ⟨g1,g2⟩:=mU h4;simp only;generalize aM false [] (ac a).1=g at *;refine ⟨trivial,⟨hlen,fun s hs=>(h5 s hs).2⟩,⟨by omega,by omega,g2,hal,g1,rfl⟩,fun ⟨b,i⟩ ⟨q0,q1,_,q2,q3,q4⟩=>⟨fun hlt=>?_,fun hge=>?_⟩⟩
  ·have hlt:i<(g.length:Int):=of_decide_eq_true hlt;simp only at q0 q1 q2 q3 q4 ⊢;have e:=bB ((0,0):cS) q0 hlt;have hr:=q3 _ (aJ ((0,0):cS) q0 hlt);rw [e,List.foldl_append,<- q4];generalize g.getD i.toNat (0,0)=r at *;have hp:g8 b r.1 r.2:=⟨hr.1,by omega,hr.2.2,q2⟩;rw [sm hp];simp only [ah];exact ⟨q0,hlt,by omega,⟨hp,hr.2.1⟩,by omega,⟨by omega,by omega,g2,q2,q3,rfl⟩,by omega⟩
  ·have hge:¬ i<(g.length:Int):=of_decide_eq_false hge;simp only at q4;rw [cA hge] at q4;exact ⟨q4,trivial,trivial⟩
theorem Ek:DS.ok Tryz.prog 156:=aD (ann:=EY) (ae mh (ae bI (ae tW (ae K8 ap)))) Tryz.func156 (by kernel_rfl) Ak
def bR (l:List aw) (at_:Int) (fr:Bool):aw×Bool :=
 if ag (fun s:aw=>decide (s.1=at_)&&s.2.2.2.2 == fr) 0 l<0 then ((0,0,0,0,false),false) else (l.getD (ag (fun s:aw=>decide (s.1=at_)&&s.2.2.2.2 == fr) 0 l).toNat (0,0,0,0,false),true)
def IU:Spec:={ Ts:=[cE,.ref ty_I,.ref .bool],Rs:=[.dat .bool],pre:=fun _=>True,F:=fun ((s,at_,fr):aw×Int×Bool)=>decide (s.1=at_)&&s.2.2.2.2 == fr }
def BA:Prop :=
  ∀ (x:(Int×Int×Int×Int×Bool)×Int×Bool),(ah .i64 x.1.1/\ah .i64 x.1.2.1/\ah .i64 x.1.2.2.1/\ah .i64 x.1.2.2.2.1/\True)/\ah .i64 x.2.1/\True->True->(decide (x.1.1=x.2.1)&&x.1.2.2.2.2 == x.2.2)=(decide (x.1.1=x.2.1)&&x.1.2.2.2.2 == x.2.2)/\True
theorem Gp:BA:=by
 unfold BA;intro ⟨s,at_,fr⟩ _ _;simp
theorem Js:IU.ok Tryz.prog 252:=aD (ann:=co) ap Tryz.func252 (by kernel_rfl) Gp
def DU:Spec:={ Ts:=[.arr cE,ty_I,.bool],Rs:=[.dat cE,.dat .bool],pre:=fun _=>True,F:=fun ((l,at_,fr):List aw×Int×Bool)=>bR l at_ fr }
def tO:Prop :=
  ∀ (x:List (Int×Int×Int×Int×Bool)×Int×Bool),(x.1.length * (8+(8+(8+(8+8))))<=ax/\∀ (x_1:Int×Int×Int×Int×Bool),x_1∈x.1->ah .i64 x_1.1/\ah .i64 x_1.2.1/\ah .i64 x_1.2.2.1/\ah .i64 x_1.2.2.2.1/\True)/\ah .i64 x.2.1/\True->True->(∀ (s:aw),s∈x.1->(fun (_:Int×Int×Int×Int×Bool)=>True,fun (x_1:Int×Int×Int×Int×Bool)=>decide (x_1.1=x.2.1)&&x_1.2.2.2.2 == x.2.2).1 s)/\(decide (ag (fun (x_1:Int×Int×Int×Int×Bool)=>decide (x_1.1=x.2.1)&&x_1.2.2.2.2 == x.2.2) 0 x.1<0)=true->(0,0,0,0,false)=(bR x.1 x.2.1 x.2.2).1/\false=(bR x.1 x.2.1 x.2.2).2/\True)/\(decide (ag (fun (x_1:Int×Int×Int×Int×Bool)=>decide (x_1.1=x.2.1)&&x_1.2.2.2.2 == x.2.2) 0 x.1<0)=false->0<=ag (fun (x_1:Int×Int×Int×Int×Bool)=>decide (x_1.1=x.2.1)&&x_1.2.2.2.2 == x.2.2) 0 x.1/\ag (fun (x_1:Int×Int×Int×Int×Bool)=>decide (x_1.1=x.2.1)&&x_1.2.2.2.2 == x.2.2) 0 x.1<(x.1.length:Int)/\x.1.getD (ag (fun (x_1:Int×Int×Int×Int×Bool)=>decide (x_1.1=x.2.1)&&x_1.2.2.2.2 == x.2.2) 0 x.1).toNat (0,0,0,0,false)=(bR x.1 x.2.1 x.2.2).1/\true=(bR x.1 x.2.1 x.2.2).2/\True)
theorem Am:tO:=by
 unfold tO;intro ⟨l,at_,fr⟩ _ _;simp only;have hlt:=dW (fun s:aw=>decide (s.1=at_)&&s.2.2.2.2 == fr) (0,0,0,0,false) l 0 (by omega);unfold bR;refine ⟨fun _ _=>trivial,fun h=>?_,fun h=>?_⟩
 ·rw [if_pos (of_decide_eq_true h)];exact ⟨rfl,rfl,trivial⟩
 ·rw [if_neg (of_decide_eq_false h)];have h1:0<=ag (fun s:aw=>decide (s.1=at_)&&s.2.2.2.2 == fr) 0 l:=Int.not_lt.1 (of_decide_eq_false h);have h2:ag (fun s:aw=>decide (s.1=at_)&&s.2.2.2.2 == fr) 0 l<(l.length:Int):=by omega
  exact ⟨h1,h2,rfl,rfl,trivial⟩
theorem El:DU.ok Tryz.prog 216:=aD (ann:=co) (ae nG (ae Js ap)) Tryz.func216 (by kernel_rfl) Am
theorem uw (l:List aw) (at_:Int) (fr:Bool) (h:(bR l at_ fr).2=true):(bR l at_ fr).1∈l/\(bR l at_ fr).1.1=at_/\(bR l at_ fr).1.2.2.2.2=fr:=by
 have hlt:=dW (fun s:aw=>decide (s.1=at_)&&s.2.2.2.2 == fr) (0,0,0,0,false) l 0 (by omega);have his:=dX (fun s:aw=>decide (s.1=at_)&&s.2.2.2.2 == fr) (0,0,0,0,false) l 0;unfold bR at h ⊢;split at h
 ·cases h
 ·rename_i hn;rw [if_neg hn];have his:=his (by omega) (by omega);rw [Int.sub_zero] at his;simp only [Bool.and_eq_true,decide_eq_true_eq,beq_iff_eq] at his;exact ⟨aJ _ (by omega) (by omega),his.1,his.2⟩
theorem y6 {a:List Int}:(aR a).2=(am a).2.2:=by
 unfold aR;split
 ·rfl
 ·simp only; omega
theorem xn {a:List Int} (h:(am a).2.2=0):(aR a).1=(ac a).1/\a.length<=256/\∀ s∈(ac a).1,de a s/\af s.2=0:=by
 obtain ⟨h1,_,h3,_,_,_,h5⟩:=bq h;rw [h3] at h5;unfold aR;rw [if_neg (by omega)];exact ⟨rfl,h1,h5⟩
def KP:Spec:={ Ts:=[.arr bi,bi],Rs:=[.dat ty_I],pre:=fun _=>True,F:=fun ((l,v):List Int×Int)=>ag (fun x=>decide (v=x)) 0 l }
def LK:Nat->Option LoopGen
 | 2=>some { rd:=[.dat 0 (.arr bi),.dat 1 bi],A:=fun ((l,v):List Int×Int)=>{ cs:=[.dat 8 ty_I],inv:=fun (i:Int)=>0<=i/\i<=l.length/\ag (fun x=>decide (v=x)) i (l.drop i.toNat)=ag (fun x=>decide (v=x)) 0 l,mu:=fun (i:Int)=>(l.length - i).toNat } }
 | _=>none
def Fk:Prop :=
  ∀ (x:List Int×Int),(x.1.length * 8<=ax/\∀ (x_1:Int),x_1∈x.1->ah .u64 x_1)/\ah .u64 x.2->True->((0:Int)<=0/\0<=(x.1.length:Int)/\ag (fun (x_1:Int)=>decide (x.2=x_1)) 0 (List.drop (Int.toNat 0) x.1)=ag (fun (x_1:Int)=>decide (x.2=x_1)) 0 x.1)/\∀ (x_1:Int),0<=x_1/\x_1<=(x.1.length:Int)/\ag (fun (x_2:Int)=>decide (x.2=x_2)) x_1 (List.drop x_1.toNat x.1)=ag (fun (x_2:Int)=>decide (x.2=x_2)) 0 x.1->(decide (x_1<(x.1.length:Int))=true->0<=x_1/\x_1<(x.1.length:Int)/\(decide (x.2=x.1.getD x_1.toNat 0)=true->x_1=ag (fun (x_2:Int)=>decide (x.2=x_2)) 0 x.1/\True)/\(decide (x.2=x.1.getD x_1.toNat 0)=false->ah .i64 (x_1+1)/\(0<=x_1+1/\x_1+1<=(x.1.length:Int)/\ag (fun (x_2:Int)=>decide (x.2=x_2)) (x_1+1) (List.drop (x_1+1).toNat x.1)=ag (fun (x_2:Int)=>decide (x.2=x_2)) 0 x.1)/\((x.1.length:Int) - (x_1+1)).toNat<((x.1.length:Int) - x_1).toNat))/\(decide (x_1<(x.1.length:Int))=false->(-1)=ag (fun (x_2:Int)=>decide (x.2=x_2)) 0 x.1/\True)
theorem Il:Fk:=by
 unfold Fk;intro ⟨l,n⟩ ⟨⟨hb,_⟩,_⟩ _;unfold ax at hb;refine ⟨⟨by omega,by omega,rfl⟩,fun i ⟨h0,h1,h2⟩=>⟨fun hlt=>?_,fun hge=>?_⟩⟩
 ·have hlt:i<(l.length:Int):=by simpa using hlt
  simp only at *;rw [bh (0:Int) h0 hlt] at h2;simp only [ag] at h2;simp only [ah];refine ⟨h0,hlt,fun hc=>?_,fun hc=>?_⟩
  ·rw [if_pos hc] at h2;exact ⟨h2,trivial⟩
  ·rw [if_neg (by rw [hc]; simp)] at h2;exact ⟨by omega,⟨by omega,by omega,h2⟩,by omega⟩
 ·rw [b7 (by simpa using hge)] at h2;exact ⟨h2,trivial⟩
theorem La:KP.ok Tryz.prog 74:=aD (ann:=LK) ap Tryz.func74 (by kernel_rfl) Il
def KR:Spec:={ Ts:=[.arr bi,bi],Rs:=[.dat .bool],pre:=fun _=>True,F:=fun ((l,v):List Int×Int)=>l.any fun x=>decide (v=x) }
def Fm:Prop :=
  ∀ (x:List Int×Int),(x.1.length * 8<=ax/\∀ (x_1:Int),x_1∈x.1->ah .u64 x_1)/\ah .u64 x.2->True->True/\(decide (0<=ag (fun (x_1:Int)=>decide (x.2=x_1)) 0 x.1)=x.1.any fun (x_1:Int)=>decide (x.2=x_1))/\True
theorem Io:Fm:=by
 unfold Fm;intro ⟨l,v⟩ _ _;exact ⟨trivial,cR _ l 0 (by omega),trivial⟩
theorem FD:KR.ok Tryz.prog 16:=aD (ann:=co) (ae La ap) Tryz.func16 (by kernel_rfl) Io
def ip (a:List Int) (at_:Int) (h:dZ):List Int×Int :=
 if af h≠0 then ([],af h) else if h.2.2.2=true then ([],3) else if (am a).2.2≠0 then ([],(am a).2.2)
 else if (bR (ac a).1 at_ true).2=false then ([],5) else if aa (bR (ac a).1 at_ true).1.2<aa h then ([],7)
 else (aU ((eB a at_ (aa (bR (ac a).1 at_ true).1.2) 0 (aa (bR (ac a).1 at_ true).1.2)).set at_.toNat (aI h)) (at_+aa h) (aa (bR (ac a).1 at_ true).1.2 - aa h),0)
def DQ:Spec:={ Ts:=[.arr bi,ty_I,gE],Rs:=[.dat (.arr bi),.dat ty_I],al:=true,pre:=fun _=>True,F:=fun ((a,at_,h):List Int×Int×dZ)=>ip a at_ h }
def tK:Prop :=
  ∀ (x:List Int×Int×Int×Int×Int×Bool),(fun (v1:type_of% (ip x.1 x.2.1 x.2.2))=>(fun (v0:type_of% (bR (aR x.1).1 x.2.1 true))=>(x.1.length * 8<=ax/\∀ (x_1:Int),x_1∈x.1->ah .u64 x_1)/\ah .i64 x.2.1/\ah .i64 x.2.2.1/\ah .i64 x.2.2.2.1/\ah .i64 x.2.2.2.2.1/\True->True->True/\(decide (af x.2.2≠0)=true->([]:List Int)=v1.1/\af x.2.2=v1.2/\True)/\(decide (af x.2.2≠0)=false->(x.2.2.2.2.2=true->([]:List Int)=v1.1/\3=v1.2/\True)/\(x.2.2.2.2.2=false->True/\(decide ((aR x.1).2≠0)=true->([]:List Int)=v1.1/\(aR x.1).2=v1.2/\True)/\(decide ((aR x.1).2≠0)=false->True/\((!v0.2)=true->([]:List Int)=v1.1/\5=v1.2/\True)/\((!v0.2)=false->True/\True/\(decide ((if af v0.1.2=0 then aa v0.1.2 else (0:Int))<if af x.2.2=0 then aa x.2.2 else (0:Int))=true->([]:List Int)=v1.1/\7=v1.2/\True)/\(decide ((if af v0.1.2=0 then aa v0.1.2 else (0:Int))<if af x.2.2=0 then aa x.2.2 else (0:Int))=false->True/\True/\0<=x.2.1/\x.2.1<(↑(gX x.1 x.2.1 (if af v0.1.2=0 then aa v0.1.2 else (0:Int)) 0).1.length:Int)/\x.2.1.toNat<(gX x.1 x.2.1 (if af v0.1.2=0 then aa v0.1.2 else (0:Int)) 0).1.length/\True/\ah .i64 (x.2.1+if af x.2.2=0 then aa x.2.2 else (0:Int))/\True/\True/\ah .i64 ((if af v0.1.2=0 then aa v0.1.2 else (0:Int)) - if af x.2.2=0 then aa x.2.2 else (0:Int))/\g8 ((gX x.1 x.2.1 (if af v0.1.2=0 then aa v0.1.2 else (0:Int)) 0).1.set x.2.1.toNat (if af x.2.2=0 then aI x.2.2 else (0:Int))) (x.2.1+if af x.2.2=0 then aa x.2.2 else (0:Int)) ((if af v0.1.2=0 then aa v0.1.2 else (0:Int)) - if af x.2.2=0 then aa x.2.2 else (0:Int))/\aU ((gX x.1 x.2.1 (if af v0.1.2=0 then aa v0.1.2 else (0:Int)) 0).1.set x.2.1.toNat (if af x.2.2=0 then aI x.2.2 else (0:Int))) (x.2.1+if af x.2.2=0 then aa x.2.2 else (0:Int)) ((if af v0.1.2=0 then aa v0.1.2 else (0:Int)) - if af x.2.2=0 then aa x.2.2 else (0:Int))=v1.1/\0=v1.2/\True)))))) (bR (aR x.1).1 x.2.1 true)) (ip x.1 x.2.1 x.2.2)
theorem Ai:tK:=by
 unfold tK;intro ⟨a,at_,h⟩ _ _
 have hF:ip a at_ h=if af h≠0 then ([],af h) else if h.2.2.2=true then ([],3) else if (am a).2.2≠0 then ([],(am a).2.2)
  else if (bR (ac a).1 at_ true).2=false then ([],5) else if aa (bR (ac a).1 at_ true).1.2<aa h then ([],7)
  else (aU ((eB a at_ (aa (bR (ac a).1 at_ true).1.2) 0 (aa (bR (ac a).1 at_ true).1.2)).set at_.toNat (aI h)) (at_+aa h) (aa (bR (ac a).1 at_ true).1.2 - aa h),0):=rfl
 simp only;rw [y6];refine ⟨trivial,fun hc=>?_,fun hc=>⟨fun h2=>?_,fun h2=>⟨trivial,fun h3=>?_,fun h3=>?_⟩⟩⟩
 ·have hc:af h≠0:=by simpa using hc
  rw [hF,if_pos hc];exact ⟨rfl,rfl,trivial⟩
 ·have hc:af h=0:=by simpa using hc
  rw [hF,if_neg (by omega),if_pos h2];exact ⟨rfl,rfl,trivial⟩
 ·have hc:af h=0:=by simpa using hc
  have h3:(am a).2.2≠0:=by simpa using h3
  rw [hF,if_neg (by omega),if_neg (by rw [h2]; simp),if_pos h3];exact ⟨rfl,rfl,trivial⟩
 have hc:af h=0:=by simpa using hc
 have h3:(am a).2.2=0:=by simpa using h3
 obtain ⟨e1,hal,hsp⟩:=xn h3;have hfi:=uw (ac a).1 at_ true;rw [if_neg (by omega),if_neg (by rw [h2]; simp),if_neg (by omega)] at hF;rw [e1,hF];refine ⟨trivial,fun h4=>?_,fun h4=>⟨trivial,trivial,fun h5=>?_,fun h5=>?_⟩⟩
 ·have h4:(bR (ac a).1 at_ true).2=false:=by simpa using h4
  rw [if_pos h4];exact ⟨rfl,rfl,trivial⟩
 ·have h4:(bR (ac a).1 at_ true).2=true:=by simpa using h4
  obtain ⟨q1,q2,q3⟩:=hfi h4;have hh:=(hsp _ q1).2;rw [if_pos hh,if_pos hc] at h5;have hn4:¬ (bR (ac a).1 at_ true).2=false:=by rw [h4]; simp
  rw [if_neg hn4,if_pos (of_decide_eq_true h5)];exact ⟨rfl,rfl,trivial⟩
 ·have h4:(bR (ac a).1 at_ true).2=true:=by simpa using h4
  obtain ⟨q1,q2,q3⟩:=hfi h4;obtain ⟨hin,hh⟩:=hsp _ q1;rw [if_pos hh,if_pos hc] at h5;have h5:=of_decide_eq_false h5;have hn4:¬ (bR (ac a).1 at_ true).2=false:=by rw [h4]; simp
  rw [if_neg hn4,if_neg h5];have hz:=aX hc;have hn:aa h=1+h.1+h.2.1:=rfl;have hL:aa (bR (ac a).1 at_ true).1.2=1+(bR (ac a).1 at_ true).1.2.1+(bR (ac a).1 at_ true).1.2.2.1:=rfl;unfold de at hin;rw [if_pos hh,if_pos hc,if_pos hc];rw [q2] at hin;generalize aa (bR (ac a).1 at_ true).1.2=L at *;have hp:g8 a at_ L:=⟨by omega,by omega,by omega,hal⟩;have hl:=fH a at_ L 0 L (by omega) (by omega) (by omega) (by omega);rw [ux hp];simp only [ah];exact ⟨trivial,trivial,by omega,by omega,by omega,trivial,by omega,trivial,trivial,by omega,⟨by omega,by omega,by rw [List.length_set]; omega,by rw [List.length_set]; omega⟩,trivial,trivial,trivial⟩
theorem Ej:DQ.ok Tryz.prog 157:=aD (ann:=co) (ae ix (ae mh (ae El (ae tV (ae mf (ae K7 ap)))))) Tryz.func157 (by kernel_rfl) Ai
end
section
open Go
set_option maxRecDepth 100000
set_option maxHeartbeats 1000000
end
section
open Go
set_option maxRecDepth 100000
set_option maxHeartbeats 1000000
theorem H5 (out:List cS) (k a b:Int):lM (out++[(k,a)]) b=out++[(k,a+b)]:=by
 unfold lM;simp
def iL (at_:Int):Int->List aw->Int
 | r,[]=>r
 | r,s::l=>iL at_ (if s.1=at_/\s.2.2.2.2=true then aa s.2 else r) l
theorem tq (at_:Int):∀ (l:List aw) (r:Int),(∀ s∈l,s.1≠at_)->iL at_ r l=r
 | [],_,_=>rfl
 | s::l,r,h=>by
  simp only [iL];rw [if_neg (fun e=>h s (by simp) e.1)];exact tq at_ l r (fun t ht=>h t (by simp [ht]))
theorem Bf (at_:Int):∀ (l:List aw) (r:Int),(∀ s∈l,¬ (s.1=at_/\s.2.2.2.2=true))->iL at_ r l=r
 | [],_,_=>rfl
 | s::l,r,h=>by
  simp only [iL];rw [if_neg (h s (by simp))];exact Bf at_ l r (fun t ht=>h t (by simp [ht]))
theorem tp {at_:Int}:∀ (l:List aw) (r:Int) (s:aw),l.Pairwise (fun s t=>s.1<t.1)->s∈l->s.1=at_->s.2.2.2.2=true->iL at_ r l=aa s.2
 | t::l,r,s,hs,hm,h1,h2=>by
  obtain ⟨p1,p2⟩:=List.pairwise_cons.1 hs;simp only [iL];rcases List.mem_cons.1 hm with rfl | hm
  ·rw [if_pos ⟨h1,h2⟩];exact tq at_ l _ (fun u hu e=>by have:=p1 u hu; omega)
  ·exact tp l _ s p2 hm h1 h2
theorem Cn {l:List aw} {at_:Int} {fr:Bool} (h:(bR l at_ fr).2=false):∀ s∈l,¬ (s.1=at_/\s.2.2.2.2=fr):=by
 intro s hs ⟨h1,h2⟩;have ha:=cR (fun s:aw=>decide (s.1=at_)&&s.2.2.2.2 == fr) l 0 (by omega);have:(l.any fun s:aw=>decide (s.1=at_)&&s.2.2.2.2 == fr)=true:=List.any_eq_true.2 ⟨s,hs,by simp [h1,h2]⟩;rw [this] at ha;have ha:=of_decide_eq_true ha;unfold bR at h;rw [if_neg (by omega)] at h;cases h
theorem y5 {l:List aw} (hs:l.Pairwise (fun s t=>s.1<t.1)) (at_:Int):(bU at_ l).2=(bR l at_ false).2/\((bR l at_ false).2=true->(bU at_ l).1=(bR l at_ false).1.2):=by
 cases h:(bR l at_ false).2
 ·rcases gh at_ l with e | ⟨s,h1,h2,h3,_⟩
  ·rw [e]; exact ⟨rfl,fun h=>by cases h⟩
  ·exact absurd ⟨h2,h3⟩ (Cn h s h1)
 ·obtain ⟨q1,q2,q3⟩:=uw l at_ false h;have:=nN hs q1 q3;rw [q2] at this;rw [this];exact ⟨rfl,fun _=>rfl⟩
theorem HT {b:List Int} {at_ n v k:Int} {i:Nat} (x:Int) (h:i<at_.toNat) (hl:at_.toNat<=b.length):eB (b.set i x) at_ n v k=(eB b at_ n v k).set i x:=by
 unfold eB lJ;rw [List.take_set,List.drop_set,if_pos (by omega),List.set_append,if_pos (by rw [List.length_take]; omega)]
theorem pC {b:List Int} {at_ n:Int} {i:Nat} (x:Int) (h:i<at_.toNat) (hl:at_.toNat<=b.length):aU (b.set i x) at_ n=(aU b at_ n).set i x:=by
 unfold aU;split
 ·rw [HT x h hl,List.set_comm _ _ (by omega)]
 ·rfl
theorem HU {b:List Int} {at_ n:Int} {i:Nat} (h:at_.toNat<=i) (h2:i<at_.toNat+n.toNat) (hl:at_.toNat+n.toNat<=b.length):(eB b at_ n 0 n).getD i 0=0:=by
 unfold eB lJ;have e:(List.take at_.toNat b).length=at_.toNat:=by rw [List.length_take]; omega
 rw [List.getD_eq_getElem?_getD,List.getElem?_append_right (by omega),e,List.getElem?_append_left (by simp; omega)];rw [List.take_of_length_le (by simp),List.getElem?_replicate];split <;> rfl
theorem zw {b:List Int} {at_ n:Int} {i:Nat} (h:i<at_.toNat) (hl:at_.toNat<=b.length):(aU b at_ n).getD i 0=b.getD i 0:=by
 unfold aU;split
 ·unfold eB lJ;rw [List.getD_eq_getElem?_getD,List.getElem?_set_ne (by omega),List.getElem?_append_left (by rw [List.length_take]; omega),List.getElem?_take,if_pos h];rfl
 ·rfl
theorem Dv {a:List Int} {at_ L n:Int} (hp:g8 a at_ L) (h1:1<=n) (h2:n<=L) (hw:Int) :
  (aU (aU a at_ L) (at_+n) (L - n)).set at_.toNat hw=aU ((eB a at_ L 0 L).set at_.toNat hw) (at_+n) (L - n) /\
  ∀ j,1<=j->j<n->((aU (aU a at_ L) (at_+n) (L - n)).set at_.toNat hw).getD (at_+j).toNat 0=0:=by
 obtain ⟨p1,p2,p3,p4⟩:=hp;have hl:=fH a at_ L 0 L p1 p3 p2 (by omega);have hE:aU a at_ L=(eB a at_ L 0 L).set at_.toNat (aI (0,L - 1,0,true)):=by unfold aU; rw [if_pos (by omega)]
 rw [hE,pC _ (by omega) (by omega),pC _ (by omega) (by omega),List.set_set];refine ⟨rfl,fun j h3 h4=>?_⟩;rw [List.getD_eq_getElem?_getD,List.getElem?_set_ne (by omega),<- List.getD_eq_getElem?_getD,zw (by omega) (by omega)];exact HU (by omega) (by omega) (by omega)
def si (h:dZ):Int:=if af h=0/\h.2.2.2=true then 3 else af h
def fB (e r n:Int):Int:=if e≠0 then e else if r=0 then 5 else if r<n then 7 else 0
theorem Dw {a:List Int} (hz:(am a).2.2=0) (at_:Int) (h:dZ) :
  ip a at_ h=(if fB (si h) (iL at_ 0 (ac a).1) (aa h)≠0 then [] else aU ((eB a at_ (iL at_ 0 (ac a).1) 0 (iL at_ 0 (ac a).1)).set at_.toNat (aI h)) (at_+aa h) (iL at_ 0 (ac a).1 - aa h),fB (si h) (iL at_ 0 (ac a).1) (aa h)) /\
  (fB (si h) (iL at_ 0 (ac a).1) (aa h)=0->g8 a at_ (iL at_ 0 (ac a).1)/\1<=aa h/\aa h<=iL at_ 0 (ac a).1/\af h=0):=by
 obtain ⟨_,hal,hsp⟩:=xn hz
 have hF:ip a at_ h=if af h≠0 then ([],af h) else if h.2.2.2=true then ([],3) else if (am a).2.2≠0 then ([],(am a).2.2)
  else if (bR (ac a).1 at_ true).2=false then ([],5) else if aa (bR (ac a).1 at_ true).1.2<aa h then ([],7)
  else (aU ((eB a at_ (aa (bR (ac a).1 at_ true).1.2) 0 (aa (bR (ac a).1 at_ true).1.2)).set at_.toNat (aI h)) (at_+aa h) (aa (bR (ac a).1 at_ true).1.2 - aa h),0):=rfl
 rw [hF];by_cases h1:af h=0
 ·rw [if_neg (by omega)];have hz1:=aX h1;have hn:aa h=1+h.1+h.2.1:=rfl;cases h2:h.2.2.2
  ·have e0:si h=0:=by unfold si; rw [h2,if_neg (by simp),h1]
   rw [e0,if_neg (by simp),if_neg (by omega)];cases h3:(bR (ac a).1 at_ true).2
   ·rw [Bf at_ _ 0 (Cn h3),if_pos rfl];have e1:fB 0 0 (aa h)=5:=rfl;rw [e1,if_pos (by omega)];exact ⟨rfl,fun h=>by omega⟩
   ·obtain ⟨q1,q2,q3⟩:=uw (ac a).1 at_ true h3;rw [tp _ 0 _ (bV a) q1 q2 q3,if_neg (by simp)];obtain ⟨hin,hh⟩:=hsp _ q1;have hz2:=aX hh;have hL:aa (bR (ac a).1 at_ true).1.2=1+(bR (ac a).1 at_ true).1.2.1+(bR (ac a).1 at_ true).1.2.2.1:=rfl;unfold de at hin;rw [q2] at hin;generalize aa (bR (ac a).1 at_ true).1.2=L at *;by_cases h4:L<aa h
    ·have e1:fB 0 L (aa h)=7:=by unfold fB; rw [if_neg (by omega),if_neg (by omega),if_pos h4]
     rw [e1,if_pos h4,if_pos (by omega)];exact ⟨rfl,fun h=>by omega⟩
    ·have e1:fB 0 L (aa h)=0:=by unfold fB; rw [if_neg (by omega),if_neg (by omega),if_neg h4]
     rw [e1,if_neg h4,if_neg (by omega)];exact ⟨rfl,fun _=>⟨⟨by omega,by omega,by omega,hal⟩,by omega,by omega,h1⟩⟩
  ·have e0:si h=3:=by unfold si; rw [h2,if_pos ⟨h1,rfl⟩]
   rw [e0,if_pos rfl];have e1:∀ r,fB 3 r (aa h)=3:=fun _=>rfl
   rw [e1,if_pos (by omega)];exact ⟨rfl,fun h=>by omega⟩
 ·have e0:si h=af h:=by unfold si; rw [if_neg (fun e=>h1 e.1)]
  have e1:∀ r,fB (af h) r (aa h)=af h:=fun _=>by unfold fB; rw [if_pos h1]
  rw [e0,if_pos h1,e1,if_pos h1];exact ⟨rfl,fun h=>absurd h h1⟩
end
section
open Go
set_option maxRecDepth 100000
set_option maxHeartbeats 1000000
def dg (l:List aw) (at_:Int):Int:=aa (bU at_ l).1
def aT (a keep pinned:List Int):List Int×Int :=
 if (am a).2.2≠0 then ([],(am a).2.2) else if (be keep&&be pinned)=false then ([],3)
 else if (keep.all (isB (ac a).1))=false then ([],5) else if (pinned.all (ft keep))=false then ([],5) else (keep.map (dg (ac a).1),0)
theorem JJ {l:List aw} (hs:l.Pairwise (fun s t=>s.1<t.1)) (at_:Int) :
  (ag (fun s:aw=>decide (s.1=at_)&&!s.2.2.2.2) 0 l<0->isB l at_=false) /\
  (¬ ag (fun s:aw=>decide (s.1=at_)&&!s.2.2.2.2) 0 l<0->isB l at_=true/\ag (fun s:aw=>decide (s.1=at_)&&!s.2.2.2.2) 0 l<(l.length:Int) /\
   (l.getD (ag (fun s:aw=>decide (s.1=at_)&&!s.2.2.2.2) 0 l).toNat (0,0,0,0,false)).2=(bU at_ l).1/\l.getD (ag (fun s:aw=>decide (s.1=at_)&&!s.2.2.2.2) 0 l).toNat (0,0,0,0,false)∈l):=by
 have hf:(fun s:aw=>decide (s.1=at_)&&!s.2.2.2.2)=(fun s:aw=>decide (s.1=at_)&&s.2.2.2.2 == false):=by
  funext s;cases s.2.2.2.2 <;> rfl
 obtain ⟨k1,k2⟩:=y5 hs at_;have hlt:=dW (fun s:aw=>decide (s.1=at_)&&s.2.2.2.2 == false) (0,0,0,0,false) l 0 (by omega);rw [hf];unfold isB;refine ⟨fun h=>?_,fun h=>?_⟩
 ·rw [k1];unfold bR;rw [if_pos h]
 ·have e:bR l at_ false=(l.getD (ag (fun s:aw=>decide (s.1=at_)&&s.2.2.2.2 == false) 0 l).toNat (0,0,0,0,false),true):=by
   unfold bR;rw [if_neg h]
  have k3:=k2 (by rw [e]);rw [k1,k3,e];exact ⟨rfl,by omega,rfl,aJ _ (by omega) (by omega)⟩
def GT:Spec:={ Ts:=[cE,.ref ty_I],Rs:=[.dat .bool],pre:=fun _=>True,F:=fun ((s,at_):aw×Int)=>decide (s.1=at_)&&!s.2.2.2.2 }
def wQ:Prop :=
  ∀ (x:(Int×Int×Int×Int×Bool)×Int),(ah .i64 x.1.1/\ah .i64 x.1.2.1/\ah .i64 x.1.2.2.1/\ah .i64 x.1.2.2.2.1/\True)/\ah .i64 x.2->True->(decide (x.1.1=x.2)&&!x.1.2.2.2.2)=(decide (x.1.1=x.2)&&!x.1.2.2.2.2)/\True
theorem Dl:wQ:=by
 unfold wQ;intro ⟨s,at_⟩ _ _;simp
theorem Hs:GT.ok Tryz.prog 289:=aD (ann:=co) ap Tryz.func289 (by kernel_rfl) Dl
def DM:Spec:={ Ts:=[ty_I,.ref (.arr ty_I)],Rs:=[.dat .bool],pre:=fun _=>True,F:=fun ((at_,keep):Int×List Int)=>!ft keep at_ }
def tG:Prop :=
  ∀ (x:Int×List Int),(ah .i64 x.1/\x.2.length * 8<=ax/\∀ (x_1:Int),x_1∈x.2->ah .i64 x_1)->True->True/\(!ft x.2 x.1)=!ft x.2 x.1/\True
theorem Ae:tG:=by
 unfold tG;intro _ _ _;exact ⟨trivial,rfl,trivial⟩
theorem Eg:DM.ok Tryz.prog 290:=aD (ann:=co) (ae yN ap) Tryz.func290 (by kernel_rfl) Ae
def Kq:Nat->Option LoopGen
 | 9=>some { rd:=[.own 9 202 cE,.dat 35 (.arr ty_I)],A:=fun ((l,keep):List aw×List Int)=>{ cs:=[.own 11 3 ty_I,.dat 37 ty_I],inv:=fun ((out,i):List Int×Int)=>0<=i/\i<=keep.length/\(keep.drop i.toNat).all (isB l)=keep.all (isB l)/\out=(keep.take i.toNat).map (dg l),mu:=fun ((_,i):List Int×Int)=>(keep.length - i).toNat } }
 | _=>none
def IQ:Spec:={ Ts:=[.arr bi,.arr ty_I,.arr ty_I],Rs:=[.own 3 ty_I,.dat ty_I],pre:=fun _=>True,F:=fun ((a,keep,pinned):List Int×List Int×List Int)=>aT a keep pinned }
def Bx:Prop :=
  ∀ (x:List Int×List Int×List Int),((x.1.length * 8<=ax/\∀ (x_1:Int),x_1∈x.1->ah .u64 x_1)/\(x.2.1.length * 8<=ax/\∀ (x_1:Int),x_1∈x.2.1->ah .i64 x_1)/\x.2.2.length * 8<=ax/\∀ (x_1:Int),x_1∈x.2.2->ah .i64 x_1)->True->True/\(decide ((am x.1).2.2≠0)=true->([]:List Int)=(aT x.1 x.2.1 x.2.2).1/\(am x.1).2.2=(aT x.1 x.2.1 x.2.2).2/\True)/\(decide ((am x.1).2.2≠0)=false->True/\((!be x.2.1)=false->True)/\((!be x.2.1||!be x.2.2)=true->([]:List Int)=(aT x.1 x.2.1 x.2.2).1/\3=(aT x.1 x.2.1 x.2.2).2/\True)/\((!be x.2.1||!be x.2.2)=false->True/\((0:Int)<=0/\0<=(x.2.1.length:Int)/\(List.drop (Int.toNat 0) x.2.1).all (isB (ac x.1).1)=x.2.1.all (isB (ac x.1).1)/\([]:List Int)=List.map (dg (ac x.1).1) (List.take (Int.toNat 0) x.2.1))/\∀ (x_1:List Int×Int),0<=x_1.2/\x_1.2<=(x.2.1.length:Int)/\(List.drop x_1.2.toNat x.2.1).all (isB (ac x.1).1)=x.2.1.all (isB (ac x.1).1)/\x_1.1=List.map (dg (ac x.1).1) (List.take x_1.2.toNat x.2.1)->(decide (x_1.2<(x.2.1.length:Int))=true->0<=x_1.2/\x_1.2<(x.2.1.length:Int)/\(∀ (s:aw),s∈(ac x.1).1->(fun (_:Int×Int×Int×Int×Bool)=>True,fun (x_2:Int×Int×Int×Int×Bool)=>decide (x_2.1=x.2.1.getD x_1.2.toNat 0)&&!x_2.2.2.2.2).1 s)/\(decide (ag (fun (x_2:Int×Int×Int×Int×Bool)=>decide (x_2.1=x.2.1.getD x_1.2.toNat 0)&&!x_2.2.2.2.2) 0 (ac x.1).1<0)=true->([]:List Int)=(aT x.1 x.2.1 x.2.2).1/\5=(aT x.1 x.2.1 x.2.2).2/\True)/\(decide (ag (fun (x_2:Int×Int×Int×Int×Bool)=>decide (x_2.1=x.2.1.getD x_1.2.toNat 0)&&!x_2.2.2.2.2) 0 (ac x.1).1<0)=false->0<=ag (fun (x_2:Int×Int×Int×Int×Bool)=>decide (x_2.1=x.2.1.getD x_1.2.toNat 0)&&!x_2.2.2.2.2) 0 (ac x.1).1/\ag (fun (x_2:Int×Int×Int×Int×Bool)=>decide (x_2.1=x.2.1.getD x_1.2.toNat 0)&&!x_2.2.2.2.2) 0 (ac x.1).1<(↑(ac x.1).1.length:Int)/\(ag (fun (x_2:Int×Int×Int×Int×Bool)=>decide (x_2.1=x.2.1.getD x_1.2.toNat 0)&&!x_2.2.2.2.2) 0 (ac x.1).1).toNat<(ac x.1).1.length/\True/\(x_1.1.length+[if af ((ac x.1).1.getD (ag (fun (x_2:Int×Int×Int×Int×Bool)=>decide (x_2.1=x.2.1.getD x_1.2.toNat 0)&&!x_2.2.2.2.2) 0 (ac x.1).1).toNat (0,0,0,0,false)).2=0 then aa ((ac x.1).1.getD (ag (fun (x_2:Int×Int×Int×Int×Bool)=>decide (x_2.1=x.2.1.getD x_1.2.toNat 0)&&!x_2.2.2.2.2) 0 (ac x.1).1).toNat (0,0,0,0,false)).2 else (0:Int)].length) * 8<=ax/\ah .i64 (x_1.2+1)/\(0<=x_1.2+1/\x_1.2+1<=(x.2.1.length:Int)/\(List.drop (x_1.2+1).toNat x.2.1).all (isB (ac x.1).1)=x.2.1.all (isB (ac x.1).1)/\x_1.1++[if af ((ac x.1).1.getD (ag (fun (x_2:Int×Int×Int×Int×Bool)=>decide (x_2.1=x.2.1.getD x_1.2.toNat 0)&&!x_2.2.2.2.2) 0 (ac x.1).1).toNat (0,0,0,0,false)).2=0 then aa ((ac x.1).1.getD (ag (fun (x_2:Int×Int×Int×Int×Bool)=>decide (x_2.1=x.2.1.getD x_1.2.toNat 0)&&!x_2.2.2.2.2) 0 (ac x.1).1).toNat (0,0,0,0,false)).2 else (0:Int)]=List.map (dg (ac x.1).1) (List.take (x_1.2+1).toNat x.2.1))/\((x.2.1.length:Int) - (x_1.2+1)).toNat<((x.2.1.length:Int) - x_1.2).toNat))/\(decide (x_1.2<(x.2.1.length:Int))=false->(∀ (s:Int),s∈x.2.2->(fun (_:Int)=>True,fun (x_2:Int)=>!ft x.2.1 x_2).1 s)/\((x.2.2.any fun (x_2:Int)=>!ft x.2.1 x_2)=true->([]:List Int)=(aT x.1 x.2.1 x.2.2).1/\5=(aT x.1 x.2.1 x.2.2).2/\True)/\((x.2.2.any fun (x_2:Int)=>!ft x.2.1 x_2)=false->x_1.1=(aT x.1 x.2.1 x.2.2).1/\0=(aT x.1 x.2.1 x.2.2).2/\True))))
theorem Gl:Bx:=by
 unfold Bx;intro ⟨a,keep,pinned⟩ ⟨_,⟨hb,_⟩,_⟩ _;unfold ax at hb;simp only at hb ⊢
 have hF:aT a keep pinned=if (am a).2.2≠0 then ([],(am a).2.2) else if (be keep&&be pinned)=false then ([],3)
  else if (keep.all (isB (ac a).1))=false then ([],5) else if (pinned.all (ft keep))=false then ([],5) else (keep.map (dg (ac a).1),0):=rfl
 rw [hF];refine ⟨trivial,fun hc=>?_,fun hc=>⟨trivial,fun _=>trivial,fun hr=>?_,fun hr=>⟨trivial,⟨by omega,by omega,rfl,rfl⟩,fun ⟨out,i⟩ ⟨h0,h1,h2,h3⟩=>⟨fun hlt=>?_,fun hge=>?_⟩⟩⟩⟩
 ·rw [if_pos (of_decide_eq_true hc)];exact ⟨rfl,rfl,trivial⟩
 ·rw [if_neg (of_decide_eq_false hc),if_pos (by revert hr; cases be keep <;> cases be pinned <;> simp)];exact ⟨rfl,rfl,trivial⟩
 ·have hlt:i<(keep.length:Int):=of_decide_eq_true hlt;simp only at h0 h1 h2 h3 ⊢;rw [if_neg (of_decide_eq_false hc),if_neg (by revert hr; cases be keep <;> cases be pinned <;> simp)];rw [bh (0:Int) h0 hlt,List.all_cons] at h2;have hts:=bB (0:Int) h0 hlt;obtain ⟨f1,f2⟩:=JJ (bV a) (keep.getD i.toNat 0);rw [hts];generalize keep.getD i.toNat 0=at_ at *;refine ⟨h0,hlt,fun _ _=>trivial,fun hn=>?_,fun hn=>?_⟩
  ·rw [f1 (of_decide_eq_true hn),Bool.false_and] at h2;rw [if_pos h2.symm];exact ⟨rfl,rfl,trivial⟩
  ·obtain ⟨g1,g2,g3,g4⟩:=f2 (of_decide_eq_false hn);have hn:¬ ag (fun s:aw=>decide (s.1=at_)&&!s.2.2.2.2) 0 (ac a).1<0:=of_decide_eq_false hn;rw [g1,Bool.true_and] at h2;have hh:=(eJ a _ g4).2.2;rw [g3] at hh ⊢;rw [if_pos hh];have hl:out.length=i.toNat:=by rw [h3,List.length_map,List.length_take]; omega
   unfold ax;simp only [ah,List.length_cons,List.length_nil];refine ⟨Int.not_lt.1 hn,g2,(Int.toNat_lt (Int.not_lt.1 hn)).2 g2,trivial,by omega,by omega,⟨by omega,by omega,h2,?_⟩,by omega⟩;rw [List.map_append,<- h3];rfl
 ·have hge:¬ i<(keep.length:Int):=of_decide_eq_false hge;simp only at h2 h3 ⊢;rw [b7 hge,List.all_nil] at h2;rw [cA hge] at h3;rw [if_neg (of_decide_eq_false hc),if_neg (by revert hr; cases be keep <;> cases be pinned <;> simp),if_neg (by rw [<- h2]; simp)];have e:(pinned.any fun at_=>!ft keep at_)=!(pinned.all (ft keep)):=by rw [List.not_all_eq_any_not]
  refine ⟨fun _ _=>trivial,fun hp=>?_,fun hp=>?_⟩
  ·rw [e] at hp;rw [if_pos (by simpa using hp)];exact ⟨rfl,rfl,trivial⟩
  ·rw [e] at hp;rw [if_neg (by simpa using hp)];exact ⟨h3,rfl,trivial⟩
theorem BQ:IQ.ok Tryz.prog 270:=aD (ann:=Kq) (ae iV (ae Jk (ae iU (ae nG (ae Hs (ae iW (ae yP (ae Eg ap)))))))) Tryz.func270 (by kernel_rfl) Gl
def bp (pinned keep long:List Int):Nat->Int
 | 0=>0
 | i+1=>(if ft pinned (keep.getD i 0)=true then keep.getD i 0 else bp pinned keep long i)+long.getD i 0
def fc (pinned keep long:List Int) (i:Nat):Int:=if ft pinned (keep.getD i 0)=true then keep.getD i 0 else bp pinned keep long i
def aC (keep long pinned:List Int):List Int:=(List.range keep.length).map (fc pinned keep long)
def iT (keep long:List Int):Prop:=long.length=keep.length/\keep.length<=256/\(∀ x∈keep,0<=x/\x<=255)/\∀ n∈long,1<=n/\n<=256
theorem cf {keep long:List Int} (pinned:List Int) (h:iT keep long):∀ i:Nat,i<=keep.length->0<=bp pinned keep long i/\bp pinned keep long i<=512 * i
 | 0,_=>by simp [bp]
 | i+1,hi=>by
  have ih:=cf pinned h i (by omega);obtain ⟨h1,h2,h3,h4⟩:=h;have k1:=h3 _ (aJ (0:Int) (xs:=keep) (i:=i) (by omega) (by omega));have k2:=h4 _ (aJ (0:Int) (xs:=long) (i:=i) (by omega) (by omega));simp only [Int.toNat_natCast] at k1 k2;simp only [bp];split <;> omega
theorem pT {keep long:List Int} (pinned:List Int) (h:iT keep long) {i:Nat} (hi:i<keep.length):0<=fc pinned keep long i/\fc pinned keep long i<=512 * i+255:=by
 have h0:=cf pinned h i (by omega);have k1:=h.2.2.1 _ (aJ (0:Int) (xs:=keep) (i:=i) (by omega) (by omega));simp only [Int.toNat_natCast] at k1;unfold fc;split <;> omega
def LI:Nat->Option LoopGen
 | 4=>some { rd:=[.dat 11 (.arr ty_I),.dat 1 (.arr ty_I),.dat 2 (.arr ty_I)],A:=fun ((keep,long,pinned):List Int×List Int×List Int)=>{ cs:=[.own 7 3 ty_I,.dat 8 ty_I,.dat 13 ty_I],inv:=fun ((out,e,i):List Int×Int×Int)=>0<=i/\i<=keep.length/\out=(List.range i.toNat).map (fc pinned keep long)/\e=bp pinned keep long i.toNat,mu:=fun ((_,_,i):List Int×Int×Int)=>(keep.length - i).toNat } }
 | _=>none
def KL:Spec:={ Ts:=[.arr ty_I,.arr ty_I,.arr ty_I],Rs:=[.own 3 ty_I],pre:=fun ((keep,long,_):List Int×List Int×List Int)=>iT keep long,F:=fun ((keep,long,pinned):List Int×List Int×List Int)=>aC keep long pinned }
def Fh:Prop :=
  ∀ (x:List Int×List Int×List Int),((x.1.length * 8<=ax/\∀ (x_1:Int),x_1∈x.1->ah .i64 x_1)/\(x.2.1.length * 8<=ax/\∀ (x_1:Int),x_1∈x.2.1->ah .i64 x_1)/\x.2.2.length * 8<=ax/\∀ (x_1:Int),x_1∈x.2.2->ah .i64 x_1)->iT x.1 x.2.1->((0:Int)<=0/\0<=(x.1.length:Int)/\([]:List Int)=List.map (fc x.2.2 x.1 x.2.1) (List.range (Int.toNat 0))/\0=bp x.2.2 x.1 x.2.1 (Int.toNat 0))/\∀ (x_1:List Int×Int×Int),0<=x_1.2.2/\x_1.2.2<=(x.1.length:Int)/\x_1.1=List.map (fc x.2.2 x.1 x.2.1) (List.range x_1.2.2.toNat)/\x_1.2.1=bp x.2.2 x.1 x.2.1 x_1.2.2.toNat->(decide (x_1.2.2<(x.1.length:Int))=true->0<=x_1.2.2/\x_1.2.2<(x.1.length:Int)/\True/\((!ft x.2.2 (x.1.getD x_1.2.2.toNat 0))=true->(x_1.1.length+[x_1.2.1].length) * 8<=ax/\0<=x_1.2.2/\x_1.2.2<(x.2.1.length:Int)/\ah .i64 (x_1.2.1+x.2.1.getD x_1.2.2.toNat 0)/\ah .i64 (x_1.2.2+1)/\(0<=x_1.2.2+1/\x_1.2.2+1<=(x.1.length:Int)/\x_1.1++[x_1.2.1]=List.map (fc x.2.2 x.1 x.2.1) (List.range (x_1.2.2+1).toNat)/\x_1.2.1+x.2.1.getD x_1.2.2.toNat 0=bp x.2.2 x.1 x.2.1 (x_1.2.2+1).toNat)/\((x.1.length:Int) - (x_1.2.2+1)).toNat<((x.1.length:Int) - x_1.2.2).toNat)/\((!ft x.2.2 (x.1.getD x_1.2.2.toNat 0))=false->(x_1.1.length+[x.1.getD x_1.2.2.toNat 0].length) * 8<=ax/\0<=x_1.2.2/\x_1.2.2<(x.2.1.length:Int)/\ah .i64 (x.1.getD x_1.2.2.toNat 0+x.2.1.getD x_1.2.2.toNat 0)/\ah .i64 (x_1.2.2+1)/\(0<=x_1.2.2+1/\x_1.2.2+1<=(x.1.length:Int)/\x_1.1++[x.1.getD x_1.2.2.toNat 0]=List.map (fc x.2.2 x.1 x.2.1) (List.range (x_1.2.2+1).toNat)/\x.1.getD x_1.2.2.toNat 0+x.2.1.getD x_1.2.2.toNat 0=bp x.2.2 x.1 x.2.1 (x_1.2.2+1).toNat)/\((x.1.length:Int) - (x_1.2.2+1)).toNat<((x.1.length:Int) - x_1.2.2).toNat))/\(decide (x_1.2.2<(x.1.length:Int))=false->x_1.1=aC x.1 x.2.1 x.2.2/\True)
theorem Ii:Fh:=by
 unfold Fh;intro ⟨keep,long,pinned⟩ _ hp;have hp':=hp;obtain ⟨p1,p2,p3,p4⟩:=hp';simp only at p1 p2 p3 p4 hp ⊢;refine ⟨⟨by omega,by omega,rfl,rfl⟩,fun ⟨out,e,i⟩ ⟨h0,h1,h2,h3⟩=>⟨fun hlt=>?_,fun hge=>?_⟩⟩
 ·have hlt':i<(keep.length:Int):=of_decide_eq_true hlt;simp only at h0 h1 h2 h3 ⊢;have ht:=pT pinned hp (i:=i.toNat) (by omega);have he:=cf pinned hp (i.toNat+1) (by omega);have k1:=p3 _ (aJ (0:Int) h0 hlt');have k2:=p4 _ (aJ (0:Int) (xs:=long) h0 (by omega))
  have hs:out++[fc pinned keep long i.toNat]=(List.range (i+1).toNat).map (fc pinned keep long):=by
   rw [show (i+1).toNat=i.toNat+1 by omega,List.range_succ,List.map_append,<- h2];rfl
  have hE:bp pinned keep long (i+1).toNat=fc pinned keep long i.toNat+long.getD i.toNat 0:=by
   rw [show (i+1).toNat=i.toNat+1 by omega];rfl
  have hl:out.length=i.toNat:=by rw [h2]; simp
  rw [hE,<- hs];subst h3;unfold ax;simp only [ah,List.length_cons,List.length_nil];have hT:fc pinned keep long i.toNat=if ft pinned (keep.getD i.toNat 0)=true then keep.getD i.toNat 0 else bp pinned keep long i.toNat:=rfl
  have hE':bp pinned keep long (i.toNat+1)=fc pinned keep long i.toNat+long.getD i.toNat 0:=rfl;rw [hE'] at he;refine ⟨h0,hlt',trivial,fun hc=>?_,fun hc=>?_⟩
  ·have hc:ft pinned (keep.getD i.toNat 0)=false:=by simpa using hc
   rw [if_neg (by rw [hc]; simp)] at hT;rw [hT] at he ⊢;exact ⟨by omega,h0,by omega,by omega,by omega,⟨by omega,by omega,rfl,rfl⟩,by omega⟩
  ·have hc:ft pinned (keep.getD i.toNat 0)=true:=by simpa using hc
   rw [if_pos hc] at hT;rw [hT] at he ⊢;exact ⟨by omega,h0,by omega,by omega,by omega,⟨by omega,by omega,rfl,rfl⟩,by omega⟩
 ·have hge:¬ i<(keep.length:Int):=of_decide_eq_false hge;simp only at h0 h1 h2;rw [h2,show i.toNat=keep.length by omega];exact ⟨rfl,trivial⟩
theorem FB:KL.ok Tryz.prog 271:=aD (ann:=LI) (ae yN ap) Tryz.func271 (by kernel_rfl) Ii
def GR:Spec:={ Ts:=[.arr bi,.arr ty_I,.arr ty_I],Rs:=[.own 3 ty_I,.dat ty_I],pre:=fun _=>True,F:=fun ((a,keep,pinned):List Int×List Int×List Int)=>((if (aT a keep pinned).2≠0 then [] else aC keep (aT a keep pinned).1 pinned,(aT a keep pinned).2):List Int×Int) }
theorem ga:∀ {l:List Int},be l=true->l.Pairwise (·<·)
 | [],_=>List.Pairwise.nil
 | [x],_=>by simp
 | x::y::l,h=>by
  simp only [be,Bool.and_eq_true,decide_eq_true_eq] at h;have ih:=ga h.2;refine List.pairwise_cons.2 ⟨fun z hz=>?_,ih⟩;rcases List.mem_cons.1 hz with rfl | hz
  ·exact h.1
  ·have:=(List.pairwise_cons.1 ih).1 z hz;omega
theorem iG:∀ {l:List Int} {s:Int},l.Pairwise (·<·)->(∀ x∈l,s<=x/\x<=255)->s<=256->(l.length:Int)<=256 - s
 | [],s,_,_,h=>by simp; omega
 | x::l,s,hp,hr,_=>by
  obtain ⟨h1,h2⟩:=List.pairwise_cons.1 hp;have h3:=hr x (by simp);have ih:=iG (s:=x+1) h2 (fun y hy=>by have:=h1 y hy; have:=hr y (by simp [hy]); omega) (by omega);simp only [List.length_cons];omega
theorem ul {a:List Int} {at_:Int} (h:isB (ac a).1 at_=true):∃ s∈(ac a).1,s.1=at_/\s.2.2.2.2=false/\dg (ac a).1 at_=aa s.2:=by
 unfold isB dg at *;rcases gh at_ (ac a).1 with e | ⟨s,h1,h2,h3,e⟩
 ·rw [e] at h; cases h
 ·exact ⟨s,h1,h2,h3,by rw [e]⟩
theorem ua {a keep pinned:List Int} (h:(aT a keep pinned).2=0):(am a).2.2=0/\be keep=true/\be pinned=true/\(∀ x∈keep,isB (ac a).1 x=true)/\(∀ x∈pinned,ft keep x=true)/\(aT a keep pinned).1=keep.map (dg (ac a).1):=by
 unfold aT at *;by_cases h1:(am a).2.2≠0
 ·rw [if_pos h1] at h; exact absurd h h1
 rw [if_neg h1] at h ⊢;by_cases h2:(be keep&&be pinned)=false
 ·rw [if_pos h2] at h; simp at h
 rw [if_neg h2] at h ⊢;by_cases h3:(keep.all (isB (ac a).1))=false
 ·rw [if_pos h3] at h; simp at h
 rw [if_neg h3] at h ⊢;by_cases h4:(pinned.all (ft keep))=false
 ·rw [if_pos h4] at h; simp at h
 rw [if_neg h4];have h2:be keep=true/\be pinned=true:=by simpa using h2
 have h3:keep.all (isB (ac a).1)=true:=by simpa using h3
 have h4:pinned.all (ft keep)=true:=by simpa using h4
 exact ⟨by omega,h2.1,h2.2,fun x hx=>List.all_eq_true.1 h3 x hx,fun x hx=>List.all_eq_true.1 h4 x hx,rfl⟩
theorem qj {a keep pinned:List Int} (h:(aT a keep pinned).2=0):iT keep (aT a keep pinned).1:=by
 obtain ⟨_,h2,_,h4,_,h6⟩:=ua h
 have hr:∀ x∈keep,0<=x/\x<=255:=fun x hx=>by
  obtain ⟨s,h1,h2,_⟩:=ul (h4 x hx);have:=cJ s h1;omega
 have hl:=iG (ga h2) hr (by omega);refine ⟨by rw [h6]; simp,by omega,hr,fun n hn=>?_⟩;rw [h6] at hn;obtain ⟨x,hx,rfl⟩:=List.mem_map.1 hn;obtain ⟨s,h1,_,_,e⟩:=ul (h4 x hx);have hz:=aX (eJ a s h1).2.2;rw [e];unfold aa;omega
def wO:Prop :=
  ∀ (x:List Int×List Int×List Int),(fun (v0:type_of% (aT x.1 x.2.1 x.2.2))=>((x.1.length * 8<=ax/\∀ (x_1:Int),x_1∈x.1->ah .u64 x_1)/\(x.2.1.length * 8<=ax/\∀ (x_1:Int),x_1∈x.2.1->ah .i64 x_1)/\x.2.2.length * 8<=ax/\∀ (x_1:Int),x_1∈x.2.2->ah .i64 x_1)->True->True/\(decide (v0.2≠0)=true->(([]:List Int)=if v0.2≠0 then ([]:List Int) else aC x.2.1 v0.1 x.2.2)/\v0.2=v0.2/\True)/\(decide (v0.2≠0)=false->iT x.2.1 v0.1/\(aC x.2.1 v0.1 x.2.2=if v0.2≠0 then ([]:List Int) else aC x.2.1 v0.1 x.2.2)/\0=v0.2/\True)) (aT x.1 x.2.1 x.2.2)
theorem Dj:wO:=by
 unfold wO;intro ⟨a,keep,pinned⟩ _ _;simp only;refine ⟨trivial,fun hc=>?_,fun hc=>?_⟩
 ·rw [if_pos (of_decide_eq_true hc)];exact ⟨rfl,trivial,trivial⟩
 ·have hz:(aT a keep pinned).2=0:=by simpa using of_decide_eq_false hc
  rw [if_neg (by omega)];exact ⟨qj hz,rfl,hz.symm,trivial⟩
theorem Hq:GR.ok Tryz.prog 254:=aD (ann:=co) (ae BQ (ae FB ap)) Tryz.func254 (by kernel_rfl) Dj
def gi (pinned keep long:List Int):Nat->List cS
 | 0=>[]
 | i+1=>gi pinned keep long i++(if bp pinned keep long i<fc pinned keep long i then [(bp pinned keep long i,fc pinned keep long i - bp pinned keep long i)] else [])
theorem ij (pinned keep long:List Int):∀ i,(gi pinned keep long i).length<=i
 | 0=>by simp [gi]
 | i+1=>by
  have:=ij pinned keep long i;simp only [gi,List.length_append];split <;> simp <;> omega
def b9 (n:Int) (keep long pinned:List Int):List cS:=gi pinned keep long keep.length++(if bp pinned keep long keep.length<n then [(bp pinned keep long keep.length,n - bp pinned keep long keep.length)] else [])
def gu (a keep pinned:List Int):List cS×Int:=(if (aT a keep pinned).2≠0 then [] else b9 a.length keep (aT a keep pinned).1 pinned,(aT a keep pinned).2)
def CQ:Nat->Option LoopGen
 | 3000272=>some eE
 | 8=>some { rd:=[.own 8 3 ty_I,.own 29 3 ty_I,.dat 1 (.arr ty_I),.dat 2 (.arr ty_I)],A:=fun ((long,to,keep,pinned):List Int×List Int×List Int×List Int)=>{ cs:=[.boxS 10 [.own 105 ji],.box 11 ty_I,.dat 31 ty_I],inv:=fun ((out,e,i):List cS×Int×Int)=>0<=i/\i<=keep.length/\to=aC keep long pinned/\out=gi pinned keep long i.toNat/\e=bp pinned keep long i.toNat,mu:=fun ((_,_,i):List cS×Int×Int)=>(keep.length - i).toNat } }
 | _=>none
def AH:Spec:={ Ts:=[.arr bi,.arr ty_I,.arr ty_I],Rs:=[.own 105 ji,.dat ty_I],pre:=fun _=>True,F:=fun ((a,keep,pinned):List Int×List Int×List Int)=>gu a keep pinned }
def rc:Prop :=
  ∀ (x:List Int×List Int×List Int),(fun (v1:type_of% (gu x.1 x.2.1 x.2.2))=>(fun (v0:type_of% (aT x.1 x.2.1 x.2.2))=>((x.1.length * 8<=ax/\∀ (x_1:Int),x_1∈x.1->ah .u64 x_1)/\(x.2.1.length * 8<=ax/\∀ (x_1:Int),x_1∈x.2.1->ah .i64 x_1)/\x.2.2.length * 8<=ax/\∀ (x_1:Int),x_1∈x.2.2->ah .i64 x_1)->True->True/\(decide (v0.2≠0)=true->([]:List (Int×Int))=v1.1/\v0.2=v1.2/\True)/\(decide (v0.2≠0)=false->iT x.2.1 v0.1/\((0:Int)<=0/\0<=(x.2.1.length:Int)/\aC x.2.1 v0.1 x.2.2=aC x.2.1 v0.1 x.2.2/\([]:List (Int×Int))=gi x.2.2 x.2.1 v0.1 (Int.toNat 0)/\0=bp x.2.2 x.2.1 v0.1 (Int.toNat 0))/\∀ (x_1:List (Int×Int)×Int×Int),0<=x_1.2.2/\x_1.2.2<=(x.2.1.length:Int)/\aC x.2.1 v0.1 x.2.2=aC x.2.1 v0.1 x.2.2/\x_1.1=gi x.2.2 x.2.1 v0.1 x_1.2.2.toNat/\x_1.2.1=bp x.2.2 x.2.1 v0.1 x_1.2.2.toNat->(decide (x_1.2.2<(↑(aC x.2.1 v0.1 x.2.2).length:Int))=true->0<=x_1.2.2/\x_1.2.2<(↑(aC x.2.1 v0.1 x.2.2).length:Int)/\x_1.2.2.toNat<(aC x.2.1 v0.1 x.2.2).length/\∀ (_:Array Value),(decide (x_1.2.1<(aC x.2.1 v0.1 x.2.2).getD x_1.2.2.toNat 0)=true->ah .i64 ((aC x.2.1 v0.1 x.2.2).getD x_1.2.2.toNat 0 - x_1.2.1)/\(x_1.1.length+[(x_1.2.1,(aC x.2.1 v0.1 x.2.2).getD x_1.2.2.toNat 0 - x_1.2.1)].length) * (8+8)<=ax/\0<=x_1.2.2/\x_1.2.2<(v0.1.length:Int)/\x_1.2.2.toNat<v0.1.length/\ah .i64 ((aC x.2.1 v0.1 x.2.2).getD x_1.2.2.toNat 0+v0.1.getD x_1.2.2.toNat 0)/\ah .i64 (x_1.2.2+1)/\(0<=x_1.2.2+1/\x_1.2.2+1<=(x.2.1.length:Int)/\aC x.2.1 v0.1 x.2.2=aC x.2.1 v0.1 x.2.2/\x_1.1++[(x_1.2.1,(aC x.2.1 v0.1 x.2.2).getD x_1.2.2.toNat 0 - x_1.2.1)]=gi x.2.2 x.2.1 v0.1 (x_1.2.2+1).toNat/\(aC x.2.1 v0.1 x.2.2).getD x_1.2.2.toNat 0+v0.1.getD x_1.2.2.toNat 0=bp x.2.2 x.2.1 v0.1 (x_1.2.2+1).toNat)/\((x.2.1.length:Int) - (x_1.2.2+1)).toNat<((x.2.1.length:Int) - x_1.2.2).toNat)/\(decide (x_1.2.1<(aC x.2.1 v0.1 x.2.2).getD x_1.2.2.toNat 0)=false->0<=x_1.2.2/\x_1.2.2<(v0.1.length:Int)/\x_1.2.2.toNat<v0.1.length/\ah .i64 ((aC x.2.1 v0.1 x.2.2).getD x_1.2.2.toNat 0+v0.1.getD x_1.2.2.toNat 0)/\ah .i64 (x_1.2.2+1)/\(0<=x_1.2.2+1/\x_1.2.2+1<=(x.2.1.length:Int)/\aC x.2.1 v0.1 x.2.2=aC x.2.1 v0.1 x.2.2/\x_1.1=gi x.2.2 x.2.1 v0.1 (x_1.2.2+1).toNat/\(aC x.2.1 v0.1 x.2.2).getD x_1.2.2.toNat 0+v0.1.getD x_1.2.2.toNat 0=bp x.2.2 x.2.1 v0.1 (x_1.2.2+1).toNat)/\((x.2.1.length:Int) - (x_1.2.2+1)).toNat<((x.2.1.length:Int) - x_1.2.2).toNat))/\(decide (x_1.2.2<(↑(aC x.2.1 v0.1 x.2.2).length:Int))=false->∀ (_:Array Value),(decide (x_1.2.1<(x.1.length:Int))=true->ah .i64 ((x.1.length:Int) - x_1.2.1)/\(x_1.1.length+[(x_1.2.1,(x.1.length:Int) - x_1.2.1)].length) * (8+8)<=ax/\x_1.1++[(x_1.2.1,(x.1.length:Int) - x_1.2.1)]=v1.1/\0=v1.2/\True)/\(decide (x_1.2.1<(x.1.length:Int))=false->x_1.1=v1.1/\0=v1.2/\True)))) (aT x.1 x.2.1 x.2.2)) (gu x.1 x.2.1 x.2.2)
theorem xH:rc:=by
 unfold rc;intro ⟨a,keep,pinned⟩ ⟨⟨ha,_⟩,_⟩ _;unfold ax at ha;simp only at ha ⊢;have hF:gu a keep pinned=(if (aT a keep pinned).2≠0 then [] else b9 a.length keep (aT a keep pinned).1 pinned,(aT a keep pinned).2):=rfl;rw [hF];refine ⟨trivial,fun hc=>?_,fun hc=>?_⟩
 ·rw [if_pos (of_decide_eq_true hc)];exact ⟨rfl,rfl,trivial⟩
 have hz:(aT a keep pinned).2=0:=by simpa using of_decide_eq_false hc
 have hp:=qj hz;rw [if_neg (by omega),hz];generalize (aT a keep pinned).1=long at *;have hlen:(aC keep long pinned).length=keep.length:=by simp [aC]
 have hp':=hp;obtain ⟨p1,p2,p3,p4⟩:=hp';rw [hlen];refine ⟨hp,⟨by omega,by omega,trivial,rfl,rfl⟩,fun ⟨out,e,i⟩ ⟨h0,h1,_,h2,h3⟩=>⟨fun hlt=>?_,fun hge=>?_⟩⟩
 ·have hlt':i<(keep.length:Int):=of_decide_eq_true hlt;simp only at h0 h1 h2 h3 ⊢;have ht:=pT pinned hp (i:=i.toNat) (by omega);have he:=cf pinned hp i.toNat (by omega);have he':=cf pinned hp (i.toNat+1) (by omega);have hE':bp pinned keep long (i.toNat+1)=fc pinned keep long i.toNat+long.getD i.toNat 0:=rfl
  have hg:(aC keep long pinned).getD i.toNat 0=fc pinned keep long i.toNat:=by
   unfold aC;rw [List.getD_eq_getElem?_getD,List.getElem?_map,List.getElem?_range (by omega)];rfl
  have hl:=ij pinned keep long i.toNat;rw [<- h2] at hl;have hs:(i+1).toNat=i.toNat+1:=by omega
  have hG:gi pinned keep long (i.toNat+1)=out++(if bp pinned keep long i.toNat<fc pinned keep long i.toNat then [(bp pinned keep long i.toNat,fc pinned keep long i.toNat - bp pinned keep long i.toNat)] else []):=by
   rw [h2];rfl
  rw [hg,hs,hG,hE',<- h3];rw [hE'] at he';rw [<- h3] at he;unfold ax;simp only [ah,List.length_cons,List.length_nil];refine ⟨h0,hlt',by omega,fun _=>⟨fun hc=>?_,fun hc=>?_⟩⟩
  ·rw [if_pos (of_decide_eq_true hc)];exact ⟨by omega,by omega,h0,by omega,by omega,by omega,by omega,⟨by omega,by omega,trivial,rfl,trivial⟩,by omega⟩
  ·rw [if_neg (of_decide_eq_false hc),List.append_nil];exact ⟨h0,by omega,by omega,by omega,by omega,⟨by omega,by omega,trivial,rfl,trivial⟩,by omega⟩
 ·have hge:¬ i<(keep.length:Int):=of_decide_eq_false hge;simp only at h0 h1 h2 h3 ⊢;have hi:i.toNat=keep.length:=by omega
  rw [hi] at h2 h3;have he:=cf pinned hp keep.length (by omega);have hl:=ij pinned keep long keep.length
  have hP:b9 a.length keep long pinned=out++(if bp pinned keep long keep.length<a.length then [(bp pinned keep long keep.length,a.length - bp pinned keep long keep.length)] else []):=by
   rw [h2];rfl
  rw [<- h2] at hl;rw [hP,<- h3];rw [<- h3] at he;unfold ax;simp only [ah,List.length_cons,List.length_nil];refine fun _=>⟨fun hc=>?_,fun hc=>?_⟩
  ·rw [if_pos (of_decide_eq_true hc)];exact ⟨by omega,by omega,rfl,trivial,trivial⟩
  ·rw [if_neg (of_decide_eq_false hc),List.append_nil];exact ⟨rfl,trivial,trivial⟩
theorem BO:AH.ok Tryz.prog 255:=aD (ann:=CQ) (ae BQ (ae FB ap)) Tryz.func255 (by kernel_rfl) xH
theorem HP (a:List Int) (at_:Int):af (bU at_ (ac a).1).1=0:=by
 rcases gh at_ (ac a).1 with e | ⟨s,h1,_,_,e⟩
 ·rw [e]; rfl
 ·rw [e]; exact (eJ a s h1).2.2
theorem MU (a:List Int) (at_:Int):1<=dg (ac a).1 at_/\dg (ac a).1 at_<=256:=by
 have:=aX (HP a at_);unfold dg aa;omega
end
section
open Go
set_option maxRecDepth 100000
set_option maxHeartbeats 1000000
theorem kV:∀ {l:List aw} {s e:Int},fi s e l->∀ x∈l,s<=x.1/\1<=aa x.2
 | [],_,_,_,x,h=>by cases h
 | y::l,s,e,⟨h1,h2,h3⟩,x,h=>by
  rcases List.mem_cons.1 h with rfl | h
  ·omega
  ·have:=kV h3 x h;omega
theorem sS:∀ {l:List aw} {s e:Int},fi s e l->∀ x∈l,∀ y∈l,x.1<y.1->x.1+aa x.2<=y.1
 | [],_,_,_,x,h,_,_,_=>by cases h
 | z::l,s,e,⟨h1,h2,h3⟩,x,hx,y,hy,hlt=>by
  rcases List.mem_cons.1 hx with hx1 | hx1 <;> rcases List.mem_cons.1 hy with hy1 | hy1
  ·subst hx1; subst hy1; omega
  ·have:=kV h3 y hy1;subst hx1; omega
  ·have:=kV h3 x hx1;subst hy1; omega
  ·exact sS h3 x hx1 y hy1 hlt
theorem ID {pinned keep long:List Int} {i:Nat} (hle:bp pinned keep long i<=keep.getD i 0):bp pinned keep long i<=fc pinned keep long i/\fc pinned keep long i<=keep.getD i 0:=by
 unfold fc;split <;> omega
theorem FT {pinned keep long:List Int} {N:Int} (hp:iT keep long) (hd:∀ i:Nat,i+1<keep.length->keep.getD i 0+long.getD i 0<=keep.getD (i+1) 0) (hN:∀ i:Nat,i<keep.length->keep.getD i 0+long.getD i 0<=N) :
  ∀ i:Nat,i<keep.length->bp pinned keep long i<=keep.getD i 0
 | 0,hi=>by
  have:=hp.2.2.1 _ (aJ (0:Int) (xs:=keep) (i:=(0:Nat)) (by omega) (by omega));simp only [Int.toNat_natCast] at this;simp only [bp];omega
 | i+1,hi=>by
  have ih:=FT (pinned:=pinned) hp hd hN i (by omega);have h1:=ID ih;have h2:=hd i hi;have e:bp pinned keep long (i+1)=fc pinned keep long i+long.getD i 0:=rfl;rw [e];omega
theorem HJ {a keep pinned:List Int} (h:(aT a keep pinned).2=0):(∀ i:Nat,i+1<keep.length->keep.getD i 0+(keep.map (dg (ac a).1)).getD i 0<=keep.getD (i+1) 0)/\∀ i:Nat,i<keep.length->keep.getD i 0+(keep.map (dg (ac a).1)).getD i 0<=(a.length:Int):=by
 obtain ⟨h1,h2,_,h4,_,_⟩:=ua h
 have hG:∀ k:Nat,k<keep.length->(keep.map (dg (ac a).1)).getD k 0=dg (ac a).1 (keep.getD k 0):=by
  intro k hk;rw [List.getD_eq_getElem?_getD,List.getElem?_map,List.getD_eq_getElem?_getD,List.getElem?_eq_getElem hk];rfl
 obtain ⟨_,_,hs3,hs4,_,_,_⟩:=bq h1;have ht:=fC hs4
 have hm:∀ i:Nat,i<keep.length->keep.getD i 0∈keep:=fun i hi=>by
  have:=aJ (0:Int) (xs:=keep) (i:=i) (by omega) (by omega);simpa only [Int.toNat_natCast] using this
 refine ⟨fun i hi=>?_,fun i hi=>?_⟩
 ·rw [hG i (by omega)];obtain ⟨s,s1,s2,_,s4⟩:=ul (h4 _ (hm i (by omega)));obtain ⟨t,t1,t2,_,_⟩:=ul (h4 _ (hm (i+1) hi))
  have hlt:keep.getD i 0<keep.getD (i+1) 0:=by
   have hp:=List.pairwise_iff_getElem.1 (ga h2) i (i+1) (by omega) hi (by omega);rw [List.getD_eq_getElem?_getD,List.getElem?_eq_getElem (by omega),List.getD_eq_getElem?_getD,List.getElem?_eq_getElem hi];exact hp
  rw [s4,<- s2,<- t2];exact sS ht s s1 t t1 (by omega)
 ·rw [hG i hi];obtain ⟨s,s1,s2,_,s4⟩:=ul (h4 _ (hm i hi));obtain ⟨_,hin,hh⟩:=eJ a s s1;have hz:=aX hh;rw [s4,<- s2];unfold de at hin;unfold aa;omega
end
section
open Go
set_option maxRecDepth 100000
set_option maxHeartbeats 1000000
theorem Ay (at_:Int) (l:List Int) (r:List aw) (h:spotsS at_ l=some r):∀ s∈r,at_<=s.1/\s.2=aV (l.getD (s.1 - at_).toNat 0)/\a8 (l.getD (s.1 - at_).toNat 0)=true:=by
 induction at_,l using spotsS.induct generalizing r with
 | case1 at_ =>
  simp only [spotsS,Option.some.injEq] at h;subst h;simp
 | case2 at_ v l hv ih =>
  rw [cK hv.1 hv.2] at h;obtain ⟨r',hr,rfl⟩:=Option.map_eq_some_iff.1 h;have hl:=dU hv.1;intro s hs;rcases List.mem_cons.1 hs with rfl | hs
  ·simp only [Int.sub_self];exact ⟨Int.le_refl _,rfl,hv.1⟩
  ·obtain ⟨h1,h2,h3⟩:=ih r' hr s hs
   have e:((v::l).drop (aa (aV v)).toNat).getD (s.1 - (at_+aa (aV v))).toNat 0=(v::l).getD (s.1 - at_).toNat 0:=by
    rw [List.getD_eq_getElem?_getD,List.getElem?_drop,List.getD_eq_getElem?_getD];congr 2;omega
   rw [e] at h2 h3;exact ⟨by omega,h2,h3⟩
 | case3 at_ v l hv =>
  rw [eH hv] at h;cases h
theorem qO {a:List Int}:∀ s∈(ac a).1,s.2=aV (a.getD s.1.toNat 0)/\a8 (a.getD s.1.toNat 0)=true:=by
 unfold ac;split
 ·intro s hs; cases hs
 ·cases h:spotsS 0 a with
  | none=>intro s hs; cases hs
  | some l =>
   intro s hs;have:=Ay 0 a l h s hs;rw [Int.sub_zero] at this;exact this.2
def eG (a:List Int) (at_:Int):dZ:=(bU at_ (ac a).1).1
def bF (a:List Int) (at_:Int):List Int:=aS a (at_,eG a at_)
def gD (a:List Int) (at_:Int):List Int:=iq a (at_,eG a at_)
theorem ff {a:List Int} {at_:Int} (h:isB (ac a).1 at_=true):(at_,eG a at_)∈(ac a).1/\de a (at_,eG a at_)/\af (eG a at_)=0/\eG a at_=aV (a.getD at_.toNat 0)/\a8 (a.getD at_.toNat 0)=true/\(eG a at_).2.2.2=false:=by
 unfold isB eG at *;rcases gh at_ (ac a).1 with e | ⟨s,h1,h2,h3,e⟩
 ·rw [e] at h; cases h
 ·rw [e];have e2:(at_,s.2)=s:=by rw [<- h2]
  rw [e2];obtain ⟨_,k2,k3⟩:=eJ a s h1;obtain ⟨k4,k5⟩:=qO s h1;rw [h2] at k4 k5;exact ⟨h1,k2,k3,k4,k5,h3⟩
theorem bW {a:List Int} {at_:Int} (h:isB (ac a).1 at_=true):((bF a at_).length:Int)=(eG a at_).1/\((gD a at_).length:Int)=(eG a at_).2.1/\0<=at_/\at_+1+(eG a at_).1+(eG a at_).2.1<=a.length/\0<=(eG a at_).1/\0<=(eG a at_).2.1:=by
 obtain ⟨_,k2,_⟩:=ff h;unfold de at k2;simp only at k2;refine ⟨?_,?_,by omega,by omega,by omega,by omega⟩
 ·unfold bF aS;rw [List.length_drop,List.length_take];simp only;omega
 ·unfold gD iq;rw [List.length_drop,List.length_take];simp only;omega
theorem Em {a:List Int} {at_:Int} (h:isB (ac a).1 at_=true):(a.drop at_.toNat).take (1+(eG a at_).1+(eG a at_).2.1).toNat=a.getD at_.toNat 0::(bF a at_++gD a at_):=by
 obtain ⟨l1,l2,l3,l4,l5,l6⟩:=bW h;unfold bF gD aS iq;simp only;rw [bh (0:Int) l3 (by omega),show (1+(eG a at_).1+(eG a at_).2.1).toNat=((eG a at_).1+(eG a at_).2.1).toNat+1 by omega,List.take_succ_cons];congr 1;generalize (eG a at_).1=r at *;generalize (eG a at_).2.1=b at *
 rw [List.drop_take,List.drop_take,show (r+b).toNat=r.toNat+b.toNat by omega,show (at_+1+r).toNat - (at_+1).toNat=r.toNat by omega,show (at_+1+r+b).toNat - (at_+1+r).toNat=b.toNat by omega,
  List.take_add,List.drop_drop,show (at_+1).toNat+r.toNat=(at_+1+r).toNat by omega]
def kF (keep to:List Int) (v:Int):Option Int:=if v=0 then some 0 else if ft keep (v - 1)=true then some (to.getD (cC keep (v - 1)).toNat 0+1) else none
def jQ (keep to:List Int) (v:Int):Int:=(kF keep to v).getD 0
def eT (keep to l:List Int):Bool:=l.all fun v=>(kF keep to v).isSome
def gK (a keep to:List Int) (at_:Int):List Int:=a.getD at_.toNat 0::((bF a at_).map (jQ keep to)++gD a at_)
def qp (pinned keep long:List Int) (i:Nat):List Int:=List.replicate (fc pinned keep long i - bp pinned keep long i).toNat 0
def eo (a keep to pinned long:List Int):Nat->List Int
 | 0=>[]
 | i+1=>eo a keep to pinned long i++(qp pinned keep long i++gK a keep to (keep.getD i 0))
def iZ (w:List Int) (r:cS):List Int:=w.set r.1.toNat (aI (0,r.2 - 1,0,true))
def lI (a keep to pinned long:List Int) (g:List cS):List Int :=
 g.foldl iZ (eo a keep to pinned long keep.length++List.replicate ((a.length:Int) - bp pinned keep long keep.length).toNat 0)
def d5 (a keep pinned:List Int):List Int×List Int×Int :=
 if (aT a keep pinned).2≠0 then ([],[],(aT a keep pinned).2)
 else if (keep.all fun at_=>eT keep (aC keep (aT a keep pinned).1 pinned) (bF a at_))=true then
  (lI a keep (aC keep (aT a keep pinned).1 pinned) pinned (aT a keep pinned).1 (b9 a.length keep (aT a keep pinned).1 pinned),aC keep (aT a keep pinned).1 pinned,0)
 else ([],[],8)
structure Plan (a keep pinned long:List Int):Prop where
 chk:(am a).2.2=0
 al:a.length<=256
 isb:∀ x∈keep,isB (ac a).1 x=true
 pre:iT keep long
 lg:∀ i:Nat,i<keep.length->long.getD i 0=1+(eG a (keep.getD i 0)).1+(eG a (keep.getD i 0)).2.1
 le:∀ i:Nat,i<keep.length->bp pinned keep long i<=fc pinned keep long i/\fc pinned keep long i+long.getD i 0<=(a.length:Int)
 en:bp pinned keep long keep.length<=(a.length:Int)
 rs:keep.Pairwise (·<·)
theorem Fw {a keep pinned:List Int} (h:(aT a keep pinned).2=0):Plan a keep pinned (aT a keep pinned).1:=by
 obtain ⟨k1,k2,_,k4,_,k6⟩:=ua h;obtain ⟨d1,d2⟩:=HJ h;have hp:=qj h;rw [k6] at hp ⊢
 have hG:∀ k:Nat,k<keep.length->(keep.map (dg (ac a).1)).getD k 0=dg (ac a).1 (keep.getD k 0):=by
  intro k hk;rw [List.getD_eq_getElem?_getD,List.getElem?_map,List.getD_eq_getElem?_getD,List.getElem?_eq_getElem hk];rfl
 have hle:=FT (pinned:=pinned) hp d1 d2
 have hto:∀ i:Nat,i<keep.length->bp pinned keep (keep.map (dg (ac a).1)) i<=fc pinned keep (keep.map (dg (ac a).1)) i/\fc pinned keep (keep.map (dg (ac a).1)) i+(keep.map (dg (ac a).1)).getD i 0<=(a.length:Int):=fun i hi=>by
  have h1:=ID (hle i hi);have h2:=d2 i hi;omega
 refine ⟨k1,(bq k1).1,k4,hp,fun i hi=>by rw [hG i hi]; rfl,hto,?_,ga k2⟩;cases hn:keep.length with
 | zero=>simp [bp]
 | succ n =>
  have:=hto n (by omega);show fc pinned keep (keep.map (dg (ac a).1)) n+(keep.map (dg (ac a).1)).getD n 0<=_;exact this.2
theorem ka {a keep to:List Int} {at_:Int} (h:isB (ac a).1 at_=true):((gK a keep to at_).length:Int)=1+(eG a at_).1+(eG a at_).2.1:=by
 obtain ⟨l1,l2,_⟩:=bW h;unfold gK;simp only [List.length_cons,List.length_append,List.length_map];omega
theorem dS {keep:List Int} {i:Nat} (h:i<keep.length):keep.getD i 0∈keep:=by
 have:=aJ (0:Int) (xs:=keep) (i:=i) (by omega) (by omega);simpa only [Int.toNat_natCast] using this
theorem j6 {a keep pinned long:List Int} (to:List Int) (hP:Plan a keep pinned long):∀ i:Nat,i<=keep.length->((eo a keep to pinned long i).length:Int)=bp pinned keep long i
 | 0,_=>rfl
 | i+1,hi=>by
  have ih:=j6 to hP i (by omega);have h1:=ka (keep:=keep) (to:=to) (hP.isb _ (dS (i:=i) (by omega)));have h2:=hP.le i (by omega);have h3:=hP.lg i (by omega);have hE:bp pinned keep long (i+1)=fc pinned keep long i+long.getD i 0:=rfl;simp only [eo,List.length_append,qp,List.length_replicate];omega
def o7 (keep to:List Int):Nat->List (Int×Int)
 | 0=>[(0,0)]
 | i+1=>fU (o7 keep to i) (keep.getD i 0+1) (to.getD i 0+1)
theorem no {α:Type} (f:α->Bool) (x:α):∀ (l:List α) (k:Int),ag f k (l++[x])=if l.any f=true then ag f k l else if f x=true then k+l.length else -1
 | [],k=>by simp [ag]
 | y::l,k=>by
  have ih:=no f x l (k+1);simp only [List.cons_append,ag,List.any_cons,ih];by_cases hy:f y=true
  ·simp [hy]
  ·have hy:f y=false:=by simpa using hy
   simp only [hy,Bool.false_eq_true,if_false,Bool.false_or,List.length_cons];split
   ·rfl
   ·split
    ·omega
    ·rfl
theorem xd {keep to:List Int} (hk:keep.Pairwise (·<·)) (h0:∀ x∈keep,0<=x) (v:Int):∀ i:Nat,i<=keep.length->bt (o7 keep to i) v=if v=0 then some 0 else if ft (keep.take i) (v - 1)=true then some (to.getD (cC (keep.take i) (v - 1)).toNat 0+1) else none
 | 0,_=>by
  simp only [o7,bt,List.take_zero,ft,List.any_nil,Bool.false_eq_true,if_false];by_cases hv:v=0
  ·simp [hv]
  ·simp [hv,Ne.symm hv]
 | i+1,hi=>by
  have ih:=xd (to:=to) hk h0 v i (by omega);have hx:=h0 _ (dS (i:=i) (by omega))
  have ht:keep.take (i+1)=keep.take i++[keep.getD i 0]:=by
   rw [List.take_succ_eq_append_getElem (by omega)];congr 2;rw [List.getD_eq_getElem?_getD,List.getElem?_eq_getElem (by omega)];rfl
  have hnot:ft (keep.take i) (keep.getD i 0)=false:=by
   unfold ft;rw [List.any_eq_false];intro y hy;obtain ⟨j,hj,rfl⟩:=List.mem_iff_getElem.1 hy;rw [List.length_take] at hj;have:=List.pairwise_iff_getElem.1 hk j i (by omega) (by omega) (by omega);rw [List.getElem_take];simp only [decide_eq_true_eq];rw [List.getD_eq_getElem?_getD,List.getElem?_eq_getElem (by omega)];simp only [Option.getD_some];omega
  simp only [o7];rw [jc,ih,ht];unfold cC ft;rw [no,List.any_append];simp only [List.any_cons,List.any_nil,Bool.or_false,List.length_take];by_cases hv:v=keep.getD i 0+1
  ·rw [if_pos hv,if_neg (by omega)];have e:v - 1=keep.getD i 0:=by omega
   rw [e];unfold ft at hnot;rw [hnot];simp only [decide_true,Bool.or_true,if_true,Bool.false_eq_true,if_false];rw [show (0+((min i keep.length:Nat):Int)).toNat=i by omega]
  ·rw [if_neg hv];have e:decide (keep.getD i 0=v - 1)=false:=decide_eq_false (by omega);rw [e,Bool.or_false];split
   ·rfl
   ·split
    ·rfl
    ·rfl
theorem Jx {keep to:List Int} (hk:keep.Pairwise (·<·)) (h0:∀ x∈keep,0<=x) (v:Int):bt (o7 keep to keep.length) v=kF keep to v:=by
 rw [xd hk h0 v keep.length (Nat.le_refl _),List.take_length];rfl
theorem qQ:∀ {l:List aw} {s t:aw},l.Pairwise (fun s t=>s.1<t.1)->s∈l->t∈l->s.1=t.1->s=t
 | x::l,s,t,h,hs,ht,e=>by
  obtain ⟨h1,h2⟩:=List.pairwise_cons.1 h;rcases List.mem_cons.1 hs with hs | hs <;> rcases List.mem_cons.1 ht with ht | ht
  ·rw [hs,ht]
  ·have:=h1 t ht; subst hs; omega
  ·have:=h1 s hs; subst ht; omega
  ·exact qQ h2 hs ht e
theorem F4 {a:List Int} {at_:Int} (hc:(am a).2.2=0) (h:isB (ac a).1 at_=true):(gU a at_).1.2.1.length=(bF a at_).length/\(gU a at_).1.2.2.1.length=(gD a at_).length:=by
 obtain ⟨k1,_⟩:=ff h;obtain ⟨_,_,e3,_⟩:=bq hc;have hany:((ac a).1.any fun s:aw=>decide (s.1=at_))=true:=List.any_eq_true.2 ⟨_,k1,by simp⟩;have hpos:=cR (fun s:aw=>decide (s.1=at_)) (ac a).1 0 (by omega);rw [hany] at hpos;have hpos:=of_decide_eq_true hpos;have hlt:=dW (fun s:aw=>decide (s.1=at_)) (0,0,0,0,false) (ac a).1 0 (by omega);have his:=dX (fun s:aw=>decide (s.1=at_)) (0,0,0,0,false) (ac a).1 0 hpos (by omega);rw [Int.sub_zero] at his;have hm:=aJ ((0,0,0,0,false):aw) (xs:=(ac a).1) hpos (by omega);have e:=qQ (bV a) hm k1 (of_decide_eq_true his);unfold gU;rw [if_neg (by omega),e3,if_neg (by omega),e];unfold gM bF gD;exact ⟨by rw [List.length_map],rfl⟩
theorem oC {A B:List Int} {x:Int} (y:Int) {n:Nat} (h:n=A.length):(A++x::B).set n y=A++y::B:=by
 rw [h,List.set_append_right _ _ (Nat.le_refl _)];simp
theorem Lm {A B:List Int} {x:Int} {n:Nat} (h:n=A.length):(A++x::B).getD n 0=x:=by
 rw [h,List.getD_eq_getElem?_getD,List.getElem?_append_right (Nat.le_refl _)];simp
theorem xp {a keep pinned long:List Int} (hP:Plan a keep pinned long):∀ i:Nat,i<=keep.length->∀ r∈gi pinned keep long i,0<=r.1/\1<=r.2/\r.1+r.2<=(a.length:Int)
 | 0,_,r,hr=>by cases hr
 | i+1,hi,r,hr=>by
  simp only [gi] at hr;rcases List.mem_append.1 hr with hr | hr
  ·exact xp hP i (by omega) r hr
  ·have h1:=hP.le i (by omega);have h2:=hP.lg i (by omega);have h3:=cf pinned hP.pre i (by omega);obtain ⟨_,_,_,l4,l5,l6⟩:=bW (hP.isb _ (dS (i:=i) (by omega)));split at hr
   ·simp only [List.mem_singleton] at hr;subst hr;simp only;omega
   ·cases hr
theorem BH {a keep pinned long:List Int} (hP:Plan a keep pinned long):∀ r∈b9 a.length keep long pinned,0<=r.1/\1<=r.2/\r.1+r.2<=(a.length:Int):=by
 intro r hr;unfold b9 at hr;rcases List.mem_append.1 hr with hr | hr
 ·exact xp hP _ (Nat.le_refl _) r hr
 ·have h3:=cf pinned hP.pre keep.length (Nat.le_refl _);split at hr
  ·simp only [List.mem_singleton] at hr;subst hr;simp only;omega
  ·cases hr
theorem rZ (n:Int) (keep long pinned:List Int):(b9 n keep long pinned).length<=keep.length+1:=by
 have:=ij pinned keep long keep.length;unfold b9;rw [List.length_append];split <;> simp <;> omega
def Kn:Nat->Option LoopGen
 | 6=>some { rd:=[.dat 39 (.arr ty_I),.own 9 3 ty_I],A:=fun ((keep,to):List Int×List Int)=>{ cs:=[.map 37 .u64 bi,.dat 41 ty_I],inv:=fun ((m,i):List (Int×Int)×Int)=>0<=i/\i<=keep.length/\m=o7 keep to i.toNat,mu:=fun ((_,i):List (Int×Int)×Int)=>(keep.length - i).toNat } }
 | 12=>some { rd:=[.dat 60 (.arr ty_I),.own 9 3 ty_I,.dat 0 (.arr bi),.dat 2 (.arr ty_I)],wr:=[14],A:=fun ((keep,to,a,pinned):List Int×List Int×List Int×List Int)=>{ cs:=[.own 14 45 bi,.dat 62 ty_I],inv:=fun ((w,i):List Int×Int)=>0<=i/\i<=keep.length/\((keep.drop i.toNat).all fun at_=>eT keep to (bF a at_))=(keep.all fun at_=>eT keep to (bF a at_))/\w=eo a keep to pinned (aT a keep pinned).1 i.toNat++List.replicate ((a.length:Int) - bp pinned keep (aT a keep pinned).1 i.toNat).toNat 0,mu:=fun ((_,i):List Int×Int)=>(keep.length - i).toNat } }
 | 18=>some { rd:=[.dat 60 (.arr ty_I),.own 9 3 ty_I,.dat 0 (.arr bi),.dat 2 (.arr ty_I),.dat 15 ty_I,.dat 99 ty_I],wr:=[14,19],A:=fun ((keep,to,a,pinned,i,n):List Int×List Int×List Int×List Int×Int×Int)=>{ cs:=[.own 14 45 bi,.part 19 14 bi,.dat 100 ty_I],inv:=fun ((w,pt,k):List Int×(Nat×Nat)×Int)=>0<=k/\k<=n/\pt.1=(fc pinned keep (aT a keep pinned).1 i.toNat).toNat/\(pt.2:Int)=(aT a keep pinned).1.getD i.toNat 0/\eT keep to ((bF a (keep.getD i.toNat 0)).drop k.toNat)=eT keep to (bF a (keep.getD i.toNat 0)) /\
   w=(eo a keep to pinned (aT a keep pinned).1 i.toNat++(qp pinned keep (aT a keep pinned).1 i.toNat++a.getD (keep.getD i.toNat 0).toNat 0::((bF a (keep.getD i.toNat 0)).take k.toNat).map (jQ keep to)))++((bF a (keep.getD i.toNat 0)).drop k.toNat++(gD a (keep.getD i.toNat 0)++List.replicate ((a.length:Int) - bp pinned keep (aT a keep pinned).1 (i.toNat+1)).toNat 0)),mu:=fun ((_,_,k):List Int×(Nat×Nat)×Int)=>(n - k).toNat } }
 | 28=>some { rd:=[.own 129 105 ji,.own 14 45 bi],wr:=[14],A:=fun ((g,w0):List cS×List Int)=>{ cs:=[.own 14 45 bi,.dat 131 ty_I],inv:=fun ((w,i):List Int×Int)=>0<=i/\i<=g.length/\w.length=w0.length/\w=(g.take i.toNat).foldl iZ w0,mu:=fun ((_,i):List Int×Int)=>(g.length - i).toNat } }
 | _=>none
def IK:Spec:={ Ts:=[.arr bi,.arr ty_I,.arr ty_I],Rs:=[.own 45 bi,.own 3 ty_I,.dat ty_I],pre:=fun _=>True,F:=fun ((a,keep,pinned):List Int×List Int×List Int)=>d5 a keep pinned }
def Br:Prop :=
  ∀ (x:List Int×List Int×List Int),(fun (v4:type_of% (d5 x.1 x.2.1 x.2.2))=>(fun (v2:type_of% (gu x.1 x.2.1 x.2.2))=>(fun (v0:type_of% (aT x.1 x.2.1 x.2.2))=>((x.1.length * 8<=ax/\∀ (x_1:Int),x_1∈x.1->ah .u64 x_1)/\(x.2.1.length * 8<=ax/\∀ (x_1:Int),x_1∈x.2.1->ah .i64 x_1)/\x.2.2.length * 8<=ax/\∀ (x_1:Int),x_1∈x.2.2->ah .i64 x_1)->True->True/\(decide (v0.2≠0)=true->([]:List Int)=v4.1/\([]:List Int)=v4.2.1/\v0.2=v4.2.2/\True)/\(decide (v0.2≠0)=false->((0:Int)<=0/\0<=(x.2.1.length:Int)/\fU ([]:List (Int×Int)) 0 0=o7 x.2.1 (if v0.2≠0 then ([]:List Int) else aC x.2.1 v0.1 x.2.2) (Int.toNat 0))/\∀ (x_1:List (Int×Int)×Int),0<=x_1.2/\x_1.2<=(x.2.1.length:Int)/\x_1.1=o7 x.2.1 (if v0.2≠0 then ([]:List Int) else aC x.2.1 v0.1 x.2.2) x_1.2.toNat->(decide (x_1.2<(x.2.1.length:Int))=true->0<=x_1.2/\x_1.2<(x.2.1.length:Int)/\ah .u64 (IntKind.u64.wrap (x.2.1.getD x_1.2.toNat 0)+1)/\0<=x_1.2/\x_1.2<(↑(if v0.2≠0 then ([]:List Int) else aC x.2.1 v0.1 x.2.2).length:Int)/\x_1.2.toNat<(if v0.2≠0 then ([]:List Int) else aC x.2.1 v0.1 x.2.2).length/\ah .u64 (IntKind.u64.wrap ((if v0.2≠0 then ([]:List Int) else aC x.2.1 v0.1 x.2.2).getD x_1.2.toNat 0)+1)/\ah .i64 (x_1.2+1)/\(0<=x_1.2+1/\x_1.2+1<=(x.2.1.length:Int)/\fU x_1.1 (IntKind.u64.wrap (x.2.1.getD x_1.2.toNat 0)+1) (IntKind.u64.wrap ((if v0.2≠0 then ([]:List Int) else aC x.2.1 v0.1 x.2.2).getD x_1.2.toNat 0)+1)=o7 x.2.1 (if v0.2≠0 then ([]:List Int) else aC x.2.1 v0.1 x.2.2) (x_1.2+1).toNat)/\((x.2.1.length:Int) - (x_1.2+1)).toNat<((x.2.1.length:Int) - x_1.2).toNat)/\(decide (x_1.2<(x.2.1.length:Int))=false->0<=(x.1.length:Int)/\(x.1.length:Int).toNat * 8<=ax/\((0:Int)<=0/\0<=(x.2.1.length:Int)/\(((List.drop (Int.toNat 0) x.2.1).all fun (at_:Int)=>eT x.2.1 (if v0.2≠0 then ([]:List Int) else aC x.2.1 v0.1 x.2.2) (bF x.1 at_))=x.2.1.all fun (at_:Int)=>eT x.2.1 (if v0.2≠0 then ([]:List Int) else aC x.2.1 v0.1 x.2.2) (bF x.1 at_))/\List.replicate (x.1.length:Int).toNat (0:Int)=eo x.1 x.2.1 (if v0.2≠0 then ([]:List Int) else aC x.2.1 v0.1 x.2.2) x.2.2 v0.1 (Int.toNat 0)++List.replicate ((x.1.length:Int) - bp x.2.2 x.2.1 v0.1 (Int.toNat 0)).toNat (0:Int))/\∀ (x_2:List Int×Int),(fun (v1:type_of% (x.2.1.getD x_2.2.toNat 0))=>0<=x_2.2/\x_2.2<=(x.2.1.length:Int)/\(((List.drop x_2.2.toNat x.2.1).all fun (at_:Int)=>eT x.2.1 (if v0.2≠0 then ([]:List Int) else aC x.2.1 v0.1 x.2.2) (bF x.1 at_))=x.2.1.all fun (at_:Int)=>eT x.2.1 (if v0.2≠0 then ([]:List Int) else aC x.2.1 v0.1 x.2.2) (bF x.1 at_))/\x_2.1=eo x.1 x.2.1 (if v0.2≠0 then ([]:List Int) else aC x.2.1 v0.1 x.2.2) x.2.2 v0.1 x_2.2.toNat++List.replicate ((x.1.length:Int) - bp x.2.2 x.2.1 v0.1 x_2.2.toNat).toNat (0:Int)->(decide (x_2.2<(x.2.1.length:Int))=true->0<=x_2.2/\x_2.2<(x.2.1.length:Int)/\True/\0<=x_2.2/\x_2.2<(↑(if v0.2≠0 then ([]:List Int) else aC x.2.1 v0.1 x.2.2).length:Int)/\x_2.2.toNat<(if v0.2≠0 then ([]:List Int) else aC x.2.1 v0.1 x.2.2).length/\0<=x_2.2/\x_2.2<(↑(if v0.2≠0 then ([]:List Int) else aC x.2.1 v0.1 x.2.2).length:Int)/\x_2.2.toNat<(if v0.2≠0 then ([]:List Int) else aC x.2.1 v0.1 x.2.2).length/\ah .i64 ((if v0.2≠0 then ([]:List Int) else aC x.2.1 v0.1 x.2.2).getD x_2.2.toNat 0+1)/\ah .i64 ((if v0.2≠0 then ([]:List Int) else aC x.2.1 v0.1 x.2.2).getD x_2.2.toNat 0+1+(↑(gU x.1 v1).1.2.1.length:Int))/\ah .i64 ((if v0.2≠0 then ([]:List Int) else aC x.2.1 v0.1 x.2.2).getD x_2.2.toNat 0+1+(↑(gU x.1 v1).1.2.1.length:Int)+(↑(gU x.1 v1).1.2.2.1.length:Int))/\0<=(if v0.2≠0 then ([]:List Int) else aC x.2.1 v0.1 x.2.2).getD x_2.2.toNat 0/\(if v0.2≠0 then ([]:List Int) else aC x.2.1 v0.1 x.2.2).getD x_2.2.toNat 0<=(if v0.2≠0 then ([]:List Int) else aC x.2.1 v0.1 x.2.2).getD x_2.2.toNat 0+1+(↑(gU x.1 v1).1.2.1.length:Int)+(↑(gU x.1 v1).1.2.2.1.length:Int)/\(if v0.2≠0 then ([]:List Int) else aC x.2.1 v0.1 x.2.2).getD x_2.2.toNat 0+1+(↑(gU x.1 v1).1.2.1.length:Int)+(↑(gU x.1 v1).1.2.2.1.length:Int)<=(x_2.1.length:Int)/\0<=x.2.1.getD x_2.2.toNat 0/\x.2.1.getD x_2.2.toNat 0<=(x.1.length:Int)/\((if v0.2≠0 then ([]:List Int) else aC x.2.1 v0.1 x.2.2).getD x_2.2.toNat 0).toNat+(((if v0.2≠0 then ([]:List Int) else aC x.2.1 v0.1 x.2.2).getD x_2.2.toNat 0+1+(↑(gU x.1 v1).1.2.1.length:Int)+(↑(gU x.1 v1).1.2.2.1.length:Int)).toNat - ((if v0.2≠0 then ([]:List Int) else aC x.2.1 v0.1 x.2.2).getD x_2.2.toNat 0).toNat)<=x_2.1.length/\((0:Int)<=0/\0<=(↑(gU x.1 v1).1.2.1.length:Int)/\((if v0.2≠0 then ([]:List Int) else aC x.2.1 v0.1 x.2.2).getD x_2.2.toNat 0).toNat=(fc x.2.2 x.2.1 v0.1 x_2.2.toNat).toNat/\(↑(((if v0.2≠0 then ([]:List Int) else aC x.2.1 v0.1 x.2.2).getD x_2.2.toNat 0+1+(↑(gU x.1 v1).1.2.1.length:Int)+(↑(gU x.1 v1).1.2.2.1.length:Int)).toNat - ((if v0.2≠0 then ([]:List Int) else aC x.2.1 v0.1 x.2.2).getD x_2.2.toNat 0).toNat):Int)=v0.1.getD x_2.2.toNat 0/\eT x.2.1 (if v0.2≠0 then ([]:List Int) else aC x.2.1 v0.1 x.2.2) (List.drop (Int.toNat 0) (bF x.1 v1))=eT x.2.1 (if v0.2≠0 then ([]:List Int) else aC x.2.1 v0.1 x.2.2) (bF x.1 v1)/\List.take ((if v0.2≠0 then ([]:List Int) else aC x.2.1 v0.1 x.2.2).getD x_2.2.toNat 0).toNat x_2.1++(List.take (min (List.drop v1.toNat x.1).length (((if v0.2≠0 then ([]:List Int) else aC x.2.1 v0.1 x.2.2).getD x_2.2.toNat 0+1+(↑(gU x.1 v1).1.2.1.length:Int)+(↑(gU x.1 v1).1.2.2.1.length:Int)).toNat - ((if v0.2≠0 then ([]:List Int) else aC x.2.1 v0.1 x.2.2).getD x_2.2.toNat 0).toNat)) (List.drop v1.toNat x.1)++List.drop (((if v0.2≠0 then ([]:List Int) else aC x.2.1 v0.1 x.2.2).getD x_2.2.toNat 0).toNat+min (List.drop v1.toNat x.1).length (((if v0.2≠0 then ([]:List Int) else aC x.2.1 v0.1 x.2.2).getD x_2.2.toNat 0+1+(↑(gU x.1 v1).1.2.1.length:Int)+(↑(gU x.1 v1).1.2.2.1.length:Int)).toNat - ((if v0.2≠0 then ([]:List Int) else aC x.2.1 v0.1 x.2.2).getD x_2.2.toNat 0).toNat)) x_2.1)=eo x.1 x.2.1 (if v0.2≠0 then ([]:List Int) else aC x.2.1 v0.1 x.2.2) x.2.2 v0.1 x_2.2.toNat++(qp x.2.2 x.2.1 v0.1 x_2.2.toNat++x.1.getD v1.toNat 0::List.map (jQ x.2.1 (if v0.2≠0 then ([]:List Int) else aC x.2.1 v0.1 x.2.2)) (List.take (Int.toNat 0) (bF x.1 v1)))++(List.drop (Int.toNat 0) (bF x.1 v1)++(gD x.1 v1++List.replicate ((x.1.length:Int) - bp x.2.2 x.2.1 v0.1 (x_2.2.toNat+1)).toNat (0:Int))))/\∀ (x_3:List Int×(Nat×Nat)×Int),0<=x_3.2.2/\x_3.2.2<=(↑(gU x.1 v1).1.2.1.length:Int)/\x_3.2.1.1=(fc x.2.2 x.2.1 v0.1 x_2.2.toNat).toNat/\(↑x_3.2.1.2:Int)=v0.1.getD x_2.2.toNat 0/\eT x.2.1 (if v0.2≠0 then ([]:List Int) else aC x.2.1 v0.1 x.2.2) (List.drop x_3.2.2.toNat (bF x.1 v1))=eT x.2.1 (if v0.2≠0 then ([]:List Int) else aC x.2.1 v0.1 x.2.2) (bF x.1 v1)/\x_3.1=eo x.1 x.2.1 (if v0.2≠0 then ([]:List Int) else aC x.2.1 v0.1 x.2.2) x.2.2 v0.1 x_2.2.toNat++(qp x.2.2 x.2.1 v0.1 x_2.2.toNat++x.1.getD v1.toNat 0::List.map (jQ x.2.1 (if v0.2≠0 then ([]:List Int) else aC x.2.1 v0.1 x.2.2)) (List.take x_3.2.2.toNat (bF x.1 v1)))++(List.drop x_3.2.2.toNat (bF x.1 v1)++(gD x.1 v1++List.replicate ((x.1.length:Int) - bp x.2.2 x.2.1 v0.1 (x_2.2.toNat+1)).toNat (0:Int)))->(decide (x_3.2.2<(↑(gU x.1 v1).1.2.1.length:Int))=true->ah .i64 (1+x_3.2.2)/\(0:Int)<=1+x_3.2.2/\1+x_3.2.2<(↑x_3.2.1.2:Int)/\x_3.2.1.1+(1+x_3.2.2).toNat<x_3.1.length/\((!(bt x_1.1 (x_3.1.getD (x_3.2.1.1+(1+x_3.2.2).toNat) 0)).isSome)=true->([]:List Int)=v4.1/\([]:List Int)=v4.2.1/\8=v4.2.2/\True)/\((!(bt x_1.1 (x_3.1.getD (x_3.2.1.1+(1+x_3.2.2).toNat) 0)).isSome)=false->ah .i64 (1+x_3.2.2)/\(0:Int)<=1+x_3.2.2/\1+x_3.2.2<(↑x_3.2.1.2:Int)/\x_3.2.1.1+(1+x_3.2.2).toNat<x_3.1.length/\ah .i64 (x_3.2.2+1)/\(0<=x_3.2.2+1/\x_3.2.2+1<=(↑(gU x.1 v1).1.2.1.length:Int)/\x_3.2.1.1=(fc x.2.2 x.2.1 v0.1 x_2.2.toNat).toNat/\(↑x_3.2.1.2:Int)=v0.1.getD x_2.2.toNat 0/\eT x.2.1 (if v0.2≠0 then ([]:List Int) else aC x.2.1 v0.1 x.2.2) (List.drop (x_3.2.2+1).toNat (bF x.1 v1))=eT x.2.1 (if v0.2≠0 then ([]:List Int) else aC x.2.1 v0.1 x.2.2) (bF x.1 v1)/\x_3.1.set (x_3.2.1.1+(1+x_3.2.2).toNat) ((bt x_1.1 (x_3.1.getD (x_3.2.1.1+(1+x_3.2.2).toNat) 0)).getD 0)=eo x.1 x.2.1 (if v0.2≠0 then ([]:List Int) else aC x.2.1 v0.1 x.2.2) x.2.2 v0.1 x_2.2.toNat++(qp x.2.2 x.2.1 v0.1 x_2.2.toNat++x.1.getD v1.toNat 0::List.map (jQ x.2.1 (if v0.2≠0 then ([]:List Int) else aC x.2.1 v0.1 x.2.2)) (List.take (x_3.2.2+1).toNat (bF x.1 v1)))++(List.drop (x_3.2.2+1).toNat (bF x.1 v1)++(gD x.1 v1++List.replicate ((x.1.length:Int) - bp x.2.2 x.2.1 v0.1 (x_2.2.toNat+1)).toNat (0:Int))))/\((↑(gU x.1 v1).1.2.1.length:Int) - (x_3.2.2+1)).toNat<((↑(gU x.1 v1).1.2.1.length:Int) - x_3.2.2).toNat))/\(decide (x_3.2.2<(↑(gU x.1 v1).1.2.1.length:Int))=false->ah .i64 (x_2.2+1)/\(0<=x_2.2+1/\x_2.2+1<=(x.2.1.length:Int)/\(((List.drop (x_2.2+1).toNat x.2.1).all fun (at_:Int)=>eT x.2.1 (if v0.2≠0 then ([]:List Int) else aC x.2.1 v0.1 x.2.2) (bF x.1 at_))=x.2.1.all fun (at_:Int)=>eT x.2.1 (if v0.2≠0 then ([]:List Int) else aC x.2.1 v0.1 x.2.2) (bF x.1 at_))/\x_3.1=eo x.1 x.2.1 (if v0.2≠0 then ([]:List Int) else aC x.2.1 v0.1 x.2.2) x.2.2 v0.1 (x_2.2+1).toNat++List.replicate ((x.1.length:Int) - bp x.2.2 x.2.1 v0.1 (x_2.2+1).toNat).toNat (0:Int))/\((x.2.1.length:Int) - (x_2.2+1)).toNat<((x.2.1.length:Int) - x_2.2).toNat))/\(decide (x_2.2<(x.2.1.length:Int))=false->True/\((0:Int)<=0/\0<=(v2.1.length:Int)/\x_2.1.length=x_2.1.length/\x_2.1=List.foldl iZ x_2.1 (List.take (Int.toNat 0) v2.1))/\∀ (x_3:List Int×Int),(fun (v3:type_of% (v2.1.getD x_3.2.toNat (0,0)))=>0<=x_3.2/\x_3.2<=(v2.1.length:Int)/\x_3.1.length=x_2.1.length/\x_3.1=List.foldl iZ x_2.1 (List.take x_3.2.toNat v2.1)->(decide (x_3.2<(v2.1.length:Int))=true->0<=x_3.2/\x_3.2<(v2.1.length:Int)/\x_3.2.toNat<v2.1.length/\ah .i64 (v3.2 - 1)/\True/\0<=v3.1/\v3.1<(x_3.1.length:Int)/\v3.1.toNat<x_3.1.length/\af (0,v3.2 - 1,0,true)=af (0,v3.2 - 1,0,true)/\ah .i64 (x_3.2+1)/\(0<=x_3.2+1/\x_3.2+1<=(v2.1.length:Int)/\(x_3.1.set v3.1.toNat (if af (0,v3.2 - 1,0,true)=0 then aI (0,v3.2 - 1,0,true) else (0:Int))).length=x_2.1.length/\x_3.1.set v3.1.toNat (if af (0,v3.2 - 1,0,true)=0 then aI (0,v3.2 - 1,0,true) else (0:Int))=List.foldl iZ x_2.1 (List.take (x_3.2+1).toNat v2.1))/\((v2.1.length:Int) - (x_3.2+1)).toNat<((v2.1.length:Int) - x_3.2).toNat)/\(decide (x_3.2<(v2.1.length:Int))=false->x_3.1=v4.1/\(if v0.2≠0 then ([]:List Int) else aC x.2.1 v0.1 x.2.2)=v4.2.1/\0=v4.2.2/\True)) (v2.1.getD x_3.2.toNat (0,0)))) (x.2.1.getD x_2.2.toNat 0)))) (aT x.1 x.2.1 x.2.2)) (gu x.1 x.2.1 x.2.2)) (d5 x.1 x.2.1 x.2.2)
theorem Gf:Br:=by
 unfold Br;intro ⟨a,keep,pinned⟩ ⟨⟨hb,hw⟩,_⟩ _;unfold ax at hb;simp only at hb hw ⊢
 have hF:d5 a keep pinned=if (aT a keep pinned).2≠0 then ([],[],(aT a keep pinned).2)
  else if (keep.all fun at_=>eT keep (aC keep (aT a keep pinned).1 pinned) (bF a at_))=true then
   (lI a keep (aC keep (aT a keep pinned).1 pinned) pinned (aT a keep pinned).1 (b9 a.length keep (aT a keep pinned).1 pinned),aC keep (aT a keep pinned).1 pinned,0)
  else ([],[],8):=rfl
 rw [hF];refine ⟨trivial,fun hc=>?_,fun hc=>?_⟩
 ·rw [if_pos (of_decide_eq_true hc)];exact ⟨rfl,rfl,rfl,trivial⟩
 have hz:(aT a keep pinned).2=0:=by simpa using of_decide_eq_false hc
 have hP:=Fw hz
 have hG:gu a keep pinned=(b9 a.length keep (aT a keep pinned).1 pinned,0):=by
  unfold gu;rw [if_neg (by omega),hz]
 rw [if_neg (by omega),if_neg (by omega),hG];clear hF hG hc hz;generalize (aT a keep pinned).1=long at *;have hto:(aC keep long pinned).length=keep.length:=by simp [aC]
 have htg:∀ i:Nat,i<keep.length->(aC keep long pinned).getD i 0=fc pinned keep long i:=by
  intro i hi;unfold aC;rw [List.getD_eq_getElem?_getD,List.getElem?_map,List.getElem?_range hi];rfl
 have hk0:∀ x∈keep,0<=x:=fun x hx=>(hP.pre.2.2.1 x hx).1
 have hkl:=hP.pre.2.1;have hlong:=hP.pre.1;have hal:=hP.al;have hgi:=BH hP;have hgl:=rZ a.length keep long pinned;rw [hto];generalize aC keep long pinned=to at *;generalize b9 a.length keep long pinned=g at *;refine ⟨⟨by omega,by omega,rfl⟩,fun ⟨m,i⟩ ⟨h0,h1,h2⟩=>⟨fun hlt=>?_,fun hge=>?_⟩⟩
 ·have hlt':i<(keep.length:Int):=of_decide_eq_true hlt;simp only at h0 h1 h2 ⊢;have hx:=hP.pre.2.2.1 _ (aJ (0:Int) h0 hlt');have ht:=pT pinned hP.pre (i:=i.toNat) (by omega);rw [<- htg i.toNat (by omega)] at ht;rw [fM (n:=keep.getD i.toNat 0) (by omega) (by omega),fM (n:=to.getD i.toNat 0) (by omega) (by omega)];simp only [ah];refine ⟨h0,hlt',by omega,h0,by omega,by omega,by omega,by omega,⟨by omega,by omega,?_⟩,by omega⟩;rw [show (i+1).toNat=i.toNat+1 by omega,h2];rfl
 have hge:¬ i<(keep.length:Int):=of_decide_eq_false hge;simp only at h0 h1 h2 ⊢;rw [show i.toNat=keep.length by omega] at h2;subst h2;clear h0 h1 hge;unfold ax;refine ⟨by omega,by omega,⟨by omega,by omega,rfl,?_⟩,fun ⟨w,i⟩ ⟨b0,b1,b2,b3⟩=>⟨fun hlt=>?_,fun hge=>?_⟩⟩
 ·simp [eo,bp]
 ·have hlt':i<(keep.length:Int):=of_decide_eq_true hlt;simp only at b0 b1 b2 b3 ⊢;have hib:=hP.isb _ (aJ (0:Int) b0 hlt');obtain ⟨l1,l2,l3,l4,l5,l6⟩:=bW hib;obtain ⟨o1,o2⟩:=F4 hP.chk hib;have hle:=hP.le i.toNat (by omega);have hlg:=hP.lg i.toNat (by omega);have hul:=j6 to hP i.toNat (by omega);have hE0:=cf pinned hP.pre i.toNat (by omega);have hE1:bp pinned keep long (i.toNat+1)=fc pinned keep long i.toNat+long.getD i.toNat 0:=rfl
  have hwl:w.length=a.length:=by
   rw [b3,List.length_append,List.length_replicate];omega
  rw [bh (0:Int) b0 hlt',List.all_cons,show (i+1).toNat=i.toNat+1 by omega] at b2;have hup:eo a keep to pinned long (i.toNat+1)=eo a keep to pinned long i.toNat++(qp pinned keep long i.toNat++gK a keep to (keep.getD i.toNat 0)):=rfl;have hpw:gK a keep to (keep.getD i.toNat 0)=a.getD (keep.getD i.toNat 0).toNat 0::((bF a (keep.getD i.toNat 0)).map (jQ keep to)++gD a (keep.getD i.toNat 0)):=rfl;have hgw:(qp pinned keep long i.toNat).length=(fc pinned keep long i.toNat - bp pinned keep long i.toNat).toNat:=by simp [qp]
  have hgd:qp pinned keep long i.toNat=List.replicate (fc pinned keep long i.toNat - bp pinned keep long i.toNat).toNat 0:=rfl;have howd:=Em hib;rw [htg i.toNat (by omega),o1,o2,show (i+1).toNat=i.toNat+1 by omega,hup,hpw];clear hup hpw o1 o2 hib;generalize keep.getD i.toNat 0=at_ at *;have hfst:(eG a at_).1=((bF a at_).length:Int):=l1.symm;have hsnd:(eG a at_).2.1=((gD a at_).length:Int):=l2.symm;rw [hfst,hsnd] at hlg howd l4;generalize bF a at_=rs at *;generalize gD a at_=bd at *;rw [hlg] at hle hE1 ⊢;rw [hE1];generalize hS:eo a keep to pinned long i.toNat=S at *;generalize qp pinned keep long i.toNat=G at *;generalize fc pinned keep long i.toNat=t at *;generalize bp pinned keep long i.toNat=e at *
  have hmin:min (a.drop at_.toNat).length ((t+1+(rs.length:Int)+(bd.length:Int)).toNat - t.toNat)=(1+(rs.length:Int)+(bd.length:Int)).toNat:=by
   rw [List.length_drop];omega
  simp only [ah]
  refine ⟨b0,hlt',trivial,b0,by omega,by omega,b0,by omega,by omega,by omega,by omega,by omega,by omega,by omega,by omega,by omega,by omega,by omega,
   ⟨by omega,by omega,trivial,by omega,rfl,?_⟩,fun ⟨w',⟨p1,p2⟩,k⟩ ⟨c0,c1,c2,c3,c4,c5⟩=>⟨fun hk=>?_,fun hk=>?_⟩⟩
  ·rw [hmin,howd]
   have ht1:w.take t.toNat=S++G:=by
    rw [b3,List.take_append,List.take_of_length_le (by omega),List.take_replicate,hgd];congr 2;omega
   have ht2:w.drop (t.toNat+(1+(rs.length:Int)+(bd.length:Int)).toNat)=List.replicate ((a.length:Int) - (t+(1+(rs.length:Int)+(bd.length:Int)))).toNat 0:=by
    rw [b3,List.drop_append,List.drop_of_length_le (by omega),List.nil_append,List.drop_replicate];congr 1;omega
   rw [ht1,ht2];simp [List.append_assoc]
  ·have hk:k<(rs.length:Int):=of_decide_eq_true hk;simp only at c0 c1 c2 c3 c4 c5 ⊢;rw [bh (0:Int) c0 hk] at c4 c5;have hsn:=bB (0:Int) c0 hk;rw [hsn,List.map_append];generalize rs.getD k.toNat 0=x at *
   have hA:(S++(G++a.getD at_.toNat 0::(rs.take k.toNat).map (jQ keep to))).length=p1+(1+k).toNat:=by
    simp only [List.length_append,List.length_cons,List.length_map,List.length_take];omega
   have hw':w'.length=a.length:=by
    rw [c5];simp only [List.length_append,List.length_cons,List.length_map,List.length_take,List.length_drop,List.length_replicate];omega
   rw [List.cons_append] at c5;have hget:w'.getD (p1+(1+k).toNat) 0=x:=by rw [c5]; exact Lm hA.symm
   have hset:∀ y,w'.set (p1+(1+k).toNat) y=(S++(G++a.getD at_.toNat 0::(rs.take k.toNat).map (jQ keep to)))++y::(rs.drop (k+1).toNat++(bd++List.replicate ((a.length:Int) - (t+(1+(rs.length:Int)+(bd.length:Int)))).toNat 0)):=fun y=>by
    rw [c5]; exact oC y hA.symm
   rw [hget,hset,Jx hP.rs hk0];have hg1:eT keep to (x::rs.drop (k+1).toNat)=((kF keep to x).isSome&&eT keep to (rs.drop (k+1).toNat)):=rfl;rw [hg1] at c4;refine ⟨by omega,by omega,by omega,by omega,fun hn=>?_,fun hn=>⟨by omega,by omega,by omega,by omega,by omega,⟨by omega,by omega,c2,c3,?_,?_⟩,by omega⟩⟩
   ·have hn:(kF keep to x).isSome=false:=by simpa using hn
    rw [hn,Bool.false_and] at c4;rw [<- c4,Bool.false_and] at b2;rw [if_neg (by rw [<- b2]; simp)];exact ⟨rfl,rfl,rfl,trivial⟩
   ·have hn:(kF keep to x).isSome=true:=by simpa using hn
    rw [hn,Bool.true_and] at c4;exact c4
   ·have hm:[x].map (jQ keep to)=[(kF keep to x).getD 0]:=rfl;rw [hm];simp [List.append_assoc]
  ·have hk:¬ k<(rs.length:Int):=of_decide_eq_false hk;simp only at c0 c1 c2 c3 c4 c5 ⊢;rw [b7 hk] at c4 c5;rw [cA hk] at c5;have hg0:eT keep to []=true:=rfl;rw [hg0] at c4;rw [<- c4,Bool.true_and] at b2;refine ⟨by omega,⟨by omega,by omega,b2,?_⟩,by omega⟩;rw [c5];simp [List.append_assoc]
 ·have hge:¬ i<(keep.length:Int):=of_decide_eq_false hge;simp only at b0 b1 b2 b3 ⊢;rw [b7 hge,List.all_nil] at b2;rw [if_pos b2.symm];rw [show i.toNat=keep.length by omega] at b3;have hul:=j6 to hP keep.length (Nat.le_refl _);have hE0:=cf pinned hP.pre keep.length (Nat.le_refl _);have hen:=hP.en
  have hwl:w.length=a.length:=by
   rw [b3,List.length_append,List.length_replicate];omega
  have hW:lI a keep to pinned long g=g.foldl iZ w:=by
   rw [b3];rfl
  rw [hW];refine ⟨trivial,⟨by omega,by omega,trivial,rfl⟩,fun ⟨w',j⟩ ⟨d0,d1,d2,d3⟩=>⟨fun hj=>?_,fun hj=>?_⟩⟩
  ·have hj:j<(g.length:Int):=of_decide_eq_true hj;simp only at d0 d1 d2 d3 ⊢;have hr:=hgi _ (aJ ((0,0):cS) d0 hj);have hsn:=bB ((0,0):cS) d0 hj;rw [hsn,List.foldl_append,<- d3];generalize g.getD j.toNat (0,0)=r at *
   have hh:af (0,r.2 - 1,0,true)=0:=by
    simp [af,aa];omega
   rw [if_pos hh,List.length_set];simp only [ah];exact ⟨d0,hj,by omega,by omega,trivial,hr.1,by omega,by omega,by first | trivial | rfl,by omega,⟨by omega,by omega,d2,rfl⟩,by omega⟩
  ·have hj:¬ j<(g.length:Int):=of_decide_eq_false hj;simp only at d3 ⊢;rw [cA hj] at d3;exact ⟨d3,trivial,trivial,trivial⟩
theorem Jj:IK.ok Tryz.prog 219:=aD (ann:=Kn) (ae Hq (ae mP (ae BO (ae ix ap)))) Tryz.func219 (by kernel_rfl) Gf
end
section
open Go
set_option maxRecDepth 100000
set_option maxHeartbeats 1000000
theorem H8 {a:List Int} {at_ k:Int} (h0:0<=k) (h1:k<(gD a at_).length) (l2:((gD a at_).length:Int)=(eG a at_).2.1) (l3:0<=at_) (l5:0<=(eG a at_).1) :
  a.getD (at_+1+(eG a at_).1+k).toNat 0=(gD a at_).getD k.toNat 0:=by
 rw [l2] at h1;unfold gD iq;simp only;generalize (eG a at_).1=r at *;generalize (eG a at_).2.1=b at *;rw [List.getD_eq_getElem?_getD (l:=a),List.getD_eq_getElem?_getD,List.getElem?_drop,List.getElem?_take,if_pos (by omega)];congr 2;omega
def A9 (a keep pinned:List Int):List Int×Bool :=
 if (keep.all fun at_=>eT keep (aC keep (keep.map (dg (ac a).1)) pinned) (bF a at_))=true then
  (lI a keep (aC keep (keep.map (dg (ac a).1)) pinned) pinned (keep.map (dg (ac a).1)) (b9 a.length keep (keep.map (dg (ac a).1)) pinned),true)
 else ([],false)
end
section
open Go
def yU:Go.Shelf.Ren:=⟨fun | 189=>33 | 125=>105 | 257=>104 | 128=>183 | 129=>184 | 294=>174 | 295=>175 | 296=>176 | 297=>177 | 298=>178 | 299=>179 | 216=>180 | 300=>181 | 301=>182 | 328=>230 | 329=>231 | 330=>232 | 331=>233 | 332=>234 | 215=>235 | 343=>257 | n=>n,fun | 28=>31 | 3=>3 | 46=>182 | 0=>0 | 51=>267 | 53=>45 | 4=>4 | 183=>260 | 182=>259 | 131=>98 | 5=>5 | 9=>9 | 218=>306 | 222=>110 | 228=>330 | 229=>331 | n=>n,fun | n=>n⟩
theorem B9:Go.Proofs.Lays.n189 Tryz.prog yU where
 mixed:=by kernel_rfl
 f125:=Tryz.func105.trans (congrArg some (by kernel_rfl))
 f128:=Tryz.func183.trans (congrArg some (by kernel_rfl))
 f129:=Tryz.func184.trans (congrArg some (by kernel_rfl))
 f189:=Tryz.func33.trans (congrArg some (by kernel_rfl))
 f215:=Tryz.func235.trans (congrArg some (by kernel_rfl))
 f216:=Tryz.func180.trans (congrArg some (by kernel_rfl))
 f257:=Tryz.func104.trans (congrArg some (by kernel_rfl))
 f294:=Tryz.func174.trans (congrArg some (by kernel_rfl))
 f295:=Tryz.func175.trans (congrArg some (by kernel_rfl))
 f296:=Tryz.func176.trans (congrArg some (by kernel_rfl))
 f297:=Tryz.func177.trans (congrArg some (by kernel_rfl))
 f298:=Tryz.func178.trans (congrArg some (by kernel_rfl))
 f299:=Tryz.func179.trans (congrArg some (by kernel_rfl))
 f300:=Tryz.func181.trans (congrArg some (by kernel_rfl))
 f301:=Tryz.func182.trans (congrArg some (by kernel_rfl))
 f328:=Tryz.func230.trans (congrArg some (by kernel_rfl))
 f329:=Tryz.func231.trans (congrArg some (by kernel_rfl))
 f330:=Tryz.func232.trans (congrArg some (by kernel_rfl))
 f331:=Tryz.func233.trans (congrArg some (by kernel_rfl))
 f332:=Tryz.func234.trans (congrArg some (by kernel_rfl))
 f343:=Tryz.func257.trans (congrArg some (by kernel_rfl))
 t0:=Tryz.underlying0
 a0:=Tryz.isAgg0
 z0:=Tryz.sizeOf0
 v0:=Tryz.zeroValue0
 t3:=Tryz.underlying3
 a3:=Tryz.isAgg3
 z3:=Tryz.sizeOf3
 v3:=Tryz.zeroValue3
 t4:=Tryz.underlying4
 a4:=Tryz.isAgg4
 z4:=Tryz.sizeOf4
 v4:=Tryz.zeroValue4
 t5:=Tryz.underlying5
 a5:=Tryz.isAgg5
 z5:=Tryz.sizeOf5
 v5:=Tryz.zeroValue5
 t9:=Tryz.underlying9
 a9:=Tryz.isAgg9
 z9:=Tryz.sizeOf9
 v9:=Tryz.zeroValue9
 t28:=Tryz.underlying31
 a28:=Tryz.isAgg31
 z28:=Tryz.sizeOf31
 v28:=Tryz.zeroValue31
 t46:=Tryz.underlying182
 a46:=Tryz.isAgg182
 z46:=Tryz.sizeOf182
 v46:=Tryz.zeroValue182
 t51:=Tryz.underlying267
 a51:=Tryz.isAgg267
 z51:=Tryz.sizeOf267
 v51:=Tryz.zeroValue267
 t53:=Tryz.underlying45
 a53:=Tryz.isAgg45
 z53:=Tryz.sizeOf45
 v53:=Tryz.zeroValue45
 t131:=Tryz.underlying98
 a131:=Tryz.isAgg98
 z131:=Tryz.sizeOf98
 v131:=Tryz.zeroValue98
 t182:=Tryz.underlying259
 a182:=Tryz.isAgg259
 z182:=Tryz.sizeOf259
 v182:=Tryz.zeroValue259
 t183:=Tryz.underlying260
 a183:=Tryz.isAgg260
 z183:=Tryz.sizeOf260
 v183:=Tryz.zeroValue260
 t218:=Tryz.underlying306
 a218:=Tryz.isAgg306
 z218:=Tryz.sizeOf306
 v218:=Tryz.zeroValue306
 t222:=Tryz.underlying110
 a222:=Tryz.isAgg110
 z222:=Tryz.sizeOf110
 v222:=Tryz.zeroValue110
 t228:=Tryz.underlying330
 a228:=Tryz.isAgg330
 z228:=Tryz.sizeOf330
 v228:=Tryz.zeroValue330
 t229:=Tryz.underlying331
 a229:=Tryz.isAgg331
 z229:=Tryz.sizeOf331
 v229:=Tryz.zeroValue331
def r6:Go.Shelf.Ren:=⟨fun | 20=>95 | n=>n,fun | 22=>31 | 3=>3 | 4=>4 | 0=>0 | n=>n,fun | n=>n⟩
theorem rM:Go.Proofs.Lays2.n20 Tryz.prog r6 where
 mixed:=by kernel_rfl
 f20:=Tryz.func95.trans (congrArg some (by kernel_rfl))
 t0:=Tryz.underlying0
 a0:=Tryz.isAgg0
 z0:=Tryz.sizeOf0
 v0:=Tryz.zeroValue0
 t3:=Tryz.underlying3
 a3:=Tryz.isAgg3
 z3:=Tryz.sizeOf3
 v3:=Tryz.zeroValue3
 t4:=Tryz.underlying4
 a4:=Tryz.isAgg4
 z4:=Tryz.sizeOf4
 v4:=Tryz.zeroValue4
 t22:=Tryz.underlying31
 a22:=Tryz.isAgg31
 z22:=Tryz.sizeOf31
 v22:=Tryz.zeroValue31
 i3:=by kernel_rfl
theorem yx {p:PH}:∀ {xs:List Int} {l:List Value},aL (ty_I.holds p) xs l->l=xs.map (Value.int .i64)/\∀ x∈xs,ah .i64 x
 | [],l,h=>⟨h,by simp⟩
 | x::xs,l,⟨c1,c2,e,h1,h2⟩=>by
  obtain ⟨e2,h3⟩:=yx h2;obtain ⟨e1,h4⟩:=h1;subst e1 e2 e;refine ⟨rfl,fun y hy=>?_⟩;rcases List.mem_cons.1 hy with rfl | hy
  ·exact h4
  ·exact h3 y hy
theorem p9 {p:PH}:∀ {xs:List Int},(∀ x∈xs,ah .i64 x)->aL (ty_I.holds p) xs (xs.map (Value.int .i64))
 | [],_=>rfl
 | x::xs,h=>⟨[.int .i64 x],xs.map (Value.int .i64),rfl,⟨rfl,h x (by simp)⟩,p9 (fun y hy=>h y (by simp [hy]))⟩
def d9 (xs:List Int):List Int:=xs.mergeSort fun x y=>decide (x<=y)
def AF:RowFn:={ e:=3,T:=ty_I,Ts:=[],out:=false,pre:=fun _ _ _=>True,F:=fun xs _ _=>d9 xs }
theorem tT:AF.ok Tryz.prog 33:=by
 intro p w v (xs:List Int) l v2 (ys:List Int) l2 vs x _ _ hA hown hl hbig hp _ _ _ hargs _;have hvs:vs=[]:=hargs;subst hvs;obtain ⟨el,hin⟩:=yx hl;have hown':w.ownsRow 0 3 1 v xs.length l:=hown;have h8:xs.length * 8<=ax:=hbig;have hlen:(d9 xs).length=xs.length:=List.length_mergeSort _;rcases hown'.2 with ⟨rfl,h0⟩ | ⟨g,cap,cur,rfl,_,hb,h1,h2,h3,h4⟩
 ·have hx:xs=[]:=List.eq_nil_of_length_eq_zero h0;subst hx;refine (Any.slices_Sort_int_none B9 none 0 w).mono ?_;rintro e w' ⟨rfl,rfl⟩;have e0:AF.F ([]:List Int) ys x=([]:List Int):=by show d9 []=[]; simp [d9]
  rw [e0];exact ⟨_,l,rfl,fun _=>rfl,World.grownBy.refl _ _,hown,hl,hbig,fun b h=>.inl h⟩
 ·have hg:g<w.heap.size:=(Array.getElem?_eq_some_iff.1 hb).1;refine (Any.slices_Sort_int B9 g 0 cap xs w (holds_of_blockI hb (by rw [Nat.mul_one] at h4; rw [h4,el])) hg (by simp only [ax] at h8; omega)).mono ?_;rintro e w' ⟨rfl,n,os,rfl⟩;refine ⟨_,(d9 xs).map (Value.int .i64),rfl,fun _=>rfl,grownBy_sortedI _,?_,p9 (fun y hy=>hin y (List.mem_mergeSort.1 hy)),?_,fun b h=>.inl h⟩
  ·have:=ownsRow_sortedI (n:=n) (os:=os) (ss:=xs) (ts:=d9 xs) hlen (Nat.zero_le _) hb h1 h2 h3;show World.ownsRow _ 0 3 1 _ (d9 xs).length _;rw [hlen];exact this
  ·show (d9 xs).length * 8<=ax;rw [hlen];exact h8
theorem jY (xs:List Int):(Lib.compact xs).length<=xs.length:=by
 unfold Lib.compact Lib.compactUpTo;rw [List.length_map];refine Nat.le_trans (List.length_filter_le _ _) ?_;simp
theorem rT (xs:List Int) (y:Int) (hy:y∈Lib.compact xs):y∈xs:=by
 unfold Lib.compact Lib.compactUpTo at hy;obtain ⟨j,hj,rfl⟩:=List.mem_map.1 hy
 have hj2:j<xs.length:=by
  have:=(List.mem_filter.1 hj).1;simpa using this
 simp [hj2]
def fx (xs:List Int):List Int:=Lib.compact xs
def A4:RowFn:={ e:=3,T:=ty_I,Ts:=[],out:=true,pre:=fun _ _ _=>True,F:=fun xs _ _=>fx xs }
theorem rK:A4.ok Tryz.prog 95:=by
 intro p w v (xs:List Int) l v2 (ys:List Int) l2 vs x _ _ hA hown hl hbig hp _ _ _ hargs _;have hvs:vs=[]:=hargs;subst hvs;obtain ⟨el,hin⟩:=yx hl;have hown':w.ownsRow 0 3 1 v xs.length l:=hown;have h8:xs.length * 8<=ax:=hbig;have hle:(Lib.compact xs).length<=xs.length:=jY xs;rcases hown'.2 with ⟨rfl,h0⟩ | ⟨g,cap,cur,rfl,_,hb,h1,h2,h3,h4⟩
 ·have hx:xs=[]:=List.eq_nil_of_length_eq_zero h0;subst hx;refine (Any.slices_Compact_int_empty rM none 0 w).mono ?_;rintro e w' ⟨rfl,rfl⟩;exact ⟨_,l,rfl,fun _=>rfl,World.grownBy.refl _ _,hown,hl,by show (Lib.compact ([]:List Int)).length * 8<=ax; simp [Lib.compact,Lib.compactUpTo],fun b h=>.inl h⟩
 ·have hg:g<w.heap.size:=(Array.getElem?_eq_some_iff.1 hb).1;have hmem:∀ y∈Lib.compact xs,ah .i64 y:=fun y hy=>hin y (rT xs y hy)
  refine (Any.slices_Compact_int rM g 0 cap xs w (holds_of_blockI hb (by rw [Nat.mul_one] at h4; rw [h4,el])) (by simp only [ax] at h8; omega) h1).mono ?_;rintro e w' ⟨rfl,q,rfl⟩;refine ⟨_,(Lib.compact xs).map (Value.int .i64),rfl,fun h=>(by cases h),?_,?_,p9 hmem,?_,fun b h=>.inl h⟩
  ·have:=grownBy_sortedI (w:=w) (g:=g) (n:=q) (os:=#[]) (Lib.compact xs++List.replicate (xs.length - (Lib.compact xs).length) 0).toArray;rw [Sort.grow_empty] at this;exact this
  ·have hh:=heap_sortedI (w:=w) (g:=g) (n:=q) (os:=#[]) (Lib.compact xs++List.replicate (xs.length - (Lib.compact xs).length) 0).toArray hb;rw [Sort.grow_empty] at hh
   have hrow:World.ownsRow (Sort.putRow (Value.int .i64) (Sort.ahead w q) g 0 (Lib.compact xs++List.replicate (xs.length - (Lib.compact xs).length) 0).toArray) 0 3 1
     (.slice (some ⟨g,0,none⟩) (Lib.compact xs).length cap) (Lib.compact xs).length ((Lib.compact xs).map (Value.int .i64)):=by
    refine ⟨by simp,.inr ⟨g,cap,_,rfl,Nat.zero_le _,hh,Nat.le_trans hle h1,h2,by simp [Sort.putCells,h3],?_⟩⟩;have ht:=take_putCellsI cur (Lib.compact xs++List.replicate (xs.length - (Lib.compact xs).length) 0) (by simp; omega);have ht2:=congrArg (List.take (Lib.compact xs).length) ht;rw [List.take_take,Nat.min_eq_left (by simp)] at ht2;rw [Nat.mul_one,ht2];simp
   exact hrow
  ·show (Lib.compact xs).length * 8<=ax;omega
end
section
open Go
set_option maxRecDepth 100000
set_option maxHeartbeats 1000000
def dc (v n:Int):Bool:=decide (-1<=v)&&decide (v<n)
def aG (r:List Int) (n:Int):Int:=if n<0\/256<n then 4 else if 32<r.length then 2 else if (r.any fun v=>!dc v n)=true then 4 else 0
def bj (r:List Int) (n:Int):List Int×Int :=
 if aG r n≠0 then ([],aG r n) else (fx (d9 (r.filter fun v=>!decide (v<0))),0)
def m5 (to:List Int) (v:Int):Int:=if 0<=v then to.getD v.toNat 0 else v
def bg (r:List Int) (n:Int) (to:List Int):List Int×Int :=
 if aG r n≠0 then ([],aG r n) else if (to.length:Int)≠n then ([],3) else if (to.any fun v=>!dc v n)=true then ([],4) else (r.map (m5 to),0)
theorem sq {r:List Int} {n v:Int} (h:(r.any fun v=>!dc v n)=false) (hv:v∈r):-1<=v/\v<n:=by
 have:=List.any_eq_false.1 h v hv;simpa [dc] using this
theorem j9 {r:List Int} {n:Int} (h:aG r n=0):(r.any fun v=>!dc v n)=false:=by
 unfold aG at h;cases hr:r.any fun v=>!dc v n
 ·rfl
 ·rw [hr] at h;simp only [if_true] at h;split at h
  ·omega
  ·split at h <;> omega
theorem iJ {α:Type} (f:α->Bool):∀ (l:List α) (k:Int),0<=k->(ag f k l=-1/\l.filter (fun x=>!f x)=l) \/
  ∃ j:Nat,ag f k l=k+j/\j<l.length/\(l.take (j+1)).filter (fun x=>!f x)=l.take j
 | [],k,_=>.inl ⟨rfl,rfl⟩
 | x::l,k,hk=>by
  simp only [ag];cases hx:f x
  ·rw [if_neg (by simp)];rcases iJ f l (k+1) (by omega) with ⟨h1,h2⟩ | ⟨j,h1,h2,h3⟩
   ·exact .inl ⟨h1,by rw [List.filter_cons_of_pos (by simp [hx]),h2]⟩
   ·exact .inr ⟨j+1,by omega,by simp; omega,by rw [List.take_succ_cons,List.filter_cons_of_pos (by simp [hx]),h3,List.take_succ_cons]⟩
  ·rw [if_pos rfl];exact .inr ⟨0,by omega,by simp,by simp [hx]⟩
theorem Kd {α:Type} (d:α) {p:α->Bool} {xs row:List α} {i j:Nat} (hij:i<j) (hj:j<xs.length) (hl:row.length=xs.length) (ht:row.take i=(xs.take j).filter p) (hd:row.drop j=xs.drop j) :
  (p (row.getD j d)=true->(row.set i (row.getD j d)).take (i+1)=(xs.take (j+1)).filter p/\(row.set i (row.getD j d)).drop (j+1)=xs.drop (j+1)) /\
  (p (row.getD j d)=false->row.take i=(xs.take (j+1)).filter p/\row.drop (j+1)=xs.drop (j+1)):=by
 have he:row.getD j d=xs.getD j d:=by
  have:=congrArg (fun l=>l.getD 0 d) hd;simpa [List.getD,List.getElem?_drop] using this
 have h1:row.drop (j+1)=xs.drop (j+1):=by
  have:=congrArg (List.drop 1) hd;simpa [List.drop_drop,Nat.add_comm] using this
 have hx:xs.take (j+1)=xs.take j++[xs.getD j d]:=by
  rw [List.take_succ_eq_append_getElem hj];simp [List.getD,hj]
 rw [he,hx,List.filter_append];refine ⟨fun hp=>⟨?_,?_⟩,fun hp=>⟨?_,h1⟩⟩
 ·rw [List.take_set,<- ht,List.filter_cons_of_pos hp,List.filter_nil];have hi:i<row.length:=by omega
  rw [List.take_succ_eq_append_getElem hi,List.set_append_right _ _ (by simp; omega)];simp [Nat.min_eq_left (Nat.le_of_lt hi)]
 ·rw [List.drop_set_of_lt (by omega),h1]
 ·rw [ht,List.filter_cons_of_neg (by rw [hp]; simp)];simp
def yo:Spec:={ Ts:=[.arr ty_I],Rs:=[.own 3 ty_I],pre:=fun _=>True,F:=fun (x:List Int)=>x }
def oW:Prop :=
  ∀ (x:List Int),(x.length * 8<=ax/\∀ (x_1:Int),x_1∈x->ah .i64 x_1)->True->(x=([]:List Int)->([]:List Int)=x/\True)/\(True->(0+x.length) * 8<=ax/\([]:List Int)++x=x/\True)
theorem vo:oW:=by
 unfold oW;intro x ⟨hb,_⟩ _;simp [hb]
theorem ci:yo.ok Tryz.prog 36:=aD (ann:=co) ap Tryz.func36 (by kernel_rfl) vo
def GD:Spec:={ Ts:=[ty_I,ty_I],Rs:=[.dat .bool],pre:=fun _=>True,F:=fun ((v,n):Int×Int)=>dc v n }
def wA:Prop :=
  ∀ (x:Int×Int),ah .i64 x.1/\ah .i64 x.2->True->(decide ((-1)<=x.1)&&decide (x.1<x.2))=dc x.1 x.2/\True
theorem C5:wA:=by
 unfold wA;intro ⟨v,n⟩ _ _;simp only [dc]
 grind
theorem w9:GD.ok Tryz.prog 209:=aD (ann:=co) ap Tryz.func209 (by kernel_rfl) C5
def GQ:Spec:={ Ts:=[ty_I,.ref ty_I],Rs:=[.dat .bool],pre:=fun _=>True,F:=fun ((v,n):Int×Int)=>!dc v n }
def wN:Prop :=
  ∀ (x:Int×Int),ah .i64 x.1/\ah .i64 x.2->True->True/\(!dc x.1 x.2)=!dc x.1 x.2/\True
theorem Di:wN:=by
 unfold wN;intro ⟨v,n⟩ _ _;simp
theorem Hp:GQ.ok Tryz.prog 208:=aD (ann:=co) (ae w9 ap) Tryz.func208 (by kernel_rfl) Di
def GP:Spec:={ Ts:=[ty_I,.ref ty_I],Rs:=[.dat .bool],pre:=fun _=>True,F:=fun ((v,n):Int×Int)=>!dc v n }
def wM:Prop :=
  ∀ (x:Int×Int),ah .i64 x.1/\ah .i64 x.2->True->True/\(!dc x.1 x.2)=!dc x.1 x.2/\True
theorem Dh:wM:=by
 unfold wM;intro ⟨v,n⟩ _ _;simp
theorem Ho:GP.ok Tryz.prog 220:=aD (ann:=co) (ae w9 ap) Tryz.func220 (by kernel_rfl) Dh
def GO:Spec:={ Ts:=[ty_I],Rs:=[.dat .bool],pre:=fun _=>True,F:=fun (v:Int)=>decide (v<0) }
def wL:Prop :=
  ∀ (x:Int),ah .i64 x->True->decide (x<0)=decide (x<0)/\True
theorem Dg:wL:=by
 unfold wL;intro v _ _;simp
theorem Hn:GO.ok Tryz.prog 251:=aD (ann:=co) ap Tryz.func251 (by kernel_rfl) Dg
def yh:Spec:={ Ts:=[.arr ty_I,ty_I],Rs:=[.dat ty_I],pre:=fun _=>True,F:=fun ((r,n):List Int×Int)=>aG r n }
def oP:Prop :=
  ∀ (x:List Int×Int),(x.1.length * 8<=ax/\∀ (x_1:Int),x_1∈x.1->ah .i64 x_1)/\ah .i64 x.2->True->((decide (x.2<0)||decide (256<x.2))=true->4=aG x.1 x.2/\True)/\((decide (x.2<0)||decide (256<x.2))=false->(decide (32<(x.1.length:Int))=true->2=aG x.1 x.2/\True)/\(decide (32<(x.1.length:Int))=false->(∀ (s:Int),s∈x.1->(fun (_:Int)=>True,fun (x_1:Int)=>!dc x_1 x.2).1 s)/\((x.1.any fun (x_1:Int)=>!dc x_1 x.2)=true->4=aG x.1 x.2/\True)/\((x.1.any fun (x_1:Int)=>!dc x_1 x.2)=false->0=aG x.1 x.2/\True)))
theorem vf:oP:=by
 unfold oP;intro ⟨r,n⟩ ⟨⟨hb,_⟩,hn⟩ _;simp only [aG]
 grind
theorem lc:yh.ok Tryz.prog 149:=aD (ann:=co) (ae yP (ae Hp ap)) Tryz.func149 (by kernel_rfl) vf
def zQ:Nat->Option LoopGen
 | 3000250=>some eE
 | 3000251=>some eE
 | 25100000005=>some { rd:=[.own 0 3 ty_I],wr:=[0],A:=fun (xs:List Int)=>{ cs:=[.own 0 3 ty_I,.dat 5 ty_I,.dat 6 ty_I],inv:=fun ((row,i,j):List Int×Int×Int)=>0<=i/\i<j/\j<=xs.length/\row.length=xs.length/\row.take i.toNat=(xs.take j.toNat).filter (fun v=>!decide (v<0))/\row.drop j.toNat=xs.drop j.toNat,mu:=fun ((_,_,j):List Int×Int×Int)=>(xs.length - j).toNat } }
 | _=>none
def yg:Spec:={ Ts:=[.arr ty_I,ty_I],Rs:=[.own 3 ty_I,.dat ty_I],pre:=fun _=>True,F:=fun ((r,n):List Int×Int)=>bj r n }
def oO:Prop :=
  ∀ (x:List Int×Int),(x.1.length * 8<=ax/\∀ (x_1:Int),x_1∈x.1->ah .i64 x_1)/\ah .i64 x.2->True->True/\(decide (aG x.1 x.2≠0)=true->([]:List Int)=(bj x.1 x.2).1/\aG x.1 x.2=(bj x.1 x.2).2/\True)/\(decide (aG x.1 x.2≠0)=false->True/\∀ (_:Array Value),(∀ (s:Int),s∈x.1->(fun (_:Int)=>True,fun (x:Int)=>decide (x<0)).1 s)/\(decide (ag (fun (x:Int)=>decide (x<0)) 0 x.1=(-1))=true->True/\True/\fx (d9 x.1)=(bj x.1 x.2).1/\0=(bj x.1 x.2).2/\True)/\(decide (ag (fun (x:Int)=>decide (x<0)) 0 x.1=(-1))=false->ah .i64 (ag (fun (x:Int)=>decide (x<0)) 0 x.1+1)/\(0<=ag (fun (x:Int)=>decide (x<0)) 0 x.1/\ag (fun (x:Int)=>decide (x<0)) 0 x.1<ag (fun (x:Int)=>decide (x<0)) 0 x.1+1/\ag (fun (x:Int)=>decide (x<0)) 0 x.1+1<=(x.1.length:Int)/\x.1.length=x.1.length/\List.take (ag (fun (x:Int)=>decide (x<0)) 0 x.1).toNat x.1=List.filter (fun (v:Int)=>!decide (v<0)) (List.take (ag (fun (x:Int)=>decide (x<0)) 0 x.1+1).toNat x.1)/\List.drop (ag (fun (x:Int)=>decide (x<0)) 0 x.1+1).toNat x.1=List.drop (ag (fun (x:Int)=>decide (x<0)) 0 x.1+1).toNat x.1)/\∀ (x_1:List Int×Int×Int),0<=x_1.2.1/\x_1.2.1<x_1.2.2/\x_1.2.2<=(x.1.length:Int)/\x_1.1.length=x.1.length/\List.take x_1.2.1.toNat x_1.1=List.filter (fun (v:Int)=>!decide (v<0)) (List.take x_1.2.2.toNat x.1)/\List.drop x_1.2.2.toNat x_1.1=List.drop x_1.2.2.toNat x.1->(decide (x_1.2.2<(x_1.1.length:Int))=true->0<=x_1.2.2/\x_1.2.2<(x_1.1.length:Int)/\x_1.2.2.toNat<x_1.1.length/\∀ (_:Array Value),((!decide (x_1.1.getD x_1.2.2.toNat (0:Int)<0))=true->0<=x_1.2.1/\x_1.2.1<(x_1.1.length:Int)/\x_1.2.1.toNat<x_1.1.length/\ah .i64 (x_1.2.1+1)/\ah .i64 (x_1.2.2+1)/\(0<=x_1.2.1+1/\x_1.2.1+1<x_1.2.2+1/\x_1.2.2+1<=(x.1.length:Int)/\(x_1.1.set x_1.2.1.toNat (x_1.1.getD x_1.2.2.toNat 0)).length=x.1.length/\List.take (x_1.2.1+1).toNat (x_1.1.set x_1.2.1.toNat (x_1.1.getD x_1.2.2.toNat 0))=List.filter (fun (v:Int)=>!decide (v<0)) (List.take (x_1.2.2+1).toNat x.1)/\List.drop (x_1.2.2+1).toNat (x_1.1.set x_1.2.1.toNat (x_1.1.getD x_1.2.2.toNat 0))=List.drop (x_1.2.2+1).toNat x.1)/\((x.1.length:Int) - (x_1.2.2+1)).toNat<((x.1.length:Int) - x_1.2.2).toNat)/\((!decide (x_1.1.getD x_1.2.2.toNat (0:Int)<0))=false->ah .i64 (x_1.2.2+1)/\(0<=x_1.2.1/\x_1.2.1<x_1.2.2+1/\x_1.2.2+1<=(x.1.length:Int)/\x_1.1.length=x.1.length/\List.take x_1.2.1.toNat x_1.1=List.filter (fun (v:Int)=>!decide (v<0)) (List.take (x_1.2.2+1).toNat x.1)/\List.drop (x_1.2.2+1).toNat x_1.1=List.drop (x_1.2.2+1).toNat x.1)/\((x.1.length:Int) - (x_1.2.2+1)).toNat<((x.1.length:Int) - x_1.2.2).toNat))/\(decide (x_1.2.2<(x_1.1.length:Int))=false->0<=x_1.2.1/\x_1.2.1<=(x_1.1.length:Int)/\x_1.2.1.toNat+(x_1.1.length - x_1.2.1.toNat)<=x_1.1.length/\0<=x_1.2.1/\x_1.2.1<=(↑(List.take x_1.2.1.toNat x_1.1++(List.replicate (x_1.1.length - x_1.2.1.toNat) (0:Int)++List.drop (x_1.2.1.toNat+(x_1.1.length - x_1.2.1.toNat)) x_1.1)).length:Int)/\True/\True/\fx (d9 (List.take x_1.2.1.toNat (List.take x_1.2.1.toNat x_1.1++(List.replicate (x_1.1.length - x_1.2.1.toNat) (0:Int)++List.drop (x_1.2.1.toNat+(x_1.1.length - x_1.2.1.toNat)) x_1.1))))=(bj x.1 x.2).1/\0=(bj x.1 x.2).2/\True)))
theorem ve:oO:=by
 unfold oO;intro ⟨r,n⟩ ⟨⟨hb,_⟩,_⟩ _;unfold ax at hb;simp only at hb ⊢;refine ⟨trivial,fun h=>?_,fun h=>⟨trivial,fun _=>⟨fun _ _=>trivial,fun h2=>?_,fun h2=>?_⟩⟩⟩
 ·simp only [bj];rw [if_pos (of_decide_eq_true h)];exact ⟨rfl,rfl,trivial⟩
 ·have h2:=of_decide_eq_true h2;refine ⟨trivial,trivial,?_⟩;simp only [bj];rw [if_neg (of_decide_eq_false h)];rcases iJ (fun x:Int=>decide (x<0)) r 0 (by omega) with ⟨_,h3⟩ | ⟨j,h3,_⟩
  ·rw [h3];exact ⟨rfl,rfl,trivial⟩
  ·omega
 have h2:=of_decide_eq_false h2;rcases iJ (fun x:Int=>decide (x<0)) r 0 (by omega) with ⟨h3,_⟩ | ⟨j,h3,h4,h5⟩
 ·exact absurd h3 h2
 rw [h3];refine ⟨by simp only [ah]; omega,⟨by omega,by omega,by omega,trivial,?_,trivial⟩,fun ⟨row,i,j⟩ ⟨k0,k1,k2,k3,k4,k5⟩=>⟨fun hlt=>?_,fun hge=>?_⟩⟩
 ·rw [show (0+(j:Int)+1).toNat=j+1 by omega,show (0+(j:Int)).toNat=j by omega,h5]
 ·simp only at k0 k1 k2 k3 k4 k5 hlt ⊢;have hlt:=of_decide_eq_true hlt;have hs:=Kd (0:Int) (p:=fun v=>!decide (v<0)) (xs:=r) (row:=row) (i:=i.toNat) (j:=j.toNat) (by omega) (by omega) k3 k4 k5;refine ⟨by omega,by omega,by omega,fun _=>⟨fun hp=>?_,fun hp=>?_⟩⟩
  ·obtain ⟨q1,q2⟩:=hs.1 hp;refine ⟨by omega,by omega,by omega,by simp only [ah]; omega,by simp only [ah]; omega,⟨by omega,by omega,by omega,by simpa using k3,?_,?_⟩,by omega⟩
   ·rw [show (i+1).toNat=i.toNat+1 by omega,show (j+1).toNat=j.toNat+1 by omega];exact q1
   ·rw [show (j+1).toNat=j.toNat+1 by omega];exact q2
  ·obtain ⟨q1,q2⟩:=hs.2 hp;refine ⟨by simp only [ah]; omega,⟨by omega,by omega,by omega,k3,?_,?_⟩,by omega⟩
   ·rw [show (j+1).toNat=j.toNat+1 by omega];exact q1
   ·rw [show (j+1).toNat=j.toNat+1 by omega];exact q2
 ·simp only at k0 k1 k2 k3 k4 k5 hge ⊢;have hge:=of_decide_eq_false hge;have hj:j.toNat=r.length:=by omega
  have e1:List.take i.toNat (List.take i.toNat row++(List.replicate (row.length - i.toNat) 0++List.drop (i.toNat+(row.length - i.toNat)) row))=List.take i.toNat row:=by
   rw [List.take_append_of_le_length (by simp; omega),List.take_take,Nat.min_self]
  refine ⟨by omega,by omega,by omega,by omega,by simp; omega,trivial,trivial,?_⟩;rw [e1,k4,hj,List.take_of_length_le (Nat.le_refl _)];simp only [bj];rw [if_neg (of_decide_eq_false h)];exact ⟨rfl,rfl,trivial⟩
theorem yM:yg.ok Tryz.prog 211:=aD (ann:=zQ) (ae lc (ae ci (ae Hn (ae BR (kW tT (kW rK ap)))))) Tryz.func211 (by kernel_rfl) ve
def CP:Nat->Option LoopGen
 | 10=>some { rd:=[.dat 2 (.arr ty_I),.dat 0 (.arr ty_I)],wr:=[9,30],A:=fun ((to,r):List Int×List Int)=>{ cs:=[.own 9 3 ty_I,.same 30 9,.dat 32 ty_I],inv:=fun ((out,_,i):List Int×Unit×Int)=>0<=i/\i<=r.length/\(∀ v∈r,v<to.length)/\out=(r.take i.toNat).map (m5 to)++r.drop i.toNat,mu:=fun ((_,_,i):List Int×Unit×Int)=>(r.length - i).toNat } }
 | _=>none
def AG:Spec:={ Ts:=[.arr ty_I,ty_I,.arr ty_I],Rs:=[.own 3 ty_I,.dat ty_I],pre:=fun _=>True,F:=fun ((r,n,to):List Int×Int×List Int)=>bg r n to }
def rb:Prop :=
  ∀ (x:List Int×Int×List Int),((x.1.length * 8<=ax/\∀ (x_1:Int),x_1∈x.1->ah .i64 x_1)/\ah .i64 x.2.1/\x.2.2.length * 8<=ax/\∀ (x_1:Int),x_1∈x.2.2->ah .i64 x_1)->True->True/\(decide (aG x.1 x.2.1≠0)=true->([]:List Int)=(bg x.1 x.2.1 x.2.2).1/\aG x.1 x.2.1=(bg x.1 x.2.1 x.2.2).2/\True)/\(decide (aG x.1 x.2.1≠0)=false->(decide ((x.2.2.length:Int)≠x.2.1)=true->([]:List Int)=(bg x.1 x.2.1 x.2.2).1/\3=(bg x.1 x.2.1 x.2.2).2/\True)/\(decide ((x.2.2.length:Int)≠x.2.1)=false->(∀ (s:Int),s∈x.2.2->(fun (_:Int)=>True,fun (x_1:Int)=>!dc x_1 x.2.1).1 s)/\((x.2.2.any fun (x_1:Int)=>!dc x_1 x.2.1)=true->([]:List Int)=(bg x.1 x.2.1 x.2.2).1/\4=(bg x.1 x.2.1 x.2.2).2/\True)/\((x.2.2.any fun (x_1:Int)=>!dc x_1 x.2.1)=false->True/\((0:Int)<=0/\0<=(x.1.length:Int)/\(∀ (v:Int),v∈x.1->v<(x.2.2.length:Int))/\x.1=List.map (m5 x.2.2) (List.take (Int.toNat 0) x.1)++List.drop (Int.toNat 0) x.1)/\∀ (x_1:List Int×Unit×Int),0<=x_1.2.2/\x_1.2.2<=(x.1.length:Int)/\(∀ (v:Int),v∈x.1->v<(x.2.2.length:Int))/\x_1.1=List.map (m5 x.2.2) (List.take x_1.2.2.toNat x.1)++List.drop x_1.2.2.toNat x.1->(decide (x_1.2.2<(x.1.length:Int))=true->0<=x_1.2.2/\x_1.2.2<(x_1.1.length:Int)/\x_1.2.2.toNat<x_1.1.length/\(decide (0<=x_1.1.getD x_1.2.2.toNat 0)=true->0<=x_1.1.getD x_1.2.2.toNat 0/\x_1.1.getD x_1.2.2.toNat 0<(x.2.2.length:Int)/\0<=x_1.2.2/\x_1.2.2<(x_1.1.length:Int)/\x_1.2.2.toNat<x_1.1.length/\ah .i64 (x_1.2.2+1)/\(0<=x_1.2.2+1/\x_1.2.2+1<=(x.1.length:Int)/\(∀ (v:Int),v∈x.1->v<(x.2.2.length:Int))/\x_1.1.set x_1.2.2.toNat (x.2.2.getD (x_1.1.getD x_1.2.2.toNat 0).toNat 0)=List.map (m5 x.2.2) (List.take (x_1.2.2+1).toNat x.1)++List.drop (x_1.2.2+1).toNat x.1)/\((x.1.length:Int) - (x_1.2.2+1)).toNat<((x.1.length:Int) - x_1.2.2).toNat)/\(decide (0<=x_1.1.getD x_1.2.2.toNat 0)=false->ah .i64 (x_1.2.2+1)/\(0<=x_1.2.2+1/\x_1.2.2+1<=(x.1.length:Int)/\(∀ (v:Int),v∈x.1->v<(x.2.2.length:Int))/\x_1.1=List.map (m5 x.2.2) (List.take (x_1.2.2+1).toNat x.1)++List.drop (x_1.2.2+1).toNat x.1)/\((x.1.length:Int) - (x_1.2.2+1)).toNat<((x.1.length:Int) - x_1.2.2).toNat))/\(decide (x_1.2.2<(x.1.length:Int))=false->x_1.1=(bg x.1 x.2.1 x.2.2).1/\0=(bg x.1 x.2.1 x.2.2).2/\True))))
theorem xG:rb:=by
 unfold rb;intro ⟨r,n,to⟩ ⟨⟨hb,_⟩,_⟩ _;unfold ax at hb;simp only at hb ⊢;refine ⟨trivial,fun h=>?_,fun h=>⟨fun h2=>?_,fun h2=>⟨fun _ _=>trivial,fun h3=>?_,fun h3=>⟨trivial,?_,fun ⟨out,_,i⟩ ⟨k0,k1,k2,k3⟩=>?_⟩⟩⟩⟩
 ·simp only [bg];rw [if_pos (of_decide_eq_true h)];exact ⟨rfl,rfl,trivial⟩
 ·simp only [bg];rw [if_neg (of_decide_eq_false h),if_pos (of_decide_eq_true h2)];exact ⟨rfl,rfl,trivial⟩
 ·simp only [bg];rw [if_neg (of_decide_eq_false h),if_neg (of_decide_eq_false h2),if_pos h3];exact ⟨rfl,rfl,trivial⟩
 ·have h:=of_decide_eq_false h;have h2:=of_decide_eq_false h2;have hf:aG r n=0:=by omega
  have hr:(r.any fun v=>!dc v n)=false:=j9 hf;refine ⟨by omega,by omega,fun v hv=>?_,by simp⟩;have:=(sq hr hv).2;omega
 ·simp only at k0 k1 k2 k3 ⊢;refine ⟨fun hlt=>?_,fun hge=>?_⟩
  ·have hlt:=of_decide_eq_true hlt
   have hgd:out.getD i.toNat 0=r.getD i.toNat 0:=by
    rw [k3];simp only [List.getD_eq_getElem?_getD];rw [List.getElem?_append_right (by simp; omega)];simp only [List.length_map,List.length_take,List.getElem?_drop];congr 2;omega
   have hol:out.length=r.length:=by rw [k3]; simp; omega
   have hrd:r.drop i.toNat=r.getD i.toNat 0::r.drop (i+1).toNat:=bh 0 k0 hlt
   have htk:r.take (i+1).toNat=r.take i.toNat++[r.getD i.toNat 0]:=by
    rw [show (i+1).toNat=i.toNat+1 by omega,List.take_succ_eq_append_getElem (by omega)];simp [List.getD,show i.toNat<r.length by omega]
   have hset:∀ y,out.set i.toNat y=(r.take i.toNat).map (m5 to)++y::r.drop (i+1).toNat:=by
    intro y;rw [k3,hrd,List.set_append_right _ _ (by simp; omega)];simp [Nat.min_eq_left (show i.toNat<=r.length by omega)]
   have hmem:=k2 _ (aJ (0:Int) k0 hlt);rw [hgd];refine ⟨k0,by omega,by omega,fun hc=>?_,fun hc=>?_⟩
   ·have hc:=of_decide_eq_true hc;refine ⟨hc,hmem,k0,by omega,by omega,by simp only [ah]; omega,⟨by omega,by omega,k2,?_⟩,by omega⟩;have e1:m5 to (r.getD i.toNat 0)=to.getD (r.getD i.toNat 0).toNat 0:=if_pos hc;rw [hset,htk,List.map_append,<- e1];simp
   ·have hc:=of_decide_eq_false hc;refine ⟨by simp only [ah]; omega,⟨by omega,by omega,k2,?_⟩,by omega⟩;have e1:m5 to (r.getD i.toNat 0)=r.getD i.toNat 0:=if_neg hc;rw [k3,hrd,htk,List.map_append,List.map_singleton,e1];simp
  ·have hge:=of_decide_eq_false hge;have hi:i.toNat=r.length:=by omega
   simp only [bg];rw [if_neg (of_decide_eq_false h),if_neg (of_decide_eq_false h2),if_neg (by rw [h3]; simp),k3,hi];simp
theorem rE:AG.ok Tryz.prog 159:=aD (ann:=CP) (ae lc (ae ci (ae yP (ae Ho ap)))) Tryz.func159 (by kernel_rfl) xG
def ie (l:List Int) (m:Nat):List Int:=((List.range m).map Int.ofNat).filter (ft l)
end
section
open Go
theorem cu {l:List Int} {n:Int}:ft l n=true ↔ n∈l:=by
 unfold ft;rw [List.any_eq_true];exact ⟨fun ⟨x,h1,h2⟩=>of_decide_eq_true h2 ▸ h1,fun h=>⟨n,h,by simp⟩⟩
theorem jv (d:Array Int) (hd:∀ i j,i<j->j<d.size->d[i]!<=d[j]!):∀ m,m<=d.size ->
  (Lib.compactUpTo d m).Pairwise (·<·)/\(∀ x∈Lib.compactUpTo d m,∃ j,j<m/\x=d[j]!)/\∀ j,j<m->d[j]!∈Lib.compactUpTo d m
 | 0,_=>by
  have e:Lib.compactUpTo d 0=[]:=rfl;rw [e];exact ⟨.nil,fun x hx=>(by cases hx),fun j hj=>by omega⟩
 | m+1,hm=>by
  obtain ⟨h1,h2,h3⟩:=jv d hd m (by omega);rw [Lib.compactUpTo_succ];cases hk:Lib.keeps d m
  ·simp only [Bool.false_eq_true,if_false,List.append_nil];have hk:¬ (m=0\/d[m]!≠d[m - 1]!):=of_decide_eq_false hk;refine ⟨h1,fun x hx=>?_,fun j hj=>?_⟩
   ·obtain ⟨j,hj,e⟩:=h2 x hx;exact ⟨j,by omega,e⟩
   ·by_cases hjm:j=m
    ·subst hjm;have e:d[j]! = d[j - 1]!:=Classical.byContradiction fun h=>hk (.inr h)
     rw [e];exact h3 _ (by omega)
    ·exact h3 j (by omega)
  ·simp only [if_true];have hk:m=0\/d[m]!≠d[m - 1]!:=of_decide_eq_true hk;refine ⟨List.pairwise_append.2 ⟨h1,List.pairwise_singleton _ _,fun x hx y hy=>?_⟩,fun x hx=>?_,fun j hj=>?_⟩
   ·rw [List.mem_singleton.1 hy];obtain ⟨j,hj,e⟩:=h2 x hx;subst e;have h5:=hd (m - 1) m (by omega) (by omega);by_cases hjm:j=m - 1
    ·subst hjm;omega
    ·have:=hd j (m - 1) (by omega) (by omega);omega
   ·rcases List.mem_append.1 hx with hx | hx
    ·obtain ⟨j,hj,e⟩:=h2 x hx;exact ⟨j,by omega,e⟩
    ·exact ⟨m,by omega,List.mem_singleton.1 hx⟩
   ·by_cases hjm:j=m
    ·subst hjm;simp
    ·exact List.mem_append_left _ (h3 j (by omega))
theorem kX (xs:List Int):(d9 xs).Pairwise (·<=·):=by
 have:=List.pairwise_mergeSort (le:=fun x y:Int=>decide (x<=y)) (fun a b c h1 h2=>by simp only [decide_eq_true_eq] at *; omega) (fun a b=>by simp only [Bool.or_eq_true,decide_eq_true_eq]; omega) xs;exact this.imp (fun h=>of_decide_eq_true h)
theorem pY {xs:List Int} {x:Int}:x∈d9 xs ↔ x∈xs:=List.mem_mergeSort
theorem iR (xs:List Int):(d9 xs).length=xs.length:=List.length_mergeSort _
theorem so {xs:List Int} (h:xs.Pairwise (·<=·)):(fx xs).Pairwise (·<·)/\∀ x,x∈fx xs ↔ x∈xs:=by
 have hd:∀ i j,i<j->j<xs.toArray.size->xs.toArray[i]!<=xs.toArray[j]!:=by
  intro i j hij hj;have hj:j<xs.length:=by simpa using hj
  have:=List.pairwise_iff_getElem.1 h i j (by omega) hj hij;simpa [show i<xs.length by omega,hj] using this
 obtain ⟨h1,h2,h3⟩:=jv xs.toArray hd xs.length (by simp);refine ⟨h1,fun x=>⟨fun hx=>rT xs x hx,fun hx=>?_⟩⟩;obtain ⟨j,hj,e⟩:=List.getElem_of_mem hx;have:=h3 j hj;simp only [List.getElem!_toArray,hj,getElem!_pos,e] at this;exact this
theorem qd:∀ {l k:List Int},l.Pairwise (·<·)->k.Pairwise (·<·)->(∀ x,x∈l ↔ x∈k)->l=k
 | [],[],_,_,_=>rfl
 | [],y::k,_,_,h=>absurd ((h y).2 (by simp)) (by simp)
 | x::l,[],_,_,h=>absurd ((h x).1 (by simp)) (by simp)
 | x::l,y::k,hl,hk,h=>by
  obtain ⟨a1,a2⟩:=List.pairwise_cons.1 hl;obtain ⟨b1,b2⟩:=List.pairwise_cons.1 hk
  have e:x=y:=by
   have h1:=(h x).1 (by simp);have h2:=(h y).2 (by simp);rcases List.mem_cons.1 h1 with h1 | h1
   ·exact h1
   ·rcases List.mem_cons.1 h2 with h2 | h2
    ·exact h2.symm
    ·have:=b1 x h1;have:=a1 y h2;omega
  subst e;rw [qd a2 b2 (fun z=>⟨fun hz=>?_,fun hz=>?_⟩)]
  ·have:=(h z).1 (by simp [hz]);rcases List.mem_cons.1 this with e | h1
   ·subst e;exact absurd (a1 z hz) (by omega)
   ·exact h1
  ·have:=(h z).2 (by simp [hz]);rcases List.mem_cons.1 this with e | h1
   ·subst e;exact absurd (b1 z hz) (by omega)
   ·exact h1
theorem HM (m:Nat):((List.range m).map Int.ofNat).Pairwise (·<·):=by
 rw [List.pairwise_map];exact List.pairwise_lt_range.imp (fun h=>by simp only [Int.ofNat_eq_natCast]; omega)
theorem Bg (l:List Int) (m:Nat):(ie l m).Pairwise (·<·):=(HM m).filter _
theorem tr {l:List Int} {m:Nat} {x:Int}:x∈ie l m ↔ 0<=x/\x<m/\x∈l:=by
 unfold ie;rw [List.mem_filter,cu,List.mem_map];constructor
 ·rintro ⟨⟨j,hj,rfl⟩,hx⟩;have:=List.mem_range.1 hj;simp only [Int.ofNat_eq_natCast] at *;exact ⟨by omega,by omega,hx⟩
 ·rintro ⟨h1,h2,h3⟩;exact ⟨⟨x.toNat,List.mem_range.2 (by omega),by simp only [Int.ofNat_eq_natCast]; omega⟩,h3⟩
end
section
open Go
def fo (a:List Int) (x:Int):List Int:=((bF a x).filter fun v=>decide (v≠0)).map (· - 1)
inductive Rch (a from_:List Int):Int->Prop
 | base {x:Int}:x∈from_->Rch a from_ x
 | step {x y:Int}:Rch a from_ x->y∈fo a x->Rch a from_ y
def pJ (a l:List Int):Bool:=l.all fun x=>(fo a x).all (ft l)
def o9 (a l:List Int):List Int:=l++l.flatMap (fo a)
def rN (a:List Int):Nat->List Int->List Int
 | 0,l=>l
 | n+1,l=>if pJ a l=true then l else rN a n (o9 a l)
def bD (a from_:List Int):List Int:=ie (rN a 257 from_) 256
theorem nq {α:Type} {p q:α->Bool}:∀ (l:List α),(∀ x∈l,p x=true->q x=true)->(l.filter p).length<=(l.filter q).length
 | [],_=>by simp
 | x::l,h=>by
  have ih:=nq l (fun y hy=>h y (by simp [hy]));have hx:=h x (by simp);cases hp:p x
  ·rw [List.filter_cons_of_neg (by simp [hp])];cases hq:q x
   ·rw [List.filter_cons_of_neg (by simp [hq])]; exact ih
   ·rw [List.filter_cons_of_pos hq,List.length_cons]; omega
  ·rw [List.filter_cons_of_pos hp,List.filter_cons_of_pos (hx hp),List.length_cons,List.length_cons]; omega
theorem np {α:Type} {p q:α->Bool}:∀ (l:List α),(∀ x∈l,p x=true->q x=true)->(∃ x∈l,p x=false/\q x=true)->(l.filter p).length<(l.filter q).length
 | [],_,h=>by obtain ⟨x,hx,_⟩:=h; cases hx
 | x::l,h,⟨y,hy,hp,hq⟩=>by
  have h':∀ y∈l,p y=true->q y=true:=fun y hy=>h y (by simp [hy])
  have le:=nq l h';rcases List.mem_cons.1 hy with rfl | hy
  ·rw [List.filter_cons_of_neg (by simp [hp]),List.filter_cons_of_pos hq,List.length_cons]; omega
  ·have ih:=np l h' ⟨y,hy,hp,hq⟩;have hx:=h x (by simp);cases hp:p x
   ·rw [List.filter_cons_of_neg (by simp [hp])];cases hq:q x
    ·rw [List.filter_cons_of_neg (by simp [hq])]; exact ih
    ·rw [List.filter_cons_of_pos hq,List.length_cons]; omega
   ·rw [List.filter_cons_of_pos hp,List.filter_cons_of_pos (hx hp),List.length_cons,List.length_cons]; omega
def EP (l:List Int):Nat:=(ie l 256).length
theorem MJ (l:List Int):EP l<=256:=by
 have:=List.length_filter_le (ft l) ((List.range 256).map Int.ofNat);unfold EP ie;simpa using this
theorem MI {l k:List Int} (h:∀ x∈l,x∈k) {y:Int} (hy:y∈k) (hn:¬ y∈l) (h0:0<=y) (h1:y<=255):EP l<EP k:=by
 refine np _ (fun x _ hx=>cu.2 (h x (cu.1 hx))) ⟨y,?_,?_,cu.2 hy⟩
 ·rw [List.mem_map];exact ⟨y.toNat,List.mem_range.2 (by omega),by simp only [Int.ofNat_eq_natCast]; omega⟩
 ·cases hl:ft l y
  ·rfl
  ·exact absurd (cu.1 hl) hn
theorem rU {a l:List Int}:pJ a l=true ↔ ∀ x∈l,∀ y∈fo a x,y∈l:=by
 unfold pJ;simp only [List.all_eq_true,cu]
theorem gA {a:List Int} {x:Int} (h:isB (ac a).1 x=true):0<=x/\x<=255:=cJ _ (JI h).1
theorem qg {a:List Int} (hw:∀ x∈a,ah .u64 x) (hc:(am a).2.2=0) {x y:Int} (hx:isB (ac a).1 x=true) (hy:y∈fo a x):isB (ac a).1 y=true:=by
 unfold fo at hy;obtain ⟨v,hv,rfl⟩:=List.mem_map.1 hy;obtain ⟨hv,h0⟩:=List.mem_filter.1 hv;have h0:=of_decide_eq_true h0;rcases nF hw hc _ (ff hx).1 v hv with e | ⟨_,_,e⟩
 ·exact absurd e h0
 ·exact e
theorem Rch.isB {a from_:List Int} (hw:∀ x∈a,ah .u64 x) (hc:(am a).2.2=0) (hf:∀ x∈from_,isB (ac a).1 x=true) {x:Int} (h:Rch a from_ x):isB (ac a).1 x=true:=by
 induction h with
 | base h=>exact hf _ h
 | step _ h ih=>exact qg hw hc ih h
theorem Rch.mem {a from_ l:List Int} (h1:∀ x∈from_,x∈l) (h2:∀ x∈l,∀ y∈fo a x,y∈l) {x:Int} (h:Rch a from_ x):x∈l:=by
 induction h with
 | base h=>exact h1 _ h
 | step _ h ih=>exact h2 _ ih _ h
theorem Rch.mono {a f g:List Int} (h:∀ x∈f,Rch a g x) {x:Int} (hx:Rch a f x):Rch a g x:=by
 induction hx with
 | base hx=>exact h _ hx
 | step _ hy ih=>exact .step ih hy
theorem xk (a:List Int):∀ (n:Nat) (l:List Int),∀ x∈l,x∈rN a n l
 | 0,_,_,h=>h
 | n+1,l,x,h=>by
  unfold rN;split
  ·exact h
  ·exact xk a n _ x (by unfold o9; simp [h])
theorem xl {a f:List Int}:∀ (n:Nat) (l:List Int),(∀ x∈l,Rch a f x)->∀ x∈rN a n l,Rch a f x
 | 0,_,h,x,hx=>h x hx
 | n+1,l,h,x,hx=>by
  unfold rN at hx;split at hx
  ·exact h x hx
  ·refine xl n _ (fun y hy=>?_) x hx;unfold o9 at hy;rcases List.mem_append.1 hy with hy | hy
   ·exact h y hy
   ·obtain ⟨z,hz,hy⟩:=List.mem_flatMap.1 hy;exact .step (h z hz) hy
theorem pj {a:List Int} (hw:∀ x∈a,ah .u64 x) (hc:(am a).2.2=0):∀ (n:Nat) (l:List Int),(∀ x∈l,isB (ac a).1 x=true)->257<=n+EP l->pJ a (rN a n l)=true
 | 0,l,_,hn=>by have:=MJ l; omega
 | n+1,l,hl,hn=>by
  unfold rN;by_cases h:pJ a l=true
  ·rw [if_pos h]; exact h
  rw [if_neg h]
  have hl2:∀ x∈o9 a l,isB (ac a).1 x=true:=by
   intro y hy;unfold o9 at hy;rcases List.mem_append.1 hy with hy | hy
   ·exact hl y hy
   ·obtain ⟨z,hz,hy⟩:=List.mem_flatMap.1 hy;exact qg hw hc (hl z hz) hy
  refine pj hw hc n _ hl2 ?_;rw [rU] at h
  have h:∃ x,x∈l/\∃ y,y∈fo a x/\¬ y∈l:=by
   apply Classical.byContradiction;intro hno;apply h;intro x hx y hy;apply Classical.byContradiction;intro hyl;exact hno ⟨x,hx,y,hy,hyl⟩
  obtain ⟨x,hx,y,hy,hyl⟩:=h
  have hy2:y∈o9 a l:=by
   unfold o9;exact List.mem_append_right _ (List.mem_flatMap.2 ⟨x,hx,hy⟩)
  have hr:=gA (hl2 y hy2);have:=MI (l:=l) (k:=o9 a l) (fun z hz=>by unfold o9; simp [hz]) hy2 hyl hr.1 hr.2;omega
theorem gY {a from_:List Int} (hw:∀ x∈a,ah .u64 x) (hc:(am a).2.2=0) (hf:∀ x∈from_,isB (ac a).1 x=true) {x:Int}:x∈bD a from_ ↔ Rch a from_ x:=by
 unfold bD;rw [tr];constructor
 ·intro h;exact xl 257 from_ (fun y hy=>.base hy) x h.2.2
 ·intro h;have hr:=gA (h.isB hw hc hf);refine ⟨hr.1,by omega,?_⟩;have hcl:=rU.1 (pj hw hc 257 from_ hf (by omega));exact h.mem (xk a 257 from_) hcl
theorem kZ (a from_:List Int):(bD a from_).Pairwise (·<·):=Bg _ _
structure Full (a from_ out:List Int):Prop where
 has:∀ x∈from_,x∈out
 only:∀ x∈out,Rch a from_ x
 all:∀ x∈out,∀ y∈fo a x,y∈out
theorem Full.iff {a from_ out:List Int} (h:Full a from_ out) {x:Int}:x∈out ↔ Rch a from_ x:=⟨h.only x,fun hx=>hx.mem h.has h.all⟩
theorem Full.sorted {a from_ out:List Int} (hw:∀ x∈a,ah .u64 x) (hc:(am a).2.2=0) (hf:∀ x∈from_,isB (ac a).1 x=true) (h:Full a from_ out) (hd:out.Nodup):d9 out=bD a from_:=by
 refine qd ?_ (kZ _ _) (fun x=>by rw [pY,gY hw hc hf,h.iff]);have h1:=kX out;have h2:(d9 out).Nodup:=(List.mergeSort_perm out _).nodup_iff.2 hd;have h3:=h1.and h2;exact h3.imp (fun ⟨x,y⟩=>by omega)
def aZ (a from_:List Int):Int:=if (am a).2.2≠0 then (am a).2.2 else if from_.all (isB (ac a).1)=true then 0 else 5
def dJ (a from_:List Int):List Int×Int:=if aZ a from_≠0 then ([],aZ a from_) else (bD a from_,0)
theorem eM {a from_:List Int} (h:aZ a from_=0):(am a).2.2=0/\∀ x∈from_,isB (ac a).1 x=true:=by
 unfold aZ at h;split at h
 ·rename_i h1; exact absurd h h1
 ·rename_i h1;split at h
  ·rename_i h2;exact ⟨by omega,List.all_eq_true.1 h2⟩
  ·omega
theorem lm {a from_:List Int} (h1:(am a).2.2=0) (h2:∀ x∈from_,isB (ac a).1 x=true):aZ a from_=0:=by
 unfold aZ;rw [if_neg (by omega),if_pos (List.all_eq_true.2 h2)]
end
end Go.Proofs.YtmfileeamnfpaaaGreatDoor
