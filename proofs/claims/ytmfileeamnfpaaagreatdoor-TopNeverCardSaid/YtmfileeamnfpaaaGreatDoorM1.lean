import Derived.Test.YtmfileeamnfpaaaGreatDoorEG6
import Derived.Test.YtmfileeamnfpaaaGreatDoorRows
import Derived.Shelf.Sort.Plain
import Derived.Shelf.Slices.In.SortNone
import Derived.Shelf.Slices.CompactI
import Derived.Sort.OwnSortedInts
namespace Go.Proofs.YtmfileeamnfpaaaGreatDoor
section
open Go
def KK:List (Nat×Spec)->FuncId->Option Spec
 | [],_=>none
 | e::l,f=>if Nat.beq e.1 f then some e.2 else KK l f
def KJ:List (Nat×TFn)->FuncId->Option TFn
 | [],_=>none
 | e::l,f=>if Nat.beq e.1 f then some e.2 else KJ l f
def KL (l:List (Nat×Spec)) (r:List (Nat×TFn):=[]):Specs:={ fn:=KK l,row:=KJ r }
theorem ap:(KL []).ok Tryz.prog:=by
 refine ⟨rfl,?_,?_⟩
 ·intro f s h;cases h
 ·intro f s h;cases h
theorem Ar {P:Program} {f:Nat} {s:TFn} {r:List (Nat×TFn)} (h:s.ok P f) (hl:(KL [] r).ok P):(KL [] ((f,s)::r)).ok P:=by
 refine ⟨hl.1,hl.2.1,?_⟩;intro g t e;have e:KJ ((f,s)::r) g=some t:=e;unfold KJ at e;split at e
 ·rename_i he;have he:=Nat.eq_of_beq_eq_true he;injection e with e
  subst e;simp only at he;subst he;exact h
 ·exact hl.2.2 g t e
theorem kZ {P:Program} {f:Nat} {s:RowFn} {r:List (Nat×TFn)} (h:s.ok P f) (hl:(KL [] r).ok P):(KL [] ((f,.row s)::r)).ok P:=Ar (s:=.row s) h hl
theorem Fd {P:Program} {f:Nat} {s:BoxFn} {r:List (Nat×TFn)} (h:s.ok P f) (hl:(KL [] r).ok P):(KL [] ((f,.box s)::r)).ok P:=Ar (s:=.box s) h hl
theorem ae {P:Program} {f:Nat} {s:Spec} {l:List (Nat×Spec)} {r:List (Nat×TFn)} (h:s.ok P f) (hl:(KL l r).ok P):(KL ((f,s)::l) r).ok P:=by
 refine ⟨hl.1,?_,hl.2.2⟩;intro g t e;have e:KK ((f,s)::l) g=some t:=e;unfold KK at e;split at e
 ·rename_i he;have he:=Nat.eq_of_beq_eq_true he;injection e with e
  subst e;simp only at he;subst he;exact h
 ·exact hl.2.1 g t e
theorem aD {ss:Specs} {ann:Nat->Option LoopGen} {f:FuncId} {fn:Func} {s:Spec} {pv:Prop} (hss:ss.ok Tryz.prog) (hfn:Tryz.prog.funcs[f]?=some fn) (e:pv=MB Tryz.prog ss ann fn s) (h:pv):s.ok Tryz.prog f:=JZ hss hfn (e.mp h)
def ig:(T:Ty)->T.den->Prop
 | .arr T,xs=>(show List T.den from xs).length * T.bytes<=140737488351232/\∀ x∈(show List T.den from xs),ig T x
 | .pair A B,x=>ig A x.1/\ig B x.2
 | .str,s=>s.length<=140737488351232
 | .int _,_=>True
 | .bool,_=>True
 | .nil,_=>True
 | .ref _,_=>True
 | .fn _ _,_=>True
 | .map _ _,_=>True
def l8:(Ts:List Ty)->fS Ts->Prop
 | [],_=>True
 | [T],x=>ig T x
 | T::U::Ts,x=>ig T x.1/\l8 (U::Ts) x.2
def IW (Ts:List Ty):Spec:={ Ts:=Ts,Rs:=[.dat .bool],pre:=l8 Ts,F:=fun _=>(true:Bool) }
def gJ (B:Nat):(T:Ty)->T.den->Prop
 | .arr T,xs=>(show List T.den from xs).length<=B/\∀ x∈(show List T.den from xs),gJ B T x
 | .pair A C,x=>gJ B A x.1/\gJ B C x.2
 | .str,s=>s.length<=B
 | .int _,_=>True
 | .bool,_=>True
 | .nil,_=>True
 | .ref _,_=>True
 | .fn _ _,_=>True
 | .map _ _,_=>True
def pY (B:Nat):(Ts:List Ty)->fS Ts->Prop
 | [],_=>True
 | [T],x=>gJ B T x
 | T::U::Ts,x=>gJ B T x.1/\pY B (U::Ts) x.2
def co:Nat->Option LoopGen:=fun _=>none
abbrev ty_I:Ty:=.int .i64
abbrev bj:Ty:=.int .u64
abbrev gF:Ty:=.pair ty_I (.pair ty_I (.pair ty_I .bool))
abbrev Dy:Ty:=.pair ty_I (.pair (.arr ty_I) (.pair (.arr bj) .bool))
abbrev Obj:=Int×List Int×List Int×Bool
theorem fO {n:Int} (h:0<=n) (h2:n<=18446744073709551615):IntKind.u64.wrap n=n:=dp (k:=.u64) ⟨h,h2⟩
theorem m4 {n:Int} (h:-9223372036854775808<=n) (h2:n<=9223372036854775807):IntKind.i64.wrap n=n:=dp (k:=.i64) ⟨h,h2⟩
theorem Nd:((IntKind.u64.bits:Nat):Int)=64:=rfl
theorem sz {a b:Int} {i:Nat} (ha:0<=a) (hb:0<=b) (h:a<2 ^ i):((a.toNat ||| (b * 2 ^ i).toNat:Nat):Int)=a+b * 2 ^ i:=by
 obtain ⟨m,rfl⟩:=Int.eq_ofNat_of_zero_le ha;obtain ⟨n,rfl⟩:=Int.eq_ofNat_of_zero_le hb;have h1:m<2 ^ i:=by exact_mod_cast h
 have e:((n:Int) * 2 ^ i).toNat=n * 2 ^ i:=by
  have:((n:Int) * 2 ^ i)=((n * 2 ^ i:Nat):Int):=by push_cast; rfl
  rw [this,Int.toNat_natCast]
 rw [e,Int.toNat_natCast,Nat.or_comm,Nat.mul_comm n,<- Nat.two_pow_add_eq_or_of_lt h1 n]
 push_cast
 rw [Int.add_comm,Int.mul_comm]
theorem mn {a:Int} (ha:0<=a) (i:Nat):((a.toNat &&& (2 ^ i - 1):Nat):Int)=a % 2 ^ i:=by
 obtain ⟨m,rfl⟩:=Int.eq_ofNat_of_zero_le ha;rw [Nat.and_two_pow_sub_one_eq_mod]
 push_cast
 rw [Int.toNat_natCast]
theorem yV (m i:Nat):m &&& 2 ^ i=m / 2 ^ i % 2 * 2 ^ i:=by
 apply Nat.eq_of_testBit_eq;intro j;rw [Nat.testBit_and,Nat.testBit_two_pow]
 have key:m / 2 ^ i % 2=(m.testBit i).toNat:=by
  rw [Nat.testBit_eq_decide_div_mod_eq];rcases Nat.mod_two_eq_zero_or_one (m / 2 ^ i) with h | h <;> simp [h]
 rw [key];by_cases hij:i=j
 ·subst hij;cases h:m.testBit i <;> simp
 ·cases h:m.testBit i <;> simp [hij]
theorem JK {a:Int} (ha:0<=a) (i:Nat):((a.toNat &&& 2 ^ i:Nat):Int)=a / 2 ^ i % 2 * 2 ^ i:=by
 obtain ⟨m,rfl⟩:=Int.eq_ofNat_of_zero_le ha;rw [Int.toNat_natCast,yV]
 push_cast
 rfl
theorem bh {α:Type} {xs:List α} (d:α) {i:Int} (h0:0<=i) (h:i<(xs.length:Int)):xs.drop i.toNat=xs.getD i.toNat d::xs.drop (i+1).toNat:=by
 have hi:i.toNat<xs.length:=by omega
 rw [List.drop_eq_getElem_cons hi,show (i+1).toNat=i.toNat+1 by omega];simp [hi]
theorem b7 {α:Type} {xs:List α} {i:Int} (h:¬ i<(xs.length:Int)):xs.drop i.toNat=[]:=by
 rw [List.drop_eq_nil_iff]; omega
theorem bB {α:Type} {xs:List α} (d:α) {i:Int} (h0:0<=i) (h:i<(xs.length:Int)):xs.take (i+1).toNat=xs.take i.toNat++[xs.getD i.toNat d]:=by
 have hi:i.toNat<xs.length:=by omega
 rw [show (i+1).toNat=i.toNat+1 by omega,List.take_succ_eq_append_getElem hi];simp [hi]
theorem cA {α:Type} {xs:List α} {i:Int} (h:¬ i<(xs.length:Int)):xs.take i.toNat=xs:=by
 rw [List.take_of_length_le]; omega
theorem aH {α:Type} {xs:List α} (d:α) {i:Int} (h0:0<=i) (h:i<(xs.length:Int)):xs.getD i.toNat d∈xs:=by
 have hi:i.toNat<xs.length:=by omega
 simp [hi]
end
section
open Go
set_option maxRecDepth 100000
set_option maxHeartbeats 1000000
theorem Gw {α:Type} {a b:List α} {z:α} {i:Nat} (hl:a.length=b.length) (hi:i<a.length) (ht:a.take i=b.take i) (he:a.getD i z=b.getD i z):a.take (i+1)=b.take (i+1):=by
 rw [List.take_succ_eq_append_getElem hi,List.take_succ_eq_append_getElem (by omega),ht];have h1:a.getD i z=a[i]:=by simp [hi]
 have h2:b.getD i z=b[i]'(by omega):=by simp [show i<b.length by omega]
 rw [<- h1,<- h2,he]
end
section
open Go
set_option maxRecDepth 100000
set_option maxHeartbeats 1000000
def df (L:Nat) (n:Int) (ks:List Int):Bool:=ks.any fun k=>decide (n<0)||decide (k<0)||decide (k > (L:Int))||decide (n > (L:Int) - k)
def em (L:Nat) (n:Int) (ks:List Int):Int:=if 256<L then 2 else if df L n ks then 4 else 0
def ML (a:List Int) (i:Nat):Int:=a.getD (i / 8) 0 / 256 ^ (i % 8) % 256
def LK (a:List Int) (n:Nat):List Int:=(List.range n).map (ML a)
def bytesOf (a:List Int):List Int:=LK a (8 * a.length)
def zP:Nat->Option LoopGen
 | 4=>some { rd:=[.dat 2 (.arr ty_I),.dat 1 ty_I,.dat 0 (.arr bj)],A:=fun (ks,n,a)=>{ cs:=[.dat 14 ty_I],inv:=fun (i:Int)=>0<=i/\i<=(ks:List Int).length/\(a:List Int).length<=256/\df (a:List Int).length n ((ks:List Int).drop i.toNat)=df (a:List Int).length n ks,mu:=fun (i:Int)=>((ks:List Int).length - i).toNat } }
 | _=>none
def yk:Spec:={ Ts:=[.arr bj,ty_I,.arr ty_I],Rs:=[.dat ty_I],pre:=fun _=>True,F:=fun ((a,n,ks):List Int×Int×List Int)=>em a.length n ks }
def oJ:Prop :=
  ∀ (x:List Int×Int×List Int),((x.1.length * 8<=aJ/\∀ (x_1:Int),x_1∈x.1->am .u64 x_1)/\am .i64 x.2.1/\x.2.2.length * 8<=aJ/\∀ (x_1:Int),x_1∈x.2.2->am .i64 x_1)->True->(decide (256<(x.1.length:Int))=true->2=em x.1.length x.2.1 x.2.2/\True)/\(decide (256<(x.1.length:Int))=false->((0:Int)<=0/\0<=(x.2.2.length:Int)/\x.1.length<=256/\df x.1.length x.2.1 (List.drop (Int.toNat 0) x.2.2)=df x.1.length x.2.1 x.2.2)/\∀ (x_1:Int),0<=x_1/\x_1<=(x.2.2.length:Int)/\x.1.length<=256/\df x.1.length x.2.1 (List.drop x_1.toNat x.2.2)=df x.1.length x.2.1 x.2.2->(decide (x_1<(x.2.2.length:Int))=true->0<=x_1/\x_1<(x.2.2.length:Int)/\((decide (x.2.1<0)||decide (x.2.2.getD x_1.toNat (0:Int)<0)||decide ((x.1.length:Int)<x.2.2.getD x_1.toNat 0))=false->am .i64 ((x.1.length:Int) - x.2.2.getD x_1.toNat 0))/\((decide (x.2.1<0)||decide (x.2.2.getD x_1.toNat (0:Int)<0)||decide ((x.1.length:Int)<x.2.2.getD x_1.toNat 0)||decide ((x.1.length:Int) - x.2.2.getD x_1.toNat 0<x.2.1))=true->4=em x.1.length x.2.1 x.2.2/\True)/\((decide (x.2.1<0)||decide (x.2.2.getD x_1.toNat (0:Int)<0)||decide ((x.1.length:Int)<x.2.2.getD x_1.toNat 0)||decide ((x.1.length:Int) - x.2.2.getD x_1.toNat 0<x.2.1))=false->am .i64 (x_1+1)/\(0<=x_1+1/\x_1+1<=(x.2.2.length:Int)/\x.1.length<=256/\df x.1.length x.2.1 (List.drop (x_1+1).toNat x.2.2)=df x.1.length x.2.1 x.2.2)/\((x.2.2.length:Int) - (x_1+1)).toNat<((x.2.2.length:Int) - x_1).toNat))/\(decide (x_1<(x.2.2.length:Int))=false->0=em x.1.length x.2.1 x.2.2/\True))
theorem vg:oJ:=by
 unfold oJ;intro ⟨a,n,ks⟩ ⟨⟨ha,_⟩,⟨_,_⟩,hk,hks⟩ _;unfold em aJ at *;refine ⟨fun h=>?_,fun h=>⟨⟨by omega,by grind,by grind,by simp⟩,fun i ⟨h0,h1,h2,h3⟩=>⟨fun hlt=>?_,fun hge=>?_⟩⟩⟩
 ·grind
 ·have hlt:i<(ks.length:Int):=by simpa using hlt
  have e:=bh (0:Int) h0 hlt;have hm:=hks _ (aH (0:Int) h0 hlt);simp only [e] at h3;simp only [df,List.any_cons,am] at *
  grind
 ·rw [b7 (by simpa using hge)] at h3;simp only [df,List.any_nil] at *
  grind
theorem yP:yk.ok Tryz.prog 253:=aD (ann:=zP) ap Tryz.func253 (by kernel_rfl) vg
end
section
open Go
set_option maxRecDepth 100000
set_option maxHeartbeats 1000000
def vG:Spec:={ Ts:=[.arr bj],Rs:=[.own 45 bj],pre:=fun _=>True,F:=fun (x:List Int)=>x }
def nc:Prop :=
  ∀ (x:List Int),(x.length * 8<=aJ/\∀ (x_1:Int),x_1∈x->am .u64 x_1)->True->(x=([]:List Int)->([]:List Int)=x/\True)/\(True->(0+x.length) * 8<=aJ/\([]:List Int)++x=x/\True)
theorem sO:nc:=by
 unfold nc;intro x ⟨hb,_⟩ _;simp [hb]
theorem bI:vG.ok Tryz.prog 94:=aD (ann:=co) ap Tryz.func94 (by kernel_rfl) sO
def kF (L at_ n:Int):Bool:=decide (0<=n)&&decide (0<=at_)&&decide (at_<=L)&&decide (n<=L - at_)
theorem Aw (L:Nat) (n k:Int):em L n [k]=if 256<L then 2 else if kF L k n=true then 0 else 4:=by
 simp only [em,df,kF,List.any_cons,List.any_nil]
 grind
theorem m6 (L k n:Int):kF L k n=true ↔ 0<=n/\0<=k/\k<=L/\n<=L - k:=by
 simp [kF,and_assoc]
def o7 (n:Int):List Int×Int:=if n<0\/256<n then ([],4) else (List.replicate n.toNat 0,0)
def DI:Spec:={ Ts:=[ty_I],Rs:=[.own 45 bj,.dat ty_I],pre:=fun _=>True,F:=o7 }
def tz:Prop :=
  ∀ (x:Int),am .i64 x->True->((decide (x<0)||decide (256<x))=true->([]:List Int)=(o7 x).1/\4=(o7 x).2/\True)/\((decide (x<0)||decide (256<x))=false->0<=x/\x.toNat * 8<=aJ/\List.replicate x.toNat (0:Int)=(o7 x).1/\0=(o7 x).2/\True)
theorem z7:tz:=by
 unfold tz;intro n hw _;simp only [am,o7,aJ] at *
 grind
theorem Ed:DI.ok Tryz.prog 54:=aD (ann:=co) ap Tryz.func54 (by kernel_rfl) z7
def lK (a:List Int) (t:Nat) (ys:List Int) (k:Nat):List Int:=a.take t++(ys.take k++a.drop (t+k))
def eB (a:List Int) (at_ n v:Int) (k:Int):List Int:=lK a at_.toNat (List.replicate n.toNat v) k.toNat
theorem D8 (a:List Int) (t:Nat) (ys:List Int):lK a t ys 0=a:=by simp [lK]
theorem yL (a:List Int) (t:Nat) (ys:List Int) (k:Nat) (h:t+ys.length<=a.length) (hk:k<=ys.length):(lK a t ys k).length=a.length:=by
 simp [lK]; omega
theorem Hd (a:List Int) (t:Nat) (ys:List Int) (k:Nat) (v:Int) (h:t+ys.length<=a.length) (hk:k<ys.length) (hv:ys.getD k 0=v):(lK a t ys k).set (t+k) v=lK a t ys (k+1):=by
 have hv:v=ys[k]:=by rw [<- hv]; simp [hk]
 subst hv;unfold lK;have l1:(a.take t).length=t:=by simp; omega
 have l2:(ys.take k).length=k:=by simp; omega
 rw [List.set_append_right _ _ (by omega),l1,List.set_append_right _ _ (by omega),l2,show t+k - t - k=0 by omega,List.drop_eq_getElem_cons (show t+k<a.length by omega),List.set_cons_zero,
  List.take_succ_eq_append_getElem hk,show t+(k+1)=t+k+1 by omega,List.append_assoc]
 rfl
theorem EF (a:List Int) (at_ n v:Int):eB a at_ n v 0=a:=D8 _ _ _
theorem EG (a:List Int) (at_ n v k:Int) (h0:0<=at_) (h1:at_+n<=a.length) (k0:0<=k) (k1:k<n):(eB a at_ n v k).set (at_+k).toNat v=eB a at_ n v (k+1):=by
 unfold eB;rw [show (at_+k).toNat=at_.toNat+k.toNat by omega,show (k+1).toNat=k.toNat+1 by omega];exact Hd _ _ _ _ _ (by simp; omega) (by simp; omega) (by simp [show k.toNat<n.toNat by omega])
theorem fJ (a:List Int) (at_ n v k:Int) (h0:0<=at_) (h1:at_+n<=a.length) (k0:0<=k) (k1:k<=n):(eB a at_ n v k).length=a.length :=
 yL _ _ _ _ (by simp; omega) (by simp; omega)
def gZ (a:List Int) (at_ n v:Int):List Int×Int:=if em a.length n [at_]=0 then (eB a at_ n v n,0) else ([],em a.length n [at_])
def CQ:Nat->Option LoopGen
 | 6=>some { rd:=[.dat 0 (.arr bj),.dat 1 ty_I,.dat 2 ty_I,.dat 3 bj],wr:=[11],A:=fun ((a,at_,n,v):List Int×Int×Int×Int)=>{ cs:=[.own 11 45 bj,.dat 24 ty_I],inv:=fun ((out,k):List Int×Int)=>0<=k/\k<=n/\0<=at_/\at_+n<=a.length/\a.length<=256/\out=eB a at_ n v k,mu:=fun ((_,k):List Int×Int)=>(n - k).toNat } }
 | _=>none
def AC:Spec:={ Ts:=[.arr bj,ty_I,ty_I,bj],Rs:=[.own 45 bj,.dat ty_I],pre:=fun _=>True,F:=fun ((a,at_,n,v):List Int×Int×Int×Int)=>gZ a at_ n v }
def qX:Prop :=
  ∀ (x:List Int×Int×Int×Int),(x.1.length * 8<=aJ/\∀ (x_1:Int),x_1∈x.1->am .u64 x_1)/\am .i64 x.2.1/\am .i64 x.2.2.1/\am .u64 x.2.2.2->True->True/\(decide (em x.1.length x.2.2.1 [x.2.1]≠0)=true->([]:List Int)=(gZ x.1 x.2.1 x.2.2.1 x.2.2.2).1/\em x.1.length x.2.2.1 [x.2.1]=(gZ x.1 x.2.1 x.2.2.1 x.2.2.2).2/\True)/\(decide (em x.1.length x.2.2.1 [x.2.1]≠0)=false->True/\((0:Int)<=0/\0<=x.2.2.1/\0<=x.2.1/\x.2.1+x.2.2.1<=(x.1.length:Int)/\x.1.length<=256/\x.1=eB x.1 x.2.1 x.2.2.1 x.2.2.2 0)/\∀ (x_1:List Int×Int),0<=x_1.2/\x_1.2<=x.2.2.1/\0<=x.2.1/\x.2.1+x.2.2.1<=(x.1.length:Int)/\x.1.length<=256/\x_1.1=eB x.1 x.2.1 x.2.2.1 x.2.2.2 x_1.2->(decide (x_1.2<x.2.2.1)=true->am .i64 (x.2.1+x_1.2)/\0<=x.2.1+x_1.2/\x.2.1+x_1.2<(x_1.1.length:Int)/\(x.2.1+x_1.2).toNat<x_1.1.length/\am .i64 (x_1.2+1)/\(0<=x_1.2+1/\x_1.2+1<=x.2.2.1/\0<=x.2.1/\x.2.1+x.2.2.1<=(x.1.length:Int)/\x.1.length<=256/\x_1.1.set (x.2.1+x_1.2).toNat x.2.2.2=eB x.1 x.2.1 x.2.2.1 x.2.2.2 (x_1.2+1))/\(x.2.2.1 - (x_1.2+1)).toNat<(x.2.2.1 - x_1.2).toNat)/\(decide (x_1.2<x.2.2.1)=false->x_1.1=(gZ x.1 x.2.1 x.2.2.1 x.2.2.2).1/\0=(gZ x.1 x.2.1 x.2.2.1 x.2.2.2).2/\True))
theorem xI:qX:=by
 unfold qX;intro ⟨a,at_,n,v⟩ ⟨⟨ha,_⟩,h1,h2,_⟩ _;simp only [gZ,Aw] at *;by_cases cl:256<a.length
 ·simp [cl]
 by_cases ok:kF a.length at_ n=true
 ·obtain ⟨o1,o2,o3,o4⟩:=(m6 _ _ _).1 ok;simp only [cl,ok,if_true,if_false];refine ⟨trivial,fun h=>by simp at h,fun _=>⟨trivial,⟨by omega,o1,o2,by omega,by omega,(EF _ _ _ _).symm⟩,fun ⟨out,k⟩ ⟨k0,k1,_,q1,q2,q3⟩=>⟨fun hk=>?_,fun hk=>?_⟩⟩⟩
  ·have hk:k<n:=by simpa using hk
   simp only at *;have hl:out.length=a.length:=by rw [q3]; exact fJ _ _ _ _ _ o2 q1 k0 k1
   refine ⟨by simp only [am]; omega,by omega,by omega,by omega,by simp only [am]; omega,⟨by omega,by omega,o2,q1,q2,?_⟩,by omega⟩;rw [q3];exact EG _ _ _ _ _ o2 q1 k0 hk
  ·have hk:¬ k<n:=by simpa using hk
   simp only at *;have:k=n:=by omega
   subst this;simp [q3]
 ·simp [cl,ok]
theorem mh:AC.ok Tryz.prog 218:=aD (ann:=CQ) (ae yP (ae bI ap)) Tryz.func218 (by kernel_rfl) xI
end
section
open Go
def ag {α:Type} (f:α->Bool):Int->List α->Int
 | _,[]=>-1
 | k,x::l=>if f x then k else ag f (k+1) l
theorem eA {α:Type} (f:α->Bool):∀ (l:List α) (k:Int),ag f k l=-1\/(k<=ag f k l/\ag f k l<k+l.length)
 | [],_=>.inl rfl
 | x::l,k=>by
  have ih:=eA f l (k+1);simp only [ag,List.length_cons];split
  ·right; omega
  ·rcases ih with h | h
   ·exact .inl h
   ·right; omega
theorem dW {α:Type} (f:α->Bool) (_:α) (l:List α) (k:Int) (_:0<=k):ag f k l<k+l.length:=by
 rcases eA f l k with h | h <;> omega
theorem dX {α:Type} (f:α->Bool) (d:α):∀ (l:List α) (k:Int),0<=ag f k l->0<=k->f (l.getD (ag f k l - k).toNat d)=true
 | [],_,h,_=>by simp [ag] at h
 | x::l,k,h,hk=>by
  have hr:=eA f l (k+1);have ih:=dX f d l (k+1);simp only [ag] at h ⊢;split at h
  ·rename_i hx;rw [if_pos hx];simpa using hx
  ·rename_i hx;rw [if_neg hx];have:=ih h (by omega);rw [show (ag f (k+1) l - k).toNat=(ag f (k+1) l - (k+1)).toNat+1 by omega];simpa using this
theorem cS {α:Type} (f:α->Bool):∀ (l:List α) (k:Int),0<=k->(decide (0<=ag f k l)=l.any f)
 | [],_,_=>rfl
 | x::l,k,h=>by
  have ih:=cS f l (k+1) (by omega);simp only [ag,List.any_cons];by_cases hx:f x=true
  ·simp [hx,h]
  ·have hx:f x=false:=by simpa using hx
   simp only [hx,Bool.false_eq_true,if_false,Bool.false_or];exact ih
end
section
open Go
set_option maxRecDepth 100000
set_option maxHeartbeats 1000000
abbrev dZ:=Int×Int×Int×Bool
def aa (h:dZ):Int:=1+h.1+h.2.1
def af (h:dZ):Int :=
 if h.1<0\/256<h.1\/h.2.1<0\/256<h.2.1\/h.2.2.1<0\/65535<h.2.2.1 then 4
 else if h.2.2.2=true/\(h.1≠0\/h.2.2.1≠0) then 3
 else if 256<aa h then 2 else 0
def aB (h:dZ):Int:=h.1+65536 * h.2.1+4294967296 * h.2.2.1+(if h.2.2.2 then 281474976710656 else 0)
def aU (v:Int):dZ:=(v % 65536,v / 65536 % 65536,v / 4294967296 % 65536,decide (v / 281474976710656=1))
def ba (v:Int):Bool:=v / 281474976710656<=1&&af (aU v) == 0
def bH:dZ:=(0,0,0,false)
theorem aW {h:dZ} (h0:af h=0):0<=h.1/\0<=h.2.1/\0<=h.2.2.1/\h.2.2.1<=65535/\1+h.1+h.2.1<=256/\(h.2.2.2=true->h.1=0/\h.2.2.1=0):=by
 grind [af,aa]
theorem vT {h:dZ} (h0:af h=0) :
  (↑((IntKind.u64.wrap h.1).toNat ||| (IntKind.u64.wrap (IntKind.u64.wrap h.2.1 * 2 ^ Int.toNat 16)).toNat):Int)=h.1+65536 * h.2.1 /\
  (↑((h.1+65536 * h.2.1).toNat ||| (IntKind.u64.wrap (IntKind.u64.wrap h.2.2.1 * 2 ^ Int.toNat 32)).toNat):Int)=h.1+65536 * h.2.1+4294967296 * h.2.2.1 /\
  (↑((h.1+65536 * h.2.1+4294967296 * h.2.2.1).toNat ||| Int.toNat 281474976710656):Int)=h.1+65536 * h.2.1+4294967296 * h.2.2.1+281474976710656:=by
 obtain ⟨h1,h2,h3,h4,h5,_⟩:=aW h0;rw [fO h1 (by omega),fO h2 (by omega),fO h3 (by omega)];have e1:(h.2.1 * 2 ^ Int.toNat 16)=h.2.1 * 65536:=rfl;have e2:(h.2.2.1 * 2 ^ Int.toNat 32)=h.2.2.1 * 4294967296:=rfl;rw [e1,e2,fO (by omega) (by omega),fO (by omega) (by omega)];have k1:=sz (i:=16) h1 h2 (by omega);have k2:=sz (i:=32) (a:=h.1+65536 * h.2.1) (by omega) h3 (by omega);have k3:=sz (i:=48) (a:=h.1+65536 * h.2.1+4294967296 * h.2.2.1) (b:=1) (by omega) (by omega) (by omega);refine ⟨?_,?_,?_⟩
 ·rw [show h.2.1 * 65536=h.2.1 * 2 ^ 16 from rfl,k1]; omega
 ·rw [show h.2.2.1 * 4294967296=h.2.2.1 * 2 ^ 32 from rfl,k2]; omega
 ·rw [show Int.toNat 281474976710656=((1:Int) * 2 ^ 48).toNat from rfl,k3]; rfl
theorem Cc {v:Int} (h0:0<=v) :
  (IntKind.i64.wrap ↑(v.toNat &&& Int.toNat 65535),IntKind.i64.wrap ↑((v / 2 ^ Int.toNat 16).toNat &&& Int.toNat 65535),IntKind.i64.wrap ↑((v / 2 ^ Int.toNat 32).toNat &&& Int.toNat 65535),
   decide (((v.toNat &&& Int.toNat 281474976710656:Nat):Int)≠0))=(v % 65536,v / 65536 % 65536,v / 4294967296 % 65536,decide (v / 281474976710656 % 2=1)):=by
 have e:Int.toNat 65535=2 ^ 16 - 1:=rfl;have e2:Int.toNat 281474976710656=2 ^ 48:=rfl;have e3:v / 2 ^ Int.toNat 16=v / 65536:=rfl;have e4:v / 2 ^ Int.toNat 32=v / 4294967296:=rfl;rw [e,e2,e3,e4,mn h0,mn (by omega),mn (by omega),JK h0];rw [show (2:Int) ^ 16=65536 from rfl,show (2:Int) ^ 48=281474976710656 from rfl];rw [m4 (by omega) (by omega),m4 (by omega) (by omega),m4 (by omega) (by omega)];congr 3;apply decide_eq_decide.2;omega
theorem xq {v:Int} (h1:v / 281474976710656<=1) (h0:0<=v):(v % 65536,v / 65536 % 65536,v / 4294967296 % 65536,decide (v / 281474976710656 % 2=1))=aU v:=by
 simp only [aU];congr 3;apply decide_eq_decide.2;omega
def AS:Spec:={ Ts:=[gF],Rs:=[.dat ty_I],pre:=fun (h:dZ)=>am .i64 (1+h.1)/\am .i64 (1+h.1+h.2.1),F:=aa }
def rn:Prop :=
  ∀ (x:Int×Int×Int×Bool),am .i64 x.1/\am .i64 x.2.1/\am .i64 x.2.2.1/\True->am .i64 (1+x.1)/\am .i64 (1+x.1+x.2.1)->am .i64 (1+x.1)/\am .i64 (1+x.1+x.2.1)/\1+x.1+x.2.1=aa x/\True
theorem xW:rn:=by
 unfold rn;intro x h1 h2;exact ⟨h2.1,h2.2,rfl,trivial⟩
theorem rJ:AS.ok Tryz.prog 79:=aD (ann:=co) ap Tryz.func79 (by kernel_rfl) xW
def yq:Spec:={ Ts:=[gF],Rs:=[.dat ty_I],pre:=fun _=>True,F:=af }
def oP:Prop :=
  ∀ (x:Int×Int×Int×Bool),am .i64 x.1/\am .i64 x.2.1/\am .i64 x.2.2.1/\True->True->((decide ((if x.2.2.1<if x.2.1<x.1 then x.2.1 else x.1 then x.2.2.1 else if x.2.1<x.1 then x.2.1 else x.1)<0)||decide (256<if x.1<x.2.1 then x.2.1 else x.1)||decide (65535<x.2.2.1))=true->4=af x/\True)/\((decide ((if x.2.2.1<if x.2.1<x.1 then x.2.1 else x.1 then x.2.2.1 else if x.2.1<x.1 then x.2.1 else x.1)<0)||decide (256<if x.1<x.2.1 then x.2.1 else x.1)||decide (65535<x.2.2.1))=false->((x.2.2.2&&(decide (0<x.1)||decide (0<x.2.2.1)))=true->3=af x/\True)/\((x.2.2.2&&(decide (0<x.1)||decide (0<x.2.2.1)))=false->(am .i64 (1+x.1)/\am .i64 (1+x.1+x.2.1))/\(decide (256<aa x)=true->2=af x/\True)/\(decide (256<aa x)=false->0=af x/\True)))
theorem vo:oP:=by
 unfold oP;intro x h1 _
 grind [am,af,aa]
theorem iZ:yq.ok Tryz.prog 78:=aD (ann:=co) (ae rJ ap) Tryz.func78 (by kernel_rfl) vo
def AQ:Spec:={ Ts:=[gF],Rs:=[.dat bj,.dat ty_I],pre:=fun _=>True,F:=fun (h:dZ)=>((if af h=0 then aB h else 0,af h):Int×Int) }
def rl:Prop :=
  ∀ (x:Int×Int×Int×Bool),am .i64 x.1/\am .i64 x.2.1/\am .i64 x.2.2.1/\True->True->True/\(decide (af x≠0)=true->((0:Int)=if af x=0 then aB x else (0:Int))/\af x=af x/\True)/\(decide (af x≠0)=false->(0:Int)<=16/\16<(↑IntKind.u64.bits:Int)/\(0:Int)<=32/\32<(↑IntKind.u64.bits:Int)/\(x.2.2.2=true->((↑((↑((↑((IntKind.u64.wrap x.1).toNat ||| (IntKind.u64.wrap (IntKind.u64.wrap x.2.1 * 2 ^ Int.toNat 16)).toNat):Int).toNat ||| (IntKind.u64.wrap (IntKind.u64.wrap x.2.2.1 * 2 ^ Int.toNat 32)).toNat):Int).toNat ||| Int.toNat 281474976710656):Int)=if af x=0 then aB x else (0:Int))/\0=af x/\True)/\(x.2.2.2=false->((↑((↑((IntKind.u64.wrap x.1).toNat ||| (IntKind.u64.wrap (IntKind.u64.wrap x.2.1 * 2 ^ Int.toNat 16)).toNat):Int).toNat ||| (IntKind.u64.wrap (IntKind.u64.wrap x.2.2.1 * 2 ^ Int.toNat 32)).toNat):Int)=if af x=0 then aB x else (0:Int))/\0=af x/\True))
theorem xU:rl:=by
 unfold rl;intro x hw _;refine ⟨trivial,fun h=>?_,fun h=>?_⟩
 ·have:af x≠0:=by simpa using h
  simp [this]
 ·have h0:af x=0:=by simpa using h
  obtain ⟨b1,b2,b3⟩:=vT h0;refine ⟨by decide,by decide,by decide,by decide,fun hf=>?_,fun hf=>?_⟩
  ·rw [b1,b2,b3,if_pos h0,h0];exact ⟨by simp [aB,hf],rfl,trivial⟩
  ·rw [b1,b2,if_pos h0,h0];exact ⟨by simp [aB,hf],rfl,trivial⟩
theorem iz:AQ.ok Tryz.prog 56:=aD (ann:=co) (ae iZ ap) Tryz.func56 (by kernel_rfl) xU
def yp:Spec:={ Ts:=[gF],Rs:=[.dat ty_I,.dat ty_I],pre:=fun _=>True,F:=fun (h:dZ)=>((if af h=0 then aa h else 0,af h):Int×Int) }
def oO:Prop :=
  ∀ (x:Int×Int×Int×Bool),am .i64 x.1/\am .i64 x.2.1/\am .i64 x.2.2.1/\True->True->True/\(decide (af x≠0)=true->((0:Int)=if af x=0 then aa x else (0:Int))/\af x=af x/\True)/\(decide (af x≠0)=false->(am .i64 (1+x.1)/\am .i64 (1+x.1+x.2.1))/\(aa x=if af x=0 then aa x else (0:Int))/\0=af x/\True)
theorem vn:oO:=by
 unfold oO;intro x hw _;refine ⟨trivial,fun h=>?_,fun h=>?_⟩
 ·have:af x≠0:=by simpa using h
  simp [this]
 ·have h0:af x=0:=by simpa using h
  obtain ⟨b1,b2,b3,b4,b5,_⟩:=aW h0;simp only [am,h0,if_true,and_true];omega
theorem iY:yp.ok Tryz.prog 20:=aD (ann:=co) (ae iZ (ae rJ ap)) Tryz.func20 (by kernel_rfl) vn
def AR:Spec:={ Ts:=[bj],Rs:=[.dat gF,.dat ty_I],pre:=fun _=>True,F:=fun (v:Int)=>((if ba v then aU v else bH,if ba v then 0 else 3):dZ×Int) }
def rm:Prop :=
  ∀ (x:Int),am .u64 x->True->(0:Int)<=16/\16<(↑IntKind.u64.bits:Int)/\(0:Int)<=32/\32<(↑IntKind.u64.bits:Int)/\(0:Int)<=49/\49<(↑IntKind.u64.bits:Int)/\(decide (x / 2 ^ Int.toNat (49:Int)≠0)=false->True)/\((decide (x / 2 ^ Int.toNat (49:Int)≠0)||decide (af (IntKind.i64.wrap (↑(x.toNat &&& Int.toNat 65535):Int),IntKind.i64.wrap (↑((x / 2 ^ Int.toNat 16).toNat &&& Int.toNat 65535):Int),IntKind.i64.wrap (↑((x / 2 ^ Int.toNat 32).toNat &&& Int.toNat 65535):Int),decide ((↑(x.toNat &&& Int.toNat 281474976710656):Int)≠0))≠0))=true->((0,0,0,false)=if ba x=true then aU x else bH)/\((3:Int)=if ba x=true then (0:Int) else (3:Int))/\True)/\((decide (x / 2 ^ Int.toNat (49:Int)≠0)||decide (af (IntKind.i64.wrap (↑(x.toNat &&& Int.toNat 65535):Int),IntKind.i64.wrap (↑((x / 2 ^ Int.toNat 16).toNat &&& Int.toNat 65535):Int),IntKind.i64.wrap (↑((x / 2 ^ Int.toNat 32).toNat &&& Int.toNat 65535):Int),decide ((↑(x.toNat &&& Int.toNat 281474976710656):Int)≠0))≠0))=false->((IntKind.i64.wrap (↑(x.toNat &&& Int.toNat 65535):Int),IntKind.i64.wrap (↑((x / 2 ^ Int.toNat 16).toNat &&& Int.toNat 65535):Int),IntKind.i64.wrap (↑((x / 2 ^ Int.toNat 32).toNat &&& Int.toNat 65535):Int),decide ((↑(x.toNat &&& Int.toNat 281474976710656):Int)≠0))=if ba x=true then aU x else bH)/\((0:Int)=if ba x=true then (0:Int) else (3:Int))/\True)
theorem xV:rm:=by
 unfold rm;intro x hw _;have hx:0<=x:=hw.1;rw [Cc hx,show x / 2 ^ Int.toNat 49=x / 562949953421312 from rfl];refine ⟨by decide,by decide,by decide,by decide,by decide,by decide,fun _=>trivial,fun h=>?_,fun h=>?_⟩
 ·have:ba x=false:=by
   rcases Int.lt_or_le 1 (x / 281474976710656) with h1 | h1
   ·simp [ba,show ¬ x / 281474976710656<=1 by omega]
   ·rw [xq h1 hx] at h;have e:x / 562949953421312=0:=by omega
    simp only [e,ne_eq,not_true_eq_false,decide_false,Bool.false_or,decide_eq_true_eq] at h;simp [ba,h]
  simp [this,bH]
 ·have h1:x / 281474976710656<=1:=by
   have:x / 562949953421312=0:=by
    apply Classical.byContradiction;intro hne;simp [hne] at h
   omega
  rw [xq h1 hx] at h ⊢
  have:ba x=true:=by
   simp only [Bool.or_eq_false_iff,decide_eq_false_iff_not,ne_eq,Classical.not_not] at h;simp [ba,h1,h.2]
  simp [this]
theorem BW:AR.ok Tryz.prog 222:=aD (ann:=co) (ae iZ ap) Tryz.func222 (by kernel_rfl) xV
end
section
open Go
set_option maxRecDepth 100000
set_option maxHeartbeats 1000000
abbrev cF:Ty:=.pair ty_I gF
abbrev au:=Int×dZ
theorem dU {v:Int} (h:ba v=true):1<=aa (aU v)/\aa (aU v)<=256:=by
 simp only [ba,Bool.and_eq_true,beq_iff_eq] at h;have:=aW h.2;unfold aa;omega
def spotsS (at_:Int) (l:List Int):Option (List au) :=
 match l with
 | []=>some []
 | v::r=>if _h:ba v=true/\aa (aU v)<=((v::r).length:Int) then (spotsS (at_+aa (aU v)) ((v::r).drop (aa (aU v)).toNat)).map ((at_,aU v)::·) else none
termination_by l.length
decreasing_by
 have:=dU _h.1;simp only [List.length_drop,List.length_cons];omega
def ac (a:List Int):List au×Int:=if 256<a.length then ([],2) else match spotsS 0 a with
 | none=>([],3)
 | some l=>(l,0)
theorem cL {at_:Int} {v:Int} {r:List Int} (h:ba v=true) (h2:aa (aU v)<=((v::r).length:Int)) :
  spotsS at_ (v::r)=(spotsS (at_+aa (aU v)) ((v::r).drop (aa (aU v)).toNat)).map ((at_,aU v)::·):=by
 rw [spotsS,dif_pos ⟨h,h2⟩]
theorem eH {at_:Int} {v:Int} {r:List Int} (h:¬ (ba v=true/\aa (aU v)<=((v::r).length:Int))):spotsS at_ (v::r)=none:=by
 rw [spotsS,dif_neg h]
theorem pX (at_:Int) (l:List Int) (r:List au) (h:spotsS at_ l=some r):∀ s∈r,at_<=s.1/\s.1+aa s.2<=at_+l.length/\af s.2=0:=by
 induction at_,l using spotsS.induct generalizing r with
 | case1 at_ =>
  simp only [spotsS,Option.some.injEq] at h;subst h;simp
 | case2 at_ v l hv ih =>
  rw [cL hv.1 hv.2] at h;obtain ⟨r',hr,rfl⟩:=Option.map_eq_some_iff.1 h;have hl:=dU hv.1
  have hf:af (aU v)=0:=by
   have:=hv.1;simp only [ba,Bool.and_eq_true,beq_iff_eq] at this;exact this.2
  intro s hs;rcases List.mem_cons.1 hs with rfl | hs
  ·have:=hv.2;exact ⟨by simp,by simp only; omega,hf⟩
  ·obtain ⟨h1,h2,h3⟩:=ih r' hr s hs;rw [List.length_drop] at h2;have:=hv.2;exact ⟨by omega,by omega,h3⟩
 | case3 at_ v l hv =>
  rw [eH hv] at h;cases h
theorem vA (at_:Int) (l:List Int) (r:List au) (h:spotsS at_ l=some r):r.length<=l.length:=by
 induction at_,l using spotsS.induct generalizing r with
 | case1 at_ =>
  simp only [spotsS,Option.some.injEq] at h;subst h;simp
 | case2 at_ v l hv ih =>
  rw [cL hv.1 hv.2] at h;obtain ⟨r',hr,rfl⟩:=Option.map_eq_some_iff.1 h;have hl:=dU hv.1;have:=ih r' hr;rw [List.length_drop] at this;simp only [List.length_cons] at *;omega
 | case3 at_ v l hv =>
  rw [eH hv] at h;cases h
theorem eY (a:List Int):(ac a).1.length<=256:=by
 unfold ac;split
 ·simp
 ·cases e:spotsS 0 a with
  | none=>simp
  | some l =>
   have:=vA 0 a l e;simp only;omega
def zO:Nat->Option LoopGen
 | 5=>some { rd:=[.dat 0 (.arr bj)],A:=fun (a:List Int)=>{ cs:=[.own 4 202 cF,.dat 5 ty_I],inv:=fun ((out,at_):List au×Int)=>a.length<=256/\0<=at_/\at_<=a.length/\out.length<=at_/\spotsS 0 a=(spotsS at_ (a.drop at_.toNat)).map (out++·),mu:=fun ((_,at_):List au×Int)=>(a.length - at_).toNat } }
 | _=>none
def yi:Spec:={ Ts:=[.arr bj],Rs:=[.own 202 cF,.dat ty_I],pre:=fun _=>True,F:=ac }
def oH:Prop :=
  ∀ (x:List Int),(x.length * 8<=aJ/\∀ (x_1:Int),x_1∈x->am .u64 x_1)->True->(decide (256<(x.length:Int))=true->([]:List (Int×Int×Int×Int×Bool))=(ac x).1/\2=(ac x).2/\True)/\(decide (256<(x.length:Int))=false->(x.length<=256/\(0:Int)<=0/\0<=(x.length:Int)/\(↑(0:Nat):Int)<=0/\spotsS 0 x=Option.map (fun (x:List au)=>([]:List (Int×Int×Int×Int×Bool))++x) (spotsS 0 (List.drop (Int.toNat 0) x)))/\∀ (x_1:List (Int×Int×Int×Int×Bool)×Int),x.length<=256/\0<=x_1.2/\x_1.2<=(x.length:Int)/\(x_1.1.length:Int)<=x_1.2/\spotsS 0 x=Option.map (fun (x:List au)=>x_1.1++x) (spotsS x_1.2 (List.drop x_1.2.toNat x))->(decide (x_1.2<(x.length:Int))=true->0<=x_1.2/\x_1.2<(x.length:Int)/\True/\True/\(decide ((if ba (x.getD x_1.2.toNat 0)=true then (0:Int) else (3:Int))≠0)=false->am .i64 ((x.length:Int) - x_1.2))/\((decide ((if ba (x.getD x_1.2.toNat 0)=true then (0:Int) else (3:Int))≠0)||decide ((x.length:Int) - x_1.2<if af (if ba (x.getD x_1.2.toNat 0)=true then aU (x.getD x_1.2.toNat 0) else bH)=0 then aa (if ba (x.getD x_1.2.toNat 0)=true then aU (x.getD x_1.2.toNat 0) else bH) else (0:Int)))=true->([]:List (Int×Int×Int×Int×Bool))=(ac x).1/\3=(ac x).2/\True)/\((decide ((if ba (x.getD x_1.2.toNat 0)=true then (0:Int) else (3:Int))≠0)||decide ((x.length:Int) - x_1.2<if af (if ba (x.getD x_1.2.toNat 0)=true then aU (x.getD x_1.2.toNat 0) else bH)=0 then aa (if ba (x.getD x_1.2.toNat 0)=true then aU (x.getD x_1.2.toNat 0) else bH) else (0:Int)))=false->(x_1.1.length+[(x_1.2,if ba (x.getD x_1.2.toNat 0)=true then aU (x.getD x_1.2.toNat 0) else bH)].length) * (8+(8+(8+(8+8))))<=aJ/\am .i64 (x_1.2+if af (if ba (x.getD x_1.2.toNat 0)=true then aU (x.getD x_1.2.toNat 0) else bH)=0 then aa (if ba (x.getD x_1.2.toNat 0)=true then aU (x.getD x_1.2.toNat 0) else bH) else (0:Int))/\(x.length<=256/\(0<=x_1.2+if af (if ba (x.getD x_1.2.toNat 0)=true then aU (x.getD x_1.2.toNat 0) else bH)=0 then aa (if ba (x.getD x_1.2.toNat 0)=true then aU (x.getD x_1.2.toNat 0) else bH) else (0:Int))/\(x_1.2+if af (if ba (x.getD x_1.2.toNat 0)=true then aU (x.getD x_1.2.toNat 0) else bH)=0 then aa (if ba (x.getD x_1.2.toNat 0)=true then aU (x.getD x_1.2.toNat 0) else bH) else (0:Int))<=(x.length:Int)/\((↑(x_1.1++[(x_1.2,if ba (x.getD x_1.2.toNat 0)=true then aU (x.getD x_1.2.toNat 0) else bH)]).length:Int)<=x_1.2+if af (if ba (x.getD x_1.2.toNat 0)=true then aU (x.getD x_1.2.toNat 0) else bH)=0 then aa (if ba (x.getD x_1.2.toNat 0)=true then aU (x.getD x_1.2.toNat 0) else bH) else (0:Int))/\spotsS 0 x=Option.map (fun (x_2:List au)=>x_1.1++[(x_1.2,if ba (x.getD x_1.2.toNat 0)=true then aU (x.getD x_1.2.toNat 0) else bH)]++x_2) (spotsS (x_1.2+if af (if ba (x.getD x_1.2.toNat 0)=true then aU (x.getD x_1.2.toNat 0) else bH)=0 then aa (if ba (x.getD x_1.2.toNat 0)=true then aU (x.getD x_1.2.toNat 0) else bH) else (0:Int)) (List.drop (x_1.2+if af (if ba (x.getD x_1.2.toNat 0)=true then aU (x.getD x_1.2.toNat 0) else bH)=0 then aa (if ba (x.getD x_1.2.toNat 0)=true then aU (x.getD x_1.2.toNat 0) else bH) else (0:Int)).toNat x)))/\((x.length:Int) - (x_1.2+if af (if ba (x.getD x_1.2.toNat 0)=true then aU (x.getD x_1.2.toNat 0) else bH)=0 then aa (if ba (x.getD x_1.2.toNat 0)=true then aU (x.getD x_1.2.toNat 0) else bH) else (0:Int))).toNat<((x.length:Int) - x_1.2).toNat))/\(decide (x_1.2<(x.length:Int))=false->x_1.1=(ac x).1/\0=(ac x).2/\True))
theorem ve:oH:=by
 unfold oH;intro a ⟨hb,hw⟩ _;by_cases cl:256<a.length
 ·have e:ac a=([],2):=by unfold ac; rw [if_pos cl]
  simp [e];omega
 have eF:ac a=match spotsS 0 a with | none=>([],3) | some l=>(l,0):=by unfold ac; rw [if_neg cl]
 refine ⟨fun h=>by simp at h; omega,fun _=>⟨⟨by omega,by omega,by omega,by simp,by simp⟩,fun ⟨out,k⟩ ⟨_,h0,h1,h2,h3⟩=>⟨fun hlt=>?_,fun hge=>?_⟩⟩⟩
 ·have hlt:k<(a.length:Int):=by simpa using hlt
  simp only at *;rw [bh (0:Int) h0 hlt] at h3;have hdl:(((a.getD k.toNat 0::a.drop (k+1).toNat).length:Nat):Int)=a.length - k:=by rw [List.length_cons,List.length_drop]; omega
  have hdd:∀ n:Int,0<=n->(a.getD k.toNat 0::a.drop (k+1).toNat).drop n.toNat=a.drop (k+n).toNat:=fun n hn=>by
   rw [<- bh (0:Int) h0 hlt,List.drop_drop];congr 1;omega
  generalize a.getD k.toNat 0=v at *;refine ⟨h0,hlt,trivial,trivial,fun _=>by simp only [am]; omega,fun hc=>?_,fun hc=>?_⟩
  ·have hn:¬ (ba v=true/\aa (aU v)<=((v::a.drop (k+1).toNat).length:Int)):=by
    rintro ⟨g1,g2⟩
    have hf:af (aU v)=0:=by
     have:=g1;simp only [ba,Bool.and_eq_true,beq_iff_eq] at this;exact this.2
    rw [if_pos g1,if_pos g1,if_pos hf] at hc;simp at hc;omega
   rw [eH hn] at h3;rw [eF,h3];exact ⟨rfl,rfl,trivial⟩
  ·have g1:ba v=true:=by
    cases hv:ba v
    ·rw [hv] at hc; simp at hc
    ·rfl
   have hf:af (aU v)=0:=by
    have:=g1;simp only [ba,Bool.and_eq_true,beq_iff_eq] at this;exact this.2
   rw [if_pos g1,if_pos g1,if_pos hf] at hc;simp at hc;have hl:=dU g1;rw [cL g1 (by omega),hdd _ (by omega),Option.map_map] at h3;rw [if_pos g1,if_pos hf];unfold aJ;simp only [List.length_append,List.length_cons,List.length_nil,am];refine ⟨by omega,by omega,⟨by omega,by omega,by omega,by omega,?_⟩,by omega⟩;rw [h3];congr 1;funext x;simp
 ·have hge:¬ k<(a.length:Int):=by simpa using hge
  simp only at *;rw [b7 hge] at h3;simp only [spotsS,Option.map_some,List.append_nil] at h3;rw [eF,h3];exact ⟨rfl,rfl,trivial⟩
theorem iW:yi.ok Tryz.prog 161:=aD (ann:=zO) (ae BW (ae iY ap)) Tryz.func161 (by kernel_rfl) ve
def aO (a:List Int) (s:au):List Int:=(a.take (s.1+1+s.2.1).toNat).drop (s.1+1).toNat
def dg (a:List Int) (s:au):Prop:=0<=s.1/\0<=s.2.1/\0<=s.2.2.1/\s.1+1+s.2.1+s.2.2.1<=a.length
def AD:Spec:={ Ts:=[.arr bj,cF],Rs:=[.dat (.arr bj)],al:=true,pre:=fun ((a,s):List Int×au)=>a.length<=256/\dg a s,F:=fun ((a,s):List Int×au)=>aO a s }
def qY:Prop :=
  ∀ (x:List Int×Int×Int×Int×Int×Bool),(x.1.length * 8<=aJ/\∀ (x_1:Int),x_1∈x.1->am .u64 x_1)/\am .i64 x.2.1/\am .i64 x.2.2.1/\am .i64 x.2.2.2.1/\am .i64 x.2.2.2.2.1/\True->x.1.length<=256/\dg x.1 x.2->am .i64 (x.2.1+1)/\am .i64 (x.2.1+1)/\am .i64 (x.2.1+1+x.2.2.1)/\0<=x.2.1+1/\x.2.1+1<=x.2.1+1+x.2.2.1/\x.2.1+1+x.2.2.1<=(x.1.length:Int)/\List.drop (x.2.1+1).toNat (List.take (x.2.1+1+x.2.2.1).toNat x.1)=aO x.1 x.2/\True
theorem xJ:qY:=by
 unfold qY;intro ⟨a,s⟩ _ ⟨h,h1,h2,h3,h4⟩;simp only [am,aO] at *;exact ⟨by omega,by omega,by omega,by omega,by omega,by omega,trivial,trivial⟩
theorem rF:AD.ok Tryz.prog 224:=aD (ann:=co) ap Tryz.func224 (by kernel_rfl) xJ
def d7 (m:List (Int×Int)) (i:Int):List au->List (Int×Int)
 | []=>m
 | s::l=>d7 (if s.2.2.2.2=true then m else fU m (s.1+1) i) (i+1) l
def cB (l:List au):List (Int×Int):=d7 [(0,-1)] 0 l
def wl:Nat->Option LoopGen
 | 3=>some { rd:=[.dat 8 (.arr cF)],A:=fun (l:List au)=>{ cs:=[.map 6 .u64 ty_I,.dat 10 ty_I],inv:=fun ((m,i):List (Int×Int)×Int)=>0<=i/\i<=l.length/\(∀ s∈l,0<=s.1/\s.1<=256)/\d7 m i (l.drop i.toNat)=cB l,mu:=fun ((_,i):List (Int×Int)×Int)=>(l.length - i).toNat } }
 | _=>none
def vB:Spec:={ Ts:=[.arr cF],Rs:=[.map .u64 ty_I],pre:=fun (l:List au)=>∀ s∈l,0<=s.1/\s.1<=256,F:=cB }
def m7:Prop :=
  ∀ (x:List (Int×Int×Int×Int×Bool)),(x.length * (8+(8+(8+(8+8))))<=aJ/\∀ (x_1:Int×Int×Int×Int×Bool),x_1∈x->am .i64 x_1.1/\am .i64 x_1.2.1/\am .i64 x_1.2.2.1/\am .i64 x_1.2.2.2.1/\True)->(∀ (s:au),s∈x->0<=s.1/\s.1<=256)->((0:Int)<=0/\0<=(x.length:Int)/\(∀ (s:au),s∈x->0<=s.1/\s.1<=256)/\d7 (fU ([]:List (Int×Int)) 0 (-1)) 0 (List.drop (Int.toNat 0) x)=cB x)/\∀ (x_1:List (Int×Int)×Int),0<=x_1.2/\x_1.2<=(x.length:Int)/\(∀ (s:au),s∈x->0<=s.1/\s.1<=256)/\d7 x_1.1 x_1.2 (List.drop x_1.2.toNat x)=cB x->(decide (x_1.2<(x.length:Int))=true->0<=x_1.2/\x_1.2<(x.length:Int)/\((!(x.getD x_1.2.toNat (0,0,0,0,false)).2.2.2.2)=true->am .u64 (IntKind.u64.wrap (x.getD x_1.2.toNat (0,0,0,0,false)).1+1)/\am .i64 (x_1.2+1)/\(0<=x_1.2+1/\x_1.2+1<=(x.length:Int)/\(∀ (s:au),s∈x->0<=s.1/\s.1<=256)/\d7 (fU x_1.1 (IntKind.u64.wrap (x.getD x_1.2.toNat (0,0,0,0,false)).1+1) x_1.2) (x_1.2+1) (List.drop (x_1.2+1).toNat x)=cB x)/\((x.length:Int) - (x_1.2+1)).toNat<((x.length:Int) - x_1.2).toNat)/\((!(x.getD x_1.2.toNat (0,0,0,0,false)).2.2.2.2)=false->am .i64 (x_1.2+1)/\(0<=x_1.2+1/\x_1.2+1<=(x.length:Int)/\(∀ (s:au),s∈x->0<=s.1/\s.1<=256)/\d7 x_1.1 (x_1.2+1) (List.drop (x_1.2+1).toNat x)=cB x)/\((x.length:Int) - (x_1.2+1)).toNat<((x.length:Int) - x_1.2).toNat))/\(decide (x_1.2<(x.length:Int))=false->x_1.1=cB x/\True)
theorem sJ:m7:=by
 unfold m7;intro l ⟨hb,_⟩ hp;refine ⟨⟨by omega,by omega,hp,rfl⟩,fun ⟨m,i⟩ ⟨h0,h1,_,h2⟩=>⟨fun hlt=>?_,fun hge=>?_⟩⟩
 ·have hlt:i<(l.length:Int):=by simpa using hlt
  simp only at *;have hs:=hp _ (aH ((0,0,0,0,false):au) h0 hlt);rw [bh ((0,0,0,0,false):au) h0 hlt] at h2;simp only [d7] at h2;generalize l.getD i.toNat (0,0,0,0,false)=s at *;unfold aJ at hb;refine ⟨h0,hlt,fun hc=>?_,fun hc=>?_⟩
  ·have hc:¬ s.2.2.2.2=true:=by simpa using hc
   rw [if_neg hc] at h2;rw [fO (by omega) (by omega)];simp only [am];exact ⟨by omega,by omega,⟨by omega,by omega,hp,h2⟩,by omega⟩
  ·have hc:s.2.2.2.2=true:=by simpa using hc
   rw [if_pos hc] at h2;simp only [am];exact ⟨by omega,⟨by omega,by omega,hp,h2⟩,by omega⟩
 ·rw [b7 (by simpa using hge)] at h2;exact ⟨h2,trivial⟩
theorem vL:vB.ok Tryz.prog 223:=aD (ann:=wl) ap Tryz.func223 (by kernel_rfl) sJ
def gf (m:List (Int×Int)) (a:List Int) (l:List au):Bool:=l.all fun s=>(aO a s).all fun v=>(bt m v).isSome
def ak (a:List Int):List au×List (Int×Int)×Int :=
 if (ac a).2≠0 then ([],[],(ac a).2) else if gf (cB (ac a).1) a (ac a).1=true then ((ac a).1,cB (ac a).1,0) else ([],[],5)
theorem gr {a:List Int} (h:(ac a).2=0):a.length<=256/\∀ s∈(ac a).1,dg a s/\af s.2=0:=by
 unfold ac at h ⊢;split at h
 ·simp at h
 rename_i cl;rw [if_neg cl];refine ⟨by omega,?_⟩;cases e:spotsS 0 a with
 | none=>rw [e] at h; simp at h
 | some l =>
  intro s hs;obtain ⟨h1,h2,h3⟩:=pX 0 a l e s hs;have:=aW h3;unfold aa at h2;exact ⟨⟨h1,this.1,this.2.1,by omega⟩,h3⟩
def wn:Nat->Option LoopGen
 | 6=>some { rd:=[.own 24 202 cF,.dat 0 (.arr bj),.map 23 .u64 ty_I],A:=fun ((l,a,m):List au×List Int×List (Int×Int))=>{ cs:=[.dat 26 ty_I],inv:=fun (i:Int)=>0<=i/\i<=l.length/\a.length<=256/\(∀ s∈l,dg a s)/\gf m a (l.drop i.toNat)=gf m a l,mu:=fun (i:Int)=>(l.length - i).toNat } }
 | 9=>some { rd:=[.dat 32 (.arr bj),.map 23 .u64 ty_I],A:=fun ((rs,m):List Int×List (Int×Int))=>{ cs:=[.dat 34 ty_I],inv:=fun (j:Int)=>0<=j/\j<=rs.length/\((rs.drop j.toNat).all fun v=>(bt m v).isSome)=(rs.all fun v=>(bt m v).isSome),mu:=fun (j:Int)=>(rs.length - j).toNat } }
 | _=>none
def vD:Spec:={ Ts:=[.arr bj],Rs:=[.dat (.arr cF),.dat (.map .u64 ty_I),.dat ty_I],al:=true,pre:=fun _=>True,F:=ak }
def m9:Prop :=
  ∀ (x:List Int),(fun (v1:type_of% (cB (ac x).1))=>(x.length * 8<=aJ/\∀ (x_1:Int),x_1∈x->am .u64 x_1)->True->True/\(decide ((ac x).2≠0)=true->([]:List (Int×Int×Int×Int×Bool))=(ak x).1/\([]:List (Int×Int))=(ak x).2.1/\(ac x).2=(ak x).2.2/\True)/\(decide ((ac x).2≠0)=false->(∀ (s:au),s∈(ac x).1->0<=s.1/\s.1<=256)/\((0:Int)<=0/\0<=(↑(ac x).1.length:Int)/\x.length<=256/\(∀ (s:au),s∈(ac x).1->dg x s)/\gf v1 x (List.drop (Int.toNat 0) (ac x).1)=gf v1 x (ac x).1)/\∀ (x_1:Int),(fun (v0:type_of% (aO x ((ac x).1.getD x_1.toNat (0,0,0,0,false))))=>0<=x_1/\x_1<=(↑(ac x).1.length:Int)/\x.length<=256/\(∀ (s:au),s∈(ac x).1->dg x s)/\gf v1 x (List.drop x_1.toNat (ac x).1)=gf v1 x (ac x).1->(decide (x_1<(↑(ac x).1.length:Int))=true->0<=x_1/\x_1<(↑(ac x).1.length:Int)/\x_1.toNat<(ac x).1.length/\(x.length<=256/\dg x ((ac x).1.getD x_1.toNat (0,0,0,0,false)))/\((0:Int)<=0/\0<=(v0.length:Int)/\((List.drop (Int.toNat 0) v0).all fun (v:Int)=>(bt v1 v).isSome)=v0.all fun (v:Int)=>(bt v1 v).isSome)/\∀ (x_2:Int),(0<=x_2/\x_2<=(v0.length:Int)/\((List.drop x_2.toNat v0).all fun (v:Int)=>(bt v1 v).isSome)=v0.all fun (v:Int)=>(bt v1 v).isSome)->(decide (x_2<(v0.length:Int))=true->0<=x_2/\x_2<(v0.length:Int)/\((!(bt v1 (v0.getD x_2.toNat 0)).isSome)=true->([]:List (Int×Int×Int×Int×Bool))=(ak x).1/\([]:List (Int×Int))=(ak x).2.1/\5=(ak x).2.2/\True)/\((!(bt v1 (v0.getD x_2.toNat 0)).isSome)=false->am .i64 (x_2+1)/\(0<=x_2+1/\x_2+1<=(v0.length:Int)/\((List.drop (x_2+1).toNat v0).all fun (v:Int)=>(bt v1 v).isSome)=v0.all fun (v:Int)=>(bt v1 v).isSome)/\((v0.length:Int) - (x_2+1)).toNat<((v0.length:Int) - x_2).toNat))/\(decide (x_2<(v0.length:Int))=false->am .i64 (x_1+1)/\(0<=x_1+1/\x_1+1<=(↑(ac x).1.length:Int)/\x.length<=256/\(∀ (s:au),s∈(ac x).1->dg x s)/\gf v1 x (List.drop (x_1+1).toNat (ac x).1)=gf v1 x (ac x).1)/\((↑(ac x).1.length:Int) - (x_1+1)).toNat<((↑(ac x).1.length:Int) - x_1).toNat))/\(decide (x_1<(↑(ac x).1.length:Int))=false->(ac x).1=(ak x).1/\cB (ac x).1=(ak x).2.1/\0=(ak x).2.2/\True)) (aO x ((ac x).1.getD x_1.toNat (0,0,0,0,false))))) (cB (ac x).1)
theorem sL:m9:=by
 unfold m9;intro a ⟨hb,hw⟩ _;have hlen:=eY a;have hin:=gr (a:=a);have hF:ak a=if (ac a).2≠0 then ([],[],(ac a).2) else if gf (cB (ac a).1) a (ac a).1=true then ((ac a).1,cB (ac a).1,0) else ([],[],5):=rfl
 generalize cB (ac a).1=m at *;generalize (ac a).1=l at *;refine ⟨trivial,fun hc=>?_,fun hc=>?_⟩
 ·have hc:(ac a).2≠0:=by simpa using hc
  rw [hF,if_pos hc];exact ⟨rfl,rfl,rfl,trivial⟩
 have hc:(ac a).2=0:=by simpa using hc
 rw [if_neg (by omega)] at hF;obtain ⟨hal,hsp⟩:=hin hc;refine ⟨fun s hs=>?_,⟨by omega,by omega,hal,fun s hs=>(hsp s hs).1,rfl⟩,fun i ⟨h0,h1,_,_,h2⟩=>⟨fun hlt=>?_,fun hge=>?_⟩⟩
 ·have:=(hsp s hs).1;unfold dg at this;omega
 ·have hlt:i<(l.length:Int):=by simpa using hlt
  have hs:=hsp _ (aH ((0,0,0,0,false):au) h0 hlt);rw [bh ((0,0,0,0,false):au) h0 hlt] at h2;simp only [gf,List.all_cons] at h2;generalize l.getD i.toNat (0,0,0,0,false)=s at *;have hrl:(aO a s).length<=256:=by simp only [aO,List.length_drop,List.length_take]; omega
  generalize aO a s=rs at *;refine ⟨h0,hlt,by omega,⟨hal,hs.1⟩,⟨by omega,by omega,rfl⟩,fun j ⟨g0,g1,g2⟩=>⟨fun hlt=>?_,fun hge=>?_⟩⟩
  ·have hlt:j<(rs.length:Int):=by simpa using hlt
   rw [bh (0:Int) g0 hlt] at g2;simp only [List.all_cons] at g2;generalize rs.getD j.toNat 0=v at *;refine ⟨g0,hlt,fun hv=>?_,fun hv=>?_⟩
   ·have hv:(bt m v).isSome=false:=by simpa using hv
    rw [hv,Bool.false_and] at g2;rw [<- g2,Bool.false_and] at h2;rw [hF,if_neg (by unfold gf; rw [<- h2]; simp)];exact ⟨rfl,rfl,rfl,trivial⟩
   ·have hv:(bt m v).isSome=true:=by simpa using hv
    rw [hv,Bool.true_and] at g2;simp only [am];exact ⟨by omega,⟨by omega,by omega,g2⟩,by omega⟩
  ·rw [b7 (by simpa using hge),List.all_nil] at g2;rw [<- g2,Bool.true_and] at h2;simp only [am];exact ⟨by omega,⟨by omega,by omega,hal,fun s hs=>(hsp s hs).1,h2⟩,by omega⟩
 ·rw [b7 (by simpa using hge)] at h2;have h2:gf m a l=true:=by rw [<- h2]; rfl
  rw [hF,if_pos h2];exact ⟨rfl,rfl,rfl,trivial⟩
theorem ng:vD.ok Tryz.prog 162:=aD (ann:=wn) (ae iW (ae vL (ae rF ap))) Tryz.func162 (by kernel_rfl) sL
def yj:Spec:={ Ts:=[.arr bj],Rs:=[.dat ty_I],pre:=fun _=>True,F:=fun (a:List Int)=>(ak a).2.2 }
def oI:Prop :=
  ∀ (x:List Int),(x.length * 8<=aJ/\∀ (x_1:Int),x_1∈x->am .u64 x_1)->True->True/\(ak x).2.2=(ak x).2.2/\True
theorem vf:oI:=by
 unfold oI;intro a _ _;simp
theorem iX:yj.ok Tryz.prog 148:=aD (ann:=co) (ae ng ap) Tryz.func148 (by kernel_rfl) vf
def it (a:List Int) (s:au):List Int:=(a.take (s.1+1+s.2.1+s.2.2.1).toNat).drop (s.1+1+s.2.1).toNat
def gO (a:List Int) (s:au) (m:List (Int×Int)):Obj:=(s.2.2.2.1,(aO a s).map (fun v=>(bt m v).getD 0),it a s,s.2.2.2.2)
def wm:Nat->Option LoopGen
 | 3=>some { rd:=[.dat 20 (.arr bj),.dat 2 (.map .u64 ty_I),.box 4 cF],A:=fun ((rs,m,s):List Int×List (Int×Int)×au)=>{ cs:=[.boxS 7 [.dat ty_I,.own 3 ty_I,.dat (.arr bj),.dat .bool],.dat 22 ty_I],inv:=fun ((o,j):Obj×Int)=>0<=j/\j<=rs.length/\rs.length<=256/\o=(s.2.2.2.1,(rs.take j.toNat).map (fun v=>(bt m v).getD 0),[],s.2.2.2.2),mu:=fun ((_,j):Obj×Int)=>(rs.length - j).toNat } }
 | _=>none
def vC:Spec:={ Ts:=[.arr bj,cF,.map .u64 ty_I],Rs:=[.dat Dy],al:=true,pre:=fun ((a,s,_):List Int×au×List (Int×Int))=>a.length<=256/\dg a s,F:=fun ((a,s,m):List Int×au×List (Int×Int))=>gO a s m }
def m8:Prop :=
  ∀ (x:List Int×(Int×Int×Int×Int×Bool)×List (Int×Int)),(fun (v0:type_of% (aO x.1 x.2.1))=>((x.1.length * 8<=aJ/\∀ (x_1:Int),x_1∈x.1->am .u64 x_1)/\(am .i64 x.2.1.1/\am .i64 x.2.1.2.1/\am .i64 x.2.1.2.2.1/\am .i64 x.2.1.2.2.2.1/\True)/\∀ (x_1:Int×Int),x_1∈x.2.2->am .u64 x_1.1/\am .i64 x_1.2)->x.1.length<=256/\dg x.1 x.2.1->(x.1.length<=256/\dg x.1 x.2.1)/\((0:Int)<=0/\0<=(v0.length:Int)/\v0.length<=256/\(x.2.1.2.2.2.1,([]:List Int),([]:List Int),x.2.1.2.2.2.2)=(x.2.1.2.2.2.1,List.map (fun (v:Int)=>(bt x.2.2 v).getD 0) (List.take (Int.toNat 0) v0),([]:List Int),x.2.1.2.2.2.2))/\∀ (x_1:(Int×List Int×List Int×Bool)×Int),0<=x_1.2/\x_1.2<=(v0.length:Int)/\v0.length<=256/\x_1.1=(x.2.1.2.2.2.1,List.map (fun (v:Int)=>(bt x.2.2 v).getD 0) (List.take x_1.2.toNat v0),([]:List Int),x.2.1.2.2.2.2)->(decide (x_1.2<(v0.length:Int))=true->0<=x_1.2/\x_1.2<(v0.length:Int)/\(x_1.1.2.1.length+[(bt x.2.2 (v0.getD x_1.2.toNat 0)).getD 0].length) * 8<=aJ/\am .i64 (x_1.2+1)/\(0<=x_1.2+1/\x_1.2+1<=(v0.length:Int)/\v0.length<=256/\(x_1.1.1,x_1.1.2.1++[(bt x.2.2 (v0.getD x_1.2.toNat 0)).getD 0],x_1.1.2.2)=(x.2.1.2.2.2.1,List.map (fun (v:Int)=>(bt x.2.2 v).getD 0) (List.take (x_1.2+1).toNat v0),([]:List Int),x.2.1.2.2.2.2))/\((v0.length:Int) - (x_1.2+1)).toNat<((v0.length:Int) - x_1.2).toNat)/\(decide (x_1.2<(v0.length:Int))=false->am .i64 (x.2.1.1+1)/\am .i64 (x.2.1.1+1+x.2.1.2.1)/\am .i64 (x.2.1.1+1+x.2.1.2.1+x.2.1.2.2.1)/\0<=x.2.1.1+1+x.2.1.2.1/\x.2.1.1+1+x.2.1.2.1<=x.2.1.1+1+x.2.1.2.1+x.2.1.2.2.1/\x.2.1.1+1+x.2.1.2.1+x.2.1.2.2.1<=(x.1.length:Int)/\True/\(x_1.1.1,x_1.1.2.1,List.drop (x.2.1.1+1+x.2.1.2.1).toNat (List.take (x.2.1.1+1+x.2.1.2.1+x.2.1.2.2.1).toNat x.1),x_1.1.2.2.2)=gO x.1 x.2.1 x.2.2/\True)) (aO x.1 x.2.1)
theorem sK:m8:=by
 unfold m8;intro ⟨a,s,m⟩ _ ⟨hal,hs⟩;have hs':=hs;unfold dg at hs';simp only at *;have hrl:(aO a s).length<=256:=by simp only [aO,List.length_drop,List.length_take]; omega
 have hF:gO a s m=(s.2.2.2.1,(aO a s).map (fun v=>(bt m v).getD 0),it a s,s.2.2.2.2):=rfl;have hB:it a s=(a.take (s.1+1+s.2.1+s.2.2.1).toNat).drop (s.1+1+s.2.1).toNat:=rfl;rw [hF,hB];generalize aO a s=rs at *;refine ⟨⟨hal,hs⟩,⟨by omega,by omega,hrl,by simp⟩,fun ⟨o,j⟩ ⟨g0,g1,_,g2⟩=>⟨fun hlt=>?_,fun hge=>?_⟩⟩
 ·have hlt:j<(rs.length:Int):=by simpa using hlt
  simp only at g0 g1 g2;have e:=bB (0:Int) g0 hlt;have hl:o.2.1.length=j.toNat:=by rw [g2]; simp; omega
  unfold aJ;simp only [am,List.length_cons,List.length_nil];refine ⟨g0,hlt,by omega,by omega,⟨by omega,by omega,hrl,?_⟩,by omega⟩;rw [e,List.map_append,g2];rfl
 ·have hge:¬ j<(rs.length:Int):=by simpa using hge
  simp only at g0 g1 g2;rw [cA hge] at g2;simp only [am];refine ⟨by omega,by omega,by omega,by omega,by omega,by omega,trivial,?_,trivial⟩;rw [g2]
theorem vM:vC.ok Tryz.prog 165:=aD (ann:=wm) (ae rF (ae bI ap)) Tryz.func165 (by kernel_rfl) sK
theorem bi {a:List Int} (h:(ak a).2.2=0):a.length<=256/\(ak a).1.length<=256/\(ak a).1=(ac a).1/\(ac a).2=0/\(ak a).2.1=cB (ac a).1/\gf (cB (ac a).1) a (ac a).1=true/\∀ s∈(ak a).1,dg a s/\af s.2=0:=by
 unfold ak at h ⊢;by_cases h1:(ac a).2≠0
 ·rw [if_pos h1] at h;exact absurd h h1
 ·rw [if_neg h1] at h ⊢;have h1:(ac a).2=0:=by omega
  by_cases h2:gf (cB (ac a).1) a (ac a).1=true
  ·rw [if_pos h2];exact ⟨(gr h1).1,eY a,rfl,h1,rfl,h2,(gr h1).2⟩
  ·rw [if_neg h2] at h;simp at h
def DS:Spec:={ Ts:=[.arr cF,.fn cF .bool],Rs:=[.dat ty_I],pre:=fun ((l,g):List au×(au->Prop)×(au->Bool))=>∀ s∈l,g.1 s,F:=fun ((l,g):List au×(au->Prop)×(au->Bool))=>ag g.2 0 l }
def E4:Nat->Option LoopGen
 | 2=>some { rd:=[.dat 0 (.arr cF),.dat 1 (.fn cF .bool)],A:=fun ((l,g):List au×(au->Prop)×(au->Bool))=>{ cs:=[.dat 8 ty_I],inv:=fun (i:Int)=>0<=i/\i<=l.length/\ag g.2 i (l.drop i.toNat)=ag g.2 0 l,mu:=fun (i:Int)=>(l.length - i).toNat } }
 | _=>none
def tJ:Prop :=
  ∀ (x:List (Int×Int×Int×Int×Bool)×(Int×Int×Int×Int×Bool->Prop)×(Int×Int×Int×Int×Bool->Bool)),(x.1.length * (8+(8+(8+(8+8))))<=aJ/\∀ (x_1:Int×Int×Int×Int×Bool),x_1∈x.1->am .i64 x_1.1/\am .i64 x_1.2.1/\am .i64 x_1.2.2.1/\am .i64 x_1.2.2.2.1/\True)/\True->(∀ (s:au),s∈x.1->x.2.1 s)->((0:Int)<=0/\0<=(x.1.length:Int)/\ag x.2.2 0 (List.drop (Int.toNat 0) x.1)=ag x.2.2 0 x.1)/\∀ (x_1:Int),0<=x_1/\x_1<=(x.1.length:Int)/\ag x.2.2 x_1 (List.drop x_1.toNat x.1)=ag x.2.2 0 x.1->(decide (x_1<(x.1.length:Int))=true->0<=x_1/\x_1<(x.1.length:Int)/\x.2.1 (x.1.getD x_1.toNat (0,0,0,0,false))/\(x.2.2 (x.1.getD x_1.toNat (0,0,0,0,false))=true->x_1=ag x.2.2 0 x.1/\True)/\(x.2.2 (x.1.getD x_1.toNat (0,0,0,0,false))=false->am .i64 (x_1+1)/\(0<=x_1+1/\x_1+1<=(x.1.length:Int)/\ag x.2.2 (x_1+1) (List.drop (x_1+1).toNat x.1)=ag x.2.2 0 x.1)/\((x.1.length:Int) - (x_1+1)).toNat<((x.1.length:Int) - x_1).toNat))/\(decide (x_1<(x.1.length:Int))=false->(-1)=ag x.2.2 0 x.1/\True)
theorem Ag:tJ:=by
 unfold tJ;intro ⟨l,g⟩ ⟨⟨hl,_⟩,_⟩ hp;unfold aJ at *;refine ⟨⟨by omega,by omega,by simp⟩,fun i ⟨h0,h1,h2⟩=>⟨fun hlt=>?_,fun hge=>?_⟩⟩
 ·have hlt:i<(l.length:Int):=by simpa using hlt
  have e:=bh ((0,0,0,0,false):au) h0 hlt;have hm:=hp _ (aH ((0,0,0,0,false):au) h0 hlt);simp only at *;rw [e] at h2;simp only [ag] at h2;refine ⟨h0,hlt,hm,fun hc=>?_,fun hc=>?_⟩
  ·rw [if_pos hc] at h2;exact ⟨h2,trivial⟩
  ·rw [if_neg (by rw [hc]; simp)] at h2;exact ⟨by simp only [am]; omega,⟨by omega,by omega,h2⟩,by omega⟩
 ·rw [b7 (by simpa using hge)] at h2;exact ⟨h2,trivial⟩
theorem nG:DS.ok Tryz.prog 163:=aD (ann:=E4) ap Tryz.func163 (by kernel_rfl) Ag
def G2:Spec:={ Ts:=[cF,.ref ty_I],Rs:=[.dat .bool],pre:=fun _=>True,F:=fun ((s,at_):au×Int)=>decide (s.1=at_) }
def w5:Prop :=
  ∀ (x:(Int×Int×Int×Int×Bool)×Int),(am .i64 x.1.1/\am .i64 x.1.2.1/\am .i64 x.1.2.2.1/\am .i64 x.1.2.2.2.1/\True)/\am .i64 x.2->True->decide (x.1.1=x.2)=decide (x.1.1=x.2)/\True
theorem Du:w5:=by
 unfold w5;intro ⟨s,at_⟩ _ _;simp
theorem Hz:G2.ok Tryz.prog 164:=aD (ann:=co) ap Tryz.func164 (by kernel_rfl) Du
def ij:Obj:=(0,[],[],false)
def gW (a:List Int) (at_:Int):Obj×Int :=
 if (ak a).2.2≠0 then (ij,(ak a).2.2) else if ag (fun s=>decide (s.1=at_)) 0 (ak a).1<0 then (ij,5)
 else (gO a ((ak a).1.getD (ag (fun s=>decide (s.1=at_)) 0 (ak a).1).toNat (0,0,0,0,false)) (ak a).2.1,0)
def GF:Spec:={ Ts:=[.arr bj,ty_I],Rs:=[.dat Dy,.dat ty_I],al:=true,pre:=fun _=>True,F:=fun ((a,at_):List Int×Int)=>gW a at_ }
def wG:Prop :=
  ∀ (x:List Int×Int),(x.1.length * 8<=aJ/\∀ (x_1:Int),x_1∈x.1->am .u64 x_1)/\am .i64 x.2->True->True/\(decide ((ak x.1).2.2≠0)=true->(0,([]:List Int),([]:List Int),false)=(gW x.1 x.2).1/\(ak x.1).2.2=(gW x.1 x.2).2/\True)/\(decide ((ak x.1).2.2≠0)=false->(∀ (s:au),s∈(ak x.1).1->(fun (_:Int×Int×Int×Int×Bool)=>True,fun (x_1:Int×Int×Int×Int×Bool)=>decide (x_1.1=x.2)).1 s)/\(decide (ag (fun (x_1:Int×Int×Int×Int×Bool)=>decide (x_1.1=x.2)) 0 (ak x.1).1<0)=true->(0,([]:List Int),([]:List Int),false)=(gW x.1 x.2).1/\5=(gW x.1 x.2).2/\True)/\(decide (ag (fun (x_1:Int×Int×Int×Int×Bool)=>decide (x_1.1=x.2)) 0 (ak x.1).1<0)=false->0<=ag (fun (x_1:Int×Int×Int×Int×Bool)=>decide (x_1.1=x.2)) 0 (ak x.1).1/\ag (fun (x_1:Int×Int×Int×Int×Bool)=>decide (x_1.1=x.2)) 0 (ak x.1).1<(↑(ak x.1).1.length:Int)/\(x.1.length<=256/\dg x.1 ((ak x.1).1.getD (ag (fun (x_1:Int×Int×Int×Int×Bool)=>decide (x_1.1=x.2)) 0 (ak x.1).1).toNat (0,0,0,0,false)))/\gO x.1 ((ak x.1).1.getD (ag (fun (x_1:Int×Int×Int×Int×Bool)=>decide (x_1.1=x.2)) 0 (ak x.1).1).toNat (0,0,0,0,false)) (ak x.1).2.1=(gW x.1 x.2).1/\0=(gW x.1 x.2).2/\True))
theorem Da:wG:=by
 unfold wG;intro ⟨a,at_⟩ _ _;have hin:=bi (a:=a)
 have hF:gW a at_=if (ak a).2.2≠0 then (ij,(ak a).2.2) else if ag (fun s=>decide (s.1=at_)) 0 (ak a).1<0 then (ij,5)
   else (gO a ((ak a).1.getD (ag (fun s=>decide (s.1=at_)) 0 (ak a).1).toNat (0,0,0,0,false)) (ak a).2.1,0):=rfl
 simp only at *;generalize (ak a).1=l at *;have hlt:=dW (fun s:au=>decide (s.1=at_)) (0,0,0,0,false) l 0 (by omega);rw [hF];refine ⟨trivial,fun hc=>?_,fun hc=>⟨fun _ _=>trivial,fun h2=>?_,fun h2=>?_⟩⟩
 ·have hc:(ak a).2.2≠0:=by simpa using hc
  rw [if_pos hc];exact ⟨rfl,rfl,trivial⟩
 ·have hc:(ak a).2.2=0:=by simpa using hc
  rw [if_neg (by omega),if_pos (of_decide_eq_true h2)];exact ⟨rfl,rfl,trivial⟩
 ·have hc:(ak a).2.2=0:=by simpa using hc
  have h2:=of_decide_eq_false h2;rw [if_neg (by omega),if_neg h2];obtain ⟨hal,hll,_,_,_,_,hsp⟩:=hin hc;have hlt':ag (fun s:au=>decide (s.1=at_)) 0 l<(l.length:Int):=by omega
  have h2':0<=ag (fun s:au=>decide (s.1=at_)) 0 l:=Int.not_lt.1 h2;exact ⟨h2',hlt',⟨hal,(hsp _ (aH _ h2' hlt')).1⟩,rfl,rfl,trivial⟩
theorem mR:GF.ok Tryz.prog 93:=aD (ann:=co) (ae ng (ae vM (ae nG (ae Hz ap)))) Tryz.func93 (by kernel_rfl) Da
end
section
open Go
set_option maxRecDepth 100000
set_option maxHeartbeats 1000000
def eE:LoopGen:={ rd:=[],A:=fun _=>{ cs:=[],inv:=fun _=>True,mu:=fun _=>0 } }
def cD (l:List Int) (n:Int):Int:=ag (fun x=>decide (x=n)) 0 l
def fv (l:List Int) (n:Int):Bool:=l.any fun x=>decide (x=n)
def KU:Spec:={ Ts:=[.arr ty_I,ty_I],Rs:=[.dat ty_I],pre:=fun _=>True,F:=fun ((l,v):List Int×Int)=>cD l v }
def LP:Nat->Option LoopGen
 | 2=>some { rd:=[.dat 0 (.arr ty_I),.dat 1 ty_I],A:=fun ((l,v):List Int×Int)=>{ cs:=[.dat 8 ty_I],inv:=fun (i:Int)=>0<=i/\i<=l.length/\ag (fun x=>decide (x=v)) i (l.drop i.toNat)=cD l v,mu:=fun (i:Int)=>(l.length - i).toNat } }
 | _=>none
def Ft:Prop :=
  ∀ (x:List Int×Int),(x.1.length * 8<=aJ/\∀ (x_1:Int),x_1∈x.1->am .i64 x_1)/\am .i64 x.2->True->((0:Int)<=0/\0<=(x.1.length:Int)/\ag (fun (x_1:Int)=>decide (x_1=x.2)) 0 (List.drop (Int.toNat 0) x.1)=cD x.1 x.2)/\∀ (x_1:Int),0<=x_1/\x_1<=(x.1.length:Int)/\ag (fun (x_2:Int)=>decide (x_2=x.2)) x_1 (List.drop x_1.toNat x.1)=cD x.1 x.2->(decide (x_1<(x.1.length:Int))=true->0<=x_1/\x_1<(x.1.length:Int)/\(decide (x.2=x.1.getD x_1.toNat 0)=true->x_1=cD x.1 x.2/\True)/\(decide (x.2=x.1.getD x_1.toNat 0)=false->am .i64 (x_1+1)/\(0<=x_1+1/\x_1+1<=(x.1.length:Int)/\ag (fun (x_2:Int)=>decide (x_2=x.2)) (x_1+1) (List.drop (x_1+1).toNat x.1)=cD x.1 x.2)/\((x.1.length:Int) - (x_1+1)).toNat<((x.1.length:Int) - x_1).toNat))/\(decide (x_1<(x.1.length:Int))=false->(-1)=cD x.1 x.2/\True)
theorem Ir:Ft:=by
 unfold Ft;intro ⟨l,n⟩ ⟨⟨hb,_⟩,_⟩ _;unfold aJ at hb;refine ⟨⟨by omega,by omega,rfl⟩,fun i ⟨h0,h1,h2⟩=>⟨fun hlt=>?_,fun hge=>?_⟩⟩
 ·have hlt:i<(l.length:Int):=by simpa using hlt
  simp only at *;rw [bh (0:Int) h0 hlt] at h2;simp only [ag] at h2;simp only [am];refine ⟨h0,hlt,fun hc=>?_,fun hc=>?_⟩
  ·rw [if_pos (decide_eq_true (of_decide_eq_true hc).symm)] at h2;exact ⟨h2,trivial⟩
  ·rw [if_neg (fun e=>of_decide_eq_false hc (of_decide_eq_true e).symm)] at h2;exact ⟨by omega,⟨by omega,by omega,h2⟩,by omega⟩
 ·rw [b7 (by simpa using hge)] at h2;exact ⟨h2,trivial⟩
theorem FJ:KU.ok Tryz.prog 108:=aD (ann:=LP) ap Tryz.func108 (by kernel_rfl) Ir
def KW:Spec:={ Ts:=[.arr ty_I,ty_I],Rs:=[.dat .bool],pre:=fun _=>True,F:=fun ((l,v):List Int×Int)=>fv l v }
def Fv:Prop :=
  ∀ (x:List Int×Int),(x.1.length * 8<=aJ/\∀ (x_1:Int),x_1∈x.1->am .i64 x_1)/\am .i64 x.2->True->True/\decide (0<=cD x.1 x.2)=fv x.1 x.2/\True
theorem It:Fv:=by
 unfold Fv;intro ⟨l,v⟩ _ _;exact ⟨trivial,cS _ l 0 (by omega),trivial⟩
theorem yS:KW.ok Tryz.prog 39:=aD (ann:=co) (ae FJ ap) Tryz.func39 (by kernel_rfl) It
def IY:Spec:={ Ts:=[.arr ty_I,.fn ty_I .bool],Rs:=[.dat ty_I],pre:=fun ((l,g):List Int×(Int->Prop)×(Int->Bool))=>∀ s∈l,g.1 s,F:=fun ((l,g):List Int×(Int->Prop)×(Int->Bool))=>ag g.2 0 l }
def Kw:Nat->Option LoopGen
 | 2=>some { rd:=[.dat 0 (.arr ty_I),.dat 1 (.fn ty_I .bool)],A:=fun ((l,g):List Int×(Int->Prop)×(Int->Bool))=>{ cs:=[.dat 8 ty_I],inv:=fun (i:Int)=>0<=i/\i<=l.length/\ag g.2 i (l.drop i.toNat)=ag g.2 0 l,mu:=fun (i:Int)=>(l.length - i).toNat } }
 | _=>none
def BB:Prop :=
  ∀ (x:List Int×(Int->Prop)×(Int->Bool)),(x.1.length * 8<=aJ/\∀ (x_1:Int),x_1∈x.1->am .i64 x_1)/\True->(∀ (s:Int),s∈x.1->x.2.1 s)->((0:Int)<=0/\0<=(x.1.length:Int)/\ag x.2.2 0 (List.drop (Int.toNat 0) x.1)=ag x.2.2 0 x.1)/\∀ (x_1:Int),0<=x_1/\x_1<=(x.1.length:Int)/\ag x.2.2 x_1 (List.drop x_1.toNat x.1)=ag x.2.2 0 x.1->(decide (x_1<(x.1.length:Int))=true->0<=x_1/\x_1<(x.1.length:Int)/\x.2.1 (x.1.getD x_1.toNat 0)/\(x.2.2 (x.1.getD x_1.toNat 0)=true->x_1=ag x.2.2 0 x.1/\True)/\(x.2.2 (x.1.getD x_1.toNat 0)=false->am .i64 (x_1+1)/\(0<=x_1+1/\x_1+1<=(x.1.length:Int)/\ag x.2.2 (x_1+1) (List.drop (x_1+1).toNat x.1)=ag x.2.2 0 x.1)/\((x.1.length:Int) - (x_1+1)).toNat<((x.1.length:Int) - x_1).toNat))/\(decide (x_1<(x.1.length:Int))=false->(-1)=ag x.2.2 0 x.1/\True)
theorem Gp:BB:=by
 unfold BB;intro ⟨l,g⟩ ⟨⟨hl,_⟩,_⟩ hp;unfold aJ at *;refine ⟨⟨by omega,by omega,by simp⟩,fun i ⟨h0,h1,h2⟩=>⟨fun hlt=>?_,fun hge=>?_⟩⟩
 ·have hlt:i<(l.length:Int):=by simpa using hlt
  have e:=bh (0:Int) h0 hlt;have hm:=hp _ (aH (0:Int) h0 hlt);simp only at *;rw [e] at h2;simp only [ag] at h2;refine ⟨h0,hlt,hm,fun hc=>?_,fun hc=>?_⟩
  ·rw [if_pos hc] at h2;exact ⟨h2,trivial⟩
  ·rw [if_neg (by rw [hc]; simp)] at h2;exact ⟨by simp only [am]; omega,⟨by omega,by omega,h2⟩,by omega⟩
 ·rw [b7 (by simpa using hge)] at h2;exact ⟨h2,trivial⟩
theorem BT:IY.ok Tryz.prog 107:=aD (ann:=Kw) ap Tryz.func107 (by kernel_rfl) Gp
def K1:Spec:={ Ts:=[.arr ty_I,.fn ty_I .bool],Rs:=[.dat .bool],pre:=fun ((l,g):List Int×(Int->Prop)×(Int->Bool))=>∀ s∈l,g.1 s,F:=fun ((l,g):List Int×(Int->Prop)×(Int->Bool))=>l.any g.2 }
def FA:Prop :=
  ∀ (x:List Int×(Int->Prop)×(Int->Bool)),(x.1.length * 8<=aJ/\∀ (x_1:Int),x_1∈x.1->am .i64 x_1)/\True->(∀ (s:Int),s∈x.1->x.2.1 s)->(∀ (s:Int),s∈x.1->x.2.1 s)/\decide (0<=ag x.2.2 0 x.1)=x.1.any x.2.2/\True
theorem Iy:FA:=by
 unfold FA;intro ⟨l,g⟩ _ hp;exact ⟨hp,cS _ l 0 (by omega),trivial⟩
theorem yU:K1.ok Tryz.prog 37:=aD (ann:=co) (ae BT ap) Tryz.func37 (by kernel_rfl) Iy
def be:List Int->Bool
 | x::y::l=>decide (x<y)&&be (y::l)
 | _=>true
theorem yF:∀ {l:List Int},l.length<=1->be l=true
 | [],_=>rfl
 | [_],_=>rfl
 | _::_::_,h=>by simp at h
def Ks:Nat->Option LoopGen
 | 2=>some { rd:=[.dat 0 (.arr ty_I)],A:=fun (l:List Int)=>{ cs:=[.dat 3 ty_I],inv:=fun (i:Int)=>1<=i/\i<=l.length+1/\be (l.drop (i - 1).toNat)=be l,mu:=fun (i:Int)=>(l.length - i).toNat } }
 | _=>none
def IQ:Spec:={ Ts:=[.arr ty_I],Rs:=[.dat .bool],pre:=fun _=>True,F:=be }
def Bu:Prop :=
  ∀ (x:List Int),(x.length * 8<=aJ/\∀ (x_1:Int),x_1∈x->am .i64 x_1)->True->((1:Int)<=1/\1<=(x.length:Int)+1/\be (List.drop ((1:Int) - 1).toNat x)=be x)/\∀ (x_1:Int),1<=x_1/\x_1<=(x.length:Int)+1/\be (List.drop (x_1 - 1).toNat x)=be x->(decide (x_1<(x.length:Int))=true->am .i64 (x_1 - 1)/\0<=x_1 - 1/\x_1 - 1<(x.length:Int)/\0<=x_1/\x_1<(x.length:Int)/\(decide (x.getD x_1.toNat 0<=x.getD (x_1 - 1).toNat 0)=true->false=be x/\True)/\(decide (x.getD x_1.toNat 0<=x.getD (x_1 - 1).toNat 0)=false->am .i64 (x_1+1)/\(1<=x_1+1/\x_1+1<=(x.length:Int)+1/\be (List.drop (x_1+1 - 1).toNat x)=be x)/\((x.length:Int) - (x_1+1)).toNat<((x.length:Int) - x_1).toNat))/\(decide (x_1<(x.length:Int))=false->true=be x/\True)
theorem Gh:Bu:=by
 unfold Bu;intro l ⟨hb,_⟩ _;unfold aJ at hb;refine ⟨⟨by omega,by omega,rfl⟩,fun i ⟨h0,h1,h2⟩=>⟨fun hlt=>?_,fun hge=>?_⟩⟩
 ·have hlt:i<(l.length:Int):=of_decide_eq_true hlt;have e1:=bh (0:Int) (xs:=l) (i:=i - 1) (by omega) (by omega);have e2:=bh (0:Int) (xs:=l) (i:=i) (by omega) hlt;rw [show i - 1+1=i by omega] at e1;simp only [am] at h2 ⊢;rw [e1,e2] at h2;simp only [be] at h2;rw [<- e2] at h2;refine ⟨by omega,by omega,by omega,by omega,hlt,fun hc=>?_,fun hc=>⟨by omega,⟨by omega,by omega,?_⟩,by omega⟩⟩
  ·have hc:=of_decide_eq_true hc;rw [<- h2,decide_eq_false (by omega)];exact ⟨rfl,trivial⟩
  ·have hc:=of_decide_eq_false hc;rw [decide_eq_true (by omega),Bool.true_and] at h2;rw [show i+1 - 1=i by omega];exact h2
 ·have hge:¬ i<(l.length:Int):=of_decide_eq_false hge;rw [yF (by rw [List.length_drop]; omega)] at h2;exact ⟨h2,trivial⟩
theorem Jp:IQ.ok Tryz.prog 288:=aD (ann:=Ks) ap Tryz.func288 (by kernel_rfl) Gh
end
section
open Go
set_option maxRecDepth 100000
set_option maxHeartbeats 1000000
def bU (at_:Int):List au->dZ×Bool
 | []=>(bH,false)
 | s::l=>if s.1=at_/\s.2.2.2.2=false then (s.2,true) else bU at_ l
theorem gh (at_:Int):∀ (l:List au),bU at_ l=(bH,false)\/∃ s∈l,s.1=at_/\s.2.2.2.2=false/\bU at_ l=(s.2,true)
 | []=>.inl rfl
 | s::l=>by
  simp only [bU];split
  ·rename_i h;exact .inr ⟨s,by simp,h.1,h.2,rfl⟩
  ·rcases gh at_ l with h | ⟨t,h1,h2⟩
   ·exact .inl h
   ·exact .inr ⟨t,by simp [h1],h2⟩
def nameOf (v:Int):Int:=(if 256<v then 9999 else v) - 1
def aX:List au->List Int
 | []=>[]
 | s::l=>if s.2.2.2.2=true then aX l else s.1::aX l
end
section
open Go
set_option maxRecDepth 100000
set_option maxHeartbeats 1000000
theorem jD:∀ l:List au,(aX l).length<=l.length
 | []=>by simp [aX]
 | s::l=>by
  have:=jD l;simp only [aX];split <;> simp <;> omega
theorem eJ (a:List Int):∀ s∈(ac a).1,a.length<=256/\dg a s/\af s.2=0:=by
 intro s hs
 have hz:(ac a).2=0:=by
  unfold ac at hs ⊢;split at hs
  ·simp at hs
  ·rename_i cl;rw [if_neg cl];cases h:spotsS 0 a with
   | none=>rw [h] at hs; simp at hs
   | some l=>rfl
 have h:=gr hz;exact ⟨h.1,(h.2 s hs).1,(h.2 s hs).2⟩
end
section
open Go
set_option maxRecDepth 100000
set_option maxHeartbeats 1000000
theorem vz (at_:Int) (l:List Int) (r:List au) (h:spotsS at_ l=some r):r.Pairwise (fun s t=>s.1<t.1):=by
 induction at_,l using spotsS.induct generalizing r with
 | case1 at_ =>
  simp only [spotsS,Option.some.injEq] at h;subst h;exact List.Pairwise.nil
 | case2 at_ v l hv ih =>
  rw [cL hv.1 hv.2] at h;obtain ⟨r',hr,rfl⟩:=Option.map_eq_some_iff.1 h;have hl:=dU hv.1;refine List.pairwise_cons.2 ⟨fun t ht=>?_,ih r' hr⟩;have:=(pX _ _ _ hr t ht).1;simp only;omega
 | case3 at_ v l hv =>
  rw [eH hv] at h;cases h
theorem bV (a:List Int):(ac a).1.Pairwise (fun s t=>s.1<t.1):=by
 unfold ac;split
 ·exact List.Pairwise.nil
 ·cases h:spotsS 0 a with
  | none=>exact List.Pairwise.nil
  | some l=>exact vz 0 a l h
theorem jf {α:Type} (k k':Int) (x:α):∀ (m:List (Int×α)),bt (fU m k x) k'=if k'=k then some x else bt m k'
 | []=>by
  simp only [fU,bt];by_cases h:k=k'
  ·simp [h]
  ·simp [h,Ne.symm h]
 | y::m=>by
  have ih:=jf k k' x m;simp only [fU];by_cases hy:y.1=k
  ·rw [if_pos hy];simp only [bt];by_cases h:k=k'
   ·simp [h]
   ·simp [h,Ne.symm h,hy]
  ·rw [if_neg hy];simp only [bt,ih];by_cases h:y.1=k'
   ·have:k'≠k:=fun e=>hy (h.trans e)
    simp [h,this]
   ·simp [h]
def mZ (v:Int):Int->List au->Option Int
 | _,[]=>none
 | i,s::l=>if s.2.2.2.2=false/\s.1+1=v then some i else mZ v (i+1) l
theorem xa {v:Int}:∀ (l:List au) (i:Int),(∀ s∈l,s.1+1≠v)->mZ v i l=none
 | [],_,_=>rfl
 | s::l,i,h=>by
  simp only [mZ];rw [if_neg (fun e=>h s (by simp) e.2)];exact xa l (i+1) (fun t ht=>h t (by simp [ht]))
theorem jq (v:Int):∀ (l:List au) (m:List (Int×Int)) (i:Int),l.Pairwise (fun s t=>s.1<t.1)->bt (d7 m i l) v=(mZ v i l).or (bt m v)
 | [],m,i,_=>rfl
 | s::l,m,i,h=>by
  obtain ⟨h1,h2⟩:=List.pairwise_cons.1 h;simp only [d7,mZ];rw [jq v l _ (i+1) h2];cases hf:s.2.2.2.2
  ·simp only [Bool.false_eq_true,if_false,true_and];rw [jf];by_cases hv:s.1+1=v
   ·rw [xa l (i+1) (fun t ht e=>by have:=h1 t ht; omega),if_pos hv,if_pos hv.symm];rfl
   ·rw [if_neg hv,if_neg (fun e=>hv e.symm)]
  ·simp
theorem kM (v:Int):∀ (l:List au) (i:Int),(mZ v i l).isSome=fv (aX l) (v - 1)
 | [],_=>rfl
 | s::l,i=>by
  have ih:=kM v l (i+1);simp only [mZ,aX];cases hf:s.2.2.2.2
  ·simp only [true_and,Bool.false_eq_true,if_false,fv,List.any_cons];by_cases hv:s.1+1=v
   ·rw [if_pos hv];simp;left; omega
   ·rw [if_neg hv,ih];have:¬ s.1=v - 1:=by omega
    simp [this,fv]
  ·simp [ih]
theorem fX (n:Int):∀ (l:List au),(∀ s∈l,0<=s.1/\s.1<=255)->(n<0\/255<n)->fv (aX l) n=false
 | [],_,_=>rfl
 | s::l,h,hn=>by
  have ih:=fX n l (fun t ht=>h t (by simp [ht])) hn;have hs:=h s (by simp);simp only [aX];split
  ·exact ih
  ·simp only [fv,List.any_cons] at ih ⊢;rw [ih];simp;omega
theorem w9 {l:List au} (hs:l.Pairwise (fun s t=>s.1<t.1)) (hr:∀ s∈l,0<=s.1/\s.1<=255) {v:Int} (hv:0<=v) :
  (decide (nameOf v=-1)||fv (aX l) (nameOf v))=(bt (cB l) v).isSome:=by
 unfold cB;rw [jq v l _ 0 hs];by_cases h0:v=0
 ·subst h0;cases h:mZ 0 0 l <;> simp [nameOf,bt]
 ·have e1:bt [((0:Int),(-1:Int))] v=none:=by simp [bt,Ne.symm h0]
  rw [e1,Option.or_none,kM];by_cases hb:256<v
  ·have:nameOf v=9998:=by simp [nameOf,hb]
   rw [this,fX 9998 l hr (by omega),fX (v - 1) l hr (by omega)];rfl
  ·have:nameOf v=v - 1:=by simp [nameOf,hb]
   rw [this];have:¬ v - 1=-1:=by omega
   simp [this]
theorem nN:∀ {l:List au} {s:au},l.Pairwise (fun s t=>s.1<t.1)->s∈l->s.2.2.2.2=false->bU s.1 l=(s.2,true)
 | t::l,s,hs,hm,hf=>by
  obtain ⟨h1,h2⟩:=List.pairwise_cons.1 hs;simp only [bU];rcases List.mem_cons.1 hm with rfl | hm
  ·rw [if_pos ⟨rfl,hf⟩]
  ·rw [if_neg (fun e=>by have:=h1 s hm; omega)];exact nN h2 hm hf
theorem r5 {a:List Int} {s:au} (hw:∀ x∈a,am .u64 x):∀ v∈aO a s,0<=v:=by
 intro v hv;exact (hw v (List.mem_of_mem_take (List.mem_of_mem_drop hv))).1
theorem cK {a:List Int}:∀ s∈(ac a).1,0<=s.1/\s.1<=255:=by
 intro s hs;obtain ⟨h1,h2,h3⟩:=eJ a s hs;unfold dg at h2;omega
def isB (l:List au) (at_:Int):Bool:=(bU at_ l).2
theorem fu (n:Int):∀ l:List au,fv (aX l) n=isB l n
 | []=>rfl
 | s::l=>by
  have ih:=fu n l;unfold isB at ih ⊢;simp only [aX,bU];cases hf:s.2.2.2.2
  ·simp only [Bool.false_eq_true,if_false,and_true,fv,List.any_cons];by_cases hv:s.1=n
   ·rw [if_pos hv];simp [hv]
   ·rw [if_neg hv];simp only [fv] at ih;rw [<- ih];simp [hv]
  ·simp only [if_true,and_false,if_false,Bool.true_eq_false];exact ih
theorem nF {a:List Int} (hw:∀ x∈a,am .u64 x) (hc:(ak a).2.2=0):∀ s∈(ac a).1,∀ v∈aO a s,v=0\/1<=v/\v<=256/\isB (ac a).1 (v - 1)=true:=by
 intro s hs v hv;obtain ⟨_,_,_,_,_,hok,_⟩:=bi hc;have h1:=List.all_eq_true.1 (List.all_eq_true.1 hok s hs) v hv;have h0:=r5 hw v hv;rw [<- w9 (bV a) cK h0] at h1;by_cases hz:v=0
 ·exact .inl hz
 refine .inr ?_
 have hr:∀ n,fv (aX (ac a).1) n=true->0<=n/\n<=255:=fun n hn=>by
  refine ⟨Int.not_lt.1 fun h=>?_,Int.not_lt.1 fun h=>?_⟩
  ·rw [fX n _ cK (.inl h)] at hn; cases hn
  ·rw [fX n _ cK (.inr h)] at hn; cases hn
 unfold nameOf at h1;split at h1
 ·have h2:fv (aX (ac a).1) (9999 - 1)=true:=by simpa using h1
  have:=hr _ h2;omega
 ·have h2:fv (aX (ac a).1) (v - 1)=true:=by
   rcases Bool.or_eq_true _ _ ▸ h1 with h | h
   ·have:=of_decide_eq_true h; omega
   ·exact h
  have:=hr _ h2;refine ⟨by omega,by omega,?_⟩;rw [<- fu];exact h2
theorem JM {a:List Int} {at_:Int} (h:isB (ac a).1 at_=true):(at_,(bU at_ (ac a).1).1)∈(ac a).1/\dg a (at_,(bU at_ (ac a).1).1)/\af (bU at_ (ac a).1).1=0/\(bU at_ (ac a).1).1.2.2.2=false/\a.length<=256:=by
 rcases gh at_ (ac a).1 with e | ⟨s,h1,h2,h3,e⟩
 ·unfold isB at h;rw [e] at h;cases h
 ·obtain ⟨k1,k2,k3⟩:=eJ a s h1;rw [e];simp only;subst h2;exact ⟨h1,k2,k3,h3,k1⟩
end
section
open Go
set_option maxRecDepth 100000
set_option maxHeartbeats 1000000
end
section
open Go
set_option maxRecDepth 100000
set_option maxHeartbeats 1000000
abbrev jm:Ty:=.pair ty_I ty_I
abbrev cT:=Int×Int
def DW:Spec:={ Ts:=[gF],Rs:=[.dat ty_I],pre:=fun _=>True,F:=fun (h:dZ)=>(if af h=0 then aa h else 0:Int) }
def tN:Prop :=
  ∀ (x:Int×Int×Int×Bool),am .i64 x.1/\am .i64 x.2.1/\am .i64 x.2.2.1/\True->True->True/\((if af x=0 then aa x else (0:Int))=if af x=0 then aa x else (0:Int))/\True
theorem Ak:tN:=by
 unfold tN;intro h _ _;simp
theorem tW:DW.ok Tryz.prog 217:=aD (ann:=co) (ae iY ap) Tryz.func217 (by kernel_rfl) Ak
def aR (a:List Int):List au×Int:=if (ak a).2.2≠0 then ([],(ak a).2.2) else ((ac a).1,0)
def A2:Spec:={ Ts:=[.arr bj],Rs:=[.own 202 cF,.dat ty_I],pre:=fun _=>True,F:=aR }
def ry:Prop :=
  ∀ (x:List Int),(x.length * 8<=aJ/\∀ (x_1:Int),x_1∈x->am .u64 x_1)->True->True/\(decide ((ak x).2.2≠0)=true->([]:List (Int×Int×Int×Int×Bool))=(aR x).1/\(ak x).2.2=(aR x).2/\True)/\(decide ((ak x).2.2≠0)=false->True/\(ac x).1=(aR x).1/\(ac x).2=(aR x).2/\True)
theorem x8:ry:=by
 unfold ry;intro a _ _;have h:=bi (a:=a);unfold aR;refine ⟨trivial,fun hc=>?_,fun hc=>?_⟩
 ·have hc:(ak a).2.2≠0:=by simpa using hc
  rw [if_pos hc];exact ⟨rfl,rfl,trivial⟩
 ·have hc:(ak a).2.2=0:=by simpa using hc
  obtain ⟨_,_,_,h4,_⟩:=h hc;rw [if_neg (by omega),h4];exact ⟨trivial,rfl,rfl,trivial⟩
theorem mj:A2.ok Tryz.prog 212:=aD (ann:=co) (ae iX (ae iW ap)) Tryz.func212 (by kernel_rfl) x8
def lN (out:List cT) (n:Int):List cT:=out.set (out.length - 1) ((out.getD (out.length - 1) (0,0)).1,(out.getD (out.length - 1) (0,0)).2+n)
def aL:Bool->List cT->List au->List cT
 | _,out,[]=>out
 | p,out,s::l=>aL s.2.2.2.2 (if s.2.2.2.2=true then (if p=true then lN out (aa s.2) else out++[(s.1,aa s.2)]) else out) l
theorem fM (out:List cT) (n:Int):(lN out n).length=out.length:=by simp [lN]
def cV (l:List au) (i:Int):Bool:=decide (0<i)&&(l.getD (i - 1).toNat (0,0,0,0,false)).2.2.2.2
def E7:Nat->Option LoopGen
 | 3=>some { rd:=[.dat 6 (.arr cF)],A:=fun (l:List au)=>{ cs:=[.own 3 105 jm,.dat 8 ty_I],inv:=fun ((out,i):List cT×Int)=>0<=i/\i<=l.length/\l.length<=256/\(∀ s∈l,af s.2=0)/\out.length<=i/\(cV l i=true->0<out.length)/\(∀ r∈out,0<=r.2/\r.2<=256 * i)/\aL (cV l i) out (l.drop i.toNat)=aL false [] l,mu:=fun ((_,i):List cT×Int)=>(l.length - i).toNat } }
 | _=>none
def DY:Spec:={ Ts:=[.arr cF],Rs:=[.own 105 jm],pre:=fun (l:List au)=>l.length<=256/\∀ s∈l,af s.2=0,F:=fun (l:List au)=>aL false [] l }
def tP:Prop :=
  ∀ (x:List (Int×Int×Int×Int×Bool)),(x.length * (8+(8+(8+(8+8))))<=aJ/\∀ (x_1:Int×Int×Int×Int×Bool),x_1∈x->am .i64 x_1.1/\am .i64 x_1.2.1/\am .i64 x_1.2.2.1/\am .i64 x_1.2.2.2.1/\True)->(x.length<=256/\∀ (s:au),s∈x->af s.2=0)->((0:Int)<=0/\0<=(x.length:Int)/\x.length<=256/\(∀ (s:au),s∈x->af s.2=0)/\(↑(0:Nat):Int)<=0/\(cV x 0=true->(0:Nat)<0)/\(∀ (r:cT),r∈([]:List (Int×Int))->0<=r.2/\r.2<=256 * 0)/\aL (cV x 0) ([]:List (Int×Int)) (List.drop (Int.toNat 0) x)=aL false ([]:List cT) x)/\∀ (x_1:List (Int×Int)×Int),(fun (v0:type_of% (x.getD x_1.2.toNat (0,0,0,0,false)))=>0<=x_1.2/\x_1.2<=(x.length:Int)/\x.length<=256/\(∀ (s:au),s∈x->af s.2=0)/\(x_1.1.length:Int)<=x_1.2/\(cV x x_1.2=true->0<x_1.1.length)/\(∀ (r:cT),r∈x_1.1->0<=r.2/\r.2<=256 * x_1.2)/\aL (cV x x_1.2) x_1.1 (List.drop x_1.2.toNat x)=aL false ([]:List cT) x->(decide (x_1.2<(x.length:Int))=true->0<=x_1.2/\x_1.2<(x.length:Int)/\((!v0.2.2.2.2)=true->am .i64 (x_1.2+1)/\(0<=x_1.2+1/\x_1.2+1<=(x.length:Int)/\x.length<=256/\(∀ (s:au),s∈x->af s.2=0)/\(x_1.1.length:Int)<=x_1.2+1/\(cV x (x_1.2+1)=true->0<x_1.1.length)/\(∀ (r:cT),r∈x_1.1->0<=r.2/\r.2<=256 * (x_1.2+1))/\aL (cV x (x_1.2+1)) x_1.1 (List.drop (x_1.2+1).toNat x)=aL false ([]:List cT) x)/\((x.length:Int) - (x_1.2+1)).toNat<((x.length:Int) - x_1.2).toNat)/\((!v0.2.2.2.2)=false->(decide (0<x_1.2)=true->am .i64 (x_1.2 - 1))/\(decide (0<x_1.2)=true->0<=x_1.2 - 1)/\(decide (0<x_1.2)=true->x_1.2 - 1<(x.length:Int))/\((decide (0<x_1.2)&&(x.getD (x_1.2 - 1).toNat (0,0,0,0,false)).2.2.2.2)=true->am .i64 ((x_1.1.length:Int) - 1)/\0<=(x_1.1.length:Int) - 1/\(x_1.1.length:Int) - 1<(x_1.1.length:Int)/\((x_1.1.length:Int) - 1).toNat<x_1.1.length/\True/\am .i64 ((x_1.1.getD ((x_1.1.length:Int) - 1).toNat (0,0)).2+if af v0.2=0 then aa v0.2 else (0:Int))/\0<=(x_1.1.length:Int) - 1/\(x_1.1.length:Int) - 1<(x_1.1.length:Int)/\((x_1.1.length:Int) - 1).toNat<x_1.1.length/\am .i64 (x_1.2+1)/\(0<=x_1.2+1/\x_1.2+1<=(x.length:Int)/\x.length<=256/\(∀ (s:au),s∈x->af s.2=0)/\(↑(x_1.1.set ((x_1.1.length:Int) - 1).toNat ((x_1.1.getD ((x_1.1.length:Int) - 1).toNat (0,0)).1,(x_1.1.getD ((x_1.1.length:Int) - 1).toNat (0,0)).2+if af v0.2=0 then aa v0.2 else (0:Int))).length:Int)<=x_1.2+1/\(cV x (x_1.2+1)=true->0<(x_1.1.set ((x_1.1.length:Int) - 1).toNat ((x_1.1.getD ((x_1.1.length:Int) - 1).toNat (0,0)).1,(x_1.1.getD ((x_1.1.length:Int) - 1).toNat (0,0)).2+if af v0.2=0 then aa v0.2 else (0:Int))).length)/\(∀ (r:cT),r∈x_1.1.set ((x_1.1.length:Int) - 1).toNat ((x_1.1.getD ((x_1.1.length:Int) - 1).toNat (0,0)).1,(x_1.1.getD ((x_1.1.length:Int) - 1).toNat (0,0)).2+if af v0.2=0 then aa v0.2 else (0:Int))->0<=r.2/\r.2<=256 * (x_1.2+1))/\aL (cV x (x_1.2+1)) (x_1.1.set ((x_1.1.length:Int) - 1).toNat ((x_1.1.getD ((x_1.1.length:Int) - 1).toNat (0,0)).1,(x_1.1.getD ((x_1.1.length:Int) - 1).toNat (0,0)).2+if af v0.2=0 then aa v0.2 else (0:Int))) (List.drop (x_1.2+1).toNat x)=aL false ([]:List cT) x)/\((x.length:Int) - (x_1.2+1)).toNat<((x.length:Int) - x_1.2).toNat)/\((decide (0<x_1.2)&&(x.getD (x_1.2 - 1).toNat (0,0,0,0,false)).2.2.2.2)=false->True/\(x_1.1.length+[(v0.1,if af v0.2=0 then aa v0.2 else (0:Int))].length) * (8+8)<=aJ/\am .i64 (x_1.2+1)/\(0<=x_1.2+1/\x_1.2+1<=(x.length:Int)/\x.length<=256/\(∀ (s:au),s∈x->af s.2=0)/\(↑(x_1.1++[(v0.1,if af v0.2=0 then aa v0.2 else (0:Int))]).length:Int)<=x_1.2+1/\(cV x (x_1.2+1)=true->0<(x_1.1++[(v0.1,if af v0.2=0 then aa v0.2 else (0:Int))]).length)/\(∀ (r:cT),r∈x_1.1++[(v0.1,if af v0.2=0 then aa v0.2 else (0:Int))]->0<=r.2/\r.2<=256 * (x_1.2+1))/\aL (cV x (x_1.2+1)) (x_1.1++[(v0.1,if af v0.2=0 then aa v0.2 else (0:Int))]) (List.drop (x_1.2+1).toNat x)=aL false ([]:List cT) x)/\((x.length:Int) - (x_1.2+1)).toNat<((x.length:Int) - x_1.2).toNat)))/\(decide (x_1.2<(x.length:Int))=false->x_1.1=aL false ([]:List cT) x/\True)) (x.getD x_1.2.toNat (0,0,0,0,false))
theorem Am:tP:=by
 unfold tP;intro l ⟨hb,_⟩ ⟨hl,hf⟩;refine ⟨⟨by omega,by omega,hl,hf,by simp,by simp [cV],by simp,by simp [cV]⟩,fun ⟨out,i⟩ ⟨h0,h1,_,_,h2,h3,h4,h5⟩=>⟨fun hlt=>?_,fun hge=>?_⟩⟩
 ·have hlt:i<(l.length:Int):=of_decide_eq_true hlt;simp only at h0 h1 h2 h3 h4 h5 ⊢;rw [bh ((0,0,0,0,false):au) h0 hlt] at h5;simp only [aL] at h5;have hs:=hf _ (aH ((0,0,0,0,false):au) h0 hlt)
  have hlf:cV l (i+1)=(l.getD i.toNat (0,0,0,0,false)).2.2.2.2:=by
   unfold cV;rw [show i+1 - 1=i by omega];simp;omega
  rw [hlf,if_pos hs];have hz:=aW hs;have hL:aa (l.getD i.toNat (0,0,0,0,false)).2=1+(l.getD i.toNat (0,0,0,0,false)).2.1+(l.getD i.toNat (0,0,0,0,false)).2.2.1:=rfl;have hlfi:cV l i=(decide (0<i)&&(l.getD (i - 1).toNat (0,0,0,0,false)).2.2.2.2):=rfl;rw [<- hlfi];generalize l.getD i.toNat (0,0,0,0,false)=s at *;generalize aa s.2=L at *;simp only [am];refine ⟨h0,hlt,fun hc=>?_,fun hc=>⟨fun hp=>by have:=of_decide_eq_true hp; omega,fun hp=>by have:=of_decide_eq_true hp; omega,fun _=>by omega,fun hp=>?_,fun hp=>?_⟩⟩
  ·have hc:s.2.2.2.2=false:=by simpa using hc
   rw [hc] at h5 ⊢;simp only [Bool.false_eq_true,if_false] at h5;exact ⟨by omega,⟨by omega,by omega,hl,hf,by omega,fun h=>by simp at h,fun r hr=>by have:=h4 r hr; omega,h5⟩,by omega⟩
  ·have hc:s.2.2.2.2=true:=by simpa using hc
   rw [hc,hp] at h5;simp only [if_true] at h5;rw [hc];have hlen:=h3 hp;have hlast:=h4 _ (aH ((0,0):cT) (xs:=out) (i:=(out.length:Int) - 1) (by omega) (by omega));have e:((out.length:Int) - 1).toNat=out.length - 1:=by omega
   rw [e] at hlast ⊢;have hbump:out.set (out.length - 1) ((out.getD (out.length - 1) (0,0)).1,(out.getD (out.length - 1) (0,0)).2+L)=lN out L:=rfl;rw [hbump];rw [fM];refine ⟨by omega,by omega,by omega,by omega,trivial,by omega,by omega,by omega,by omega,by omega,⟨by omega,by omega,hl,hf,by omega,fun _=>hlen,fun r hr=>?_,h5⟩,by omega⟩;rcases List.mem_or_eq_of_mem_set hr with hr | rfl
   ·have:=h4 r hr; omega
   ·simp only; omega
  ·have hc:s.2.2.2.2=true:=by simpa using hc
   rw [hc,hp] at h5;simp only [if_true,Bool.false_eq_true,if_false] at h5;rw [hc];unfold aJ;simp only [List.length_append,List.length_cons,List.length_nil];refine ⟨trivial,by omega,by omega,⟨by omega,by omega,hl,hf,by omega,fun _=>by omega,fun r hr=>?_,h5⟩,by omega⟩;rcases List.mem_append.1 hr with hr | hr
   ·have:=h4 r hr; omega
   ·simp only [List.mem_singleton] at hr;subst hr;simp only;omega
 ·have hge:¬ i<(l.length:Int):=of_decide_eq_false hge;simp only at h5;rw [b7 hge] at h5;exact ⟨h5,trivial⟩
theorem tX:DY.ok Tryz.prog 213:=aD (ann:=E7) (ae tW ap) Tryz.func213 (by kernel_rfl) Am
def an (a:List Int):List cT×Int:=if (ak a).2.2≠0 then ([],(ak a).2.2) else (aL false [] (ac a).1,0)
def A1:Spec:={ Ts:=[.arr bj],Rs:=[.own 105 jm,.dat ty_I],pre:=fun _=>True,F:=an }
def rx:Prop :=
  ∀ (x:List Int),(x.length * 8<=aJ/\∀ (x_1:Int),x_1∈x->am .u64 x_1)->True->True/\(decide ((aR x).2≠0)=true->([]:List (Int×Int))=(an x).1/\(aR x).2=(an x).2/\True)/\(decide ((aR x).2≠0)=false->((aR x).1.length<=256/\∀ (s:au),s∈(aR x).1->af s.2=0)/\aL false ([]:List cT) (aR x).1=(an x).1/\0=(an x).2/\True)
theorem x7:rx:=by
 unfold rx;intro a _ _;have h:=bi (a:=a);have hlen:=eY a;unfold aR an;refine ⟨trivial,fun hc=>?_,fun hc=>?_⟩
 ·have hc:(ak a).2.2≠0:=by
   intro e;rw [if_neg (by omega)] at hc;simp at hc
  rw [if_pos hc,if_pos hc];exact ⟨rfl,rfl,trivial⟩
 ·have hc:(ak a).2.2=0:=by
   apply Classical.byContradiction;intro e;rw [if_pos e] at hc;simp [e] at hc
  obtain ⟨_,_,h3,h4,_,_,h5⟩:=h hc;rw [if_neg (by omega),if_neg (by omega)];rw [h3] at h5;exact ⟨⟨hlen,fun s hs=>(h5 s hs).2⟩,rfl,rfl,trivial⟩
theorem jS:A1.ok Tryz.prog 154:=aD (ann:=co) (ae mj (ae tX ap)) Tryz.func154 (by kernel_rfl) x7
def aT (a:List Int) (at_ n:Int):List Int:=if 0<n then (eB a at_ n 0 n).set at_.toNat (aB (0,n - 1,0,true)) else a
def hY (a:List Int) (at_ n:Int):Prop:=0<=at_/\0<=n/\at_+n<=a.length/\a.length<=256
theorem uy {a:List Int} {at_ n v:Int} (h:hY a at_ n):gZ a at_ n v=(eB a at_ n v n,0):=by
 obtain ⟨h1,h2,h3,h4⟩:=h
 have:em a.length n [at_]=0:=by
  rw [Aw,if_neg (by omega),if_pos];rw [m6];omega
 unfold gZ;rw [if_pos this]
def KR:Spec:={ Ts:=[.arr bj,ty_I,ty_I],Rs:=[.own 45 bj],pre:=fun ((a,at_,n):List Int×Int×Int)=>hY a at_ n/\1<=n,F:=fun ((a,at_,n):List Int×Int×Int)=>aT a at_ n }
def Fq:Prop :=
  ∀ (x:List Int×Int×Int),(x.1.length * 8<=aJ/\∀ (x_1:Int),x_1∈x.1->am .u64 x_1)/\am .i64 x.2.1/\am .i64 x.2.2->hY x.1 x.2.1 x.2.2/\1<=x.2.2->(decide (x.2.2=0)=true->False)/\(decide (x.2.2=0)=false->am .i64 (x.2.2 - 1)/\True/\True/\0<=x.2.1/\x.2.1<(↑(gZ x.1 x.2.1 x.2.2 0).1.length:Int)/\x.2.1.toNat<(gZ x.1 x.2.1 x.2.2 0).1.length/\(gZ x.1 x.2.1 x.2.2 0).1.set x.2.1.toNat (if af (0,x.2.2 - 1,0,true)=0 then aB (0,x.2.2 - 1,0,true) else (0:Int))=aT x.1 x.2.1 x.2.2/\True)
theorem Ip:Fq:=by
 unfold Fq;intro ⟨a,at_,n⟩ _ ⟨hp,h1⟩;simp only at hp h1 ⊢;rw [uy hp];obtain ⟨p1,p2,p3,p4⟩:=hp;have hf:af (0,n - 1,0,true)=0:=by simp [af,aa]; omega
 have hl:=fJ a at_ n 0 n p1 p3 p2 (by omega);rw [if_pos hf];have hE:aT a at_ n=(eB a at_ n 0 n).set at_.toNat (aB (0,n - 1,0,true)):=by unfold aT; rw [if_pos (by omega)]
 rw [hE];simp only [am];exact ⟨fun h=>by have:=of_decide_eq_true h; omega,fun _=>⟨by omega,trivial,trivial,by omega,by omega,by omega,trivial,trivial⟩⟩
theorem Lc:KR.ok Tryz.prog 215:=aD (ann:=co) (ae iz (ae mh ap)) Tryz.func215 (by kernel_rfl) Ip
def KQ:Spec:={ Ts:=[.arr bj,ty_I,ty_I],Rs:=[.dat (.arr bj)],al:=true,pre:=fun ((a,at_,n):List Int×Int×Int)=>hY a at_ n,F:=fun ((a,at_,n):List Int×Int×Int)=>aT a at_ n }
def Fp:Prop :=
  ∀ (x:List Int×Int×Int),(x.1.length * 8<=aJ/\∀ (x_1:Int),x_1∈x.1->am .u64 x_1)/\am .i64 x.2.1/\am .i64 x.2.2->hY x.1 x.2.1 x.2.2->(decide (x.2.2=0)=true->x.1=aT x.1 x.2.1 x.2.2/\True)/\(decide (x.2.2=0)=false->am .i64 (x.2.2 - 1)/\True/\True/\0<=x.2.1/\x.2.1<(↑(gZ x.1 x.2.1 x.2.2 0).1.length:Int)/\x.2.1.toNat<(gZ x.1 x.2.1 x.2.2 0).1.length/\(gZ x.1 x.2.1 x.2.2 0).1.set x.2.1.toNat (if af (0,x.2.2 - 1,0,true)=0 then aB (0,x.2.2 - 1,0,true) else (0:Int))=aT x.1 x.2.1 x.2.2/\True)
theorem Io:Fp:=by
 unfold Fp;intro ⟨a,at_,n⟩ _ hp;simp only at hp ⊢;rw [uy hp];obtain ⟨p1,p2,p3,p4⟩:=hp;refine ⟨fun h=>?_,fun h=>?_⟩
 ·have h:=of_decide_eq_true h;unfold aT;rw [if_neg (by omega)];exact ⟨rfl,trivial⟩
 ·have h:=of_decide_eq_false h;have hf:af (0,n - 1,0,true)=0:=by simp [af,aa]; omega
  have hl:=fJ a at_ n 0 n p1 p3 p2 (by omega);rw [if_pos hf];have hE:aT a at_ n=(eB a at_ n 0 n).set at_.toNat (aB (0,n - 1,0,true)):=by unfold aT; rw [if_pos (by omega)]
  rw [hE];simp only [am];exact ⟨by omega,trivial,trivial,by omega,by omega,by omega,trivial,trivial⟩
theorem Lb:KQ.ok Tryz.prog 215:=aD (ann:=co) (ae iz (ae mh ap)) Tryz.func215 (by kernel_rfl) Io
def cE (a:List Int):List Int×Int:=if (ak a).2.2≠0 then ([],(ak a).2.2) else ((aL false [] (ac a).1).foldl (fun a r=>aT a r.1 r.2) a,0)
theorem sq {a:List Int} {at_ n:Int} (h:hY a at_ n):(aT a at_ n).length=a.length:=by
 obtain ⟨p1,p2,p3,p4⟩:=h;unfold aT;split
 ·rw [List.length_set];exact fJ a at_ n 0 n p1 p3 p2 (by omega)
 ·rfl
def fk:Int->Int->List au->Prop
 | s,e,[]=>s=e
 | s,e,x::r=>x.1=s/\1<=aa x.2/\fk (s+aa x.2) e r
theorem ou (at_:Int) (l:List Int) (r:List au) (h:spotsS at_ l=some r):fk at_ (at_+l.length) r:=by
 induction at_,l using spotsS.induct generalizing r with
 | case1 at_ =>
  simp only [spotsS,Option.some.injEq] at h;subst h;simp [fk]
 | case2 at_ v l hv ih =>
  rw [cL hv.1 hv.2] at h;obtain ⟨r',hr,rfl⟩:=Option.map_eq_some_iff.1 h;have hl:=dU hv.1;have h2:=ih r' hr;refine ⟨rfl,hl.1,?_⟩
  have e:at_+aa (aU v)+(((v::l).drop (aa (aU v)).toNat).length:Nat)=at_+((v::l).length:Nat):=by
   rw [List.length_drop];have:=hv.2;omega
  rw [e] at h2;exact h2
 | case3 at_ v l hv =>
  rw [eH hv] at h;cases h
theorem fE {a:List Int} (h:(ac a).2=0):fk 0 a.length (ac a).1:=by
 unfold ac at h ⊢;split at h
 ·simp at h
 rename_i cl;rw [if_neg cl];cases e:spotsS 0 a with
 | none=>rw [e] at h; simp at h
 | some l =>
  have:=ou 0 a l e;rw [Int.zero_add] at this;exact this
def mt (n:Int) (l:List cT):Prop:=∀ r∈l,0<=r.1/\1<=r.2/\r.1+r.2<=n
theorem pp:∀ (l:List au) (s e:Int) (p:Bool) (out:List cT),fk s e l->0<=s->mt s out->(p=true->0<out.length/\(out.getD (out.length - 1) (0,0)).1+(out.getD (out.length - 1) (0,0)).2=s)->mt e (aL p out l)/\s<=e
 | [],s,e,p,out,ht,h0,ho,_=>by
  have:s=e:=ht;subst this;exact ⟨ho,Int.le_refl _⟩
 | x::l,s,e,p,out,⟨h1,h2,h3⟩,h0,ho,hp=>by
  simp only [aL];have up:mt (s+aa x.2) out:=fun r hr=>by have:=ho r hr; omega
  cases hf:x.2.2.2.2
  ·have ih:=pp l _ e false out h3 (by omega) up (fun h=>by cases h);simp only [Bool.false_eq_true,if_false];exact ⟨ih.1,by omega⟩
  ·simp only [if_true];cases p
   ·have ih:=pp l _ e true (out++[(x.1,aa x.2)]) h3 (by omega) (fun r hr=>by
     rcases List.mem_append.1 hr with hr | hr
     ·exact up r hr
     ·simp only [List.mem_singleton] at hr;subst hr;simp only;omega) (fun _=>⟨by simp,by simp; omega⟩)
    simp only [Bool.false_eq_true,if_false];exact ⟨ih.1,by omega⟩
   ·obtain ⟨q1,q2⟩:=hp rfl;have hlast:=ho _ (aH ((0,0):cT) (xs:=out) (i:=(out.length:Int) - 1) (by omega) (by omega));rw [show ((out.length:Int) - 1).toNat=out.length - 1 by omega] at hlast
    have ih:=pp l _ e true (lN out (aa x.2)) h3 (by omega) (fun r hr=>by
     rcases List.mem_or_eq_of_mem_set hr with hr | rfl
     ·exact up r hr
     ·simp only
      omega) (fun _=>⟨by rw [fM]; exact q1,by
       rw [fM];unfold lN;simp [show out.length - 1<out.length by omega];simp [show out.length - 1<out.length by omega] at q2;omega⟩)
    simp only [if_true];exact ⟨ih.1,by omega⟩
theorem po:∀ (l:List au) (p:Bool) (out:List cT),(aL p out l).length<=out.length+l.length
 | [],_,_=>by simp [aL]
 | x::l,p,out=>by
  have h1:=po l x.2.2.2.2 (if x.2.2.2.2=true then (if p=true then lN out (aa x.2) else out++[(x.1,aa x.2)]) else out);simp only [aL,List.length_cons]
  have:(if x.2.2.2.2=true then (if p=true then lN out (aa x.2) else out++[(x.1,aa x.2)]) else out).length<=out.length+1:=by
   split
   ·split
    ·rw [fM]; omega
    ·simp
   ·omega
  omega
theorem mU {a:List Int} (h:(ac a).2=0):mt a.length (aL false [] (ac a).1)/\(aL false [] (ac a).1).length<=256:=by
 have h1:=pp _ 0 a.length false [] (fE h) (Int.le_refl _) (fun r hr=>by cases hr) (fun h=>by cases h);have h2:=po (ac a).1 false [];have h3:=eY a;exact ⟨h1.1,by simp at h2; omega⟩
def E6:Nat->Option LoopGen
 | 6=>some { rd:=[.own 19 105 jm,.own 0 45 bj],A:=fun ((g,b):List cT×List Int)=>{ cs:=[.own 0 45 bj,.dat 21 ty_I],inv:=fun ((a,i):List Int×Int)=>0<=i/\i<=g.length/\g.length<=256/\a.length<=256/\mt a.length g/\a=(g.take i.toNat).foldl (fun a r=>aT a r.1 r.2) b,mu:=fun ((_,i):List Int×Int)=>(g.length - i).toNat } }
 | _=>none
def DX:Spec:={ Ts:=[.arr bj],Rs:=[.own 45 bj,.dat ty_I],pre:=fun _=>True,F:=cE }
def tO:Prop :=
  ∀ (x:List Int),(x.length * 8<=aJ/\∀ (x_1:Int),x_1∈x->am .u64 x_1)->True->True/\(decide ((aR x).2≠0)=true->([]:List Int)=(cE x).1/\(aR x).2=(cE x).2/\True)/\(decide ((aR x).2≠0)=false->True/\((aR x).1.length<=256/\∀ (s:au),s∈(aR x).1->af s.2=0)/\((0:Int)<=0/\0<=(↑(aL false ([]:List cT) (aR x).1).length:Int)/\(aL false ([]:List cT) (aR x).1).length<=256/\x.length<=256/\mt (x.length:Int) (aL false ([]:List cT) (aR x).1)/\x=List.foldl (fun (a:List Int) (r:cT)=>aT a r.1 r.2) x (List.take (Int.toNat 0) (aL false ([]:List cT) (aR x).1)))/\∀ (x_1:List Int×Int),0<=x_1.2/\x_1.2<=(↑(aL false ([]:List cT) (aR x).1).length:Int)/\(aL false ([]:List cT) (aR x).1).length<=256/\x_1.1.length<=256/\mt (x_1.1.length:Int) (aL false ([]:List cT) (aR x).1)/\x_1.1=List.foldl (fun (a:List Int) (r:cT)=>aT a r.1 r.2) x (List.take x_1.2.toNat (aL false ([]:List cT) (aR x).1))->(decide (x_1.2<(↑(aL false ([]:List cT) (aR x).1).length:Int))=true->0<=x_1.2/\x_1.2<(↑(aL false ([]:List cT) (aR x).1).length:Int)/\x_1.2.toNat<(aL false ([]:List cT) (aR x).1).length/\(hY x_1.1 ((aL false ([]:List cT) (aR x).1).getD x_1.2.toNat (0,0)).1 ((aL false ([]:List cT) (aR x).1).getD x_1.2.toNat (0,0)).2/\1<=((aL false ([]:List cT) (aR x).1).getD x_1.2.toNat (0,0)).2)/\am .i64 (x_1.2+1)/\(0<=x_1.2+1/\x_1.2+1<=(↑(aL false ([]:List cT) (aR x).1).length:Int)/\(aL false ([]:List cT) (aR x).1).length<=256/\(aT x_1.1 ((aL false ([]:List cT) (aR x).1).getD x_1.2.toNat (0,0)).1 ((aL false ([]:List cT) (aR x).1).getD x_1.2.toNat (0,0)).2).length<=256/\mt (↑(aT x_1.1 ((aL false ([]:List cT) (aR x).1).getD x_1.2.toNat (0,0)).1 ((aL false ([]:List cT) (aR x).1).getD x_1.2.toNat (0,0)).2).length:Int) (aL false ([]:List cT) (aR x).1)/\aT x_1.1 ((aL false ([]:List cT) (aR x).1).getD x_1.2.toNat (0,0)).1 ((aL false ([]:List cT) (aR x).1).getD x_1.2.toNat (0,0)).2=List.foldl (fun (a:List Int) (r:cT)=>aT a r.1 r.2) x (List.take (x_1.2+1).toNat (aL false ([]:List cT) (aR x).1)))/\((↑(aL false ([]:List cT) (aR x).1).length:Int) - (x_1.2+1)).toNat<((↑(aL false ([]:List cT) (aR x).1).length:Int) - x_1.2).toNat)/\(decide (x_1.2<(↑(aL false ([]:List cT) (aR x).1).length:Int))=false->x_1.1=(cE x).1/\0=(cE x).2/\True))
theorem Al:tO:=by
 unfold tO;intro a _ _;have h:=bi (a:=a);have hlen:=eY a;unfold aR cE;refine ⟨trivial,fun hc=>?_,fun hc=>?_⟩
 ·have hc:(ak a).2.2≠0:=by
   intro e;rw [if_neg (by omega)] at hc;simp at hc
  rw [if_pos hc,if_pos hc];exact ⟨rfl,rfl,trivial⟩
 ·have hc:(ak a).2.2=0:=by
   apply Classical.byContradiction;intro e;rw [if_pos e] at hc;simp [e] at hc
  obtain ⟨hal,_,h3,h4,_,_,h5⟩:=h hc;rw [if_neg (by omega),if_neg (by omega)];rw [h3] at h5;obtain ⟨g1,g2⟩:=mU h4;simp only;generalize aL false [] (ac a).1=g at *;refine ⟨trivial,⟨hlen,fun s hs=>(h5 s hs).2⟩,⟨by omega,by omega,g2,hal,g1,rfl⟩,fun ⟨b,i⟩ ⟨q0,q1,_,q2,q3,q4⟩=>⟨fun hlt=>?_,fun hge=>?_⟩⟩
  ·have hlt:i<(g.length:Int):=of_decide_eq_true hlt;simp only at q0 q1 q2 q3 q4 ⊢;have e:=bB ((0,0):cT) q0 hlt;have hr:=q3 _ (aH ((0,0):cT) q0 hlt);rw [e,List.foldl_append,<- q4];generalize g.getD i.toNat (0,0)=r at *;have hp:hY b r.1 r.2:=⟨hr.1,by omega,hr.2.2,q2⟩;rw [sq hp];simp only [am];exact ⟨q0,hlt,by omega,⟨hp,hr.2.1⟩,by omega,⟨by omega,by omega,g2,q2,q3,rfl⟩,by omega⟩
  ·have hge:¬ i<(g.length:Int):=of_decide_eq_false hge;simp only at q4;rw [cA hge] at q4;exact ⟨q4,trivial,trivial⟩
theorem Ep:DX.ok Tryz.prog 156:=aD (ann:=E6) (ae mj (ae bI (ae tX (ae Lc ap)))) Tryz.func156 (by kernel_rfl) Al
def bR (l:List au) (at_:Int) (fr:Bool):au×Bool :=
 if ag (fun s:au=>decide (s.1=at_)&&s.2.2.2.2 == fr) 0 l<0 then ((0,0,0,0,false),false) else (l.getD (ag (fun s:au=>decide (s.1=at_)&&s.2.2.2.2 == fr) 0 l).toNat (0,0,0,0,false),true)
def IZ:Spec:={ Ts:=[cF,.ref ty_I,.ref .bool],Rs:=[.dat .bool],pre:=fun _=>True,F:=fun ((s,at_,fr):au×Int×Bool)=>decide (s.1=at_)&&s.2.2.2.2 == fr }
def BC:Prop :=
  ∀ (x:(Int×Int×Int×Int×Bool)×Int×Bool),(am .i64 x.1.1/\am .i64 x.1.2.1/\am .i64 x.1.2.2.1/\am .i64 x.1.2.2.2.1/\True)/\am .i64 x.2.1/\True->True->(decide (x.1.1=x.2.1)&&x.1.2.2.2.2 == x.2.2)=(decide (x.1.1=x.2.1)&&x.1.2.2.2.2 == x.2.2)/\True
theorem Gq:BC:=by
 unfold BC;intro ⟨s,at_,fr⟩ _ _;simp
theorem Jx:IZ.ok Tryz.prog 252:=aD (ann:=co) ap Tryz.func252 (by kernel_rfl) Gq
def DZ:Spec:={ Ts:=[.arr cF,ty_I,.bool],Rs:=[.dat cF,.dat .bool],pre:=fun _=>True,F:=fun ((l,at_,fr):List au×Int×Bool)=>bR l at_ fr }
def tQ:Prop :=
  ∀ (x:List (Int×Int×Int×Int×Bool)×Int×Bool),(x.1.length * (8+(8+(8+(8+8))))<=aJ/\∀ (x_1:Int×Int×Int×Int×Bool),x_1∈x.1->am .i64 x_1.1/\am .i64 x_1.2.1/\am .i64 x_1.2.2.1/\am .i64 x_1.2.2.2.1/\True)/\am .i64 x.2.1/\True->True->(∀ (s:au),s∈x.1->(fun (_:Int×Int×Int×Int×Bool)=>True,fun (x_1:Int×Int×Int×Int×Bool)=>decide (x_1.1=x.2.1)&&x_1.2.2.2.2 == x.2.2).1 s)/\(decide (ag (fun (x_1:Int×Int×Int×Int×Bool)=>decide (x_1.1=x.2.1)&&x_1.2.2.2.2 == x.2.2) 0 x.1<0)=true->(0,0,0,0,false)=(bR x.1 x.2.1 x.2.2).1/\false=(bR x.1 x.2.1 x.2.2).2/\True)/\(decide (ag (fun (x_1:Int×Int×Int×Int×Bool)=>decide (x_1.1=x.2.1)&&x_1.2.2.2.2 == x.2.2) 0 x.1<0)=false->0<=ag (fun (x_1:Int×Int×Int×Int×Bool)=>decide (x_1.1=x.2.1)&&x_1.2.2.2.2 == x.2.2) 0 x.1/\ag (fun (x_1:Int×Int×Int×Int×Bool)=>decide (x_1.1=x.2.1)&&x_1.2.2.2.2 == x.2.2) 0 x.1<(x.1.length:Int)/\x.1.getD (ag (fun (x_1:Int×Int×Int×Int×Bool)=>decide (x_1.1=x.2.1)&&x_1.2.2.2.2 == x.2.2) 0 x.1).toNat (0,0,0,0,false)=(bR x.1 x.2.1 x.2.2).1/\true=(bR x.1 x.2.1 x.2.2).2/\True)
theorem An:tQ:=by
 unfold tQ;intro ⟨l,at_,fr⟩ _ _;simp only;have hlt:=dW (fun s:au=>decide (s.1=at_)&&s.2.2.2.2 == fr) (0,0,0,0,false) l 0 (by omega);unfold bR;refine ⟨fun _ _=>trivial,fun h=>?_,fun h=>?_⟩
 ·rw [if_pos (of_decide_eq_true h)];exact ⟨rfl,rfl,trivial⟩
 ·rw [if_neg (of_decide_eq_false h)];have h1:0<=ag (fun s:au=>decide (s.1=at_)&&s.2.2.2.2 == fr) 0 l:=Int.not_lt.1 (of_decide_eq_false h);have h2:ag (fun s:au=>decide (s.1=at_)&&s.2.2.2.2 == fr) 0 l<(l.length:Int):=by omega
  exact ⟨h1,h2,rfl,rfl,trivial⟩
theorem Eq:DZ.ok Tryz.prog 216:=aD (ann:=co) (ae nG (ae Jx ap)) Tryz.func216 (by kernel_rfl) An
theorem ux (l:List au) (at_:Int) (fr:Bool) (h:(bR l at_ fr).2=true):(bR l at_ fr).1∈l/\(bR l at_ fr).1.1=at_/\(bR l at_ fr).1.2.2.2.2=fr:=by
 have hlt:=dW (fun s:au=>decide (s.1=at_)&&s.2.2.2.2 == fr) (0,0,0,0,false) l 0 (by omega);have his:=dX (fun s:au=>decide (s.1=at_)&&s.2.2.2.2 == fr) (0,0,0,0,false) l 0;unfold bR at h ⊢;split at h
 ·cases h
 ·rename_i hn;rw [if_neg hn];have his:=his (by omega) (by omega);rw [Int.sub_zero] at his;simp only [Bool.and_eq_true,decide_eq_true_eq,beq_iff_eq] at his;exact ⟨aH _ (by omega) (by omega),his.1,his.2⟩
theorem zb {a:List Int}:(aR a).2=(ak a).2.2:=by
 unfold aR;split
 ·rfl
 ·simp only; omega
theorem xr {a:List Int} (h:(ak a).2.2=0):(aR a).1=(ac a).1/\a.length<=256/\∀ s∈(ac a).1,dg a s/\af s.2=0:=by
 obtain ⟨h1,_,h3,_,_,_,h5⟩:=bi h;rw [h3] at h5;unfold aR;rw [if_neg (by omega)];exact ⟨rfl,h1,h5⟩
def KT:Spec:={ Ts:=[.arr bj,bj],Rs:=[.dat ty_I],pre:=fun _=>True,F:=fun ((l,v):List Int×Int)=>ag (fun x=>decide (v=x)) 0 l }
def LO:Nat->Option LoopGen
 | 2=>some { rd:=[.dat 0 (.arr bj),.dat 1 bj],A:=fun ((l,v):List Int×Int)=>{ cs:=[.dat 8 ty_I],inv:=fun (i:Int)=>0<=i/\i<=l.length/\ag (fun x=>decide (v=x)) i (l.drop i.toNat)=ag (fun x=>decide (v=x)) 0 l,mu:=fun (i:Int)=>(l.length - i).toNat } }
 | _=>none
def Fs:Prop :=
  ∀ (x:List Int×Int),(x.1.length * 8<=aJ/\∀ (x_1:Int),x_1∈x.1->am .u64 x_1)/\am .u64 x.2->True->((0:Int)<=0/\0<=(x.1.length:Int)/\ag (fun (x_1:Int)=>decide (x.2=x_1)) 0 (List.drop (Int.toNat 0) x.1)=ag (fun (x_1:Int)=>decide (x.2=x_1)) 0 x.1)/\∀ (x_1:Int),0<=x_1/\x_1<=(x.1.length:Int)/\ag (fun (x_2:Int)=>decide (x.2=x_2)) x_1 (List.drop x_1.toNat x.1)=ag (fun (x_2:Int)=>decide (x.2=x_2)) 0 x.1->(decide (x_1<(x.1.length:Int))=true->0<=x_1/\x_1<(x.1.length:Int)/\(decide (x.2=x.1.getD x_1.toNat 0)=true->x_1=ag (fun (x_2:Int)=>decide (x.2=x_2)) 0 x.1/\True)/\(decide (x.2=x.1.getD x_1.toNat 0)=false->am .i64 (x_1+1)/\(0<=x_1+1/\x_1+1<=(x.1.length:Int)/\ag (fun (x_2:Int)=>decide (x.2=x_2)) (x_1+1) (List.drop (x_1+1).toNat x.1)=ag (fun (x_2:Int)=>decide (x.2=x_2)) 0 x.1)/\((x.1.length:Int) - (x_1+1)).toNat<((x.1.length:Int) - x_1).toNat))/\(decide (x_1<(x.1.length:Int))=false->(-1)=ag (fun (x_2:Int)=>decide (x.2=x_2)) 0 x.1/\True)
theorem Iq:Fs:=by
 unfold Fs;intro ⟨l,n⟩ ⟨⟨hb,_⟩,_⟩ _;unfold aJ at hb;refine ⟨⟨by omega,by omega,rfl⟩,fun i ⟨h0,h1,h2⟩=>⟨fun hlt=>?_,fun hge=>?_⟩⟩
 ·have hlt:i<(l.length:Int):=by simpa using hlt
  simp only at *;rw [bh (0:Int) h0 hlt] at h2;simp only [ag] at h2;simp only [am];refine ⟨h0,hlt,fun hc=>?_,fun hc=>?_⟩
  ·rw [if_pos hc] at h2;exact ⟨h2,trivial⟩
  ·rw [if_neg (by rw [hc]; simp)] at h2;exact ⟨by omega,⟨by omega,by omega,h2⟩,by omega⟩
 ·rw [b7 (by simpa using hge)] at h2;exact ⟨h2,trivial⟩
theorem Le:KT.ok Tryz.prog 74:=aD (ann:=LO) ap Tryz.func74 (by kernel_rfl) Iq
def KV:Spec:={ Ts:=[.arr bj,bj],Rs:=[.dat .bool],pre:=fun _=>True,F:=fun ((l,v):List Int×Int)=>l.any fun x=>decide (v=x) }
def Fu:Prop :=
  ∀ (x:List Int×Int),(x.1.length * 8<=aJ/\∀ (x_1:Int),x_1∈x.1->am .u64 x_1)/\am .u64 x.2->True->True/\(decide (0<=ag (fun (x_1:Int)=>decide (x.2=x_1)) 0 x.1)=x.1.any fun (x_1:Int)=>decide (x.2=x_1))/\True
theorem Is:Fu:=by
 unfold Fu;intro ⟨l,v⟩ _ _;exact ⟨trivial,cS _ l 0 (by omega),trivial⟩
theorem FK:KV.ok Tryz.prog 16:=aD (ann:=co) (ae Le ap) Tryz.func16 (by kernel_rfl) Is
def ir (a:List Int) (at_:Int) (h:dZ):List Int×Int :=
 if af h≠0 then ([],af h) else if h.2.2.2=true then ([],3) else if (ak a).2.2≠0 then ([],(ak a).2.2)
 else if (bR (ac a).1 at_ true).2=false then ([],5) else if aa (bR (ac a).1 at_ true).1.2<aa h then ([],7)
 else (aT ((eB a at_ (aa (bR (ac a).1 at_ true).1.2) 0 (aa (bR (ac a).1 at_ true).1.2)).set at_.toNat (aB h)) (at_+aa h) (aa (bR (ac a).1 at_ true).1.2 - aa h),0)
def DV:Spec:={ Ts:=[.arr bj,ty_I,gF],Rs:=[.dat (.arr bj),.dat ty_I],al:=true,pre:=fun _=>True,F:=fun ((a,at_,h):List Int×Int×dZ)=>ir a at_ h }
def tM:Prop :=
  ∀ (x:List Int×Int×Int×Int×Int×Bool),(fun (v1:type_of% (ir x.1 x.2.1 x.2.2))=>(fun (v0:type_of% (bR (aR x.1).1 x.2.1 true))=>(x.1.length * 8<=aJ/\∀ (x_1:Int),x_1∈x.1->am .u64 x_1)/\am .i64 x.2.1/\am .i64 x.2.2.1/\am .i64 x.2.2.2.1/\am .i64 x.2.2.2.2.1/\True->True->True/\(decide (af x.2.2≠0)=true->([]:List Int)=v1.1/\af x.2.2=v1.2/\True)/\(decide (af x.2.2≠0)=false->(x.2.2.2.2.2=true->([]:List Int)=v1.1/\3=v1.2/\True)/\(x.2.2.2.2.2=false->True/\(decide ((aR x.1).2≠0)=true->([]:List Int)=v1.1/\(aR x.1).2=v1.2/\True)/\(decide ((aR x.1).2≠0)=false->True/\((!v0.2)=true->([]:List Int)=v1.1/\5=v1.2/\True)/\((!v0.2)=false->True/\True/\(decide ((if af v0.1.2=0 then aa v0.1.2 else (0:Int))<if af x.2.2=0 then aa x.2.2 else (0:Int))=true->([]:List Int)=v1.1/\7=v1.2/\True)/\(decide ((if af v0.1.2=0 then aa v0.1.2 else (0:Int))<if af x.2.2=0 then aa x.2.2 else (0:Int))=false->True/\True/\0<=x.2.1/\x.2.1<(↑(gZ x.1 x.2.1 (if af v0.1.2=0 then aa v0.1.2 else (0:Int)) 0).1.length:Int)/\x.2.1.toNat<(gZ x.1 x.2.1 (if af v0.1.2=0 then aa v0.1.2 else (0:Int)) 0).1.length/\True/\am .i64 (x.2.1+if af x.2.2=0 then aa x.2.2 else (0:Int))/\True/\True/\am .i64 ((if af v0.1.2=0 then aa v0.1.2 else (0:Int)) - if af x.2.2=0 then aa x.2.2 else (0:Int))/\hY ((gZ x.1 x.2.1 (if af v0.1.2=0 then aa v0.1.2 else (0:Int)) 0).1.set x.2.1.toNat (if af x.2.2=0 then aB x.2.2 else (0:Int))) (x.2.1+if af x.2.2=0 then aa x.2.2 else (0:Int)) ((if af v0.1.2=0 then aa v0.1.2 else (0:Int)) - if af x.2.2=0 then aa x.2.2 else (0:Int))/\aT ((gZ x.1 x.2.1 (if af v0.1.2=0 then aa v0.1.2 else (0:Int)) 0).1.set x.2.1.toNat (if af x.2.2=0 then aB x.2.2 else (0:Int))) (x.2.1+if af x.2.2=0 then aa x.2.2 else (0:Int)) ((if af v0.1.2=0 then aa v0.1.2 else (0:Int)) - if af x.2.2=0 then aa x.2.2 else (0:Int))=v1.1/\0=v1.2/\True)))))) (bR (aR x.1).1 x.2.1 true)) (ir x.1 x.2.1 x.2.2)
theorem Aj:tM:=by
 unfold tM;intro ⟨a,at_,h⟩ _ _
 have hF:ir a at_ h=if af h≠0 then ([],af h) else if h.2.2.2=true then ([],3) else if (ak a).2.2≠0 then ([],(ak a).2.2)
  else if (bR (ac a).1 at_ true).2=false then ([],5) else if aa (bR (ac a).1 at_ true).1.2<aa h then ([],7)
  else (aT ((eB a at_ (aa (bR (ac a).1 at_ true).1.2) 0 (aa (bR (ac a).1 at_ true).1.2)).set at_.toNat (aB h)) (at_+aa h) (aa (bR (ac a).1 at_ true).1.2 - aa h),0):=rfl
 simp only;rw [zb];refine ⟨trivial,fun hc=>?_,fun hc=>⟨fun h2=>?_,fun h2=>⟨trivial,fun h3=>?_,fun h3=>?_⟩⟩⟩
 ·have hc:af h≠0:=by simpa using hc
  rw [hF,if_pos hc];exact ⟨rfl,rfl,trivial⟩
 ·have hc:af h=0:=by simpa using hc
  rw [hF,if_neg (by omega),if_pos h2];exact ⟨rfl,rfl,trivial⟩
 ·have hc:af h=0:=by simpa using hc
  have h3:(ak a).2.2≠0:=by simpa using h3
  rw [hF,if_neg (by omega),if_neg (by rw [h2]; simp),if_pos h3];exact ⟨rfl,rfl,trivial⟩
 have hc:af h=0:=by simpa using hc
 have h3:(ak a).2.2=0:=by simpa using h3
 obtain ⟨e1,hal,hsp⟩:=xr h3;have hfi:=ux (ac a).1 at_ true;rw [if_neg (by omega),if_neg (by rw [h2]; simp),if_neg (by omega)] at hF;rw [e1,hF];refine ⟨trivial,fun h4=>?_,fun h4=>⟨trivial,trivial,fun h5=>?_,fun h5=>?_⟩⟩
 ·have h4:(bR (ac a).1 at_ true).2=false:=by simpa using h4
  rw [if_pos h4];exact ⟨rfl,rfl,trivial⟩
 ·have h4:(bR (ac a).1 at_ true).2=true:=by simpa using h4
  obtain ⟨q1,q2,q3⟩:=hfi h4;have hh:=(hsp _ q1).2;rw [if_pos hh,if_pos hc] at h5;have hn4:¬ (bR (ac a).1 at_ true).2=false:=by rw [h4]; simp
  rw [if_neg hn4,if_pos (of_decide_eq_true h5)];exact ⟨rfl,rfl,trivial⟩
 ·have h4:(bR (ac a).1 at_ true).2=true:=by simpa using h4
  obtain ⟨q1,q2,q3⟩:=hfi h4;obtain ⟨hin,hh⟩:=hsp _ q1;rw [if_pos hh,if_pos hc] at h5;have h5:=of_decide_eq_false h5;have hn4:¬ (bR (ac a).1 at_ true).2=false:=by rw [h4]; simp
  rw [if_neg hn4,if_neg h5];have hz:=aW hc;have hn:aa h=1+h.1+h.2.1:=rfl;have hL:aa (bR (ac a).1 at_ true).1.2=1+(bR (ac a).1 at_ true).1.2.1+(bR (ac a).1 at_ true).1.2.2.1:=rfl;unfold dg at hin;rw [if_pos hh,if_pos hc,if_pos hc];rw [q2] at hin;generalize aa (bR (ac a).1 at_ true).1.2=L at *;have hp:hY a at_ L:=⟨by omega,by omega,by omega,hal⟩;have hl:=fJ a at_ L 0 L (by omega) (by omega) (by omega) (by omega);rw [uy hp];simp only [am];exact ⟨trivial,trivial,by omega,by omega,by omega,trivial,by omega,trivial,trivial,by omega,⟨by omega,by omega,by rw [List.length_set]; omega,by rw [List.length_set]; omega⟩,trivial,trivial,trivial⟩
theorem Eo:DV.ok Tryz.prog 157:=aD (ann:=co) (ae iz (ae mj (ae Eq (ae tW (ae mh (ae Lb ap)))))) Tryz.func157 (by kernel_rfl) Aj
end
section
open Go
set_option maxRecDepth 100000
set_option maxHeartbeats 1000000
end
section
open Go
set_option maxRecDepth 100000
set_option maxHeartbeats 1000000
theorem H8 (out:List cT) (k a b:Int):lN (out++[(k,a)]) b=out++[(k,a+b)]:=by
 unfold lN;simp
def iO (at_:Int):Int->List au->Int
 | r,[]=>r
 | r,s::l=>iO at_ (if s.1=at_/\s.2.2.2.2=true then aa s.2 else r) l
theorem tt (at_:Int):∀ (l:List au) (r:Int),(∀ s∈l,s.1≠at_)->iO at_ r l=r
 | [],_,_=>rfl
 | s::l,r,h=>by
  simp only [iO];rw [if_neg (fun e=>h s (by simp) e.1)];exact tt at_ l r (fun t ht=>h t (by simp [ht]))
theorem Bh (at_:Int):∀ (l:List au) (r:Int),(∀ s∈l,¬ (s.1=at_/\s.2.2.2.2=true))->iO at_ r l=r
 | [],_,_=>rfl
 | s::l,r,h=>by
  simp only [iO];rw [if_neg (h s (by simp))];exact Bh at_ l r (fun t ht=>h t (by simp [ht]))
theorem tr {at_:Int}:∀ (l:List au) (r:Int) (s:au),l.Pairwise (fun s t=>s.1<t.1)->s∈l->s.1=at_->s.2.2.2.2=true->iO at_ r l=aa s.2
 | t::l,r,s,hs,hm,h1,h2=>by
  obtain ⟨p1,p2⟩:=List.pairwise_cons.1 hs;simp only [iO];rcases List.mem_cons.1 hm with rfl | hm
  ·rw [if_pos ⟨h1,h2⟩];exact tt at_ l _ (fun u hu e=>by have:=p1 u hu; omega)
  ·exact tr l _ s p2 hm h1 h2
theorem Cp {l:List au} {at_:Int} {fr:Bool} (h:(bR l at_ fr).2=false):∀ s∈l,¬ (s.1=at_/\s.2.2.2.2=fr):=by
 intro s hs ⟨h1,h2⟩;have ha:=cS (fun s:au=>decide (s.1=at_)&&s.2.2.2.2 == fr) l 0 (by omega);have:(l.any fun s:au=>decide (s.1=at_)&&s.2.2.2.2 == fr)=true:=List.any_eq_true.2 ⟨s,hs,by simp [h1,h2]⟩;rw [this] at ha;have ha:=of_decide_eq_true ha;unfold bR at h;rw [if_neg (by omega)] at h;cases h
theorem za {l:List au} (hs:l.Pairwise (fun s t=>s.1<t.1)) (at_:Int):(bU at_ l).2=(bR l at_ false).2/\((bR l at_ false).2=true->(bU at_ l).1=(bR l at_ false).1.2):=by
 cases h:(bR l at_ false).2
 ·rcases gh at_ l with e | ⟨s,h1,h2,h3,_⟩
  ·rw [e]; exact ⟨rfl,fun h=>by cases h⟩
  ·exact absurd ⟨h2,h3⟩ (Cp h s h1)
 ·obtain ⟨q1,q2,q3⟩:=ux l at_ false h;have:=nN hs q1 q3;rw [q2] at this;rw [this];exact ⟨rfl,fun _=>rfl⟩
theorem HW {b:List Int} {at_ n v k:Int} {i:Nat} (x:Int) (h:i<at_.toNat) (hl:at_.toNat<=b.length):eB (b.set i x) at_ n v k=(eB b at_ n v k).set i x:=by
 unfold eB lK;rw [List.take_set,List.drop_set,if_pos (by omega),List.set_append,if_pos (by rw [List.length_take]; omega)]
theorem pB {b:List Int} {at_ n:Int} {i:Nat} (x:Int) (h:i<at_.toNat) (hl:at_.toNat<=b.length):aT (b.set i x) at_ n=(aT b at_ n).set i x:=by
 unfold aT;split
 ·rw [HW x h hl,List.set_comm _ _ (by omega)]
 ·rfl
theorem HX {b:List Int} {at_ n:Int} {i:Nat} (h:at_.toNat<=i) (h2:i<at_.toNat+n.toNat) (hl:at_.toNat+n.toNat<=b.length):(eB b at_ n 0 n).getD i 0=0:=by
 unfold eB lK;have e:(List.take at_.toNat b).length=at_.toNat:=by rw [List.length_take]; omega
 rw [List.getD_eq_getElem?_getD,List.getElem?_append_right (by omega),e,List.getElem?_append_left (by simp; omega)];rw [List.take_of_length_le (by simp),List.getElem?_replicate];split <;> rfl
theorem zB {b:List Int} {at_ n:Int} {i:Nat} (h:i<at_.toNat) (hl:at_.toNat<=b.length):(aT b at_ n).getD i 0=b.getD i 0:=by
 unfold aT;split
 ·unfold eB lK;rw [List.getD_eq_getElem?_getD,List.getElem?_set_ne (by omega),List.getElem?_append_left (by rw [List.length_take]; omega),List.getElem?_take,if_pos h];rfl
 ·rfl
theorem Dz {a:List Int} {at_ L n:Int} (hp:hY a at_ L) (h1:1<=n) (h2:n<=L) (hw:Int) :
  (aT (aT a at_ L) (at_+n) (L - n)).set at_.toNat hw=aT ((eB a at_ L 0 L).set at_.toNat hw) (at_+n) (L - n) /\
  ∀ j,1<=j->j<n->((aT (aT a at_ L) (at_+n) (L - n)).set at_.toNat hw).getD (at_+j).toNat 0=0:=by
 obtain ⟨p1,p2,p3,p4⟩:=hp;have hl:=fJ a at_ L 0 L p1 p3 p2 (by omega);have hE:aT a at_ L=(eB a at_ L 0 L).set at_.toNat (aB (0,L - 1,0,true)):=by unfold aT; rw [if_pos (by omega)]
 rw [hE,pB _ (by omega) (by omega),pB _ (by omega) (by omega),List.set_set];refine ⟨rfl,fun j h3 h4=>?_⟩;rw [List.getD_eq_getElem?_getD,List.getElem?_set_ne (by omega),<- List.getD_eq_getElem?_getD,zB (by omega) (by omega)];exact HX (by omega) (by omega) (by omega)
def sk (h:dZ):Int:=if af h=0/\h.2.2.2=true then 3 else af h
def fD (e r n:Int):Int:=if e≠0 then e else if r=0 then 5 else if r<n then 7 else 0
theorem DA {a:List Int} (hz:(ak a).2.2=0) (at_:Int) (h:dZ) :
  ir a at_ h=(if fD (sk h) (iO at_ 0 (ac a).1) (aa h)≠0 then [] else aT ((eB a at_ (iO at_ 0 (ac a).1) 0 (iO at_ 0 (ac a).1)).set at_.toNat (aB h)) (at_+aa h) (iO at_ 0 (ac a).1 - aa h),fD (sk h) (iO at_ 0 (ac a).1) (aa h)) /\
  (fD (sk h) (iO at_ 0 (ac a).1) (aa h)=0->hY a at_ (iO at_ 0 (ac a).1)/\1<=aa h/\aa h<=iO at_ 0 (ac a).1/\af h=0):=by
 obtain ⟨_,hal,hsp⟩:=xr hz
 have hF:ir a at_ h=if af h≠0 then ([],af h) else if h.2.2.2=true then ([],3) else if (ak a).2.2≠0 then ([],(ak a).2.2)
  else if (bR (ac a).1 at_ true).2=false then ([],5) else if aa (bR (ac a).1 at_ true).1.2<aa h then ([],7)
  else (aT ((eB a at_ (aa (bR (ac a).1 at_ true).1.2) 0 (aa (bR (ac a).1 at_ true).1.2)).set at_.toNat (aB h)) (at_+aa h) (aa (bR (ac a).1 at_ true).1.2 - aa h),0):=rfl
 rw [hF];by_cases h1:af h=0
 ·rw [if_neg (by omega)];have hz1:=aW h1;have hn:aa h=1+h.1+h.2.1:=rfl;cases h2:h.2.2.2
  ·have e0:sk h=0:=by unfold sk; rw [h2,if_neg (by simp),h1]
   rw [e0,if_neg (by simp),if_neg (by omega)];cases h3:(bR (ac a).1 at_ true).2
   ·rw [Bh at_ _ 0 (Cp h3),if_pos rfl];have e1:fD 0 0 (aa h)=5:=rfl;rw [e1,if_pos (by omega)];exact ⟨rfl,fun h=>by omega⟩
   ·obtain ⟨q1,q2,q3⟩:=ux (ac a).1 at_ true h3;rw [tr _ 0 _ (bV a) q1 q2 q3,if_neg (by simp)];obtain ⟨hin,hh⟩:=hsp _ q1;have hz2:=aW hh;have hL:aa (bR (ac a).1 at_ true).1.2=1+(bR (ac a).1 at_ true).1.2.1+(bR (ac a).1 at_ true).1.2.2.1:=rfl;unfold dg at hin;rw [q2] at hin;generalize aa (bR (ac a).1 at_ true).1.2=L at *;by_cases h4:L<aa h
    ·have e1:fD 0 L (aa h)=7:=by unfold fD; rw [if_neg (by omega),if_neg (by omega),if_pos h4]
     rw [e1,if_pos h4,if_pos (by omega)];exact ⟨rfl,fun h=>by omega⟩
    ·have e1:fD 0 L (aa h)=0:=by unfold fD; rw [if_neg (by omega),if_neg (by omega),if_neg h4]
     rw [e1,if_neg h4,if_neg (by omega)];exact ⟨rfl,fun _=>⟨⟨by omega,by omega,by omega,hal⟩,by omega,by omega,h1⟩⟩
  ·have e0:sk h=3:=by unfold sk; rw [h2,if_pos ⟨h1,rfl⟩]
   rw [e0,if_pos rfl];have e1:∀ r,fD 3 r (aa h)=3:=fun _=>rfl
   rw [e1,if_pos (by omega)];exact ⟨rfl,fun h=>by omega⟩
 ·have e0:sk h=af h:=by unfold sk; rw [if_neg (fun e=>h1 e.1)]
  have e1:∀ r,fD (af h) r (aa h)=af h:=fun _=>by unfold fD; rw [if_pos h1]
  rw [e0,if_pos h1,e1,if_pos h1];exact ⟨rfl,fun h=>absurd h h1⟩
end
section
open Go
set_option maxRecDepth 100000
set_option maxHeartbeats 1000000
def di (l:List au) (at_:Int):Int:=aa (bU at_ l).1
def aS (a keep pinned:List Int):List Int×Int :=
 if (ak a).2.2≠0 then ([],(ak a).2.2) else if (be keep&&be pinned)=false then ([],3)
 else if (keep.all (isB (ac a).1))=false then ([],5) else if (pinned.all (fv keep))=false then ([],5) else (keep.map (di (ac a).1),0)
theorem JN {l:List au} (hs:l.Pairwise (fun s t=>s.1<t.1)) (at_:Int) :
  (ag (fun s:au=>decide (s.1=at_)&&!s.2.2.2.2) 0 l<0->isB l at_=false) /\
  (¬ ag (fun s:au=>decide (s.1=at_)&&!s.2.2.2.2) 0 l<0->isB l at_=true/\ag (fun s:au=>decide (s.1=at_)&&!s.2.2.2.2) 0 l<(l.length:Int) /\
   (l.getD (ag (fun s:au=>decide (s.1=at_)&&!s.2.2.2.2) 0 l).toNat (0,0,0,0,false)).2=(bU at_ l).1/\l.getD (ag (fun s:au=>decide (s.1=at_)&&!s.2.2.2.2) 0 l).toNat (0,0,0,0,false)∈l):=by
 have hf:(fun s:au=>decide (s.1=at_)&&!s.2.2.2.2)=(fun s:au=>decide (s.1=at_)&&s.2.2.2.2 == false):=by
  funext s;cases s.2.2.2.2 <;> rfl
 obtain ⟨k1,k2⟩:=za hs at_;have hlt:=dW (fun s:au=>decide (s.1=at_)&&s.2.2.2.2 == false) (0,0,0,0,false) l 0 (by omega);rw [hf];unfold isB;refine ⟨fun h=>?_,fun h=>?_⟩
 ·rw [k1];unfold bR;rw [if_pos h]
 ·have e:bR l at_ false=(l.getD (ag (fun s:au=>decide (s.1=at_)&&s.2.2.2.2 == false) 0 l).toNat (0,0,0,0,false),true):=by
   unfold bR;rw [if_neg h]
  have k3:=k2 (by rw [e]);rw [k1,k3,e];exact ⟨rfl,by omega,rfl,aH _ (by omega) (by omega)⟩
def GU:Spec:={ Ts:=[cF,.ref ty_I],Rs:=[.dat .bool],pre:=fun _=>True,F:=fun ((s,at_):au×Int)=>decide (s.1=at_)&&!s.2.2.2.2 }
def wV:Prop :=
  ∀ (x:(Int×Int×Int×Int×Bool)×Int),(am .i64 x.1.1/\am .i64 x.1.2.1/\am .i64 x.1.2.2.1/\am .i64 x.1.2.2.2.1/\True)/\am .i64 x.2->True->(decide (x.1.1=x.2)&&!x.1.2.2.2.2)=(decide (x.1.1=x.2)&&!x.1.2.2.2.2)/\True
theorem Dp:wV:=by
 unfold wV;intro ⟨s,at_⟩ _ _;simp
theorem Hs:GU.ok Tryz.prog 289:=aD (ann:=co) ap Tryz.func289 (by kernel_rfl) Dp
def DR:Spec:={ Ts:=[ty_I,.ref (.arr ty_I)],Rs:=[.dat .bool],pre:=fun _=>True,F:=fun ((at_,keep):Int×List Int)=>!fv keep at_ }
def tI:Prop :=
  ∀ (x:Int×List Int),(am .i64 x.1/\x.2.length * 8<=aJ/\∀ (x_1:Int),x_1∈x.2->am .i64 x_1)->True->True/\(!fv x.2 x.1)=!fv x.2 x.1/\True
theorem Af:tI:=by
 unfold tI;intro _ _ _;exact ⟨trivial,rfl,trivial⟩
theorem El:DR.ok Tryz.prog 290:=aD (ann:=co) (ae yS ap) Tryz.func290 (by kernel_rfl) Af
def Ku:Nat->Option LoopGen
 | 9=>some { rd:=[.own 9 202 cF,.dat 35 (.arr ty_I)],A:=fun ((l,keep):List au×List Int)=>{ cs:=[.own 11 3 ty_I,.dat 37 ty_I],inv:=fun ((out,i):List Int×Int)=>0<=i/\i<=keep.length/\(keep.drop i.toNat).all (isB l)=keep.all (isB l)/\out=(keep.take i.toNat).map (di l),mu:=fun ((_,i):List Int×Int)=>(keep.length - i).toNat } }
 | _=>none
def IV:Spec:={ Ts:=[.arr bj,.arr ty_I,.arr ty_I],Rs:=[.own 3 ty_I,.dat ty_I],pre:=fun _=>True,F:=fun ((a,keep,pinned):List Int×List Int×List Int)=>aS a keep pinned }
def Bz:Prop :=
  ∀ (x:List Int×List Int×List Int),((x.1.length * 8<=aJ/\∀ (x_1:Int),x_1∈x.1->am .u64 x_1)/\(x.2.1.length * 8<=aJ/\∀ (x_1:Int),x_1∈x.2.1->am .i64 x_1)/\x.2.2.length * 8<=aJ/\∀ (x_1:Int),x_1∈x.2.2->am .i64 x_1)->True->True/\(decide ((ak x.1).2.2≠0)=true->([]:List Int)=(aS x.1 x.2.1 x.2.2).1/\(ak x.1).2.2=(aS x.1 x.2.1 x.2.2).2/\True)/\(decide ((ak x.1).2.2≠0)=false->True/\((!be x.2.1)=false->True)/\((!be x.2.1||!be x.2.2)=true->([]:List Int)=(aS x.1 x.2.1 x.2.2).1/\3=(aS x.1 x.2.1 x.2.2).2/\True)/\((!be x.2.1||!be x.2.2)=false->True/\((0:Int)<=0/\0<=(x.2.1.length:Int)/\(List.drop (Int.toNat 0) x.2.1).all (isB (ac x.1).1)=x.2.1.all (isB (ac x.1).1)/\([]:List Int)=List.map (di (ac x.1).1) (List.take (Int.toNat 0) x.2.1))/\∀ (x_1:List Int×Int),0<=x_1.2/\x_1.2<=(x.2.1.length:Int)/\(List.drop x_1.2.toNat x.2.1).all (isB (ac x.1).1)=x.2.1.all (isB (ac x.1).1)/\x_1.1=List.map (di (ac x.1).1) (List.take x_1.2.toNat x.2.1)->(decide (x_1.2<(x.2.1.length:Int))=true->0<=x_1.2/\x_1.2<(x.2.1.length:Int)/\(∀ (s:au),s∈(ac x.1).1->(fun (_:Int×Int×Int×Int×Bool)=>True,fun (x_2:Int×Int×Int×Int×Bool)=>decide (x_2.1=x.2.1.getD x_1.2.toNat 0)&&!x_2.2.2.2.2).1 s)/\(decide (ag (fun (x_2:Int×Int×Int×Int×Bool)=>decide (x_2.1=x.2.1.getD x_1.2.toNat 0)&&!x_2.2.2.2.2) 0 (ac x.1).1<0)=true->([]:List Int)=(aS x.1 x.2.1 x.2.2).1/\5=(aS x.1 x.2.1 x.2.2).2/\True)/\(decide (ag (fun (x_2:Int×Int×Int×Int×Bool)=>decide (x_2.1=x.2.1.getD x_1.2.toNat 0)&&!x_2.2.2.2.2) 0 (ac x.1).1<0)=false->0<=ag (fun (x_2:Int×Int×Int×Int×Bool)=>decide (x_2.1=x.2.1.getD x_1.2.toNat 0)&&!x_2.2.2.2.2) 0 (ac x.1).1/\ag (fun (x_2:Int×Int×Int×Int×Bool)=>decide (x_2.1=x.2.1.getD x_1.2.toNat 0)&&!x_2.2.2.2.2) 0 (ac x.1).1<(↑(ac x.1).1.length:Int)/\(ag (fun (x_2:Int×Int×Int×Int×Bool)=>decide (x_2.1=x.2.1.getD x_1.2.toNat 0)&&!x_2.2.2.2.2) 0 (ac x.1).1).toNat<(ac x.1).1.length/\True/\(x_1.1.length+[if af ((ac x.1).1.getD (ag (fun (x_2:Int×Int×Int×Int×Bool)=>decide (x_2.1=x.2.1.getD x_1.2.toNat 0)&&!x_2.2.2.2.2) 0 (ac x.1).1).toNat (0,0,0,0,false)).2=0 then aa ((ac x.1).1.getD (ag (fun (x_2:Int×Int×Int×Int×Bool)=>decide (x_2.1=x.2.1.getD x_1.2.toNat 0)&&!x_2.2.2.2.2) 0 (ac x.1).1).toNat (0,0,0,0,false)).2 else (0:Int)].length) * 8<=aJ/\am .i64 (x_1.2+1)/\(0<=x_1.2+1/\x_1.2+1<=(x.2.1.length:Int)/\(List.drop (x_1.2+1).toNat x.2.1).all (isB (ac x.1).1)=x.2.1.all (isB (ac x.1).1)/\x_1.1++[if af ((ac x.1).1.getD (ag (fun (x_2:Int×Int×Int×Int×Bool)=>decide (x_2.1=x.2.1.getD x_1.2.toNat 0)&&!x_2.2.2.2.2) 0 (ac x.1).1).toNat (0,0,0,0,false)).2=0 then aa ((ac x.1).1.getD (ag (fun (x_2:Int×Int×Int×Int×Bool)=>decide (x_2.1=x.2.1.getD x_1.2.toNat 0)&&!x_2.2.2.2.2) 0 (ac x.1).1).toNat (0,0,0,0,false)).2 else (0:Int)]=List.map (di (ac x.1).1) (List.take (x_1.2+1).toNat x.2.1))/\((x.2.1.length:Int) - (x_1.2+1)).toNat<((x.2.1.length:Int) - x_1.2).toNat))/\(decide (x_1.2<(x.2.1.length:Int))=false->(∀ (s:Int),s∈x.2.2->(fun (_:Int)=>True,fun (x_2:Int)=>!fv x.2.1 x_2).1 s)/\((x.2.2.any fun (x_2:Int)=>!fv x.2.1 x_2)=true->([]:List Int)=(aS x.1 x.2.1 x.2.2).1/\5=(aS x.1 x.2.1 x.2.2).2/\True)/\((x.2.2.any fun (x_2:Int)=>!fv x.2.1 x_2)=false->x_1.1=(aS x.1 x.2.1 x.2.2).1/\0=(aS x.1 x.2.1 x.2.2).2/\True))))
theorem Gm:Bz:=by
 unfold Bz;intro ⟨a,keep,pinned⟩ ⟨_,⟨hb,_⟩,_⟩ _;unfold aJ at hb;simp only at hb ⊢
 have hF:aS a keep pinned=if (ak a).2.2≠0 then ([],(ak a).2.2) else if (be keep&&be pinned)=false then ([],3)
  else if (keep.all (isB (ac a).1))=false then ([],5) else if (pinned.all (fv keep))=false then ([],5) else (keep.map (di (ac a).1),0):=rfl
 rw [hF];refine ⟨trivial,fun hc=>?_,fun hc=>⟨trivial,fun _=>trivial,fun hr=>?_,fun hr=>⟨trivial,⟨by omega,by omega,rfl,rfl⟩,fun ⟨out,i⟩ ⟨h0,h1,h2,h3⟩=>⟨fun hlt=>?_,fun hge=>?_⟩⟩⟩⟩
 ·rw [if_pos (of_decide_eq_true hc)];exact ⟨rfl,rfl,trivial⟩
 ·rw [if_neg (of_decide_eq_false hc),if_pos (by revert hr; cases be keep <;> cases be pinned <;> simp)];exact ⟨rfl,rfl,trivial⟩
 ·have hlt:i<(keep.length:Int):=of_decide_eq_true hlt;simp only at h0 h1 h2 h3 ⊢;rw [if_neg (of_decide_eq_false hc),if_neg (by revert hr; cases be keep <;> cases be pinned <;> simp)];rw [bh (0:Int) h0 hlt,List.all_cons] at h2;have hts:=bB (0:Int) h0 hlt;obtain ⟨f1,f2⟩:=JN (bV a) (keep.getD i.toNat 0);rw [hts];generalize keep.getD i.toNat 0=at_ at *;refine ⟨h0,hlt,fun _ _=>trivial,fun hn=>?_,fun hn=>?_⟩
  ·rw [f1 (of_decide_eq_true hn),Bool.false_and] at h2;rw [if_pos h2.symm];exact ⟨rfl,rfl,trivial⟩
  ·obtain ⟨g1,g2,g3,g4⟩:=f2 (of_decide_eq_false hn);have hn:¬ ag (fun s:au=>decide (s.1=at_)&&!s.2.2.2.2) 0 (ac a).1<0:=of_decide_eq_false hn;rw [g1,Bool.true_and] at h2;have hh:=(eJ a _ g4).2.2;rw [g3] at hh ⊢;rw [if_pos hh];have hl:out.length=i.toNat:=by rw [h3,List.length_map,List.length_take]; omega
   unfold aJ;simp only [am,List.length_cons,List.length_nil];refine ⟨Int.not_lt.1 hn,g2,(Int.toNat_lt (Int.not_lt.1 hn)).2 g2,trivial,by omega,by omega,⟨by omega,by omega,h2,?_⟩,by omega⟩;rw [List.map_append,<- h3];rfl
 ·have hge:¬ i<(keep.length:Int):=of_decide_eq_false hge;simp only at h2 h3 ⊢;rw [b7 hge,List.all_nil] at h2;rw [cA hge] at h3;rw [if_neg (of_decide_eq_false hc),if_neg (by revert hr; cases be keep <;> cases be pinned <;> simp),if_neg (by rw [<- h2]; simp)];have e:(pinned.any fun at_=>!fv keep at_)=!(pinned.all (fv keep)):=by rw [List.not_all_eq_any_not]
  refine ⟨fun _ _=>trivial,fun hp=>?_,fun hp=>?_⟩
  ·rw [e] at hp;rw [if_pos (by simpa using hp)];exact ⟨rfl,rfl,trivial⟩
  ·rw [e] at hp;rw [if_neg (by simpa using hp)];exact ⟨h3,rfl,trivial⟩
theorem BS:IV.ok Tryz.prog 270:=aD (ann:=Ku) (ae iX (ae Jp (ae iW (ae nG (ae Hs (ae iY (ae yU (ae El ap)))))))) Tryz.func270 (by kernel_rfl) Gm
def bq (pinned keep long:List Int):Nat->Int
 | 0=>0
 | i+1=>(if fv pinned (keep.getD i 0)=true then keep.getD i 0 else bq pinned keep long i)+long.getD i 0
def ff (pinned keep long:List Int) (i:Nat):Int:=if fv pinned (keep.getD i 0)=true then keep.getD i 0 else bq pinned keep long i
def az (keep long pinned:List Int):List Int:=(List.range keep.length).map (ff pinned keep long)
def iV (keep long:List Int):Prop:=long.length=keep.length/\keep.length<=256/\(∀ x∈keep,0<=x/\x<=255)/\∀ n∈long,1<=n/\n<=256
theorem cf {keep long:List Int} (pinned:List Int) (h:iV keep long):∀ i:Nat,i<=keep.length->0<=bq pinned keep long i/\bq pinned keep long i<=512 * i
 | 0,_=>by simp [bq]
 | i+1,hi=>by
  have ih:=cf pinned h i (by omega);obtain ⟨h1,h2,h3,h4⟩:=h;have k1:=h3 _ (aH (0:Int) (xs:=keep) (i:=i) (by omega) (by omega));have k2:=h4 _ (aH (0:Int) (xs:=long) (i:=i) (by omega) (by omega));simp only [Int.toNat_natCast] at k1 k2;simp only [bq];split <;> omega
theorem pU {keep long:List Int} (pinned:List Int) (h:iV keep long) {i:Nat} (hi:i<keep.length):0<=ff pinned keep long i/\ff pinned keep long i<=512 * i+255:=by
 have h0:=cf pinned h i (by omega);have k1:=h.2.2.1 _ (aH (0:Int) (xs:=keep) (i:=i) (by omega) (by omega));simp only [Int.toNat_natCast] at k1;unfold ff;split <;> omega
def LM:Nat->Option LoopGen
 | 4=>some { rd:=[.dat 11 (.arr ty_I),.dat 1 (.arr ty_I),.dat 2 (.arr ty_I)],A:=fun ((keep,long,pinned):List Int×List Int×List Int)=>{ cs:=[.own 7 3 ty_I,.dat 8 ty_I,.dat 13 ty_I],inv:=fun ((out,e,i):List Int×Int×Int)=>0<=i/\i<=keep.length/\out=(List.range i.toNat).map (ff pinned keep long)/\e=bq pinned keep long i.toNat,mu:=fun ((_,_,i):List Int×Int×Int)=>(keep.length - i).toNat } }
 | _=>none
def KP:Spec:={ Ts:=[.arr ty_I,.arr ty_I,.arr ty_I],Rs:=[.own 3 ty_I],pre:=fun ((keep,long,_):List Int×List Int×List Int)=>iV keep long,F:=fun ((keep,long,pinned):List Int×List Int×List Int)=>az keep long pinned }
def Fo:Prop :=
  ∀ (x:List Int×List Int×List Int),((x.1.length * 8<=aJ/\∀ (x_1:Int),x_1∈x.1->am .i64 x_1)/\(x.2.1.length * 8<=aJ/\∀ (x_1:Int),x_1∈x.2.1->am .i64 x_1)/\x.2.2.length * 8<=aJ/\∀ (x_1:Int),x_1∈x.2.2->am .i64 x_1)->iV x.1 x.2.1->((0:Int)<=0/\0<=(x.1.length:Int)/\([]:List Int)=List.map (ff x.2.2 x.1 x.2.1) (List.range (Int.toNat 0))/\0=bq x.2.2 x.1 x.2.1 (Int.toNat 0))/\∀ (x_1:List Int×Int×Int),0<=x_1.2.2/\x_1.2.2<=(x.1.length:Int)/\x_1.1=List.map (ff x.2.2 x.1 x.2.1) (List.range x_1.2.2.toNat)/\x_1.2.1=bq x.2.2 x.1 x.2.1 x_1.2.2.toNat->(decide (x_1.2.2<(x.1.length:Int))=true->0<=x_1.2.2/\x_1.2.2<(x.1.length:Int)/\True/\((!fv x.2.2 (x.1.getD x_1.2.2.toNat 0))=true->(x_1.1.length+[x_1.2.1].length) * 8<=aJ/\0<=x_1.2.2/\x_1.2.2<(x.2.1.length:Int)/\am .i64 (x_1.2.1+x.2.1.getD x_1.2.2.toNat 0)/\am .i64 (x_1.2.2+1)/\(0<=x_1.2.2+1/\x_1.2.2+1<=(x.1.length:Int)/\x_1.1++[x_1.2.1]=List.map (ff x.2.2 x.1 x.2.1) (List.range (x_1.2.2+1).toNat)/\x_1.2.1+x.2.1.getD x_1.2.2.toNat 0=bq x.2.2 x.1 x.2.1 (x_1.2.2+1).toNat)/\((x.1.length:Int) - (x_1.2.2+1)).toNat<((x.1.length:Int) - x_1.2.2).toNat)/\((!fv x.2.2 (x.1.getD x_1.2.2.toNat 0))=false->(x_1.1.length+[x.1.getD x_1.2.2.toNat 0].length) * 8<=aJ/\0<=x_1.2.2/\x_1.2.2<(x.2.1.length:Int)/\am .i64 (x.1.getD x_1.2.2.toNat 0+x.2.1.getD x_1.2.2.toNat 0)/\am .i64 (x_1.2.2+1)/\(0<=x_1.2.2+1/\x_1.2.2+1<=(x.1.length:Int)/\x_1.1++[x.1.getD x_1.2.2.toNat 0]=List.map (ff x.2.2 x.1 x.2.1) (List.range (x_1.2.2+1).toNat)/\x.1.getD x_1.2.2.toNat 0+x.2.1.getD x_1.2.2.toNat 0=bq x.2.2 x.1 x.2.1 (x_1.2.2+1).toNat)/\((x.1.length:Int) - (x_1.2.2+1)).toNat<((x.1.length:Int) - x_1.2.2).toNat))/\(decide (x_1.2.2<(x.1.length:Int))=false->x_1.1=az x.1 x.2.1 x.2.2/\True)
theorem Im:Fo:=by
 unfold Fo;intro ⟨keep,long,pinned⟩ _ hp;have hp':=hp;obtain ⟨p1,p2,p3,p4⟩:=hp';simp only at p1 p2 p3 p4 hp ⊢;refine ⟨⟨by omega,by omega,rfl,rfl⟩,fun ⟨out,e,i⟩ ⟨h0,h1,h2,h3⟩=>⟨fun hlt=>?_,fun hge=>?_⟩⟩
 ·have hlt':i<(keep.length:Int):=of_decide_eq_true hlt;simp only at h0 h1 h2 h3 ⊢;have ht:=pU pinned hp (i:=i.toNat) (by omega);have he:=cf pinned hp (i.toNat+1) (by omega);have k1:=p3 _ (aH (0:Int) h0 hlt');have k2:=p4 _ (aH (0:Int) (xs:=long) h0 (by omega))
  have hs:out++[ff pinned keep long i.toNat]=(List.range (i+1).toNat).map (ff pinned keep long):=by
   rw [show (i+1).toNat=i.toNat+1 by omega,List.range_succ,List.map_append,<- h2];rfl
  have hE:bq pinned keep long (i+1).toNat=ff pinned keep long i.toNat+long.getD i.toNat 0:=by
   rw [show (i+1).toNat=i.toNat+1 by omega];rfl
  have hl:out.length=i.toNat:=by rw [h2]; simp
  rw [hE,<- hs];subst h3;unfold aJ;simp only [am,List.length_cons,List.length_nil];have hT:ff pinned keep long i.toNat=if fv pinned (keep.getD i.toNat 0)=true then keep.getD i.toNat 0 else bq pinned keep long i.toNat:=rfl
  have hE':bq pinned keep long (i.toNat+1)=ff pinned keep long i.toNat+long.getD i.toNat 0:=rfl;rw [hE'] at he;refine ⟨h0,hlt',trivial,fun hc=>?_,fun hc=>?_⟩
  ·have hc:fv pinned (keep.getD i.toNat 0)=false:=by simpa using hc
   rw [if_neg (by rw [hc]; simp)] at hT;rw [hT] at he ⊢;exact ⟨by omega,h0,by omega,by omega,by omega,⟨by omega,by omega,rfl,rfl⟩,by omega⟩
  ·have hc:fv pinned (keep.getD i.toNat 0)=true:=by simpa using hc
   rw [if_pos hc] at hT;rw [hT] at he ⊢;exact ⟨by omega,h0,by omega,by omega,by omega,⟨by omega,by omega,rfl,rfl⟩,by omega⟩
 ·have hge:¬ i<(keep.length:Int):=of_decide_eq_false hge;simp only at h0 h1 h2;rw [h2,show i.toNat=keep.length by omega];exact ⟨rfl,trivial⟩
theorem FI:KP.ok Tryz.prog 271:=aD (ann:=LM) (ae yS ap) Tryz.func271 (by kernel_rfl) Im
def GS:Spec:={ Ts:=[.arr bj,.arr ty_I,.arr ty_I],Rs:=[.own 3 ty_I,.dat ty_I],pre:=fun _=>True,F:=fun ((a,keep,pinned):List Int×List Int×List Int)=>((if (aS a keep pinned).2≠0 then [] else az keep (aS a keep pinned).1 pinned,(aS a keep pinned).2):List Int×Int) }
theorem ga:∀ {l:List Int},be l=true->l.Pairwise (·<·)
 | [],_=>List.Pairwise.nil
 | [x],_=>by simp
 | x::y::l,h=>by
  simp only [be,Bool.and_eq_true,decide_eq_true_eq] at h;have ih:=ga h.2;refine List.pairwise_cons.2 ⟨fun z hz=>?_,ih⟩;rcases List.mem_cons.1 hz with rfl | hz
  ·exact h.1
  ·have:=(List.pairwise_cons.1 ih).1 z hz;omega
theorem iJ:∀ {l:List Int} {s:Int},l.Pairwise (·<·)->(∀ x∈l,s<=x/\x<=255)->s<=256->(l.length:Int)<=256 - s
 | [],s,_,_,h=>by simp; omega
 | x::l,s,hp,hr,_=>by
  obtain ⟨h1,h2⟩:=List.pairwise_cons.1 hp;have h3:=hr x (by simp);have ih:=iJ (s:=x+1) h2 (fun y hy=>by have:=h1 y hy; have:=hr y (by simp [hy]); omega) (by omega);simp only [List.length_cons];omega
theorem um {a:List Int} {at_:Int} (h:isB (ac a).1 at_=true):∃ s∈(ac a).1,s.1=at_/\s.2.2.2.2=false/\di (ac a).1 at_=aa s.2:=by
 unfold isB di at *;rcases gh at_ (ac a).1 with e | ⟨s,h1,h2,h3,e⟩
 ·rw [e] at h; cases h
 ·exact ⟨s,h1,h2,h3,by rw [e]⟩
theorem ub {a keep pinned:List Int} (h:(aS a keep pinned).2=0):(ak a).2.2=0/\be keep=true/\be pinned=true/\(∀ x∈keep,isB (ac a).1 x=true)/\(∀ x∈pinned,fv keep x=true)/\(aS a keep pinned).1=keep.map (di (ac a).1):=by
 unfold aS at *;by_cases h1:(ak a).2.2≠0
 ·rw [if_pos h1] at h; exact absurd h h1
 rw [if_neg h1] at h ⊢;by_cases h2:(be keep&&be pinned)=false
 ·rw [if_pos h2] at h; simp at h
 rw [if_neg h2] at h ⊢;by_cases h3:(keep.all (isB (ac a).1))=false
 ·rw [if_pos h3] at h; simp at h
 rw [if_neg h3] at h ⊢;by_cases h4:(pinned.all (fv keep))=false
 ·rw [if_pos h4] at h; simp at h
 rw [if_neg h4];have h2:be keep=true/\be pinned=true:=by simpa using h2
 have h3:keep.all (isB (ac a).1)=true:=by simpa using h3
 have h4:pinned.all (fv keep)=true:=by simpa using h4
 exact ⟨by omega,h2.1,h2.2,fun x hx=>List.all_eq_true.1 h3 x hx,fun x hx=>List.all_eq_true.1 h4 x hx,rfl⟩
theorem ql {a keep pinned:List Int} (h:(aS a keep pinned).2=0):iV keep (aS a keep pinned).1:=by
 obtain ⟨_,h2,_,h4,_,h6⟩:=ub h
 have hr:∀ x∈keep,0<=x/\x<=255:=fun x hx=>by
  obtain ⟨s,h1,h2,_⟩:=um (h4 x hx);have:=cK s h1;omega
 have hl:=iJ (ga h2) hr (by omega);refine ⟨by rw [h6]; simp,by omega,hr,fun n hn=>?_⟩;rw [h6] at hn;obtain ⟨x,hx,rfl⟩:=List.mem_map.1 hn;obtain ⟨s,h1,_,_,e⟩:=um (h4 x hx);have hz:=aW (eJ a s h1).2.2;rw [e];unfold aa;omega
def wT:Prop :=
  ∀ (x:List Int×List Int×List Int),(fun (v0:type_of% (aS x.1 x.2.1 x.2.2))=>((x.1.length * 8<=aJ/\∀ (x_1:Int),x_1∈x.1->am .u64 x_1)/\(x.2.1.length * 8<=aJ/\∀ (x_1:Int),x_1∈x.2.1->am .i64 x_1)/\x.2.2.length * 8<=aJ/\∀ (x_1:Int),x_1∈x.2.2->am .i64 x_1)->True->True/\(decide (v0.2≠0)=true->(([]:List Int)=if v0.2≠0 then ([]:List Int) else az x.2.1 v0.1 x.2.2)/\v0.2=v0.2/\True)/\(decide (v0.2≠0)=false->iV x.2.1 v0.1/\(az x.2.1 v0.1 x.2.2=if v0.2≠0 then ([]:List Int) else az x.2.1 v0.1 x.2.2)/\0=v0.2/\True)) (aS x.1 x.2.1 x.2.2)
theorem Dn:wT:=by
 unfold wT;intro ⟨a,keep,pinned⟩ _ _;simp only;refine ⟨trivial,fun hc=>?_,fun hc=>?_⟩
 ·rw [if_pos (of_decide_eq_true hc)];exact ⟨rfl,trivial,trivial⟩
 ·have hz:(aS a keep pinned).2=0:=by simpa using of_decide_eq_false hc
  rw [if_neg (by omega)];exact ⟨ql hz,rfl,hz.symm,trivial⟩
theorem Hq:GS.ok Tryz.prog 254:=aD (ann:=co) (ae BS (ae FI ap)) Tryz.func254 (by kernel_rfl) Dn
def gi (pinned keep long:List Int):Nat->List cT
 | 0=>[]
 | i+1=>gi pinned keep long i++(if bq pinned keep long i<ff pinned keep long i then [(bq pinned keep long i,ff pinned keep long i - bq pinned keep long i)] else [])
theorem il (pinned keep long:List Int):∀ i,(gi pinned keep long i).length<=i
 | 0=>by simp [gi]
 | i+1=>by
  have:=il pinned keep long i;simp only [gi,List.length_append];split <;> simp <;> omega
def b9 (n:Int) (keep long pinned:List Int):List cT:=gi pinned keep long keep.length++(if bq pinned keep long keep.length<n then [(bq pinned keep long keep.length,n - bq pinned keep long keep.length)] else [])
def gv (a keep pinned:List Int):List cT×Int:=(if (aS a keep pinned).2≠0 then [] else b9 a.length keep (aS a keep pinned).1 pinned,(aS a keep pinned).2)
def CU:Nat->Option LoopGen
 | 3000272=>some eE
 | 8=>some { rd:=[.own 8 3 ty_I,.own 29 3 ty_I,.dat 1 (.arr ty_I),.dat 2 (.arr ty_I)],A:=fun ((long,to,keep,pinned):List Int×List Int×List Int×List Int)=>{ cs:=[.boxS 10 [.own 105 jm],.box 11 ty_I,.dat 31 ty_I],inv:=fun ((out,e,i):List cT×Int×Int)=>0<=i/\i<=keep.length/\to=az keep long pinned/\out=gi pinned keep long i.toNat/\e=bq pinned keep long i.toNat,mu:=fun ((_,_,i):List cT×Int×Int)=>(keep.length - i).toNat } }
 | _=>none
def AJ:Spec:={ Ts:=[.arr bj,.arr ty_I,.arr ty_I],Rs:=[.own 105 jm,.dat ty_I],pre:=fun _=>True,F:=fun ((a,keep,pinned):List Int×List Int×List Int)=>gv a keep pinned }
def rf:Prop :=
  ∀ (x:List Int×List Int×List Int),(fun (v1:type_of% (gv x.1 x.2.1 x.2.2))=>(fun (v0:type_of% (aS x.1 x.2.1 x.2.2))=>((x.1.length * 8<=aJ/\∀ (x_1:Int),x_1∈x.1->am .u64 x_1)/\(x.2.1.length * 8<=aJ/\∀ (x_1:Int),x_1∈x.2.1->am .i64 x_1)/\x.2.2.length * 8<=aJ/\∀ (x_1:Int),x_1∈x.2.2->am .i64 x_1)->True->True/\(decide (v0.2≠0)=true->([]:List (Int×Int))=v1.1/\v0.2=v1.2/\True)/\(decide (v0.2≠0)=false->iV x.2.1 v0.1/\((0:Int)<=0/\0<=(x.2.1.length:Int)/\az x.2.1 v0.1 x.2.2=az x.2.1 v0.1 x.2.2/\([]:List (Int×Int))=gi x.2.2 x.2.1 v0.1 (Int.toNat 0)/\0=bq x.2.2 x.2.1 v0.1 (Int.toNat 0))/\∀ (x_1:List (Int×Int)×Int×Int),0<=x_1.2.2/\x_1.2.2<=(x.2.1.length:Int)/\az x.2.1 v0.1 x.2.2=az x.2.1 v0.1 x.2.2/\x_1.1=gi x.2.2 x.2.1 v0.1 x_1.2.2.toNat/\x_1.2.1=bq x.2.2 x.2.1 v0.1 x_1.2.2.toNat->(decide (x_1.2.2<(↑(az x.2.1 v0.1 x.2.2).length:Int))=true->0<=x_1.2.2/\x_1.2.2<(↑(az x.2.1 v0.1 x.2.2).length:Int)/\x_1.2.2.toNat<(az x.2.1 v0.1 x.2.2).length/\∀ (_:Array Value),(decide (x_1.2.1<(az x.2.1 v0.1 x.2.2).getD x_1.2.2.toNat 0)=true->am .i64 ((az x.2.1 v0.1 x.2.2).getD x_1.2.2.toNat 0 - x_1.2.1)/\(x_1.1.length+[(x_1.2.1,(az x.2.1 v0.1 x.2.2).getD x_1.2.2.toNat 0 - x_1.2.1)].length) * (8+8)<=aJ/\0<=x_1.2.2/\x_1.2.2<(v0.1.length:Int)/\x_1.2.2.toNat<v0.1.length/\am .i64 ((az x.2.1 v0.1 x.2.2).getD x_1.2.2.toNat 0+v0.1.getD x_1.2.2.toNat 0)/\am .i64 (x_1.2.2+1)/\(0<=x_1.2.2+1/\x_1.2.2+1<=(x.2.1.length:Int)/\az x.2.1 v0.1 x.2.2=az x.2.1 v0.1 x.2.2/\x_1.1++[(x_1.2.1,(az x.2.1 v0.1 x.2.2).getD x_1.2.2.toNat 0 - x_1.2.1)]=gi x.2.2 x.2.1 v0.1 (x_1.2.2+1).toNat/\(az x.2.1 v0.1 x.2.2).getD x_1.2.2.toNat 0+v0.1.getD x_1.2.2.toNat 0=bq x.2.2 x.2.1 v0.1 (x_1.2.2+1).toNat)/\((x.2.1.length:Int) - (x_1.2.2+1)).toNat<((x.2.1.length:Int) - x_1.2.2).toNat)/\(decide (x_1.2.1<(az x.2.1 v0.1 x.2.2).getD x_1.2.2.toNat 0)=false->0<=x_1.2.2/\x_1.2.2<(v0.1.length:Int)/\x_1.2.2.toNat<v0.1.length/\am .i64 ((az x.2.1 v0.1 x.2.2).getD x_1.2.2.toNat 0+v0.1.getD x_1.2.2.toNat 0)/\am .i64 (x_1.2.2+1)/\(0<=x_1.2.2+1/\x_1.2.2+1<=(x.2.1.length:Int)/\az x.2.1 v0.1 x.2.2=az x.2.1 v0.1 x.2.2/\x_1.1=gi x.2.2 x.2.1 v0.1 (x_1.2.2+1).toNat/\(az x.2.1 v0.1 x.2.2).getD x_1.2.2.toNat 0+v0.1.getD x_1.2.2.toNat 0=bq x.2.2 x.2.1 v0.1 (x_1.2.2+1).toNat)/\((x.2.1.length:Int) - (x_1.2.2+1)).toNat<((x.2.1.length:Int) - x_1.2.2).toNat))/\(decide (x_1.2.2<(↑(az x.2.1 v0.1 x.2.2).length:Int))=false->∀ (_:Array Value),(decide (x_1.2.1<(x.1.length:Int))=true->am .i64 ((x.1.length:Int) - x_1.2.1)/\(x_1.1.length+[(x_1.2.1,(x.1.length:Int) - x_1.2.1)].length) * (8+8)<=aJ/\x_1.1++[(x_1.2.1,(x.1.length:Int) - x_1.2.1)]=v1.1/\0=v1.2/\True)/\(decide (x_1.2.1<(x.1.length:Int))=false->x_1.1=v1.1/\0=v1.2/\True)))) (aS x.1 x.2.1 x.2.2)) (gv x.1 x.2.1 x.2.2)
theorem xO:rf:=by
 unfold rf;intro ⟨a,keep,pinned⟩ ⟨⟨ha,_⟩,_⟩ _;unfold aJ at ha;simp only at ha ⊢;have hF:gv a keep pinned=(if (aS a keep pinned).2≠0 then [] else b9 a.length keep (aS a keep pinned).1 pinned,(aS a keep pinned).2):=rfl;rw [hF];refine ⟨trivial,fun hc=>?_,fun hc=>?_⟩
 ·rw [if_pos (of_decide_eq_true hc)];exact ⟨rfl,rfl,trivial⟩
 have hz:(aS a keep pinned).2=0:=by simpa using of_decide_eq_false hc
 have hp:=ql hz;rw [if_neg (by omega),hz];generalize (aS a keep pinned).1=long at *;have hlen:(az keep long pinned).length=keep.length:=by simp [az]
 have hp':=hp;obtain ⟨p1,p2,p3,p4⟩:=hp';rw [hlen];refine ⟨hp,⟨by omega,by omega,trivial,rfl,rfl⟩,fun ⟨out,e,i⟩ ⟨h0,h1,_,h2,h3⟩=>⟨fun hlt=>?_,fun hge=>?_⟩⟩
 ·have hlt':i<(keep.length:Int):=of_decide_eq_true hlt;simp only at h0 h1 h2 h3 ⊢;have ht:=pU pinned hp (i:=i.toNat) (by omega);have he:=cf pinned hp i.toNat (by omega);have he':=cf pinned hp (i.toNat+1) (by omega);have hE':bq pinned keep long (i.toNat+1)=ff pinned keep long i.toNat+long.getD i.toNat 0:=rfl
  have hg:(az keep long pinned).getD i.toNat 0=ff pinned keep long i.toNat:=by
   unfold az;rw [List.getD_eq_getElem?_getD,List.getElem?_map,List.getElem?_range (by omega)];rfl
  have hl:=il pinned keep long i.toNat;rw [<- h2] at hl;have hs:(i+1).toNat=i.toNat+1:=by omega
  have hG:gi pinned keep long (i.toNat+1)=out++(if bq pinned keep long i.toNat<ff pinned keep long i.toNat then [(bq pinned keep long i.toNat,ff pinned keep long i.toNat - bq pinned keep long i.toNat)] else []):=by
   rw [h2];rfl
  rw [hg,hs,hG,hE',<- h3];rw [hE'] at he';rw [<- h3] at he;unfold aJ;simp only [am,List.length_cons,List.length_nil];refine ⟨h0,hlt',by omega,fun _=>⟨fun hc=>?_,fun hc=>?_⟩⟩
  ·rw [if_pos (of_decide_eq_true hc)];exact ⟨by omega,by omega,h0,by omega,by omega,by omega,by omega,⟨by omega,by omega,trivial,rfl,trivial⟩,by omega⟩
  ·rw [if_neg (of_decide_eq_false hc),List.append_nil];exact ⟨h0,by omega,by omega,by omega,by omega,⟨by omega,by omega,trivial,rfl,trivial⟩,by omega⟩
 ·have hge:¬ i<(keep.length:Int):=of_decide_eq_false hge;simp only at h0 h1 h2 h3 ⊢;have hi:i.toNat=keep.length:=by omega
  rw [hi] at h2 h3;have he:=cf pinned hp keep.length (by omega);have hl:=il pinned keep long keep.length
  have hP:b9 a.length keep long pinned=out++(if bq pinned keep long keep.length<a.length then [(bq pinned keep long keep.length,a.length - bq pinned keep long keep.length)] else []):=by
   rw [h2];rfl
  rw [<- h2] at hl;rw [hP,<- h3];rw [<- h3] at he;unfold aJ;simp only [am,List.length_cons,List.length_nil];refine fun _=>⟨fun hc=>?_,fun hc=>?_⟩
  ·rw [if_pos (of_decide_eq_true hc)];exact ⟨by omega,by omega,rfl,trivial,trivial⟩
  ·rw [if_neg (of_decide_eq_false hc),List.append_nil];exact ⟨rfl,trivial,trivial⟩
theorem BQ:AJ.ok Tryz.prog 255:=aD (ann:=CU) (ae BS (ae FI ap)) Tryz.func255 (by kernel_rfl) xO
theorem HS (a:List Int) (at_:Int):af (bU at_ (ac a).1).1=0:=by
 rcases gh at_ (ac a).1 with e | ⟨s,h1,_,_,e⟩
 ·rw [e]; rfl
 ·rw [e]; exact (eJ a s h1).2.2
theorem MZ (a:List Int) (at_:Int):1<=di (ac a).1 at_/\di (ac a).1 at_<=256:=by
 have:=aW (HS a at_);unfold di aa;omega
end
section
open Go
set_option maxRecDepth 100000
set_option maxHeartbeats 1000000
theorem kY:∀ {l:List au} {s e:Int},fk s e l->∀ x∈l,s<=x.1/\1<=aa x.2
 | [],_,_,_,x,h=>by cases h
 | y::l,s,e,⟨h1,h2,h3⟩,x,h=>by
  rcases List.mem_cons.1 h with rfl | h
  ·omega
  ·have:=kY h3 x h;omega
theorem sV:∀ {l:List au} {s e:Int},fk s e l->∀ x∈l,∀ y∈l,x.1<y.1->x.1+aa x.2<=y.1
 | [],_,_,_,x,h,_,_,_=>by cases h
 | z::l,s,e,⟨h1,h2,h3⟩,x,hx,y,hy,hlt=>by
  rcases List.mem_cons.1 hx with hx1 | hx1 <;> rcases List.mem_cons.1 hy with hy1 | hy1
  ·subst hx1; subst hy1; omega
  ·have:=kY h3 y hy1;subst hx1; omega
  ·have:=kY h3 x hx1;subst hy1; omega
  ·exact sV h3 x hx1 y hy1 hlt
theorem IH {pinned keep long:List Int} {i:Nat} (hle:bq pinned keep long i<=keep.getD i 0):bq pinned keep long i<=ff pinned keep long i/\ff pinned keep long i<=keep.getD i 0:=by
 unfold ff;split <;> omega
theorem F0 {pinned keep long:List Int} {N:Int} (hp:iV keep long) (hd:∀ i:Nat,i+1<keep.length->keep.getD i 0+long.getD i 0<=keep.getD (i+1) 0) (hN:∀ i:Nat,i<keep.length->keep.getD i 0+long.getD i 0<=N) :
  ∀ i:Nat,i<keep.length->bq pinned keep long i<=keep.getD i 0
 | 0,hi=>by
  have:=hp.2.2.1 _ (aH (0:Int) (xs:=keep) (i:=(0:Nat)) (by omega) (by omega));simp only [Int.toNat_natCast] at this;simp only [bq];omega
 | i+1,hi=>by
  have ih:=F0 (pinned:=pinned) hp hd hN i (by omega);have h1:=IH ih;have h2:=hd i hi;have e:bq pinned keep long (i+1)=ff pinned keep long i+long.getD i 0:=rfl;rw [e];omega
theorem HM {a keep pinned:List Int} (h:(aS a keep pinned).2=0):(∀ i:Nat,i+1<keep.length->keep.getD i 0+(keep.map (di (ac a).1)).getD i 0<=keep.getD (i+1) 0)/\∀ i:Nat,i<keep.length->keep.getD i 0+(keep.map (di (ac a).1)).getD i 0<=(a.length:Int):=by
 obtain ⟨h1,h2,_,h4,_,_⟩:=ub h
 have hG:∀ k:Nat,k<keep.length->(keep.map (di (ac a).1)).getD k 0=di (ac a).1 (keep.getD k 0):=by
  intro k hk;rw [List.getD_eq_getElem?_getD,List.getElem?_map,List.getD_eq_getElem?_getD,List.getElem?_eq_getElem hk];rfl
 obtain ⟨_,_,hs3,hs4,_,_,_⟩:=bi h1;have ht:=fE hs4
 have hm:∀ i:Nat,i<keep.length->keep.getD i 0∈keep:=fun i hi=>by
  have:=aH (0:Int) (xs:=keep) (i:=i) (by omega) (by omega);simpa only [Int.toNat_natCast] using this
 refine ⟨fun i hi=>?_,fun i hi=>?_⟩
 ·rw [hG i (by omega)];obtain ⟨s,s1,s2,_,s4⟩:=um (h4 _ (hm i (by omega)));obtain ⟨t,t1,t2,_,_⟩:=um (h4 _ (hm (i+1) hi))
  have hlt:keep.getD i 0<keep.getD (i+1) 0:=by
   have hp:=List.pairwise_iff_getElem.1 (ga h2) i (i+1) (by omega) hi (by omega);rw [List.getD_eq_getElem?_getD,List.getElem?_eq_getElem (by omega),List.getD_eq_getElem?_getD,List.getElem?_eq_getElem hi];exact hp
  rw [s4,<- s2,<- t2];exact sV ht s s1 t t1 (by omega)
 ·rw [hG i hi];obtain ⟨s,s1,s2,_,s4⟩:=um (h4 _ (hm i hi));obtain ⟨_,hin,hh⟩:=eJ a s s1;have hz:=aW hh;rw [s4,<- s2];unfold dg at hin;unfold aa;omega
end
section
open Go
set_option maxRecDepth 100000
set_option maxHeartbeats 1000000
theorem AA (at_:Int) (l:List Int) (r:List au) (h:spotsS at_ l=some r):∀ s∈r,at_<=s.1/\s.2=aU (l.getD (s.1 - at_).toNat 0)/\ba (l.getD (s.1 - at_).toNat 0)=true:=by
 induction at_,l using spotsS.induct generalizing r with
 | case1 at_ =>
  simp only [spotsS,Option.some.injEq] at h;subst h;simp
 | case2 at_ v l hv ih =>
  rw [cL hv.1 hv.2] at h;obtain ⟨r',hr,rfl⟩:=Option.map_eq_some_iff.1 h;have hl:=dU hv.1;intro s hs;rcases List.mem_cons.1 hs with rfl | hs
  ·simp only [Int.sub_self];exact ⟨Int.le_refl _,rfl,hv.1⟩
  ·obtain ⟨h1,h2,h3⟩:=ih r' hr s hs
   have e:((v::l).drop (aa (aU v)).toNat).getD (s.1 - (at_+aa (aU v))).toNat 0=(v::l).getD (s.1 - at_).toNat 0:=by
    rw [List.getD_eq_getElem?_getD,List.getElem?_drop,List.getD_eq_getElem?_getD];congr 2;omega
   rw [e] at h2 h3;exact ⟨by omega,h2,h3⟩
 | case3 at_ v l hv =>
  rw [eH hv] at h;cases h
theorem qQ {a:List Int}:∀ s∈(ac a).1,s.2=aU (a.getD s.1.toNat 0)/\ba (a.getD s.1.toNat 0)=true:=by
 unfold ac;split
 ·intro s hs; cases hs
 ·cases h:spotsS 0 a with
  | none=>intro s hs; cases hs
  | some l =>
   intro s hs;have:=AA 0 a l h s hs;rw [Int.sub_zero] at this;exact this.2
def eG (a:List Int) (at_:Int):dZ:=(bU at_ (ac a).1).1
def bF (a:List Int) (at_:Int):List Int:=aO a (at_,eG a at_)
def gE (a:List Int) (at_:Int):List Int:=it a (at_,eG a at_)
theorem fi {a:List Int} {at_:Int} (h:isB (ac a).1 at_=true):(at_,eG a at_)∈(ac a).1/\dg a (at_,eG a at_)/\af (eG a at_)=0/\eG a at_=aU (a.getD at_.toNat 0)/\ba (a.getD at_.toNat 0)=true/\(eG a at_).2.2.2=false:=by
 unfold isB eG at *;rcases gh at_ (ac a).1 with e | ⟨s,h1,h2,h3,e⟩
 ·rw [e] at h; cases h
 ·rw [e];have e2:(at_,s.2)=s:=by rw [<- h2]
  rw [e2];obtain ⟨_,k2,k3⟩:=eJ a s h1;obtain ⟨k4,k5⟩:=qQ s h1;rw [h2] at k4 k5;exact ⟨h1,k2,k3,k4,k5,h3⟩
theorem bW {a:List Int} {at_:Int} (h:isB (ac a).1 at_=true):((bF a at_).length:Int)=(eG a at_).1/\((gE a at_).length:Int)=(eG a at_).2.1/\0<=at_/\at_+1+(eG a at_).1+(eG a at_).2.1<=a.length/\0<=(eG a at_).1/\0<=(eG a at_).2.1:=by
 obtain ⟨_,k2,_⟩:=fi h;unfold dg at k2;simp only at k2;refine ⟨?_,?_,by omega,by omega,by omega,by omega⟩
 ·unfold bF aO;rw [List.length_drop,List.length_take];simp only;omega
 ·unfold gE it;rw [List.length_drop,List.length_take];simp only;omega
theorem Es {a:List Int} {at_:Int} (h:isB (ac a).1 at_=true):(a.drop at_.toNat).take (1+(eG a at_).1+(eG a at_).2.1).toNat=a.getD at_.toNat 0::(bF a at_++gE a at_):=by
 obtain ⟨l1,l2,l3,l4,l5,l6⟩:=bW h;unfold bF gE aO it;simp only;rw [bh (0:Int) l3 (by omega),show (1+(eG a at_).1+(eG a at_).2.1).toNat=((eG a at_).1+(eG a at_).2.1).toNat+1 by omega,List.take_succ_cons];congr 1;generalize (eG a at_).1=r at *;generalize (eG a at_).2.1=b at *
 rw [List.drop_take,List.drop_take,show (r+b).toNat=r.toNat+b.toNat by omega,show (at_+1+r).toNat - (at_+1).toNat=r.toNat by omega,show (at_+1+r+b).toNat - (at_+1+r).toNat=b.toNat by omega,
  List.take_add,List.drop_drop,show (at_+1).toNat+r.toNat=(at_+1+r).toNat by omega]
def kK (keep to:List Int) (v:Int):Option Int:=if v=0 then some 0 else if fv keep (v - 1)=true then some (to.getD (cD keep (v - 1)).toNat 0+1) else none
def jU (keep to:List Int) (v:Int):Int:=(kK keep to v).getD 0
def eU (keep to l:List Int):Bool:=l.all fun v=>(kK keep to v).isSome
def gM (a keep to:List Int) (at_:Int):List Int:=a.getD at_.toNat 0::((bF a at_).map (jU keep to)++gE a at_)
def qt (pinned keep long:List Int) (i:Nat):List Int:=List.replicate (ff pinned keep long i - bq pinned keep long i).toNat 0
def eo (a keep to pinned long:List Int):Nat->List Int
 | 0=>[]
 | i+1=>eo a keep to pinned long i++(qt pinned keep long i++gM a keep to (keep.getD i 0))
def ja (w:List Int) (r:cT):List Int:=w.set r.1.toNat (aB (0,r.2 - 1,0,true))
def lJ (a keep to pinned long:List Int) (g:List cT):List Int :=
 g.foldl ja (eo a keep to pinned long keep.length++List.replicate ((a.length:Int) - bq pinned keep long keep.length).toNat 0)
def d5 (a keep pinned:List Int):List Int×List Int×Int :=
 if (aS a keep pinned).2≠0 then ([],[],(aS a keep pinned).2)
 else if (keep.all fun at_=>eU keep (az keep (aS a keep pinned).1 pinned) (bF a at_))=true then
  (lJ a keep (az keep (aS a keep pinned).1 pinned) pinned (aS a keep pinned).1 (b9 a.length keep (aS a keep pinned).1 pinned),az keep (aS a keep pinned).1 pinned,0)
 else ([],[],8)
structure Plan (a keep pinned long:List Int):Prop where
 chk:(ak a).2.2=0
 al:a.length<=256
 isb:∀ x∈keep,isB (ac a).1 x=true
 pre:iV keep long
 lg:∀ i:Nat,i<keep.length->long.getD i 0=1+(eG a (keep.getD i 0)).1+(eG a (keep.getD i 0)).2.1
 le:∀ i:Nat,i<keep.length->bq pinned keep long i<=ff pinned keep long i/\ff pinned keep long i+long.getD i 0<=(a.length:Int)
 en:bq pinned keep long keep.length<=(a.length:Int)
 rs:keep.Pairwise (·<·)
theorem FD {a keep pinned:List Int} (h:(aS a keep pinned).2=0):Plan a keep pinned (aS a keep pinned).1:=by
 obtain ⟨k1,k2,_,k4,_,k6⟩:=ub h;obtain ⟨d1,d2⟩:=HM h;have hp:=ql h;rw [k6] at hp ⊢
 have hG:∀ k:Nat,k<keep.length->(keep.map (di (ac a).1)).getD k 0=di (ac a).1 (keep.getD k 0):=by
  intro k hk;rw [List.getD_eq_getElem?_getD,List.getElem?_map,List.getD_eq_getElem?_getD,List.getElem?_eq_getElem hk];rfl
 have hle:=F0 (pinned:=pinned) hp d1 d2
 have hto:∀ i:Nat,i<keep.length->bq pinned keep (keep.map (di (ac a).1)) i<=ff pinned keep (keep.map (di (ac a).1)) i/\ff pinned keep (keep.map (di (ac a).1)) i+(keep.map (di (ac a).1)).getD i 0<=(a.length:Int):=fun i hi=>by
  have h1:=IH (hle i hi);have h2:=d2 i hi;omega
 refine ⟨k1,(bi k1).1,k4,hp,fun i hi=>by rw [hG i hi]; rfl,hto,?_,ga k2⟩;cases hn:keep.length with
 | zero=>simp [bq]
 | succ n =>
  have:=hto n (by omega);show ff pinned keep (keep.map (di (ac a).1)) n+(keep.map (di (ac a).1)).getD n 0<=_;exact this.2
theorem ki {a keep to:List Int} {at_:Int} (h:isB (ac a).1 at_=true):((gM a keep to at_).length:Int)=1+(eG a at_).1+(eG a at_).2.1:=by
 obtain ⟨l1,l2,_⟩:=bW h;unfold gM;simp only [List.length_cons,List.length_append,List.length_map];omega
theorem dS {keep:List Int} {i:Nat} (h:i<keep.length):keep.getD i 0∈keep:=by
 have:=aH (0:Int) (xs:=keep) (i:=i) (by omega) (by omega);simpa only [Int.toNat_natCast] using this
theorem ka {a keep pinned long:List Int} (to:List Int) (hP:Plan a keep pinned long):∀ i:Nat,i<=keep.length->((eo a keep to pinned long i).length:Int)=bq pinned keep long i
 | 0,_=>rfl
 | i+1,hi=>by
  have ih:=ka to hP i (by omega);have h1:=ki (keep:=keep) (to:=to) (hP.isb _ (dS (i:=i) (by omega)));have h2:=hP.le i (by omega);have h3:=hP.lg i (by omega);have hE:bq pinned keep long (i+1)=ff pinned keep long i+long.getD i 0:=rfl;simp only [eo,List.length_append,qt,List.length_replicate];omega
def o6 (keep to:List Int):Nat->List (Int×Int)
 | 0=>[(0,0)]
 | i+1=>fU (o6 keep to i) (keep.getD i 0+1) (to.getD i 0+1)
theorem no {α:Type} (f:α->Bool) (x:α):∀ (l:List α) (k:Int),ag f k (l++[x])=if l.any f=true then ag f k l else if f x=true then k+l.length else -1
 | [],k=>by simp [ag]
 | y::l,k=>by
  have ih:=no f x l (k+1);simp only [List.cons_append,ag,List.any_cons,ih];by_cases hy:f y=true
  ·simp [hy]
  ·have hy:f y=false:=by simpa using hy
   simp only [hy,Bool.false_eq_true,if_false,Bool.false_or,List.length_cons];split
   ·rfl
   ·split
    ·omega
    ·rfl
theorem xi {keep to:List Int} (hk:keep.Pairwise (·<·)) (h0:∀ x∈keep,0<=x) (v:Int):∀ i:Nat,i<=keep.length->bt (o6 keep to i) v=if v=0 then some 0 else if fv (keep.take i) (v - 1)=true then some (to.getD (cD (keep.take i) (v - 1)).toNat 0+1) else none
 | 0,_=>by
  simp only [o6,bt,List.take_zero,fv,List.any_nil,Bool.false_eq_true,if_false];by_cases hv:v=0
  ·simp [hv]
  ·simp [hv,Ne.symm hv]
 | i+1,hi=>by
  have ih:=xi (to:=to) hk h0 v i (by omega);have hx:=h0 _ (dS (i:=i) (by omega))
  have ht:keep.take (i+1)=keep.take i++[keep.getD i 0]:=by
   rw [List.take_succ_eq_append_getElem (by omega)];congr 2;rw [List.getD_eq_getElem?_getD,List.getElem?_eq_getElem (by omega)];rfl
  have hnot:fv (keep.take i) (keep.getD i 0)=false:=by
   unfold fv;rw [List.any_eq_false];intro y hy;obtain ⟨j,hj,rfl⟩:=List.mem_iff_getElem.1 hy;rw [List.length_take] at hj;have:=List.pairwise_iff_getElem.1 hk j i (by omega) (by omega) (by omega);rw [List.getElem_take];simp only [decide_eq_true_eq];rw [List.getD_eq_getElem?_getD,List.getElem?_eq_getElem (by omega)];simp only [Option.getD_some];omega
  simp only [o6];rw [jf,ih,ht];unfold cD fv;rw [no,List.any_append];simp only [List.any_cons,List.any_nil,Bool.or_false,List.length_take];by_cases hv:v=keep.getD i 0+1
  ·rw [if_pos hv,if_neg (by omega)];have e:v - 1=keep.getD i 0:=by omega
   rw [e];unfold fv at hnot;rw [hnot];simp only [decide_true,Bool.or_true,if_true,Bool.false_eq_true,if_false];rw [show (0+((min i keep.length:Nat):Int)).toNat=i by omega]
  ·rw [if_neg hv];have e:decide (keep.getD i 0=v - 1)=false:=decide_eq_false (by omega);rw [e,Bool.or_false];split
   ·rfl
   ·split
    ·rfl
    ·rfl
theorem JC {keep to:List Int} (hk:keep.Pairwise (·<·)) (h0:∀ x∈keep,0<=x) (v:Int):bt (o6 keep to keep.length) v=kK keep to v:=by
 rw [xi hk h0 v keep.length (Nat.le_refl _),List.take_length];rfl
theorem qS:∀ {l:List au} {s t:au},l.Pairwise (fun s t=>s.1<t.1)->s∈l->t∈l->s.1=t.1->s=t
 | x::l,s,t,h,hs,ht,e=>by
  obtain ⟨h1,h2⟩:=List.pairwise_cons.1 h;rcases List.mem_cons.1 hs with hs | hs <;> rcases List.mem_cons.1 ht with ht | ht
  ·rw [hs,ht]
  ·have:=h1 t ht; subst hs; omega
  ·have:=h1 s hs; subst ht; omega
  ·exact qS h2 hs ht e
theorem F5 {a:List Int} {at_:Int} (hc:(ak a).2.2=0) (h:isB (ac a).1 at_=true):(gW a at_).1.2.1.length=(bF a at_).length/\(gW a at_).1.2.2.1.length=(gE a at_).length:=by
 obtain ⟨k1,_⟩:=fi h;obtain ⟨_,_,e3,_⟩:=bi hc;have hany:((ac a).1.any fun s:au=>decide (s.1=at_))=true:=List.any_eq_true.2 ⟨_,k1,by simp⟩;have hpos:=cS (fun s:au=>decide (s.1=at_)) (ac a).1 0 (by omega);rw [hany] at hpos;have hpos:=of_decide_eq_true hpos;have hlt:=dW (fun s:au=>decide (s.1=at_)) (0,0,0,0,false) (ac a).1 0 (by omega);have his:=dX (fun s:au=>decide (s.1=at_)) (0,0,0,0,false) (ac a).1 0 hpos (by omega);rw [Int.sub_zero] at his;have hm:=aH ((0,0,0,0,false):au) (xs:=(ac a).1) hpos (by omega);have e:=qS (bV a) hm k1 (of_decide_eq_true his);unfold gW;rw [if_neg (by omega),e3,if_neg (by omega),e];unfold gO bF gE;exact ⟨by rw [List.length_map],rfl⟩
theorem oA {A B:List Int} {x:Int} (y:Int) {n:Nat} (h:n=A.length):(A++x::B).set n y=A++y::B:=by
 rw [h,List.set_append_right _ _ (Nat.le_refl _)];simp
theorem Lq {A B:List Int} {x:Int} {n:Nat} (h:n=A.length):(A++x::B).getD n 0=x:=by
 rw [h,List.getD_eq_getElem?_getD,List.getElem?_append_right (Nat.le_refl _)];simp
theorem xu {a keep pinned long:List Int} (hP:Plan a keep pinned long):∀ i:Nat,i<=keep.length->∀ r∈gi pinned keep long i,0<=r.1/\1<=r.2/\r.1+r.2<=(a.length:Int)
 | 0,_,r,hr=>by cases hr
 | i+1,hi,r,hr=>by
  simp only [gi] at hr;rcases List.mem_append.1 hr with hr | hr
  ·exact xu hP i (by omega) r hr
  ·have h1:=hP.le i (by omega);have h2:=hP.lg i (by omega);have h3:=cf pinned hP.pre i (by omega);obtain ⟨_,_,_,l4,l5,l6⟩:=bW (hP.isb _ (dS (i:=i) (by omega)));split at hr
   ·simp only [List.mem_singleton] at hr;subst hr;simp only;omega
   ·cases hr
theorem BJ {a keep pinned long:List Int} (hP:Plan a keep pinned long):∀ r∈b9 a.length keep long pinned,0<=r.1/\1<=r.2/\r.1+r.2<=(a.length:Int):=by
 intro r hr;unfold b9 at hr;rcases List.mem_append.1 hr with hr | hr
 ·exact xu hP _ (Nat.le_refl _) r hr
 ·have h3:=cf pinned hP.pre keep.length (Nat.le_refl _);split at hr
  ·simp only [List.mem_singleton] at hr;subst hr;simp only;omega
  ·cases hr
theorem r6 (n:Int) (keep long pinned:List Int):(b9 n keep long pinned).length<=keep.length+1:=by
 have:=il pinned keep long keep.length;unfold b9;rw [List.length_append];split <;> simp <;> omega
def Kr:Nat->Option LoopGen
 | 6=>some { rd:=[.dat 39 (.arr ty_I),.own 9 3 ty_I],A:=fun ((keep,to):List Int×List Int)=>{ cs:=[.map 37 .u64 bj,.dat 41 ty_I],inv:=fun ((m,i):List (Int×Int)×Int)=>0<=i/\i<=keep.length/\m=o6 keep to i.toNat,mu:=fun ((_,i):List (Int×Int)×Int)=>(keep.length - i).toNat } }
 | 12=>some { rd:=[.dat 60 (.arr ty_I),.own 9 3 ty_I,.dat 0 (.arr bj),.dat 2 (.arr ty_I)],wr:=[14],A:=fun ((keep,to,a,pinned):List Int×List Int×List Int×List Int)=>{ cs:=[.own 14 45 bj,.dat 62 ty_I],inv:=fun ((w,i):List Int×Int)=>0<=i/\i<=keep.length/\((keep.drop i.toNat).all fun at_=>eU keep to (bF a at_))=(keep.all fun at_=>eU keep to (bF a at_))/\w=eo a keep to pinned (aS a keep pinned).1 i.toNat++List.replicate ((a.length:Int) - bq pinned keep (aS a keep pinned).1 i.toNat).toNat 0,mu:=fun ((_,i):List Int×Int)=>(keep.length - i).toNat } }
 | 18=>some { rd:=[.dat 60 (.arr ty_I),.own 9 3 ty_I,.dat 0 (.arr bj),.dat 2 (.arr ty_I),.dat 15 ty_I,.dat 99 ty_I],wr:=[14,19],A:=fun ((keep,to,a,pinned,i,n):List Int×List Int×List Int×List Int×Int×Int)=>{ cs:=[.own 14 45 bj,.part 19 14 bj,.dat 100 ty_I],inv:=fun ((w,pt,k):List Int×(Nat×Nat)×Int)=>0<=k/\k<=n/\pt.1=(ff pinned keep (aS a keep pinned).1 i.toNat).toNat/\(pt.2:Int)=(aS a keep pinned).1.getD i.toNat 0/\eU keep to ((bF a (keep.getD i.toNat 0)).drop k.toNat)=eU keep to (bF a (keep.getD i.toNat 0)) /\
   w=(eo a keep to pinned (aS a keep pinned).1 i.toNat++(qt pinned keep (aS a keep pinned).1 i.toNat++a.getD (keep.getD i.toNat 0).toNat 0::((bF a (keep.getD i.toNat 0)).take k.toNat).map (jU keep to)))++((bF a (keep.getD i.toNat 0)).drop k.toNat++(gE a (keep.getD i.toNat 0)++List.replicate ((a.length:Int) - bq pinned keep (aS a keep pinned).1 (i.toNat+1)).toNat 0)),mu:=fun ((_,_,k):List Int×(Nat×Nat)×Int)=>(n - k).toNat } }
 | 28=>some { rd:=[.own 129 105 jm,.own 14 45 bj],wr:=[14],A:=fun ((g,w0):List cT×List Int)=>{ cs:=[.own 14 45 bj,.dat 131 ty_I],inv:=fun ((w,i):List Int×Int)=>0<=i/\i<=g.length/\w.length=w0.length/\w=(g.take i.toNat).foldl ja w0,mu:=fun ((_,i):List Int×Int)=>(g.length - i).toNat } }
 | _=>none
def IP:Spec:={ Ts:=[.arr bj,.arr ty_I,.arr ty_I],Rs:=[.own 45 bj,.own 3 ty_I,.dat ty_I],pre:=fun _=>True,F:=fun ((a,keep,pinned):List Int×List Int×List Int)=>d5 a keep pinned }
def Bt:Prop :=
  ∀ (x:List Int×List Int×List Int),(fun (v4:type_of% (d5 x.1 x.2.1 x.2.2))=>(fun (v2:type_of% (gv x.1 x.2.1 x.2.2))=>(fun (v0:type_of% (aS x.1 x.2.1 x.2.2))=>((x.1.length * 8<=aJ/\∀ (x_1:Int),x_1∈x.1->am .u64 x_1)/\(x.2.1.length * 8<=aJ/\∀ (x_1:Int),x_1∈x.2.1->am .i64 x_1)/\x.2.2.length * 8<=aJ/\∀ (x_1:Int),x_1∈x.2.2->am .i64 x_1)->True->True/\(decide (v0.2≠0)=true->([]:List Int)=v4.1/\([]:List Int)=v4.2.1/\v0.2=v4.2.2/\True)/\(decide (v0.2≠0)=false->((0:Int)<=0/\0<=(x.2.1.length:Int)/\fU ([]:List (Int×Int)) 0 0=o6 x.2.1 (if v0.2≠0 then ([]:List Int) else az x.2.1 v0.1 x.2.2) (Int.toNat 0))/\∀ (x_1:List (Int×Int)×Int),0<=x_1.2/\x_1.2<=(x.2.1.length:Int)/\x_1.1=o6 x.2.1 (if v0.2≠0 then ([]:List Int) else az x.2.1 v0.1 x.2.2) x_1.2.toNat->(decide (x_1.2<(x.2.1.length:Int))=true->0<=x_1.2/\x_1.2<(x.2.1.length:Int)/\am .u64 (IntKind.u64.wrap (x.2.1.getD x_1.2.toNat 0)+1)/\0<=x_1.2/\x_1.2<(↑(if v0.2≠0 then ([]:List Int) else az x.2.1 v0.1 x.2.2).length:Int)/\x_1.2.toNat<(if v0.2≠0 then ([]:List Int) else az x.2.1 v0.1 x.2.2).length/\am .u64 (IntKind.u64.wrap ((if v0.2≠0 then ([]:List Int) else az x.2.1 v0.1 x.2.2).getD x_1.2.toNat 0)+1)/\am .i64 (x_1.2+1)/\(0<=x_1.2+1/\x_1.2+1<=(x.2.1.length:Int)/\fU x_1.1 (IntKind.u64.wrap (x.2.1.getD x_1.2.toNat 0)+1) (IntKind.u64.wrap ((if v0.2≠0 then ([]:List Int) else az x.2.1 v0.1 x.2.2).getD x_1.2.toNat 0)+1)=o6 x.2.1 (if v0.2≠0 then ([]:List Int) else az x.2.1 v0.1 x.2.2) (x_1.2+1).toNat)/\((x.2.1.length:Int) - (x_1.2+1)).toNat<((x.2.1.length:Int) - x_1.2).toNat)/\(decide (x_1.2<(x.2.1.length:Int))=false->0<=(x.1.length:Int)/\(x.1.length:Int).toNat * 8<=aJ/\((0:Int)<=0/\0<=(x.2.1.length:Int)/\(((List.drop (Int.toNat 0) x.2.1).all fun (at_:Int)=>eU x.2.1 (if v0.2≠0 then ([]:List Int) else az x.2.1 v0.1 x.2.2) (bF x.1 at_))=x.2.1.all fun (at_:Int)=>eU x.2.1 (if v0.2≠0 then ([]:List Int) else az x.2.1 v0.1 x.2.2) (bF x.1 at_))/\List.replicate (x.1.length:Int).toNat (0:Int)=eo x.1 x.2.1 (if v0.2≠0 then ([]:List Int) else az x.2.1 v0.1 x.2.2) x.2.2 v0.1 (Int.toNat 0)++List.replicate ((x.1.length:Int) - bq x.2.2 x.2.1 v0.1 (Int.toNat 0)).toNat (0:Int))/\∀ (x_2:List Int×Int),(fun (v1:type_of% (x.2.1.getD x_2.2.toNat 0))=>0<=x_2.2/\x_2.2<=(x.2.1.length:Int)/\(((List.drop x_2.2.toNat x.2.1).all fun (at_:Int)=>eU x.2.1 (if v0.2≠0 then ([]:List Int) else az x.2.1 v0.1 x.2.2) (bF x.1 at_))=x.2.1.all fun (at_:Int)=>eU x.2.1 (if v0.2≠0 then ([]:List Int) else az x.2.1 v0.1 x.2.2) (bF x.1 at_))/\x_2.1=eo x.1 x.2.1 (if v0.2≠0 then ([]:List Int) else az x.2.1 v0.1 x.2.2) x.2.2 v0.1 x_2.2.toNat++List.replicate ((x.1.length:Int) - bq x.2.2 x.2.1 v0.1 x_2.2.toNat).toNat (0:Int)->(decide (x_2.2<(x.2.1.length:Int))=true->0<=x_2.2/\x_2.2<(x.2.1.length:Int)/\True/\0<=x_2.2/\x_2.2<(↑(if v0.2≠0 then ([]:List Int) else az x.2.1 v0.1 x.2.2).length:Int)/\x_2.2.toNat<(if v0.2≠0 then ([]:List Int) else az x.2.1 v0.1 x.2.2).length/\0<=x_2.2/\x_2.2<(↑(if v0.2≠0 then ([]:List Int) else az x.2.1 v0.1 x.2.2).length:Int)/\x_2.2.toNat<(if v0.2≠0 then ([]:List Int) else az x.2.1 v0.1 x.2.2).length/\am .i64 ((if v0.2≠0 then ([]:List Int) else az x.2.1 v0.1 x.2.2).getD x_2.2.toNat 0+1)/\am .i64 ((if v0.2≠0 then ([]:List Int) else az x.2.1 v0.1 x.2.2).getD x_2.2.toNat 0+1+(↑(gW x.1 v1).1.2.1.length:Int))/\am .i64 ((if v0.2≠0 then ([]:List Int) else az x.2.1 v0.1 x.2.2).getD x_2.2.toNat 0+1+(↑(gW x.1 v1).1.2.1.length:Int)+(↑(gW x.1 v1).1.2.2.1.length:Int))/\0<=(if v0.2≠0 then ([]:List Int) else az x.2.1 v0.1 x.2.2).getD x_2.2.toNat 0/\(if v0.2≠0 then ([]:List Int) else az x.2.1 v0.1 x.2.2).getD x_2.2.toNat 0<=(if v0.2≠0 then ([]:List Int) else az x.2.1 v0.1 x.2.2).getD x_2.2.toNat 0+1+(↑(gW x.1 v1).1.2.1.length:Int)+(↑(gW x.1 v1).1.2.2.1.length:Int)/\(if v0.2≠0 then ([]:List Int) else az x.2.1 v0.1 x.2.2).getD x_2.2.toNat 0+1+(↑(gW x.1 v1).1.2.1.length:Int)+(↑(gW x.1 v1).1.2.2.1.length:Int)<=(x_2.1.length:Int)/\0<=x.2.1.getD x_2.2.toNat 0/\x.2.1.getD x_2.2.toNat 0<=(x.1.length:Int)/\((if v0.2≠0 then ([]:List Int) else az x.2.1 v0.1 x.2.2).getD x_2.2.toNat 0).toNat+(((if v0.2≠0 then ([]:List Int) else az x.2.1 v0.1 x.2.2).getD x_2.2.toNat 0+1+(↑(gW x.1 v1).1.2.1.length:Int)+(↑(gW x.1 v1).1.2.2.1.length:Int)).toNat - ((if v0.2≠0 then ([]:List Int) else az x.2.1 v0.1 x.2.2).getD x_2.2.toNat 0).toNat)<=x_2.1.length/\((0:Int)<=0/\0<=(↑(gW x.1 v1).1.2.1.length:Int)/\((if v0.2≠0 then ([]:List Int) else az x.2.1 v0.1 x.2.2).getD x_2.2.toNat 0).toNat=(ff x.2.2 x.2.1 v0.1 x_2.2.toNat).toNat/\(↑(((if v0.2≠0 then ([]:List Int) else az x.2.1 v0.1 x.2.2).getD x_2.2.toNat 0+1+(↑(gW x.1 v1).1.2.1.length:Int)+(↑(gW x.1 v1).1.2.2.1.length:Int)).toNat - ((if v0.2≠0 then ([]:List Int) else az x.2.1 v0.1 x.2.2).getD x_2.2.toNat 0).toNat):Int)=v0.1.getD x_2.2.toNat 0/\eU x.2.1 (if v0.2≠0 then ([]:List Int) else az x.2.1 v0.1 x.2.2) (List.drop (Int.toNat 0) (bF x.1 v1))=eU x.2.1 (if v0.2≠0 then ([]:List Int) else az x.2.1 v0.1 x.2.2) (bF x.1 v1)/\List.take ((if v0.2≠0 then ([]:List Int) else az x.2.1 v0.1 x.2.2).getD x_2.2.toNat 0).toNat x_2.1++(List.take (min (List.drop v1.toNat x.1).length (((if v0.2≠0 then ([]:List Int) else az x.2.1 v0.1 x.2.2).getD x_2.2.toNat 0+1+(↑(gW x.1 v1).1.2.1.length:Int)+(↑(gW x.1 v1).1.2.2.1.length:Int)).toNat - ((if v0.2≠0 then ([]:List Int) else az x.2.1 v0.1 x.2.2).getD x_2.2.toNat 0).toNat)) (List.drop v1.toNat x.1)++List.drop (((if v0.2≠0 then ([]:List Int) else az x.2.1 v0.1 x.2.2).getD x_2.2.toNat 0).toNat+min (List.drop v1.toNat x.1).length (((if v0.2≠0 then ([]:List Int) else az x.2.1 v0.1 x.2.2).getD x_2.2.toNat 0+1+(↑(gW x.1 v1).1.2.1.length:Int)+(↑(gW x.1 v1).1.2.2.1.length:Int)).toNat - ((if v0.2≠0 then ([]:List Int) else az x.2.1 v0.1 x.2.2).getD x_2.2.toNat 0).toNat)) x_2.1)=eo x.1 x.2.1 (if v0.2≠0 then ([]:List Int) else az x.2.1 v0.1 x.2.2) x.2.2 v0.1 x_2.2.toNat++(qt x.2.2 x.2.1 v0.1 x_2.2.toNat++x.1.getD v1.toNat 0::List.map (jU x.2.1 (if v0.2≠0 then ([]:List Int) else az x.2.1 v0.1 x.2.2)) (List.take (Int.toNat 0) (bF x.1 v1)))++(List.drop (Int.toNat 0) (bF x.1 v1)++(gE x.1 v1++List.replicate ((x.1.length:Int) - bq x.2.2 x.2.1 v0.1 (x_2.2.toNat+1)).toNat (0:Int))))/\∀ (x_3:List Int×(Nat×Nat)×Int),0<=x_3.2.2/\x_3.2.2<=(↑(gW x.1 v1).1.2.1.length:Int)/\x_3.2.1.1=(ff x.2.2 x.2.1 v0.1 x_2.2.toNat).toNat/\(↑x_3.2.1.2:Int)=v0.1.getD x_2.2.toNat 0/\eU x.2.1 (if v0.2≠0 then ([]:List Int) else az x.2.1 v0.1 x.2.2) (List.drop x_3.2.2.toNat (bF x.1 v1))=eU x.2.1 (if v0.2≠0 then ([]:List Int) else az x.2.1 v0.1 x.2.2) (bF x.1 v1)/\x_3.1=eo x.1 x.2.1 (if v0.2≠0 then ([]:List Int) else az x.2.1 v0.1 x.2.2) x.2.2 v0.1 x_2.2.toNat++(qt x.2.2 x.2.1 v0.1 x_2.2.toNat++x.1.getD v1.toNat 0::List.map (jU x.2.1 (if v0.2≠0 then ([]:List Int) else az x.2.1 v0.1 x.2.2)) (List.take x_3.2.2.toNat (bF x.1 v1)))++(List.drop x_3.2.2.toNat (bF x.1 v1)++(gE x.1 v1++List.replicate ((x.1.length:Int) - bq x.2.2 x.2.1 v0.1 (x_2.2.toNat+1)).toNat (0:Int)))->(decide (x_3.2.2<(↑(gW x.1 v1).1.2.1.length:Int))=true->am .i64 (1+x_3.2.2)/\(0:Int)<=1+x_3.2.2/\1+x_3.2.2<(↑x_3.2.1.2:Int)/\x_3.2.1.1+(1+x_3.2.2).toNat<x_3.1.length/\((!(bt x_1.1 (x_3.1.getD (x_3.2.1.1+(1+x_3.2.2).toNat) 0)).isSome)=true->([]:List Int)=v4.1/\([]:List Int)=v4.2.1/\8=v4.2.2/\True)/\((!(bt x_1.1 (x_3.1.getD (x_3.2.1.1+(1+x_3.2.2).toNat) 0)).isSome)=false->am .i64 (1+x_3.2.2)/\(0:Int)<=1+x_3.2.2/\1+x_3.2.2<(↑x_3.2.1.2:Int)/\x_3.2.1.1+(1+x_3.2.2).toNat<x_3.1.length/\am .i64 (x_3.2.2+1)/\(0<=x_3.2.2+1/\x_3.2.2+1<=(↑(gW x.1 v1).1.2.1.length:Int)/\x_3.2.1.1=(ff x.2.2 x.2.1 v0.1 x_2.2.toNat).toNat/\(↑x_3.2.1.2:Int)=v0.1.getD x_2.2.toNat 0/\eU x.2.1 (if v0.2≠0 then ([]:List Int) else az x.2.1 v0.1 x.2.2) (List.drop (x_3.2.2+1).toNat (bF x.1 v1))=eU x.2.1 (if v0.2≠0 then ([]:List Int) else az x.2.1 v0.1 x.2.2) (bF x.1 v1)/\x_3.1.set (x_3.2.1.1+(1+x_3.2.2).toNat) ((bt x_1.1 (x_3.1.getD (x_3.2.1.1+(1+x_3.2.2).toNat) 0)).getD 0)=eo x.1 x.2.1 (if v0.2≠0 then ([]:List Int) else az x.2.1 v0.1 x.2.2) x.2.2 v0.1 x_2.2.toNat++(qt x.2.2 x.2.1 v0.1 x_2.2.toNat++x.1.getD v1.toNat 0::List.map (jU x.2.1 (if v0.2≠0 then ([]:List Int) else az x.2.1 v0.1 x.2.2)) (List.take (x_3.2.2+1).toNat (bF x.1 v1)))++(List.drop (x_3.2.2+1).toNat (bF x.1 v1)++(gE x.1 v1++List.replicate ((x.1.length:Int) - bq x.2.2 x.2.1 v0.1 (x_2.2.toNat+1)).toNat (0:Int))))/\((↑(gW x.1 v1).1.2.1.length:Int) - (x_3.2.2+1)).toNat<((↑(gW x.1 v1).1.2.1.length:Int) - x_3.2.2).toNat))/\(decide (x_3.2.2<(↑(gW x.1 v1).1.2.1.length:Int))=false->am .i64 (x_2.2+1)/\(0<=x_2.2+1/\x_2.2+1<=(x.2.1.length:Int)/\(((List.drop (x_2.2+1).toNat x.2.1).all fun (at_:Int)=>eU x.2.1 (if v0.2≠0 then ([]:List Int) else az x.2.1 v0.1 x.2.2) (bF x.1 at_))=x.2.1.all fun (at_:Int)=>eU x.2.1 (if v0.2≠0 then ([]:List Int) else az x.2.1 v0.1 x.2.2) (bF x.1 at_))/\x_3.1=eo x.1 x.2.1 (if v0.2≠0 then ([]:List Int) else az x.2.1 v0.1 x.2.2) x.2.2 v0.1 (x_2.2+1).toNat++List.replicate ((x.1.length:Int) - bq x.2.2 x.2.1 v0.1 (x_2.2+1).toNat).toNat (0:Int))/\((x.2.1.length:Int) - (x_2.2+1)).toNat<((x.2.1.length:Int) - x_2.2).toNat))/\(decide (x_2.2<(x.2.1.length:Int))=false->True/\((0:Int)<=0/\0<=(v2.1.length:Int)/\x_2.1.length=x_2.1.length/\x_2.1=List.foldl ja x_2.1 (List.take (Int.toNat 0) v2.1))/\∀ (x_3:List Int×Int),(fun (v3:type_of% (v2.1.getD x_3.2.toNat (0,0)))=>0<=x_3.2/\x_3.2<=(v2.1.length:Int)/\x_3.1.length=x_2.1.length/\x_3.1=List.foldl ja x_2.1 (List.take x_3.2.toNat v2.1)->(decide (x_3.2<(v2.1.length:Int))=true->0<=x_3.2/\x_3.2<(v2.1.length:Int)/\x_3.2.toNat<v2.1.length/\am .i64 (v3.2 - 1)/\True/\0<=v3.1/\v3.1<(x_3.1.length:Int)/\v3.1.toNat<x_3.1.length/\af (0,v3.2 - 1,0,true)=af (0,v3.2 - 1,0,true)/\am .i64 (x_3.2+1)/\(0<=x_3.2+1/\x_3.2+1<=(v2.1.length:Int)/\(x_3.1.set v3.1.toNat (if af (0,v3.2 - 1,0,true)=0 then aB (0,v3.2 - 1,0,true) else (0:Int))).length=x_2.1.length/\x_3.1.set v3.1.toNat (if af (0,v3.2 - 1,0,true)=0 then aB (0,v3.2 - 1,0,true) else (0:Int))=List.foldl ja x_2.1 (List.take (x_3.2+1).toNat v2.1))/\((v2.1.length:Int) - (x_3.2+1)).toNat<((v2.1.length:Int) - x_3.2).toNat)/\(decide (x_3.2<(v2.1.length:Int))=false->x_3.1=v4.1/\(if v0.2≠0 then ([]:List Int) else az x.2.1 v0.1 x.2.2)=v4.2.1/\0=v4.2.2/\True)) (v2.1.getD x_3.2.toNat (0,0)))) (x.2.1.getD x_2.2.toNat 0)))) (aS x.1 x.2.1 x.2.2)) (gv x.1 x.2.1 x.2.2)) (d5 x.1 x.2.1 x.2.2)
theorem Gg:Bt:=by
 unfold Bt;intro ⟨a,keep,pinned⟩ ⟨⟨hb,hw⟩,_⟩ _;unfold aJ at hb;simp only at hb hw ⊢
 have hF:d5 a keep pinned=if (aS a keep pinned).2≠0 then ([],[],(aS a keep pinned).2)
  else if (keep.all fun at_=>eU keep (az keep (aS a keep pinned).1 pinned) (bF a at_))=true then
   (lJ a keep (az keep (aS a keep pinned).1 pinned) pinned (aS a keep pinned).1 (b9 a.length keep (aS a keep pinned).1 pinned),az keep (aS a keep pinned).1 pinned,0)
  else ([],[],8):=rfl
 rw [hF];refine ⟨trivial,fun hc=>?_,fun hc=>?_⟩
 ·rw [if_pos (of_decide_eq_true hc)];exact ⟨rfl,rfl,rfl,trivial⟩
 have hz:(aS a keep pinned).2=0:=by simpa using of_decide_eq_false hc
 have hP:=FD hz
 have hG:gv a keep pinned=(b9 a.length keep (aS a keep pinned).1 pinned,0):=by
  unfold gv;rw [if_neg (by omega),hz]
 rw [if_neg (by omega),if_neg (by omega),hG];clear hF hG hc hz;generalize (aS a keep pinned).1=long at *;have hto:(az keep long pinned).length=keep.length:=by simp [az]
 have htg:∀ i:Nat,i<keep.length->(az keep long pinned).getD i 0=ff pinned keep long i:=by
  intro i hi;unfold az;rw [List.getD_eq_getElem?_getD,List.getElem?_map,List.getElem?_range hi];rfl
 have hk0:∀ x∈keep,0<=x:=fun x hx=>(hP.pre.2.2.1 x hx).1
 have hkl:=hP.pre.2.1;have hlong:=hP.pre.1;have hal:=hP.al;have hgi:=BJ hP;have hgl:=r6 a.length keep long pinned;rw [hto];generalize az keep long pinned=to at *;generalize b9 a.length keep long pinned=g at *;refine ⟨⟨by omega,by omega,rfl⟩,fun ⟨m,i⟩ ⟨h0,h1,h2⟩=>⟨fun hlt=>?_,fun hge=>?_⟩⟩
 ·have hlt':i<(keep.length:Int):=of_decide_eq_true hlt;simp only at h0 h1 h2 ⊢;have hx:=hP.pre.2.2.1 _ (aH (0:Int) h0 hlt');have ht:=pU pinned hP.pre (i:=i.toNat) (by omega);rw [<- htg i.toNat (by omega)] at ht;rw [fO (n:=keep.getD i.toNat 0) (by omega) (by omega),fO (n:=to.getD i.toNat 0) (by omega) (by omega)];simp only [am];refine ⟨h0,hlt',by omega,h0,by omega,by omega,by omega,by omega,⟨by omega,by omega,?_⟩,by omega⟩;rw [show (i+1).toNat=i.toNat+1 by omega,h2];rfl
 have hge:¬ i<(keep.length:Int):=of_decide_eq_false hge;simp only at h0 h1 h2 ⊢;rw [show i.toNat=keep.length by omega] at h2;subst h2;clear h0 h1 hge;unfold aJ;refine ⟨by omega,by omega,⟨by omega,by omega,rfl,?_⟩,fun ⟨w,i⟩ ⟨b0,b1,b2,b3⟩=>⟨fun hlt=>?_,fun hge=>?_⟩⟩
 ·simp [eo,bq]
 ·have hlt':i<(keep.length:Int):=of_decide_eq_true hlt;simp only at b0 b1 b2 b3 ⊢;have hib:=hP.isb _ (aH (0:Int) b0 hlt');obtain ⟨l1,l2,l3,l4,l5,l6⟩:=bW hib;obtain ⟨o1,o2⟩:=F5 hP.chk hib;have hle:=hP.le i.toNat (by omega);have hlg:=hP.lg i.toNat (by omega);have hul:=ka to hP i.toNat (by omega);have hE0:=cf pinned hP.pre i.toNat (by omega);have hE1:bq pinned keep long (i.toNat+1)=ff pinned keep long i.toNat+long.getD i.toNat 0:=rfl
  have hwl:w.length=a.length:=by
   rw [b3,List.length_append,List.length_replicate];omega
  rw [bh (0:Int) b0 hlt',List.all_cons,show (i+1).toNat=i.toNat+1 by omega] at b2;have hup:eo a keep to pinned long (i.toNat+1)=eo a keep to pinned long i.toNat++(qt pinned keep long i.toNat++gM a keep to (keep.getD i.toNat 0)):=rfl;have hpw:gM a keep to (keep.getD i.toNat 0)=a.getD (keep.getD i.toNat 0).toNat 0::((bF a (keep.getD i.toNat 0)).map (jU keep to)++gE a (keep.getD i.toNat 0)):=rfl;have hgw:(qt pinned keep long i.toNat).length=(ff pinned keep long i.toNat - bq pinned keep long i.toNat).toNat:=by simp [qt]
  have hgd:qt pinned keep long i.toNat=List.replicate (ff pinned keep long i.toNat - bq pinned keep long i.toNat).toNat 0:=rfl;have howd:=Es hib;rw [htg i.toNat (by omega),o1,o2,show (i+1).toNat=i.toNat+1 by omega,hup,hpw];clear hup hpw o1 o2 hib;generalize keep.getD i.toNat 0=at_ at *;have hfst:(eG a at_).1=((bF a at_).length:Int):=l1.symm;have hsnd:(eG a at_).2.1=((gE a at_).length:Int):=l2.symm;rw [hfst,hsnd] at hlg howd l4;generalize bF a at_=rs at *;generalize gE a at_=bd at *;rw [hlg] at hle hE1 ⊢;rw [hE1];generalize hS:eo a keep to pinned long i.toNat=S at *;generalize qt pinned keep long i.toNat=G at *;generalize ff pinned keep long i.toNat=t at *;generalize bq pinned keep long i.toNat=e at *
  have hmin:min (a.drop at_.toNat).length ((t+1+(rs.length:Int)+(bd.length:Int)).toNat - t.toNat)=(1+(rs.length:Int)+(bd.length:Int)).toNat:=by
   rw [List.length_drop];omega
  simp only [am]
  refine ⟨b0,hlt',trivial,b0,by omega,by omega,b0,by omega,by omega,by omega,by omega,by omega,by omega,by omega,by omega,by omega,by omega,by omega,
   ⟨by omega,by omega,trivial,by omega,rfl,?_⟩,fun ⟨w',⟨p1,p2⟩,k⟩ ⟨c0,c1,c2,c3,c4,c5⟩=>⟨fun hk=>?_,fun hk=>?_⟩⟩
  ·rw [hmin,howd]
   have ht1:w.take t.toNat=S++G:=by
    rw [b3,List.take_append,List.take_of_length_le (by omega),List.take_replicate,hgd];congr 2;omega
   have ht2:w.drop (t.toNat+(1+(rs.length:Int)+(bd.length:Int)).toNat)=List.replicate ((a.length:Int) - (t+(1+(rs.length:Int)+(bd.length:Int)))).toNat 0:=by
    rw [b3,List.drop_append,List.drop_of_length_le (by omega),List.nil_append,List.drop_replicate];congr 1;omega
   rw [ht1,ht2];simp [List.append_assoc]
  ·have hk:k<(rs.length:Int):=of_decide_eq_true hk;simp only at c0 c1 c2 c3 c4 c5 ⊢;rw [bh (0:Int) c0 hk] at c4 c5;have hsn:=bB (0:Int) c0 hk;rw [hsn,List.map_append];generalize rs.getD k.toNat 0=x at *
   have hA:(S++(G++a.getD at_.toNat 0::(rs.take k.toNat).map (jU keep to))).length=p1+(1+k).toNat:=by
    simp only [List.length_append,List.length_cons,List.length_map,List.length_take];omega
   have hw':w'.length=a.length:=by
    rw [c5];simp only [List.length_append,List.length_cons,List.length_map,List.length_take,List.length_drop,List.length_replicate];omega
   rw [List.cons_append] at c5;have hget:w'.getD (p1+(1+k).toNat) 0=x:=by rw [c5]; exact Lq hA.symm
   have hset:∀ y,w'.set (p1+(1+k).toNat) y=(S++(G++a.getD at_.toNat 0::(rs.take k.toNat).map (jU keep to)))++y::(rs.drop (k+1).toNat++(bd++List.replicate ((a.length:Int) - (t+(1+(rs.length:Int)+(bd.length:Int)))).toNat 0)):=fun y=>by
    rw [c5]; exact oA y hA.symm
   rw [hget,hset,JC hP.rs hk0];have hg1:eU keep to (x::rs.drop (k+1).toNat)=((kK keep to x).isSome&&eU keep to (rs.drop (k+1).toNat)):=rfl;rw [hg1] at c4;refine ⟨by omega,by omega,by omega,by omega,fun hn=>?_,fun hn=>⟨by omega,by omega,by omega,by omega,by omega,⟨by omega,by omega,c2,c3,?_,?_⟩,by omega⟩⟩
   ·have hn:(kK keep to x).isSome=false:=by simpa using hn
    rw [hn,Bool.false_and] at c4;rw [<- c4,Bool.false_and] at b2;rw [if_neg (by rw [<- b2]; simp)];exact ⟨rfl,rfl,rfl,trivial⟩
   ·have hn:(kK keep to x).isSome=true:=by simpa using hn
    rw [hn,Bool.true_and] at c4;exact c4
   ·have hm:[x].map (jU keep to)=[(kK keep to x).getD 0]:=rfl;rw [hm];simp [List.append_assoc]
  ·have hk:¬ k<(rs.length:Int):=of_decide_eq_false hk;simp only at c0 c1 c2 c3 c4 c5 ⊢;rw [b7 hk] at c4 c5;rw [cA hk] at c5;have hg0:eU keep to []=true:=rfl;rw [hg0] at c4;rw [<- c4,Bool.true_and] at b2;refine ⟨by omega,⟨by omega,by omega,b2,?_⟩,by omega⟩;rw [c5];simp [List.append_assoc]
 ·have hge:¬ i<(keep.length:Int):=of_decide_eq_false hge;simp only at b0 b1 b2 b3 ⊢;rw [b7 hge,List.all_nil] at b2;rw [if_pos b2.symm];rw [show i.toNat=keep.length by omega] at b3;have hul:=ka to hP keep.length (Nat.le_refl _);have hE0:=cf pinned hP.pre keep.length (Nat.le_refl _);have hen:=hP.en
  have hwl:w.length=a.length:=by
   rw [b3,List.length_append,List.length_replicate];omega
  have hW:lJ a keep to pinned long g=g.foldl ja w:=by
   rw [b3];rfl
  rw [hW];refine ⟨trivial,⟨by omega,by omega,trivial,rfl⟩,fun ⟨w',j⟩ ⟨d0,d1,d2,d3⟩=>⟨fun hj=>?_,fun hj=>?_⟩⟩
  ·have hj:j<(g.length:Int):=of_decide_eq_true hj;simp only at d0 d1 d2 d3 ⊢;have hr:=hgi _ (aH ((0,0):cT) d0 hj);have hsn:=bB ((0,0):cT) d0 hj;rw [hsn,List.foldl_append,<- d3];generalize g.getD j.toNat (0,0)=r at *
   have hh:af (0,r.2 - 1,0,true)=0:=by
    simp [af,aa];omega
   rw [if_pos hh,List.length_set];simp only [am];exact ⟨d0,hj,by omega,by omega,trivial,hr.1,by omega,by omega,by first | trivial | rfl,by omega,⟨by omega,by omega,d2,rfl⟩,by omega⟩
  ·have hj:¬ j<(g.length:Int):=of_decide_eq_false hj;simp only at d3 ⊢;rw [cA hj] at d3;exact ⟨d3,trivial,trivial,trivial⟩
theorem Jo:IP.ok Tryz.prog 219:=aD (ann:=Kr) (ae Hq (ae mR (ae BQ (ae iz ap)))) Tryz.func219 (by kernel_rfl) Gg
end
section
open Go
set_option maxRecDepth 100000
set_option maxHeartbeats 1000000
theorem Ib {a:List Int} {at_ k:Int} (h0:0<=k) (h1:k<(gE a at_).length) (l2:((gE a at_).length:Int)=(eG a at_).2.1) (l3:0<=at_) (l5:0<=(eG a at_).1) :
  a.getD (at_+1+(eG a at_).1+k).toNat 0=(gE a at_).getD k.toNat 0:=by
 rw [l2] at h1;unfold gE it;simp only;generalize (eG a at_).1=r at *;generalize (eG a at_).2.1=b at *;rw [List.getD_eq_getElem?_getD (l:=a),List.getD_eq_getElem?_getD,List.getElem?_drop,List.getElem?_take,if_pos (by omega)];congr 2;omega
def Bb (a keep pinned:List Int):List Int×Bool :=
 if (keep.all fun at_=>eU keep (az keep (keep.map (di (ac a).1)) pinned) (bF a at_))=true then
  (lJ a keep (az keep (keep.map (di (ac a).1)) pinned) pinned (keep.map (di (ac a).1)) (b9 a.length keep (keep.map (di (ac a).1)) pinned),true)
 else ([],false)
end
section
open Go
def yZ:Go.Shelf.Ren:=⟨fun | 189=>33 | 125=>105 | 257=>104 | 128=>183 | 129=>184 | 294=>174 | 295=>175 | 296=>176 | 297=>177 | 298=>178 | 299=>179 | 216=>180 | 300=>181 | 301=>182 | 328=>230 | 329=>231 | 330=>232 | 331=>233 | 332=>234 | 215=>235 | 343=>257 | n=>n,fun | 28=>31 | 3=>3 | 46=>182 | 0=>0 | 51=>267 | 53=>45 | 4=>4 | 183=>260 | 182=>259 | 131=>98 | 5=>5 | 9=>9 | 218=>306 | 222=>110 | 228=>330 | 229=>331 | n=>n,fun | n=>n⟩
theorem Cb:Go.Proofs.Lays.n189 Tryz.prog yZ where
 mixed:=by kernel_rfl
 f125:=Tryz.func105.trans (congrArg some (by kernel_rfl))
 f128:=Tryz.func183.trans (congrArg some (by kernel_rfl))
 f129:=Tryz.func184.trans (congrArg some (by kernel_rfl))
 f189:=Tryz.func33.trans (congrArg some (by kernel_rfl))
 f215:=Tryz.func235.trans (congrArg some (by kernel_rfl))
 f216:=Tryz.func180.trans (congrArg some (by kernel_rfl))
 f257:=Tryz.func104.trans (congrArg some (by kernel_rfl))
 f294:=Tryz.func174.trans (congrArg some (by kernel_rfl))
 f295:=Tryz.func175.trans (congrArg some (by kernel_rfl))
 f296:=Tryz.func176.trans (congrArg some (by kernel_rfl))
 f297:=Tryz.func177.trans (congrArg some (by kernel_rfl))
 f298:=Tryz.func178.trans (congrArg some (by kernel_rfl))
 f299:=Tryz.func179.trans (congrArg some (by kernel_rfl))
 f300:=Tryz.func181.trans (congrArg some (by kernel_rfl))
 f301:=Tryz.func182.trans (congrArg some (by kernel_rfl))
 f328:=Tryz.func230.trans (congrArg some (by kernel_rfl))
 f329:=Tryz.func231.trans (congrArg some (by kernel_rfl))
 f330:=Tryz.func232.trans (congrArg some (by kernel_rfl))
 f331:=Tryz.func233.trans (congrArg some (by kernel_rfl))
 f332:=Tryz.func234.trans (congrArg some (by kernel_rfl))
 f343:=Tryz.func257.trans (congrArg some (by kernel_rfl))
 t0:=Tryz.underlying0
 a0:=Tryz.isAgg0
 z0:=Tryz.sizeOf0
 v0:=Tryz.zeroValue0
 t3:=Tryz.underlying3
 a3:=Tryz.isAgg3
 z3:=Tryz.sizeOf3
 v3:=Tryz.zeroValue3
 t4:=Tryz.underlying4
 a4:=Tryz.isAgg4
 z4:=Tryz.sizeOf4
 v4:=Tryz.zeroValue4
 t5:=Tryz.underlying5
 a5:=Tryz.isAgg5
 z5:=Tryz.sizeOf5
 v5:=Tryz.zeroValue5
 t9:=Tryz.underlying9
 a9:=Tryz.isAgg9
 z9:=Tryz.sizeOf9
 v9:=Tryz.zeroValue9
 t28:=Tryz.underlying31
 a28:=Tryz.isAgg31
 z28:=Tryz.sizeOf31
 v28:=Tryz.zeroValue31
 t46:=Tryz.underlying182
 a46:=Tryz.isAgg182
 z46:=Tryz.sizeOf182
 v46:=Tryz.zeroValue182
 t51:=Tryz.underlying267
 a51:=Tryz.isAgg267
 z51:=Tryz.sizeOf267
 v51:=Tryz.zeroValue267
 t53:=Tryz.underlying45
 a53:=Tryz.isAgg45
 z53:=Tryz.sizeOf45
 v53:=Tryz.zeroValue45
 t131:=Tryz.underlying98
 a131:=Tryz.isAgg98
 z131:=Tryz.sizeOf98
 v131:=Tryz.zeroValue98
 t182:=Tryz.underlying259
 a182:=Tryz.isAgg259
 z182:=Tryz.sizeOf259
 v182:=Tryz.zeroValue259
 t183:=Tryz.underlying260
 a183:=Tryz.isAgg260
 z183:=Tryz.sizeOf260
 v183:=Tryz.zeroValue260
 t218:=Tryz.underlying306
 a218:=Tryz.isAgg306
 z218:=Tryz.sizeOf306
 v218:=Tryz.zeroValue306
 t222:=Tryz.underlying110
 a222:=Tryz.isAgg110
 z222:=Tryz.sizeOf110
 v222:=Tryz.zeroValue110
 t228:=Tryz.underlying330
 a228:=Tryz.isAgg330
 z228:=Tryz.sizeOf330
 v228:=Tryz.zeroValue330
 t229:=Tryz.underlying331
 a229:=Tryz.isAgg331
 z229:=Tryz.sizeOf331
 v229:=Tryz.zeroValue331
def r8:Go.Shelf.Ren:=⟨fun | 20=>95 | n=>n,fun | 22=>31 | 3=>3 | 4=>4 | 0=>0 | n=>n,fun | n=>n⟩
theorem rO:Go.Proofs.Lays2.n20 Tryz.prog r8 where
 mixed:=by kernel_rfl
 f20:=Tryz.func95.trans (congrArg some (by kernel_rfl))
 t0:=Tryz.underlying0
 a0:=Tryz.isAgg0
 z0:=Tryz.sizeOf0
 v0:=Tryz.zeroValue0
 t3:=Tryz.underlying3
 a3:=Tryz.isAgg3
 z3:=Tryz.sizeOf3
 v3:=Tryz.zeroValue3
 t4:=Tryz.underlying4
 a4:=Tryz.isAgg4
 z4:=Tryz.sizeOf4
 v4:=Tryz.zeroValue4
 t22:=Tryz.underlying31
 a22:=Tryz.isAgg31
 z22:=Tryz.sizeOf31
 v22:=Tryz.zeroValue31
 i3:=by kernel_rfl
theorem yD {p:PH}:∀ {xs:List Int} {l:List Value},aK (ty_I.holds p) xs l->l=xs.map (Value.int .i64)/\∀ x∈xs,am .i64 x
 | [],l,h=>⟨h,by simp⟩
 | x::xs,l,⟨c1,c2,e,h1,h2⟩=>by
  obtain ⟨e2,h3⟩:=yD h2;obtain ⟨e1,h4⟩:=h1;subst e1 e2 e;refine ⟨rfl,fun y hy=>?_⟩;rcases List.mem_cons.1 hy with rfl | hy
  ·exact h4
  ·exact h3 y hy
theorem qd {p:PH}:∀ {xs:List Int},(∀ x∈xs,am .i64 x)->aK (ty_I.holds p) xs (xs.map (Value.int .i64))
 | [],_=>rfl
 | x::xs,h=>⟨[.int .i64 x],xs.map (Value.int .i64),rfl,⟨rfl,h x (by simp)⟩,qd (fun y hy=>h y (by simp [hy]))⟩
def d9 (xs:List Int):List Int:=xs.mergeSort fun x y=>decide (x<=y)
def AH:RowFn:={ e:=3,T:=ty_I,Ts:=[],out:=false,pre:=fun _ _ _=>True,F:=fun xs _ _=>d9 xs }
theorem tU:AH.ok Tryz.prog 33:=by
 intro p w v (xs:List Int) l v2 (ys:List Int) l2 vs x _ _ hA hown hl hbig hp _ _ _ hargs _;have hvs:vs=[]:=hargs;subst hvs;obtain ⟨el,hin⟩:=yD hl;have hown':w.ownsRow 0 3 1 v xs.length l:=hown;have h8:xs.length * 8<=aJ:=hbig;have hlen:(d9 xs).length=xs.length:=List.length_mergeSort _;rcases hown'.2 with ⟨rfl,h0⟩ | ⟨g,cap,cur,rfl,_,hb,h1,h2,h3,h4⟩
 ·have hx:xs=[]:=List.eq_nil_of_length_eq_zero h0;subst hx;refine (Any.slices_Sort_int_none Cb none 0 w).mono ?_;rintro e w' ⟨rfl,rfl⟩;have e0:AH.F ([]:List Int) ys x=([]:List Int):=by show d9 []=[]; simp [d9]
  rw [e0];exact ⟨_,l,rfl,fun _=>rfl,World.grownBy.refl _ _,hown,hl,hbig,fun b h=>.inl h⟩
 ·have hg:g<w.heap.size:=(Array.getElem?_eq_some_iff.1 hb).1;refine (Any.slices_Sort_int Cb g 0 cap xs w (holds_of_blockI hb (by rw [Nat.mul_one] at h4; rw [h4,el])) hg (by simp only [aJ] at h8; omega)).mono ?_;rintro e w' ⟨rfl,n,os,rfl⟩;refine ⟨_,(d9 xs).map (Value.int .i64),rfl,fun _=>rfl,grownBy_sortedI _,?_,qd (fun y hy=>hin y (List.mem_mergeSort.1 hy)),?_,fun b h=>.inl h⟩
  ·have:=ownsRow_sortedI (n:=n) (os:=os) (ss:=xs) (ts:=d9 xs) hlen (Nat.zero_le _) hb h1 h2 h3;show World.ownsRow _ 0 3 1 _ (d9 xs).length _;rw [hlen];exact this
  ·show (d9 xs).length * 8<=aJ;rw [hlen];exact h8
theorem j9 (xs:List Int):(Lib.compact xs).length<=xs.length:=by
 unfold Lib.compact Lib.compactUpTo;rw [List.length_map];refine Nat.le_trans (List.length_filter_le _ _) ?_;simp
theorem rV (xs:List Int) (y:Int) (hy:y∈Lib.compact xs):y∈xs:=by
 unfold Lib.compact Lib.compactUpTo at hy;obtain ⟨j,hj,rfl⟩:=List.mem_map.1 hy
 have hj2:j<xs.length:=by
  have:=(List.mem_filter.1 hj).1;simpa using this
 simp [hj2]
def fA (xs:List Int):List Int:=Lib.compact xs
def A6:RowFn:={ e:=3,T:=ty_I,Ts:=[],out:=true,pre:=fun _ _ _=>True,F:=fun xs _ _=>fA xs }
theorem rM:A6.ok Tryz.prog 95:=by
 intro p w v (xs:List Int) l v2 (ys:List Int) l2 vs x _ _ hA hown hl hbig hp _ _ _ hargs _;have hvs:vs=[]:=hargs;subst hvs;obtain ⟨el,hin⟩:=yD hl;have hown':w.ownsRow 0 3 1 v xs.length l:=hown;have h8:xs.length * 8<=aJ:=hbig;have hle:(Lib.compact xs).length<=xs.length:=j9 xs;rcases hown'.2 with ⟨rfl,h0⟩ | ⟨g,cap,cur,rfl,_,hb,h1,h2,h3,h4⟩
 ·have hx:xs=[]:=List.eq_nil_of_length_eq_zero h0;subst hx;refine (Any.slices_Compact_int_empty rO none 0 w).mono ?_;rintro e w' ⟨rfl,rfl⟩;exact ⟨_,l,rfl,fun _=>rfl,World.grownBy.refl _ _,hown,hl,by show (Lib.compact ([]:List Int)).length * 8<=aJ; simp [Lib.compact,Lib.compactUpTo],fun b h=>.inl h⟩
 ·have hg:g<w.heap.size:=(Array.getElem?_eq_some_iff.1 hb).1;have hmem:∀ y∈Lib.compact xs,am .i64 y:=fun y hy=>hin y (rV xs y hy)
  refine (Any.slices_Compact_int rO g 0 cap xs w (holds_of_blockI hb (by rw [Nat.mul_one] at h4; rw [h4,el])) (by simp only [aJ] at h8; omega) h1).mono ?_;rintro e w' ⟨rfl,q,rfl⟩;refine ⟨_,(Lib.compact xs).map (Value.int .i64),rfl,fun h=>(by cases h),?_,?_,qd hmem,?_,fun b h=>.inl h⟩
  ·have:=grownBy_sortedI (w:=w) (g:=g) (n:=q) (os:=#[]) (Lib.compact xs++List.replicate (xs.length - (Lib.compact xs).length) 0).toArray;rw [Sort.grow_empty] at this;exact this
  ·have hh:=heap_sortedI (w:=w) (g:=g) (n:=q) (os:=#[]) (Lib.compact xs++List.replicate (xs.length - (Lib.compact xs).length) 0).toArray hb;rw [Sort.grow_empty] at hh
   have hrow:World.ownsRow (Sort.putRow (Value.int .i64) (Sort.ahead w q) g 0 (Lib.compact xs++List.replicate (xs.length - (Lib.compact xs).length) 0).toArray) 0 3 1
     (.slice (some ⟨g,0,none⟩) (Lib.compact xs).length cap) (Lib.compact xs).length ((Lib.compact xs).map (Value.int .i64)):=by
    refine ⟨by simp,.inr ⟨g,cap,_,rfl,Nat.zero_le _,hh,Nat.le_trans hle h1,h2,by simp [Sort.putCells,h3],?_⟩⟩;have ht:=take_putCellsI cur (Lib.compact xs++List.replicate (xs.length - (Lib.compact xs).length) 0) (by simp; omega);have ht2:=congrArg (List.take (Lib.compact xs).length) ht;rw [List.take_take,Nat.min_eq_left (by simp)] at ht2;rw [Nat.mul_one,ht2];simp
   exact hrow
  ·show (Lib.compact xs).length * 8<=aJ;omega
end
section
open Go
set_option maxRecDepth 100000
set_option maxHeartbeats 1000000
def de (v n:Int):Bool:=decide (-1<=v)&&decide (v<n)
def aF (r:List Int) (n:Int):Int:=if n<0\/256<n then 4 else if 32<r.length then 2 else if (r.any fun v=>!de v n)=true then 4 else 0
def bk (r:List Int) (n:Int):List Int×Int :=
 if aF r n≠0 then ([],aF r n) else (fA (d9 (r.filter fun v=>!decide (v<0))),0)
def m5 (to:List Int) (v:Int):Int:=if 0<=v then to.getD v.toNat 0 else v
def bg (r:List Int) (n:Int) (to:List Int):List Int×Int :=
 if aF r n≠0 then ([],aF r n) else if (to.length:Int)≠n then ([],3) else if (to.any fun v=>!de v n)=true then ([],4) else (r.map (m5 to),0)
theorem su {r:List Int} {n v:Int} (h:(r.any fun v=>!de v n)=false) (hv:v∈r):-1<=v/\v<n:=by
 have:=List.any_eq_false.1 h v hv;simpa [de] using this
theorem kg {r:List Int} {n:Int} (h:aF r n=0):(r.any fun v=>!de v n)=false:=by
 unfold aF at h;cases hr:r.any fun v=>!de v n
 ·rfl
 ·rw [hr] at h;simp only [if_true] at h;split at h
  ·omega
  ·split at h <;> omega
theorem iM {α:Type} (f:α->Bool):∀ (l:List α) (k:Int),0<=k->(ag f k l=-1/\l.filter (fun x=>!f x)=l) \/
  ∃ j:Nat,ag f k l=k+j/\j<l.length/\(l.take (j+1)).filter (fun x=>!f x)=l.take j
 | [],k,_=>.inl ⟨rfl,rfl⟩
 | x::l,k,hk=>by
  simp only [ag];cases hx:f x
  ·rw [if_neg (by simp)];rcases iM f l (k+1) (by omega) with ⟨h1,h2⟩ | ⟨j,h1,h2,h3⟩
   ·exact .inl ⟨h1,by rw [List.filter_cons_of_pos (by simp [hx]),h2]⟩
   ·exact .inr ⟨j+1,by omega,by simp; omega,by rw [List.take_succ_cons,List.filter_cons_of_pos (by simp [hx]),h3,List.take_succ_cons]⟩
  ·rw [if_pos rfl];exact .inr ⟨0,by omega,by simp,by simp [hx]⟩
theorem Kh {α:Type} (d:α) {p:α->Bool} {xs row:List α} {i j:Nat} (hij:i<j) (hj:j<xs.length) (hl:row.length=xs.length) (ht:row.take i=(xs.take j).filter p) (hd:row.drop j=xs.drop j) :
  (p (row.getD j d)=true->(row.set i (row.getD j d)).take (i+1)=(xs.take (j+1)).filter p/\(row.set i (row.getD j d)).drop (j+1)=xs.drop (j+1)) /\
  (p (row.getD j d)=false->row.take i=(xs.take (j+1)).filter p/\row.drop (j+1)=xs.drop (j+1)):=by
 have he:row.getD j d=xs.getD j d:=by
  have:=congrArg (fun l=>l.getD 0 d) hd;simpa [List.getD,List.getElem?_drop] using this
 have h1:row.drop (j+1)=xs.drop (j+1):=by
  have:=congrArg (List.drop 1) hd;simpa [List.drop_drop,Nat.add_comm] using this
 have hx:xs.take (j+1)=xs.take j++[xs.getD j d]:=by
  rw [List.take_succ_eq_append_getElem hj];simp [List.getD,hj]
 rw [he,hx,List.filter_append];refine ⟨fun hp=>⟨?_,?_⟩,fun hp=>⟨?_,h1⟩⟩
 ·rw [List.take_set,<- ht,List.filter_cons_of_pos hp,List.filter_nil];have hi:i<row.length:=by omega
  rw [List.take_succ_eq_append_getElem hi,List.set_append_right _ _ (by simp; omega)];simp [Nat.min_eq_left (Nat.le_of_lt hi)]
 ·rw [List.drop_set_of_lt (by omega),h1]
 ·rw [ht,List.filter_cons_of_neg (by rw [hp]; simp)];simp
def yx:Spec:={ Ts:=[.arr ty_I],Rs:=[.own 3 ty_I],pre:=fun _=>True,F:=fun (x:List Int)=>x }
def oU:Prop :=
  ∀ (x:List Int),(x.length * 8<=aJ/\∀ (x_1:Int),x_1∈x->am .i64 x_1)->True->(x=([]:List Int)->([]:List Int)=x/\True)/\(True->(0+x.length) * 8<=aJ/\([]:List Int)++x=x/\True)
theorem vu:oU:=by
 unfold oU;intro x ⟨hb,_⟩ _;simp [hb]
theorem ci:yx.ok Tryz.prog 36:=aD (ann:=co) ap Tryz.func36 (by kernel_rfl) vu
def GE:Spec:={ Ts:=[ty_I,ty_I],Rs:=[.dat .bool],pre:=fun _=>True,F:=fun ((v,n):Int×Int)=>de v n }
def wF:Prop :=
  ∀ (x:Int×Int),am .i64 x.1/\am .i64 x.2->True->(decide ((-1)<=x.1)&&decide (x.1<x.2))=de x.1 x.2/\True
theorem C9:wF:=by
 unfold wF;intro ⟨v,n⟩ _ _;simp only [de]
 grind
theorem xe:GE.ok Tryz.prog 209:=aD (ann:=co) ap Tryz.func209 (by kernel_rfl) C9
def GR:Spec:={ Ts:=[ty_I,.ref ty_I],Rs:=[.dat .bool],pre:=fun _=>True,F:=fun ((v,n):Int×Int)=>!de v n }
def wS:Prop :=
  ∀ (x:Int×Int),am .i64 x.1/\am .i64 x.2->True->True/\(!de x.1 x.2)=!de x.1 x.2/\True
theorem Dm:wS:=by
 unfold wS;intro ⟨v,n⟩ _ _;simp
theorem Hp:GR.ok Tryz.prog 208:=aD (ann:=co) (ae xe ap) Tryz.func208 (by kernel_rfl) Dm
def GQ:Spec:={ Ts:=[ty_I,.ref ty_I],Rs:=[.dat .bool],pre:=fun _=>True,F:=fun ((v,n):Int×Int)=>!de v n }
def wR:Prop :=
  ∀ (x:Int×Int),am .i64 x.1/\am .i64 x.2->True->True/\(!de x.1 x.2)=!de x.1 x.2/\True
theorem Dl:wR:=by
 unfold wR;intro ⟨v,n⟩ _ _;simp
theorem Ho:GQ.ok Tryz.prog 220:=aD (ann:=co) (ae xe ap) Tryz.func220 (by kernel_rfl) Dl
def GP:Spec:={ Ts:=[ty_I],Rs:=[.dat .bool],pre:=fun _=>True,F:=fun (v:Int)=>decide (v<0) }
def wQ:Prop :=
  ∀ (x:Int),am .i64 x->True->decide (x<0)=decide (x<0)/\True
theorem Dk:wQ:=by
 unfold wQ;intro v _ _;simp
theorem Hn:GP.ok Tryz.prog 251:=aD (ann:=co) ap Tryz.func251 (by kernel_rfl) Dk
def yo:Spec:={ Ts:=[.arr ty_I,ty_I],Rs:=[.dat ty_I],pre:=fun _=>True,F:=fun ((r,n):List Int×Int)=>aF r n }
def oN:Prop :=
  ∀ (x:List Int×Int),(x.1.length * 8<=aJ/\∀ (x_1:Int),x_1∈x.1->am .i64 x_1)/\am .i64 x.2->True->((decide (x.2<0)||decide (256<x.2))=true->4=aF x.1 x.2/\True)/\((decide (x.2<0)||decide (256<x.2))=false->(decide (32<(x.1.length:Int))=true->2=aF x.1 x.2/\True)/\(decide (32<(x.1.length:Int))=false->(∀ (s:Int),s∈x.1->(fun (_:Int)=>True,fun (x_1:Int)=>!de x_1 x.2).1 s)/\((x.1.any fun (x_1:Int)=>!de x_1 x.2)=true->4=aF x.1 x.2/\True)/\((x.1.any fun (x_1:Int)=>!de x_1 x.2)=false->0=aF x.1 x.2/\True)))
theorem vl:oN:=by
 unfold oN;intro ⟨r,n⟩ ⟨⟨hb,_⟩,hn⟩ _;simp only [aF]
 grind
theorem li:yo.ok Tryz.prog 149:=aD (ann:=co) (ae yU (ae Hp ap)) Tryz.func149 (by kernel_rfl) vl
def zR:Nat->Option LoopGen
 | 3000250=>some eE
 | 3000251=>some eE
 | 25100000005=>some { rd:=[.own 0 3 ty_I],wr:=[0],A:=fun (xs:List Int)=>{ cs:=[.own 0 3 ty_I,.dat 5 ty_I,.dat 6 ty_I],inv:=fun ((row,i,j):List Int×Int×Int)=>0<=i/\i<j/\j<=xs.length/\row.length=xs.length/\row.take i.toNat=(xs.take j.toNat).filter (fun v=>!decide (v<0))/\row.drop j.toNat=xs.drop j.toNat,mu:=fun ((_,_,j):List Int×Int×Int)=>(xs.length - j).toNat } }
 | _=>none
def yn:Spec:={ Ts:=[.arr ty_I,ty_I],Rs:=[.own 3 ty_I,.dat ty_I],pre:=fun _=>True,F:=fun ((r,n):List Int×Int)=>bk r n }
def oM:Prop :=
  ∀ (x:List Int×Int),(x.1.length * 8<=aJ/\∀ (x_1:Int),x_1∈x.1->am .i64 x_1)/\am .i64 x.2->True->True/\(decide (aF x.1 x.2≠0)=true->([]:List Int)=(bk x.1 x.2).1/\aF x.1 x.2=(bk x.1 x.2).2/\True)/\(decide (aF x.1 x.2≠0)=false->True/\∀ (_:Array Value),(∀ (s:Int),s∈x.1->(fun (_:Int)=>True,fun (x:Int)=>decide (x<0)).1 s)/\(decide (ag (fun (x:Int)=>decide (x<0)) 0 x.1=(-1))=true->True/\True/\fA (d9 x.1)=(bk x.1 x.2).1/\0=(bk x.1 x.2).2/\True)/\(decide (ag (fun (x:Int)=>decide (x<0)) 0 x.1=(-1))=false->am .i64 (ag (fun (x:Int)=>decide (x<0)) 0 x.1+1)/\(0<=ag (fun (x:Int)=>decide (x<0)) 0 x.1/\ag (fun (x:Int)=>decide (x<0)) 0 x.1<ag (fun (x:Int)=>decide (x<0)) 0 x.1+1/\ag (fun (x:Int)=>decide (x<0)) 0 x.1+1<=(x.1.length:Int)/\x.1.length=x.1.length/\List.take (ag (fun (x:Int)=>decide (x<0)) 0 x.1).toNat x.1=List.filter (fun (v:Int)=>!decide (v<0)) (List.take (ag (fun (x:Int)=>decide (x<0)) 0 x.1+1).toNat x.1)/\List.drop (ag (fun (x:Int)=>decide (x<0)) 0 x.1+1).toNat x.1=List.drop (ag (fun (x:Int)=>decide (x<0)) 0 x.1+1).toNat x.1)/\∀ (x_1:List Int×Int×Int),0<=x_1.2.1/\x_1.2.1<x_1.2.2/\x_1.2.2<=(x.1.length:Int)/\x_1.1.length=x.1.length/\List.take x_1.2.1.toNat x_1.1=List.filter (fun (v:Int)=>!decide (v<0)) (List.take x_1.2.2.toNat x.1)/\List.drop x_1.2.2.toNat x_1.1=List.drop x_1.2.2.toNat x.1->(decide (x_1.2.2<(x_1.1.length:Int))=true->0<=x_1.2.2/\x_1.2.2<(x_1.1.length:Int)/\x_1.2.2.toNat<x_1.1.length/\∀ (_:Array Value),((!decide (x_1.1.getD x_1.2.2.toNat (0:Int)<0))=true->0<=x_1.2.1/\x_1.2.1<(x_1.1.length:Int)/\x_1.2.1.toNat<x_1.1.length/\am .i64 (x_1.2.1+1)/\am .i64 (x_1.2.2+1)/\(0<=x_1.2.1+1/\x_1.2.1+1<x_1.2.2+1/\x_1.2.2+1<=(x.1.length:Int)/\(x_1.1.set x_1.2.1.toNat (x_1.1.getD x_1.2.2.toNat 0)).length=x.1.length/\List.take (x_1.2.1+1).toNat (x_1.1.set x_1.2.1.toNat (x_1.1.getD x_1.2.2.toNat 0))=List.filter (fun (v:Int)=>!decide (v<0)) (List.take (x_1.2.2+1).toNat x.1)/\List.drop (x_1.2.2+1).toNat (x_1.1.set x_1.2.1.toNat (x_1.1.getD x_1.2.2.toNat 0))=List.drop (x_1.2.2+1).toNat x.1)/\((x.1.length:Int) - (x_1.2.2+1)).toNat<((x.1.length:Int) - x_1.2.2).toNat)/\((!decide (x_1.1.getD x_1.2.2.toNat (0:Int)<0))=false->am .i64 (x_1.2.2+1)/\(0<=x_1.2.1/\x_1.2.1<x_1.2.2+1/\x_1.2.2+1<=(x.1.length:Int)/\x_1.1.length=x.1.length/\List.take x_1.2.1.toNat x_1.1=List.filter (fun (v:Int)=>!decide (v<0)) (List.take (x_1.2.2+1).toNat x.1)/\List.drop (x_1.2.2+1).toNat x_1.1=List.drop (x_1.2.2+1).toNat x.1)/\((x.1.length:Int) - (x_1.2.2+1)).toNat<((x.1.length:Int) - x_1.2.2).toNat))/\(decide (x_1.2.2<(x_1.1.length:Int))=false->0<=x_1.2.1/\x_1.2.1<=(x_1.1.length:Int)/\x_1.2.1.toNat+(x_1.1.length - x_1.2.1.toNat)<=x_1.1.length/\0<=x_1.2.1/\x_1.2.1<=(↑(List.take x_1.2.1.toNat x_1.1++(List.replicate (x_1.1.length - x_1.2.1.toNat) (0:Int)++List.drop (x_1.2.1.toNat+(x_1.1.length - x_1.2.1.toNat)) x_1.1)).length:Int)/\True/\True/\fA (d9 (List.take x_1.2.1.toNat (List.take x_1.2.1.toNat x_1.1++(List.replicate (x_1.1.length - x_1.2.1.toNat) (0:Int)++List.drop (x_1.2.1.toNat+(x_1.1.length - x_1.2.1.toNat)) x_1.1))))=(bk x.1 x.2).1/\0=(bk x.1 x.2).2/\True)))
theorem vk:oM:=by
 unfold oM;intro ⟨r,n⟩ ⟨⟨hb,_⟩,_⟩ _;unfold aJ at hb;simp only at hb ⊢;refine ⟨trivial,fun h=>?_,fun h=>⟨trivial,fun _=>⟨fun _ _=>trivial,fun h2=>?_,fun h2=>?_⟩⟩⟩
 ·simp only [bk];rw [if_pos (of_decide_eq_true h)];exact ⟨rfl,rfl,trivial⟩
 ·have h2:=of_decide_eq_true h2;refine ⟨trivial,trivial,?_⟩;simp only [bk];rw [if_neg (of_decide_eq_false h)];rcases iM (fun x:Int=>decide (x<0)) r 0 (by omega) with ⟨_,h3⟩ | ⟨j,h3,_⟩
  ·rw [h3];exact ⟨rfl,rfl,trivial⟩
  ·omega
 have h2:=of_decide_eq_false h2;rcases iM (fun x:Int=>decide (x<0)) r 0 (by omega) with ⟨h3,_⟩ | ⟨j,h3,h4,h5⟩
 ·exact absurd h3 h2
 rw [h3];refine ⟨by simp only [am]; omega,⟨by omega,by omega,by omega,trivial,?_,trivial⟩,fun ⟨row,i,j⟩ ⟨k0,k1,k2,k3,k4,k5⟩=>⟨fun hlt=>?_,fun hge=>?_⟩⟩
 ·rw [show (0+(j:Int)+1).toNat=j+1 by omega,show (0+(j:Int)).toNat=j by omega,h5]
 ·simp only at k0 k1 k2 k3 k4 k5 hlt ⊢;have hlt:=of_decide_eq_true hlt;have hs:=Kh (0:Int) (p:=fun v=>!decide (v<0)) (xs:=r) (row:=row) (i:=i.toNat) (j:=j.toNat) (by omega) (by omega) k3 k4 k5;refine ⟨by omega,by omega,by omega,fun _=>⟨fun hp=>?_,fun hp=>?_⟩⟩
  ·obtain ⟨q1,q2⟩:=hs.1 hp;refine ⟨by omega,by omega,by omega,by simp only [am]; omega,by simp only [am]; omega,⟨by omega,by omega,by omega,by simpa using k3,?_,?_⟩,by omega⟩
   ·rw [show (i+1).toNat=i.toNat+1 by omega,show (j+1).toNat=j.toNat+1 by omega];exact q1
   ·rw [show (j+1).toNat=j.toNat+1 by omega];exact q2
  ·obtain ⟨q1,q2⟩:=hs.2 hp;refine ⟨by simp only [am]; omega,⟨by omega,by omega,by omega,k3,?_,?_⟩,by omega⟩
   ·rw [show (j+1).toNat=j.toNat+1 by omega];exact q1
   ·rw [show (j+1).toNat=j.toNat+1 by omega];exact q2
 ·simp only at k0 k1 k2 k3 k4 k5 hge ⊢;have hge:=of_decide_eq_false hge;have hj:j.toNat=r.length:=by omega
  have e1:List.take i.toNat (List.take i.toNat row++(List.replicate (row.length - i.toNat) 0++List.drop (i.toNat+(row.length - i.toNat)) row))=List.take i.toNat row:=by
   rw [List.take_append_of_le_length (by simp; omega),List.take_take,Nat.min_self]
  refine ⟨by omega,by omega,by omega,by omega,by simp; omega,trivial,trivial,?_⟩;rw [e1,k4,hj,List.take_of_length_le (Nat.le_refl _)];simp only [bk];rw [if_neg (of_decide_eq_false h)];exact ⟨rfl,rfl,trivial⟩
theorem yR:yn.ok Tryz.prog 211:=aD (ann:=zR) (ae li (ae ci (ae Hn (ae BT (kZ tU (kZ rM ap)))))) Tryz.func211 (by kernel_rfl) vk
def CT:Nat->Option LoopGen
 | 10=>some { rd:=[.dat 2 (.arr ty_I),.dat 0 (.arr ty_I)],wr:=[9,30],A:=fun ((to,r):List Int×List Int)=>{ cs:=[.own 9 3 ty_I,.same 30 9,.dat 32 ty_I],inv:=fun ((out,_,i):List Int×Unit×Int)=>0<=i/\i<=r.length/\(∀ v∈r,v<to.length)/\out=(r.take i.toNat).map (m5 to)++r.drop i.toNat,mu:=fun ((_,_,i):List Int×Unit×Int)=>(r.length - i).toNat } }
 | _=>none
def AI:Spec:={ Ts:=[.arr ty_I,ty_I,.arr ty_I],Rs:=[.own 3 ty_I,.dat ty_I],pre:=fun _=>True,F:=fun ((r,n,to):List Int×Int×List Int)=>bg r n to }
def re:Prop :=
  ∀ (x:List Int×Int×List Int),((x.1.length * 8<=aJ/\∀ (x_1:Int),x_1∈x.1->am .i64 x_1)/\am .i64 x.2.1/\x.2.2.length * 8<=aJ/\∀ (x_1:Int),x_1∈x.2.2->am .i64 x_1)->True->True/\(decide (aF x.1 x.2.1≠0)=true->([]:List Int)=(bg x.1 x.2.1 x.2.2).1/\aF x.1 x.2.1=(bg x.1 x.2.1 x.2.2).2/\True)/\(decide (aF x.1 x.2.1≠0)=false->(decide ((x.2.2.length:Int)≠x.2.1)=true->([]:List Int)=(bg x.1 x.2.1 x.2.2).1/\3=(bg x.1 x.2.1 x.2.2).2/\True)/\(decide ((x.2.2.length:Int)≠x.2.1)=false->(∀ (s:Int),s∈x.2.2->(fun (_:Int)=>True,fun (x_1:Int)=>!de x_1 x.2.1).1 s)/\((x.2.2.any fun (x_1:Int)=>!de x_1 x.2.1)=true->([]:List Int)=(bg x.1 x.2.1 x.2.2).1/\4=(bg x.1 x.2.1 x.2.2).2/\True)/\((x.2.2.any fun (x_1:Int)=>!de x_1 x.2.1)=false->True/\((0:Int)<=0/\0<=(x.1.length:Int)/\(∀ (v:Int),v∈x.1->v<(x.2.2.length:Int))/\x.1=List.map (m5 x.2.2) (List.take (Int.toNat 0) x.1)++List.drop (Int.toNat 0) x.1)/\∀ (x_1:List Int×Unit×Int),0<=x_1.2.2/\x_1.2.2<=(x.1.length:Int)/\(∀ (v:Int),v∈x.1->v<(x.2.2.length:Int))/\x_1.1=List.map (m5 x.2.2) (List.take x_1.2.2.toNat x.1)++List.drop x_1.2.2.toNat x.1->(decide (x_1.2.2<(x.1.length:Int))=true->0<=x_1.2.2/\x_1.2.2<(x_1.1.length:Int)/\x_1.2.2.toNat<x_1.1.length/\(decide (0<=x_1.1.getD x_1.2.2.toNat 0)=true->0<=x_1.1.getD x_1.2.2.toNat 0/\x_1.1.getD x_1.2.2.toNat 0<(x.2.2.length:Int)/\0<=x_1.2.2/\x_1.2.2<(x_1.1.length:Int)/\x_1.2.2.toNat<x_1.1.length/\am .i64 (x_1.2.2+1)/\(0<=x_1.2.2+1/\x_1.2.2+1<=(x.1.length:Int)/\(∀ (v:Int),v∈x.1->v<(x.2.2.length:Int))/\x_1.1.set x_1.2.2.toNat (x.2.2.getD (x_1.1.getD x_1.2.2.toNat 0).toNat 0)=List.map (m5 x.2.2) (List.take (x_1.2.2+1).toNat x.1)++List.drop (x_1.2.2+1).toNat x.1)/\((x.1.length:Int) - (x_1.2.2+1)).toNat<((x.1.length:Int) - x_1.2.2).toNat)/\(decide (0<=x_1.1.getD x_1.2.2.toNat 0)=false->am .i64 (x_1.2.2+1)/\(0<=x_1.2.2+1/\x_1.2.2+1<=(x.1.length:Int)/\(∀ (v:Int),v∈x.1->v<(x.2.2.length:Int))/\x_1.1=List.map (m5 x.2.2) (List.take (x_1.2.2+1).toNat x.1)++List.drop (x_1.2.2+1).toNat x.1)/\((x.1.length:Int) - (x_1.2.2+1)).toNat<((x.1.length:Int) - x_1.2.2).toNat))/\(decide (x_1.2.2<(x.1.length:Int))=false->x_1.1=(bg x.1 x.2.1 x.2.2).1/\0=(bg x.1 x.2.1 x.2.2).2/\True))))
theorem xN:re:=by
 unfold re;intro ⟨r,n,to⟩ ⟨⟨hb,_⟩,_⟩ _;unfold aJ at hb;simp only at hb ⊢;refine ⟨trivial,fun h=>?_,fun h=>⟨fun h2=>?_,fun h2=>⟨fun _ _=>trivial,fun h3=>?_,fun h3=>⟨trivial,?_,fun ⟨out,_,i⟩ ⟨k0,k1,k2,k3⟩=>?_⟩⟩⟩⟩
 ·simp only [bg];rw [if_pos (of_decide_eq_true h)];exact ⟨rfl,rfl,trivial⟩
 ·simp only [bg];rw [if_neg (of_decide_eq_false h),if_pos (of_decide_eq_true h2)];exact ⟨rfl,rfl,trivial⟩
 ·simp only [bg];rw [if_neg (of_decide_eq_false h),if_neg (of_decide_eq_false h2),if_pos h3];exact ⟨rfl,rfl,trivial⟩
 ·have h:=of_decide_eq_false h;have h2:=of_decide_eq_false h2;have hf:aF r n=0:=by omega
  have hr:(r.any fun v=>!de v n)=false:=kg hf;refine ⟨by omega,by omega,fun v hv=>?_,by simp⟩;have:=(su hr hv).2;omega
 ·simp only at k0 k1 k2 k3 ⊢;refine ⟨fun hlt=>?_,fun hge=>?_⟩
  ·have hlt:=of_decide_eq_true hlt
   have hgd:out.getD i.toNat 0=r.getD i.toNat 0:=by
    rw [k3];simp only [List.getD_eq_getElem?_getD];rw [List.getElem?_append_right (by simp; omega)];simp only [List.length_map,List.length_take,List.getElem?_drop];congr 2;omega
   have hol:out.length=r.length:=by rw [k3]; simp; omega
   have hrd:r.drop i.toNat=r.getD i.toNat 0::r.drop (i+1).toNat:=bh 0 k0 hlt
   have htk:r.take (i+1).toNat=r.take i.toNat++[r.getD i.toNat 0]:=by
    rw [show (i+1).toNat=i.toNat+1 by omega,List.take_succ_eq_append_getElem (by omega)];simp [List.getD,show i.toNat<r.length by omega]
   have hset:∀ y,out.set i.toNat y=(r.take i.toNat).map (m5 to)++y::r.drop (i+1).toNat:=by
    intro y;rw [k3,hrd,List.set_append_right _ _ (by simp; omega)];simp [Nat.min_eq_left (show i.toNat<=r.length by omega)]
   have hmem:=k2 _ (aH (0:Int) k0 hlt);rw [hgd];refine ⟨k0,by omega,by omega,fun hc=>?_,fun hc=>?_⟩
   ·have hc:=of_decide_eq_true hc;refine ⟨hc,hmem,k0,by omega,by omega,by simp only [am]; omega,⟨by omega,by omega,k2,?_⟩,by omega⟩;have e1:m5 to (r.getD i.toNat 0)=to.getD (r.getD i.toNat 0).toNat 0:=if_pos hc;rw [hset,htk,List.map_append,<- e1];simp
   ·have hc:=of_decide_eq_false hc;refine ⟨by simp only [am]; omega,⟨by omega,by omega,k2,?_⟩,by omega⟩;have e1:m5 to (r.getD i.toNat 0)=r.getD i.toNat 0:=if_neg hc;rw [k3,hrd,htk,List.map_append,List.map_singleton,e1];simp
  ·have hge:=of_decide_eq_false hge;have hi:i.toNat=r.length:=by omega
   simp only [bg];rw [if_neg (of_decide_eq_false h),if_neg (of_decide_eq_false h2),if_neg (by rw [h3]; simp),k3,hi];simp
theorem rG:AI.ok Tryz.prog 159:=aD (ann:=CT) (ae li (ae ci (ae yU (ae Ho ap)))) Tryz.func159 (by kernel_rfl) xN
def ii (l:List Int) (m:Nat):List Int:=((List.range m).map Int.ofNat).filter (fv l)
end
section
open Go
theorem cu {l:List Int} {n:Int}:fv l n=true ↔ n∈l:=by
 unfold fv;rw [List.any_eq_true];exact ⟨fun ⟨x,h1,h2⟩=>of_decide_eq_true h2 ▸ h1,fun h=>⟨n,h,by simp⟩⟩
theorem jB (d:Array Int) (hd:∀ i j,i<j->j<d.size->d[i]!<=d[j]!):∀ m,m<=d.size ->
  (Lib.compactUpTo d m).Pairwise (·<·)/\(∀ x∈Lib.compactUpTo d m,∃ j,j<m/\x=d[j]!)/\∀ j,j<m->d[j]!∈Lib.compactUpTo d m
 | 0,_=>by
  have e:Lib.compactUpTo d 0=[]:=rfl;rw [e];exact ⟨.nil,fun x hx=>(by cases hx),fun j hj=>by omega⟩
 | m+1,hm=>by
  obtain ⟨h1,h2,h3⟩:=jB d hd m (by omega);rw [Lib.compactUpTo_succ];cases hk:Lib.keeps d m
  ·simp only [Bool.false_eq_true,if_false,List.append_nil];have hk:¬ (m=0\/d[m]!≠d[m - 1]!):=of_decide_eq_false hk;refine ⟨h1,fun x hx=>?_,fun j hj=>?_⟩
   ·obtain ⟨j,hj,e⟩:=h2 x hx;exact ⟨j,by omega,e⟩
   ·by_cases hjm:j=m
    ·subst hjm;have e:d[j]! = d[j - 1]!:=Classical.byContradiction fun h=>hk (.inr h)
     rw [e];exact h3 _ (by omega)
    ·exact h3 j (by omega)
  ·simp only [if_true];have hk:m=0\/d[m]!≠d[m - 1]!:=of_decide_eq_true hk;refine ⟨List.pairwise_append.2 ⟨h1,List.pairwise_singleton _ _,fun x hx y hy=>?_⟩,fun x hx=>?_,fun j hj=>?_⟩
   ·rw [List.mem_singleton.1 hy];obtain ⟨j,hj,e⟩:=h2 x hx;subst e;have h5:=hd (m - 1) m (by omega) (by omega);by_cases hjm:j=m - 1
    ·subst hjm;omega
    ·have:=hd j (m - 1) (by omega) (by omega);omega
   ·rcases List.mem_append.1 hx with hx | hx
    ·obtain ⟨j,hj,e⟩:=h2 x hx;exact ⟨j,by omega,e⟩
    ·exact ⟨m,by omega,List.mem_singleton.1 hx⟩
   ·by_cases hjm:j=m
    ·subst hjm;simp
    ·exact List.mem_append_left _ (h3 j (by omega))
theorem k8 (xs:List Int):(d9 xs).Pairwise (·<=·):=by
 have:=List.pairwise_mergeSort (le:=fun x y:Int=>decide (x<=y)) (fun a b c h1 h2=>by simp only [decide_eq_true_eq] at *; omega) (fun a b=>by simp only [Bool.or_eq_true,decide_eq_true_eq]; omega) xs;exact this.imp (fun h=>of_decide_eq_true h)
theorem pZ {xs:List Int} {x:Int}:x∈d9 xs ↔ x∈xs:=List.mem_mergeSort
theorem iT (xs:List Int):(d9 xs).length=xs.length:=List.length_mergeSort _
theorem sr {xs:List Int} (h:xs.Pairwise (·<=·)):(fA xs).Pairwise (·<·)/\∀ x,x∈fA xs ↔ x∈xs:=by
 have hd:∀ i j,i<j->j<xs.toArray.size->xs.toArray[i]!<=xs.toArray[j]!:=by
  intro i j hij hj;have hj:j<xs.length:=by simpa using hj
  have:=List.pairwise_iff_getElem.1 h i j (by omega) hj hij;simpa [show i<xs.length by omega,hj] using this
 obtain ⟨h1,h2,h3⟩:=jB xs.toArray hd xs.length (by simp);refine ⟨h1,fun x=>⟨fun hx=>rV xs x hx,fun hx=>?_⟩⟩;obtain ⟨j,hj,e⟩:=List.getElem_of_mem hx;have:=h3 j hj;simp only [List.getElem!_toArray,hj,getElem!_pos,e] at this;exact this
theorem qe:∀ {l k:List Int},l.Pairwise (·<·)->k.Pairwise (·<·)->(∀ x,x∈l ↔ x∈k)->l=k
 | [],[],_,_,_=>rfl
 | [],y::k,_,_,h=>absurd ((h y).2 (by simp)) (by simp)
 | x::l,[],_,_,h=>absurd ((h x).1 (by simp)) (by simp)
 | x::l,y::k,hl,hk,h=>by
  obtain ⟨a1,a2⟩:=List.pairwise_cons.1 hl;obtain ⟨b1,b2⟩:=List.pairwise_cons.1 hk
  have e:x=y:=by
   have h1:=(h x).1 (by simp);have h2:=(h y).2 (by simp);rcases List.mem_cons.1 h1 with h1 | h1
   ·exact h1
   ·rcases List.mem_cons.1 h2 with h2 | h2
    ·exact h2.symm
    ·have:=b1 x h1;have:=a1 y h2;omega
  subst e;rw [qe a2 b2 (fun z=>⟨fun hz=>?_,fun hz=>?_⟩)]
  ·have:=(h z).1 (by simp [hz]);rcases List.mem_cons.1 this with e | h1
   ·subst e;exact absurd (a1 z hz) (by omega)
   ·exact h1
  ·have:=(h z).2 (by simp [hz]);rcases List.mem_cons.1 this with e | h1
   ·subst e;exact absurd (b1 z hz) (by omega)
   ·exact h1
theorem HP (m:Nat):((List.range m).map Int.ofNat).Pairwise (·<·):=by
 rw [List.pairwise_map];exact List.pairwise_lt_range.imp (fun h=>by simp only [Int.ofNat_eq_natCast]; omega)
theorem Bi (l:List Int) (m:Nat):(ii l m).Pairwise (·<·):=(HP m).filter _
theorem tu {l:List Int} {m:Nat} {x:Int}:x∈ii l m ↔ 0<=x/\x<m/\x∈l:=by
 unfold ii;rw [List.mem_filter,cu,List.mem_map];constructor
 ·rintro ⟨⟨j,hj,rfl⟩,hx⟩;have:=List.mem_range.1 hj;simp only [Int.ofNat_eq_natCast] at *;exact ⟨by omega,by omega,hx⟩
 ·rintro ⟨h1,h2,h3⟩;exact ⟨⟨x.toNat,List.mem_range.2 (by omega),by simp only [Int.ofNat_eq_natCast]; omega⟩,h3⟩
end
section
open Go
def ft (a:List Int) (x:Int):List Int:=((bF a x).filter fun v=>decide (v≠0)).map (· - 1)
inductive Rch (a from_:List Int):Int->Prop
 | base {x:Int}:x∈from_->Rch a from_ x
 | step {x y:Int}:Rch a from_ x->y∈ft a x->Rch a from_ y
def pJ (a l:List Int):Bool:=l.all fun x=>(ft a x).all (fv l)
def o8 (a l:List Int):List Int:=l++l.flatMap (ft a)
def rP (a:List Int):Nat->List Int->List Int
 | 0,l=>l
 | n+1,l=>if pJ a l=true then l else rP a n (o8 a l)
def bD (a from_:List Int):List Int:=ii (rP a 257 from_) 256
theorem nq {α:Type} {p q:α->Bool}:∀ (l:List α),(∀ x∈l,p x=true->q x=true)->(l.filter p).length<=(l.filter q).length
 | [],_=>by simp
 | x::l,h=>by
  have ih:=nq l (fun y hy=>h y (by simp [hy]));have hx:=h x (by simp);cases hp:p x
  ·rw [List.filter_cons_of_neg (by simp [hp])];cases hq:q x
   ·rw [List.filter_cons_of_neg (by simp [hq])]; exact ih
   ·rw [List.filter_cons_of_pos hq,List.length_cons]; omega
  ·rw [List.filter_cons_of_pos hp,List.filter_cons_of_pos (hx hp),List.length_cons,List.length_cons]; omega
theorem np {α:Type} {p q:α->Bool}:∀ (l:List α),(∀ x∈l,p x=true->q x=true)->(∃ x∈l,p x=false/\q x=true)->(l.filter p).length<(l.filter q).length
 | [],_,h=>by obtain ⟨x,hx,_⟩:=h; cases hx
 | x::l,h,⟨y,hy,hp,hq⟩=>by
  have h':∀ y∈l,p y=true->q y=true:=fun y hy=>h y (by simp [hy])
  have le:=nq l h';rcases List.mem_cons.1 hy with rfl | hy
  ·rw [List.filter_cons_of_neg (by simp [hp]),List.filter_cons_of_pos hq,List.length_cons]; omega
  ·have ih:=np l h' ⟨y,hy,hp,hq⟩;have hx:=h x (by simp);cases hp:p x
   ·rw [List.filter_cons_of_neg (by simp [hp])];cases hq:q x
    ·rw [List.filter_cons_of_neg (by simp [hq])]; exact ih
    ·rw [List.filter_cons_of_pos hq,List.length_cons]; omega
   ·rw [List.filter_cons_of_pos hp,List.filter_cons_of_pos (hx hp),List.length_cons,List.length_cons]; omega
def EX (l:List Int):Nat:=(ii l 256).length
theorem MK (l:List Int):EX l<=256:=by
 have:=List.length_filter_le (fv l) ((List.range 256).map Int.ofNat);unfold EX ii;simpa using this
theorem MJ {l k:List Int} (h:∀ x∈l,x∈k) {y:Int} (hy:y∈k) (hn:¬ y∈l) (h0:0<=y) (h1:y<=255):EX l<EX k:=by
 refine np _ (fun x _ hx=>cu.2 (h x (cu.1 hx))) ⟨y,?_,?_,cu.2 hy⟩
 ·rw [List.mem_map];exact ⟨y.toNat,List.mem_range.2 (by omega),by simp only [Int.ofNat_eq_natCast]; omega⟩
 ·cases hl:fv l y
  ·rfl
  ·exact absurd (cu.1 hl) hn
theorem rW {a l:List Int}:pJ a l=true ↔ ∀ x∈l,∀ y∈ft a x,y∈l:=by
 unfold pJ;simp only [List.all_eq_true,cu]
theorem gB {a:List Int} {x:Int} (h:isB (ac a).1 x=true):0<=x/\x<=255:=cK _ (JM h).1
theorem qh {a:List Int} (hw:∀ x∈a,am .u64 x) (hc:(ak a).2.2=0) {x y:Int} (hx:isB (ac a).1 x=true) (hy:y∈ft a x):isB (ac a).1 y=true:=by
 unfold ft at hy;obtain ⟨v,hv,rfl⟩:=List.mem_map.1 hy;obtain ⟨hv,h0⟩:=List.mem_filter.1 hv;have h0:=of_decide_eq_true h0;rcases nF hw hc _ (fi hx).1 v hv with e | ⟨_,_,e⟩
 ·exact absurd e h0
 ·exact e
theorem Rch.isB {a from_:List Int} (hw:∀ x∈a,am .u64 x) (hc:(ak a).2.2=0) (hf:∀ x∈from_,isB (ac a).1 x=true) {x:Int} (h:Rch a from_ x):isB (ac a).1 x=true:=by
 induction h with
 | base h=>exact hf _ h
 | step _ h ih=>exact qh hw hc ih h
theorem Rch.mem {a from_ l:List Int} (h1:∀ x∈from_,x∈l) (h2:∀ x∈l,∀ y∈ft a x,y∈l) {x:Int} (h:Rch a from_ x):x∈l:=by
 induction h with
 | base h=>exact h1 _ h
 | step _ h ih=>exact h2 _ ih _ h
theorem Rch.mono {a f g:List Int} (h:∀ x∈f,Rch a g x) {x:Int} (hx:Rch a f x):Rch a g x:=by
 induction hx with
 | base hx=>exact h _ hx
 | step _ hy ih=>exact .step ih hy
theorem xo (a:List Int):∀ (n:Nat) (l:List Int),∀ x∈l,x∈rP a n l
 | 0,_,_,h=>h
 | n+1,l,x,h=>by
  unfold rP;split
  ·exact h
  ·exact xo a n _ x (by unfold o8; simp [h])
theorem xp {a f:List Int}:∀ (n:Nat) (l:List Int),(∀ x∈l,Rch a f x)->∀ x∈rP a n l,Rch a f x
 | 0,_,h,x,hx=>h x hx
 | n+1,l,h,x,hx=>by
  unfold rP at hx;split at hx
  ·exact h x hx
  ·refine xp n _ (fun y hy=>?_) x hx;unfold o8 at hy;rcases List.mem_append.1 hy with hy | hy
   ·exact h y hy
   ·obtain ⟨z,hz,hy⟩:=List.mem_flatMap.1 hy;exact .step (h z hz) hy
theorem pi {a:List Int} (hw:∀ x∈a,am .u64 x) (hc:(ak a).2.2=0):∀ (n:Nat) (l:List Int),(∀ x∈l,isB (ac a).1 x=true)->257<=n+EX l->pJ a (rP a n l)=true
 | 0,l,_,hn=>by have:=MK l; omega
 | n+1,l,hl,hn=>by
  unfold rP;by_cases h:pJ a l=true
  ·rw [if_pos h]; exact h
  rw [if_neg h]
  have hl2:∀ x∈o8 a l,isB (ac a).1 x=true:=by
   intro y hy;unfold o8 at hy;rcases List.mem_append.1 hy with hy | hy
   ·exact hl y hy
   ·obtain ⟨z,hz,hy⟩:=List.mem_flatMap.1 hy;exact qh hw hc (hl z hz) hy
  refine pi hw hc n _ hl2 ?_;rw [rW] at h
  have h:∃ x,x∈l/\∃ y,y∈ft a x/\¬ y∈l:=by
   apply Classical.byContradiction;intro hno;apply h;intro x hx y hy;apply Classical.byContradiction;intro hyl;exact hno ⟨x,hx,y,hy,hyl⟩
  obtain ⟨x,hx,y,hy,hyl⟩:=h
  have hy2:y∈o8 a l:=by
   unfold o8;exact List.mem_append_right _ (List.mem_flatMap.2 ⟨x,hx,hy⟩)
  have hr:=gB (hl2 y hy2);have:=MJ (l:=l) (k:=o8 a l) (fun z hz=>by unfold o8; simp [hz]) hy2 hyl hr.1 hr.2;omega
theorem g7 {a from_:List Int} (hw:∀ x∈a,am .u64 x) (hc:(ak a).2.2=0) (hf:∀ x∈from_,isB (ac a).1 x=true) {x:Int}:x∈bD a from_ ↔ Rch a from_ x:=by
 unfold bD;rw [tu];constructor
 ·intro h;exact xp 257 from_ (fun y hy=>.base hy) x h.2.2
 ·intro h;have hr:=gB (h.isB hw hc hf);refine ⟨hr.1,by omega,?_⟩;have hcl:=rW.1 (pi hw hc 257 from_ hf (by omega));exact h.mem (xo a 257 from_) hcl
theorem lc (a from_:List Int):(bD a from_).Pairwise (·<·):=Bi _ _
structure Full (a from_ out:List Int):Prop where
 has:∀ x∈from_,x∈out
 only:∀ x∈out,Rch a from_ x
 all:∀ x∈out,∀ y∈ft a x,y∈out
theorem Full.iff {a from_ out:List Int} (h:Full a from_ out) {x:Int}:x∈out ↔ Rch a from_ x:=⟨h.only x,fun hx=>hx.mem h.has h.all⟩
theorem Full.sorted {a from_ out:List Int} (hw:∀ x∈a,am .u64 x) (hc:(ak a).2.2=0) (hf:∀ x∈from_,isB (ac a).1 x=true) (h:Full a from_ out) (hd:out.Nodup):d9 out=bD a from_:=by
 refine qe ?_ (lc _ _) (fun x=>by rw [pZ,g7 hw hc hf,h.iff]);have h1:=k8 out;have h2:(d9 out).Nodup:=(List.mergeSort_perm out _).nodup_iff.2 hd;have h3:=h1.and h2;exact h3.imp (fun ⟨x,y⟩=>by omega)
def aY (a from_:List Int):Int:=if (ak a).2.2≠0 then (ak a).2.2 else if from_.all (isB (ac a).1)=true then 0 else 5
def dJ (a from_:List Int):List Int×Int:=if aY a from_≠0 then ([],aY a from_) else (bD a from_,0)
theorem eM {a from_:List Int} (h:aY a from_=0):(ak a).2.2=0/\∀ x∈from_,isB (ac a).1 x=true:=by
 unfold aY at h;split at h
 ·rename_i h1; exact absurd h h1
 ·rename_i h1;split at h
  ·rename_i h2;exact ⟨by omega,List.all_eq_true.1 h2⟩
  ·omega
theorem i7 {a from_:List Int} (h1:(ak a).2.2=0) (h2:∀ x∈from_,isB (ac a).1 x=true):aY a from_=0:=by
 unfold aY;rw [if_neg (by omega),if_pos (List.all_eq_true.2 h2)]
end
end Go.Proofs.YtmfileeamnfpaaaGreatDoor
