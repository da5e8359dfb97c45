
import Derived.Test.YtglchojglcobjaaGreatBase
namespace Go.Proofs.YtglchojglcobjaaGreat
open Go
set_option maxRecDepth 100000
set_option maxHeartbeats 1000000
abbrev da:=Int×Int×Int×Bool
def ab (h:da):Int:=1+h.1+h.2.1
def ac (h:da):Int :=
 if h.1<0∨256<h.1∨h.2.1<0∨256<h.2.1∨h.2.2.1<0∨65535<h.2.2.1 then 4
 else if h.2.2.2=true∧(h.1≠0∨h.2.2.1≠0) then 3
 else if 256<ab h then 2 else 0
def aR (h:da):Int:=h.1+65536 * h.2.1+4294967296 * h.2.2.1+(if h.2.2.2 then 281474976710656 else 0)
def aH (v:Int):da:=(v % 65536,v / 65536 % 65536,v / 4294967296 % 65536,decide (v / 281474976710656=1))
def aF (v:Int):Bool:=v / 281474976710656≤1&&ac (aH v) == 0
def aP:da:=(0,0,0,false)
theorem a8 {h:da} (h0:ac h=0):0≤h.1∧0≤h.2.1∧0≤h.2.2.1∧h.2.2.1≤65535∧1+h.1+h.2.1≤256∧(h.2.2.2=true→h.1=0∧h.2.2.1=0):=by
 grind [ac,ab]
theorem uw {h:da} (h0:ac h=0) :
  (↑((IntKind.u64.wrap h.1).toNat ||| (IntKind.u64.wrap (IntKind.u64.wrap h.2.1 * 2 ^ Int.toNat 16)).toNat):Int)=h.1+65536 * h.2.1 ∧
  (↑((h.1+65536 * h.2.1).toNat ||| (IntKind.u64.wrap (IntKind.u64.wrap h.2.2.1 * 2 ^ Int.toNat 32)).toNat):Int)=h.1+65536 * h.2.1+4294967296 * h.2.2.1 ∧
  (↑((h.1+65536 * h.2.1+4294967296 * h.2.2.1).toNat ||| Int.toNat 281474976710656):Int)=h.1+65536 * h.2.1+4294967296 * h.2.2.1+281474976710656:=by
 obtain ⟨h1,h2,h3,h4,h5,_⟩:=a8 h0
 rw [gj h1 (by omega),gj h2 (by omega),gj h3 (by omega)]
 have e1:(h.2.1 * 2 ^ Int.toNat 16)=h.2.1 * 65536:=rfl
 have e2:(h.2.2.1 * 2 ^ Int.toNat 32)=h.2.2.1 * 4294967296:=rfl
 rw [e1,e2,gj (by omega) (by omega),gj (by omega) (by omega)]
 have k1:=xF (i:=16) h1 h2 (by omega)
 have k2:=xF (i:=32) (a:=h.1+65536 * h.2.1) (by omega) h3 (by omega)
 have k3:=xF (i:=48) (a:=h.1+65536 * h.2.1+4294967296 * h.2.2.1) (b:=1) (by omega) (by omega) (by omega)
 refine ⟨?_,?_,?_⟩
 ·rw [show h.2.1 * 65536=h.2.1 * 2 ^ 16 from rfl,k1]; omega
 ·rw [show h.2.2.1 * 4294967296=h.2.2.1 * 2 ^ 32 from rfl,k2]; omega
 ·rw [show Int.toNat 281474976710656=((1:Int) * 2 ^ 48).toNat from rfl,k3]; rfl
theorem Af {v:Int} (h0:0≤v) :
  (IntKind.i64.wrap ↑(v.toNat &&& Int.toNat 65535),IntKind.i64.wrap ↑((v / 2 ^ Int.toNat 16).toNat &&& Int.toNat 65535),IntKind.i64.wrap ↑((v / 2 ^ Int.toNat 32).toNat &&& Int.toNat 65535),
   decide (((v.toNat &&& Int.toNat 281474976710656:Nat):Int)≠0))=(v % 65536,v / 65536 % 65536,v / 4294967296 % 65536,decide (v / 281474976710656 % 2=1)):=by
 have e:Int.toNat 65535=2 ^ 16 - 1:=rfl
 have e2:Int.toNat 281474976710656=2 ^ 48:=rfl
 have e3:v / 2 ^ Int.toNat 16=v / 65536:=rfl
 have e4:v / 2 ^ Int.toNat 32=v / 4294967296:=rfl
 rw [e,e2,e3,e4,sG h0,sG (by omega),sG (by omega),FY h0]
 rw [show (2:Int) ^ 16=65536 from rfl,show (2:Int) ^ 48=281474976710656 from rfl]
 rw [ki (by omega) (by omega),ki (by omega) (by omega),ki (by omega) (by omega)]
 congr 3
 apply decide_eq_decide.2
 omega
theorem vS {v:Int} (h1:v / 281474976710656≤1) (h0:0≤v):(v % 65536,v / 65536 % 65536,v / 4294967296 % 65536,decide (v / 281474976710656 % 2=1))=aH v:=by
 simp only [aH]
 congr 3
 apply decide_eq_decide.2
 omega
def y8:Spec:={ Ts:=[cN],Rs:=[.dat ty_I],pre:=fun (h:da)=>ak .i64 (1+h.1)∧ak .i64 (1+h.1+h.2.1),F:=ab }
def pX:Prop :=
  ∀ (x:Int×Int×Int×Bool),ak IntKind.i64 x.1∧ak IntKind.i64 x.2.1∧ak IntKind.i64 x.2.2.1∧True→ak IntKind.i64 (1+x.1)∧ak IntKind.i64 (1+x.1+x.2.1)→ak IntKind.i64 (1+x.1)∧ak IntKind.i64 (1+x.1+x.2.1)∧1+x.1+x.2.1=ab x∧True
theorem wD:pX:=by
 unfold pX
 intro x h1 h2
 exact ⟨h2.1,h2.2,rfl,trivial⟩
theorem qi:y8.ok Tryz.prog 95:=aI (ann:=cT) ap Tryz.func95 (by kernel_rfl) wD
def w7:Spec:={ Ts:=[cN],Rs:=[.dat ty_I],pre:=fun _=>True,F:=ac }
def nL:Prop :=
  ∀ (x:Int×Int×Int×Bool),ak IntKind.i64 x.1∧ak IntKind.i64 x.2.1∧ak IntKind.i64 x.2.2.1∧True→True→((decide ((if x.2.2.1<if x.2.1<x.1 then x.2.1 else x.1 then x.2.2.1 else if x.2.1<x.1 then x.2.1 else x.1)<0)||decide (256<if x.1<x.2.1 then x.2.1 else x.1)||decide (65535<x.2.2.1))=true→4=ac x∧True)∧((decide ((if x.2.2.1<if x.2.1<x.1 then x.2.1 else x.1 then x.2.2.1 else if x.2.1<x.1 then x.2.1 else x.1)<0)||decide (256<if x.1<x.2.1 then x.2.1 else x.1)||decide (65535<x.2.2.1))=false→((x.2.2.2&&(decide (0<x.1)||decide (0<x.2.2.1)))=true→3=ac x∧True)∧((x.2.2.2&&(decide (0<x.1)||decide (0<x.2.2.1)))=false→(ak IntKind.i64 (1+x.1)∧ak IntKind.i64 (1+x.1+x.2.1))∧(decide (256<ab x)=true→2=ac x∧True)∧(decide (256<ab x)=false→0=ac x∧True)))
theorem tQ:nL:=by
 unfold nL
 intro x h1 _
 grind [ak,ac,ab]
theorem ia:w7.ok Tryz.prog 55:=aI (ann:=cT) (ae qi ap) Tryz.func55 (by kernel_rfl) tQ
def y6:Spec:={ Ts:=[cN],Rs:=[.dat be,.dat ty_I],pre:=fun _=>True,F:=fun (h:da)=>((if ac h=0 then aR h else 0,ac h):Int×Int) }
def pV:Prop :=
  ∀ (x:Int×Int×Int×Bool),ak IntKind.i64 x.1∧ak IntKind.i64 x.2.1∧ak IntKind.i64 x.2.2.1∧True→True→True∧(decide (ac x≠0)=true→(0=if ac x=0 then aR x else 0)∧ac x=ac x∧True)∧(decide (ac x≠0)=false→(0:Int)≤16∧16<(↑IntKind.u64.bits:Int)∧(0:Int)≤32∧32<(↑IntKind.u64.bits:Int)∧(x.2.2.2=true→((↑((↑((↑((IntKind.u64.wrap x.1).toNat ||| (IntKind.u64.wrap (IntKind.u64.wrap x.2.1 * 2 ^ Int.toNat 16)).toNat):Int).toNat ||| (IntKind.u64.wrap (IntKind.u64.wrap x.2.2.1 * 2 ^ Int.toNat 32)).toNat):Int).toNat ||| Int.toNat 281474976710656):Int)=if ac x=0 then aR x else 0)∧0=ac x∧True)∧(x.2.2.2=false→((↑((↑((IntKind.u64.wrap x.1).toNat ||| (IntKind.u64.wrap (IntKind.u64.wrap x.2.1 * 2 ^ Int.toNat 16)).toNat):Int).toNat ||| (IntKind.u64.wrap (IntKind.u64.wrap x.2.2.1 * 2 ^ Int.toNat 32)).toNat):Int)=if ac x=0 then aR x else 0)∧0=ac x∧True))
theorem wB:pV:=by
 unfold pV
 intro x hw _
 refine ⟨trivial,fun h=>?_,fun h=>?_⟩
 ·have:ac x≠0:=by simpa using h
  simp [this]
 ·have h0:ac x=0:=by simpa using h
  obtain ⟨b1,b2,b3⟩:=uw h0
  refine ⟨by decide,by decide,by decide,by decide,fun hf=>?_,fun hf=>?_⟩
  ·rw [b1,b2,b3,if_pos h0,h0]
   exact ⟨by simp [aR,hf],rfl,trivial⟩
  ·rw [b1,b2,if_pos h0,h0]
   exact ⟨by simp [aR,hf],rfl,trivial⟩
theorem i9:y6.ok Tryz.prog 134:=aI (ann:=cT) (ae ia ap) Tryz.func134 (by kernel_rfl) wB
def w6:Spec:={ Ts:=[cN],Rs:=[.dat ty_I,.dat ty_I],pre:=fun _=>True,F:=fun (h:da)=>((if ac h=0 then ab h else 0,ac h):Int×Int) }
def nK:Prop :=
  ∀ (x:Int×Int×Int×Bool),ak IntKind.i64 x.1∧ak IntKind.i64 x.2.1∧ak IntKind.i64 x.2.2.1∧True→True→True∧(decide (ac x≠0)=true→(0=if ac x=0 then ab x else 0)∧ac x=ac x∧True)∧(decide (ac x≠0)=false→(ak IntKind.i64 (1+x.1)∧ak IntKind.i64 (1+x.1+x.2.1))∧(ab x=if ac x=0 then ab x else 0)∧0=ac x∧True)
theorem tP:nK:=by
 unfold nK
 intro x hw _
 refine ⟨trivial,fun h=>?_,fun h=>?_⟩
 ·have:ac x≠0:=by simpa using h
  simp [this]
 ·have h0:ac x=0:=by simpa using h
  obtain ⟨b1,b2,b3,b4,b5,_⟩:=a8 h0
  simp only [ak,h0,if_true,and_true]
  omega
theorem hZ:w6.ok Tryz.prog 100:=aI (ann:=cT) (ae ia (ae qi ap)) Tryz.func100 (by kernel_rfl) tP
def y7:Spec:={ Ts:=[be],Rs:=[.dat cN,.dat ty_I],pre:=fun _=>True,F:=fun (v:Int)=>((if aF v then aH v else aP,if aF v then 0 else 3):da×Int) }
def pW:Prop :=
  ∀ (x:Int),ak IntKind.u64 x→True→(0:Int)≤(16:Int)∧(16:Int)<(↑IntKind.u64.bits:Int)∧(0:Int)≤(32:Int)∧(32:Int)<(↑IntKind.u64.bits:Int)∧(0:Int)≤(49:Int)∧(49:Int)<(↑IntKind.u64.bits:Int)∧(decide (x / (2:Int) ^ Int.toNat (49:Int)≠(0:Int))=false→True)∧((decide (x / (2:Int) ^ Int.toNat (49:Int)≠(0:Int))||decide (ac (IntKind.i64.wrap (↑(x.toNat &&& Int.toNat (65535:Int)):Int),IntKind.i64.wrap (↑((x / (2:Int) ^ Int.toNat (16:Int)).toNat &&& Int.toNat (65535:Int)):Int),IntKind.i64.wrap (↑((x / (2:Int) ^ Int.toNat (32:Int)).toNat &&& Int.toNat (65535:Int)):Int),decide ((↑(x.toNat &&& Int.toNat (281474976710656:Int)):Int)≠(0:Int)))≠(0:Int)))=true→(((0:Int),(0:Int),(0:Int),false)=if aF x=true then aH x else aP)∧((3:Int)=if aF x=true then (0:Int) else (3:Int))∧True)∧((decide (x / (2:Int) ^ Int.toNat (49:Int)≠(0:Int))||decide (ac (IntKind.i64.wrap (↑(x.toNat &&& Int.toNat (65535:Int)):Int),IntKind.i64.wrap (↑((x / (2:Int) ^ Int.toNat (16:Int)).toNat &&& Int.toNat (65535:Int)):Int),IntKind.i64.wrap (↑((x / (2:Int) ^ Int.toNat (32:Int)).toNat &&& Int.toNat (65535:Int)):Int),decide ((↑(x.toNat &&& Int.toNat (281474976710656:Int)):Int)≠(0:Int)))≠(0:Int)))=false→((IntKind.i64.wrap (↑(x.toNat &&& Int.toNat (65535:Int)):Int),IntKind.i64.wrap (↑((x / (2:Int) ^ Int.toNat (16:Int)).toNat &&& Int.toNat (65535:Int)):Int),IntKind.i64.wrap (↑((x / (2:Int) ^ Int.toNat (32:Int)).toNat &&& Int.toNat (65535:Int)):Int),decide ((↑(x.toNat &&& Int.toNat (281474976710656:Int)):Int)≠(0:Int)))=if aF x=true then aH x else aP)∧((0:Int)=if aF x=true then (0:Int) else (3:Int))∧True)
theorem wC:pW:=by
 unfold pW
 intro x hw _
 have hx:0≤x:=hw.1
 rw [Af hx,show x / 2 ^ Int.toNat 49=x / 562949953421312 from rfl]
 refine ⟨by decide,by decide,by decide,by decide,by decide,by decide,fun _=>trivial,fun h=>?_,fun h=>?_⟩
 ·have:aF x=false:=by
   rcases Int.lt_or_le 1 (x / 281474976710656) with h1 | h1
   ·simp [aF,show ¬ x / 281474976710656≤1 by omega]
   ·rw [vS h1 hx] at h
    have e:x / 562949953421312=0:=by omega
    simp only [e,ne_eq,not_true_eq_false,decide_false,Bool.false_or,decide_eq_true_eq] at h
    simp [aF,h]
  simp [this,aP]
 ·have h1:x / 281474976710656≤1:=by
   have:x / 562949953421312=0:=by
    apply Classical.byContradiction
    intro hne
    simp [hne] at h
   omega
  rw [vS h1 hx] at h ⊢
  have:aF x=true:=by
   simp only [Bool.or_eq_false_iff,decide_eq_false_iff_not,ne_eq,Classical.not_not] at h
   simp [aF,h1,h.2]
  simp [this]
theorem zW:y7.ok Tryz.prog 165:=aI (ann:=cT) (ae ia ap) Tryz.func165 (by kernel_rfl) wC
def ud:Spec:={ Ts:=[cN],Rs:=[.dat ty_I],pre:=fun _=>True,F:=ac }
def lX:Prop :=
  ∀ (x:Int×Int×Int×Bool),ak IntKind.i64 x.1∧ak IntKind.i64 x.2.1∧ak IntKind.i64 x.2.2.1∧True→True→((decide (x.1<0)||decide (256<x.1)||decide (x.2.1<0)||decide (256<x.2.1)||decide (x.2.2.1<0)||decide (65535<x.2.2.1))=true→4=ac x∧True)∧((decide (x.1<0)||decide (256<x.1)||decide (x.2.1<0)||decide (256<x.2.1)||decide (x.2.2.1<0)||decide (65535<x.2.2.1))=false→((x.2.2.2&&(decide (x.1≠0)||decide (x.2.2.1≠0)))=true→3=ac x∧True)∧((x.2.2.2&&(decide (x.1≠0)||decide (x.2.2.1≠0)))=false→ak IntKind.i64 (1+x.1)∧ak IntKind.i64 (1+x.1+x.2.1)∧(decide (256<1+x.1+x.2.1)=true→2=ac x∧True)∧(decide (256<1+x.1+x.2.1)=false→0=ac x∧True)))
theorem ri:lX:=by
 unfold lX
 intro x h1 _
 grind [ak,ac,ab]
theorem ji:ud.ok Tryz.prog 20:=aI (ann:=cT) ap Tryz.func20 (by kernel_rfl) ri
def wY:Spec:={ Ts:=[cN],Rs:=[.dat ty_I],pre:=fun (h:da)=>ak .i64 (1+h.1)∧ak .i64 (1+h.1+h.2.1),F:=ab }
def nG:Prop :=
  ∀ (x:Int×Int×Int×Bool),ak IntKind.i64 x.1∧ak IntKind.i64 x.2.1∧ak IntKind.i64 x.2.2.1∧True→ak IntKind.i64 (1+x.1)∧ak IntKind.i64 (1+x.1+x.2.1)→ak IntKind.i64 (1+x.1)∧ak IntKind.i64 (1+x.1+x.2.1)∧1+x.1+x.2.1=ab x∧True
theorem tL:nG:=by
 unfold nG
 intro x h1 h2
 exact ⟨h2.1,h2.2,rfl,trivial⟩
theorem ga:wY.ok Tryz.prog 42:=aI (ann:=cT) ap Tryz.func42 (by kernel_rfl) tL
def wW:Spec:={ Ts:=[cN],Rs:=[.dat be],pre:=fun (h:da)=>ac h=0,F:=aR }
def nE:Prop :=
  ∀ (x:Int×Int×Int×Bool),ak IntKind.i64 x.1∧ak IntKind.i64 x.2.1∧ak IntKind.i64 x.2.2.1∧True→ac x=0→ak IntKind.u64 (65536 * IntKind.u64.wrap x.2.1)∧ak IntKind.u64 (IntKind.u64.wrap x.1+65536 * IntKind.u64.wrap x.2.1)∧ak IntKind.u64 (4294967296 * IntKind.u64.wrap x.2.2.1)∧ak IntKind.u64 (IntKind.u64.wrap x.1+65536 * IntKind.u64.wrap x.2.1+4294967296 * IntKind.u64.wrap x.2.2.1)∧(x.2.2.2=true→ak IntKind.u64 (IntKind.u64.wrap x.1+65536 * IntKind.u64.wrap x.2.1+4294967296 * IntKind.u64.wrap x.2.2.1+281474976710656)∧IntKind.u64.wrap x.1+65536 * IntKind.u64.wrap x.2.1+4294967296 * IntKind.u64.wrap x.2.2.1+281474976710656=aR x∧True)∧(x.2.2.2=false→IntKind.u64.wrap x.1+65536 * IntKind.u64.wrap x.2.1+4294967296 * IntKind.u64.wrap x.2.2.1=aR x∧True)
theorem tJ:nE:=by
 unfold nE
 intro x h1 h0
 obtain ⟨b1,b2,b3,b4,b5,_⟩:=a8 h0
 rw [gj b1 (by omega),gj b2 (by omega),gj b3 (by omega)]
 simp only [ak]
 refine ⟨by omega,by omega,by omega,by omega,fun hf=>⟨by omega,?_,trivial⟩,fun hf=>⟨?_,trivial⟩⟩
 ·simp [aR,hf]
 ·simp [aR,hf]
theorem jO:wW.ok Tryz.prog 87:=aI (ann:=cT) ap Tryz.func87 (by kernel_rfl) tJ
def w4:Spec:={ Ts:=[ty_I],Rs:=[.dat be],pre:=fun (n:Int)=>1≤n∧n≤256,F:=fun (n:Int)=>aR (0,n - 1,0,true) }
def nI:Prop :=
  ∀ (x:Int),ak IntKind.i64 x→1≤x∧x≤256→ak IntKind.i64 (x - 1)∧ac (0,x - 1,0,true)=0∧aR (0,x - 1,0,true)=aR (0,x - 1,0,true)∧True
theorem tN:nI:=by
 unfold nI
 intro n hn ⟨h1,h2⟩
 have:ac (0,n - 1,0,true)=0:=by simp [ac,ab]; omega
 simp only [ak,this]
 refine ⟨?_,?_⟩ <;> first | omega | simp
theorem nU:w4.ok Tryz.prog 89:=aI (ann:=cT) (ae jO ap) Tryz.func89 (by kernel_rfl) tN
def wX:Spec:={ Ts:=[be],Rs:=[.dat cN,.dat .bool],pre:=fun _=>True,F:=fun (v:Int)=>((if aF v then aH v else aP,aF v):da×Bool) }
def nF:Prop :=
  ∀ (x:Int),ak IntKind.u64 x→True→0≤x∧(0:Int)<65536∧0≤x∧(0:Int)<65536∧0≤x / 65536∧(0:Int)<65536∧0≤x∧(0:Int)<65536∧0≤x / 65536∧(0:Int)<65536∧0≤x / 65536 / 65536∧(0:Int)<65536∧0≤x∧(0:Int)<65536∧0≤x / 65536∧(0:Int)<65536∧0≤x / 65536 / 65536∧(0:Int)<65536∧(decide (1<x / 65536 / 65536 / 65536)=false→True)∧((decide (1<x / 65536 / 65536 / 65536)||decide (ac (IntKind.i64.wrap (x % 65536),IntKind.i64.wrap (x / 65536 % 65536),IntKind.i64.wrap (x / 65536 / 65536 % 65536),decide (x / 65536 / 65536 / 65536=1))≠0))=true→((0,0,0,false)=if aF x=true then aH x else aP)∧false=aF x∧True)∧((decide (1<x / 65536 / 65536 / 65536)||decide (ac (IntKind.i64.wrap (x % 65536),IntKind.i64.wrap (x / 65536 % 65536),IntKind.i64.wrap (x / 65536 / 65536 % 65536),decide (x / 65536 / 65536 / 65536=1))≠0))=false→((IntKind.i64.wrap (x % 65536),IntKind.i64.wrap (x / 65536 % 65536),IntKind.i64.wrap (x / 65536 / 65536 % 65536),decide (x / 65536 / 65536 / 65536=1))=if aF x=true then aH x else aP)∧true=aF x∧True)
theorem tK:nF:=by
 unfold nF
 intro x hw _
 have hx:0≤x:=hw.1
 have e1:x / 65536 / 65536=x / 4294967296:=by omega
 have e2:x / 4294967296 / 65536=x / 281474976710656:=by omega
 rw [e1,e2,ki (by omega) (by omega),ki (by omega) (by omega),ki (by omega) (by omega)]
 have e3:(x % 65536,x / 65536 % 65536,x / 4294967296 % 65536,decide (x / 281474976710656=1))=aH x:=by
  simp only [aH]
 rw [e3]
 refine ⟨by omega,by decide,by omega,by decide,by omega,by decide,by omega,by decide,by omega,by decide,by omega,by decide,by omega,by decide,by omega,by decide,by omega,by decide,fun _=>trivial,fun h=>?_,fun h=>?_⟩
 ·have:aF x=false:=by
   simp only [Bool.or_eq_true,decide_eq_true_eq] at h
   simp only [aF,Bool.and_eq_false_iff,decide_eq_false_iff_not,beq_eq_false_iff_ne]
   omega
  simp [this,aP]
 ·have:aF x=true:=by
   simp only [Bool.or_eq_false_iff,decide_eq_false_iff_not] at h
   simp only [aF,Bool.and_eq_true,decide_eq_true_eq,beq_iff_eq]
   omega
  simp [this]
theorem xA:wX.ok Tryz.prog 85:=aI (ann:=cT) (ae ji ap) Tryz.func85 (by kernel_rfl) tK
end Go.Proofs.YtglchojglcobjaaGreat
