
import Derived.Test.YtcnoiiohmpgckaaBase
namespace Go.Proofs.Ytcnoiiohmpgckaa
open Go
set_option maxRecDepth 100000
set_option maxHeartbeats 1000000
abbrev eU:=Int×Int×Int×Bool
def ar (h:eU):Int:=1+h.1+h.2.1
def af (h:eU):Int :=
 if h.1<0∨256<h.1∨h.2.1<0∨256<h.2.1∨h.2.2.1<0∨65535<h.2.2.1 then 4
 else if h.2.2.2=true∧(h.1≠0∨h.2.2.1≠0) then 3
 else if 256<ar h then 2 else 0
def aq (v:Int):eU:=(v % 65536,v / 65536 % 65536,v / 4294967296 % 65536,decide (v / 281474976710656=1))
def ak (v:Int):Bool:=v / 281474976710656≤1&&af (aq v) == 0
def ap:eU:=(0,0,0,false)
theorem cT {h:eU} (h0:af h=0):0≤h.1∧0≤h.2.1∧0≤h.2.2.1∧h.2.2.1≤65535∧1+h.1+h.2.1≤256∧(h.2.2.2=true→h.1=0∧h.2.2.1=0):=by
 grind [af,ar]
theorem qr {v:Int} (h0:0≤v) :
  (IntKind.i64.wrap ↑(v.toNat &&& Int.toNat 65535),IntKind.i64.wrap ↑((v / 2 ^ Int.toNat 16).toNat &&& Int.toNat 65535),IntKind.i64.wrap ↑((v / 2 ^ Int.toNat 32).toNat &&& Int.toNat 65535),
   decide (((v.toNat &&& Int.toNat 281474976710656:Nat):Int)≠0))=(v % 65536,v / 65536 % 65536,v / 4294967296 % 65536,decide (v / 281474976710656 % 2=1)):=by
 have e:Int.toNat 65535=2 ^ 16 - 1:=rfl
 have e2:Int.toNat 281474976710656=2 ^ 48:=rfl
 have e3:v / 2 ^ Int.toNat 16=v / 65536:=rfl
 have e4:v / 2 ^ Int.toNat 32=v / 4294967296:=rfl
 rw [e,e2,e3,e4,lQ h0,lQ (by omega),lQ (by omega),um h0]
 rw [show (2:Int) ^ 16=65536 from rfl,show (2:Int) ^ 48=281474976710656 from rfl]
 rw [eo (by omega) (by omega),eo (by omega) (by omega),eo (by omega) (by omega)]
 congr 3
 apply decide_eq_decide.2
 omega
theorem n3 {v:Int} (h1:v / 281474976710656≤1) (h0:0≤v):(v % 65536,v / 65536 % 65536,v / 4294967296 % 65536,decide (v / 281474976710656 % 2=1))=aq v:=by
 simp only [aq]
 congr 3
 apply decide_eq_decide.2
 omega
def pW:Spec:={ Ts:=[dl],Rs:=[.dat ty_I],pre:=fun (h:eU)=>aj .i64 (1+h.1)∧aj .i64 (1+h.1+h.2.1),F:=ar }
def kg:Prop :=
  ∀ (x:Int×Int×Int×Bool),aj .i64 x.1∧aj .i64 x.2.1∧aj .i64 x.2.2.1∧True→aj .i64 (1+x.1)∧aj .i64 (1+x.1+x.2.1)→aj .i64 (1+x.1)∧aj .i64 (1+x.1+x.2.1)∧1+x.1+x.2.1=ar x∧True
theorem ot:kg:=by
 unfold kg
 intro x h1 h2
 exact ⟨h2.1,h2.2,rfl,trivial⟩
theorem kp:pW.ok Try.prog 157:=bJ (ann:=kM) aJ Try.func157 (by kernel_rfl) ot
def oH:Spec:={ Ts:=[dl],Rs:=[.dat ty_I],pre:=fun _=>True,F:=af }
def iN:Prop :=
  ∀ (x:Int×Int×Int×Bool),aj .i64 x.1∧aj .i64 x.2.1∧aj .i64 x.2.2.1∧True→True→((decide ((if x.2.2.1<if x.2.1<x.1 then x.2.1 else x.1 then x.2.2.1 else if x.2.1<x.1 then x.2.1 else x.1)<0)||decide (256<if x.1<x.2.1 then x.2.1 else x.1)||decide (65535<x.2.2.1))=true→4=af x∧True)∧((decide ((if x.2.2.1<if x.2.1<x.1 then x.2.1 else x.1 then x.2.2.1 else if x.2.1<x.1 then x.2.1 else x.1)<0)||decide (256<if x.1<x.2.1 then x.2.1 else x.1)||decide (65535<x.2.2.1))=false→((x.2.2.2&&(decide (0<x.1)||decide (0<x.2.2.1)))=true→3=af x∧True)∧((x.2.2.2&&(decide (0<x.1)||decide (0<x.2.2.1)))=false→(aj .i64 (1+x.1)∧aj .i64 (1+x.1+x.2.1))∧(decide (256<ar x)=true→2=af x∧True)∧(decide (256<ar x)=false→0=af x∧True)))
theorem mN:iN:=by
 unfold iN
 intro x h1 _
 grind [aj,af,ar]
theorem iQ:oH.ok Try.prog 156:=bJ (ann:=kM) (ai kp aJ) Try.func156 (by kernel_rfl) mN
def oG:Spec:={ Ts:=[dl],Rs:=[.dat ty_I,.dat ty_I],pre:=fun _=>True,F:=fun (h:eU)=>((if af h=0 then ar h else 0,af h):Int×Int) }
def iM:Prop :=
  ∀ (x:Int×Int×Int×Bool),aj .i64 x.1∧aj .i64 x.2.1∧aj .i64 x.2.2.1∧True→True→True∧(decide (af x≠0)=true→((0:Int)=if af x=0 then ar x else (0:Int))∧af x=af x∧True)∧(decide (af x≠0)=false→(aj .i64 (1+x.1)∧aj .i64 (1+x.1+x.2.1))∧(ar x=if af x=0 then ar x else (0:Int))∧0=af x∧True)
theorem mM:iM:=by
 unfold iM
 intro x hw _
 refine ⟨trivial,fun h=>?_,fun h=>?_⟩
 ·have:af x≠0:=by simpa using h
  simp [this]
 ·have h0:af x=0:=by simpa using h
  obtain ⟨b1,b2,b3,b4,b5,_⟩:=cT h0
  simp only [aj,h0,if_true,and_true]
  omega
theorem oV:oG.ok Try.prog 120:=bJ (ann:=kM) (ai iQ (ai kp aJ)) Try.func120 (by kernel_rfl) mM
def pV:Spec:={ Ts:=[ci],Rs:=[.dat dl,.dat ty_I],pre:=fun _=>True,F:=fun (v:Int)=>((if ak v then aq v else ap,if ak v then 0 else 3):eU×Int) }
def kf:Prop :=
  ∀ (x:Int),aj .u64 x→True→(0:Int)≤16∧16<(↑IntKind.u64.bits:Int)∧(0:Int)≤32∧32<(↑IntKind.u64.bits:Int)∧(0:Int)≤49∧49<(↑IntKind.u64.bits:Int)∧(decide (x / 2 ^ Int.toNat (49:Int)≠0)=false→True)∧((decide (x / 2 ^ Int.toNat (49:Int)≠0)||decide (af (IntKind.i64.wrap (↑(x.toNat &&& Int.toNat 65535):Int),IntKind.i64.wrap (↑((x / 2 ^ Int.toNat 16).toNat &&& Int.toNat 65535):Int),IntKind.i64.wrap (↑((x / 2 ^ Int.toNat 32).toNat &&& Int.toNat 65535):Int),decide ((↑(x.toNat &&& Int.toNat 281474976710656):Int)≠0))≠0))=true→((0,0,0,false)=if ak x=true then aq x else ap)∧((3:Int)=if ak x=true then (0:Int) else (3:Int))∧True)∧((decide (x / 2 ^ Int.toNat (49:Int)≠0)||decide (af (IntKind.i64.wrap (↑(x.toNat &&& Int.toNat 65535):Int),IntKind.i64.wrap (↑((x / 2 ^ Int.toNat 16).toNat &&& Int.toNat 65535):Int),IntKind.i64.wrap (↑((x / 2 ^ Int.toNat 32).toNat &&& Int.toNat 65535):Int),decide ((↑(x.toNat &&& Int.toNat 281474976710656):Int)≠0))≠0))=false→((IntKind.i64.wrap (↑(x.toNat &&& Int.toNat 65535):Int),IntKind.i64.wrap (↑((x / 2 ^ Int.toNat 16).toNat &&& Int.toNat 65535):Int),IntKind.i64.wrap (↑((x / 2 ^ Int.toNat 32).toNat &&& Int.toNat 65535):Int),decide ((↑(x.toNat &&& Int.toNat 281474976710656):Int)≠0))=if ak x=true then aq x else ap)∧((0:Int)=if ak x=true then (0:Int) else (3:Int))∧True)
theorem oo:kf:=by
 unfold kf
 intro x hw _
 have hx:0≤x:=hw.1
 rw [qr hx,show x / 2 ^ Int.toNat 49=x / 562949953421312 from rfl]
 refine ⟨by decide,by decide,by decide,by decide,by decide,by decide,fun _=>trivial,fun h=>?_,fun h=>?_⟩
 ·have:ak x=false:=by
   rcases Int.lt_or_le 1 (x / 281474976710656) with h1 | h1
   ·simp [ak,show ¬ x / 281474976710656≤1 by omega]
   ·rw [n3 h1 hx] at h
    have e:x / 562949953421312=0:=by omega
    simp only [e,ne_eq,not_true_eq_false,decide_false,Bool.false_or,decide_eq_true_eq] at h
    simp [ak,h]
  simp [this,ap]
 ·have h1:x / 281474976710656≤1:=by
   have:x / 562949953421312=0:=by
    apply Classical.byContradiction
    intro hne
    simp [hne] at h
   omega
  rw [n3 h1 hx] at h ⊢
  have:ak x=true:=by
   simp only [Bool.or_eq_false_iff,decide_eq_false_iff_not,ne_eq,Classical.not_not] at h
   simp [ak,h1,h.2]
  simp [this]
theorem qk:pV.ok Try.prog 171:=bJ (ann:=kM) (ai iQ aJ) Try.func171 (by kernel_rfl) oo
def mU:Spec:={ Ts:=[dl],Rs:=[.dat ty_I],pre:=fun _=>True,F:=af }
def gT:Prop :=
  ∀ (x:Int×Int×Int×Bool),aj .i64 x.1∧aj .i64 x.2.1∧aj .i64 x.2.2.1∧True→True→((decide (x.1<0)||decide (256<x.1)||decide (x.2.1<0)||decide (256<x.2.1)||decide (x.2.2.1<0)||decide (65535<x.2.2.1))=true→4=af x∧True)∧((decide (x.1<0)||decide (256<x.1)||decide (x.2.1<0)||decide (256<x.2.1)||decide (x.2.2.1<0)||decide (65535<x.2.2.1))=false→((x.2.2.2&&(decide (x.1≠0)||decide (x.2.2.1≠0)))=true→3=af x∧True)∧((x.2.2.2&&(decide (x.1≠0)||decide (x.2.2.1≠0)))=false→aj .i64 (1+x.1)∧aj .i64 (1+x.1+x.2.1)∧(decide ((256:Int)<1+x.1+x.2.1)=true→2=af x∧True)∧(decide ((256:Int)<1+x.1+x.2.1)=false→0=af x∧True)))
theorem kY:gT:=by
 unfold gT
 intro x h1 _
 grind [aj,af,ar]
theorem m4:mU.ok Try.prog 183:=bJ (ann:=kM) aJ Try.func183 (by kernel_rfl) kY
def oF:Spec:={ Ts:=[dl],Rs:=[.dat ty_I],pre:=fun (h:eU)=>aj .i64 (1+h.1)∧aj .i64 (1+h.1+h.2.1),F:=ar }
def iL:Prop :=
  ∀ (x:Int×Int×Int×Bool),aj .i64 x.1∧aj .i64 x.2.1∧aj .i64 x.2.2.1∧True→aj .i64 (1+x.1)∧aj .i64 (1+x.1+x.2.1)→aj .i64 (1+x.1)∧aj .i64 (1+x.1+x.2.1)∧1+x.1+x.2.1=ar x∧True
theorem mL:iL:=by
 unfold iL
 intro x h1 h2
 exact ⟨h2.1,h2.2,rfl,trivial⟩
theorem oU:oF.ok Try.prog 58:=bJ (ann:=kM) aJ Try.func58 (by kernel_rfl) mL
def oE:Spec:={ Ts:=[ci],Rs:=[.dat dl,.dat .bool],pre:=fun _=>True,F:=fun (v:Int)=>((if ak v then aq v else ap,ak v):eU×Bool) }
def iK:Prop :=
  ∀ (x:Int),aj .u64 x→True→0≤x∧(0:Int)<65536∧0≤x∧(0:Int)<65536∧0≤x / 65536∧(0:Int)<65536∧0≤x∧(0:Int)<65536∧0≤x / 65536∧(0:Int)<65536∧0≤x / 65536 / 65536∧(0:Int)<65536∧0≤x∧(0:Int)<65536∧0≤x / 65536∧(0:Int)<65536∧0≤x / 65536 / 65536∧(0:Int)<65536∧(decide (1<x / 65536 / 65536 / 65536)=false→True)∧((decide (1<x / 65536 / 65536 / 65536)||decide (af (IntKind.i64.wrap (x % 65536),IntKind.i64.wrap (x / 65536 % 65536),IntKind.i64.wrap (x / 65536 / 65536 % 65536),decide (x / 65536 / 65536 / 65536=1))≠0))=true→((0,0,0,false)=if ak x=true then aq x else ap)∧false=ak x∧True)∧((decide (1<x / 65536 / 65536 / 65536)||decide (af (IntKind.i64.wrap (x % 65536),IntKind.i64.wrap (x / 65536 % 65536),IntKind.i64.wrap (x / 65536 / 65536 % 65536),decide (x / 65536 / 65536 / 65536=1))≠0))=false→((IntKind.i64.wrap (x % 65536),IntKind.i64.wrap (x / 65536 % 65536),IntKind.i64.wrap (x / 65536 / 65536 % 65536),decide (x / 65536 / 65536 / 65536=1))=if ak x=true then aq x else ap)∧true=ak x∧True)
theorem mK:iK:=by
 unfold iK
 intro x hw _
 have hx:0≤x:=hw.1
 have e1:x / 65536 / 65536=x / 4294967296:=by omega
 have e2:x / 4294967296 / 65536=x / 281474976710656:=by omega
 rw [e1,e2,eo (by omega) (by omega),eo (by omega) (by omega),eo (by omega) (by omega)]
 have e3:(x % 65536,x / 65536 % 65536,x / 4294967296 % 65536,decide (x / 281474976710656=1))=aq x:=by
  simp only [aq]
 rw [e3]
 refine ⟨by omega,by decide,by omega,by decide,by omega,by decide,by omega,by decide,by omega,by decide,by omega,by decide,by omega,by decide,by omega,by decide,by omega,by decide,fun _=>trivial,fun h=>?_,fun h=>?_⟩
 ·have:ak x=false:=by
   simp only [Bool.or_eq_true,decide_eq_true_eq] at h
   simp only [ak,Bool.and_eq_false_iff,decide_eq_false_iff_not,beq_eq_false_iff_ne]
   omega
  simp [this,ap]
 ·have:ak x=true:=by
   simp only [Bool.or_eq_false_iff,decide_eq_false_iff_not] at h
   simp only [ak,Bool.and_eq_true,decide_eq_true_eq,beq_iff_eq]
   omega
  simp [this]
theorem oT:oE.ok Try.prog 147:=bJ (ann:=kM) (ai m4 aJ) Try.func147 (by kernel_rfl) mK
end Go.Proofs.Ytcnoiiohmpgckaa
