
import Derived.Test.YtcnoiiohmpgckaaBase
namespace Go.Proofs.Ytcnoiiohmpgckaa
open Go
set_option maxRecDepth 100000
set_option maxHeartbeats 1000000
abbrev dj:=Int×Int×Int×Bool
def ak (h:dj):Int:=1+h.1+h.2.1
def ae (h:dj):Int :=
 if h.1<0∨256<h.1∨h.2.1<0∨256<h.2.1∨h.2.2.1<0∨65535<h.2.2.1 then 4
 else if h.2.2.2=true∧(h.1≠0∨h.2.2.1≠0) then 3
 else if 256<ak h then 2 else 0
def aj (v:Int):dj:=(v % 65536,v / 65536 % 65536,v / 4294967296 % 65536,decide (v / 281474976710656=1))
def ag (v:Int):Bool:=v / 281474976710656≤1&&ae (aj v) == 0
def ai:dj:=(0,0,0,false)
theorem cD {h:dj} (h0:ae h=0):0≤h.1∧0≤h.2.1∧0≤h.2.2.1∧h.2.2.1≤65535∧1+h.1+h.2.1≤256∧(h.2.2.2=true→h.1=0∧h.2.2.1=0):=by
 grind [ae,ak]
theorem pP {v:Int} (h0:0≤v) :
  (IntKind.i64.wrap ↑(v.toNat &&& Int.toNat 65535),IntKind.i64.wrap ↑((v / 2 ^ Int.toNat 16).toNat &&& Int.toNat 65535),IntKind.i64.wrap ↑((v / 2 ^ Int.toNat 32).toNat &&& Int.toNat 65535),
   decide (((v.toNat &&& Int.toNat 281474976710656:Nat):Int)≠0))=(v % 65536,v / 65536 % 65536,v / 4294967296 % 65536,decide (v / 281474976710656 % 2=1)):=by
 have e:Int.toNat 65535=2 ^ 16 - 1:=rfl
 have e2:Int.toNat 281474976710656=2 ^ 48:=rfl
 have e3:v / 2 ^ Int.toNat 16=v / 65536:=rfl
 have e4:v / 2 ^ Int.toNat 32=v / 4294967296:=rfl
 rw [e,e2,e3,e4,kX h0,kX (by omega),kX (by omega),tN h0]
 rw [show (2:Int) ^ 16=65536 from rfl,show (2:Int) ^ 48=281474976710656 from rfl]
 rw [fv (by omega) (by omega),fv (by omega) (by omega),fv (by omega) (by omega)]
 congr 3
 apply decide_eq_decide.2
 omega
theorem nk {v:Int} (h1:v / 281474976710656≤1) (h0:0≤v):(v % 65536,v / 65536 % 65536,v / 4294967296 % 65536,decide (v / 281474976710656 % 2=1))=aj v:=by
 simp only [aj]
 congr 3
 apply decide_eq_decide.2
 omega
def pj:Spec:={ Ts:=[bS],Rs:=[.dat ty_I],pre:=fun (h:dj)=>ah .i64 (1+h.1)∧ah .i64 (1+h.1+h.2.1),F:=ak }
def jB:Prop :=
  ∀ (x:Int×Int×Int×Bool),ah .i64 x.1∧ah .i64 x.2.1∧ah .i64 x.2.2.1∧True→ah .i64 (1+x.1)∧ah .i64 (1+x.1+x.2.1)→ah .i64 (1+x.1)∧ah .i64 (1+x.1+x.2.1)∧1+x.1+x.2.1=ak x∧True
theorem nB:jB:=by
 unfold jB
 intro x h1 h2
 exact ⟨h2.1,h2.2,rfl,trivial⟩
theorem jF:pj.ok Try.prog 157:=aQ (ann:=eV) au Try.func157 (by kernel_rfl) nB
def nS:Spec:={ Ts:=[bS],Rs:=[.dat ty_I],pre:=fun _=>True,F:=ae }
def ik:Prop :=
  ∀ (x:Int×Int×Int×Bool),ah .i64 x.1∧ah .i64 x.2.1∧ah .i64 x.2.2.1∧True→True→((decide ((if x.2.2.1<if x.2.1<x.1 then x.2.1 else x.1 then x.2.2.1 else if x.2.1<x.1 then x.2.1 else x.1)<0)||decide (256<if x.1<x.2.1 then x.2.1 else x.1)||decide (65535<x.2.2.1))=true→4=ae x∧True)∧((decide ((if x.2.2.1<if x.2.1<x.1 then x.2.1 else x.1 then x.2.2.1 else if x.2.1<x.1 then x.2.1 else x.1)<0)||decide (256<if x.1<x.2.1 then x.2.1 else x.1)||decide (65535<x.2.2.1))=false→((x.2.2.2&&(decide (0<x.1)||decide (0<x.2.2.1)))=true→3=ae x∧True)∧((x.2.2.2&&(decide (0<x.1)||decide (0<x.2.2.1)))=false→(ah .i64 (1+x.1)∧ah .i64 (1+x.1+x.2.1))∧(decide (256<ak x)=true→2=ae x∧True)∧(decide (256<ak x)=false→0=ae x∧True)))
theorem lT:ik:=by
 unfold ik
 intro x h1 _
 grind [ah,ae,ak]
theorem im:nS.ok Try.prog 156:=aQ (ann:=eV) (af jF au) Try.func156 (by kernel_rfl) lT
def nR:Spec:={ Ts:=[bS],Rs:=[.dat ty_I,.dat ty_I],pre:=fun _=>True,F:=fun (h:dj)=>((if ae h=0 then ak h else 0,ae h):Int×Int) }
def ij:Prop :=
  ∀ (x:Int×Int×Int×Bool),ah .i64 x.1∧ah .i64 x.2.1∧ah .i64 x.2.2.1∧True→True→True∧(decide (ae x≠0)=true→((0:Int)=if ae x=0 then ak x else (0:Int))∧ae x=ae x∧True)∧(decide (ae x≠0)=false→(ah .i64 (1+x.1)∧ah .i64 (1+x.1+x.2.1))∧(ak x=if ae x=0 then ak x else (0:Int))∧0=ae x∧True)
theorem lS:ij:=by
 unfold ij
 intro x hw _
 refine ⟨trivial,fun h=>?_,fun h=>?_⟩
 ·have:ae x≠0:=by simpa using h
  simp [this]
 ·have h0:ae x=0:=by simpa using h
  obtain ⟨b1,b2,b3,b4,b5,_⟩:=cD h0
  simp only [ah,h0,if_true,and_true]
  omega
theorem ob:nR.ok Try.prog 120:=aQ (ann:=eV) (af im (af jF au)) Try.func120 (by kernel_rfl) lS
def pi:Spec:={ Ts:=[bZ],Rs:=[.dat bS,.dat ty_I],pre:=fun _=>True,F:=fun (v:Int)=>((if ag v then aj v else ai,if ag v then 0 else 3):dj×Int) }
def jA:Prop :=
  ∀ (x:Int),ah .u64 x→True→(0:Int)≤16∧16<(↑IntKind.u64.bits:Int)∧(0:Int)≤32∧32<(↑IntKind.u64.bits:Int)∧(0:Int)≤49∧49<(↑IntKind.u64.bits:Int)∧(decide (x / 2 ^ Int.toNat (49:Int)≠0)=false→True)∧((decide (x / 2 ^ Int.toNat (49:Int)≠0)||decide (ae (IntKind.i64.wrap (↑(x.toNat &&& Int.toNat 65535):Int),IntKind.i64.wrap (↑((x / 2 ^ Int.toNat 16).toNat &&& Int.toNat 65535):Int),IntKind.i64.wrap (↑((x / 2 ^ Int.toNat 32).toNat &&& Int.toNat 65535):Int),decide ((↑(x.toNat &&& Int.toNat 281474976710656):Int)≠0))≠0))=true→((0,0,0,false)=if ag x=true then aj x else ai)∧((3:Int)=if ag x=true then (0:Int) else (3:Int))∧True)∧((decide (x / 2 ^ Int.toNat (49:Int)≠0)||decide (ae (IntKind.i64.wrap (↑(x.toNat &&& Int.toNat 65535):Int),IntKind.i64.wrap (↑((x / 2 ^ Int.toNat 16).toNat &&& Int.toNat 65535):Int),IntKind.i64.wrap (↑((x / 2 ^ Int.toNat 32).toNat &&& Int.toNat 65535):Int),decide ((↑(x.toNat &&& Int.toNat 281474976710656):Int)≠0))≠0))=false→((IntKind.i64.wrap (↑(x.toNat &&& Int.toNat 65535):Int),IntKind.i64.wrap (↑((x / 2 ^ Int.toNat 16).toNat &&& Int.toNat 65535):Int),IntKind.i64.wrap (↑((x / 2 ^ Int.toNat 32).toNat &&& Int.toNat 65535):Int),decide ((↑(x.toNat &&& Int.toNat 281474976710656):Int)≠0))=if ag x=true then aj x else ai)∧((0:Int)=if ag x=true then (0:Int) else (3:Int))∧True)
theorem nA:jA:=by
 unfold jA
 intro x hw _
 have hx:0≤x:=hw.1
 rw [pP hx,show x / 2 ^ Int.toNat 49=x / 562949953421312 from rfl]
 refine ⟨by decide,by decide,by decide,by decide,by decide,by decide,fun _=>trivial,fun h=>?_,fun h=>?_⟩
 ·have:ag x=false:=by
   rcases Int.lt_or_le 1 (x / 281474976710656) with h1 | h1
   ·simp [ag,show ¬ x / 281474976710656≤1 by omega]
   ·rw [nk h1 hx] at h
    have e:x / 562949953421312=0:=by omega
    simp only [e,ne_eq,not_true_eq_false,decide_false,Bool.false_or,decide_eq_true_eq] at h
    simp [ag,h]
  simp [this,ai]
 ·have h1:x / 281474976710656≤1:=by
   have:x / 562949953421312=0:=by
    apply Classical.byContradiction
    intro hne
    simp [hne] at h
   omega
  rw [nk h1 hx] at h ⊢
  have:ag x=true:=by
   simp only [Bool.or_eq_false_iff,decide_eq_false_iff_not,ne_eq,Classical.not_not] at h
   simp [ag,h1,h.2]
  simp [this]
theorem pI:pi.ok Try.prog 171:=aQ (ann:=eV) (af im au) Try.func171 (by kernel_rfl) nA
def l7:Spec:={ Ts:=[bS],Rs:=[.dat ty_I],pre:=fun _=>True,F:=ae }
def gn:Prop :=
  ∀ (x:Int×Int×Int×Bool),ah .i64 x.1∧ah .i64 x.2.1∧ah .i64 x.2.2.1∧True→True→((decide (x.1<0)||decide (256<x.1)||decide (x.2.1<0)||decide (256<x.2.1)||decide (x.2.2.1<0)||decide (65535<x.2.2.1))=true→4=ae x∧True)∧((decide (x.1<0)||decide (256<x.1)||decide (x.2.1<0)||decide (256<x.2.1)||decide (x.2.2.1<0)||decide (65535<x.2.2.1))=false→((x.2.2.2&&(decide (x.1≠0)||decide (x.2.2.1≠0)))=true→3=ae x∧True)∧((x.2.2.2&&(decide (x.1≠0)||decide (x.2.2.1≠0)))=false→ah .i64 (1+x.1)∧ah .i64 (1+x.1+x.2.1)∧(decide ((256:Int)<1+x.1+x.2.1)=true→2=ae x∧True)∧(decide ((256:Int)<1+x.1+x.2.1)=false→0=ae x∧True)))
theorem km:gn:=by
 unfold gn
 intro x h1 _
 grind [ah,ae,ak]
theorem mh:l7.ok Try.prog 183:=aQ (ann:=eV) au Try.func183 (by kernel_rfl) km
def nQ:Spec:={ Ts:=[bS],Rs:=[.dat ty_I],pre:=fun (h:dj)=>ah .i64 (1+h.1)∧ah .i64 (1+h.1+h.2.1),F:=ak }
def ii:Prop :=
  ∀ (x:Int×Int×Int×Bool),ah .i64 x.1∧ah .i64 x.2.1∧ah .i64 x.2.2.1∧True→ah .i64 (1+x.1)∧ah .i64 (1+x.1+x.2.1)→ah .i64 (1+x.1)∧ah .i64 (1+x.1+x.2.1)∧1+x.1+x.2.1=ak x∧True
theorem lR:ii:=by
 unfold ii
 intro x h1 h2
 exact ⟨h2.1,h2.2,rfl,trivial⟩
theorem oa:nQ.ok Try.prog 58:=aQ (ann:=eV) au Try.func58 (by kernel_rfl) lR
def nP:Spec:={ Ts:=[bZ],Rs:=[.dat bS,.dat .bool],pre:=fun _=>True,F:=fun (v:Int)=>((if ag v then aj v else ai,ag v):dj×Bool) }
def ig:Prop :=
  ∀ (x:Int),ah .u64 x→True→0≤x∧(0:Int)<65536∧0≤x∧(0:Int)<65536∧0≤x / 65536∧(0:Int)<65536∧0≤x∧(0:Int)<65536∧0≤x / 65536∧(0:Int)<65536∧0≤x / 65536 / 65536∧(0:Int)<65536∧0≤x∧(0:Int)<65536∧0≤x / 65536∧(0:Int)<65536∧0≤x / 65536 / 65536∧(0:Int)<65536∧(decide (1<x / 65536 / 65536 / 65536)=false→True)∧((decide (1<x / 65536 / 65536 / 65536)||decide (ae (IntKind.i64.wrap (x % 65536),IntKind.i64.wrap (x / 65536 % 65536),IntKind.i64.wrap (x / 65536 / 65536 % 65536),decide (x / 65536 / 65536 / 65536=1))≠0))=true→((0,0,0,false)=if ag x=true then aj x else ai)∧false=ag x∧True)∧((decide (1<x / 65536 / 65536 / 65536)||decide (ae (IntKind.i64.wrap (x % 65536),IntKind.i64.wrap (x / 65536 % 65536),IntKind.i64.wrap (x / 65536 / 65536 % 65536),decide (x / 65536 / 65536 / 65536=1))≠0))=false→((IntKind.i64.wrap (x % 65536),IntKind.i64.wrap (x / 65536 % 65536),IntKind.i64.wrap (x / 65536 / 65536 % 65536),decide (x / 65536 / 65536 / 65536=1))=if ag x=true then aj x else ai)∧true=ag x∧True)
theorem lQ:ig:=by
 unfold ig
 intro x hw _
 have hx:0≤x:=hw.1
 have e1:x / 65536 / 65536=x / 4294967296:=by omega
 have e2:x / 4294967296 / 65536=x / 281474976710656:=by omega
 rw [e1,e2,fv (by omega) (by omega),fv (by omega) (by omega),fv (by omega) (by omega)]
 have e3:(x % 65536,x / 65536 % 65536,x / 4294967296 % 65536,decide (x / 281474976710656=1))=aj x:=by
  simp only [aj]
 rw [e3]
 refine ⟨by omega,by decide,by omega,by decide,by omega,by decide,by omega,by decide,by omega,by decide,by omega,by decide,by omega,by decide,by omega,by decide,by omega,by decide,fun _=>trivial,fun h=>?_,fun h=>?_⟩
 ·have:ag x=false:=by
   simp only [Bool.or_eq_true,decide_eq_true_eq] at h
   simp only [ag,Bool.and_eq_false_iff,decide_eq_false_iff_not,beq_eq_false_iff_ne]
   omega
  simp [this,ai]
 ·have:ag x=true:=by
   simp only [Bool.or_eq_false_iff,decide_eq_false_iff_not] at h
   simp only [ag,Bool.and_eq_true,decide_eq_true_eq,beq_iff_eq]
   omega
  simp [this]
theorem n9:nP.ok Try.prog 147:=aQ (ann:=eV) (af mh au) Try.func147 (by kernel_rfl) lQ
end Go.Proofs.Ytcnoiiohmpgckaa
