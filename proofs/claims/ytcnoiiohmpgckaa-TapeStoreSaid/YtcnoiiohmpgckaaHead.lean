
import Derived.Test.YtcnoiiohmpgckaaBase
namespace Go.Proofs.Ytcnoiiohmpgckaa
open Go
set_option maxRecDepth 100000
set_option maxHeartbeats 1000000
abbrev iu:=Int×Int×Int×Bool
def aj (h:iu):Int:=1+h.1+h.2.1
def ap (h:iu):Int :=
 if h.1<0∨256<h.1∨h.2.1<0∨256<h.2.1∨h.2.2.1<0∨65535<h.2.2.1 then 4
 else if h.2.2.2=true∧(h.1≠0∨h.2.2.1≠0) then 3
 else if 256<aj h then 2 else 0
def ep (h:iu):Int:=h.1+65536 * h.2.1+4294967296 * h.2.2.1+(if h.2.2.2 then 281474976710656 else 0)
def au (v:Int):iu:=(v % 65536,v / 65536 % 65536,v / 4294967296 % 65536,decide (v / 281474976710656=1))
def aq (v:Int):Bool:=v / 281474976710656≤1&&ap (au v) == 0
def ay:iu:=(0,0,0,false)
theorem bP {h:iu} (h0:ap h=0):0≤h.1∧0≤h.2.1∧0≤h.2.2.1∧h.2.2.1≤65535∧1+h.1+h.2.1≤256∧(h.2.2.2=true→h.1=0∧h.2.2.1=0):=by
 grind [ap,aj]
theorem wm {v:Int} (h0:0≤v) :
  (IntKind.i64.wrap ↑(v.toNat &&& Int.toNat 65535),IntKind.i64.wrap ↑((v / 2 ^ Int.toNat 16).toNat &&& Int.toNat 65535),IntKind.i64.wrap ↑((v / 2 ^ Int.toNat 32).toNat &&& Int.toNat 65535),
   decide (((v.toNat &&& Int.toNat 281474976710656:Nat):Int)≠0))=(v % 65536,v / 65536 % 65536,v / 4294967296 % 65536,decide (v / 281474976710656 % 2=1)):=by
 have e:Int.toNat 65535=2 ^ 16 - 1:=rfl
 have e2:Int.toNat 281474976710656=2 ^ 48:=rfl
 have e3:v / 2 ^ Int.toNat 16=v / 65536:=rfl
 have e4:v / 2 ^ Int.toNat 32=v / 4294967296:=rfl
 rw [e,e2,e3,e4,pP h0,pP (by omega),pP (by omega),AO h0]
 rw [show (2:Int) ^ 16=65536 from rfl,show (2:Int) ^ 48=281474976710656 from rfl]
 rw [eT (by omega) (by omega),eT (by omega) (by omega),eT (by omega) (by omega)]
 congr 3
 apply decide_eq_decide.2
 omega
theorem sL {v:Int} (h1:v / 281474976710656≤1) (h0:0≤v):(v % 65536,v / 65536 % 65536,v / 4294967296 % 65536,decide (v / 281474976710656 % 2=1))=au v:=by
 simp only [au]
 congr 3
 apply decide_eq_decide.2
 omega
def vw:Spec:={ Ts:=[eP],Rs:=[.dat ty_I],pre:=fun (h:iu)=>am .i64 (1+h.1)∧am .i64 (1+h.1+h.2.1),F:=aj }
def no:Prop :=
  ∀ (x:Int×Int×Int×Bool),am .i64 x.1∧am .i64 x.2.1∧am .i64 x.2.2.1∧True→am .i64 (1+x.1)∧am .i64 (1+x.1+x.2.1)→am .i64 (1+x.1)∧am .i64 (1+x.1+x.2.1)∧1+x.1+x.2.1=aj x∧True
theorem s7:no:=by
 unfold no
 intro x h1 h2
 exact ⟨h2.1,h2.2,rfl,trivial⟩
theorem nt:vw.ok Try.prog 157:=aQ (ann:=ew) ax Try.func157 (by kernel_rfl) s7
def tB:Spec:={ Ts:=[eP],Rs:=[.dat ty_I],pre:=fun _=>True,F:=ap }
def lm:Prop :=
  ∀ (x:Int×Int×Int×Bool),am .i64 x.1∧am .i64 x.2.1∧am .i64 x.2.2.1∧True→True→((decide ((if x.2.2.1<if x.2.1<x.1 then x.2.1 else x.1 then x.2.2.1 else if x.2.1<x.1 then x.2.1 else x.1)<0)||decide (256<if x.1<x.2.1 then x.2.1 else x.1)||decide (65535<x.2.2.1))=true→4=ap x∧True)∧((decide ((if x.2.2.1<if x.2.1<x.1 then x.2.1 else x.1 then x.2.2.1 else if x.2.1<x.1 then x.2.1 else x.1)<0)||decide (256<if x.1<x.2.1 then x.2.1 else x.1)||decide (65535<x.2.2.1))=false→((x.2.2.2&&(decide (0<x.1)||decide (0<x.2.2.1)))=true→3=ap x∧True)∧((x.2.2.2&&(decide (0<x.1)||decide (0<x.2.2.1)))=false→(am .i64 (1+x.1)∧am .i64 (1+x.1+x.2.1))∧(decide (256<aj x)=true→2=ap x∧True)∧(decide (256<aj x)=false→0=ap x∧True)))
theorem qJ:lm:=by
 unfold lm
 intro x h1 _
 grind [am,ap,aj]
theorem ly:tB.ok Try.prog 156:=aQ (ann:=ew) (ai nt ax) Try.func156 (by kernel_rfl) qJ
def tA:Spec:={ Ts:=[eP],Rs:=[.dat ty_I,.dat ty_I],pre:=fun _=>True,F:=fun (h:iu)=>((if ap h=0 then aj h else 0,ap h):Int×Int) }
def ll:Prop :=
  ∀ (x:Int×Int×Int×Bool),am .i64 x.1∧am .i64 x.2.1∧am .i64 x.2.2.1∧True→True→True∧(decide (ap x≠0)=true→((0:Int)=if ap x=0 then aj x else (0:Int))∧ap x=ap x∧True)∧(decide (ap x≠0)=false→(am .i64 (1+x.1)∧am .i64 (1+x.1+x.2.1))∧(aj x=if ap x=0 then aj x else (0:Int))∧0=ap x∧True)
theorem qI:ll:=by
 unfold ll
 intro x hw _
 refine ⟨trivial,fun h=>?_,fun h=>?_⟩
 ·have:ap x≠0:=by simpa using h
  simp [this]
 ·have h0:ap x=0:=by simpa using h
  obtain ⟨b1,b2,b3,b4,b5,_⟩:=bP h0
  simp only [am,h0,if_true,and_true]
  omega
theorem t8:tA.ok Try.prog 120:=aQ (ann:=ew) (ai ly (ai nt ax)) Try.func120 (by kernel_rfl) qI
def vv:Spec:={ Ts:=[bv],Rs:=[.dat eP,.dat ty_I],pre:=fun _=>True,F:=fun (v:Int)=>((if aq v then au v else ay,if aq v then 0 else 3):iu×Int) }
def nn:Prop :=
  ∀ (x:Int),am .u64 x→True→(0:Int)≤16∧16<(↑IntKind.u64.bits:Int)∧(0:Int)≤32∧32<(↑IntKind.u64.bits:Int)∧(0:Int)≤49∧49<(↑IntKind.u64.bits:Int)∧(decide (x / 2 ^ Int.toNat (49:Int)≠0)=false→True)∧((decide (x / 2 ^ Int.toNat (49:Int)≠0)||decide (ap (IntKind.i64.wrap (↑(x.toNat &&& Int.toNat 65535):Int),IntKind.i64.wrap (↑((x / 2 ^ Int.toNat 16).toNat &&& Int.toNat 65535):Int),IntKind.i64.wrap (↑((x / 2 ^ Int.toNat 32).toNat &&& Int.toNat 65535):Int),decide ((↑(x.toNat &&& Int.toNat 281474976710656):Int)≠0))≠0))=true→((0,0,0,false)=if aq x=true then au x else ay)∧((3:Int)=if aq x=true then (0:Int) else (3:Int))∧True)∧((decide (x / 2 ^ Int.toNat (49:Int)≠0)||decide (ap (IntKind.i64.wrap (↑(x.toNat &&& Int.toNat 65535):Int),IntKind.i64.wrap (↑((x / 2 ^ Int.toNat 16).toNat &&& Int.toNat 65535):Int),IntKind.i64.wrap (↑((x / 2 ^ Int.toNat 32).toNat &&& Int.toNat 65535):Int),decide ((↑(x.toNat &&& Int.toNat 281474976710656):Int)≠0))≠0))=false→((IntKind.i64.wrap (↑(x.toNat &&& Int.toNat 65535):Int),IntKind.i64.wrap (↑((x / 2 ^ Int.toNat 16).toNat &&& Int.toNat 65535):Int),IntKind.i64.wrap (↑((x / 2 ^ Int.toNat 32).toNat &&& Int.toNat 65535):Int),decide ((↑(x.toNat &&& Int.toNat 281474976710656):Int)≠0))=if aq x=true then au x else ay)∧((0:Int)=if aq x=true then (0:Int) else (3:Int))∧True)
theorem s6:nn:=by
 unfold nn
 intro x hw _
 have hx:0≤x:=hw.1
 rw [wm hx,show x / 2 ^ Int.toNat 49=x / 562949953421312 from rfl]
 refine ⟨by decide,by decide,by decide,by decide,by decide,by decide,fun _=>trivial,fun h=>?_,fun h=>?_⟩
 ·have:aq x=false:=by
   rcases Int.lt_or_le 1 (x / 281474976710656) with h1 | h1
   ·simp [aq,show ¬ x / 281474976710656≤1 by omega]
   ·rw [sL h1 hx] at h
    have e:x / 562949953421312=0:=by omega
    simp only [e,ne_eq,not_true_eq_false,decide_false,Bool.false_or,decide_eq_true_eq] at h
    simp [aq,h]
  simp [this,ay]
 ·have h1:x / 281474976710656≤1:=by
   have:x / 562949953421312=0:=by
    apply Classical.byContradiction
    intro hne
    simp [hne] at h
   omega
  rw [sL h1 hx] at h ⊢
  have:aq x=true:=by
   simp only [Bool.or_eq_false_iff,decide_eq_false_iff_not,ne_eq,Classical.not_not] at h
   simp [aq,h1,h.2]
  simp [this]
theorem v7:vv.ok Try.prog 171:=aQ (ann:=ew) (ai ly ax) Try.func171 (by kernel_rfl) s6
def q8:Spec:={ Ts:=[eP],Rs:=[.dat ty_I],pre:=fun _=>True,F:=ap }
def jN:Prop :=
  ∀ (x:Int×Int×Int×Bool),am .i64 x.1∧am .i64 x.2.1∧am .i64 x.2.2.1∧True→True→((decide (x.1<0)||decide (256<x.1)||decide (x.2.1<0)||decide (256<x.2.1)||decide (x.2.2.1<0)||decide (65535<x.2.2.1))=true→4=ap x∧True)∧((decide (x.1<0)||decide (256<x.1)||decide (x.2.1<0)||decide (256<x.2.1)||decide (x.2.2.1<0)||decide (65535<x.2.2.1))=false→((x.2.2.2&&(decide (x.1≠0)||decide (x.2.2.1≠0)))=true→3=ap x∧True)∧((x.2.2.2&&(decide (x.1≠0)||decide (x.2.2.1≠0)))=false→am .i64 (1+x.1)∧am .i64 (1+x.1+x.2.1)∧(decide ((256:Int)<1+x.1+x.2.1)=true→2=ap x∧True)∧(decide ((256:Int)<1+x.1+x.2.1)=false→0=ap x∧True)))
theorem oF:jN:=by
 unfold jN
 intro x h1 _
 grind [am,ap,aj]
theorem ro:q8.ok Try.prog 183:=aQ (ann:=ew) ax Try.func183 (by kernel_rfl) oF
def tx:Spec:={ Ts:=[eP],Rs:=[.dat ty_I],pre:=fun (h:iu)=>am .i64 (1+h.1)∧am .i64 (1+h.1+h.2.1),F:=aj }
def li:Prop :=
  ∀ (x:Int×Int×Int×Bool),am .i64 x.1∧am .i64 x.2.1∧am .i64 x.2.2.1∧True→am .i64 (1+x.1)∧am .i64 (1+x.1+x.2.1)→am .i64 (1+x.1)∧am .i64 (1+x.1+x.2.1)∧1+x.1+x.2.1=aj x∧True
theorem qG:li:=by
 unfold li
 intro x h1 h2
 exact ⟨h2.1,h2.2,rfl,trivial⟩
theorem t6:tx.ok Try.prog 58:=aQ (ann:=ew) ax Try.func58 (by kernel_rfl) qG
def tw:Spec:={ Ts:=[bv],Rs:=[.dat eP,.dat .bool],pre:=fun _=>True,F:=fun (v:Int)=>((if aq v then au v else ay,aq v):iu×Bool) }
def lf:Prop :=
  ∀ (x:Int),am .u64 x→True→0≤x∧(0:Int)<65536∧0≤x∧(0:Int)<65536∧0≤x / 65536∧(0:Int)<65536∧0≤x∧(0:Int)<65536∧0≤x / 65536∧(0:Int)<65536∧0≤x / 65536 / 65536∧(0:Int)<65536∧0≤x∧(0:Int)<65536∧0≤x / 65536∧(0:Int)<65536∧0≤x / 65536 / 65536∧(0:Int)<65536∧(decide (1<x / 65536 / 65536 / 65536)=false→True)∧((decide (1<x / 65536 / 65536 / 65536)||decide (ap (IntKind.i64.wrap (x % 65536),IntKind.i64.wrap (x / 65536 % 65536),IntKind.i64.wrap (x / 65536 / 65536 % 65536),decide (x / 65536 / 65536 / 65536=1))≠0))=true→((0,0,0,false)=if aq x=true then au x else ay)∧false=aq x∧True)∧((decide (1<x / 65536 / 65536 / 65536)||decide (ap (IntKind.i64.wrap (x % 65536),IntKind.i64.wrap (x / 65536 % 65536),IntKind.i64.wrap (x / 65536 / 65536 % 65536),decide (x / 65536 / 65536 / 65536=1))≠0))=false→((IntKind.i64.wrap (x % 65536),IntKind.i64.wrap (x / 65536 % 65536),IntKind.i64.wrap (x / 65536 / 65536 % 65536),decide (x / 65536 / 65536 / 65536=1))=if aq x=true then au x else ay)∧true=aq x∧True)
theorem qF:lf:=by
 unfold lf
 intro x hw _
 have hx:0≤x:=hw.1
 have e1:x / 65536 / 65536=x / 4294967296:=by omega
 have e2:x / 4294967296 / 65536=x / 281474976710656:=by omega
 rw [e1,e2,eT (by omega) (by omega),eT (by omega) (by omega),eT (by omega) (by omega)]
 have e3:(x % 65536,x / 65536 % 65536,x / 4294967296 % 65536,decide (x / 281474976710656=1))=au x:=by
  simp only [au]
 rw [e3]
 refine ⟨by omega,by decide,by omega,by decide,by omega,by decide,by omega,by decide,by omega,by decide,by omega,by decide,by omega,by decide,by omega,by decide,by omega,by decide,fun _=>trivial,fun h=>?_,fun h=>?_⟩
 ·have:aq x=false:=by
   simp only [Bool.or_eq_true,decide_eq_true_eq] at h
   simp only [aq,Bool.and_eq_false_iff,decide_eq_false_iff_not,beq_eq_false_iff_ne]
   omega
  simp [this,ay]
 ·have:aq x=true:=by
   simp only [Bool.or_eq_false_iff,decide_eq_false_iff_not] at h
   simp only [aq,Bool.and_eq_true,decide_eq_true_eq,beq_iff_eq]
   omega
  simp [this]
theorem tZ:tw.ok Try.prog 147:=aQ (ann:=ew) (ai ro ax) Try.func147 (by kernel_rfl) qF
end Go.Proofs.Ytcnoiiohmpgckaa
