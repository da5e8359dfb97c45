
import Derived.Test.YtcnoiiohmpgckaaBase
namespace Go.Proofs.Ytcnoiiohmpgckaa
open Go
set_option maxRecDepth 100000
set_option maxHeartbeats 1000000
abbrev c6:=Int×Int×Int×Bool
def af (h:c6):Int:=1+h.1+h.2.1
def ai (h:c6):Int :=
 if h.1<0∨256<h.1∨h.2.1<0∨256<h.2.1∨h.2.2.1<0∨65535<h.2.2.1 then 4
 else if h.2.2.2=true∧(h.1≠0∨h.2.2.1≠0) then 3
 else if 256<af h then 2 else 0
def wk (h:c6):Int:=h.1+65536 * h.2.1+4294967296 * h.2.2.1+(if h.2.2.2 then 281474976710656 else 0)
def aq (v:Int):c6:=(v % 65536,v / 65536 % 65536,v / 4294967296 % 65536,decide (v / 281474976710656=1))
def an (v:Int):Bool:=v / 281474976710656≤1&&ai (aq v) == 0
def ar:c6:=(0,0,0,false)
theorem bP {h:c6} (h0:ai h=0):0≤h.1∧0≤h.2.1∧0≤h.2.2.1∧h.2.2.1≤65535∧1+h.1+h.2.1≤256∧(h.2.2.2=true→h.1=0∧h.2.2.1=0):=by
 grind [ai,af]
theorem rK {v:Int} (h0:0≤v) :
  (IntKind.i64.wrap ↑(v.toNat &&& Int.toNat 65535),IntKind.i64.wrap ↑((v / 2 ^ Int.toNat 16).toNat &&& Int.toNat 65535),IntKind.i64.wrap ↑((v / 2 ^ Int.toNat 32).toNat &&& Int.toNat 65535),
   decide (((v.toNat &&& Int.toNat 281474976710656:Nat):Int)≠0))=(v % 65536,v / 65536 % 65536,v / 4294967296 % 65536,decide (v / 281474976710656 % 2=1)):=by
 have e:Int.toNat 65535=2 ^ 16 - 1:=rfl
 have e2:Int.toNat 281474976710656=2 ^ 48:=rfl
 have e3:v / 2 ^ Int.toNat 16=v / 65536:=rfl
 have e4:v / 2 ^ Int.toNat 32=v / 4294967296:=rfl
 rw [e,e2,e3,e4,jm h0,jm (by omega),jm (by omega),wg h0]
 rw [show (2:Int) ^ 16=65536 from rfl,show (2:Int) ^ 48=281474976710656 from rfl]
 rw [gj (by omega) (by omega),gj (by omega) (by omega),gj (by omega) (by omega)]
 congr 3
 apply decide_eq_decide.2
 omega
theorem oV {v:Int} (h1:v / 281474976710656≤1) (h0:0≤v):(v % 65536,v / 65536 % 65536,v / 4294967296 % 65536,decide (v / 281474976710656 % 2=1))=aq v:=by
 simp only [aq]
 congr 3
 apply decide_eq_decide.2
 omega
def rc:Spec:={ Ts:=[cO],Rs:=[.dat ty_I],pre:=fun (h:c6)=>aj .i64 (1+h.1)∧aj .i64 (1+h.1+h.2.1),F:=af }
def kM:Prop :=
  ∀ (x:Int×Int×Int×Bool),aj .i64 x.1∧aj .i64 x.2.1∧aj .i64 x.2.2.1∧True→aj .i64 (1+x.1)∧aj .i64 (1+x.1+x.2.1)→aj .i64 (1+x.1)∧aj .i64 (1+x.1+x.2.1)∧1+x.1+x.2.1=af x∧True
theorem pk:kM:=by
 unfold kM
 intro x h1 h2
 exact ⟨h2.1,h2.2,rfl,trivial⟩
theorem kQ:rc.ok Try.prog 157:=bg (ann:=gr) aD Try.func157 (by kernel_rfl) pk
def pE:Spec:={ Ts:=[cO],Rs:=[.dat ty_I],pre:=fun _=>True,F:=ai }
def jd:Prop :=
  ∀ (x:Int×Int×Int×Bool),aj .i64 x.1∧aj .i64 x.2.1∧aj .i64 x.2.2.1∧True→True→((decide ((if x.2.2.1<if x.2.1<x.1 then x.2.1 else x.1 then x.2.2.1 else if x.2.1<x.1 then x.2.1 else x.1)<0)||decide (256<if x.1<x.2.1 then x.2.1 else x.1)||decide (65535<x.2.2.1))=true→4=ai x∧True)∧((decide ((if x.2.2.1<if x.2.1<x.1 then x.2.1 else x.1 then x.2.2.1 else if x.2.1<x.1 then x.2.1 else x.1)<0)||decide (256<if x.1<x.2.1 then x.2.1 else x.1)||decide (65535<x.2.2.1))=false→((x.2.2.2&&(decide (0<x.1)||decide (0<x.2.2.1)))=true→3=ai x∧True)∧((x.2.2.2&&(decide (0<x.1)||decide (0<x.2.2.1)))=false→(aj .i64 (1+x.1)∧aj .i64 (1+x.1+x.2.1))∧(decide (256<af x)=true→2=ai x∧True)∧(decide (256<af x)=false→0=ai x∧True)))
theorem nu:jd:=by
 unfold jd
 intro x h1 _
 grind [aj,ai,af]
theorem jf:pE.ok Try.prog 156:=bg (ann:=gr) (ak kQ aD) Try.func156 (by kernel_rfl) nu
def pD:Spec:={ Ts:=[cO],Rs:=[.dat ty_I,.dat ty_I],pre:=fun _=>True,F:=fun (h:c6)=>((if ai h=0 then af h else 0,ai h):Int×Int) }
def jc:Prop :=
  ∀ (x:Int×Int×Int×Bool),aj .i64 x.1∧aj .i64 x.2.1∧aj .i64 x.2.2.1∧True→True→True∧(decide (ai x≠0)=true→((0:Int)=if ai x=0 then af x else (0:Int))∧ai x=ai x∧True)∧(decide (ai x≠0)=false→(aj .i64 (1+x.1)∧aj .i64 (1+x.1+x.2.1))∧(af x=if ai x=0 then af x else (0:Int))∧0=ai x∧True)
theorem nt:jc:=by
 unfold jc
 intro x hw _
 refine ⟨trivial,fun h=>?_,fun h=>?_⟩
 ·have:ai x≠0:=by simpa using h
  simp [this]
 ·have h0:ai x=0:=by simpa using h
  obtain ⟨b1,b2,b3,b4,b5,_⟩:=bP h0
  simp only [aj,h0,if_true,and_true]
  omega
theorem fZ:pD.ok Try.prog 120:=bg (ann:=gr) (ak jf (ak kQ aD)) Try.func120 (by kernel_rfl) nt
def rb:Spec:={ Ts:=[aM],Rs:=[.dat cO,.dat ty_I],pre:=fun _=>True,F:=fun (v:Int)=>((if an v then aq v else ar,if an v then 0 else 3):c6×Int) }
def kL:Prop :=
  ∀ (x:Int),aj .u64 x→True→(0:Int)≤16∧16<(↑IntKind.u64.bits:Int)∧(0:Int)≤32∧32<(↑IntKind.u64.bits:Int)∧(0:Int)≤49∧49<(↑IntKind.u64.bits:Int)∧(decide (x / 2 ^ Int.toNat (49:Int)≠0)=false→True)∧((decide (x / 2 ^ Int.toNat (49:Int)≠0)||decide (ai (IntKind.i64.wrap (↑(x.toNat &&& Int.toNat 65535):Int),IntKind.i64.wrap (↑((x / 2 ^ Int.toNat 16).toNat &&& Int.toNat 65535):Int),IntKind.i64.wrap (↑((x / 2 ^ Int.toNat 32).toNat &&& Int.toNat 65535):Int),decide ((↑(x.toNat &&& Int.toNat 281474976710656):Int)≠0))≠0))=true→((0,0,0,false)=if an x=true then aq x else ar)∧((3:Int)=if an x=true then (0:Int) else (3:Int))∧True)∧((decide (x / 2 ^ Int.toNat (49:Int)≠0)||decide (ai (IntKind.i64.wrap (↑(x.toNat &&& Int.toNat 65535):Int),IntKind.i64.wrap (↑((x / 2 ^ Int.toNat 16).toNat &&& Int.toNat 65535):Int),IntKind.i64.wrap (↑((x / 2 ^ Int.toNat 32).toNat &&& Int.toNat 65535):Int),decide ((↑(x.toNat &&& Int.toNat 281474976710656):Int)≠0))≠0))=false→((IntKind.i64.wrap (↑(x.toNat &&& Int.toNat 65535):Int),IntKind.i64.wrap (↑((x / 2 ^ Int.toNat 16).toNat &&& Int.toNat 65535):Int),IntKind.i64.wrap (↑((x / 2 ^ Int.toNat 32).toNat &&& Int.toNat 65535):Int),decide ((↑(x.toNat &&& Int.toNat 281474976710656):Int)≠0))=if an x=true then aq x else ar)∧((0:Int)=if an x=true then (0:Int) else (3:Int))∧True)
theorem pj:kL:=by
 unfold kL
 intro x hw _
 have hx:0≤x:=hw.1
 rw [rK hx,show x / 2 ^ Int.toNat 49=x / 562949953421312 from rfl]
 refine ⟨by decide,by decide,by decide,by decide,by decide,by decide,fun _=>trivial,fun h=>?_,fun h=>?_⟩
 ·have:an x=false:=by
   rcases Int.lt_or_le 1 (x / 281474976710656) with h1 | h1
   ·simp [an,show ¬ x / 281474976710656≤1 by omega]
   ·rw [oV h1 hx] at h
    have e:x / 562949953421312=0:=by omega
    simp only [e,ne_eq,not_true_eq_false,decide_false,Bool.false_or,decide_eq_true_eq] at h
    simp [an,h]
  simp [this,ar]
 ·have h1:x / 281474976710656≤1:=by
   have:x / 562949953421312=0:=by
    apply Classical.byContradiction
    intro hne
    simp [hne] at h
   omega
  rw [oV h1 hx] at h ⊢
  have:an x=true:=by
   simp only [Bool.or_eq_false_iff,decide_eq_false_iff_not,ne_eq,Classical.not_not] at h
   simp [an,h1,h.2]
  simp [this]
theorem rE:rb.ok Try.prog 171:=bg (ann:=gr) (ak jf aD) Try.func171 (by kernel_rfl) pj
def nC:Spec:={ Ts:=[cO],Rs:=[.dat ty_I],pre:=fun _=>True,F:=ai }
def ij:Prop :=
  ∀ (x:Int×Int×Int×Bool),aj .i64 x.1∧aj .i64 x.2.1∧aj .i64 x.2.2.1∧True→True→((decide (x.1<0)||decide (256<x.1)||decide (x.2.1<0)||decide (256<x.2.1)||decide (x.2.2.1<0)||decide (65535<x.2.2.1))=true→4=ai x∧True)∧((decide (x.1<0)||decide (256<x.1)||decide (x.2.1<0)||decide (256<x.2.1)||decide (x.2.2.1<0)||decide (65535<x.2.2.1))=false→((x.2.2.2&&(decide (x.1≠0)||decide (x.2.2.1≠0)))=true→3=ai x∧True)∧((x.2.2.2&&(decide (x.1≠0)||decide (x.2.2.1≠0)))=false→aj .i64 (1+x.1)∧aj .i64 (1+x.1+x.2.1)∧(decide ((256:Int)<1+x.1+x.2.1)=true→2=ai x∧True)∧(decide ((256:Int)<1+x.1+x.2.1)=false→0=ai x∧True)))
theorem lH:ij:=by
 unfold ij
 intro x h1 _
 grind [aj,ai,af]
theorem nJ:nC.ok Try.prog 183:=bg (ann:=gr) aD Try.func183 (by kernel_rfl) lH
def pC:Spec:={ Ts:=[cO],Rs:=[.dat ty_I],pre:=fun (h:c6)=>aj .i64 (1+h.1)∧aj .i64 (1+h.1+h.2.1),F:=af }
def jb:Prop :=
  ∀ (x:Int×Int×Int×Bool),aj .i64 x.1∧aj .i64 x.2.1∧aj .i64 x.2.2.1∧True→aj .i64 (1+x.1)∧aj .i64 (1+x.1+x.2.1)→aj .i64 (1+x.1)∧aj .i64 (1+x.1+x.2.1)∧1+x.1+x.2.1=af x∧True
theorem nr:jb:=by
 unfold jb
 intro x h1 h2
 exact ⟨h2.1,h2.2,rfl,trivial⟩
theorem fX:pC.ok Try.prog 58:=bg (ann:=gr) aD Try.func58 (by kernel_rfl) nr
def pB:Spec:={ Ts:=[aM],Rs:=[.dat cO,.dat .bool],pre:=fun _=>True,F:=fun (v:Int)=>((if an v then aq v else ar,an v):c6×Bool) }
def ja:Prop :=
  ∀ (x:Int),aj .u64 x→True→0≤x∧(0:Int)<65536∧0≤x∧(0:Int)<65536∧0≤x / 65536∧(0:Int)<65536∧0≤x∧(0:Int)<65536∧0≤x / 65536∧(0:Int)<65536∧0≤x / 65536 / 65536∧(0:Int)<65536∧0≤x∧(0:Int)<65536∧0≤x / 65536∧(0:Int)<65536∧0≤x / 65536 / 65536∧(0:Int)<65536∧(decide (1<x / 65536 / 65536 / 65536)=false→True)∧((decide (1<x / 65536 / 65536 / 65536)||decide (ai (IntKind.i64.wrap (x % 65536),IntKind.i64.wrap (x / 65536 % 65536),IntKind.i64.wrap (x / 65536 / 65536 % 65536),decide (x / 65536 / 65536 / 65536=1))≠0))=true→((0,0,0,false)=if an x=true then aq x else ar)∧false=an x∧True)∧((decide (1<x / 65536 / 65536 / 65536)||decide (ai (IntKind.i64.wrap (x % 65536),IntKind.i64.wrap (x / 65536 % 65536),IntKind.i64.wrap (x / 65536 / 65536 % 65536),decide (x / 65536 / 65536 / 65536=1))≠0))=false→((IntKind.i64.wrap (x % 65536),IntKind.i64.wrap (x / 65536 % 65536),IntKind.i64.wrap (x / 65536 / 65536 % 65536),decide (x / 65536 / 65536 / 65536=1))=if an x=true then aq x else ar)∧true=an x∧True)
theorem nq:ja:=by
 unfold ja
 intro x hw _
 have hx:0≤x:=hw.1
 have e1:x / 65536 / 65536=x / 4294967296:=by omega
 have e2:x / 4294967296 / 65536=x / 281474976710656:=by omega
 rw [e1,e2,gj (by omega) (by omega),gj (by omega) (by omega),gj (by omega) (by omega)]
 have e3:(x % 65536,x / 65536 % 65536,x / 4294967296 % 65536,decide (x / 281474976710656=1))=aq x:=by
  simp only [aq]
 rw [e3]
 refine ⟨by omega,by decide,by omega,by decide,by omega,by decide,by omega,by decide,by omega,by decide,by omega,by decide,by omega,by decide,by omega,by decide,by omega,by decide,fun _=>trivial,fun h=>?_,fun h=>?_⟩
 ·have:an x=false:=by
   simp only [Bool.or_eq_true,decide_eq_true_eq] at h
   simp only [an,Bool.and_eq_false_iff,decide_eq_false_iff_not,beq_eq_false_iff_ne]
   omega
  simp [this,ar]
 ·have:an x=true:=by
   simp only [Bool.or_eq_false_iff,decide_eq_false_iff_not] at h
   simp only [an,Bool.and_eq_true,decide_eq_true_eq,beq_iff_eq]
   omega
  simp [this]
theorem pV:pB.ok Try.prog 147:=bg (ann:=gr) (ak nJ aD) Try.func147 (by kernel_rfl) nq
end Go.Proofs.Ytcnoiiohmpgckaa
