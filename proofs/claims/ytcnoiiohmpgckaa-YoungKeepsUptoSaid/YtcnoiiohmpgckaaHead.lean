
import Derived.Test.YtcnoiiohmpgckaaBase
namespace Go.Proofs.Ytcnoiiohmpgckaa
open Go
set_option maxRecDepth 100000
set_option maxHeartbeats 1000000
abbrev cg:=Int×Int×Int×Bool
def ah (h:cg):Int:=1+h.1+h.2.1
def ae (h:cg):Int :=
 if h.1<0∨256<h.1∨h.2.1<0∨256<h.2.1∨h.2.2.1<0∨65535<h.2.2.1 then 4
 else if h.2.2.2=true∧(h.1≠0∨h.2.2.1≠0) then 3
 else if 256<ah h then 2 else 0
def bh (h:cg):Int:=h.1+65536 * h.2.1+4294967296 * h.2.2.1+(if h.2.2.2 then 281474976710656 else 0)
def am (v:Int):cg:=(v % 65536,v / 65536 % 65536,v / 4294967296 % 65536,decide (v / 281474976710656=1))
def aj (v:Int):Bool:=v / 281474976710656≤1&&ae (am v) == 0
def an:cg:=(0,0,0,false)
theorem bj {h:cg} (h0:ae h=0):0≤h.1∧0≤h.2.1∧0≤h.2.2.1∧h.2.2.1≤65535∧1+h.1+h.2.1≤256∧(h.2.2.2=true→h.1=0∧h.2.2.1=0):=by
 grind [ae,ah]
theorem nX {h:cg} (h0:ae h=0) :
  (↑((IntKind.u64.wrap h.1).toNat ||| (IntKind.u64.wrap (IntKind.u64.wrap h.2.1 * 2 ^ Int.toNat 16)).toNat):Int)=h.1+65536 * h.2.1 ∧
  (↑((h.1+65536 * h.2.1).toNat ||| (IntKind.u64.wrap (IntKind.u64.wrap h.2.2.1 * 2 ^ Int.toNat 32)).toNat):Int)=h.1+65536 * h.2.1+4294967296 * h.2.2.1 ∧
  (↑((h.1+65536 * h.2.1+4294967296 * h.2.2.1).toNat ||| Int.toNat 281474976710656):Int)=h.1+65536 * h.2.1+4294967296 * h.2.2.1+281474976710656:=by
 obtain ⟨h1,h2,h3,h4,h5,_⟩:=bj h0
 rw [iJ h1 (by omega),iJ h2 (by omega),iJ h3 (by omega)]
 have e1:(h.2.1 * 2 ^ Int.toNat 16)=h.2.1 * 65536:=rfl
 have e2:(h.2.2.1 * 2 ^ Int.toNat 32)=h.2.2.1 * 4294967296:=rfl
 rw [e1,e2,iJ (by omega) (by omega),iJ (by omega) (by omega)]
 have k1:=qn (i:=16) h1 h2 (by omega)
 have k2:=qn (i:=32) (a:=h.1+65536 * h.2.1) (by omega) h3 (by omega)
 have k3:=qn (i:=48) (a:=h.1+65536 * h.2.1+4294967296 * h.2.2.1) (b:=1) (by omega) (by omega) (by omega)
 refine ⟨?_,?_,?_⟩
 ·rw [show h.2.1 * 65536=h.2.1 * 2 ^ 16 from rfl,k1]; omega
 ·rw [show h.2.2.1 * 4294967296=h.2.2.1 * 2 ^ 32 from rfl,k2]; omega
 ·rw [show Int.toNat 281474976710656=((1:Int) * 2 ^ 48).toNat from rfl,k3]; rfl
theorem rY {v:Int} (h0:0≤v) :
  (IntKind.i64.wrap ↑(v.toNat &&& Int.toNat 65535),IntKind.i64.wrap ↑((v / 2 ^ Int.toNat 16).toNat &&& Int.toNat 65535),IntKind.i64.wrap ↑((v / 2 ^ Int.toNat 32).toNat &&& Int.toNat 65535),
   decide (((v.toNat &&& Int.toNat 281474976710656:Nat):Int)≠0))=(v % 65536,v / 65536 % 65536,v / 4294967296 % 65536,decide (v / 281474976710656 % 2=1)):=by
 have e:Int.toNat 65535=2 ^ 16 - 1:=rfl
 have e2:Int.toNat 281474976710656=2 ^ 48:=rfl
 have e3:v / 2 ^ Int.toNat 16=v / 65536:=rfl
 have e4:v / 2 ^ Int.toNat 32=v / 4294967296:=rfl
 rw [e,e2,e3,e4,mI h0,mI (by omega),mI (by omega),wa h0]
 rw [show (2:Int) ^ 16=65536 from rfl,show (2:Int) ^ 48=281474976710656 from rfl]
 rw [iK (by omega) (by omega),iK (by omega) (by omega),iK (by omega) (by omega)]
 congr 3
 apply decide_eq_decide.2
 omega
theorem pb {v:Int} (h1:v / 281474976710656≤1) (h0:0≤v):(v % 65536,v / 65536 % 65536,v / 4294967296 % 65536,decide (v / 281474976710656 % 2=1))=am v:=by
 simp only [am]
 congr 3
 apply decide_eq_decide.2
 omega
def rq:Spec:={ Ts:=[bq],Rs:=[.dat ty_I],pre:=fun (h:cg)=>ai .i64 (1+h.1)∧ai .i64 (1+h.1+h.2.1),F:=ah }
def kQ:Prop :=
  ∀ (x:Int×Int×Int×Bool),ai .i64 x.1∧ai .i64 x.2.1∧ai .i64 x.2.2.1∧True→ai .i64 (1+x.1)∧ai .i64 (1+x.1+x.2.1)→ai .i64 (1+x.1)∧ai .i64 (1+x.1+x.2.1)∧1+x.1+x.2.1=ah x∧True
theorem px:kQ:=by
 unfold kQ
 intro x h1 h2
 exact ⟨h2.1,h2.2,rfl,trivial⟩
theorem kV:rq.ok Try.prog 157:=aQ (ann:=fE) ar Try.func157 (by kernel_rfl) px
def pU:Spec:={ Ts:=[bq],Rs:=[.dat ty_I],pre:=fun _=>True,F:=ae }
def jg:Prop :=
  ∀ (x:Int×Int×Int×Bool),ai .i64 x.1∧ai .i64 x.2.1∧ai .i64 x.2.2.1∧True→True→((decide ((if x.2.2.1<if x.2.1<x.1 then x.2.1 else x.1 then x.2.2.1 else if x.2.1<x.1 then x.2.1 else x.1)<0)||decide (256<if x.1<x.2.1 then x.2.1 else x.1)||decide (65535<x.2.2.1))=true→4=ae x∧True)∧((decide ((if x.2.2.1<if x.2.1<x.1 then x.2.1 else x.1 then x.2.2.1 else if x.2.1<x.1 then x.2.1 else x.1)<0)||decide (256<if x.1<x.2.1 then x.2.1 else x.1)||decide (65535<x.2.2.1))=false→((x.2.2.2&&(decide (0<x.1)||decide (0<x.2.2.1)))=true→3=ae x∧True)∧((x.2.2.2&&(decide (0<x.1)||decide (0<x.2.2.1)))=false→(ai .i64 (1+x.1)∧ai .i64 (1+x.1+x.2.1))∧(decide (256<ah x)=true→2=ae x∧True)∧(decide (256<ah x)=false→0=ae x∧True)))
theorem ny:jg:=by
 unfold jg
 intro x h1 _
 grind [ai,ae,ah]
theorem fK:pU.ok Try.prog 156:=aQ (ann:=fE) (af kV ar) Try.func156 (by kernel_rfl) ny
def ro:Spec:={ Ts:=[bq],Rs:=[.dat bB,.dat ty_I],pre:=fun _=>True,F:=fun (h:cg)=>((if ae h=0 then bh h else 0,ae h):Int×Int) }
def kO:Prop :=
  ∀ (x:Int×Int×Int×Bool),ai .i64 x.1∧ai .i64 x.2.1∧ai .i64 x.2.2.1∧True→True→True∧(decide (ae x≠0)=true→((0:Int)=if ae x=0 then bh x else (0:Int))∧ae x=ae x∧True)∧(decide (ae x≠0)=false→(0:Int)≤16∧16<(↑IntKind.u64.bits:Int)∧(0:Int)≤32∧32<(↑IntKind.u64.bits:Int)∧(x.2.2.2=true→((↑((↑((↑((IntKind.u64.wrap x.1).toNat ||| (IntKind.u64.wrap (IntKind.u64.wrap x.2.1 * 2 ^ Int.toNat 16)).toNat):Int).toNat ||| (IntKind.u64.wrap (IntKind.u64.wrap x.2.2.1 * 2 ^ Int.toNat 32)).toNat):Int).toNat ||| Int.toNat 281474976710656):Int)=if ae x=0 then bh x else (0:Int))∧0=ae x∧True)∧(x.2.2.2=false→((↑((↑((IntKind.u64.wrap x.1).toNat ||| (IntKind.u64.wrap (IntKind.u64.wrap x.2.1 * 2 ^ Int.toNat 16)).toNat):Int).toNat ||| (IntKind.u64.wrap (IntKind.u64.wrap x.2.2.1 * 2 ^ Int.toNat 32)).toNat):Int)=if ae x=0 then bh x else (0:Int))∧0=ae x∧True))
theorem pu:kO:=by
 unfold kO
 intro x hw _
 refine ⟨trivial,fun h=>?_,fun h=>?_⟩
 ·have:ae x≠0:=by simpa using h
  simp [this]
 ·have h0:ae x=0:=by simpa using h
  obtain ⟨b1,b2,b3⟩:=nX h0
  refine ⟨by decide,by decide,by decide,by decide,fun hf=>?_,fun hf=>?_⟩
  ·rw [b1,b2,b3,if_pos h0,h0]
   exact ⟨by simp [bh,hf],rfl,trivial⟩
  ·rw [b1,b2,if_pos h0,h0]
   exact ⟨by simp [bh,hf],rfl,trivial⟩
theorem rR:ro.ok Try.prog 122:=aQ (ann:=fE) (af fK ar) Try.func122 (by kernel_rfl) pu
def pT:Spec:={ Ts:=[bq],Rs:=[.dat ty_I,.dat ty_I],pre:=fun _=>True,F:=fun (h:cg)=>((if ae h=0 then ah h else 0,ae h):Int×Int) }
def jf:Prop :=
  ∀ (x:Int×Int×Int×Bool),ai .i64 x.1∧ai .i64 x.2.1∧ai .i64 x.2.2.1∧True→True→True∧(decide (ae x≠0)=true→((0:Int)=if ae x=0 then ah x else (0:Int))∧ae x=ae x∧True)∧(decide (ae x≠0)=false→(ai .i64 (1+x.1)∧ai .i64 (1+x.1+x.2.1))∧(ah x=if ae x=0 then ah x else (0:Int))∧0=ae x∧True)
theorem nw:jf:=by
 unfold jf
 intro x hw _
 refine ⟨trivial,fun h=>?_,fun h=>?_⟩
 ·have:ae x≠0:=by simpa using h
  simp [this]
 ·have h0:ae x=0:=by simpa using h
  obtain ⟨b1,b2,b3,b4,b5,_⟩:=bj h0
  simp only [ai,h0,if_true,and_true]
  omega
theorem jl:pT.ok Try.prog 120:=aQ (ann:=fE) (af fK (af kV ar)) Try.func120 (by kernel_rfl) nw
def rp:Spec:={ Ts:=[bB],Rs:=[.dat bq,.dat ty_I],pre:=fun _=>True,F:=fun (v:Int)=>((if aj v then am v else an,if aj v then 0 else 3):cg×Int) }
def kP:Prop :=
  ∀ (x:Int),ai .u64 x→True→(0:Int)≤16∧16<(↑IntKind.u64.bits:Int)∧(0:Int)≤32∧32<(↑IntKind.u64.bits:Int)∧(0:Int)≤49∧49<(↑IntKind.u64.bits:Int)∧(decide (x / 2 ^ Int.toNat (49:Int)≠0)=false→True)∧((decide (x / 2 ^ Int.toNat (49:Int)≠0)||decide (ae (IntKind.i64.wrap (↑(x.toNat &&& Int.toNat 65535):Int),IntKind.i64.wrap (↑((x / 2 ^ Int.toNat 16).toNat &&& Int.toNat 65535):Int),IntKind.i64.wrap (↑((x / 2 ^ Int.toNat 32).toNat &&& Int.toNat 65535):Int),decide ((↑(x.toNat &&& Int.toNat 281474976710656):Int)≠0))≠0))=true→((0,0,0,false)=if aj x=true then am x else an)∧((3:Int)=if aj x=true then (0:Int) else (3:Int))∧True)∧((decide (x / 2 ^ Int.toNat (49:Int)≠0)||decide (ae (IntKind.i64.wrap (↑(x.toNat &&& Int.toNat 65535):Int),IntKind.i64.wrap (↑((x / 2 ^ Int.toNat 16).toNat &&& Int.toNat 65535):Int),IntKind.i64.wrap (↑((x / 2 ^ Int.toNat 32).toNat &&& Int.toNat 65535):Int),decide ((↑(x.toNat &&& Int.toNat 281474976710656):Int)≠0))≠0))=false→((IntKind.i64.wrap (↑(x.toNat &&& Int.toNat 65535):Int),IntKind.i64.wrap (↑((x / 2 ^ Int.toNat 16).toNat &&& Int.toNat 65535):Int),IntKind.i64.wrap (↑((x / 2 ^ Int.toNat 32).toNat &&& Int.toNat 65535):Int),decide ((↑(x.toNat &&& Int.toNat 281474976710656):Int)≠0))=if aj x=true then am x else an)∧((0:Int)=if aj x=true then (0:Int) else (3:Int))∧True)
theorem pw:kP:=by
 unfold kP
 intro x hw _
 have hx:0≤x:=hw.1
 rw [rY hx,show x / 2 ^ Int.toNat 49=x / 562949953421312 from rfl]
 refine ⟨by decide,by decide,by decide,by decide,by decide,by decide,fun _=>trivial,fun h=>?_,fun h=>?_⟩
 ·have:aj x=false:=by
   rcases Int.lt_or_le 1 (x / 281474976710656) with h1 | h1
   ·simp [aj,show ¬ x / 281474976710656≤1 by omega]
   ·rw [pb h1 hx] at h
    have e:x / 562949953421312=0:=by omega
    simp only [e,ne_eq,not_true_eq_false,decide_false,Bool.false_or,decide_eq_true_eq] at h
    simp [aj,h]
  simp [this,an]
 ·have h1:x / 281474976710656≤1:=by
   have:x / 562949953421312=0:=by
    apply Classical.byContradiction
    intro hne
    simp [hne] at h
   omega
  rw [pb h1 hx] at h ⊢
  have:aj x=true:=by
   simp only [Bool.or_eq_false_iff,decide_eq_false_iff_not,ne_eq,Classical.not_not] at h
   simp [aj,h1,h.2]
  simp [this]
theorem rS:rp.ok Try.prog 171:=aQ (ann:=fE) (af fK ar) Try.func171 (by kernel_rfl) pw
def nH:Spec:={ Ts:=[bq],Rs:=[.dat ty_I],pre:=fun _=>True,F:=ae }
def gZ:Prop :=
  ∀ (x:Int×Int×Int×Bool),ai .i64 x.1∧ai .i64 x.2.1∧ai .i64 x.2.2.1∧True→True→((decide (x.1<0)||decide (256<x.1)||decide (x.2.1<0)||decide (256<x.2.1)||decide (x.2.2.1<0)||decide (65535<x.2.2.1))=true→4=ae x∧True)∧((decide (x.1<0)||decide (256<x.1)||decide (x.2.1<0)||decide (256<x.2.1)||decide (x.2.2.1<0)||decide (65535<x.2.2.1))=false→((x.2.2.2&&(decide (x.1≠0)||decide (x.2.2.1≠0)))=true→3=ae x∧True)∧((x.2.2.2&&(decide (x.1≠0)||decide (x.2.2.1≠0)))=false→ai .i64 (1+x.1)∧ai .i64 (1+x.1+x.2.1)∧(decide ((256:Int)<1+x.1+x.2.1)=true→2=ae x∧True)∧(decide ((256:Int)<1+x.1+x.2.1)=false→0=ae x∧True)))
theorem lR:gZ:=by
 unfold gZ
 intro x h1 _
 grind [ai,ae,ah]
theorem nR:nH.ok Try.prog 183:=aQ (ann:=fE) ar Try.func183 (by kernel_rfl) lR
def pR:Spec:={ Ts:=[bq],Rs:=[.dat ty_I],pre:=fun (h:cg)=>ai .i64 (1+h.1)∧ai .i64 (1+h.1+h.2.1),F:=ah }
def jd:Prop :=
  ∀ (x:Int×Int×Int×Bool),ai .i64 x.1∧ai .i64 x.2.1∧ai .i64 x.2.2.1∧True→ai .i64 (1+x.1)∧ai .i64 (1+x.1+x.2.1)→ai .i64 (1+x.1)∧ai .i64 (1+x.1+x.2.1)∧1+x.1+x.2.1=ah x∧True
theorem nu:jd:=by
 unfold jd
 intro x h1 h2
 exact ⟨h2.1,h2.2,rfl,trivial⟩
theorem jk:pR.ok Try.prog 58:=aQ (ann:=fE) ar Try.func58 (by kernel_rfl) nu
def pP:Spec:={ Ts:=[bq],Rs:=[.dat bB],pre:=fun (h:cg)=>ae h=0,F:=bh }
def jb:Prop :=
  ∀ (x:Int×Int×Int×Bool),ai .i64 x.1∧ai .i64 x.2.1∧ai .i64 x.2.2.1∧True→ae x=0→ai .u64 (65536 * IntKind.u64.wrap x.2.1)∧ai .u64 (IntKind.u64.wrap x.1+65536 * IntKind.u64.wrap x.2.1)∧ai .u64 (4294967296 * IntKind.u64.wrap x.2.2.1)∧ai .u64 (IntKind.u64.wrap x.1+65536 * IntKind.u64.wrap x.2.1+4294967296 * IntKind.u64.wrap x.2.2.1)∧(x.2.2.2=true→ai .u64 (IntKind.u64.wrap x.1+65536 * IntKind.u64.wrap x.2.1+4294967296 * IntKind.u64.wrap x.2.2.1+281474976710656)∧IntKind.u64.wrap x.1+65536 * IntKind.u64.wrap x.2.1+4294967296 * IntKind.u64.wrap x.2.2.1+281474976710656=bh x∧True)∧(x.2.2.2=false→IntKind.u64.wrap x.1+65536 * IntKind.u64.wrap x.2.1+4294967296 * IntKind.u64.wrap x.2.2.1=bh x∧True)
theorem nq:jb:=by
 unfold jb
 intro x h1 h0
 obtain ⟨b1,b2,b3,b4,b5,_⟩:=bj h0
 rw [iJ b1 (by omega),iJ b2 (by omega),iJ b3 (by omega)]
 simp only [ai]
 refine ⟨by omega,by omega,by omega,by omega,fun hf=>⟨by omega,?_,trivial⟩,fun hf=>⟨?_,trivial⟩⟩
 ·simp [bh,hf]
 ·simp [bh,hf]
theorem qh:pP.ok Try.prog 159:=aQ (ann:=fE) ar Try.func159 (by kernel_rfl) nq
def pS:Spec:={ Ts:=[ty_I],Rs:=[.dat bB],pre:=fun (n:Int)=>1≤n∧n≤256,F:=fun (n:Int)=>bh (0,n - 1,0,true) }
def je:Prop :=
  ∀ (x:Int),ai .i64 x→1≤x∧x≤256→ai .i64 (x - 1)∧ae (0,x - 1,0,true)=0∧bh (0,x - 1,0,true)=bh (0,x - 1,0,true)∧True
theorem nv:je:=by
 unfold je
 intro n hn ⟨h1,h2⟩
 have:ae (0,n - 1,0,true)=0:=by simp [ae,ah]; omega
 simp only [ai,this]
 refine ⟨?_,?_⟩ <;> first | omega | simp
theorem qj:pS.ok Try.prog 124:=aQ (ann:=fE) (af qh ar) Try.func124 (by kernel_rfl) nv
def pQ:Spec:={ Ts:=[bB],Rs:=[.dat bq,.dat .bool],pre:=fun _=>True,F:=fun (v:Int)=>((if aj v then am v else an,aj v):cg×Bool) }
def jc:Prop :=
  ∀ (x:Int),ai .u64 x→True→0≤x∧(0:Int)<65536∧0≤x∧(0:Int)<65536∧0≤x / 65536∧(0:Int)<65536∧0≤x∧(0:Int)<65536∧0≤x / 65536∧(0:Int)<65536∧0≤x / 65536 / 65536∧(0:Int)<65536∧0≤x∧(0:Int)<65536∧0≤x / 65536∧(0:Int)<65536∧0≤x / 65536 / 65536∧(0:Int)<65536∧(decide (1<x / 65536 / 65536 / 65536)=false→True)∧((decide (1<x / 65536 / 65536 / 65536)||decide (ae (IntKind.i64.wrap (x % 65536),IntKind.i64.wrap (x / 65536 % 65536),IntKind.i64.wrap (x / 65536 / 65536 % 65536),decide (x / 65536 / 65536 / 65536=1))≠0))=true→((0,0,0,false)=if aj x=true then am x else an)∧false=aj x∧True)∧((decide (1<x / 65536 / 65536 / 65536)||decide (ae (IntKind.i64.wrap (x % 65536),IntKind.i64.wrap (x / 65536 % 65536),IntKind.i64.wrap (x / 65536 / 65536 % 65536),decide (x / 65536 / 65536 / 65536=1))≠0))=false→((IntKind.i64.wrap (x % 65536),IntKind.i64.wrap (x / 65536 % 65536),IntKind.i64.wrap (x / 65536 / 65536 % 65536),decide (x / 65536 / 65536 / 65536=1))=if aj x=true then am x else an)∧true=aj x∧True)
theorem nr:jc:=by
 unfold jc
 intro x hw _
 have hx:0≤x:=hw.1
 have e1:x / 65536 / 65536=x / 4294967296:=by omega
 have e2:x / 4294967296 / 65536=x / 281474976710656:=by omega
 rw [e1,e2,iK (by omega) (by omega),iK (by omega) (by omega),iK (by omega) (by omega)]
 have e3:(x % 65536,x / 65536 % 65536,x / 4294967296 % 65536,decide (x / 281474976710656=1))=am x:=by
  simp only [am]
 rw [e3]
 refine ⟨by omega,by decide,by omega,by decide,by omega,by decide,by omega,by decide,by omega,by decide,by omega,by decide,by omega,by decide,by omega,by decide,by omega,by decide,fun _=>trivial,fun h=>?_,fun h=>?_⟩
 ·have:aj x=false:=by
   simp only [Bool.or_eq_true,decide_eq_true_eq] at h
   simp only [aj,Bool.and_eq_false_iff,decide_eq_false_iff_not,beq_eq_false_iff_ne]
   omega
  simp [this,an]
 ·have:aj x=true:=by
   simp only [Bool.or_eq_false_iff,decide_eq_false_iff_not] at h
   simp only [aj,Bool.and_eq_true,decide_eq_true_eq,beq_iff_eq]
   omega
  simp [this]
theorem qi:pQ.ok Try.prog 147:=aQ (ann:=fE) (af nR ar) Try.func147 (by kernel_rfl) nr
end Go.Proofs.Ytcnoiiohmpgckaa
