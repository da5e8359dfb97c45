
import Derived.Test.YtcnoiiohmpgckaaDoorSpotPure
import Derived.Test.YtcnoiiohmpgckaaDoorTz
import Derived.Test.YtcnoiiohmpgckaaDoorWords
namespace Go.Proofs.YtcnoiiohmpgckaaDoor
open Go
set_option maxRecDepth 100000
set_option maxHeartbeats 1000000
theorem gI {m:List Int} (h:∀ x∈m,ao .u64 x):lZ m:=fun x hx=>by
 have:=h x hx
 simp only [ao] at this
 omega
theorem pf (m:List Int) (n:Int):ae m n=0∨ae m n=3∨ae m n=4:=by
 unfold ae
 split
 ·simp
 ·split
  ·simp
  ·split <;> simp
theorem nD (m:List Int) {n a b:Int} (on:Bool) (h1:a≤b) (h2:b≤n) (h3:∀ j,a≤j→j<b→aa m j=!on):af m n a on=af m n b on:=by
 obtain ⟨g1,g2,g3,g4⟩:=dk m (n:=n) (at_:=b) on h2
 refine fY m on (by omega) g2 (fun j j1 j2=>?_) g4
 by_cases e:j<b
 ·exact h3 j j1 e
 ·exact g3 j (by omega) j2
abbrev dB:Ty:=.pair ar ar
abbrev eT:=Int×Int
def np:Spec:={ Ts:=[.arr bT,ar],Rs:=[.dat .bool],pre:=fun ((m,k):List Int×Int)=>0≤k∧k / 64<m.length,F:=fun ((m,k):List Int×Int)=>aa m k }
def n8:Nat→Option LoopGen
 | 3=>some { rd:=[.dat 0 (.arr bT),.dat 1 ar],A:=fun ((m,k):List Int×Int)=>{ cs:=[.dat 5 bT,.dat 13 ar],inv:=fun ((v,i):Int×Int)=>0≤i∧i≤k % 64∧v=m.getD (k / 64).toNat 0 / 2 ^ i.toNat,mu:=fun ((_,i):Int×Int)=>(k % 64 - i).toNat } }
 | _=>none
def i5:Prop :=
  ∀ (x:List Int×Int),(x.1.length * 8≤bb∧∀ (x_1:Int),x_1∈x.1→ao .u64 x_1)∧ao .i64 x.2→0≤x.2∧x.2 / 64<(↑x.1.length:Int)→0≤x.2∧(0:Int)<64∧0≤x.2 / 64∧x.2 / 64<(↑x.1.length:Int)∧0≤x.2∧(0:Int)<64∧((0:Int)≤0∧0≤x.2 % 64∧x.1.getD (x.2 / 64).toNat 0=x.1.getD (x.2 / 64).toNat 0 / 2 ^ Int.toNat 0)∧∀ (x_1:Int×Int),0≤x_1.2∧x_1.2≤x.2 % 64∧x_1.1=x.1.getD (x.2 / 64).toNat 0 / 2 ^ x_1.2.toNat→(decide (x_1.2<x.2 % 64)=true→0≤x_1.1∧(0:Int)<2∧ao .i64 (x_1.2+1)∧(0≤x_1.2+1∧x_1.2+1≤x.2 % 64∧x_1.1 / 2=x.1.getD (x.2 / 64).toNat 0 / 2 ^ (x_1.2+1).toNat)∧(x.2 % 64 - (x_1.2+1)).toNat<(x.2 % 64 - x_1.2).toNat)∧(decide (x_1.2<x.2 % 64)=false→0≤x_1.1∧(0:Int)<2∧decide (x_1.1 % 2=1)=aa x.1 x.2∧True)
theorem ma:i5:=by
 unfold i5
 intro ⟨m,k⟩ ⟨⟨_,hw⟩,_⟩ ⟨h0,h1⟩
 have hx:=cA (gI hw) (k / 64).toNat
 simp only [ao] at h0 h1 ⊢
 refine ⟨h0,by omega,by omega,h1,h0,by omega,⟨by omega,by omega,by simp⟩,fun ⟨v,i⟩ ⟨i0,i1,e⟩=>⟨fun hlt=>?_,fun hge=>?_⟩⟩
 ·have hlt:i<k % 64:=of_decide_eq_true hlt
  simp only at i0 i1 e ⊢
  subst e
  refine ⟨cT hx.1 _,by omega,by omega,⟨by omega,by omega,?_⟩,by omega⟩
  rw [qz,show (i+1).toNat=i.toNat+1 by omega]
 ·have hge:¬ i<k % 64:=of_decide_eq_false hge
  simp only at i0 i1 e ⊢
  subst e
  refine ⟨cT hx.1 _,by omega,?_,trivial⟩
  rw [oM hx.1,show i=k % 64 by omega]
  rfl
theorem d6:np.ok Tryd.prog 14:=ce (ann:=n8) aI Tryd.func14 (by kernel_rfl) ma
def iO:Spec:={ Ts:=[.arr bT,ar],Rs:=[.dat ar],pre:=fun _=>True,F:=fun ((m,n):List Int×Int)=>ae m n }
def jJ:Nat→Option LoopGen
 | 4=>some { rd:=[.dat 1 ar],A:=fun (n:Int)=>{ cs:=[.dat 5 ar],inv:=fun (q:Int)=>0≤q∧(q=0∨64 * (q - 1)<n),mu:=fun (q:Int)=>(n - 64 * q).toNat } }
 | 9=>some { rd:=[.dat 0 (.arr bT),.dat 1 ar,.dat 5 ar],A:=fun ((m,n,q):List Int×Int×Int)=>{ cs:=[.dat 6 ar],inv:=fun (k:Int)=>n≤k∧k≤max n (64 * q)∧∀ j,n≤j→j<k→aa m j=false,mu:=fun (k:Int)=>(64 * q - k).toNat } }
 | _=>none
def eG:Prop :=
  ∀ (x:List Int×Int),(x.1.length * 8≤bb∧∀ (x_1:Int),x_1∈x.1→ao .u64 x_1)∧ao .i64 x.2→True→((decide (x.2<0)||decide (256<x.2))=true→4=ae x.1 x.2∧True)∧((decide (x.2<0)||decide (256<x.2))=false→((0:Int)≤0∧((0:Int)=0∨64 * (0 - 1)<x.2))∧∀ (x_1:Int),0≤x_1∧(x_1=0∨64 * (x_1 - 1)<x.2)→ao .i64 (64 * x_1)∧(decide (64 * x_1<x.2)=true→ao .i64 (x_1+1)∧(0≤x_1+1∧(x_1+1=0∨64 * (x_1+1 - 1)<x.2))∧(x.2 - 64 * (x_1+1)).toNat<(x.2 - 64 * x_1).toNat)∧(decide (64 * x_1<x.2)=false→(decide ((↑x.1.length:Int)≠x_1)=true→3=ae x.1 x.2∧True)∧(decide ((↑x.1.length:Int)≠x_1)=false→(x.2≤x.2∧x.2≤max x.2 (64 * x_1)∧∀ (j:Int),x.2≤j→j<x.2→aa x.1 j=false)∧∀ (x_2:Int),(x.2≤x_2∧x_2≤max x.2 (64 * x_1)∧∀ (j:Int),x.2≤j→j<x_2→aa x.1 j=false)→ao .i64 (64 * x_1)∧(decide (x_2<64 * x_1)=true→(0≤x_2∧x_2 / 64<(↑x.1.length:Int))∧(aa x.1 x_2=true→3=ae x.1 x.2∧True)∧(aa x.1 x_2=false→ao .i64 (x_2+1)∧(x.2≤x_2+1∧x_2+1≤max x.2 (64 * x_1)∧∀ (j:Int),x.2≤j→j<x_2+1→aa x.1 j=false)∧(64 * x_1 - (x_2+1)).toNat<(64 * x_1 - x_2).toNat))∧(decide (x_2<64 * x_1)=false→0=ae x.1 x.2∧True))))
theorem im:eG:=by
 unfold eG
 intro ⟨m,n⟩ ⟨⟨_,hw⟩,hn⟩ _
 have hw:lZ m:=gI hw
 simp only [ao] at hn ⊢
 refine ⟨fun hc=>?_,fun hc=>?_⟩
 ·simp only [Bool.or_eq_true,decide_eq_true_eq] at hc
  unfold ae
  rw [if_pos hc]
  exact ⟨rfl,trivial⟩
 simp only [Bool.or_eq_false_iff,decide_eq_false_iff_not] at hc
 refine ⟨⟨by omega,Or.inl (by simp)⟩,fun q ⟨q0,q1⟩=>⟨by omega,fun hlt=>?_,fun hge=>?_⟩⟩
 ·have hlt:=of_decide_eq_true hlt
  exact ⟨by omega,⟨by omega,.inr (by omega)⟩,by omega⟩
 have hge:=of_decide_eq_false hge
 have eq:q=(n+63) / 64:=by omega
 refine ⟨fun hl=>?_,fun hl=>?_⟩
 ·have hl:=of_decide_eq_true hl
  unfold ae
  rw [if_neg (by omega),if_pos (by omega)]
  exact ⟨rfl,trivial⟩
 have hl:(m.length:Int)=q:=by simpa using of_decide_eq_false hl
 refine ⟨⟨by omega,by omega,fun j j1 j2=>by omega⟩,fun k ⟨k0,k1,k2⟩=>⟨by omega,fun hlt=>?_,fun hge=>?_⟩⟩
 ·have hlt:=of_decide_eq_true hlt
  refine ⟨⟨by omega,by omega⟩,fun hb=>?_,fun hb=>⟨by omega,⟨by omega,by omega,fun j j1 j2=>?_⟩,by omega⟩⟩
  ·rw [pe (n:=n) hw (k:=k) (by omega) (by omega) (by omega) k0 (by omega) hb]
   exact ⟨rfl,trivial⟩
  ·by_cases e:j=k
   ·rw [e]; exact hb
   ·exact k2 j j1 (by omega)
 ·have hge:=of_decide_eq_false hge
  rw [nF (n:=n) hw (by omega) (by omega) (by omega) (fun k h1 h2=>k2 k h1 (by omega))]
  exact ⟨rfl,trivial⟩
theorem jb:iO.ok Tryd.prog 9:=ce (ann:=jJ) (am d6 aI) Tryd.func9 (by kernel_rfl) im
def lc:Spec:={ Ts:=[.arr bT,ar],Rs:=[.dat ar],pre:=fun _=>True,F:=fun ((m,n):List Int×Int)=>ae m n }
def fX:Prop :=
  ∀ (x:List Int×Int),(x.1.length * 8≤bb∧∀ (x_1:Int),x_1∈x.1→ao .u64 x_1)∧ao .i64 x.2→True→((decide (x.2<0)||decide (256<x.2))=true→4=ae x.1 x.2∧True)∧((decide (x.2<0)||decide (256<x.2))=false→ao .i64 (x.2+63)∧0≤x.2+63∧(0:Int)<64∧(decide ((↑x.1.length:Int)≠(x.2+63) / 64)=true→3=ae x.1 x.2∧True)∧(decide ((↑x.1.length:Int)≠(x.2+63) / 64)=false→0≤x.2∧(0:Int)<64∧(decide (x.2 % 64≠0)=true→ao .i64 ((↑x.1.length:Int) - 1))∧(decide (x.2 % 64≠0)=true→0≤(↑x.1.length:Int) - 1)∧(decide (x.2 % 64≠0)=true→(↑x.1.length:Int) - 1<(↑x.1.length:Int))∧(decide (x.2 % 64≠0)=true→0≤x.2)∧(decide (x.2 % 64≠0)=true→(0:Int)<64)∧(decide (x.2 % 64≠0)=true→0≤x.2 % 64)∧(decide (x.2 % 64≠0)=true→x.2 % 64<(↑IntKind.u64.bits:Int))∧((decide (x.2 % 64≠0)&&decide (x.1.getD ((↑x.1.length:Int) - 1).toNat 0 / 2 ^ (x.2 % 64).toNat≠0))=true→3=ae x.1 x.2∧True)∧((decide (x.2 % 64≠0)&&decide (x.1.getD ((↑x.1.length:Int) - 1).toNat 0 / 2 ^ (x.2 % 64).toNat≠0))=false→0=ae x.1 x.2∧True)))
theorem jP:fX:=by
 unfold fX
 intro ⟨m,n⟩ ⟨⟨hb,hw⟩,hn⟩ _
 simp only [ao,bb,oQ] at hn hb ⊢
 refine ⟨fun hc=>?_,fun hc=>?_⟩
 ·simp only [Bool.or_eq_true,decide_eq_true_eq] at hc
  unfold ae
  rw [if_pos hc]
  exact ⟨rfl,trivial⟩
 simp only [Bool.or_eq_false_iff,decide_eq_false_iff_not] at hc
 refine ⟨by omega,by omega,by omega,fun hl=>?_,fun hl=>?_⟩
 ·have hl:=of_decide_eq_true hl
  unfold ae
  rw [if_neg (by omega),if_pos hl]
  exact ⟨rfl,trivial⟩
 have hl:=of_decide_eq_false hl
 have hL:∀ h:decide (n % 64≠0)=true,0<(m.length:Int):=fun h=>by
  have h:=of_decide_eq_true h
  omega
 refine ⟨by omega,by omega,fun h=>by have:=hL h; omega,fun h=>by have:=hL h; omega,fun h=>by omega,fun _=>by omega,fun _=>by omega,fun _=>by omega,fun _=>by omega,fun h=>?_,fun h=>?_⟩
 ·simp only [Bool.and_eq_true,decide_eq_true_eq] at h
  rw [show ((m.length:Int) - 1).toNat=m.length - 1 by omega] at h
  unfold ae
  rw [if_neg (by omega),if_neg (by omega),if_pos h]
  exact ⟨rfl,trivial⟩
 ·unfold ae
  rw [if_neg (by omega),if_neg (by omega),if_neg]
  ·exact ⟨rfl,trivial⟩
  ·intro h2
   rw [show ((m.length:Int) - 1).toNat=m.length - 1 by omega,decide_eq_true h2.1,decide_eq_true h2.2] at h
   cases h
theorem d5:lc.ok Tryd.prog 10:=ce (ann:=ko) aI Tryd.func10 (by kernel_rfl) jP
def iN:Spec:={ Ts:=[.arr bT,ar,ar,ar],Rs:=[.dat ar],pre:=fun _=>True,F:=fun ((m,n,at_,long):List Int×Int×Int×Int)=>aH m n at_ long }
def eF:Prop :=
  ∀ (x:List Int×Int×Int×Int),(x.1.length * 8≤bb∧∀ (x_1:Int),x_1∈x.1→ao .u64 x_1)∧ao .i64 x.2.1∧ao .i64 x.2.2.1∧ao .i64 x.2.2.2→True→True∧((decide (x.2.2.2<0)||decide (x.2.2.1<0)||decide (x.2.1<x.2.2.1))=false→decide (ae x.1 x.2.1=0)=true→ao .i64 (x.2.1 - x.2.2.1))∧((decide (ae x.1 x.2.1=0)&&(decide (x.2.2.2<0)||decide (x.2.2.1<0)||decide (x.2.1<x.2.2.1)||decide (x.2.1 - x.2.2.1<x.2.2.2)))=true→4=aH x.1 x.2.1 x.2.2.1 x.2.2.2∧True)∧((decide (ae x.1 x.2.1=0)&&(decide (x.2.2.2<0)||decide (x.2.2.1<0)||decide (x.2.1<x.2.2.1)||decide (x.2.1 - x.2.2.1<x.2.2.2)))=false→ae x.1 x.2.1=aH x.1 x.2.1 x.2.2.1 x.2.2.2∧True)
theorem il:eF:=by
 unfold eF
 intro ⟨m,n,at_,long⟩ ⟨_,hn,ha,hl⟩ _
 simp only [ao] at hn ha hl ⊢
 have h0:=pf m n
 refine ⟨trivial,fun h1 h2=>?_,fun h=>?_,fun h=>?_⟩
 ·have hz:=of_decide_eq_true h2
  obtain ⟨z1,z2,_⟩:=bn hz
  simp only [Bool.or_eq_false_iff,decide_eq_false_iff_not] at h1
  omega
 ·simp only [Bool.and_eq_true,Bool.or_eq_true,decide_eq_true_eq] at h
  unfold aH
  rw [if_neg (by omega),if_pos (by omega)]
  exact ⟨rfl,trivial⟩
 ·unfold aH
  by_cases hz:ae m n=0
  ·rw [if_neg (by omega),if_neg]
   ·exact ⟨hz,trivial⟩
   ·intro h2
    have h3:((decide (long<0)||decide (at_<0)||decide (n<at_))||decide (n - at_<long))=true:=by
     simp only [Bool.or_eq_true,decide_eq_true_eq]
     omega
    rw [decide_eq_true hz,h3] at h
    cases h
  ·rw [if_pos hz]
   exact ⟨rfl,trivial⟩
theorem cu:iN.ok Tryd.prog 20:=ce (ann:=ko) (am d5 aI) Tryd.func20 (by kernel_rfl) il
def no:Spec:={ Ts:=[.arr bT,ar],Rs:=[.dat .bool],pre:=fun ((m,k):List Int×Int)=>0≤k∧k / 64<m.length,F:=fun ((m,k):List Int×Int)=>aa m k }
def i4:Prop :=
  ∀ (x:List Int×Int),(x.1.length * 8≤bb∧∀ (x_1:Int),x_1∈x.1→ao .u64 x_1)∧ao .i64 x.2→0≤x.2∧x.2 / 64<(↑x.1.length:Int)→0≤x.2∧(0:Int)<64∧0≤x.2 / 64∧x.2 / 64<(↑x.1.length:Int)∧0≤x.2∧(0:Int)<64∧0≤x.2 % 64∧x.2 % 64<(↑IntKind.u64.bits:Int)∧decide ((↑((x.1.getD (x.2 / 64).toNat 0 / 2 ^ (x.2 % 64).toNat).toNat &&& Int.toNat 1):Int)=1)=aa x.1 x.2∧True
theorem l9:i4:=by
 unfold i4
 intro ⟨m,k⟩ ⟨⟨_,hw⟩,_⟩ ⟨h0,h1⟩
 have hx:=cA (gI hw) (k / 64).toNat
 simp only [ao,oQ] at h0 h1 ⊢
 refine ⟨h0,by omega,by omega,h1,h0,by omega,by omega,by omega,?_,trivial⟩
 have e:=p8 (cT hx.1 (k % 64).toNat) 1
 rw [show Int.toNat 1=2 ^ 1 - 1 from rfl,e,show (2:Int) ^ 1=2 from rfl,oM hx.1]
 rfl
theorem nz:no.ok Tryd.prog 22:=ce (ann:=ko) aI Tryd.func22 (by kernel_rfl) l9
def k8:Spec:={ Ts:=[.arr bT,ar,ar,.bool],Rs:=[.dat ar],pre:=fun ((m,n,at_,_):List Int×Int×Int×Bool)=>ae m n=0∧0≤at_∧at_≤n,F:=fun ((m,n,at_,on):List Int×Int×Int×Bool)=>af m n at_ on }
def lV:Nat→Option LoopGen
 | 1=>some { rd:=[.dat 0 (.arr bT),.dat 1 ar,.dat 2 ar,.dat 3 .bool],A:=fun ((m,n,a,on):List Int×Int×Int×Bool)=>{ cs:=[.dat 2 ar],inv:=fun (b:Int)=>a≤b∧b≤512∧∀ j,a≤j→j<b→j<n→aa m j=!on,mu:=fun (b:Int)=>(n - b).toNat } }
 | _=>none
def fV:Prop :=
  ∀ (x:List Int×Int×Int×Bool),(x.1.length * 8≤bb∧∀ (x_1:Int),x_1∈x.1→ao .u64 x_1)∧ao .i64 x.2.1∧ao .i64 x.2.2.1∧True→ae x.1 x.2.1=0∧0≤x.2.2.1∧x.2.2.1≤x.2.1→(x.2.2.1≤x.2.2.1∧x.2.2.1≤512∧∀ (j:Int),x.2.2.1≤j→j<x.2.2.1→j<x.2.1→aa x.1 j=!x.2.2.2)∧∀ (x_1:Int),(x.2.2.1≤x_1∧x_1≤512∧∀ (j:Int),x.2.2.1≤j→j<x_1→j<x.2.1→aa x.1 j=!x.2.2.2)→(decide (x_1<x.2.1)=true→0≤x_1∧(0:Int)<64∧0≤x_1 / 64∧x_1 / 64<(↑x.1.length:Int)∧((!x.2.2.2)=true→0≤x_1∧(0:Int)<64∧0≤x_1 % 64∧x_1 % 64<(↑IntKind.u64.bits:Int)∧(decide ((18446744073709551615 - x.1.getD (x_1 / 64).toNat 0) / 2 ^ (x_1 % 64).toNat≠0)=true→True∧ao .i64 (x_1+(↑(Lib.ctz 64 ((18446744073709551615 - x.1.getD (x_1 / 64).toNat 0) / 2 ^ (x_1 % 64).toNat).toNat):Int))∧(if x_1+(↑(Lib.ctz 64 ((18446744073709551615 - x.1.getD (x_1 / 64).toNat 0) / 2 ^ (x_1 % 64).toNat).toNat):Int)<x.2.1 then x_1+(↑(Lib.ctz 64 ((18446744073709551615 - x.1.getD (x_1 / 64).toNat 0) / 2 ^ (x_1 % 64).toNat).toNat):Int) else x.2.1)=af x.1 x.2.1 x.2.2.1 x.2.2.2∧True)∧(decide ((18446744073709551615 - x.1.getD (x_1 / 64).toNat 0) / 2 ^ (x_1 % 64).toNat≠0)=false→0≤x_1∧(0:Int)<64∧ao .i64 (64 - x_1 % 64)∧ao .i64 (x_1+(64 - x_1 % 64))∧(x.2.2.1≤x_1+(64 - x_1 % 64)∧x_1+(64 - x_1 % 64)≤512∧∀ (j:Int),x.2.2.1≤j→j<x_1+(64 - x_1 % 64)→j<x.2.1→aa x.1 j=!x.2.2.2)∧(x.2.1 - (x_1+(64 - x_1 % 64))).toNat<(x.2.1 - x_1).toNat))∧((!x.2.2.2)=false→0≤x_1∧(0:Int)<64∧0≤x_1 % 64∧x_1 % 64<(↑IntKind.u64.bits:Int)∧(decide (x.1.getD (x_1 / 64).toNat 0 / 2 ^ (x_1 % 64).toNat≠0)=true→True∧ao .i64 (x_1+(↑(Lib.ctz 64 (x.1.getD (x_1 / 64).toNat 0 / 2 ^ (x_1 % 64).toNat).toNat):Int))∧(if x_1+(↑(Lib.ctz 64 (x.1.getD (x_1 / 64).toNat 0 / 2 ^ (x_1 % 64).toNat).toNat):Int)<x.2.1 then x_1+(↑(Lib.ctz 64 (x.1.getD (x_1 / 64).toNat 0 / 2 ^ (x_1 % 64).toNat).toNat):Int) else x.2.1)=af x.1 x.2.1 x.2.2.1 x.2.2.2∧True)∧(decide (x.1.getD (x_1 / 64).toNat 0 / 2 ^ (x_1 % 64).toNat≠0)=false→0≤x_1∧(0:Int)<64∧ao .i64 (64 - x_1 % 64)∧ao .i64 (x_1+(64 - x_1 % 64))∧(x.2.2.1≤x_1+(64 - x_1 % 64)∧x_1+(64 - x_1 % 64)≤512∧∀ (j:Int),x.2.2.1≤j→j<x_1+(64 - x_1 % 64)→j<x.2.1→aa x.1 j=!x.2.2.2)∧(x.2.1 - (x_1+(64 - x_1 % 64))).toNat<(x.2.1 - x_1).toNat)))∧(decide (x_1<x.2.1)=false→x.2.1=af x.1 x.2.1 x.2.2.1 x.2.2.2∧True)
theorem jN:fV:=by
 unfold fV
 intro ⟨m,n,at_,on⟩ ⟨⟨_,hw⟩,_⟩ ⟨h0,h1,h2⟩
 have hw:lZ m:=gI hw
 obtain ⟨n0,n1,n2,_⟩:=bn h0
 simp only [ao,oQ] at h0 h1 h2 n0 n1 n2 ⊢
 refine ⟨⟨by omega,by omega,fun j j1 j2=>by omega⟩,fun k ⟨k0,k1,k2⟩=>⟨fun hlt=>?_,fun hge=>?_⟩⟩
 ·have hlt:=of_decide_eq_true hlt
  have hx:=cA hw (k / 64).toNat
  have hf:=nD m (n:=n) (b:=k) on k0 (by omega) (fun j j1 j2=>k2 j j1 j2 (by omega))
  have miss:cS (m.getD (k / 64).toNat 0) on / 2 ^ (k % 64).toNat=0→∀ j,at_≤j→j<k+(64 - k % 64)→j<n→aa m j=!on:=fun hz j j1 j2 j3=>by
   by_cases e:j<k
   ·exact k2 j j1 e j3
   ·exact ph hw (by omega) hz j (by omega) j2
  have hit:cS (m.getD (k / 64).toNat 0) on / 2 ^ (k % 64).toNat≠0→_:=p6 hw (n:=n) (by omega) hlt
  refine ⟨by omega,by omega,by omega,by omega,fun ho=>?_,fun ho=>?_⟩
  ·have ho:on=false:=by simpa using ho
   subst ho
   simp only [cS,Bool.false_eq_true,if_false] at miss hit
   refine ⟨by omega,by omega,by omega,by omega,fun hc=>?_,fun hc=>?_⟩
   ·have hc:=of_decide_eq_true hc
    have hle:=nX ((18446744073709551615 - m.getD (k / 64).toNat 0) / 2 ^ (k % 64).toNat).toNat
    have hit:=hit hc
    rw [hf,hit]
    generalize Lib.ctz 64 ((18446744073709551615 - m.getD (k / 64).toNat 0) / 2 ^ (k % 64).toNat).toNat=c at *
    refine ⟨trivial,by omega,?_,trivial⟩
    split <;> omega
   ·have hc:(18446744073709551615 - m.getD (k / 64).toNat 0) / 2 ^ (k % 64).toNat=0:=by simpa using of_decide_eq_false hc
    exact ⟨by omega,by omega,by omega,by omega,⟨by omega,by omega,miss hc⟩,by omega⟩
  ·have ho:on=true:=by simpa using ho
   subst ho
   simp only [cS,if_true] at miss hit
   refine ⟨by omega,by omega,by omega,by omega,fun hc=>?_,fun hc=>?_⟩
   ·have hc:=of_decide_eq_true hc
    have hle:=nX (m.getD (k / 64).toNat 0 / 2 ^ (k % 64).toNat).toNat
    have hit:=hit hc
    rw [hf,hit]
    generalize Lib.ctz 64 (m.getD (k / 64).toNat 0 / 2 ^ (k % 64).toNat).toNat=c at *
    refine ⟨trivial,by omega,?_,trivial⟩
    split <;> omega
   ·have hc:m.getD (k / 64).toNat 0 / 2 ^ (k % 64).toNat=0:=by simpa using of_decide_eq_false hc
    exact ⟨by omega,by omega,by omega,by omega,⟨by omega,by omega,miss hc⟩,by omega⟩
 ·have hge:=of_decide_eq_false hge
  rw [fY m (k:=n) on h2 (Int.le_refl n) (fun j j1 j2=>k2 j j1 (by omega) j2) (fun h=>by omega)]
  exact ⟨rfl,trivial⟩
theorem dZ:k8.ok Tryd.prog 23:=ce (ann:=lV) (am qQ aI) Tryd.func23 (by kernel_rfl) jN
def dn (m:List Int) (n at_:Int):Bool×Int:=if aH m n at_ 1≠0 then (false,aH m n at_ 1) else (aa m at_,0)
def bw (m:List Int) (n at_:Int) (on:Bool):Int×Bool×Int:=if aH m n at_ 0≠0 then (0,false,aH m n at_ 0) else (af m n at_ on,decide (af m n at_ on<n),0)
def aG (m:List Int) (n at_ long:Int):Int×Int:=if aH m n at_ long≠0 then (0,aH m n at_ long) else (bF (fun k=>aa m k) long.toNat at_,0)
def cP (m:List Int) (n:Int):List eT×Int:=if ae m n≠0 then ([],ae m n) else (aC (fun k=>aa m k) n.toNat 0 [],0)
def cN (m:List Int) (n at_ long:Int) (on:Bool):List Int×Int:=if aH m n at_ long≠0 then ([],aH m n at_ long) else (dQ m at_ on long.toNat,0)
def mo:Spec:={ Ts:=[.arr bT,ar,ar],Rs:=[.dat .bool,.dat ar],pre:=fun _=>True,F:=fun ((m,n,at_):List Int×Int×Int)=>dn m n at_ }
def hO:Prop :=
  ∀ (x:List Int×Int×Int),(x.1.length * 8≤bb∧∀ (x_1:Int),x_1∈x.1→ao .u64 x_1)∧ao .i64 x.2.1∧ao .i64 x.2.2→True→True∧(decide (aH x.1 x.2.1 x.2.2 (1:Int)≠0)=true→false=(dn x.1 x.2.1 x.2.2).1∧aH x.1 x.2.1 x.2.2 1=(dn x.1 x.2.1 x.2.2).2∧True)∧(decide (aH x.1 x.2.1 x.2.2 (1:Int)≠0)=false→(0≤x.2.2∧x.2.2 / 64<(↑x.1.length:Int))∧aa x.1 x.2.2=(dn x.1 x.2.1 x.2.2).1∧0=(dn x.1 x.2.1 x.2.2).2∧True)
theorem kT:hO:=by
 unfold hO
 intro ⟨m,n,at_⟩ _ _
 simp only [dn]
 refine ⟨trivial,fun hc=>?_,fun hc=>?_⟩
 ·rw [if_pos (of_decide_eq_true hc)]
  exact ⟨rfl,rfl,trivial⟩
 ·have hz:aH m n at_ 1=0:=by simpa using of_decide_eq_false hc
  rw [if_neg (of_decide_eq_false hc)]
  obtain ⟨z,z1,z2,z3,z4⟩:=dg hz
  obtain ⟨n0,n1,n2,_⟩:=bn z
  exact ⟨⟨z2,by omega⟩,rfl,rfl,trivial⟩
theorem mI:mo.ok Tryd.prog 5:=ce (ann:=ko) (am cu (am nz aI)) Tryd.func5 (by kernel_rfl) kT
def mn:Spec:={ Ts:=[.arr bT,ar,ar,.bool],Rs:=[.dat ar,.dat .bool,.dat ar],pre:=fun _=>True,F:=fun ((m,n,at_,on):List Int×Int×Int×Bool)=>bw m n at_ on }
def hJ:Prop :=
  ∀ (x:List Int×Int×Int×Bool),(x.1.length * 8≤bb∧∀ (x_1:Int),x_1∈x.1→ao .u64 x_1)∧ao .i64 x.2.1∧ao .i64 x.2.2.1∧True→True→True∧(decide (aH x.1 x.2.1 x.2.2.1 (0:Int)≠0)=true→0=(bw x.1 x.2.1 x.2.2.1 x.2.2.2).1∧false=(bw x.1 x.2.1 x.2.2.1 x.2.2.2).2.1∧aH x.1 x.2.1 x.2.2.1 0=(bw x.1 x.2.1 x.2.2.1 x.2.2.2).2.2∧True)∧(decide (aH x.1 x.2.1 x.2.2.1 (0:Int)≠0)=false→(ae x.1 x.2.1=0∧0≤x.2.2.1∧x.2.2.1≤x.2.1)∧af x.1 x.2.1 x.2.2.1 x.2.2.2=(bw x.1 x.2.1 x.2.2.1 x.2.2.2).1∧decide (af x.1 x.2.1 x.2.2.1 x.2.2.2<x.2.1)=(bw x.1 x.2.1 x.2.2.1 x.2.2.2).2.1∧0=(bw x.1 x.2.1 x.2.2.1 x.2.2.2).2.2∧True)
theorem kS:hJ:=by
 unfold hJ
 intro ⟨m,n,at_,on⟩ _ _
 simp only [bw]
 refine ⟨trivial,fun hc=>?_,fun hc=>?_⟩
 ·rw [if_pos (of_decide_eq_true hc)]
  exact ⟨rfl,rfl,rfl,trivial⟩
 ·have hz:aH m n at_ 0=0:=by simpa using of_decide_eq_false hc
  rw [if_neg (of_decide_eq_false hc)]
  obtain ⟨z,z1,z2,z3,z4⟩:=dg hz
  exact ⟨⟨z,z2,z3⟩,rfl,rfl,rfl,trivial⟩
theorem mH:mn.ok Tryd.prog 6:=ce (ann:=ko) (am cu (am dZ aI)) Tryd.func6 (by kernel_rfl) kS
def k9:Spec:={ Ts:=[.arr bT,ar,ar,ar],Rs:=[.dat ar,.dat ar],pre:=fun _=>True,F:=fun ((m,n,at_,long):List Int×Int×Int×Int)=>aG m n at_ long }
def lW:Nat→Option LoopGen
 | 6=>some { rd:=[.dat 0 (.arr bT),.dat 1 ar,.dat 2 ar,.dat 3 ar],A:=fun ((m,n,a,d):List Int×Int×Int×Int)=>{ cs:=[.dat 11 ar,.dat 12 ar],inv:=fun ((c,k):Int×Int)=>a≤k∧k≤n∧(k<n→aa m k=true)∧0≤c∧c≤k - a∧c+bF (fun k=>aa m k) (a+d - k).toNat k=bF (fun k=>aa m k) d.toNat a,mu:=fun ((_,k):Int×Int)=>(a+d - k).toNat } }
 | _=>none
def fW:Prop :=
  ∀ (x:List Int×Int×Int×Int),(x.1.length * 8≤bb∧∀ (x_1:Int),x_1∈x.1→ao .u64 x_1)∧ao .i64 x.2.1∧ao .i64 x.2.2.1∧ao .i64 x.2.2.2→True→True∧(decide (aH x.1 x.2.1 x.2.2.1 x.2.2.2≠0)=true→0=(aG x.1 x.2.1 x.2.2.1 x.2.2.2).1∧aH x.1 x.2.1 x.2.2.1 x.2.2.2=(aG x.1 x.2.1 x.2.2.1 x.2.2.2).2∧True)∧(decide (aH x.1 x.2.1 x.2.2.1 x.2.2.2≠0)=false→(ae x.1 x.2.1=0∧0≤x.2.2.1∧x.2.2.1≤x.2.1)∧(x.2.2.1≤af x.1 x.2.1 x.2.2.1 true∧af x.1 x.2.1 x.2.2.1 true≤x.2.1∧(af x.1 x.2.1 x.2.2.1 true<x.2.1→aa x.1 (af x.1 x.2.1 x.2.2.1 true)=true)∧(0:Int)≤0∧0≤af x.1 x.2.1 x.2.2.1 true - x.2.2.1∧0+bF (fun (k:Int)=>aa x.1 k) (x.2.2.1+x.2.2.2 - af x.1 x.2.1 x.2.2.1 true).toNat (af x.1 x.2.1 x.2.2.1 true)=bF (fun (k:Int)=>aa x.1 k) x.2.2.2.toNat x.2.2.1)∧∀ (x_1:Int×Int),x.2.2.1≤x_1.2∧x_1.2≤x.2.1∧(x_1.2<x.2.1→aa x.1 x_1.2=true)∧0≤x_1.1∧x_1.1≤x_1.2 - x.2.2.1∧x_1.1+bF (fun (k:Int)=>aa x.1 k) (x.2.2.1+x.2.2.2 - x_1.2).toNat x_1.2=bF (fun (k:Int)=>aa x.1 k) x.2.2.2.toNat x.2.2.1→ao .i64 (x.2.2.1+x.2.2.2)∧(decide (x_1.2<x.2.2.1+x.2.2.2)=true→ao .i64 (x_1.1+1)∧ao .i64 (x_1.2+1)∧(ae x.1 x.2.1=0∧0≤x_1.2+1∧x_1.2+1≤x.2.1)∧(x.2.2.1≤af x.1 x.2.1 (x_1.2+1) true∧af x.1 x.2.1 (x_1.2+1) true≤x.2.1∧(af x.1 x.2.1 (x_1.2+1) true<x.2.1→aa x.1 (af x.1 x.2.1 (x_1.2+1) true)=true)∧0≤x_1.1+1∧x_1.1+1≤af x.1 x.2.1 (x_1.2+1) true - x.2.2.1∧x_1.1+1+bF (fun (k:Int)=>aa x.1 k) (x.2.2.1+x.2.2.2 - af x.1 x.2.1 (x_1.2+1) true).toNat (af x.1 x.2.1 (x_1.2+1) true)=bF (fun (k:Int)=>aa x.1 k) x.2.2.2.toNat x.2.2.1)∧(x.2.2.1+x.2.2.2 - af x.1 x.2.1 (x_1.2+1) true).toNat<(x.2.2.1+x.2.2.2 - x_1.2).toNat)∧(decide (x_1.2<x.2.2.1+x.2.2.2)=false→x_1.1=(aG x.1 x.2.1 x.2.2.1 x.2.2.2).1∧0=(aG x.1 x.2.1 x.2.2.1 x.2.2.2).2∧True))
theorem jO:fW:=by
 unfold fW
 intro ⟨m,n,at_,long⟩ ⟨_,hn,ha,hl⟩ _
 simp only [aG,ao] at hn ha hl ⊢
 refine ⟨trivial,fun hc=>?_,fun hc=>?_⟩
 ·rw [if_pos (of_decide_eq_true hc)]
  exact ⟨rfl,rfl,trivial⟩
 have hz:aH m n at_ long=0:=by simpa using of_decide_eq_false hc
 rw [if_neg (of_decide_eq_false hc)]
 obtain ⟨z,z1,z2,z3,z4⟩:=dg hz
 obtain ⟨n0,n1,n2,_⟩:=bn z
 have skip:∀ k r:Int,at_≤k→k≤r→(∀ j,k≤j→j<r→aa m j=false)→bF (fun k=>aa m k) (at_+long - k).toNat k=bF (fun k=>aa m k) (at_+long - r).toNat r:=fun k r k0 kr h=>by
  by_cases e:r≤at_+long
  ·rw [gV (fun k=>aa m k) (at_+long - k).toNat k (r - k).toNat (by omega) (fun j j1 j2=>h j j1 (by omega))]
   rw [show (at_+long - k).toNat - (r - k).toNat=(at_+long - r).toNat by omega,show k+((r - k).toNat:Int)=r by omega]
  ·rw [px _ _ _ (fun j j1 j2=>h j j1 (by omega)),show (at_+long - r).toNat=0 by omega]
   rfl
 obtain ⟨g1,g2,g3,g4⟩:=dk m (n:=n) (at_:=at_) true z3
 refine ⟨⟨z,z2,z3⟩,⟨g1,g2,g4,by omega,by omega,?_⟩,fun ⟨c,k⟩ ⟨k0,k1,k2,c0,c1,c2⟩=>⟨by omega,fun hlt=>?_,fun hge=>?_⟩⟩
 ·rw [← skip at_ _ (by omega) g1 g3,Int.zero_add]
  congr 1
  omega
 ·have hlt:=of_decide_eq_true hlt
  simp only at k0 k1 k2 c0 c1 c2 hlt ⊢
  obtain ⟨g1,g2,g3,g4⟩:=dk m (n:=n) (at_:=k+1) true (by omega)
  refine ⟨by omega,by omega,⟨z,by omega,by omega⟩,⟨by omega,g2,g4,by omega,by omega,?_⟩,by omega⟩
  rw [← skip (k+1) _ (by omega) g1 g3,← c2,show (at_+long - k).toNat=(at_+long - (k+1)).toNat+1 by omega,bF,if_pos (k2 (by omega))]
  omega
 ·have hge:=of_decide_eq_false hge
  simp only at k0 k1 k2 c0 c1 c2 hge ⊢
  rw [show (at_+long - k).toNat=0 by omega,bF,Int.add_zero] at c2
  exact ⟨c2,by first | exact trivial | rfl,trivial⟩
theorem lr:k9.ok Tryd.prog 7:=ce (ann:=lW) (am cu (am dZ aI)) Tryd.func7 (by kernel_rfl) jO
def mm:Spec:={ Ts:=[.arr bT,ar],Rs:=[.own 38 dB,.dat ar],pre:=fun _=>True,F:=fun ((m,n):List Int×Int)=>cP m n }
def nb:Nat→Option LoopGen
 | 6=>some { rd:=[.dat 0 (.arr bT),.dat 1 ar],A:=fun ((m,n):List Int×Int)=>{ cs:=[.own 7 38 dB,.dat 8 ar],inv:=fun ((out,k):List eT×Int)=>0≤k∧k≤n∧(k<n→aa m k=true)∧(k<n→(decide (0<k)&&aa m (k - 1))=false)∧out.length≤k∧aC (fun k=>aa m k) (n - k).toNat k out=aC (fun k=>aa m k) n.toNat 0 [],mu:=fun ((_,k):List eT×Int)=>(n - k).toNat } }
 | _=>none
def hI:Prop :=
  ∀ (x:List Int×Int),(x.1.length * 8≤bb∧∀ (x_1:Int),x_1∈x.1→ao .u64 x_1)∧ao .i64 x.2→True→True∧(decide (ae x.1 x.2≠0)=true→([]:List (Int×Int))=(cP x.1 x.2).1∧ae x.1 x.2=(cP x.1 x.2).2∧True)∧(decide (ae x.1 x.2≠0)=false→(ae x.1 x.2=0∧(0:Int)≤0∧0≤x.2)∧(0≤af x.1 x.2 0 true∧af x.1 x.2 0 true≤x.2∧(af x.1 x.2 0 true<x.2→aa x.1 (af x.1 x.2 0 true)=true)∧(af x.1 x.2 0 true<x.2→(decide (0<af x.1 x.2 0 true)&&aa x.1 (af x.1 x.2 0 true - 1))=false)∧(↑(0:Nat):Int)≤af x.1 x.2 0 true∧aC (fun (k:Int)=>aa x.1 k) (x.2 - af x.1 x.2 0 true).toNat (af x.1 x.2 0 true) ([]:List (Int×Int))=aC (fun (k:Int)=>aa x.1 k) x.2.toNat 0 ([]:List (Int×Int)))∧∀ (x_1:List (Int×Int)×Int),0≤x_1.2∧x_1.2≤x.2∧(x_1.2<x.2→aa x.1 x_1.2=true)∧(x_1.2<x.2→(decide (0<x_1.2)&&aa x.1 (x_1.2 - 1))=false)∧(↑x_1.1.length:Int)≤x_1.2∧aC (fun (k:Int)=>aa x.1 k) (x.2 - x_1.2).toNat x_1.2 x_1.1=aC (fun (k:Int)=>aa x.1 k) x.2.toNat 0 ([]:List (Int×Int))→(decide (x_1.2<x.2)=true→(ae x.1 x.2=0∧0≤x_1.2∧x_1.2≤x.2)∧ao .i64 (af x.1 x.2 x_1.2 false - x_1.2)∧(x_1.1.length+[(x_1.2,af x.1 x.2 x_1.2 false - x_1.2)].length) * (8+8)≤bb∧(ae x.1 x.2=0∧0≤af x.1 x.2 x_1.2 false∧af x.1 x.2 x_1.2 false≤x.2)∧(0≤af x.1 x.2 (af x.1 x.2 x_1.2 false) true∧af x.1 x.2 (af x.1 x.2 x_1.2 false) true≤x.2∧(af x.1 x.2 (af x.1 x.2 x_1.2 false) true<x.2→aa x.1 (af x.1 x.2 (af x.1 x.2 x_1.2 false) true)=true)∧(af x.1 x.2 (af x.1 x.2 x_1.2 false) true<x.2→(decide (0<af x.1 x.2 (af x.1 x.2 x_1.2 false) true)&&aa x.1 (af x.1 x.2 (af x.1 x.2 x_1.2 false) true - 1))=false)∧(↑(x_1.1++[(x_1.2,af x.1 x.2 x_1.2 false - x_1.2)]).length:Int)≤af x.1 x.2 (af x.1 x.2 x_1.2 false) true∧aC (fun (k:Int)=>aa x.1 k) (x.2 - af x.1 x.2 (af x.1 x.2 x_1.2 false) true).toNat (af x.1 x.2 (af x.1 x.2 x_1.2 false) true) (x_1.1++[(x_1.2,af x.1 x.2 x_1.2 false - x_1.2)])=aC (fun (k:Int)=>aa x.1 k) x.2.toNat 0 ([]:List (Int×Int)))∧(x.2 - af x.1 x.2 (af x.1 x.2 x_1.2 false) true).toNat<(x.2 - x_1.2).toNat)∧(decide (x_1.2<x.2)=false→x_1.1=(cP x.1 x.2).1∧0=(cP x.1 x.2).2∧True))
theorem kR:hI:=by
 unfold hI
 intro ⟨m,n⟩ ⟨_,hn⟩ _
 simp only [cP,ao,bb] at hn ⊢
 refine ⟨trivial,fun hc=>?_,fun hc=>?_⟩
 ·rw [if_pos (of_decide_eq_true hc)]
  exact ⟨by first | exact trivial | rfl,rfl,trivial⟩
 have hz:ae m n=0:=by simpa using of_decide_eq_false hc
 rw [if_neg (of_decide_eq_false hc)]
 obtain ⟨n0,n1,n2,_⟩:=bn hz
 have skip:∀ (k r:Int) (out:List eT),k≤r→r≤n→(∀ j,k≤j→j<r→aa m j=false)→aC (fun k=>aa m k) (n - k).toNat k out=aC (fun k=>aa m k) (n - r).toNat r out:=fun k r out kr rn h=>by
  rw [iS (fun k=>aa m k) out (n - k).toNat k (r - k).toNat (by omega) (fun j j1 j2=>h j j1 (by omega))]
  rw [show (n - k).toNat - (r - k).toNat=(n - r).toNat by omega,show k+((r - k).toNat:Int)=r by omega]
 obtain ⟨g1,g2,g3,g4⟩:=dk m (n:=n) (at_:=0) true n0
 refine ⟨⟨hz,by omega,n0⟩,⟨g1,g2,g4,fun hlt=>?_,by simpa using g1,?_⟩,fun ⟨out,k⟩ ⟨k0,k1,k2,k3,k4,k5⟩=>⟨fun hlt=>?_,fun hge=>?_⟩⟩
 ·by_cases e:af m n 0 true=0
  ·rw [e]; simp
  ·rw [g3 _ (by omega) (by omega)]; simp
 ·rw [← skip 0 _ [] g1 g2 g3,Int.sub_zero]
 ·have hlt:=of_decide_eq_true hlt
  simp only at k0 k1 k2 k3 k4 k5 hlt ⊢
  obtain ⟨a1,a2,a3,a4⟩:=dk m (n:=n) (at_:=k) false k1
  generalize af m n k false=e at *
  obtain ⟨g1,g2,g3,g4⟩:=dk m (n:=n) (at_:=e) true a2
  generalize af m n e true=r at *
  have hke:k<e:=by
   by_cases q:k=e
   ·have:=a4 (by omega)
    rw [← q,k2 hlt] at this
    cases this
   ·omega
  refine ⟨⟨hz,k0,k1⟩,by omega,by simp only [List.length_cons,List.length_nil]; omega,⟨hz,by omega,a2⟩,⟨by omega,g2,g4,fun hr=>?_,by simp only [List.length_append,List.length_cons,List.length_nil]; omega,?_⟩,by omega⟩
  ·have hne:e≠r:=fun q=>by
    have h1:=g4 hr
    have h2:=a4 (by omega)
    rw [q,h1] at h2
    cases h2
   rw [g3 _ (by omega) (by omega)]
   simp
  ·rw [← skip e r _ g1 g2 g3,← k5,o7 (fun k=>aa m k) out (n - k).toNat k (e - k).toNat k0 (k3 hlt) (by omega) (by omega) (fun j j1 j2=>by simpa using a3 j j1 (by omega))]
   rw [show (n - k).toNat - (e - k).toNat=(n - e).toNat by omega,show k+((e - k).toNat:Int)=e by omega,show ((e - k).toNat:Int)=e - k by omega]
 ·have hge:=of_decide_eq_false hge
  simp only at k1 k5 hge ⊢
  rw [show (n - k).toNat=0 by omega] at k5
  exact ⟨k5,by first | exact trivial | rfl,trivial⟩
theorem mG:mm.ok Tryd.prog 8:=ce (ann:=nb) (am d5 (am dZ aI)) Tryd.func8 (by kernel_rfl) kR
def nn:Spec:={ Ts:=[.arr bT,ar,ar,ar,.bool],Rs:=[.own 44 bT,.dat ar],pre:=fun _=>True,F:=fun ((m,n,at_,long,on):List Int×Int×Int×Int×Bool)=>cN m n at_ long on }
def n7:Nat→Option LoopGen
 | 6=>some { rd:=[.dat 0 (.arr bT),.dat 2 ar,.dat 3 ar,.dat 4 .bool],wr:=[13],A:=fun ((m,a,d,on):List Int×Int×Int×Bool)=>{ cs:=[.own 13 44 bT,.dat 14 ar],inv:=fun ((out,k):List Int×Int)=>a≤k∧k≤a+d∧out=dQ m a on (k - a).toNat,mu:=fun ((_,k):List Int×Int)=>(a+d - k).toNat } }
 | _=>none
def i3:Prop :=
  ∀ (x:List Int×Int×Int×Int×Bool),(x.1.length * 8≤bb∧∀ (x_1:Int),x_1∈x.1→ao .u64 x_1)∧ao .i64 x.2.1∧ao .i64 x.2.2.1∧ao .i64 x.2.2.2.1∧True→True→True∧(decide (aH x.1 x.2.1 x.2.2.1 x.2.2.2.1≠0)=true→([]:List Int)=(cN x.1 x.2.1 x.2.2.1 x.2.2.2.1 x.2.2.2.2).1∧aH x.1 x.2.1 x.2.2.1 x.2.2.2.1=(cN x.1 x.2.1 x.2.2.1 x.2.2.2.1 x.2.2.2.2).2∧True)∧(decide (aH x.1 x.2.1 x.2.2.1 x.2.2.2.1≠0)=false→True∧(x.2.2.1≤x.2.2.1∧x.2.2.1≤x.2.2.1+x.2.2.2.1∧x.1=dQ x.1 x.2.2.1 x.2.2.2.2 (x.2.2.1 - x.2.2.1).toNat)∧∀ (x_1:List Int×Int),x.2.2.1≤x_1.2∧x_1.2≤x.2.2.1+x.2.2.2.1∧x_1.1=dQ x.1 x.2.2.1 x.2.2.2.2 (x_1.2 - x.2.2.1).toNat→ao .i64 (x.2.2.1+x.2.2.2.1)∧(decide (x_1.2<x.2.2.1+x.2.2.2.1)=true→0≤x_1.2∧(0:Int)<64∧0≤x_1.2 % 64∧x_1.2 % 64<(↑IntKind.u64.bits:Int)∧0≤x_1.2∧(0:Int)<64∧0≤x_1.2 / 64∧x_1.2 / 64<(↑x_1.1.length:Int)∧(x_1.2 / 64).toNat<x_1.1.length∧0≤x_1.2 / 64∧x_1.2 / 64<(↑x_1.1.length:Int)∧(x_1.2 / 64).toNat<x_1.1.length∧((!x.2.2.2.2)=true→0≤x_1.2∧(0:Int)<64∧0≤x_1.2 / 64∧x_1.2 / 64<(↑(x_1.1.set (x_1.2 / 64).toNat (↑((x_1.1.getD (x_1.2 / 64).toNat 0).toNat ||| (IntKind.u64.wrap (1 * 2 ^ (x_1.2 % 64).toNat)).toNat):Int)).length:Int)∧(x_1.2 / 64).toNat<(x_1.1.set (x_1.2 / 64).toNat (↑((x_1.1.getD (x_1.2 / 64).toNat 0).toNat ||| (IntKind.u64.wrap (1 * 2 ^ (x_1.2 % 64).toNat)).toNat):Int)).length∧0≤x_1.2 / 64∧x_1.2 / 64<(↑(x_1.1.set (x_1.2 / 64).toNat (↑((x_1.1.getD (x_1.2 / 64).toNat 0).toNat ||| (IntKind.u64.wrap (1 * 2 ^ (x_1.2 % 64).toNat)).toNat):Int)).length:Int)∧(x_1.2 / 64).toNat<(x_1.1.set (x_1.2 / 64).toNat (↑((x_1.1.getD (x_1.2 / 64).toNat 0).toNat ||| (IntKind.u64.wrap (1 * 2 ^ (x_1.2 % 64).toNat)).toNat):Int)).length∧ao .i64 (x_1.2+1)∧(x.2.2.1≤x_1.2+1∧x_1.2+1≤x.2.2.1+x.2.2.2.1∧(x_1.1.set (x_1.2 / 64).toNat (↑((x_1.1.getD (x_1.2 / 64).toNat 0).toNat ||| (IntKind.u64.wrap (1 * 2 ^ (x_1.2 % 64).toNat)).toNat):Int)).set (x_1.2 / 64).toNat (↑(((x_1.1.set (x_1.2 / 64).toNat (↑((x_1.1.getD (x_1.2 / 64).toNat 0).toNat ||| (IntKind.u64.wrap (1 * 2 ^ (x_1.2 % 64).toNat)).toNat):Int)).getD (x_1.2 / 64).toNat 0).toNat ^^^ (IntKind.u64.wrap (1 * 2 ^ (x_1.2 % 64).toNat)).toNat):Int)=dQ x.1 x.2.2.1 x.2.2.2.2 (x_1.2+1 - x.2.2.1).toNat)∧(x.2.2.1+x.2.2.2.1 - (x_1.2+1)).toNat<(x.2.2.1+x.2.2.2.1 - x_1.2).toNat)∧((!x.2.2.2.2)=false→ao .i64 (x_1.2+1)∧(x.2.2.1≤x_1.2+1∧x_1.2+1≤x.2.2.1+x.2.2.2.1∧x_1.1.set (x_1.2 / 64).toNat (↑((x_1.1.getD (x_1.2 / 64).toNat 0).toNat ||| (IntKind.u64.wrap (1 * 2 ^ (x_1.2 % 64).toNat)).toNat):Int)=dQ x.1 x.2.2.1 x.2.2.2.2 (x_1.2+1 - x.2.2.1).toNat)∧(x.2.2.1+x.2.2.2.1 - (x_1.2+1)).toNat<(x.2.2.1+x.2.2.2.1 - x_1.2).toNat))∧(decide (x_1.2<x.2.2.1+x.2.2.2.1)=false→x_1.1=(cN x.1 x.2.1 x.2.2.1 x.2.2.2.1 x.2.2.2.2).1∧0=(cN x.1 x.2.1 x.2.2.1 x.2.2.2.1 x.2.2.2.2).2∧True))
theorem l8:i3:=by
 unfold i3
 intro ⟨m,n,at_,long,on⟩ ⟨⟨_,hw⟩,hn,ha,hl,_⟩ _
 have hw:lZ m:=gI hw
 simp only [cN,ao,oQ] at hn ha hl ⊢
 refine ⟨trivial,fun hc=>?_,fun hc=>?_⟩
 ·rw [if_pos (of_decide_eq_true hc)]
  exact ⟨by first | exact trivial | rfl,rfl,trivial⟩
 have hz:aH m n at_ long=0:=by simpa using of_decide_eq_false hc
 rw [if_neg (of_decide_eq_false hc)]
 obtain ⟨z,z1,z2,z3,z4⟩:=dg hz
 obtain ⟨n0,n1,n2,_⟩:=bn z
 refine ⟨trivial,⟨by omega,by omega,by rw [show (at_ - at_).toNat=0 by omega]; rfl⟩,fun ⟨out,k⟩ ⟨k0,k1,k2⟩=>⟨by omega,fun hlt=>?_,fun hge=>?_⟩⟩
 ·have hlt:=of_decide_eq_true hlt
  simp only at k0 k1 k2 hlt ⊢
  have hlen:=cO m at_ on (k - at_).toNat
  rw [← k2] at hlen
  have hs:dQ m at_ on (k+1 - at_).toNat=out.set (k / 64).toNat (ns (out.getD (k / 64).toNat 0) (k % 64).toNat on):=by
   rw [show (k+1 - at_).toNat=(k - at_).toNat+1 by omega,dQ,← k2,show at_+((k - at_).toNat:Int)=k by omega]
  have hp:(IntKind.u64.wrap (1 * 2 ^ (k % 64).toNat)).toNat=2 ^ (k % 64).toNat:=by
   have h1:(2:Nat) ^ (k % 64).toNat<2 ^ 64:=Nat.pow_lt_pow_right (by omega) (by omega)
   have e:(1:Int) * 2 ^ (k % 64).toNat=((2 ^ (k % 64).toNat:Nat):Int):=by push_cast; rw [Int.one_mul]
   have h2:((2 ^ (k % 64).toNat:Nat):Int)≤18446744073709551615:=Int.ofNat_le.2 (show 2 ^ (k % 64).toNat≤18446744073709551615 by omega)
   rw [e,rK (Int.natCast_nonneg _) h2,Int.toNat_natCast]
  rw [hs,hp]
  clear hs hp k2
  simp only [List.length_set]
  have hi:(k / 64).toNat<out.length:=by omega
  refine ⟨by omega,by omega,by omega,by omega,by omega,by omega,by omega,by omega,hi,by omega,by omega,hi,fun ho=>?_,fun ho=>?_⟩
  ·have ho:on=false:=by simpa using ho
   subst ho
   refine ⟨by omega,by omega,by omega,by omega,hi,by omega,by omega,hi,by omega,⟨by omega,by omega,?_⟩,by omega⟩
   rw [gK _ _ _ _ _ hi,if_pos rfl,List.set_set,Int.toNat_natCast]
   rfl
  ·have ho:on=true:=by simpa using ho
   subst ho
   exact ⟨by omega,⟨by omega,by omega,rfl⟩,by omega⟩
 ·have hge:=of_decide_eq_false hge
  simp only at k0 k1 k2 hge ⊢
  rw [k2,show k - at_=long by omega]
  exact ⟨by first | exact trivial | rfl,by first | exact trivial | rfl,trivial⟩
theorem ny:nn.ok Tryd.prog 4:=ce (ann:=n7) (am cu (am jY aI)) Tryd.func4 (by kernel_rfl) l8
def mq:Spec:={ Ts:=[ar,.fn ar .bool],Rs:=[.own 44 bT],pre:=fun ((n,g):Int×(Int→Prop)×(Int→Bool))=>0≤n∧n≤300∧∀ i,0≤i→i<n→g.1 i,F:=fun ((n,g):Int×(Int→Prop)×(Int→Bool))=>gG n.toNat g.2 0 }
def nc:Nat→Option LoopGen
 | 3=>some { rd:=[.dat 0 ar,.dat 1 (.fn ar .bool)],wr:=[5],A:=fun ((n,g):Int×(Int→Prop)×(Int→Bool))=>{ cs:=[.own 5 44 bT,.dat 6 ar],inv:=fun ((out,k):List Int×Int)=>-1≤k∧k<n∧out=gG n.toNat g.2 (k+1).toNat,mu:=fun ((_,k):List Int×Int)=>(k+1).toNat } }
 | _=>none
def hY:Prop :=
  ∀ (x:Int×(Int→Prop)×(Int→Bool)),ao .i64 x.1∧True→(0≤x.1∧x.1≤300∧∀ (i:Int),0≤i→i<x.1→x.2.1 i)→ao .i64 (x.1+63)∧0≤x.1+63∧(0:Int)<64∧0≤(x.1+63) / 64∧((x.1+63) / 64).toNat * 8≤bb∧ao .i64 (x.1 - 1)∧((-1)≤x.1 - 1∧x.1 - 1<x.1∧List.replicate ((x.1+63) / 64).toNat (0:Int)=gG x.1.toNat x.2.2 (x.1 - 1+1).toNat)∧∀ (x_1:List Int×Int),(-1)≤x_1.2∧x_1.2<x.1∧x_1.1=gG x.1.toNat x.2.2 (x_1.2+1).toNat→(decide (0≤x_1.2)=true→0≤x_1.2∧(0:Int)<64∧0≤x_1.2 / 64∧x_1.2 / 64<(↑x_1.1.length:Int)∧(x_1.2 / 64).toNat<x_1.1.length∧ao .u64 (x_1.1.getD (x_1.2 / 64).toNat 0 * 2)∧0≤x_1.2 / 64∧x_1.2 / 64<(↑x_1.1.length:Int)∧(x_1.2 / 64).toNat<x_1.1.length∧x.2.1 x_1.2∧(x.2.2 x_1.2=true→0≤x_1.2∧(0:Int)<64∧0≤x_1.2 / 64∧x_1.2 / 64<(↑(x_1.1.set (x_1.2 / 64).toNat (x_1.1.getD (x_1.2 / 64).toNat 0 * 2)).length:Int)∧(x_1.2 / 64).toNat<(x_1.1.set (x_1.2 / 64).toNat (x_1.1.getD (x_1.2 / 64).toNat 0 * 2)).length∧ao .u64 ((x_1.1.set (x_1.2 / 64).toNat (x_1.1.getD (x_1.2 / 64).toNat 0 * 2)).getD (x_1.2 / 64).toNat 0+1)∧0≤x_1.2 / 64∧x_1.2 / 64<(↑(x_1.1.set (x_1.2 / 64).toNat (x_1.1.getD (x_1.2 / 64).toNat 0 * 2)).length:Int)∧(x_1.2 / 64).toNat<(x_1.1.set (x_1.2 / 64).toNat (x_1.1.getD (x_1.2 / 64).toNat 0 * 2)).length∧ao .i64 (x_1.2 - 1)∧((-1)≤x_1.2 - 1∧x_1.2 - 1<x.1∧(x_1.1.set (x_1.2 / 64).toNat (x_1.1.getD (x_1.2 / 64).toNat 0 * 2)).set (x_1.2 / 64).toNat ((x_1.1.set (x_1.2 / 64).toNat (x_1.1.getD (x_1.2 / 64).toNat 0 * 2)).getD (x_1.2 / 64).toNat 0+1)=gG x.1.toNat x.2.2 (x_1.2 - 1+1).toNat)∧(x_1.2 - 1+1).toNat<(x_1.2+1).toNat)∧(x.2.2 x_1.2=false→ao .i64 (x_1.2 - 1)∧((-1)≤x_1.2 - 1∧x_1.2 - 1<x.1∧x_1.1.set (x_1.2 / 64).toNat (x_1.1.getD (x_1.2 / 64).toNat 0 * 2)=gG x.1.toNat x.2.2 (x_1.2 - 1+1).toNat)∧(x_1.2 - 1+1).toNat<(x_1.2+1).toNat))∧(decide (0≤x_1.2)=false→x_1.1=gG x.1.toNat x.2.2 0∧True)
theorem kU:hY:=by
 unfold hY
 intro ⟨n,g⟩ _ ⟨h1,h2,h3⟩
 simp only [ao,bb] at h1 h2 h3 ⊢
 refine ⟨by omega,by omega,by omega,by omega,by omega,by omega,⟨by omega,by omega,?_⟩,fun ⟨out,k⟩ ⟨k0,k1,k2⟩=>⟨fun hlt=>?_,fun hge=>?_⟩⟩
 ·rw [show (n - 1+1).toNat=n.toNat by omega,qT]
  congr 1
  omega
 ·have hlt:=of_decide_eq_true hlt
  simp only at k0 k1 k2 hlt ⊢
  have hlen:=dj n.toNat g.2 (k+1).toNat
  rw [← k2] at hlen
  have ek:(k+1).toNat=k.toNat+1:=by omega
  have hget:=ls n.toNat g.2 (k+1).toNat (k / 64).toNat (by omega)
  rw [← k2] at hget
  have hstep:=pZ n.toNat g.2 k.toNat (by omega)
  have hlt2:=qR n.toNat g.2 k.toNat
  have e64:(k / 64).toNat=k.toNat / 64:=by omega
  have ek2:((k.toNat:Nat):Int)=k:=by omega
  rw [ek,e64] at hget
  rw [ek] at k2
  rw [← k2,ek2] at hstep
  rw [e64,hget,show (k - 1+1).toNat=k.toNat by omega,← hstep]
  have hi:k.toNat / 64<out.length:=by omega
  simp only [List.length_set,gK _ _ _ _ _ hi,if_true,List.set_set]
  generalize kE n.toNat g.2 (k.toNat+1) (k.toNat / 64)=w at *
  refine ⟨by omega,by omega,by omega,by omega,hi,by omega,by omega,by omega,hi,h3 k hlt k1,fun hb=>?_,fun hb=>?_⟩
  ·refine ⟨by omega,by omega,by omega,by omega,hi,by omega,by omega,by omega,hi,by omega,⟨by omega,by omega,?_⟩,by omega⟩
   rw [if_pos hb]
   congr 1
   omega
  ·refine ⟨by omega,⟨by omega,by omega,?_⟩,by omega⟩
   rw [if_neg (by rw [hb]; simp)]
   congr 1
   omega
 ·have hge:=of_decide_eq_false hge
  simp only at k0 k2 hge ⊢
  rw [k2,show (k+1).toNat=0 by omega]
  exact ⟨rfl,trivial⟩
theorem mJ:mq.ok Tryd.prog 18:=ce (ann:=nc) aI Tryd.func18 (by kernel_rfl) kU
def o6:Spec:={ Ts:=[ar,.fn ar .bool],Rs:=[.own 38 dB],pre:=fun ((n,g):Int×(Int→Prop)×(Int→Bool))=>0≤n∧n≤300∧∀ i,0≤i→i<n→g.1 i,F:=fun ((n,g):Int×(Int→Prop)×(Int→Bool))=>aC g.2 n.toNat 0 [] }
def pB:Nat→Option LoopGen
 | 3=>some { rd:=[.dat 7 ar,.dat 1 (.fn ar .bool)],A:=fun ((n,g):Int×(Int→Prop)×(Int→Bool))=>{ cs:=[.own 5 38 dB,.dat 8 ar],inv:=fun ((out,k):List eT×Int)=>0≤k∧k≤n∧n≤300∧(∀ i,0≤i→i<n→g.1 i)∧out.length≤k∧((decide (0<k)&&g.2 (k - 1))=true→0<out.length)∧(∀ r∈out,0≤r.2∧r.2≤k)∧aC g.2 (n - k).toNat k out=aC g.2 n.toNat 0 [],mu:=fun ((_,k):List eT×Int)=>(n - k).toNat } }
 | _=>none
def kz:Prop :=
  ∀ (x:Int×(Int→Prop)×(Int→Bool)),ao .i64 x.1∧True→(0≤x.1∧x.1≤300∧∀ (i:Int),0≤i→i<x.1→x.2.1 i)→((0:Int)≤0∧0≤x.1∧x.1≤300∧(∀ (i:Int),0≤i→i<x.1→x.2.1 i)∧(↑(0:Nat):Int)≤0∧((decide ((0:Int)<0)&&x.2.2 (0 - 1))=true→(0:Nat)<0)∧(∀ (r:eT),r∈([]:List (Int×Int))→0≤r.2∧r.2≤0)∧aC x.2.2 (x.1 - 0).toNat 0 ([]:List (Int×Int))=aC x.2.2 x.1.toNat 0 ([]:List (Int×Int)))∧∀ (x_1:List (Int×Int)×Int),0≤x_1.2∧x_1.2≤x.1∧x.1≤300∧(∀ (i:Int),0≤i→i<x.1→x.2.1 i)∧(↑x_1.1.length:Int)≤x_1.2∧((decide (0<x_1.2)&&x.2.2 (x_1.2 - 1))=true→0<x_1.1.length)∧(∀ (r:eT),r∈x_1.1→0≤r.2∧r.2≤x_1.2)∧aC x.2.2 (x.1 - x_1.2).toNat x_1.2 x_1.1=aC x.2.2 x.1.toNat 0 ([]:List (Int×Int))→(decide (x_1.2<x.1)=true→x.2.1 x_1.2∧((!x.2.2 x_1.2)=true→ao .i64 (x_1.2+1)∧(0≤x_1.2+1∧x_1.2+1≤x.1∧x.1≤300∧(∀ (i:Int),0≤i→i<x.1→x.2.1 i)∧(↑x_1.1.length:Int)≤x_1.2+1∧((decide (0<x_1.2+1)&&x.2.2 (x_1.2+1 - 1))=true→0<x_1.1.length)∧(∀ (r:eT),r∈x_1.1→0≤r.2∧r.2≤x_1.2+1)∧aC x.2.2 (x.1 - (x_1.2+1)).toNat (x_1.2+1) x_1.1=aC x.2.2 x.1.toNat 0 ([]:List (Int×Int)))∧(x.1 - (x_1.2+1)).toNat<(x.1 - x_1.2).toNat)∧((!x.2.2 x_1.2)=false→(decide (0<x_1.2)=true→ao .i64 (x_1.2 - 1))∧(decide (0<x_1.2)=true→x.2.1 (x_1.2 - 1))∧((decide (0<x_1.2)&&x.2.2 (x_1.2 - 1))=true→ao .i64 ((↑x_1.1.length:Int) - 1)∧0≤(↑x_1.1.length:Int) - 1∧(↑x_1.1.length:Int) - 1<(↑x_1.1.length:Int)∧((↑x_1.1.length:Int) - 1).toNat<x_1.1.length∧ao .i64 ((x_1.1.getD ((↑x_1.1.length:Int) - 1).toNat (0,0)).2+1)∧0≤(↑x_1.1.length:Int) - 1∧(↑x_1.1.length:Int) - 1<(↑x_1.1.length:Int)∧((↑x_1.1.length:Int) - 1).toNat<x_1.1.length∧ao .i64 (x_1.2+1)∧(0≤x_1.2+1∧x_1.2+1≤x.1∧x.1≤300∧(∀ (i:Int),0≤i→i<x.1→x.2.1 i)∧(↑(x_1.1.set ((↑x_1.1.length:Int) - 1).toNat ((x_1.1.getD ((↑x_1.1.length:Int) - 1).toNat (0,0)).1,(x_1.1.getD ((↑x_1.1.length:Int) - 1).toNat (0,0)).2+1)).length:Int)≤x_1.2+1∧((decide (0<x_1.2+1)&&x.2.2 (x_1.2+1 - 1))=true→0<(x_1.1.set ((↑x_1.1.length:Int) - 1).toNat ((x_1.1.getD ((↑x_1.1.length:Int) - 1).toNat (0,0)).1,(x_1.1.getD ((↑x_1.1.length:Int) - 1).toNat (0,0)).2+1)).length)∧(∀ (r:eT),r∈x_1.1.set ((↑x_1.1.length:Int) - 1).toNat ((x_1.1.getD ((↑x_1.1.length:Int) - 1).toNat (0,0)).1,(x_1.1.getD ((↑x_1.1.length:Int) - 1).toNat (0,0)).2+1)→0≤r.2∧r.2≤x_1.2+1)∧aC x.2.2 (x.1 - (x_1.2+1)).toNat (x_1.2+1) (x_1.1.set ((↑x_1.1.length:Int) - 1).toNat ((x_1.1.getD ((↑x_1.1.length:Int) - 1).toNat (0,0)).1,(x_1.1.getD ((↑x_1.1.length:Int) - 1).toNat (0,0)).2+1))=aC x.2.2 x.1.toNat 0 ([]:List (Int×Int)))∧(x.1 - (x_1.2+1)).toNat<(x.1 - x_1.2).toNat)∧((decide (0<x_1.2)&&x.2.2 (x_1.2 - 1))=false→(x_1.1.length+[(x_1.2,1)].length) * (8+8)≤bb∧ao .i64 (x_1.2+1)∧(0≤x_1.2+1∧x_1.2+1≤x.1∧x.1≤300∧(∀ (i:Int),0≤i→i<x.1→x.2.1 i)∧(↑(x_1.1++[(x_1.2,1)]).length:Int)≤x_1.2+1∧((decide (0<x_1.2+1)&&x.2.2 (x_1.2+1 - 1))=true→0<(x_1.1++[(x_1.2,1)]).length)∧(∀ (r:eT),r∈x_1.1++[(x_1.2,1)]→0≤r.2∧r.2≤x_1.2+1)∧aC x.2.2 (x.1 - (x_1.2+1)).toNat (x_1.2+1) (x_1.1++[(x_1.2,1)])=aC x.2.2 x.1.toNat 0 ([]:List (Int×Int)))∧(x.1 - (x_1.2+1)).toNat<(x.1 - x_1.2).toNat)))∧(decide (x_1.2<x.1)=false→x_1.1=aC x.2.2 x.1.toNat 0 ([]:List (Int×Int))∧True)
theorem ni:kz:=by
 unfold kz
 intro ⟨n,g⟩ _ ⟨h1,h2,h3⟩
 refine ⟨⟨by omega,h1,h2,h3,by simp,by simp,by simp,by simp⟩,fun ⟨out,k⟩ ⟨k0,k1,_,_,q1,q2,q3,q4⟩=>⟨fun hlt=>?_,fun hge=>?_⟩⟩
 ·have hlt:k<n:=of_decide_eq_true hlt
  simp only at h1 h2 h3 k0 k1 q1 q2 q3 q4 hlt ⊢
  rw [show (n - k).toNat=(n - (k+1)).toNat+1 by omega] at q4
  simp only [aC] at q4
  have hp:(decide (0<k+1)&&g.2 (k+1 - 1))=g.2 k:=by
   rw [show k+1 - 1=k by omega]
   simp
   omega
  rw [hp]
  simp only [ao]
  refine ⟨h3 k k0 hlt,fun hc=>?_,fun hc=>⟨fun hk=>by have:=of_decide_eq_true hk; omega,fun hk=>h3 _ (by have:=of_decide_eq_true hk; omega) (by omega),fun hk=>?_,fun hk=>?_⟩⟩
  ·have hc:g.2 k=false:=by simpa using hc
   rw [hc] at q4 ⊢
   simp only [Bool.false_eq_true,if_false] at q4
   exact ⟨by omega,⟨by omega,by omega,h2,h3,by omega,fun h=>by simp at h,fun r hr=>by have:=q3 r hr; omega,q4⟩,by omega⟩
  ·have hc:g.2 k=true:=by simpa using hc
   rw [if_pos hc,if_pos hk] at q4
   have hlen:=q2 hk
   have hlast:=q3 _ (qd ((0,0):eT) (xs:=out) (i:=(out.length:Int) - 1) (by omega) (by omega))
   have e:((out.length:Int) - 1).toNat=out.length - 1:=by omega
   rw [e] at hlast ⊢
   have hbump:out.set (out.length - 1) ((out.getD (out.length - 1) (0,0)).1,(out.getD (out.length - 1) (0,0)).2+1)=kN out:=rfl
   rw [hbump]
   rw [lS]
   refine ⟨by omega,by omega,by omega,by omega,by omega,by omega,by omega,by omega,by omega,⟨by omega,by omega,h2,h3,by omega,fun _=>hlen,fun r hr=>?_,q4⟩,by omega⟩
   rcases List.mem_or_eq_of_mem_set hr with hr | rfl
   ·have:=q3 r hr; omega
   ·simp only; omega
  ·have hc:g.2 k=true:=by simpa using hc
   rw [if_pos hc,if_neg (by rw [hk]; simp)] at q4
   unfold bb
   simp only [List.length_append,List.length_cons,List.length_nil]
   refine ⟨by omega,by omega,⟨by omega,by omega,h2,h3,by omega,fun _=>by omega,fun r hr=>?_,q4⟩,by omega⟩
   rcases List.mem_append.1 hr with hr | hr
   ·have:=q3 r hr; omega
   ·simp only [List.mem_singleton] at hr
    subst hr
    simp only
    omega
 ·have hge:¬ k<n:=of_decide_eq_false hge
  simp only at q4 k1
  rw [show (n - k).toNat=0 by omega] at q4
  exact ⟨q4,trivial⟩
theorem pd:o6.ok Tryd.prog 12:=ce (ann:=pB) aI Tryd.func12 (by kernel_rfl) ni
def nr:Spec:={ Ts:=[.arr dB,.arr dB],Rs:=[.dat .bool],pre:=fun _=>True,F:=fun (x:List eT×List eT)=>decide (x.1=x.2) }
def oa:Nat→Option LoopGen
 | 4=>some { rd:=[.dat 0 (.arr dB),.dat 1 (.arr dB)],A:=fun (g:List eT×List eT)=>{ cs:=[.dat 13 ar],inv:=fun (i:Int)=>g.1.length=g.2.length∧0≤i∧i≤g.1.length∧g.1.take i.toNat=g.2.take i.toNat,mu:=fun (i:Int)=>(g.1.length - i).toNat } }
 | _=>none
theorem rx (a b:eT):(!(decide (a.1=b.1)&&decide (a.2=b.2)))=decide (a≠b):=by
 obtain ⟨a1,a2⟩:=a
 obtain ⟨b1,b2⟩:=b
 apply Bool.eq_iff_iff.2
 simp only [Bool.not_eq_true',Bool.and_eq_false_iff,decide_eq_true_eq,decide_eq_false_iff_not,ne_eq,Prod.mk.injEq]
 grind
def i7:Prop :=
  ∀ (x:List (Int×Int)×List (Int×Int)),((x.1.length * (8+8)≤bb∧∀ (x_1:Int×Int),x_1∈x.1→ao .i64 x_1.1∧ao .i64 x_1.2)∧x.2.length * (8+8)≤bb∧∀ (x_1:Int×Int),x_1∈x.2→ao .i64 x_1.1∧ao .i64 x_1.2)→True→(decide ((↑x.1.length:Int)≠(↑x.2.length:Int))=true→false=decide (x.1=x.2)∧True)∧(decide ((↑x.1.length:Int)≠(↑x.2.length:Int))=false→(x.1.length=x.2.length∧(0:Int)≤0∧0≤(↑x.1.length:Int)∧List.take (Int.toNat 0) x.1=List.take (Int.toNat 0) x.2)∧∀ (x_1:Int),x.1.length=x.2.length∧0≤x_1∧x_1≤(↑x.1.length:Int)∧List.take x_1.toNat x.1=List.take x_1.toNat x.2→(decide (x_1<(↑x.1.length:Int))=true→0≤x_1∧x_1<(↑x.1.length:Int)∧0≤x_1∧x_1<(↑x.2.length:Int)∧((!(decide ((x.1.getD x_1.toNat (0,0)).1=(x.2.getD x_1.toNat (0,0)).1)&&decide ((x.1.getD x_1.toNat (0,0)).2=(x.2.getD x_1.toNat (0,0)).2)))=true→false=decide (x.1=x.2)∧True)∧((!(decide ((x.1.getD x_1.toNat (0,0)).1=(x.2.getD x_1.toNat (0,0)).1)&&decide ((x.1.getD x_1.toNat (0,0)).2=(x.2.getD x_1.toNat (0,0)).2)))=false→ao .i64 (x_1+1)∧(x.1.length=x.2.length∧0≤x_1+1∧x_1+1≤(↑x.1.length:Int)∧List.take (x_1+1).toNat x.1=List.take (x_1+1).toNat x.2)∧((↑x.1.length:Int) - (x_1+1)).toNat<((↑x.1.length:Int) - x_1).toNat))∧(decide (x_1<(↑x.1.length:Int))=false→true=decide (x.1=x.2)∧True))
theorem mc:i7:=by
 unfold i7
 intro x hw _
 refine ⟨fun h=>?_,fun h=>?_⟩
 ·have h:x.1.length≠x.2.length:=by have:=of_decide_eq_true h; omega
  have:x.1≠x.2:=fun e=>h (by rw [e])
  simp [this]
 have hl:x.1.length=x.2.length:=by have:=of_decide_eq_false h; omega
 refine ⟨⟨hl,by omega,by omega,by simp⟩,fun i ⟨_,h0,h1,ht⟩=>⟨fun hlt=>?_,fun hge=>?_⟩⟩
 ·have hlt:i<x.1.length:=by simpa using hlt
  rw [rx]
  refine ⟨h0,hlt,h0,by omega,fun hne=>?_,fun he=>?_⟩
  ·have hne:x.1.getD i.toNat (0,0)≠x.2.getD i.toNat (0,0):=by simpa using hne
   have:x.1≠x.2:=fun e=>hne (by rw [e])
   simp [this]
  ·have he:x.1.getD i.toNat (0,0)=x.2.getD i.toNat (0,0):=by simpa using he
   have hb:=hw.1.1
   unfold bb at hb
   refine ⟨by simp only [ao]; omega,⟨hl,by omega,by omega,?_⟩,by omega⟩
   rw [show (i+1).toNat=i.toNat+1 by omega]
   exact ks hl (by omega) ht he
 ·have hge:¬ i<x.1.length:=by simpa using hge
  have hi:i.toNat=x.1.length:=by omega
  rw [hi,List.take_of_length_le (Nat.le_refl _),List.take_of_length_le (by omega)] at ht
  simp [ht]
theorem nB:nr.ok Tryd.prog 11:=ce (ann:=oa) aI Tryd.func11 (by kernel_rfl) mc
def pL:Spec:={ Ts:=[ar,.ref (.arr bT)],Rs:=[.dat .bool],pre:=fun ((k,m):Int×List Int)=>0≤k∧k / 64<m.length,F:=fun ((k,m):Int×List Int)=>aa m k }
def mE:Prop :=
  ∀ (x:Int×List Int),(ao .i64 x.1∧x.2.length * 8≤bb∧∀ (x_1:Int),x_1∈x.2→ao .u64 x_1)→0≤x.1∧x.1 / 64<(↑x.2.length:Int)→(0≤x.1∧x.1 / 64<(↑x.2.length:Int))∧aa x.2 x.1=aa x.2 x.1∧True
theorem oZ:mE:=by
 unfold mE
 intro ⟨k,m⟩ _ ⟨h0,h1⟩
 exact ⟨⟨h0,h1⟩,rfl,trivial⟩
theorem pY:pL.ok Tryd.prog 13:=ce (ann:=ko) (am d6 aI) Tryd.func13 (by kernel_rfl) oZ
def pK:Spec:={ Ts:=[ar,.ref ar,.ref ar],Rs:=[.dat .bool],pre:=fun ((_,a,d):Int×Int×Int)=>ao .i64 (a+d),F:=fun ((k,a,d):Int×Int×Int)=>decide (a≤k)&&decide (k<a+d) }
def mD:Prop :=
  ∀ (x:Int×Int×Int),ao .i64 x.1∧ao .i64 x.2.1∧ao .i64 x.2.2→ao .i64 (x.2.1+x.2.2)→(decide (x.2.1≤x.1)=true→ao .i64 (x.2.1+x.2.2))∧(decide (x.2.1≤x.1)&&decide (x.1<x.2.1+x.2.2))=(decide (x.2.1≤x.1)&&decide (x.1<x.2.1+x.2.2))∧True
theorem oY:mD:=by
 unfold mD
 intro ⟨k,a,d⟩ _ h
 exact ⟨fun _=>h,rfl,trivial⟩
theorem pX:pK.ok Tryd.prog 16:=ce (ann:=ko) aI Tryd.func16 (by kernel_rfl) oY
def pJ:Spec:={ Ts:=[ar,.ref (.fn ar .bool),.ref .bool,.ref (.arr bT)],Rs:=[.dat .bool],pre:=fun ((k,g,_,m):Int×((Int→Prop)×(Int→Bool))×Bool×List Int)=>g.1 k∧0≤k∧k / 64<m.length,F:=fun ((k,g,on,m):Int×((Int→Prop)×(Int→Bool))×Bool×List Int)=>g.2 k&&on||!(g.2 k)&&aa m k }
def mC:Prop :=
  ∀ (x:Int×((Int→Prop)×(Int→Bool))×Bool×List Int),(ao .i64 x.1∧True∧True∧x.2.2.2.length * 8≤bb∧∀ (x_1:Int),x_1∈x.2.2.2→ao .u64 x_1)→x.2.1.1 x.1∧0≤x.1∧x.1 / 64<(↑x.2.2.2.length:Int)→x.2.1.1 x.1∧((x.2.1.2 x.1&&x.2.2.1)=false→x.2.1.1 x.1)∧((!x.2.1.2 x.1)=true→(x.2.1.2 x.1&&x.2.2.1)=false→0≤x.1∧x.1 / 64<(↑x.2.2.2.length:Int))∧(x.2.1.2 x.1&&x.2.2.1||!x.2.1.2 x.1&&aa x.2.2.2 x.1)=(x.2.1.2 x.1&&x.2.2.1||!x.2.1.2 x.1&&aa x.2.2.2 x.1)∧True
theorem oX:mC:=by
 unfold mC
 intro ⟨k,g,on,m⟩ _ ⟨h,h0,h1⟩
 exact ⟨h,fun _=>h,fun _ _=>⟨h0,h1⟩,rfl,trivial⟩
theorem pW:pJ.ok Tryd.prog 19:=ce (ann:=ko) (am d6 aI) Tryd.func19 (by kernel_rfl) oX
def ix:Nat→Option LoopGen
 | 19=>some { rd:=[.box 5 (.arr bT),.dat 1 ar,.box 7 ar,.box 9 .bool],A:=fun ((m,n,a,on):List Int×Int×Int×Bool)=>{ cs:=[.dat 23 ar],inv:=fun (k:Int)=>a≤k∧k≤n∧∀ j,a≤j→j<k→aa m j=!on,mu:=fun (k:Int)=>(n - k).toNat } }
 | 27=>some { rd:=[.box 5 (.arr bT),.box 7 ar,.dat 222 ar],A:=fun ((m,a,d):List Int×Int×Int)=>{ cs:=[.dat 24 ar,.dat 223 ar],inv:=fun ((c,i):Int×Int)=>0≤i∧i≤d∧0≤c∧c≤i∧c+bF (fun k=>aa m k) (d - i).toNat (a+i)=bF (fun k=>aa m k) d.toNat a,mu:=fun ((_,i):Int×Int)=>(d - i).toNat } }
 | _=>none
def io:Spec:=pM [.arr bT,ar,ar,ar,.bool]
def eo:Prop :=
  ∀ (x:List Int×Int×Int×Int×Bool),(x.1.length * 8≤bb∧∀ (x_1:Int),x_1∈x.1→ao .u64 x_1)∧ao .i64 x.2.1∧ao .i64 x.2.2.1∧ao .i64 x.2.2.2.1∧True→(x.1.length * 8≤140737488351232∧∀ (x_1:Int),x_1∈x.1→cJ bT x_1)∧True∧True∧True∧True→True∧True∧True∧True∧True∧True∧True∧(decide (ae x.1 x.2.1≠ae x.1 x.2.1)=true→false=true∧True)∧(decide (ae x.1 x.2.1≠ae x.1 x.2.1)=false→(decide (ae x.1 x.2.1≠0)=true→(decide ((↑(cN x.1 x.2.1 x.2.2.1 x.2.2.2.1 x.2.2.2.2).1.length:Int)=0)&&decide ((cN x.1 x.2.1 x.2.2.1 x.2.2.2.1 x.2.2.2.2).2=ae x.1 x.2.1)&&!(dn x.1 x.2.1 x.2.2.1).1&&decide ((dn x.1 x.2.1 x.2.2.1).2=ae x.1 x.2.1)&&decide ((bw x.1 x.2.1 x.2.2.1 x.2.2.2.2).1=0)&&!(bw x.1 x.2.1 x.2.2.1 x.2.2.2.2).2.1&&decide ((bw x.1 x.2.1 x.2.2.1 x.2.2.2.2).2.2=ae x.1 x.2.1)&&decide ((aG x.1 x.2.1 x.2.2.1 x.2.2.2.1).1=0)&&decide ((aG x.1 x.2.1 x.2.2.1 x.2.2.2.1).2=ae x.1 x.2.1)&&decide ((↑(cP x.1 x.2.1).1.length:Int)=0)&&decide ((cP x.1 x.2.1).2=ae x.1 x.2.1))=true∧True)∧(decide (ae x.1 x.2.1≠0)=false→(decide ((cP x.1 x.2.1).2≠0)=false→0≤x.2.1∧x.2.1≤300∧∀ (i:Int),0≤i→i<x.2.1→(fun (x_1:Int)=>0≤x_1∧x_1 / 64<(↑x.1.length:Int),fun (x_1:Int)=>aa x.1 x_1).1 i)∧(decide ((cP x.1 x.2.1).2≠0)=false→True)∧((decide ((cP x.1 x.2.1).2≠0)||!decide ((cP x.1 x.2.1).1=aC (fun (x_1:Int)=>aa x.1 x_1) x.2.1.toNat 0 ([]:List (Int×Int))))=true→false=true∧True)∧((decide ((cP x.1 x.2.1).2≠0)||!decide ((cP x.1 x.2.1).1=aC (fun (x_1:Int)=>aa x.1 x_1) x.2.1.toNat 0 ([]:List (Int×Int))))=false→True∧((!ai x.2.1 x.2.2.1 1&&((dn x.1 x.2.1 x.2.2.1).1||decide ((dn x.1 x.2.1 x.2.2.1).2≠4)))=false→True)∧(ai x.2.1 x.2.2.1 1=true→(!ai x.2.1 x.2.2.1 1&&((dn x.1 x.2.1 x.2.2.1).1||decide ((dn x.1 x.2.1 x.2.2.1).2≠4)))=false→0≤x.2.2.1∧x.2.2.1 / 64<(↑x.1.length:Int))∧((!ai x.2.1 x.2.2.1 1&&((dn x.1 x.2.1 x.2.2.1).1||decide ((dn x.1 x.2.1 x.2.2.1).2≠4))||ai x.2.1 x.2.2.1 1&&(!(dn x.1 x.2.1 x.2.2.1).1 == aa x.1 x.2.2.1||decide ((dn x.1 x.2.1 x.2.2.1).2≠0)))=true→false=true∧True)∧((!ai x.2.1 x.2.2.1 1&&((dn x.1 x.2.1 x.2.2.1).1||decide ((dn x.1 x.2.1 x.2.2.1).2≠4))||ai x.2.1 x.2.2.1 1&&(!(dn x.1 x.2.1 x.2.2.1).1 == aa x.1 x.2.2.1||decide ((dn x.1 x.2.1 x.2.2.1).2≠0)))=false→True∧((!ai x.2.1 x.2.2.1 0)=true→((decide ((bw x.1 x.2.1 x.2.2.1 x.2.2.2.2).1≠0)||(bw x.1 x.2.1 x.2.2.1 x.2.2.2.2).2.1||decide ((bw x.1 x.2.1 x.2.2.1 x.2.2.2.2).2.2≠4))=true→false=true∧True)∧((decide ((bw x.1 x.2.1 x.2.2.1 x.2.2.2.2).1≠0)||(bw x.1 x.2.1 x.2.2.1 x.2.2.2.2).2.1||decide ((bw x.1 x.2.1 x.2.2.1 x.2.2.2.2).2.2≠4))=false→True∧((!ai x.2.1 x.2.2.1 x.2.2.2.1)=true→(decide ((↑(cN x.1 x.2.1 x.2.2.1 x.2.2.2.1 x.2.2.2.2).1.length:Int)=0)&&decide ((cN x.1 x.2.1 x.2.2.1 x.2.2.2.1 x.2.2.2.2).2=4)&&decide ((aG x.1 x.2.1 x.2.2.1 x.2.2.2.1).1=0)&&decide ((aG x.1 x.2.1 x.2.2.1 x.2.2.2.1).2=4))=true∧True)∧((!ai x.2.1 x.2.2.1 x.2.2.2.1)=false→((0:Int)≤0∧0≤x.2.2.2.1∧(0:Int)≤0∧(0:Int)≤0∧0+bF (fun (k:Int)=>aa x.1 k) (x.2.2.2.1 - 0).toNat (x.2.2.1+0)=bF (fun (k:Int)=>aa x.1 k) x.2.2.2.1.toNat x.2.2.1)∧∀ (x_1:Int×Int),0≤x_1.2∧x_1.2≤x.2.2.2.1∧0≤x_1.1∧x_1.1≤x_1.2∧x_1.1+bF (fun (k:Int)=>aa x.1 k) (x.2.2.2.1 - x_1.2).toNat (x.2.2.1+x_1.2)=bF (fun (k:Int)=>aa x.1 k) x.2.2.2.1.toNat x.2.2.1→(decide (x_1.2<x.2.2.2.1)=true→ao .i64 (x.2.2.1+x_1.2)∧(0≤x.2.2.1+x_1.2∧(x.2.2.1+x_1.2) / 64<(↑x.1.length:Int))∧(aa x.1 (x.2.2.1+x_1.2)=true→ao .i64 (x_1.1+1)∧ao .i64 (x_1.2+1)∧(0≤x_1.2+1∧x_1.2+1≤x.2.2.2.1∧0≤x_1.1+1∧x_1.1+1≤x_1.2+1∧x_1.1+1+bF (fun (k:Int)=>aa x.1 k) (x.2.2.2.1 - (x_1.2+1)).toNat (x.2.2.1+(x_1.2+1))=bF (fun (k:Int)=>aa x.1 k) x.2.2.2.1.toNat x.2.2.1)∧(x.2.2.2.1 - (x_1.2+1)).toNat<(x.2.2.2.1 - x_1.2).toNat)∧(aa x.1 (x.2.2.1+x_1.2)=false→ao .i64 (x_1.2+1)∧(0≤x_1.2+1∧x_1.2+1≤x.2.2.2.1∧0≤x_1.1∧x_1.1≤x_1.2+1∧x_1.1+bF (fun (k:Int)=>aa x.1 k) (x.2.2.2.1 - (x_1.2+1)).toNat (x.2.2.1+(x_1.2+1))=bF (fun (k:Int)=>aa x.1 k) x.2.2.2.1.toNat x.2.2.1)∧(x.2.2.2.1 - (x_1.2+1)).toNat<(x.2.2.2.1 - x_1.2).toNat))∧(decide (x_1.2<x.2.2.2.1)=false→((decide ((aG x.1 x.2.1 x.2.2.1 x.2.2.2.1).1=x_1.1)&&decide ((aG x.1 x.2.1 x.2.2.1 x.2.2.2.1).2=0)&&decide ((cN x.1 x.2.1 x.2.2.1 x.2.2.2.1 x.2.2.2.2).2=0))=true→0≤x.2.1∧x.2.1≤300∧∀ (i:Int),0≤i→i<x.2.1→(fun (x_2:Int)=>(fun (x_3:Int)=>ao .i64 (x.2.2.1+x.2.2.2.1),fun (x_3:Int)=>decide (x.2.2.1≤x_3)&&decide (x_3<x.2.2.1+x.2.2.2.1)).1 x_2∧0≤x_2∧x_2 / 64<(↑x.1.length:Int),fun (x_2:Int)=>(fun (x_3:Int)=>ao .i64 (x.2.2.1+x.2.2.2.1),fun (x_3:Int)=>decide (x.2.2.1≤x_3)&&decide (x_3<x.2.2.1+x.2.2.2.1)).2 x_2&&x.2.2.2.2||!(fun (x_3:Int)=>ao .i64 (x.2.2.1+x.2.2.2.1),fun (x_3:Int)=>decide (x.2.2.1≤x_3)&&decide (x_3<x.2.2.1+x.2.2.2.1)).2 x_2&&aa x.1 x_2).1 i)∧((decide ((aG x.1 x.2.1 x.2.2.1 x.2.2.2.1).1=x_1.1)&&decide ((aG x.1 x.2.1 x.2.2.1 x.2.2.2.1).2=0)&&decide ((cN x.1 x.2.1 x.2.2.1 x.2.2.2.1 x.2.2.2.2).2=0))=true→True)∧(decide ((aG x.1 x.2.1 x.2.2.1 x.2.2.2.1).1=x_1.1)&&decide ((aG x.1 x.2.1 x.2.2.1 x.2.2.2.1).2=0)&&decide ((cN x.1 x.2.1 x.2.2.1 x.2.2.2.1 x.2.2.2.2).2=0)&&decide ((cN x.1 x.2.1 x.2.2.1 x.2.2.2.1 x.2.2.2.2).1=gG x.2.1.toNat (fun (x_2:Int)=>(fun (x_3:Int)=>ao .i64 (x.2.2.1+x.2.2.2.1),fun (x_3:Int)=>decide (x.2.2.1≤x_3)&&decide (x_3<x.2.2.1+x.2.2.2.1)).2 x_2&&x.2.2.2.2||!(fun (x_3:Int)=>ao .i64 (x.2.2.1+x.2.2.2.1),fun (x_3:Int)=>decide (x.2.2.1≤x_3)&&decide (x_3<x.2.2.1+x.2.2.2.1)).2 x_2&&aa x.1 x_2) 0))=true∧True))))∧((!ai x.2.1 x.2.2.1 0)=false→(x.2.2.1≤x.2.2.1∧x.2.2.1≤x.2.1∧∀ (j:Int),x.2.2.1≤j→j<x.2.2.1→aa x.1 j=!x.2.2.2.2)∧∀ (x_1:Int),(x.2.2.1≤x_1∧x_1≤x.2.1∧∀ (j:Int),x.2.2.1≤j→j<x_1→aa x.1 j=!x.2.2.2.2)→(decide (x_1<x.2.1)=true→0≤x_1∧x_1 / 64<(↑x.1.length:Int))∧((decide (x_1<x.2.1)&&!aa x.1 x_1 == x.2.2.2.2)=true→ao .i64 (x_1+1)∧(x.2.2.1≤x_1+1∧x_1+1≤x.2.1∧∀ (j:Int),x.2.2.1≤j→j<x_1+1→aa x.1 j=!x.2.2.2.2)∧(x.2.1 - (x_1+1)).toNat<(x.2.1 - x_1).toNat)∧((decide (x_1<x.2.1)&&!aa x.1 x_1 == x.2.2.2.2)=false→((decide ((bw x.1 x.2.1 x.2.2.1 x.2.2.2.2).1≠x_1)||!(bw x.1 x.2.1 x.2.2.1 x.2.2.2.2).2.1 == decide (x_1<x.2.1)||decide ((bw x.1 x.2.1 x.2.2.1 x.2.2.2.2).2.2≠0))=true→false=true∧True)∧((decide ((bw x.1 x.2.1 x.2.2.1 x.2.2.2.2).1≠x_1)||!(bw x.1 x.2.1 x.2.2.1 x.2.2.2.2).2.1 == decide (x_1<x.2.1)||decide ((bw x.1 x.2.1 x.2.2.1 x.2.2.2.2).2.2≠0))=false→True∧((!ai x.2.1 x.2.2.1 x.2.2.2.1)=true→(decide ((↑(cN x.1 x.2.1 x.2.2.1 x.2.2.2.1 x.2.2.2.2).1.length:Int)=0)&&decide ((cN x.1 x.2.1 x.2.2.1 x.2.2.2.1 x.2.2.2.2).2=4)&&decide ((aG x.1 x.2.1 x.2.2.1 x.2.2.2.1).1=0)&&decide ((aG x.1 x.2.1 x.2.2.1 x.2.2.2.1).2=4))=true∧True)∧((!ai x.2.1 x.2.2.1 x.2.2.2.1)=false→((0:Int)≤0∧0≤x.2.2.2.1∧(0:Int)≤0∧(0:Int)≤0∧0+bF (fun (k:Int)=>aa x.1 k) (x.2.2.2.1 - 0).toNat (x.2.2.1+0)=bF (fun (k:Int)=>aa x.1 k) x.2.2.2.1.toNat x.2.2.1)∧∀ (x_2:Int×Int),0≤x_2.2∧x_2.2≤x.2.2.2.1∧0≤x_2.1∧x_2.1≤x_2.2∧x_2.1+bF (fun (k:Int)=>aa x.1 k) (x.2.2.2.1 - x_2.2).toNat (x.2.2.1+x_2.2)=bF (fun (k:Int)=>aa x.1 k) x.2.2.2.1.toNat x.2.2.1→(decide (x_2.2<x.2.2.2.1)=true→ao .i64 (x.2.2.1+x_2.2)∧(0≤x.2.2.1+x_2.2∧(x.2.2.1+x_2.2) / 64<(↑x.1.length:Int))∧(aa x.1 (x.2.2.1+x_2.2)=true→ao .i64 (x_2.1+1)∧ao .i64 (x_2.2+1)∧(0≤x_2.2+1∧x_2.2+1≤x.2.2.2.1∧0≤x_2.1+1∧x_2.1+1≤x_2.2+1∧x_2.1+1+bF (fun (k:Int)=>aa x.1 k) (x.2.2.2.1 - (x_2.2+1)).toNat (x.2.2.1+(x_2.2+1))=bF (fun (k:Int)=>aa x.1 k) x.2.2.2.1.toNat x.2.2.1)∧(x.2.2.2.1 - (x_2.2+1)).toNat<(x.2.2.2.1 - x_2.2).toNat)∧(aa x.1 (x.2.2.1+x_2.2)=false→ao .i64 (x_2.2+1)∧(0≤x_2.2+1∧x_2.2+1≤x.2.2.2.1∧0≤x_2.1∧x_2.1≤x_2.2+1∧x_2.1+bF (fun (k:Int)=>aa x.1 k) (x.2.2.2.1 - (x_2.2+1)).toNat (x.2.2.1+(x_2.2+1))=bF (fun (k:Int)=>aa x.1 k) x.2.2.2.1.toNat x.2.2.1)∧(x.2.2.2.1 - (x_2.2+1)).toNat<(x.2.2.2.1 - x_2.2).toNat))∧(decide (x_2.2<x.2.2.2.1)=false→((decide ((aG x.1 x.2.1 x.2.2.1 x.2.2.2.1).1=x_2.1)&&decide ((aG x.1 x.2.1 x.2.2.1 x.2.2.2.1).2=0)&&decide ((cN x.1 x.2.1 x.2.2.1 x.2.2.2.1 x.2.2.2.2).2=0))=true→0≤x.2.1∧x.2.1≤300∧∀ (i:Int),0≤i→i<x.2.1→(fun (x_3:Int)=>(fun (x_4:Int)=>ao .i64 (x.2.2.1+x.2.2.2.1),fun (x_4:Int)=>decide (x.2.2.1≤x_4)&&decide (x_4<x.2.2.1+x.2.2.2.1)).1 x_3∧0≤x_3∧x_3 / 64<(↑x.1.length:Int),fun (x_3:Int)=>(fun (x_4:Int)=>ao .i64 (x.2.2.1+x.2.2.2.1),fun (x_4:Int)=>decide (x.2.2.1≤x_4)&&decide (x_4<x.2.2.1+x.2.2.2.1)).2 x_3&&x.2.2.2.2||!(fun (x_4:Int)=>ao .i64 (x.2.2.1+x.2.2.2.1),fun (x_4:Int)=>decide (x.2.2.1≤x_4)&&decide (x_4<x.2.2.1+x.2.2.2.1)).2 x_3&&aa x.1 x_3).1 i)∧((decide ((aG x.1 x.2.1 x.2.2.1 x.2.2.2.1).1=x_2.1)&&decide ((aG x.1 x.2.1 x.2.2.1 x.2.2.2.1).2=0)&&decide ((cN x.1 x.2.1 x.2.2.1 x.2.2.2.1 x.2.2.2.2).2=0))=true→True)∧(decide ((aG x.1 x.2.1 x.2.2.1 x.2.2.2.1).1=x_2.1)&&decide ((aG x.1 x.2.1 x.2.2.1 x.2.2.2.1).2=0)&&decide ((cN x.1 x.2.1 x.2.2.1 x.2.2.2.1 x.2.2.2.2).2=0)&&decide ((cN x.1 x.2.1 x.2.2.1 x.2.2.2.1 x.2.2.2.2).1=gG x.2.1.toNat (fun (x_3:Int)=>(fun (x_4:Int)=>ao .i64 (x.2.2.1+x.2.2.2.1),fun (x_4:Int)=>decide (x.2.2.1≤x_4)&&decide (x_4<x.2.2.1+x.2.2.2.1)).2 x_3&&x.2.2.2.2||!(fun (x_4:Int)=>ao .i64 (x.2.2.1+x.2.2.2.1),fun (x_4:Int)=>decide (x.2.2.1≤x_4)&&decide (x_4<x.2.2.1+x.2.2.2.1)).2 x_3&&aa x.1 x_3) 0))=true∧True)))))))))
theorem gu:eo:=by
 unfold eo
 intro ⟨m,n,at_,long,on⟩ ⟨⟨_,hw⟩,hn,ha,hl,_⟩ _
 have hw:lZ m:=gI hw
 simp only [ao] at hn ha hl ⊢
 refine ⟨trivial,trivial,trivial,trivial,trivial,trivial,trivial,fun hc=>by simp at hc,fun _=>⟨fun hb=>?_,fun hb=>?_⟩⟩
 ·have hb:=of_decide_eq_true hb
  simp [cN,dn,bw,aG,cP,aH,hb]
 have hz:ae m n=0:=by simpa using of_decide_eq_false hb
 obtain ⟨n0,n1,n2,_⟩:=bn hz
 have hs:∀ a l,aH m n a l=if ai n a l=true then 0 else 4:=fun a l=>by
  have h1:=cI n a l
  unfold aH
  rw [if_neg (by omega)]
  by_cases c:ai n a l=true
  ·rw [if_pos c,if_neg (by have:=h1.1 c; omega)]
  ·rw [if_neg c,if_pos]
   have h2:¬ (0≤l∧0≤a∧a≤n∧l≤n - a):=fun q=>c (h1.2 q)
   omega
 have e1:cP m n=(aC (fun k=>aa m k) n.toNat 0 [],0):=by unfold cP; rw [if_neg (by omega)]
 have e2:dn m n at_=if ai n at_ 1=true then (aa m at_,0) else (false,4):=by unfold dn; rw [hs]; split <;> simp
 have e3:bw m n at_ on=if ai n at_ 0=true then (af m n at_ on,decide (af m n at_ on<n),0) else (0,false,4):=by unfold bw; rw [hs]; split <;> simp
 have e4:aG m n at_ long=if ai n at_ long=true then (bF (fun k=>aa m k) long.toNat at_,0) else (0,4):=by unfold aG; rw [hs]; split <;> simp
 have e5:cN m n at_ long on=if ai n at_ long=true then (dQ m at_ on long.toNat,0) else ([],4):=by unfold cN; rw [hs]; split <;> simp
 have s1:=cI n at_ 1
 have s0:=cI n at_ 0
 have sl:=cI n at_ long
 have hsame:=fun h g=>pN hw (n:=n) (at_:=at_) (long:=long) on h g
 rw [e1,e2,e3,e4,e5]
 clear e1 e2 e3 e4 e5 hb
 refine ⟨fun _=>⟨n0,by omega,fun i i0 i1=>⟨i0,by omega⟩⟩,fun _=>trivial,fun hc=>by simp at hc,fun _=>⟨trivial,fun _=>trivial,fun h _=>by have:=s1.1 h; omega,fun hc=>?_,fun _=>⟨trivial,fun hc=>⟨fun hd=>?_,fun _=>⟨trivial,?_,?_⟩⟩,fun hc=>⟨⟨by omega,?_,fun j j1 j2=>by omega⟩,fun k ⟨k0,k1,k2⟩=>⟨fun hlt=>?_,fun hlt=>?_,fun hge=>⟨fun hd=>?_,fun _=>⟨trivial,?_,?_⟩⟩⟩⟩⟩⟩⟩
 ·exfalso
  cases c:ai n at_ 1 <;> simp [c] at hc
 ·exfalso
  have c:ai n at_ 0=false:=by simpa using hc
  simp [c] at hd
 rotate_left 2
 ·have:=s0.1 (by simpa using hc)
  omega
 ·have:=of_decide_eq_true hlt
  have:=s0.1 (by simpa using hc)
  omega
 ·simp only [Bool.and_eq_true,decide_eq_true_eq] at hlt
  have:=s0.1 (by simpa using hc)
  refine ⟨by omega,⟨by omega,by omega,fun j j1 j2=>?_⟩,by omega⟩
  by_cases e:j=k
  ·have h9:=hlt.2
   rw [e]
   revert h9
   cases aa m k <;> cases on <;> simp
  ·exact k2 j j1 (by omega)
 ·exfalso
  have c:ai n at_ 0=true:=by simpa using hc
  have e:af m n at_ on=k:=fY m on k0 k1 k2 fun h=>by
   rw [decide_eq_true h,Bool.true_and] at hge
   revert hge
   cases aa m k <;> cases on <;> simp
  simp [c,e] at hd
 all_goals first
  | (intro hc
     have c:ai n at_ long=false:=by simpa using hc
     simp [c]; done)
  | (intro hc
     have c:ai n at_ long=true:=by simpa using hc
     have hc:=sl.1 c
     have hspot:aH m n at_ long=0:=by rw [hs,if_pos c]
     have hsame:=hsame hspot
     rw [if_pos c,if_pos c]
     refine ⟨⟨by omega,by omega,by omega,by omega,by simp⟩,fun ⟨s,i⟩ ⟨i0,i1,c0,c1,c2⟩=>⟨fun hlt=>?_,fun hge=>?_⟩⟩
     ·have hlt:=of_decide_eq_true hlt
      simp only at i0 i1 c0 c1 c2 hlt ⊢
      rw [show (long - i).toNat=(long - (i+1)).toNat+1 by omega,bF,show at_+i+1=at_+(i+1) by omega] at c2
      refine ⟨by omega,⟨by omega,by omega⟩,fun hb=>⟨by omega,by omega,⟨by omega,by omega,by omega,by omega,?_⟩,by omega⟩,fun hb=>⟨by omega,⟨by omega,by omega,by omega,by omega,?_⟩,by omega⟩⟩
      ·rw [if_pos hb] at c2; omega
      ·rw [if_neg (by rw [hb]; simp)] at c2; omega
     ·have hge:=of_decide_eq_false hge
      simp only at i0 i1 c0 c1 c2 hge ⊢
      rw [show (long - i).toNat=0 by omega,bF,Int.add_zero] at c2
      refine ⟨fun _=>⟨n0,by omega,fun k h1 h2=>⟨by omega,h1,by omega⟩⟩,fun _=>trivial,?_,trivial⟩
      rw [hsame (fun k=>decide (at_≤k)&&decide (k<at_+long)&&on||!(decide (at_≤k)&&decide (k<at_+long))&&aa m k) ?_]
      ·simp [c2]
      ·intro k _ _
       by_cases q:at_≤k∧k<at_+long
       ·rw [if_pos q,decide_eq_true q.1,decide_eq_true q.2]; simp
       ·rw [if_neg q]
        have q2:(decide (at_≤k)&&decide (k<at_+long))=false:=by
         apply Bool.eq_false_iff.2
         intro h
         simp only [Bool.and_eq_true,decide_eq_true_eq] at h
         exact q h
        rw [q2]; simp)
theorem ip:io.ok Tryd.prog 3:=ce (ann:=ix) (am ny (am mI (am mH (am lr (am mG (am jb (am d5 (am nB (am pd (am pY (am d6 (am jX (am pX (am nA (am mJ (am pW aI)))))))))))))))) Tryd.func3 (by kernel_rfl) gu
end Go.Proofs.YtcnoiiohmpgckaaDoor
