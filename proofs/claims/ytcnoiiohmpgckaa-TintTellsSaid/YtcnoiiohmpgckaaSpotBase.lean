
import Derived.Test.YtcnoiiohmpgckaaSpotPure
import Derived.Test.YtcnoiiohmpgckaaWords
namespace Go.Proofs.Ytcnoiiohmpgckaa
open Go
set_option maxRecDepth 100000
set_option maxHeartbeats 1000000
theorem wi {m:List Int} (h:∀ x∈m,aj .u64 x):vr m:=fun x hx=>by
 have:=h x hx
 simp only [aj] at this
 omega
theorem uW (m:List Int) (n:Int):bq m n=0∨bq m n=3∨bq m n=4:=by
 unfold bq
 split
 ·simp
 ·split
  ·simp
  ·split <;> simp
def pA:Spec:={ Ts:=[.arr aM,ty_I],Rs:=[.dat ty_I],pre:=fun _=>True,F:=fun ((m,n):List Int×Int)=>bq m n }
def i9:Prop :=
  ∀ (x:List Int×Int),(x.1.length * 8≤aI∧∀ (x_1:Int),x_1∈x.1→aj .u64 x_1)∧aj .i64 x.2→True→((decide (x.2<0)||decide (256<x.2))=true→4=bq x.1 x.2∧True)∧((decide (x.2<0)||decide (256<x.2))=false→aj .i64 (x.2+63)∧0≤x.2+63∧(0:Int)<64∧(decide ((↑x.1.length:Int)≠(x.2+63) / 64)=true→3=bq x.1 x.2∧True)∧(decide ((↑x.1.length:Int)≠(x.2+63) / 64)=false→0≤x.2∧(0:Int)<64∧(decide (x.2 % 64≠0)=true→aj .i64 ((↑x.1.length:Int) - 1))∧(decide (x.2 % 64≠0)=true→0≤(↑x.1.length:Int) - 1)∧(decide (x.2 % 64≠0)=true→(↑x.1.length:Int) - 1<(↑x.1.length:Int))∧(decide (x.2 % 64≠0)=true→0≤x.2)∧(decide (x.2 % 64≠0)=true→(0:Int)<64)∧(decide (x.2 % 64≠0)=true→0≤x.2 % 64)∧(decide (x.2 % 64≠0)=true→x.2 % 64<(↑IntKind.u64.bits:Int))∧((decide (x.2 % 64≠0)&&decide (x.1.getD ((↑x.1.length:Int) - 1).toNat 0 / 2 ^ (x.2 % 64).toNat≠0))=true→3=bq x.1 x.2∧True)∧((decide (x.2 % 64≠0)&&decide (x.1.getD ((↑x.1.length:Int) - 1).toNat 0 / 2 ^ (x.2 % 64).toNat≠0))=false→0=bq x.1 x.2∧True)))
theorem np:i9:=by
 unfold i9
 intro ⟨m,n⟩ ⟨⟨hb,hw⟩,hn⟩ _
 simp only [aj,aI,wQ] at hn hb ⊢
 refine ⟨fun hc=>?_,fun hc=>?_⟩
 ·simp only [Bool.or_eq_true,decide_eq_true_eq] at hc
  unfold bq
  rw [if_pos hc]
  exact ⟨rfl,trivial⟩
 simp only [Bool.or_eq_false_iff,decide_eq_false_iff_not] at hc
 refine ⟨by omega,by omega,by omega,fun hl=>?_,fun hl=>?_⟩
 ·have hl:=of_decide_eq_true hl
  unfold bq
  rw [if_neg (by omega),if_pos hl]
  exact ⟨rfl,trivial⟩
 have hl:=of_decide_eq_false hl
 have hL:∀ h:decide (n % 64≠0)=true,0<(m.length:Int):=fun h=>by
  have h:=of_decide_eq_true h
  omega
 refine ⟨by omega,by omega,fun h=>by have:=hL h; omega,fun h=>by have:=hL h; omega,fun h=>by omega,fun _=>by omega,fun _=>by omega,fun _=>by omega,fun _=>by omega,fun h=>?_,fun h=>?_⟩
 ·simp only [Bool.and_eq_true,decide_eq_true_eq] at h
  rw [show ((m.length:Int) - 1).toNat=m.length - 1 by omega] at h
  unfold bq
  rw [if_neg (by omega),if_neg (by omega),if_pos h]
  exact ⟨rfl,trivial⟩
 ·unfold bq
  rw [if_neg (by omega),if_neg (by omega),if_neg]
  ·exact ⟨rfl,trivial⟩
  ·intro h2
   rw [show ((m.length:Int) - 1).toNat=m.length - 1 by omega,decide_eq_true h2.1,decide_eq_true h2.2] at h
   cases h
theorem pU:pA.ok Try.prog 208:=bg (ann:=gr) aD Try.func208 (by kernel_rfl) np
def lP:Spec:={ Ts:=[.arr aM,ty_I,ty_I,ty_I],Rs:=[.dat ty_I],pre:=fun _=>True,F:=fun ((m,n,at_,long):List Int×Int×Int×Int)=>de m n at_ long }
def gG:Prop :=
  ∀ (x:List Int×Int×Int×Int),(x.1.length * 8≤aI∧∀ (x_1:Int),x_1∈x.1→aj .u64 x_1)∧aj .i64 x.2.1∧aj .i64 x.2.2.1∧aj .i64 x.2.2.2→True→True∧((decide (x.2.2.2<0)||decide (x.2.2.1<0)||decide (x.2.1<x.2.2.1))=false→decide (bq x.1 x.2.1=0)=true→aj .i64 (x.2.1 - x.2.2.1))∧((decide (bq x.1 x.2.1=0)&&(decide (x.2.2.2<0)||decide (x.2.2.1<0)||decide (x.2.1<x.2.2.1)||decide (x.2.1 - x.2.2.1<x.2.2.2)))=true→4=de x.1 x.2.1 x.2.2.1 x.2.2.2∧True)∧((decide (bq x.1 x.2.1=0)&&(decide (x.2.2.2<0)||decide (x.2.2.1<0)||decide (x.2.1<x.2.2.1)||decide (x.2.1 - x.2.2.1<x.2.2.2)))=false→bq x.1 x.2.1=de x.1 x.2.1 x.2.2.1 x.2.2.2∧True)
theorem lf:gG:=by
 unfold gG
 intro ⟨m,n,at_,long⟩ ⟨_,hn,ha,hl⟩ _
 simp only [aj] at hn ha hl ⊢
 have h0:=uW m n
 refine ⟨trivial,fun h1 h2=>?_,fun h=>?_,fun h=>?_⟩
 ·have hz:=of_decide_eq_true h2
  obtain ⟨z1,z2,_⟩:=et hz
  simp only [Bool.or_eq_false_iff,decide_eq_false_iff_not] at h1
  omega
 ·simp only [Bool.and_eq_true,Bool.or_eq_true,decide_eq_true_eq] at h
  unfold de
  rw [if_neg (by omega),if_pos (by omega)]
  exact ⟨rfl,trivial⟩
 ·unfold de
  by_cases hz:bq m n=0
  ·rw [if_neg (by omega),if_neg]
   ·exact ⟨hz,trivial⟩
   ·intro h2
    have h3:((decide (long<0)||decide (at_<0)||decide (n<at_))||decide (n - at_<long))=true:=by
     simp only [Bool.or_eq_true,decide_eq_true_eq]
     omega
    rw [decide_eq_true hz,h3] at h
    cases h
  ·rw [if_pos hz]
   exact ⟨rfl,trivial⟩
theorem gJ:lP.ok Try.prog 184:=bg (ann:=gr) (ak pU aD) Try.func184 (by kernel_rfl) lf
def sI:Spec:={ Ts:=[.arr aM,ty_I],Rs:=[.dat .bool],pre:=fun ((m,k):List Int×Int)=>0≤k∧k / 64<m.length,F:=fun ((m,k):List Int×Int)=>ev m k }
def mb:Prop :=
  ∀ (x:List Int×Int),(x.1.length * 8≤aI∧∀ (x_1:Int),x_1∈x.1→aj .u64 x_1)∧aj .i64 x.2→0≤x.2∧x.2 / 64<(↑x.1.length:Int)→0≤x.2∧(0:Int)<64∧0≤x.2 / 64∧x.2 / 64<(↑x.1.length:Int)∧0≤x.2∧(0:Int)<64∧0≤x.2 % 64∧x.2 % 64<(↑IntKind.u64.bits:Int)∧decide ((↑((x.1.getD (x.2 / 64).toNat 0 / 2 ^ (x.2 % 64).toNat).toNat &&& Int.toNat 1):Int)=1)=ev x.1 x.2∧True
theorem qH:mb:=by
 unfold mb
 intro ⟨m,k⟩ ⟨⟨_,hw⟩,_⟩ ⟨h0,h1⟩
 have hx:=gO (wi hw) (k / 64).toNat
 simp only [aj,wQ] at h0 h1 ⊢
 refine ⟨h0,by omega,by omega,h1,h0,by omega,by omega,by omega,?_,trivial⟩
 have e:=jm (kZ hx.1 (k % 64).toNat) 1
 rw [show Int.toNat 1=2 ^ 1 - 1 from rfl,e,show (2:Int) ^ 1=2 from rfl,xt hx.1]
 rfl
theorem s8:sI.ok Try.prog 185:=bg (ann:=gr) aD Try.func185 (by kernel_rfl) qH
def da (m:List Int) (n at_:Int):Bool×Int:=if de m n at_ 1≠0 then (false,de m n at_ 1) else (ev m at_,0)
def dl (m:List Int) (n at_ long:Int) (on:Bool):List Int×Int:=if de m n at_ long≠0 then ([],de m n at_ long) else (fJ m at_ on long.toNat,0)
def qX:Spec:={ Ts:=[.arr aM,ty_I,ty_I],Rs:=[.dat .bool,.dat ty_I],pre:=fun _=>True,F:=fun ((m,n,at_):List Int×Int×Int)=>da m n at_ }
def kG:Prop :=
  ∀ (x:List Int×Int×Int),(x.1.length * 8≤aI∧∀ (x_1:Int),x_1∈x.1→aj .u64 x_1)∧aj .i64 x.2.1∧aj .i64 x.2.2→True→True∧(decide (de x.1 x.2.1 x.2.2 (1:Int)≠0)=true→false=(da x.1 x.2.1 x.2.2).1∧de x.1 x.2.1 x.2.2 1=(da x.1 x.2.1 x.2.2).2∧True)∧(decide (de x.1 x.2.1 x.2.2 (1:Int)≠0)=false→(0≤x.2.2∧x.2.2 / 64<(↑x.1.length:Int))∧ev x.1 x.2.2=(da x.1 x.2.1 x.2.2).1∧0=(da x.1 x.2.1 x.2.2).2∧True)
theorem pe:kG:=by
 unfold kG
 intro ⟨m,n,at_⟩ _ _
 simp only [da]
 refine ⟨trivial,fun hc=>?_,fun hc=>?_⟩
 ·rw [if_pos (of_decide_eq_true hc)]
  exact ⟨rfl,rfl,trivial⟩
 ·have hz:de m n at_ 1=0:=by simpa using of_decide_eq_false hc
  rw [if_neg (of_decide_eq_false hc)]
  obtain ⟨z,z1,z2,z3,z4⟩:=iv hz
  obtain ⟨n0,n1,n2,_⟩:=et z
  exact ⟨⟨z2,by omega⟩,rfl,rfl,trivial⟩
theorem ry:qX.ok Try.prog 149:=bg (ann:=gr) (ak gJ (ak s8 aD)) Try.func149 (by kernel_rfl) pe
def sH:Spec:={ Ts:=[.arr aM,ty_I,ty_I,ty_I,.bool],Rs:=[.own 76 aM,.dat ty_I],pre:=fun _=>True,F:=fun ((m,n,at_,long,on):List Int×Int×Int×Int×Bool)=>dl m n at_ long on }
def tP:Nat→Option LoopGen
 | 6=>some { rd:=[.dat 0 (.arr aM),.dat 2 ty_I,.dat 3 ty_I,.dat 4 .bool],wr:=[13],A:=fun ((m,a,d,on):List Int×Int×Int×Bool)=>{ cs:=[.own 13 76 aM,.dat 14 ty_I],inv:=fun ((out,k):List Int×Int)=>a≤k∧k≤a+d∧out=fJ m a on (k - a).toNat,mu:=fun ((_,k):List Int×Int)=>(a+d - k).toNat } }
 | _=>none
def ma:Prop :=
  ∀ (x:List Int×Int×Int×Int×Bool),(x.1.length * 8≤aI∧∀ (x_1:Int),x_1∈x.1→aj .u64 x_1)∧aj .i64 x.2.1∧aj .i64 x.2.2.1∧aj .i64 x.2.2.2.1∧True→True→True∧(decide (de x.1 x.2.1 x.2.2.1 x.2.2.2.1≠0)=true→([]:List Int)=(dl x.1 x.2.1 x.2.2.1 x.2.2.2.1 x.2.2.2.2).1∧de x.1 x.2.1 x.2.2.1 x.2.2.2.1=(dl x.1 x.2.1 x.2.2.1 x.2.2.2.1 x.2.2.2.2).2∧True)∧(decide (de x.1 x.2.1 x.2.2.1 x.2.2.2.1≠0)=false→True∧(x.2.2.1≤x.2.2.1∧x.2.2.1≤x.2.2.1+x.2.2.2.1∧x.1=fJ x.1 x.2.2.1 x.2.2.2.2 (x.2.2.1 - x.2.2.1).toNat)∧∀ (x_1:List Int×Int),x.2.2.1≤x_1.2∧x_1.2≤x.2.2.1+x.2.2.2.1∧x_1.1=fJ x.1 x.2.2.1 x.2.2.2.2 (x_1.2 - x.2.2.1).toNat→aj .i64 (x.2.2.1+x.2.2.2.1)∧(decide (x_1.2<x.2.2.1+x.2.2.2.1)=true→0≤x_1.2∧(0:Int)<64∧0≤x_1.2 % 64∧x_1.2 % 64<(↑IntKind.u64.bits:Int)∧0≤x_1.2∧(0:Int)<64∧0≤x_1.2 / 64∧x_1.2 / 64<(↑x_1.1.length:Int)∧(x_1.2 / 64).toNat<x_1.1.length∧0≤x_1.2 / 64∧x_1.2 / 64<(↑x_1.1.length:Int)∧(x_1.2 / 64).toNat<x_1.1.length∧((!x.2.2.2.2)=true→0≤x_1.2∧(0:Int)<64∧0≤x_1.2 / 64∧x_1.2 / 64<(↑(x_1.1.set (x_1.2 / 64).toNat (↑((x_1.1.getD (x_1.2 / 64).toNat 0).toNat ||| (IntKind.u64.wrap (1 * 2 ^ (x_1.2 % 64).toNat)).toNat):Int)).length:Int)∧(x_1.2 / 64).toNat<(x_1.1.set (x_1.2 / 64).toNat (↑((x_1.1.getD (x_1.2 / 64).toNat 0).toNat ||| (IntKind.u64.wrap (1 * 2 ^ (x_1.2 % 64).toNat)).toNat):Int)).length∧0≤x_1.2 / 64∧x_1.2 / 64<(↑(x_1.1.set (x_1.2 / 64).toNat (↑((x_1.1.getD (x_1.2 / 64).toNat 0).toNat ||| (IntKind.u64.wrap (1 * 2 ^ (x_1.2 % 64).toNat)).toNat):Int)).length:Int)∧(x_1.2 / 64).toNat<(x_1.1.set (x_1.2 / 64).toNat (↑((x_1.1.getD (x_1.2 / 64).toNat 0).toNat ||| (IntKind.u64.wrap (1 * 2 ^ (x_1.2 % 64).toNat)).toNat):Int)).length∧aj .i64 (x_1.2+1)∧(x.2.2.1≤x_1.2+1∧x_1.2+1≤x.2.2.1+x.2.2.2.1∧(x_1.1.set (x_1.2 / 64).toNat (↑((x_1.1.getD (x_1.2 / 64).toNat 0).toNat ||| (IntKind.u64.wrap (1 * 2 ^ (x_1.2 % 64).toNat)).toNat):Int)).set (x_1.2 / 64).toNat (↑(((x_1.1.set (x_1.2 / 64).toNat (↑((x_1.1.getD (x_1.2 / 64).toNat 0).toNat ||| (IntKind.u64.wrap (1 * 2 ^ (x_1.2 % 64).toNat)).toNat):Int)).getD (x_1.2 / 64).toNat 0).toNat ^^^ (IntKind.u64.wrap (1 * 2 ^ (x_1.2 % 64).toNat)).toNat):Int)=fJ x.1 x.2.2.1 x.2.2.2.2 (x_1.2+1 - x.2.2.1).toNat)∧(x.2.2.1+x.2.2.2.1 - (x_1.2+1)).toNat<(x.2.2.1+x.2.2.2.1 - x_1.2).toNat)∧((!x.2.2.2.2)=false→aj .i64 (x_1.2+1)∧(x.2.2.1≤x_1.2+1∧x_1.2+1≤x.2.2.1+x.2.2.2.1∧x_1.1.set (x_1.2 / 64).toNat (↑((x_1.1.getD (x_1.2 / 64).toNat 0).toNat ||| (IntKind.u64.wrap (1 * 2 ^ (x_1.2 % 64).toNat)).toNat):Int)=fJ x.1 x.2.2.1 x.2.2.2.2 (x_1.2+1 - x.2.2.1).toNat)∧(x.2.2.1+x.2.2.2.1 - (x_1.2+1)).toNat<(x.2.2.1+x.2.2.2.1 - x_1.2).toNat))∧(decide (x_1.2<x.2.2.1+x.2.2.2.1)=false→x_1.1=(dl x.1 x.2.1 x.2.2.1 x.2.2.2.1 x.2.2.2.2).1∧0=(dl x.1 x.2.1 x.2.2.1 x.2.2.2.1 x.2.2.2.2).2∧True))
theorem qG:ma:=by
 unfold ma
 intro ⟨m,n,at_,long,on⟩ ⟨⟨_,hw⟩,hn,ha,hl,_⟩ _
 have hw:vr m:=wi hw
 simp only [dl,aj,wQ] at hn ha hl ⊢
 refine ⟨trivial,fun hc=>?_,fun hc=>?_⟩
 ·rw [if_pos (of_decide_eq_true hc)]
  exact ⟨by first | exact trivial | rfl,rfl,trivial⟩
 have hz:de m n at_ long=0:=by simpa using of_decide_eq_false hc
 rw [if_neg (of_decide_eq_false hc)]
 obtain ⟨z,z1,z2,z3,z4⟩:=iv hz
 obtain ⟨n0,n1,n2,_⟩:=et z
 refine ⟨trivial,⟨by omega,by omega,by rw [show (at_ - at_).toNat=0 by omega]; rfl⟩,fun ⟨out,k⟩ ⟨k0,k1,k2⟩=>⟨by omega,fun hlt=>?_,fun hge=>?_⟩⟩
 ·have hlt:=of_decide_eq_true hlt
  simp only at k0 k1 k2 hlt ⊢
  have hlen:=eq m at_ on (k - at_).toNat
  rw [← k2] at hlen
  have hs:fJ m at_ on (k+1 - at_).toNat=out.set (k / 64).toNat (sQ (out.getD (k / 64).toNat 0) (k % 64).toNat on):=by
   rw [show (k+1 - at_).toNat=(k - at_).toNat+1 by omega,fJ,← k2,show at_+((k - at_).toNat:Int)=k by omega]
  have hp:(IntKind.u64.wrap (1 * 2 ^ (k % 64).toNat)).toNat=2 ^ (k % 64).toNat:=by
   have h1:(2:Nat) ^ (k % 64).toNat<2 ^ 64:=Nat.pow_lt_pow_right (by omega) (by omega)
   have e:(1:Int) * 2 ^ (k % 64).toNat=((2 ^ (k % 64).toNat:Nat):Int):=by push_cast; rw [Int.one_mul]
   have h2:((2 ^ (k % 64).toNat:Nat):Int)≤18446744073709551615:=Int.ofNat_le.2 (show 2 ^ (k % 64).toNat≤18446744073709551615 by omega)
   rw [e,xB (Int.natCast_nonneg _) h2,Int.toNat_natCast]
  rw [hs,hp]
  clear hs hp k2
  simp only [List.length_set]
  have hi:(k / 64).toNat<out.length:=by omega
  refine ⟨by omega,by omega,by omega,by omega,by omega,by omega,by omega,by omega,hi,by omega,by omega,hi,fun ho=>?_,fun ho=>?_⟩
  ·have ho:on=false:=by simpa using ho
   subst ho
   refine ⟨by omega,by omega,by omega,by omega,hi,by omega,by omega,hi,by omega,⟨by omega,by omega,?_⟩,by omega⟩
   rw [ke _ _ _ _ _ hi,if_pos rfl,List.set_set,Int.toNat_natCast]
   rfl
  ·have ho:on=true:=by simpa using ho
   subst ho
   exact ⟨by omega,⟨by omega,by omega,rfl⟩,by omega⟩
 ·have hge:=of_decide_eq_false hge
  simp only at k0 k1 k2 hge ⊢
  rw [k2,show k - at_=long by omega]
  exact ⟨by first | exact trivial | rfl,by first | exact trivial | rfl,trivial⟩
theorem s7:sH.ok Try.prog 148:=bg (ann:=tP) (ak gJ (ak nK aD)) Try.func148 (by kernel_rfl) qG
def q8:Spec:={ Ts:=[ty_I,.fn ty_I .bool],Rs:=[.own 76 aM],pre:=fun ((n,g):Int×(Int→Prop)×(Int→Bool))=>0≤n∧n≤300∧∀ i,0≤i→i<n→g.1 i,F:=fun ((n,g):Int×(Int→Prop)×(Int→Bool))=>jg n.toNat g.2 0 }
def sk:Nat→Option LoopGen
 | 3=>some { rd:=[.dat 0 ty_I,.dat 1 (.fn ty_I .bool)],wr:=[5],A:=fun ((n,g):Int×(Int→Prop)×(Int→Bool))=>{ cs:=[.own 5 76 aM,.dat 6 ty_I],inv:=fun ((out,k):List Int×Int)=>-1≤k∧k<n∧out=jg n.toNat g.2 (k+1).toNat,mu:=fun ((_,k):List Int×Int)=>(k+1).toNat } }
 | _=>none
def kI:Prop :=
  ∀ (x:Int×(Int→Prop)×(Int→Bool)),aj .i64 x.1∧True→(0≤x.1∧x.1≤300∧∀ (i:Int),0≤i→i<x.1→x.2.1 i)→aj .i64 (x.1+63)∧0≤x.1+63∧(0:Int)<64∧0≤(x.1+63) / 64∧((x.1+63) / 64).toNat * 8≤aI∧aj .i64 (x.1 - 1)∧((-1)≤x.1 - 1∧x.1 - 1<x.1∧List.replicate ((x.1+63) / 64).toNat (0:Int)=jg x.1.toNat x.2.2 (x.1 - 1+1).toNat)∧∀ (x_1:List Int×Int),(-1)≤x_1.2∧x_1.2<x.1∧x_1.1=jg x.1.toNat x.2.2 (x_1.2+1).toNat→(decide (0≤x_1.2)=true→0≤x_1.2∧(0:Int)<64∧0≤x_1.2 / 64∧x_1.2 / 64<(↑x_1.1.length:Int)∧(x_1.2 / 64).toNat<x_1.1.length∧aj .u64 (x_1.1.getD (x_1.2 / 64).toNat 0 * 2)∧0≤x_1.2 / 64∧x_1.2 / 64<(↑x_1.1.length:Int)∧(x_1.2 / 64).toNat<x_1.1.length∧x.2.1 x_1.2∧(x.2.2 x_1.2=true→0≤x_1.2∧(0:Int)<64∧0≤x_1.2 / 64∧x_1.2 / 64<(↑(x_1.1.set (x_1.2 / 64).toNat (x_1.1.getD (x_1.2 / 64).toNat 0 * 2)).length:Int)∧(x_1.2 / 64).toNat<(x_1.1.set (x_1.2 / 64).toNat (x_1.1.getD (x_1.2 / 64).toNat 0 * 2)).length∧aj .u64 ((x_1.1.set (x_1.2 / 64).toNat (x_1.1.getD (x_1.2 / 64).toNat 0 * 2)).getD (x_1.2 / 64).toNat 0+1)∧0≤x_1.2 / 64∧x_1.2 / 64<(↑(x_1.1.set (x_1.2 / 64).toNat (x_1.1.getD (x_1.2 / 64).toNat 0 * 2)).length:Int)∧(x_1.2 / 64).toNat<(x_1.1.set (x_1.2 / 64).toNat (x_1.1.getD (x_1.2 / 64).toNat 0 * 2)).length∧aj .i64 (x_1.2 - 1)∧((-1)≤x_1.2 - 1∧x_1.2 - 1<x.1∧(x_1.1.set (x_1.2 / 64).toNat (x_1.1.getD (x_1.2 / 64).toNat 0 * 2)).set (x_1.2 / 64).toNat ((x_1.1.set (x_1.2 / 64).toNat (x_1.1.getD (x_1.2 / 64).toNat 0 * 2)).getD (x_1.2 / 64).toNat 0+1)=jg x.1.toNat x.2.2 (x_1.2 - 1+1).toNat)∧(x_1.2 - 1+1).toNat<(x_1.2+1).toNat)∧(x.2.2 x_1.2=false→aj .i64 (x_1.2 - 1)∧((-1)≤x_1.2 - 1∧x_1.2 - 1<x.1∧x_1.1.set (x_1.2 / 64).toNat (x_1.1.getD (x_1.2 / 64).toNat 0 * 2)=jg x.1.toNat x.2.2 (x_1.2 - 1+1).toNat)∧(x_1.2 - 1+1).toNat<(x_1.2+1).toNat))∧(decide (0≤x_1.2)=false→x_1.1=jg x.1.toNat x.2.2 0∧True)
theorem pg:kI:=by
 unfold kI
 intro ⟨n,g⟩ _ ⟨h1,h2,h3⟩
 simp only [aj,aI] at h1 h2 h3 ⊢
 refine ⟨by omega,by omega,by omega,by omega,by omega,by omega,⟨by omega,by omega,?_⟩,fun ⟨out,k⟩ ⟨k0,k1,k2⟩=>⟨fun hlt=>?_,fun hge=>?_⟩⟩
 ·rw [show (n - 1+1).toNat=n.toNat by omega,xh]
  congr 1
  omega
 ·have hlt:=of_decide_eq_true hlt
  simp only at k0 k1 k2 hlt ⊢
  have hlen:=d6 n.toNat g.2 (k+1).toNat
  rw [← k2] at hlen
  have ek:(k+1).toNat=k.toNat+1:=by omega
  have hget:=pX n.toNat g.2 (k+1).toNat (k / 64).toNat (by omega)
  rw [← k2] at hget
  have hstep:=wa n.toNat g.2 k.toNat (by omega)
  have hlt2:=xg n.toNat g.2 k.toNat
  have e64:(k / 64).toNat=k.toNat / 64:=by omega
  have ek2:((k.toNat:Nat):Int)=k:=by omega
  rw [ek,e64] at hget
  rw [ek] at k2
  rw [← k2,ek2] at hstep
  rw [e64,hget,show (k - 1+1).toNat=k.toNat by omega,← hstep]
  have hi:k.toNat / 64<out.length:=by omega
  simp only [List.length_set,ke _ _ _ _ _ hi,if_true,List.set_set]
  generalize nk n.toNat g.2 (k.toNat+1) (k.toNat / 64)=w at *
  refine ⟨by omega,by omega,by omega,by omega,hi,by omega,by omega,by omega,hi,h3 k hlt k1,fun hb=>?_,fun hb=>?_⟩
  ·refine ⟨by omega,by omega,by omega,by omega,hi,by omega,by omega,by omega,hi,by omega,⟨by omega,by omega,?_⟩,by omega⟩
   rw [if_pos hb]
   congr 1
   omega
  ·refine ⟨by omega,⟨by omega,by omega,?_⟩,by omega⟩
   rw [if_neg (by rw [hb]; simp)]
   congr 1
   omega
 ·have hge:=of_decide_eq_false hge
  simp only at k0 k2 hge ⊢
  rw [k2,show (k+1).toNat=0 by omega]
  exact ⟨rfl,trivial⟩
theorem rB:q8.ok Try.prog 98:=bg (ann:=sk) aD Try.func98 (by kernel_rfl) pg
end Go.Proofs.Ytcnoiiohmpgckaa
