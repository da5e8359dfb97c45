
import Derived.Test.YtcnoiiohmpgckaaTapePure
import Derived.Test.YtcnoiiohmpgckaaInts
namespace Go.Proofs.Ytcnoiiohmpgckaa
open Go
set_option maxRecDepth 100000
set_option maxHeartbeats 1000000
abbrev pc:Ty:=.int .u8
abbrev cq:Ty:=.pair gw (.pair gw (.pair gw (.pair gw eo)))
abbrev qx:Ty:=.pair eo (.pair eo (.pair eo (.pair eo eo)))
abbrev ka:Ty:=.pair .str .bool
def kH (n:Int):Int:=IntKind.u64.wrap n
def dp (g:Int×Int×Int×Int×Int):List Int:=[g.1,g.2.1,g.2.2.1,g.2.2.2.1,g.2.2.2.2]
def eg (l:List Int):List Int:=l.flatMap ap
def rh (o:eR):List Int:=[kH o.1,kH o.2.1,kH o.2.2.1,kH o.2.2.2.1,o.2.2.2.2]
def ej (l:List eR):List Int:=l.flatMap fun o=>eg (rh o)
theorem db (a b:List Int):aa (a++b)=aa a++aa b:=by simp [aa]
theorem er (a:List Int):(aa a).length=a.length:=by simp [aa]
theorem pf {s:List UInt8} {i:Int} (h0:0≤i) (h:i<(s.length:Int)):s.take (i+1).toNat=s.take i.toNat++[s.getD i.toNat 0]:=eU 0 h0 h
theorem i7 {s:List UInt8} {i:Int} (h0:0≤i) (h:i<(s.length:Int)):cN (s.take (i+1).toNat)=(s.getD i.toNat 0).toNat∧(s.take (i+1).toNat).length=(i+1).toNat:=by
 have hl:(s.take (i+1).toNat).length=(i+1).toNat:=by rw [List.length_take]; omega
 refine ⟨?_,hl⟩
 unfold cN
 rw [hl,pf h0 h,show (i+1).toNat - 1=i.toNat by omega]
 have hl2:(s.take i.toNat).length=i.toNat:=by rw [List.length_take]; omega
 rw [List.getD_eq_getElem?_getD,List.getElem?_append_right (by omega),hl2,Nat.sub_self]
 rfl
theorem mV {s:List UInt8} {i:Int} (h0:0≤i) (h:i<(s.length:Int)) (ha:∀ c∈s.take i.toNat,128≤c.toNat) (hc:128≤(s.getD i.toNat 0).toNat):∀ c∈s.take (i+1).toNat,128≤c.toNat:=by
 intro c hm
 rw [pf h0 h] at hm
 rcases List.mem_append.1 hm with hm | hm
 ·exact ha c hm
 ·simp only [List.mem_singleton] at hm
  rw [hm]; exact hc
theorem iy {s:List UInt8} {i:Int} (hi:i=10∨(s.length:Int)≤i) (ha:∀ c∈s.take i.toNat,128≤c.toNat):dn 10 s=none:=by
 apply mN
 intro c hc
 rcases hi with rfl | hi
 ·exact ha c hc
 ·rw [List.take_of_length_le (by omega)] at ha
  exact ha c (List.mem_of_mem_take hc)
theorem ne {i:Int} (h0:0≤i) (h:i≤9):1≤(128:Int) ^ i.toNat∧(i≤8→(128:Int) ^ i.toNat≤72057594037927936)∧(128:Int) ^ i.toNat≤9223372036854775808∧(i=9→(128:Int) ^ i.toNat=9223372036854775808):=by
 have:i=0∨i=1∨i=2∨i=3∨i=4∨i=5∨i=6∨i=7∨i=8∨i=9:=by omega
 rcases this with rfl | rfl | rfl | rfl | rfl | rfl | rfl | rfl | rfl | rfl <;> decide
theorem lM {s:List UInt8} {i:Int} (h0:0≤i) (h:i<(s.length:Int)):aH (s.take (i+1).toNat)=aH (s.take i.toNat)+((s.getD i.toNat 0).toNat:Int) % 128 * 128 ^ i.toNat∧0≤aH (s.take i.toNat)∧aH (s.take i.toNat)<128 ^ i.toNat:=by
 have hl2:(s.take i.toNat).length=i.toNat:=by rw [List.length_take]; omega
 refine ⟨?_,cK _,?_⟩
 ·rw [pf h0 h,gu,hl2]
  congr 1
 ·have:=fM (s.take i.toNat)
  rwa [hl2] at this
theorem o6 {n d w:Int} (n0:0≤n) (nw:n<w) (d0:0≤d) (d1:d≤127) (hw:w≤72057594037927936∨(d≤1∧w≤9223372036854775808)) :
  IntKind.u64.wrap (n+IntKind.u64.wrap (d * w))=n+d * w∧n+d * w<18446744073709551616:=by
 have hp:0≤d * w:=Int.mul_nonneg d0 (by omega)
 have hq:n+d * w<18446744073709551616:=by
  rcases hw with hw | ⟨h1,hw⟩
  ·have:d * w≤127 * w:=Int.mul_le_mul_of_nonneg_right d1 (by omega)
   omega
  ·have:d * w≤1 * w:=Int.mul_le_mul_of_nonneg_right h1 (by omega)
   omega
 rw [nL hp (by omega),nL (by omega) (by omega)]
 exact ⟨rfl,hq⟩
theorem iW {s:List UInt8} (h:dn 10 s=none):cU s=(0,[],false):=by unfold cU; rw [h]
theorem ml {s:List UInt8} {i:Int} (h0:0≤i) (h:i<(s.length:Int)) (h9:i≤9) (ha:∀ c∈s.take i.toNat,128≤c.toNat) (hc:(s.getD i.toNat 0).toNat<128) :
  dn 10 s=some (s.take (i+1).toNat,s.drop (i+1).toNat):=by
 rw [show (i+1).toNat=i.toNat+1 by omega]
 exact mM 10 i.toNat s ha (by omega) hc (by omega)
def dT:Spec:={ Ts:=[eo],Rs:=[.dat .str],pre:=fun _=>True,F:=fun (n:Int)=>aa (ap n) }
def kT:Prop :=
  ∀ k:Nat,∀ (x:Int),aI .u64 x→True∧x.toNat<k+1→(decide (x<128)=true→aa [IntKind.u8.wrap x]=aa (ap x)∧True)∧(decide (x<128)=false→0≤x∧(0:Int)<128∧aI .u64 (128+x % 128)∧0≤x∧(0:Int)<128∧(True∧(x / 128).toNat<k)∧(aa [IntKind.u8.wrap (128+x % 128)]).length+(aa (ap (x / 128))).length≤bb∧aa [IntKind.u8.wrap (128+x % 128)]++aa (ap (x / 128))=aa (ap x)∧True)
theorem o7:kT:=by
 unfold kT
 intro k
 intro n hn ⟨_,hk⟩
 simp only [aI] at hn ⊢
 refine ⟨fun h=>?_,fun h=>?_⟩
 ·have h:=of_decide_eq_true h
  rw [dX h,nM,Int.emod_eq_of_lt hn.1 (by omega)]
  exact ⟨rfl,trivial⟩
 ·have h:=of_decide_eq_false h
  have hl:=mh (n:=n / 128) (by omega)
  simp only [er,List.length_cons,List.length_nil,bb]
  refine ⟨hn.1,by omega,by omega,hn.1,by omega,⟨trivial,by omega⟩,by omega,?_,trivial⟩
  rw [fZ (n:=n) (by omega),← db,nM,Int.emod_eq_of_lt (by omega) (by omega)]
  rfl
theorem qV:kT=(∀ k:Nat,pJ Try.prog (qX [(72,dU dT (fun n:Int=>n.toNat) k)]) qt Try.f72 (dU dT (fun n:Int=>n.toNat) (k+1))):=by kernel_rfl
theorem p9:∀ k:Nat,pJ Try.prog (qX [(72,dU dT (fun n:Int=>n.toNat) k)]) qt Try.f72 (dU dT (fun n:Int=>n.toNat) (k+1)):=@Eq.mp _ _ @qV @o7
theorem nX:dT.ok Try.prog 72:=oI (mu:=(fun n:Int=>n.toNat)) fun k hk=>my (P:=Try.prog) (ss:=qX [(72,dU dT (fun n:Int=>n.toNat) k)]) (ann:=qt) (f:=72) (fn:=Try.f72) (s:=(dU dT (fun n:Int=>n.toNat) (k+1))) (b9 hk cV) Try.func72 (@p9 k)
def lW:Spec:={ Ts:=[.str],Rs:=[.dat eo,.dat .str,.dat .bool],al:=true,pre:=fun _=>True,F:=cU }
def mU:Nat→Option LoopGen
 | 2000000=>some p6
 | 3=>some { rd:=[.dat 0 .str],A:=fun (s:List UInt8)=>{ cs:=[.dat 5 eo,.dat 6 eo,.dat 11 gw],inv:=fun ((n,w,i):Int×Int×Int)=>0≤i∧i≤s.length∧i≤10∧(∀ c∈s.take i.toNat,128≤c.toNat)∧(i≤9→n=aH (s.take i.toNat)∧w=128 ^ i.toNat),mu:=fun ((_,_,i):Int×Int×Int)=>(s.length - i).toNat } }
 | _=>none
def hJ:Prop :=
  ∀ (x:List UInt8),x.length≤bb→True→((0:Int)≤0∧0≤(↑x.length:Int)∧(0:Int)≤10∧(∀ (c:UInt8),c∈List.take (Int.toNat 0) x→128≤c.toNat)∧((0:Int)≤9→0=aH (List.take (Int.toNat 0) x)∧(1:Int)=128 ^ Int.toNat 0))∧∀ (x_1:Int×Int×Int),0≤x_1.2.2∧x_1.2.2≤(↑x.length:Int)∧x_1.2.2≤10∧(∀ (c:UInt8),c∈List.take x_1.2.2.toNat x→128≤c.toNat)∧(x_1.2.2≤9→x_1.1=aH (List.take x_1.2.2.toNat x)∧x_1.2.1=128 ^ x_1.2.2.toNat)→(decide (x_1.2.2<(↑x.length:Int))=true→0≤x_1.2.2∧x_1.2.2<(↑x.length:Int)∧0≤(↑(x.getD x_1.2.2.toNat (0:UInt8)).toNat:Int)∧(0:Int)<128∧((decide (9<x_1.2.2)||decide (x_1.2.2=9)&&decide (1<(↑(x.getD x_1.2.2.toNat (0:UInt8)).toNat:Int) % 128))=true→0=(cU x).1∧([]:List UInt8)=(cU x).2.1∧false=(cU x).2.2∧True)∧((decide (9<x_1.2.2)||decide (x_1.2.2=9)&&decide (1<(↑(x.getD x_1.2.2.toNat (0:UInt8)).toNat:Int) % 128))=false→0≤x_1.2.2∧x_1.2.2<(↑x.length:Int)∧(decide ((↑(x.getD x_1.2.2.toNat (0:UInt8)).toNat:Int)<128)=true→0≤IntKind.i64.wrap (x_1.2.2+1)∧IntKind.i64.wrap (x_1.2.2+1)≤(↑x.length:Int)∧True∧0≤IntKind.i64.wrap (x_1.2.2+1)∧IntKind.i64.wrap (x_1.2.2+1)≤(↑x.length:Int)∧IntKind.u64.wrap (x_1.1+IntKind.u64.wrap ((↑(x.getD x_1.2.2.toNat (0:UInt8)).toNat:Int) % 128 * x_1.2.1))=(cU x).1∧List.drop (IntKind.i64.wrap (x_1.2.2+1)).toNat x=(cU x).2.1∧decide (aa (ap (IntKind.u64.wrap (x_1.1+IntKind.u64.wrap ((↑(x.getD x_1.2.2.toNat (0:UInt8)).toNat:Int) % 128 * x_1.2.1))))=List.take (IntKind.i64.wrap (x_1.2.2+1)).toNat x)=(cU x).2.2∧True)∧(decide ((↑(x.getD x_1.2.2.toNat (0:UInt8)).toNat:Int)<128)=false→(0≤IntKind.i64.wrap (x_1.2.2+1)∧IntKind.i64.wrap (x_1.2.2+1)≤(↑x.length:Int)∧IntKind.i64.wrap (x_1.2.2+1)≤10∧(∀ (c:UInt8),c∈List.take (IntKind.i64.wrap (x_1.2.2+1)).toNat x→128≤c.toNat)∧(IntKind.i64.wrap (x_1.2.2+1)≤9→IntKind.u64.wrap (x_1.1+IntKind.u64.wrap ((↑(x.getD x_1.2.2.toNat (0:UInt8)).toNat:Int) % 128 * x_1.2.1))=aH (List.take (IntKind.i64.wrap (x_1.2.2+1)).toNat x)∧IntKind.u64.wrap (x_1.2.1 * 128)=128 ^ (IntKind.i64.wrap (x_1.2.2+1)).toNat))∧((↑x.length:Int) - IntKind.i64.wrap (x_1.2.2+1)).toNat<((↑x.length:Int) - x_1.2.2).toNat)))∧(decide (x_1.2.2<(↑x.length:Int))=false→0=(cU x).1∧([]:List UInt8)=(cU x).2.1∧false=(cU x).2.2∧True)
theorem kD:hJ:=by
 unfold hJ
 intro s hs _
 unfold bb at hs
 refine ⟨⟨by omega,by omega,by omega,by simp,fun _=>by simp [aH]⟩,fun ⟨n,w,i⟩ ⟨i0,i1,i2,ha,hv⟩=>⟨fun hlt=>?_,fun hge=>?_⟩⟩
 ·have hlt:=of_decide_eq_true hlt
  simp only at i0 i1 i2 ha hv hlt ⊢
  have hlast:=i7 i0 hlt
  have hval:=lM i0 hlt
  have hwi:IntKind.i64.wrap (i+1)=i+1:=qZ (by omega) (by omega)
  have hc255:=(s.getD i.toNat 0).toNat_lt
  have hat:=mV i0 hlt ha
  have hst:=fun h9=>ml i0 hlt h9 ha
  have hp:=ne i0
  rw [hwi]
  generalize hc:s.getD i.toNat 0=c at *
  refine ⟨i0,hlt,by omega,by omega,fun h=>?_,fun h=>⟨i0,hlt,fun hs=>?_,fun hs=>?_⟩⟩
  ·simp only [Bool.or_eq_true,Bool.and_eq_true,decide_eq_true_eq] at h
   have hn:cU s=(0,[],false):=by
    by_cases h9:9<i
    ·exact iW (iy (.inl (by omega)) ha)
    ·have h9:i=9∧(1:Int)<(c.toNat:Int) % 128:=h.resolve_left h9
     obtain ⟨rfl,h1⟩:=h9
     by_cases hc1:c.toNat<128
     ·unfold cU
      rw [hst (by omega) hc1]
      simp only
      rw [if_pos ⟨hlast.2,by rw [hlast.1]; omega⟩]
     ·exact iW (iy (i:=9+1) (.inl rfl) (hat (by omega)))
   rw [hn]
   exact ⟨rfl,rfl,rfl,trivial⟩
  all_goals simp only [Bool.or_eq_false_iff,Bool.and_eq_false_iff,decide_eq_false_iff_not] at h
  all_goals obtain ⟨hp1,hp2,hp3,hp4⟩:=hp (by omega)
  all_goals obtain ⟨rfl,rfl⟩:=hv (by omega)
  all_goals have hwv:=o6 (n:=aH (s.take i.toNat)) (d:=(c.toNat:Int) % 128) (w:=128 ^ i.toNat) hval.2.1 hval.2.2 (by omega) (by omega) (if h8:i≤8 then .inl (hp2 h8) else .inr ⟨by omega,hp3⟩)
  all_goals rw [hwv.1,← hval.1]
  ·have hs:c.toNat<128:=by have:=of_decide_eq_true hs; omega
   have hn:cU s=(aH (s.take (i+1).toNat),s.drop (i+1).toNat,decide (aa (ap (aH (s.take (i+1).toNat)))=s.take (i+1).toNat)):=by
    unfold cU
    rw [hst (by omega) hs]
    simp only
    rw [if_neg]
    rintro ⟨g1,g2⟩
    rw [hlast.2] at g1
    rw [hlast.1] at g2
    omega
   rw [hn]
   exact ⟨by omega,by omega,trivial,by omega,by omega,rfl,rfl,rfl,trivial⟩
  ·have hs:128≤c.toNat:=by have:=of_decide_eq_false hs; omega
   refine ⟨⟨by omega,by omega,by omega,hat hs,fun h9=>⟨rfl,?_⟩⟩,by omega⟩
   rw [show (i+1).toNat=i.toNat+1 by omega,Int.pow_succ]
   have:=hp2 (by omega)
   exact nL (by omega) (by omega)
 ·have hge:=of_decide_eq_false hge
  simp only at i0 i1 i2 ha hv hge ⊢
  rw [iW (iy (.inr (by omega)) ha)]
  exact ⟨rfl,rfl,rfl,trivial⟩
theorem mf:lW.ok Try.prog 136:=ie (ann:=mU) (b9 nX cV) Try.func136 (by kernel_rfl) kD
def br (s:List UInt8):List Int×Bool:=match aV s with
 | some l=>(l,true)
 | none=>([],false)
def kK:Spec:={ Ts:=[.str],Rs:=[.dat (.arr eo),.dat .bool],al:=true,pre:=fun (s:List UInt8)=>s.length≤1000,F:=br }
def lE:Nat→Option LoopGen
 | 2=>some { rd:=[.dat 0 .str],A:=fun (s0:List UInt8)=>{ cs:=[.dat 0 .str,.own 4 76 eo],inv:=fun ((s,out):List UInt8×List Int)=>s.length+out.length≤1000∧(aV s).map (out++·)=aV s0,mu:=fun ((s,_):List UInt8×List Int)=>s.length } }
 | _=>none
def fX:Prop :=
  ∀ (x:List UInt8),x.length≤bb→x.length≤1000→(x.length+0≤1000∧Option.map (fun (x:List Int)=>([]:List Int)++x) (aV x)=aV x)∧∀ (x_1:List UInt8×List Int),x_1.1.length+x_1.2.length≤1000∧Option.map (fun (x:List Int)=>x_1.2++x) (aV x_1.1)=aV x→(decide (x_1.1≠([]:List UInt8))=true→True∧((!(cU x_1.1).2.2)=true→([]:List Int)=(br x).1∧false=(br x).2∧True)∧((!(cU x_1.1).2.2)=false→(x_1.2.length+[(cU x_1.1).1].length) * 8≤bb∧((cU x_1.1).2.1.length+(x_1.2++[(cU x_1.1).1]).length≤1000∧Option.map (fun (x:List Int)=>x_1.2++[(cU x_1.1).1]++x) (aV (cU x_1.1).2.1)=aV x)∧(cU x_1.1).2.1.length<x_1.1.length))∧(decide (x_1.1≠([]:List UInt8))=false→x_1.2=(br x).1∧true=(br x).2∧True)
theorem jD:fX:=by
 unfold fX
 intro s0 _ hs0
 unfold bb
 refine ⟨⟨by simpa using hs0,by simp⟩,fun ⟨s,out⟩ ⟨h1,h2⟩=>⟨fun hlt=>?_,fun hge=>?_⟩⟩
 ·have hs:=of_decide_eq_true hlt
  simp only at h1 h2 hs ⊢
  refine ⟨trivial,fun hb=>?_,fun hb=>?_⟩
  ·have hb:(cU s).2.2=false:=by simpa using hb
   rw [fa hs hb] at h2
   have e:br s0=([],false):=by unfold br; rw [← h2]; rfl
   rw [e]
   exact ⟨rfl,rfl,trivial⟩
  ·have hb:(cU s).2.2=true:=by simpa using hb
   obtain ⟨_,hlt,_⟩:=kX hb
   rw [eE hs hb] at h2
   simp only [List.length_append,List.length_cons,List.length_nil]
   refine ⟨by omega,⟨by omega,?_⟩,hlt⟩
   rw [← h2,Option.map_map]
   congr 1
   funext l
   simp
 ·have hs:s=[]:=by simpa using of_decide_eq_false hge
  subst hs
  simp only at h2 ⊢
  rw [eZ] at h2
  have e:br s0=(out,true):=by unfold br; rw [← h2]; simp
  rw [e]
  exact ⟨rfl,rfl,trivial⟩
theorem kW:kK.ok Try.prog 74:=ie (ann:=lE) (b9 mf cV) Try.func74 (by kernel_rfl) jD
theorem qP (a b c d e:Int):eg [a,b,c,d,e]=ap a++ap b++ap c++ap d++ap e:=by simp [eg]
theorem kk (l:List eR) (o:eR):ej (l++[o])=ej l++eg (rh o):=by simp [ej]
theorem fb {n:Int} (h:aI .u64 n):(ap n).length≤10:=mh (by simp only [aI] at h; omega)
def lU:Spec:={ Ts:=[.arr cq],Rs:=[.dat .str],pre:=fun (l:List eR)=>l.length≤200,F:=fun (l:List eR)=>aa (ej l) }
def mS:Nat→Option LoopGen
 | 3=>some { rd:=[.dat 6 (.arr cq)],A:=fun (l:List eR)=>{ cs:=[.dat 3 .str,.dat 8 gw],inv:=fun ((s,i):List UInt8×Int)=>0≤i∧i≤l.length∧l.length≤200∧s.length≤50 * i∧s=aa (ej (l.take i.toNat)),mu:=fun ((_,i):List UInt8×Int)=>(l.length - i).toNat } }
 | _=>none
def hH:Prop :=
  ∀ (x:List (Int×Int×Int×Int×Int)),(x.length * (8+(8+(8+(8+8))))≤bb∧∀ (x_1:Int×Int×Int×Int×Int),x_1∈x→aI .i64 x_1.1∧aI .i64 x_1.2.1∧aI .i64 x_1.2.2.1∧aI .i64 x_1.2.2.2.1∧aI .u64 x_1.2.2.2.2)→x.length≤200→((0:Int)≤0∧0≤(↑x.length:Int)∧x.length≤200∧(↑(0:Nat):Int)≤50 * 0∧([]:List UInt8)=aa (ej (List.take (Int.toNat 0) x)))∧∀ (x_1:List UInt8×Int),0≤x_1.2∧x_1.2≤(↑x.length:Int)∧x.length≤200∧(↑x_1.1.length:Int)≤50 * x_1.2∧x_1.1=aa (ej (List.take x_1.2.toNat x))→(decide (x_1.2<(↑x.length:Int))=true→0≤x_1.2∧x_1.2<(↑x.length:Int)∧True∧True∧(aa (ap (IntKind.u64.wrap (x.getD x_1.2.toNat (0,0,0,0,0)).1))).length+(aa (ap (IntKind.u64.wrap (x.getD x_1.2.toNat (0,0,0,0,0)).2.1))).length≤bb∧True∧(aa (ap (IntKind.u64.wrap (x.getD x_1.2.toNat (0,0,0,0,0)).1))++aa (ap (IntKind.u64.wrap (x.getD x_1.2.toNat (0,0,0,0,0)).2.1))).length+(aa (ap (IntKind.u64.wrap (x.getD x_1.2.toNat (0,0,0,0,0)).2.2.1))).length≤bb∧True∧(aa (ap (IntKind.u64.wrap (x.getD x_1.2.toNat (0,0,0,0,0)).1))++aa (ap (IntKind.u64.wrap (x.getD x_1.2.toNat (0,0,0,0,0)).2.1))++aa (ap (IntKind.u64.wrap (x.getD x_1.2.toNat (0,0,0,0,0)).2.2.1))).length+(aa (ap (IntKind.u64.wrap (x.getD x_1.2.toNat (0,0,0,0,0)).2.2.2.1))).length≤bb∧True∧(aa (ap (IntKind.u64.wrap (x.getD x_1.2.toNat (0,0,0,0,0)).1))++aa (ap (IntKind.u64.wrap (x.getD x_1.2.toNat (0,0,0,0,0)).2.1))++aa (ap (IntKind.u64.wrap (x.getD x_1.2.toNat (0,0,0,0,0)).2.2.1))++aa (ap (IntKind.u64.wrap (x.getD x_1.2.toNat (0,0,0,0,0)).2.2.2.1))).length+(aa (ap (x.getD x_1.2.toNat (0,0,0,0,0)).2.2.2.2)).length≤bb∧x_1.1.length+(aa (ap (IntKind.u64.wrap (x.getD x_1.2.toNat (0,0,0,0,0)).1))++aa (ap (IntKind.u64.wrap (x.getD x_1.2.toNat (0,0,0,0,0)).2.1))++aa (ap (IntKind.u64.wrap (x.getD x_1.2.toNat (0,0,0,0,0)).2.2.1))++aa (ap (IntKind.u64.wrap (x.getD x_1.2.toNat (0,0,0,0,0)).2.2.2.1))++aa (ap (x.getD x_1.2.toNat (0,0,0,0,0)).2.2.2.2)).length≤bb∧aI .i64 (x_1.2+1)∧(0≤x_1.2+1∧x_1.2+1≤(↑x.length:Int)∧x.length≤200∧(↑(x_1.1++(aa (ap (IntKind.u64.wrap (x.getD x_1.2.toNat (0,0,0,0,0)).1))++aa (ap (IntKind.u64.wrap (x.getD x_1.2.toNat (0,0,0,0,0)).2.1))++aa (ap (IntKind.u64.wrap (x.getD x_1.2.toNat (0,0,0,0,0)).2.2.1))++aa (ap (IntKind.u64.wrap (x.getD x_1.2.toNat (0,0,0,0,0)).2.2.2.1))++aa (ap (x.getD x_1.2.toNat (0,0,0,0,0)).2.2.2.2))).length:Int)≤50 * (x_1.2+1)∧x_1.1++(aa (ap (IntKind.u64.wrap (x.getD x_1.2.toNat (0,0,0,0,0)).1))++aa (ap (IntKind.u64.wrap (x.getD x_1.2.toNat (0,0,0,0,0)).2.1))++aa (ap (IntKind.u64.wrap (x.getD x_1.2.toNat (0,0,0,0,0)).2.2.1))++aa (ap (IntKind.u64.wrap (x.getD x_1.2.toNat (0,0,0,0,0)).2.2.2.1))++aa (ap (x.getD x_1.2.toNat (0,0,0,0,0)).2.2.2.2))=aa (ej (List.take (x_1.2+1).toNat x)))∧((↑x.length:Int) - (x_1.2+1)).toNat<((↑x.length:Int) - x_1.2).toNat)∧(decide (x_1.2<(↑x.length:Int))=false→x_1.1=aa (ej x)∧True)
theorem kB:hH:=by
 unfold hH
 intro l ⟨_,hl⟩ h200
 refine ⟨⟨by omega,by omega,h200,by simp,rfl⟩,fun ⟨s,i⟩ ⟨i0,i1,_,i2,i3⟩=>⟨fun hlt=>?_,fun hge=>?_⟩⟩
 ·have hlt:=of_decide_eq_true hlt
  simp only at i0 i1 i2 i3 hlt ⊢
  have hm:=hl _ (jd ((0,0,0,0,0):eR) i0 hlt)
  rw [eU ((0,0,0,0,0):eR) i0 hlt,kk,db,← i3]
  generalize l.getD i.toNat (0,0,0,0,0)=o at *
  obtain ⟨a,b,c,d,e⟩:=o
  have h1:=fb (bR .u64 a)
  have h2:=fb (bR .u64 b)
  have h3:=fb (bR .u64 c)
  have h4:=fb (bR .u64 d)
  have h5:=fb hm.2.2.2.2
  simp only at h5 ⊢
  rw [show rh (a,b,c,d,e)=[kH a,kH b,kH c,kH d,e] from rfl,qP]
  simp only [kH,db]
  simp only [bb,aI,List.length_append,er] at *
  exact ⟨i0,hlt,trivial,trivial,by omega,trivial,by omega,trivial,by omega,trivial,by omega,by omega,by omega,⟨by omega,by omega,h200,by omega,trivial⟩,by omega⟩
 ·have hge:=of_decide_eq_false hge
  simp only at i3 hge ⊢
  rw [i3,lO hge]
  exact ⟨rfl,trivial⟩
theorem mc:lU.ok Try.prog 12:=ie (ann:=mS) (b9 nX cV) Try.func12 (by kernel_rfl) kB
def dN (s:List UInt8):List eR×Bool:=match aV s with
 | some l=>if l.length % 5=0∧l.length≤1000 then (aR l,true) else ([],false)
 | none=>([],false)
def lV:Spec:={ Ts:=[.str],Rs:=[.own 126 cq,.dat .bool],pre:=fun (s:List UInt8)=>s.length≤1000,F:=dN }
def mT:Nat→Option LoopGen
 | 5=>some { rd:=[.dat 4 (.arr eo)],A:=fun (l0:List Int)=>{ cs:=[.dat 4 (.arr eo),.own 6 126 cq],inv:=fun ((l,out):List Int×List eR)=>l.length % 5=0∧l.length≤1000∧out.length≤1000 - l.length∧out++aR l=aR l0,mu:=fun ((l,_):List Int×List eR)=>l.length } }
 | _=>none
def hI:Prop :=
  ∀ (x:List UInt8),x.length≤bb→x.length≤1000→x.length≤1000∧((!(br x).2)=false→0≤(↑(br x).1.length:Int))∧((!(br x).2)=false→(0:Int)<5)∧((!(br x).2||decide ((↑(br x).1.length:Int) % 5≠0)||decide (1000<(↑(br x).1.length:Int)))=true→([]:List (Int×Int×Int×Int×Int))=(dN x).1∧false=(dN x).2∧True)∧((!(br x).2||decide ((↑(br x).1.length:Int) % 5≠0)||decide (1000<(↑(br x).1.length:Int)))=false→((br x).1.length % 5=0∧(br x).1.length≤1000∧(0:Nat)≤1000 - (br x).1.length∧([]:List (Int×Int×Int×Int×Int))++aR (br x).1=aR (br x).1)∧∀ (x_1:List Int×List (Int×Int×Int×Int×Int)),x_1.1.length % 5=0∧x_1.1.length≤1000∧x_1.2.length≤1000 - x_1.1.length∧x_1.2++aR x_1.1=aR (br x).1→(decide (0<(↑x_1.1.length:Int))=true→(0:Int)≤0∧0<(↑x_1.1.length:Int)∧(0:Int)≤1∧1<(↑x_1.1.length:Int)∧(0:Int)≤2∧2<(↑x_1.1.length:Int)∧(0:Int)≤3∧3<(↑x_1.1.length:Int)∧(0:Int)≤4∧4<(↑x_1.1.length:Int)∧(x_1.2.length+[(IntKind.i64.wrap (x_1.1.getD (Int.toNat 0) 0),IntKind.i64.wrap (x_1.1.getD (Int.toNat 1) 0),IntKind.i64.wrap (x_1.1.getD (Int.toNat 2) 0),IntKind.i64.wrap (x_1.1.getD (Int.toNat 3) 0),x_1.1.getD (Int.toNat 4) 0)].length) * (8+(8+(8+(8+8))))≤bb∧(0:Int)≤5∧5≤(↑x_1.1.length:Int)∧((List.drop (Int.toNat 5) x_1.1).length % 5=0∧(List.drop (Int.toNat 5) x_1.1).length≤1000∧(x_1.2++[(IntKind.i64.wrap (x_1.1.getD (Int.toNat 0) 0),IntKind.i64.wrap (x_1.1.getD (Int.toNat 1) 0),IntKind.i64.wrap (x_1.1.getD (Int.toNat 2) 0),IntKind.i64.wrap (x_1.1.getD (Int.toNat 3) 0),x_1.1.getD (Int.toNat 4) 0)]).length≤1000 - (List.drop (Int.toNat 5) x_1.1).length∧x_1.2++[(IntKind.i64.wrap (x_1.1.getD (Int.toNat 0) 0),IntKind.i64.wrap (x_1.1.getD (Int.toNat 1) 0),IntKind.i64.wrap (x_1.1.getD (Int.toNat 2) 0),IntKind.i64.wrap (x_1.1.getD (Int.toNat 3) 0),x_1.1.getD (Int.toNat 4) 0)]++aR (List.drop (Int.toNat 5) x_1.1)=aR (br x).1)∧(List.drop (Int.toNat 5) x_1.1).length<x_1.1.length)∧(decide (0<(↑x_1.1.length:Int))=false→x_1.2=(dN x).1∧true=(dN x).2∧True))
theorem kC:hI:=by
 unfold hI
 intro s hb hs
 have hN:br s=match aV s with | some l=>(l,true) | none=>([],false):=rfl
 have hR:dN s=match aV s with | some l=>if l.length % 5=0∧l.length≤1000 then (aR l,true) else ([],false) | none=>([],false):=rfl
 unfold bb at *
 cases hl:aV s with
 | none =>
  rw [hl] at hN hR
  rw [hN,hR]
  refine ⟨hs,fun h=>by simp at h,fun h=>by simp at h,fun _=>⟨rfl,rfl,trivial⟩,fun h=>by simp at h⟩
 | some l =>
  rw [hl] at hN hR
  simp only at hN hR
  have hN1:(br s).1=l:=by rw [hN]
  have hN2:(br s).2=true:=by rw [hN]
  rw [hN1,hN2]
  refine ⟨hs,fun _=>by omega,fun _=>by omega,fun h=>?_,fun h=>?_⟩
  ·rw [if_neg (by
    rintro ⟨h1,h2⟩
    simp only [Bool.not_true,Bool.false_or,Bool.or_eq_true,decide_eq_true_eq] at h
    omega)] at hR
   rw [hR]
   exact ⟨rfl,by first | exact trivial | rfl,trivial⟩
  ·simp only [Bool.not_true,Bool.false_or,Bool.or_eq_false_iff,decide_eq_false_iff_not] at h
   rw [if_pos (by omega)] at hR
   rw [hR]
   refine ⟨⟨by omega,by omega,by omega,rfl⟩,fun ⟨r,out⟩ ⟨h1,h2,h3,h4⟩=>⟨fun hlt=>?_,fun hge=>?_⟩⟩
   ·have hlt:=of_decide_eq_true hlt
    simp only at h1 h2 h3 h4 hlt ⊢
    have h5:5≤r.length:=by omega
    rw [eI r h5] at h4
    have hm:(IntKind.i64.wrap (r.getD (Int.toNat 0) 0),IntKind.i64.wrap (r.getD (Int.toNat 1) 0),IntKind.i64.wrap (r.getD (Int.toNat 2) 0),IntKind.i64.wrap (r.getD (Int.toNat 3) 0),r.getD (Int.toNat 4) 0)=kZ (r.take 5):=by
     unfold kZ lg
     match r,h5 with
     | a::b::c::d::e::r,_=>rfl
    rw [hm]
    simp only [List.length_append,List.length_cons,List.length_nil,List.length_drop]
    refine ⟨by omega,by omega,by omega,by omega,by omega,by omega,by omega,by omega,by omega,by omega,by omega,by omega,by omega,⟨?_,?_,?_,?_⟩,?_⟩
    ·show (r.length - 5) % 5=0
     omega
    ·show r.length - 5≤1000
     omega
    ·show out.length+(0+1)≤1000 - (r.length - 5)
     omega
    ·rw [← h4,List.append_assoc]
     rfl
    ·show r.length - 5<r.length
     omega
   ·have hge:=of_decide_eq_false hge
    simp only at h4 hge ⊢
    have:r=[]:=List.eq_nil_of_length_eq_zero (by omega)
    subst this
    have h5:out=aR l:=by rw [← h4]; simp [aR]
    exact ⟨h5,by first | exact trivial | rfl,trivial⟩
theorem me:lV.ok Try.prog 14:=ie (ann:=mT) (b9 kW cV) Try.func14 (by kernel_rfl) kC
def lT:Spec:={ Ts:=[.arr cq,.arr cq],Rs:=[.dat .bool],pre:=fun _=>True,F:=fun (x:List eR×List eR)=>decide (x.1=x.2) }
def mR:Nat→Option LoopGen
 | 4=>some { rd:=[.dat 11 (.arr cq),.dat 1 (.arr cq)],A:=fun (g:List eR×List eR)=>{ cs:=[.dat 13 gw],inv:=fun (i:Int)=>g.1.length=g.2.length∧0≤i∧i≤g.1.length∧g.1.take i.toNat=g.2.take i.toNat,mu:=fun (i:Int)=>(g.1.length - i).toNat } }
 | _=>none
theorem qO (a b:eR):(!(decide (a.1=b.1)&&(decide (a.2.1=b.2.1)&&(decide (a.2.2.1=b.2.2.1)&&(decide (a.2.2.2.1=b.2.2.2.1)&&decide (a.2.2.2.2=b.2.2.2.2))))))=decide (a≠b):=by
 obtain ⟨a1,a2,a3,a4,a5⟩:=a
 obtain ⟨b1,b2,b3,b4,b5⟩:=b
 apply Bool.eq_iff_iff.2
 simp only [Bool.not_eq_true',Bool.and_eq_false_iff,decide_eq_true_eq,decide_eq_false_iff_not,ne_eq,Prod.mk.injEq]
 grind
def g9:Prop :=
  ∀ (x:List (Int×Int×Int×Int×Int)×List (Int×Int×Int×Int×Int)),((x.1.length * (8+(8+(8+(8+8))))≤bb∧∀ (x_1:Int×Int×Int×Int×Int),x_1∈x.1→aI .i64 x_1.1∧aI .i64 x_1.2.1∧aI .i64 x_1.2.2.1∧aI .i64 x_1.2.2.2.1∧aI .u64 x_1.2.2.2.2)∧x.2.length * (8+(8+(8+(8+8))))≤bb∧∀ (x_1:Int×Int×Int×Int×Int),x_1∈x.2→aI .i64 x_1.1∧aI .i64 x_1.2.1∧aI .i64 x_1.2.2.1∧aI .i64 x_1.2.2.2.1∧aI .u64 x_1.2.2.2.2)→True→(decide ((↑x.1.length:Int)≠(↑x.2.length:Int))=true→false=decide (x.1=x.2)∧True)∧(decide ((↑x.1.length:Int)≠(↑x.2.length:Int))=false→(x.1.length=x.2.length∧(0:Int)≤0∧0≤(↑x.1.length:Int)∧List.take (Int.toNat 0) x.1=List.take (Int.toNat 0) x.2)∧∀ (x_1:Int),x.1.length=x.2.length∧0≤x_1∧x_1≤(↑x.1.length:Int)∧List.take x_1.toNat x.1=List.take x_1.toNat x.2→(decide (x_1<(↑x.1.length:Int))=true→0≤x_1∧x_1<(↑x.1.length:Int)∧0≤x_1∧x_1<(↑x.2.length:Int)∧((!(decide ((x.1.getD x_1.toNat (0,0,0,0,0)).1=(x.2.getD x_1.toNat (0,0,0,0,0)).1)&&(decide ((x.1.getD x_1.toNat (0,0,0,0,0)).2.1=(x.2.getD x_1.toNat (0,0,0,0,0)).2.1)&&(decide ((x.1.getD x_1.toNat (0,0,0,0,0)).2.2.1=(x.2.getD x_1.toNat (0,0,0,0,0)).2.2.1)&&(decide ((x.1.getD x_1.toNat (0,0,0,0,0)).2.2.2.1=(x.2.getD x_1.toNat (0,0,0,0,0)).2.2.2.1)&&decide ((x.1.getD x_1.toNat (0,0,0,0,0)).2.2.2.2=(x.2.getD x_1.toNat (0,0,0,0,0)).2.2.2.2))))))=true→false=decide (x.1=x.2)∧True)∧((!(decide ((x.1.getD x_1.toNat (0,0,0,0,0)).1=(x.2.getD x_1.toNat (0,0,0,0,0)).1)&&(decide ((x.1.getD x_1.toNat (0,0,0,0,0)).2.1=(x.2.getD x_1.toNat (0,0,0,0,0)).2.1)&&(decide ((x.1.getD x_1.toNat (0,0,0,0,0)).2.2.1=(x.2.getD x_1.toNat (0,0,0,0,0)).2.2.1)&&(decide ((x.1.getD x_1.toNat (0,0,0,0,0)).2.2.2.1=(x.2.getD x_1.toNat (0,0,0,0,0)).2.2.2.1)&&decide ((x.1.getD x_1.toNat (0,0,0,0,0)).2.2.2.2=(x.2.getD x_1.toNat (0,0,0,0,0)).2.2.2.2))))))=false→aI .i64 (x_1+1)∧(x.1.length=x.2.length∧0≤x_1+1∧x_1+1≤(↑x.1.length:Int)∧List.take (x_1+1).toNat x.1=List.take (x_1+1).toNat x.2)∧((↑x.1.length:Int) - (x_1+1)).toNat<((↑x.1.length:Int) - x_1).toNat))∧(decide (x_1<(↑x.1.length:Int))=false→true=decide (x.1=x.2)∧True))
theorem kA:g9:=by
 unfold g9
 intro x hw _
 refine ⟨fun h=>?_,fun h=>?_⟩
 ·have h:x.1.length≠x.2.length:=by have:=of_decide_eq_true h; omega
  have:x.1≠x.2:=fun e=>h (by rw [e])
  simp [this]
 have hl:x.1.length=x.2.length:=by have:=of_decide_eq_false h; omega
 refine ⟨⟨hl,by omega,by omega,by simp⟩,fun i ⟨_,h0,h1,ht⟩=>⟨fun hlt=>?_,fun hge=>?_⟩⟩
 ·have hlt:i<x.1.length:=by simpa using hlt
  rw [qO]
  refine ⟨h0,hlt,h0,by omega,fun hne=>?_,fun he=>?_⟩
  ·have hne:x.1.getD i.toNat (0,0,0,0,0)≠x.2.getD i.toNat (0,0,0,0,0):=by simpa using hne
   have:x.1≠x.2:=fun e=>hne (by rw [e])
   simp [this]
  ·have he:x.1.getD i.toNat (0,0,0,0,0)=x.2.getD i.toNat (0,0,0,0,0):=by simpa using he
   have hb:=hw.1.1
   unfold bb at hb
   refine ⟨by simp only [aI]; omega,⟨hl,by omega,by omega,?_⟩,by omega⟩
   rw [show (i+1).toNat=i.toNat+1 by omega]
   exact oA hl (by omega) ht he
 ·have hge:¬ i<x.1.length:=by simpa using hge
  have hi:i.toNat=x.1.length:=by omega
  rw [hi,List.take_of_length_le (Nat.le_refl _),List.take_of_length_le (by omega)] at ht
  simp [ht]
theorem mb:lT.ok Try.prog 15:=ie (ann:=mR) cV Try.func15 (by kernel_rfl) kA
theorem qr {n:Int} (h0:0≤n):(((IntKind.u8.wrap n).toNat ||| Int.toNat 128:Nat):Int)=128+n % 128:=by
 rw [nM]
 have key:∀ m:Nat,m<256→m ||| 128=128+m % 128:=by decide
 have h1:=key (n % 256).toNat (by omega)
 rw [show Int.toNat 128=128 from rfl,h1]
 omega
theorem p5 (g:Int×Int×Int×Int×Int) {j:Int} (h0:0≤j) (h:j<5):(dp g).take (j+1).toNat=(dp g).take j.toNat++[(dp g).getD j.toNat 0]:=eU 0 h0 (by show j<((5:Nat):Int); omega)
theorem nh (l:List Int) (n:Int):eg (l++[n])=eg l++ap n:=by simp [eg]
def aX (l:List eR):List UInt8×Int:=if 200<l.length then ([],2) else (aa (ej l),0)
def m7:Spec:={ Ts:=[.arr cq],Rs:=[.dat .str,.dat gw],pre:=fun _=>True,F:=aX }
def nJ:Nat→Option LoopGen
 | 3000071=>some p6
 | 5=>some { rd:=[.dat 12 (.arr cq)],A:=fun (l:List eR)=>{ cs:=[.own 4 5 pc,.dat 14 gw],inv:=fun ((out,i):List Int×Int)=>0≤i∧i≤l.length∧l.length≤200∧out.length≤50 * i∧out=ej (l.take i.toNat),mu:=fun ((_,i):List Int×Int)=>(l.length - i).toNat } }
 | 8=>some { rd:=[.own 4 5 pc,.dat 32 qx],A:=fun ((o0,g):List Int×Int×Int×Int×Int×Int)=>{ cs:=[.own 4 5 pc,.dat 33 gw],inv:=fun ((out,j):List Int×Int)=>0≤j∧j≤5∧out.length≤o0.length+10 * j∧out=o0++eg ((dp g).take j.toNat),mu:=fun ((_,j):List Int×Int)=>(5 - j).toNat } }
 | 7200000001=>some { rd:=[.own 0 5 pc,.dat 1 eo],A:=fun ((o0,n0):List Int×Int)=>{ cs:=[.own 0 5 pc,.dat 1 eo],inv:=fun ((out,n):List Int×Int)=>0≤n∧out++ap n=o0++ap n0,mu:=fun ((_,n):List Int×Int)=>n.toNat } }
 | _=>none
def iS:Prop :=
  ∀ (x:List (Int×Int×Int×Int×Int)),(x.length * (8+(8+(8+(8+8))))≤bb∧∀ (x_1:Int×Int×Int×Int×Int),x_1∈x→aI .i64 x_1.1∧aI .i64 x_1.2.1∧aI .i64 x_1.2.2.1∧aI .i64 x_1.2.2.2.1∧aI .u64 x_1.2.2.2.2)→True→(decide (200<(↑x.length:Int))=true→([]:List UInt8)=(aX x).1∧2=(aX x).2∧True)∧(decide (200<(↑x.length:Int))=false→((0:Int)≤0∧0≤(↑x.length:Int)∧x.length≤200∧(↑(0:Nat):Int)≤50 * 0∧([]:List Int)=ej (List.take (Int.toNat 0) x))∧∀ (x_1:List Int×Int),0≤x_1.2∧x_1.2≤(↑x.length:Int)∧x.length≤200∧(↑x_1.1.length:Int)≤50 * x_1.2∧x_1.1=ej (List.take x_1.2.toNat x)→(decide (x_1.2<(↑x.length:Int))=true→0≤x_1.2∧x_1.2<(↑x.length:Int)∧((0:Int)≤0∧(0:Int)≤5∧(↑x_1.1.length:Int)≤(↑x_1.1.length:Int)+10 * 0∧x_1.1=x_1.1++eg (List.take (Int.toNat 0) (dp (IntKind.u64.wrap (x.getD x_1.2.toNat (0,0,0,0,0)).1,IntKind.u64.wrap (x.getD x_1.2.toNat (0,0,0,0,0)).2.1,IntKind.u64.wrap (x.getD x_1.2.toNat (0,0,0,0,0)).2.2.1,IntKind.u64.wrap (x.getD x_1.2.toNat (0,0,0,0,0)).2.2.2.1,(x.getD x_1.2.toNat (0,0,0,0,0)).2.2.2.2))))∧∀ (x_2:List Int×Int),0≤x_2.2∧x_2.2≤5∧(↑x_2.1.length:Int)≤(↑x_1.1.length:Int)+10 * x_2.2∧x_2.1=x_1.1++eg (List.take x_2.2.toNat (dp (IntKind.u64.wrap (x.getD x_1.2.toNat (0,0,0,0,0)).1,IntKind.u64.wrap (x.getD x_1.2.toNat (0,0,0,0,0)).2.1,IntKind.u64.wrap (x.getD x_1.2.toNat (0,0,0,0,0)).2.2.1,IntKind.u64.wrap (x.getD x_1.2.toNat (0,0,0,0,0)).2.2.2.1,(x.getD x_1.2.toNat (0,0,0,0,0)).2.2.2.2)))→(decide (x_2.2<5)=true→0≤x_2.2∧x_2.2<(↑[IntKind.u64.wrap (x.getD x_1.2.toNat (0,0,0,0,0)).1,IntKind.u64.wrap (x.getD x_1.2.toNat (0,0,0,0,0)).2.1,IntKind.u64.wrap (x.getD x_1.2.toNat (0,0,0,0,0)).2.2.1,IntKind.u64.wrap (x.getD x_1.2.toNat (0,0,0,0,0)).2.2.2.1,(x.getD x_1.2.toNat (0,0,0,0,0)).2.2.2.2].length:Int)∧∀ (_:Array Value),(0≤[IntKind.u64.wrap (x.getD x_1.2.toNat (0,0,0,0,0)).1,IntKind.u64.wrap (x.getD x_1.2.toNat (0,0,0,0,0)).2.1,IntKind.u64.wrap (x.getD x_1.2.toNat (0,0,0,0,0)).2.2.1,IntKind.u64.wrap (x.getD x_1.2.toNat (0,0,0,0,0)).2.2.2.1,(x.getD x_1.2.toNat (0,0,0,0,0)).2.2.2.2].getD x_2.2.toNat 0∧x_2.1++ap ([IntKind.u64.wrap (x.getD x_1.2.toNat (0,0,0,0,0)).1,IntKind.u64.wrap (x.getD x_1.2.toNat (0,0,0,0,0)).2.1,IntKind.u64.wrap (x.getD x_1.2.toNat (0,0,0,0,0)).2.2.1,IntKind.u64.wrap (x.getD x_1.2.toNat (0,0,0,0,0)).2.2.2.1,(x.getD x_1.2.toNat (0,0,0,0,0)).2.2.2.2].getD x_2.2.toNat 0)=x_2.1++ap ([IntKind.u64.wrap (x.getD x_1.2.toNat (0,0,0,0,0)).1,IntKind.u64.wrap (x.getD x_1.2.toNat (0,0,0,0,0)).2.1,IntKind.u64.wrap (x.getD x_1.2.toNat (0,0,0,0,0)).2.2.1,IntKind.u64.wrap (x.getD x_1.2.toNat (0,0,0,0,0)).2.2.2.1,(x.getD x_1.2.toNat (0,0,0,0,0)).2.2.2.2].getD x_2.2.toNat 0))∧∀ (x_3:List Int×Int),0≤x_3.2∧x_3.1++ap x_3.2=x_2.1++ap ([IntKind.u64.wrap (x.getD x_1.2.toNat (0,0,0,0,0)).1,IntKind.u64.wrap (x.getD x_1.2.toNat (0,0,0,0,0)).2.1,IntKind.u64.wrap (x.getD x_1.2.toNat (0,0,0,0,0)).2.2.1,IntKind.u64.wrap (x.getD x_1.2.toNat (0,0,0,0,0)).2.2.2.1,(x.getD x_1.2.toNat (0,0,0,0,0)).2.2.2.2].getD x_2.2.toNat 0)→(decide (128≤x_3.2)=true→(x_3.1.length+[(↑((IntKind.u8.wrap x_3.2).toNat ||| Int.toNat 128):Int)].length) * 8≤bb∧(0:Int)≤7∧7<(↑IntKind.u64.bits:Int)∧(0≤x_3.2 / 2 ^ Int.toNat 7∧x_3.1++[(↑((IntKind.u8.wrap x_3.2).toNat ||| Int.toNat 128):Int)]++ap (x_3.2 / 2 ^ Int.toNat 7)=x_2.1++ap ([IntKind.u64.wrap (x.getD x_1.2.toNat (0,0,0,0,0)).1,IntKind.u64.wrap (x.getD x_1.2.toNat (0,0,0,0,0)).2.1,IntKind.u64.wrap (x.getD x_1.2.toNat (0,0,0,0,0)).2.2.1,IntKind.u64.wrap (x.getD x_1.2.toNat (0,0,0,0,0)).2.2.2.1,(x.getD x_1.2.toNat (0,0,0,0,0)).2.2.2.2].getD x_2.2.toNat 0))∧(x_3.2 / 2 ^ Int.toNat 7).toNat<x_3.2.toNat)∧(decide (128≤x_3.2)=false→(x_3.1.length+[IntKind.u8.wrap x_3.2].length) * 8≤bb∧aI .i64 (x_2.2+1)∧(0≤x_2.2+1∧x_2.2+1≤5∧(↑(x_3.1++[IntKind.u8.wrap x_3.2]).length:Int)≤(↑x_1.1.length:Int)+10 * (x_2.2+1)∧x_3.1++[IntKind.u8.wrap x_3.2]=x_1.1++eg (List.take (x_2.2+1).toNat (dp (IntKind.u64.wrap (x.getD x_1.2.toNat (0,0,0,0,0)).1,IntKind.u64.wrap (x.getD x_1.2.toNat (0,0,0,0,0)).2.1,IntKind.u64.wrap (x.getD x_1.2.toNat (0,0,0,0,0)).2.2.1,IntKind.u64.wrap (x.getD x_1.2.toNat (0,0,0,0,0)).2.2.2.1,(x.getD x_1.2.toNat (0,0,0,0,0)).2.2.2.2))))∧(5 - (x_2.2+1)).toNat<(5 - x_2.2).toNat))∧(decide (x_2.2<5)=false→aI .i64 (x_1.2+1)∧(0≤x_1.2+1∧x_1.2+1≤(↑x.length:Int)∧x.length≤200∧(↑x_2.1.length:Int)≤50 * (x_1.2+1)∧x_2.1=ej (List.take (x_1.2+1).toNat x))∧((↑x.length:Int) - (x_1.2+1)).toNat<((↑x.length:Int) - x_1.2).toNat))∧(decide (x_1.2<(↑x.length:Int))=false→aa x_1.1=(aX x).1∧0=(aX x).2∧True))
theorem lK:iS:=by
 unfold iS
 intro l ⟨_,hl⟩ _
 have hF:aX l=if 200<l.length then ([],2) else (aa (ej l),0):=rfl
 refine ⟨fun h=>?_,fun h=>?_⟩
 ·rw [if_pos (by have:=of_decide_eq_true h; omega)] at hF
  rw [hF]
  exact ⟨rfl,rfl,trivial⟩
 have h200:l.length≤200:=by have:=of_decide_eq_false h; omega
 rw [if_neg (by omega)] at hF
 rw [hF]
 clear hF h
 refine ⟨⟨by omega,by omega,h200,by simp,rfl⟩,fun ⟨out,i⟩ ⟨i0,i1,_,i2,i3⟩=>⟨fun hlt=>?_,fun hge=>?_⟩⟩
 ·have hlt:=of_decide_eq_true hlt
  simp only at i0 i1 i2 i3 hlt ⊢
  have hm:=hl _ (jd ((0,0,0,0,0):eR) i0 hlt)
  rw [eU ((0,0,0,0,0):eR) i0 hlt,kk,← i3]
  generalize l.getD i.toNat (0,0,0,0,0)=o at *
  obtain ⟨a,b,c,d,e⟩:=o
  simp only at hm ⊢
  have hin:∀ x∈[IntKind.u64.wrap a,IntKind.u64.wrap b,IntKind.u64.wrap c,IntKind.u64.wrap d,e],aI .u64 x:=by
   intro x hx
   simp only [List.mem_cons,List.not_mem_nil,or_false] at hx
   rcases hx with rfl | rfl | rfl | rfl | rfl
   ·exact bR _ _
   ·exact bR _ _
   ·exact bR _ _
   ·exact bR _ _
   ·exact hm.2.2.2.2
  have hA:[IntKind.u64.wrap a,IntKind.u64.wrap b,IntKind.u64.wrap c,IntKind.u64.wrap d,e]=dp (IntKind.u64.wrap a,IntKind.u64.wrap b,IntKind.u64.wrap c,IntKind.u64.wrap d,e):=rfl
  have hW:rh (a,b,c,d,e)=dp (IntKind.u64.wrap a,IntKind.u64.wrap b,IntKind.u64.wrap c,IntKind.u64.wrap d,e):=rfl
  rw [hA] at hin ⊢
  rw [hW]
  generalize hg:(IntKind.u64.wrap a,IntKind.u64.wrap b,IntKind.u64.wrap c,IntKind.u64.wrap d,e)=g at *
  have h5:(dp g).length=5:=rfl
  refine ⟨i0,hlt,⟨by omega,by omega,by omega,by simp [eg]⟩,fun ⟨o2,j⟩ ⟨j0,j1,j2,j3⟩=>⟨fun hj=>?_,fun hj=>?_⟩⟩
  ·have hj:=of_decide_eq_true hj
   simp only at j0 j1 j2 j3 hj ⊢
   have hn:=hin _ (jd (0:Int) (xs:=dp g) (i:=j) j0 (by rw [h5]; omega))
   rw [p5 g j0 hj,nh,← List.append_assoc,← j3]
   generalize (dp g).getD j.toNat 0=n at *
   have hlen:=fb hn
   simp only [aI] at hn
   refine ⟨j0,by rw [h5]; omega,fun _=>⟨⟨hn.1,by first | exact trivial | rfl⟩,fun ⟨o3,m⟩ ⟨m0,m1⟩=>⟨fun hmm=>?_,fun hmm=>?_⟩⟩⟩
   ·have hmm:=of_decide_eq_true hmm
    simp only at m0 m1 hmm ⊢
    have e1:m / 2 ^ Int.toNat 7=m / 128:=rfl
    have hl3:=congrArg List.length m1
    have hp:=pr m
    rw [qr m0,e1]
    simp only [List.length_append,List.length_cons,List.length_nil,bb,qC] at *
    refine ⟨by omega,by omega,by omega,⟨by omega,?_⟩,by omega⟩
    rw [← m1,fZ (n:=m) (by omega),List.append_assoc]
    rfl
   ·have hmm:=of_decide_eq_false hmm
    simp only at m0 m1 hmm ⊢
    rw [dX (n:=m) (by omega)] at m1
    have hl3:=congrArg List.length m1
    rw [nM,Int.emod_eq_of_lt m0 (by omega),m1]
    simp only [List.length_append,List.length_cons,List.length_nil,bb,aI] at *
    exact ⟨by omega,by omega,⟨by omega,by omega,by omega,trivial⟩,by omega⟩
  ·have hj:=of_decide_eq_false hj
   simp only at j0 j1 j2 j3 hj ⊢
   rw [List.take_of_length_le (by rw [h5]; omega)] at j3
   simp only [aI]
   exact ⟨by omega,⟨by omega,by omega,h200,by omega,j3⟩,by omega⟩
 ·have hge:=of_decide_eq_false hge
  simp only at i3 hge ⊢
  rw [i3,lO hge]
  exact ⟨rfl,by first | exact trivial | rfl,trivial⟩
theorem ng:m7.ok Try.prog 11:=ie (ann:=nJ) cV Try.func11 (by kernel_rfl) lK
theorem qW (c:Nat):c &&& 127=c % 128:=Nat.and_two_pow_sub_one_eq_mod c 7
theorem qM {n:Int} {c:UInt8} {i:Int} (i0:0≤i) (i9:i≤9) (n0:0≤n) (n1:n<128 ^ i.toNat) :
  ((n.toNat ||| (IntKind.u64.wrap ((((c.toNat:Int).toNat &&& Int.toNat 127:Nat):Int) * 2 ^ (7 * i).toNat)).toNat:Nat):Int)=(n+(c.toNat:Int) % 128 * 128 ^ i.toNat) % 18446744073709551616:=by
 have hc:=c.toNat_lt
 rw [show Int.toNat 127=127 from rfl,Int.toNat_natCast,qW]
 have e7:(2:Int) ^ (7 * i).toNat=128 ^ i.toNat:=by
  rw [show (7 * i).toNat=7 * i.toNat by omega,Int.pow_mul]
  rfl
 have hp:=ne i0 i9
 have hd:(((c.toNat % 128:Nat)):Int)=(c.toNat:Int) % 128:=by omega
 rw [hd]
 generalize hdd:(c.toNat:Int) % 128=d at *
 have d0:0≤d:=by omega
 have d1:d≤127:=by omega
 by_cases h8:i≤8
 ·have hle:d * 128 ^ i.toNat≤127 * 128 ^ i.toNat:=Int.mul_le_mul_of_nonneg_right d1 (by omega)
  have hge:0≤d * 128 ^ i.toNat:=Int.mul_nonneg d0 (by omega)
  have h9:=hp.2.1 h8
  rw [e7,nL hge (by omega),← e7,nZ n0 d0 (i:=(7 * i).toNat) (by rw [e7]; exact n1),e7,Int.emod_eq_of_lt (by omega) (by omega)]
 ·obtain rfl:i=9:=by omega
  have e9:(128:Int) ^ (9:Int).toNat=9223372036854775808:=by decide
  have e63:(2:Int) ^ (7 * 9:Int).toNat=9223372036854775808:=by decide
  rw [e9] at n1 ⊢
  rw [e63]
  have hw:IntKind.u64.wrap (d * 9223372036854775808)=d % 2 * 2 ^ 63:=by
   simp only [IntKind.wrap,IntKind.bits,IntKind.signed]
   have e3:(2:Int) ^ 63=9223372036854775808:=by decide
   simp
   omega
  have e3:(2:Int) ^ 63=9223372036854775808:=by decide
  rw [hw,nZ n0 (by omega) (i:=63) (by rw [e3]; exact n1),e3]
  omega
theorem p3 {g:Int×Int×Int×Int×Int} {vs:List Int} {j:Nat} (v:Int) (h:dp g=vs++List.replicate (5 - j) 0) (hl:vs.length=j) (hj:j<5) :
  dp (if j=0 then v else g.1,if j=0+1 then v else g.2.1,if j=0+1+1 then v else g.2.2.1,if j=0+1+1+1 then v else g.2.2.2.1,if j=0+1+1+1+1 then v else g.2.2.2.2)=(vs++[v])++List.replicate (5 - (j+1)) 0:=by
 have e:dp (if j=0 then v else g.1,if j=0+1 then v else g.2.1,if j=0+1+1 then v else g.2.2.1,if j=0+1+1+1 then v else g.2.2.2.1,if j=0+1+1+1+1 then v else g.2.2.2.2)=(dp g).set j v:=by
  have:j=0∨j=1∨j=2∨j=3∨j=4:=by omega
  rcases this with rfl | rfl | rfl | rfl | rfl <;> rfl
 rw [e,h,List.set_append_right _ _ (by omega),hl,Nat.sub_self,show 5 - j=(5 - (j+1))+1 by omega,List.replicate_succ,List.set_cons_zero,List.append_assoc]
 rfl
theorem ni {r:Rd} {p q:List UInt8} (h:dn 10 r.1=some (p,q)):ca r=(aH p % 18446744073709551616,q,r.2||oZ p):=by unfold ca; rw [h]
theorem nj {r:Rd} (h:dn 10 r.1=none):ca r=(0,r.1,true):=by unfold ca; rw [h]
def am (s:List UInt8):List eR×Int:=if ((aC (s,false) []).2.2||decide (200<(aC (s,false) []).1.length))=true then ([],3) else ((aC (s,false) []).1,0)
def lS:Spec:={ Ts:=[.str],Rs:=[.own 126 cq,.dat gw],pre:=fun (s:List UInt8)=>s.length≤1000,F:=am }
def mQ:Nat→Option LoopGen
 | 3000073=>some p6
 | 3=>some { rd:=[.box 10 ka],A:=fun (r0:Rd)=>{ cs:=[.box 10 ka,.own 5 126 cq],inv:=fun ((r,out):Rd×List eR)=>out.length+o5 r≤1000∧r.1.length≤1000∧aC r out=aC r0 [],mu:=fun ((r,_):Rd×List eR)=>o5 r } }
 | 6=>some { rd:=[.box 10 ka],A:=fun (r0:Rd)=>{ cs:=[.box 10 ka,.box 6 qx,.dat 23 gw],inv:=fun ((r,g,j):Rd×(Int×Int×Int×Int×Int)×Int)=>0≤j∧j≤5∧r=(an j.toNat r0).2∧dp g=(an j.toNat r0).1++List.replicate (5 - j.toNat) 0,mu:=fun ((_,_,j):Rd×(Int×Int×Int×Int×Int)×Int)=>(5 - j).toNat } }
 | 7400000003=>some { rd:=[.box 10900000 ka],A:=fun (r0:Rd)=>{ cs:=[.box 10900000 ka,.dat 3 eo,.dat 12 gw],inv:=fun ((r,n,i):Rd×Int×Int)=>r=r0∧0≤i∧i≤r0.1.length∧i≤10∧(∀ c∈r0.1.take i.toNat,128≤c.toNat)∧(i≤9→n=aH (r0.1.take i.toNat)),mu:=fun ((_,_,i):Rd×Int×Int)=>(10 - i).toNat } }
 | _=>none
def g8:Prop :=
  ∀ (x:List UInt8),x.length≤bb→x.length≤1000→(0+o5 (x,false)≤1000∧x.length≤1000∧aC (x,false) ([]:List (Int×Int×Int×Int×Int))=aC (x,false) ([]:List eR))∧∀ (x_1:(List UInt8×Bool)×List (Int×Int×Int×Int×Int)),x_1.2.length+o5 x_1.1≤1000∧x_1.1.1.length≤1000∧aC x_1.1 x_1.2=aC (x,false) ([]:List eR)→((decide (x_1.1.1≠([]:List UInt8))&&!x_1.1.2)=true→((0:Int)≤0∧(0:Int)≤5∧x_1.1=(an (Int.toNat 0) x_1.1).2∧dp (0,0,0,0,0)=(an (Int.toNat 0) x_1.1).1++List.replicate (5 - Int.toNat 0) (0:Int))∧∀ (x_2:(List UInt8×Bool)×(Int×Int×Int×Int×Int)×Int),0≤x_2.2.2∧x_2.2.2≤5∧x_2.1=(an x_2.2.2.toNat x_1.1).2∧dp x_2.2.1=(an x_2.2.2.toNat x_1.1).1++List.replicate (5 - x_2.2.2.toNat) (0:Int)→(decide (x_2.2.2<5)=true→∀ (_:Array Value),(x_2.1=x_2.1∧(0:Int)≤0∧0≤(↑x_2.1.1.length:Int)∧(0:Int)≤10∧(∀ (c:UInt8),c∈List.take (Int.toNat 0) x_2.1.1→128≤c.toNat)∧((0:Int)≤9→0=aH (List.take (Int.toNat 0) x_2.1.1)))∧∀ (x:(List UInt8×Bool)×Int×Int),x.1=x_2.1∧0≤x.2.2∧x.2.2≤(↑x_2.1.1.length:Int)∧x.2.2≤10∧(∀ (c:UInt8),c∈List.take x.2.2.toNat x_2.1.1→128≤c.toNat)∧(x.2.2≤9→x.2.1=aH (List.take x.2.2.toNat x_2.1.1))→(decide (x.2.2<if 10<(↑x_2.1.1.length:Int) then (10:Int) else (↑x_2.1.1.length:Int))=true→0≤x.2.2∧x.2.2<(↑x.1.1.length:Int)∧aI .i64 (7 * x.2.2)∧(0:Int)≤7 * x.2.2∧7 * x.2.2<(↑IntKind.u64.bits:Int)∧(decide ((↑(x.1.1.getD x.2.2.toNat (0:UInt8)).toNat:Int)<128)=true→aI .i64 (x.2.2+1)∧0≤x.2.2+1∧x.2.2+1≤(↑x.1.1.length:Int)∧0≤x_2.2.2∧x_2.2.2<(↑[x_2.2.1.1,x_2.2.1.2.1,x_2.2.1.2.2.1,x_2.2.1.2.2.2.1,x_2.2.1.2.2.2.2].length:Int)∧x_2.2.2.toNat<[x_2.2.1.1,x_2.2.1.2.1,x_2.2.1.2.2.1,x_2.2.1.2.2.2.1,x_2.2.1.2.2.2.2].length∧aI .i64 (x_2.2.2+1)∧(0≤x_2.2.2+1∧x_2.2.2+1≤5∧(List.drop (x.2.2+1).toNat x.1.1,x.1.2||decide ((↑(x.1.1.getD x.2.2.toNat (0:UInt8)).toNat:Int)=0)&&decide (0<x.2.2)||decide (x.2.2=9)&&decide (1<(↑(x.1.1.getD x.2.2.toNat (0:UInt8)).toNat:Int)))=(an (x_2.2.2+1).toNat x_1.1).2∧dp (if x_2.2.2.toNat=0 then (↑(x.2.1.toNat ||| (IntKind.u64.wrap ((↑((↑(x.1.1.getD x.2.2.toNat (0:UInt8)).toNat:Int).toNat &&& Int.toNat 127):Int) * 2 ^ (7 * x.2.2).toNat)).toNat):Int) else x_2.2.1.1,if x_2.2.2.toNat=0+1 then (↑(x.2.1.toNat ||| (IntKind.u64.wrap ((↑((↑(x.1.1.getD x.2.2.toNat (0:UInt8)).toNat:Int).toNat &&& Int.toNat 127):Int) * 2 ^ (7 * x.2.2).toNat)).toNat):Int) else x_2.2.1.2.1,if x_2.2.2.toNat=0+1+1 then (↑(x.2.1.toNat ||| (IntKind.u64.wrap ((↑((↑(x.1.1.getD x.2.2.toNat (0:UInt8)).toNat:Int).toNat &&& Int.toNat 127):Int) * 2 ^ (7 * x.2.2).toNat)).toNat):Int) else x_2.2.1.2.2.1,if x_2.2.2.toNat=0+1+1+1 then (↑(x.2.1.toNat ||| (IntKind.u64.wrap ((↑((↑(x.1.1.getD x.2.2.toNat (0:UInt8)).toNat:Int).toNat &&& Int.toNat 127):Int) * 2 ^ (7 * x.2.2).toNat)).toNat):Int) else x_2.2.1.2.2.2.1,if x_2.2.2.toNat=0+1+1+1+1 then (↑(x.2.1.toNat ||| (IntKind.u64.wrap ((↑((↑(x.1.1.getD x.2.2.toNat (0:UInt8)).toNat:Int).toNat &&& Int.toNat 127):Int) * 2 ^ (7 * x.2.2).toNat)).toNat):Int) else x_2.2.1.2.2.2.2)=(an (x_2.2.2+1).toNat x_1.1).1++List.replicate (5 - (x_2.2.2+1).toNat) (0:Int))∧(5 - (x_2.2.2+1)).toNat<(5 - x_2.2.2).toNat)∧(decide ((↑(x.1.1.getD x.2.2.toNat (0:UInt8)).toNat:Int)<128)=false→aI .i64 (x.2.2+1)∧(x.1=x_2.1∧0≤x.2.2+1∧x.2.2+1≤(↑x_2.1.1.length:Int)∧x.2.2+1≤10∧(∀ (c:UInt8),c∈List.take (x.2.2+1).toNat x_2.1.1→128≤c.toNat)∧(x.2.2+1≤9→(↑(x.2.1.toNat ||| (IntKind.u64.wrap ((↑((↑(x.1.1.getD x.2.2.toNat (0:UInt8)).toNat:Int).toNat &&& Int.toNat 127):Int) * 2 ^ (7 * x.2.2).toNat)).toNat):Int)=aH (List.take (x.2.2+1).toNat x_2.1.1)))∧(10 - (x.2.2+1)).toNat<(10 - x.2.2).toNat))∧(decide (x.2.2<if 10<(↑x_2.1.1.length:Int) then (10:Int) else (↑x_2.1.1.length:Int))=false→0≤x_2.2.2∧x_2.2.2<(↑[x_2.2.1.1,x_2.2.1.2.1,x_2.2.1.2.2.1,x_2.2.1.2.2.2.1,x_2.2.1.2.2.2.2].length:Int)∧x_2.2.2.toNat<[x_2.2.1.1,x_2.2.1.2.1,x_2.2.1.2.2.1,x_2.2.1.2.2.2.1,x_2.2.1.2.2.2.2].length∧aI .i64 (x_2.2.2+1)∧(0≤x_2.2.2+1∧x_2.2.2+1≤5∧(x.1.1,true)=(an (x_2.2.2+1).toNat x_1.1).2∧dp (if x_2.2.2.toNat=0 then (0:Int) else x_2.2.1.1,if x_2.2.2.toNat=0+1 then (0:Int) else x_2.2.1.2.1,if x_2.2.2.toNat=0+1+1 then (0:Int) else x_2.2.1.2.2.1,if x_2.2.2.toNat=0+1+1+1 then (0:Int) else x_2.2.1.2.2.2.1,if x_2.2.2.toNat=0+1+1+1+1 then (0:Int) else x_2.2.1.2.2.2.2)=(an (x_2.2.2+1).toNat x_1.1).1++List.replicate (5 - (x_2.2.2+1).toNat) (0:Int))∧(5 - (x_2.2.2+1)).toNat<(5 - x_2.2.2).toNat))∧(decide (x_2.2.2<5)=false→(0:Int)≤0∧0<(↑[x_2.2.1.1,x_2.2.1.2.1,x_2.2.1.2.2.1,x_2.2.1.2.2.2.1,x_2.2.1.2.2.2.2].length:Int)∧Int.toNat 0<[x_2.2.1.1,x_2.2.1.2.1,x_2.2.1.2.2.1,x_2.2.1.2.2.2.1,x_2.2.1.2.2.2.2].length∧(0:Int)≤1∧1<(↑[x_2.2.1.1,x_2.2.1.2.1,x_2.2.1.2.2.1,x_2.2.1.2.2.2.1,x_2.2.1.2.2.2.2].length:Int)∧Int.toNat 1<[x_2.2.1.1,x_2.2.1.2.1,x_2.2.1.2.2.1,x_2.2.1.2.2.2.1,x_2.2.1.2.2.2.2].length∧(0:Int)≤2∧2<(↑[x_2.2.1.1,x_2.2.1.2.1,x_2.2.1.2.2.1,x_2.2.1.2.2.2.1,x_2.2.1.2.2.2.2].length:Int)∧Int.toNat 2<[x_2.2.1.1,x_2.2.1.2.1,x_2.2.1.2.2.1,x_2.2.1.2.2.2.1,x_2.2.1.2.2.2.2].length∧(0:Int)≤3∧3<(↑[x_2.2.1.1,x_2.2.1.2.1,x_2.2.1.2.2.1,x_2.2.1.2.2.2.1,x_2.2.1.2.2.2.2].length:Int)∧Int.toNat 3<[x_2.2.1.1,x_2.2.1.2.1,x_2.2.1.2.2.1,x_2.2.1.2.2.2.1,x_2.2.1.2.2.2.2].length∧(0:Int)≤4∧4<(↑[x_2.2.1.1,x_2.2.1.2.1,x_2.2.1.2.2.1,x_2.2.1.2.2.2.1,x_2.2.1.2.2.2.2].length:Int)∧Int.toNat 4<[x_2.2.1.1,x_2.2.1.2.1,x_2.2.1.2.2.1,x_2.2.1.2.2.2.1,x_2.2.1.2.2.2.2].length∧(x_1.2.length+[(IntKind.i64.wrap ([x_2.2.1.1,x_2.2.1.2.1,x_2.2.1.2.2.1,x_2.2.1.2.2.2.1,x_2.2.1.2.2.2.2].getD (Int.toNat 0) 0),IntKind.i64.wrap ([x_2.2.1.1,x_2.2.1.2.1,x_2.2.1.2.2.1,x_2.2.1.2.2.2.1,x_2.2.1.2.2.2.2].getD (Int.toNat 1) 0),IntKind.i64.wrap ([x_2.2.1.1,x_2.2.1.2.1,x_2.2.1.2.2.1,x_2.2.1.2.2.2.1,x_2.2.1.2.2.2.2].getD (Int.toNat 2) 0),IntKind.i64.wrap ([x_2.2.1.1,x_2.2.1.2.1,x_2.2.1.2.2.1,x_2.2.1.2.2.2.1,x_2.2.1.2.2.2.2].getD (Int.toNat 3) 0),[x_2.2.1.1,x_2.2.1.2.1,x_2.2.1.2.2.1,x_2.2.1.2.2.2.1,x_2.2.1.2.2.2.2].getD (Int.toNat 4) 0)].length) * (8+(8+(8+(8+8))))≤bb∧((x_1.2++[(IntKind.i64.wrap ([x_2.2.1.1,x_2.2.1.2.1,x_2.2.1.2.2.1,x_2.2.1.2.2.2.1,x_2.2.1.2.2.2.2].getD (Int.toNat 0) 0),IntKind.i64.wrap ([x_2.2.1.1,x_2.2.1.2.1,x_2.2.1.2.2.1,x_2.2.1.2.2.2.1,x_2.2.1.2.2.2.2].getD (Int.toNat 1) 0),IntKind.i64.wrap ([x_2.2.1.1,x_2.2.1.2.1,x_2.2.1.2.2.1,x_2.2.1.2.2.2.1,x_2.2.1.2.2.2.2].getD (Int.toNat 2) 0),IntKind.i64.wrap ([x_2.2.1.1,x_2.2.1.2.1,x_2.2.1.2.2.1,x_2.2.1.2.2.2.1,x_2.2.1.2.2.2.2].getD (Int.toNat 3) 0),[x_2.2.1.1,x_2.2.1.2.1,x_2.2.1.2.2.1,x_2.2.1.2.2.2.1,x_2.2.1.2.2.2.2].getD (Int.toNat 4) 0)]).length+o5 x_2.1≤1000∧x_2.1.1.length≤1000∧aC x_2.1 (x_1.2++[(IntKind.i64.wrap ([x_2.2.1.1,x_2.2.1.2.1,x_2.2.1.2.2.1,x_2.2.1.2.2.2.1,x_2.2.1.2.2.2.2].getD (Int.toNat 0) 0),IntKind.i64.wrap ([x_2.2.1.1,x_2.2.1.2.1,x_2.2.1.2.2.1,x_2.2.1.2.2.2.1,x_2.2.1.2.2.2.2].getD (Int.toNat 1) 0),IntKind.i64.wrap ([x_2.2.1.1,x_2.2.1.2.1,x_2.2.1.2.2.1,x_2.2.1.2.2.2.1,x_2.2.1.2.2.2.2].getD (Int.toNat 2) 0),IntKind.i64.wrap ([x_2.2.1.1,x_2.2.1.2.1,x_2.2.1.2.2.1,x_2.2.1.2.2.2.1,x_2.2.1.2.2.2.2].getD (Int.toNat 3) 0),[x_2.2.1.1,x_2.2.1.2.1,x_2.2.1.2.2.1,x_2.2.1.2.2.2.1,x_2.2.1.2.2.2.2].getD (Int.toNat 4) 0)])=aC (x,false) ([]:List eR))∧o5 x_2.1<o5 x_1.1))∧((decide (x_1.1.1≠([]:List UInt8))&&!x_1.1.2)=false→((x_1.1.2||decide (200<(↑x_1.2.length:Int)))=true→([]:List (Int×Int×Int×Int×Int))=(am x).1∧3=(am x).2∧True)∧((x_1.1.2||decide (200<(↑x_1.2.length:Int)))=false→x_1.2=(am x).1∧0=(am x).2∧True))
theorem kz:g8:=by
 unfold g8
 intro s _ hs
 have hF:am s=if ((aC (s,false) []).2.2||decide (200<(aC (s,false) []).1.length))=true then ([],3) else ((aC (s,false) []).1,0):=rfl
 have hmu0:o5 (s,false)=s.length:=rfl
 refine ⟨⟨by rw [hmu0]; omega,hs,rfl⟩,fun ⟨r,out⟩ ⟨h1,h2,h3⟩=>⟨fun hlt=>?_,fun hge=>?_⟩⟩
 ·simp only [Bool.and_eq_true,decide_eq_true_eq,Bool.not_eq_true'] at hlt
  simp only at h1 h2 h3 ⊢
  have hmu:=mm hlt
  refine ⟨⟨by omega,by omega,rfl,rfl⟩,fun ⟨r2,g,j⟩ ⟨j0,j1,j2,j3⟩=>⟨fun hj=>?_,fun hj=>?_⟩⟩
  ·have hj5:=of_decide_eq_true hj
   simp only at j0 j1 j2 j3 hj5 ⊢
   have hjL:j<(([g.1,g.2.1,g.2.2.1,g.2.2.2.1,g.2.2.2.2]:List Int).length:Int):=by
    simp only [List.length_cons,List.length_nil]
    omega
   have hjn:j.toNat<5:=by omega
   have hjs:(j+1).toNat=j.toNat+1:=by omega
   have hvl:=fW j.toNat r
   have hread:an (j+1).toNat r=((an j.toNat r).1++[(ca r2).1],(ca r2).2):=by rw [hjs,an,← j2]
   have hst:=fun v=>p3 v j3 hvl hjn
   rw [hread,hjs]
   refine fun _=>⟨⟨by first | exact trivial | rfl,by omega,by omega,by omega,by simp,fun _=>by simp [aH]⟩,fun ⟨r3,n,i⟩ ⟨e0,i0,i1,i2,ha,hv⟩=>⟨fun hi=>?_,fun hi=>?_⟩⟩
   ·have hi:=of_decide_eq_true hi
    simp only at e0 i0 i1 i2 ha hv hi ⊢
    subst e0
    have hil:i<(r3.1.length:Int):=by split at hi <;> omega
    have hi9:i≤9:=by split at hi <;> omega
    have hlast:=i7 i0 hil
    have hval:=lM i0 hil
    obtain rfl:=hv hi9
    have hor:=qM (c:=r3.1.getD i.toNat 0) i0 hi9 hval.2.1 hval.2.2
    rw [hor,← hval.1]
    have hc255:=(r3.1.getD i.toNat 0).toNat_lt
    simp only [aI,qC]
    refine ⟨i0,hil,by omega,by omega,by omega,fun hs=>?_,fun hs=>?_⟩
    ·have hs:(r3.1.getD i.toNat 0).toNat<128:=by have:=of_decide_eq_true hs; omega
     rw [ni (ml i0 hil hi9 ha hs)]
     refine ⟨by omega,by omega,by omega,j0,hjL,hjn,by omega,⟨by omega,by omega,?_,hst _⟩,by omega⟩
     simp only [Prod.mk.injEq,true_and]
     unfold oZ
     rw [hlast.1,hlast.2]
     have b1:decide (((r3.1.getD i.toNat 0).toNat:Int)=0)=decide ((r3.1.getD i.toNat 0).toNat=0):=by apply Bool.eq_iff_iff.2; simp only [decide_eq_true_eq]; omega
     have b2:decide (0<i)=decide (1<(i+1).toNat):=by apply Bool.eq_iff_iff.2; simp only [decide_eq_true_eq]; omega
     have b3:decide (i=9)=decide ((i+1).toNat=10):=by apply Bool.eq_iff_iff.2; simp only [decide_eq_true_eq]; omega
     have b4:decide (1<((r3.1.getD i.toNat 0).toNat:Int))=decide (1<(r3.1.getD i.toNat 0).toNat):=by apply Bool.eq_iff_iff.2; simp only [decide_eq_true_eq]; omega
     rw [b1,b2,b3,b4,Bool.or_assoc]
    ·have hs:128≤(r3.1.getD i.toNat 0).toNat:=by have:=of_decide_eq_false hs; omega
     refine ⟨by omega,⟨by first | exact trivial | rfl,by omega,by omega,by omega,mV i0 hil ha hs,fun h9=>?_⟩,by omega⟩
     have hl2:(r3.1.take (i+1).toNat).length=(i+1).toNat:=hlast.2
     have h3:=fM (r3.1.take (i+1).toNat)
     rw [hl2] at h3
     have:=ne (i:=i+1) (by omega) h9
     exact Int.emod_eq_of_lt (cK _) (by omega)
   ·have hi:=of_decide_eq_false hi
    simp only at e0 i0 i1 i2 ha hv hi ⊢
    subst e0
    have hend:i=10∨(r3.1.length:Int)≤i:=by split at hi <;> omega
    rw [nj (iy hend ha)]
    simp only [aI]
    exact ⟨j0,hjL,hjn,by omega,⟨by omega,by omega,by first | exact trivial | rfl,hst _⟩,by omega⟩
  ·have hj:=of_decide_eq_false hj
   simp only at j0 j1 j2 j3 hj ⊢
   obtain rfl:j=5:=by omega
   have j2:r2=(an 5 r).2:=j2
   have j3:dp g=(an 5 r).1:=by rw [j3]; exact List.append_nil _
   have hop:(IntKind.i64.wrap ([g.1,g.2.1,g.2.2.1,g.2.2.2.1,g.2.2.2.2].getD (Int.toNat 0) 0),IntKind.i64.wrap ([g.1,g.2.1,g.2.2.1,g.2.2.2.1,g.2.2.2.2].getD (Int.toNat 1) 0),IntKind.i64.wrap ([g.1,g.2.1,g.2.2.1,g.2.2.2.1,g.2.2.2.2].getD (Int.toNat 2) 0),IntKind.i64.wrap ([g.1,g.2.1,g.2.2.1,g.2.2.2.1,g.2.2.2.2].getD (Int.toNat 3) 0),[g.1,g.2.1,g.2.2.1,g.2.2.2.1,g.2.2.2.2].getD (Int.toNat 4) 0)=kZ (an 5 r).1:=by
    rw [← j3]
    rfl
   rw [hop,j2]
   have hlen:=(iR 5 r).2
   have hstep:=hY (out:=out) hlt
   simp only [List.length_append,List.length_cons,List.length_nil,bb]
   refine ⟨by omega,by omega,by omega,by omega,by omega,by omega,by omega,by omega,by omega,by omega,by omega,by omega,by omega,by omega,by omega,by omega,⟨by omega,by omega,?_⟩,hmu⟩
   rw [← hstep]
   exact h3
 ·have hstop:aC r out=(out,r):=eD (by
   rintro ⟨g1,g2⟩
   simp only at hge
   rw [decide_eq_true g1,g2] at hge
   cases hge)
  simp only at h3 ⊢
  rw [hstop] at h3
  rw [← h3] at hF
  simp only at hF
  have hd:decide (200<(out.length:Int))=decide (200<out.length):=by apply Bool.eq_iff_iff.2; simp only [decide_eq_true_eq]; omega
  rw [hd]
  refine ⟨fun h=>?_,fun h=>?_⟩
  ·rw [if_pos h] at hF
   rw [hF]
   exact ⟨rfl,by first | exact trivial | rfl,trivial⟩
  ·rw [if_neg (by rw [h]; simp)] at hF
   rw [hF]
   exact ⟨rfl,by first | exact trivial | rfl,trivial⟩
theorem ma:lS.ok Try.prog 13:=ie (ann:=mQ) cV Try.func13 (by kernel_rfl) kz
theorem oJ (s:List UInt8):am s=if (dN s).2=true then ((dN s).1,0) else ([],3):=by
 obtain ⟨hA,hB,hC⟩:=fY s.length s [] (Nat.le_refl _)
 unfold am dN
 cases hl:aV s with
 | none=>simp [hC hl]
 | some l =>
  by_cases h5:l.length % 5=0
  ·obtain ⟨e1,e2⟩:=hA l hl h5
   have e3:=fk l.length l (Nat.le_refl _)
   rw [e1,e2]
   simp only [List.nil_append]
   by_cases h:l.length≤1000
   ·have hg:¬ 200<(aR l).length:=by omega
    simp [h5,h,hg]
   ·have hg:200<(aR l).length:=by omega
    simp [h5,h,hg]
  ·rw [hB l hl h5]
   simp [h5]
def jG:Spec:=ph [.arr cq,.str]
def fh:Prop :=
  ∀ (x:List (Int×Int×Int×Int×Int)×List UInt8),(x.1.length * (8+(8+(8+(8+8))))≤bb∧∀ (x_1:Int×Int×Int×Int×Int),x_1∈x.1→aI .i64 x_1.1∧aI .i64 x_1.2.1∧aI .i64 x_1.2.2.1∧aI .i64 x_1.2.2.2.1∧aI .u64 x_1.2.2.2.2)∧x.2.length≤bb→(x.1.length * (8+(8+(8+(8+8))))≤140737488351232∧∀ (x_1:Int×Int×Int×Int×Int),x_1∈x.1→cI cq x_1)∧x.2.length≤140737488351232→True∧(decide (200<(↑x.1.length:Int))=true→((decide ((aX x.1).1≠([]:List UInt8))||decide ((aX x.1).2≠2))=true→false=true∧True)∧((decide ((aX x.1).1≠([]:List UInt8))||decide ((aX x.1).2≠2))=false→(decide (600<(↑x.2.length:Int))=true→true=true∧True)∧(decide (600<(↑x.2.length:Int))=false→x.2.length≤1000∧x.2.length≤1000∧((!(dN x.2).2)=true→(decide ((↑(am x.2).1.length:Int)=0)&&decide ((am x.2).2=3))=true∧True)∧((!(dN x.2).2)=false→(decide ((am x.2).2=0)=true→True)∧(decide ((am x.2).2=0)&&decide ((am x.2).1=(dN x.2).1))=true∧True))))∧(decide (200<(↑x.1.length:Int))=false→x.1.length≤200∧((decide ((aX x.1).1≠aa (ej x.1))||decide ((aX x.1).2≠0))=true→false=true∧True)∧((decide ((aX x.1).1≠aa (ej x.1))||decide ((aX x.1).2≠0))=false→(decide (600<(↑x.2.length:Int))=true→true=true∧True)∧(decide (600<(↑x.2.length:Int))=false→x.2.length≤1000∧x.2.length≤1000∧((!(dN x.2).2)=true→(decide ((↑(am x.2).1.length:Int)=0)&&decide ((am x.2).2=3))=true∧True)∧((!(dN x.2).2)=false→(decide ((am x.2).2=0)=true→True)∧(decide ((am x.2).2=0)&&decide ((am x.2).1=(dN x.2).1))=true∧True))))
theorem iC:fh:=by
 unfold fh
 intro ⟨l,s⟩ _ _
 have hR:=oJ s
 have hF:aX l=if 200<l.length then ([],2) else (aa (ej l),0):=rfl
 have tail:(decide (600<(s.length:Int))=true→true=true∧True)∧(decide (600<(s.length:Int))=false→s.length≤1000∧s.length≤1000∧((!(dN s).2)=true→(decide (((am s).1.length:Int)=0)&&decide ((am s).2=3))=true∧True) ∧
   ((!(dN s).2)=false→(decide ((am s).2=0)=true→True)∧(decide ((am s).2=0)&&decide ((am s).1=(dN s).1))=true∧True)):=by
  refine ⟨fun _=>⟨rfl,trivial⟩,fun h=>?_⟩
  have h:=of_decide_eq_false h
  refine ⟨by omega,by omega,fun hb=>?_,fun hb=>⟨fun _=>trivial,?_,trivial⟩⟩
  ·have hb:(dN s).2=false:=by simpa using hb
   rw [hb,if_neg (by simp)] at hR
   simp [hR]
  ·have hb:(dN s).2=true:=by simpa using hb
   rw [hb,if_pos rfl] at hR
   simp [hR]
 refine ⟨trivial,fun h=>⟨fun hc=>?_,fun _=>tail⟩,fun h=>⟨(show l.length≤200 by have:=of_decide_eq_false h; simp only at this; omega),fun hc=>?_,fun _=>tail⟩⟩
 ·rw [if_pos (by have:=of_decide_eq_true h; simp only at this; omega)] at hF
  simp [hF] at hc
 ·rw [if_neg (by have:=of_decide_eq_false h; simp only at this; omega)] at hF
  simp [hF] at hc
theorem jK:jG.ok Try.prog 3:=ie (ann:=qt) (b9 ng (b9 mc (b9 ma (b9 me (b9 mb cV))))) Try.func3 (by kernel_rfl) iC
end Go.Proofs.Ytcnoiiohmpgckaa
