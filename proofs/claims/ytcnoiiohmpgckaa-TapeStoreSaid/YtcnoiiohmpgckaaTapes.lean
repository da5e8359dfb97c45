
import Derived.Test.YtcnoiiohmpgckaaTapePure
import Derived.Test.YtcnoiiohmpgckaaInts
namespace Go.Proofs.Ytcnoiiohmpgckaa
open Go
set_option maxRecDepth 100000
set_option maxHeartbeats 1000000
abbrev nQ:Ty:=.int .u8
abbrev iv:Ty:=.pair .str .bool
def aL (l:List Int):List Int:=l.flatMap ar
theorem bk (a b:List Int):ac (a++b)=ac a++ac b:=by simp [ac]
theorem cJ (a:List Int):(ac a).length=a.length:=by simp [ac]
theorem Am {s:List UInt8} {i:Int} (h0:0≤i) (h:i<(s.length:Int)):s.take (i+1).toNat=s.take i.toNat++[s.getD i.toNat 0]:=aW 0 h0 h
theorem pN {s:List UInt8} {i:Int} (h0:0≤i) (h:i<(s.length:Int)):fb (s.take (i+1).toNat)=(s.getD i.toNat 0).toNat∧(s.take (i+1).toNat).length=(i+1).toNat:=by
 have hl:(s.take (i+1).toNat).length=(i+1).toNat:=by rw [List.length_take]; omega
 refine ⟨?_,hl⟩
 unfold fb
 rw [hl,Am h0 h,show (i+1).toNat - 1=i.toNat by omega]
 have hl2:(s.take i.toNat).length=i.toNat:=by rw [List.length_take]; omega
 rw [List.getD_eq_getElem?_getD,List.getElem?_append_right (by omega),hl2,Nat.sub_self]
 rfl
theorem wX {s:List UInt8} {i:Int} (h0:0≤i) (h:i<(s.length:Int)) (ha:∀ c∈s.take i.toNat,128≤c.toNat) (hc:128≤(s.getD i.toNat 0).toNat):∀ c∈s.take (i+1).toNat,128≤c.toNat:=by
 intro c hm
 rw [Am h0 h] at hm
 rcases List.mem_append.1 hm with hm | hm
 ·exact ha c hm
 ·simp only [List.mem_singleton] at hm
  rw [hm]; exact hc
theorem oh {s:List UInt8} {i:Int} (hi:i=10∨(s.length:Int)≤i) (ha:∀ c∈s.take i.toNat,128≤c.toNat):gB 10 s=none:=by
 apply wQ
 intro c hc
 rcases hi with rfl | hi
 ·exact ha c hc
 ·rw [List.take_of_length_le (by omega)] at ha
  exact ha c (List.mem_of_mem_take hc)
theorem xD {i:Int} (h0:0≤i) (h:i≤9):1≤(128:Int) ^ i.toNat∧(i≤8→(128:Int) ^ i.toNat≤72057594037927936)∧(128:Int) ^ i.toNat≤9223372036854775808∧(i=9→(128:Int) ^ i.toNat=9223372036854775808):=by
 have:i=0∨i=1∨i=2∨i=3∨i=4∨i=5∨i=6∨i=7∨i=8∨i=9:=by omega
 rcases this with rfl | rfl | rfl | rfl | rfl | rfl | rfl | rfl | rfl | rfl <;> decide
theorem ve {s:List UInt8} {i:Int} (h0:0≤i) (h:i<(s.length:Int)):bS (s.take (i+1).toNat)=bS (s.take i.toNat)+((s.getD i.toNat 0).toNat:Int) % 128 * 128 ^ i.toNat∧0≤bS (s.take i.toNat)∧bS (s.take i.toNat)<128 ^ i.toNat:=by
 have hl2:(s.take i.toNat).length=i.toNat:=by rw [List.length_take]; omega
 refine ⟨?_,eV _,?_⟩
 ·rw [Am h0 h,mi,hl2]
  congr 1
 ·have:=kD (s.take i.toNat)
  rwa [hl2] at this
theorem Aa {n d w:Int} (n0:0≤n) (nw:n<w) (d0:0≤d) (d1:d≤127) (hw:w≤72057594037927936∨(d≤1∧w≤9223372036854775808)) :
  IntKind.u64.wrap (n+IntKind.u64.wrap (d * w))=n+d * w∧n+d * w<18446744073709551616:=by
 have hp:0≤d * w:=Int.mul_nonneg d0 (by omega)
 have hq:n+d * w<18446744073709551616:=by
  rcases hw with hw | ⟨h1,hw⟩
  ·have:d * w≤127 * w:=Int.mul_le_mul_of_nonneg_right d1 (by omega)
   omega
  ·have:d * w≤1 * w:=Int.mul_le_mul_of_nonneg_right h1 (by omega)
   omega
 rw [m5 hp (by omega),m5 (by omega) (by omega)]
 exact ⟨rfl,hq⟩
theorem pE {s:List UInt8} (h:gB 10 s=none):fr s=(0,[],false):=by unfold fr; rw [h]
theorem wg {s:List UInt8} {i:Int} (h0:0≤i) (h:i<(s.length:Int)) (h9:i≤9) (ha:∀ c∈s.take i.toNat,128≤c.toNat) (hc:(s.getD i.toNat 0).toNat<128) :
  gB 10 s=some (s.take (i+1).toNat,s.drop (i+1).toNat):=by
 rw [show (i+1).toNat=i.toNat+1 by omega]
 exact wP 10 i.toNat s ha (by omega) hc (by omega)
def hJ:Spec:={ Ts:=[bv],Rs:=[.dat .str],pre:=fun _=>True,F:=fun (n:Int)=>ac (ar n) }
def tO:Prop :=
  ∀ k:Nat,∀ (x:Int),am .u64 x→True∧x.toNat<k+1→(decide (x<128)=true→ac [IntKind.u8.wrap x]=ac (ar x)∧True)∧(decide (x<128)=false→0≤x∧(0:Int)<128∧am .u64 (128+x % 128)∧0≤x∧(0:Int)<128∧(True∧(x / 128).toNat<k)∧(ac [IntKind.u8.wrap (128+x % 128)]).length+(ac (ar (x / 128))).length≤aC∧ac [IntKind.u8.wrap (128+x % 128)]++ac (ar (x / 128))=ac (ar x)∧True)
theorem Ac:tO:=by
 unfold tO
 intro k
 intro n hn ⟨_,hk⟩
 simp only [am] at hn ⊢
 refine ⟨fun h=>?_,fun h=>?_⟩
 ·have h:=of_decide_eq_true h
  rw [ek h,yk,Int.emod_eq_of_lt hn.1 (by omega)]
  exact ⟨rfl,trivial⟩
 ·have h:=of_decide_eq_false h
  have hl:=wc (n:=n / 128) (by omega)
  simp only [cJ,List.length_cons,List.length_nil,aC]
  refine ⟨hn.1,by omega,by omega,hn.1,by omega,⟨trivial,by omega⟩,by omega,?_,trivial⟩
  rw [lA (n:=n) (by omega),← bk,yk,Int.emod_eq_of_lt (by omega) (by omega)]
  rfl
theorem Cm:tO=(∀ k:Nat,A1 Try.prog (z8 [(72,hO hJ (fun n:Int=>n.toNat) k)]) ew Try.f72 (hO hJ (fun n:Int=>n.toNat) (k+1))):=by kernel_rfl
theorem Bs:∀ k:Nat,A1 Try.prog (z8 [(72,hO hJ (fun n:Int=>n.toNat) k)]) ew Try.f72 (hO hJ (fun n:Int=>n.toNat) (k+1)):=@Eq.mp _ _ @Cm @Ac
theorem yB:hJ.ok Try.prog 72:=zo (mu:=(fun n:Int=>n.toNat)) fun k hk=>wA (P:=Try.prog) (ss:=z8 [(72,hO hJ (fun n:Int=>n.toNat) k)]) (ann:=ew) (f:=72) (fn:=Try.f72) (s:=(hO hJ (fun n:Int=>n.toNat) (k+1))) (ai hk ax) Try.func72 (@Bs k)
def vr:Spec:={ Ts:=[.str],Rs:=[.dat bv,.dat .str,.dat .bool],al:=true,pre:=fun _=>True,F:=fr }
def wW:Nat→Option LoopGen
 | 2000000=>some gv
 | 3=>some { rd:=[.dat 0 .str],A:=fun (s:List UInt8)=>{ cs:=[.dat 5 bv,.dat 6 bv,.dat 11 ty_I],inv:=fun ((n,w,i):Int×Int×Int)=>0≤i∧i≤s.length∧i≤10∧(∀ c∈s.take i.toNat,128≤c.toNat)∧(i≤9→n=bS (s.take i.toNat)∧w=128 ^ i.toNat),mu:=fun ((_,_,i):Int×Int×Int)=>(s.length - i).toNat } }
 | _=>none
def nj:Prop :=
  ∀ (x:List UInt8),x.length≤aC→True→((0:Int)≤0∧0≤(↑x.length:Int)∧(0:Int)≤10∧(∀ (c:UInt8),c∈List.take (Int.toNat 0) x→128≤c.toNat)∧((0:Int)≤9→0=bS (List.take (Int.toNat 0) x)∧(1:Int)=128 ^ Int.toNat 0))∧∀ (x_1:Int×Int×Int),0≤x_1.2.2∧x_1.2.2≤(↑x.length:Int)∧x_1.2.2≤10∧(∀ (c:UInt8),c∈List.take x_1.2.2.toNat x→128≤c.toNat)∧(x_1.2.2≤9→x_1.1=bS (List.take x_1.2.2.toNat x)∧x_1.2.1=128 ^ x_1.2.2.toNat)→(decide (x_1.2.2<(↑x.length:Int))=true→0≤x_1.2.2∧x_1.2.2<(↑x.length:Int)∧0≤(↑(x.getD x_1.2.2.toNat (0:UInt8)).toNat:Int)∧(0:Int)<128∧((decide (9<x_1.2.2)||decide (x_1.2.2=9)&&decide (1<(↑(x.getD x_1.2.2.toNat (0:UInt8)).toNat:Int) % 128))=true→0=(fr x).1∧([]:List UInt8)=(fr x).2.1∧false=(fr x).2.2∧True)∧((decide (9<x_1.2.2)||decide (x_1.2.2=9)&&decide (1<(↑(x.getD x_1.2.2.toNat (0:UInt8)).toNat:Int) % 128))=false→0≤x_1.2.2∧x_1.2.2<(↑x.length:Int)∧(decide ((↑(x.getD x_1.2.2.toNat (0:UInt8)).toNat:Int)<128)=true→0≤IntKind.i64.wrap (x_1.2.2+1)∧IntKind.i64.wrap (x_1.2.2+1)≤(↑x.length:Int)∧True∧0≤IntKind.i64.wrap (x_1.2.2+1)∧IntKind.i64.wrap (x_1.2.2+1)≤(↑x.length:Int)∧IntKind.u64.wrap (x_1.1+IntKind.u64.wrap ((↑(x.getD x_1.2.2.toNat (0:UInt8)).toNat:Int) % 128 * x_1.2.1))=(fr x).1∧List.drop (IntKind.i64.wrap (x_1.2.2+1)).toNat x=(fr x).2.1∧decide (ac (ar (IntKind.u64.wrap (x_1.1+IntKind.u64.wrap ((↑(x.getD x_1.2.2.toNat (0:UInt8)).toNat:Int) % 128 * x_1.2.1))))=List.take (IntKind.i64.wrap (x_1.2.2+1)).toNat x)=(fr x).2.2∧True)∧(decide ((↑(x.getD x_1.2.2.toNat (0:UInt8)).toNat:Int)<128)=false→(0≤IntKind.i64.wrap (x_1.2.2+1)∧IntKind.i64.wrap (x_1.2.2+1)≤(↑x.length:Int)∧IntKind.i64.wrap (x_1.2.2+1)≤10∧(∀ (c:UInt8),c∈List.take (IntKind.i64.wrap (x_1.2.2+1)).toNat x→128≤c.toNat)∧(IntKind.i64.wrap (x_1.2.2+1)≤9→IntKind.u64.wrap (x_1.1+IntKind.u64.wrap ((↑(x.getD x_1.2.2.toNat (0:UInt8)).toNat:Int) % 128 * x_1.2.1))=bS (List.take (IntKind.i64.wrap (x_1.2.2+1)).toNat x)∧IntKind.u64.wrap (x_1.2.1 * 128)=128 ^ (IntKind.i64.wrap (x_1.2.2+1)).toNat))∧((↑x.length:Int) - IntKind.i64.wrap (x_1.2.2+1)).toNat<((↑x.length:Int) - x_1.2.2).toNat)))∧(decide (x_1.2.2<(↑x.length:Int))=false→0=(fr x).1∧([]:List UInt8)=(fr x).2.1∧false=(fr x).2.2∧True)
theorem sY:nj:=by
 unfold nj
 intro s hs _
 unfold aC at hs
 refine ⟨⟨by omega,by omega,by omega,by simp,fun _=>by simp [bS]⟩,fun ⟨n,w,i⟩ ⟨i0,i1,i2,ha,hv⟩=>⟨fun hlt=>?_,fun hge=>?_⟩⟩
 ·have hlt:=of_decide_eq_true hlt
  simp only at i0 i1 i2 ha hv hlt ⊢
  have hlast:=pN i0 hlt
  have hval:=ve i0 hlt
  have hwi:IntKind.i64.wrap (i+1)=i+1:=eT (by omega) (by omega)
  have hc255:=(s.getD i.toNat 0).toNat_lt
  have hat:=wX i0 hlt ha
  have hst:=fun h9=>wg i0 hlt h9 ha
  have hp:=xD i0
  rw [hwi]
  generalize hc:s.getD i.toNat 0=c at *
  refine ⟨i0,hlt,by omega,by omega,fun h=>?_,fun h=>⟨i0,hlt,fun hs=>?_,fun hs=>?_⟩⟩
  ·simp only [Bool.or_eq_true,Bool.and_eq_true,decide_eq_true_eq] at h
   have hn:fr s=(0,[],false):=by
    by_cases h9:9<i
    ·exact pE (oh (.inl (by omega)) ha)
    ·have h9:i=9∧(1:Int)<(c.toNat:Int) % 128:=h.resolve_left h9
     obtain ⟨rfl,h1⟩:=h9
     by_cases hc1:c.toNat<128
     ·unfold fr
      rw [hst (by omega) hc1]
      simp only
      rw [if_pos ⟨hlast.2,by rw [hlast.1]; omega⟩]
     ·exact pE (oh (i:=9+1) (.inl rfl) (hat (by omega)))
   rw [hn]
   exact ⟨rfl,rfl,rfl,trivial⟩
  all_goals simp only [Bool.or_eq_false_iff,Bool.and_eq_false_iff,decide_eq_false_iff_not] at h
  all_goals obtain ⟨hp1,hp2,hp3,hp4⟩:=hp (by omega)
  all_goals obtain ⟨rfl,rfl⟩:=hv (by omega)
  all_goals have hwv:=Aa (n:=bS (s.take i.toNat)) (d:=(c.toNat:Int) % 128) (w:=128 ^ i.toNat) hval.2.1 hval.2.2 (by omega) (by omega) (if h8:i≤8 then .inl (hp2 h8) else .inr ⟨by omega,hp3⟩)
  all_goals rw [hwv.1,← hval.1]
  ·have hs:c.toNat<128:=by have:=of_decide_eq_true hs; omega
   have hn:fr s=(bS (s.take (i+1).toNat),s.drop (i+1).toNat,decide (ac (ar (bS (s.take (i+1).toNat)))=s.take (i+1).toNat)):=by
    unfold fr
    rw [hst (by omega) hs]
    simp only
    rw [if_neg]
    rintro ⟨g1,g2⟩
    rw [hlast.2] at g1
    rw [hlast.1] at g2
    omega
   rw [hn]
   exact ⟨by omega,by omega,trivial,by omega,by omega,rfl,rfl,rfl,trivial⟩
  ·have hs:128≤c.toNat:=by have:=of_decide_eq_false hs; omega
   refine ⟨⟨by omega,by omega,by omega,hat hs,fun h9=>⟨rfl,?_⟩⟩,by omega⟩
   rw [show (i+1).toNat=i.toNat+1 by omega,Int.pow_succ]
   have:=hp2 (by omega)
   exact m5 (by omega) (by omega)
 ·have hge:=of_decide_eq_false hge
  simp only at i0 i1 i2 ha hv hge ⊢
  rw [pE (oh (.inr (by omega)) ha)]
  exact ⟨rfl,rfl,rfl,trivial⟩
theorem vX:vr.ok Try.prog 136:=aQ (ann:=wW) (ai yB ax) Try.func136 (by kernel_rfl) sY
def ab (s:List UInt8):List Int×Bool:=match c6 s with
 | some l=>(l,true)
 | none=>([],false)
def tv:Spec:={ Ts:=[.str],Rs:=[.dat (.arr bv),.dat .bool],al:=true,pre:=fun (s:List UInt8)=>s.length≤1000,F:=ab }
def uR:Nat→Option LoopGen
 | 2=>some { rd:=[.dat 0 .str],A:=fun (s0:List UInt8)=>{ cs:=[.dat 0 .str,.own 4 76 bv],inv:=fun ((s,out):List UInt8×List Int)=>s.length+out.length≤1000∧(c6 s).map (out++·)=c6 s0,mu:=fun ((s,_):List UInt8×List Int)=>s.length } }
 | _=>none
def ld:Prop :=
  ∀ (x:List UInt8),x.length≤aC→x.length≤1000→(x.length+0≤1000∧Option.map (fun (x:List Int)=>([]:List Int)++x) (c6 x)=c6 x)∧∀ (x_1:List UInt8×List Int),x_1.1.length+x_1.2.length≤1000∧Option.map (fun (x:List Int)=>x_1.2++x) (c6 x_1.1)=c6 x→(decide (x_1.1≠([]:List UInt8))=true→True∧((!(fr x_1.1).2.2)=true→([]:List Int)=(ab x).1∧false=(ab x).2∧True)∧((!(fr x_1.1).2.2)=false→(x_1.2.length+[(fr x_1.1).1].length) * 8≤aC∧((fr x_1.1).2.1.length+(x_1.2++[(fr x_1.1).1]).length≤1000∧Option.map (fun (x:List Int)=>x_1.2++[(fr x_1.1).1]++x) (c6 (fr x_1.1).2.1)=c6 x)∧(fr x_1.1).2.1.length<x_1.1.length))∧(decide (x_1.1≠([]:List UInt8))=false→x_1.2=(ab x).1∧true=(ab x).2∧True)
theorem qE:ld:=by
 unfold ld
 intro s0 _ hs0
 unfold aC
 refine ⟨⟨by simpa using hs0,by simp⟩,fun ⟨s,out⟩ ⟨h1,h2⟩=>⟨fun hlt=>?_,fun hge=>?_⟩⟩
 ·have hs:=of_decide_eq_true hlt
  simp only at h1 h2 hs ⊢
  refine ⟨trivial,fun hb=>?_,fun hb=>?_⟩
  ·have hb:(fr s).2.2=false:=by simpa using hb
   rw [gO hs hb] at h2
   have e:ab s0=([],false):=by unfold ab; rw [← h2]; rfl
   rw [e]
   exact ⟨rfl,rfl,trivial⟩
  ·have hb:(fr s).2.2=true:=by simpa using hb
   obtain ⟨_,hlt,_⟩:=pD hb
   rw [gN hs hb] at h2
   simp only [List.length_append,List.length_cons,List.length_nil]
   refine ⟨by omega,⟨by omega,?_⟩,hlt⟩
   rw [← h2,Option.map_map]
   congr 1
   funext l
   simp
 ·have hs:s=[]:=by simpa using of_decide_eq_false hge
  subst hs
  simp only at h2 ⊢
  rw [fD] at h2
  have e:ab s0=(out,true):=by unfold ab; rw [← h2]; simp
  rw [e]
  exact ⟨rfl,rfl,trivial⟩
theorem tY:tv.ok Try.prog 74:=aQ (ann:=uR) (ai vX ax) Try.func74 (by kernel_rfl) qE
theorem n9 {n:Int} (h:am .u64 n):(ar n).length≤10:=wc (by simp only [am] at h; omega)
theorem BR {n:Int} (h0:0≤n):(((IntKind.u8.wrap n).toNat ||| Int.toNat 128:Nat):Int)=128+n % 128:=by
 rw [yk]
 have key:∀ m:Nat,m<256→m ||| 128=128+m % 128:=by decide
 have h1:=key (n % 256).toNat (by omega)
 rw [show Int.toNat 128=128 from rfl,h1]
 omega
theorem Cs (c:Nat):c &&& 127=c % 128:=Nat.and_two_pow_sub_one_eq_mod c 7
theorem Ce {n:Int} {c:UInt8} {i:Int} (i0:0≤i) (i9:i≤9) (n0:0≤n) (n1:n<128 ^ i.toNat) :
  ((n.toNat ||| (IntKind.u64.wrap ((((c.toNat:Int).toNat &&& Int.toNat 127:Nat):Int) * 2 ^ (7 * i).toNat)).toNat:Nat):Int)=(n+(c.toNat:Int) % 128 * 128 ^ i.toNat) % 18446744073709551616:=by
 have hc:=c.toNat_lt
 rw [show Int.toNat 127=127 from rfl,Int.toNat_natCast,Cs]
 have e7:(2:Int) ^ (7 * i).toNat=128 ^ i.toNat:=by
  rw [show (7 * i).toNat=7 * i.toNat by omega,Int.pow_mul]
  rfl
 have hp:=xD i0 i9
 have hd:(((c.toNat % 128:Nat)):Int)=(c.toNat:Int) % 128:=by omega
 rw [hd]
 generalize hdd:(c.toNat:Int) % 128=d at *
 have d0:0≤d:=by omega
 have d1:d≤127:=by omega
 by_cases h8:i≤8
 ·have hle:d * 128 ^ i.toNat≤127 * 128 ^ i.toNat:=Int.mul_le_mul_of_nonneg_right d1 (by omega)
  have hge:0≤d * 128 ^ i.toNat:=Int.mul_nonneg d0 (by omega)
  have h9:=hp.2.1 h8
  rw [e7,m5 hge (by omega),← e7,yD n0 d0 (i:=(7 * i).toNat) (by rw [e7]; exact n1),e7,Int.emod_eq_of_lt (by omega) (by omega)]
 ·obtain rfl:i=9:=by omega
  have e9:(128:Int) ^ (9:Int).toNat=9223372036854775808:=by decide
  have e63:(2:Int) ^ (7 * 9:Int).toNat=9223372036854775808:=by decide
  rw [e9] at n1 ⊢
  rw [e63]
  have hw:IntKind.u64.wrap (d * 9223372036854775808)=d % 2 * 2 ^ 63:=by
   simp only [IntKind.wrap,IntKind.bits,IntKind.signed]
   have e3:(2:Int) ^ 63=9223372036854775808:=by decide
   simp
   omega
  have e3:(2:Int) ^ 63=9223372036854775808:=by decide
  rw [hw,yD n0 (by omega) (i:=63) (by rw [e3]; exact n1),e3]
  omega
theorem xL {r:Rd} {p q:List UInt8} (h:gB 10 r.1=some (p,q)):ak r=(bS p % 18446744073709551616,q,r.2||zV p):=by unfold ak; rw [h]
theorem xM {r:Rd} (h:gB 10 r.1=none):ak r=(0,r.1,true):=by unfold ak; rw [h]
end Go.Proofs.Ytcnoiiohmpgckaa
