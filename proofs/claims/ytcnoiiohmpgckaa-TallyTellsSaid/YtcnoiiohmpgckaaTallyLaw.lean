
import Derived.Test.YtcnoiiohmpgckaaTallies
import Derived.Test.YtcnoiiohmpgckaaLists
import Derived.Test.YtcnoiiohmpgckaaCames
namespace Go.Proofs.Ytcnoiiohmpgckaa
open Go
set_option maxRecDepth 100000
set_option maxHeartbeats 1000000
def qT:Nat→Option LoopGen
 | 3=>some { rd:=[.dat 16 (.arr ty_I),.dat 3 ty_I],A:=fun ((f,x):List Int×Int)=>{ cs:=[.dat 9 ty_I,.dat 18 ty_I],inv:=fun ((n,i):Int×Int)=>0≤i∧i≤f.length∧n=(f.take i.toNat).count x,mu:=fun ((_,i):Int×Int)=>(f.length - i).toNat } }
 | 9=>some { rd:=[.dat 28 (.arr ty_I),.dat 0 (.arr ci),.dat 3 ty_I,.dat 9 ty_I],A:=fun ((l,a,x,n0):List Int×List Int×Int×Int)=>{ cs:=[.dat 9 ty_I,.dat 30 ty_I],inv:=fun ((n,i):Int×Int)=>0≤i∧i≤l.length∧n=n0+((l.take i.toNat).flatMap (ay a)).count x,mu:=fun ((_,i):Int×Int)=>(l.length - i).toNat } }
 | 12=>some { rd:=[.own 36 3 ty_I,.dat 3 ty_I,.dat 9 ty_I],A:=fun ((ns,x,n0):List Int×Int×Int)=>{ cs:=[.dat 9 ty_I,.dat 38 ty_I],inv:=fun ((n,i):Int×Int)=>0≤i∧i≤ns.length∧n=n0+(ns.take i.toNat).count x,mu:=fun ((_,i):Int×Int)=>(ns.length - i).toNat } }
 | _=>none
def pU:Spec:={ Ts:=[.arr ci,.arr ty_I,.arr ty_I,ty_I],Rs:=[.dat ty_I],pre:=fun ((a,_,l,x):List Int×List Int×List Int×Int)=>(ao a).2.2=0∧(∀ y∈l,isB (aa a).1 y=true)∧l.length≤256∧0≤x,F:=fun ((a,f,l,x):List Int×List Int×List Int×Int)=>(aQ a f l x:Int) }
def ke:Prop :=
  ∀ (x:List Int×List Int×List Int×Int),(x.1.length * 8≤aL∧∀ (x_1:Int),x_1∈x.1→aj .u64 x_1)∧(x.2.1.length * 8≤aL∧∀ (x_1:Int),x_1∈x.2.1→aj .i64 x_1)∧(x.2.2.1.length * 8≤aL∧∀ (x_1:Int),x_1∈x.2.2.1→aj .i64 x_1)∧aj .i64 x.2.2.2→(ao x.1).2.2=0∧(∀ (y:Int),y∈x.2.2.1→isB (aa x.1).1 y=true)∧x.2.2.1.length≤256∧0≤x.2.2.2→((0:Int)≤0∧0≤(↑x.2.1.length:Int)∧0=(↑(List.count x.2.2.2 (List.take (Int.toNat 0) x.2.1)):Int))∧∀ (x_1:Int×Int),0≤x_1.2∧x_1.2≤(↑x.2.1.length:Int)∧x_1.1=(↑(List.count x.2.2.2 (List.take x_1.2.toNat x.2.1)):Int)→(decide (x_1.2<(↑x.2.1.length:Int))=true→0≤x_1.2∧x_1.2<(↑x.2.1.length:Int)∧(decide (x.2.1.getD x_1.2.toNat 0=x.2.2.2)=true→aj .i64 (x_1.1+1)∧aj .i64 (x_1.2+1)∧(0≤x_1.2+1∧x_1.2+1≤(↑x.2.1.length:Int)∧x_1.1+1=(↑(List.count x.2.2.2 (List.take (x_1.2+1).toNat x.2.1)):Int))∧((↑x.2.1.length:Int) - (x_1.2+1)).toNat<((↑x.2.1.length:Int) - x_1.2).toNat)∧(decide (x.2.1.getD x_1.2.toNat 0=x.2.2.2)=false→aj .i64 (x_1.2+1)∧(0≤x_1.2+1∧x_1.2+1≤(↑x.2.1.length:Int)∧x_1.1=(↑(List.count x.2.2.2 (List.take (x_1.2+1).toNat x.2.1)):Int))∧((↑x.2.1.length:Int) - (x_1.2+1)).toNat<((↑x.2.1.length:Int) - x_1.2).toNat))∧(decide (x_1.2<(↑x.2.1.length:Int))=false→((0:Int)≤0∧0≤(↑x.2.2.1.length:Int)∧x_1.1=x_1.1+(↑(List.count x.2.2.2 (List.flatMap (ay x.1) (List.take (Int.toNat 0) x.2.2.1))):Int))∧∀ (x_2:Int×Int),0≤x_2.2∧x_2.2≤(↑x.2.2.1.length:Int)∧x_2.1=x_1.1+(↑(List.count x.2.2.2 (List.flatMap (ay x.1) (List.take x_2.2.toNat x.2.2.1))):Int)→(decide (x_2.2<(↑x.2.2.1.length:Int))=true→0≤x_2.2∧x_2.2<(↑x.2.2.1.length:Int)∧True∧((0:Int)≤0∧0≤(↑(ah x.1 (x.2.2.1.getD x_2.2.toNat 0) (ac (x.2.2.1.getD x_2.2.toNat 0) (aa x.1).1).1).length:Int)∧x_2.1=x_2.1+(↑(List.count x.2.2.2 (List.take (Int.toNat 0) (ah x.1 (x.2.2.1.getD x_2.2.toNat 0) (ac (x.2.2.1.getD x_2.2.toNat 0) (aa x.1).1).1))):Int))∧∀ (x_3:Int×Int),0≤x_3.2∧x_3.2≤(↑(ah x.1 (x.2.2.1.getD x_2.2.toNat 0) (ac (x.2.2.1.getD x_2.2.toNat 0) (aa x.1).1).1).length:Int)∧x_3.1=x_2.1+(↑(List.count x.2.2.2 (List.take x_3.2.toNat (ah x.1 (x.2.2.1.getD x_2.2.toNat 0) (ac (x.2.2.1.getD x_2.2.toNat 0) (aa x.1).1).1))):Int)→(decide (x_3.2<(↑(ah x.1 (x.2.2.1.getD x_2.2.toNat 0) (ac (x.2.2.1.getD x_2.2.toNat 0) (aa x.1).1).1).length:Int))=true→0≤x_3.2∧x_3.2<(↑(ah x.1 (x.2.2.1.getD x_2.2.toNat 0) (ac (x.2.2.1.getD x_2.2.toNat 0) (aa x.1).1).1).length:Int)∧x_3.2.toNat<(ah x.1 (x.2.2.1.getD x_2.2.toNat 0) (ac (x.2.2.1.getD x_2.2.toNat 0) (aa x.1).1).1).length∧(decide ((ah x.1 (x.2.2.1.getD x_2.2.toNat 0) (ac (x.2.2.1.getD x_2.2.toNat 0) (aa x.1).1).1).getD x_3.2.toNat 0=x.2.2.2)=true→aj .i64 (x_3.1+1)∧aj .i64 (x_3.2+1)∧(0≤x_3.2+1∧x_3.2+1≤(↑(ah x.1 (x.2.2.1.getD x_2.2.toNat 0) (ac (x.2.2.1.getD x_2.2.toNat 0) (aa x.1).1).1).length:Int)∧x_3.1+1=x_2.1+(↑(List.count x.2.2.2 (List.take (x_3.2+1).toNat (ah x.1 (x.2.2.1.getD x_2.2.toNat 0) (ac (x.2.2.1.getD x_2.2.toNat 0) (aa x.1).1).1))):Int))∧((↑(ah x.1 (x.2.2.1.getD x_2.2.toNat 0) (ac (x.2.2.1.getD x_2.2.toNat 0) (aa x.1).1).1).length:Int) - (x_3.2+1)).toNat<((↑(ah x.1 (x.2.2.1.getD x_2.2.toNat 0) (ac (x.2.2.1.getD x_2.2.toNat 0) (aa x.1).1).1).length:Int) - x_3.2).toNat)∧(decide ((ah x.1 (x.2.2.1.getD x_2.2.toNat 0) (ac (x.2.2.1.getD x_2.2.toNat 0) (aa x.1).1).1).getD x_3.2.toNat 0=x.2.2.2)=false→aj .i64 (x_3.2+1)∧(0≤x_3.2+1∧x_3.2+1≤(↑(ah x.1 (x.2.2.1.getD x_2.2.toNat 0) (ac (x.2.2.1.getD x_2.2.toNat 0) (aa x.1).1).1).length:Int)∧x_3.1=x_2.1+(↑(List.count x.2.2.2 (List.take (x_3.2+1).toNat (ah x.1 (x.2.2.1.getD x_2.2.toNat 0) (ac (x.2.2.1.getD x_2.2.toNat 0) (aa x.1).1).1))):Int))∧((↑(ah x.1 (x.2.2.1.getD x_2.2.toNat 0) (ac (x.2.2.1.getD x_2.2.toNat 0) (aa x.1).1).1).length:Int) - (x_3.2+1)).toNat<((↑(ah x.1 (x.2.2.1.getD x_2.2.toNat 0) (ac (x.2.2.1.getD x_2.2.toNat 0) (aa x.1).1).1).length:Int) - x_3.2).toNat))∧(decide (x_3.2<(↑(ah x.1 (x.2.2.1.getD x_2.2.toNat 0) (ac (x.2.2.1.getD x_2.2.toNat 0) (aa x.1).1).1).length:Int))=false→aj .i64 (x_2.2+1)∧(0≤x_2.2+1∧x_2.2+1≤(↑x.2.2.1.length:Int)∧x_3.1=x_1.1+(↑(List.count x.2.2.2 (List.flatMap (ay x.1) (List.take (x_2.2+1).toNat x.2.2.1))):Int))∧((↑x.2.2.1.length:Int) - (x_2.2+1)).toNat<((↑x.2.2.1.length:Int) - x_2.2).toNat))∧(decide (x_2.2<(↑x.2.2.1.length:Int))=false→x_2.1=(↑(aQ x.1 x.2.1 x.2.2.1 x.2.2.2):Int)∧True))
theorem om:ke:=by
 unfold ke
 intro ⟨a,f,l,x⟩ ⟨⟨hb,hw⟩,⟨hbf,hf⟩,⟨hbl,hl⟩,hx⟩ ⟨hc,hlb,hll,hx0⟩
 unfold aL at hb hbf hbl
 dsimp only at hb hw hbf hf hbl hl hx hc hlb hll hx0 ⊢
 obtain ⟨hal,_⟩:=dY hc
 refine ⟨⟨by omega,by omega,rfl⟩,fun ⟨n,i⟩ ⟨i0,i1,i2⟩=>⟨fun hlt=>?_,fun hge=>?_⟩⟩
 ·dsimp only at i0 i1 i2 ⊢
  have hlt:i<(f.length:Int):=of_decide_eq_true hlt
  have hcl:=List.count_le_length (a:=x) (l:=f.take i.toNat)
  rw [List.length_take] at hcl
  rw [aI (0:Int) i0 hlt,List.count_append,List.count_singleton]
  refine ⟨i0,hlt,fun h=>?_,fun h=>?_⟩
  ·rw [if_pos (by simpa using of_decide_eq_true h)]
   simp only [aj]
   exact ⟨by omega,by omega,⟨by omega,by omega,by omega⟩,by omega⟩
  ·rw [if_neg (by simpa using of_decide_eq_false h)]
   simp only [aj]
   exact ⟨by omega,⟨by omega,by omega,by omega⟩,by omega⟩
 dsimp only at i0 i1 i2 hge ⊢
 rw [aX (of_decide_eq_false hge)] at i2
 have hcf:=List.count_le_length (a:=x) (l:=f)
 refine ⟨⟨by omega,by omega,by simp⟩,fun ⟨m,j⟩ ⟨j0,j1,j2⟩=>⟨fun hlt=>?_,fun hge=>?_⟩⟩
 ·dsimp only at j0 j1 j2 ⊢
  have hlt:j<(l.length:Int):=of_decide_eq_true hlt
  have hm:=hlb _ (bk (0:Int) j0 hlt)
  have hfl:=b9 a hal (l.take j.toNat)
  have hcl:=List.count_le_length (a:=x) (l:=(l.take j.toNat).flatMap (ay a))
  rw [List.length_take] at hfl
  rw [aI (0:Int) j0 hlt,List.flatMap_append,List.count_append]
  generalize l.getD j.toNat 0=y at *
  obtain ⟨l1,_,l3,l4,l5,l6⟩:=ef hm
  have hrf:=dr hw hc _ (er hm).1
  have hnm:ah a y (ac y (aa a).1).1=(ch a y).map nameOf:=rfl
  have hno:∀ (r:List Int),(∀ v∈r,v=0∨1≤v∧v≤256)→(r.map nameOf).count x=(aY r).count x:=by
   intro r
   induction r with
   | nil=>intro _; rfl
   | cons v r ih =>
    intro hr
    have ih:=ih fun z hz=>hr z (by simp [hz])
    unfold aY at ih ⊢
    rw [List.map_cons,List.count_cons]
    rcases hr v (by simp) with rfl | ⟨h1,h2⟩
    ·have e:nameOf 0=-1:=rfl
     rw [e,List.filter_cons_of_neg (by simp),ih,if_neg (by simp; omega)]
     rfl
    ·have e:nameOf v=v - 1:=by unfold nameOf; rw [if_neg (by omega)]
     rw [e,List.filter_cons_of_pos (by simp; omega),List.map_cons,List.count_cons,ih]
  have hno:=hno (ch a y) fun v hv=>by
   rcases hrf v hv with h | ⟨h,h',_⟩
   ·exact .inl h
   ·exact .inr ⟨h,h'⟩
  have hO:([y].flatMap (ay a))=aY (ch a y):=by
   rw [List.flatMap_cons,List.flatMap_nil,List.append_nil]
   rfl
  rw [hO,← hno,hnm]
  have hrl:((ch a y).map nameOf).length≤256:=by rw [List.length_map]; omega
  generalize (ch a y).map nameOf=ns at *
  refine ⟨j0,hlt,trivial,⟨by omega,by omega,by simp⟩,fun ⟨q,z⟩ ⟨z0,z1,z2⟩=>⟨fun hz=>?_,fun hz=>?_⟩⟩
  ·dsimp only at z0 z1 z2 ⊢
   have hz:z<(ns.length:Int):=of_decide_eq_true hz
   have hcn:=List.count_le_length (a:=x) (l:=ns.take z.toNat)
   rw [List.length_take] at hcn
   rw [aI (0:Int) z0 hz,List.count_append,List.count_singleton]
   refine ⟨z0,hz,by omega,fun h=>?_,fun h=>?_⟩
   ·rw [if_pos (by simpa using of_decide_eq_true h)]
    simp only [aj]
    exact ⟨by omega,by omega,⟨by omega,by omega,by omega⟩,by omega⟩
   ·rw [if_neg (by simpa using of_decide_eq_false h)]
    simp only [aj]
    exact ⟨by omega,⟨by omega,by omega,by omega⟩,by omega⟩
  ·dsimp only at z0 z1 z2 ⊢
   rw [aX (of_decide_eq_false hz)] at z2
   simp only [aj]
   exact ⟨by omega,⟨by omega,by omega,by omega⟩,by omega⟩
 ·dsimp only at j0 j1 j2 ⊢
  rw [aX (of_decide_eq_false hge)] at j2
  refine ⟨?_,trivial⟩
  unfold aQ
  omega
theorem ko:pU.ok Try.prog 33:=bJ (ann:=qT) (ai jB aJ) Try.func33 (by kernel_rfl) om
def pS:Spec:={ Ts:=[.arr ty_I,ty_I],Rs:=[.own 3 ty_I],pre:=fun ((l,k):List Int×Int)=>0≤k∧k<l.length,F:=fun ((l,k):List Int×Int)=>dt l k }
def ka:Prop :=
  ∀ (x:List Int×Int),(x.1.length * 8≤aL∧∀ (x_1:Int),x_1∈x.1→aj .i64 x_1)∧aj .i64 x.2→0≤x.2∧x.2<(↑x.1.length:Int)→0≤x.2∧x.2≤(↑x.1.length:Int)∧(List.take x.2.toNat x.1).length * 8≤aL∧aj .i64 (x.2+1)∧0≤x.2+1∧x.2+1≤(↑x.1.length:Int)∧x.1=x.1∧x.2=x.2∧aj .i64 (x.2+1)∧x.2+1=x.2+1∧0≤x.2+1∧x.2+1≤(↑x.1.length:Int)∧List.drop (x.2+1).toNat x.1=List.drop (x.2+1).toNat x.1∧((List.take x.2.toNat x.1).length+(List.drop (x.2+1).toNat x.1).length) * 8≤aL∧List.take x.2.toNat x.1++List.drop (x.2+1).toNat x.1=dt x.1 x.2∧True
theorem oh:ka:=by
 unfold ka
 intro ⟨l,k⟩ ⟨⟨hb,hl⟩,hk⟩ ⟨h0,h1⟩
 unfold aL at hb
 dsimp only at hb hl hk h0 h1 ⊢
 have e:(k+1).toNat=k.toNat+1:=by omega
 unfold aL
 simp only [aj,List.length_take,List.length_drop]
 refine ⟨by omega,by omega,by omega,by omega,by omega,by omega,trivial,trivial,by omega,trivial,by omega,by omega,trivial,by omega,?_,trivial⟩
 rw [e]
 rfl
theorem km:pS.ok Try.prog 37:=bJ (ann:=kM) aJ Try.func37 (by kernel_rfl) oh
def uT:Nat→Option LoopGen
 | 4=>some { rd:=[.dat 0 (.arr ci),.dat 1 (.arr ty_I)],A:=fun ((a,f):List Int×List Int)=>{ cs:=[.own 5 3 ty_I,.own 6 3 ty_I,.dat 7 .bool],inv:=fun ((l,out,ag):List Int×List Int×Bool)=>Goes a f out∧l=aC a out∧(ag=false→∀ x∈aC a out,0<aQ a f (aC a out) x),mu:=fun ((_,out,ag):List Int×List Int×Bool)=>2 * (256 - out.length)+(if ag=true then 1 else 0) } }
 | 7=>some { rd:=[.own 13 3 ty_I,.dat 0 (.arr ci),.dat 1 (.arr ty_I),.own 6 3 ty_I],wr:=[13],A:=fun ((l,a,f,out):List Int×List Int×List Int×List Int)=>{ cs:=[.own 6 3 ty_I,.own 13 3 ty_I,.same 5 13,.dat 7 .bool,.dat 15 ty_I],inv:=fun ((out1,l1,_,ag,i):List Int×List Int×Unit×Bool×Int)=>ag=false∧out1=out∧l1=l∧0≤i∧i≤l.length∧∀ x∈l.take i.toNat,0<aQ a f (aC a out) x,mu:=fun ((_,_,_,_,i):List Int×List Int×Unit×Bool×Int)=>(l.length - i).toNat } }
 | _=>none
def tR:Spec:={ Ts:=[.arr ci,.arr ty_I],Rs:=[.own 3 ty_I],pre:=fun ((a,_):List Int×List Int)=>(ao a).2.2=0,F:=fun ((a,f):List Int×List Int)=>g7 a f }
def qb:Prop :=
  ∀ (x:List Int×List Int),((x.1.length * 8≤aL∧∀ (x_1:Int),x_1∈x.1→aj .u64 x_1)∧x.2.length * 8≤aL∧∀ (x_1:Int),x_1∈x.2→aj .i64 x_1)→(ao x.1).2.2=0→True∧(Goes x.1 x.2 ([]:List Int)∧ab (aa x.1).1=aC x.1 ([]:List Int)∧(true=false→∀ (x_1:Int),x_1∈aC x.1 ([]:List Int)→0<aQ x.1 x.2 (aC x.1 ([]:List Int)) x_1))∧∀ (x_1:List Int×List Int×Bool),Goes x.1 x.2 x_1.2.1∧x_1.1=aC x.1 x_1.2.1∧(x_1.2.2=false→∀ (x_2:Int),x_2∈aC x.1 x_1.2.1→0<aQ x.1 x.2 (aC x.1 x_1.2.1) x_2)→(x_1.2.2=true→(false=false∧x_1.2.1=x_1.2.1∧x_1.1=x_1.1∧(0:Int)≤0∧0≤(↑x_1.1.length:Int)∧∀ (x_2:Int),x_2∈List.take (Int.toNat 0) x_1.1→0<aQ x.1 x.2 (aC x.1 x_1.2.1) x_2)∧∀ (x_2:List Int×List Int×Unit×Bool×Int),(x_2.2.2.2.1=false∧x_2.1=x_1.2.1∧x_2.2.1=x_1.1∧0≤x_2.2.2.2.2∧x_2.2.2.2.2≤(↑x_1.1.length:Int)∧∀ (x_3:Int),x_3∈List.take x_2.2.2.2.2.toNat x_1.1→0<aQ x.1 x.2 (aC x.1 x_1.2.1) x_3)→(decide (x_2.2.2.2.2<(↑x_1.1.length:Int))=true→0≤x_2.2.2.2.2∧x_2.2.2.2.2<(↑x_2.2.1.length:Int)∧x_2.2.2.2.2.toNat<x_2.2.1.length∧((ao x.1).2.2=0∧(∀ (y:Int),y∈x_2.2.1→isB (aa x.1).1 y=true)∧x_2.2.1.length≤256∧0≤x_2.2.1.getD x_2.2.2.2.2.toNat 0)∧(decide ((↑(aQ x.1 x.2 x_2.2.1 (x_2.2.1.getD x_2.2.2.2.2.toNat 0)):Int)=0)=true→(x_2.1.length+[x_2.2.1.getD x_2.2.2.2.2.toNat 0].length) * 8≤aL∧(0≤x_2.2.2.2.2∧x_2.2.2.2.2<(↑x_2.2.1.length:Int))∧(Goes x.1 x.2 (x_2.1++[x_2.2.1.getD x_2.2.2.2.2.toNat 0])∧dt x_2.2.1 x_2.2.2.2.2=aC x.1 (x_2.1++[x_2.2.1.getD x_2.2.2.2.2.toNat 0])∧(true=false→∀ (x_3:Int),x_3∈aC x.1 (x_2.1++[x_2.2.1.getD x_2.2.2.2.2.toNat 0])→0<aQ x.1 x.2 (aC x.1 (x_2.1++[x_2.2.1.getD x_2.2.2.2.2.toNat 0])) x_3))∧(2 * (256 - (x_2.1++[x_2.2.1.getD x_2.2.2.2.2.toNat 0]).length)+if true=true then (1:Nat) else (0:Nat))<2 * (256 - x_1.2.1.length)+if x_1.2.2=true then (1:Nat) else (0:Nat))∧(decide ((↑(aQ x.1 x.2 x_2.2.1 (x_2.2.1.getD x_2.2.2.2.2.toNat 0)):Int)=0)=false→aj .i64 (x_2.2.2.2.2+1)∧(x_2.2.2.2.1=false∧x_2.1=x_1.2.1∧x_2.2.1=x_1.1∧0≤x_2.2.2.2.2+1∧x_2.2.2.2.2+1≤(↑x_1.1.length:Int)∧∀ (x_3:Int),x_3∈List.take (x_2.2.2.2.2+1).toNat x_1.1→0<aQ x.1 x.2 (aC x.1 x_1.2.1) x_3)∧((↑x_1.1.length:Int) - (x_2.2.2.2.2+1)).toNat<((↑x_1.1.length:Int) - x_2.2.2.2.2).toNat))∧(decide (x_2.2.2.2.2<(↑x_1.1.length:Int))=false→(Goes x.1 x.2 x_2.1∧x_2.2.1=aC x.1 x_2.1∧(x_2.2.2.2.1=false→∀ (x_3:Int),x_3∈aC x.1 x_2.1→0<aQ x.1 x.2 (aC x.1 x_2.1) x_3))∧(2 * (256 - x_2.1.length)+if x_2.2.2.2.1=true then (1:Nat) else (0:Nat))<2 * (256 - x_1.2.1.length)+if x_1.2.2=true then (1:Nat) else (0:Nat)))∧(x_1.2.2=false→True∧bv x_1.2.1 256=g7 x.1 x.2∧True)
theorem sJ:qb:=by
 unfold qb
 intro ⟨a,f⟩ ⟨⟨hb,hw⟩,hbf,hf⟩ hc
 unfold aL at hb hbf
 dsimp only at hb hw hbf hf hc ⊢
 have hl0:aC a []=ab (aa a).1:=List.filter_eq_self.2 fun x _=>rfl
 refine ⟨trivial,⟨Goes.nil a f,hl0.symm,fun h=>(by cases h)⟩,fun ⟨l,out,ag⟩ ⟨G,e,hp⟩=>⟨fun hag=>?_,fun hag=>?_⟩⟩
 ·dsimp only at G e hp hag ⊢
  subst e
  have hll:=ks a out
  have hol:=G.len
  refine ⟨⟨rfl,rfl,rfl,by omega,by omega,fun x hx=>(by simp at hx)⟩,fun ⟨out1,l1,⟨⟩,ag1,i⟩ ⟨h1,h2,h3,i0,i1,i2⟩=>⟨fun hlt=>?_,fun hge=>?_⟩⟩
  ·dsimp only at h1 h2 h3 i0 i1 i2 ⊢
   subst h1 h2 h3
   have hlt:i<((aC a out1).length:Int):=of_decide_eq_true hlt
   have hm:=bk (0:Int) i0 hlt
   have hib:=(dK.1 hm).1
   have hr:=cq hib
   have ho:=sZ (ku a out1) (k:=i.toNat) (by omega)
   have ht:=aI (0:Int) i0 hlt
   rw [ht]
   generalize (aC a out1).getD i.toNat 0=x at *
   refine ⟨i0,hlt,by omega,⟨hc,fun y hy=>(dK.1 hy).1,hll,hr.1⟩,fun hz=>?_,fun hz=>?_⟩
   ·have hz:(aQ a f (aC a out1) x:Int)=0:=of_decide_eq_true hz
    refine ⟨by unfold aL; rw [List.length_singleton]; omega,⟨i0,hlt⟩,⟨G.snoc hm (by omega),?_,fun h=>(by cases h)⟩,?_⟩
    ·rw [nU]
     exact ho
    ·have h9:=(G.snoc hm (by omega)).len
     rw [List.length_append,List.length_singleton] at h9 ⊢
     rw [if_pos rfl,if_pos hag]
     omega
   ·have hz:¬ (aQ a f (aC a out1) x:Int)=0:=of_decide_eq_false hz
    refine ⟨by simp only [aj]; omega,⟨rfl,rfl,rfl,by omega,by omega,fun y hy=>?_⟩,by omega⟩
    rcases List.mem_append.1 hy with hy | hy
    ·exact i2 y hy
    ·rw [List.mem_singleton.1 hy]
     omega
  ·dsimp only at h1 h2 h3 i0 i1 i2 ⊢
   subst h1 h2 h3
   rw [aX (of_decide_eq_false hge)] at i2
   refine ⟨⟨G,rfl,fun _=>i2⟩,?_⟩
   rw [if_pos hag,if_neg (by simp)]
   omega
 ·dsimp only at G e hp hag ⊢
  exact ⟨trivial,G.rising (hp hag),trivial⟩
theorem uf:tR.ok Try.prog 36:=bJ (ann:=uT) (ai eO (ai ko (ai km (ai lG aJ)))) Try.func36 (by kernel_rfl) sJ
def qU:Nat→Option LoopGen
 | 10=>some { rd:=[.own 75 3 ty_I,.dat 0 (.arr ci),.dat 1 (.arr ty_I),.own 15 3 ty_I],A:=fun ((o,a,f,live):List Int×List Int×List Int×List Int)=>{ cs:=[.own 16 3 ty_I,.own 17 3 ty_I,.dat 77 ty_I],inv:=fun ((cs,rs,i):List Int×List Int×Int)=>0≤i∧i≤o.length∧cs=(o.take i.toNat).map (fun x=>(aQ a f o x:Int))∧rs=(o.take i.toNat).filter (fun x=>decide (0<aQ a f o x)&&!bp live x),mu:=fun ((_,_,i):List Int×List Int×Int)=>(o.length - i).toNat } }
 | _=>none
def js:Spec:=tT [.arr ci,.arr ty_I,ty_I]
def fx:Prop :=
  ∀ (x:List Int×List Int×Int),(x.1.length * 8≤aL∧∀ (x_1:Int),x_1∈x.1→aj .u64 x_1)∧(x.2.1.length * 8≤aL∧∀ (x_1:Int),x_1∈x.2.1→aj .i64 x_1)∧aj .i64 x.2.2→(x.1.length * 8≤140737488351232∧∀ (x_1:Int),x_1∈x.1→dF ci x_1)∧(x.2.1.length * 8≤140737488351232∧∀ (x_1:Int),x_1∈x.2.1→dF ty_I x_1)∧True→x.2.1.length * 8≤140737488351232∧x.2.1.length * 8≤140737488351232∧x.2.1.length * 8≤140737488351232∧True∧(decide (gc x.1 [x.2.1]≠0)=true→aj .i64 ((↑(a8 x.1 x.2.1).1.length:Int)+(↑(bD x.1 x.2.1 x.2.2).1.length:Int))∧aj .i64 ((↑(a8 x.1 x.2.1).1.length:Int)+(↑(bD x.1 x.2.1 x.2.2).1.length:Int)+(↑(bM x.1 x.2.1).1.length:Int))∧(decide ((↑(a8 x.1 x.2.1).1.length:Int)+(↑(bD x.1 x.2.1 x.2.2).1.length:Int)+(↑(bM x.1 x.2.1).1.length:Int)=0)&&decide ((a8 x.1 x.2.1).2=gc x.1 [x.2.1])&&decide ((bD x.1 x.2.1 x.2.2).2=gc x.1 [x.2.1])&&decide ((bM x.1 x.2.1).2=gc x.1 [x.2.1]))=true∧True)∧(decide (gc x.1 [x.2.1]≠0)=false→True∧(an x.1 x.2.1=0∧(x.2.1.length+256) * 8≤140737488355328)∧((0:Int)≤0∧0≤(↑(ab (aa x.1).1).length:Int)∧([]:List Int)=List.map (fun (x_1:Int)=>(↑(aQ x.1 x.2.1 (ab (aa x.1).1) x_1):Int)) (List.take (Int.toNat 0) (ab (aa x.1).1))∧([]:List Int)=List.filter (fun (x_1:Int)=>decide (0<aQ x.1 x.2.1 (ab (aa x.1).1) x_1)&&!bp (cp x.1 x.2.1) x_1) (List.take (Int.toNat 0) (ab (aa x.1).1)))∧∀ (x_1:List Int×List Int×Int),0≤x_1.2.2∧x_1.2.2≤(↑(ab (aa x.1).1).length:Int)∧x_1.1=List.map (fun (x_2:Int)=>(↑(aQ x.1 x.2.1 (ab (aa x.1).1) x_2):Int)) (List.take x_1.2.2.toNat (ab (aa x.1).1))∧x_1.2.1=List.filter (fun (x_2:Int)=>decide (0<aQ x.1 x.2.1 (ab (aa x.1).1) x_2)&&!bp (cp x.1 x.2.1) x_2) (List.take x_1.2.2.toNat (ab (aa x.1).1))→(decide (x_1.2.2<(↑(ab (aa x.1).1).length:Int))=true→0≤x_1.2.2∧x_1.2.2<(↑(ab (aa x.1).1).length:Int)∧x_1.2.2.toNat<(ab (aa x.1).1).length∧((ao x.1).2.2=0∧(∀ (y:Int),y∈ab (aa x.1).1→isB (aa x.1).1 y=true)∧(ab (aa x.1).1).length≤256∧0≤(ab (aa x.1).1).getD x_1.2.2.toNat 0)∧(x_1.1.length+[(↑(aQ x.1 x.2.1 (ab (aa x.1).1) ((ab (aa x.1).1).getD x_1.2.2.toNat 0)):Int)].length) * 8≤aL∧(decide (0<(↑(aQ x.1 x.2.1 (ab (aa x.1).1) ((ab (aa x.1).1).getD x_1.2.2.toNat 0)):Int))=true→True)∧((decide (0<(↑(aQ x.1 x.2.1 (ab (aa x.1).1) ((ab (aa x.1).1).getD x_1.2.2.toNat 0)):Int))&&!bp (cp x.1 x.2.1) ((ab (aa x.1).1).getD x_1.2.2.toNat 0))=true→(x_1.2.1.length+[(ab (aa x.1).1).getD x_1.2.2.toNat 0].length) * 8≤aL∧aj .i64 (x_1.2.2+1)∧(0≤x_1.2.2+1∧x_1.2.2+1≤(↑(ab (aa x.1).1).length:Int)∧x_1.1++[(↑(aQ x.1 x.2.1 (ab (aa x.1).1) ((ab (aa x.1).1).getD x_1.2.2.toNat 0)):Int)]=List.map (fun (x_2:Int)=>(↑(aQ x.1 x.2.1 (ab (aa x.1).1) x_2):Int)) (List.take (x_1.2.2+1).toNat (ab (aa x.1).1))∧x_1.2.1++[(ab (aa x.1).1).getD x_1.2.2.toNat 0]=List.filter (fun (x_2:Int)=>decide (0<aQ x.1 x.2.1 (ab (aa x.1).1) x_2)&&!bp (cp x.1 x.2.1) x_2) (List.take (x_1.2.2+1).toNat (ab (aa x.1).1)))∧((↑(ab (aa x.1).1).length:Int) - (x_1.2.2+1)).toNat<((↑(ab (aa x.1).1).length:Int) - x_1.2.2).toNat)∧((decide (0<(↑(aQ x.1 x.2.1 (ab (aa x.1).1) ((ab (aa x.1).1).getD x_1.2.2.toNat 0)):Int))&&!bp (cp x.1 x.2.1) ((ab (aa x.1).1).getD x_1.2.2.toNat 0))=false→aj .i64 (x_1.2.2+1)∧(0≤x_1.2.2+1∧x_1.2.2+1≤(↑(ab (aa x.1).1).length:Int)∧x_1.1++[(↑(aQ x.1 x.2.1 (ab (aa x.1).1) ((ab (aa x.1).1).getD x_1.2.2.toNat 0)):Int)]=List.map (fun (x_2:Int)=>(↑(aQ x.1 x.2.1 (ab (aa x.1).1) x_2):Int)) (List.take (x_1.2.2+1).toNat (ab (aa x.1).1))∧x_1.2.1=List.filter (fun (x_2:Int)=>decide (0<aQ x.1 x.2.1 (ab (aa x.1).1) x_2)&&!bp (cp x.1 x.2.1) x_2) (List.take (x_1.2.2+1).toNat (ab (aa x.1).1)))∧((↑(ab (aa x.1).1).length:Int) - (x_1.2.2+1)).toNat<((↑(ab (aa x.1).1).length:Int) - x_1.2.2).toNat))∧(decide (x_1.2.2<(↑(ab (aa x.1).1).length:Int))=false→(decide ((a8 x.1 x.2.1).2≠0)=false→True)∧((decide ((a8 x.1 x.2.1).2≠0)||!decide ((a8 x.1 x.2.1).1=x_1.1)||decide ((bM x.1 x.2.1).2≠0))=false→True)∧((decide ((a8 x.1 x.2.1).2≠0)||!decide ((a8 x.1 x.2.1).1=x_1.1)||decide ((bM x.1 x.2.1).2≠0)||!decide ((bM x.1 x.2.1).1=x_1.2.1))=true→false=true∧True)∧((decide ((a8 x.1 x.2.1).2≠0)||!decide ((a8 x.1 x.2.1).1=x_1.1)||decide ((bM x.1 x.2.1).2≠0)||!decide ((bM x.1 x.2.1).1=x_1.2.1))=false→((decide (x.2.2<0)||decide ((↑x.2.1.length:Int)≤x.2.2))=true→(decide ((↑(bD x.1 x.2.1 x.2.2).1.length:Int)=0)&&decide ((bD x.1 x.2.1 x.2.2).2=4))=true∧True)∧((decide (x.2.2<0)||decide ((↑x.2.1.length:Int)≤x.2.2))=false→(decide ((bD x.1 x.2.1 x.2.2).2=0)=true→0≤x.2.2∧x.2.2<(↑x.2.1.length:Int))∧(decide ((bD x.1 x.2.1 x.2.2).2=0)=true→(ao x.1).2.2=0)∧(decide ((bD x.1 x.2.1 x.2.2).2=0)=true→True)∧(decide ((bD x.1 x.2.1 x.2.2).2=0)&&decide ((bD x.1 x.2.1 x.2.2).1=g7 x.1 (dt x.2.1 x.2.2)))=true∧True))))
theorem iz:fx:=by
 unfold fx
 intro ⟨a,f,k⟩ ⟨⟨hb,hw⟩,⟨hbf,hf⟩,hk⟩ ⟨⟨hrb,_⟩,⟨hrf,_⟩,_⟩
 unfold aL at hb hbf
 dsimp only at hb hw hbf hf hk hrb hrf ⊢
 rw [qx hw]
 have hC:a8 a f=if an a f≠0 then ([],an a f) else ((ab (aa a).1).map fun x=>(aQ a f (ab (aa a).1) x:Int),0):=rfl
 have hR:bM a f=if an a f≠0 then ([],an a f) else (oO a f,0):=rfl
 have hD:bD a f k=if an a f≠0 then ([],an a f) else if k<0∨(f.length:Int)≤k then ([],4) else (g7 a (dt f k),0):=rfl
 refine ⟨hrf,hrf,hrf,trivial,fun h=>?_,fun h=>?_⟩
 ·have h:=of_decide_eq_true h
  rw [if_pos h] at hC hR hD
  rw [hC,hR,hD]
  simp [aj]
 have h:an a f=0:=by simpa using of_decide_eq_false h
 obtain ⟨hc,hfb⟩:=i9 h
 obtain ⟨hal,_⟩:=dY hc
 rw [if_neg (by omega)] at hC hR hD
 have hsl:=aR a
 have hbl:=aG (aa a).1
 have hbb:∀ x∈ab (aa a).1,isB (aa a).1 x=true:=fun x hx=>by rw [← aS]; exact bi.2 hx
 have hRL:oO a f=(ab (aa a).1).filter fun x=>decide (0<aQ a f (ab (aa a).1) x)&&!bp (cp a f) x:=rfl
 rw [hC,hR,hD,hRL]
 generalize ab (aa a).1=o at *
 refine ⟨trivial,⟨h,by omega⟩,⟨by omega,by omega,rfl,rfl⟩,fun ⟨cs,rs,i⟩ ⟨i0,i1,i2,i3⟩=>⟨fun hlt=>?_,fun hge=>?_⟩⟩
 ·dsimp only at i0 i1 i2 i3 ⊢
  have hlt:i<(o.length:Int):=of_decide_eq_true hlt
  have hm:=bk (0:Int) i0 hlt
  have hr:=cq (hbb _ hm)
  have hcl:cs.length≤256:=by rw [i2,List.length_map,List.length_take]; omega
  have hrl:rs.length≤256:=by
   rw [i3]
   refine Nat.le_trans (List.length_filter_le _ _) ?_
   rw [List.length_take]
   omega
  rw [aI (0:Int) i0 hlt,List.map_append,List.filter_append,← i2,← i3]
  generalize o.getD i.toNat 0=x at *
  have hcast:decide ((0:Int)<(aQ a f o x:Int))=decide (0<aQ a f o x):=by
   congr 1
   exact propext Int.natCast_pos
  refine ⟨i0,hlt,by omega,⟨hc,hbb,by omega,hr.1⟩,by unfold aL; rw [List.length_singleton]; omega,fun _=>trivial,fun hcd=>?_,fun hcd=>?_⟩
  ·rw [hcast] at hcd
   rw [List.filter_cons_of_pos (p:=fun x=>decide (0<aQ a f o x)&&!bp (cp a f) x) hcd,List.filter_nil]
   exact ⟨by unfold aL; rw [List.length_singleton]; omega,by simp only [aj]; omega,⟨by omega,by omega,rfl,rfl⟩,by omega⟩
  ·rw [hcast] at hcd
   rw [List.filter_cons_of_neg (p:=fun x=>decide (0<aQ a f o x)&&!bp (cp a f) x) (by rw [hcd]; simp),List.filter_nil,List.append_nil]
   exact ⟨by simp only [aj]; omega,⟨by omega,by omega,rfl,rfl⟩,by omega⟩
 dsimp only at i0 i1 i2 i3 hge ⊢
 rw [aX (of_decide_eq_false hge)] at i2 i3
 rw [i2,i3]
 refine ⟨fun _=>trivial,fun _=>trivial,fun hh=>by simp at hh,fun _=>⟨fun hk1=>?_,fun hk1=>?_⟩⟩
 ·have hk1:k<0∨(f.length:Int)≤k:=by simpa using hk1
  rw [if_pos hk1]
  simp
 ·have hk1:¬ (k<0∨(f.length:Int)≤k):=by
   intro h
   have:(decide (k<0)||decide ((f.length:Int)≤k))=true:=by simpa using h
   rw [this] at hk1
   cases hk1
  rw [if_neg hk1]
  exact ⟨fun _=>⟨by omega,by omega⟩,fun _=>hc,fun _=>trivial,by simp⟩
theorem jC:js.ok Try.prog 5:=bJ (ann:=qU) (ai rt (ai ud (ai s7 (ai ug (ai eO (ai qj (ai ko (ai lH (ai s9 (ai uf (ai km aJ))))))))))) Try.func5 (by kernel_rfl) iz
end Go.Proofs.Ytcnoiiohmpgckaa
