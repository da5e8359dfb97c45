
import Derived.Test.YtglchojglcobjaaGreatGaps
import Derived.Test.YtglchojglcobjaaGreatRObjects
namespace Go.Proofs.YtglchojglcobjaaGreat
open Go
set_option maxRecDepth 100000
set_option maxHeartbeats 1000000
def bb (f:Int→Bool):Nat→Int→List bK→List bK
 | 0,_,out=>out
 | m+1,k,out=>bb f m (k+1) (if f k=true then (if (decide (0<k)&&f (k - 1))=true then fl out 1 else out++[(k,1)]) else out)
def GI:Nat→Option LoopGen
 | 3=>some { rd:=[.dat 7 ty_I,.dat 1 (.fn ty_I .bool)],A:=fun ((n,g):Int×(Int→Prop)×(Int→Bool))=>{ cs:=[.own 5 42 eP,.dat 8 ty_I],inv:=fun ((out,k):List bK×Int)=>0≤k∧k≤n∧n≤300∧(∀ i,0≤i→i<n→g.1 i)∧out.length≤k∧((decide (0<k)&&g.2 (k - 1))=true→0<out.length)∧(∀ r∈out,0≤r.2∧r.2≤k)∧bb g.2 (n - k).toNat k out=bb g.2 n.toNat 0 [],mu:=fun ((_,k):List bK×Int)=>(n - k).toNat } }
 | _=>none
def Fg:Spec:={ Ts:=[ty_I,.fn ty_I .bool],Rs:=[.own 42 eP],pre:=fun ((n,g):Int×(Int→Prop)×(Int→Bool))=>0≤n∧n≤300∧∀ i,0≤i→i<n→g.1 i,F:=fun ((n,g):Int×(Int→Prop)×(Int→Bool))=>bb g.2 n.toNat 0 [] }
def zy:Prop :=
  ∀ (x:Int×(Int→Prop)×(Int→Bool)),ak IntKind.i64 x.1∧True→(0≤x.1∧x.1≤300∧∀ (i:Int),0≤i→i<x.1→x.2.1 i)→((0:Int)≤0∧0≤x.1∧x.1≤300∧(∀ (i:Int),0≤i→i<x.1→x.2.1 i)∧(↑0:Int)≤0∧((decide ((0:Int)<0)&&x.2.2 (0 - 1))=true→(0:Nat)<0)∧(∀ (r:bK),r∈([]:List (Int×Int))→0≤r.2∧r.2≤0)∧bb x.2.2 (x.1 - 0).toNat 0 ([]:List (Int×Int))=bb x.2.2 x.1.toNat 0 ([]:List bK))∧∀ (x_1:List (Int×Int)×Int),0≤x_1.2∧x_1.2≤x.1∧x.1≤300∧(∀ (i:Int),0≤i→i<x.1→x.2.1 i)∧(↑x_1.1.length:Int)≤x_1.2∧((decide (0<x_1.2)&&x.2.2 (x_1.2 - 1))=true→0<x_1.1.length)∧(∀ (r:bK),r∈x_1.1→0≤r.2∧r.2≤x_1.2)∧bb x.2.2 (x.1 - x_1.2).toNat x_1.2 x_1.1=bb x.2.2 x.1.toNat 0 ([]:List bK)→(decide (x_1.2<x.1)=true→x.2.1 x_1.2∧((!x.2.2 x_1.2)=true→ak IntKind.i64 (x_1.2+1)∧(0≤x_1.2+1∧x_1.2+1≤x.1∧x.1≤300∧(∀ (i:Int),0≤i→i<x.1→x.2.1 i)∧(↑x_1.1.length:Int)≤x_1.2+1∧((decide (0<x_1.2+1)&&x.2.2 (x_1.2+1 - 1))=true→0<x_1.1.length)∧(∀ (r:bK),r∈x_1.1→0≤r.2∧r.2≤x_1.2+1)∧bb x.2.2 (x.1 - (x_1.2+1)).toNat (x_1.2+1) x_1.1=bb x.2.2 x.1.toNat 0 ([]:List bK))∧(x.1 - (x_1.2+1)).toNat<(x.1 - x_1.2).toNat)∧((!x.2.2 x_1.2)=false→(decide (0<x_1.2)=true→ak IntKind.i64 (x_1.2 - 1))∧(decide (0<x_1.2)=true→x.2.1 (x_1.2 - 1))∧((decide (0<x_1.2)&&x.2.2 (x_1.2 - 1))=true→ak IntKind.i64 ((↑x_1.1.length:Int) - 1)∧0≤(↑x_1.1.length:Int) - 1∧(↑x_1.1.length:Int) - 1<(↑x_1.1.length:Int)∧((↑x_1.1.length:Int) - 1).toNat<x_1.1.length∧ak IntKind.i64 ((x_1.1.getD ((↑x_1.1.length:Int) - 1).toNat (0,0)).2+1)∧0≤(↑x_1.1.length:Int) - 1∧(↑x_1.1.length:Int) - 1<(↑x_1.1.length:Int)∧((↑x_1.1.length:Int) - 1).toNat<x_1.1.length∧ak IntKind.i64 (x_1.2+1)∧(0≤x_1.2+1∧x_1.2+1≤x.1∧x.1≤300∧(∀ (i:Int),0≤i→i<x.1→x.2.1 i)∧(↑(x_1.1.set ((↑x_1.1.length:Int) - 1).toNat ((x_1.1.getD ((↑x_1.1.length:Int) - 1).toNat (0,0)).1,(x_1.1.getD ((↑x_1.1.length:Int) - 1).toNat (0,0)).2+1)).length:Int)≤x_1.2+1∧((decide (0<x_1.2+1)&&x.2.2 (x_1.2+1 - 1))=true→0<(x_1.1.set ((↑x_1.1.length:Int) - 1).toNat ((x_1.1.getD ((↑x_1.1.length:Int) - 1).toNat (0,0)).1,(x_1.1.getD ((↑x_1.1.length:Int) - 1).toNat (0,0)).2+1)).length)∧(∀ (r:bK),r∈x_1.1.set ((↑x_1.1.length:Int) - 1).toNat ((x_1.1.getD ((↑x_1.1.length:Int) - 1).toNat (0,0)).1,(x_1.1.getD ((↑x_1.1.length:Int) - 1).toNat (0,0)).2+1)→0≤r.2∧r.2≤x_1.2+1)∧bb x.2.2 (x.1 - (x_1.2+1)).toNat (x_1.2+1) (x_1.1.set ((↑x_1.1.length:Int) - 1).toNat ((x_1.1.getD ((↑x_1.1.length:Int) - 1).toNat (0,0)).1,(x_1.1.getD ((↑x_1.1.length:Int) - 1).toNat (0,0)).2+1))=bb x.2.2 x.1.toNat 0 ([]:List bK))∧(x.1 - (x_1.2+1)).toNat<(x.1 - x_1.2).toNat)∧((decide (0<x_1.2)&&x.2.2 (x_1.2 - 1))=false→(x_1.1.length+[(x_1.2,1)].length) * (8+8)≤az∧ak IntKind.i64 (x_1.2+1)∧(0≤x_1.2+1∧x_1.2+1≤x.1∧x.1≤300∧(∀ (i:Int),0≤i→i<x.1→x.2.1 i)∧(↑(x_1.1++[(x_1.2,1)]).length:Int)≤x_1.2+1∧((decide (0<x_1.2+1)&&x.2.2 (x_1.2+1 - 1))=true→0<(x_1.1++[(x_1.2,1)]).length)∧(∀ (r:bK),r∈x_1.1++[(x_1.2,1)]→0≤r.2∧r.2≤x_1.2+1)∧bb x.2.2 (x.1 - (x_1.2+1)).toNat (x_1.2+1) (x_1.1++[(x_1.2,1)])=bb x.2.2 x.1.toNat 0 ([]:List bK))∧(x.1 - (x_1.2+1)).toNat<(x.1 - x_1.2).toNat)))∧(decide (x_1.2<x.1)=false→x_1.1=bb x.2.2 x.1.toNat 0 ([]:List bK)∧True)
theorem Dq:zy:=by
 unfold zy
 intro ⟨n,g⟩ _ ⟨h1,h2,h3⟩
 refine ⟨⟨by omega,h1,h2,h3,by simp,by simp,by simp,by simp⟩,fun ⟨out,k⟩ ⟨k0,k1,_,_,q1,q2,q3,q4⟩=>⟨fun hlt=>?_,fun hge=>?_⟩⟩
 ·have hlt:k<n:=of_decide_eq_true hlt
  simp only at h1 h2 h3 k0 k1 q1 q2 q3 q4 hlt ⊢
  rw [show (n - k).toNat=(n - (k+1)).toNat+1 by omega] at q4
  simp only [bb] at q4
  have hp:(decide (0<k+1)&&g.2 (k+1 - 1))=g.2 k:=by
   rw [show k+1 - 1=k by omega]
   simp
   omega
  rw [hp]
  simp only [ak]
  refine ⟨h3 k k0 hlt,fun hc=>?_,fun hc=>⟨fun hk=>by have:=of_decide_eq_true hk; omega,fun hk=>h3 _ (by have:=of_decide_eq_true hk; omega) (by omega),fun hk=>?_,fun hk=>?_⟩⟩
  ·have hc:g.2 k=false:=by simpa using hc
   rw [hc] at q4 ⊢
   simp only [Bool.false_eq_true,if_false] at q4
   exact ⟨by omega,⟨by omega,by omega,h2,h3,by omega,fun h=>by simp at h,fun r hr=>by have:=q3 r hr; omega,q4⟩,by omega⟩
  ·have hc:g.2 k=true:=by simpa using hc
   rw [if_pos hc,if_pos hk] at q4
   have hlen:=q2 hk
   have hlast:=q3 _ (aD ((0,0):bK) (xs:=out) (i:=(out.length:Int) - 1) (by omega) (by omega))
   have e:((out.length:Int) - 1).toNat=out.length - 1:=by omega
   rw [e] at hlast ⊢
   have hbump:out.set (out.length - 1) ((out.getD (out.length - 1) (0,0)).1,(out.getD (out.length - 1) (0,0)).2+1)=fl out 1:=rfl
   rw [hbump]
   rw [cZ]
   refine ⟨by omega,by omega,by omega,by omega,by omega,by omega,by omega,by omega,by omega,⟨by omega,by omega,h2,h3,by omega,fun _=>hlen,fun r hr=>?_,q4⟩,by omega⟩
   rcases List.mem_or_eq_of_mem_set hr with hr | rfl
   ·have:=q3 r hr; omega
   ·simp only; omega
  ·have hc:g.2 k=true:=by simpa using hc
   rw [if_pos hc,if_neg (by rw [hk]; simp)] at q4
   unfold az
   simp only [List.length_append,List.length_cons,List.length_nil]
   refine ⟨by omega,by omega,⟨by omega,by omega,h2,h3,by omega,fun _=>by omega,fun r hr=>?_,q4⟩,by omega⟩
   rcases List.mem_append.1 hr with hr | hr
   ·have:=q3 r hr; omega
   ·simp only [List.mem_singleton] at hr
    subst hr
    simp only
    omega
 ·have hge:¬ k<n:=of_decide_eq_false hge
  simp only at q4 k1
  rw [show (n - k).toNat=0 by omega] at q4
  exact ⟨q4,trivial⟩
theorem zM:Fg.ok Tryz.prog 48:=aI (ann:=GI) ap Tryz.func48 (by kernel_rfl) Dq
def Fi:Spec:={ Ts:=[ty_I,.ref (.arr .bool)],Rs:=[.dat .bool],pre:=fun ((k,fr):Int×List Bool)=>0≤k∧k<fr.length,F:=fun ((k,fr):Int×List Bool)=>fr.getD k.toNat false }
def zA:Prop :=
  ∀ (x:Int×List Bool),(ak IntKind.i64 x.1∧x.2.length * 8≤az∧∀ (x_1:Bool),x_1∈x.2→True)→0≤x.1∧x.1<(↑x.2.length:Int)→0≤x.1∧x.1<(↑x.2.length:Int)∧x.2.getD x.1.toNat false=x.2.getD x.1.toNat false∧True
theorem Ds:zA:=by
 unfold zA
 intro ⟨k,fr⟩ _ ⟨h1,h2⟩
 exact ⟨h1,h2,rfl,trivial⟩
theorem FL:Fi.ok Tryz.prog 49:=aI (ann:=cT) ap Tryz.func49 (by kernel_rfl) Ds
def fJ (fr:List Bool) (at_:Nat) (b:Bool):Nat→List Bool
 | 0=>fr
 | n+1=>(fJ fr at_ b n).set (at_+n) b
def fp:List Bool→List aw→List Bool
 | fr,[]=>fr
 | fr,s::l=>fp (fJ fr s.1.toNat s.2.2.2.2 (ab s.2).toNat) l
theorem fv (fr:List Bool) (at_:Nat) (b:Bool):∀ n,(fJ fr at_ b n).length=fr.length
 | 0=>rfl
 | n+1=>by simp [fJ,fv fr at_ b n]
def aC (a:List Int):List bK:=bb (fun k=>(fp (List.replicate (a.length+1) false) (aa a).1).getD k.toNat false) a.length 0 []
def Cv:Nat→Option LoopGen
 | 4=>some { rd:=[.own 18 95 bS,.dat 0 (.arr be)],A:=fun ((l,a):List aw×List Int)=>{ cs:=[.boxS 5 [.own 4 .bool],.dat 20 ty_I],inv:=fun ((fr,i):List Bool×Int)=>0≤i∧i≤l.length∧l.length≤256∧a.length≤256∧(∀ s∈l,bX a s)∧fr.length=a.length+1∧fp fr (l.drop i.toNat)=fp (List.replicate (a.length+1) false) l,mu:=fun ((_,i):List Bool×Int)=>(l.length - i).toNat } }
 | 7=>some { rd:=[.box 7 bS,.dat 26 ty_I,.dat 0 (.arr be),.boxS 5 [.own 4 .bool]],A:=fun ((s,n,a,fr0):aw×Int×List Int×List Bool)=>{ cs:=[.boxS 5 [.own 4 .bool],.dat 27 ty_I],inv:=fun ((fr,k):List Bool×Int)=>0≤k∧k≤n∧n=ab s.2∧a.length≤256∧bX a s∧fr0.length=a.length+1∧fr=fJ fr0 s.1.toNat s.2.2.2.2 k.toNat,mu:=fun ((_,k):List Bool×Int)=>(n - k).toNat } }
 | _=>none
def Bv:Spec:={ Ts:=[.arr be],Rs:=[.own 42 eP],pre:=fun (a:List Int)=>a.length≤256,F:=aC }
def rW:Prop :=
  ∀ (x:List Int),(x.length * 8≤az∧∀ (x_1:Int),x_1∈x→ak IntKind.u64 x_1)→x.length≤256→True∧ak IntKind.i64 ((↑x.length:Int)+1)∧0≤(↑x.length:Int)+1∧((↑x.length:Int)+1).toNat * 8≤az∧((0:Int)≤0∧0≤(↑(aa x).1.length:Int)∧(aa x).1.length≤256∧x.length≤256∧(∀ (s:aw),s∈(aa x).1→bX x s)∧(List.replicate ((↑x.length:Int)+1).toNat false).length=x.length+1∧fp (List.replicate ((↑x.length:Int)+1).toNat false) (List.drop (Int.toNat 0) (aa x).1)=fp (List.replicate (x.length+1) false) (aa x).1)∧∀ (x_1:List Bool×Int),0≤x_1.2∧x_1.2≤(↑(aa x).1.length:Int)∧(aa x).1.length≤256∧x.length≤256∧(∀ (s:aw),s∈(aa x).1→bX x s)∧x_1.1.length=x.length+1∧fp x_1.1 (List.drop x_1.2.toNat (aa x).1)=fp (List.replicate (x.length+1) false) (aa x).1→(decide (x_1.2<(↑(aa x).1.length:Int))=true→0≤x_1.2∧x_1.2<(↑(aa x).1.length:Int)∧x_1.2.toNat<(aa x).1.length∧(ak IntKind.i64 (1+((aa x).1.getD x_1.2.toNat (0,0,0,0,false)).2.1)∧ak IntKind.i64 (1+((aa x).1.getD x_1.2.toNat (0,0,0,0,false)).2.1+((aa x).1.getD x_1.2.toNat (0,0,0,0,false)).2.2.1))∧((0:Int)≤0∧0≤ab ((aa x).1.getD x_1.2.toNat (0,0,0,0,false)).2∧ab ((aa x).1.getD x_1.2.toNat (0,0,0,0,false)).2=ab ((aa x).1.getD x_1.2.toNat (0,0,0,0,false)).2∧x.length≤256∧bX x ((aa x).1.getD x_1.2.toNat (0,0,0,0,false))∧x_1.1.length=x.length+1∧x_1.1=fJ x_1.1 ((aa x).1.getD x_1.2.toNat (0,0,0,0,false)).1.toNat ((aa x).1.getD x_1.2.toNat (0,0,0,0,false)).2.2.2.2 (Int.toNat 0))∧∀ (x_2:List Bool×Int),0≤x_2.2∧x_2.2≤ab ((aa x).1.getD x_1.2.toNat (0,0,0,0,false)).2∧ab ((aa x).1.getD x_1.2.toNat (0,0,0,0,false)).2=ab ((aa x).1.getD x_1.2.toNat (0,0,0,0,false)).2∧x.length≤256∧bX x ((aa x).1.getD x_1.2.toNat (0,0,0,0,false))∧x_1.1.length=x.length+1∧x_2.1=fJ x_1.1 ((aa x).1.getD x_1.2.toNat (0,0,0,0,false)).1.toNat ((aa x).1.getD x_1.2.toNat (0,0,0,0,false)).2.2.2.2 x_2.2.toNat→(decide (x_2.2<ab ((aa x).1.getD x_1.2.toNat (0,0,0,0,false)).2)=true→ak IntKind.i64 (((aa x).1.getD x_1.2.toNat (0,0,0,0,false)).1+x_2.2)∧0≤((aa x).1.getD x_1.2.toNat (0,0,0,0,false)).1+x_2.2∧((aa x).1.getD x_1.2.toNat (0,0,0,0,false)).1+x_2.2<(↑x_2.1.length:Int)∧(((aa x).1.getD x_1.2.toNat (0,0,0,0,false)).1+x_2.2).toNat<x_2.1.length∧ak IntKind.i64 (x_2.2+1)∧(0≤x_2.2+1∧x_2.2+1≤ab ((aa x).1.getD x_1.2.toNat (0,0,0,0,false)).2∧ab ((aa x).1.getD x_1.2.toNat (0,0,0,0,false)).2=ab ((aa x).1.getD x_1.2.toNat (0,0,0,0,false)).2∧x.length≤256∧bX x ((aa x).1.getD x_1.2.toNat (0,0,0,0,false))∧x_1.1.length=x.length+1∧x_2.1.set (((aa x).1.getD x_1.2.toNat (0,0,0,0,false)).1+x_2.2).toNat ((aa x).1.getD x_1.2.toNat (0,0,0,0,false)).2.2.2.2=fJ x_1.1 ((aa x).1.getD x_1.2.toNat (0,0,0,0,false)).1.toNat ((aa x).1.getD x_1.2.toNat (0,0,0,0,false)).2.2.2.2 (x_2.2+1).toNat)∧(ab ((aa x).1.getD x_1.2.toNat (0,0,0,0,false)).2 - (x_2.2+1)).toNat<(ab ((aa x).1.getD x_1.2.toNat (0,0,0,0,false)).2 - x_2.2).toNat)∧(decide (x_2.2<ab ((aa x).1.getD x_1.2.toNat (0,0,0,0,false)).2)=false→ak IntKind.i64 (x_1.2+1)∧(0≤x_1.2+1∧x_1.2+1≤(↑(aa x).1.length:Int)∧(aa x).1.length≤256∧x.length≤256∧(∀ (s:aw),s∈(aa x).1→bX x s)∧x_2.1.length=x.length+1∧fp x_2.1 (List.drop (x_1.2+1).toNat (aa x).1)=fp (List.replicate (x.length+1) false) (aa x).1)∧((↑(aa x).1.length:Int) - (x_1.2+1)).toNat<((↑(aa x).1.length:Int) - x_1.2).toNat))∧(decide (x_1.2<(↑(aa x).1.length:Int))=false→(0≤(↑x.length:Int)∧(↑x.length:Int)≤300∧∀ (i:Int),0≤i→i<(↑x.length:Int)→(fun (x:Int)=>0≤x∧x<(↑x_1.1.length:Int),fun (x:Int)=>x_1.1.getD x.toNat false).1 i)∧bb (fun (x:Int)=>x_1.1.getD x.toNat false) (↑x.length:Int).toNat 0 ([]:List bK)=aC x∧True)
theorem yx:rW:=by
 unfold rW
 intro a _ hal
 have hlen:=cf a
 have hin:=dc a
 have hF:aC a=bb (fun k=>(fp (List.replicate (a.length+1) false) (aa a).1).getD k.toNat false) a.length 0 []:=rfl
 rw [hF]
 generalize (aa a).1=l at *
 have ea:((a.length:Int)+1).toNat=a.length+1:=by omega
 rw [ea]
 unfold az
 simp only [ak]
 refine ⟨trivial,by omega,by omega,by omega,⟨by omega,by omega,hlen,hal,fun s hs=>(hin s hs).2.1,by simp,by simp⟩,fun ⟨fr,i⟩ ⟨h0,h1,_,_,_,h2,h3⟩=>⟨fun hlt=>?_,fun hge=>?_⟩⟩
 ·have hlt:i<(l.length:Int):=of_decide_eq_true hlt
  simp only at h0 h1 h2 h3 ⊢
  rw [aS ((0,0,0,0,false):aw) h0 hlt] at h3
  simp only [fp] at h3
  obtain ⟨_,hs,hf⟩:=hin _ (aD ((0,0,0,0,false):aw) h0 hlt)
  generalize l.getD i.toNat (0,0,0,0,false)=s at *
  have hz:=a8 hf
  have hL:ab s.2=1+s.2.1+s.2.2.1:=rfl
  have hs':=hs
  unfold bX at hs'
  generalize hLg:ab s.2=L at *
  refine ⟨h0,hlt,by omega,⟨by omega,by omega⟩,⟨by omega,by omega,trivial,hal,hs,h2,rfl⟩,fun ⟨fr2,k⟩ ⟨k0,k1,_,_,_,_,k2⟩=>⟨fun hk=>?_,fun hk=>?_⟩⟩
  ·have hk:k<L:=of_decide_eq_true hk
   simp only at k0 k1 k2 ⊢
   have hl2:fr2.length=a.length+1:=by rw [k2,fv,h2]
   refine ⟨by omega,by omega,by omega,by omega,by omega,⟨by omega,by omega,trivial,hal,hs,h2,?_⟩,by omega⟩
   rw [show (k+1).toNat=k.toNat+1 by omega,k2]
   simp only [fJ]
   congr 1
   omega
  ·have hk:¬ k<L:=of_decide_eq_false hk
   simp only at k0 k1 k2 ⊢
   have hkL:k=L:=by omega
   refine ⟨by omega,⟨by omega,by omega,hlen,hal,fun s hs=>(hin s hs).2.1,by rw [k2,fv,h2],?_⟩,by omega⟩
   rw [k2,hkL]
   exact h3
 ·simp only at h2 h3 ⊢
  rw [bn (of_decide_eq_false hge)] at h3
  simp only [fp] at h3
  rw [h3]
  refine ⟨⟨by omega,by omega,fun i h4 h5=>?_⟩,?_,trivial⟩
  ·rw [← h3,h2]
   omega
  ·congr 1
theorem sq:Bv.ok Tryz.prog 14:=aI (ann:=Cv) (ae lC (ae ga (ae FL (ae zM ap)))) Tryz.func14 (by kernel_rfl) yx
def AM:Nat→Option LoopGen
 | 3=>some { rd:=[.dat 0 (.arr be),.dat 1 ty_I,.dat 11 ty_I],wr:=[7],A:=fun ((a,at_,n):List Int×Int×Int)=>{ cs:=[.own 7 50 be,.dat 12 ty_I],inv:=fun ((out,k):List Int×Int)=>0≤k∧k≤n∧df a at_ n∧out=dj a at_ n 0 k,mu:=fun ((_,k):List Int×Int)=>(n - k).toNat } }
 | _=>none
def yY:Spec:={ Ts:=[.arr be,ty_I,ty_I],Rs:=[.own 50 be],pre:=fun ((a,at_,n):List Int×Int×Int)=>df a at_ n,F:=fun ((a,at_,n):List Int×Int×Int)=>aG a at_ n }
def pP:Prop :=
  ∀ (x:List Int×Int×Int),(x.1.length * 8≤az∧∀ (x_1:Int),x_1∈x.1→ak IntKind.u64 x_1)∧ak IntKind.i64 x.2.1∧ak IntKind.i64 x.2.2→df x.1 x.2.1 x.2.2→True∧((0:Int)≤0∧0≤x.2.2∧df x.1 x.2.1 x.2.2∧x.1=dj x.1 x.2.1 x.2.2 0 0)∧∀ (x_1:List Int×Int),0≤x_1.2∧x_1.2≤x.2.2∧df x.1 x.2.1 x.2.2∧x_1.1=dj x.1 x.2.1 x.2.2 0 x_1.2→(decide (x_1.2<x.2.2)=true→ak IntKind.i64 (x.2.1+x_1.2)∧0≤x.2.1+x_1.2∧x.2.1+x_1.2<(↑x_1.1.length:Int)∧(x.2.1+x_1.2).toNat<x_1.1.length∧ak IntKind.i64 (x_1.2+1)∧(0≤x_1.2+1∧x_1.2+1≤x.2.2∧df x.1 x.2.1 x.2.2∧x_1.1.set (x.2.1+x_1.2).toNat 0=dj x.1 x.2.1 x.2.2 0 (x_1.2+1))∧(x.2.2 - (x_1.2+1)).toNat<(x.2.2 - x_1.2).toNat)∧(decide (x_1.2<x.2.2)=false→(decide (0<x.2.2)=true→(1≤x.2.2∧x.2.2≤256)∧0≤x.2.1∧x.2.1<(↑x_1.1.length:Int)∧x.2.1.toNat<x_1.1.length∧x_1.1.set x.2.1.toNat (aR (0,x.2.2 - 1,0,true))=aG x.1 x.2.1 x.2.2∧True)∧(decide (0<x.2.2)=false→x_1.1=aG x.1 x.2.1 x.2.2∧True))
theorem wv:pP:=by
 unfold pP
 intro ⟨a,at_,n⟩ _ hp
 have hp':=hp
 obtain ⟨p1,p2,p3,p4⟩:=hp'
 simp only at p1 p2 p3 p4 hp ⊢
 simp only [ak]
 refine ⟨trivial,⟨by omega,p2,hp,(mU _ _ _ _).symm⟩,fun ⟨out,k⟩ ⟨k0,k1,_,k2⟩=>⟨fun hk=>?_,fun hk=>?_⟩⟩
 ·have hk:k<n:=of_decide_eq_true hk
  simp only at k0 k1 k2 ⊢
  have hl:=dH a at_ n 0 k p1 p3 k0 k1
  rw [← k2] at hl
  refine ⟨by omega,by omega,by omega,by omega,by omega,⟨by omega,by omega,hp,?_⟩,by omega⟩
  rw [k2]
  exact sU a at_ n 0 k p1 p3 k0 hk
 ·have hk:¬ k<n:=of_decide_eq_false hk
  simp only at k0 k1 k2 ⊢
  have hkn:k=n:=by omega
  have hl:=dH a at_ n 0 k p1 p3 k0 k1
  rw [← k2] at hl
  refine ⟨fun hc=>?_,fun hc=>?_⟩
  ·have hc:0<n:=of_decide_eq_true hc
   unfold aG
   rw [if_pos hc,k2,hkn]
   rw [k2,hkn] at hl
   exact ⟨⟨by omega,by omega⟩,p1,by omega,by omega,rfl,trivial⟩
  ·have hc:¬ 0<n:=of_decide_eq_false hc
   unfold aG
   rw [if_neg hc,k2,show k=0 by omega,mU]
   exact ⟨rfl,trivial⟩
theorem zO:yY.ok Tryz.prog 107:=aI (ann:=AM) (ae gJ (ae nU ap)) Tryz.func107 (by kernel_rfl) wv
end Go.Proofs.YtglchojglcobjaaGreat
