
import Derived.Test.YtglchojglcobjaaGreatGaps
import Derived.Test.YtglchojglcobjaaGreatRObjects
namespace Go.Proofs.YtglchojglcobjaaGreat
open Go
set_option maxRecDepth 100000
set_option maxHeartbeats 1000000
def runsGo (f:Int→Bool):Nat→Int→List Gap→List Gap
 | 0,_,out=>out
 | m+1,k,out=>runsGo f m (k+1) (if f k=true then (if (decide (0<k)&&f (k - 1))=true then bumpL out 1 else out++[(k,1)]) else out)
def an_rRuns:Nat→Option LoopGen
 | 3=>some { rd:=[.dat 7 ty_I,.dat 1 (.fn ty_I .bool)],A:=fun ((n,g):Int×(Int→Prop)×(Int→Bool))=>{ cs:=[.own 5 42 ty_Gap,.dat 8 ty_I],inv:=fun ((out,k):List Gap×Int)=>0≤k∧k≤n∧n≤300∧(∀ i,0≤i→i<n→g.1 i)∧out.length≤k∧((decide (0<k)&&g.2 (k - 1))=true→0<out.length)∧(∀ r∈out,0≤r.2∧r.2≤k)∧runsGo g.2 (n - k).toNat k out=runsGo g.2 n.toNat 0 [],mu:=fun ((_,k):List Gap×Int)=>(n - k).toNat } }
 | _=>none
def sp_rRuns:Spec:={ Ts:=[ty_I,.fn ty_I .bool],Rs:=[.own 42 ty_Gap],pre:=fun ((n,g):Int×(Int→Prop)×(Int→Bool))=>0≤n∧n≤300∧∀ i,0≤i→i<n→g.1 i,F:=fun ((n,g):Int×(Int→Prop)×(Int→Bool))=>runsGo g.2 n.toNat 0 [] }
def pv_rRuns:Prop :=
  ∀ (x:Int×(Int→Prop)×(Int→Bool)),InR IntKind.i64 x.1∧True→((0:Int)≤x.1∧x.1≤(300:Int)∧∀ (i:Int),(0:Int)≤i→i<x.1→x.2.1 i)→((0:Int)≤(0:Int)∧(0:Int)≤x.1∧x.1≤(300:Int)∧(∀ (i:Int),(0:Int)≤i→i<x.1→x.2.1 i)∧(↑(0:Nat):Int)≤(0:Int)∧((decide ((0:Int)<(0:Int))&&x.2.2 ((0:Int) - (1:Int)))=true→(0:Nat)<(0:Nat))∧(∀ (r:Gap),r∈([]:List (Int×Int))→(0:Int)≤r.2∧r.2≤(0:Int))∧runsGo x.2.2 (x.1 - (0:Int)).toNat (0:Int) ([]:List (Int×Int))=runsGo x.2.2 x.1.toNat (0:Int) ([]:List Gap))∧∀ (x_1:List (Int×Int)×Int),(0:Int)≤x_1.2∧x_1.2≤x.1∧x.1≤(300:Int)∧(∀ (i:Int),(0:Int)≤i→i<x.1→x.2.1 i)∧(↑x_1.1.length:Int)≤x_1.2∧((decide ((0:Int)<x_1.2)&&x.2.2 (x_1.2 - (1:Int)))=true→(0:Nat)<x_1.1.length)∧(∀ (r:Gap),r∈x_1.1→(0:Int)≤r.2∧r.2≤x_1.2)∧runsGo x.2.2 (x.1 - x_1.2).toNat x_1.2 x_1.1=runsGo x.2.2 x.1.toNat (0:Int) ([]:List Gap)→(decide (x_1.2<x.1)=true→x.2.1 x_1.2∧((!x.2.2 x_1.2)=true→InR IntKind.i64 (x_1.2+(1:Int))∧((0:Int)≤x_1.2+(1:Int)∧x_1.2+(1:Int)≤x.1∧x.1≤(300:Int)∧(∀ (i:Int),(0:Int)≤i→i<x.1→x.2.1 i)∧(↑x_1.1.length:Int)≤x_1.2+(1:Int)∧((decide ((0:Int)<x_1.2+(1:Int))&&x.2.2 (x_1.2+(1:Int) - (1:Int)))=true→(0:Nat)<x_1.1.length)∧(∀ (r:Gap),r∈x_1.1→(0:Int)≤r.2∧r.2≤x_1.2+(1:Int))∧runsGo x.2.2 (x.1 - (x_1.2+(1:Int))).toNat (x_1.2+(1:Int)) x_1.1=runsGo x.2.2 x.1.toNat (0:Int) ([]:List Gap))∧(x.1 - (x_1.2+(1:Int))).toNat<(x.1 - x_1.2).toNat)∧((!x.2.2 x_1.2)=false→(decide ((0:Int)<x_1.2)=true→InR IntKind.i64 (x_1.2 - (1:Int)))∧(decide ((0:Int)<x_1.2)=true→x.2.1 (x_1.2 - (1:Int)))∧((decide ((0:Int)<x_1.2)&&x.2.2 (x_1.2 - (1:Int)))=true→InR IntKind.i64 ((↑x_1.1.length:Int) - (1:Int))∧(0:Int)≤(↑x_1.1.length:Int) - (1:Int)∧(↑x_1.1.length:Int) - (1:Int)<(↑x_1.1.length:Int)∧((↑x_1.1.length:Int) - (1:Int)).toNat<x_1.1.length∧InR IntKind.i64 ((x_1.1.getD ((↑x_1.1.length:Int) - (1:Int)).toNat ((0:Int),(0:Int))).2+(1:Int))∧(0:Int)≤(↑x_1.1.length:Int) - (1:Int)∧(↑x_1.1.length:Int) - (1:Int)<(↑x_1.1.length:Int)∧((↑x_1.1.length:Int) - (1:Int)).toNat<x_1.1.length∧InR IntKind.i64 (x_1.2+(1:Int))∧((0:Int)≤x_1.2+(1:Int)∧x_1.2+(1:Int)≤x.1∧x.1≤(300:Int)∧(∀ (i:Int),(0:Int)≤i→i<x.1→x.2.1 i)∧(↑(x_1.1.set ((↑x_1.1.length:Int) - (1:Int)).toNat ((x_1.1.getD ((↑x_1.1.length:Int) - (1:Int)).toNat ((0:Int),(0:Int))).1,(x_1.1.getD ((↑x_1.1.length:Int) - (1:Int)).toNat ((0:Int),(0:Int))).2+(1:Int))).length:Int)≤x_1.2+(1:Int)∧((decide ((0:Int)<x_1.2+(1:Int))&&x.2.2 (x_1.2+(1:Int) - (1:Int)))=true→(0:Nat)<(x_1.1.set ((↑x_1.1.length:Int) - (1:Int)).toNat ((x_1.1.getD ((↑x_1.1.length:Int) - (1:Int)).toNat ((0:Int),(0:Int))).1,(x_1.1.getD ((↑x_1.1.length:Int) - (1:Int)).toNat ((0:Int),(0:Int))).2+(1:Int))).length)∧(∀ (r:Gap),r∈x_1.1.set ((↑x_1.1.length:Int) - (1:Int)).toNat ((x_1.1.getD ((↑x_1.1.length:Int) - (1:Int)).toNat ((0:Int),(0:Int))).1,(x_1.1.getD ((↑x_1.1.length:Int) - (1:Int)).toNat ((0:Int),(0:Int))).2+(1:Int))→(0:Int)≤r.2∧r.2≤x_1.2+(1:Int))∧runsGo x.2.2 (x.1 - (x_1.2+(1:Int))).toNat (x_1.2+(1:Int)) (x_1.1.set ((↑x_1.1.length:Int) - (1:Int)).toNat ((x_1.1.getD ((↑x_1.1.length:Int) - (1:Int)).toNat ((0:Int),(0:Int))).1,(x_1.1.getD ((↑x_1.1.length:Int) - (1:Int)).toNat ((0:Int),(0:Int))).2+(1:Int)))=runsGo x.2.2 x.1.toNat (0:Int) ([]:List Gap))∧(x.1 - (x_1.2+(1:Int))).toNat<(x.1 - x_1.2).toNat)∧((decide ((0:Int)<x_1.2)&&x.2.2 (x_1.2 - (1:Int)))=false→(x_1.1.length+[(x_1.2,(1:Int))].length) * ((8:Nat)+(8:Nat))≤big∧InR IntKind.i64 (x_1.2+(1:Int))∧((0:Int)≤x_1.2+(1:Int)∧x_1.2+(1:Int)≤x.1∧x.1≤(300:Int)∧(∀ (i:Int),(0:Int)≤i→i<x.1→x.2.1 i)∧(↑(x_1.1++[(x_1.2,(1:Int))]).length:Int)≤x_1.2+(1:Int)∧((decide ((0:Int)<x_1.2+(1:Int))&&x.2.2 (x_1.2+(1:Int) - (1:Int)))=true→(0:Nat)<(x_1.1++[(x_1.2,(1:Int))]).length)∧(∀ (r:Gap),r∈x_1.1++[(x_1.2,(1:Int))]→(0:Int)≤r.2∧r.2≤x_1.2+(1:Int))∧runsGo x.2.2 (x.1 - (x_1.2+(1:Int))).toNat (x_1.2+(1:Int)) (x_1.1++[(x_1.2,(1:Int))])=runsGo x.2.2 x.1.toNat (0:Int) ([]:List Gap))∧(x.1 - (x_1.2+(1:Int))).toNat<(x.1 - x_1.2).toNat)))∧(decide (x_1.2<x.1)=false→x_1.1=runsGo x.2.2 x.1.toNat (0:Int) ([]:List Gap)∧True)
theorem vcp_rRuns:pv_rRuns:=by
 unfold pv_rRuns
 intro ⟨n,g⟩ _ ⟨h1,h2,h3⟩
 refine ⟨⟨by omega,h1,h2,h3,by simp,by simp,by simp,by simp⟩,fun ⟨out,k⟩ ⟨k0,k1,_,_,q1,q2,q3,q4⟩=>⟨fun hlt=>?_,fun hge=>?_⟩⟩
 ·have hlt:k<n:=of_decide_eq_true hlt
  simp only at h1 h2 h3 k0 k1 q1 q2 q3 q4 hlt ⊢
  rw [show (n - k).toNat=(n - (k+1)).toNat+1 by omega] at q4
  simp only [runsGo] at q4
  have hp:(decide (0<k+1)&&g.2 (k+1 - 1))=g.2 k:=by
   rw [show k+1 - 1=k by omega]
   simp
   omega
  rw [hp]
  simp only [InR]
  refine ⟨h3 k k0 hlt,fun hc=>?_,fun hc=>⟨fun hk=>by have:=of_decide_eq_true hk; omega,fun hk=>h3 _ (by have:=of_decide_eq_true hk; omega) (by omega),fun hk=>?_,fun hk=>?_⟩⟩
  ·have hc:g.2 k=false:=by simpa using hc
   rw [hc] at q4 ⊢
   simp only [Bool.false_eq_true,if_false] at q4
   exact ⟨by omega,⟨by omega,by omega,h2,h3,by omega,fun h=>by simp at h,fun r hr=>by have:=q3 r hr; omega,q4⟩,by omega⟩
  ·have hc:g.2 k=true:=by simpa using hc
   rw [if_pos hc,if_pos hk] at q4
   have hlen:=q2 hk
   have hlast:=q3 _ (getD_mem ((0,0):Gap) (xs:=out) (i:=(out.length:Int) - 1) (by omega) (by omega))
   have e:((out.length:Int) - 1).toNat=out.length - 1:=by omega
   rw [e] at hlast ⊢
   have hbump:out.set (out.length - 1) ((out.getD (out.length - 1) (0,0)).1,(out.getD (out.length - 1) (0,0)).2+1)=bumpL out 1:=rfl
   rw [hbump]
   rw [bumpL_length]
   refine ⟨by omega,by omega,by omega,by omega,by omega,by omega,by omega,by omega,by omega,⟨by omega,by omega,h2,h3,by omega,fun _=>hlen,fun r hr=>?_,q4⟩,by omega⟩
   rcases List.mem_or_eq_of_mem_set hr with hr | rfl
   ·have:=q3 r hr; omega
   ·simp only; omega
  ·have hc:g.2 k=true:=by simpa using hc
   rw [if_pos hc,if_neg (by rw [hk]; simp)] at q4
   unfold big
   simp only [List.length_append,List.length_cons,List.length_nil]
   refine ⟨by omega,by omega,⟨by omega,by omega,h2,h3,by omega,fun _=>by omega,fun r hr=>?_,q4⟩,by omega⟩
   rcases List.mem_append.1 hr with hr | hr
   ·have:=q3 r hr; omega
   ·simp only [List.mem_singleton] at hr
    subst hr
    simp only
    omega
 ·have hge:¬ k<n:=of_decide_eq_false hge
  simp only at q4 k1
  rw [show (n - k).toNat=0 by omega] at q4
  exact ⟨q4,trivial⟩
theorem e_rRuns:pv_rRuns=(fnVC Tryz.prog (tbl []) an_rRuns Tryz.f48 sp_rRuns):=by kernel_rfl
theorem vc_rRuns:fnVC Tryz.prog (tbl []) an_rRuns Tryz.f48 sp_rRuns:=@Eq.mp _ _ @e_rRuns @vcp_rRuns
theorem ok_rRuns:sp_rRuns.ok Tryz.prog 48:=fn_sound (P:=Tryz.prog) (ss:=tbl []) (ann:=an_rRuns) (f:=48) (fn:=Tryz.f48) (s:=sp_rRuns) tbl_nil Tryz.func48 @vc_rRuns
def sp_rFree:Spec:={ Ts:=[ty_I,.ref (.arr .bool)],Rs:=[.dat .bool],pre:=fun ((k,fr):Int×List Bool)=>0≤k∧k<fr.length,F:=fun ((k,fr):Int×List Bool)=>fr.getD k.toNat false }
def pv_rFree:Prop :=
  ∀ (x:Int×List Bool),(InR IntKind.i64 x.1∧x.2.length * (8:Nat)≤big∧∀ (x_1:Bool),x_1∈x.2→True)→(0:Int)≤x.1∧x.1<(↑x.2.length:Int)→(0:Int)≤x.1∧x.1<(↑x.2.length:Int)∧x.2.getD x.1.toNat false=x.2.getD x.1.toNat false∧True
theorem vcp_rFree:pv_rFree:=by
 unfold pv_rFree
 intro ⟨k,fr⟩ _ ⟨h1,h2⟩
 exact ⟨h1,h2,rfl,trivial⟩
theorem e_rFree:pv_rFree=(fnVC Tryz.prog (tbl []) an_0 Tryz.f49 sp_rFree):=by kernel_rfl
theorem vc_rFree:fnVC Tryz.prog (tbl []) an_0 Tryz.f49 sp_rFree:=@Eq.mp _ _ @e_rFree @vcp_rFree
theorem ok_rFree:sp_rFree.ok Tryz.prog 49:=fn_sound (P:=Tryz.prog) (ss:=tbl []) (ann:=an_0) (f:=49) (fn:=Tryz.f49) (s:=sp_rFree) tbl_nil Tryz.func49 @vc_rFree
def setRun (fr:List Bool) (at_:Nat) (b:Bool):Nat→List Bool
 | 0=>fr
 | n+1=>(setRun fr at_ b n).set (at_+n) b
def flagsL:List Bool→List Spot→List Bool
 | fr,[]=>fr
 | fr,s::l=>flagsL (setRun fr s.1.toNat s.2.2.2.2 (headLong s.2).toNat) l
theorem setRun_length (fr:List Bool) (at_:Nat) (b:Bool):∀ n,(setRun fr at_ b n).length=fr.length
 | 0=>rfl
 | n+1=>by simp [setRun,setRun_length fr at_ b n]
def gapsOfL (a:List Int):List Gap:=runsGo (fun k=>(flagsL (List.replicate (a.length+1) false) (spotsF a).1).getD k.toNat false) a.length 0 []
def an_rGapsOf:Nat→Option LoopGen
 | 4=>some { rd:=[.own 18 95 ty_Spot,.dat 0 (.arr ty_W)],A:=fun ((l,a):List Spot×List Int)=>{ cs:=[.boxS 5 [.own 4 .bool],.dat 20 ty_I],inv:=fun ((fr,i):List Bool×Int)=>0≤i∧i≤l.length∧l.length≤256∧a.length≤256∧(∀ s∈l,spotIn a s)∧fr.length=a.length+1∧flagsL fr (l.drop i.toNat)=flagsL (List.replicate (a.length+1) false) l,mu:=fun ((_,i):List Bool×Int)=>(l.length - i).toNat } }
 | 7=>some { rd:=[.box 7 ty_Spot,.dat 26 ty_I,.dat 0 (.arr ty_W),.boxS 5 [.own 4 .bool]],A:=fun ((s,n,a,fr0):Spot×Int×List Int×List Bool)=>{ cs:=[.boxS 5 [.own 4 .bool],.dat 27 ty_I],inv:=fun ((fr,k):List Bool×Int)=>0≤k∧k≤n∧n=headLong s.2∧a.length≤256∧spotIn a s∧fr0.length=a.length+1∧fr=setRun fr0 s.1.toNat s.2.2.2.2 k.toNat,mu:=fun ((_,k):List Bool×Int)=>(n - k).toNat } }
 | _=>none
def sp_rGapsOf:Spec:={ Ts:=[.arr ty_W],Rs:=[.own 42 ty_Gap],pre:=fun (a:List Int)=>a.length≤256,F:=gapsOfL }
def pv_rGapsOf:Prop :=
  ∀ (x:List Int),(x.length * (8:Nat)≤big∧∀ (x_1:Int),x_1∈x→InR IntKind.u64 x_1)→x.length≤(256:Nat)→True∧InR IntKind.i64 ((↑x.length:Int)+(1:Int))∧(0:Int)≤(↑x.length:Int)+(1:Int)∧((↑x.length:Int)+(1:Int)).toNat * (8:Nat)≤big∧((0:Int)≤(0:Int)∧(0:Int)≤(↑(spotsF x).1.length:Int)∧(spotsF x).1.length≤(256:Nat)∧x.length≤(256:Nat)∧(∀ (s:Spot),s∈(spotsF x).1→spotIn x s)∧(List.replicate ((↑x.length:Int)+(1:Int)).toNat false).length=x.length+(1:Nat)∧flagsL (List.replicate ((↑x.length:Int)+(1:Int)).toNat false) (List.drop (Int.toNat (0:Int)) (spotsF x).1)=flagsL (List.replicate (x.length+(1:Nat)) false) (spotsF x).1)∧∀ (x_1:List Bool×Int),(0:Int)≤x_1.2∧x_1.2≤(↑(spotsF x).1.length:Int)∧(spotsF x).1.length≤(256:Nat)∧x.length≤(256:Nat)∧(∀ (s:Spot),s∈(spotsF x).1→spotIn x s)∧x_1.1.length=x.length+(1:Nat)∧flagsL x_1.1 (List.drop x_1.2.toNat (spotsF x).1)=flagsL (List.replicate (x.length+(1:Nat)) false) (spotsF x).1→(decide (x_1.2<(↑(spotsF x).1.length:Int))=true→(0:Int)≤x_1.2∧x_1.2<(↑(spotsF x).1.length:Int)∧x_1.2.toNat<(spotsF x).1.length∧(InR IntKind.i64 ((1:Int)+((spotsF x).1.getD x_1.2.toNat ((0:Int),(0:Int),(0:Int),(0:Int),false)).2.1)∧InR IntKind.i64 ((1:Int)+((spotsF x).1.getD x_1.2.toNat ((0:Int),(0:Int),(0:Int),(0:Int),false)).2.1+((spotsF x).1.getD x_1.2.toNat ((0:Int),(0:Int),(0:Int),(0:Int),false)).2.2.1))∧((0:Int)≤(0:Int)∧(0:Int)≤headLong ((spotsF x).1.getD x_1.2.toNat ((0:Int),(0:Int),(0:Int),(0:Int),false)).2∧headLong ((spotsF x).1.getD x_1.2.toNat ((0:Int),(0:Int),(0:Int),(0:Int),false)).2=headLong ((spotsF x).1.getD x_1.2.toNat ((0:Int),(0:Int),(0:Int),(0:Int),false)).2∧x.length≤(256:Nat)∧spotIn x ((spotsF x).1.getD x_1.2.toNat ((0:Int),(0:Int),(0:Int),(0:Int),false))∧x_1.1.length=x.length+(1:Nat)∧x_1.1=setRun x_1.1 ((spotsF x).1.getD x_1.2.toNat ((0:Int),(0:Int),(0:Int),(0:Int),false)).1.toNat ((spotsF x).1.getD x_1.2.toNat ((0:Int),(0:Int),(0:Int),(0:Int),false)).2.2.2.2 (Int.toNat (0:Int)))∧∀ (x_2:List Bool×Int),(0:Int)≤x_2.2∧x_2.2≤headLong ((spotsF x).1.getD x_1.2.toNat ((0:Int),(0:Int),(0:Int),(0:Int),false)).2∧headLong ((spotsF x).1.getD x_1.2.toNat ((0:Int),(0:Int),(0:Int),(0:Int),false)).2=headLong ((spotsF x).1.getD x_1.2.toNat ((0:Int),(0:Int),(0:Int),(0:Int),false)).2∧x.length≤(256:Nat)∧spotIn x ((spotsF x).1.getD x_1.2.toNat ((0:Int),(0:Int),(0:Int),(0:Int),false))∧x_1.1.length=x.length+(1:Nat)∧x_2.1=setRun x_1.1 ((spotsF x).1.getD x_1.2.toNat ((0:Int),(0:Int),(0:Int),(0:Int),false)).1.toNat ((spotsF x).1.getD x_1.2.toNat ((0:Int),(0:Int),(0:Int),(0:Int),false)).2.2.2.2 x_2.2.toNat→(decide (x_2.2<headLong ((spotsF x).1.getD x_1.2.toNat ((0:Int),(0:Int),(0:Int),(0:Int),false)).2)=true→InR IntKind.i64 (((spotsF x).1.getD x_1.2.toNat ((0:Int),(0:Int),(0:Int),(0:Int),false)).1+x_2.2)∧(0:Int)≤((spotsF x).1.getD x_1.2.toNat ((0:Int),(0:Int),(0:Int),(0:Int),false)).1+x_2.2∧((spotsF x).1.getD x_1.2.toNat ((0:Int),(0:Int),(0:Int),(0:Int),false)).1+x_2.2<(↑x_2.1.length:Int)∧(((spotsF x).1.getD x_1.2.toNat ((0:Int),(0:Int),(0:Int),(0:Int),false)).1+x_2.2).toNat<x_2.1.length∧InR IntKind.i64 (x_2.2+(1:Int))∧((0:Int)≤x_2.2+(1:Int)∧x_2.2+(1:Int)≤headLong ((spotsF x).1.getD x_1.2.toNat ((0:Int),(0:Int),(0:Int),(0:Int),false)).2∧headLong ((spotsF x).1.getD x_1.2.toNat ((0:Int),(0:Int),(0:Int),(0:Int),false)).2=headLong ((spotsF x).1.getD x_1.2.toNat ((0:Int),(0:Int),(0:Int),(0:Int),false)).2∧x.length≤(256:Nat)∧spotIn x ((spotsF x).1.getD x_1.2.toNat ((0:Int),(0:Int),(0:Int),(0:Int),false))∧x_1.1.length=x.length+(1:Nat)∧x_2.1.set (((spotsF x).1.getD x_1.2.toNat ((0:Int),(0:Int),(0:Int),(0:Int),false)).1+x_2.2).toNat ((spotsF x).1.getD x_1.2.toNat ((0:Int),(0:Int),(0:Int),(0:Int),false)).2.2.2.2=setRun x_1.1 ((spotsF x).1.getD x_1.2.toNat ((0:Int),(0:Int),(0:Int),(0:Int),false)).1.toNat ((spotsF x).1.getD x_1.2.toNat ((0:Int),(0:Int),(0:Int),(0:Int),false)).2.2.2.2 (x_2.2+(1:Int)).toNat)∧(headLong ((spotsF x).1.getD x_1.2.toNat ((0:Int),(0:Int),(0:Int),(0:Int),false)).2 - (x_2.2+(1:Int))).toNat<(headLong ((spotsF x).1.getD x_1.2.toNat ((0:Int),(0:Int),(0:Int),(0:Int),false)).2 - x_2.2).toNat)∧(decide (x_2.2<headLong ((spotsF x).1.getD x_1.2.toNat ((0:Int),(0:Int),(0:Int),(0:Int),false)).2)=false→InR IntKind.i64 (x_1.2+(1:Int))∧((0:Int)≤x_1.2+(1:Int)∧x_1.2+(1:Int)≤(↑(spotsF x).1.length:Int)∧(spotsF x).1.length≤(256:Nat)∧x.length≤(256:Nat)∧(∀ (s:Spot),s∈(spotsF x).1→spotIn x s)∧x_2.1.length=x.length+(1:Nat)∧flagsL x_2.1 (List.drop (x_1.2+(1:Int)).toNat (spotsF x).1)=flagsL (List.replicate (x.length+(1:Nat)) false) (spotsF x).1)∧((↑(spotsF x).1.length:Int) - (x_1.2+(1:Int))).toNat<((↑(spotsF x).1.length:Int) - x_1.2).toNat))∧(decide (x_1.2<(↑(spotsF x).1.length:Int))=false→((0:Int)≤(↑x.length:Int)∧(↑x.length:Int)≤(300:Int)∧∀ (i:Int),(0:Int)≤i→i<(↑x.length:Int)→(fun (x:Int)=>(0:Int)≤x∧x<(↑x_1.1.length:Int),fun (x:Int)=>x_1.1.getD x.toNat false).1 i)∧runsGo (fun (x:Int)=>x_1.1.getD x.toNat false) (↑x.length:Int).toNat (0:Int) ([]:List Gap)=gapsOfL x∧True)
theorem vcp_rGapsOf:pv_rGapsOf:=by
 unfold pv_rGapsOf
 intro a _ hal
 have hlen:=spotsF_length a
 have hin:=spotsF_in2 a
 have hF:gapsOfL a=runsGo (fun k=>(flagsL (List.replicate (a.length+1) false) (spotsF a).1).getD k.toNat false) a.length 0 []:=rfl
 rw [hF]
 generalize (spotsF a).1=l at *
 have ea:((a.length:Int)+1).toNat=a.length+1:=by omega
 rw [ea]
 unfold big
 simp only [InR]
 refine ⟨trivial,by omega,by omega,by omega,⟨by omega,by omega,hlen,hal,fun s hs=>(hin s hs).2.1,by simp,by simp⟩,fun ⟨fr,i⟩ ⟨h0,h1,_,_,_,h2,h3⟩=>⟨fun hlt=>?_,fun hge=>?_⟩⟩
 ·have hlt:i<(l.length:Int):=of_decide_eq_true hlt
  simp only at h0 h1 h2 h3 ⊢
  rw [drop_cons ((0,0,0,0,false):Spot) h0 hlt] at h3
  simp only [flagsL] at h3
  obtain ⟨_,hs,hf⟩:=hin _ (getD_mem ((0,0,0,0,false):Spot) h0 hlt)
  generalize l.getD i.toNat (0,0,0,0,false)=s at *
  have hz:=headFault_zero hf
  have hL:headLong s.2=1+s.2.1+s.2.2.1:=rfl
  have hs':=hs
  unfold spotIn at hs'
  generalize hLg:headLong s.2=L at *
  refine ⟨h0,hlt,by omega,⟨by omega,by omega⟩,⟨by omega,by omega,trivial,hal,hs,h2,rfl⟩,fun ⟨fr2,k⟩ ⟨k0,k1,_,_,_,_,k2⟩=>⟨fun hk=>?_,fun hk=>?_⟩⟩
  ·have hk:k<L:=of_decide_eq_true hk
   simp only at k0 k1 k2 ⊢
   have hl2:fr2.length=a.length+1:=by rw [k2,setRun_length,h2]
   refine ⟨by omega,by omega,by omega,by omega,by omega,⟨by omega,by omega,trivial,hal,hs,h2,?_⟩,by omega⟩
   rw [show (k+1).toNat=k.toNat+1 by omega,k2]
   simp only [setRun]
   congr 1
   omega
  ·have hk:¬ k<L:=of_decide_eq_false hk
   simp only at k0 k1 k2 ⊢
   have hkL:k=L:=by omega
   refine ⟨by omega,⟨by omega,by omega,hlen,hal,fun s hs=>(hin s hs).2.1,by rw [k2,setRun_length,h2],?_⟩,by omega⟩
   rw [k2,hkL]
   exact h3
 ·simp only at h2 h3 ⊢
  rw [drop_end (of_decide_eq_false hge)] at h3
  simp only [flagsL] at h3
  rw [h3]
  refine ⟨⟨by omega,by omega,fun i h4 h5=>?_⟩,?_,trivial⟩
  ·rw [← h3,h2]
   omega
  ·congr 1
theorem e_rGapsOf:pv_rGapsOf=(fnVC Tryz.prog (tbl [(47,sp_rSpots),(42,sp_rHeadLong),(49,sp_rFree),(48,sp_rRuns)]) an_rGapsOf Tryz.f14 sp_rGapsOf):=by kernel_rfl
theorem vc_rGapsOf:fnVC Tryz.prog (tbl [(47,sp_rSpots),(42,sp_rHeadLong),(49,sp_rFree),(48,sp_rRuns)]) an_rGapsOf Tryz.f14 sp_rGapsOf:=@Eq.mp _ _ @e_rGapsOf @vcp_rGapsOf
theorem ok_rGapsOf:sp_rGapsOf.ok Tryz.prog 14:=fn_sound (P:=Tryz.prog) (ss:=tbl [(47,sp_rSpots),(42,sp_rHeadLong),(49,sp_rFree),(48,sp_rRuns)]) (ann:=an_rGapsOf) (f:=14) (fn:=Tryz.f14) (s:=sp_rGapsOf) (tbl_cons ok_rSpots (tbl_cons ok_rHeadLong (tbl_cons ok_rFree (tbl_cons ok_rRuns tbl_nil)))) Tryz.func14 @vc_rGapsOf
def an_rEmptied:Nat→Option LoopGen
 | 3=>some { rd:=[.dat 0 (.arr ty_W),.dat 1 ty_I,.dat 11 ty_I],wr:=[7],A:=fun ((a,at_,n):List Int×Int×Int)=>{ cs:=[.own 7 50 ty_W,.dat 12 ty_I],inv:=fun ((out,k):List Int×Int)=>0≤k∧k≤n∧layPre a at_ n∧out=fillL a at_ n 0 k,mu:=fun ((_,k):List Int×Int)=>(n - k).toNat } }
 | _=>none
def sp_rEmptied:Spec:={ Ts:=[.arr ty_W,ty_I,ty_I],Rs:=[.own 50 ty_W],pre:=fun ((a,at_,n):List Int×Int×Int)=>layPre a at_ n,F:=fun ((a,at_,n):List Int×Int×Int)=>emptiedL a at_ n }
def pv_rEmptied:Prop :=
  ∀ (x:List Int×Int×Int),(x.1.length * (8:Nat)≤big∧∀ (x_1:Int),x_1∈x.1→InR IntKind.u64 x_1)∧InR IntKind.i64 x.2.1∧InR IntKind.i64 x.2.2→layPre x.1 x.2.1 x.2.2→True∧((0:Int)≤(0:Int)∧(0:Int)≤x.2.2∧layPre x.1 x.2.1 x.2.2∧x.1=fillL x.1 x.2.1 x.2.2 (0:Int) (0:Int))∧∀ (x_1:List Int×Int),(0:Int)≤x_1.2∧x_1.2≤x.2.2∧layPre x.1 x.2.1 x.2.2∧x_1.1=fillL x.1 x.2.1 x.2.2 (0:Int) x_1.2→(decide (x_1.2<x.2.2)=true→InR IntKind.i64 (x.2.1+x_1.2)∧(0:Int)≤x.2.1+x_1.2∧x.2.1+x_1.2<(↑x_1.1.length:Int)∧(x.2.1+x_1.2).toNat<x_1.1.length∧InR IntKind.i64 (x_1.2+(1:Int))∧((0:Int)≤x_1.2+(1:Int)∧x_1.2+(1:Int)≤x.2.2∧layPre x.1 x.2.1 x.2.2∧x_1.1.set (x.2.1+x_1.2).toNat (0:Int)=fillL x.1 x.2.1 x.2.2 (0:Int) (x_1.2+(1:Int)))∧(x.2.2 - (x_1.2+(1:Int))).toNat<(x.2.2 - x_1.2).toNat)∧(decide (x_1.2<x.2.2)=false→(decide ((0:Int)<x.2.2)=true→((1:Int)≤x.2.2∧x.2.2≤(256:Int))∧(0:Int)≤x.2.1∧x.2.1<(↑x_1.1.length:Int)∧x.2.1.toNat<x_1.1.length∧x_1.1.set x.2.1.toNat (headWord ((0:Int),x.2.2 - (1:Int),(0:Int),true))=emptiedL x.1 x.2.1 x.2.2∧True)∧(decide ((0:Int)<x.2.2)=false→x_1.1=emptiedL x.1 x.2.1 x.2.2∧True))
theorem vcp_rEmptied:pv_rEmptied:=by
 unfold pv_rEmptied
 intro ⟨a,at_,n⟩ _ hp
 have hp':=hp
 obtain ⟨p1,p2,p3,p4⟩:=hp'
 simp only at p1 p2 p3 p4 hp ⊢
 simp only [InR]
 refine ⟨trivial,⟨by omega,p2,hp,(fillL_zero _ _ _ _).symm⟩,fun ⟨out,k⟩ ⟨k0,k1,_,k2⟩=>⟨fun hk=>?_,fun hk=>?_⟩⟩
 ·have hk:k<n:=of_decide_eq_true hk
  simp only at k0 k1 k2 ⊢
  have hl:=fillL_length a at_ n 0 k p1 p3 k0 k1
  rw [← k2] at hl
  refine ⟨by omega,by omega,by omega,by omega,by omega,⟨by omega,by omega,hp,?_⟩,by omega⟩
  rw [k2]
  exact fillL_step a at_ n 0 k p1 p3 k0 hk
 ·have hk:¬ k<n:=of_decide_eq_false hk
  simp only at k0 k1 k2 ⊢
  have hkn:k=n:=by omega
  have hl:=fillL_length a at_ n 0 k p1 p3 k0 k1
  rw [← k2] at hl
  refine ⟨fun hc=>?_,fun hc=>?_⟩
  ·have hc:0<n:=of_decide_eq_true hc
   unfold emptiedL
   rw [if_pos hc,k2,hkn]
   rw [k2,hkn] at hl
   exact ⟨⟨by omega,by omega⟩,p1,by omega,by omega,rfl,trivial⟩
  ·have hc:¬ 0<n:=of_decide_eq_false hc
   unfold emptiedL
   rw [if_neg hc,k2,show k=0 by omega,fillL_zero]
   exact ⟨rfl,trivial⟩
theorem e_rEmptied:pv_rEmptied=(fnVC Tryz.prog (tbl [(86,sp_refClone),(89,sp_rFreeHead)]) an_rEmptied Tryz.f107 sp_rEmptied):=by kernel_rfl
theorem vc_rEmptied:fnVC Tryz.prog (tbl [(86,sp_refClone),(89,sp_rFreeHead)]) an_rEmptied Tryz.f107 sp_rEmptied:=@Eq.mp _ _ @e_rEmptied @vcp_rEmptied
theorem ok_rEmptied:sp_rEmptied.ok Tryz.prog 107:=fn_sound (P:=Tryz.prog) (ss:=tbl [(86,sp_refClone),(89,sp_rFreeHead)]) (ann:=an_rEmptied) (f:=107) (fn:=Tryz.f107) (s:=sp_rEmptied) (tbl_cons ok_refClone (tbl_cons ok_rFreeHead tbl_nil)) Tryz.func107 @vc_rEmptied
end Go.Proofs.YtglchojglcobjaaGreat
