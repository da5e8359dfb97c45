import Derived.Test.YtmfileeamnfpaaaGreatDoorM2
import Derived.Lib.SplitLaws
import Derived.Lib.AtoiAll
import Derived.Lib.ItoaNum
import Derived.WalkKit
import Derived.Lib.ItoaLen
import Derived.Shelf.Strings.Split
import Derived.Shelf.Strings.SplitCore
import Derived.Shelf.Strings.Search3
import Derived.Shelf.Strconv.Itoa3
import Derived.Shelf.Strconv.AtoiAll
namespace Go.Proofs.YtmfileeamnfpaaaGreatDoor
section
open Go
set_option maxRecDepth 100000
set_option maxHeartbeats 1000000
def zP:Nat->Option LoopGen
 | 5000004=>some { rd:=[.box 1 aN],A:=fun (s:ak)=>{ cs:=[.own 9 3 ty_I,.own 10 3 ty_I],inv:=fun ((ra,ha):List Int×List Int)=>ra=List.replicate s.1.length 0/\ha=List.replicate 256 0,mu:=fun _=>0 } }
 | 6=>some { wr:=[9,10],rd:=[.box 1 aN],A:=fun (s:ak)=>{ cs:=[.own 9 3 ty_I,.own 10 3 ty_I,.dat 42 ty_I],inv:=fun ((ra,ha,i):List Int×List Int×Int)=>0<=i/\i<=(ai s).length/\ra=bQ (List.replicate s.1.length 0) ((ai s).take i.toNat) (kT s)/\ha=bQ (List.replicate 256 0) ((ai s).take i.toNat) (kT s),mu:=fun ((_,_,i):List Int×List Int×Int)=>((ai s).length - i).toNat } }
 | 15=>some { rd:=[.own 86 105 ji],A:=fun (g:List cS)=>{ cs:=[.dat 13 ty_I,.dat 88 ty_I],inv:=fun ((n,i):Int×Int)=>0<=i/\i<=g.length/\g.length<=256/\(∀ r∈g,0<=r.2/\r.2<=256)/\n=dF (g.take i.toNat)/\0<=n/\n<=256 * i,mu:=fun ((_,i):Int×Int)=>(g.length - i).toNat } }
 | _=>none
def yf:Spec:={ Ts:=[aN],Rs:=[.dat aN,.dat ty_I],al:=true,pre:=fun (s:ak)=>az s=0,F:=dj }
def oN:Prop :=
  ∀ (x:List Int×List Int×List (Int×Int)×List (Int×Bool×Int)),((x.1.length * 8<=ax/\∀ (x_1:Int),x_1∈x.1->ah .u64 x_1)/\(x.2.1.length * 8<=ax/\∀ (x_1:Int),x_1∈x.2.1->ah .i64 x_1)/\(x.2.2.1.length * (8+8)<=ax/\∀ (x_1:Int×Int),x_1∈x.2.2.1->ah .i64 x_1.1/\ah .i64 x_1.2)/\x.2.2.2.length * (8+(8+8))<=ax/\∀ (x_1:Int×Bool×Int),x_1∈x.2.2.2->ah .i64 x_1.1/\True/\ah .i64 x_1.2.2)->az x=0->(x.2.1.length<=32/\x.2.2.1.length<=16/\x.2.2.2.length<=16)/\True/\((ai x).length+(List.map (fun (x:bn)=>x.1) x.2.2.1).length) * 8<=140737488355328/\True/\((((0<=(x.1.length:Int)/\(x.1.length:Int).toNat * 8<=ax/\((0:Int)<=256/\Int.toNat 256 * 8<=ax/\((List.replicate (x.1.length:Int).toNat (0:Int)=List.replicate x.1.length (0:Int)/\List.replicate (Int.toNat 256) (0:Int)=List.replicate 256 (0:Int))/\True)/\True)/\(((0:Int)<=256/\Int.toNat 256 * 8<=ax/\(List.replicate (x.1.length:Int).toNat (0:Int)=List.replicate x.1.length (0:Int)/\List.replicate (Int.toNat 256) (0:Int)=List.replicate 256 (0:Int))/\True)/\True)/\True)/\((0:Int)<=256/\Int.toNat 256 * 8<=ax/\(0<=(x.1.length:Int)/\(x.1.length:Int).toNat * 8<=ax/\((List.replicate (x.1.length:Int).toNat (0:Int)=List.replicate x.1.length (0:Int)/\List.replicate (Int.toNat 256) (0:Int)=List.replicate 256 (0:Int))/\True)/\True)/\True)/\True)/\((0:Int)<=256/\Int.toNat 256 * 8<=ax/\((0<=(x.1.length:Int)/\(x.1.length:Int).toNat * 8<=ax/\((List.replicate (x.1.length:Int).toNat (0:Int)=List.replicate x.1.length (0:Int)/\List.replicate (Int.toNat 256) (0:Int)=List.replicate 256 (0:Int))/\True)/\True)/\True)/\True)/\True)/\((0:Int)<=256/\Int.toNat 256 * 8<=ax/\(((0<=(x.1.length:Int)/\(x.1.length:Int).toNat * 8<=ax/\((List.replicate (x.1.length:Int).toNat (0:Int)=List.replicate x.1.length (0:Int)/\List.replicate (Int.toNat 256) (0:Int)=List.replicate 256 (0:Int))/\True)/\True)/\True)/\True)/\True)/\True)/\∀ (x_1:List Int×List Int),x_1.1=List.replicate x.1.length (0:Int)/\x_1.2=List.replicate 256 (0:Int)->((0:Int)<=0/\0<=(↑(ai x).length:Int)/\x_1.1=bQ (List.replicate x.1.length (0:Int)) (List.take (Int.toNat 0) (ai x)) (kT x)/\x_1.2=bQ (List.replicate 256 (0:Int)) (List.take (Int.toNat 0) (ai x)) (kT x))/\∀ (x_2:List Int×List Int×Int),0<=x_2.2.2/\x_2.2.2<=(↑(ai x).length:Int)/\x_2.1=bQ (List.replicate x.1.length (0:Int)) (List.take x_2.2.2.toNat (ai x)) (kT x)/\x_2.2.1=bQ (List.replicate 256 (0:Int)) (List.take x_2.2.2.toNat (ai x)) (kT x)->(decide (x_2.2.2<(↑(ai x).length:Int))=true->0<=x_2.2.2/\x_2.2.2<(↑(ai x).length:Int)/\x_2.2.2.toNat<(ai x).length/\0<=x_2.2.2/\x_2.2.2<(↑(aq x.1 (ai x) (List.map (fun (x:bn)=>x.1) x.2.2.1)).2.1.length:Int)/\0<=x_2.2.2/\x_2.2.2<(↑(aq x.1 (ai x) (List.map (fun (x:bn)=>x.1) x.2.2.1)).2.1.length:Int)/\0<=(ai x).getD x_2.2.2.toNat 0/\(ai x).getD x_2.2.2.toNat 0<(x_2.1.length:Int)/\((ai x).getD x_2.2.2.toNat 0).toNat<x_2.1.length/\(ai x).getD x_2.2.2.toNat 0=(ai x).getD x_2.2.2.toNat 0/\0<=(ai x).getD x_2.2.2.toNat 0/\(ai x).getD x_2.2.2.toNat 0<(x_2.2.1.length:Int)/\((ai x).getD x_2.2.2.toNat 0).toNat<x_2.2.1.length/\ah .i64 (x_2.2.2+1)/\(0<=x_2.2.2+1/\x_2.2.2+1<=(↑(ai x).length:Int)/\x_2.1.set ((ai x).getD x_2.2.2.toNat 0).toNat ((aq x.1 (ai x) (List.map (fun (x:bn)=>x.1) x.2.2.1)).2.1.getD x_2.2.2.toNat 0)=bQ (List.replicate x.1.length (0:Int)) (List.take (x_2.2.2+1).toNat (ai x)) (kT x)/\x_2.2.1.set ((ai x).getD x_2.2.2.toNat 0).toNat ((aq x.1 (ai x) (List.map (fun (x:bn)=>x.1) x.2.2.1)).2.1.getD x_2.2.2.toNat 0)=bQ (List.replicate 256 (0:Int)) (List.take (x_2.2.2+1).toNat (ai x)) (kT x))/\((↑(ai x).length:Int) - (x_2.2.2+1)).toNat<((↑(ai x).length:Int) - x_2.2.2).toNat)/\(decide (x_2.2.2<(↑(ai x).length:Int))=false->True/\True/\True/\((0:Int)<=0/\0<=(↑(an (aq x.1 (ai x) (List.map (fun (x:bn)=>x.1) x.2.2.1)).1).1.length:Int)/\(an (aq x.1 (ai x) (List.map (fun (x:bn)=>x.1) x.2.2.1)).1).1.length<=256/\(∀ (r:cS),r∈(an (aq x.1 (ai x) (List.map (fun (x:bn)=>x.1) x.2.2.1)).1).1->0<=r.2/\r.2<=256)/\0=dF (List.take (Int.toNat 0) (an (aq x.1 (ai x) (List.map (fun (x:bn)=>x.1) x.2.2.1)).1).1)/\(0:Int)<=0/\(0:Int)<=256 * 0)/\∀ (x_3:Int×Int),0<=x_3.2/\x_3.2<=(↑(an (aq x.1 (ai x) (List.map (fun (x:bn)=>x.1) x.2.2.1)).1).1.length:Int)/\(an (aq x.1 (ai x) (List.map (fun (x:bn)=>x.1) x.2.2.1)).1).1.length<=256/\(∀ (r:cS),r∈(an (aq x.1 (ai x) (List.map (fun (x:bn)=>x.1) x.2.2.1)).1).1->0<=r.2/\r.2<=256)/\x_3.1=dF (List.take x_3.2.toNat (an (aq x.1 (ai x) (List.map (fun (x:bn)=>x.1) x.2.2.1)).1).1)/\0<=x_3.1/\x_3.1<=256 * x_3.2->(decide (x_3.2<(↑(an (aq x.1 (ai x) (List.map (fun (x:bn)=>x.1) x.2.2.1)).1).1.length:Int))=true->0<=x_3.2/\x_3.2<(↑(an (aq x.1 (ai x) (List.map (fun (x:bn)=>x.1) x.2.2.1)).1).1.length:Int)/\x_3.2.toNat<(an (aq x.1 (ai x) (List.map (fun (x:bn)=>x.1) x.2.2.1)).1).1.length/\ah .i64 (x_3.1+((an (aq x.1 (ai x) (List.map (fun (x:bn)=>x.1) x.2.2.1)).1).1.getD x_3.2.toNat (0,0)).2)/\ah .i64 (x_3.2+1)/\(0<=x_3.2+1/\x_3.2+1<=(↑(an (aq x.1 (ai x) (List.map (fun (x:bn)=>x.1) x.2.2.1)).1).1.length:Int)/\(an (aq x.1 (ai x) (List.map (fun (x:bn)=>x.1) x.2.2.1)).1).1.length<=256/\(∀ (r:cS),r∈(an (aq x.1 (ai x) (List.map (fun (x:bn)=>x.1) x.2.2.1)).1).1->0<=r.2/\r.2<=256)/\x_3.1+((an (aq x.1 (ai x) (List.map (fun (x:bn)=>x.1) x.2.2.1)).1).1.getD x_3.2.toNat (0,0)).2=dF (List.take (x_3.2+1).toNat (an (aq x.1 (ai x) (List.map (fun (x:bn)=>x.1) x.2.2.1)).1).1)/\0<=x_3.1+((an (aq x.1 (ai x) (List.map (fun (x:bn)=>x.1) x.2.2.1)).1).1.getD x_3.2.toNat (0,0)).2/\x_3.1+((an (aq x.1 (ai x) (List.map (fun (x:bn)=>x.1) x.2.2.1)).1).1.getD x_3.2.toNat (0,0)).2<=256 * (x_3.2+1))/\((↑(an (aq x.1 (ai x) (List.map (fun (x:bn)=>x.1) x.2.2.1)).1).1.length:Int) - (x_3.2+1)).toNat<((↑(an (aq x.1 (ai x) (List.map (fun (x:bn)=>x.1) x.2.2.1)).1).1.length:Int) - x_3.2).toNat)/\(decide (x_3.2<(↑(an (aq x.1 (ai x) (List.map (fun (x:bn)=>x.1) x.2.2.1)).1).1.length:Int))=false->((aq x.1 (ai x) (List.map (fun (x:bn)=>x.1) x.2.2.1)).1,(bg x.2.1 (x.1.length:Int) x_2.1).1,x.2.2.1,(fT x.2.2.2 x_2.2.1).1)=(dj x).1/\x_3.1=(dj x).2/\True))
theorem vd:oN:=by
 unfold oN;intro s ⟨⟨hb,hw⟩,_⟩ hs;have R:=iv hw hs;have hcl:aq s.1 (ai s) (List.map (fun (x:bn)=>x.1) s.2.2.1)=(dz s,(ai s).map (kT s),0):=R.clean;obtain ⟨hgf,hgi,hgl⟩:=R.gaps;have hfl:=R.fromLen;have hsm:=R.small;have hal:=R.al;have hF:dj s=(jZ s,dF (aM false [] (ac (dz s)).1)):=rfl;have hfm:=fun x=>gB (s:=s) R.root (x:=x)
 have hsr:=R.swapRoots;have hsh:=R.swapHands;rw [hF,hcl];simp only;rw [hgf];simp only;generalize aM false [] (ac (dz s)).1=g at *;unfold ax at hb ⊢;refine ⟨hsm,trivial,by rw [List.length_map]; omega,trivial,?_,fun ⟨ra,ha⟩ ⟨q1,q2⟩=>?_⟩
 ·have e1:((s.1.length:Int)).toNat=s.1.length:=by omega
  have e2:Int.toNat 256=256:=rfl;have e3:(0:Int)<=(s.1.length:Int):=by omega
  simp only [e1,e2,e3,hb,true_and,and_true];omega
 simp only at q1 q2;subst q1 q2;refine ⟨⟨by omega,by omega,by simp [bQ],by simp [bQ]⟩,fun ⟨ra,ha,i⟩ ⟨i0,i1,i2,i3⟩=>⟨fun hlt=>?_,fun hge=>?_⟩⟩
 ·simp only at i0 i1 i2 i3 hlt ⊢;have hlt:=of_decide_eq_true hlt;have ht:=bB (0:Int) i0 hlt;have hx:=R.nameIn ((hfm _).1 (aJ (0:Int) i0 hlt));have hm:(List.map (kT s) (ai s)).getD i.toNat 0=kT s ((ai s).getD i.toNat 0):=B7 i0 hlt;have l1:ra.length=s.1.length:=by rw [i2,d6,List.length_replicate]
  have l2:ha.length=256:=by rw [i3,d6,List.length_replicate]
  rw [hm,ht,jH,jH,<- i2,<- i3,l1,l2,List.length_map];generalize (ai s).getD i.toNat 0=x at *;simp only [ah];exact ⟨i0,hlt,by omega,i0,hlt,i0,hlt,hx.1,hx.2,by omega,by first | trivial | rfl,hx.1,by omega,by omega,by omega,⟨by omega,by omega,by trivial,by trivial⟩,by omega⟩
 ·simp only at i0 i1 i2 i3 hge ⊢;have hge:=of_decide_eq_false hge;rw [cA hge] at i2 i3;refine ⟨trivial,trivial,trivial,⟨by omega,by omega,hgl,fun r hr=>by have:=hgi r hr; omega,by trivial,by omega,by omega⟩,fun ⟨n,j⟩ ⟨j0,j1,_,_,j2,j3,j4⟩=>⟨fun hlt=>?_,fun hge=>?_⟩⟩
  ·simp only at j0 j1 j2 j3 j4 hlt ⊢;have hlt:=of_decide_eq_true hlt;have hm:=hgi _ (aJ ((0,0):cS) j0 hlt);rw [wm j0 hlt,<- j2];generalize (g.getD j.toNat (0,0)).2=y at *;simp only [ah];exact ⟨j0,hlt,by omega,by omega,by omega,⟨by omega,by omega,hgl,fun r hr=>by have:=hgi r hr; omega,by trivial,by omega,by omega⟩,by omega⟩
  ·simp only at j0 j1 j2 hge ⊢;rw [cA (of_decide_eq_false hge)] at j2;rw [i2,i3,hsr,hsh];exact ⟨rfl,j2,trivial⟩
theorem yL:yf.ok Tryz.prog 85:=aD (ann:=zP) (ae qh (ae jM (ae B2 (ae bZ (ae rE (ae rI (ae jO ap))))))) Tryz.func85 (by kernel_rfl) vd
def bx (s:ak):ak×Int×Int:=if az s≠0 then (aA,0,az s) else ((dj s).1,(dj s).2,0)
def vz:Spec:={ Ts:=[aN],Rs:=[.dat aN,.dat ty_I,.dat ty_I],al:=true,pre:=fun _=>True,F:=bx }
def na:Prop :=
  ∀ (x:List Int×List Int×List (Int×Int)×List (Int×Bool×Int)),((x.1.length * 8<=ax/\∀ (x_1:Int),x_1∈x.1->ah .u64 x_1)/\(x.2.1.length * 8<=ax/\∀ (x_1:Int),x_1∈x.2.1->ah .i64 x_1)/\(x.2.2.1.length * (8+8)<=ax/\∀ (x_1:Int×Int),x_1∈x.2.2.1->ah .i64 x_1.1/\ah .i64 x_1.2)/\x.2.2.2.length * (8+(8+8))<=ax/\∀ (x_1:Int×Bool×Int),x_1∈x.2.2.2->ah .i64 x_1.1/\True/\ah .i64 x_1.2.2)->True->True/\(decide (az x≠0)=true->(([]:List Int),([]:List Int),([]:List (Int×Int)),([]:List (Int×Bool×Int)))=(bx x).1/\0=(bx x).2.1/\az x=(bx x).2.2/\True)/\(decide (az x≠0)=false->az x=0/\(dj x).1=(bx x).1/\(dj x).2=(bx x).2.1/\0=(bx x).2.2/\True)
theorem sK:na:=by
 unfold na;intro s hx hs;refine ⟨trivial,fun h=>?_,fun h=>?_⟩
 ·unfold bx;rw [if_pos (of_decide_eq_true h)];exact ⟨by trivial,by trivial,by trivial,trivial⟩
 ·have h:=of_decide_eq_false h;unfold bx;rw [if_neg h];exact ⟨by omega,rfl,rfl,rfl,trivial⟩
theorem nh:vz.ok Tryz.prog 60:=aD (ann:=co) (ae gg (ae yL ap)) Tryz.func60 (by kernel_rfl) sK
def bo (s:ak) (k:Int):Int:=if az s≠0 then az s else if k<0\/(s.2.1.length:Int)<=k\/s.2.1.getD k.toNat 0<0 then 5 else 0
def ay (s:ak) (k:Int):Int:=s.2.1.getD k.toNat 0
def aW (s:ak) (k:Int):Int×Obj×Int:=if bo s k≠0 then (0,ig,bo s k) else (ay s k,(gU s.1 (ay s k)).1,0)
def CO:Nat->Option LoopGen
 | 4000006=>some eE
 | _=>none
def AE:Spec:={ Ts:=[aN,ty_I],Rs:=[.dat ty_I,.dat Du,.dat ty_I],al:=true,pre:=fun _=>True,F:=fun ((s,k):ak×Int)=>aW s k }
def qZ:Prop :=
  ∀ (x:(List Int×List Int×List (Int×Int)×List (Int×Bool×Int))×Int),(fun (v0:type_of% (gU x.1.1 (x.1.2.1.getD x.2.toNat 0)))=>((x.1.1.length * 8<=ax/\∀ (x_1:Int),x_1∈x.1.1->ah .u64 x_1)/\(x.1.2.1.length * 8<=ax/\∀ (x_1:Int),x_1∈x.1.2.1->ah .i64 x_1)/\(x.1.2.2.1.length * (8+8)<=ax/\∀ (x_1:Int×Int),x_1∈x.1.2.2.1->ah .i64 x_1.1/\ah .i64 x_1.2)/\x.1.2.2.2.length * (8+(8+8))<=ax/\∀ (x_1:Int×Bool×Int),x_1∈x.1.2.2.2->ah .i64 x_1.1/\True/\ah .i64 x_1.2.2)/\ah .i64 x.2->True->True/\(decide (az x.1≠0)=true->0=(aW x.1 x.2).1/\(0,([]:List Int),([]:List Int),false)=(aW x.1 x.2).2.1/\az x.1=(aW x.1 x.2).2.2/\True)/\(decide (az x.1≠0)=false->((decide (x.2<0)||decide ((x.1.2.1.length:Int)<=x.2))=false->0<=x.2)/\((decide (x.2<0)||decide ((x.1.2.1.length:Int)<=x.2))=false->x.2<(x.1.2.1.length:Int))/\((decide (x.2<0)||decide ((x.1.2.1.length:Int)<=x.2)||decide (x.1.2.1.getD x.2.toNat (0:Int)<0))=true->0=(aW x.1 x.2).1/\(0,([]:List Int),([]:List Int),false)=(aW x.1 x.2).2.1/\5=(aW x.1 x.2).2.2/\True)/\((decide (x.2<0)||decide ((x.1.2.1.length:Int)<=x.2)||decide (x.1.2.1.getD x.2.toNat (0:Int)<0))=false->0<=x.2/\x.2<(x.1.2.1.length:Int)/\True/\x.1.1=x.1.1/\x.1.2.1=x.1.2.1/\x.2=x.2/\0<=x.2/\x.2<(x.1.2.1.length:Int)/\x.1.2.1.getD x.2.toNat 0=x.1.2.1.getD x.2.toNat 0/\x.1.2.1.getD x.2.toNat 0=x.1.2.1.getD x.2.toNat 0/\True/\v0.1.1=v0.1.1/\v0.1.2.1=v0.1.2.1/\v0.1.2.2.1=v0.1.2.2.1/\v0.1.2.2.2=v0.1.2.2.2/\v0.2=v0.2/\v0.1.1=v0.1.1/\v0.1.2.1=v0.1.2.1/\v0.1.2.2.1=v0.1.2.2.1/\v0.1.2.2.2=v0.1.2.2.2/\v0.2=v0.2/\v0.1.1=v0.1.1/\v0.1.2.1=v0.1.2.1/\v0.1.2.2.1=v0.1.2.2.1/\v0.1.2.2.2=v0.1.2.2.2/\v0.2=v0.2/\v0.2=v0.2/\0<=x.2/\x.2<(x.1.2.1.length:Int)/\v0.1.1=v0.1.1/\v0.1.2.1=v0.1.2.1/\v0.1.2.2.1=v0.1.2.2.1/\v0.1.2.2.2=v0.1.2.2.2/\v0.2=v0.2/\v0.2=v0.2/\x.1.2.1.getD x.2.toNat 0=(aW x.1 x.2).1/\v0.1=(aW x.1 x.2).2.1/\v0.2=(aW x.1 x.2).2.2/\True))) (gU x.1.1 (x.1.2.1.getD x.2.toNat 0))
theorem xF:qZ:=by
 unfold qZ;intro ⟨s,k⟩ ⟨⟨⟨hb,hw⟩,_⟩,_⟩ _;simp only at hb hw ⊢;have hO:aW s k=if bo s k≠0 then (0,ig,bo s k) else (ay s k,(gU s.1 (ay s k)).1,0):=rfl
 have hE:bo s k=if az s≠0 then az s else if k<0\/(s.2.1.length:Int)<=k\/s.2.1.getD k.toNat 0<0 then 5 else 0:=rfl
 refine ⟨trivial,fun h=>?_,fun h=>⟨fun h1=>?_,fun h1=>?_,fun h1=>?_,fun h1=>?_⟩⟩
 ·rw [if_pos (of_decide_eq_true h)] at hE;rw [hO,hE,if_pos (of_decide_eq_true h)];exact ⟨by trivial,by trivial,by trivial,trivial⟩
 ·simp at h1; omega
 ·simp at h1; omega
 ·rw [if_neg (of_decide_eq_false h),if_pos (by simpa [or_assoc,and_assoc] using h1)] at hE;rw [hO,hE,if_pos (by omega)];exact ⟨by trivial,by trivial,by trivial,trivial⟩
 ·have hs:az s=0:=by simpa using of_decide_eq_false h
  have h1:¬ (k<0\/(s.2.1.length:Int)<=k\/s.2.1.getD k.toNat 0<0):=by simpa [or_assoc,and_assoc] using h1
  rw [if_neg (by omega),if_neg h1] at hE;have R:=iv hw hs;have O:=R.obj (R.rootNam (k:=k) (by omega) (by omega) (by omega));have hz:(gU s.1 (s.2.1.getD k.toNat 0)).2=0:=by rw [O.at_]
  rw [hO,hE,if_neg (by omega),hz];simp only [and_true,true_and,ay];omega
theorem jN:AE.ok Tryz.prog 139:=aD (ann:=CO) (ae gg (ae mP ap)) Tryz.func139 (by kernel_rfl) xF
theorem nJ {s:ak} {k:Int} (hw:∀ x∈s.1,ah .u64 x) (h:bo s k=0):Right s/\0<=k/\k<s.2.1.length/\ObjAt s (ay s k):=by
 unfold bo at h;split at h
 ·omega
 rename_i h0;split at h
 ·omega
 rename_i h1;have R:=iv hw (by omega:az s=0);exact ⟨R,by omega,by omega,R.obj (R.rootNam (k:=k) (by omega) (by omega) (by omega))⟩
def bv (s:ak) (slot k other:Int):Int:=if bo s slot≠0 then bo s slot else if k<0\/(eG s.1 (ay s slot)).1<=k then 4 else if other<0\/(s.2.1.length:Int)<=other then 5 else 0
def IH:Spec:={ Ts:=[aN,ty_I,ty_I,ty_I],Rs:=[.dat ty_I,.dat ty_I],pre:=fun _=>True,F:=fun ((s,slot,k,other):ak×Int×Int×Int)=>((if bv s slot k other≠0 then 0 else ay s slot+1+k,bv s slot k other):Int×Int) }
def Bo:Prop :=
  ∀ (x:(List Int×List Int×List (Int×Int)×List (Int×Bool×Int))×Int×Int×Int),((x.1.1.length * 8<=ax/\∀ (x_1:Int),x_1∈x.1.1->ah .u64 x_1)/\(x.1.2.1.length * 8<=ax/\∀ (x_1:Int),x_1∈x.1.2.1->ah .i64 x_1)/\(x.1.2.2.1.length * (8+8)<=ax/\∀ (x_1:Int×Int),x_1∈x.1.2.2.1->ah .i64 x_1.1/\ah .i64 x_1.2)/\x.1.2.2.2.length * (8+(8+8))<=ax/\∀ (x_1:Int×Bool×Int),x_1∈x.1.2.2.2->ah .i64 x_1.1/\True/\ah .i64 x_1.2.2)/\ah .i64 x.2.1/\ah .i64 x.2.2.1/\ah .i64 x.2.2.2->True->True/\(decide ((aW x.1 x.2.1).2.2≠0)=true->((0:Int)=if bv x.1 x.2.1 x.2.2.1 x.2.2.2≠0 then (0:Int) else ay x.1 x.2.1+1+x.2.2.1)/\(aW x.1 x.2.1).2.2=bv x.1 x.2.1 x.2.2.1 x.2.2.2/\True)/\(decide ((aW x.1 x.2.1).2.2≠0)=false->((decide (x.2.2.1<0)||decide ((↑(aW x.1 x.2.1).2.1.2.1.length:Int)<=x.2.2.1))=true->((0:Int)=if bv x.1 x.2.1 x.2.2.1 x.2.2.2≠0 then (0:Int) else ay x.1 x.2.1+1+x.2.2.1)/\4=bv x.1 x.2.1 x.2.2.1 x.2.2.2/\True)/\((decide (x.2.2.1<0)||decide ((↑(aW x.1 x.2.1).2.1.2.1.length:Int)<=x.2.2.1))=false->((decide (x.2.2.2<0)||decide ((x.1.2.1.length:Int)<=x.2.2.2))=true->((0:Int)=if bv x.1 x.2.1 x.2.2.1 x.2.2.2≠0 then (0:Int) else ay x.1 x.2.1+1+x.2.2.1)/\5=bv x.1 x.2.1 x.2.2.1 x.2.2.2/\True)/\((decide (x.2.2.2<0)||decide ((x.1.2.1.length:Int)<=x.2.2.2))=false->ah .i64 ((aW x.1 x.2.1).1+1)/\ah .i64 ((aW x.1 x.2.1).1+1+x.2.2.1)/\((aW x.1 x.2.1).1+1+x.2.2.1=if bv x.1 x.2.1 x.2.2.1 x.2.2.2≠0 then (0:Int) else ay x.1 x.2.1+1+x.2.2.1)/\0=bv x.1 x.2.1 x.2.2.1 x.2.2.2/\True)))
theorem Gc:Bo:=by
 unfold Bo;intro ⟨s,slot,k,other⟩ ⟨⟨⟨hb,hw⟩,_⟩,_⟩ _;simp only at hb hw ⊢;have hR:bv s slot k other=if bo s slot≠0 then bo s slot else if k<0\/(eG s.1 (ay s slot)).1<=k then 4 else if other<0\/(s.2.1.length:Int)<=other then 5 else 0:=rfl
 have hO:aW s slot=if bo s slot≠0 then (0,ig,bo s slot) else (ay s slot,(gU s.1 (ay s slot)).1,0):=rfl
 by_cases h0:bo s slot≠0
 ·rw [if_pos h0] at hR hO;rw [hO,hR];simp only;refine ⟨trivial,fun _=>?_,fun h=>absurd h0 (of_decide_eq_false h)⟩;rw [if_pos h0];exact ⟨by trivial,by trivial,trivial⟩
 ·obtain ⟨R,_,_,O⟩:=nJ hw (by omega:bo s slot=0);have hal:=R.al;rw [if_neg h0] at hR hO;rw [hO];simp only;rw [O.refs];have:=O.x0;have:=O.r0;have:=O.b0;have:=O.fit;refine ⟨trivial,fun h=>absurd rfl (of_decide_eq_true h),fun _=>⟨fun h1=>?_,fun h1=>⟨fun h2=>?_,fun h2=>?_⟩⟩⟩
  ·rw [if_pos (by simpa using h1)] at hR;rw [hR];exact ⟨by trivial,by trivial,trivial⟩
  ·have h1:¬ (k<0\/(eG s.1 (ay s slot)).1<=k):=by simpa using h1
   rw [if_neg h1,if_pos (by simpa using h2)] at hR;rw [hR];exact ⟨by trivial,by trivial,trivial⟩
  ·have h1:¬ (k<0\/(eG s.1 (ay s slot)).1<=k):=by simpa using h1
   have h2:¬ (other<0\/(s.2.1.length:Int)<=other):=by simpa using h2
   rw [if_neg h1,if_neg h2] at hR;rw [hR];simp only [ah];exact ⟨by omega,by omega,by simp,by trivial,trivial⟩
theorem BM:IH.ok Tryz.prog 137:=aD (ann:=co) (ae jN ap) Tryz.func137 (by kernel_rfl) Gc
theorem yE {s:ak} {slot k other:Int} (hw:∀ x∈s.1,ah .u64 x) (h:bv s slot k other=0):Right s/\ObjAt s (ay s slot)/\0<=k/\k<(eG s.1 (ay s slot)).1/\0<=other/\other<s.2.1.length:=by
 unfold bv at h;split at h
 ·omega
 rename_i h0;split at h
 ·omega
 split at h
 ·omega
 obtain ⟨R,_,_,O⟩:=nJ hw (by omega:bo s slot=0);exact ⟨R,O,by omega,by omega,by omega,by omega⟩
def fL:Nat->Option LoopGen
 | 3000083=>some eE
 | 8404000001=>some eE
 | _=>none
def kG (s:ak) (slot k into:Int):ak×Int:=if bv s slot k into≠0 then (aA,bv s slot k into) else ((s.1,s.2.1.set into.toNat (s.1.getD (ay s slot+1+k).toNat 0 - 1),s.2.2),0)
def GH:Spec:={ Ts:=[aN,ty_I,ty_I,ty_I],Rs:=[.dat aN,.dat ty_I],al:=true,pre:=fun _=>True,F:=fun ((s,slot,k,into):ak×Int×Int×Int)=>kG s slot k into }
def wE:Prop :=
  ∀ (x:(List Int×List Int×List (Int×Int)×List (Int×Bool×Int))×Int×Int×Int),((x.1.1.length * 8<=ax/\∀ (x_1:Int),x_1∈x.1.1->ah .u64 x_1)/\(x.1.2.1.length * 8<=ax/\∀ (x_1:Int),x_1∈x.1.2.1->ah .i64 x_1)/\(x.1.2.2.1.length * (8+8)<=ax/\∀ (x_1:Int×Int),x_1∈x.1.2.2.1->ah .i64 x_1.1/\ah .i64 x_1.2)/\x.1.2.2.2.length * (8+(8+8))<=ax/\∀ (x_1:Int×Bool×Int),x_1∈x.1.2.2.2->ah .i64 x_1.1/\True/\ah .i64 x_1.2.2)/\ah .i64 x.2.1/\ah .i64 x.2.2.1/\ah .i64 x.2.2.2->True->True/\(decide (bv x.1 x.2.1 x.2.2.1 x.2.2.2≠0)=true->(([]:List Int),([]:List Int),([]:List (Int×Int)),([]:List (Int×Bool×Int)))=(kG x.1 x.2.1 x.2.2.1 x.2.2.2).1/\bv x.1 x.2.1 x.2.2.1 x.2.2.2=(kG x.1 x.2.1 x.2.2.1 x.2.2.2).2/\True)/\(decide (bv x.1 x.2.1 x.2.2.1 x.2.2.2≠0)=false->∀ (_:Array Value),True/\True/\True/\x.1.2.1=x.1.2.1/\x.1.2.2.1=x.1.2.2.1/\x.1.2.2.1=x.1.2.2.1/\x.1.2.2.2=x.1.2.2.2/\x.1.2.2.2=x.1.2.2.2/\x.1.2.2.2=x.1.2.2.2/\True/\(0<=if bv x.1 x.2.1 x.2.2.1 x.2.2.2≠0 then (0:Int) else ay x.1 x.2.1+1+x.2.2.1)/\(if bv x.1 x.2.1 x.2.2.1 x.2.2.2≠0 then (0:Int) else ay x.1 x.2.1+1+x.2.2.1)<(x.1.1.length:Int)/\(if bv x.1 x.2.1 x.2.2.1 x.2.2.2≠0 then (0:Int) else ay x.1 x.2.1+1+x.2.2.1).toNat<x.1.1.length/\ah .i64 (IntKind.i64.wrap (x.1.1.getD (if bv x.1 x.2.1 x.2.2.1 x.2.2.2≠0 then (0:Int) else ay x.1 x.2.1+1+x.2.2.1).toNat 0) - 1)/\0<=x.2.2.2/\x.2.2.2<(x.1.2.1.length:Int)/\x.2.2.2.toNat<x.1.2.1.length/\(x.1.1,x.1.2.1.set x.2.2.2.toNat (IntKind.i64.wrap (x.1.1.getD (if bv x.1 x.2.1 x.2.2.1 x.2.2.2≠0 then (0:Int) else ay x.1 x.2.1+1+x.2.2.1).toNat 0) - 1),x.1.2.2)=(kG x.1 x.2.1 x.2.2.1 x.2.2.2).1/\0=(kG x.1 x.2.1 x.2.2.1 x.2.2.2).2/\True)
theorem C9:wE:=by
 unfold wE;intro ⟨s,slot,k,into⟩ ⟨⟨⟨hb,hw⟩,_⟩,_⟩ _;simp only at hb hw ⊢;have hF:kG s slot k into=if bv s slot k into≠0 then (aA,bv s slot k into) else ((s.1,s.2.1.set into.toNat (s.1.getD (ay s slot+1+k).toNat 0 - 1),s.2.2),0):=rfl
 refine ⟨trivial,fun h=>?_,fun h tm=>⟨trivial,trivial,trivial,by trivial,by trivial,by trivial,by trivial,by trivial,by trivial,trivial,?_⟩⟩
 ·rw [hF,if_pos (of_decide_eq_true h)];exact ⟨by trivial,by trivial,trivial⟩
 ·have h0:=of_decide_eq_false h;obtain ⟨R,O,k0,k1,o0,o1⟩:=yE hw (by omega:bv s slot k into=0);have hv:=R.refWord O.isb k0 k1;have:=O.x0;have:=O.b0;have:=O.fit;rw [hF,if_neg h0,if_neg h0];have hwr:IntKind.i64.wrap (s.1.getD (ay s slot+1+k).toNat 0)=s.1.getD (ay s slot+1+k).toNat 0:=m4 (by omega) (by omega);rw [hwr];generalize s.1.getD (ay s slot+1+k).toNat 0=v at *;simp only [ah];exact ⟨by omega,by omega,by omega,by omega,o0,o1,by omega,by trivial,by trivial,trivial⟩
theorem Hi:GH.ok Tryz.prog 62:=aD (ann:=fL) (ae BM (ae bI (ae ci (ae bZ (ae bJ ap))))) Tryz.func62 (by kernel_rfl) C9
def kz (s:ak) (slot k other:Int):ak×Int:=if bv s slot k other≠0 then (aA,bv s slot k other) else ((s.1.set (ay s slot+1+k).toNat (ay s other+1),s.2),0)
def GG:Spec:={ Ts:=[aN,ty_I,ty_I,ty_I],Rs:=[.dat aN,.dat ty_I],al:=true,pre:=fun _=>True,F:=fun ((s,slot,k,other):ak×Int×Int×Int)=>kz s slot k other }
def wD:Prop :=
  ∀ (x:(List Int×List Int×List (Int×Int)×List (Int×Bool×Int))×Int×Int×Int),((x.1.1.length * 8<=ax/\∀ (x_1:Int),x_1∈x.1.1->ah .u64 x_1)/\(x.1.2.1.length * 8<=ax/\∀ (x_1:Int),x_1∈x.1.2.1->ah .i64 x_1)/\(x.1.2.2.1.length * (8+8)<=ax/\∀ (x_1:Int×Int),x_1∈x.1.2.2.1->ah .i64 x_1.1/\ah .i64 x_1.2)/\x.1.2.2.2.length * (8+(8+8))<=ax/\∀ (x_1:Int×Bool×Int),x_1∈x.1.2.2.2->ah .i64 x_1.1/\True/\ah .i64 x_1.2.2)/\ah .i64 x.2.1/\ah .i64 x.2.2.1/\ah .i64 x.2.2.2->True->True/\(decide (bv x.1 x.2.1 x.2.2.1 x.2.2.2≠0)=true->(([]:List Int),([]:List Int),([]:List (Int×Int)),([]:List (Int×Bool×Int)))=(kz x.1 x.2.1 x.2.2.1 x.2.2.2).1/\bv x.1 x.2.1 x.2.2.1 x.2.2.2=(kz x.1 x.2.1 x.2.2.1 x.2.2.2).2/\True)/\(decide (bv x.1 x.2.1 x.2.2.1 x.2.2.2≠0)=false->∀ (_:Array Value),True/\True/\True/\x.1.2.1=x.1.2.1/\x.1.2.2.1=x.1.2.2.1/\x.1.2.2.1=x.1.2.2.1/\x.1.2.2.2=x.1.2.2.2/\x.1.2.2.2=x.1.2.2.2/\x.1.2.2.2=x.1.2.2.2/\True/\0<=x.2.2.2/\x.2.2.2<(x.1.2.1.length:Int)/\x.2.2.2.toNat<x.1.2.1.length/\ah .i64 (x.1.2.1.getD x.2.2.2.toNat 0+1)/\(0<=if bv x.1 x.2.1 x.2.2.1 x.2.2.2≠0 then (0:Int) else ay x.1 x.2.1+1+x.2.2.1)/\(if bv x.1 x.2.1 x.2.2.1 x.2.2.2≠0 then (0:Int) else ay x.1 x.2.1+1+x.2.2.1)<(x.1.1.length:Int)/\(if bv x.1 x.2.1 x.2.2.1 x.2.2.2≠0 then (0:Int) else ay x.1 x.2.1+1+x.2.2.1).toNat<x.1.1.length/\(x.1.1.set (if bv x.1 x.2.1 x.2.2.1 x.2.2.2≠0 then (0:Int) else ay x.1 x.2.1+1+x.2.2.1).toNat (IntKind.u64.wrap (x.1.2.1.getD x.2.2.2.toNat 0+1)),x.1.2)=(kz x.1 x.2.1 x.2.2.1 x.2.2.2).1/\0=(kz x.1 x.2.1 x.2.2.1 x.2.2.2).2/\True)
theorem C8:wD:=by
 unfold wD;intro ⟨s,slot,k,other⟩ ⟨⟨⟨hb,hw⟩,_⟩,_⟩ _;simp only at hb hw ⊢;have hF:kz s slot k other=if bv s slot k other≠0 then (aA,bv s slot k other) else ((s.1.set (ay s slot+1+k).toNat (ay s other+1),s.2),0):=rfl
 refine ⟨trivial,fun h=>?_,fun h tm=>⟨trivial,trivial,trivial,by trivial,by trivial,by trivial,by trivial,by trivial,by trivial,trivial,?_⟩⟩
 ·rw [hF,if_pos (of_decide_eq_true h)];exact ⟨by trivial,by trivial,trivial⟩
 ·have h0:=of_decide_eq_false h;obtain ⟨R,O,k0,k1,o0,o1⟩:=yE hw (by omega:bv s slot k other=0);have hv:=R.rootIn o0 o1;have hal:=R.al;have:=O.x0;have:=O.b0;have:=O.fit;rw [hF,if_neg h0,if_neg h0];have hwr:IntKind.u64.wrap (s.2.1.getD other.toNat 0+1)=ay s other+1:=fM (by omega) (by omega);rw [hwr];generalize s.2.1.getD other.toNat 0=v at *;simp only [ah];exact ⟨o0,o1,by omega,by omega,by omega,by omega,by omega,by trivial,by trivial,trivial⟩
theorem Hh:GG.ok Tryz.prog 63:=aD (ann:=fL) (ae BM (ae bI (ae ci (ae bZ (ae bJ ap))))) Tryz.func63 (by kernel_rfl) C8
def aO (s:ak) (slot k:Int):Int:=if bo s slot≠0 then bo s slot else if k<0\/(eG s.1 (ay s slot)).2.1<=k then 4 else 0
def bE (s:ak) (at_ k:Int):Int:=at_+1+(eG s.1 at_).1+k
def GN:Spec:={ Ts:=[aN,ty_I,ty_I],Rs:=[.dat ty_I,.dat ty_I],pre:=fun _=>True,F:=fun ((s,slot,k):ak×Int×Int)=>((if aO s slot k≠0 then 0 else bE s (ay s slot) k,aO s slot k):Int×Int) }
def wK:Prop :=
  ∀ (x:(List Int×List Int×List (Int×Int)×List (Int×Bool×Int))×Int×Int),((x.1.1.length * 8<=ax/\∀ (x_1:Int),x_1∈x.1.1->ah .u64 x_1)/\(x.1.2.1.length * 8<=ax/\∀ (x_1:Int),x_1∈x.1.2.1->ah .i64 x_1)/\(x.1.2.2.1.length * (8+8)<=ax/\∀ (x_1:Int×Int),x_1∈x.1.2.2.1->ah .i64 x_1.1/\ah .i64 x_1.2)/\x.1.2.2.2.length * (8+(8+8))<=ax/\∀ (x_1:Int×Bool×Int),x_1∈x.1.2.2.2->ah .i64 x_1.1/\True/\ah .i64 x_1.2.2)/\ah .i64 x.2.1/\ah .i64 x.2.2->True->True/\(decide ((aW x.1 x.2.1).2.2≠0)=true->((0:Int)=if aO x.1 x.2.1 x.2.2≠0 then (0:Int) else bE x.1 (ay x.1 x.2.1) x.2.2)/\(aW x.1 x.2.1).2.2=aO x.1 x.2.1 x.2.2/\True)/\(decide ((aW x.1 x.2.1).2.2≠0)=false->((decide (x.2.2<0)||decide ((↑(aW x.1 x.2.1).2.1.2.2.1.length:Int)<=x.2.2))=true->((0:Int)=if aO x.1 x.2.1 x.2.2≠0 then (0:Int) else bE x.1 (ay x.1 x.2.1) x.2.2)/\4=aO x.1 x.2.1 x.2.2/\True)/\((decide (x.2.2<0)||decide ((↑(aW x.1 x.2.1).2.1.2.2.1.length:Int)<=x.2.2))=false->ah .i64 ((aW x.1 x.2.1).1+1)/\ah .i64 ((aW x.1 x.2.1).1+1+(↑(aW x.1 x.2.1).2.1.2.1.length:Int))/\ah .i64 ((aW x.1 x.2.1).1+1+(↑(aW x.1 x.2.1).2.1.2.1.length:Int)+x.2.2)/\((aW x.1 x.2.1).1+1+(↑(aW x.1 x.2.1).2.1.2.1.length:Int)+x.2.2=if aO x.1 x.2.1 x.2.2≠0 then (0:Int) else bE x.1 (ay x.1 x.2.1) x.2.2)/\0=aO x.1 x.2.1 x.2.2/\True))
theorem Df:wK:=by
 unfold wK;intro ⟨s,slot,k⟩ ⟨⟨⟨hb,hw⟩,_⟩,_⟩ _;simp only at hb hw ⊢;have hR:aO s slot k=if bo s slot≠0 then bo s slot else if k<0\/(eG s.1 (ay s slot)).2.1<=k then 4 else 0:=rfl
 have hO:aW s slot=if bo s slot≠0 then (0,ig,bo s slot) else (ay s slot,(gU s.1 (ay s slot)).1,0):=rfl
 by_cases h0:bo s slot≠0
 ·rw [if_pos h0] at hR hO;rw [hO,hR];simp only;refine ⟨trivial,fun _=>?_,fun h=>absurd h0 (of_decide_eq_false h)⟩;rw [if_pos h0];exact ⟨by trivial,by trivial,trivial⟩
 ·obtain ⟨R,_,_,O⟩:=nJ hw (by omega:bo s slot=0);have hal:=R.al;rw [if_neg h0] at hR hO;rw [hO];simp only;rw [O.body,O.refs];have:=O.x0;have:=O.r0;have:=O.b0;have:=O.fit;refine ⟨trivial,fun h=>absurd rfl (of_decide_eq_true h),fun _=>⟨fun h1=>?_,fun h1=>?_⟩⟩
  ·rw [if_pos (by simpa using h1)] at hR;rw [hR];exact ⟨by trivial,by trivial,trivial⟩
  ·have h1:¬ (k<0\/(eG s.1 (ay s slot)).2.1<=k):=by simpa using h1
   rw [if_neg h1] at hR;rw [hR];simp only [ah];exact ⟨by omega,by omega,by omega,by simp [bE],by trivial,trivial⟩
theorem xa:GN.ok Tryz.prog 138:=aD (ann:=co) (ae jN ap) Tryz.func138 (by kernel_rfl) Df
theorem zJ {s:ak} {slot k:Int} (hw:∀ x∈s.1,ah .u64 x) (h:aO s slot k=0):Right s/\ObjAt s (ay s slot)/\0<=k/\k<(eG s.1 (ay s slot)).2.1/\0<=bE s (ay s slot) k/\bE s (ay s slot) k<s.1.length:=by
 unfold aO at h;split at h
 ·omega
 rename_i h0;split at h
 ·omega
 obtain ⟨R,_,_,O⟩:=nJ hw (by omega:bo s slot=0);have:=O.x0;have:=O.r0;have:=O.fit;unfold bE;exact ⟨R,O,by omega,by omega,by omega,by omega⟩
def IJ:Spec:={ Ts:=[aN,ty_I,ty_I],Rs:=[.dat bi,.dat ty_I],pre:=fun _=>True,F:=fun ((s,slot,k):ak×Int×Int)=>((if aO s slot k≠0 then 0 else s.1.getD (bE s (ay s slot) k).toNat 0,aO s slot k):Int×Int) }
def Bq:Prop :=
  ∀ (x:(List Int×List Int×List (Int×Int)×List (Int×Bool×Int))×Int×Int),((x.1.1.length * 8<=ax/\∀ (x_1:Int),x_1∈x.1.1->ah .u64 x_1)/\(x.1.2.1.length * 8<=ax/\∀ (x_1:Int),x_1∈x.1.2.1->ah .i64 x_1)/\(x.1.2.2.1.length * (8+8)<=ax/\∀ (x_1:Int×Int),x_1∈x.1.2.2.1->ah .i64 x_1.1/\ah .i64 x_1.2)/\x.1.2.2.2.length * (8+(8+8))<=ax/\∀ (x_1:Int×Bool×Int),x_1∈x.1.2.2.2->ah .i64 x_1.1/\True/\ah .i64 x_1.2.2)/\ah .i64 x.2.1/\ah .i64 x.2.2->True->True/\(decide (aO x.1 x.2.1 x.2.2≠0)=true->((0:Int)=if aO x.1 x.2.1 x.2.2≠0 then (0:Int) else x.1.1.getD (bE x.1 (ay x.1 x.2.1) x.2.2).toNat 0)/\aO x.1 x.2.1 x.2.2=aO x.1 x.2.1 x.2.2/\True)/\(decide (aO x.1 x.2.1 x.2.2≠0)=false->(0<=if aO x.1 x.2.1 x.2.2≠0 then (0:Int) else bE x.1 (ay x.1 x.2.1) x.2.2)/\(if aO x.1 x.2.1 x.2.2≠0 then (0:Int) else bE x.1 (ay x.1 x.2.1) x.2.2)<(x.1.1.length:Int)/\(x.1.1.getD (if aO x.1 x.2.1 x.2.2≠0 then (0:Int) else bE x.1 (ay x.1 x.2.1) x.2.2).toNat (0:Int)=if aO x.1 x.2.1 x.2.2≠0 then (0:Int) else x.1.1.getD (bE x.1 (ay x.1 x.2.1) x.2.2).toNat 0)/\0=aO x.1 x.2.1 x.2.2/\True)
theorem Ge:Bq:=by
 unfold Bq;intro ⟨s,slot,k⟩ ⟨⟨⟨hb,hw⟩,_⟩,_⟩ _;simp only at hb hw ⊢;refine ⟨trivial,fun h=>?_,fun h=>?_⟩
 ·rw [if_pos (of_decide_eq_true h)];exact ⟨by trivial,by trivial,trivial⟩
 ·have h0:=of_decide_eq_false h;obtain ⟨_,_,_,_,b0,b1⟩:=zJ hw (by omega:aO s slot k=0);rw [if_neg h0];exact ⟨b0,b1,by rw [if_neg h0],by omega,trivial⟩
theorem Ji:IJ.ok Tryz.prog 64:=aD (ann:=co) (ae xa ap) Tryz.func64 (by kernel_rfl) Ge
def jA (s:ak) (slot k v:Int):ak×Int:=if aO s slot k≠0 then (aA,aO s slot k) else ((s.1.set (bE s (ay s slot) k).toNat v,s.2),0)
def GI:Spec:={ Ts:=[aN,ty_I,ty_I,bi],Rs:=[.dat aN,.dat ty_I],al:=true,pre:=fun _=>True,F:=fun ((s,slot,k,v):ak×Int×Int×Int)=>jA s slot k v }
def wF:Prop :=
  ∀ (x:(List Int×List Int×List (Int×Int)×List (Int×Bool×Int))×Int×Int×Int),((x.1.1.length * 8<=ax/\∀ (x_1:Int),x_1∈x.1.1->ah .u64 x_1)/\(x.1.2.1.length * 8<=ax/\∀ (x_1:Int),x_1∈x.1.2.1->ah .i64 x_1)/\(x.1.2.2.1.length * (8+8)<=ax/\∀ (x_1:Int×Int),x_1∈x.1.2.2.1->ah .i64 x_1.1/\ah .i64 x_1.2)/\x.1.2.2.2.length * (8+(8+8))<=ax/\∀ (x_1:Int×Bool×Int),x_1∈x.1.2.2.2->ah .i64 x_1.1/\True/\ah .i64 x_1.2.2)/\ah .i64 x.2.1/\ah .i64 x.2.2.1/\ah .u64 x.2.2.2->True->True/\(decide (aO x.1 x.2.1 x.2.2.1≠0)=true->(([]:List Int),([]:List Int),([]:List (Int×Int)),([]:List (Int×Bool×Int)))=(jA x.1 x.2.1 x.2.2.1 x.2.2.2).1/\aO x.1 x.2.1 x.2.2.1=(jA x.1 x.2.1 x.2.2.1 x.2.2.2).2/\True)/\(decide (aO x.1 x.2.1 x.2.2.1≠0)=false->∀ (_:Array Value),True/\True/\True/\x.1.2.1=x.1.2.1/\x.1.2.2.1=x.1.2.2.1/\x.1.2.2.1=x.1.2.2.1/\x.1.2.2.2=x.1.2.2.2/\x.1.2.2.2=x.1.2.2.2/\x.1.2.2.2=x.1.2.2.2/\True/\(0<=if aO x.1 x.2.1 x.2.2.1≠0 then (0:Int) else bE x.1 (ay x.1 x.2.1) x.2.2.1)/\(if aO x.1 x.2.1 x.2.2.1≠0 then (0:Int) else bE x.1 (ay x.1 x.2.1) x.2.2.1)<(x.1.1.length:Int)/\(if aO x.1 x.2.1 x.2.2.1≠0 then (0:Int) else bE x.1 (ay x.1 x.2.1) x.2.2.1).toNat<x.1.1.length/\(x.1.1.set (if aO x.1 x.2.1 x.2.2.1≠0 then (0:Int) else bE x.1 (ay x.1 x.2.1) x.2.2.1).toNat x.2.2.2,x.1.2)=(jA x.1 x.2.1 x.2.2.1 x.2.2.2).1/\0=(jA x.1 x.2.1 x.2.2.1 x.2.2.2).2/\True)
theorem Da:wF:=by
 unfold wF;intro ⟨s,slot,k,v⟩ ⟨⟨⟨hb,hw⟩,_⟩,_⟩ _;simp only at hb hw ⊢;have hF:jA s slot k v=if aO s slot k≠0 then (aA,aO s slot k) else ((s.1.set (bE s (ay s slot) k).toNat v,s.2),0):=rfl
 refine ⟨trivial,fun h=>?_,fun h tm=>⟨trivial,trivial,trivial,by trivial,by trivial,by trivial,by trivial,by trivial,by trivial,trivial,?_⟩⟩
 ·rw [hF,if_pos (of_decide_eq_true h)];exact ⟨by trivial,by trivial,trivial⟩
 ·have h0:=of_decide_eq_false h;obtain ⟨_,_,_,_,b0,b1⟩:=zJ hw (by omega:aO s slot k=0);rw [hF,if_neg h0,if_neg h0];exact ⟨b0,b1,by omega,by trivial,by trivial,trivial⟩
theorem Hj:GI.ok Tryz.prog 66:=aD (ann:=fL) (ae xa (ae bI (ae ci (ae bZ (ae bJ ap))))) Tryz.func66 (by kernel_rfl) Da
def iD (s:ak) (slot:Int):ak×Int×Int:=if bo s slot≠0 then (aA,0,bo s slot) else if (gm s.2.2.1 (ay s slot)).2.2≠0 then (aA,0,(gm s.2.2.1 (ay s slot)).2.2) else ((s.1,s.2.1,(gm s.2.2.1 (ay s slot)).1,s.2.2.2),ay s slot,0)
def GJ:Spec:={ Ts:=[aN,ty_I],Rs:=[.dat aN,.dat ty_I,.dat ty_I],al:=true,pre:=fun _=>True,F:=fun ((s,slot):ak×Int)=>iD s slot }
def wG:Prop :=
  ∀ (x:(List Int×List Int×List (Int×Int)×List (Int×Bool×Int))×Int),((x.1.1.length * 8<=ax/\∀ (x_1:Int),x_1∈x.1.1->ah .u64 x_1)/\(x.1.2.1.length * 8<=ax/\∀ (x_1:Int),x_1∈x.1.2.1->ah .i64 x_1)/\(x.1.2.2.1.length * (8+8)<=ax/\∀ (x_1:Int×Int),x_1∈x.1.2.2.1->ah .i64 x_1.1/\ah .i64 x_1.2)/\x.1.2.2.2.length * (8+(8+8))<=ax/\∀ (x_1:Int×Bool×Int),x_1∈x.1.2.2.2->ah .i64 x_1.1/\True/\ah .i64 x_1.2.2)/\ah .i64 x.2->True->True/\(decide ((aW x.1 x.2).2.2≠0)=true->(([]:List Int),([]:List Int),([]:List (Int×Int)),([]:List (Int×Bool×Int)))=(iD x.1 x.2).1/\0=(iD x.1 x.2).2.1/\(aW x.1 x.2).2.2=(iD x.1 x.2).2.2/\True)/\(decide ((aW x.1 x.2).2.2≠0)=false->True/\(decide ((gm x.1.2.2.1 (aW x.1 x.2).1).2.2≠0)=true->(([]:List Int),([]:List Int),([]:List (Int×Int)),([]:List (Int×Bool×Int)))=(iD x.1 x.2).1/\0=(iD x.1 x.2).2.1/\(gm x.1.2.2.1 (aW x.1 x.2).1).2.2=(iD x.1 x.2).2.2/\True)/\(decide ((gm x.1.2.2.1 (aW x.1 x.2).1).2.2≠0)=false->∀ (_:Array Value),True/\True/\True/\x.1.2.1=x.1.2.1/\x.1.2.2.1=x.1.2.2.1/\x.1.2.2.1=x.1.2.2.1/\x.1.2.2.2=x.1.2.2.2/\x.1.2.2.2=x.1.2.2.2/\x.1.2.2.2=x.1.2.2.2/\True/\(x.1.1,x.1.2.1,(gm x.1.2.2.1 (aW x.1 x.2).1).1,x.1.2.2.2)=(iD x.1 x.2).1/\(aW x.1 x.2).1=(iD x.1 x.2).2.1/\0=(iD x.1 x.2).2.2/\True))
theorem Db:wG:=by
 unfold wG;intro ⟨s,slot⟩ hx _;simp only at hx ⊢;have hF:iD s slot=if bo s slot≠0 then (aA,0,bo s slot) else if (gm s.2.2.1 (ay s slot)).2.2≠0 then (aA,0,(gm s.2.2.1 (ay s slot)).2.2) else ((s.1,s.2.1,(gm s.2.2.1 (ay s slot)).1,s.2.2.2),ay s slot,0):=rfl
 have hO:aW s slot=if bo s slot≠0 then (0,ig,bo s slot) else (ay s slot,(gU s.1 (ay s slot)).1,0):=rfl
 by_cases h0:bo s slot≠0
 ·rw [if_pos h0] at hF hO;rw [hO,hF];exact ⟨trivial,fun _=>⟨by trivial,by trivial,by trivial,trivial⟩,fun h=>absurd h0 (of_decide_eq_false h)⟩
 ·rw [if_neg h0] at hF hO;rw [hO,hF];simp only;refine ⟨trivial,fun h=>absurd rfl (of_decide_eq_true h),fun _=>⟨trivial,fun h=>?_,fun h tm=>⟨trivial,trivial,trivial,by trivial,by trivial,by trivial,by trivial,by trivial,by trivial,trivial,?_⟩⟩⟩
  ·rw [if_pos (of_decide_eq_true h)];exact ⟨by trivial,by trivial,by trivial,trivial⟩
  ·rw [if_neg (of_decide_eq_false h)];exact ⟨by trivial,by trivial,by trivial,trivial⟩
theorem Hk:GJ.ok Tryz.prog 67:=aD (ann:=fL) (ae jN (ae Mq (ae bI (ae ci (ae bZ (ae bJ ap)))))) Tryz.func67 (by kernel_rfl) Db
def cT (s:ak) (at_:Int):ak×Int:=if az s≠0 then (aA,az s) else if (dC s.2.2.1 at_).2.2≠0 then (aA,(dC s.2.2.1 at_).2.2) else ((s.1,s.2.1,(dC s.2.2.1 at_).1,s.2.2.2),0)
def AC:Spec:={ Ts:=[aN,ty_I],Rs:=[.dat aN,.dat ty_I],al:=true,pre:=fun _=>True,F:=fun ((s,at_):ak×Int)=>cT s at_ }
def qX:Prop :=
  ∀ (x:(List Int×List Int×List (Int×Int)×List (Int×Bool×Int))×Int),((x.1.1.length * 8<=ax/\∀ (x_1:Int),x_1∈x.1.1->ah .u64 x_1)/\(x.1.2.1.length * 8<=ax/\∀ (x_1:Int),x_1∈x.1.2.1->ah .i64 x_1)/\(x.1.2.2.1.length * (8+8)<=ax/\∀ (x_1:Int×Int),x_1∈x.1.2.2.1->ah .i64 x_1.1/\ah .i64 x_1.2)/\x.1.2.2.2.length * (8+(8+8))<=ax/\∀ (x_1:Int×Bool×Int),x_1∈x.1.2.2.2->ah .i64 x_1.1/\True/\ah .i64 x_1.2.2)/\ah .i64 x.2->True->True/\(decide (az x.1≠0)=true->(([]:List Int),([]:List Int),([]:List (Int×Int)),([]:List (Int×Bool×Int)))=(cT x.1 x.2).1/\az x.1=(cT x.1 x.2).2/\True)/\(decide (az x.1≠0)=false->True/\(decide ((dC x.1.2.2.1 x.2).2.2≠0)=true->(([]:List Int),([]:List Int),([]:List (Int×Int)),([]:List (Int×Bool×Int)))=(cT x.1 x.2).1/\(dC x.1.2.2.1 x.2).2.2=(cT x.1 x.2).2/\True)/\(decide ((dC x.1.2.2.1 x.2).2.2≠0)=false->∀ (_:Array Value),True/\True/\True/\x.1.2.1=x.1.2.1/\x.1.2.2.1=x.1.2.2.1/\x.1.2.2.1=x.1.2.2.1/\x.1.2.2.2=x.1.2.2.2/\x.1.2.2.2=x.1.2.2.2/\x.1.2.2.2=x.1.2.2.2/\True/\(x.1.1,x.1.2.1,(dC x.1.2.2.1 x.2).1,x.1.2.2.2)=(cT x.1 x.2).1/\0=(cT x.1 x.2).2/\True))
theorem xD:qX:=by
 unfold qX;intro ⟨s,at_⟩ hx _;simp only at hx ⊢;have hF:cT s at_=if az s≠0 then (aA,az s) else if (dC s.2.2.1 at_).2.2≠0 then (aA,(dC s.2.2.1 at_).2.2) else ((s.1,s.2.1,(dC s.2.2.1 at_).1,s.2.2.2),0):=rfl
 rw [hF];refine ⟨trivial,fun h=>?_,fun h=>⟨trivial,fun h1=>?_,fun h1 tm=>⟨trivial,trivial,trivial,by trivial,by trivial,by trivial,by trivial,by trivial,by trivial,trivial,?_⟩⟩⟩
 ·rw [if_pos (of_decide_eq_true h)];exact ⟨by trivial,by trivial,trivial⟩
 ·rw [if_neg (of_decide_eq_false h),if_pos (of_decide_eq_true h1)];exact ⟨by trivial,by trivial,trivial⟩
 ·rw [if_neg (of_decide_eq_false h),if_neg (of_decide_eq_false h1)];exact ⟨by trivial,by trivial,trivial⟩
theorem BL:AC.ok Tryz.prog 68:=aD (ann:=fL) (ae gg (ae Lc (ae bI (ae ci (ae bZ (ae bJ ap)))))) Tryz.func68 (by kernel_rfl) xD
def cg (s:ak) (at_ k:Int):Int:=if az s≠0 then az s else if ft (cG s) at_=false then 8 else if k<0\/(eG s.1 at_).2.1<=k then 4 else 0
def GK:Spec:={ Ts:=[aN,ty_I,ty_I],Rs:=[.dat bi,.dat ty_I],pre:=fun _=>True,F:=fun ((s,at_,k):ak×Int×Int)=>((if cg s at_ k≠0 then 0 else s.1.getD (bE s at_ k).toNat 0,cg s at_ k):Int×Int) }
def wH:Prop :=
  ∀ (x:(List Int×List Int×List (Int×Int)×List (Int×Bool×Int))×Int×Int),((x.1.1.length * 8<=ax/\∀ (x_1:Int),x_1∈x.1.1->ah .u64 x_1)/\(x.1.2.1.length * 8<=ax/\∀ (x_1:Int),x_1∈x.1.2.1->ah .i64 x_1)/\(x.1.2.2.1.length * (8+8)<=ax/\∀ (x_1:Int×Int),x_1∈x.1.2.2.1->ah .i64 x_1.1/\ah .i64 x_1.2)/\x.1.2.2.2.length * (8+(8+8))<=ax/\∀ (x_1:Int×Bool×Int),x_1∈x.1.2.2.2->ah .i64 x_1.1/\True/\ah .i64 x_1.2.2)/\ah .i64 x.2.1/\ah .i64 x.2.2->True->True/\(decide (az x.1≠0)=true->((0:Int)=if cg x.1 x.2.1 x.2.2≠0 then (0:Int) else x.1.1.getD (bE x.1 x.2.1 x.2.2).toNat 0)/\az x.1=cg x.1 x.2.1 x.2.2/\True)/\(decide (az x.1≠0)=false->True/\True/\((!ft (List.map (fun (x:bn)=>x.1) x.1.2.2.1) x.2.1)=true->((0:Int)=if cg x.1 x.2.1 x.2.2≠0 then (0:Int) else x.1.1.getD (bE x.1 x.2.1 x.2.2).toNat 0)/\8=cg x.1 x.2.1 x.2.2/\True)/\((!ft (List.map (fun (x:bn)=>x.1) x.1.2.2.1) x.2.1)=false->True/\((decide (x.2.2<0)||decide ((↑(gU x.1.1 x.2.1).1.2.2.1.length:Int)<=x.2.2))=true->((0:Int)=if cg x.1 x.2.1 x.2.2≠0 then (0:Int) else x.1.1.getD (bE x.1 x.2.1 x.2.2).toNat 0)/\4=cg x.1 x.2.1 x.2.2/\True)/\((decide (x.2.2<0)||decide ((↑(gU x.1.1 x.2.1).1.2.2.1.length:Int)<=x.2.2))=false->0<=x.2.2/\x.2.2<(↑(gU x.1.1 x.2.1).1.2.2.1.length:Int)/\((gU x.1.1 x.2.1).1.2.2.1.getD x.2.2.toNat (0:Int)=if cg x.1 x.2.1 x.2.2≠0 then (0:Int) else x.1.1.getD (bE x.1 x.2.1 x.2.2).toNat 0)/\0=cg x.1 x.2.1 x.2.2/\True)))
theorem Dc:wH:=by
 unfold wH;intro ⟨s,at_,k⟩ ⟨⟨⟨hb,hw⟩,_⟩,_⟩ _;simp only at hb hw ⊢;have hP:cg s at_ k=if az s≠0 then az s else if ft (cG s) at_=false then 8 else if k<0\/(eG s.1 at_).2.1<=k then 4 else 0:=rfl
 have hpo:List.map (fun (x:bn)=>x.1) s.2.2.1=cG s:=rfl;rw [hpo];refine ⟨trivial,fun h=>?_,fun h=>⟨trivial,trivial,fun h1=>?_,fun h1=>⟨trivial,fun h2=>?_,fun h2=>?_⟩⟩⟩
 ·have h:=of_decide_eq_true h;rw [if_pos h] at hP;rw [hP,if_pos h];exact ⟨by trivial,by trivial,trivial⟩
 all_goals have h:=of_decide_eq_false h
 ·rw [if_neg h,if_pos (by simpa using h1)] at hP;rw [hP];exact ⟨by trivial,by trivial,trivial⟩
 all_goals
  have h1:ft (cG s) at_=true:=by simpa using h1
  have R:=iv hw (by omega:az s=0);have O:=R.obj (R.pinsIn at_ (cu.1 h1));rw [if_neg h,if_neg (by rw [h1]; simp)] at hP;rw [O.body] at h2
 ·rw [if_pos (by simpa using h2)] at hP;rw [hP];exact ⟨by trivial,by trivial,trivial⟩
 ·have h2:¬ (k<0\/(eG s.1 at_).2.1<=k):=by simpa using h2
  have l:=bW O.isb;rw [if_neg h2] at hP;rw [hP,O.body];have hg:=H8 (a:=s.1) (at_:=at_) (k:=k) (by omega) (by omega) l.2.1 O.x0 O.r0;have e:(gU s.1 at_).1.2.2.1=gD s.1 at_:=by rw [O.at_]; rfl
  rw [e,<- hg];exact ⟨by omega,by omega,by simp [bE],by trivial,trivial⟩
theorem Hl:GK.ok Tryz.prog 69:=aD (ann:=co) (ae gg (ae jM (ae yN (ae mP ap)))) Tryz.func69 (by kernel_rfl) Dc
def fp (s:ak) (slot:Int):ak×Int×Int:=if bo s slot≠0 then (aA,0,bo s slot) else if (openF s.2.2.2 (ay s slot)).2.2≠0 then (aA,0,(openF s.2.2.2 (ay s slot)).2.2) else ((s.1,s.2.1,s.2.2.1,(openF s.2.2.2 (ay s slot)).1),(openF s.2.2.2 (ay s slot)).2.1,0)
def DF:Spec:={ Ts:=[aN,ty_I],Rs:=[.dat aN,.dat bi,.dat ty_I],al:=true,pre:=fun _=>True,F:=fun ((s,slot):ak×Int)=>fp s slot }
def tz:Prop :=
  ∀ (x:(List Int×List Int×List (Int×Int)×List (Int×Bool×Int))×Int),((x.1.1.length * 8<=ax/\∀ (x_1:Int),x_1∈x.1.1->ah .u64 x_1)/\(x.1.2.1.length * 8<=ax/\∀ (x_1:Int),x_1∈x.1.2.1->ah .i64 x_1)/\(x.1.2.2.1.length * (8+8)<=ax/\∀ (x_1:Int×Int),x_1∈x.1.2.2.1->ah .i64 x_1.1/\ah .i64 x_1.2)/\x.1.2.2.2.length * (8+(8+8))<=ax/\∀ (x_1:Int×Bool×Int),x_1∈x.1.2.2.2->ah .i64 x_1.1/\True/\ah .i64 x_1.2.2)/\ah .i64 x.2->True->True/\(decide ((aW x.1 x.2).2.2≠0)=true->(([]:List Int),([]:List Int),([]:List (Int×Int)),([]:List (Int×Bool×Int)))=(fp x.1 x.2).1/\0=(fp x.1 x.2).2.1/\(aW x.1 x.2).2.2=(fp x.1 x.2).2.2/\True)/\(decide ((aW x.1 x.2).2.2≠0)=false->True/\(decide ((openF x.1.2.2.2 (aW x.1 x.2).1).2.2≠0)=true->(([]:List Int),([]:List Int),([]:List (Int×Int)),([]:List (Int×Bool×Int)))=(fp x.1 x.2).1/\0=(fp x.1 x.2).2.1/\(openF x.1.2.2.2 (aW x.1 x.2).1).2.2=(fp x.1 x.2).2.2/\True)/\(decide ((openF x.1.2.2.2 (aW x.1 x.2).1).2.2≠0)=false->∀ (_:Array Value),True/\True/\True/\x.1.2.1=x.1.2.1/\x.1.2.2.1=x.1.2.2.1/\x.1.2.2.1=x.1.2.2.1/\x.1.2.2.2=x.1.2.2.2/\x.1.2.2.2=x.1.2.2.2/\x.1.2.2.2=x.1.2.2.2/\True/\(x.1.1,x.1.2.1,x.1.2.2.1,(openF x.1.2.2.2 (aW x.1 x.2).1).1)=(fp x.1 x.2).1/\(openF x.1.2.2.2 (aW x.1 x.2).1).2.1=(fp x.1 x.2).2.1/\0=(fp x.1 x.2).2.2/\True))
theorem z8:tz:=by
 unfold tz;intro ⟨s,slot⟩ hx _;simp only at hx ⊢;have hF:fp s slot=if bo s slot≠0 then (aA,0,bo s slot) else if (openF s.2.2.2 (ay s slot)).2.2≠0 then (aA,0,(openF s.2.2.2 (ay s slot)).2.2) else ((s.1,s.2.1,s.2.2.1,(openF s.2.2.2 (ay s slot)).1),(openF s.2.2.2 (ay s slot)).2.1,0):=rfl
 have hO:aW s slot=if bo s slot≠0 then (0,ig,bo s slot) else (ay s slot,(gU s.1 (ay s slot)).1,0):=rfl
 by_cases h0:bo s slot≠0
 ·rw [if_pos h0] at hF hO;rw [hO,hF];exact ⟨trivial,fun _=>⟨by trivial,by trivial,by trivial,trivial⟩,fun h=>absurd h0 (of_decide_eq_false h)⟩
 ·rw [if_neg h0] at hF hO;rw [hO,hF];simp only;refine ⟨trivial,fun h=>absurd rfl (of_decide_eq_true h),fun _=>⟨trivial,fun h=>?_,fun h tm=>⟨trivial,trivial,trivial,by trivial,by trivial,by trivial,by trivial,by trivial,by trivial,trivial,?_⟩⟩⟩
  ·rw [if_pos (of_decide_eq_true h)];exact ⟨by trivial,by trivial,by trivial,trivial⟩
  ·rw [if_neg (of_decide_eq_false h)];exact ⟨by trivial,by trivial,by trivial,trivial⟩
theorem Ea:DF.ok Tryz.prog 70:=aD (ann:=fL) (ae jN (ae BV (ae bI (ae ci (ae bZ (ae bJ ap)))))) Tryz.func70 (by kernel_rfl) z8
def bC (s:ak) (k:Int):Int:=if az s≠0 then az s else if k<0\/(s.2.1.length:Int)<=k then 5 else 0
def ye:Spec:={ Ts:=[aN,ty_I],Rs:=[.dat ty_I],pre:=fun _=>True,F:=fun ((s,k):ak×Int)=>bC s k }
def oM:Prop :=
  ∀ (x:(List Int×List Int×List (Int×Int)×List (Int×Bool×Int))×Int),((x.1.1.length * 8<=ax/\∀ (x_1:Int),x_1∈x.1.1->ah .u64 x_1)/\(x.1.2.1.length * 8<=ax/\∀ (x_1:Int),x_1∈x.1.2.1->ah .i64 x_1)/\(x.1.2.2.1.length * (8+8)<=ax/\∀ (x_1:Int×Int),x_1∈x.1.2.2.1->ah .i64 x_1.1/\ah .i64 x_1.2)/\x.1.2.2.2.length * (8+(8+8))<=ax/\∀ (x_1:Int×Bool×Int),x_1∈x.1.2.2.2->ah .i64 x_1.1/\True/\ah .i64 x_1.2.2)/\ah .i64 x.2->True->True/\((decide (az x.1=0)&&(decide (x.2<0)||decide ((x.1.2.1.length:Int)<=x.2)))=true->5=bC x.1 x.2/\True)/\((decide (az x.1=0)&&(decide (x.2<0)||decide ((x.1.2.1.length:Int)<=x.2)))=false->az x.1=bC x.1 x.2/\True)
theorem u9:oM:=by
 unfold oM;intro ⟨s,k⟩ hx _;simp only at hx ⊢;have hE:bC s k=if az s≠0 then az s else if k<0\/(s.2.1.length:Int)<=k then 5 else 0:=rfl
 rw [hE];refine ⟨trivial,fun h=>?_,fun h=>?_⟩
 ·simp only [Bool.and_eq_true,decide_eq_true_eq,Bool.or_eq_true] at h;rw [if_neg (by omega),if_pos h.2];exact ⟨rfl,trivial⟩
 ·simp only [Bool.and_eq_false_iff,decide_eq_false_iff_not,Bool.or_eq_false_iff] at h;by_cases h0:az s≠0
  ·rw [if_pos h0];exact ⟨rfl,trivial⟩
  ·rw [if_neg h0,if_neg (by omega)];exact ⟨by omega,trivial⟩
theorem o6:ye.ok Tryz.prog 144:=aD (ann:=co) (ae gg ap) Tryz.func144 (by kernel_rfl) u9
theorem E8 {s:ak} {k:Int} (h:bC s k=0):0<=k/\k<s.2.1.length:=by
 unfold bC at h;split at h
 ·omega
 split at h
 ·omega
 omega
def jz (s:ak) (name slot:Int):ak×Int:=if bC s slot≠0 then (aA,bC s slot) else if (gO s.2.2.2 name).2≠0 then (aA,(gO s.2.2.2 name).2) else ((s.1,s.2.1.set slot.toNat (gO s.2.2.2 name).1,s.2.2),0)
def GF:Spec:={ Ts:=[aN,bi,ty_I],Rs:=[.dat aN,.dat ty_I],al:=true,pre:=fun _=>True,F:=fun ((s,name,slot):ak×Int×Int)=>jz s name slot }
def wC:Prop :=
  ∀ (x:(List Int×List Int×List (Int×Int)×List (Int×Bool×Int))×Int×Int),((x.1.1.length * 8<=ax/\∀ (x_1:Int),x_1∈x.1.1->ah .u64 x_1)/\(x.1.2.1.length * 8<=ax/\∀ (x_1:Int),x_1∈x.1.2.1->ah .i64 x_1)/\(x.1.2.2.1.length * (8+8)<=ax/\∀ (x_1:Int×Int),x_1∈x.1.2.2.1->ah .i64 x_1.1/\ah .i64 x_1.2)/\x.1.2.2.2.length * (8+(8+8))<=ax/\∀ (x_1:Int×Bool×Int),x_1∈x.1.2.2.2->ah .i64 x_1.1/\True/\ah .i64 x_1.2.2)/\ah .u64 x.2.1/\ah .i64 x.2.2->True->True/\(decide (bC x.1 x.2.2≠0)=true->(([]:List Int),([]:List Int),([]:List (Int×Int)),([]:List (Int×Bool×Int)))=(jz x.1 x.2.1 x.2.2).1/\bC x.1 x.2.2=(jz x.1 x.2.1 x.2.2).2/\True)/\(decide (bC x.1 x.2.2≠0)=false->True/\(decide ((gO x.1.2.2.2 x.2.1).2≠0)=true->(([]:List Int),([]:List Int),([]:List (Int×Int)),([]:List (Int×Bool×Int)))=(jz x.1 x.2.1 x.2.2).1/\(gO x.1.2.2.2 x.2.1).2=(jz x.1 x.2.1 x.2.2).2/\True)/\(decide ((gO x.1.2.2.2 x.2.1).2≠0)=false->∀ (_:Array Value),True/\True/\True/\x.1.2.1=x.1.2.1/\x.1.2.2.1=x.1.2.2.1/\x.1.2.2.1=x.1.2.2.1/\x.1.2.2.2=x.1.2.2.2/\x.1.2.2.2=x.1.2.2.2/\x.1.2.2.2=x.1.2.2.2/\True/\0<=x.2.2/\x.2.2<(x.1.2.1.length:Int)/\x.2.2.toNat<x.1.2.1.length/\(x.1.1,x.1.2.1.set x.2.2.toNat (gO x.1.2.2.2 x.2.1).1,x.1.2.2)=(jz x.1 x.2.1 x.2.2).1/\0=(jz x.1 x.2.1 x.2.2).2/\True))
theorem C7:wC:=by
 unfold wC;intro ⟨s,name,slot⟩ hx _;simp only at hx ⊢;have hF:jz s name slot=if bC s slot≠0 then (aA,bC s slot) else if (gO s.2.2.2 name).2≠0 then (aA,(gO s.2.2.2 name).2) else ((s.1,s.2.1.set slot.toNat (gO s.2.2.2 name).1,s.2.2),0):=rfl
 rw [hF];refine ⟨trivial,fun h=>?_,fun h=>⟨trivial,fun h1=>?_,fun h1 tm=>⟨trivial,trivial,trivial,by trivial,by trivial,by trivial,by trivial,by trivial,by trivial,trivial,?_⟩⟩⟩
 ·rw [if_pos (of_decide_eq_true h)];exact ⟨by trivial,by trivial,trivial⟩
 ·rw [if_neg (of_decide_eq_false h),if_pos (of_decide_eq_true h1)];exact ⟨by trivial,by trivial,trivial⟩
 ·rw [if_neg (of_decide_eq_false h),if_neg (of_decide_eq_false h1)];have hs:=E8 (by simpa using of_decide_eq_false h:bC s slot=0);exact ⟨hs.1,hs.2,by omega,by trivial,by trivial,trivial⟩
theorem Hg:GF.ok Tryz.prog 71:=aD (ann:=fL) (ae o6 (ae BW (ae bI (ae ci (ae bZ (ae bJ ap)))))) Tryz.func71 (by kernel_rfl) C7
def fN (s:ak) (name:Int):ak×Int:=if az s≠0 then (aA,az s) else if (closeF s.2.2.2 name).2≠0 then (aA,(closeF s.2.2.2 name).2) else ((s.1,s.2.1,s.2.2.1,(closeF s.2.2.2 name).1),0)
def DE:Spec:={ Ts:=[aN,bi],Rs:=[.dat aN,.dat ty_I],al:=true,pre:=fun _=>True,F:=fun ((s,name):ak×Int)=>fN s name }
def tx:Prop :=
  ∀ (x:(List Int×List Int×List (Int×Int)×List (Int×Bool×Int))×Int),((x.1.1.length * 8<=ax/\∀ (x_1:Int),x_1∈x.1.1->ah .u64 x_1)/\(x.1.2.1.length * 8<=ax/\∀ (x_1:Int),x_1∈x.1.2.1->ah .i64 x_1)/\(x.1.2.2.1.length * (8+8)<=ax/\∀ (x_1:Int×Int),x_1∈x.1.2.2.1->ah .i64 x_1.1/\ah .i64 x_1.2)/\x.1.2.2.2.length * (8+(8+8))<=ax/\∀ (x_1:Int×Bool×Int),x_1∈x.1.2.2.2->ah .i64 x_1.1/\True/\ah .i64 x_1.2.2)/\ah .u64 x.2->True->True/\(decide (az x.1≠0)=true->(([]:List Int),([]:List Int),([]:List (Int×Int)),([]:List (Int×Bool×Int)))=(fN x.1 x.2).1/\az x.1=(fN x.1 x.2).2/\True)/\(decide (az x.1≠0)=false->True/\(decide ((closeF x.1.2.2.2 x.2).2≠0)=true->(([]:List Int),([]:List Int),([]:List (Int×Int)),([]:List (Int×Bool×Int)))=(fN x.1 x.2).1/\(closeF x.1.2.2.2 x.2).2=(fN x.1 x.2).2/\True)/\(decide ((closeF x.1.2.2.2 x.2).2≠0)=false->∀ (_:Array Value),True/\True/\True/\x.1.2.1=x.1.2.1/\x.1.2.2.1=x.1.2.2.1/\x.1.2.2.1=x.1.2.2.1/\x.1.2.2.2=x.1.2.2.2/\x.1.2.2.2=x.1.2.2.2/\x.1.2.2.2=x.1.2.2.2/\True/\(x.1.1,x.1.2.1,x.1.2.2.1,(closeF x.1.2.2.2 x.2).1)=(fN x.1 x.2).1/\0=(fN x.1 x.2).2/\True))
theorem z7:tx:=by
 unfold tx;intro ⟨s,name⟩ hx _;simp only at hx ⊢;have hF:fN s name=if az s≠0 then (aA,az s) else if (closeF s.2.2.2 name).2≠0 then (aA,(closeF s.2.2.2 name).2) else ((s.1,s.2.1,s.2.2.1,(closeF s.2.2.2 name).1),0):=rfl
 rw [hF];refine ⟨trivial,fun h=>?_,fun h=>⟨trivial,fun h1=>?_,fun h1 tm=>⟨trivial,trivial,trivial,by trivial,by trivial,by trivial,by trivial,by trivial,by trivial,trivial,?_⟩⟩⟩
 ·rw [if_pos (of_decide_eq_true h)];exact ⟨by trivial,by trivial,trivial⟩
 ·rw [if_neg (of_decide_eq_false h),if_pos (of_decide_eq_true h1)];exact ⟨by trivial,by trivial,trivial⟩
 ·rw [if_neg (of_decide_eq_false h),if_neg (of_decide_eq_false h1)];exact ⟨by trivial,by trivial,trivial⟩
theorem D9:DE.ok Tryz.prog 72:=aD (ann:=fL) (ae gg (ae yO (ae bI (ae ci (ae bZ (ae bJ ap)))))) Tryz.func72 (by kernel_rfl) z7
def fh (s:ak) (slot:Int):ak×Int:=if bC s slot≠0 then (aA,bC s slot) else ((s.1,s.2.1.set slot.toNat (-1),s.2.2),0)
def DG:Spec:={ Ts:=[aN,ty_I],Rs:=[.dat aN,.dat ty_I],al:=true,pre:=fun _=>True,F:=fun ((s,slot):ak×Int)=>fh s slot }
def tC:Prop :=
  ∀ (x:(List Int×List Int×List (Int×Int)×List (Int×Bool×Int))×Int),((x.1.1.length * 8<=ax/\∀ (x_1:Int),x_1∈x.1.1->ah .u64 x_1)/\(x.1.2.1.length * 8<=ax/\∀ (x_1:Int),x_1∈x.1.2.1->ah .i64 x_1)/\(x.1.2.2.1.length * (8+8)<=ax/\∀ (x_1:Int×Int),x_1∈x.1.2.2.1->ah .i64 x_1.1/\ah .i64 x_1.2)/\x.1.2.2.2.length * (8+(8+8))<=ax/\∀ (x_1:Int×Bool×Int),x_1∈x.1.2.2.2->ah .i64 x_1.1/\True/\ah .i64 x_1.2.2)/\ah .i64 x.2->True->True/\(decide (bC x.1 x.2≠0)=true->(([]:List Int),([]:List Int),([]:List (Int×Int)),([]:List (Int×Bool×Int)))=(fh x.1 x.2).1/\bC x.1 x.2=(fh x.1 x.2).2/\True)/\(decide (bC x.1 x.2≠0)=false->∀ (_:Array Value),True/\True/\True/\x.1.2.1=x.1.2.1/\x.1.2.2.1=x.1.2.2.1/\x.1.2.2.1=x.1.2.2.1/\x.1.2.2.2=x.1.2.2.2/\x.1.2.2.2=x.1.2.2.2/\x.1.2.2.2=x.1.2.2.2/\True/\0<=x.2/\x.2<(x.1.2.1.length:Int)/\x.2.toNat<x.1.2.1.length/\(x.1.1,x.1.2.1.set x.2.toNat (-1),x.1.2.2)=(fh x.1 x.2).1/\0=(fh x.1 x.2).2/\True)
theorem Aa:tC:=by
 unfold tC;intro ⟨s,slot⟩ hx _;simp only at hx ⊢;have hF:fh s slot=if bC s slot≠0 then (aA,bC s slot) else ((s.1,s.2.1.set slot.toNat (-1),s.2.2),0):=rfl
 rw [hF];refine ⟨trivial,fun h=>?_,fun h tm=>⟨trivial,trivial,trivial,by trivial,by trivial,by trivial,by trivial,by trivial,by trivial,trivial,?_⟩⟩
 ·rw [if_pos (of_decide_eq_true h)];exact ⟨by trivial,by trivial,trivial⟩
 ·have hs:=E8 (by simpa using of_decide_eq_false h:bC s slot=0);rw [if_neg (of_decide_eq_false h)];exact ⟨hs.1,hs.2,by omega,by trivial,by trivial,trivial⟩
theorem Eb:DG.ok Tryz.prog 73:=aD (ann:=fL) (ae o6 (ae bI (ae ci (ae bZ (ae bJ ap))))) Tryz.func73 (by kernel_rfl) Aa
def fF (h:dZ):Int:=if af h≠0 then af h else if h.2.2.2=true then 3 else 0
theorem Ll {h:dZ} (hh:fF h=0):af h=0/\h.2.2.2=false:=by
 unfold fF at hh;split at hh
 ·omega
 split at hh
 ·omega
 rename_i h1 h2;exact ⟨by omega,by simpa using h2⟩
theorem sW {a:List Int} (hc:(am a).2.2=0) {h:dZ} (h0:af h=0) (hf:h.2.2.2=false):match (aM false [] (ac a).1).find? (fun r=>decide (aa h<=r.2)) with
  | none=>bw (aM false [] (ac a).1) (aa h)=(0,7)/\gW a h=([],0,false)
  | some r=>∃ i,0<=i/\i<((aM false [] (ac a).1).length:Int)/\bw (aM false [] (ac a).1) (aa h)=(i,0)/\(aM false [] (ac a).1).getD i.toNat (0,0)=r/\ip (cD a).1 r.1 h=(eZ a r h,0)/\gW a h=(eZ a r h,r.1,true):=by
 have hgi:=(mU (bq hc).2.2.2.1).1;have hz:=aX h0;have hL:aa h=1+h.1+h.2.1:=rfl;have hff:=HS (n:=aa h) (l:=aM false [] (ac a).1) (by omega) (fun r hr=>by have:=hgi r hr; omega);have hfi:=xr (aa h) (aM false [] (ac a).1) 0;cases hfd:(aM false [] (ac a).1).find? (fun r=>decide (aa h<=r.2)) with
 | none =>
  rw [hfd] at hfi;simp only at hfi ⊢;rw [if_pos hfi] at hff;refine ⟨hff,?_⟩;unfold gW;rw [hfd]
 | some r =>
  rw [hfd] at hfi;obtain ⟨i,i0,i1,i2,i3,i4⟩:=hfi;rw [if_neg i3,i4,Int.zero_add] at hff;have hr:=List.mem_of_find?_eq_some hfd;have hle:aa h<=r.2:=by simpa using List.find?_some hfd
  refine ⟨i,i0,i1,hff,i2,D5 hc hr h0 hf hle,?_⟩;unfold gW;rw [hfd]
def Ib:Nat->Option LoopGen
 | 3000083=>some eE
 | 8404000001=>some eE
 | 3000084=>some eE
 | 8504000007=>some eE
 | 3000085=>some eE
 | 8605000004=>some { rd:=[.boxS 1 [.own 45 bi,.own 3 ty_I,.own 157 fk,.own 135 bT]],A:=fun (s:ak)=>{ cs:=[.own 9 3 ty_I,.own 10 3 ty_I],inv:=fun ((ra,ha):List Int×List Int)=>ra=List.replicate s.1.length 0/\ha=List.replicate 256 0,mu:=fun _=>0 } }
 | 8600000006=>some { wr:=[9,10],rd:=[.boxS 1 [.own 45 bi,.own 3 ty_I,.own 157 fk,.own 135 bT]],A:=fun (s:ak)=>{ cs:=[.own 9 3 ty_I,.own 10 3 ty_I,.dat 42 ty_I],inv:=fun ((ra,ha,i):List Int×List Int×Int)=>0<=i/\i<=(ai s).length/\ra=bQ (List.replicate s.1.length 0) ((ai s).take i.toNat) (kT s)/\ha=bQ (List.replicate 256 0) ((ai s).take i.toNat) (kT s),mu:=fun ((_,_,i):List Int×List Int×Int)=>((ai s).length - i).toNat } }
 | 8600000015=>some { rd:=[.own 86 105 ji],A:=fun (g:List cS)=>{ cs:=[.dat 13 ty_I,.dat 88 ty_I],inv:=fun ((n,i):Int×Int)=>0<=i/\i<=g.length/\g.length<=256/\(∀ r∈g,0<=r.2/\r.2<=256)/\n=dF (g.take i.toNat)/\0<=n/\n<=256 * i,mu:=fun ((_,i):Int×Int)=>(g.length - i).toNat } }
 | _=>none
def iM (s:ak) (slot:Int) (h:dZ):ak×Bool:=((((gW s.1 h).1,s.2.1.set slot.toNat (gW s.1 h).2.1,s.2.2):ak),(gW s.1 h).2.2)
def ba (s:ak) (slot:Int) (h:dZ):ak×Bool×Int :=
 if bC s slot≠0 then (aA,false,bC s slot) else if fF h≠0 then (aA,false,fF h) else
 if (iM s slot h).2=true then ((iM s slot h).1,false,0) else if (iM (jZ s) slot h).2=true then ((iM (jZ s) slot h).1,true,0) else (aA,false,7)
def GL:Spec:={ Ts:=[aN,ty_I,gE],Rs:=[.dat aN,.dat .bool,.dat ty_I],al:=true,pre:=fun _=>True,F:=fun ((s,slot,h):ak×Int×dZ)=>ba s slot h }
def wI:Prop :=
  ∀ (x:(List Int×List Int×List (Int×Int)×List (Int×Bool×Int))×Int×Int×Int×Int×Bool),((x.1.1.length * 8<=ax/\∀ (x_1:Int),x_1∈x.1.1->ah .u64 x_1)/\(x.1.2.1.length * 8<=ax/\∀ (x_1:Int),x_1∈x.1.2.1->ah .i64 x_1)/\(x.1.2.2.1.length * (8+8)<=ax/\∀ (x_1:Int×Int),x_1∈x.1.2.2.1->ah .i64 x_1.1/\ah .i64 x_1.2)/\x.1.2.2.2.length * (8+(8+8))<=ax/\∀ (x_1:Int×Bool×Int),x_1∈x.1.2.2.2->ah .i64 x_1.1/\True/\ah .i64 x_1.2.2)/\ah .i64 x.2.1/\ah .i64 x.2.2.1/\ah .i64 x.2.2.2.1/\ah .i64 x.2.2.2.2.1/\True->True->True/\(decide (az x.1≠0)=true->(([]:List Int),([]:List Int),([]:List (Int×Int)),([]:List (Int×Bool×Int)))=(ba x.1 x.2.1 x.2.2).1/\false=(ba x.1 x.2.1 x.2.2).2.1/\az x.1=(ba x.1 x.2.1 x.2.2).2.2/\True)/\(decide (az x.1≠0)=false->((decide (x.2.1<0)||decide ((x.1.2.1.length:Int)<=x.2.1))=true->(([]:List Int),([]:List Int),([]:List (Int×Int)),([]:List (Int×Bool×Int)))=(ba x.1 x.2.1 x.2.2).1/\false=(ba x.1 x.2.1 x.2.2).2.1/\5=(ba x.1 x.2.1 x.2.2).2.2/\True)/\((decide (x.2.1<0)||decide ((x.1.2.1.length:Int)<=x.2.1))=false->True/\(decide (af x.2.2≠0)=true->(([]:List Int),([]:List Int),([]:List (Int×Int)),([]:List (Int×Bool×Int)))=(ba x.1 x.2.1 x.2.2).1/\false=(ba x.1 x.2.1 x.2.2).2.1/\af x.2.2=(ba x.1 x.2.1 x.2.2).2.2/\True)/\(decide (af x.2.2≠0)=false->(x.2.2.2.2.2=true->(([]:List Int),([]:List Int),([]:List (Int×Int)),([]:List (Int×Bool×Int)))=(ba x.1 x.2.1 x.2.2).1/\false=(ba x.1 x.2.1 x.2.2).2.1/\3=(ba x.1 x.2.1 x.2.2).2.2/\True)/\(x.2.2.2.2.2=false->∀ (_:Array Value),True/\True/\True/\x.1.2.1=x.1.2.1/\x.1.2.2.1=x.1.2.2.1/\x.1.2.2.1=x.1.2.2.1/\x.1.2.2.2=x.1.2.2.2/\x.1.2.2.2=x.1.2.2.2/\x.1.2.2.2=x.1.2.2.2/\True/\∀ (_:Array Value),True/\True/\True/\(decide ((bw (an x.1.1).1 (if af x.2.2=0 then aa x.2.2 else (0:Int))).2≠0)=true->((!false)=true->∀ (_:Array Value),(x.1.2.1.length<=32/\x.1.2.2.1.length<=16/\x.1.2.2.2.length<=16)/\True/\((ai x.1).length+(List.map (fun (x:bn)=>x.1) x.1.2.2.1).length) * 8<=140737488355328/\True/\((((0<=(x.1.1.length:Int)/\(x.1.1.length:Int).toNat * 8<=ax/\((0:Int)<=256/\Int.toNat 256 * 8<=ax/\((List.replicate (x.1.1.length:Int).toNat (0:Int)=List.replicate x.1.1.length (0:Int)/\List.replicate (Int.toNat 256) (0:Int)=List.replicate 256 (0:Int))/\True)/\True)/\(((0:Int)<=256/\Int.toNat 256 * 8<=ax/\(List.replicate (x.1.1.length:Int).toNat (0:Int)=List.replicate x.1.1.length (0:Int)/\List.replicate (Int.toNat 256) (0:Int)=List.replicate 256 (0:Int))/\True)/\True)/\True)/\((0:Int)<=256/\Int.toNat 256 * 8<=ax/\(0<=(x.1.1.length:Int)/\(x.1.1.length:Int).toNat * 8<=ax/\((List.replicate (x.1.1.length:Int).toNat (0:Int)=List.replicate x.1.1.length (0:Int)/\List.replicate (Int.toNat 256) (0:Int)=List.replicate 256 (0:Int))/\True)/\True)/\True)/\True)/\((0:Int)<=256/\Int.toNat 256 * 8<=ax/\((0<=(x.1.1.length:Int)/\(x.1.1.length:Int).toNat * 8<=ax/\((List.replicate (x.1.1.length:Int).toNat (0:Int)=List.replicate x.1.1.length (0:Int)/\List.replicate (Int.toNat 256) (0:Int)=List.replicate 256 (0:Int))/\True)/\True)/\True)/\True)/\True)/\((0:Int)<=256/\Int.toNat 256 * 8<=ax/\(((0<=(x.1.1.length:Int)/\(x.1.1.length:Int).toNat * 8<=ax/\((List.replicate (x.1.1.length:Int).toNat (0:Int)=List.replicate x.1.1.length (0:Int)/\List.replicate (Int.toNat 256) (0:Int)=List.replicate 256 (0:Int))/\True)/\True)/\True)/\True)/\True)/\True)/\∀ (x_1:List Int×List Int),x_1.1=List.replicate x.1.1.length (0:Int)/\x_1.2=List.replicate 256 (0:Int)->((0:Int)<=0/\0<=(↑(ai x.1).length:Int)/\x_1.1=bQ (List.replicate x.1.1.length (0:Int)) (List.take (Int.toNat 0) (ai x.1)) (kT x.1)/\x_1.2=bQ (List.replicate 256 (0:Int)) (List.take (Int.toNat 0) (ai x.1)) (kT x.1))/\∀ (x_2:List Int×List Int×Int),0<=x_2.2.2/\x_2.2.2<=(↑(ai x.1).length:Int)/\x_2.1=bQ (List.replicate x.1.1.length (0:Int)) (List.take x_2.2.2.toNat (ai x.1)) (kT x.1)/\x_2.2.1=bQ (List.replicate 256 (0:Int)) (List.take x_2.2.2.toNat (ai x.1)) (kT x.1)->(decide (x_2.2.2<(↑(ai x.1).length:Int))=true->0<=x_2.2.2/\x_2.2.2<(↑(ai x.1).length:Int)/\x_2.2.2.toNat<(ai x.1).length/\0<=x_2.2.2/\x_2.2.2<(↑(aq x.1.1 (ai x.1) (List.map (fun (x:bn)=>x.1) x.1.2.2.1)).2.1.length:Int)/\0<=x_2.2.2/\x_2.2.2<(↑(aq x.1.1 (ai x.1) (List.map (fun (x:bn)=>x.1) x.1.2.2.1)).2.1.length:Int)/\0<=(ai x.1).getD x_2.2.2.toNat 0/\(ai x.1).getD x_2.2.2.toNat 0<(x_2.1.length:Int)/\((ai x.1).getD x_2.2.2.toNat 0).toNat<x_2.1.length/\(ai x.1).getD x_2.2.2.toNat 0=(ai x.1).getD x_2.2.2.toNat 0/\0<=(ai x.1).getD x_2.2.2.toNat 0/\(ai x.1).getD x_2.2.2.toNat 0<(x_2.2.1.length:Int)/\((ai x.1).getD x_2.2.2.toNat 0).toNat<x_2.2.1.length/\ah .i64 (x_2.2.2+1)/\(0<=x_2.2.2+1/\x_2.2.2+1<=(↑(ai x.1).length:Int)/\x_2.1.set ((ai x.1).getD x_2.2.2.toNat 0).toNat ((aq x.1.1 (ai x.1) (List.map (fun (x:bn)=>x.1) x.1.2.2.1)).2.1.getD x_2.2.2.toNat 0)=bQ (List.replicate x.1.1.length (0:Int)) (List.take (x_2.2.2+1).toNat (ai x.1)) (kT x.1)/\x_2.2.1.set ((ai x.1).getD x_2.2.2.toNat 0).toNat ((aq x.1.1 (ai x.1) (List.map (fun (x:bn)=>x.1) x.1.2.2.1)).2.1.getD x_2.2.2.toNat 0)=bQ (List.replicate 256 (0:Int)) (List.take (x_2.2.2+1).toNat (ai x.1)) (kT x.1))/\((↑(ai x.1).length:Int) - (x_2.2.2+1)).toNat<((↑(ai x.1).length:Int) - x_2.2.2).toNat)/\(decide (x_2.2.2<(↑(ai x.1).length:Int))=false->True/\True/\True/\((0:Int)<=0/\0<=(↑(an (aq x.1.1 (ai x.1) (List.map (fun (x:bn)=>x.1) x.1.2.2.1)).1).1.length:Int)/\(an (aq x.1.1 (ai x.1) (List.map (fun (x:bn)=>x.1) x.1.2.2.1)).1).1.length<=256/\(∀ (r:cS),r∈(an (aq x.1.1 (ai x.1) (List.map (fun (x:bn)=>x.1) x.1.2.2.1)).1).1->0<=r.2/\r.2<=256)/\0=dF (List.take (Int.toNat 0) (an (aq x.1.1 (ai x.1) (List.map (fun (x:bn)=>x.1) x.1.2.2.1)).1).1)/\(0:Int)<=0/\(0:Int)<=256 * 0)/\∀ (x_3:Int×Int),0<=x_3.2/\x_3.2<=(↑(an (aq x.1.1 (ai x.1) (List.map (fun (x:bn)=>x.1) x.1.2.2.1)).1).1.length:Int)/\(an (aq x.1.1 (ai x.1) (List.map (fun (x:bn)=>x.1) x.1.2.2.1)).1).1.length<=256/\(∀ (r:cS),r∈(an (aq x.1.1 (ai x.1) (List.map (fun (x:bn)=>x.1) x.1.2.2.1)).1).1->0<=r.2/\r.2<=256)/\x_3.1=dF (List.take x_3.2.toNat (an (aq x.1.1 (ai x.1) (List.map (fun (x:bn)=>x.1) x.1.2.2.1)).1).1)/\0<=x_3.1/\x_3.1<=256 * x_3.2->(decide (x_3.2<(↑(an (aq x.1.1 (ai x.1) (List.map (fun (x:bn)=>x.1) x.1.2.2.1)).1).1.length:Int))=true->0<=x_3.2/\x_3.2<(↑(an (aq x.1.1 (ai x.1) (List.map (fun (x:bn)=>x.1) x.1.2.2.1)).1).1.length:Int)/\x_3.2.toNat<(an (aq x.1.1 (ai x.1) (List.map (fun (x:bn)=>x.1) x.1.2.2.1)).1).1.length/\ah .i64 (x_3.1+((an (aq x.1.1 (ai x.1) (List.map (fun (x:bn)=>x.1) x.1.2.2.1)).1).1.getD x_3.2.toNat (0,0)).2)/\ah .i64 (x_3.2+1)/\(0<=x_3.2+1/\x_3.2+1<=(↑(an (aq x.1.1 (ai x.1) (List.map (fun (x:bn)=>x.1) x.1.2.2.1)).1).1.length:Int)/\(an (aq x.1.1 (ai x.1) (List.map (fun (x:bn)=>x.1) x.1.2.2.1)).1).1.length<=256/\(∀ (r:cS),r∈(an (aq x.1.1 (ai x.1) (List.map (fun (x:bn)=>x.1) x.1.2.2.1)).1).1->0<=r.2/\r.2<=256)/\x_3.1+((an (aq x.1.1 (ai x.1) (List.map (fun (x:bn)=>x.1) x.1.2.2.1)).1).1.getD x_3.2.toNat (0,0)).2=dF (List.take (x_3.2+1).toNat (an (aq x.1.1 (ai x.1) (List.map (fun (x:bn)=>x.1) x.1.2.2.1)).1).1)/\0<=x_3.1+((an (aq x.1.1 (ai x.1) (List.map (fun (x:bn)=>x.1) x.1.2.2.1)).1).1.getD x_3.2.toNat (0,0)).2/\x_3.1+((an (aq x.1.1 (ai x.1) (List.map (fun (x:bn)=>x.1) x.1.2.2.1)).1).1.getD x_3.2.toNat (0,0)).2<=256 * (x_3.2+1))/\((↑(an (aq x.1.1 (ai x.1) (List.map (fun (x:bn)=>x.1) x.1.2.2.1)).1).1.length:Int) - (x_3.2+1)).toNat<((↑(an (aq x.1.1 (ai x.1) (List.map (fun (x:bn)=>x.1) x.1.2.2.1)).1).1.length:Int) - x_3.2).toNat)/\(decide (x_3.2<(↑(an (aq x.1.1 (ai x.1) (List.map (fun (x:bn)=>x.1) x.1.2.2.1)).1).1.length:Int))=false->∀ (_:Array Value),True/\True/\True/\(decide ((bw (an (aq x.1.1 (ai x.1) (List.map (fun (x:bn)=>x.1) x.1.2.2.1)).1).1 (if af x.2.2=0 then aa x.2.2 else (0:Int))).2≠0)=true->((!false)=true->(([]:List Int),([]:List Int),([]:List (Int×Int)),([]:List (Int×Bool×Int)))=(ba x.1 x.2.1 x.2.2).1/\false=(ba x.1 x.2.1 x.2.2).2.1/\7=(ba x.1 x.2.1 x.2.2).2.2/\True)/\((!false)=false->0<=x.2.1/\x.2.1<(↑(bg x.1.2.1 (x.1.1.length:Int) x_2.1).1.length:Int)/\x.2.1.toNat<(bg x.1.2.1 (x.1.1.length:Int) x_2.1).1.length/\(([]:List Int),(bg x.1.2.1 (x.1.1.length:Int) x_2.1).1.set x.2.1.toNat 0,x.1.2.2.1,(fT x.1.2.2.2 x_2.2.1).1)=(ba x.1 x.2.1 x.2.2).1/\(!false)=(ba x.1 x.2.1 x.2.2).2.1/\0=(ba x.1 x.2.1 x.2.2).2.2/\True))/\(decide ((bw (an (aq x.1.1 (ai x.1) (List.map (fun (x:bn)=>x.1) x.1.2.2.1)).1).1 (if af x.2.2=0 then aa x.2.2 else (0:Int))).2≠0)=false->True/\0<=(bw (an (aq x.1.1 (ai x.1) (List.map (fun (x:bn)=>x.1) x.1.2.2.1)).1).1 (if af x.2.2=0 then aa x.2.2 else (0:Int))).1/\(bw (an (aq x.1.1 (ai x.1) (List.map (fun (x:bn)=>x.1) x.1.2.2.1)).1).1 (if af x.2.2=0 then aa x.2.2 else (0:Int))).1<(↑(an (aq x.1.1 (ai x.1) (List.map (fun (x:bn)=>x.1) x.1.2.2.1)).1).1.length:Int)/\(bw (an (aq x.1.1 (ai x.1) (List.map (fun (x:bn)=>x.1) x.1.2.2.1)).1).1 (if af x.2.2=0 then aa x.2.2 else (0:Int))).1.toNat<(an (aq x.1.1 (ai x.1) (List.map (fun (x:bn)=>x.1) x.1.2.2.1)).1).1.length/\True/\(ip (cD (aq x.1.1 (ai x.1) (List.map (fun (x:bn)=>x.1) x.1.2.2.1)).1).1 ((an (aq x.1.1 (ai x.1) (List.map (fun (x:bn)=>x.1) x.1.2.2.1)).1).1.getD (bw (an (aq x.1.1 (ai x.1) (List.map (fun (x:bn)=>x.1) x.1.2.2.1)).1).1 (if af x.2.2=0 then aa x.2.2 else (0:Int))).1.toNat (0,0)).1 x.2.2).2=(ip (cD (aq x.1.1 (ai x.1) (List.map (fun (x:bn)=>x.1) x.1.2.2.1)).1).1 ((an (aq x.1.1 (ai x.1) (List.map (fun (x:bn)=>x.1) x.1.2.2.1)).1).1.getD (bw (an (aq x.1.1 (ai x.1) (List.map (fun (x:bn)=>x.1) x.1.2.2.1)).1).1 (if af x.2.2=0 then aa x.2.2 else (0:Int))).1.toNat (0,0)).1 x.2.2).2/\0<=(bw (an (aq x.1.1 (ai x.1) (List.map (fun (x:bn)=>x.1) x.1.2.2.1)).1).1 (if af x.2.2=0 then aa x.2.2 else (0:Int))).1/\(bw (an (aq x.1.1 (ai x.1) (List.map (fun (x:bn)=>x.1) x.1.2.2.1)).1).1 (if af x.2.2=0 then aa x.2.2 else (0:Int))).1<(↑(an (aq x.1.1 (ai x.1) (List.map (fun (x:bn)=>x.1) x.1.2.2.1)).1).1.length:Int)/\(bw (an (aq x.1.1 (ai x.1) (List.map (fun (x:bn)=>x.1) x.1.2.2.1)).1).1 (if af x.2.2=0 then aa x.2.2 else (0:Int))).1.toNat<(an (aq x.1.1 (ai x.1) (List.map (fun (x:bn)=>x.1) x.1.2.2.1)).1).1.length/\((!true)=true->(([]:List Int),([]:List Int),([]:List (Int×Int)),([]:List (Int×Bool×Int)))=(ba x.1 x.2.1 x.2.2).1/\false=(ba x.1 x.2.1 x.2.2).2.1/\7=(ba x.1 x.2.1 x.2.2).2.2/\True)/\((!true)=false->0<=x.2.1/\x.2.1<(↑(bg x.1.2.1 (x.1.1.length:Int) x_2.1).1.length:Int)/\x.2.1.toNat<(bg x.1.2.1 (x.1.1.length:Int) x_2.1).1.length/\((ip (cD (aq x.1.1 (ai x.1) (List.map (fun (x:bn)=>x.1) x.1.2.2.1)).1).1 ((an (aq x.1.1 (ai x.1) (List.map (fun (x:bn)=>x.1) x.1.2.2.1)).1).1.getD (bw (an (aq x.1.1 (ai x.1) (List.map (fun (x:bn)=>x.1) x.1.2.2.1)).1).1 (if af x.2.2=0 then aa x.2.2 else (0:Int))).1.toNat (0,0)).1 x.2.2).1,(bg x.1.2.1 (x.1.1.length:Int) x_2.1).1.set x.2.1.toNat ((an (aq x.1.1 (ai x.1) (List.map (fun (x:bn)=>x.1) x.1.2.2.1)).1).1.getD (bw (an (aq x.1.1 (ai x.1) (List.map (fun (x:bn)=>x.1) x.1.2.2.1)).1).1 (if af x.2.2=0 then aa x.2.2 else (0:Int))).1.toNat (0,0)).1,x.1.2.2.1,(fT x.1.2.2.2 x_2.2.1).1)=(ba x.1 x.2.1 x.2.2).1/\(!false)=(ba x.1 x.2.1 x.2.2).2.1/\0=(ba x.1 x.2.1 x.2.2).2.2/\True)))))/\((!false)=false->0<=x.2.1/\x.2.1<(x.1.2.1.length:Int)/\x.2.1.toNat<x.1.2.1.length/\(([]:List Int),x.1.2.1.set x.2.1.toNat 0,x.1.2.2)=(ba x.1 x.2.1 x.2.2).1/\(!false)=(ba x.1 x.2.1 x.2.2).2.1/\0=(ba x.1 x.2.1 x.2.2).2.2/\True))/\(decide ((bw (an x.1.1).1 (if af x.2.2=0 then aa x.2.2 else (0:Int))).2≠0)=false->True/\0<=(bw (an x.1.1).1 (if af x.2.2=0 then aa x.2.2 else (0:Int))).1/\(bw (an x.1.1).1 (if af x.2.2=0 then aa x.2.2 else (0:Int))).1<(↑(an x.1.1).1.length:Int)/\(bw (an x.1.1).1 (if af x.2.2=0 then aa x.2.2 else (0:Int))).1.toNat<(an x.1.1).1.length/\True/\(ip (cD x.1.1).1 ((an x.1.1).1.getD (bw (an x.1.1).1 (if af x.2.2=0 then aa x.2.2 else (0:Int))).1.toNat (0,0)).1 x.2.2).2=(ip (cD x.1.1).1 ((an x.1.1).1.getD (bw (an x.1.1).1 (if af x.2.2=0 then aa x.2.2 else (0:Int))).1.toNat (0,0)).1 x.2.2).2/\0<=(bw (an x.1.1).1 (if af x.2.2=0 then aa x.2.2 else (0:Int))).1/\(bw (an x.1.1).1 (if af x.2.2=0 then aa x.2.2 else (0:Int))).1<(↑(an x.1.1).1.length:Int)/\(bw (an x.1.1).1 (if af x.2.2=0 then aa x.2.2 else (0:Int))).1.toNat<(an x.1.1).1.length/\((!true)=true->∀ (_:Array Value),(x.1.2.1.length<=32/\x.1.2.2.1.length<=16/\x.1.2.2.2.length<=16)/\True/\((ai x.1).length+(List.map (fun (x:bn)=>x.1) x.1.2.2.1).length) * 8<=140737488355328/\True/\((((0<=(x.1.1.length:Int)/\(x.1.1.length:Int).toNat * 8<=ax/\((0:Int)<=256/\Int.toNat 256 * 8<=ax/\((List.replicate (x.1.1.length:Int).toNat (0:Int)=List.replicate x.1.1.length (0:Int)/\List.replicate (Int.toNat 256) (0:Int)=List.replicate 256 (0:Int))/\True)/\True)/\(((0:Int)<=256/\Int.toNat 256 * 8<=ax/\(List.replicate (x.1.1.length:Int).toNat (0:Int)=List.replicate x.1.1.length (0:Int)/\List.replicate (Int.toNat 256) (0:Int)=List.replicate 256 (0:Int))/\True)/\True)/\True)/\((0:Int)<=256/\Int.toNat 256 * 8<=ax/\(0<=(x.1.1.length:Int)/\(x.1.1.length:Int).toNat * 8<=ax/\((List.replicate (x.1.1.length:Int).toNat (0:Int)=List.replicate x.1.1.length (0:Int)/\List.replicate (Int.toNat 256) (0:Int)=List.replicate 256 (0:Int))/\True)/\True)/\True)/\True)/\((0:Int)<=256/\Int.toNat 256 * 8<=ax/\((0<=(x.1.1.length:Int)/\(x.1.1.length:Int).toNat * 8<=ax/\((List.replicate (x.1.1.length:Int).toNat (0:Int)=List.replicate x.1.1.length (0:Int)/\List.replicate (Int.toNat 256) (0:Int)=List.replicate 256 (0:Int))/\True)/\True)/\True)/\True)/\True)/\((0:Int)<=256/\Int.toNat 256 * 8<=ax/\(((0<=(x.1.1.length:Int)/\(x.1.1.length:Int).toNat * 8<=ax/\((List.replicate (x.1.1.length:Int).toNat (0:Int)=List.replicate x.1.1.length (0:Int)/\List.replicate (Int.toNat 256) (0:Int)=List.replicate 256 (0:Int))/\True)/\True)/\True)/\True)/\True)/\True)/\∀ (x_1:List Int×List Int),x_1.1=List.replicate x.1.1.length (0:Int)/\x_1.2=List.replicate 256 (0:Int)->((0:Int)<=0/\0<=(↑(ai x.1).length:Int)/\x_1.1=bQ (List.replicate x.1.1.length (0:Int)) (List.take (Int.toNat 0) (ai x.1)) (kT x.1)/\x_1.2=bQ (List.replicate 256 (0:Int)) (List.take (Int.toNat 0) (ai x.1)) (kT x.1))/\∀ (x_2:List Int×List Int×Int),0<=x_2.2.2/\x_2.2.2<=(↑(ai x.1).length:Int)/\x_2.1=bQ (List.replicate x.1.1.length (0:Int)) (List.take x_2.2.2.toNat (ai x.1)) (kT x.1)/\x_2.2.1=bQ (List.replicate 256 (0:Int)) (List.take x_2.2.2.toNat (ai x.1)) (kT x.1)->(decide (x_2.2.2<(↑(ai x.1).length:Int))=true->0<=x_2.2.2/\x_2.2.2<(↑(ai x.1).length:Int)/\x_2.2.2.toNat<(ai x.1).length/\0<=x_2.2.2/\x_2.2.2<(↑(aq x.1.1 (ai x.1) (List.map (fun (x:bn)=>x.1) x.1.2.2.1)).2.1.length:Int)/\0<=x_2.2.2/\x_2.2.2<(↑(aq x.1.1 (ai x.1) (List.map (fun (x:bn)=>x.1) x.1.2.2.1)).2.1.length:Int)/\0<=(ai x.1).getD x_2.2.2.toNat 0/\(ai x.1).getD x_2.2.2.toNat 0<(x_2.1.length:Int)/\((ai x.1).getD x_2.2.2.toNat 0).toNat<x_2.1.length/\(ai x.1).getD x_2.2.2.toNat 0=(ai x.1).getD x_2.2.2.toNat 0/\0<=(ai x.1).getD x_2.2.2.toNat 0/\(ai x.1).getD x_2.2.2.toNat 0<(x_2.2.1.length:Int)/\((ai x.1).getD x_2.2.2.toNat 0).toNat<x_2.2.1.length/\ah .i64 (x_2.2.2+1)/\(0<=x_2.2.2+1/\x_2.2.2+1<=(↑(ai x.1).length:Int)/\x_2.1.set ((ai x.1).getD x_2.2.2.toNat 0).toNat ((aq x.1.1 (ai x.1) (List.map (fun (x:bn)=>x.1) x.1.2.2.1)).2.1.getD x_2.2.2.toNat 0)=bQ (List.replicate x.1.1.length (0:Int)) (List.take (x_2.2.2+1).toNat (ai x.1)) (kT x.1)/\x_2.2.1.set ((ai x.1).getD x_2.2.2.toNat 0).toNat ((aq x.1.1 (ai x.1) (List.map (fun (x:bn)=>x.1) x.1.2.2.1)).2.1.getD x_2.2.2.toNat 0)=bQ (List.replicate 256 (0:Int)) (List.take (x_2.2.2+1).toNat (ai x.1)) (kT x.1))/\((↑(ai x.1).length:Int) - (x_2.2.2+1)).toNat<((↑(ai x.1).length:Int) - x_2.2.2).toNat)/\(decide (x_2.2.2<(↑(ai x.1).length:Int))=false->True/\True/\True/\((0:Int)<=0/\0<=(↑(an (aq x.1.1 (ai x.1) (List.map (fun (x:bn)=>x.1) x.1.2.2.1)).1).1.length:Int)/\(an (aq x.1.1 (ai x.1) (List.map (fun (x:bn)=>x.1) x.1.2.2.1)).1).1.length<=256/\(∀ (r:cS),r∈(an (aq x.1.1 (ai x.1) (List.map (fun (x:bn)=>x.1) x.1.2.2.1)).1).1->0<=r.2/\r.2<=256)/\0=dF (List.take (Int.toNat 0) (an (aq x.1.1 (ai x.1) (List.map (fun (x:bn)=>x.1) x.1.2.2.1)).1).1)/\(0:Int)<=0/\(0:Int)<=256 * 0)/\∀ (x_3:Int×Int),0<=x_3.2/\x_3.2<=(↑(an (aq x.1.1 (ai x.1) (List.map (fun (x:bn)=>x.1) x.1.2.2.1)).1).1.length:Int)/\(an (aq x.1.1 (ai x.1) (List.map (fun (x:bn)=>x.1) x.1.2.2.1)).1).1.length<=256/\(∀ (r:cS),r∈(an (aq x.1.1 (ai x.1) (List.map (fun (x:bn)=>x.1) x.1.2.2.1)).1).1->0<=r.2/\r.2<=256)/\x_3.1=dF (List.take x_3.2.toNat (an (aq x.1.1 (ai x.1) (List.map (fun (x:bn)=>x.1) x.1.2.2.1)).1).1)/\0<=x_3.1/\x_3.1<=256 * x_3.2->(decide (x_3.2<(↑(an (aq x.1.1 (ai x.1) (List.map (fun (x:bn)=>x.1) x.1.2.2.1)).1).1.length:Int))=true->0<=x_3.2/\x_3.2<(↑(an (aq x.1.1 (ai x.1) (List.map (fun (x:bn)=>x.1) x.1.2.2.1)).1).1.length:Int)/\x_3.2.toNat<(an (aq x.1.1 (ai x.1) (List.map (fun (x:bn)=>x.1) x.1.2.2.1)).1).1.length/\ah .i64 (x_3.1+((an (aq x.1.1 (ai x.1) (List.map (fun (x:bn)=>x.1) x.1.2.2.1)).1).1.getD x_3.2.toNat (0,0)).2)/\ah .i64 (x_3.2+1)/\(0<=x_3.2+1/\x_3.2+1<=(↑(an (aq x.1.1 (ai x.1) (List.map (fun (x:bn)=>x.1) x.1.2.2.1)).1).1.length:Int)/\(an (aq x.1.1 (ai x.1) (List.map (fun (x:bn)=>x.1) x.1.2.2.1)).1).1.length<=256/\(∀ (r:cS),r∈(an (aq x.1.1 (ai x.1) (List.map (fun (x:bn)=>x.1) x.1.2.2.1)).1).1->0<=r.2/\r.2<=256)/\x_3.1+((an (aq x.1.1 (ai x.1) (List.map (fun (x:bn)=>x.1) x.1.2.2.1)).1).1.getD x_3.2.toNat (0,0)).2=dF (List.take (x_3.2+1).toNat (an (aq x.1.1 (ai x.1) (List.map (fun (x:bn)=>x.1) x.1.2.2.1)).1).1)/\0<=x_3.1+((an (aq x.1.1 (ai x.1) (List.map (fun (x:bn)=>x.1) x.1.2.2.1)).1).1.getD x_3.2.toNat (0,0)).2/\x_3.1+((an (aq x.1.1 (ai x.1) (List.map (fun (x:bn)=>x.1) x.1.2.2.1)).1).1.getD x_3.2.toNat (0,0)).2<=256 * (x_3.2+1))/\((↑(an (aq x.1.1 (ai x.1) (List.map (fun (x:bn)=>x.1) x.1.2.2.1)).1).1.length:Int) - (x_3.2+1)).toNat<((↑(an (aq x.1.1 (ai x.1) (List.map (fun (x:bn)=>x.1) x.1.2.2.1)).1).1.length:Int) - x_3.2).toNat)/\(decide (x_3.2<(↑(an (aq x.1.1 (ai x.1) (List.map (fun (x:bn)=>x.1) x.1.2.2.1)).1).1.length:Int))=false->∀ (_:Array Value),True/\True/\True/\(decide ((bw (an (aq x.1.1 (ai x.1) (List.map (fun (x:bn)=>x.1) x.1.2.2.1)).1).1 (if af x.2.2=0 then aa x.2.2 else (0:Int))).2≠0)=true->((!false)=true->(([]:List Int),([]:List Int),([]:List (Int×Int)),([]:List (Int×Bool×Int)))=(ba x.1 x.2.1 x.2.2).1/\false=(ba x.1 x.2.1 x.2.2).2.1/\7=(ba x.1 x.2.1 x.2.2).2.2/\True)/\((!false)=false->0<=x.2.1/\x.2.1<(↑(bg x.1.2.1 (x.1.1.length:Int) x_2.1).1.length:Int)/\x.2.1.toNat<(bg x.1.2.1 (x.1.1.length:Int) x_2.1).1.length/\(([]:List Int),(bg x.1.2.1 (x.1.1.length:Int) x_2.1).1.set x.2.1.toNat 0,x.1.2.2.1,(fT x.1.2.2.2 x_2.2.1).1)=(ba x.1 x.2.1 x.2.2).1/\(!true)=(ba x.1 x.2.1 x.2.2).2.1/\0=(ba x.1 x.2.1 x.2.2).2.2/\True))/\(decide ((bw (an (aq x.1.1 (ai x.1) (List.map (fun (x:bn)=>x.1) x.1.2.2.1)).1).1 (if af x.2.2=0 then aa x.2.2 else (0:Int))).2≠0)=false->True/\0<=(bw (an (aq x.1.1 (ai x.1) (List.map (fun (x:bn)=>x.1) x.1.2.2.1)).1).1 (if af x.2.2=0 then aa x.2.2 else (0:Int))).1/\(bw (an (aq x.1.1 (ai x.1) (List.map (fun (x:bn)=>x.1) x.1.2.2.1)).1).1 (if af x.2.2=0 then aa x.2.2 else (0:Int))).1<(↑(an (aq x.1.1 (ai x.1) (List.map (fun (x:bn)=>x.1) x.1.2.2.1)).1).1.length:Int)/\(bw (an (aq x.1.1 (ai x.1) (List.map (fun (x:bn)=>x.1) x.1.2.2.1)).1).1 (if af x.2.2=0 then aa x.2.2 else (0:Int))).1.toNat<(an (aq x.1.1 (ai x.1) (List.map (fun (x:bn)=>x.1) x.1.2.2.1)).1).1.length/\True/\(ip (cD (aq x.1.1 (ai x.1) (List.map (fun (x:bn)=>x.1) x.1.2.2.1)).1).1 ((an (aq x.1.1 (ai x.1) (List.map (fun (x:bn)=>x.1) x.1.2.2.1)).1).1.getD (bw (an (aq x.1.1 (ai x.1) (List.map (fun (x:bn)=>x.1) x.1.2.2.1)).1).1 (if af x.2.2=0 then aa x.2.2 else (0:Int))).1.toNat (0,0)).1 x.2.2).2=(ip (cD (aq x.1.1 (ai x.1) (List.map (fun (x:bn)=>x.1) x.1.2.2.1)).1).1 ((an (aq x.1.1 (ai x.1) (List.map (fun (x:bn)=>x.1) x.1.2.2.1)).1).1.getD (bw (an (aq x.1.1 (ai x.1) (List.map (fun (x:bn)=>x.1) x.1.2.2.1)).1).1 (if af x.2.2=0 then aa x.2.2 else (0:Int))).1.toNat (0,0)).1 x.2.2).2/\0<=(bw (an (aq x.1.1 (ai x.1) (List.map (fun (x:bn)=>x.1) x.1.2.2.1)).1).1 (if af x.2.2=0 then aa x.2.2 else (0:Int))).1/\(bw (an (aq x.1.1 (ai x.1) (List.map (fun (x:bn)=>x.1) x.1.2.2.1)).1).1 (if af x.2.2=0 then aa x.2.2 else (0:Int))).1<(↑(an (aq x.1.1 (ai x.1) (List.map (fun (x:bn)=>x.1) x.1.2.2.1)).1).1.length:Int)/\(bw (an (aq x.1.1 (ai x.1) (List.map (fun (x:bn)=>x.1) x.1.2.2.1)).1).1 (if af x.2.2=0 then aa x.2.2 else (0:Int))).1.toNat<(an (aq x.1.1 (ai x.1) (List.map (fun (x:bn)=>x.1) x.1.2.2.1)).1).1.length/\((!true)=true->(([]:List Int),([]:List Int),([]:List (Int×Int)),([]:List (Int×Bool×Int)))=(ba x.1 x.2.1 x.2.2).1/\false=(ba x.1 x.2.1 x.2.2).2.1/\7=(ba x.1 x.2.1 x.2.2).2.2/\True)/\((!true)=false->0<=x.2.1/\x.2.1<(↑(bg x.1.2.1 (x.1.1.length:Int) x_2.1).1.length:Int)/\x.2.1.toNat<(bg x.1.2.1 (x.1.1.length:Int) x_2.1).1.length/\((ip (cD (aq x.1.1 (ai x.1) (List.map (fun (x:bn)=>x.1) x.1.2.2.1)).1).1 ((an (aq x.1.1 (ai x.1) (List.map (fun (x:bn)=>x.1) x.1.2.2.1)).1).1.getD (bw (an (aq x.1.1 (ai x.1) (List.map (fun (x:bn)=>x.1) x.1.2.2.1)).1).1 (if af x.2.2=0 then aa x.2.2 else (0:Int))).1.toNat (0,0)).1 x.2.2).1,(bg x.1.2.1 (x.1.1.length:Int) x_2.1).1.set x.2.1.toNat ((an (aq x.1.1 (ai x.1) (List.map (fun (x:bn)=>x.1) x.1.2.2.1)).1).1.getD (bw (an (aq x.1.1 (ai x.1) (List.map (fun (x:bn)=>x.1) x.1.2.2.1)).1).1 (if af x.2.2=0 then aa x.2.2 else (0:Int))).1.toNat (0,0)).1,x.1.2.2.1,(fT x.1.2.2.2 x_2.2.1).1)=(ba x.1 x.2.1 x.2.2).1/\(!true)=(ba x.1 x.2.1 x.2.2).2.1/\0=(ba x.1 x.2.1 x.2.2).2.2/\True)))))/\((!true)=false->0<=x.2.1/\x.2.1<(x.1.2.1.length:Int)/\x.2.1.toNat<x.1.2.1.length/\((ip (cD x.1.1).1 ((an x.1.1).1.getD (bw (an x.1.1).1 (if af x.2.2=0 then aa x.2.2 else (0:Int))).1.toNat (0,0)).1 x.2.2).1,x.1.2.1.set x.2.1.toNat ((an x.1.1).1.getD (bw (an x.1.1).1 (if af x.2.2=0 then aa x.2.2 else (0:Int))).1.toNat (0,0)).1,x.1.2.2)=(ba x.1 x.2.1 x.2.2).1/\(!true)=(ba x.1 x.2.1 x.2.2).2.1/\0=(ba x.1 x.2.1 x.2.2).2.2/\True))))))
theorem Dd:wI:=by
 unfold wI;intro ⟨s,slot,h⟩ ⟨⟨⟨hb,hw⟩,_⟩,_⟩ _;simp only at hb hw ⊢
 have hM:ba s slot h=if bC s slot≠0 then (aA,false,bC s slot) else if fF h≠0 then (aA,false,fF h) else
  if (gW s.1 h).2.2=true then (((gW s.1 h).1,s.2.1.set slot.toNat (gW s.1 h).2.1,s.2.2),false,0) else
  if (gW (dz s) h).2.2=true then (((gW (dz s) h).1,(s.2.1.map (j7 s)).set slot.toNat (gW (dz s) h).2.1,s.2.2.1,s.2.2.2.map (kf s)),true,0) else (aA,false,7):=rfl
 have hE:bC s slot=if az s≠0 then az s else if slot<0\/(s.2.1.length:Int)<=slot then 5 else 0:=rfl
 have hH:fF h=if af h≠0 then af h else if h.2.2.2=true then 3 else 0:=rfl
 refine ⟨trivial,fun h0=>?_,fun h0=>⟨fun h1=>?_,fun h1=>⟨trivial,fun h2=>?_,fun h2=>⟨fun h3=>?_,fun h3 tm=>⟨trivial,trivial,trivial,by trivial,by trivial,by trivial,by trivial,by trivial,by trivial,trivial,fun tm2=>⟨trivial,trivial,trivial,?_,?_⟩⟩⟩⟩⟩⟩
 ·have h0:=of_decide_eq_true h0;rw [if_pos h0] at hE;rw [hM,hE,if_pos h0];exact ⟨by trivial,by trivial,by trivial,trivial⟩
 all_goals have h0:=of_decide_eq_false h0
 all_goals rw [if_neg h0] at hE
 ·rw [if_pos (by simpa using h1)] at hE;rw [hM,hE,if_pos (by omega)];exact ⟨by trivial,by trivial,by trivial,trivial⟩
 all_goals have h1:¬ (slot<0\/(s.2.1.length:Int)<=slot):=by simpa using h1
 all_goals rw [if_neg h1] at hE
 all_goals rw [hE,if_neg (by omega)] at hM
 ·have h2:=of_decide_eq_true h2;rw [if_pos h2] at hH;rw [hM,hH,if_pos h2];exact ⟨by trivial,by trivial,by trivial,trivial⟩
 all_goals have h2:af h=0:=by simpa using of_decide_eq_false h2
 ·rw [if_neg (by omega),if_pos h3] at hH;rw [hM,hH,if_pos (by omega)];exact ⟨by trivial,by trivial,by trivial,trivial⟩
 all_goals
  rw [if_neg (by omega),if_neg (by rw [h3]; simp)] at hH;rw [hH,if_neg (by omega)] at hM;rw [hM,if_pos h2];have R:=iv hw (by omega:az s=0);have hcl:aq s.1 (ai s) (List.map (fun (x:bn)=>x.1) s.2.2.1)=(dz s,(ai s).map (kT s),0):=R.clean;obtain ⟨hgf,hgi,hgl⟩:=R.gaps;have hfl:=R.fromLen;have hsm:=R.small;have hal:=R.al;have hfm:=fun x=>gB (s:=s) R.root (x:=x)
  have hsr:=R.swapRoots;have hsh:=R.swapHands;have hg1:an s.1=(aM false [] (ac s.1).1,0):=by unfold an; rw [if_neg (by have:=R.chk; omega)]
  have T1:=sW R.chk h2 h3;have T2:=sW R.slidOK.1 h2 h3;rw [hg1];simp only;cases hfd:(aM false [] (ac s.1).1).find? (fun r=>decide (aa h<=r.2)) with
  | none=>?_
  | some r=>?_
  all_goals rw [hfd] at T1
  all_goals simp only at T1
 ·obtain ⟨t1,t2⟩:=T1;rw [t1,t2];simp only;refine fun _=>⟨fun _ tm=>?_,fun hx=>by cases hx⟩
  rw [if_neg (by simp),hcl];simp only;rw [hgf];simp only;generalize aM false [] (ac (dz s)).1=g at *;unfold ax at hb ⊢;refine ⟨hsm,trivial,by rw [List.length_map]; omega,trivial,?_,fun ⟨ra,ha⟩ ⟨q1,q2⟩=>?_⟩
  ·have e1:((s.1.length:Int)).toNat=s.1.length:=by omega
   have e2:Int.toNat 256=256:=rfl;have e3:(0:Int)<=(s.1.length:Int):=by omega
   simp only [e1,e2,e3,hb,true_and,and_true];omega
  simp only at q1 q2;subst q1 q2;refine ⟨⟨by omega,by omega,by simp [bQ],by simp [bQ]⟩,fun ⟨ra,ha,i⟩ ⟨i0,i1,i2,i3⟩=>⟨fun hlt=>?_,fun hge=>?_⟩⟩
  ·simp only at i0 i1 i2 i3 hlt ⊢;have hlt:=of_decide_eq_true hlt;have ht:=bB (0:Int) i0 hlt;have hx:=R.nameIn ((hfm _).1 (aJ (0:Int) i0 hlt));have hm:(List.map (kT s) (ai s)).getD i.toNat 0=kT s ((ai s).getD i.toNat 0):=B7 i0 hlt;have l1:ra.length=s.1.length:=by rw [i2,d6,List.length_replicate]
   have l2:ha.length=256:=by rw [i3,d6,List.length_replicate]
   rw [hm,ht,jH,jH,<- i2,<- i3,l1,l2,List.length_map];generalize (ai s).getD i.toNat 0=x at *;simp only [ah];exact ⟨i0,hlt,by omega,i0,hlt,i0,hlt,hx.1,hx.2,by omega,by first | trivial | rfl,hx.1,by omega,by omega,by omega,⟨by omega,by omega,by trivial,by trivial⟩,by omega⟩
  ·simp only at i0 i1 i2 i3 hge ⊢;have hge:=of_decide_eq_false hge;rw [cA hge] at i2 i3;refine ⟨trivial,trivial,trivial,⟨by omega,by omega,hgl,fun r hr=>by have:=hgi r hr; omega,by trivial,by omega,by omega⟩,fun ⟨n,j⟩ ⟨j0,j1,_,_,j2,j3,j4⟩=>⟨fun hlt=>?_,fun hge tm=>⟨trivial,trivial,trivial,?_⟩⟩⟩
   ·simp only at j0 j1 j2 j3 j4 hlt ⊢;have hlt:=of_decide_eq_true hlt;have hm:=hgi _ (aJ ((0,0):cS) j0 hlt);rw [wm j0 hlt,<- j2];generalize (g.getD j.toNat (0,0)).2=y at *;simp only [ah];exact ⟨j0,hlt,by omega,by omega,by omega,⟨by omega,by omega,hgl,fun r hr=>by have:=hgi r hr; omega,by trivial,by omega,by omega⟩,by omega⟩
   ·rw [i2,i3,hsr,hsh];simp only;cases hfd2:g.find? (fun r=>decide (aa h<=r.2)) with
    | none =>
     rw [hfd2] at T2;simp only at T2;obtain ⟨u1,u2⟩:=T2;rw [u1,u2];exact ⟨fun _=>⟨fun _=>⟨by trivial,by trivial,by trivial,trivial⟩,fun hx=>by cases hx⟩,fun hx=>by simp at hx⟩
    | some r =>
     rw [hfd2] at T2;simp only at T2;obtain ⟨k,k0,k1,u1,u2,u3,u4⟩:=T2;rw [u1,u4];simp only;rw [u2,u3];refine ⟨fun hx=>by simp at hx,fun _=>⟨trivial,k0,k1,by omega,trivial,by trivial,k0,k1,by omega,fun hx=>(by cases hx),fun _=>⟨by omega,by rw [List.length_map]; omega,by rw [List.length_map]; omega,by trivial,by trivial,by trivial,trivial⟩⟩⟩
 ·obtain ⟨i,i0,i1,t1,t2,t3,t4⟩:=T1;rw [t1];exact fun hx=>by simp at hx
 ·obtain ⟨t1,t2⟩:=T1;rw [t1];exact fun hx=>by simp at hx
 ·obtain ⟨i,i0,i1,t1,t2,t3,t4⟩:=T1;rw [t1,t4];simp only;rw [t2,t3];exact fun _=>⟨trivial,i0,i1,by omega,trivial,by trivial,i0,i1,by omega,fun hx=>(by cases hx),fun _=>⟨by omega,by omega,by omega,by trivial,by trivial,by trivial,trivial⟩⟩
theorem Hm:GL.ok Tryz.prog 23:=aD (ann:=Ib) (ae gg (ae iX (ae iW (ae jO (ae Jt (ae Ek (ae Ej (ae qh (ae jM (ae B2 (ae bI (ae ci (ae bZ (ae bJ (ae rE (ae rI ap)))))))))))))))) Tryz.func23 (by kernel_rfl) Dd
end
section
open Go
set_option maxRecDepth 100000
set_option maxHeartbeats 1000000
end
section
open Go
set_option maxRecDepth 100000
set_option maxHeartbeats 1000000
theorem BK {h:List bb} (at_:Int) (hf:aH h=0) :
  openF h at_=if at_<0\/255<at_ then ([],0,4) else if ag aB 0 h<0 then ([],0,7) else (h.set (ag aB 0 h).toNat (k8 h (ag aB 0 h) at_),cW (ag aB 0 h) (k8 h (ag aB 0 h) at_),0):=by
 unfold openF;rw [if_neg (by omega)];by_cases ht:at_<0\/255<at_
 ·rw [if_pos ht,if_pos (by unfold eP; grind)]
 ·rw [if_neg ht,if_neg (by unfold eP; grind)]
abbrev sQ:Ty:=.pair ty_I (.pair ty_I (.pair ty_I (.pair ty_I bi)))
abbrev LZ:=Int×Int×Int×Int×Int
def ca (k a b c v:Int):Bool:=decide (k<1)||decide (13<k)||!(decide (k≠2)&&decide (k≠12))&&decide (a≠0)||!(decide (k=1)||decide (3<=k)&&decide (k<=6)||decide (k=9))&&decide (b≠0)||!(decide (k=1)||decide (k=3)||decide (k=4))&&decide (c≠0)||!(decide (k=1)||decide (k=6)||decide (k=11)||decide (k=12))&&decide (v≠0)
def Nh (b:Bool):Int:=if b=true then 1 else 0
def deed (s:ak) (k a b c v:Int):ak×Int×Int :=
 if k=1 then ((ba s a (b,c,v % 65536,false)).1,Nh (ba s a (b,c,v % 65536,false)).2.1,(ba s a (b,c,v % 65536,false)).2.2)
 else if k=2 then ((dj s).1,(dj s).2,0)
 else if k=3 then ((kG s a b c).1,0,(kG s a b c).2)
 else if k=4 then ((kz s a b c).1,0,(kz s a b c).2)
 else if k=5 then (if aO s a b≠0 then (aA,0,aO s a b) else (s,s.1.getD (bE s (ay s a) b).toNat 0,0))
 else if k=6 then ((jA s a b v).1,0,(jA s a b v).2)
 else if k=7 then iD s a
 else if k=8 then ((cT s a).1,0,(cT s a).2)
 else if k=9 then (if cg s a b≠0 then (aA,0,cg s a b) else (s,s.1.getD (bE s a b).toNat 0,0))
 else if k=10 then fp s a
 else if k=11 then ((jz s v a).1,0,(jz s v a).2)
 else if k=12 then ((fN s v).1,0,(fN s v).2)
 else ((fh s a).1,0,(fh s a).2)
def ar (s:ak) (k a b c v:Int):ak×Int×Int:=if ca k a b c v=true then (aA,0,1) else if az s≠0 then (aA,0,az s) else deed s k a b c v
theorem CI (s:ak) (a b c v:Int):deed s 1 a b c v=((ba s a (b,c,v % 65536,false)).1,Nh (ba s a (b,c,v % 65536,false)).2.1,(ba s a (b,c,v % 65536,false)).2.2):=if_pos rfl
theorem F0 (s:ak) (a b c v:Int):deed s 2 a b c v=((dj s).1,(dj s).2,0):=by unfold deed; rw [if_neg (by omega),if_pos rfl]
theorem FZ (s:ak) (a b c v:Int):deed s 3 a b c v=((kG s a b c).1,0,(kG s a b c).2):=by
 unfold deed
 iterate 2 rw [if_neg (by omega)]
 rw [if_pos rfl]
theorem FY (s:ak) (a b c v:Int):deed s 4 a b c v=((kz s a b c).1,0,(kz s a b c).2):=by
 unfold deed
 iterate 3 rw [if_neg (by omega)]
 rw [if_pos rfl]
theorem CH (s:ak) (a b c v:Int):deed s 5 a b c v=(if aO s a b≠0 then (aA,0,aO s a b) else (s,s.1.getD (bE s (ay s a) b).toNat 0,0)):=by
 unfold deed
 iterate 4 rw [if_neg (by omega)]
 rw [if_pos rfl]
theorem CG (s:ak) (a b c v:Int):deed s 6 a b c v=((jA s a b v).1,0,(jA s a b v).2):=by
 unfold deed
 iterate 5 rw [if_neg (by omega)]
 rw [if_pos rfl]
theorem FX (s:ak) (a b c v:Int):deed s 7 a b c v=iD s a:=by
 unfold deed
 iterate 6 rw [if_neg (by omega)]
 rw [if_pos rfl]
theorem FW (s:ak) (a b c v:Int):deed s 8 a b c v=((cT s a).1,0,(cT s a).2):=by
 unfold deed
 iterate 7 rw [if_neg (by omega)]
 rw [if_pos rfl]
theorem FV (s:ak) (a b c v:Int):deed s 9 a b c v=(if cg s a b≠0 then (aA,0,cg s a b) else (s,s.1.getD (bE s a b).toNat 0,0)):=by
 unfold deed
 iterate 8 rw [if_neg (by omega)]
 rw [if_pos rfl]
theorem zB (s:ak) (a b c v:Int):deed s 10 a b c v=fp s a:=by
 unfold deed
 iterate 9 rw [if_neg (by omega)]
 rw [if_pos rfl]
theorem zA (s:ak) (a b c v:Int):deed s 11 a b c v=((jz s v a).1,0,(jz s v a).2):=by
 unfold deed
 iterate 10 rw [if_neg (by omega)]
 rw [if_pos rfl]
theorem zz (s:ak) (a b c v:Int):deed s 12 a b c v=((fN s v).1,0,(fN s v).2):=by
 unfold deed
 iterate 11 rw [if_neg (by omega)]
 rw [if_pos rfl]
theorem zy (s:ak) (a b c v:Int):deed s 13 a b c v=((fh s a).1,0,(fh s a).2):=by
 unfold deed
 iterate 12 rw [if_neg (by omega)]
theorem E7:∀ (l:List cS),(∀ r∈l,0<=r.2/\r.2<=256)->0<=dF l/\dF l<=256 * (l.length:Int)
 | [],_=>by simp [dF]
 | r::l,h=>by
  have ih:=E7 l fun x hx=>h x (List.mem_cons_of_mem _ hx)
  have h1:=h r List.mem_cons_self;have e:dF (r::l)=r.2+dF l:=by simp [dF]
  rw [e,List.length_cons];omega
end
section
open Go
structure Given (G:List Int) (h:List bb):Prop where
 len:h.length<=16
 ok:∀ s∈h,ee s=0
 old:∀ n∈G,∃ (i:Nat) (g:Int) (s:bb),h[i]?=some s/\n=(i:Int)+65536 * g/\g<=s.1
 live:∀ (i:Nat) (s:bb),h[i]?=some s->s.2.1=true->(i:Int)+65536 * s.1∈G
theorem A5:∀ {h:List bb},br h=0 ↔ ∀ s∈h,ee s=0
 | []=>by simp [br]
 | s::l=>by
  have ih:=A5 (h:=l);simp only [br,List.mem_cons,forall_eq_or_imp];split
  ·rename_i h;exact ⟨fun e=>absurd e h,fun e=>absurd e.1 h⟩
  ·rename_i h;have h:ee s=0:=by omega
   exact ⟨fun e=>⟨h,ih.1 e⟩,fun e=>ih.2 e.2⟩
theorem jq {h:List bb}:aH h=0 ↔ h.length<=16/\∀ s∈h,ee s=0:=by
 unfold aH;split
 ·exact ⟨fun e=>absurd e (by decide),fun e=>by omega⟩
 ·rw [A5];exact ⟨fun e=>⟨by omega,e⟩,fun e=>e.2⟩
theorem gT {s:bb}:ee s=0 ↔ 0<=s.1/\s.1<=65535/\0<=s.2.2/\s.2.2<=255/\(s.2.1=true->s.1≠0)/\(s.2.1=false->s.2.2=0):=by
 unfold ee;split
 ·exact ⟨fun e=>absurd e (by decide),fun e=>by omega⟩
 ·split
  ·rename_i h1 h2;refine ⟨fun e=>absurd e (by decide),fun e=>?_⟩;rcases h2 with ⟨a,b⟩ | ⟨a,b⟩
   ·exact absurd b (e.2.2.2.2.1 a)
   ·exact absurd (e.2.2.2.2.2 a) b
  ·rename_i h1 h2;refine ⟨fun _=>⟨by omega,by omega,by omega,by omega,fun a b=>h2 (.inl ⟨a,b⟩),fun a=>?_⟩,fun _=>rfl⟩;apply Classical.byContradiction;intro b;exact h2 (.inr ⟨a,b⟩)
theorem Given.new (n:Nat) (hn:n<=16):Given [] (List.replicate n (0,false,0)) where
 len:=by simp; omega
 ok:=fun s hs=>by rw [List.eq_of_mem_replicate hs]; decide
 old:=fun n h=>by cases h
 live:=fun i s h e=>by
  rw [List.getElem?_replicate] at h;split at h
  ·injection h with h
   subst h;cases e
  ·cases h
theorem Given.map {G:List Int} {h:List bb} (H:Given G h) (f:bb->bb) (h1:∀ s,(f s).1=s.1/\(f s).2.1=s.2.1) (h2:∀ s∈h,ee (f s)=0):Given G (h.map f) where
 len:=by simpa using H.len
 ok:=fun s hs=>by
  obtain ⟨t,ht,rfl⟩:=List.mem_map.1 hs;exact h2 t ht
 old:=fun n hn=>by
  obtain ⟨i,g,s,e1,e2,e3⟩:=H.old n hn;exact ⟨i,g,f s,by rw [List.getElem?_map,e1]; rfl,e2,by rw [(h1 s).1]; exact e3⟩
 live:=fun i s hi e=>by
  rw [List.getElem?_map] at hi;obtain ⟨t,ht,rfl⟩:=Option.map_eq_some_iff.1 hi;rw [(h1 t).1];exact H.live i t ht (by rw [<- (h1 t).2]; exact e)
theorem Given.shut {G:List Int} {h:List bb} (H:Given G h) {k:Nat} {s:bb} (hk:h[k]?=some s):Given G (h.set k (s.1,false,0)) where
 len:=by simpa using H.len
 ok:=fun t ht=>by
  rcases List.mem_or_eq_of_mem_set ht with ht | rfl
  ·exact H.ok t ht
  ·have:=gT.1 (H.ok s (List.mem_of_getElem? hk));exact gT.2 ⟨this.1,this.2.1,Int.le_refl _,(show (0:Int)<=255 by decide),(fun e=>by cases e),fun _=>rfl⟩
 old:=fun n hn=>by
  obtain ⟨i,g,t,e1,e2,e3⟩:=H.old n hn;by_cases e:k=i
  ·subst e;rw [hk] at e1;injection e1 with e1
   subst e1;exact ⟨k,g,(s.1,false,0),List.getElem?_set_self (List.getElem?_eq_some_iff.1 hk).1,e2,e3⟩
  ·exact ⟨i,g,t,by rw [List.getElem?_set_ne e]; exact e1,e2,e3⟩
 live:=fun i t hi e=>by
  by_cases ek:k=i
  ·subst ek;rw [List.getElem?_set_self (List.getElem?_eq_some_iff.1 hk).1] at hi;injection hi with hi
   subst hi;cases e
  ·rw [List.getElem?_set_ne ek] at hi;exact H.live i t hi e
theorem Given.opn {G:List Int} {h:List bb} (H:Given G h) {k:Nat} {s:bb} (hk:h[k]?=some s) (hg:s.1<65535) {at_:Int} (h0:0<=at_) (h1:at_<=255) :
  (k:Int)+65536 * (s.1+1) ∉ G/\Given (G++[(k:Int)+65536 * (s.1+1)]) (h.set k (s.1+1,true,at_)):=by
 have hs:=gT.1 (H.ok s (List.mem_of_getElem? hk));have hl:∀ {i:Nat} {t:bb},h[i]?=some t->i<16:=fun e=>Nat.lt_of_lt_of_le (List.getElem?_eq_some_iff.1 e).1 H.len
 refine ⟨fun hn=>?_,?_,?_,?_,?_⟩
 ·obtain ⟨i,g,t,e1,e2,e3⟩:=H.old _ hn;have a1:=hl hk;have a2:=hl e1;obtain rfl:i=k:=by omega
  rw [hk] at e1;injection e1 with e1
  subst e1;omega
 ·simpa using H.len
 ·intro t ht;rcases List.mem_or_eq_of_mem_set ht with ht | rfl
  ·exact H.ok t ht
  ·exact gT.2 ⟨by simp only; omega,by simp only; omega,h0,h1,(fun _=>by simp only; omega),fun e=>by cases e⟩
 ·intro n hn;rcases List.mem_append.1 hn with hn | hn
  ·obtain ⟨i,g,t,e1,e2,e3⟩:=H.old n hn;by_cases e:k=i
   ·subst e;rw [hk] at e1;injection e1 with e1
    subst e1;exact ⟨k,g,(s.1+1,true,at_),List.getElem?_set_self (List.getElem?_eq_some_iff.1 hk).1,e2,by simp only; omega⟩
   ·exact ⟨i,g,t,by rw [List.getElem?_set_ne e]; exact e1,e2,e3⟩
  ·simp only [List.mem_singleton] at hn;exact ⟨k,s.1+1,(s.1+1,true,at_),List.getElem?_set_self (List.getElem?_eq_some_iff.1 hk).1,hn,Int.le_refl _⟩
 ·intro i t hi e;by_cases ek:k=i
  ·subst ek;rw [List.getElem?_set_self (List.getElem?_eq_some_iff.1 hk).1] at hi;injection hi with hi
   subst hi;simp
  ·rw [List.getElem?_set_ne ek] at hi;exact List.mem_append_left _ (H.live i t hi e)
theorem xi:∀ (h:List bb) (k:Nat),∀ n∈cn k h,∃ (i:Nat) (s:bb),h[i]?=some s/\s.2.1=true/\n=((k+i:Nat):Int)+65536 * s.1
 | [],k,n,hn=>by simp [cn] at hn
 | s::l,k,n,hn=>by
  have ih:=xi l (k+1)
  have step:n∈cn ((k:Int)+1) l->∃ (i:Nat) (t:bb),(s::l)[i]?=some t/\t.2.1=true/\n=((k+i:Nat):Int)+65536 * t.1:=fun hm=>by
   obtain ⟨i,t,e1,e2,e3⟩:=ih n (by simpa using hm);exact ⟨i+1,t,by simpa using e1,e2,by rw [e3]; congr 1; omega⟩
  simp only [cn] at hn;split at hn
  ·rename_i h;rcases List.mem_cons.1 hn with rfl | hn
   ·exact ⟨0,s,rfl,h,by simp [cW]⟩
   ·exact step hn
  ·exact step hn
theorem Given.all {G:List Int} {h:List bb} (H:Given G h):jR h=(cn 0 h,0)/\∀ n∈cn 0 h,n∈G:=by
 refine ⟨by unfold jR; rw [if_neg (by rw [jq.2 ⟨H.len,H.ok⟩]; decide)],fun n hn=>?_⟩;obtain ⟨i,s,e1,e2,e3⟩:=xi h 0 n hn;rw [e3,Nat.zero_add];exact H.live i s e1 e2
theorem Given.openF {G:List Int} {h:List bb} (H:Given G h) {at_:Int} {r:List bb×Int×Int} (e:openF h at_=r) (h0:r.2.2=0):r.2.1 ∉ G/\Given (G++[r.2.1]) r.1:=by
 have hf:=jq.2 ⟨H.len,H.ok⟩;rw [BK at_ hf] at e;split at e
 ·subst e; exact absurd h0 (by decide)
 split at e
 ·subst e; exact absurd h0 (by decide)
 rename_i ha hi;subst e;have hr:=eA aB h 0;have hlt:ag aB 0 h<(h.length:Int):=by omega
 have his:=dX aB (0,false,0) h 0 (by omega) (Int.le_refl _);obtain ⟨i,hi'⟩:=Int.eq_ofNat_of_zero_le (show 0<=ag aB 0 h by omega);simp only [hi',Int.sub_zero,Int.toNat_natCast] at his ⊢;have hil:i<h.length:=by omega
 have hk:h[i]?=some h[i]:=List.getElem?_eq_getElem hil;have hd:h.getD i (0,false,0)=h[i]:=by simp [List.getD,hk]
 rw [hd] at his;unfold aB at his;simp only [Bool.and_eq_true,decide_eq_true_eq] at his;have:=H.opn hk his.2 (at_:=at_) (by omega) (by omega);unfold k8 cW;simp only [Int.toNat_natCast,hd];exact this
theorem Given.closeF {G:List Int} {h:List bb} (H:Given G h) {n:Int} {r:List bb×Int} (e:closeF h n=r) (h0:r.2=0):Given G r.1:=by
 unfold Go.Proofs.YtmfileeamnfpaaaGreatDoor.closeF at e;split at e
 ·rename_i hb;subst e;exact absurd h0 hb
 ·rename_i hb;subst e;have hb:(ce h n).2=0:=by omega
  unfold ce at hb ⊢;split at hb
  ·rename_i h1; simp only at hb; exact absurd hb h1
  rename_i hh;rw [if_neg hh];split at hb
  ·rename_i h1;rw [if_pos h1];simp only;obtain ⟨i,hi⟩:=Int.eq_ofNat_of_zero_le (show 0<=n % 65536 by omega);simp only [hi,Int.toNat_natCast] at h1 ⊢;have hil:i<h.length:=by omega
   have hk:h[i]?=some h[i]:=List.getElem?_eq_getElem hil;have hd:h.getD i (0,false,0)=h[i]:=by simp [List.getD,hk]
   rw [hd];exact H.shut hk
  ·simp at hb
end
section
open Go
theorem Ax:∀ (at_:Int) (l:List Int) (r:List aw),spotsS at_ l=some r->∀ m:List Int,m.length=l.length->(∀ s∈r,m.getD (s.1 - at_).toNat 0=l.getD (s.1 - at_).toNat 0)->spotsS at_ m=some r:=by
 intro at_ l r h
 induction at_,l using spotsS.induct generalizing r with
 | case1 at_ =>
  intro m hm _;rw [List.eq_nil_of_length_eq_zero hm];exact h
 | case2 at_ v l hv ih =>
  intro m hm hk;rw [cK hv.1 hv.2] at h;obtain ⟨r',hr,rfl⟩:=Option.map_eq_some_iff.1 h;have hl:=dU hv.1
  match m,hm,hk with
  | u::m,hm,hk =>
   have h0:=hk (at_,aV v) List.mem_cons_self;simp only [Int.sub_self,Int.toNat_zero,List.getD_cons_zero] at h0;subst h0;rw [cK hv.1 (by rw [hm]; exact hv.2),ih r' hr ((u::m).drop (aa (aV u)).toNat) (by simp only [List.length_drop,hm]) (fun s hs=>?_)]
   ·rfl
   ·have h1:=(pW _ _ _ hr s hs).1;have h2:=hk s (List.mem_cons_of_mem _ hs)
    have e:∀ w:List Int,(w.drop (aa (aV u)).toNat).getD (s.1 - (at_+aa (aV u))).toNat 0=w.getD (s.1 - at_).toNat 0:=fun w=>by
     rw [List.getD_eq_getElem?_getD,List.getElem?_drop,List.getD_eq_getElem?_getD];congr 2;omega
    rw [e,e];exact h2
 | case3 at_ v l hv =>
  rw [eH hv] at h;cases h
theorem Az {a b:List Int} (h:(ac a).2=0) (hl:b.length=a.length) (hk:∀ s∈(ac a).1,b.getD s.1.toNat 0=a.getD s.1.toNat 0):ac b=ac a:=by
 have hal:=(gq h).1;unfold ac at h hk ⊢;rw [if_neg (by omega)] at h hk;rw [if_neg (by omega),if_neg (by omega)];cases e:spotsS 0 a with
 | none=>rw [e] at h; simp at h
 | some l =>
  rw [e] at hk;rw [Ax 0 a l e b hl (fun s hs=>by rw [Int.sub_zero]; exact hk s hs)]
theorem uS {b:List Int} {l:List aw} (hs:ac b=(l,0)) (hr:∀ s∈l,∀ v∈aS b s,v=0\/1<=v/\isB l (v - 1)=true):(am b).2.2=0:=by
 have hsort:=bV b;have hrange:=cJ (a:=b);rw [hs] at hsort hrange;unfold am;rw [hs,if_neg (by simp),if_pos];refine List.all_eq_true.2 fun s hm=>List.all_eq_true.2 fun v hv=>?_
 have h:=hr s hm v hv;rw [<- wZ hsort hrange (by omega)];rcases h with rfl | ⟨h1,h2⟩
 ·simp [nameOf]
 ·have hb:=gA (a:=b) (x:=v - 1) (by rw [hs]; exact h2);have:nameOf v=v - 1:=by unfold nameOf; rw [if_neg (by omega)]
  rw [this,fq,h2,Bool.or_true]
theorem lA {a:List Int} (hw:∀ x∈a,ah .u64 x) (hc:(am a).2.2=0):∀ s∈(ac a).1,∀ v∈aS a s,v=0\/1<=v/\isB (ac a).1 (v - 1)=true:=fun s hs v hv=>by
 rcases nF hw hc s hs v hv with h | ⟨h1,_,h2⟩
 ·exact .inl h
 ·exact .inr ⟨h1,h2⟩
theorem Ap:∀ {l:List aw} {s e:Int},fi s e l->∀ x∈l,∀ y∈l,x=y\/x.1+aa x.2<=y.1\/y.1+aa y.2<=x.1:=by
 intro l
 have low:∀ {l:List aw} {s e:Int},fi s e l->∀ x∈l,s<=x.1:=by
  intro l
  induction l with
  | nil=>intro s e _ x hx; cases hx
  | cons z l ih =>
   intro s e h x hx;obtain ⟨h1,h2,h3⟩:=h;rcases List.mem_cons.1 hx with rfl | hx
   ·omega
   ·have:=ih h3 x hx;omega
 induction l with
 | nil=>intro s e _ x hx; cases hx
 | cons z l ih =>
  intro s e h x hx y hy;obtain ⟨h1,h2,h3⟩:=h;rcases List.mem_cons.1 hx with ex | hx' <;> rcases List.mem_cons.1 hy with ey | hy'
  ·exact .inl (ex.trans ey.symm)
  ·have:=low h3 y hy';rw [ex];exact .inr (.inl (by omega))
  ·have:=low h3 x hx';rw [ey];exact .inr (.inr (by omega))
  ·exact ih h3 x hx' y hy'
theorem lW {a:List Int} (h:(ac a).2=0) {x y:aw} (hx:x∈(ac a).1) (hy:y∈(ac a).1):x=y\/x.1+aa x.2<=y.1\/y.1+aa y.2<=x.1:=Ap (fC h) x hx y hy
theorem wo {a:List Int} (h:(ac a).2=0) {x:aw} (hx:x∈(ac a).1) {p:Int} (h1:x.1<p) (h2:p<x.1+aa x.2) (v:Int):ac (a.set p.toNat v)=ac a:=by
 refine Az h (by simp) fun s hs=>?_
 have h0:=(cJ s hs).1;have hx0:=(cJ x hx).1
 have hne:p.toNat≠s.1.toNat:=by
  have hls:1<=aa s.2:=by
   have:=aX ((gq h).2 s hs).2;unfold aa;omega
  rcases lW h hx hs with rfl | e | e <;> omega
 rw [List.getD_eq_getElem?_getD,List.getElem?_set_ne hne,<- List.getD_eq_getElem?_getD]
theorem I5 {a:List Int} {s:aw} {p:Nat} {v u:Int} (h:u∈aS (a.set p v) s):u=v\/u∈aS a s:=by
 unfold aS at h ⊢;rw [List.take_set] at h;rw [List.drop_set] at h;split at h
 ·exact .inr h
 ·rcases List.mem_or_eq_of_mem_set h with h | h
  ·exact .inr h
  ·exact .inl h
section
variable {s:ak}
theorem Right.isIn (R:Right s) {x:Int} (h:isB (ac s.1).1 x=true):0<=x/\x<s.1.length:=by
 obtain ⟨l1,l2,l3,l4,l5,l6⟩:=bW h;omega
theorem yy {r:List Int} {n:Int} (h0:0<=n) (h1:n<=256) (h2:r.length<=32) (h3:∀ v∈r,-1<=v/\v<n):aG r n=0:=by
 unfold aG;rw [if_neg (by omega),if_neg (by omega),if_neg];intro h;obtain ⟨v,hv,e⟩:=List.any_eq_true.1 h;have:=h3 v hv;simp only [dc,Bool.not_eq_true',Bool.and_eq_false_iff,decide_eq_false_iff_not] at e;omega
theorem Right.roots (R:Right s):s.2.1.length<=32/\∀ v∈s.2.1,-1<=v/\v<(s.1.length:Int):=⟨R.small.1,fun _ hv=>sq (j9 R.root) hv⟩
theorem cj {x:Int}:x∈cP s ↔ (x∈s.2.1/\0<=x)\/(∃ h∈s.2.2.2,h.2.1=true/\h.2.2=x)\/∃ p∈s.2.2.1,p.1=x:=by
 unfold cP gw;simp only [List.mem_append,List.mem_filter,List.mem_map,decide_eq_true_eq];constructor
 ·rintro ((h | ⟨t,⟨h1,h2⟩,h3⟩) | ⟨p,h1,h2⟩)
  ·exact .inl h
  ·exact .inr (.inl ⟨t,h1,h2,h3⟩)
  ·exact .inr (.inr ⟨p,h1,h2⟩)
 ·rintro (h | ⟨t,h1,h2,h3⟩ | ⟨p,h1,h2⟩)
  ·exact .inl (.inl h)
  ·exact .inl (.inr ⟨t,⟨h1,h2⟩,h3⟩)
  ·exact .inr ⟨p,h1,h2⟩
theorem Right.setRoot (R:Right s) {k:Nat} {v:Int} (hv:v=-1\/isB (ac s.1).1 v=true):Right (s.1,s.2.1.set k v,s.2.2):=by
 have hr:=R.roots;have hal:=R.al
 have hvr:-1<=v/\v<(s.1.length:Int):=by
  rcases hv with rfl | h
  ·omega
  ·have:=R.isIn h;omega
 refine ⟨R.w,R.chk,yy (by simp only; omega) (by simp only; omega) (by simp only [List.length_set]; exact hr.1) (fun u hu=>?_),R.pin,R.hand,fun x hx=>?_⟩
 ·rcases List.mem_or_eq_of_mem_set hu with h | rfl
  ·exact hr.2 u h
  ·exact hvr
 ·rcases cj.1 hx with ⟨h,h0⟩ | h | h
  ·rcases List.mem_or_eq_of_mem_set h with h | rfl
   ·exact R.nam x (cj.2 (.inl ⟨h,h0⟩))
   ·rcases hv with rfl | h
    ·omega
    ·exact h
  ·exact R.nam x (cj.2 (.inr (.inl h)))
  ·exact R.nam x (cj.2 (.inr (.inr h)))
theorem Right.arena (R:Right s) {b:List Int} (hw:∀ x∈b,ah .u64 x) (hl:b.length=s.1.length) (hs:ac b=ac s.1) (hr:∀ t∈(ac s.1).1,∀ u∈aS b t,u=0\/1<=u/\isB (ac s.1).1 (u - 1)=true):Right (b,s.2):=by
 have h2:=(bq R.chk).2.2.2.1;refine ⟨hw,uS (l:=(ac s.1).1) (by rw [hs,<- h2]) hr,by simp only; rw [hl]; exact R.root,R.pin,R.hand,fun x hx=>?_⟩;simp only;rw [hs];exact R.nam x hx
theorem Right.setRef (R:Right s) {x k v:Int} (O:ObjAt s x) (k0:0<=k) (k1:k<(eG s.1 x).1) (hv:v=0\/1<=v/\isB (ac s.1).1 (v - 1)=true):Right (s.1.set (x+1+k).toNat v,s.2):=by
 have h2:=(bq R.chk).2.2.2.1;have hin:=(ff O.isb).1
 have hvr:ah .u64 v:=by
  simp only [ah];rcases hv with rfl | ⟨h1,h⟩
  ·omega
  ·have:=gA h;omega
 have hL:aa (eG s.1 x)=1+(eG s.1 x).1+(eG s.1 x).2.1:=rfl;have hb0:=O.b0;refine R.arena (fun u hu=>?_) (by simp) (wo h2 hin (by simp only; omega) (by simp only; omega) v) (fun t ht u hu=>?_)
 ·rcases List.mem_or_eq_of_mem_set hu with h | rfl
  ·exact R.w u h
  ·exact hvr
 ·rcases I5 hu with rfl | h
  ·exact hv
  ·exact lA R.w R.chk t ht u h
theorem Right.setBody (R:Right s) {x k v:Int} (O:ObjAt s x) (k0:0<=k) (k1:k<(eG s.1 x).2.1) (hv:ah .u64 v):Right (s.1.set (bE s x k).toNat v,s.2):=by
 have h2:=(bq R.chk).2.2.2.1;have hin:=(ff O.isb).1;have hL:aa (eG s.1 x)=1+(eG s.1 x).1+(eG s.1 x).2.1:=rfl;have hr0:=O.r0;have hx0:=O.x0;unfold bE;refine R.arena (fun u hu=>?_) (by simp) (wo h2 hin (by simp only; omega) (by simp only; omega) v) (fun t ht u hu=>?_)
 ·rcases List.mem_or_eq_of_mem_set hu with h | rfl
  ·exact R.w u h
  ·exact hv
 ·have ht2:=aX ((gq h2).2 t ht).2;have htr:=(cJ t ht).1;have hLt:aa t.2=1+t.2.1+t.2.2.1:=rfl;rw [qf (a:=s.1) htr ht2.1 (fun j j0 j1=>?_)] at hu
  ·exact lA R.w R.chk t ht u hu
  ·rw [List.getElem?_set_ne];rcases lW h2 hin ht with e | e | e
   ·subst e;simp only at *;omega
   ·simp only at e;omega
   ·simp only at e;omega
end
theorem sw {p:List bn} (h1:p.length<=16) (h2:p.Pairwise (fun x y=>x.1<y.1)) (h3:∀ x∈p,0<=x.1/\x.1<=255/\1<=x.2/\x.2<=1000000):bP p=0:=by
 have scan:∀ (p:List bn) (q:Int),p.Pairwise (fun x y=>x.1<y.1)->(∀ x∈p,q<x.1/\0<=x.1/\x.1<=255/\1<=x.2/\x.2<=1000000)->cL q p=0:=by
  intro p
  induction p with
  | nil=>intro q _ _; rfl
  | cons x l ih =>
   intro q hp hr;obtain ⟨h1,h2⟩:=List.pairwise_cons.1 hp;have hx:=hr x List.mem_cons_self;unfold cL;rw [if_neg (by simp only [lC,Bool.or_eq_true,decide_eq_true_eq]; omega),if_neg (by omega)];exact ih x.1 h2 fun y hy=>⟨h1 y hy,(hr y (List.mem_cons_of_mem _ hy)).2⟩
 unfold bP;rw [if_neg (by omega)];exact scan p _ h2 fun x hx=>by have:=h3 x hx; omega
theorem oY {A B C:List bn} {k v:Int} (hp:(A++C).Pairwise (fun x y=>x.1<y.1)) (hC:C=B\/∃ w,C=(k,w)::B) (hA:∀ x∈A,x.1<k) (hB:∀ x∈B,k<x.1):(A++(k,v)::B).Pairwise (fun x y=>x.1<y.1)/\(A++B).Pairwise (fun x y=>x.1<y.1):=by
 obtain ⟨h1,h2,h3⟩:=List.pairwise_append.1 hp
 have hBp:B.Pairwise (fun x y=>x.1<y.1):=by
  rcases hC with rfl | ⟨w,rfl⟩
  ·exact h2
  ·exact (List.pairwise_cons.1 h2).2
 refine ⟨List.pairwise_append.2 ⟨h1,List.pairwise_cons.2 ⟨fun y hy=>hB y hy,hBp⟩,fun x hx y hy=>?_⟩,List.pairwise_append.2 ⟨h1,hBp,fun x hx y hy=>?_⟩⟩
 ·rcases List.mem_cons.1 hy with rfl | hy
  ·exact hA x hx
  ·have:=hA x hx;have:=hB y hy;omega
 ·have:=hA x hx;have:=hB y hy;omega
theorem ML {p:List bn} {k:Int} (h:(gm p k).2.2=0):bP (gm p k).1=0/\∀ x∈(gm p k).1,x.1=k\/∃ y∈p,y.1=x.1:=by
 unfold gm at h ⊢;split at h
 ·rename_i h1; simp only at h; exact absurd h h1
 rename_i h1;rw [if_neg h1];split at h
 ·simp at h
 rename_i h2;rw [if_neg h2];simp only;have h0:(aE p k).2.2=0:=by omega
 obtain ⟨k1,k2,k3,k4⟩:=uv h0;obtain ⟨q1,q2,q3⟩:=oX k1;obtain ⟨A,B,e,e2,hl,hA,hB,h3⟩:=lp h0;rw [e2];rcases h3 with ⟨b1,b2,b3⟩ | ⟨b1,b2,b3,b4⟩
 ·rw [if_neg (by rw [b1]; simp),b3,Eu];have hlen:(A++B).length≠16:=fun e=>h2 (.inr ⟨b1,by rw [b3]; exact e⟩)
  rw [b3] at q1 q2 q3;refine ⟨sw (by simp only [List.length_append,List.length_cons] at *; omega) (oY q2 (.inl rfl) hA hB).1 (fun x hx=>?_),fun x hx=>?_⟩
  ·rcases List.mem_append.1 hx with hx | hx
   ·exact q3 x (List.mem_append_left _ hx)
   ·rcases List.mem_cons.1 hx with rfl | hx
    ·have:=k2;simp only;omega
    ·exact q3 x (List.mem_append_right _ hx)
  ·rcases List.mem_append.1 hx with hx | hx
   ·exact .inr ⟨x,List.mem_append_left _ hx,rfl⟩
   ·rcases List.mem_cons.1 hx with rfl | hx
    ·exact .inl rfl
    ·exact .inr ⟨x,List.mem_append_right _ hx,rfl⟩
 ·rw [if_pos b1];have hm:fg p k≠1000000:=fun e=>h2 (.inl e)
  generalize fg p k=v at *;subst b4;rw [s9];refine ⟨sw (by simp only [List.length_append,List.length_cons] at *; omega) (oY q2 (.inr ⟨v,rfl⟩) hA hB).1 (fun x hx=>?_),fun x hx=>?_⟩
  ·rcases List.mem_append.1 hx with hx | hx
   ·exact q3 x (List.mem_append_left _ hx)
   ·rcases List.mem_cons.1 hx with rfl | hx
    ·have:=q3 (k,v) (by simp);simp only at this ⊢;omega
    ·exact q3 x (List.mem_append_right _ (List.mem_cons_of_mem _ hx))
  ·rcases List.mem_append.1 hx with hx | hx
   ·exact .inr ⟨x,List.mem_append_left _ hx,rfl⟩
   ·rcases List.mem_cons.1 hx with rfl | hx
    ·exact .inl rfl
    ·exact .inr ⟨x,List.mem_append_right _ (List.mem_cons_of_mem _ hx),rfl⟩
theorem Lz {p:List bn} {k:Int} (h:(dC p k).2.2=0):bP (dC p k).1=0/\∀ x∈(dC p k).1,∃ y∈p,y.1=x.1:=by
 unfold dC at h ⊢;split at h
 ·rename_i h1; simp only at h; exact absurd h h1
 rename_i h1;rw [if_neg h1];split at h
 ·simp at h
 rename_i h2;rw [if_neg h2];simp only;have h0:(aE p k).2.2=0:=by omega
 obtain ⟨k1,k2,k3,k4⟩:=uv h0;obtain ⟨q1,q2,q3⟩:=oX k1;obtain ⟨A,B,e,e2,hl,hA,hB,h3⟩:=lp h0;rw [e2];rcases h3 with ⟨b1,b2,b3⟩ | ⟨b1,b2,b3,b4⟩
 ·exact absurd b1 h2
 ·generalize fg p k=v at *;subst b4;by_cases hv:v=1
  ·rw [if_pos hv,EM];refine ⟨sw (by simp only [List.length_append,List.length_cons] at *; omega) (oY (v:=v) q2 (.inr ⟨v,rfl⟩) hA hB).2 (fun x hx=>?_),fun x hx=>?_⟩
   ·rcases List.mem_append.1 hx with hx | hx
    ·exact q3 x (List.mem_append_left _ hx)
    ·exact q3 x (List.mem_append_right _ (List.mem_cons_of_mem _ hx))
   ·rcases List.mem_append.1 hx with hx | hx
    ·exact ⟨x,List.mem_append_left _ hx,rfl⟩
    ·exact ⟨x,List.mem_append_right _ (List.mem_cons_of_mem _ hx),rfl⟩
  ·rw [if_neg hv,s9];refine ⟨sw (by simp only [List.length_append,List.length_cons] at *; omega) (oY q2 (.inr ⟨v,rfl⟩) hA hB).1 (fun x hx=>?_),fun x hx=>?_⟩
   ·rcases List.mem_append.1 hx with hx | hx
    ·exact q3 x (List.mem_append_left _ hx)
    ·rcases List.mem_cons.1 hx with rfl | hx
     ·have:=q3 (k,v) (by simp);simp only at this ⊢;omega
     ·exact q3 x (List.mem_append_right _ (List.mem_cons_of_mem _ hx))
   ·rcases List.mem_append.1 hx with hx | hx
    ·exact ⟨x,List.mem_append_left _ hx,rfl⟩
    ·rcases List.mem_cons.1 hx with rfl | hx
     ·exact ⟨(k,v),by simp,rfl⟩
     ·exact ⟨x,List.mem_append_right _ (List.mem_cons_of_mem _ hx),rfl⟩
section
variable {s:ak}
theorem Right.setPins (R:Right s) {p:List bn} (h0:bP p=0) (h:∀ x∈p,isB (ac s.1).1 x.1=true):Right (s.1,s.2.1,p,s.2.2.2) :=
 ⟨R.w,R.chk,R.root,h0,R.hand,fun x hx=>by
  rcases cj.1 hx with h1 | h1 | ⟨y,h1,rfl⟩
  ·exact R.nam x (cj.2 (.inl h1))
  ·exact R.nam x (cj.2 (.inr (.inl h1)))
  ·exact h y h1⟩
theorem Right.setHands (R:Right s) {h:List bb} (h0:aH h=0) (hh:∀ x∈h,x.2.1=true->isB (ac s.1).1 x.2.2=true):Right (s.1,s.2.1,s.2.2.1,h) :=
 ⟨R.w,R.chk,R.root,R.pin,h0,fun x hx=>by
  rcases cj.1 hx with h1 | ⟨y,h1,h2,rfl⟩ | h1
  ·exact R.nam x (cj.2 (.inl h1))
  ·exact hh y h1 h2
  ·exact R.nam x (cj.2 (.inr (.inr h1)))⟩
theorem Right.pinB (R:Right s) {x:bn} (h:x∈s.2.2.1):isB (ac s.1).1 x.1=true:=R.nam _ (cj.2 (.inr (.inr ⟨x,h,rfl⟩)))
theorem Right.handB (R:Right s) {x:bb} (h:x∈s.2.2.2) (h1:x.2.1=true):isB (ac s.1).1 x.2.2=true:=R.nam _ (cj.2 (.inr (.inl ⟨x,h,h1,rfl⟩)))
theorem Right.rootB (R:Right s) {v:Int} (h:v∈s.2.1) (h1:0<=v):isB (ac s.1).1 v=true:=R.nam _ (cj.2 (.inl ⟨h,h1⟩))
theorem Right.given (R:Right s):s.2.2.2.length<=16/\∀ x∈s.2.2.2,ee x=0:=jq.1 R.hand
end
end
section
open Go
theorem kJ {k:Int} (hk:k<=256):∀ x∈bN k,ah .u64 x:=by
 intro x hx;unfold bN at hx;split at hx
 ·rcases List.mem_cons.1 hx with rfl | hx
  ·simp only [aI,ah,if_true];omega
  ·rw [List.eq_of_mem_replicate hx];simp only [ah];omega
 ·cases hx
theorem Ja {l:List Int} {x:Int} (h:x∈l):l.getD (cC l x).toNat 0=x:=by
 have hp:=jm h;have:=dX (fun y=>decide (y=x)) (0:Int) l 0 hp.1 (Int.le_refl _);rw [Int.sub_zero] at this;exact of_decide_eq_true this
section
variable {a keep pinned long:List Int}
theorem K4 (hw:∀ x∈a,ah .u64 x) (hP:Plan a keep pinned long) {i:Nat} (hi:i<keep.length):∀ x∈gK a keep (aC keep long pinned) (keep.getD i 0),ah .u64 x:=by
 intro x hx;unfold gK at hx;have hb:=hP.isb _ (dS hi);obtain ⟨l1,l2,l3,l4,l5,l6⟩:=bW hb;rcases List.mem_cons.1 hx with rfl | hx
 ·exact hw _ (aJ (0:Int) (xs:=a) (i:=keep.getD i 0) (by omega) (by omega))
 rcases List.mem_append.1 hx with hx | hx
 ·obtain ⟨v,_,rfl⟩:=List.mem_map.1 hx;unfold jQ kF;split
  ·simp only [Option.getD_some,ah]; omega
  split
  ·rename_i hk;have hp:=jm (cu.1 hk);rw [kH (by omega)];have h1:=hP.le (cC keep (v - 1)).toNat (by omega);have h2:=(cf pinned hP.pre (cC keep (v - 1)).toNat (by omega)).1;have h3:=hP.lg (cC keep (v - 1)).toNat (by omega);obtain ⟨_,_,_,_,k5,k6⟩:=bW (hP.isb _ (dS (i:=(cC keep (v - 1)).toNat) (by omega)));have hal:=hP.al;simp only [Option.getD_some,ah];omega
  ·simp only [Option.getD_none,ah]; omega
 ·unfold gD iq at hx;exact hw x (List.mem_of_mem_take (List.mem_of_mem_drop hx))
theorem I1 (hw:∀ x∈a,ah .u64 x) (hP:Plan a keep pinned long):∀ n:Nat,n<=keep.length->∀ x∈mY a keep (aC keep long pinned) pinned long n,ah .u64 x
 | 0,_,x,hx=>by cases hx
 | n+1,hn,x,hx=>by
  simp only [mY] at hx;rcases List.mem_append.1 hx with hx | hx
  ·exact I1 hw hP n (by omega) x hx
  rcases List.mem_append.1 hx with hx | hx
  ·have h1:=hP.le n (by omega);have h2:=(cf pinned hP.pre n (by omega)).1;have h3:=hP.lg n (by omega);obtain ⟨_,_,_,_,k5,k6⟩:=bW (hP.isb _ (dS (i:=n) (by omega)));have hal:=hP.al;exact kJ (by omega) x hx
  ·exact K4 hw hP (by omega) x hx
theorem KY (hw:∀ x∈a,ah .u64 x) (hP:Plan a keep pinned long):∀ x∈lI a keep (aC keep long pinned) pinned long (b9 a.length keep long pinned),ah .u64 x:=by
 intro x hx;rw [oB _ hP] at hx;rcases List.mem_append.1 hx with hx | hx
 ·exact I1 hw hP _ (Nat.le_refl _) x hx
 ·have h2:=(cf pinned hP.pre keep.length (Nat.le_refl _)).1;have hal:=hP.al;exact kJ (by omega) x hx
theorem IZ (hP:Plan a keep pinned long) {i:Nat} (hi:i<keep.length):isB (jG a keep pinned long) (fc pinned keep long i)=true:=by
 rw [<- fq,cu];exact lB (List.mem_append_left _ (ta (pinned:=pinned) (long:=long) (a:=a) keep.length hi)) (ff (hP.isb _ (dS hi))).2.2.2.2.2
end
section
variable {s:ak}
theorem Right.toB (R:Right s) {x:Int} (hx:x∈cP s):isB (ac (dz s)).1 (kT s x)=true:=by
 have hp:=jm (R.keepIn hx);have hi:(cC (dA s) x).toNat<(dA s).length:=by omega
 rw [R.slidOK.2.2];unfold kT;rw [kH hi];exact IZ R.plan hi
theorem Right.toPin (R:Right s) {x:Int} (hx:x∈cG s):kT s x=x:=by
 have hk:=R.keepIn (R.pinsIn x hx);have hp:=jm hk;have hi:(cC (dA s) x).toNat<(dA s).length:=by omega
 unfold kT;rw [kH hi];unfold fc;rw [Ja hk,if_pos (cu.2 hx)]
theorem Right.swept (R:Right s):Right (jZ s):=by
 have hal:=R.al;obtain ⟨k1,k2,k3⟩:=R.slidOK;have hr:=R.roots;have hg:=R.given;refine ⟨?_,k1,yy (by show (0:Int)<=((dz s).length:Nat); omega) (by show (((dz s).length:Nat):Int)<=256; omega) (by show (s.2.1.map (j7 s)).length<=32; rw [List.length_map]; exact hr.1) (fun v hv=>?_),R.pin,jq.2 ⟨by show (s.2.2.2.map (kf s)).length<=16; rw [List.length_map]; exact hg.1,fun x hx=>?_⟩,fun x hx=>?_⟩
 ·show ∀ x∈dz s,ah .u64 x;rw [R.slid];exact KY R.w R.plan
 ·obtain ⟨u,hu,rfl⟩:=List.mem_map.1 hv;show -1<=j7 s u/\j7 s u<((dz s).length:Nat);rw [k2];unfold j7;split
  ·rename_i h0;have:=R.toIn (cj.2 (.inl ⟨hu,h0⟩));omega
  ·have:=hr.2 u hu;omega
 ·obtain ⟨t,ht,rfl⟩:=List.mem_map.1 hx;have h1:=gT.1 (hg.2 t ht);unfold kf;split
  ·rename_i h2;have:=R.toIn (cj.2 (.inr (.inl ⟨t,ht,h2,rfl⟩)));refine gT.2 ⟨h1.1,h1.2.1,this.1,by simp only; omega,h1.2.2.2.2.1,fun e=>?_⟩;simp only at e;rw [e] at h2;cases h2
  ·exact hg.2 t ht
 ·show isB (ac (dz s)).1 x=true;rcases cj.1 hx with ⟨h,h0⟩ | ⟨y,h,h1,rfl⟩ | ⟨p,h,rfl⟩
  ·obtain ⟨u,hu,rfl⟩:=List.mem_map.1 (show x∈s.2.1.map (j7 s) from h);unfold j7 at h0 ⊢;split at h0
   ·rename_i h2;rw [if_pos h2];exact R.toB (cj.2 (.inl ⟨hu,h2⟩))
   ·omega
  ·obtain ⟨t,ht,rfl⟩:=List.mem_map.1 (show y∈s.2.2.2.map (kf s) from h);unfold kf at h1 ⊢;split at h1
   ·rename_i h2;rw [if_pos h2];exact R.toB (cj.2 (.inr (.inl ⟨t,ht,h2,rfl⟩)))
   ·rename_i h2;exact absurd h1 h2
  ·have hp:p.1∈cG s:=List.mem_map.2 ⟨p,h,rfl⟩;have:=R.toB (R.pinsIn _ hp);rw [R.toPin hp] at this;exact this
end
end
section
open Go
theorem GB:∀ (at_:Int) (l:List Int) (k:List aw),spotsS at_ l=some k->∀ (A:List aw) (s:aw) (B:List aw),k=A++s::B ->
  ∃ X W Y,l=X++(W++Y)/\(X.length:Int)=s.1 - at_/\(W.length:Int)=aa s.2/\(∀ Z,spotsS at_ (X++Z)=(spotsS s.1 Z).map (A++·))/\spotsS (s.1+aa s.2) Y=some B:=by
 intro at_ l k h
 induction at_,l using spotsS.induct generalizing k with
 | case1 at_ =>
  intro A s B e;simp only [spotsS,Option.some.injEq] at h;rw [<- h] at e;simp at e
 | case2 at_ v l hv ih =>
  intro A s B e;rw [cK hv.1 hv.2] at h;obtain ⟨r',hr,rfl⟩:=Option.map_eq_some_iff.1 h;have hl:=dU hv.1;have hle:=hv.2;obtain ⟨n,hn⟩:∃ n:Nat,(aa (aV v)).toNat=n+1:=⟨(aa (aV v)).toNat - 1,by omega⟩
  have hlen:(l.take n).length=n:=by
   rw [List.length_take];simp only [List.length_cons] at hle;omega
  cases A with
  | nil =>
   simp only [List.nil_append,List.cons.injEq] at e;obtain ⟨rfl,rfl⟩:=e;refine ⟨[],v::l.take n,(v::l).drop (aa (aV v)).toNat,?_,by simp,?_,fun Z=>?_,hr⟩
   ·rw [hn];simp
   ·simp only [List.length_cons,hlen];omega
   ·simp only [List.nil_append];cases spotsS at_ Z <;> rfl
  | cons t A =>
   simp only [List.cons_append,List.cons.injEq] at e;obtain ⟨rfl,rfl⟩:=e;obtain ⟨X,W,Y,e1,e2,e3,e4,e5⟩:=ih _ hr A s B rfl;refine ⟨v::l.take n++X,W,Y,?_,?_,e3,fun Z=>?_,e5⟩
   ·rw [List.append_assoc,<- e1,hn];simp
   ·simp only [List.length_append,List.length_cons,hlen];omega
   ·rw [List.append_assoc,gH hv.1 (by rw [hlen]; omega),e4];cases spotsS s.1 Z <;> rfl
 | case3 at_ v l hv =>
  rw [eH hv] at h;cases h
theorem GA {b:List Int} (h:(ac b).2=0):spotsS 0 b=some (ac b).1:=by
 unfold ac at h ⊢;split at h
 ·simp at h
 rename_i hl;rw [if_neg hl];cases e:spotsS 0 b with
 | none=>rw [e] at h; simp at h
 | some l=>rfl
theorem Ch {X V V' Y:List Int} (h:V.length=V'.length) {j:Nat} (hj:j<X.length\/X.length+V.length<=j):(X++(V++Y))[j]?=(X++(V'++Y))[j]?:=by
 rcases hj with hj | hj
 ·rw [List.getElem?_append_left hj,List.getElem?_append_left hj]
 ·rw [List.getElem?_append_right (by omega),List.getElem?_append_right (by omega),List.getElem?_append_right (by omega),List.getElem?_append_right (by omega),h]
theorem BI {a:List Int} (hw:∀ x∈a,ah .u64 x) (hc:(am a).2.2=0) {r:cS} {h:dZ} (hr:r∈aM false [] (ac a).1) (h0:af h=0) (hf:h.2.2.2=false) (hl:aa h<=r.2) :
  (∀ x∈eZ a r h,ah .u64 x)/\(am (eZ a r h)).2.2=0/\(eZ a r h).length=a.length/\(∀ x,isB (ac a).1 x=true->isB (ac (eZ a r h)).1 x=true)/\isB (ac (eZ a r h)).1 r.1=true:=by
 obtain ⟨h1,h2,h3,h4,h5⟩:=uj hc;obtain ⟨hal,_,_,hsz,_⟩:=bq hc;rw [h5] at hr;obtain ⟨s,hs,hsf,er⟩:=ln hr;have hz:(am (cD a).1).2.2=0:=by rw [h1]
 obtain ⟨_,_,k1,k2,_⟩:=bq hz;have hsp:(ac (cD a).1).1=bA (ac a).1:=by rw [h1] at k1; exact k1.symm
 obtain ⟨A,B,eAB⟩:=List.append_of_mem hs;have hS:spotsS 0 (cD a).1=some (A++s::B):=by rw [GA k2,hsp,eAB]
 obtain ⟨X,W,Y,e1,e2,e3,e4,e5⟩:=GB 0 _ _ hS A s B rfl;have hn:=aX h0;have hL:aa h=1+h.1+h.2.1:=rfl;have er1:r.1=s.1:=by rw [er]
 have er2:r.2=aa s.2:=by rw [er]
 have hsr:=cJ s (a:=(cD a).1) (by rw [hsp]; exact hs)
 have hXY:X.length+(W.length+Y.length)=a.length:=by
  have:=congrArg List.length e1;rw [h4] at this;simpa using this.symm
 have hW:W=bN r.2:=by
  obtain ⟨X',Y',eW,hX',_⟩:=lP _ 0 h3 (by omega) hs;rw [if_pos hsf] at eW;rw [<- h2,e1] at eW;have hx:X.length=X'.length:=by omega
  obtain ⟨rfl,e⟩:=List.append_inj eW hx;have hl2:W.length=(bN (aa s.2)).length:=by rw [bG]; omega
  rw [er2];exact (List.append_inj e hl2).1
 obtain ⟨m,hm⟩:∃ m:Nat,aa h=(m:Int)+1:=⟨(aa h - 1).toNat,by omega⟩;obtain ⟨V,hV⟩:∃ V,V=(aI h::List.replicate m 0)++bN (r.2 - aa h):=⟨_,rfl⟩
 have hVl:V.length=W.length:=by
  rw [hV,hW];simp only [List.length_append,List.length_cons,List.length_replicate,bG];omega
 have hP:eZ a r h=X++(V++Y):=by
  unfold eZ;rw [e1,hW,er1]
  have hWc:bN r.2=aI (0,r.2 - 1,0,true)::(List.replicate m 0++List.replicate (r.2 - aa h).toNat 0):=by
   unfold bN;rw [if_pos (by omega),List.replicate_append_replicate];congr 2;omega
  rw [hWc];have hcut:X++(aI (0,r.2 - 1,0,true)::(List.replicate m 0++List.replicate (r.2 - aa h).toNat 0)++Y)=(X++aI (0,r.2 - 1,0,true)::List.replicate m 0)++(List.replicate (r.2 - aa h).toNat 0++Y):=by simp only [List.append_assoc,List.cons_append]
  have hem:aU ((X++aI (0,r.2 - 1,0,true)::List.replicate m 0)++(List.replicate (r.2 - aa h).toNat 0++Y)) (s.1+aa h) (r.2 - aa h)=(X++aI (0,r.2 - 1,0,true)::List.replicate m 0)++(bN (r.2 - aa h)++Y):=by
   by_cases hz:0<r.2 - aa h
   ·rw [ob (by simp only [List.length_append,List.length_cons,List.length_replicate]; omega) (by omega) hz (by simp),List.drop_left' (by simp)]
   ·have:r.2 - aa h=0:=by omega
    rw [this];simp [aU,bN]
  rw [hcut,hem,hV]
  have hset:((X++aI (0,r.2 - 1,0,true)::List.replicate m 0)++(bN (r.2 - aa h)++Y)).set s.1.toNat (aI h)=(X++aI h::List.replicate m 0)++(bN (r.2 - aa h)++Y):=by
   rw [List.append_assoc,List.cons_append,oC _ (by omega)];simp
  rw [hset];simp
 have hJw:∀ x∈(cD a).1,ah .u64 x:=by
  intro x hx;rw [h2] at hx
  have tw:∀ k:List aw,(∀ t∈k,t.2.2.2.2=true->aa t.2<=256)->∀ x∈gG a k,ah .u64 x:=by
   intro k
   induction k with
   | nil=>intro _ x hx; cases hx
   | cons t k ih =>
    intro hk x hx;simp only [gG] at hx;rcases List.mem_append.1 hx with hx | hx
    ·split at hx
     ·rename_i ht;exact kJ (hk t List.mem_cons_self ht) x hx
     ·exact hw x (List.mem_of_mem_drop (List.mem_of_mem_take hx))
    ·exact ih (fun t ht=>hk t (List.mem_cons_of_mem _ ht)) x hx
  exact tw _ (fun t ht hf=>by
   obtain ⟨_,_,_,_,_,q⟩:=lP _ 0 h3 (by omega) ht;have:=(cJ t (a:=(cD a).1) (by rw [hsp]; exact ht)).1;omega) x hx
 have hhw:ah .u64 (aI h):=by
  have hx:h.1<=255/\h.2.1<=255:=by omega
  unfold aI;rw [hf];simp only [ah,Bool.false_eq_true,if_false];omega
 obtain ⟨F,hF⟩:∃ F,F=(if 0<r.2 - aa h then [aF (s.1+aa h) (r.2 - aa h)] else []):=⟨_,rfl⟩
 have hspots:ac (eZ a r h)=(A++((s.1,h)::(F++B)),0):=by
  refine ky (by rw [hP]; simp only [List.length_append]; omega) ?_;obtain ⟨q1,q2⟩:=rO h0;rw [hP,e4,hV,List.append_assoc,gH q2 (by rw [q1]; simp only [List.length_replicate]; omega),q1,gp (by omega),hF];by_cases hz:0<r.2 - aa h
  ·rw [if_pos hz,if_pos hz,show s.1+aa h+(r.2 - aa h)=s.1+aa s.2 by omega,e5];rfl
  ·rw [if_neg hz,if_neg hz,show s.1+aa h=s.1+aa s.2 by omega,e5];rfl
 have hB:∀ x,isB (A++s::B) x=true->isB (A++((s.1,h)::(F++B))) x=true:=by
  intro x hx;rw [<- fq,cu] at hx ⊢
  have app:∀ (K L:List aw),aY (K++L)=aY K++aY L:=by
   intro K L
   induction K with
   | nil=>rfl
   | cons t K ih =>
    simp only [List.cons_append,aY,ih];split
    ·rfl
    ·rfl
  rw [app] at hx ⊢;simp only [aY,hsf,if_true,hf,Bool.false_eq_true,if_false] at hx ⊢;rcases List.mem_append.1 hx with hx | hx
  ·exact List.mem_append_left _ hx
  ·refine List.mem_append_right _ (List.mem_cons_of_mem _ ?_);rw [app];exact List.mem_append_right _ hx
 have hold:∀ x,isB (ac a).1 x=true->isB (A++s::B) x=true:=by
  intro x hx;rw [<- fq] at hx ⊢;rw [<- eAB,mE];exact hx
 have hnew:isB (A++((s.1,h)::(F++B))) s.1=true:=by
  rw [<- fq,cu];exact lB (t:=s.1) (h:=h) (List.mem_append_right _ List.mem_cons_self) hf
 have hlen:(eZ a r h).length=a.length:=by
  rw [hP];simp only [List.length_append];omega
 refine ⟨fun x hx=>?_,uS hspots (fun t ht v hv=>?_),hlen,fun x hx=>by rw [hspots]; exact hB x (hold x hx),by rw [hspots,er1]; exact hnew⟩
 ·rw [hP,hV] at hx
  have hJ:∀ x,x∈X\/x∈Y->ah .u64 x:=fun x hx=>hJw x (by
   rw [e1];rcases hx with hx | hx
   ·exact List.mem_append_left _ hx
   ·exact List.mem_append_right _ (List.mem_append_right _ hx))
  rcases List.mem_append.1 hx with hx | hx
  ·exact hJ x (.inl hx)
  rcases List.mem_append.1 hx with hx | hx
  ·rcases List.mem_append.1 hx with hx | hx
   ·rcases List.mem_cons.1 hx with rfl | hx
    ·exact hhw
    ·rw [List.eq_of_mem_replicate hx];simp only [ah];omega
   ·exact kJ (by omega) x hx
  ·exact hJ x (.inr hx)
 ·
  have hrefs:∀ t,t∈A++s::B->t≠s->aS (eZ a r h) t=aS (cD a).1 t:=by
   intro t ht hne;have htJ:t∈(ac (cD a).1).1:=by rw [hsp,eAB]; exact ht
   have hsJ:s∈(ac (cD a).1).1:=by rw [hsp]; exact hs
   have ht2:=aX ((gq k2).2 t htJ).2;have hLt:aa t.2=1+t.2.1+t.2.2.1:=rfl;refine qf (cJ t htJ).1 ht2.1 fun j j0 j1=>?_
   rw [hP,e1];refine Ch hVl ?_;rcases lW k2 htJ hsJ with e | e | e
   ·exact absurd e hne
   ·left; omega
   ·right; omega
  have old:∀ t,t∈A++s::B->t≠s->v∈aS (eZ a r h) t->v=0\/1<=v/\isB (A++((s.1,h)::(F++B))) (v - 1)=true:=by
   intro t ht hne hv;rw [hrefs t ht hne] at hv;rcases lA hJw hz t (by rw [hsp,eAB]; exact ht) v hv with h | ⟨h1,h2⟩
   ·exact .inl h
   ·rw [hsp,eAB] at h2;exact .inr ⟨h1,hB _ h2⟩
  have hsort:=bV (cD a).1;rw [hsp,eAB] at hsort;obtain ⟨_,hs2,hs3⟩:=List.pairwise_append.1 hsort;rcases List.mem_append.1 ht with ht | ht
  ·exact old t (List.mem_append_left _ ht) (fun e=>by have:=hs3 t ht s List.mem_cons_self; rw [e] at this; omega) hv
  rcases List.mem_cons.1 ht with rfl | ht
  ·left;unfold aS at hv;rw [hP,hV] at hv;have hx:(X.length:Int)=s.1:=by omega
   have e6:(s.1+1+h.1).toNat=X.length+(1+h.1.toNat):=by omega
   have e7:(s.1+1).toNat=X.length+1:=by omega
   simp only at hv;rw [e6,e7,List.take_append,List.drop_append,List.drop_of_length_le (by rw [List.length_take]; omega),List.nil_append,List.take_of_length_le (by omega:X.length<=_),show X.length+1 - X.length=1 by omega,show X.length+(1+h.1.toNat) - X.length=h.1.toNat+1 by omega,List.append_assoc,List.cons_append,List.take_succ_cons,List.drop_succ_cons,List.drop_zero,List.take_append_of_le_length (by rw [List.length_replicate]; omega)] at hv;exact List.eq_of_mem_replicate (List.mem_of_mem_take hv)
  rcases List.mem_append.1 ht with ht | ht
  ·rw [hF] at ht;split at ht
   ·rw [List.mem_singleton.1 ht] at hv;unfold aS aF at hv;simp only [Int.add_zero] at hv;rw [List.drop_of_length_le (by rw [List.length_take]; omega)] at hv;cases hv
   ·cases ht
  ·exact old t (List.mem_append_right _ (List.mem_cons_of_mem _ ht)) (fun e=>by have:=(List.pairwise_cons.1 hs2).1 t ht; rw [e] at this; omega) hv
end
section
open Go
section
variable {s:ak}
theorem Right.arena2 (R:Right s) {b:List Int} (hw:∀ x∈b,ah .u64 x) (hc:(am b).2.2=0) (hl:b.length=s.1.length) (hb:∀ x,isB (ac s.1).1 x=true->isB (ac b).1 x=true):Right (b,s.2) :=
 ⟨hw,hc,by simp only; rw [hl]; exact R.root,R.pin,R.hand,fun x hx=>hb x (R.nam x hx)⟩
theorem Right.laid (R:Right s) {slot:Int} {h:dZ} (hh:fF h=0) (ht:(iM s slot h).2=true):Right (iM s slot h).1:=by
 obtain ⟨h0,hf⟩:=Ll hh;unfold iM gW at ht ⊢;split at ht
 ·simp at ht
 ·rename_i r hr;have hm:=List.mem_of_find?_eq_some hr;have hle:aa h<=r.2:=by simpa using List.find?_some hr
  obtain ⟨p1,p2,p3,p4,p5⟩:=BI R.w R.chk hm h0 hf hle;exact (R.arena2 p1 p2 p3 p4).setRoot (.inr p5)
theorem Right.make (R:Right s) {slot:Int} {h:dZ} (e:(ba s slot h).2.2=0):Right (ba s slot h).1:=by
 unfold ba at e ⊢;split at e
 ·rename_i h1; simp only at e; exact absurd e h1
 rename_i h1;split at e
 ·rename_i h2; simp only at e; exact absurd e h2
 rename_i h2;rw [if_neg h1,if_neg h2];have hh:fF h=0:=by omega
 split at e
 ·rename_i h3;rw [if_pos h3];exact R.laid hh h3
 rename_i h3;rw [if_neg h3];split at e
 ·rename_i h4;rw [if_pos h4];exact R.swept.laid hh h4
 ·simp at e
theorem Hb (R:Right s) {a b c:Int} (e:(kG s a b c).2=0):Right (kG s a b c).1:=by
 unfold kG at e ⊢;split at e
 ·rename_i h; exact absurd e h
 rename_i h;rw [if_neg h];obtain ⟨_,O,b0,b1,c0,c1⟩:=yE R.w (by omega:bv s a b c=0);refine R.setRoot ?_;have hin:=ff O.isb;obtain ⟨l1,l2,l3,l4,l5,l6⟩:=bW O.isb
 have hm:s.1.getD (ay s a+1+b).toNat 0∈bF s.1 (ay s a):=by
  unfold bF aS;rw [List.mem_iff_getElem?];refine ⟨b.toNat,?_⟩;rw [List.getElem?_drop,List.getElem?_take,if_pos (by simp only; omega),show (ay s a+1).toNat+b.toNat=(ay s a+1+b).toNat by omega];have hlt:(ay s a+1+b).toNat<s.1.length:=by omega
  simp [List.getD_eq_getElem?_getD,hlt]
 rcases lA R.w R.chk _ hin.1 _ hm with h | ⟨_,h⟩
 ·exact .inl (by omega)
 ·exact .inr h
theorem G5 (R:Right s) {a b c:Int} (e:(kz s a b c).2=0):Right (kz s a b c).1:=by
 unfold kz at e ⊢;split at e
 ·rename_i h; exact absurd e h
 rename_i h;rw [if_neg h];obtain ⟨_,O,b0,b1,c0,c1⟩:=yE R.w (by omega:bv s a b c=0);refine R.setRef O b0 b1 ?_;have hr:=R.rootIn c0 c1;by_cases h0:0<=ay s c
 ·refine .inr ⟨by omega,?_⟩;rw [show ay s c+1 - 1=ay s c by omega];exact R.rootB (aJ (0:Int) c0 c1) h0
 ·left;unfold ay at *;omega
theorem Hc (R:Right s) {a b v:Int} (hv:ah .u64 v) (e:(jA s a b v).2=0):Right (jA s a b v).1:=by
 unfold jA at e ⊢;split at e
 ·rename_i h; exact absurd e h
 rename_i h;rw [if_neg h];obtain ⟨_,O,b0,b1,_⟩:=zJ R.w (by omega:aO s a b=0);exact R.setBody O b0 b1 hv
theorem He (R:Right s) {a:Int} (e:(iD s a).2.2=0):Right (iD s a).1:=by
 unfold iD at e ⊢;split at e
 ·rename_i h; exact absurd e h
 rename_i h;rw [if_neg h];split at e
 ·rename_i h2; exact absurd e h2
 rename_i h2;rw [if_neg h2];obtain ⟨_,a0,a1,O⟩:=nJ R.w (by omega:bo s a=0);obtain ⟨p1,p2⟩:=ML (by omega:(gm s.2.2.1 (ay s a)).2.2=0);refine R.setPins p1 fun x hx=>?_
 rcases p2 x hx with h | ⟨y,hy,h⟩
 ·rw [h]; exact O.isb
 ·rw [<- h]; exact R.pinB hy
theorem Ao (R:Right s) {a:Int} (e:(cT s a).2=0):Right (cT s a).1:=by
 unfold cT at e ⊢;split at e
 ·rename_i h; exact absurd e h
 rename_i h;rw [if_neg h];split at e
 ·rename_i h2; exact absurd e h2
 rename_i h2;rw [if_neg h2];obtain ⟨p1,p2⟩:=Lz (by omega:(dC s.2.2.1 a).2.2=0);refine R.setPins p1 fun x hx=>?_
 obtain ⟨y,hy,h⟩:=p2 x hx;rw [<- h];exact R.pinB hy
theorem D6 (R:Right s) {a:Int} (e:(fp s a).2.2=0):Right (fp s a).1:=by
 unfold fp at e ⊢;split at e
 ·rename_i h; exact absurd e h
 rename_i h;rw [if_neg h];split at e
 ·rename_i h2; exact absurd e h2
 rename_i h2;rw [if_neg h2];obtain ⟨_,a0,a1,O⟩:=nJ R.w (by omega:bo s a=0);have h2:(openF s.2.2.2 (ay s a)).2.2=0:=by omega
 have hb:=gA O.isb;rw [BK _ R.hand] at h2 ⊢;split at h2
 ·simp at h2
 rename_i h3;rw [if_neg h3];split at h2
 ·simp at h2
 rename_i h4;rw [if_neg h4];have hr:=eA aB s.2.2.2 0;have hi:=dX aB (0,false,0) s.2.2.2 0 (by omega) (Int.le_refl _);rw [Int.sub_zero] at hi;generalize ag aB 0 s.2.2.2=i at *;unfold aB at hi;simp only [Bool.and_eq_true,decide_eq_true_eq] at hi;have hg:=R.given;have hgd:=aJ ((0,false,0):bb) (xs:=s.2.2.2) (i:=i) (by omega) (by omega);have hbad:=gT.1 (hg.2 _ hgd);refine R.setHands (jq.2 ⟨by simpa using hg.1,fun x hx=>?_⟩) fun x hx h1=>?_
 ·rcases List.mem_or_eq_of_mem_set hx with hx | rfl
  ·exact hg.2 x hx
  ·unfold k8;exact gT.2 ⟨by simp only; omega,by have:=hi.2; simp only; omega,by simp only; omega,by simp only; omega,(fun _=>by simp only; omega),fun e=>by cases e⟩
 ·rcases List.mem_or_eq_of_mem_set hx with hx | rfl
  ·exact R.handB hx h1
  ·exact O.isb
theorem Gu (R:Right s) {v a:Int} (e:(jz s v a).2=0):Right (jz s v a).1:=by
 unfold jz at e ⊢;split at e
 ·rename_i h; exact absurd e h
 rename_i h;rw [if_neg h];split at e
 ·rename_i h2; exact absurd e h2
 rename_i h2;rw [if_neg h2];refine R.setRoot (.inr ?_);unfold gO at h2 ⊢;split at h2
 ·rename_i h3; exact absurd h3 h2
 rename_i h3;rw [if_neg h3];simp only;unfold ce at h3 ⊢;split at h3
 ·rename_i h4; exact absurd h4 h3
 rename_i h4;rw [if_neg h4];split at h3
 ·rename_i h5;rw [if_pos h5];simp only;exact R.handB (aJ ((0,false,0):bb) (by omega) (by omega)) h5.2.1
 ·simp at h3
theorem DW (R:Right s) {v:Int} (e:(fN s v).2=0):Right (fN s v).1:=by
 unfold fN at e ⊢;split at e
 ·rename_i h; exact absurd e h
 rename_i h;rw [if_neg h];split at e
 ·rename_i h2; exact absurd e h2
 rename_i h2;rw [if_neg h2];unfold closeF at h2 ⊢;split at h2
 ·rename_i h3; exact absurd h3 h2
 rename_i h3;rw [if_neg h3];simp only;have hg:=R.given;refine R.setHands (jq.2 ⟨by simpa using hg.1,fun x hx=>?_⟩) fun x hx h1=>?_
 ·rcases List.mem_or_eq_of_mem_set hx with hx | rfl
  ·exact hg.2 x hx
  ·by_cases hlt:(ce s.2.2.2 v).1.toNat<s.2.2.2.length
   ·have hgd:=List.getElem_mem hlt;have hbad:=gT.1 (hg.2 _ hgd);rw [List.getD_eq_getElem?_getD,List.getElem?_eq_getElem hlt];exact gT.2 ⟨hbad.1,hbad.2.1,Int.le_refl _,(show (0:Int)<=255 by decide),(fun e=>by cases e),fun _=>rfl⟩
   ·rw [List.getD_eq_getElem?_getD,List.getElem?_eq_none (by omega)];exact gT.2 ⟨Int.le_refl _,(show (0:Int)<=65535 by decide),Int.le_refl _,(show (0:Int)<=255 by decide),(fun e=>by cases e),fun _=>rfl⟩
 ·rcases List.mem_or_eq_of_mem_set hx with hx | rfl
  ·exact R.handB hx h1
  ·cases h1
theorem EI (R:Right s) {a:Int} (e:(fh s a).2=0):Right (fh s a).1:=by
 unfold fh at e ⊢;split at e
 ·rename_i h; exact absurd e h
 rename_i h;rw [if_neg h];exact R.setRoot (.inl rfl)
theorem EK (R:Right s) {k a b c v:Int} (hk:1<=k/\k<=13) (hv:ah .u64 v) (e:(deed s k a b c v).2.2=0):Right (deed s k a b c v).1:=by
 have hk:k=1\/k=2\/k=3\/k=4\/k=5\/k=6\/k=7\/k=8\/k=9\/k=10\/k=11\/k=12\/k=13:=by omega
 rcases hk with rfl | rfl | rfl | rfl | rfl | rfl | rfl | rfl | rfl | rfl | rfl | rfl | rfl
 ·rw [CI] at e ⊢; exact R.make e
 ·rw [F0]; exact R.swept
 ·rw [FZ] at e ⊢; exact Hb R e
 ·rw [FY] at e ⊢; exact G5 R e
 ·rw [CH] at e ⊢;split at e
  ·rename_i h; exact absurd e h
  rename_i h;rw [if_neg h];exact R
 ·rw [CG] at e ⊢; exact Hc R hv e
 ·rw [FX] at e ⊢; exact He R e
 ·rw [FW] at e ⊢; exact Ao R e
 ·rw [FV] at e ⊢;split at e
  ·rename_i h; exact absurd e h
  rename_i h;rw [if_neg h];exact R
 ·rw [zB] at e ⊢; exact D6 R e
 ·rw [zA] at e ⊢; exact Gu R e
 ·rw [zz] at e ⊢; exact DW R e
 ·rw [zy] at e ⊢; exact EI R e
theorem tS {k a b c v:Int} (h:¬ ca k a b c v=true):1<=k/\k<=13:=by
 unfold ca at h;simp only [Bool.or_eq_true,decide_eq_true_eq,not_or] at h;omega
theorem ly (R:Right s) {k a b c v:Int} (hv:ah .u64 v) (e:(ar s k a b c v).2.2=0):Right (ar s k a b c v).1:=by
 unfold ar at e ⊢;split at e
 ·simp at e
 rename_i h1;rw [if_neg h1];split at e
 ·rename_i h2; exact absurd e h2
 rename_i h2;rw [if_neg h2];exact EK R (tS h1) hv e
end
end
section
open Go
set_option maxRecDepth 100000
set_option maxHeartbeats 1000000
def AL:Spec:={ Ts:=[bi,bi],Rs:=[.dat bi,.dat bi],pre:=fun ((x,y):Int×Int)=>x=1/\y<=1000,F:=fun ((_,y):Int×Int)=>((0,y):Int×Int) }
def Bw:Prop :=
  ∀ (x:Int×Int),ah .u64 x.1/\ah .u64 x.2->x.1=1/\x.2<=1000->(0:Int)<=32/\32<(↑IntKind.u64.bits:Int)/\(0:Int)<=32/\32<(↑IntKind.u64.bits:Int)/\ah .u64 ((↑(x.1.toNat &&& Int.toNat 4294967295):Int) * (↑(x.2.toNat &&& Int.toNat 4294967295):Int))/\ah .u64 (x.1 / 2 ^ Int.toNat 32 * (↑(x.2.toNat &&& Int.toNat 4294967295):Int))/\(0:Int)<=32/\32<(↑IntKind.u64.bits:Int)/\ah .u64 (x.1 / 2 ^ Int.toNat 32 * (↑(x.2.toNat &&& Int.toNat 4294967295):Int)+(↑(x.1.toNat &&& Int.toNat 4294967295):Int) * (↑(x.2.toNat &&& Int.toNat 4294967295):Int) / 2 ^ Int.toNat 32)/\(0:Int)<=32/\32<(↑IntKind.u64.bits:Int)/\ah .u64 ((↑(x.1.toNat &&& Int.toNat 4294967295):Int) * (x.2 / 2 ^ Int.toNat 32))/\ah .u64 ((↑((x.1 / 2 ^ Int.toNat 32 * (↑(x.2.toNat &&& Int.toNat 4294967295):Int)+(↑(x.1.toNat &&& Int.toNat 4294967295):Int) * (↑(x.2.toNat &&& Int.toNat 4294967295):Int) / 2 ^ Int.toNat 32).toNat &&& Int.toNat 4294967295):Int)+(↑(x.1.toNat &&& Int.toNat 4294967295):Int) * (x.2 / 2 ^ Int.toNat 32))/\ah .u64 (x.1 / 2 ^ Int.toNat 32 * (x.2 / 2 ^ Int.toNat 32))/\ah .u64 (x.1 / 2 ^ Int.toNat 32 * (x.2 / 2 ^ Int.toNat 32)+(x.1 / 2 ^ Int.toNat 32 * (↑(x.2.toNat &&& Int.toNat 4294967295):Int)+(↑(x.1.toNat &&& Int.toNat 4294967295):Int) * (↑(x.2.toNat &&& Int.toNat 4294967295):Int) / 2 ^ Int.toNat 32) / 2 ^ Int.toNat 32)/\(0:Int)<=32/\32<(↑IntKind.u64.bits:Int)/\ah .u64 (x.1 / 2 ^ Int.toNat 32 * (x.2 / 2 ^ Int.toNat 32)+(x.1 / 2 ^ Int.toNat 32 * (↑(x.2.toNat &&& Int.toNat 4294967295):Int)+(↑(x.1.toNat &&& Int.toNat 4294967295):Int) * (↑(x.2.toNat &&& Int.toNat 4294967295):Int) / 2 ^ Int.toNat 32) / 2 ^ Int.toNat 32+((↑((x.1 / 2 ^ Int.toNat 32 * (↑(x.2.toNat &&& Int.toNat 4294967295):Int)+(↑(x.1.toNat &&& Int.toNat 4294967295):Int) * (↑(x.2.toNat &&& Int.toNat 4294967295):Int) / 2 ^ Int.toNat 32).toNat &&& Int.toNat 4294967295):Int)+(↑(x.1.toNat &&& Int.toNat 4294967295):Int) * (x.2 / 2 ^ Int.toNat 32)) / 2 ^ Int.toNat 32)/\ah .u64 (x.1 * x.2)/\x.1 / 2 ^ Int.toNat 32 * (x.2 / 2 ^ Int.toNat 32)+(x.1 / 2 ^ Int.toNat 32 * (↑(x.2.toNat &&& Int.toNat 4294967295):Int)+(↑(x.1.toNat &&& Int.toNat 4294967295):Int) * (↑(x.2.toNat &&& Int.toNat 4294967295):Int) / 2 ^ Int.toNat 32) / 2 ^ Int.toNat 32+((↑((x.1 / 2 ^ Int.toNat 32 * (↑(x.2.toNat &&& Int.toNat 4294967295):Int)+(↑(x.1.toNat &&& Int.toNat 4294967295):Int) * (↑(x.2.toNat &&& Int.toNat 4294967295):Int) / 2 ^ Int.toNat 32).toNat &&& Int.toNat 4294967295):Int)+(↑(x.1.toNat &&& Int.toNat 4294967295):Int) * (x.2 / 2 ^ Int.toNat 32)) / 2 ^ Int.toNat (32:Int)=0/\x.1 * x.2=x.2/\True
theorem Gk:Bw:=by
 unfold Bw;intro ⟨x,y⟩ ⟨hx,hy⟩ ⟨h1,h2⟩;simp only [ah] at hx hy h1 h2 ⊢;subst h1;have e1:(((1:Int).toNat &&& Int.toNat 4294967295:Nat):Int)=1:=by decide
 have e2:((y.toNat &&& Int.toNat 4294967295:Nat):Int)=y:=by
  have h:=mm hy.1 32;have h3:Int.toNat 4294967295=2 ^ 32 - 1:=by decide
  rw [h3,h];omega
 have e3:(1:Int) / 2 ^ Int.toNat 32=0:=by decide
 have e4:y / 2 ^ Int.toNat 32=0:=by
  have:(2:Int) ^ Int.toNat 32=4294967296:=by decide
  rw [this]; omega
 have e5:(0:Int) / 2 ^ Int.toNat 32=0:=by decide
 have e6:(((0:Int).toNat &&& Int.toNat 4294967295:Nat):Int)=0:=by decide
 simp only [e1,e2,e3,e4,Int.one_mul,Int.zero_mul,Int.mul_zero,Int.add_zero,e5,e6];have eb:((IntKind.u64.bits:Nat):Int)=64:=rfl;rw [eb];simp only [and_true];omega
theorem Jq:AL.ok Tryz.prog 201:=aD (ann:=co) ap Tryz.func201 (by kernel_rfl) Gk
def Ma:Spec:=AL
def I7:Prop :=
  ∀ (x:Int×Int),ah .u64 x.1/\ah .u64 x.2->x.1=1/\x.2<=1000->(false=true->False)/\(false=false->(x.1=1/\x.2<=1000)/\(0:Int)=0/\x.2=x.2/\True)
theorem KD:I7:=by
 unfold I7;intro ⟨x,y⟩ _ ⟨h1,h2⟩;exact ⟨fun h=>(by cases h),fun _=>⟨⟨h1,h2⟩,rfl,rfl,trivial⟩⟩
theorem Mp:Ma.ok Tryz.prog 136:=aD (ann:=co) (ae Jq ap) Tryz.func136 (by kernel_rfl) KD
theorem yB {v n:Int} (h:0<n):List.take 1 [v]++List.drop (0+1) (List.replicate n.toNat 0)=List.replicate (1:Int).toNat v++List.replicate (n - 1).toNat 0:=by
 rw [List.drop_replicate,show n.toNat - (0+1)=(n - 1).toNat by omega];rfl
theorem Bi {v n k:Int} {row:List Int} (k0:0<=k) (kn:k<=n) (hrow:row=List.replicate k.toNat v++List.replicate (n - k).toNat 0) {m:Nat} (hm:m=min k.toNat (n - k).toNat) :
  row.take k.toNat++((row.take k.toNat).take m++row.drop (k.toNat+m))=List.replicate (k+m).toNat v++List.replicate (n - (k+m)).toNat 0:=by
 have h1:row.take k.toNat=List.replicate k.toNat v:=by
  rw [hrow,List.take_append_of_le_length (by simp),List.take_of_length_le (by simp)]
 have h2:row.drop (k.toNat+m)=List.replicate (n - (k+m)).toNat 0:=by
  rw [hrow,List.drop_append,List.drop_of_length_le (by simp),List.nil_append,List.drop_replicate,List.length_replicate];congr 1;omega
 rw [h1,h2,List.take_replicate,<- List.append_assoc,List.replicate_append_replicate];congr 2;omega
def EV:Nat->Option LoopGen
 | 8=>some { wr:=[7],rd:=[.dat 0 (.arr ty_I),.dat 1 ty_I],A:=fun ((xs,n):List Int×Int)=>{ cs:=[.own 7 3 ty_I,.dat 8 ty_I],inv:=fun ((row,k):List Int×Int)=>0<=k/\k<=n/\(0<n->0<k)/\row=List.replicate k.toNat (xs.getD 0 0)++List.replicate (n - k).toNat 0,mu:=fun ((_,k):List Int×Int)=>(n - k).toNat } }
 | _=>none
def DJ:Spec:={ Ts:=[.arr ty_I,ty_I],Rs:=[.own 3 ty_I],pre:=fun ((xs,n):List Int×Int)=>xs.length=1/\0<=n/\n<=1000,F:=fun ((xs,n):List Int×Int)=>List.replicate n.toNat (xs.getD 0 0) }
def tE:Prop :=
  ∀ (x:List Int×Int),(fun (v1:type_of% (IntKind.i64.wrap (IntKind.u64.wrap x.2)))=>(x.1.length * 8<=ax/\∀ (x_1:Int),x_1∈x.1->ah .i64 x_1)/\ah .i64 x.2->x.1.length=1/\0<=x.2/\x.2<=1000->(decide (x.2<0)=true->False)/\(decide (x.2<0)=false->(IntKind.u64.wrap (x.1.length:Int)=1/\IntKind.u64.wrap x.2<=1000)/\((decide ((0:Int)<0)||decide (9223372036854775807<IntKind.u64.wrap x.2))=true->False)/\((decide ((0:Int)<0)||decide (9223372036854775807<IntKind.u64.wrap x.2))=false->0<=IntKind.i64.wrap (IntKind.u64.wrap x.2)/\v1.toNat * 8<=ax/\0+(List.replicate v1.toNat (0:Int)).length<=(List.replicate v1.toNat (0:Int)).length/\(0<=(↑(min x.1.length (List.replicate v1.toNat (0:Int)).length):Int)/\(↑(min x.1.length (List.replicate v1.toNat (0:Int)).length):Int)<=x.2/\(0<x.2->0<(↑(min x.1.length (List.replicate v1.toNat (0:Int)).length):Int))/\List.take 0 (List.replicate v1.toNat (0:Int))++(List.take (min x.1.length (List.replicate v1.toNat (0:Int)).length) x.1++List.drop (0+min x.1.length (List.replicate v1.toNat (0:Int)).length) (List.replicate v1.toNat (0:Int)))=List.replicate (↑(min x.1.length (List.replicate v1.toNat (0:Int)).length):Int).toNat (x.1.getD 0 0)++List.replicate (x.2 - (↑(min x.1.length (List.replicate v1.toNat (0:Int)).length):Int)).toNat (0:Int))/\∀ (x_1:List Int×Int),(fun (v0:type_of% (min (List.take x_1.2.toNat (List.drop 0 x_1.1)).length (x_1.1.length - x_1.2.toNat)))=>0<=x_1.2/\x_1.2<=x.2/\(0<x.2->0<x_1.2)/\x_1.1=List.replicate x_1.2.toNat (x.1.getD 0 0)++List.replicate (x.2 - x_1.2).toNat (0:Int)->(decide (x_1.2<(x_1.1.length:Int))=true->0<=x_1.2/\x_1.2<=(x_1.1.length:Int)/\0<=x_1.2/\x_1.2<=(x_1.1.length:Int)/\0+x_1.2.toNat<=x_1.1.length/\x_1.2.toNat+(x_1.1.length - x_1.2.toNat)<=x_1.1.length/\x_1.2=x_1.2/\ah .i64 (x_1.2+(↑v0:Int))/\(0<=x_1.2+(↑v0:Int)/\x_1.2+(↑v0:Int)<=x.2/\(0<x.2->0<x_1.2+(↑v0:Int))/\List.take x_1.2.toNat x_1.1++(List.take v0 (List.take x_1.2.toNat (List.drop 0 x_1.1))++List.drop (x_1.2.toNat+min (List.take x_1.2.toNat (List.drop 0 x_1.1)).length (x_1.1.length - x_1.2.toNat)) x_1.1)=List.replicate (x_1.2+(↑v0:Int)).toNat (x.1.getD 0 0)++List.replicate (x.2 - (x_1.2+(↑v0:Int))).toNat (0:Int))/\(x.2 - (x_1.2+(↑v0:Int))).toNat<(x.2 - x_1.2).toNat)/\(decide (x_1.2<(x_1.1.length:Int))=false->x_1.1=List.replicate x.2.toNat (x.1.getD 0 0)/\True)) (min (List.take x_1.2.toNat (List.drop 0 x_1.1)).length (x_1.1.length - x_1.2.toNat))))) (IntKind.i64.wrap (IntKind.u64.wrap x.2))
theorem Ac:tE:=by
 unfold tE;intro ⟨xs,n⟩ _ ⟨h1,h2,h3⟩;simp only at h1 h2 h3 ⊢
 obtain ⟨v,rfl⟩:∃ v,xs=[v]:=by
  match xs,h1 with
  | [v],_=>exact ⟨v,rfl⟩
 have e1:IntKind.u64.wrap n=n:=fM h2 (by omega);have e2:IntKind.i64.wrap n=n:=m4 (by omega) (by omega);have e3:IntKind.u64.wrap (([v].length:Nat):Int)=1:=fM (by simp) (by simp);have e4:[v].getD 0 0=v:=rfl;rw [e1,e2,e3,e4];refine ⟨fun h=>absurd (of_decide_eq_true h) (by omega),fun _=>⟨⟨rfl,by omega⟩,fun h=>?_,fun _=>⟨h2,by unfold ax; omega,by omega,?_,fun ⟨row,k⟩ ⟨k0,kn,kp,kr⟩=>⟨fun hlt=>?_,fun hge=>?_⟩⟩⟩⟩
 ·simp only [Bool.or_eq_true,decide_eq_true_eq] at h;omega
 ·by_cases hn:0<n
  ·have hm:min [v].length (List.replicate n.toNat (0:Int)).length=1:=by
    rw [List.length_replicate,List.length_singleton]; omega
   rw [hm];refine ⟨by omega,by omega,by omega,?_⟩;rw [List.take_zero,List.nil_append];exact yB hn
  ·have hz:n=0:=by omega
   subst hz;simp
 ·simp only at k0 kn kp kr hlt ⊢;have hl:(row.length:Int)=n:=by rw [kr]; simp; omega
  have hlt:=of_decide_eq_true hlt;have htl:(List.take k.toNat row).length=k.toNat:=by rw [List.length_take]; omega
  have hmin:min (List.take k.toNat row).length (row.length - k.toNat)=min k.toNat (n - k).toNat:=by rw [htl]; omega
  rw [List.drop_zero,hmin,Bi k0 kn kr rfl];simp only [ah];exact ⟨by omega,by omega,by omega,by omega,by omega,by omega,by first | rfl | trivial,by omega,⟨by omega,by omega,by omega,by first | rfl | trivial⟩,by omega⟩
 ·simp only at k0 kn kp kr hge ⊢;have hl:(row.length:Int)=n:=by rw [kr]; simp; omega
  have hge:=of_decide_eq_false hge;have hk:k=n:=by omega
  refine ⟨?_,trivial⟩;rw [kr,hk];simp
theorem Ed:DJ.ok Tryz.prog 57:=aD (ann:=EV) (ae Mp ap) Tryz.func57 (by kernel_rfl) Ac
def jn (w:Int):List Int:=if 0<w then (List.replicate w.toNat 0).set 0 (aI (0,w - 1,0,true)) else List.replicate w.toNat 0
def au (w r h:Int):ak×Int:=if w<0\/256<w then (([],[],[],[]),4) else if r<0\/32<r then (([],[],[],[]),4) else if h<0\/16<h then (([],[],[],[]),4) else ((jn w,List.replicate r.toNat (-1),[],List.replicate h.toNat (0,false,0)),0)
def II:Spec:={ Ts:=[ty_I,ty_I,ty_I],Rs:=[.dat aN,.dat ty_I],al:=true,pre:=fun _=>True,F:=fun ((w,r,h):Int×Int×Int)=>au w r h }
def Bp:Prop :=
  ∀ (x:Int×Int×Int),ah .i64 x.1/\ah .i64 x.2.1/\ah .i64 x.2.2->True->True/\(decide ((o8 x.1).2≠0)=true->(([]:List Int),([]:List Int),([]:List (Int×Int)),([]:List (Int×Bool×Int)))=(au x.1 x.2.1 x.2.2).1/\(o8 x.1).2=(au x.1 x.2.1 x.2.2).2/\True)/\(decide ((o8 x.1).2≠0)=false->((decide (x.2.1<0)||decide (32<x.2.1))=true->(([]:List Int),([]:List Int),([]:List (Int×Int)),([]:List (Int×Bool×Int)))=(au x.1 x.2.1 x.2.2).1/\4=(au x.1 x.2.1 x.2.2).2/\True)/\((decide (x.2.1<0)||decide (32<x.2.1))=false->True/\(decide ((dM x.2.2).2≠0)=true->(([]:List Int),([]:List Int),([]:List (Int×Int)),([]:List (Int×Bool×Int)))=(au x.1 x.2.1 x.2.2).1/\(dM x.2.2).2=(au x.1 x.2.1 x.2.2).2/\True)/\(decide ((dM x.2.2).2≠0)=false->(decide (0<x.1)=true->ah .i64 (x.1 - 1)/\True/\(0:Int)<=0/\0<(↑(o8 x.1).1.length:Int)/\Int.toNat 0<(o8 x.1).1.length/\([(-1)].length=1/\0<=x.2.1/\x.2.1<=1000)/\((o8 x.1).1.set (Int.toNat 0) (if af (0,x.1 - 1,0,true)=0 then aI (0,x.1 - 1,0,true) else (0:Int)),List.replicate x.2.1.toNat ([(-1)].getD 0 0),([]:List (Int×Int)),(dM x.2.2).1)=(au x.1 x.2.1 x.2.2).1/\0=(au x.1 x.2.1 x.2.2).2/\True)/\(decide (0<x.1)=false->([(-1)].length=1/\0<=x.2.1/\x.2.1<=1000)/\((o8 x.1).1,List.replicate x.2.1.toNat ([(-1)].getD 0 0),([]:List (Int×Int)),(dM x.2.2).1)=(au x.1 x.2.1 x.2.2).1/\0=(au x.1 x.2.1 x.2.2).2/\True))))
theorem Gd:Bp:=by
 unfold Bp;intro ⟨w,r,h⟩ _ _;simp only;have hF:au w r h=if w<0\/256<w then (([],[],[],[]),4) else if r<0\/32<r then (([],[],[],[]),4) else if h<0\/16<h then (([],[],[],[]),4) else ((jn w,List.replicate r.toNat (-1),[],List.replicate h.toNat (0,false,0)),0):=rfl
 have hW:o8 w=if w<0\/256<w then ([],4) else (List.replicate w.toNat 0,0):=rfl
 have hH:dM h=if h<0\/16<h then ([],4) else (List.replicate h.toNat (0,false,0),0):=rfl
 by_cases cw:w<0\/256<w
 ·rw [if_pos cw] at hW hF;rw [hW,hF];exact ⟨trivial,fun _=>⟨by first | rfl | trivial,by first | rfl | trivial,trivial⟩,fun hn=>by simp at hn⟩
 rw [if_neg cw] at hW hF;rw [hW];refine ⟨trivial,fun hn=>by simp at hn,fun _=>⟨fun hr=>?_,fun hr=>?_⟩⟩
 ·rw [hF,if_pos (by simpa using hr)];exact ⟨by first | rfl | trivial,by first | rfl | trivial,trivial⟩
 have hr:¬ (r<0\/32<r):=by simpa using hr
 rw [if_neg hr] at hF;by_cases ch:h<0\/16<h
 ·rw [if_pos ch] at hH hF;rw [hH,hF];exact ⟨trivial,fun _=>⟨by first | rfl | trivial,by first | rfl | trivial,trivial⟩,fun hn=>by simp at hn⟩
 rw [if_neg ch] at hH hF;rw [hH,hF];refine ⟨trivial,fun hn=>by simp at hn,fun _=>⟨fun h0=>?_,fun h0=>?_⟩⟩
 ·have h0:=of_decide_eq_true h0;have hhf:af (0,w - 1,0,true)=0:=by simp [af,aa]; omega
  rw [if_pos hhf];simp only [ah,List.length_replicate];refine ⟨by omega,trivial,by omega,by omega,by simp; omega,⟨rfl,by omega,by omega⟩,?_,by first | rfl | trivial,trivial⟩;unfold jn;rw [if_pos h0];rfl
 ·have h0:=of_decide_eq_false h0;refine ⟨⟨rfl,by omega,by omega⟩,?_,by first | rfl | trivial,trivial⟩;unfold jn;rw [if_neg h0];rfl
theorem BN:II.ok Tryz.prog 13:=aD (ann:=co) (ae D8 (ae Ei (ae ix (ae Ed ap)))) Tryz.func13 (by kernel_rfl) Gd
end
section
open Go
theorem Right.givenMap {s:ak} (R:Right s) {G:List Int} (H:Given G s.2.2.2):Given G (jZ s).2.2.2:=by
 have hg:=R.swept.given;refine H.map (kf s) (fun t=>?_) (fun t ht=>hg.2 _ (List.mem_map.2 ⟨t,ht,rfl⟩));unfold kf;split
 ·exact ⟨rfl,rfl⟩
 ·exact ⟨rfl,rfl⟩
theorem EJ {s:ak} (R:Right s) {G:List Int} (H:Given G s.2.2.2) {k a b c v:Int} (e:(ar s k a b c v).2.2=0) :
  (k=10->(ar s k a b c v).2.1 ∉ G/\Given (G++[(ar s k a b c v).2.1]) (ar s k a b c v).1.2.2.2)/\(k≠10->Given G (ar s k a b c v).1.2.2.2):=by
 unfold ar at e ⊢;split at e
 ·simp at e
 rename_i h1;rw [if_neg h1];split at e
 ·rename_i h2; exact absurd e h2
 rename_i h2;rw [if_neg h2];have hk:=tS h1;have hk:k=1\/k=2\/k=3\/k=4\/k=5\/k=6\/k=7\/k=8\/k=9\/k=10\/k=11\/k=12\/k=13:=by omega
 clear h1;rcases hk with rfl | rfl | rfl | rfl | rfl | rfl | rfl | rfl | rfl | rfl | rfl | rfl | rfl
 case inr.inr.inr.inr.inr.inr.inr.inr.inr.inl =>
  refine ⟨fun _=>?_,fun h=>absurd rfl h⟩;rw [zB] at e ⊢;unfold fp at e ⊢;split at e
  ·rename_i h; exact absurd e h
  rename_i h;rw [if_neg h];split at e
  ·rename_i h2; exact absurd e h2
  rename_i h2;rw [if_neg h2];exact H.openF rfl (by omega)
 all_goals refine ⟨(fun h=>absurd h (by decide)),fun _=>?_⟩
 ·rw [CI] at e ⊢;simp only at e ⊢;unfold ba at e ⊢;split at e
  ·rename_i h1; exact absurd e h1
  rename_i h1;split at e
  ·rename_i h2; exact absurd e h2
  rename_i h2;rw [if_neg h1,if_neg h2];split at e
  ·rename_i h3;rw [if_pos h3];exact H
  rename_i h3;rw [if_neg h3];split at e
  ·rename_i h4;rw [if_pos h4];exact R.givenMap H
  ·simp at e
 ·rw [F0]; exact R.givenMap H
 ·rw [FZ] at e ⊢;simp only at e ⊢;unfold kG at e ⊢;split at e
  ·rename_i h; exact absurd e h
  rename_i h;rw [if_neg h];exact H
 ·rw [FY] at e ⊢;simp only at e ⊢;unfold kz at e ⊢;split at e
  ·rename_i h; exact absurd e h
  rename_i h;rw [if_neg h];exact H
 ·rw [CH] at e ⊢;split at e
  ·rename_i h; exact absurd e h
  rename_i h;rw [if_neg h];exact H
 ·rw [CG] at e ⊢;simp only at e ⊢;unfold jA at e ⊢;split at e
  ·rename_i h; exact absurd e h
  rename_i h;rw [if_neg h];exact H
 ·rw [FX] at e ⊢;unfold iD at e ⊢;split at e
  ·rename_i h; exact absurd e h
  rename_i h;rw [if_neg h];split at e
  ·rename_i h2; exact absurd e h2
  rename_i h2;rw [if_neg h2];exact H
 ·rw [FW] at e ⊢;simp only at e ⊢;unfold cT at e ⊢;split at e
  ·rename_i h; exact absurd e h
  rename_i h;rw [if_neg h];split at e
  ·rename_i h2; exact absurd e h2
  rename_i h2;rw [if_neg h2];exact H
 ·rw [FV] at e ⊢;split at e
  ·rename_i h; exact absurd e h
  rename_i h;rw [if_neg h];exact H
 ·rw [zA] at e ⊢;simp only at e ⊢;unfold jz at e ⊢;split at e
  ·rename_i h; exact absurd e h
  rename_i h;rw [if_neg h];split at e
  ·rename_i h2; exact absurd e h2
  rename_i h2;rw [if_neg h2];exact H
 ·rw [zz] at e ⊢;simp only at e ⊢;unfold fN at e ⊢;split at e
  ·rename_i h; exact absurd e h
  rename_i h;rw [if_neg h];split at e
  ·rename_i h2; exact absurd e h2
  rename_i h2;rw [if_neg h2];exact H.closeF rfl (by omega)
 ·rw [zy] at e ⊢;simp only at e ⊢;unfold fh at e ⊢;split at e
  ·rename_i h; exact absurd e h
  rename_i h;rw [if_neg h];exact H
theorem mS {w r h:Int} (e:(au w r h).2=0):Right (au w r h).1/\Given [] (au w r h).1.2.2.2:=by
 unfold au at e ⊢;split at e
 ·simp at e
 rename_i h1;split at e
 ·simp at e
 rename_i h2;split at e
 ·simp at e
 rename_i h3;rw [if_neg h1,if_neg h2,if_neg h3]
 have hA:jn w=bN w:=by
  unfold jn bN;split
  ·obtain ⟨n,hn⟩:∃ n:Nat,w=(n:Int)+1:=⟨(w - 1).toNat,by omega⟩;subst hn;rw [show ((n:Int)+1).toNat=n+1 by omega,show ((n:Int)+1 - 1).toNat=n by omega];rfl
  ·rw [show w.toNat=0 by omega];rfl
 have hsp:ac (jn w)=((if 0<w then [aF 0 w] else []),0):=by
  refine ky (by rw [hA,bG]; omega) ?_;have:=gp (at_:=0) (k:=w) (R:=[]) (by omega);rw [List.append_nil] at this;rw [hA,this];split
  ·rw [spotsS]; rfl
  ·rw [spotsS]
 have G:=Given.new h.toNat (by omega);refine ⟨⟨?_,uS hsp (fun s hs v hv=>?_),yy (by simp only; omega) ?_ (by simp only [List.length_replicate]; omega) (fun v hv=>?_),rfl,jq.2 ⟨G.len,G.ok⟩,fun x hx=>?_⟩,G⟩
 ·simp only;rw [hA];exact kJ (by omega)
 ·split at hs
  ·rw [List.mem_singleton.1 hs] at hv;unfold aS aF at hv;simp only [Int.add_zero] at hv;rw [List.drop_of_length_le (by rw [List.length_take]; omega)] at hv;cases hv
  ·cases hs
 ·simp only;rw [hA,bG];omega
 ·rw [List.eq_of_mem_replicate hv];omega
 ·rcases cj.1 hx with ⟨h,h0⟩ | ⟨y,h,h1,_⟩ | ⟨p,h,_⟩
  ·rw [List.eq_of_mem_replicate h] at h0;omega
  ·rw [List.eq_of_mem_replicate h] at h1;cases h1
  ·cases h
end
section
open Go
def aj:List UInt8->List (List UInt8)
 | []=>[[]]
 | c::r=>if c=32 then []::aj r else match aj r with
  | []=>[[c]]
  | p::ps=>(c::p)::ps
theorem ws:∀ s,aj s≠[]
 | []=>by simp [aj]
 | c::r=>by
  unfold aj;split
  ·simp
  ·split <;> simp
theorem lY:∀ s:List UInt8,Lib.indexByte s 32=-1->aj s=[s]
 | [],_=>rfl
 | c::r,h=>by
  unfold Lib.indexByte at h
  have hc:c≠32:=by
   intro e;rw [if_pos (by simp [e])] at h;cases h
  have hr:Lib.indexByte r 32=-1:=by
   rw [if_neg (by simp [hc])] at h;split at h
   ·rename_i h1;simpa using h1
   ·have:=Lib.indexByte_ge r 32;omega
  unfold aj;rw [if_neg hc,lY r hr]
theorem lX:∀ (s:List UInt8) (i:Nat),Lib.indexByte s 32=i->aj s=s.take i::aj (s.drop (i+1))/\(s.drop (i+1)).count 32+1=s.count 32
 | [],i,h=>by
  simp only [Lib.indexByte] at h;omega
 | c::r,i,h=>by
  unfold Lib.indexByte at h;by_cases hc:c=32
  ·rw [if_pos (by simp [hc])] at h;obtain rfl:i=0:=by omega
   subst hc;rw [aj,if_pos rfl];simp
  ·rw [if_neg (by simp [hc])] at h;split at h
   ·omega
   ·rename_i hn;have hr:=Lib.indexByte_ge r 32;have hr':Lib.indexByte r 32≠-1:=by simpa using hn
    obtain ⟨j,hj⟩:=Int.eq_ofNat_of_zero_le (show 0<=Lib.indexByte r 32 by omega);obtain ⟨h1,h2⟩:=lX r j hj;obtain rfl:i=j+1:=by omega
    refine ⟨?_,?_⟩
    ·rw [aj,if_neg hc,h1];simp
    ·rw [List.count_cons_of_ne hc];simpa using h2
theorem wt:∀ (k:Nat) (s:List UInt8),s.count 32=k->Lib.splitK [32] 0 k s=aj s
 | 0,s,h=>by
  have hi:Lib.indexByte s 32=-1:=by
   apply Classical.byContradiction;intro hn;have:=Lib.indexByte_ge s 32;obtain ⟨j,hj⟩:=Int.eq_ofNat_of_zero_le (show 0<=Lib.indexByte s 32 by omega);have:=(lX s j hj).2;omega
  rw [lY s hi];rfl
 | k+1,s,h=>by
  unfold Lib.splitK;rw [Lib.index_one];by_cases hi:Lib.indexByte s 32=-1
  ·rw [if_pos (by simp [hi]),lY s hi]
  ·have:=Lib.indexByte_ge s 32;obtain ⟨j,hj⟩:=Int.eq_ofNat_of_zero_le (show 0<=Lib.indexByte s 32 by omega);obtain ⟨h1,h2⟩:=lX s j hj;rw [if_neg (by simp [hi]),h1,hj];simp only [Int.toNat_natCast,Nat.add_zero,List.length_cons,List.length_nil,Nat.zero_add];rw [wt k _ (by omega)]
def fD (s:List UInt8):Int×Bool:=match Lib.atoiAll s with
 | .ok v=>(v,decide (-1000000000000000<v/\v<1000000000000000/\Lib.itoa v=s))
 | .range=>(Lib.atoiSat s,false)
 | _=>(0,false)
end
section
open Go Go.RowKit Go.Shelf
set_option maxHeartbeats 4000000
def vK:Go.Shelf.Ren:=⟨fun | 146=>185 | 221=>236 | 268=>258 | 138=>259 | 143=>260 | 195=>274 | 197=>275 | 218=>276 | 219=>277 | 260=>291 | 217=>292 | 225=>293 | 224=>294 | 267=>295 | 266=>301 | 314=>302 | n=>n,fun | 9=>9 | 31=>22 | 3=>3 | 4=>4 | 0=>0 | 105=>342 | 21=>21 | 5=>5 | 46=>182 | 119=>361 | 139=>364 | 138=>363 | 146=>283 | 51=>267 | n=>n,fun | 1=>2 | 3=>5 | 4=>6 | n=>n⟩
theorem HH:Go.Proofs.Lays.n146 Tryz.prog vK where
 mixed:=by kernel_rfl
 f138:=Tryz.func259.trans (congrArg some (by kernel_rfl))
 f143:=Tryz.func260.trans (congrArg some (by kernel_rfl))
 f146:=Tryz.func185.trans (congrArg some (by kernel_rfl))
 f195:=Tryz.func274.trans (congrArg some (by kernel_rfl))
 f197:=Tryz.func275.trans (congrArg some (by kernel_rfl))
 f217:=Tryz.func292.trans (congrArg some (by kernel_rfl))
 f218:=Tryz.func276.trans (congrArg some (by kernel_rfl))
 f219:=Tryz.func277.trans (congrArg some (by kernel_rfl))
 f221:=Tryz.func236.trans (congrArg some (by kernel_rfl))
 f224:=Tryz.func294.trans (congrArg some (by kernel_rfl))
 f225:=Tryz.func293.trans (congrArg some (by kernel_rfl))
 f260:=Tryz.func291.trans (congrArg some (by kernel_rfl))
 f266:=Tryz.func301.trans (congrArg some (by kernel_rfl))
 f267:=Tryz.func295.trans (congrArg some (by kernel_rfl))
 f268:=Tryz.func258.trans (congrArg some (by kernel_rfl))
 f314:=Tryz.func302.trans (congrArg some (by kernel_rfl))
 t0:=Tryz.underlying0
 a0:=Tryz.isAgg0
 z0:=Tryz.sizeOf0
 v0:=Tryz.zeroValue0
 t3:=Tryz.underlying3
 a3:=Tryz.isAgg3
 z3:=Tryz.sizeOf3
 v3:=Tryz.zeroValue3
 t4:=Tryz.underlying4
 a4:=Tryz.isAgg4
 z4:=Tryz.sizeOf4
 v4:=Tryz.zeroValue4
 t5:=Tryz.underlying5
 a5:=Tryz.isAgg5
 z5:=Tryz.sizeOf5
 v5:=Tryz.zeroValue5
 t9:=Tryz.underlying9
 a9:=Tryz.isAgg9
 z9:=Tryz.sizeOf9
 v9:=Tryz.zeroValue9
 t21:=Tryz.underlying21
 a21:=Tryz.isAgg21
 z21:=Tryz.sizeOf21
 v21:=Tryz.zeroValue21
 t31:=Tryz.underlying22
 a31:=Tryz.isAgg22
 z31:=Tryz.sizeOf22
 v31:=Tryz.zeroValue22
 t46:=Tryz.underlying182
 a46:=Tryz.isAgg182
 z46:=Tryz.sizeOf182
 v46:=Tryz.zeroValue182
 t51:=Tryz.underlying267
 a51:=Tryz.isAgg267
 z51:=Tryz.sizeOf267
 v51:=Tryz.zeroValue267
 t105:=Tryz.underlying342
 a105:=Tryz.isAgg342
 z105:=Tryz.sizeOf342
 v105:=Tryz.zeroValue342
 t119:=Tryz.underlying361
 a119:=Tryz.isAgg361
 z119:=Tryz.sizeOf361
 t138:=Tryz.underlying363
 a138:=Tryz.isAgg363
 z138:=Tryz.sizeOf363
 v138:=Tryz.zeroValue363
 t139:=Tryz.underlying364
 a139:=Tryz.isAgg364
 z139:=Tryz.sizeOf364
 v139:=Tryz.zeroValue364
 t146:=Tryz.underlying283
 a146:=Tryz.isAgg283
 z146:=Tryz.sizeOf283
 v146:=Tryz.zeroValue283
 g1:=by kernel_rfl
 g3:=by kernel_rfl
 g4:=by kernel_rfl
def yV:Go.Shelf.Ren:=⟨fun | 171=>110 | 243=>188 | 246=>243 | 283=>264 | 284=>265 | 285=>266 | 286=>267 | 129=>184 | 317=>283 | 318=>284 | 319=>285 | 320=>286 | 337=>299 | 338=>300 | n=>n,fun | 3=>3 | 9=>9 | 2=>2 | 4=>4 | 171=>336 | 0=>0 | 53=>45 | 37=>148 | 5=>5 | 173=>338 | 212=>353 | 51=>267 | 20=>20 | 213=>354 | 46=>182 | 232=>371 | 233=>372 | n=>n,fun | 17=>1 | 18=>7 | 19=>8 | n=>n⟩
theorem JF:Go.Proofs.LaysM.n171 Tryz.prog yV where
 mixed:=by kernel_rfl
 f129:=Tryz.func184.trans (congrArg some (by kernel_rfl))
 f171:=Tryz.func110.trans (congrArg some (by kernel_rfl))
 f243:=Tryz.func188.trans (congrArg some (by kernel_rfl))
 f246:=Tryz.func243.trans (congrArg some (by kernel_rfl))
 f283:=Tryz.func264.trans (congrArg some (by kernel_rfl))
 f284:=Tryz.func265.trans (congrArg some (by kernel_rfl))
 f285:=Tryz.func266.trans (congrArg some (by kernel_rfl))
 f286:=Tryz.func267.trans (congrArg some (by kernel_rfl))
 f317:=Tryz.func283.trans (congrArg some (by kernel_rfl))
 f318:=Tryz.func284.trans (congrArg some (by kernel_rfl))
 f319:=Tryz.func285.trans (congrArg some (by kernel_rfl))
 f320:=Tryz.func286.trans (congrArg some (by kernel_rfl))
 f337:=Tryz.func299.trans (congrArg some (by kernel_rfl))
 f338:=Tryz.func300.trans (congrArg some (by kernel_rfl))
 t0:=Tryz.underlying0
 a0:=Tryz.isAgg0
 z0:=Tryz.sizeOf0
 v0:=Tryz.zeroValue0
 t2:=Tryz.underlying2
 a2:=Tryz.isAgg2
 z2:=Tryz.sizeOf2
 v2:=Tryz.zeroValue2
 t3:=Tryz.underlying3
 a3:=Tryz.isAgg3
 z3:=Tryz.sizeOf3
 v3:=Tryz.zeroValue3
 t4:=Tryz.underlying4
 a4:=Tryz.isAgg4
 z4:=Tryz.sizeOf4
 v4:=Tryz.zeroValue4
 t5:=Tryz.underlying5
 a5:=Tryz.isAgg5
 z5:=Tryz.sizeOf5
 v5:=Tryz.zeroValue5
 t9:=Tryz.underlying9
 a9:=Tryz.isAgg9
 z9:=Tryz.sizeOf9
 v9:=Tryz.zeroValue9
 t20:=Tryz.underlying20
 a20:=Tryz.isAgg20
 z20:=Tryz.sizeOf20
 v20:=Tryz.zeroValue20
 t37:=Tryz.underlying148
 a37:=Tryz.isAgg148
 z37:=Tryz.sizeOf148
 v37:=Tryz.zeroValue148
 t46:=Tryz.underlying182
 a46:=Tryz.isAgg182
 z46:=Tryz.sizeOf182
 v46:=Tryz.zeroValue182
 t51:=Tryz.underlying267
 a51:=Tryz.isAgg267
 z51:=Tryz.sizeOf267
 v51:=Tryz.zeroValue267
 t53:=Tryz.underlying45
 a53:=Tryz.isAgg45
 z53:=Tryz.sizeOf45
 v53:=Tryz.zeroValue45
 t171:=Tryz.underlying336
 a171:=Tryz.isAgg336
 z171:=Tryz.sizeOf336
 v171:=Tryz.zeroValue336
 t173:=Tryz.underlying338
 a173:=Tryz.isAgg338
 z173:=Tryz.sizeOf338
 v173:=Tryz.zeroValue338
 t212:=Tryz.underlying353
 a212:=Tryz.isAgg353
 z212:=Tryz.sizeOf353
 v212:=Tryz.zeroValue353
 t213:=Tryz.underlying354
 a213:=Tryz.isAgg354
 z213:=Tryz.sizeOf354
 t232:=Tryz.underlying371
 a232:=Tryz.isAgg371
 z232:=Tryz.sizeOf371
 v232:=Tryz.zeroValue371
 t233:=Tryz.underlying372
 a233:=Tryz.isAgg372
 z233:=Tryz.sizeOf372
 v233:=Tryz.zeroValue372
 g17:=by kernel_rfl
 g18:=by kernel_rfl
 g19:=by kernel_rfl
 i0:=by kernel_rfl
 i2:=by kernel_rfl
 i3:=by kernel_rfl
 i4:=by kernel_rfl
 i5:=by kernel_rfl
 i9:=by kernel_rfl
 i20:=by kernel_rfl
 i37:=by kernel_rfl
 i46:=by kernel_rfl
 i51:=by kernel_rfl
 i53:=by kernel_rfl
 i171:=by kernel_rfl
 i173:=by kernel_rfl
 i212:=by kernel_rfl
 i232:=by kernel_rfl
 i233:=by kernel_rfl
 m17:=by kernel_rfl
 m18:=by kernel_rfl
 m19:=by kernel_rfl
def yW:Go.Shelf.Ren:=⟨fun | 172=>242 | 244=>262 | 245=>263 | 247=>278 | 279=>279 | 280=>280 | 281=>281 | 282=>282 | 287=>296 | 316=>297 | 171=>110 | 205=>298 | 321=>303 | 322=>304 | 243=>188 | 246=>243 | 283=>264 | 284=>265 | 285=>266 | 286=>267 | 129=>184 | 317=>283 | 318=>284 | 319=>285 | 320=>286 | 337=>299 | 338=>300 | n=>n,fun | 9=>9 | 3=>3 | 75=>314 | 76=>315 | 4=>4 | 5=>5 | 167=>345 | 37=>148 | 0=>0 | 85=>346 | 2=>2 | 168=>348 | 53=>45 | 175=>356 | 46=>182 | 210=>359 | 127=>367 | 145=>370 | 143=>368 | 21=>21 | 171=>336 | 173=>338 | 212=>353 | 51=>267 | 20=>20 | 213=>354 | 232=>371 | 233=>372 | 80=>373 | n=>n,fun | 15=>3 | 16=>4 | 17=>1 | 18=>7 | 19=>8 | n=>n⟩
theorem ue:Go.Proofs.LaysC.n172 Tryz.prog yW where
 mixed:=by kernel_rfl
 f129:=Tryz.func184.trans (congrArg some (by kernel_rfl))
 f171:=Tryz.func110.trans (congrArg some (by kernel_rfl))
 f172:=Tryz.func242.trans (congrArg some (by kernel_rfl))
 f205:=Tryz.func298.trans (congrArg some (by kernel_rfl))
 f243:=Tryz.func188.trans (congrArg some (by kernel_rfl))
 f244:=Tryz.func262.trans (congrArg some (by kernel_rfl))
 f245:=Tryz.func263.trans (congrArg some (by kernel_rfl))
 f246:=Tryz.func243.trans (congrArg some (by kernel_rfl))
 f247:=Tryz.func278.trans (congrArg some (by kernel_rfl))
 f279:=Tryz.func279.trans (congrArg some (by kernel_rfl))
 f280:=Tryz.func280.trans (congrArg some (by kernel_rfl))
 f281:=Tryz.func281.trans (congrArg some (by kernel_rfl))
 f282:=Tryz.func282.trans (congrArg some (by kernel_rfl))
 f283:=Tryz.func264.trans (congrArg some (by kernel_rfl))
 f284:=Tryz.func265.trans (congrArg some (by kernel_rfl))
 f285:=Tryz.func266.trans (congrArg some (by kernel_rfl))
 f286:=Tryz.func267.trans (congrArg some (by kernel_rfl))
 f287:=Tryz.func296.trans (congrArg some (by kernel_rfl))
 f316:=Tryz.func297.trans (congrArg some (by kernel_rfl))
 f317:=Tryz.func283.trans (congrArg some (by kernel_rfl))
 f318:=Tryz.func284.trans (congrArg some (by kernel_rfl))
 f319:=Tryz.func285.trans (congrArg some (by kernel_rfl))
 f320:=Tryz.func286.trans (congrArg some (by kernel_rfl))
 f321:=Tryz.func303.trans (congrArg some (by kernel_rfl))
 f322:=Tryz.func304.trans (congrArg some (by kernel_rfl))
 f337:=Tryz.func299.trans (congrArg some (by kernel_rfl))
 f338:=Tryz.func300.trans (congrArg some (by kernel_rfl))
 t0:=Tryz.underlying0
 a0:=Tryz.isAgg0
 z0:=Tryz.sizeOf0
 v0:=Tryz.zeroValue0
 t2:=Tryz.underlying2
 a2:=Tryz.isAgg2
 z2:=Tryz.sizeOf2
 v2:=Tryz.zeroValue2
 t3:=Tryz.underlying3
 a3:=Tryz.isAgg3
 z3:=Tryz.sizeOf3
 v3:=Tryz.zeroValue3
 t4:=Tryz.underlying4
 a4:=Tryz.isAgg4
 z4:=Tryz.sizeOf4
 v4:=Tryz.zeroValue4
 t5:=Tryz.underlying5
 a5:=Tryz.isAgg5
 z5:=Tryz.sizeOf5
 v5:=Tryz.zeroValue5
 t9:=Tryz.underlying9
 a9:=Tryz.isAgg9
 z9:=Tryz.sizeOf9
 v9:=Tryz.zeroValue9
 t20:=Tryz.underlying20
 a20:=Tryz.isAgg20
 z20:=Tryz.sizeOf20
 v20:=Tryz.zeroValue20
 t21:=Tryz.underlying21
 a21:=Tryz.isAgg21
 z21:=Tryz.sizeOf21
 v21:=Tryz.zeroValue21
 t37:=Tryz.underlying148
 a37:=Tryz.isAgg148
 z37:=Tryz.sizeOf148
 v37:=Tryz.zeroValue148
 t46:=Tryz.underlying182
 a46:=Tryz.isAgg182
 z46:=Tryz.sizeOf182
 v46:=Tryz.zeroValue182
 t51:=Tryz.underlying267
 a51:=Tryz.isAgg267
 z51:=Tryz.sizeOf267
 v51:=Tryz.zeroValue267
 t53:=Tryz.underlying45
 a53:=Tryz.isAgg45
 z53:=Tryz.sizeOf45
 v53:=Tryz.zeroValue45
 t75:=Tryz.underlying314
 a75:=Tryz.isAgg314
 z75:=Tryz.sizeOf314
 v75:=Tryz.zeroValue314
 t76:=Tryz.underlying315
 a76:=Tryz.isAgg315
 z76:=Tryz.sizeOf315
 v76:=Tryz.zeroValue315
 t85:=Tryz.underlying346
 a85:=Tryz.isAgg346
 z85:=Tryz.sizeOf346
 v85:=Tryz.zeroValue346
 t127:=Tryz.underlying367
 a127:=Tryz.isAgg367
 z127:=Tryz.sizeOf367
 v127:=Tryz.zeroValue367
 t143:=Tryz.underlying368
 a143:=Tryz.isAgg368
 z143:=Tryz.sizeOf368
 v143:=Tryz.zeroValue368
 t145:=Tryz.underlying370
 a145:=Tryz.isAgg370
 z145:=Tryz.sizeOf370
 v145:=Tryz.zeroValue370
 t167:=Tryz.underlying345
 a167:=Tryz.isAgg345
 z167:=Tryz.sizeOf345
 v167:=Tryz.zeroValue345
 t168:=Tryz.underlying348
 a168:=Tryz.isAgg348
 z168:=Tryz.sizeOf348
 v168:=Tryz.zeroValue348
 t171:=Tryz.underlying336
 a171:=Tryz.isAgg336
 z171:=Tryz.sizeOf336
 v171:=Tryz.zeroValue336
 t173:=Tryz.underlying338
 a173:=Tryz.isAgg338
 z173:=Tryz.sizeOf338
 v173:=Tryz.zeroValue338
 t175:=Tryz.underlying356
 a175:=Tryz.isAgg356
 z175:=Tryz.sizeOf356
 v175:=Tryz.zeroValue356
 t210:=Tryz.underlying359
 a210:=Tryz.isAgg359
 z210:=Tryz.sizeOf359
 v210:=Tryz.zeroValue359
 t212:=Tryz.underlying353
 a212:=Tryz.isAgg353
 z212:=Tryz.sizeOf353
 v212:=Tryz.zeroValue353
 t213:=Tryz.underlying354
 a213:=Tryz.isAgg354
 z213:=Tryz.sizeOf354
 t232:=Tryz.underlying371
 a232:=Tryz.isAgg371
 z232:=Tryz.sizeOf371
 v232:=Tryz.zeroValue371
 t233:=Tryz.underlying372
 a233:=Tryz.isAgg372
 z233:=Tryz.sizeOf372
 v233:=Tryz.zeroValue372
 g15:=by kernel_rfl
 g16:=by kernel_rfl
 g17:=by kernel_rfl
 g18:=by kernel_rfl
 g19:=by kernel_rfl
 t80:=Tryz.underlying373
 a80:=Tryz.isAgg373
 z80:=Tryz.sizeOf373
 v80:=Tryz.zeroValue373
 i0:=by kernel_rfl
 i2:=by kernel_rfl
 i3:=by kernel_rfl
 i4:=by kernel_rfl
 i5:=by kernel_rfl
 i9:=by kernel_rfl
 i20:=by kernel_rfl
 i21:=by kernel_rfl
 i37:=by kernel_rfl
 i46:=by kernel_rfl
 i51:=by kernel_rfl
 i53:=by kernel_rfl
 i75:=by kernel_rfl
 i76:=by kernel_rfl
 i80:=by kernel_rfl
 i85:=by kernel_rfl
 i127:=by kernel_rfl
 i143:=by kernel_rfl
 i145:=by kernel_rfl
 i167:=by kernel_rfl
 i168:=by kernel_rfl
 i171:=by kernel_rfl
 i173:=by kernel_rfl
 i175:=by kernel_rfl
 i210:=by kernel_rfl
 i212:=by kernel_rfl
 i232:=by kernel_rfl
 i233:=by kernel_rfl
 m15:=by kernel_rfl
 m16:=by kernel_rfl
 m17:=by kernel_rfl
 m18:=by kernel_rfl
 m19:=by kernel_rfl
 c0:=by kernel_rfl
 c2:=by kernel_rfl
 c3:=by kernel_rfl
 c4:=by kernel_rfl
 c5:=by kernel_rfl
 c9:=by kernel_rfl
 c20:=by kernel_rfl
 c21:=by kernel_rfl
 c37:=by kernel_rfl
 c46:=by kernel_rfl
 c51:=by kernel_rfl
 c53:=by kernel_rfl
 c75:=by kernel_rfl
 c76:=by kernel_rfl
 c80:=by kernel_rfl
 c85:=by kernel_rfl
 c127:=by kernel_rfl
 c143:=by kernel_rfl
 c145:=by kernel_rfl
 c167:=by kernel_rfl
 c168:=by kernel_rfl
 c171:=by kernel_rfl
 c173:=by kernel_rfl
 c175:=by kernel_rfl
 c210:=by kernel_rfl
 c212:=by kernel_rfl
 c213:=by kernel_rfl
 c232:=by kernel_rfl
 c233:=by kernel_rfl
theorem Ia {P:Program} {ρ:Ren} (L:Lays.n146 P ρ) (hi9:(P.info? (ρ.t 9)).map (fun i=>(i.zero,i.size,i.bytes))=some (some (.string ByteArray.empty),1,16)) (s:ByteArray) (w:World) (hs:s.size<4294967281) :
  Calls P (ρ.f 146) #[.string s,.string ⟨#[32]⟩] w fun e w' =>
   e=.returned (.slice (some ⟨w.heap.size,0,none⟩) (Lib.countB s ⟨#[32]⟩+1) (Lib.countB s ⟨#[32]⟩+1))/\w'=w.alloc (.cells ((Lib.splitB ⟨#[32]⟩ 0 (Lib.countB s ⟨#[32]⟩) s).map Value.string).toArray (ρ.t 9)):=by
 have h1:1<=(⟨#[32]⟩:ByteArray).size:=by decide
 have hle:=Lib.countB_le ⟨#[32]⟩ h1 s.size s (Nat.le_refl _);have hlen:=Lib.splitB_all ⟨#[32]⟩ h1 0 _ s rfl
 have hC:Calls P (ρ.f 138) #[.string s,.string ⟨#[32]⟩] w fun e w'=>e=.returned (.int .i64 (Lib.countB s ⟨#[32]⟩))/\w'=w :=
  (Any.strings_Count_one { L with } s 32 w).mono fun e w' ⟨he,hw⟩=>⟨by
   rw [he];show _=Ending.returned (Value.int .i64 ((Lib.count s.data.toList [32]:Nat):Int));rw [Lib.count_one];rfl,hw⟩
 have hI:∀ (x:ByteArray) (c:Array Value),x.size<=s.size->Calls P (ρ.f 143) #[.string x,.string ⟨#[32]⟩] (w.alloc (.cells c (ρ.t 9))) fun e w'=>e=.returned (.int .i64 (Lib.indexB x ⟨#[32]⟩))/\w'=w.alloc (.cells c (ρ.t 9)):=fun x c _ =>
  (Any.strings_Index_one { L with } x 32 _).mono fun e w' ⟨he,hw⟩=>⟨by
   rw [he];show _=Ending.returned (Value.int .i64 (Lib.index x.data.toList [32]));rw [Lib.index_one],hw⟩
 have c:=Any.strings_genSplit_core { L with } hi9 s ⟨#[32]⟩ 0 (-1) (Lib.countB s ⟨#[32]⟩+1) w hs h1 (Nat.zero_le _) hI hC (by decide) (by decide) (by rw [if_pos (by decide)]; omega);rw [Nat.add_sub_cancel,hlen] at c;have e2:Lib.cellsOf (Lib.splitB ⟨#[32]⟩ 0 (Lib.countB s ⟨#[32]⟩) s) (Lib.countB s ⟨#[32]⟩+1)=((Lib.splitB ⟨#[32]⟩ 0 (Lib.countB s ⟨#[32]⟩) s).map Value.string).toArray:=by rw [<- hlen]; exact Lib.cellsOf_full _
 rw [e2] at c;have t3:=L.t3; have t9:=L.t9; have t31:=L.t31;have a3:=L.a3; have a9:=L.a9; have a31:=L.a31;have z3:=L.z3; have v3:=L.v3; have z9:=L.z9; have v9:=L.v9; have z31:=L.z31; have v31:=L.v31;have e221:∀ args w,(callFunc (ρ.f 221) args).run P w=.ok (.enter (ρ.f 221) args) w:=enters_of L.f221 (by kernel_rfl) rfl
 go_enter L.f146,Body.n146_ntmps ρ
 go_wp2_with (go_at_fn (ρ.f 221); refine c.mono ?_; rintro e w' ⟨rfl,hw⟩; rw [hw])
 go_ret
 exact ⟨rfl,rfl⟩
theorem IF (s:ByteArray) (w:World) (hs:s.size<4294967281) :
  Calls Tryz.prog 185 #[.string s,.string ⟨#[32]⟩] w fun e w' =>
   e=.returned (.slice (some ⟨w.heap.size,0,none⟩) (Lib.countB s ⟨#[32]⟩+1) (Lib.countB s ⟨#[32]⟩+1))/\w'=w.alloc (.cells ((Lib.splitB ⟨#[32]⟩ 0 (Lib.countB s ⟨#[32]⟩) s).map Value.string).toArray 9) :=
 Ia HH (by kernel_rfl) s w hs
theorem s5:∀ (s:List UInt8),∀ p∈aj s,p.length<=s.length
 | [],p,h=>by simp [aj] at h; simp [h]
 | c::r,p,h=>by
  have ih:=s5 r;unfold aj at h;split at h
  ·rcases List.mem_cons.1 h with rfl | h
   ·simp
   ·have:=ih p h;simp only [List.length_cons];omega
  ·split at h
   ·simp only [List.mem_singleton] at h;subst h;simp
   ·rename_i q ps e;rcases List.mem_cons.1 h with rfl | h
    ·have:=ih q (by rw [e]; simp);simp only [List.length_cons];omega
    ·have:=ih p (by rw [e]; simp [h]);simp only [List.length_cons];omega
theorem iQ:∀ (s:List UInt8),(aj s).length=s.count 32+1
 | []=>rfl
 | c::r=>by
  have ih:=iQ r;unfold aj;by_cases hc:c=32
  ·rw [if_pos hc,hc];simp [ih]
  ·rw [if_neg hc,List.count_cons_of_ne hc];cases e:aj r with
   | nil=>exact absurd e (ws r)
   | cons q ps =>
    rw [e] at ih;simpa using ih
theorem Fc {p:PH}:∀ {xs:List (List UInt8)},(∀ x∈xs,x.length<=ax)->aL (Ty.str.holds p) xs (xs.map fun x=>Value.string ⟨x.toArray⟩)
 | [],_=>rfl
 | x::xs,h=>⟨[.string ⟨x.toArray⟩],xs.map fun x=>Value.string ⟨x.toArray⟩,rfl,⟨rfl,h x (by simp)⟩,Fc (fun y hy=>h y (by simp [hy]))⟩
def DI:Spec:={ Ts:=[.str,.str],Rs:=[.dat (.arr .str)],pre:=fun (x:List UInt8×List UInt8)=>x.2=[32]/\x.1.length<4294967281,F:=fun (x:List UInt8×List UInt8)=>aj x.1 }
theorem DA (s:List UInt8) (hlen:s.length<4294967281) (w:World):Calls Tryz.prog 185 #[.string ⟨s.toArray⟩,.string ⟨#[32]⟩] w fun e w' =>
  e=.returned (.slice (some ⟨w.heap.size,0,none⟩) (aj s).length (aj s).length)/\w'=w.alloc (.cells ((aj s).map fun x=>Value.string ⟨x.toArray⟩).toArray 9):=by
 have hsz:(⟨s.toArray⟩:ByteArray).size=s.length:=by show s.toArray.size=_; simp
 refine (IF ⟨s.toArray⟩ w (by rw [hsz]; exact hlen)).mono ?_;rintro e w' ⟨rfl,rfl⟩
 have hcnt:Lib.countB ⟨s.toArray⟩ ⟨#[32]⟩=s.count 32:=by
  show Lib.count s.toArray.toList [32]=_;rw [Lib.count_one]
 have hdat:(Lib.splitB ⟨#[32]⟩ 0 (s.count 32) ⟨s.toArray⟩).map (·.data.toList)=aj s:=by
  rw [Lib.splitB_data];exact wt _ s rfl
 have hval:(Lib.splitB ⟨#[32]⟩ 0 (s.count 32) ⟨s.toArray⟩).map Value.string=(aj s).map fun x=>Value.string ⟨x.toArray⟩:=by
  rw [<- hdat,List.map_map];rfl
 rw [hcnt,hval,iQ s];exact ⟨rfl,rfl⟩
theorem Ec:DI.ok Tryz.prog 185:=by
 intro p w vs x hL hA hargs hpre
 have key:∀ s:List UInt8,s.length<4294967281->s.length<=ax->Calls Tryz.prog 185 #[.string ⟨s.toArray⟩,.string ⟨#[32]⟩] w fun e w'=>∃ (rs:List Value) (q:PH),e=.returned (cm rs)/\Keep (fun _=>False) w w'/\(∀ b cs,q b=some cs->w.heap.size<=b)/\Agrees q w' /\
   iS w' w.heap.size q q [.dat (.arr .str)] (aj s) rs []:=by
  intro s hlen hb1;refine (DA s hlen w).mono ?_;rintro e w' ⟨rfl,rfl⟩;have hn:=iQ s;have hcl:s.count 32<=s.length:=List.count_le_length;have hnew:=heap_alloc_new w (.cells ((aj s).map fun x=>Value.string ⟨x.toArray⟩).toArray 9);refine ⟨[.slice (some ⟨w.heap.size,0,none⟩) (aj s).length (aj s).length],fun b=>if b=w.heap.size then some (.cells ((aj s).map fun x=>Value.string ⟨x.toArray⟩).toArray) else none,rfl,⟨rfl,rfl,rfl,by simp,fun i hi _=>Below.heap_alloc w _ i hi⟩,fun b cs h=>?_,fun b cs h=>?_,?_⟩
  ·by_cases e:b=w.heap.size
   ·omega
   ·simp [e] at h
  ·by_cases e:b=w.heap.size
   ·subst e;simp only [if_true,Option.some.injEq] at h;subst h;exact ⟨_,_,hnew⟩
   ·simp [e] at h
  ·refine ⟨_,rfl,?_,fun b hb=>by cases hb⟩;show (Ty.arr .str).holds _ (aj s) [_];refine ⟨some ⟨w.heap.size,0,none⟩,(aj s).length,(aj s).map fun x=>Value.string ⟨x.toArray⟩,rfl,Nat.le_refl _,?_,Fc (fun x hx=>?_),fun _=>⟨w.heap.size,0,rfl,fun j u hu=>?_⟩⟩
   ·show (aj s).length * 16<=ax;simp only [ax];omega
   ·have:=s5 s x hx;omega
   ·simpa [PH.cell,Blk.get] using hu
 obtain ⟨v1,rest,rfl,h1,v2,rfl,h2⟩:=hargs;obtain ⟨h1,hb1⟩:[v1]=[Value.string ⟨(x.1:List UInt8).toArray⟩]/\(x.1:List UInt8).length<=ax:=h1;obtain ⟨h2,_⟩:[v2]=[Value.string ⟨(x.2:List UInt8).toArray⟩]/\_:=h2;obtain rfl:=(List.cons.inj h1).1;obtain rfl:=(List.cons.inj h2).1;rw [show (x.2:List UInt8)=[32] from hpre.1];exact key x.1 hpre.2 hb1
def KO:Spec:={ Ts:=[ty_I],Rs:=[.dat .str],pre:=fun _=>True,F:=fun (n:Int)=>Lib.itoa n }
theorem KI {w : World} (h : Laid w) : Lib.TabIs Tryz.prog w "internal/strconv.uint64pow10" .u64 Lib.pow10Tab := by
 obtain ⟨t,fz,e⟩:fits w 1 0 (.agg ((List.range 20).map fun i=>Value.int .u64 ((10 ^ i:Nat):Int)).toArray):=h _ (List.mem_append_right _ (List.mem_cons_self));have hg : Tryz.prog.globalNamed "internal/strconv.uint64pow10" = some 1 := by kernel_rfl
 unfold Lib.TabIs World.var?;rw [hg];simp only [Option.bind_some,e];congr 1
theorem Cx {w:World} (h:Laid w) (g:Nat) (hg:g=3\/g=4):∃ ev,w.cell? ⟨g,0,none⟩=some ev/\(ev=.nilIface\/∃ te pe,ev=.iface te pe):=by
 have hm:(g,0,Value.nilIface)∈ya:=List.mem_append_right _ (by rcases hg with rfl | rfl <;> simp);obtain ⟨te,pe,e⟩:fits w g 0 .nilIface:=h _ hm;exact ⟨_,e,.inr ⟨te,pe,rfl⟩⟩
theorem ER (w:World) (k:Nat) (os:Array Go.Obj):Below w.heap.size w (Sort.grow (w.drewN k) os) :=
 ⟨rfl,rfl,rfl,by simp,fun i hi=>by simp [Sort.grow,Array.getElem?_append,hi]⟩
theorem FK (n:Int) (hn:ah .i64 n) (w:World) (h:Laid w):Calls Tryz.prog 110 #[.int .i64 n] w fun e w'=>e=.returned (.string ⟨(Lib.itoa n).toArray⟩)/\Below w.heap.size w w':=by
 simp only [ah] at hn;refine (Any.strconv_Itoa JF n (by omega) (by omega) w (KI h)).mono ?_;rintro e w' ⟨rfl,k,os,rfl⟩;exact ⟨rfl,ER w k os⟩
theorem K9:KO.ok Tryz.prog 110:=by
 intro p w vs (n:Int) hL hA hargs _;obtain ⟨val,rfl,hv⟩:=hargs;obtain ⟨e,hr⟩:[val]=[Value.int .i64 n]/\ah .i64 n:=hv;obtain rfl:=(List.cons.inj e).1;refine (FK n hr w hL).mono ?_;rintro e w' ⟨rfl,hb⟩;refine ⟨[.string ⟨(Lib.itoa n).toArray⟩],fun _=>none,rfl,⟨hb.os,hb.tape,hb.output,hb.size,fun i hi _=>hb.block i hi⟩,fun _ _ h=>(by cases h),fun _ _ h=>(by cases h),?_⟩;have:=Lib.itoa_length_le n (by simp only [ah] at hr; omega) (by simp only [ah] at hr; omega);exact ⟨_,rfl,⟨rfl,by show (Lib.itoa n).length<=ax; simp only [ax]; omega⟩,fun b hb=>by cases hb⟩
abbrev Ky (s:List UInt8) (w:World):Prop:=Calls Tryz.prog 187 #[.string ⟨s.toArray⟩] w fun e w'=>e=.returned (.tuple #[.int .i64 (fD s).1,.bool (fD s).2])/\Below w.heap.size w w'
theorem og {w w':World} (h:w'=w\/∃ t,w'=Lib.bytesWorld w 5 t):Below w.heap.size w w':=by
 rcases h with rfl | ⟨t,rfl⟩
 ·exact Below.refl _ _
 ·exact Lib.bytesWorld_below _ _ _
theorem Laid.below {w w':World} (h:Laid w) (hb:Below w.heap.size w w'):Laid w':=h.of_heap fun _ _ hlt=>hb.block _ hlt
theorem Mr (s:List UInt8) (hs:s.length<=ax) (v:Int) (hv:Lib.atoiAll s=.ok v) (w:World) (h:Laid w):Ky s w:=by
 have hA:=Any.strconv_Atoi_ok ue ⟨s.toArray⟩ (by show s.toArray.size<=_; simp only [ax] at hs; simp; omega) v hv w;have hb:=Lib.atoiAll_bounds hv;have hF:fD s=(v,decide (-1000000000000000<v/\v<1000000000000000/\Lib.itoa v=s)):=by unfold fD; rw [hv]
 unfold Ky;rw [hF];have hin:ah .i64 v:=by simp only [ah]; omega
 by_cases h1:-1000000000000000<v
 ·by_cases h2:v<1000000000000000
  ·have e1:decide (-1000000000000000<v)=true:=decide_eq_true h1;have e2:decide (v<1000000000000000)=true:=decide_eq_true h2
   go_enter Tryz.func187,Tryz.ntmps187
   go_wp2_with (go_at_call 242; refine hA.mono ?_; rintro e W1 ⟨rfl,hW⟩)
   have hb1:=og hW;have hI:=FK v hin W1 (h.below hb1);clear hW
   go_wp2_with (go_at_call 110; refine hI.mono ?_; rintro e W2 ⟨rfl,hb2⟩)
   go_ret2
   refine ⟨?_,hb1.trans (hb2.mono hb1.size)⟩
   have e3:(Lib.itoa v == s)=decide (-1000000000000000<v/\v<1000000000000000/\Lib.itoa v=s):=by
    apply Bool.eq_iff_iff.2;simp only [beq_iff_eq,decide_eq_true_eq];exact ⟨fun h=>⟨h1,h2,h⟩,fun h=>h.2.2⟩
   rw [e3];rfl
  ·have e1:decide (-1000000000000000<v)=true:=decide_eq_true h1;have e2:decide (v<1000000000000000)=false:=decide_eq_false h2
   go_enter Tryz.func187,Tryz.ntmps187
   go_wp2_with (go_at_call 242; refine hA.mono ?_; rintro e W1 ⟨rfl,hW⟩)
   have hb1:=og hW;clear hW
   go_wp2
   go_ret2
   refine ⟨?_,hb1⟩;rw [decide_eq_false (fun h=>absurd h.2.1 (by omega))];rfl
 ·have e1:decide (-1000000000000000<v)=false:=decide_eq_false h1
  go_enter Tryz.func187,Tryz.ntmps187
  go_wp2_with (go_at_call 242; refine hA.mono ?_; rintro e W1 ⟨rfl,hW⟩)
  have hb1:=og hW;clear hW
  go_wp2
  go_ret2
  refine ⟨?_,hb1⟩;rw [decide_eq_false (fun h=>absurd h.1 (by omega))];rfl
theorem FF (s:List UInt8) (z:Int) (w:World) (hA:Calls Tryz.prog 242 #[.string ⟨s.toArray⟩] w fun e w'=>∃ N t,e=.returned (.tuple #[.int .i64 z,.iface t (.pointer (some ⟨N,0,none⟩))])/\Below w.heap.size w w') :
  Calls Tryz.prog 187 #[.string ⟨s.toArray⟩] w fun e w'=>e=.returned (.tuple #[.int .i64 z,.bool false])/\Below w.heap.size w w':=by
 go_enter Tryz.func187,Tryz.ntmps187
 go_wp2_with (go_at_call 242; refine hA.mono ?_; rintro e W1 ⟨N,t,rfl,hb⟩)
 go_wp2
 go_ret2
 exact ⟨rfl,hb⟩
theorem Ms (s:List UInt8) (hs:s.length<=ax) (w:World) (h:Laid w):Ky s w:=by
 have hsz:(⟨s.toArray⟩:ByteArray).size=s.length:=by show s.toArray.size=_; simp
 have hlim:(⟨s.toArray⟩:ByteArray).size<=281474976710656:=by rw [hsz]; simp only [ax] at hs; omega
 cases hv:Lib.atoiAll s
 ·exact Mr s hs _ hv w h
 ·obtain ⟨ev,hc,he⟩:=Cx h 3 (.inl rfl);have hF:fD s=(0,false):=by unfold fD; rw [hv]
  unfold Ky;rw [hF];refine FF s 0 w ((Any.strconv_Atoi_syntax ue ⟨s.toArray⟩ hlim hv ev w hc he).mono ?_);rintro e w' ⟨N,rfl,_,_,hb⟩;exact ⟨N,_,rfl,hb⟩
 ·obtain ⟨ev,hc,he⟩:=Cx h 4 (.inr rfl);have hF:fD s=(Lib.atoiSat s,false):=by unfold fD; rw [hv]
  unfold Ky;rw [hF];refine FF s _ w ((Any.strconv_Atoi_range ue ⟨s.toArray⟩ hlim hv ev w hc he).mono ?_);rintro e w' ⟨N,rfl,_,_,hb⟩;exact ⟨N,_,rfl,hb⟩
theorem Le (s:List UInt8):ah .i64 (fD s).1:=by
 unfold fD;simp only [ah];split
 ·rename_i v hv;have:=Lib.atoiAll_bounds hv;simp only;omega
 ·have:=Lib.atoiSat_bounds s;simp only;omega
 ·simp only;omega
def DL:Spec:={ Ts:=[.str],Rs:=[.dat ty_I,.dat .bool],pre:=fun _=>True,F:=fun (s:List UInt8)=>fD s }
theorem Ef:DL.ok Tryz.prog 187:=by
 intro p w vs (s:List UInt8) hL hA hargs _;obtain ⟨val,rfl,hv⟩:=hargs;obtain ⟨e,hr⟩:[val]=[Value.string ⟨s.toArray⟩]/\s.length<=ax:=hv;obtain rfl:=(List.cons.inj e).1;refine (Ms s hr w hL).mono ?_;rintro e w' ⟨rfl,hb⟩;exact ⟨[.int .i64 (fD s).1,.bool (fD s).2],fun _=>none,rfl,⟨hb.os,hb.tape,hb.output,hb.size,fun i hi _=>hb.block i hi⟩,fun _ _ h=>(by cases h),fun _ _ h=>(by cases h),_,_,rfl,⟨rfl,Le s⟩,(fun b hb=>by cases hb),_,rfl,rfl,fun b hb=>by cases hb⟩
end
section
open Go
set_option maxRecDepth 100000
set_option maxHeartbeats 1000000
set_option maxHeartbeats 8000000
end
section
open Go
set_option maxRecDepth 100000
set_option maxHeartbeats 1000000
set_option maxHeartbeats 4000000
theorem fI {s:ak} {k a b c v:Int} {y:ak×Int×Int} (hb:ca k a b c v=false) (h1:az s≠0->y=(aA,0,az s)) (h2:az s=0->y=deed s k a b c v):ar s k a b c v=y:=by
 unfold ar;rw [if_neg (by rw [hb]; simp)];by_cases h:az s≠0
 ·rw [if_pos h,h1 h]
 ·rw [if_neg h,h2 (by omega)]
theorem r5 {s:ak} (a:Int) (h:az s≠0):bo s a=az s:=by unfold bo; rw [if_pos h]
theorem A6 {s:ak} (a:Int) (h:az s≠0):bC s a=az s:=by unfold bC; rw [if_pos h]
theorem M6 (s:ak) (a b c v:Int):ar s 1 a b c v=((ba s a (b,c,v % 65536,false)).1,Nh (ba s a (b,c,v % 65536,false)).2.1,(ba s a (b,c,v % 65536,false)).2.2):=fI (by simp [ca]) (fun h=>by
 have e:=A6 a h;unfold ba;rw [if_pos (by omega),e];rfl) (fun h=>by rw [CI])
theorem M5 (s:ak):ar s 2 0 0 0 0=bx s:=fI (by rfl) (fun h=>by unfold bx; rw [if_pos h]) (fun h=>by rw [F0]; unfold bx; rw [if_neg (by omega)])
theorem M4 (s:ak) (a b c:Int):ar s 3 a b c 0=((kG s a b c).1,0,(kG s a b c).2):=fI (by simp [ca]) (fun h=>by
 have e:bv s a b c=az s:=by unfold bv; rw [if_pos (by rw [r5 a h]; exact h),r5 a h]
 unfold kG;rw [if_pos (by omega),e]) (fun h=>by rw [FZ])
theorem M3 (s:ak) (a b c:Int):ar s 4 a b c 0=((kz s a b c).1,0,(kz s a b c).2):=fI (by simp [ca]) (fun h=>by
 have e:bv s a b c=az s:=by unfold bv; rw [if_pos (by rw [r5 a h]; exact h),r5 a h]
 unfold kz;rw [if_pos (by omega),e]) (fun h=>by rw [FY])
theorem M2 (s:ak) (a b:Int):ar s 5 a b 0 0=(if aO s a b≠0 then (aA,0,aO s a b) else (s,s.1.getD (bE s (ay s a) b).toNat 0,0)):=fI (by simp [ca]) (fun h=>by
 have e:aO s a b=az s:=by unfold aO; rw [if_pos (by rw [r5 a h]; exact h),r5 a h]
 rw [if_pos (by omega),e]) (fun h=>by rw [CH])
theorem M1 (s:ak) (a b v:Int):ar s 6 a b 0 v=((jA s a b v).1,0,(jA s a b v).2):=fI (by simp [ca]) (fun h=>by
 have e:aO s a b=az s:=by unfold aO; rw [if_pos (by rw [r5 a h]; exact h),r5 a h]
 unfold jA;rw [if_pos (by omega),e]) (fun h=>by rw [CG])
theorem M0 (s:ak) (a:Int):ar s 7 a 0 0 0=iD s a:=fI (by simp [ca]) (fun h=>by unfold iD; rw [if_pos (by rw [r5 a h]; exact h),r5 a h]) (fun h=>by rw [FX])
theorem MZ (s:ak) (a:Int):ar s 8 a 0 0 0=((cT s a).1,0,(cT s a).2):=fI (by simp [ca]) (fun h=>by unfold cT; rw [if_pos h]) (fun h=>by rw [FW])
theorem MY (s:ak) (a b:Int):ar s 9 a b 0 0=(if cg s a b≠0 then (aA,0,cg s a b) else (s,s.1.getD (bE s a b).toNat 0,0)):=fI (by simp [ca]) (fun h=>by
 have e:cg s a b=az s:=by unfold cg; rw [if_pos h]
 rw [if_pos (by omega),e]) (fun h=>by rw [FV])
theorem MH (s:ak) (a:Int):ar s 10 a 0 0 0=fp s a:=fI (by simp [ca]) (fun h=>by unfold fp; rw [if_pos (by rw [r5 a h]; exact h),r5 a h]) (fun h=>by rw [zB])
theorem MG (s:ak) (a v:Int):ar s 11 a 0 0 v=((jz s v a).1,0,(jz s v a).2):=fI (by simp [ca]) (fun h=>by unfold jz; rw [if_pos (by rw [A6 a h]; exact h),A6 a h]) (fun h=>by rw [zA])
theorem MF (s:ak) (v:Int):ar s 12 0 0 0 v=((fN s v).1,0,(fN s v).2):=fI (by simp [ca]) (fun h=>by unfold fN; rw [if_pos h]) (fun h=>by rw [zz])
theorem ME (s:ak) (a:Int):ar s 13 a 0 0 0=((fh s a).1,0,(fh s a).2):=fI (by simp [ca]) (fun h=>by unfold fh; rw [if_pos (by rw [A6 a h]; exact h),A6 a h]) (fun h=>by rw [zy])
theorem Jb {s:ak} (hw:∀ x∈s.1,ah .u64 x) (a:Int):IntKind.u64.wrap (iD s a).2.1=(iD s a).2.1:=by
 unfold iD;split
 ·rfl
 ·rename_i h;split
  ·rfl
  ·obtain ⟨R,_,_,O⟩:=nJ hw (by omega:bo s a=0);have:=O.x0;have:=O.r0;have:=O.b0;have:=O.fit;have:=R.al;exact fM (by simp only; omega) (by simp only; omega)
theorem zE {s:ak} (hw:∀ x∈s.1,ah .u64 x):IntKind.u64.wrap (bx s).2.1=(bx s).2.1:=by
 unfold bx;split
 ·rfl
 ·have R:=iv hw (by omega:az s=0);have hg:=E7 (aM false [] (ac (dz s)).1) (fun r hr=>by have:=R.gaps.2.1 r hr; omega);have hl:=R.gaps.2.2;have e:(dj s).2=dF (aM false [] (ac (dz s)).1):=rfl;exact fM (by simp only; omega) (by simp only; omega)
end
section
open Go Go.RowKit
set_option maxHeartbeats 8000000
theorem EQ {w:World} {a:Addr} {v:Value} (h:w.cell? a=some v) (o:Go.Obj):(w.alloc o).cell? a=some v:=by
 refine (((Below.refl w.heap.size w).alloc (Nat.le_refl _) o).cell (Nat.lt_of_not_le fun hn=>?_)).trans h;unfold World.cell? at h;rw [Array.getElem?_eq_none hn] at h;cases h
abbrev Nn (k a b c v:Int):Value:=.agg #[.int .i64 k,.int .i64 a,.int .i64 b,.int .i64 c,.int .u64 v]
abbrev Hf (k a b c v:Int):Go.Obj:=Go.Obj.cells #[.int .i64 k,.int .i64 a,.int .i64 b,.int .i64 c,.int .u64 v] 47
def dI (k a b c v:Int):Bool:=!ca k a b c v
abbrev gn (k a b c v:Int) (w:World):Prop:=Calls Tryz.prog 58 #[Nn k a b c v] w fun e w'=>e=.returned (.bool (dI k a b c v))/\Below w.heap.size w w'
theorem ia (w:World) (o o2:Go.Obj):Below w.heap.size w ((w.alloc o).alloc o2):=((Below.refl _ w).alloc (Nat.le_refl _) o).alloc (by simp) o2
theorem gl {x y:Bool} (h:x=y):Ending.returned (.bool x)=Ending.returned (.bool y):=by rw [h]
def formsB:List (List Bool):=[[false,false,false,false],[true,true,true,true],[false,false,false,false],[true,true,true,false],[true,true,true,false],[true,true,false,false],[true,true,false,true],[true,false,false,false],[true,false,false,false],[true,true,false,false],[true,false,false,false],[true,false,false,true],[false,false,false,true],[true,false,false,false]]
def formsZ:List (Nat×Bool):=List.zip (List.range 56) formsB.flatten
theorem kM {w:World} (h:Laid w) (i j k l:Nat) (x y z u:Bool) (o:Go.Obj)
  (hm:(formsZ.contains (i,x)&&formsZ.contains (j,y)&&formsZ.contains (k,z)&&formsZ.contains (l,u))=true) :
  (w.alloc o).cell? ⟨0,i,none⟩=some (.bool x)/\(w.alloc o).cell? ⟨0,j,none⟩=some (.bool y)/\(w.alloc o).cell? ⟨0,k,none⟩=some (.bool z)/\(w.alloc o).cell? ⟨0,l,none⟩=some (.bool u):=by
 simp only [Bool.and_eq_true,List.contains_iff_mem] at hm
 have key:∀ n b,(n,b)∈formsZ->(w.alloc o).cell? ⟨0,n,none⟩=some (.bool b):=fun n b hb=>by
  have h1:w.cell? ⟨0,n,none⟩=some (.bool b):=h (0,n,.bool b) (by first | exact List.mem_map.2 ⟨(n,b),hb,rfl⟩ | exact List.mem_append_left _ (List.mem_map.2 ⟨(n,b),hb,rfl⟩));exact EQ h1 o
 exact ⟨key _ _ hm.1.1.1,key _ _ hm.1.1.2,key _ _ hm.1.2,key _ _ hm.2⟩
theorem pP (x:Int):x=0\/(x≠0/\(x == 0)=false):=by
 by_cases h:x=0
 ·exact .inl h
 ·exact .inr ⟨h,by simp [h]⟩
theorem I3 (k a b c v:Int) (w:World) (hk:k<1\/13<k):gn k a b c v w:=by
 by_cases h1:k<1
 ·have e1:decide (k<1)=true:=decide_eq_true h1
  go_enter Tryz.func58,Tryz.ntmps58
  go_wp2
  go_ret
  exact ⟨gl (by simp [dI,ca,e1]),(Below.refl _ w).alloc (Nat.le_refl _) _⟩
 ·have e1:decide (k<1)=false:=decide_eq_false h1;have e2:decide (k > 13)=true:=decide_eq_true (by omega);have e3:decide (13<k)=true:=e2
  go_enter Tryz.func58,Tryz.ntmps58
  go_wp2
  go_ret
  exact ⟨gl (by simp [dI,ca,e1,e3]),(Below.refl _ w).alloc (Nat.le_refl _) _⟩
theorem Mk (a b c v:Int) (w:World) (h:Laid w):gn 1 a b c v w:=by
 obtain ⟨e0,e1,e2,e3⟩:=kM h 4 5 6 7 true true true true (Hf 1 a b c v) (by decide)
 all_goals (go_enter Tryz.func58,Tryz.ntmps58; go_wp2; go_ret; exact ⟨gl (by simp [dI,ca, *]),ia _ _ _⟩)
theorem Mj (a b c v:Int) (w:World) (h:Laid w):gn 2 a b c v w:=by
 obtain ⟨e0,e1,e2,e3⟩:=kM h 8 9 10 11 false false false false (Hf 2 a b c v) (by decide);rcases pP a with rfl | ⟨qa,sa⟩
 all_goals rcases pP b with rfl | ⟨qb,sb⟩
 all_goals rcases pP c with rfl | ⟨qc,sc⟩
 all_goals rcases pP v with rfl | ⟨qv,sv⟩
 all_goals (go_enter Tryz.func58,Tryz.ntmps58; go_wp2; go_ret; exact ⟨gl (by simp [dI,ca, *]),ia _ _ _⟩)
theorem Mi (a b c v:Int) (w:World) (h:Laid w):gn 3 a b c v w:=by
 obtain ⟨e0,e1,e2,e3⟩:=kM h 12 13 14 15 true true true false (Hf 3 a b c v) (by decide);rcases pP v with rfl | ⟨qv,sv⟩
 all_goals (go_enter Tryz.func58,Tryz.ntmps58; go_wp2; go_ret; exact ⟨gl (by simp [dI,ca, *]),ia _ _ _⟩)
theorem Mh (a b c v:Int) (w:World) (h:Laid w):gn 4 a b c v w:=by
 obtain ⟨e0,e1,e2,e3⟩:=kM h 16 17 18 19 true true true false (Hf 4 a b c v) (by decide);rcases pP v with rfl | ⟨qv,sv⟩
 all_goals (go_enter Tryz.func58,Tryz.ntmps58; go_wp2; go_ret; exact ⟨gl (by simp [dI,ca, *]),ia _ _ _⟩)
theorem Mg (a b c v:Int) (w:World) (h:Laid w):gn 5 a b c v w:=by
 obtain ⟨e0,e1,e2,e3⟩:=kM h 20 21 22 23 true true false false (Hf 5 a b c v) (by decide);rcases pP c with rfl | ⟨qc,sc⟩
 all_goals rcases pP v with rfl | ⟨qv,sv⟩
 all_goals (go_enter Tryz.func58,Tryz.ntmps58; go_wp2; go_ret; exact ⟨gl (by simp [dI,ca, *]),ia _ _ _⟩)
theorem Mf (a b c v:Int) (w:World) (h:Laid w):gn 6 a b c v w:=by
 obtain ⟨e0,e1,e2,e3⟩:=kM h 24 25 26 27 true true false true (Hf 6 a b c v) (by decide);rcases pP c with rfl | ⟨qc,sc⟩
 all_goals (go_enter Tryz.func58,Tryz.ntmps58; go_wp2; go_ret; exact ⟨gl (by simp [dI,ca, *]),ia _ _ _⟩)
theorem Me (a b c v:Int) (w:World) (h:Laid w):gn 7 a b c v w:=by
 obtain ⟨e0,e1,e2,e3⟩:=kM h 28 29 30 31 true false false false (Hf 7 a b c v) (by decide);rcases pP b with rfl | ⟨qb,sb⟩
 all_goals rcases pP c with rfl | ⟨qc,sc⟩
 all_goals rcases pP v with rfl | ⟨qv,sv⟩
 all_goals (go_enter Tryz.func58,Tryz.ntmps58; go_wp2; go_ret; exact ⟨gl (by simp [dI,ca, *]),ia _ _ _⟩)
theorem Md (a b c v:Int) (w:World) (h:Laid w):gn 8 a b c v w:=by
 obtain ⟨e0,e1,e2,e3⟩:=kM h 32 33 34 35 true false false false (Hf 8 a b c v) (by decide);rcases pP b with rfl | ⟨qb,sb⟩
 all_goals rcases pP c with rfl | ⟨qc,sc⟩
 all_goals rcases pP v with rfl | ⟨qv,sv⟩
 all_goals (go_enter Tryz.func58,Tryz.ntmps58; go_wp2; go_ret; exact ⟨gl (by simp [dI,ca, *]),ia _ _ _⟩)
theorem Mc (a b c v:Int) (w:World) (h:Laid w):gn 9 a b c v w:=by
 obtain ⟨e0,e1,e2,e3⟩:=kM h 36 37 38 39 true true false false (Hf 9 a b c v) (by decide);rcases pP c with rfl | ⟨qc,sc⟩
 all_goals rcases pP v with rfl | ⟨qv,sv⟩
 all_goals (go_enter Tryz.func58,Tryz.ntmps58; go_wp2; go_ret; exact ⟨gl (by simp [dI,ca, *]),ia _ _ _⟩)
theorem K3 (a b c v:Int) (w:World) (h:Laid w):gn 10 a b c v w:=by
 obtain ⟨e0,e1,e2,e3⟩:=kM h 40 41 42 43 true false false false (Hf 10 a b c v) (by decide);rcases pP b with rfl | ⟨qb,sb⟩
 all_goals rcases pP c with rfl | ⟨qc,sc⟩
 all_goals rcases pP v with rfl | ⟨qv,sv⟩
 all_goals (go_enter Tryz.func58,Tryz.ntmps58; go_wp2; go_ret; exact ⟨gl (by simp [dI,ca, *]),ia _ _ _⟩)
theorem K2 (a b c v:Int) (w:World) (h:Laid w):gn 11 a b c v w:=by
 obtain ⟨e0,e1,e2,e3⟩:=kM h 44 45 46 47 true false false true (Hf 11 a b c v) (by decide);rcases pP b with rfl | ⟨qb,sb⟩
 all_goals rcases pP c with rfl | ⟨qc,sc⟩
 all_goals (go_enter Tryz.func58,Tryz.ntmps58; go_wp2; go_ret; exact ⟨gl (by simp [dI,ca, *]),ia _ _ _⟩)
theorem K1 (a b c v:Int) (w:World) (h:Laid w):gn 12 a b c v w:=by
 obtain ⟨e0,e1,e2,e3⟩:=kM h 48 49 50 51 false false false true (Hf 12 a b c v) (by decide);rcases pP a with rfl | ⟨qa,sa⟩
 all_goals rcases pP b with rfl | ⟨qb,sb⟩
 all_goals rcases pP c with rfl | ⟨qc,sc⟩
 all_goals (go_enter Tryz.func58,Tryz.ntmps58; go_wp2; go_ret; exact ⟨gl (by simp [dI,ca, *]),ia _ _ _⟩)
theorem K0 (a b c v:Int) (w:World) (h:Laid w):gn 13 a b c v w:=by
 obtain ⟨e0,e1,e2,e3⟩:=kM h 52 53 54 55 true false false false (Hf 13 a b c v) (by decide);rcases pP b with rfl | ⟨qb,sb⟩
 all_goals rcases pP c with rfl | ⟨qc,sc⟩
 all_goals rcases pP v with rfl | ⟨qv,sv⟩
 all_goals (go_enter Tryz.func58,Tryz.ntmps58; go_wp2; go_ret; exact ⟨gl (by simp [dI,ca, *]),ia _ _ _⟩)
theorem DZ {k a b c v:Int} {w:World} (h:Laid w):gn k a b c v w:=by
 by_cases h1:k<1\/13<k
 ·exact I3 k a b c v w h1
 have:k=1\/k=2\/k=3\/k=4\/k=5\/k=6\/k=7\/k=8\/k=9\/k=10\/k=11\/k=12\/k=13:=by omega
 rcases this with rfl | rfl | rfl | rfl | rfl | rfl | rfl | rfl | rfl | rfl | rfl | rfl | rfl
 ·exact Mk a b c v w h
 ·exact Mj a b c v w h
 ·exact Mi a b c v w h
 ·exact Mh a b c v w h
 ·exact Mg a b c v w h
 ·exact Mf a b c v w h
 ·exact Me a b c v w h
 ·exact Md a b c v w h
 ·exact Mc a b c v w h
 ·exact K3 a b c v w h
 ·exact K2 a b c v w h
 ·exact K1 a b c v w h
 ·exact K0 a b c v w h
def IM:Spec:={ Ts:=[sQ],Rs:=[.dat .bool],pre:=fun _=>True,F:=fun ((k,a,b,c,v):Int×Int×Int×Int×Int)=>dI k a b c v }
theorem Jl:IM.ok Tryz.prog 58:=by
 intro p w vs ⟨k,a,b,c,v⟩ hL hA hargs _;obtain ⟨val,rfl,hv⟩:=hargs;obtain ⟨cs,rfl,c1,c1',e1,⟨rfl,_⟩,c2,c2',rfl,⟨rfl,_⟩,c3,c3',rfl,⟨rfl,_⟩,c4,c4',rfl,⟨rfl,_⟩,rfl,_⟩:=hv
 have e:cs=#[.int .i64 k,.int .i64 a,.int .i64 b,.int .i64 c,.int .u64 v]:=by
  apply Array.toList_inj.1;simpa using e1
 subst e;refine (DZ (k:=k) (a:=a) (b:=b) (c:=c) (v:=v) hL).mono ?_;rintro e w' ⟨rfl,hb⟩;refine ⟨[.bool (dI k a b c v)],fun _=>none,rfl,⟨hb.os,hb.tape,hb.output,hb.size,fun i hi _=>hb.block i hi⟩,fun _ _ h=>(by cases h),fun _ _ h=>(by cases h),?_⟩;exact ⟨_,rfl,rfl,fun b hb=>by cases hb⟩
end
section
open Go
set_option maxRecDepth 100000
set_option maxHeartbeats 1000000
set_option maxHeartbeats 4000000
def LJ:Nat->Option LoopGen
 | 3000081=>some eE
 | 8204000001=>some eE
 | _=>none
def eQ (s:ak) (e:Int):ak×Int×Int:=(s,0,e)
def IO:Spec:={ Ts:=[aN,ty_I],Rs:=[.dat aN,.dat bi,.dat ty_I],al:=true,pre:=fun _=>True,F:=fun ((s,e):ak×Int)=>eQ s e }
def Bu:Prop :=
  ∀ (x:(List Int×List Int×List (Int×Int)×List (Int×Bool×Int))×Int),((x.1.1.length * 8<=ax/\∀ (x_1:Int),x_1∈x.1.1->ah .u64 x_1)/\(x.1.2.1.length * 8<=ax/\∀ (x_1:Int),x_1∈x.1.2.1->ah .i64 x_1)/\(x.1.2.2.1.length * (8+8)<=ax/\∀ (x_1:Int×Int),x_1∈x.1.2.2.1->ah .i64 x_1.1/\ah .i64 x_1.2)/\x.1.2.2.2.length * (8+(8+8))<=ax/\∀ (x_1:Int×Bool×Int),x_1∈x.1.2.2.2->ah .i64 x_1.1/\True/\ah .i64 x_1.2.2)/\ah .i64 x.2->True->x.1=(eQ x.1 x.2).1/\0=(eQ x.1 x.2).2.1/\x.2=(eQ x.1 x.2).2.2/\True
theorem Gi:Bu:=by
 unfold Bu;intro ⟨s,e⟩ _ _;exact ⟨by first | exact trivial | rfl,by first | exact trivial | rfl,by first | exact trivial | rfl,trivial⟩
theorem Jn:IO.ok Tryz.prog 61:=aD (ann:=co) ap Tryz.func61 (by kernel_rfl) Gi
def gb (s:ak) (n e:Int):ak×Int×Int:=(s,IntKind.u64.wrap n,e)
def DK:Spec:={ Ts:=[aN,ty_I,ty_I],Rs:=[.dat aN,.dat bi,.dat ty_I],al:=true,pre:=fun _=>True,F:=fun ((s,n,e):ak×Int×Int)=>gb s n e }
def tF:Prop :=
  ∀ (x:(List Int×List Int×List (Int×Int)×List (Int×Bool×Int))×Int×Int),((x.1.1.length * 8<=ax/\∀ (x_1:Int),x_1∈x.1.1->ah .u64 x_1)/\(x.1.2.1.length * 8<=ax/\∀ (x_1:Int),x_1∈x.1.2.1->ah .i64 x_1)/\(x.1.2.2.1.length * (8+8)<=ax/\∀ (x_1:Int×Int),x_1∈x.1.2.2.1->ah .i64 x_1.1/\ah .i64 x_1.2)/\x.1.2.2.2.length * (8+(8+8))<=ax/\∀ (x_1:Int×Bool×Int),x_1∈x.1.2.2.2->ah .i64 x_1.1/\True/\ah .i64 x_1.2.2)/\ah .i64 x.2.1/\ah .i64 x.2.2->True->x.1=(gb x.1 x.2.1 x.2.2).1/\IntKind.u64.wrap x.2.1=(gb x.1 x.2.1 x.2.2).2.1/\x.2.2=(gb x.1 x.2.1 x.2.2).2.2/\True
theorem Ad:tF:=by
 unfold tF;intro ⟨s,n,e⟩ _ _;exact ⟨by first | exact trivial | rfl,by first | exact trivial | rfl,by first | exact trivial | rfl,trivial⟩
theorem Ee:DK.ok Tryz.prog 59:=aD (ann:=co) ap Tryz.func59 (by kernel_rfl) Ad
def iN (s:ak) (v e:Int):ak×Int×Int:=if e≠0 then (aA,0,e) else (s,v,0)
def IP:Spec:={ Ts:=[aN,bi,ty_I],Rs:=[.dat aN,.dat bi,.dat ty_I],al:=true,pre:=fun _=>True,F:=fun ((s,v,e):ak×Int×Int)=>iN s v e }
def Bv:Prop :=
  ∀ (x:(List Int×List Int×List (Int×Int)×List (Int×Bool×Int))×Int×Int),((x.1.1.length * 8<=ax/\∀ (x_1:Int),x_1∈x.1.1->ah .u64 x_1)/\(x.1.2.1.length * 8<=ax/\∀ (x_1:Int),x_1∈x.1.2.1->ah .i64 x_1)/\(x.1.2.2.1.length * (8+8)<=ax/\∀ (x_1:Int×Int),x_1∈x.1.2.2.1->ah .i64 x_1.1/\ah .i64 x_1.2)/\x.1.2.2.2.length * (8+(8+8))<=ax/\∀ (x_1:Int×Bool×Int),x_1∈x.1.2.2.2->ah .i64 x_1.1/\True/\ah .i64 x_1.2.2)/\ah .u64 x.2.1/\ah .i64 x.2.2->True->(decide (x.2.2≠0)=true->(([]:List Int),([]:List Int),([]:List (Int×Int)),([]:List (Int×Bool×Int)))=(iN x.1 x.2.1 x.2.2).1/\0=(iN x.1 x.2.1 x.2.2).2.1/\x.2.2=(iN x.1 x.2.1 x.2.2).2.2/\True)/\(decide (x.2.2≠0)=false->∀ (_:Array Value),True/\True/\True/\x.1.2.1=x.1.2.1/\x.1.2.2.1=x.1.2.2.1/\x.1.2.2.1=x.1.2.2.1/\x.1.2.2.2=x.1.2.2.2/\x.1.2.2.2=x.1.2.2.2/\x.1.2.2.2=x.1.2.2.2/\True/\x.1=(iN x.1 x.2.1 x.2.2).1/\x.2.1=(iN x.1 x.2.1 x.2.2).2.1/\0=(iN x.1 x.2.1 x.2.2).2.2/\True)
theorem Gj:Bv:=by
 unfold Bv;intro ⟨s,v,e⟩ _ _;simp only;unfold iN;refine ⟨fun h=>?_,fun h=>?_⟩
 ·rw [if_pos (of_decide_eq_true h)];exact ⟨rfl,rfl,rfl,trivial⟩
 ·rw [if_neg (of_decide_eq_false h)];exact fun _=>⟨by first | exact trivial | rfl,by first | exact trivial | rfl,by first | exact trivial | rfl,by first | exact trivial | rfl,by first | exact trivial | rfl,by first | exact trivial | rfl,by first | exact trivial | rfl,by first | exact trivial | rfl,by first | exact trivial | rfl,by first | exact trivial | rfl,by first | exact trivial | rfl,by first | exact trivial | rfl,by first | exact trivial | rfl,trivial⟩
theorem Jo:IP.ok Tryz.prog 65:=aD (ann:=LJ) (ae bI (ae ci (ae bZ (ae bJ ap)))) Tryz.func65 (by kernel_rfl) Gj
theorem FI (s:ak) (v e:Int):iN s (if e≠0 then 0 else v) e=if e≠0 then (aA,0,e) else (s,v,0):=by
 unfold iN;by_cases h:e≠0
 ·rw [if_pos h,if_pos h]
 ·rw [if_neg h,if_neg h,if_neg h]
theorem lF {α β γ:Type} {x y:α×β×γ} (h:x=y):x.1=y.1/\x.2.1=y.2.1/\x.2.2=y.2.2/\True:=by subst h; exact ⟨rfl,rfl,rfl,trivial⟩
def L9:Spec:={ Ts:=[aN,sQ],Rs:=[.dat aN,.dat bi,.dat ty_I],al:=true,pre:=fun _=>True,F:=fun ((s,k,a,b,c,v):ak×Int×Int×Int×Int×Int)=>ar s k a b c v }
def I6:Prop :=
  ∀ (x:(List Int×List Int×List (Int×Int)×List (Int×Bool×Int))×Int×Int×Int×Int×Int),(fun (v7:type_of% (fN x.1 x.2.2.2.2.2))=>(fun (v6:type_of% (iD x.1 x.2.2.1))=>(fun (v5:type_of% (jz x.1 x.2.2.2.2.2 x.2.2.1))=>(fun (v4:type_of% (jA x.1 x.2.2.1 x.2.2.2.1 x.2.2.2.2.2))=>(fun (v3:type_of% (kz x.1 x.2.2.1 x.2.2.2.1 x.2.2.2.2.1))=>(fun (v2:type_of% (kG x.1 x.2.2.1 x.2.2.2.1 x.2.2.2.2.1))=>(fun (v1:type_of% (ba x.1 x.2.2.1 (x.2.2.2.1,x.2.2.2.2.1,IntKind.i64.wrap (x.2.2.2.2.2 % 65536),false)))=>(fun (v0:type_of% (ar x.1 x.2.1 x.2.2.1 x.2.2.2.1 x.2.2.2.2.1 x.2.2.2.2.2))=>((x.1.1.length * 8<=ax/\∀ (x_1:Int),x_1∈x.1.1->ah .u64 x_1)/\(x.1.2.1.length * 8<=ax/\∀ (x_1:Int),x_1∈x.1.2.1->ah .i64 x_1)/\(x.1.2.2.1.length * (8+8)<=ax/\∀ (x_1:Int×Int),x_1∈x.1.2.2.1->ah .i64 x_1.1/\ah .i64 x_1.2)/\x.1.2.2.2.length * (8+(8+8))<=ax/\∀ (x_1:Int×Bool×Int),x_1∈x.1.2.2.2->ah .i64 x_1.1/\True/\ah .i64 x_1.2.2)/\ah .i64 x.2.1/\ah .i64 x.2.2.1/\ah .i64 x.2.2.2.1/\ah .i64 x.2.2.2.2.1/\ah .u64 x.2.2.2.2.2->True->True/\((!dI x.2.1 x.2.2.1 x.2.2.2.1 x.2.2.2.2.1 x.2.2.2.2.2)=true->(([]:List Int),([]:List Int),([]:List (Int×Int)),([]:List (Int×Bool×Int)))=v0.1/\0=v0.2.1/\1=v0.2.2/\True)/\((!dI x.2.1 x.2.2.1 x.2.2.2.1 x.2.2.2.2.1 x.2.2.2.2.2)=false->(decide (x.2.1=1)=true->0<=x.2.2.2.2.2/\(0:Int)<65536/\True/\(v1.2.1=true->v1.1=v0.1/\1=v0.2.1/\v1.2.2=v0.2.2/\True)/\(v1.2.1=false->v1.1=v0.1/\0=v0.2.1/\v1.2.2=v0.2.2/\True))/\(decide (x.2.1=1)=false->(decide (x.2.1=2)=true->True/\True/\(gb (bx x.1).1 (bx x.1).2.1 (bx x.1).2.2).1=v0.1/\(gb (bx x.1).1 (bx x.1).2.1 (bx x.1).2.2).2.1=v0.2.1/\(gb (bx x.1).1 (bx x.1).2.1 (bx x.1).2.2).2.2=v0.2.2/\True)/\(decide (x.2.1=2)=false->(decide (x.2.1=3)=true->True/\True/\(eQ v2.1 v2.2).1=v0.1/\(eQ v2.1 v2.2).2.1=v0.2.1/\(eQ v2.1 v2.2).2.2=v0.2.2/\True)/\(decide (x.2.1=3)=false->(decide (x.2.1=4)=true->True/\True/\(eQ v3.1 v3.2).1=v0.1/\(eQ v3.1 v3.2).2.1=v0.2.1/\(eQ v3.1 v3.2).2.2=v0.2.2/\True)/\(decide (x.2.1=4)=false->(decide (x.2.1=5)=true->True/\True/\(iN x.1 (if aO x.1 x.2.2.1 x.2.2.2.1≠0 then (0:Int) else x.1.1.getD (bE x.1 (ay x.1 x.2.2.1) x.2.2.2.1).toNat 0) (aO x.1 x.2.2.1 x.2.2.2.1)).1=v0.1/\(iN x.1 (if aO x.1 x.2.2.1 x.2.2.2.1≠0 then (0:Int) else x.1.1.getD (bE x.1 (ay x.1 x.2.2.1) x.2.2.2.1).toNat 0) (aO x.1 x.2.2.1 x.2.2.2.1)).2.1=v0.2.1/\(iN x.1 (if aO x.1 x.2.2.1 x.2.2.2.1≠0 then (0:Int) else x.1.1.getD (bE x.1 (ay x.1 x.2.2.1) x.2.2.2.1).toNat 0) (aO x.1 x.2.2.1 x.2.2.2.1)).2.2=v0.2.2/\True)/\(decide (x.2.1=5)=false->(decide (x.2.1=6)=true->True/\True/\(eQ v4.1 v4.2).1=v0.1/\(eQ v4.1 v4.2).2.1=v0.2.1/\(eQ v4.1 v4.2).2.2=v0.2.2/\True)/\(decide (x.2.1=6)=false->(decide (x.2.1=7)=true->True/\True/\(gb v6.1 v6.2.1 v6.2.2).1=v0.1/\(gb v6.1 v6.2.1 v6.2.2).2.1=v0.2.1/\(gb v6.1 v6.2.1 v6.2.2).2.2=v0.2.2/\True)/\(decide (x.2.1=7)=false->(decide (x.2.1=8)=true->True/\True/\(eQ (cT x.1 x.2.2.1).1 (cT x.1 x.2.2.1).2).1=v0.1/\(eQ (cT x.1 x.2.2.1).1 (cT x.1 x.2.2.1).2).2.1=v0.2.1/\(eQ (cT x.1 x.2.2.1).1 (cT x.1 x.2.2.1).2).2.2=v0.2.2/\True)/\(decide (x.2.1=8)=false->(decide (x.2.1=9)=true->True/\True/\(iN x.1 (if cg x.1 x.2.2.1 x.2.2.2.1≠0 then (0:Int) else x.1.1.getD (bE x.1 x.2.2.1 x.2.2.2.1).toNat 0) (cg x.1 x.2.2.1 x.2.2.2.1)).1=v0.1/\(iN x.1 (if cg x.1 x.2.2.1 x.2.2.2.1≠0 then (0:Int) else x.1.1.getD (bE x.1 x.2.2.1 x.2.2.2.1).toNat 0) (cg x.1 x.2.2.1 x.2.2.2.1)).2.1=v0.2.1/\(iN x.1 (if cg x.1 x.2.2.1 x.2.2.2.1≠0 then (0:Int) else x.1.1.getD (bE x.1 x.2.2.1 x.2.2.2.1).toNat 0) (cg x.1 x.2.2.1 x.2.2.2.1)).2.2=v0.2.2/\True)/\(decide (x.2.1=9)=false->(decide (x.2.1=10)=true->True/\(fp x.1 x.2.2.1).1=v0.1/\(fp x.1 x.2.2.1).2.1=v0.2.1/\(fp x.1 x.2.2.1).2.2=v0.2.2/\True)/\(decide (x.2.1=10)=false->(decide (x.2.1=11)=true->True/\True/\(eQ v5.1 v5.2).1=v0.1/\(eQ v5.1 v5.2).2.1=v0.2.1/\(eQ v5.1 v5.2).2.2=v0.2.2/\True)/\(decide (x.2.1=11)=false->(decide (x.2.1=12)=true->True/\True/\(eQ v7.1 v7.2).1=v0.1/\(eQ v7.1 v7.2).2.1=v0.2.1/\(eQ v7.1 v7.2).2.2=v0.2.2/\True)/\(decide (x.2.1=12)=false->True/\True/\(eQ (fh x.1 x.2.2.1).1 (fh x.1 x.2.2.1).2).1=v0.1/\(eQ (fh x.1 x.2.2.1).1 (fh x.1 x.2.2.1).2).2.1=v0.2.1/\(eQ (fh x.1 x.2.2.1).1 (fh x.1 x.2.2.1).2).2.2=v0.2.2/\True)))))))))))))) (ar x.1 x.2.1 x.2.2.1 x.2.2.2.1 x.2.2.2.2.1 x.2.2.2.2.2)) (ba x.1 x.2.2.1 (x.2.2.2.1,x.2.2.2.2.1,IntKind.i64.wrap (x.2.2.2.2.2 % 65536),false))) (kG x.1 x.2.2.1 x.2.2.2.1 x.2.2.2.2.1)) (kz x.1 x.2.2.1 x.2.2.2.1 x.2.2.2.2.1)) (jA x.1 x.2.2.1 x.2.2.2.1 x.2.2.2.2.2)) (jz x.1 x.2.2.2.2.2 x.2.2.1)) (iD x.1 x.2.2.1)) (fN x.1 x.2.2.2.2.2)
theorem KC:I6:=by
 unfold I6;intro ⟨s,k,a,b,c,v⟩ ⟨⟨⟨_,hw⟩,_⟩,_,_,_,_,hv⟩ _;simp only at hw hv ⊢;simp only [ah] at hv;refine ⟨trivial,fun h=>?_,fun h=>?_⟩
 ·have hb:ca k a b c v=true:=by simpa [dI] using h
  have hD:ar s k a b c v=(aA,0,1):=by unfold ar; rw [if_pos hb]
  rw [hD];exact ⟨rfl,rfl,rfl,trivial⟩
 have hb:ca k a b c v=false:=by simpa [dI] using h
 have hk:1<=k/\k<=13:=by
  unfold ca at hb;simp only [Bool.or_eq_false_iff,decide_eq_false_iff_not] at hb;omega
 refine ⟨fun q1=>?_,fun q1=>⟨fun q2=>?_,fun q2=>⟨fun q3=>?_,fun q3=>⟨fun q4=>?_,fun q4=>⟨fun q5=>?_,fun q5=>⟨fun q6=>?_,fun q6=>⟨fun q7=>?_,fun q7=>⟨fun q8=>?_,fun q8=>⟨fun q9=>?_,fun q9=>⟨fun q10=>?_,fun q10=>⟨fun q11=>?_,fun q11=>⟨fun q12=>?_,fun q12=>?_⟩⟩⟩⟩⟩⟩⟩⟩⟩⟩⟩⟩
 ·obtain rfl:=of_decide_eq_true q1;rw [M6,m4 (by omega) (by omega)];refine ⟨by omega,by omega,trivial,fun q=>?_,fun q=>?_⟩
  ·exact ⟨rfl,by rw [q]; rfl,rfl,trivial⟩
  ·exact ⟨rfl,by rw [q]; rfl,rfl,trivial⟩
 ·obtain rfl:=of_decide_eq_true q2;obtain ⟨rfl,rfl,rfl,rfl⟩:a=0/\b=0/\c=0/\v=0:=by simpa [ca,and_assoc] using hb
  rw [M5];refine ⟨trivial,trivial,lF ?_⟩;unfold gb;rw [zE hw]
 ·obtain rfl:=of_decide_eq_true q3;obtain rfl:v=0:=by simpa [ca] using hb
  rw [M4];exact ⟨trivial,trivial,lF rfl⟩
 ·obtain rfl:=of_decide_eq_true q4;obtain rfl:v=0:=by simpa [ca] using hb
  rw [M3];exact ⟨trivial,trivial,lF rfl⟩
 ·obtain rfl:=of_decide_eq_true q5;obtain ⟨rfl,rfl⟩:c=0/\v=0:=by simpa [ca] using hb
  rw [M2];exact ⟨trivial,trivial,lF (FI ..)⟩
 ·obtain rfl:=of_decide_eq_true q6;obtain rfl:c=0:=by simpa [ca] using hb
  rw [M1];exact ⟨trivial,trivial,lF rfl⟩
 ·obtain rfl:=of_decide_eq_true q7;obtain ⟨rfl,rfl,rfl⟩:b=0/\c=0/\v=0:=by simpa [ca,and_assoc] using hb
  rw [M0];refine ⟨trivial,trivial,lF ?_⟩;unfold gb;rw [Jb hw]
 ·obtain rfl:=of_decide_eq_true q8;obtain ⟨rfl,rfl,rfl⟩:b=0/\c=0/\v=0:=by simpa [ca,and_assoc] using hb
  rw [MZ];exact ⟨trivial,trivial,lF rfl⟩
 ·obtain rfl:=of_decide_eq_true q9;obtain ⟨rfl,rfl⟩:c=0/\v=0:=by simpa [ca] using hb
  rw [MY];exact ⟨trivial,trivial,lF (FI ..)⟩
 ·obtain rfl:=of_decide_eq_true q10;obtain ⟨rfl,rfl,rfl⟩:b=0/\c=0/\v=0:=by simpa [ca,and_assoc] using hb
  rw [MH];exact ⟨trivial,lF rfl⟩
 ·obtain rfl:=of_decide_eq_true q11;obtain ⟨rfl,rfl⟩:b=0/\c=0:=by simpa [ca] using hb
  rw [MG];exact ⟨trivial,trivial,lF rfl⟩
 ·obtain rfl:=of_decide_eq_true q12;obtain ⟨rfl,rfl,rfl⟩:a=0/\b=0/\c=0:=by simpa [ca,and_assoc] using hb
  rw [MF];exact ⟨trivial,trivial,lF rfl⟩
 ·have n1:=of_decide_eq_false q1;have n2:=of_decide_eq_false q2;have n3:=of_decide_eq_false q3;have n4:=of_decide_eq_false q4;have n5:=of_decide_eq_false q5;have n6:=of_decide_eq_false q6;have n7:=of_decide_eq_false q7;have n8:=of_decide_eq_false q8;have n9:=of_decide_eq_false q9;have n10:=of_decide_eq_false q10;have n11:=of_decide_eq_false q11;have n12:=of_decide_eq_false q12;obtain rfl:k=13:=by omega
  obtain ⟨rfl,rfl,rfl⟩:b=0/\c=0/\v=0:=by simpa [ca,and_assoc] using hb
  rw [ME];exact ⟨trivial,trivial,lF rfl⟩
theorem Jp:L9.ok Tryz.prog 15:=aD (ann:=co) (ae Jl (ae Hm (ae nh (ae Ee (ae Hi (ae Jn (ae Hh (ae Ji (ae Jo (ae Hj (ae Hk (ae BL (ae Hl (ae Ea (ae Hg (ae D9 (ae Eb ap))))))))))))))))) Tryz.func15 (by kernel_rfl) KC
end
section
open Go
set_option maxRecDepth 100000
set_option maxHeartbeats 1000000
end
section
open Go
def Nb (a:List Int) (x:Int):Int:=dg (ac a).1 x
def wc (a:List Int):List Int->Int
 | []=>0
 | x::l=>Nb a x+wc a l
theorem Mx (a:List Int) (x:Int):1<=Nb a x/\Nb a x<=256:=MU a x
theorem uK (a:List Int):∀ l:List Int,(l.length:Int)<=wc a l/\wc a l<=256 * l.length
 | []=>by simp [wc]
 | x::l=>by
  have:=uK a l;have:=Mx a x;simp only [wc,List.length_cons];omega
theorem CD (a:List Int):∀ l:List Int,wc a l=(l.map (Nb a)).sum
 | []=>rfl
 | x::l=>by simp [wc,CD a l]
structure Carr (a o:List Int):Prop where
 nodup:o.Nodup
 isB:∀ x∈o,isB (ac a).1 x=true
 refs:∀ x∈o,∀ v∈bF a x,v=0\/(1<=v/\v<=256/\v - 1∈o)
 head:∀ x∈o,aI (eG a x)=a.getD x.toNat 0
end
section
open Go
set_option maxRecDepth 100000
set_option maxHeartbeats 1000000
end
section
open Go
set_option maxRecDepth 100000
set_option maxHeartbeats 1000000
def lK (s:ak):List cS:=aM false [] (ac (dz s)).1
theorem Right.live {s:ak} (R:Right s):wc s.1 (bD s.1 (ie (cP s) 256))+gR s=s.1.length/\0<=gR s/\0<=wc s.1 (bD s.1 (ie (cP s) 256)):=by
 have h:=R.free;have e:wc s.1 (dA s)=((dA s).map (dg (ac s.1).1)).sum:=CD s.1 (dA s);have h2:=uK s.1 (dA s);have h3:=R.gaps.2.1
 have h4:0<=gR s:=by
  unfold gR;generalize aM false [] (ac (dz s)).1=g at *
  have:∀ l:List cS,(∀ r∈l,0<=r.1/\1<=r.2/\r.2<=256)->0<=dF l:=fun l=>by
   induction l with
   | nil=>intro _; simp [dF]
   | cons r l ih =>
    intro hl;have:=ih fun x hx=>hl x (by simp [hx])
    have:=hl r (by simp);simp only [dF,List.map_cons,List.sum_cons] at *;omega
  exact this g h3
 rw [R.reached];omega
def jU (s:ak):Int×List cS×Int:=if az s≠0 then (0,[],az s) else (gR s,lK s,0)
def AN:Spec:={ Ts:=[aN],Rs:=[.dat ty_I,.own 105 ji,.dat ty_I],pre:=fun _=>True,F:=jU }
def ri:Prop :=
  ∀ (x:List Int×List Int×List (Int×Int)×List (Int×Bool×Int)),((x.1.length * 8<=ax/\∀ (x_1:Int),x_1∈x.1->ah .u64 x_1)/\(x.2.1.length * 8<=ax/\∀ (x_1:Int),x_1∈x.2.1->ah .i64 x_1)/\(x.2.2.1.length * (8+8)<=ax/\∀ (x_1:Int×Int),x_1∈x.2.2.1->ah .i64 x_1.1/\ah .i64 x_1.2)/\x.2.2.2.length * (8+(8+8))<=ax/\∀ (x_1:Int×Bool×Int),x_1∈x.2.2.2->ah .i64 x_1.1/\True/\ah .i64 x_1.2.2)->True->True/\(decide ((bx x).2.2≠0)=true->0=(jU x).1/\([]:List (Int×Int))=(jU x).2.1/\(bx x).2.2=(jU x).2.2/\True)/\(decide ((bx x).2.2≠0)=false->True/\(bx x).2.1=(jU x).1/\(an (bx x).1.1).1=(jU x).2.1/\0=(jU x).2.2/\True)
theorem xM:ri:=by
 unfold ri;intro s ⟨⟨_,hw⟩,_⟩ _;have hC:bx s=if az s≠0 then (aA,0,az s) else ((dj s).1,(dj s).2,0):=rfl
 have hF:jU s=if az s≠0 then (0,[],az s) else (gR s,lK s,0):=rfl
 by_cases h0:az s≠0
 ·rw [if_pos h0] at hC hF;rw [hC,hF];exact ⟨trivial,fun _=>⟨by trivial,by trivial,by trivial,trivial⟩,fun h=>absurd h0 (of_decide_eq_false h)⟩
 ·rw [if_neg h0] at hC hF;have R:=iv hw (by omega:az s=0);have e:an (dj s).1.1=(lK s,0):=R.gaps.1;rw [hC,hF];simp only;rw [e];exact ⟨trivial,fun h=>absurd rfl (of_decide_eq_true h),fun _=>⟨trivial,by trivial,by trivial,by trivial,trivial⟩⟩
theorem BT:AN.ok Tryz.prog 82:=aD (ann:=co) (ae nh (ae jO ap)) Tryz.func82 (by kernel_rfl) xM
def mj (s:ak):Int×Int:=if az s≠0 then (0,az s) else (s.1.length - gR s,0)
def AM:Spec:={ Ts:=[aN],Rs:=[.dat ty_I,.dat ty_I],pre:=fun _=>True,F:=mj }
def rh:Prop :=
  ∀ (x:List Int×List Int×List (Int×Int)×List (Int×Bool×Int)),((x.1.length * 8<=ax/\∀ (x_1:Int),x_1∈x.1->ah .u64 x_1)/\(x.2.1.length * 8<=ax/\∀ (x_1:Int),x_1∈x.2.1->ah .i64 x_1)/\(x.2.2.1.length * (8+8)<=ax/\∀ (x_1:Int×Int),x_1∈x.2.2.1->ah .i64 x_1.1/\ah .i64 x_1.2)/\x.2.2.2.length * (8+(8+8))<=ax/\∀ (x_1:Int×Bool×Int),x_1∈x.2.2.2->ah .i64 x_1.1/\True/\ah .i64 x_1.2.2)->True->True/\(decide ((jU x).2.2≠0)=true->0=(mj x).1/\(jU x).2.2=(mj x).2/\True)/\(decide ((jU x).2.2≠0)=false->ah .i64 ((x.1.length:Int) - (jU x).1)/\(x.1.length:Int) - (jU x).1=(mj x).1/\0=(mj x).2/\True)
theorem xL:rh:=by
 unfold rh;intro s ⟨⟨_,hw⟩,_⟩ _;have hL:mj s=if az s≠0 then (0,az s) else (s.1.length - gR s,0):=rfl
 have hF:jU s=if az s≠0 then (0,[],az s) else (gR s,lK s,0):=rfl
 by_cases h0:az s≠0
 ·rw [if_pos h0] at hL hF;rw [hL,hF];exact ⟨trivial,fun _=>⟨by trivial,by trivial,trivial⟩,fun h=>absurd h0 (of_decide_eq_false h)⟩
 ·rw [if_neg h0] at hL hF;have R:=iv hw (by omega:az s=0);have hl:=R.live;have hal:=R.al;rw [hL,hF];simp only [ah];exact ⟨trivial,fun h=>absurd rfl (of_decide_eq_true h),fun _=>⟨by omega,by trivial,by trivial,trivial⟩⟩
theorem BS:AM.ok Tryz.prog 22:=aD (ann:=co) (ae BT ap) Tryz.func22 (by kernel_rfl) xL
end
section
open Go
set_option maxRecDepth 100000
set_option maxHeartbeats 1000000
set_option maxHeartbeats 4000000
abbrev Nl:=Int×Int×Int×Int×Int
end
section
open Go
theorem Right.ok {s:ak} (R:Right s):az s=0:=by
 unfold az;rw [if_neg (by have:=R.chk; omega),if_neg (by have:=R.root; omega),if_neg (by have:=R.pin; omega),if_neg (by have:=R.hand; omega)];exact lm R.chk R.nam
section
variable {a keep pinned long:List Int}
end
end
section
open Go
def Er (e:Int):Prop:=0<=e/\e<=12
theorem J4 (a:List Int):Er (ac a).2:=by
 unfold ac Er;split
 ·simp
 ·split <;> simp
theorem CA (a:List Int):Er (am a).2.2:=by
 have h:=J4 a;unfold am;split
 ·exact h
 ·split <;> simp [Er]
theorem Lp (r:List Int) (n:Int):Er (aG r n):=by
 unfold aG Er;split
 ·omega
 split
 ·omega
 split <;> omega
theorem uF:∀ (p:List bn) (q:Int),Er (cL q p)
 | [],_=>by simp [cL,Er]
 | x::p,q=>by
  unfold cL;split
  ·simp [Er]
  split
  ·simp [Er]
  ·exact uF p x.1
theorem FQ (p:List bn):Er (bP p):=by
 unfold bP;split
 ·simp [Er]
 ·exact uF p _
theorem Cy:∀ (h:List bb),Er (br h)
 | []=>by simp [br,Er]
 | s::h=>by
  unfold br;split
  ·unfold ee Er;split
   ·omega
   split <;> omega
  ·exact Cy h
theorem uG (h:List bb):Er (aH h):=by
 unfold aH;split
 ·simp [Er]
 ·exact Cy h
theorem Lv (a f:List Int):Er (aZ a f):=by
 have h:=CA a;unfold aZ;split
 ·exact h
 split <;> simp [Er]
theorem kO (s:ak):Er (az s):=by
 unfold az;split
 ·exact CA _
 split
 ·exact Lp _ _
 split
 ·exact FQ _
 split
 ·exact uG _
 ·exact Lv _ _
theorem zt (s:ak) (k:Int):Er (bC s k):=by
 unfold bC;split
 ·exact kO s
 split <;> simp [Er]
theorem zu (s:ak) (k:Int):Er (bo s k):=by
 unfold bo;split
 ·exact kO s
 split <;> simp [Er]
theorem J5 (s:ak) (a b c:Int):Er (bv s a b c):=by
 unfold bv;split
 ·exact zu s a
 split
 ·simp [Er]
 split <;> simp [Er]
theorem FS (s:ak) (a b:Int):Er (aO s a b):=by
 unfold aO;split
 ·exact zu s a
 split <;> simp [Er]
theorem Lq (s:ak) (a b:Int):Er (cg s a b):=by
 unfold cg;split
 ·exact kO s
 split
 ·simp [Er]
 split <;> simp [Er]
theorem Lu (h:dZ):Er (fF h):=by
 unfold fF;split
 ·unfold af Er;split
  ·omega
  split
  ·omega
  split <;> omega
 split <;> simp [Er]
theorem Cz (p:List bn) (k:Int):Er (aE p k).2.2:=by
 unfold aE;split
 ·exact FQ p
 split <;> simp [Er]
theorem MC (p:List bn) (k:Int):Er (gm p k).2.2:=by
 unfold gm;split
 ·exact Cz p k
 split <;> simp [Er]
theorem Lw (p:List bn) (k:Int):Er (dC p k).2.2:=by
 unfold dC;split
 ·exact Cz p k
 split <;> simp [Er]
theorem Lr (h:List bb) (a:Int):Er (openF h a).2.2:=by
 unfold openF;split
 ·exact uG h
 split
 ·simp [Er]
 split <;> simp [Er]
theorem FR (h:List bb) (n:Int):Er (ce h n).2:=by
 unfold ce;split
 ·exact uG h
 split <;> simp [Er]
theorem Lt (h:List bb) (n:Int):Er (gO h n).2:=by
 unfold gO;split
 ·exact FR h n
 ·simp [Er]
theorem J6 (h:List bb) (n:Int):Er (closeF h n).2:=by
 unfold closeF;split
 ·exact FR h n
 ·simp [Er]
theorem Ls (s:ak) (k:Int) (h:dZ):Er (ba s k h).2.2:=by
 unfold ba;split
 ·exact zt s k
 split
 ·exact Lu h
 split
 ·simp [Er]
 split <;> simp [Er]
theorem Ly (s:ak) (k a b c v:Int) (hk:1<=k/\k<=13):Er (deed s k a b c v).2.2:=by
 have hk:k=1\/k=2\/k=3\/k=4\/k=5\/k=6\/k=7\/k=8\/k=9\/k=10\/k=11\/k=12\/k=13:=by omega
 have z:Er 0:=by simp [Er]
 rcases hk with rfl | rfl | rfl | rfl | rfl | rfl | rfl | rfl | rfl | rfl | rfl | rfl | rfl
 ·rw [CI]; exact Ls ..
 ·rw [F0]; exact z
 ·rw [FZ]; unfold kG; split; exact J5 ..; exact z
 ·rw [FY]; unfold kz; split; exact J5 ..; exact z
 ·rw [CH]; split; exact FS ..; exact z
 ·rw [CG]; unfold jA; split; exact FS ..; exact z
 ·rw [FX]; unfold iD; split; exact zu ..; split; exact MC ..; exact z
 ·rw [FW]; unfold cT; split; exact kO ..; split; exact Lw ..; exact z
 ·rw [FV]; split; exact Lq ..; exact z
 ·rw [zB]; unfold fp; split; exact zu ..; split; exact Lr ..; exact z
 ·rw [zA]; unfold jz; split; exact zt ..; split; exact Lt ..; exact z
 ·rw [zz]; unfold fN; split; exact kO ..; split; exact J6 ..; exact z
 ·rw [zy]; unfold fh; split; exact zt ..; exact z
theorem Lx (s:ak) (k a b c v:Int):Er (ar s k a b c v).2.2:=by
 unfold ar;split
 ·simp [Er]
 rename_i h;split
 ·exact kO s
 ·exact Ly _ _ _ _ _ _ (tS h)
end
end Go.Proofs.YtmfileeamnfpaaaGreatDoor
