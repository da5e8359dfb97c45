import Derived.Test.YtmfileeamnfpaaaGreatDoorM2
import Derived.WalkKit
namespace Go.Proofs.YtmfileeamnfpaaaGreatDoor
open Go
set_option maxRecDepth 100000
set_option maxHeartbeats 1000000
section
def AQ:Nat->Option LoopGen
 | 5000004=>some { rd:=[.box 1 aP],A:=fun (s:an)=>{ cs:=[.own 9 3 ty_I,.own 10 3 ty_I],inv:=fun ((ra,ha):List Int×List Int)=>ra=List.replicate s.1.length 0/\ha=List.replicate 256 0,mu:=fun _=>0 } }
 | 6=>some { wr:=[9,10],rd:=[.box 1 aP],A:=fun (s:an)=>{ cs:=[.own 9 3 ty_I,.own 10 3 ty_I,.dat 42 ty_I],inv:=fun ((ra,ha,i):List Int×List Int×Int)=>0<=i/\i<=(aj s).length/\ra=bY (List.replicate s.1.length 0) ((aj s).take i.toNat) (mf s)/\ha=bY (List.replicate 256 0) ((aj s).take i.toNat) (mf s),mu:=fun ((_,_,i):List Int×List Int×Int)=>((aj s).length - i).toNat } }
 | 15=>some { rd:=[.own 86 105 jH],A:=fun (g:List dp)=>{ cs:=[.dat 13 ty_I,.dat 88 ty_I],inv:=fun ((n,i):Int×Int)=>0<=i/\i<=g.length/\g.length<=256/\(∀ r∈g,0<=r.2/\r.2<=256)/\n=fQ (g.take i.toNat)/\0<=n/\n<=256 * i,mu:=fun ((_,i):Int×Int)=>(g.length - i).toNat } }
 | _=>none
def zo:Spec:={ Ts:=[aP],Rs:=[.dat aP,.dat ty_I],al:=true,pre:=fun (s:an)=>ay s=0,F:=db }
def ph:Prop :=
  ∀ (x:List Int×List Int×List (Int×Int)×List (Int×Bool×Int)),(qo x)->ay x=0->(x.2.1.length<=32/\x.2.2.1.length<=16/\x.2.2.2.length<=16)/\True/\((aj x).length+(List.map (fun (x:bu)=>x.1) x.2.2.1).length) * 8<=140737488355328/\True/\((((0<=(x.1.length:Int)/\(x.1.length:Int).toNat * 8<=aF/\((0:Int)<=256/\Int.toNat 256 * 8<=aF/\((List.replicate (x.1.length:Int).toNat (0:Int)=List.replicate x.1.length (0:Int)/\List.replicate (Int.toNat 256) (0:Int)=List.replicate 256 (0:Int))/\True)/\True)/\(((0:Int)<=256/\Int.toNat 256 * 8<=aF/\(List.replicate (x.1.length:Int).toNat (0:Int)=List.replicate x.1.length (0:Int)/\List.replicate (Int.toNat 256) (0:Int)=List.replicate 256 (0:Int))/\True)/\True)/\True)/\((0:Int)<=256/\Int.toNat 256 * 8<=aF/\(0<=(x.1.length:Int)/\(x.1.length:Int).toNat * 8<=aF/\((List.replicate (x.1.length:Int).toNat (0:Int)=List.replicate x.1.length (0:Int)/\List.replicate (Int.toNat 256) (0:Int)=List.replicate 256 (0:Int))/\True)/\True)/\True)/\True)/\((0:Int)<=256/\Int.toNat 256 * 8<=aF/\((0<=(x.1.length:Int)/\(x.1.length:Int).toNat * 8<=aF/\((List.replicate (x.1.length:Int).toNat (0:Int)=List.replicate x.1.length (0:Int)/\List.replicate (Int.toNat 256) (0:Int)=List.replicate 256 (0:Int))/\True)/\True)/\True)/\True)/\True)/\((0:Int)<=256/\Int.toNat 256 * 8<=aF/\(((0<=(x.1.length:Int)/\(x.1.length:Int).toNat * 8<=aF/\((List.replicate (x.1.length:Int).toNat (0:Int)=List.replicate x.1.length (0:Int)/\List.replicate (Int.toNat 256) (0:Int)=List.replicate 256 (0:Int))/\True)/\True)/\True)/\True)/\True)/\True)/\∀ (x_1:List Int×List Int),x_1.1=List.replicate x.1.length (0:Int)/\x_1.2=List.replicate 256 (0:Int)->((0:Int)<=0/\0<=(↑(aj x).length:Int)/\x_1.1=bY (List.replicate x.1.length (0:Int)) (List.take (Int.toNat 0) (aj x)) (mf x)/\x_1.2=bY (List.replicate 256 (0:Int)) (List.take (Int.toNat 0) (aj x)) (mf x))/\∀ (x_2:List Int×List Int×Int),0<=x_2.2.2/\x_2.2.2<=(↑(aj x).length:Int)/\x_2.1=bY (List.replicate x.1.length (0:Int)) (List.take x_2.2.2.toNat (aj x)) (mf x)/\x_2.2.1=bY (List.replicate 256 (0:Int)) (List.take x_2.2.2.toNat (aj x)) (mf x)->(decide (x_2.2.2<(↑(aj x).length:Int))=true->0<=x_2.2.2/\x_2.2.2<(↑(aj x).length:Int)/\x_2.2.2.toNat<(aj x).length/\0<=x_2.2.2/\x_2.2.2<(↑(aw x.1 (aj x) (List.map (fun (x:bu)=>x.1) x.2.2.1)).2.1.length:Int)/\0<=x_2.2.2/\x_2.2.2<(↑(aw x.1 (aj x) (List.map (fun (x:bu)=>x.1) x.2.2.1)).2.1.length:Int)/\0<=(aj x).getD x_2.2.2.toNat 0/\(aj x).getD x_2.2.2.toNat 0<(x_2.1.length:Int)/\((aj x).getD x_2.2.2.toNat 0).toNat<x_2.1.length/\(aj x).getD x_2.2.2.toNat 0=(aj x).getD x_2.2.2.toNat 0/\0<=(aj x).getD x_2.2.2.toNat 0/\(aj x).getD x_2.2.2.toNat 0<(x_2.2.1.length:Int)/\((aj x).getD x_2.2.2.toNat 0).toNat<x_2.2.1.length/\am .i64 (x_2.2.2+1)/\(0<=x_2.2.2+1/\x_2.2.2+1<=(↑(aj x).length:Int)/\x_2.1.set ((aj x).getD x_2.2.2.toNat 0).toNat ((aw x.1 (aj x) (List.map (fun (x:bu)=>x.1) x.2.2.1)).2.1.getD x_2.2.2.toNat 0)=bY (List.replicate x.1.length (0:Int)) (List.take (x_2.2.2+1).toNat (aj x)) (mf x)/\x_2.2.1.set ((aj x).getD x_2.2.2.toNat 0).toNat ((aw x.1 (aj x) (List.map (fun (x:bu)=>x.1) x.2.2.1)).2.1.getD x_2.2.2.toNat 0)=bY (List.replicate 256 (0:Int)) (List.take (x_2.2.2+1).toNat (aj x)) (mf x))/\((↑(aj x).length:Int) - (x_2.2.2+1)).toNat<((↑(aj x).length:Int) - x_2.2.2).toNat)/\(decide (x_2.2.2<(↑(aj x).length:Int))=false->True/\True/\True/\((0:Int)<=0/\0<=(↑(aq (aw x.1 (aj x) (List.map (fun (x:bu)=>x.1) x.2.2.1)).1).1.length:Int)/\(aq (aw x.1 (aj x) (List.map (fun (x:bu)=>x.1) x.2.2.1)).1).1.length<=256/\(∀ (r:dp),r∈(aq (aw x.1 (aj x) (List.map (fun (x:bu)=>x.1) x.2.2.1)).1).1->0<=r.2/\r.2<=256)/\0=fQ (List.take (Int.toNat 0) (aq (aw x.1 (aj x) (List.map (fun (x:bu)=>x.1) x.2.2.1)).1).1)/\(0:Int)<=0/\(0:Int)<=256 * 0)/\∀ (x_3:Int×Int),0<=x_3.2/\x_3.2<=(↑(aq (aw x.1 (aj x) (List.map (fun (x:bu)=>x.1) x.2.2.1)).1).1.length:Int)/\(aq (aw x.1 (aj x) (List.map (fun (x:bu)=>x.1) x.2.2.1)).1).1.length<=256/\(∀ (r:dp),r∈(aq (aw x.1 (aj x) (List.map (fun (x:bu)=>x.1) x.2.2.1)).1).1->0<=r.2/\r.2<=256)/\x_3.1=fQ (List.take x_3.2.toNat (aq (aw x.1 (aj x) (List.map (fun (x:bu)=>x.1) x.2.2.1)).1).1)/\0<=x_3.1/\x_3.1<=256 * x_3.2->(decide (x_3.2<(↑(aq (aw x.1 (aj x) (List.map (fun (x:bu)=>x.1) x.2.2.1)).1).1.length:Int))=true->0<=x_3.2/\x_3.2<(↑(aq (aw x.1 (aj x) (List.map (fun (x:bu)=>x.1) x.2.2.1)).1).1.length:Int)/\x_3.2.toNat<(aq (aw x.1 (aj x) (List.map (fun (x:bu)=>x.1) x.2.2.1)).1).1.length/\am .i64 (x_3.1+((aq (aw x.1 (aj x) (List.map (fun (x:bu)=>x.1) x.2.2.1)).1).1.getD x_3.2.toNat (0,0)).2)/\am .i64 (x_3.2+1)/\(0<=x_3.2+1/\x_3.2+1<=(↑(aq (aw x.1 (aj x) (List.map (fun (x:bu)=>x.1) x.2.2.1)).1).1.length:Int)/\(aq (aw x.1 (aj x) (List.map (fun (x:bu)=>x.1) x.2.2.1)).1).1.length<=256/\(∀ (r:dp),r∈(aq (aw x.1 (aj x) (List.map (fun (x:bu)=>x.1) x.2.2.1)).1).1->0<=r.2/\r.2<=256)/\x_3.1+((aq (aw x.1 (aj x) (List.map (fun (x:bu)=>x.1) x.2.2.1)).1).1.getD x_3.2.toNat (0,0)).2=fQ (List.take (x_3.2+1).toNat (aq (aw x.1 (aj x) (List.map (fun (x:bu)=>x.1) x.2.2.1)).1).1)/\0<=x_3.1+((aq (aw x.1 (aj x) (List.map (fun (x:bu)=>x.1) x.2.2.1)).1).1.getD x_3.2.toNat (0,0)).2/\x_3.1+((aq (aw x.1 (aj x) (List.map (fun (x:bu)=>x.1) x.2.2.1)).1).1.getD x_3.2.toNat (0,0)).2<=256 * (x_3.2+1))/\((↑(aq (aw x.1 (aj x) (List.map (fun (x:bu)=>x.1) x.2.2.1)).1).1.length:Int) - (x_3.2+1)).toNat<((↑(aq (aw x.1 (aj x) (List.map (fun (x:bu)=>x.1) x.2.2.1)).1).1.length:Int) - x_3.2).toNat)/\(decide (x_3.2<(↑(aq (aw x.1 (aj x) (List.map (fun (x:bu)=>x.1) x.2.2.1)).1).1.length:Int))=false->((aw x.1 (aj x) (List.map (fun (x:bu)=>x.1) x.2.2.1)).1,(bn x.2.1 (x.1.length:Int) x_2.1).1,x.2.2.1,(gj x.2.2.2 x_2.2.1).1)=(db x).1/\x_3.1=(db x).2/\True))
theorem vT:ph:=by
 unfold ph;intro s ⟨⟨hb,hw⟩,_⟩ hs;have R:=ic hw hs;have hcl:aw s.1 (aj s) (List.map (fun (x:bu)=>x.1) s.2.2.1)=(fw s,(aj s).map (mf s),0):=R.clean;obtain ⟨hgf,hgi,hgl⟩:=R.gaps;have hfl:=R.fromLen;have hsm:=R.small;have hal:=R.al;have hF:db s=(qz s,fQ (aV false [] (aa (fw s)).1)):=rfl;have hfm:=fun x=>gW (s:=s) R.root (x:=x)
 have hsr:=R.swapRoots;have hsh:=R.swapHands;rw [hF,hcl];simp only;rw [hgf];simp only;generalize aV false [] (aa (fw s)).1=g at *;unfold aF at hb |-;refine ⟨hsm,trivial,by rw [Qc]; omega,trivial,?_,fun ⟨ra,ha⟩ ⟨q1,q2⟩=>?_⟩
 ·have e1:((s.1.length:Int)).toNat=s.1.length:=by omega
  have e2:Int.toNat 256=256:=rfl;have e3:(0:Int)<=(s.1.length:Int):=by omega
  simp only [e1,e2,e3,hb,Ro,RB];omega
 simp only at q1 q2;subst q1 q2;refine ⟨⟨by omega,by omega,by simp [bY],by simp [bY]⟩,fun ⟨ra,ha,i⟩ ⟨i0,i1,i2,i3⟩=>⟨fun hlt=>?_,fun hge=>?_⟩⟩
 ·simp only at i0 i1 i2 i3 hlt |-;have hlt:=Pt hlt;have ht:=a7 (0:Int) i0 hlt;have hx:=R.nameIn ((hfm _).1 (aH (0:Int) i0 hlt));have hm:(List.map (mf s) (aj s)).getD i.toNat 0=mf s ((aj s).getD i.toNat 0):=C6 i0 hlt;have l1:ra.length=s.1.length:=by rw [i2,ep,Qd]
  have l2:ha.length=256:=by rw [i3,ep,Qd]
  rw [hm,ht,kh,kh,<- i2,<- i3,l1,l2,Qc];generalize (aj s).getD i.toNat 0=x at *;simp only [am];exact ⟨i0,hlt,by omega,i0,hlt,i0,hlt,hx.1,hx.2,by omega,by first | trivial | rfl,hx.1,by omega,by omega,by omega,⟨by omega,by omega,by trivial,by trivial⟩,by omega⟩
 ·simp only at i0 i1 i2 i3 hge |-;have hge:=Pu hge;rw [bE hge] at i2 i3;refine ⟨trivial,trivial,trivial,⟨by omega,by omega,hgl,fun r hr=>by have:=hgi r hr; omega,by trivial,by omega,by omega⟩,fun ⟨n,j⟩ ⟨j0,j1,_,_,j2,j3,j4⟩=>⟨fun hlt=>?_,fun hge=>?_⟩⟩
  ·simp only at j0 j1 j2 j3 j4 hlt |-;have hlt:=Pt hlt;have hm:=hgi _ (aH ((0,0):dp) j0 hlt);rw [w8 j0 hlt,<- j2];generalize (g.getD j.toNat (0,0)).2=y at *;simp only [am];exact ⟨j0,hlt,by omega,by omega,by omega,⟨by omega,by omega,hgl,fun r hr=>by have:=hgi r hr; omega,by trivial,by omega,by omega⟩,by omega⟩
  ·simp only at j0 j1 j2 hge |-;rw [bE (Pu hge)] at j2;rw [i2,i3,hsr,hsh];exact ⟨rfl,j2,trivial⟩
theorem zQ:zo.ok Tryz.prog 85:=aA (ann:=AQ) (ac qI (ac ko (ac CZ (ac ce (ac se (ac si (ac kv ap))))))) Tryz.func85 (by kernel_rfl) vT
def bC (s:an):an×Int×Int:=if ay s≠0 then (aE,0,ay s) else ((db s).1,(db s).2,0)
def wk:Spec:={ Ts:=[aP],Rs:=[.dat aP,.dat ty_I,.dat ty_I],al:=true,pre:=fun _=>True,F:=bC }
def nA:Prop :=
  ∀ (x:List Int×List Int×List (Int×Int)×List (Int×Bool×Int)),(qo x)->True->True/\(decide (ay x≠0)=true->(([]:List Int),([]:List Int),([]:List (Int×Int)),([]:List (Int×Bool×Int)))=(bC x).1/\0=(bC x).2.1/\ay x=(bC x).2.2/\True)/\(decide (ay x≠0)=false->ay x=0/\(db x).1=(bC x).1/\(db x).2=(bC x).2.1/\0=(bC x).2.2/\True)
theorem tk:nA:=by
 unfold nA;intro s hx hs;refine ⟨trivial,fun h=>?_,fun h=>?_⟩
 ·unfold bC;rw [if_pos (Pt h)];exact ⟨by trivial,by trivial,by trivial,trivial⟩
 ·have h:=Pu h;unfold bC;rw [if_neg h];exact ⟨by omega,rfl,rfl,rfl,trivial⟩
theorem nI:wk.ok Tryz.prog 60:=aA (ann:=cn) (ac gD (ac zQ ap)) Tryz.func60 (by kernel_rfl) tk
def bw (s:an) (k:Int):Int:=if ay s≠0 then ay s else if k<0\/(s.2.1.length:Int)<=k\/s.2.1.getD k.toNat 0<0 then 5 else 0
def aD (s:an) (k:Int):Int:=s.2.1.getD k.toNat 0
def aZ (s:an) (k:Int):Int×Obj×Int:=if bw s k≠0 then (0,iI,bw s k) else (aD s k,(gZ s.1 (aD s k)).1,0)
def DM:Nat->Option LoopGen
 | 4000006=>some cU
 | _=>none
def BA:Spec:={ Ts:=[aP,ty_I],Rs:=[.dat ty_I,.dat Ez,.dat ty_I],al:=true,pre:=fun _=>True,F:=fun ((s,k):an×Int)=>aZ s k }
def rE:Prop :=
  ∀ (x:(List Int×List Int×List (Int×Int)×List (Int×Bool×Int))×Int),(fun (v0:type_of% (gZ x.1.1 (x.1.2.1.getD x.2.toNat 0)))=>(qo x.1)/\am .i64 x.2->True->True/\(decide (ay x.1≠0)=true->0=(aZ x.1 x.2).1/\(0,([]:List Int),([]:List Int),false)=(aZ x.1 x.2).2.1/\ay x.1=(aZ x.1 x.2).2.2/\True)/\(decide (ay x.1≠0)=false->((decide (x.2<0)||decide ((x.1.2.1.length:Int)<=x.2))=false->0<=x.2)/\((decide (x.2<0)||decide ((x.1.2.1.length:Int)<=x.2))=false->x.2<(x.1.2.1.length:Int))/\((decide (x.2<0)||decide ((x.1.2.1.length:Int)<=x.2)||decide (x.1.2.1.getD x.2.toNat (0:Int)<0))=true->0=(aZ x.1 x.2).1/\(0,([]:List Int),([]:List Int),false)=(aZ x.1 x.2).2.1/\5=(aZ x.1 x.2).2.2/\True)/\((decide (x.2<0)||decide ((x.1.2.1.length:Int)<=x.2)||decide (x.1.2.1.getD x.2.toNat (0:Int)<0))=false->0<=x.2/\x.2<(x.1.2.1.length:Int)/\True/\x.1.1=x.1.1/\x.1.2.1=x.1.2.1/\x.2=x.2/\0<=x.2/\x.2<(x.1.2.1.length:Int)/\x.1.2.1.getD x.2.toNat 0=x.1.2.1.getD x.2.toNat 0/\x.1.2.1.getD x.2.toNat 0=x.1.2.1.getD x.2.toNat 0/\True/\v0.1.1=v0.1.1/\v0.1.2.1=v0.1.2.1/\v0.1.2.2.1=v0.1.2.2.1/\v0.1.2.2.2=v0.1.2.2.2/\v0.2=v0.2/\v0.1.1=v0.1.1/\v0.1.2.1=v0.1.2.1/\v0.1.2.2.1=v0.1.2.2.1/\v0.1.2.2.2=v0.1.2.2.2/\v0.2=v0.2/\v0.1.1=v0.1.1/\v0.1.2.1=v0.1.2.1/\v0.1.2.2.1=v0.1.2.2.1/\v0.1.2.2.2=v0.1.2.2.2/\v0.2=v0.2/\v0.2=v0.2/\0<=x.2/\x.2<(x.1.2.1.length:Int)/\v0.1.1=v0.1.1/\v0.1.2.1=v0.1.2.1/\v0.1.2.2.1=v0.1.2.2.1/\v0.1.2.2.2=v0.1.2.2.2/\v0.2=v0.2/\v0.2=v0.2/\x.1.2.1.getD x.2.toNat 0=(aZ x.1 x.2).1/\v0.1=(aZ x.1 x.2).2.1/\v0.2=(aZ x.1 x.2).2.2/\True))) (gZ x.1.1 (x.1.2.1.getD x.2.toNat 0))
theorem yH:rE:=by
 unfold rE;intro ⟨s,k⟩ ⟨⟨⟨hb,hw⟩,_⟩,_⟩ _;simp only at hb hw |-;have hO:aZ s k=if bw s k≠0 then (0,iI,bw s k) else (aD s k,(gZ s.1 (aD s k)).1,0):=rfl
 have hE:bw s k=if ay s≠0 then ay s else if k<0\/(s.2.1.length:Int)<=k\/s.2.1.getD k.toNat 0<0 then 5 else 0:=rfl
 refine ⟨trivial,fun h=>?_,fun h=>⟨fun h1=>?_,fun h1=>?_,fun h1=>?_,fun h1=>?_⟩⟩
 ·rw [if_pos (Pt h)] at hE;rw [hO,hE,if_pos (Pt h)];exact ⟨by trivial,by trivial,by trivial,trivial⟩
 ·simp at h1; omega
 ·simp at h1; omega
 ·rw [if_neg (Pu h),if_pos (by simpa [or_assoc,R0] using h1)] at hE;rw [hO,hE,if_pos (by omega)];exact ⟨by trivial,by trivial,by trivial,trivial⟩
 ·have hs:ay s=0:=by simpa using Pu h
  have h1:¬ (k<0\/(s.2.1.length:Int)<=k\/s.2.1.getD k.toNat 0<0):=by simpa [or_assoc,R0] using h1
  rw [if_neg (by omega),if_neg h1] at hE;have R:=ic hw hs;have O:=R.obj (R.rootNam (k:=k) (by omega) (by omega) (by omega));have hz:(gZ s.1 (s.2.1.getD k.toNat 0)).2=0:=by rw [O.at_]
  rw [hO,hE,if_neg (by omega),hz];simp only [RB,Ro,aD];omega
theorem ku:BA.ok Tryz.prog 139:=aA (ann:=DM) (ac gD (ac lj ap)) Tryz.func139 (by kernel_rfl) yH
theorem ux {s:an} {k:Int} (hw:∀ x∈s.1,am .u64 x) (h:bw s k=0):Right s/\0<=k/\k<s.2.1.length/\ObjAt s (aD s k):=by
 unfold bw at h;split at h
 ·omega
 rename_i h0;split at h
 ·omega
 rename_i h1;have R:=ic hw (by omega:ay s=0);exact ⟨R,by omega,by omega,R.obj (R.rootNam (k:=k) (by omega) (by omega) (by omega))⟩
def bF (s:an) (slot k other:Int):Int:=if bw s slot≠0 then bw s slot else if k<0\/(eN s.1 (aD s slot)).1<=k then 4 else if other<0\/(s.2.1.length:Int)<=other then 5 else 0
def Km:Spec:={ Ts:=[aP,ty_I,ty_I,ty_I],Rs:=[.dat ty_I,.dat ty_I],pre:=fun _=>True,F:=fun ((s,slot,k,other):an×Int×Int×Int)=>((if bF s slot k other≠0 then 0 else aD s slot+1+k,bF s slot k other):Int×Int) }
def Cl:Prop :=
  ∀ (x:(List Int×List Int×List (Int×Int)×List (Int×Bool×Int))×Int×Int×Int),(qo x.1)/\am .i64 x.2.1/\am .i64 x.2.2.1/\am .i64 x.2.2.2->True->True/\(decide ((aZ x.1 x.2.1).2.2≠0)=true->((0:Int)=if bF x.1 x.2.1 x.2.2.1 x.2.2.2≠0 then (0:Int) else aD x.1 x.2.1+1+x.2.2.1)/\(aZ x.1 x.2.1).2.2=bF x.1 x.2.1 x.2.2.1 x.2.2.2/\True)/\(decide ((aZ x.1 x.2.1).2.2≠0)=false->((decide (x.2.2.1<0)||decide ((↑(aZ x.1 x.2.1).2.1.2.1.length:Int)<=x.2.2.1))=true->((0:Int)=if bF x.1 x.2.1 x.2.2.1 x.2.2.2≠0 then (0:Int) else aD x.1 x.2.1+1+x.2.2.1)/\4=bF x.1 x.2.1 x.2.2.1 x.2.2.2/\True)/\((decide (x.2.2.1<0)||decide ((↑(aZ x.1 x.2.1).2.1.2.1.length:Int)<=x.2.2.1))=false->((decide (x.2.2.2<0)||decide ((x.1.2.1.length:Int)<=x.2.2.2))=true->((0:Int)=if bF x.1 x.2.1 x.2.2.1 x.2.2.2≠0 then (0:Int) else aD x.1 x.2.1+1+x.2.2.1)/\5=bF x.1 x.2.1 x.2.2.1 x.2.2.2/\True)/\((decide (x.2.2.2<0)||decide ((x.1.2.1.length:Int)<=x.2.2.2))=false->am .i64 ((aZ x.1 x.2.1).1+1)/\am .i64 ((aZ x.1 x.2.1).1+1+x.2.2.1)/\((aZ x.1 x.2.1).1+1+x.2.2.1=if bF x.1 x.2.1 x.2.2.1 x.2.2.2≠0 then (0:Int) else aD x.1 x.2.1+1+x.2.2.1)/\0=bF x.1 x.2.1 x.2.2.1 x.2.2.2/\True)))
theorem HD:Cl:=by
 unfold Cl;intro ⟨s,slot,k,other⟩ ⟨⟨⟨hb,hw⟩,_⟩,_⟩ _;simp only at hb hw |-;have hR:bF s slot k other=if bw s slot≠0 then bw s slot else if k<0\/(eN s.1 (aD s slot)).1<=k then 4 else if other<0\/(s.2.1.length:Int)<=other then 5 else 0:=rfl
 have hO:aZ s slot=if bw s slot≠0 then (0,iI,bw s slot) else (aD s slot,(gZ s.1 (aD s slot)).1,0):=rfl
 by_cases h0:bw s slot≠0
 ·rw [if_pos h0] at hR hO;rw [hO,hR];simp only;refine ⟨trivial,fun _=>?_,fun h=>absurd h0 (Pu h)⟩;rw [if_pos h0];exact ⟨by trivial,by trivial,trivial⟩
 ·obtain ⟨R,_,_,O⟩:=ux hw (by omega:bw s slot=0);have hal:=R.al;rw [if_neg h0] at hR hO;rw [hO];simp only;rw [O.refs];have:=O.x0;have:=O.r0;have:=O.b0;have:=O.fit;refine ⟨trivial,fun h=>absurd rfl (Pt h),fun _=>⟨fun h1=>?_,fun h1=>⟨fun h2=>?_,fun h2=>?_⟩⟩⟩
  ·rw [if_pos (by simpa using h1)] at hR;rw [hR];exact ⟨by trivial,by trivial,trivial⟩
  ·have h1:¬ (k<0\/(eN s.1 (aD s slot)).1<=k):=by simpa using h1
   rw [if_neg h1,if_pos (by simpa using h2)] at hR;rw [hR];exact ⟨by trivial,by trivial,trivial⟩
  ·have h1:¬ (k<0\/(eN s.1 (aD s slot)).1<=k):=by simpa using h1
   have h2:¬ (other<0\/(s.2.1.length:Int)<=other):=by simpa using h2
   rw [if_neg h1,if_neg h2] at hR;rw [hR];simp only [am];exact ⟨by omega,by omega,by simp,by trivial,trivial⟩
theorem CL:Km.ok Tryz.prog 137:=aA (ann:=cn) (ac ku ap) Tryz.func137 (by kernel_rfl) HD
theorem KJ {s:an} {slot k other:Int} (hw:∀ x∈s.1,am .u64 x) (h:bF s slot k other=0):Right s/\ObjAt s (aD s slot)/\0<=k/\k<(eN s.1 (aD s slot)).1/\0<=other/\other<s.2.1.length:=by
 unfold bF at h;split at h
 ·omega
 rename_i h0;split at h
 ·omega
 split at h
 ·omega
 obtain ⟨R,_,_,O⟩:=ux hw (by omega:bw s slot=0);exact ⟨R,O,by omega,by omega,by omega,by omega⟩
def ga:Nat->Option LoopGen
 | 3000083=>some cU
 | 8404000001=>some cU
 | _=>none
def mE (s:an) (slot k into:Int):an×Int:=if bF s slot k into≠0 then (aE,bF s slot k into) else ((s.1,s.2.1.set into.toNat (s.1.getD (aD s slot+1+k).toNat 0 - 1),s.2.2),0)
def H7:Spec:={ Ts:=[aP,ty_I,ty_I,ty_I],Rs:=[.dat aP,.dat ty_I],al:=true,pre:=fun _=>True,F:=fun ((s,slot,k,into):an×Int×Int×Int)=>mE s slot k into }
def xt:Prop :=
  ∀ (x:(List Int×List Int×List (Int×Int)×List (Int×Bool×Int))×Int×Int×Int),(qo x.1)/\am .i64 x.2.1/\am .i64 x.2.2.1/\am .i64 x.2.2.2->True->True/\(decide (bF x.1 x.2.1 x.2.2.1 x.2.2.2≠0)=true->(([]:List Int),([]:List Int),([]:List (Int×Int)),([]:List (Int×Bool×Int)))=(mE x.1 x.2.1 x.2.2.1 x.2.2.2).1/\bF x.1 x.2.1 x.2.2.1 x.2.2.2=(mE x.1 x.2.1 x.2.2.1 x.2.2.2).2/\True)/\(decide (bF x.1 x.2.1 x.2.2.1 x.2.2.2≠0)=false->∀ (_:Array Value),True/\True/\True/\x.1.2.1=x.1.2.1/\x.1.2.2.1=x.1.2.2.1/\x.1.2.2.1=x.1.2.2.1/\x.1.2.2.2=x.1.2.2.2/\x.1.2.2.2=x.1.2.2.2/\x.1.2.2.2=x.1.2.2.2/\True/\(0<=if bF x.1 x.2.1 x.2.2.1 x.2.2.2≠0 then (0:Int) else aD x.1 x.2.1+1+x.2.2.1)/\(if bF x.1 x.2.1 x.2.2.1 x.2.2.2≠0 then (0:Int) else aD x.1 x.2.1+1+x.2.2.1)<(x.1.1.length:Int)/\(if bF x.1 x.2.1 x.2.2.1 x.2.2.2≠0 then (0:Int) else aD x.1 x.2.1+1+x.2.2.1).toNat<x.1.1.length/\am .i64 (IntKind.i64.wrap (x.1.1.getD (if bF x.1 x.2.1 x.2.2.1 x.2.2.2≠0 then (0:Int) else aD x.1 x.2.1+1+x.2.2.1).toNat 0) - 1)/\0<=x.2.2.2/\x.2.2.2<(x.1.2.1.length:Int)/\x.2.2.2.toNat<x.1.2.1.length/\(x.1.1,x.1.2.1.set x.2.2.2.toNat (IntKind.i64.wrap (x.1.1.getD (if bF x.1 x.2.1 x.2.2.1 x.2.2.2≠0 then (0:Int) else aD x.1 x.2.1+1+x.2.2.1).toNat 0) - 1),x.1.2.2)=(mE x.1 x.2.1 x.2.2.1 x.2.2.2).1/\0=(mE x.1 x.2.1 x.2.2.1 x.2.2.2).2/\True)
theorem D9:xt:=by
 unfold xt;intro ⟨s,slot,k,into⟩ ⟨⟨⟨hb,hw⟩,_⟩,_⟩ _;simp only at hb hw |-;have hF:mE s slot k into=if bF s slot k into≠0 then (aE,bF s slot k into) else ((s.1,s.2.1.set into.toNat (s.1.getD (aD s slot+1+k).toNat 0 - 1),s.2.2),0):=rfl
 refine ⟨trivial,fun h=>?_,fun h tm=>⟨trivial,trivial,trivial,by trivial,by trivial,by trivial,by trivial,by trivial,by trivial,trivial,?_⟩⟩
 ·rw [hF,if_pos (Pt h)];exact ⟨by trivial,by trivial,trivial⟩
 ·have h0:=Pu h;obtain ⟨R,O,k0,k1,o0,o1⟩:=KJ hw (by omega:bF s slot k into=0);have hv:=R.refWord O.isb k0 k1;have:=O.x0;have:=O.b0;have:=O.fit;rw [hF,if_neg h0,if_neg h0];have hwr:IntKind.i64.wrap (s.1.getD (aD s slot+1+k).toNat 0)=s.1.getD (aD s slot+1+k).toNat 0:=jF (by omega) (by omega);rw [hwr];generalize s.1.getD (aD s slot+1+k).toNat 0=v at *;simp only [am];exact ⟨by omega,by omega,by omega,by omega,o0,o1,by omega,by trivial,by trivial,trivial⟩
theorem IJ:H7.ok Tryz.prog 62:=aA (ann:=ga) (ac CL (ac bA (ac bV (ac ce (ac bP ap))))) Tryz.func62 (by kernel_rfl) D9
def mz (s:an) (slot k other:Int):an×Int:=if bF s slot k other≠0 then (aE,bF s slot k other) else ((s.1.set (aD s slot+1+k).toNat (aD s other+1),s.2),0)
def H6:Spec:={ Ts:=[aP,ty_I,ty_I,ty_I],Rs:=[.dat aP,.dat ty_I],al:=true,pre:=fun _=>True,F:=fun ((s,slot,k,other):an×Int×Int×Int)=>mz s slot k other }
def xr:Prop :=
  ∀ (x:(List Int×List Int×List (Int×Int)×List (Int×Bool×Int))×Int×Int×Int),(qo x.1)/\am .i64 x.2.1/\am .i64 x.2.2.1/\am .i64 x.2.2.2->True->True/\(decide (bF x.1 x.2.1 x.2.2.1 x.2.2.2≠0)=true->(([]:List Int),([]:List Int),([]:List (Int×Int)),([]:List (Int×Bool×Int)))=(mz x.1 x.2.1 x.2.2.1 x.2.2.2).1/\bF x.1 x.2.1 x.2.2.1 x.2.2.2=(mz x.1 x.2.1 x.2.2.1 x.2.2.2).2/\True)/\(decide (bF x.1 x.2.1 x.2.2.1 x.2.2.2≠0)=false->∀ (_:Array Value),True/\True/\True/\x.1.2.1=x.1.2.1/\x.1.2.2.1=x.1.2.2.1/\x.1.2.2.1=x.1.2.2.1/\x.1.2.2.2=x.1.2.2.2/\x.1.2.2.2=x.1.2.2.2/\x.1.2.2.2=x.1.2.2.2/\True/\0<=x.2.2.2/\x.2.2.2<(x.1.2.1.length:Int)/\x.2.2.2.toNat<x.1.2.1.length/\am .i64 (x.1.2.1.getD x.2.2.2.toNat 0+1)/\(0<=if bF x.1 x.2.1 x.2.2.1 x.2.2.2≠0 then (0:Int) else aD x.1 x.2.1+1+x.2.2.1)/\(if bF x.1 x.2.1 x.2.2.1 x.2.2.2≠0 then (0:Int) else aD x.1 x.2.1+1+x.2.2.1)<(x.1.1.length:Int)/\(if bF x.1 x.2.1 x.2.2.1 x.2.2.2≠0 then (0:Int) else aD x.1 x.2.1+1+x.2.2.1).toNat<x.1.1.length/\(x.1.1.set (if bF x.1 x.2.1 x.2.2.1 x.2.2.2≠0 then (0:Int) else aD x.1 x.2.1+1+x.2.2.1).toNat (IntKind.u64.wrap (x.1.2.1.getD x.2.2.2.toNat 0+1)),x.1.2)=(mz x.1 x.2.1 x.2.2.1 x.2.2.2).1/\0=(mz x.1 x.2.1 x.2.2.1 x.2.2.2).2/\True)
theorem D8:xr:=by
 unfold xr;intro ⟨s,slot,k,other⟩ ⟨⟨⟨hb,hw⟩,_⟩,_⟩ _;simp only at hb hw |-;have hF:mz s slot k other=if bF s slot k other≠0 then (aE,bF s slot k other) else ((s.1.set (aD s slot+1+k).toNat (aD s other+1),s.2),0):=rfl
 refine ⟨trivial,fun h=>?_,fun h tm=>⟨trivial,trivial,trivial,by trivial,by trivial,by trivial,by trivial,by trivial,by trivial,trivial,?_⟩⟩
 ·rw [hF,if_pos (Pt h)];exact ⟨by trivial,by trivial,trivial⟩
 ·have h0:=Pu h;obtain ⟨R,O,k0,k1,o0,o1⟩:=KJ hw (by omega:bF s slot k other=0);have hv:=R.rootIn o0 o1;have hal:=R.al;have:=O.x0;have:=O.b0;have:=O.fit;rw [hF,if_neg h0,if_neg h0];have hwr:IntKind.u64.wrap (s.2.1.getD other.toNat 0+1)=aD s other+1:=fA (by omega) (by omega);rw [hwr];generalize s.2.1.getD other.toNat 0=v at *;simp only [am];exact ⟨o0,o1,by omega,by omega,by omega,by omega,by omega,by trivial,by trivial,trivial⟩
theorem II:H6.ok Tryz.prog 63:=aA (ann:=ga) (ac CL (ac bA (ac bV (ac ce (ac bP ap))))) Tryz.func63 (by kernel_rfl) D8
def aO (s:an) (slot k:Int):Int:=if bw s slot≠0 then bw s slot else if k<0\/(eN s.1 (aD s slot)).2.1<=k then 4 else 0
def bR (s:an) (at_ k:Int):Int:=at_+1+(eN s.1 at_).1+k
def Id:Spec:={ Ts:=[aP,ty_I,ty_I],Rs:=[.dat ty_I,.dat ty_I],pre:=fun _=>True,F:=fun ((s,slot,k):an×Int×Int)=>((if aO s slot k≠0 then 0 else bR s (aD s slot) k,aO s slot k):Int×Int) }
def xz:Prop :=
  ∀ (x:(List Int×List Int×List (Int×Int)×List (Int×Bool×Int))×Int×Int),(qo x.1)/\am .i64 x.2.1/\am .i64 x.2.2->True->True/\(decide ((aZ x.1 x.2.1).2.2≠0)=true->((0:Int)=if aO x.1 x.2.1 x.2.2≠0 then (0:Int) else bR x.1 (aD x.1 x.2.1) x.2.2)/\(aZ x.1 x.2.1).2.2=aO x.1 x.2.1 x.2.2/\True)/\(decide ((aZ x.1 x.2.1).2.2≠0)=false->((decide (x.2.2<0)||decide ((↑(aZ x.1 x.2.1).2.1.2.2.1.length:Int)<=x.2.2))=true->((0:Int)=if aO x.1 x.2.1 x.2.2≠0 then (0:Int) else bR x.1 (aD x.1 x.2.1) x.2.2)/\4=aO x.1 x.2.1 x.2.2/\True)/\((decide (x.2.2<0)||decide ((↑(aZ x.1 x.2.1).2.1.2.2.1.length:Int)<=x.2.2))=false->am .i64 ((aZ x.1 x.2.1).1+1)/\am .i64 ((aZ x.1 x.2.1).1+1+(↑(aZ x.1 x.2.1).2.1.2.1.length:Int))/\am .i64 ((aZ x.1 x.2.1).1+1+(↑(aZ x.1 x.2.1).2.1.2.1.length:Int)+x.2.2)/\((aZ x.1 x.2.1).1+1+(↑(aZ x.1 x.2.1).2.1.2.1.length:Int)+x.2.2=if aO x.1 x.2.1 x.2.2≠0 then (0:Int) else bR x.1 (aD x.1 x.2.1) x.2.2)/\0=aO x.1 x.2.1 x.2.2/\True))
theorem Ef:xz:=by
 unfold xz;intro ⟨s,slot,k⟩ ⟨⟨⟨hb,hw⟩,_⟩,_⟩ _;simp only at hb hw |-;have hR:aO s slot k=if bw s slot≠0 then bw s slot else if k<0\/(eN s.1 (aD s slot)).2.1<=k then 4 else 0:=rfl
 have hO:aZ s slot=if bw s slot≠0 then (0,iI,bw s slot) else (aD s slot,(gZ s.1 (aD s slot)).1,0):=rfl
 by_cases h0:bw s slot≠0
 ·rw [if_pos h0] at hR hO;rw [hO,hR];simp only;refine ⟨trivial,fun _=>?_,fun h=>absurd h0 (Pu h)⟩;rw [if_pos h0];exact ⟨by trivial,by trivial,trivial⟩
 ·obtain ⟨R,_,_,O⟩:=ux hw (by omega:bw s slot=0);have hal:=R.al;rw [if_neg h0] at hR hO;rw [hO];simp only;rw [O.body,O.refs];have:=O.x0;have:=O.r0;have:=O.b0;have:=O.fit;refine ⟨trivial,fun h=>absurd rfl (Pt h),fun _=>⟨fun h1=>?_,fun h1=>?_⟩⟩
  ·rw [if_pos (by simpa using h1)] at hR;rw [hR];exact ⟨by trivial,by trivial,trivial⟩
  ·have h1:¬ (k<0\/(eN s.1 (aD s slot)).2.1<=k):=by simpa using h1
   rw [if_neg h1] at hR;rw [hR];simp only [am];exact ⟨by omega,by omega,by omega,by simp [bR],by trivial,trivial⟩
theorem xX:Id.ok Tryz.prog 138:=aA (ann:=cn) (ac ku ap) Tryz.func138 (by kernel_rfl) Ef
theorem Ho {s:an} {slot k:Int} (hw:∀ x∈s.1,am .u64 x) (h:aO s slot k=0):Right s/\ObjAt s (aD s slot)/\0<=k/\k<(eN s.1 (aD s slot)).2.1/\0<=bR s (aD s slot) k/\bR s (aD s slot) k<s.1.length:=by
 unfold aO at h;split at h
 ·omega
 rename_i h0;split at h
 ·omega
 obtain ⟨R,_,_,O⟩:=ux hw (by omega:bw s slot=0);have:=O.x0;have:=O.r0;have:=O.fit;unfold bR;exact ⟨R,O,by omega,by omega,by omega,by omega⟩
def Ko:Spec:={ Ts:=[aP,ty_I,ty_I],Rs:=[.dat bo,.dat ty_I],pre:=fun _=>True,F:=fun ((s,slot,k):an×Int×Int)=>((if aO s slot k≠0 then 0 else s.1.getD (bR s (aD s slot) k).toNat 0,aO s slot k):Int×Int) }
def Cn:Prop :=
  ∀ (x:(List Int×List Int×List (Int×Int)×List (Int×Bool×Int))×Int×Int),(qo x.1)/\am .i64 x.2.1/\am .i64 x.2.2->True->True/\(decide (aO x.1 x.2.1 x.2.2≠0)=true->((0:Int)=if aO x.1 x.2.1 x.2.2≠0 then (0:Int) else x.1.1.getD (bR x.1 (aD x.1 x.2.1) x.2.2).toNat 0)/\aO x.1 x.2.1 x.2.2=aO x.1 x.2.1 x.2.2/\True)/\(decide (aO x.1 x.2.1 x.2.2≠0)=false->(0<=if aO x.1 x.2.1 x.2.2≠0 then (0:Int) else bR x.1 (aD x.1 x.2.1) x.2.2)/\(if aO x.1 x.2.1 x.2.2≠0 then (0:Int) else bR x.1 (aD x.1 x.2.1) x.2.2)<(x.1.1.length:Int)/\(x.1.1.getD (if aO x.1 x.2.1 x.2.2≠0 then (0:Int) else bR x.1 (aD x.1 x.2.1) x.2.2).toNat (0:Int)=if aO x.1 x.2.1 x.2.2≠0 then (0:Int) else x.1.1.getD (bR x.1 (aD x.1 x.2.1) x.2.2).toNat 0)/\0=aO x.1 x.2.1 x.2.2/\True)
theorem HF:Cn:=by
 unfold Cn;intro ⟨s,slot,k⟩ ⟨⟨⟨hb,hw⟩,_⟩,_⟩ _;simp only at hb hw |-;refine ⟨trivial,fun h=>?_,fun h=>?_⟩
 ·rw [if_pos (Pt h)];exact ⟨by trivial,by trivial,trivial⟩
 ·have h0:=Pu h;obtain ⟨_,_,_,_,b0,b1⟩:=Ho hw (by omega:aO s slot k=0);rw [if_neg h0];exact ⟨b0,b1,by rw [if_neg h0],by omega,trivial⟩
theorem KY:Ko.ok Tryz.prog 64:=aA (ann:=cn) (ac xX ap) Tryz.func64 (by kernel_rfl) HF
def lD (s:an) (slot k v:Int):an×Int:=if aO s slot k≠0 then (aE,aO s slot k) else ((s.1.set (bR s (aD s slot) k).toNat v,s.2),0)
def H8:Spec:={ Ts:=[aP,ty_I,ty_I,bo],Rs:=[.dat aP,.dat ty_I],al:=true,pre:=fun _=>True,F:=fun ((s,slot,k,v):an×Int×Int×Int)=>lD s slot k v }
def xu:Prop :=
  ∀ (x:(List Int×List Int×List (Int×Int)×List (Int×Bool×Int))×Int×Int×Int),(qo x.1)/\am .i64 x.2.1/\am .i64 x.2.2.1/\am .u64 x.2.2.2->True->True/\(decide (aO x.1 x.2.1 x.2.2.1≠0)=true->(([]:List Int),([]:List Int),([]:List (Int×Int)),([]:List (Int×Bool×Int)))=(lD x.1 x.2.1 x.2.2.1 x.2.2.2).1/\aO x.1 x.2.1 x.2.2.1=(lD x.1 x.2.1 x.2.2.1 x.2.2.2).2/\True)/\(decide (aO x.1 x.2.1 x.2.2.1≠0)=false->∀ (_:Array Value),True/\True/\True/\x.1.2.1=x.1.2.1/\x.1.2.2.1=x.1.2.2.1/\x.1.2.2.1=x.1.2.2.1/\x.1.2.2.2=x.1.2.2.2/\x.1.2.2.2=x.1.2.2.2/\x.1.2.2.2=x.1.2.2.2/\True/\(0<=if aO x.1 x.2.1 x.2.2.1≠0 then (0:Int) else bR x.1 (aD x.1 x.2.1) x.2.2.1)/\(if aO x.1 x.2.1 x.2.2.1≠0 then (0:Int) else bR x.1 (aD x.1 x.2.1) x.2.2.1)<(x.1.1.length:Int)/\(if aO x.1 x.2.1 x.2.2.1≠0 then (0:Int) else bR x.1 (aD x.1 x.2.1) x.2.2.1).toNat<x.1.1.length/\(x.1.1.set (if aO x.1 x.2.1 x.2.2.1≠0 then (0:Int) else bR x.1 (aD x.1 x.2.1) x.2.2.1).toNat x.2.2.2,x.1.2)=(lD x.1 x.2.1 x.2.2.1 x.2.2.2).1/\0=(lD x.1 x.2.1 x.2.2.1 x.2.2.2).2/\True)
theorem Ea:xu:=by
 unfold xu;intro ⟨s,slot,k,v⟩ ⟨⟨⟨hb,hw⟩,_⟩,_⟩ _;simp only at hb hw |-;have hF:lD s slot k v=if aO s slot k≠0 then (aE,aO s slot k) else ((s.1.set (bR s (aD s slot) k).toNat v,s.2),0):=rfl
 refine ⟨trivial,fun h=>?_,fun h tm=>⟨trivial,trivial,trivial,by trivial,by trivial,by trivial,by trivial,by trivial,by trivial,trivial,?_⟩⟩
 ·rw [hF,if_pos (Pt h)];exact ⟨by trivial,by trivial,trivial⟩
 ·have h0:=Pu h;obtain ⟨_,_,_,_,b0,b1⟩:=Ho hw (by omega:aO s slot k=0);rw [hF,if_neg h0,if_neg h0];exact ⟨b0,b1,by omega,by trivial,by trivial,trivial⟩
theorem IK:H8.ok Tryz.prog 66:=aA (ann:=ga) (ac xX (ac bA (ac bV (ac ce (ac bP ap))))) Tryz.func66 (by kernel_rfl) Ea
def j7 (s:an) (slot:Int):an×Int×Int:=if bw s slot≠0 then (aE,0,bw s slot) else if (ja s.2.2.1 (aD s slot)).2.2≠0 then (aE,0,(ja s.2.2.1 (aD s slot)).2.2) else ((s.1,s.2.1,(ja s.2.2.1 (aD s slot)).1,s.2.2.2),aD s slot,0)
def H9:Spec:={ Ts:=[aP,ty_I],Rs:=[.dat aP,.dat ty_I,.dat ty_I],al:=true,pre:=fun _=>True,F:=fun ((s,slot):an×Int)=>j7 s slot }
def xv:Prop :=
  ∀ (x:(List Int×List Int×List (Int×Int)×List (Int×Bool×Int))×Int),(qo x.1)/\am .i64 x.2->True->True/\(decide ((aZ x.1 x.2).2.2≠0)=true->(([]:List Int),([]:List Int),([]:List (Int×Int)),([]:List (Int×Bool×Int)))=(j7 x.1 x.2).1/\0=(j7 x.1 x.2).2.1/\(aZ x.1 x.2).2.2=(j7 x.1 x.2).2.2/\True)/\(decide ((aZ x.1 x.2).2.2≠0)=false->True/\(decide ((ja x.1.2.2.1 (aZ x.1 x.2).1).2.2≠0)=true->(([]:List Int),([]:List Int),([]:List (Int×Int)),([]:List (Int×Bool×Int)))=(j7 x.1 x.2).1/\0=(j7 x.1 x.2).2.1/\(ja x.1.2.2.1 (aZ x.1 x.2).1).2.2=(j7 x.1 x.2).2.2/\True)/\(decide ((ja x.1.2.2.1 (aZ x.1 x.2).1).2.2≠0)=false->∀ (_:Array Value),True/\True/\True/\x.1.2.1=x.1.2.1/\x.1.2.2.1=x.1.2.2.1/\x.1.2.2.1=x.1.2.2.1/\x.1.2.2.2=x.1.2.2.2/\x.1.2.2.2=x.1.2.2.2/\x.1.2.2.2=x.1.2.2.2/\True/\(x.1.1,x.1.2.1,(ja x.1.2.2.1 (aZ x.1 x.2).1).1,x.1.2.2.2)=(j7 x.1 x.2).1/\(aZ x.1 x.2).1=(j7 x.1 x.2).2.1/\0=(j7 x.1 x.2).2.2/\True))
theorem Eb:xv:=by
 unfold xv;intro ⟨s,slot⟩ hx _;simp only at hx |-;have hF:j7 s slot=if bw s slot≠0 then (aE,0,bw s slot) else if (ja s.2.2.1 (aD s slot)).2.2≠0 then (aE,0,(ja s.2.2.1 (aD s slot)).2.2) else ((s.1,s.2.1,(ja s.2.2.1 (aD s slot)).1,s.2.2.2),aD s slot,0):=rfl
 have hO:aZ s slot=if bw s slot≠0 then (0,iI,bw s slot) else (aD s slot,(gZ s.1 (aD s slot)).1,0):=rfl
 by_cases h0:bw s slot≠0
 ·rw [if_pos h0] at hF hO;rw [hO,hF];exact ⟨trivial,fun _=>⟨by trivial,by trivial,by trivial,trivial⟩,fun h=>absurd h0 (Pu h)⟩
 ·rw [if_neg h0] at hF hO;rw [hO,hF];simp only;refine ⟨trivial,fun h=>absurd rfl (Pt h),fun _=>⟨trivial,fun h=>?_,fun h tm=>⟨trivial,trivial,trivial,by trivial,by trivial,by trivial,by trivial,by trivial,by trivial,trivial,?_⟩⟩⟩
  ·rw [if_pos (Pt h)];exact ⟨by trivial,by trivial,by trivial,trivial⟩
  ·rw [if_neg (Pu h)];exact ⟨by trivial,by trivial,by trivial,trivial⟩
theorem IL:H9.ok Tryz.prog 67:=aA (ann:=ga) (ac ku (ac Oh (ac bA (ac bV (ac ce (ac bP ap)))))) Tryz.func67 (by kernel_rfl) Eb
def dI (s:an) (at_:Int):an×Int:=if ay s≠0 then (aE,ay s) else if (eT s.2.2.1 at_).2.2≠0 then (aE,(eT s.2.2.1 at_).2.2) else ((s.1,s.2.1,(eT s.2.2.1 at_).1,s.2.2.2),0)
def By:Spec:={ Ts:=[aP,ty_I],Rs:=[.dat aP,.dat ty_I],al:=true,pre:=fun _=>True,F:=fun ((s,at_):an×Int)=>dI s at_ }
def rC:Prop :=
  ∀ (x:(List Int×List Int×List (Int×Int)×List (Int×Bool×Int))×Int),(qo x.1)/\am .i64 x.2->True->True/\(decide (ay x.1≠0)=true->(([]:List Int),([]:List Int),([]:List (Int×Int)),([]:List (Int×Bool×Int)))=(dI x.1 x.2).1/\ay x.1=(dI x.1 x.2).2/\True)/\(decide (ay x.1≠0)=false->True/\(decide ((eT x.1.2.2.1 x.2).2.2≠0)=true->(([]:List Int),([]:List Int),([]:List (Int×Int)),([]:List (Int×Bool×Int)))=(dI x.1 x.2).1/\(eT x.1.2.2.1 x.2).2.2=(dI x.1 x.2).2/\True)/\(decide ((eT x.1.2.2.1 x.2).2.2≠0)=false->∀ (_:Array Value),True/\True/\True/\x.1.2.1=x.1.2.1/\x.1.2.2.1=x.1.2.2.1/\x.1.2.2.1=x.1.2.2.1/\x.1.2.2.2=x.1.2.2.2/\x.1.2.2.2=x.1.2.2.2/\x.1.2.2.2=x.1.2.2.2/\True/\(x.1.1,x.1.2.1,(eT x.1.2.2.1 x.2).1,x.1.2.2.2)=(dI x.1 x.2).1/\0=(dI x.1 x.2).2/\True))
theorem yF:rC:=by
 unfold rC;intro ⟨s,at_⟩ hx _;simp only at hx |-;have hF:dI s at_=if ay s≠0 then (aE,ay s) else if (eT s.2.2.1 at_).2.2≠0 then (aE,(eT s.2.2.1 at_).2.2) else ((s.1,s.2.1,(eT s.2.2.1 at_).1,s.2.2.2),0):=rfl
 rw [hF];refine ⟨trivial,fun h=>?_,fun h=>⟨trivial,fun h1=>?_,fun h1 tm=>⟨trivial,trivial,trivial,by trivial,by trivial,by trivial,by trivial,by trivial,by trivial,trivial,?_⟩⟩⟩
 ·rw [if_pos (Pt h)];exact ⟨by trivial,by trivial,trivial⟩
 ·rw [if_neg (Pu h),if_pos (Pt h1)];exact ⟨by trivial,by trivial,trivial⟩
 ·rw [if_neg (Pu h),if_neg (Pu h1)];exact ⟨by trivial,by trivial,trivial⟩
theorem CK:By.ok Tryz.prog 68:=aA (ann:=ga) (ac gD (ac M7 (ac bA (ac bV (ac ce (ac bP ap)))))) Tryz.func68 (by kernel_rfl) yF
def cp (s:an) (at_ k:Int):Int:=if ay s≠0 then ay s else if cu (dK s) at_=false then 8 else if k<0\/(eN s.1 at_).2.1<=k then 4 else 0
def Ia:Spec:={ Ts:=[aP,ty_I,ty_I],Rs:=[.dat bo,.dat ty_I],pre:=fun _=>True,F:=fun ((s,at_,k):an×Int×Int)=>((if cp s at_ k≠0 then 0 else s.1.getD (bR s at_ k).toNat 0,cp s at_ k):Int×Int) }
def xw:Prop :=
  ∀ (x:(List Int×List Int×List (Int×Int)×List (Int×Bool×Int))×Int×Int),(qo x.1)/\am .i64 x.2.1/\am .i64 x.2.2->True->True/\(decide (ay x.1≠0)=true->((0:Int)=if cp x.1 x.2.1 x.2.2≠0 then (0:Int) else x.1.1.getD (bR x.1 x.2.1 x.2.2).toNat 0)/\ay x.1=cp x.1 x.2.1 x.2.2/\True)/\(decide (ay x.1≠0)=false->True/\True/\((!cu (List.map (fun (x:bu)=>x.1) x.1.2.2.1) x.2.1)=true->((0:Int)=if cp x.1 x.2.1 x.2.2≠0 then (0:Int) else x.1.1.getD (bR x.1 x.2.1 x.2.2).toNat 0)/\8=cp x.1 x.2.1 x.2.2/\True)/\((!cu (List.map (fun (x:bu)=>x.1) x.1.2.2.1) x.2.1)=false->True/\((decide (x.2.2<0)||decide ((↑(gZ x.1.1 x.2.1).1.2.2.1.length:Int)<=x.2.2))=true->((0:Int)=if cp x.1 x.2.1 x.2.2≠0 then (0:Int) else x.1.1.getD (bR x.1 x.2.1 x.2.2).toNat 0)/\4=cp x.1 x.2.1 x.2.2/\True)/\((decide (x.2.2<0)||decide ((↑(gZ x.1.1 x.2.1).1.2.2.1.length:Int)<=x.2.2))=false->0<=x.2.2/\x.2.2<(↑(gZ x.1.1 x.2.1).1.2.2.1.length:Int)/\((gZ x.1.1 x.2.1).1.2.2.1.getD x.2.2.toNat (0:Int)=if cp x.1 x.2.1 x.2.2≠0 then (0:Int) else x.1.1.getD (bR x.1 x.2.1 x.2.2).toNat 0)/\0=cp x.1 x.2.1 x.2.2/\True)))
theorem Ec:xw:=by
 unfold xw;intro ⟨s,at_,k⟩ ⟨⟨⟨hb,hw⟩,_⟩,_⟩ _;simp only at hb hw |-;have hP:cp s at_ k=if ay s≠0 then ay s else if cu (dK s) at_=false then 8 else if k<0\/(eN s.1 at_).2.1<=k then 4 else 0:=rfl
 have hpo:List.map (fun (x:bu)=>x.1) s.2.2.1=dK s:=rfl;rw [hpo];refine ⟨trivial,fun h=>?_,fun h=>⟨trivial,trivial,fun h1=>?_,fun h1=>⟨trivial,fun h2=>?_,fun h2=>?_⟩⟩⟩
 ·have h:=Pt h;rw [if_pos h] at hP;rw [hP,if_pos h];exact ⟨by trivial,by trivial,trivial⟩
 all_goals have h:=Pu h
 ·rw [if_neg h,if_pos (by simpa using h1)] at hP;rw [hP];exact ⟨by trivial,by trivial,trivial⟩
 all_goals
  have h1:cu (dK s) at_=true:=by simpa using h1
  have R:=ic hw (by omega:ay s=0);have O:=R.obj (R.pinsIn at_ (bi.1 h1));rw [if_neg h,if_neg (by rw [h1]; simp)] at hP;rw [O.body] at h2
 ·rw [if_pos (by simpa using h2)] at hP;rw [hP];exact ⟨by trivial,by trivial,trivial⟩
 ·have h2:¬ (k<0\/(eN s.1 at_).2.1<=k):=by simpa using h2
  have l:=bS O.isb;rw [if_neg h2] at hP;rw [hP,O.body];have hg:=JE (a:=s.1) (at_:=at_) (k:=k) (by omega) (by omega) l.2.1 O.x0 O.r0;have e:(gZ s.1 at_).1.2.2.1=iq s.1 at_:=by rw [O.at_]; rfl
  rw [e,<- hg];exact ⟨by omega,by omega,by simp [bR],by trivial,trivial⟩
theorem IM:Ia.ok Tryz.prog 69:=aA (ann:=cn) (ac gD (ac ko (ac lG (ac lj ap)))) Tryz.func69 (by kernel_rfl) Ec
def gS (s:an) (slot:Int):an×Int×Int:=if bw s slot≠0 then (aE,0,bw s slot) else if (eA s.2.2.2 (aD s slot)).2.2≠0 then (aE,0,(eA s.2.2.2 (aD s slot)).2.2) else ((s.1,s.2.1,s.2.2.1,(eA s.2.2.2 (aD s slot)).1),(eA s.2.2.2 (aD s slot)).2.1,0)
def EO:Spec:={ Ts:=[aP,ty_I],Rs:=[.dat aP,.dat bo,.dat ty_I],al:=true,pre:=fun _=>True,F:=fun ((s,slot):an×Int)=>gS s slot }
def t8:Prop :=
  ∀ (x:(List Int×List Int×List (Int×Int)×List (Int×Bool×Int))×Int),(qo x.1)/\am .i64 x.2->True->True/\(decide ((aZ x.1 x.2).2.2≠0)=true->(([]:List Int),([]:List Int),([]:List (Int×Int)),([]:List (Int×Bool×Int)))=(gS x.1 x.2).1/\0=(gS x.1 x.2).2.1/\(aZ x.1 x.2).2.2=(gS x.1 x.2).2.2/\True)/\(decide ((aZ x.1 x.2).2.2≠0)=false->True/\(decide ((eA x.1.2.2.2 (aZ x.1 x.2).1).2.2≠0)=true->(([]:List Int),([]:List Int),([]:List (Int×Int)),([]:List (Int×Bool×Int)))=(gS x.1 x.2).1/\0=(gS x.1 x.2).2.1/\(eA x.1.2.2.2 (aZ x.1 x.2).1).2.2=(gS x.1 x.2).2.2/\True)/\(decide ((eA x.1.2.2.2 (aZ x.1 x.2).1).2.2≠0)=false->∀ (_:Array Value),True/\True/\True/\x.1.2.1=x.1.2.1/\x.1.2.2.1=x.1.2.2.1/\x.1.2.2.1=x.1.2.2.1/\x.1.2.2.2=x.1.2.2.2/\x.1.2.2.2=x.1.2.2.2/\x.1.2.2.2=x.1.2.2.2/\True/\(x.1.1,x.1.2.1,x.1.2.2.1,(eA x.1.2.2.2 (aZ x.1 x.2).1).1)=(gS x.1 x.2).1/\(eA x.1.2.2.2 (aZ x.1 x.2).1).2.1=(gS x.1 x.2).2.1/\0=(gS x.1 x.2).2.2/\True))
theorem A7:t8:=by
 unfold t8;intro ⟨s,slot⟩ hx _;simp only at hx |-;have hF:gS s slot=if bw s slot≠0 then (aE,0,bw s slot) else if (eA s.2.2.2 (aD s slot)).2.2≠0 then (aE,0,(eA s.2.2.2 (aD s slot)).2.2) else ((s.1,s.2.1,s.2.2.1,(eA s.2.2.2 (aD s slot)).1),(eA s.2.2.2 (aD s slot)).2.1,0):=rfl
 have hO:aZ s slot=if bw s slot≠0 then (0,iI,bw s slot) else (aD s slot,(gZ s.1 (aD s slot)).1,0):=rfl
 by_cases h0:bw s slot≠0
 ·rw [if_pos h0] at hF hO;rw [hO,hF];exact ⟨trivial,fun _=>⟨by trivial,by trivial,by trivial,trivial⟩,fun h=>absurd h0 (Pu h)⟩
 ·rw [if_neg h0] at hF hO;rw [hO,hF];simp only;refine ⟨trivial,fun h=>absurd rfl (Pt h),fun _=>⟨trivial,fun h=>?_,fun h tm=>⟨trivial,trivial,trivial,by trivial,by trivial,by trivial,by trivial,by trivial,by trivial,trivial,?_⟩⟩⟩
  ·rw [if_pos (Pt h)];exact ⟨by trivial,by trivial,by trivial,trivial⟩
  ·rw [if_neg (Pu h)];exact ⟨by trivial,by trivial,by trivial,trivial⟩
theorem Fp:EO.ok Tryz.prog 70:=aA (ann:=ga) (ac ku (ac CT (ac bA (ac bV (ac ce (ac bP ap)))))) Tryz.func70 (by kernel_rfl) A7
def bN (s:an) (k:Int):Int:=if ay s≠0 then ay s else if k<0\/(s.2.1.length:Int)<=k then 5 else 0
def zn:Spec:={ Ts:=[aP,ty_I],Rs:=[.dat ty_I],pre:=fun _=>True,F:=fun ((s,k):an×Int)=>bN s k }
def pg:Prop :=
  ∀ (x:(List Int×List Int×List (Int×Int)×List (Int×Bool×Int))×Int),(qo x.1)/\am .i64 x.2->True->True/\((decide (ay x.1=0)&&(decide (x.2<0)||decide ((x.1.2.1.length:Int)<=x.2)))=true->5=bN x.1 x.2/\True)/\((decide (ay x.1=0)&&(decide (x.2<0)||decide ((x.1.2.1.length:Int)<=x.2)))=false->ay x.1=bN x.1 x.2/\True)
theorem vS:pg:=by
 unfold pg;intro ⟨s,k⟩ hx _;simp only at hx |-;have hE:bN s k=if ay s≠0 then ay s else if k<0\/(s.2.1.length:Int)<=k then 5 else 0:=rfl
 rw [hE];refine ⟨trivial,fun h=>?_,fun h=>?_⟩
 ·simp only [Px,Qk,Qq] at h;rw [if_neg (by omega),if_pos h.2];exact ⟨rfl,trivial⟩
 ·simp only [Bool.and_eq_false_iff,Qw,QG] at h;by_cases h0:ay s≠0
  ·rw [if_pos h0];exact ⟨rfl,trivial⟩
  ·rw [if_neg h0,if_neg (by omega)];exact ⟨by omega,trivial⟩
theorem pw:zn.ok Tryz.prog 144:=aA (ann:=cn) (ac gD ap) Tryz.func144 (by kernel_rfl) vS
theorem Gv {s:an} {k:Int} (h:bN s k=0):0<=k/\k<s.2.1.length:=by
 unfold bN at h;split at h
 ·omega
 split at h
 ·omega
 omega
def ly (s:an) (name slot:Int):an×Int:=if bN s slot≠0 then (aE,bN s slot) else if (iu s.2.2.2 name).2≠0 then (aE,(iu s.2.2.2 name).2) else ((s.1,s.2.1.set slot.toNat (iu s.2.2.2 name).1,s.2.2),0)
def H5:Spec:={ Ts:=[aP,bo,ty_I],Rs:=[.dat aP,.dat ty_I],al:=true,pre:=fun _=>True,F:=fun ((s,name,slot):an×Int×Int)=>ly s name slot }
def xq:Prop :=
  ∀ (x:(List Int×List Int×List (Int×Int)×List (Int×Bool×Int))×Int×Int),(qo x.1)/\am .u64 x.2.1/\am .i64 x.2.2->True->True/\(decide (bN x.1 x.2.2≠0)=true->(([]:List Int),([]:List Int),([]:List (Int×Int)),([]:List (Int×Bool×Int)))=(ly x.1 x.2.1 x.2.2).1/\bN x.1 x.2.2=(ly x.1 x.2.1 x.2.2).2/\True)/\(decide (bN x.1 x.2.2≠0)=false->True/\(decide ((iu x.1.2.2.2 x.2.1).2≠0)=true->(([]:List Int),([]:List Int),([]:List (Int×Int)),([]:List (Int×Bool×Int)))=(ly x.1 x.2.1 x.2.2).1/\(iu x.1.2.2.2 x.2.1).2=(ly x.1 x.2.1 x.2.2).2/\True)/\(decide ((iu x.1.2.2.2 x.2.1).2≠0)=false->∀ (_:Array Value),True/\True/\True/\x.1.2.1=x.1.2.1/\x.1.2.2.1=x.1.2.2.1/\x.1.2.2.1=x.1.2.2.1/\x.1.2.2.2=x.1.2.2.2/\x.1.2.2.2=x.1.2.2.2/\x.1.2.2.2=x.1.2.2.2/\True/\0<=x.2.2/\x.2.2<(x.1.2.1.length:Int)/\x.2.2.toNat<x.1.2.1.length/\(x.1.1,x.1.2.1.set x.2.2.toNat (iu x.1.2.2.2 x.2.1).1,x.1.2.2)=(ly x.1 x.2.1 x.2.2).1/\0=(ly x.1 x.2.1 x.2.2).2/\True))
theorem D7:xq:=by
 unfold xq;intro ⟨s,name,slot⟩ hx _;simp only at hx |-;have hF:ly s name slot=if bN s slot≠0 then (aE,bN s slot) else if (iu s.2.2.2 name).2≠0 then (aE,(iu s.2.2.2 name).2) else ((s.1,s.2.1.set slot.toNat (iu s.2.2.2 name).1,s.2.2),0):=rfl
 rw [hF];refine ⟨trivial,fun h=>?_,fun h=>⟨trivial,fun h1=>?_,fun h1 tm=>⟨trivial,trivial,trivial,by trivial,by trivial,by trivial,by trivial,by trivial,by trivial,trivial,?_⟩⟩⟩
 ·rw [if_pos (Pt h)];exact ⟨by trivial,by trivial,trivial⟩
 ·rw [if_neg (Pu h),if_pos (Pt h1)];exact ⟨by trivial,by trivial,trivial⟩
 ·rw [if_neg (Pu h),if_neg (Pu h1)];have hs:=Gv (by simpa using Pu h:bN s slot=0);exact ⟨hs.1,hs.2,by omega,by trivial,by trivial,trivial⟩
theorem IH:H5.ok Tryz.prog 71:=aA (ann:=ga) (ac pw (ac CU (ac bA (ac bV (ac ce (ac bP ap)))))) Tryz.func71 (by kernel_rfl) D7
def ib (s:an) (name:Int):an×Int:=if ay s≠0 then (aE,ay s) else if (ft s.2.2.2 name).2≠0 then (aE,(ft s.2.2.2 name).2) else ((s.1,s.2.1,s.2.2.1,(ft s.2.2.2 name).1),0)
def EN:Spec:={ Ts:=[aP,bo],Rs:=[.dat aP,.dat ty_I],al:=true,pre:=fun _=>True,F:=fun ((s,name):an×Int)=>ib s name }
def t7:Prop :=
  ∀ (x:(List Int×List Int×List (Int×Int)×List (Int×Bool×Int))×Int),(qo x.1)/\am .u64 x.2->True->True/\(decide (ay x.1≠0)=true->(([]:List Int),([]:List Int),([]:List (Int×Int)),([]:List (Int×Bool×Int)))=(ib x.1 x.2).1/\ay x.1=(ib x.1 x.2).2/\True)/\(decide (ay x.1≠0)=false->True/\(decide ((ft x.1.2.2.2 x.2).2≠0)=true->(([]:List Int),([]:List Int),([]:List (Int×Int)),([]:List (Int×Bool×Int)))=(ib x.1 x.2).1/\(ft x.1.2.2.2 x.2).2=(ib x.1 x.2).2/\True)/\(decide ((ft x.1.2.2.2 x.2).2≠0)=false->∀ (_:Array Value),True/\True/\True/\x.1.2.1=x.1.2.1/\x.1.2.2.1=x.1.2.2.1/\x.1.2.2.1=x.1.2.2.1/\x.1.2.2.2=x.1.2.2.2/\x.1.2.2.2=x.1.2.2.2/\x.1.2.2.2=x.1.2.2.2/\True/\(x.1.1,x.1.2.1,x.1.2.2.1,(ft x.1.2.2.2 x.2).1)=(ib x.1 x.2).1/\0=(ib x.1 x.2).2/\True))
theorem A6:t7:=by
 unfold t7;intro ⟨s,name⟩ hx _;simp only at hx |-;have hF:ib s name=if ay s≠0 then (aE,ay s) else if (ft s.2.2.2 name).2≠0 then (aE,(ft s.2.2.2 name).2) else ((s.1,s.2.1,s.2.2.1,(ft s.2.2.2 name).1),0):=rfl
 rw [hF];refine ⟨trivial,fun h=>?_,fun h=>⟨trivial,fun h1=>?_,fun h1 tm=>⟨trivial,trivial,trivial,by trivial,by trivial,by trivial,by trivial,by trivial,by trivial,trivial,?_⟩⟩⟩
 ·rw [if_pos (Pt h)];exact ⟨by trivial,by trivial,trivial⟩
 ·rw [if_neg (Pu h),if_pos (Pt h1)];exact ⟨by trivial,by trivial,trivial⟩
 ·rw [if_neg (Pu h),if_neg (Pu h1)];exact ⟨by trivial,by trivial,trivial⟩
theorem Fo:EN.ok Tryz.prog 72:=aA (ann:=ga) (ac gD (ac zS (ac bA (ac bV (ac ce (ac bP ap)))))) Tryz.func72 (by kernel_rfl) A6
def gr (s:an) (slot:Int):an×Int:=if bN s slot≠0 then (aE,bN s slot) else ((s.1,s.2.1.set slot.toNat (-1),s.2.2),0)
def EP:Spec:={ Ts:=[aP,ty_I],Rs:=[.dat aP,.dat ty_I],al:=true,pre:=fun _=>True,F:=fun ((s,slot):an×Int)=>gr s slot }
def ua:Prop :=
  ∀ (x:(List Int×List Int×List (Int×Int)×List (Int×Bool×Int))×Int),(qo x.1)/\am .i64 x.2->True->True/\(decide (bN x.1 x.2≠0)=true->(([]:List Int),([]:List Int),([]:List (Int×Int)),([]:List (Int×Bool×Int)))=(gr x.1 x.2).1/\bN x.1 x.2=(gr x.1 x.2).2/\True)/\(decide (bN x.1 x.2≠0)=false->∀ (_:Array Value),True/\True/\True/\x.1.2.1=x.1.2.1/\x.1.2.2.1=x.1.2.2.1/\x.1.2.2.1=x.1.2.2.1/\x.1.2.2.2=x.1.2.2.2/\x.1.2.2.2=x.1.2.2.2/\x.1.2.2.2=x.1.2.2.2/\True/\0<=x.2/\x.2<(x.1.2.1.length:Int)/\x.2.toNat<x.1.2.1.length/\(x.1.1,x.1.2.1.set x.2.toNat (-1),x.1.2.2)=(gr x.1 x.2).1/\0=(gr x.1 x.2).2/\True)
theorem A8:ua:=by
 unfold ua;intro ⟨s,slot⟩ hx _;simp only at hx |-;have hF:gr s slot=if bN s slot≠0 then (aE,bN s slot) else ((s.1,s.2.1.set slot.toNat (-1),s.2.2),0):=rfl
 rw [hF];refine ⟨trivial,fun h=>?_,fun h tm=>⟨trivial,trivial,trivial,by trivial,by trivial,by trivial,by trivial,by trivial,by trivial,trivial,?_⟩⟩
 ·rw [if_pos (Pt h)];exact ⟨by trivial,by trivial,trivial⟩
 ·have hs:=Gv (by simpa using Pu h:bN s slot=0);rw [if_neg (Pu h)];exact ⟨hs.1,hs.2,by omega,by trivial,by trivial,trivial⟩
theorem Fq:EP.ok Tryz.prog 73:=aA (ann:=ga) (ac pw (ac bA (ac bV (ac ce (ac bP ap))))) Tryz.func73 (by kernel_rfl) A8
def lL (h:ew):Int:=if af h≠0 then af h else if h.2.2.2=true then 3 else 0
theorem tD {a:List Int} (hc:(ai a).2.2=0) {h:ew} (h0:af h=0) (hf:h.2.2.2=false):match (aV false [] (aa a).1).find? (fun r=>decide (ae h<=r.2)) with
  | none=>bx (aV false [] (aa a).1) (ae h)=(0,7)/\jI a h=([],0,false)
  | some r=>∃ i,0<=i/\i<((aV false [] (aa a).1).length:Int)/\bx (aV false [] (aa a).1) (ae h)=(i,0)/\(aV false [] (aa a).1).getD i.toNat (0,0)=r/\iQ (dS a).1 r.1 h=(od a r h,0)/\jI a h=(od a r h,r.1,true):=by
 have hgi:=(pT (bJ hc).2.2.2.1).1;have hz:=bG h0;have hL:ae h=1+h.1+h.2.1:=rfl;have hff:=Jl (n:=ae h) (l:=aV false [] (aa a).1) (by omega) (fun r hr=>by have:=hgi r hr; omega);have hfi:=yn (ae h) (aV false [] (aa a).1) 0;cases hfd:(aV false [] (aa a).1).find? (fun r=>decide (ae h<=r.2)) with
 | none =>
  rw [hfd] at hfi;simp only at hfi |-;rw [if_pos hfi] at hff;refine ⟨hff,?_⟩;unfold jI;rw [hfd]
 | some r =>
  rw [hfd] at hfi;obtain ⟨i,i0,i1,i2,i3,i4⟩:=hfi;rw [if_neg i3,i4,Int.zero_add] at hff;have hr:=List.mem_of_find?_eq_some hfd;have hle:ae h<=r.2:=by simpa using List.find?_some hfd
  refine ⟨i,i0,i1,hff,i2,Ff hc hr h0 hf hle,?_⟩;unfold jI;rw [hfd]
def JJ:Nat->Option LoopGen
 | 3000083=>some cU
 | 8404000001=>some cU
 | 3000084=>some cU
 | 8504000007=>some cU
 | 3000085=>some cU
 | 8605000004=>some { rd:=[.boxS 1 [.own 45 bo,.own 3 ty_I,.own 157 fB,.own 135 ck]],A:=fun (s:an)=>{ cs:=[.own 9 3 ty_I,.own 10 3 ty_I],inv:=fun ((ra,ha):List Int×List Int)=>ra=List.replicate s.1.length 0/\ha=List.replicate 256 0,mu:=fun _=>0 } }
 | 8600000006=>some { wr:=[9,10],rd:=[.boxS 1 [.own 45 bo,.own 3 ty_I,.own 157 fB,.own 135 ck]],A:=fun (s:an)=>{ cs:=[.own 9 3 ty_I,.own 10 3 ty_I,.dat 42 ty_I],inv:=fun ((ra,ha,i):List Int×List Int×Int)=>0<=i/\i<=(aj s).length/\ra=bY (List.replicate s.1.length 0) ((aj s).take i.toNat) (mf s)/\ha=bY (List.replicate 256 0) ((aj s).take i.toNat) (mf s),mu:=fun ((_,_,i):List Int×List Int×Int)=>((aj s).length - i).toNat } }
 | 8600000015=>some { rd:=[.own 86 105 jH],A:=fun (g:List dp)=>{ cs:=[.dat 13 ty_I,.dat 88 ty_I],inv:=fun ((n,i):Int×Int)=>0<=i/\i<=g.length/\g.length<=256/\(∀ r∈g,0<=r.2/\r.2<=256)/\n=fQ (g.take i.toNat)/\0<=n/\n<=256 * i,mu:=fun ((_,i):Int×Int)=>(g.length - i).toNat } }
 | _=>none
def x9 (s:an) (slot:Int) (h:ew):an×Bool:=((((jI s.1 h).1,s.2.1.set slot.toNat (jI s.1 h).2.1,s.2.2):an),(jI s.1 h).2.2)
def bB (s:an) (slot:Int) (h:ew):an×Bool×Int :=
 if bN s slot≠0 then (aE,false,bN s slot) else if lL h≠0 then (aE,false,lL h) else
 if (x9 s slot h).2=true then ((x9 s slot h).1,false,0) else if (x9 (qz s) slot h).2=true then ((x9 (qz s) slot h).1,true,0) else (aE,false,7)
def Ib:Spec:={ Ts:=[aP,ty_I,eX],Rs:=[.dat aP,.dat .bool,.dat ty_I],al:=true,pre:=fun _=>True,F:=fun ((s,slot,h):an×Int×ew)=>bB s slot h }
def xx:Prop :=
  ∀ (x:(List Int×List Int×List (Int×Int)×List (Int×Bool×Int))×Int×Int×Int×Int×Bool),(qo x.1)/\am .i64 x.2.1/\am .i64 x.2.2.1/\am .i64 x.2.2.2.1/\am .i64 x.2.2.2.2.1/\True->True->True/\(decide (ay x.1≠0)=true->(([]:List Int),([]:List Int),([]:List (Int×Int)),([]:List (Int×Bool×Int)))=(bB x.1 x.2.1 x.2.2).1/\false=(bB x.1 x.2.1 x.2.2).2.1/\ay x.1=(bB x.1 x.2.1 x.2.2).2.2/\True)/\(decide (ay x.1≠0)=false->((decide (x.2.1<0)||decide ((x.1.2.1.length:Int)<=x.2.1))=true->(([]:List Int),([]:List Int),([]:List (Int×Int)),([]:List (Int×Bool×Int)))=(bB x.1 x.2.1 x.2.2).1/\false=(bB x.1 x.2.1 x.2.2).2.1/\5=(bB x.1 x.2.1 x.2.2).2.2/\True)/\((decide (x.2.1<0)||decide ((x.1.2.1.length:Int)<=x.2.1))=false->True/\(decide (af x.2.2≠0)=true->(([]:List Int),([]:List Int),([]:List (Int×Int)),([]:List (Int×Bool×Int)))=(bB x.1 x.2.1 x.2.2).1/\false=(bB x.1 x.2.1 x.2.2).2.1/\af x.2.2=(bB x.1 x.2.1 x.2.2).2.2/\True)/\(decide (af x.2.2≠0)=false->(x.2.2.2.2.2=true->(([]:List Int),([]:List Int),([]:List (Int×Int)),([]:List (Int×Bool×Int)))=(bB x.1 x.2.1 x.2.2).1/\false=(bB x.1 x.2.1 x.2.2).2.1/\3=(bB x.1 x.2.1 x.2.2).2.2/\True)/\(x.2.2.2.2.2=false->∀ (_:Array Value),True/\True/\True/\x.1.2.1=x.1.2.1/\x.1.2.2.1=x.1.2.2.1/\x.1.2.2.1=x.1.2.2.1/\x.1.2.2.2=x.1.2.2.2/\x.1.2.2.2=x.1.2.2.2/\x.1.2.2.2=x.1.2.2.2/\True/\∀ (_:Array Value),True/\True/\True/\(decide ((bx (aq x.1.1).1 (if af x.2.2=0 then ae x.2.2 else (0:Int))).2≠0)=true->((!false)=true->∀ (_:Array Value),(x.1.2.1.length<=32/\x.1.2.2.1.length<=16/\x.1.2.2.2.length<=16)/\True/\((aj x.1).length+(List.map (fun (x:bu)=>x.1) x.1.2.2.1).length) * 8<=140737488355328/\True/\((((0<=(x.1.1.length:Int)/\(x.1.1.length:Int).toNat * 8<=aF/\((0:Int)<=256/\Int.toNat 256 * 8<=aF/\((List.replicate (x.1.1.length:Int).toNat (0:Int)=List.replicate x.1.1.length (0:Int)/\List.replicate (Int.toNat 256) (0:Int)=List.replicate 256 (0:Int))/\True)/\True)/\(((0:Int)<=256/\Int.toNat 256 * 8<=aF/\(List.replicate (x.1.1.length:Int).toNat (0:Int)=List.replicate x.1.1.length (0:Int)/\List.replicate (Int.toNat 256) (0:Int)=List.replicate 256 (0:Int))/\True)/\True)/\True)/\((0:Int)<=256/\Int.toNat 256 * 8<=aF/\(0<=(x.1.1.length:Int)/\(x.1.1.length:Int).toNat * 8<=aF/\((List.replicate (x.1.1.length:Int).toNat (0:Int)=List.replicate x.1.1.length (0:Int)/\List.replicate (Int.toNat 256) (0:Int)=List.replicate 256 (0:Int))/\True)/\True)/\True)/\True)/\((0:Int)<=256/\Int.toNat 256 * 8<=aF/\((0<=(x.1.1.length:Int)/\(x.1.1.length:Int).toNat * 8<=aF/\((List.replicate (x.1.1.length:Int).toNat (0:Int)=List.replicate x.1.1.length (0:Int)/\List.replicate (Int.toNat 256) (0:Int)=List.replicate 256 (0:Int))/\True)/\True)/\True)/\True)/\True)/\((0:Int)<=256/\Int.toNat 256 * 8<=aF/\(((0<=(x.1.1.length:Int)/\(x.1.1.length:Int).toNat * 8<=aF/\((List.replicate (x.1.1.length:Int).toNat (0:Int)=List.replicate x.1.1.length (0:Int)/\List.replicate (Int.toNat 256) (0:Int)=List.replicate 256 (0:Int))/\True)/\True)/\True)/\True)/\True)/\True)/\∀ (x_1:List Int×List Int),x_1.1=List.replicate x.1.1.length (0:Int)/\x_1.2=List.replicate 256 (0:Int)->((0:Int)<=0/\0<=(↑(aj x.1).length:Int)/\x_1.1=bY (List.replicate x.1.1.length (0:Int)) (List.take (Int.toNat 0) (aj x.1)) (mf x.1)/\x_1.2=bY (List.replicate 256 (0:Int)) (List.take (Int.toNat 0) (aj x.1)) (mf x.1))/\∀ (x_2:List Int×List Int×Int),0<=x_2.2.2/\x_2.2.2<=(↑(aj x.1).length:Int)/\x_2.1=bY (List.replicate x.1.1.length (0:Int)) (List.take x_2.2.2.toNat (aj x.1)) (mf x.1)/\x_2.2.1=bY (List.replicate 256 (0:Int)) (List.take x_2.2.2.toNat (aj x.1)) (mf x.1)->(decide (x_2.2.2<(↑(aj x.1).length:Int))=true->0<=x_2.2.2/\x_2.2.2<(↑(aj x.1).length:Int)/\x_2.2.2.toNat<(aj x.1).length/\0<=x_2.2.2/\x_2.2.2<(↑(aw x.1.1 (aj x.1) (List.map (fun (x:bu)=>x.1) x.1.2.2.1)).2.1.length:Int)/\0<=x_2.2.2/\x_2.2.2<(↑(aw x.1.1 (aj x.1) (List.map (fun (x:bu)=>x.1) x.1.2.2.1)).2.1.length:Int)/\0<=(aj x.1).getD x_2.2.2.toNat 0/\(aj x.1).getD x_2.2.2.toNat 0<(x_2.1.length:Int)/\((aj x.1).getD x_2.2.2.toNat 0).toNat<x_2.1.length/\(aj x.1).getD x_2.2.2.toNat 0=(aj x.1).getD x_2.2.2.toNat 0/\0<=(aj x.1).getD x_2.2.2.toNat 0/\(aj x.1).getD x_2.2.2.toNat 0<(x_2.2.1.length:Int)/\((aj x.1).getD x_2.2.2.toNat 0).toNat<x_2.2.1.length/\am .i64 (x_2.2.2+1)/\(0<=x_2.2.2+1/\x_2.2.2+1<=(↑(aj x.1).length:Int)/\x_2.1.set ((aj x.1).getD x_2.2.2.toNat 0).toNat ((aw x.1.1 (aj x.1) (List.map (fun (x:bu)=>x.1) x.1.2.2.1)).2.1.getD x_2.2.2.toNat 0)=bY (List.replicate x.1.1.length (0:Int)) (List.take (x_2.2.2+1).toNat (aj x.1)) (mf x.1)/\x_2.2.1.set ((aj x.1).getD x_2.2.2.toNat 0).toNat ((aw x.1.1 (aj x.1) (List.map (fun (x:bu)=>x.1) x.1.2.2.1)).2.1.getD x_2.2.2.toNat 0)=bY (List.replicate 256 (0:Int)) (List.take (x_2.2.2+1).toNat (aj x.1)) (mf x.1))/\((↑(aj x.1).length:Int) - (x_2.2.2+1)).toNat<((↑(aj x.1).length:Int) - x_2.2.2).toNat)/\(decide (x_2.2.2<(↑(aj x.1).length:Int))=false->True/\True/\True/\((0:Int)<=0/\0<=(↑(aq (aw x.1.1 (aj x.1) (List.map (fun (x:bu)=>x.1) x.1.2.2.1)).1).1.length:Int)/\(aq (aw x.1.1 (aj x.1) (List.map (fun (x:bu)=>x.1) x.1.2.2.1)).1).1.length<=256/\(∀ (r:dp),r∈(aq (aw x.1.1 (aj x.1) (List.map (fun (x:bu)=>x.1) x.1.2.2.1)).1).1->0<=r.2/\r.2<=256)/\0=fQ (List.take (Int.toNat 0) (aq (aw x.1.1 (aj x.1) (List.map (fun (x:bu)=>x.1) x.1.2.2.1)).1).1)/\(0:Int)<=0/\(0:Int)<=256 * 0)/\∀ (x_3:Int×Int),0<=x_3.2/\x_3.2<=(↑(aq (aw x.1.1 (aj x.1) (List.map (fun (x:bu)=>x.1) x.1.2.2.1)).1).1.length:Int)/\(aq (aw x.1.1 (aj x.1) (List.map (fun (x:bu)=>x.1) x.1.2.2.1)).1).1.length<=256/\(∀ (r:dp),r∈(aq (aw x.1.1 (aj x.1) (List.map (fun (x:bu)=>x.1) x.1.2.2.1)).1).1->0<=r.2/\r.2<=256)/\x_3.1=fQ (List.take x_3.2.toNat (aq (aw x.1.1 (aj x.1) (List.map (fun (x:bu)=>x.1) x.1.2.2.1)).1).1)/\0<=x_3.1/\x_3.1<=256 * x_3.2->(decide (x_3.2<(↑(aq (aw x.1.1 (aj x.1) (List.map (fun (x:bu)=>x.1) x.1.2.2.1)).1).1.length:Int))=true->0<=x_3.2/\x_3.2<(↑(aq (aw x.1.1 (aj x.1) (List.map (fun (x:bu)=>x.1) x.1.2.2.1)).1).1.length:Int)/\x_3.2.toNat<(aq (aw x.1.1 (aj x.1) (List.map (fun (x:bu)=>x.1) x.1.2.2.1)).1).1.length/\am .i64 (x_3.1+((aq (aw x.1.1 (aj x.1) (List.map (fun (x:bu)=>x.1) x.1.2.2.1)).1).1.getD x_3.2.toNat (0,0)).2)/\am .i64 (x_3.2+1)/\(0<=x_3.2+1/\x_3.2+1<=(↑(aq (aw x.1.1 (aj x.1) (List.map (fun (x:bu)=>x.1) x.1.2.2.1)).1).1.length:Int)/\(aq (aw x.1.1 (aj x.1) (List.map (fun (x:bu)=>x.1) x.1.2.2.1)).1).1.length<=256/\(∀ (r:dp),r∈(aq (aw x.1.1 (aj x.1) (List.map (fun (x:bu)=>x.1) x.1.2.2.1)).1).1->0<=r.2/\r.2<=256)/\x_3.1+((aq (aw x.1.1 (aj x.1) (List.map (fun (x:bu)=>x.1) x.1.2.2.1)).1).1.getD x_3.2.toNat (0,0)).2=fQ (List.take (x_3.2+1).toNat (aq (aw x.1.1 (aj x.1) (List.map (fun (x:bu)=>x.1) x.1.2.2.1)).1).1)/\0<=x_3.1+((aq (aw x.1.1 (aj x.1) (List.map (fun (x:bu)=>x.1) x.1.2.2.1)).1).1.getD x_3.2.toNat (0,0)).2/\x_3.1+((aq (aw x.1.1 (aj x.1) (List.map (fun (x:bu)=>x.1) x.1.2.2.1)).1).1.getD x_3.2.toNat (0,0)).2<=256 * (x_3.2+1))/\((↑(aq (aw x.1.1 (aj x.1) (List.map (fun (x:bu)=>x.1) x.1.2.2.1)).1).1.length:Int) - (x_3.2+1)).toNat<((↑(aq (aw x.1.1 (aj x.1) (List.map (fun (x:bu)=>x.1) x.1.2.2.1)).1).1.length:Int) - x_3.2).toNat)/\(decide (x_3.2<(↑(aq (aw x.1.1 (aj x.1) (List.map (fun (x:bu)=>x.1) x.1.2.2.1)).1).1.length:Int))=false->∀ (_:Array Value),True/\True/\True/\(decide ((bx (aq (aw x.1.1 (aj x.1) (List.map (fun (x:bu)=>x.1) x.1.2.2.1)).1).1 (if af x.2.2=0 then ae x.2.2 else (0:Int))).2≠0)=true->((!false)=true->(([]:List Int),([]:List Int),([]:List (Int×Int)),([]:List (Int×Bool×Int)))=(bB x.1 x.2.1 x.2.2).1/\false=(bB x.1 x.2.1 x.2.2).2.1/\7=(bB x.1 x.2.1 x.2.2).2.2/\True)/\((!false)=false->0<=x.2.1/\x.2.1<(↑(bn x.1.2.1 (x.1.1.length:Int) x_2.1).1.length:Int)/\x.2.1.toNat<(bn x.1.2.1 (x.1.1.length:Int) x_2.1).1.length/\(([]:List Int),(bn x.1.2.1 (x.1.1.length:Int) x_2.1).1.set x.2.1.toNat 0,x.1.2.2.1,(gj x.1.2.2.2 x_2.2.1).1)=(bB x.1 x.2.1 x.2.2).1/\(!false)=(bB x.1 x.2.1 x.2.2).2.1/\0=(bB x.1 x.2.1 x.2.2).2.2/\True))/\(decide ((bx (aq (aw x.1.1 (aj x.1) (List.map (fun (x:bu)=>x.1) x.1.2.2.1)).1).1 (if af x.2.2=0 then ae x.2.2 else (0:Int))).2≠0)=false->True/\0<=(bx (aq (aw x.1.1 (aj x.1) (List.map (fun (x:bu)=>x.1) x.1.2.2.1)).1).1 (if af x.2.2=0 then ae x.2.2 else (0:Int))).1/\(bx (aq (aw x.1.1 (aj x.1) (List.map (fun (x:bu)=>x.1) x.1.2.2.1)).1).1 (if af x.2.2=0 then ae x.2.2 else (0:Int))).1<(↑(aq (aw x.1.1 (aj x.1) (List.map (fun (x:bu)=>x.1) x.1.2.2.1)).1).1.length:Int)/\(bx (aq (aw x.1.1 (aj x.1) (List.map (fun (x:bu)=>x.1) x.1.2.2.1)).1).1 (if af x.2.2=0 then ae x.2.2 else (0:Int))).1.toNat<(aq (aw x.1.1 (aj x.1) (List.map (fun (x:bu)=>x.1) x.1.2.2.1)).1).1.length/\True/\(iQ (dS (aw x.1.1 (aj x.1) (List.map (fun (x:bu)=>x.1) x.1.2.2.1)).1).1 ((aq (aw x.1.1 (aj x.1) (List.map (fun (x:bu)=>x.1) x.1.2.2.1)).1).1.getD (bx (aq (aw x.1.1 (aj x.1) (List.map (fun (x:bu)=>x.1) x.1.2.2.1)).1).1 (if af x.2.2=0 then ae x.2.2 else (0:Int))).1.toNat (0,0)).1 x.2.2).2=(iQ (dS (aw x.1.1 (aj x.1) (List.map (fun (x:bu)=>x.1) x.1.2.2.1)).1).1 ((aq (aw x.1.1 (aj x.1) (List.map (fun (x:bu)=>x.1) x.1.2.2.1)).1).1.getD (bx (aq (aw x.1.1 (aj x.1) (List.map (fun (x:bu)=>x.1) x.1.2.2.1)).1).1 (if af x.2.2=0 then ae x.2.2 else (0:Int))).1.toNat (0,0)).1 x.2.2).2/\0<=(bx (aq (aw x.1.1 (aj x.1) (List.map (fun (x:bu)=>x.1) x.1.2.2.1)).1).1 (if af x.2.2=0 then ae x.2.2 else (0:Int))).1/\(bx (aq (aw x.1.1 (aj x.1) (List.map (fun (x:bu)=>x.1) x.1.2.2.1)).1).1 (if af x.2.2=0 then ae x.2.2 else (0:Int))).1<(↑(aq (aw x.1.1 (aj x.1) (List.map (fun (x:bu)=>x.1) x.1.2.2.1)).1).1.length:Int)/\(bx (aq (aw x.1.1 (aj x.1) (List.map (fun (x:bu)=>x.1) x.1.2.2.1)).1).1 (if af x.2.2=0 then ae x.2.2 else (0:Int))).1.toNat<(aq (aw x.1.1 (aj x.1) (List.map (fun (x:bu)=>x.1) x.1.2.2.1)).1).1.length/\((!true)=true->(([]:List Int),([]:List Int),([]:List (Int×Int)),([]:List (Int×Bool×Int)))=(bB x.1 x.2.1 x.2.2).1/\false=(bB x.1 x.2.1 x.2.2).2.1/\7=(bB x.1 x.2.1 x.2.2).2.2/\True)/\((!true)=false->0<=x.2.1/\x.2.1<(↑(bn x.1.2.1 (x.1.1.length:Int) x_2.1).1.length:Int)/\x.2.1.toNat<(bn x.1.2.1 (x.1.1.length:Int) x_2.1).1.length/\((iQ (dS (aw x.1.1 (aj x.1) (List.map (fun (x:bu)=>x.1) x.1.2.2.1)).1).1 ((aq (aw x.1.1 (aj x.1) (List.map (fun (x:bu)=>x.1) x.1.2.2.1)).1).1.getD (bx (aq (aw x.1.1 (aj x.1) (List.map (fun (x:bu)=>x.1) x.1.2.2.1)).1).1 (if af x.2.2=0 then ae x.2.2 else (0:Int))).1.toNat (0,0)).1 x.2.2).1,(bn x.1.2.1 (x.1.1.length:Int) x_2.1).1.set x.2.1.toNat ((aq (aw x.1.1 (aj x.1) (List.map (fun (x:bu)=>x.1) x.1.2.2.1)).1).1.getD (bx (aq (aw x.1.1 (aj x.1) (List.map (fun (x:bu)=>x.1) x.1.2.2.1)).1).1 (if af x.2.2=0 then ae x.2.2 else (0:Int))).1.toNat (0,0)).1,x.1.2.2.1,(gj x.1.2.2.2 x_2.2.1).1)=(bB x.1 x.2.1 x.2.2).1/\(!false)=(bB x.1 x.2.1 x.2.2).2.1/\0=(bB x.1 x.2.1 x.2.2).2.2/\True)))))/\((!false)=false->0<=x.2.1/\x.2.1<(x.1.2.1.length:Int)/\x.2.1.toNat<x.1.2.1.length/\(([]:List Int),x.1.2.1.set x.2.1.toNat 0,x.1.2.2)=(bB x.1 x.2.1 x.2.2).1/\(!false)=(bB x.1 x.2.1 x.2.2).2.1/\0=(bB x.1 x.2.1 x.2.2).2.2/\True))/\(decide ((bx (aq x.1.1).1 (if af x.2.2=0 then ae x.2.2 else (0:Int))).2≠0)=false->True/\0<=(bx (aq x.1.1).1 (if af x.2.2=0 then ae x.2.2 else (0:Int))).1/\(bx (aq x.1.1).1 (if af x.2.2=0 then ae x.2.2 else (0:Int))).1<(↑(aq x.1.1).1.length:Int)/\(bx (aq x.1.1).1 (if af x.2.2=0 then ae x.2.2 else (0:Int))).1.toNat<(aq x.1.1).1.length/\True/\(iQ (dS x.1.1).1 ((aq x.1.1).1.getD (bx (aq x.1.1).1 (if af x.2.2=0 then ae x.2.2 else (0:Int))).1.toNat (0,0)).1 x.2.2).2=(iQ (dS x.1.1).1 ((aq x.1.1).1.getD (bx (aq x.1.1).1 (if af x.2.2=0 then ae x.2.2 else (0:Int))).1.toNat (0,0)).1 x.2.2).2/\0<=(bx (aq x.1.1).1 (if af x.2.2=0 then ae x.2.2 else (0:Int))).1/\(bx (aq x.1.1).1 (if af x.2.2=0 then ae x.2.2 else (0:Int))).1<(↑(aq x.1.1).1.length:Int)/\(bx (aq x.1.1).1 (if af x.2.2=0 then ae x.2.2 else (0:Int))).1.toNat<(aq x.1.1).1.length/\((!true)=true->∀ (_:Array Value),(x.1.2.1.length<=32/\x.1.2.2.1.length<=16/\x.1.2.2.2.length<=16)/\True/\((aj x.1).length+(List.map (fun (x:bu)=>x.1) x.1.2.2.1).length) * 8<=140737488355328/\True/\((((0<=(x.1.1.length:Int)/\(x.1.1.length:Int).toNat * 8<=aF/\((0:Int)<=256/\Int.toNat 256 * 8<=aF/\((List.replicate (x.1.1.length:Int).toNat (0:Int)=List.replicate x.1.1.length (0:Int)/\List.replicate (Int.toNat 256) (0:Int)=List.replicate 256 (0:Int))/\True)/\True)/\(((0:Int)<=256/\Int.toNat 256 * 8<=aF/\(List.replicate (x.1.1.length:Int).toNat (0:Int)=List.replicate x.1.1.length (0:Int)/\List.replicate (Int.toNat 256) (0:Int)=List.replicate 256 (0:Int))/\True)/\True)/\True)/\((0:Int)<=256/\Int.toNat 256 * 8<=aF/\(0<=(x.1.1.length:Int)/\(x.1.1.length:Int).toNat * 8<=aF/\((List.replicate (x.1.1.length:Int).toNat (0:Int)=List.replicate x.1.1.length (0:Int)/\List.replicate (Int.toNat 256) (0:Int)=List.replicate 256 (0:Int))/\True)/\True)/\True)/\True)/\((0:Int)<=256/\Int.toNat 256 * 8<=aF/\((0<=(x.1.1.length:Int)/\(x.1.1.length:Int).toNat * 8<=aF/\((List.replicate (x.1.1.length:Int).toNat (0:Int)=List.replicate x.1.1.length (0:Int)/\List.replicate (Int.toNat 256) (0:Int)=List.replicate 256 (0:Int))/\True)/\True)/\True)/\True)/\True)/\((0:Int)<=256/\Int.toNat 256 * 8<=aF/\(((0<=(x.1.1.length:Int)/\(x.1.1.length:Int).toNat * 8<=aF/\((List.replicate (x.1.1.length:Int).toNat (0:Int)=List.replicate x.1.1.length (0:Int)/\List.replicate (Int.toNat 256) (0:Int)=List.replicate 256 (0:Int))/\True)/\True)/\True)/\True)/\True)/\True)/\∀ (x_1:List Int×List Int),x_1.1=List.replicate x.1.1.length (0:Int)/\x_1.2=List.replicate 256 (0:Int)->((0:Int)<=0/\0<=(↑(aj x.1).length:Int)/\x_1.1=bY (List.replicate x.1.1.length (0:Int)) (List.take (Int.toNat 0) (aj x.1)) (mf x.1)/\x_1.2=bY (List.replicate 256 (0:Int)) (List.take (Int.toNat 0) (aj x.1)) (mf x.1))/\∀ (x_2:List Int×List Int×Int),0<=x_2.2.2/\x_2.2.2<=(↑(aj x.1).length:Int)/\x_2.1=bY (List.replicate x.1.1.length (0:Int)) (List.take x_2.2.2.toNat (aj x.1)) (mf x.1)/\x_2.2.1=bY (List.replicate 256 (0:Int)) (List.take x_2.2.2.toNat (aj x.1)) (mf x.1)->(decide (x_2.2.2<(↑(aj x.1).length:Int))=true->0<=x_2.2.2/\x_2.2.2<(↑(aj x.1).length:Int)/\x_2.2.2.toNat<(aj x.1).length/\0<=x_2.2.2/\x_2.2.2<(↑(aw x.1.1 (aj x.1) (List.map (fun (x:bu)=>x.1) x.1.2.2.1)).2.1.length:Int)/\0<=x_2.2.2/\x_2.2.2<(↑(aw x.1.1 (aj x.1) (List.map (fun (x:bu)=>x.1) x.1.2.2.1)).2.1.length:Int)/\0<=(aj x.1).getD x_2.2.2.toNat 0/\(aj x.1).getD x_2.2.2.toNat 0<(x_2.1.length:Int)/\((aj x.1).getD x_2.2.2.toNat 0).toNat<x_2.1.length/\(aj x.1).getD x_2.2.2.toNat 0=(aj x.1).getD x_2.2.2.toNat 0/\0<=(aj x.1).getD x_2.2.2.toNat 0/\(aj x.1).getD x_2.2.2.toNat 0<(x_2.2.1.length:Int)/\((aj x.1).getD x_2.2.2.toNat 0).toNat<x_2.2.1.length/\am .i64 (x_2.2.2+1)/\(0<=x_2.2.2+1/\x_2.2.2+1<=(↑(aj x.1).length:Int)/\x_2.1.set ((aj x.1).getD x_2.2.2.toNat 0).toNat ((aw x.1.1 (aj x.1) (List.map (fun (x:bu)=>x.1) x.1.2.2.1)).2.1.getD x_2.2.2.toNat 0)=bY (List.replicate x.1.1.length (0:Int)) (List.take (x_2.2.2+1).toNat (aj x.1)) (mf x.1)/\x_2.2.1.set ((aj x.1).getD x_2.2.2.toNat 0).toNat ((aw x.1.1 (aj x.1) (List.map (fun (x:bu)=>x.1) x.1.2.2.1)).2.1.getD x_2.2.2.toNat 0)=bY (List.replicate 256 (0:Int)) (List.take (x_2.2.2+1).toNat (aj x.1)) (mf x.1))/\((↑(aj x.1).length:Int) - (x_2.2.2+1)).toNat<((↑(aj x.1).length:Int) - x_2.2.2).toNat)/\(decide (x_2.2.2<(↑(aj x.1).length:Int))=false->True/\True/\True/\((0:Int)<=0/\0<=(↑(aq (aw x.1.1 (aj x.1) (List.map (fun (x:bu)=>x.1) x.1.2.2.1)).1).1.length:Int)/\(aq (aw x.1.1 (aj x.1) (List.map (fun (x:bu)=>x.1) x.1.2.2.1)).1).1.length<=256/\(∀ (r:dp),r∈(aq (aw x.1.1 (aj x.1) (List.map (fun (x:bu)=>x.1) x.1.2.2.1)).1).1->0<=r.2/\r.2<=256)/\0=fQ (List.take (Int.toNat 0) (aq (aw x.1.1 (aj x.1) (List.map (fun (x:bu)=>x.1) x.1.2.2.1)).1).1)/\(0:Int)<=0/\(0:Int)<=256 * 0)/\∀ (x_3:Int×Int),0<=x_3.2/\x_3.2<=(↑(aq (aw x.1.1 (aj x.1) (List.map (fun (x:bu)=>x.1) x.1.2.2.1)).1).1.length:Int)/\(aq (aw x.1.1 (aj x.1) (List.map (fun (x:bu)=>x.1) x.1.2.2.1)).1).1.length<=256/\(∀ (r:dp),r∈(aq (aw x.1.1 (aj x.1) (List.map (fun (x:bu)=>x.1) x.1.2.2.1)).1).1->0<=r.2/\r.2<=256)/\x_3.1=fQ (List.take x_3.2.toNat (aq (aw x.1.1 (aj x.1) (List.map (fun (x:bu)=>x.1) x.1.2.2.1)).1).1)/\0<=x_3.1/\x_3.1<=256 * x_3.2->(decide (x_3.2<(↑(aq (aw x.1.1 (aj x.1) (List.map (fun (x:bu)=>x.1) x.1.2.2.1)).1).1.length:Int))=true->0<=x_3.2/\x_3.2<(↑(aq (aw x.1.1 (aj x.1) (List.map (fun (x:bu)=>x.1) x.1.2.2.1)).1).1.length:Int)/\x_3.2.toNat<(aq (aw x.1.1 (aj x.1) (List.map (fun (x:bu)=>x.1) x.1.2.2.1)).1).1.length/\am .i64 (x_3.1+((aq (aw x.1.1 (aj x.1) (List.map (fun (x:bu)=>x.1) x.1.2.2.1)).1).1.getD x_3.2.toNat (0,0)).2)/\am .i64 (x_3.2+1)/\(0<=x_3.2+1/\x_3.2+1<=(↑(aq (aw x.1.1 (aj x.1) (List.map (fun (x:bu)=>x.1) x.1.2.2.1)).1).1.length:Int)/\(aq (aw x.1.1 (aj x.1) (List.map (fun (x:bu)=>x.1) x.1.2.2.1)).1).1.length<=256/\(∀ (r:dp),r∈(aq (aw x.1.1 (aj x.1) (List.map (fun (x:bu)=>x.1) x.1.2.2.1)).1).1->0<=r.2/\r.2<=256)/\x_3.1+((aq (aw x.1.1 (aj x.1) (List.map (fun (x:bu)=>x.1) x.1.2.2.1)).1).1.getD x_3.2.toNat (0,0)).2=fQ (List.take (x_3.2+1).toNat (aq (aw x.1.1 (aj x.1) (List.map (fun (x:bu)=>x.1) x.1.2.2.1)).1).1)/\0<=x_3.1+((aq (aw x.1.1 (aj x.1) (List.map (fun (x:bu)=>x.1) x.1.2.2.1)).1).1.getD x_3.2.toNat (0,0)).2/\x_3.1+((aq (aw x.1.1 (aj x.1) (List.map (fun (x:bu)=>x.1) x.1.2.2.1)).1).1.getD x_3.2.toNat (0,0)).2<=256 * (x_3.2+1))/\((↑(aq (aw x.1.1 (aj x.1) (List.map (fun (x:bu)=>x.1) x.1.2.2.1)).1).1.length:Int) - (x_3.2+1)).toNat<((↑(aq (aw x.1.1 (aj x.1) (List.map (fun (x:bu)=>x.1) x.1.2.2.1)).1).1.length:Int) - x_3.2).toNat)/\(decide (x_3.2<(↑(aq (aw x.1.1 (aj x.1) (List.map (fun (x:bu)=>x.1) x.1.2.2.1)).1).1.length:Int))=false->∀ (_:Array Value),True/\True/\True/\(decide ((bx (aq (aw x.1.1 (aj x.1) (List.map (fun (x:bu)=>x.1) x.1.2.2.1)).1).1 (if af x.2.2=0 then ae x.2.2 else (0:Int))).2≠0)=true->((!false)=true->(([]:List Int),([]:List Int),([]:List (Int×Int)),([]:List (Int×Bool×Int)))=(bB x.1 x.2.1 x.2.2).1/\false=(bB x.1 x.2.1 x.2.2).2.1/\7=(bB x.1 x.2.1 x.2.2).2.2/\True)/\((!false)=false->0<=x.2.1/\x.2.1<(↑(bn x.1.2.1 (x.1.1.length:Int) x_2.1).1.length:Int)/\x.2.1.toNat<(bn x.1.2.1 (x.1.1.length:Int) x_2.1).1.length/\(([]:List Int),(bn x.1.2.1 (x.1.1.length:Int) x_2.1).1.set x.2.1.toNat 0,x.1.2.2.1,(gj x.1.2.2.2 x_2.2.1).1)=(bB x.1 x.2.1 x.2.2).1/\(!true)=(bB x.1 x.2.1 x.2.2).2.1/\0=(bB x.1 x.2.1 x.2.2).2.2/\True))/\(decide ((bx (aq (aw x.1.1 (aj x.1) (List.map (fun (x:bu)=>x.1) x.1.2.2.1)).1).1 (if af x.2.2=0 then ae x.2.2 else (0:Int))).2≠0)=false->True/\0<=(bx (aq (aw x.1.1 (aj x.1) (List.map (fun (x:bu)=>x.1) x.1.2.2.1)).1).1 (if af x.2.2=0 then ae x.2.2 else (0:Int))).1/\(bx (aq (aw x.1.1 (aj x.1) (List.map (fun (x:bu)=>x.1) x.1.2.2.1)).1).1 (if af x.2.2=0 then ae x.2.2 else (0:Int))).1<(↑(aq (aw x.1.1 (aj x.1) (List.map (fun (x:bu)=>x.1) x.1.2.2.1)).1).1.length:Int)/\(bx (aq (aw x.1.1 (aj x.1) (List.map (fun (x:bu)=>x.1) x.1.2.2.1)).1).1 (if af x.2.2=0 then ae x.2.2 else (0:Int))).1.toNat<(aq (aw x.1.1 (aj x.1) (List.map (fun (x:bu)=>x.1) x.1.2.2.1)).1).1.length/\True/\(iQ (dS (aw x.1.1 (aj x.1) (List.map (fun (x:bu)=>x.1) x.1.2.2.1)).1).1 ((aq (aw x.1.1 (aj x.1) (List.map (fun (x:bu)=>x.1) x.1.2.2.1)).1).1.getD (bx (aq (aw x.1.1 (aj x.1) (List.map (fun (x:bu)=>x.1) x.1.2.2.1)).1).1 (if af x.2.2=0 then ae x.2.2 else (0:Int))).1.toNat (0,0)).1 x.2.2).2=(iQ (dS (aw x.1.1 (aj x.1) (List.map (fun (x:bu)=>x.1) x.1.2.2.1)).1).1 ((aq (aw x.1.1 (aj x.1) (List.map (fun (x:bu)=>x.1) x.1.2.2.1)).1).1.getD (bx (aq (aw x.1.1 (aj x.1) (List.map (fun (x:bu)=>x.1) x.1.2.2.1)).1).1 (if af x.2.2=0 then ae x.2.2 else (0:Int))).1.toNat (0,0)).1 x.2.2).2/\0<=(bx (aq (aw x.1.1 (aj x.1) (List.map (fun (x:bu)=>x.1) x.1.2.2.1)).1).1 (if af x.2.2=0 then ae x.2.2 else (0:Int))).1/\(bx (aq (aw x.1.1 (aj x.1) (List.map (fun (x:bu)=>x.1) x.1.2.2.1)).1).1 (if af x.2.2=0 then ae x.2.2 else (0:Int))).1<(↑(aq (aw x.1.1 (aj x.1) (List.map (fun (x:bu)=>x.1) x.1.2.2.1)).1).1.length:Int)/\(bx (aq (aw x.1.1 (aj x.1) (List.map (fun (x:bu)=>x.1) x.1.2.2.1)).1).1 (if af x.2.2=0 then ae x.2.2 else (0:Int))).1.toNat<(aq (aw x.1.1 (aj x.1) (List.map (fun (x:bu)=>x.1) x.1.2.2.1)).1).1.length/\((!true)=true->(([]:List Int),([]:List Int),([]:List (Int×Int)),([]:List (Int×Bool×Int)))=(bB x.1 x.2.1 x.2.2).1/\false=(bB x.1 x.2.1 x.2.2).2.1/\7=(bB x.1 x.2.1 x.2.2).2.2/\True)/\((!true)=false->0<=x.2.1/\x.2.1<(↑(bn x.1.2.1 (x.1.1.length:Int) x_2.1).1.length:Int)/\x.2.1.toNat<(bn x.1.2.1 (x.1.1.length:Int) x_2.1).1.length/\((iQ (dS (aw x.1.1 (aj x.1) (List.map (fun (x:bu)=>x.1) x.1.2.2.1)).1).1 ((aq (aw x.1.1 (aj x.1) (List.map (fun (x:bu)=>x.1) x.1.2.2.1)).1).1.getD (bx (aq (aw x.1.1 (aj x.1) (List.map (fun (x:bu)=>x.1) x.1.2.2.1)).1).1 (if af x.2.2=0 then ae x.2.2 else (0:Int))).1.toNat (0,0)).1 x.2.2).1,(bn x.1.2.1 (x.1.1.length:Int) x_2.1).1.set x.2.1.toNat ((aq (aw x.1.1 (aj x.1) (List.map (fun (x:bu)=>x.1) x.1.2.2.1)).1).1.getD (bx (aq (aw x.1.1 (aj x.1) (List.map (fun (x:bu)=>x.1) x.1.2.2.1)).1).1 (if af x.2.2=0 then ae x.2.2 else (0:Int))).1.toNat (0,0)).1,x.1.2.2.1,(gj x.1.2.2.2 x_2.2.1).1)=(bB x.1 x.2.1 x.2.2).1/\(!true)=(bB x.1 x.2.1 x.2.2).2.1/\0=(bB x.1 x.2.1 x.2.2).2.2/\True)))))/\((!true)=false->0<=x.2.1/\x.2.1<(x.1.2.1.length:Int)/\x.2.1.toNat<x.1.2.1.length/\((iQ (dS x.1.1).1 ((aq x.1.1).1.getD (bx (aq x.1.1).1 (if af x.2.2=0 then ae x.2.2 else (0:Int))).1.toNat (0,0)).1 x.2.2).1,x.1.2.1.set x.2.1.toNat ((aq x.1.1).1.getD (bx (aq x.1.1).1 (if af x.2.2=0 then ae x.2.2 else (0:Int))).1.toNat (0,0)).1,x.1.2.2)=(bB x.1 x.2.1 x.2.2).1/\(!true)=(bB x.1 x.2.1 x.2.2).2.1/\0=(bB x.1 x.2.1 x.2.2).2.2/\True))))))
theorem Ed:xx:=by
 unfold xx;intro ⟨s,slot,h⟩ ⟨⟨⟨hb,hw⟩,_⟩,_⟩ _;simp only at hb hw |-
 have hM:bB s slot h=if bN s slot≠0 then (aE,false,bN s slot) else if lL h≠0 then (aE,false,lL h) else
  if (jI s.1 h).2.2=true then (((jI s.1 h).1,s.2.1.set slot.toNat (jI s.1 h).2.1,s.2.2),false,0) else
  if (jI (fw s) h).2.2=true then (((jI (fw s) h).1,(s.2.1.map (zE s)).set slot.toNat (jI (fw s) h).2.1,s.2.2.1,s.2.2.2.map (Ab s)),true,0) else (aE,false,7):=rfl
 have hE:bN s slot=if ay s≠0 then ay s else if slot<0\/(s.2.1.length:Int)<=slot then 5 else 0:=rfl
 have hH:lL h=if af h≠0 then af h else if h.2.2.2=true then 3 else 0:=rfl
 refine ⟨trivial,fun h0=>?_,fun h0=>⟨fun h1=>?_,fun h1=>⟨trivial,fun h2=>?_,fun h2=>⟨fun h3=>?_,fun h3 tm=>⟨trivial,trivial,trivial,by trivial,by trivial,by trivial,by trivial,by trivial,by trivial,trivial,fun tm2=>⟨trivial,trivial,trivial,?_,?_⟩⟩⟩⟩⟩⟩
 ·have h0:=Pt h0;rw [if_pos h0] at hE;rw [hM,hE,if_pos h0];exact ⟨by trivial,by trivial,by trivial,trivial⟩
 all_goals have h0:=Pu h0
 all_goals rw [if_neg h0] at hE
 ·rw [if_pos (by simpa using h1)] at hE;rw [hM,hE,if_pos (by omega)];exact ⟨by trivial,by trivial,by trivial,trivial⟩
 all_goals have h1:¬ (slot<0\/(s.2.1.length:Int)<=slot):=by simpa using h1
 all_goals rw [if_neg h1] at hE
 all_goals rw [hE,if_neg (by omega)] at hM
 ·have h2:=Pt h2;rw [if_pos h2] at hH;rw [hM,hH,if_pos h2];exact ⟨by trivial,by trivial,by trivial,trivial⟩
 all_goals have h2:af h=0:=by simpa using Pu h2
 ·rw [if_neg (by omega),if_pos h3] at hH;rw [hM,hH,if_pos (by omega)];exact ⟨by trivial,by trivial,by trivial,trivial⟩
 all_goals
  rw [if_neg (by omega),if_neg (by rw [h3]; simp)] at hH;rw [hH,if_neg (by omega)] at hM;rw [hM,if_pos h2];have R:=ic hw (by omega:ay s=0);have hcl:aw s.1 (aj s) (List.map (fun (x:bu)=>x.1) s.2.2.1)=(fw s,(aj s).map (mf s),0):=R.clean;obtain ⟨hgf,hgi,hgl⟩:=R.gaps;have hfl:=R.fromLen;have hsm:=R.small;have hal:=R.al;have hfm:=fun x=>gW (s:=s) R.root (x:=x)
  have hsr:=R.swapRoots;have hsh:=R.swapHands;have hg1:aq s.1=(aV false [] (aa s.1).1,0):=by unfold aq; rw [if_neg (by have:=R.chk; omega)]
  have T1:=tD R.chk h2 h3;have T2:=tD R.slidOK.1 h2 h3;rw [hg1];simp only;cases hfd:(aV false [] (aa s.1).1).find? (fun r=>decide (ae h<=r.2)) with
  | none=>?_
  | some r=>?_
  all_goals rw [hfd] at T1
  all_goals simp only at T1
 ·obtain ⟨t1,t2⟩:=T1;rw [t1,t2];simp only;refine fun _=>⟨fun _ tm=>?_,fun hx=>by cases hx⟩
  rw [if_neg (by simp),hcl];simp only;rw [hgf];simp only;generalize aV false [] (aa (fw s)).1=g at *;unfold aF at hb |-;refine ⟨hsm,trivial,by rw [Qc]; omega,trivial,?_,fun ⟨ra,ha⟩ ⟨q1,q2⟩=>?_⟩
  ·have e1:((s.1.length:Int)).toNat=s.1.length:=by omega
   have e2:Int.toNat 256=256:=rfl;have e3:(0:Int)<=(s.1.length:Int):=by omega
   simp only [e1,e2,e3,hb,Ro,RB];omega
  simp only at q1 q2;subst q1 q2;refine ⟨⟨by omega,by omega,by simp [bY],by simp [bY]⟩,fun ⟨ra,ha,i⟩ ⟨i0,i1,i2,i3⟩=>⟨fun hlt=>?_,fun hge=>?_⟩⟩
  ·simp only at i0 i1 i2 i3 hlt |-;have hlt:=Pt hlt;have ht:=a7 (0:Int) i0 hlt;have hx:=R.nameIn ((hfm _).1 (aH (0:Int) i0 hlt));have hm:(List.map (mf s) (aj s)).getD i.toNat 0=mf s ((aj s).getD i.toNat 0):=C6 i0 hlt;have l1:ra.length=s.1.length:=by rw [i2,ep,Qd]
   have l2:ha.length=256:=by rw [i3,ep,Qd]
   rw [hm,ht,kh,kh,<- i2,<- i3,l1,l2,Qc];generalize (aj s).getD i.toNat 0=x at *;simp only [am];exact ⟨i0,hlt,by omega,i0,hlt,i0,hlt,hx.1,hx.2,by omega,by first | trivial | rfl,hx.1,by omega,by omega,by omega,⟨by omega,by omega,by trivial,by trivial⟩,by omega⟩
  ·simp only at i0 i1 i2 i3 hge |-;have hge:=Pu hge;rw [bE hge] at i2 i3;refine ⟨trivial,trivial,trivial,⟨by omega,by omega,hgl,fun r hr=>by have:=hgi r hr; omega,by trivial,by omega,by omega⟩,fun ⟨n,j⟩ ⟨j0,j1,_,_,j2,j3,j4⟩=>⟨fun hlt=>?_,fun hge tm=>⟨trivial,trivial,trivial,?_⟩⟩⟩
   ·simp only at j0 j1 j2 j3 j4 hlt |-;have hlt:=Pt hlt;have hm:=hgi _ (aH ((0,0):dp) j0 hlt);rw [w8 j0 hlt,<- j2];generalize (g.getD j.toNat (0,0)).2=y at *;simp only [am];exact ⟨j0,hlt,by omega,by omega,by omega,⟨by omega,by omega,hgl,fun r hr=>by have:=hgi r hr; omega,by trivial,by omega,by omega⟩,by omega⟩
   ·rw [i2,i3,hsr,hsh];simp only;cases hfd2:g.find? (fun r=>decide (ae h<=r.2)) with
    | none =>
     rw [hfd2] at T2;simp only at T2;obtain ⟨u1,u2⟩:=T2;rw [u1,u2];exact ⟨fun _=>⟨fun _=>⟨by trivial,by trivial,by trivial,trivial⟩,fun hx=>by cases hx⟩,fun hx=>by simp at hx⟩
    | some r =>
     rw [hfd2] at T2;simp only at T2;obtain ⟨k,k0,k1,u1,u2,u3,u4⟩:=T2;rw [u1,u4];simp only;rw [u2,u3];refine ⟨fun hx=>by simp at hx,fun _=>⟨trivial,k0,k1,by omega,trivial,by trivial,k0,k1,by omega,fun hx=>(by cases hx),fun _=>⟨by omega,by rw [Qc]; omega,by rw [Qc]; omega,by trivial,by trivial,by trivial,trivial⟩⟩⟩
 ·obtain ⟨i,i0,i1,t1,t2,t3,t4⟩:=T1;rw [t1];exact fun hx=>by simp at hx
 ·obtain ⟨t1,t2⟩:=T1;rw [t1];exact fun hx=>by simp at hx
 ·obtain ⟨i,i0,i1,t1,t2,t3,t4⟩:=T1;rw [t1,t4];simp only;rw [t2,t3];exact fun _=>⟨trivial,i0,i1,by omega,trivial,by trivial,i0,i1,by omega,fun hx=>(by cases hx),fun _=>⟨by omega,by omega,by omega,by trivial,by trivial,by trivial,trivial⟩⟩
theorem IN:Ib.ok Tryz.prog 23:=aA (ann:=JJ) (ac gD (ac js (ac jr (ac kv (ac K8 (ac FB (ac FA (ac qI (ac ko (ac CZ (ac bA (ac bV (ac ce (ac bP (ac se (ac si ap)))))))))))))))) Tryz.func23 (by kernel_rfl) Ed
end
section
end
section
abbrev Gq:Ty:=.pair ty_I (.pair ty_I (.pair ty_I (.pair ty_I bo)))
abbrev NT:=Int×Int×Int×Int×Int
def cj (k a b c v:Int):Bool:=decide (k<1)||decide (13<k)||!(decide (k≠2)&&decide (k≠12))&&decide (a≠0)||!(decide (k=1)||decide (3<=k)&&decide (k<=6)||decide (k=9))&&decide (b≠0)||!(decide (k=1)||decide (k=3)||decide (k=4))&&decide (c≠0)||!(decide (k=1)||decide (k=6)||decide (k=11)||decide (k=12))&&decide (v≠0)
def Pj (b:Bool):Int:=if b=true then 1 else 0
def deed (s:an) (k a b c v:Int):an×Int×Int :=
 if k=1 then ((bB s a (b,c,v % 65536,false)).1,Pj (bB s a (b,c,v % 65536,false)).2.1,(bB s a (b,c,v % 65536,false)).2.2)
 else if k=2 then ((db s).1,(db s).2,0)
 else if k=3 then ((mE s a b c).1,0,(mE s a b c).2)
 else if k=4 then ((mz s a b c).1,0,(mz s a b c).2)
 else if k=5 then (if aO s a b≠0 then (aE,0,aO s a b) else (s,s.1.getD (bR s (aD s a) b).toNat 0,0))
 else if k=6 then ((lD s a b v).1,0,(lD s a b v).2)
 else if k=7 then j7 s a
 else if k=8 then ((dI s a).1,0,(dI s a).2)
 else if k=9 then (if cp s a b≠0 then (aE,0,cp s a b) else (s,s.1.getD (bR s a b).toNat 0,0))
 else if k=10 then gS s a
 else if k=11 then ((ly s v a).1,0,(ly s v a).2)
 else if k=12 then ((ib s v).1,0,(ib s v).2)
 else ((gr s a).1,0,(gr s a).2)
def b7 (s:an) (k a b c v:Int):an×Int×Int:=if cj k a b c v=true then (aE,0,1) else if ay s≠0 then (aE,0,ay s) else deed s k a b c v
theorem Hj (s:an) (a b c v:Int):deed s 1 a b c v=((bB s a (b,c,v % 65536,false)).1,Pj (bB s a (b,c,v % 65536,false)).2.1,(bB s a (b,c,v % 65536,false)).2.2):=if_pos rfl
theorem L6 (s:an) (a b c v:Int):deed s 2 a b c v=((db s).1,(db s).2,0):=by unfold deed; rw [if_neg (by omega),if_pos rfl]
theorem L5 (s:an) (a b c v:Int):deed s 3 a b c v=((mE s a b c).1,0,(mE s a b c).2):=by
 unfold deed
 iterate 2 rw [if_neg (by omega)]
 rw [if_pos rfl]
theorem L4 (s:an) (a b c v:Int):deed s 4 a b c v=((mz s a b c).1,0,(mz s a b c).2):=by
 unfold deed
 iterate 3 rw [if_neg (by omega)]
 rw [if_pos rfl]
theorem Hi (s:an) (a b c v:Int):deed s 5 a b c v=(if aO s a b≠0 then (aE,0,aO s a b) else (s,s.1.getD (bR s (aD s a) b).toNat 0,0)):=by
 unfold deed
 iterate 4 rw [if_neg (by omega)]
 rw [if_pos rfl]
theorem Hh (s:an) (a b c v:Int):deed s 6 a b c v=((lD s a b v).1,0,(lD s a b v).2):=by
 unfold deed
 iterate 5 rw [if_neg (by omega)]
 rw [if_pos rfl]
theorem L3 (s:an) (a b c v:Int):deed s 7 a b c v=j7 s a:=by
 unfold deed
 iterate 6 rw [if_neg (by omega)]
 rw [if_pos rfl]
theorem LZ (s:an) (a b c v:Int):deed s 8 a b c v=((dI s a).1,0,(dI s a).2):=by
 unfold deed
 iterate 7 rw [if_neg (by omega)]
 rw [if_pos rfl]
theorem LY (s:an) (a b c v:Int):deed s 9 a b c v=(if cp s a b≠0 then (aE,0,cp s a b) else (s,s.1.getD (bR s a b).toNat 0,0)):=by
 unfold deed
 iterate 8 rw [if_neg (by omega)]
 rw [if_pos rfl]
theorem F3 (s:an) (a b c v:Int):deed s 10 a b c v=gS s a:=by
 unfold deed
 iterate 9 rw [if_neg (by omega)]
 rw [if_pos rfl]
theorem F2 (s:an) (a b c v:Int):deed s 11 a b c v=((ly s v a).1,0,(ly s v a).2):=by
 unfold deed
 iterate 10 rw [if_neg (by omega)]
 rw [if_pos rfl]
theorem F1 (s:an) (a b c v:Int):deed s 12 a b c v=((ib s v).1,0,(ib s v).2):=by
 unfold deed
 iterate 11 rw [if_neg (by omega)]
 rw [if_pos rfl]
theorem F0 (s:an) (a b c v:Int):deed s 13 a b c v=((gr s a).1,0,(gr s a).2):=by
 unfold deed
 iterate 12 rw [if_neg (by omega)]
theorem Gt:∀ (l:List dp),(∀ r∈l,0<=r.2/\r.2<=256)->0<=fQ l/\fQ l<=256 * (l.length:Int)
 | [],_=>by simp [fQ]
 | r::l,h=>by
  have ih:=Gt l fun x hx=>h x (P1 _ hx)
  have h1:=h r PV;have e:fQ (r::l)=r.2+fQ l:=by simp [fQ]
  rw [e,Pz];omega
end
section
set_option maxHeartbeats 8000000
end
section
set_option maxHeartbeats 4000000
theorem fZ {s:an} {k a b c v:Int} {y:an×Int×Int} (hb:cj k a b c v=false) (h1:ay s≠0->y=(aE,0,ay s)) (h2:ay s=0->y=deed s k a b c v):b7 s k a b c v=y:=by
 unfold b7;rw [if_neg (by rw [hb]; simp)];by_cases h:ay s≠0
 ·rw [if_pos h,h1 h]
 ·rw [if_neg h,h2 (by omega)]
theorem sH {s:an} (a:Int) (h:ay s≠0):bw s a=ay s:=by unfold bw; rw [if_pos h]
theorem B0 {s:an} (a:Int) (h:ay s≠0):bN s a=ay s:=by unfold bN; rw [if_pos h]
theorem O6 (s:an) (a b c v:Int):b7 s 1 a b c v=((bB s a (b,c,v % 65536,false)).1,Pj (bB s a (b,c,v % 65536,false)).2.1,(bB s a (b,c,v % 65536,false)).2.2):=fZ (by simp [cj]) (fun h=>by
 have e:=B0 a h;unfold bB;rw [if_pos (by omega),e];rfl) (fun h=>by rw [Hj])
theorem O5 (s:an):b7 s 2 0 0 0 0=bC s:=fZ (by rfl) (fun h=>by unfold bC; rw [if_pos h]) (fun h=>by rw [L6]; unfold bC; rw [if_neg (by omega)])
theorem O4 (s:an) (a b c:Int):b7 s 3 a b c 0=((mE s a b c).1,0,(mE s a b c).2):=fZ (by simp [cj]) (fun h=>by
 have e:bF s a b c=ay s:=by unfold bF; rw [if_pos (by rw [sH a h]; exact h),sH a h]
 unfold mE;rw [if_pos (by omega),e]) (fun h=>by rw [L5])
theorem O3 (s:an) (a b c:Int):b7 s 4 a b c 0=((mz s a b c).1,0,(mz s a b c).2):=fZ (by simp [cj]) (fun h=>by
 have e:bF s a b c=ay s:=by unfold bF; rw [if_pos (by rw [sH a h]; exact h),sH a h]
 unfold mz;rw [if_pos (by omega),e]) (fun h=>by rw [L4])
theorem O2 (s:an) (a b:Int):b7 s 5 a b 0 0=(if aO s a b≠0 then (aE,0,aO s a b) else (s,s.1.getD (bR s (aD s a) b).toNat 0,0)):=fZ (by simp [cj]) (fun h=>by
 have e:aO s a b=ay s:=by unfold aO; rw [if_pos (by rw [sH a h]; exact h),sH a h]
 rw [if_pos (by omega),e]) (fun h=>by rw [Hi])
theorem O1 (s:an) (a b v:Int):b7 s 6 a b 0 v=((lD s a b v).1,0,(lD s a b v).2):=fZ (by simp [cj]) (fun h=>by
 have e:aO s a b=ay s:=by unfold aO; rw [if_pos (by rw [sH a h]; exact h),sH a h]
 unfold lD;rw [if_pos (by omega),e]) (fun h=>by rw [Hh])
theorem O0 (s:an) (a:Int):b7 s 7 a 0 0 0=j7 s a:=fZ (by simp [cj]) (fun h=>by unfold j7; rw [if_pos (by rw [sH a h]; exact h),sH a h]) (fun h=>by rw [L3])
theorem OZ (s:an) (a:Int):b7 s 8 a 0 0 0=((dI s a).1,0,(dI s a).2):=fZ (by simp [cj]) (fun h=>by unfold dI; rw [if_pos h]) (fun h=>by rw [LZ])
theorem OY (s:an) (a b:Int):b7 s 9 a b 0 0=(if cp s a b≠0 then (aE,0,cp s a b) else (s,s.1.getD (bR s a b).toNat 0,0)):=fZ (by simp [cj]) (fun h=>by
 have e:cp s a b=ay s:=by unfold cp; rw [if_pos h]
 rw [if_pos (by omega),e]) (fun h=>by rw [LY])
theorem Oy (s:an) (a:Int):b7 s 10 a 0 0 0=gS s a:=fZ (by simp [cj]) (fun h=>by unfold gS; rw [if_pos (by rw [sH a h]; exact h),sH a h]) (fun h=>by rw [F3])
theorem Ox (s:an) (a v:Int):b7 s 11 a 0 0 v=((ly s v a).1,0,(ly s v a).2):=fZ (by simp [cj]) (fun h=>by unfold ly; rw [if_pos (by rw [B0 a h]; exact h),B0 a h]) (fun h=>by rw [F2])
theorem Ow (s:an) (v:Int):b7 s 12 0 0 0 v=((ib s v).1,0,(ib s v).2):=fZ (by simp [cj]) (fun h=>by unfold ib; rw [if_pos h]) (fun h=>by rw [F1])
theorem Ov (s:an) (a:Int):b7 s 13 a 0 0 0=((gr s a).1,0,(gr s a).2):=fZ (by simp [cj]) (fun h=>by unfold gr; rw [if_pos (by rw [B0 a h]; exact h),B0 a h]) (fun h=>by rw [F0])
theorem KP {s:an} (hw:∀ x∈s.1,am .u64 x) (a:Int):IntKind.u64.wrap (j7 s a).2.1=(j7 s a).2.1:=by
 unfold j7;split
 ·rfl
 ·rename_i h;split
  ·rfl
  ·obtain ⟨R,_,_,O⟩:=ux hw (by omega:bw s a=0);have:=O.x0;have:=O.r0;have:=O.b0;have:=O.fit;have:=R.al;exact fA (by simp only; omega) (by simp only; omega)
theorem AE {s:an} (hw:∀ x∈s.1,am .u64 x):IntKind.u64.wrap (bC s).2.1=(bC s).2.1:=by
 unfold bC;split
 ·rfl
 ·have R:=ic hw (by omega:ay s=0);have hg:=Gt (aV false [] (aa (fw s)).1) (fun r hr=>by have:=R.gaps.2.1 r hr; omega);have hl:=R.gaps.2.2;have e:(db s).2=fQ (aV false [] (aa (fw s)).1):=rfl;exact fA (by simp only; omega) (by simp only; omega)
end
section
open Go Go.RowKit
set_option maxHeartbeats 8000000
theorem F8 {w:World} {a:Addr} {v:Value} (h:w.cell? a=some v) (o:Go.Obj):(w.alloc o).cell? a=some v:=by
 refine (((Below.refl w.heap.size w).alloc (PP _) o).cell (Nat.lt_of_not_le fun hn=>?_)).trans h;unfold World.cell? at h;rw [Array.getElem?_eq_none hn] at h;cases h
abbrev Pp (k a b c v:Int):Value:=.agg #[.int .i64 k,.int .i64 a,.int .i64 b,.int .i64 c,.int .u64 v]
abbrev IE (k a b c v:Int):Go.Obj:=Go.Obj.cells #[.int .i64 k,.int .i64 a,.int .i64 b,.int .i64 c,.int .u64 v] 47
def dV (k a b c v:Int):Bool:=!cj k a b c v
abbrev gI (k a b c v:Int) (w:World):Prop:=Calls Tryz.prog 58 #[Pp k a b c v] w fun e w'=>e=.returned (.bool (dV k a b c v))/\Below w.heap.size w w'
theorem iG (w:World) (o o2:Go.Obj):Below w.heap.size w ((w.alloc o).alloc o2):=((Below.refl _ w).alloc (PP _) o).alloc (by simp) o2
theorem gH {x y:Bool} (h:x=y):Ending.returned (.bool x)=Ending.returned (.bool y):=by rw [h]
def formsB:List (List Bool):=[[false,false,false,false],[true,true,true,true],[false,false,false,false],[true,true,true,false],[true,true,true,false],[true,true,false,false],[true,true,false,true],[true,false,false,false],[true,false,false,false],[true,true,false,false],[true,false,false,false],[true,false,false,true],[false,false,false,true],[true,false,false,false]]
def formsZ:List (Nat×Bool):=List.zip (List.range 56) formsB.flatten
theorem lq {w:World} (h:Laid w) (i j k l:Nat) (x y z u:Bool) (o:Go.Obj)
  (hm:(formsZ.contains (i,x)&&formsZ.contains (j,y)&&formsZ.contains (k,z)&&formsZ.contains (l,u))=true) :
  (w.alloc o).cell? ⟨0,i,none⟩=some (.bool x)/\(w.alloc o).cell? ⟨0,j,none⟩=some (.bool y)/\(w.alloc o).cell? ⟨0,k,none⟩=some (.bool z)/\(w.alloc o).cell? ⟨0,l,none⟩=some (.bool u):=by
 simp only [Px,PY] at hm
 have key:∀ n b,(n,b)∈formsZ->(w.alloc o).cell? ⟨0,n,none⟩=some (.bool b):=fun n b hb=>by
  have h1:w.cell? ⟨0,n,none⟩=some (.bool b):=h (0,n,.bool b) (by first | exact P3.2 ⟨(n,b),hb,rfl⟩ | exact PE _ (P3.2 ⟨(n,b),hb,rfl⟩));exact F8 h1 o
 exact ⟨key _ _ hm.1.1.1,key _ _ hm.1.1.2,key _ _ hm.1.2,key _ _ hm.2⟩
theorem qr (x:Int):x=0\/(x≠0/\(x == 0)=false):=by
 by_cases h:x=0
 ·exact .inl h
 ·exact .inr ⟨h,by simp [h]⟩
theorem KG (k a b c v:Int) (w:World) (hk:k<1\/13<k):gI k a b c v w:=by
 by_cases h1:k<1
 ·have e1:decide (k<1)=true:=QA h1
  go_enter Q3,QT
  go_wp2
  go_ret
  exact ⟨gH (by simp [dV,cj,e1]),(Below.refl _ w).alloc (PP _) _⟩
 ·have e1:decide (k<1)=false:=QI h1;have e2:decide (k > 13)=true:=QA (by omega);have e3:decide (13<k)=true:=e2
  go_enter Q3,QT
  go_wp2
  go_ret
  exact ⟨gH (by simp [dV,cj,e1,e3]),(Below.refl _ w).alloc (PP _) _⟩
theorem Oa (a b c v:Int) (w:World) (h:Laid w):gI 1 a b c v w:=by
 obtain ⟨e0,e1,e2,e3⟩:=lq h 4 5 6 7 true true true true (IE 1 a b c v) (by decide)
 all_goals (go_enter Q3,QT; go_wp2; go_ret; exact ⟨gH (by simp [dV,cj, *]),iG _ _ _⟩)
theorem N9 (a b c v:Int) (w:World) (h:Laid w):gI 2 a b c v w:=by
 obtain ⟨e0,e1,e2,e3⟩:=lq h 8 9 10 11 false false false false (IE 2 a b c v) (by decide);rcases qr a with rfl | ⟨qa,sa⟩
 all_goals rcases qr b with rfl | ⟨qb,sb⟩
 all_goals rcases qr c with rfl | ⟨qc,sc⟩
 all_goals rcases qr v with rfl | ⟨qv,sv⟩
 all_goals (go_enter Q3,QT; go_wp2; go_ret; exact ⟨gH (by simp [dV,cj, *]),iG _ _ _⟩)
theorem N8 (a b c v:Int) (w:World) (h:Laid w):gI 3 a b c v w:=by
 obtain ⟨e0,e1,e2,e3⟩:=lq h 12 13 14 15 true true true false (IE 3 a b c v) (by decide);rcases qr v with rfl | ⟨qv,sv⟩
 all_goals (go_enter Q3,QT; go_wp2; go_ret; exact ⟨gH (by simp [dV,cj, *]),iG _ _ _⟩)
theorem N7 (a b c v:Int) (w:World) (h:Laid w):gI 4 a b c v w:=by
 obtain ⟨e0,e1,e2,e3⟩:=lq h 16 17 18 19 true true true false (IE 4 a b c v) (by decide);rcases qr v with rfl | ⟨qv,sv⟩
 all_goals (go_enter Q3,QT; go_wp2; go_ret; exact ⟨gH (by simp [dV,cj, *]),iG _ _ _⟩)
theorem N6 (a b c v:Int) (w:World) (h:Laid w):gI 5 a b c v w:=by
 obtain ⟨e0,e1,e2,e3⟩:=lq h 20 21 22 23 true true false false (IE 5 a b c v) (by decide);rcases qr c with rfl | ⟨qc,sc⟩
 all_goals rcases qr v with rfl | ⟨qv,sv⟩
 all_goals (go_enter Q3,QT; go_wp2; go_ret; exact ⟨gH (by simp [dV,cj, *]),iG _ _ _⟩)
theorem N5 (a b c v:Int) (w:World) (h:Laid w):gI 6 a b c v w:=by
 obtain ⟨e0,e1,e2,e3⟩:=lq h 24 25 26 27 true true false true (IE 6 a b c v) (by decide);rcases qr c with rfl | ⟨qc,sc⟩
 all_goals (go_enter Q3,QT; go_wp2; go_ret; exact ⟨gH (by simp [dV,cj, *]),iG _ _ _⟩)
theorem N4 (a b c v:Int) (w:World) (h:Laid w):gI 7 a b c v w:=by
 obtain ⟨e0,e1,e2,e3⟩:=lq h 28 29 30 31 true false false false (IE 7 a b c v) (by decide);rcases qr b with rfl | ⟨qb,sb⟩
 all_goals rcases qr c with rfl | ⟨qc,sc⟩
 all_goals rcases qr v with rfl | ⟨qv,sv⟩
 all_goals (go_enter Q3,QT; go_wp2; go_ret; exact ⟨gH (by simp [dV,cj, *]),iG _ _ _⟩)
theorem N3 (a b c v:Int) (w:World) (h:Laid w):gI 8 a b c v w:=by
 obtain ⟨e0,e1,e2,e3⟩:=lq h 32 33 34 35 true false false false (IE 8 a b c v) (by decide);rcases qr b with rfl | ⟨qb,sb⟩
 all_goals rcases qr c with rfl | ⟨qc,sc⟩
 all_goals rcases qr v with rfl | ⟨qv,sv⟩
 all_goals (go_enter Q3,QT; go_wp2; go_ret; exact ⟨gH (by simp [dV,cj, *]),iG _ _ _⟩)
theorem N2 (a b c v:Int) (w:World) (h:Laid w):gI 9 a b c v w:=by
 obtain ⟨e0,e1,e2,e3⟩:=lq h 36 37 38 39 true true false false (IE 9 a b c v) (by decide);rcases qr c with rfl | ⟨qc,sc⟩
 all_goals rcases qr v with rfl | ⟨qv,sv⟩
 all_goals (go_enter Q3,QT; go_wp2; go_ret; exact ⟨gH (by simp [dV,cj, *]),iG _ _ _⟩)
theorem MY (a b c v:Int) (w:World) (h:Laid w):gI 10 a b c v w:=by
 obtain ⟨e0,e1,e2,e3⟩:=lq h 40 41 42 43 true false false false (IE 10 a b c v) (by decide);rcases qr b with rfl | ⟨qb,sb⟩
 all_goals rcases qr c with rfl | ⟨qc,sc⟩
 all_goals rcases qr v with rfl | ⟨qv,sv⟩
 all_goals (go_enter Q3,QT; go_wp2; go_ret; exact ⟨gH (by simp [dV,cj, *]),iG _ _ _⟩)
theorem MX (a b c v:Int) (w:World) (h:Laid w):gI 11 a b c v w:=by
 obtain ⟨e0,e1,e2,e3⟩:=lq h 44 45 46 47 true false false true (IE 11 a b c v) (by decide);rcases qr b with rfl | ⟨qb,sb⟩
 all_goals rcases qr c with rfl | ⟨qc,sc⟩
 all_goals (go_enter Q3,QT; go_wp2; go_ret; exact ⟨gH (by simp [dV,cj, *]),iG _ _ _⟩)
theorem MW (a b c v:Int) (w:World) (h:Laid w):gI 12 a b c v w:=by
 obtain ⟨e0,e1,e2,e3⟩:=lq h 48 49 50 51 false false false true (IE 12 a b c v) (by decide);rcases qr a with rfl | ⟨qa,sa⟩
 all_goals rcases qr b with rfl | ⟨qb,sb⟩
 all_goals rcases qr c with rfl | ⟨qc,sc⟩
 all_goals (go_enter Q3,QT; go_wp2; go_ret; exact ⟨gH (by simp [dV,cj, *]),iG _ _ _⟩)
theorem MV (a b c v:Int) (w:World) (h:Laid w):gI 13 a b c v w:=by
 obtain ⟨e0,e1,e2,e3⟩:=lq h 52 53 54 55 true false false false (IE 13 a b c v) (by decide);rcases qr b with rfl | ⟨qb,sb⟩
 all_goals rcases qr c with rfl | ⟨qc,sc⟩
 all_goals rcases qr v with rfl | ⟨qv,sv⟩
 all_goals (go_enter Q3,QT; go_wp2; go_ret; exact ⟨gH (by simp [dV,cj, *]),iG _ _ _⟩)
theorem E9 {k a b c v:Int} {w:World} (h:Laid w):gI k a b c v w:=by
 by_cases h1:k<1\/13<k
 ·exact KG k a b c v w h1
 have:k=1\/k=2\/k=3\/k=4\/k=5\/k=6\/k=7\/k=8\/k=9\/k=10\/k=11\/k=12\/k=13:=by omega
 rcases this with rfl | rfl | rfl | rfl | rfl | rfl | rfl | rfl | rfl | rfl | rfl | rfl | rfl
 ·exact Oa a b c v w h
 ·exact N9 a b c v w h
 ·exact N8 a b c v w h
 ·exact N7 a b c v w h
 ·exact N6 a b c v w h
 ·exact N5 a b c v w h
 ·exact N4 a b c v w h
 ·exact N3 a b c v w h
 ·exact N2 a b c v w h
 ·exact MY a b c v w h
 ·exact MX a b c v w h
 ·exact MW a b c v w h
 ·exact MV a b c v w h
def Kr:Spec:={ Ts:=[Gq],Rs:=[.dat .bool],pre:=fun _=>True,F:=fun ((k,a,b,c,v):Int×Int×Int×Int×Int)=>dV k a b c v }
theorem K1:Kr.ok Tryz.prog 58:=by
 intro p w vs ⟨k,a,b,c,v⟩ hL hA hargs _;obtain ⟨val,rfl,hv⟩:=hargs;obtain ⟨cs,rfl,c1,c1',e1,⟨rfl,_⟩,c2,c2',rfl,⟨rfl,_⟩,c3,c3',rfl,⟨rfl,_⟩,c4,c4',rfl,⟨rfl,_⟩,rfl,_⟩:=hv
 have e:cs=#[.int .i64 k,.int .i64 a,.int .i64 b,.int .i64 c,.int .u64 v]:=by
  apply P6.1;simpa using e1
 subst e;refine (E9 (k:=k) (a:=a) (b:=b) (c:=c) (v:=v) hL).mono ?_;rintro e w' ⟨rfl,hb⟩;refine ⟨[.bool (dV k a b c v)],fun _=>none,rfl,⟨hb.os,hb.tape,hb.output,hb.size,fun i hi _=>hb.block i hi⟩,fun _ _ h=>(by cases h),fun _ _ h=>(by cases h),?_⟩;exact ⟨_,rfl,rfl,fun b hb=>by cases hb⟩
end
section
set_option maxHeartbeats 4000000
def ND:Nat->Option LoopGen
 | 3000081=>some cU
 | 8204000001=>some cU
 | _=>none
def fh (s:an) (e:Int):an×Int×Int:=(s,0,e)
def Kt:Spec:={ Ts:=[aP,ty_I],Rs:=[.dat aP,.dat bo,.dat ty_I],al:=true,pre:=fun _=>True,F:=fun ((s,e):an×Int)=>fh s e }
def Cs:Prop :=
  ∀ (x:(List Int×List Int×List (Int×Int)×List (Int×Bool×Int))×Int),(qo x.1)/\am .i64 x.2->True->x.1=(fh x.1 x.2).1/\0=(fh x.1 x.2).2.1/\x.2=(fh x.1 x.2).2.2/\True
theorem HJ:Cs:=by
 unfold Cs;intro ⟨s,e⟩ _ _;exact ⟨by first | exact trivial | rfl,by first | exact trivial | rfl,by first | exact trivial | rfl,trivial⟩
theorem K2:Kt.ok Tryz.prog 61:=aA (ann:=cn) ap Tryz.func61 (by kernel_rfl) HJ
def gz (s:an) (n e:Int):an×Int×Int:=(s,IntKind.u64.wrap n,e)
def ET:Spec:={ Ts:=[aP,ty_I,ty_I],Rs:=[.dat aP,.dat bo,.dat ty_I],al:=true,pre:=fun _=>True,F:=fun ((s,n,e):an×Int×Int)=>gz s n e }
def ud:Prop :=
  ∀ (x:(List Int×List Int×List (Int×Int)×List (Int×Bool×Int))×Int×Int),(qo x.1)/\am .i64 x.2.1/\am .i64 x.2.2->True->x.1=(gz x.1 x.2.1 x.2.2).1/\IntKind.u64.wrap x.2.1=(gz x.1 x.2.1 x.2.2).2.1/\x.2.2=(gz x.1 x.2.1 x.2.2).2.2/\True
theorem Bb:ud:=by
 unfold ud;intro ⟨s,n,e⟩ _ _;exact ⟨by first | exact trivial | rfl,by first | exact trivial | rfl,by first | exact trivial | rfl,trivial⟩
theorem Fv:ET.ok Tryz.prog 59:=aA (ann:=cn) ap Tryz.func59 (by kernel_rfl) Bb
def jj (s:an) (v e:Int):an×Int×Int:=if e≠0 then (aE,0,e) else (s,v,0)
def Ku:Spec:={ Ts:=[aP,bo,ty_I],Rs:=[.dat aP,.dat bo,.dat ty_I],al:=true,pre:=fun _=>True,F:=fun ((s,v,e):an×Int×Int)=>jj s v e }
def Ct:Prop :=
  ∀ (x:(List Int×List Int×List (Int×Int)×List (Int×Bool×Int))×Int×Int),(qo x.1)/\am .u64 x.2.1/\am .i64 x.2.2->True->(decide (x.2.2≠0)=true->(([]:List Int),([]:List Int),([]:List (Int×Int)),([]:List (Int×Bool×Int)))=(jj x.1 x.2.1 x.2.2).1/\0=(jj x.1 x.2.1 x.2.2).2.1/\x.2.2=(jj x.1 x.2.1 x.2.2).2.2/\True)/\(decide (x.2.2≠0)=false->∀ (_:Array Value),True/\True/\True/\x.1.2.1=x.1.2.1/\x.1.2.2.1=x.1.2.2.1/\x.1.2.2.1=x.1.2.2.1/\x.1.2.2.2=x.1.2.2.2/\x.1.2.2.2=x.1.2.2.2/\x.1.2.2.2=x.1.2.2.2/\True/\x.1=(jj x.1 x.2.1 x.2.2).1/\x.2.1=(jj x.1 x.2.1 x.2.2).2.1/\0=(jj x.1 x.2.1 x.2.2).2.2/\True)
theorem HK:Ct:=by
 unfold Ct;intro ⟨s,v,e⟩ _ _;simp only;unfold jj;refine ⟨fun h=>?_,fun h=>?_⟩
 ·rw [if_pos (Pt h)];exact ⟨rfl,rfl,rfl,trivial⟩
 ·rw [if_neg (Pu h)];exact fun _=>⟨by first | exact trivial | rfl,by first | exact trivial | rfl,by first | exact trivial | rfl,by first | exact trivial | rfl,by first | exact trivial | rfl,by first | exact trivial | rfl,by first | exact trivial | rfl,by first | exact trivial | rfl,by first | exact trivial | rfl,by first | exact trivial | rfl,by first | exact trivial | rfl,by first | exact trivial | rfl,by first | exact trivial | rfl,trivial⟩
theorem K3:Ku.ok Tryz.prog 65:=aA (ann:=ND) (ac bA (ac bV (ac ce (ac bP ap)))) Tryz.func65 (by kernel_rfl) HK
theorem G2 (s:an) (v e:Int):jj s (if e≠0 then 0 else v) e=if e≠0 then (aE,0,e) else (s,v,0):=by
 unfold jj;by_cases h:e≠0
 ·rw [if_pos h,if_pos h]
 ·rw [if_neg h,if_neg h,if_neg h]
theorem lX {α β γ:Type} {x y:α×β×γ} (h:x=y):x.1=y.1/\x.2.1=y.2.1/\x.2.2=y.2.2/\True:=by subst h; exact ⟨rfl,rfl,rfl,trivial⟩
def NY:Spec:={ Ts:=[aP,Gq],Rs:=[.dat aP,.dat bo,.dat ty_I],al:=true,pre:=fun _=>True,F:=fun ((s,k,a,b,c,v):an×Int×Int×Int×Int×Int)=>b7 s k a b c v }
def KK:Prop :=
  ∀ (x:(List Int×List Int×List (Int×Int)×List (Int×Bool×Int))×Int×Int×Int×Int×Int),(fun (v7:type_of% (ib x.1 x.2.2.2.2.2))=>(fun (v6:type_of% (j7 x.1 x.2.2.1))=>(fun (v5:type_of% (ly x.1 x.2.2.2.2.2 x.2.2.1))=>(fun (v4:type_of% (lD x.1 x.2.2.1 x.2.2.2.1 x.2.2.2.2.2))=>(fun (v3:type_of% (mz x.1 x.2.2.1 x.2.2.2.1 x.2.2.2.2.1))=>(fun (v2:type_of% (mE x.1 x.2.2.1 x.2.2.2.1 x.2.2.2.2.1))=>(fun (v1:type_of% (bB x.1 x.2.2.1 (x.2.2.2.1,x.2.2.2.2.1,IntKind.i64.wrap (x.2.2.2.2.2 % 65536),false)))=>(fun (v0:type_of% (b7 x.1 x.2.1 x.2.2.1 x.2.2.2.1 x.2.2.2.2.1 x.2.2.2.2.2))=>(qo x.1)/\am .i64 x.2.1/\am .i64 x.2.2.1/\am .i64 x.2.2.2.1/\am .i64 x.2.2.2.2.1/\am .u64 x.2.2.2.2.2->True->True/\((!dV x.2.1 x.2.2.1 x.2.2.2.1 x.2.2.2.2.1 x.2.2.2.2.2)=true->(([]:List Int),([]:List Int),([]:List (Int×Int)),([]:List (Int×Bool×Int)))=v0.1/\0=v0.2.1/\1=v0.2.2/\True)/\((!dV x.2.1 x.2.2.1 x.2.2.2.1 x.2.2.2.2.1 x.2.2.2.2.2)=false->(decide (x.2.1=1)=true->0<=x.2.2.2.2.2/\(0:Int)<65536/\True/\(v1.2.1=true->v1.1=v0.1/\1=v0.2.1/\v1.2.2=v0.2.2/\True)/\(v1.2.1=false->v1.1=v0.1/\0=v0.2.1/\v1.2.2=v0.2.2/\True))/\(decide (x.2.1=1)=false->(decide (x.2.1=2)=true->True/\True/\(gz (bC x.1).1 (bC x.1).2.1 (bC x.1).2.2).1=v0.1/\(gz (bC x.1).1 (bC x.1).2.1 (bC x.1).2.2).2.1=v0.2.1/\(gz (bC x.1).1 (bC x.1).2.1 (bC x.1).2.2).2.2=v0.2.2/\True)/\(decide (x.2.1=2)=false->(decide (x.2.1=3)=true->True/\True/\(fh v2.1 v2.2).1=v0.1/\(fh v2.1 v2.2).2.1=v0.2.1/\(fh v2.1 v2.2).2.2=v0.2.2/\True)/\(decide (x.2.1=3)=false->(decide (x.2.1=4)=true->True/\True/\(fh v3.1 v3.2).1=v0.1/\(fh v3.1 v3.2).2.1=v0.2.1/\(fh v3.1 v3.2).2.2=v0.2.2/\True)/\(decide (x.2.1=4)=false->(decide (x.2.1=5)=true->True/\True/\(jj x.1 (if aO x.1 x.2.2.1 x.2.2.2.1≠0 then (0:Int) else x.1.1.getD (bR x.1 (aD x.1 x.2.2.1) x.2.2.2.1).toNat 0) (aO x.1 x.2.2.1 x.2.2.2.1)).1=v0.1/\(jj x.1 (if aO x.1 x.2.2.1 x.2.2.2.1≠0 then (0:Int) else x.1.1.getD (bR x.1 (aD x.1 x.2.2.1) x.2.2.2.1).toNat 0) (aO x.1 x.2.2.1 x.2.2.2.1)).2.1=v0.2.1/\(jj x.1 (if aO x.1 x.2.2.1 x.2.2.2.1≠0 then (0:Int) else x.1.1.getD (bR x.1 (aD x.1 x.2.2.1) x.2.2.2.1).toNat 0) (aO x.1 x.2.2.1 x.2.2.2.1)).2.2=v0.2.2/\True)/\(decide (x.2.1=5)=false->(decide (x.2.1=6)=true->True/\True/\(fh v4.1 v4.2).1=v0.1/\(fh v4.1 v4.2).2.1=v0.2.1/\(fh v4.1 v4.2).2.2=v0.2.2/\True)/\(decide (x.2.1=6)=false->(decide (x.2.1=7)=true->True/\True/\(gz v6.1 v6.2.1 v6.2.2).1=v0.1/\(gz v6.1 v6.2.1 v6.2.2).2.1=v0.2.1/\(gz v6.1 v6.2.1 v6.2.2).2.2=v0.2.2/\True)/\(decide (x.2.1=7)=false->(decide (x.2.1=8)=true->True/\True/\(fh (dI x.1 x.2.2.1).1 (dI x.1 x.2.2.1).2).1=v0.1/\(fh (dI x.1 x.2.2.1).1 (dI x.1 x.2.2.1).2).2.1=v0.2.1/\(fh (dI x.1 x.2.2.1).1 (dI x.1 x.2.2.1).2).2.2=v0.2.2/\True)/\(decide (x.2.1=8)=false->(decide (x.2.1=9)=true->True/\True/\(jj x.1 (if cp x.1 x.2.2.1 x.2.2.2.1≠0 then (0:Int) else x.1.1.getD (bR x.1 x.2.2.1 x.2.2.2.1).toNat 0) (cp x.1 x.2.2.1 x.2.2.2.1)).1=v0.1/\(jj x.1 (if cp x.1 x.2.2.1 x.2.2.2.1≠0 then (0:Int) else x.1.1.getD (bR x.1 x.2.2.1 x.2.2.2.1).toNat 0) (cp x.1 x.2.2.1 x.2.2.2.1)).2.1=v0.2.1/\(jj x.1 (if cp x.1 x.2.2.1 x.2.2.2.1≠0 then (0:Int) else x.1.1.getD (bR x.1 x.2.2.1 x.2.2.2.1).toNat 0) (cp x.1 x.2.2.1 x.2.2.2.1)).2.2=v0.2.2/\True)/\(decide (x.2.1=9)=false->(decide (x.2.1=10)=true->True/\(gS x.1 x.2.2.1).1=v0.1/\(gS x.1 x.2.2.1).2.1=v0.2.1/\(gS x.1 x.2.2.1).2.2=v0.2.2/\True)/\(decide (x.2.1=10)=false->(decide (x.2.1=11)=true->True/\True/\(fh v5.1 v5.2).1=v0.1/\(fh v5.1 v5.2).2.1=v0.2.1/\(fh v5.1 v5.2).2.2=v0.2.2/\True)/\(decide (x.2.1=11)=false->(decide (x.2.1=12)=true->True/\True/\(fh v7.1 v7.2).1=v0.1/\(fh v7.1 v7.2).2.1=v0.2.1/\(fh v7.1 v7.2).2.2=v0.2.2/\True)/\(decide (x.2.1=12)=false->True/\True/\(fh (gr x.1 x.2.2.1).1 (gr x.1 x.2.2.1).2).1=v0.1/\(fh (gr x.1 x.2.2.1).1 (gr x.1 x.2.2.1).2).2.1=v0.2.1/\(fh (gr x.1 x.2.2.1).1 (gr x.1 x.2.2.1).2).2.2=v0.2.2/\True)))))))))))))) (b7 x.1 x.2.1 x.2.2.1 x.2.2.2.1 x.2.2.2.2.1 x.2.2.2.2.2)) (bB x.1 x.2.2.1 (x.2.2.2.1,x.2.2.2.2.1,IntKind.i64.wrap (x.2.2.2.2.2 % 65536),false))) (mE x.1 x.2.2.1 x.2.2.2.1 x.2.2.2.2.1)) (mz x.1 x.2.2.1 x.2.2.2.1 x.2.2.2.2.1)) (lD x.1 x.2.2.1 x.2.2.2.1 x.2.2.2.2.2)) (ly x.1 x.2.2.2.2.2 x.2.2.1)) (j7 x.1 x.2.2.1)) (ib x.1 x.2.2.2.2.2)
theorem My:KK:=by
 unfold KK;intro ⟨s,k,a,b,c,v⟩ ⟨⟨⟨_,hw⟩,_⟩,_,_,_,_,hv⟩ _;simp only at hw hv |-;simp only [am] at hv;refine ⟨trivial,fun h=>?_,fun h=>?_⟩
 ·have hb:cj k a b c v=true:=by simpa [dV] using h
  have hD:b7 s k a b c v=(aE,0,1):=by unfold b7; rw [if_pos hb]
  rw [hD];exact ⟨rfl,rfl,rfl,trivial⟩
 have hb:cj k a b c v=false:=by simpa [dV] using h
 have hk:1<=k/\k<=13:=by
  unfold cj at hb;simp only [QG,Qw] at hb;omega
 refine ⟨fun q1=>?_,fun q1=>⟨fun q2=>?_,fun q2=>⟨fun q3=>?_,fun q3=>⟨fun q4=>?_,fun q4=>⟨fun q5=>?_,fun q5=>⟨fun q6=>?_,fun q6=>⟨fun q7=>?_,fun q7=>⟨fun q8=>?_,fun q8=>⟨fun q9=>?_,fun q9=>⟨fun q10=>?_,fun q10=>⟨fun q11=>?_,fun q11=>⟨fun q12=>?_,fun q12=>?_⟩⟩⟩⟩⟩⟩⟩⟩⟩⟩⟩⟩
 ·obtain rfl:=Pt q1;rw [O6,jF (by omega) (by omega)];refine ⟨by omega,by omega,trivial,fun q=>?_,fun q=>?_⟩
  ·exact ⟨rfl,by rw [q]; rfl,rfl,trivial⟩
  ·exact ⟨rfl,by rw [q]; rfl,rfl,trivial⟩
 ·obtain rfl:=Pt q2;obtain ⟨rfl,rfl,rfl,rfl⟩:a=0/\b=0/\c=0/\v=0:=by simpa [cj,R0] using hb
  rw [O5];refine ⟨trivial,trivial,lX ?_⟩;unfold gz;rw [AE hw]
 ·obtain rfl:=Pt q3;obtain rfl:v=0:=by simpa [cj] using hb
  rw [O4];exact ⟨trivial,trivial,lX rfl⟩
 ·obtain rfl:=Pt q4;obtain rfl:v=0:=by simpa [cj] using hb
  rw [O3];exact ⟨trivial,trivial,lX rfl⟩
 ·obtain rfl:=Pt q5;obtain ⟨rfl,rfl⟩:c=0/\v=0:=by simpa [cj] using hb
  rw [O2];exact ⟨trivial,trivial,lX (G2 ..)⟩
 ·obtain rfl:=Pt q6;obtain rfl:c=0:=by simpa [cj] using hb
  rw [O1];exact ⟨trivial,trivial,lX rfl⟩
 ·obtain rfl:=Pt q7;obtain ⟨rfl,rfl,rfl⟩:b=0/\c=0/\v=0:=by simpa [cj,R0] using hb
  rw [O0];refine ⟨trivial,trivial,lX ?_⟩;unfold gz;rw [KP hw]
 ·obtain rfl:=Pt q8;obtain ⟨rfl,rfl,rfl⟩:b=0/\c=0/\v=0:=by simpa [cj,R0] using hb
  rw [OZ];exact ⟨trivial,trivial,lX rfl⟩
 ·obtain rfl:=Pt q9;obtain ⟨rfl,rfl⟩:c=0/\v=0:=by simpa [cj] using hb
  rw [OY];exact ⟨trivial,trivial,lX (G2 ..)⟩
 ·obtain rfl:=Pt q10;obtain ⟨rfl,rfl,rfl⟩:b=0/\c=0/\v=0:=by simpa [cj,R0] using hb
  rw [Oy];exact ⟨trivial,lX rfl⟩
 ·obtain rfl:=Pt q11;obtain ⟨rfl,rfl⟩:b=0/\c=0:=by simpa [cj] using hb
  rw [Ox];exact ⟨trivial,trivial,lX rfl⟩
 ·obtain rfl:=Pt q12;obtain ⟨rfl,rfl,rfl⟩:a=0/\b=0/\c=0:=by simpa [cj,R0] using hb
  rw [Ow];exact ⟨trivial,trivial,lX rfl⟩
 ·have n1:=Pu q1;have n2:=Pu q2;have n3:=Pu q3;have n4:=Pu q4;have n5:=Pu q5;have n6:=Pu q6;have n7:=Pu q7;have n8:=Pu q8;have n9:=Pu q9;have n10:=Pu q10;have n11:=Pu q11;have n12:=Pu q12;obtain rfl:k=13:=by omega
  obtain ⟨rfl,rfl,rfl⟩:b=0/\c=0/\v=0:=by simpa [cj,R0] using hb
  rw [Ov];exact ⟨trivial,trivial,lX rfl⟩
theorem Oe:NY.ok Tryz.prog 15:=aA (ann:=cn) (ac K1 (ac IN (ac nI (ac Fv (ac IJ (ac K2 (ac II (ac KY (ac K3 (ac IK (ac IL (ac CK (ac IM (ac Fp (ac IH (ac Fo (ac Fq ap))))))))))))))))) Tryz.func15 (by kernel_rfl) My
end
section
def BI:Spec:={ Ts:=[bo,bo],Rs:=[.dat bo,.dat bo],pre:=fun ((x,y):Int×Int)=>x=1/\y<=1000,F:=fun ((_,y):Int×Int)=>((0,y):Int×Int) }
def Cv:Prop :=
  ∀ (x:Int×Int),am .u64 x.1/\am .u64 x.2->x.1=1/\x.2<=1000->(0:Int)<=32/\32<(↑IntKind.u64.bits:Int)/\(0:Int)<=32/\32<(↑IntKind.u64.bits:Int)/\am .u64 ((↑(x.1.toNat &&& Int.toNat 4294967295):Int) * (↑(x.2.toNat &&& Int.toNat 4294967295):Int))/\am .u64 (x.1 / 2 ^ Int.toNat 32 * (↑(x.2.toNat &&& Int.toNat 4294967295):Int))/\(0:Int)<=32/\32<(↑IntKind.u64.bits:Int)/\am .u64 (x.1 / 2 ^ Int.toNat 32 * (↑(x.2.toNat &&& Int.toNat 4294967295):Int)+(↑(x.1.toNat &&& Int.toNat 4294967295):Int) * (↑(x.2.toNat &&& Int.toNat 4294967295):Int) / 2 ^ Int.toNat 32)/\(0:Int)<=32/\32<(↑IntKind.u64.bits:Int)/\am .u64 ((↑(x.1.toNat &&& Int.toNat 4294967295):Int) * (x.2 / 2 ^ Int.toNat 32))/\am .u64 ((↑((x.1 / 2 ^ Int.toNat 32 * (↑(x.2.toNat &&& Int.toNat 4294967295):Int)+(↑(x.1.toNat &&& Int.toNat 4294967295):Int) * (↑(x.2.toNat &&& Int.toNat 4294967295):Int) / 2 ^ Int.toNat 32).toNat &&& Int.toNat 4294967295):Int)+(↑(x.1.toNat &&& Int.toNat 4294967295):Int) * (x.2 / 2 ^ Int.toNat 32))/\am .u64 (x.1 / 2 ^ Int.toNat 32 * (x.2 / 2 ^ Int.toNat 32))/\am .u64 (x.1 / 2 ^ Int.toNat 32 * (x.2 / 2 ^ Int.toNat 32)+(x.1 / 2 ^ Int.toNat 32 * (↑(x.2.toNat &&& Int.toNat 4294967295):Int)+(↑(x.1.toNat &&& Int.toNat 4294967295):Int) * (↑(x.2.toNat &&& Int.toNat 4294967295):Int) / 2 ^ Int.toNat 32) / 2 ^ Int.toNat 32)/\(0:Int)<=32/\32<(↑IntKind.u64.bits:Int)/\am .u64 (x.1 / 2 ^ Int.toNat 32 * (x.2 / 2 ^ Int.toNat 32)+(x.1 / 2 ^ Int.toNat 32 * (↑(x.2.toNat &&& Int.toNat 4294967295):Int)+(↑(x.1.toNat &&& Int.toNat 4294967295):Int) * (↑(x.2.toNat &&& Int.toNat 4294967295):Int) / 2 ^ Int.toNat 32) / 2 ^ Int.toNat 32+((↑((x.1 / 2 ^ Int.toNat 32 * (↑(x.2.toNat &&& Int.toNat 4294967295):Int)+(↑(x.1.toNat &&& Int.toNat 4294967295):Int) * (↑(x.2.toNat &&& Int.toNat 4294967295):Int) / 2 ^ Int.toNat 32).toNat &&& Int.toNat 4294967295):Int)+(↑(x.1.toNat &&& Int.toNat 4294967295):Int) * (x.2 / 2 ^ Int.toNat 32)) / 2 ^ Int.toNat 32)/\am .u64 (x.1 * x.2)/\x.1 / 2 ^ Int.toNat 32 * (x.2 / 2 ^ Int.toNat 32)+(x.1 / 2 ^ Int.toNat 32 * (↑(x.2.toNat &&& Int.toNat 4294967295):Int)+(↑(x.1.toNat &&& Int.toNat 4294967295):Int) * (↑(x.2.toNat &&& Int.toNat 4294967295):Int) / 2 ^ Int.toNat 32) / 2 ^ Int.toNat 32+((↑((x.1 / 2 ^ Int.toNat 32 * (↑(x.2.toNat &&& Int.toNat 4294967295):Int)+(↑(x.1.toNat &&& Int.toNat 4294967295):Int) * (↑(x.2.toNat &&& Int.toNat 4294967295):Int) / 2 ^ Int.toNat 32).toNat &&& Int.toNat 4294967295):Int)+(↑(x.1.toNat &&& Int.toNat 4294967295):Int) * (x.2 / 2 ^ Int.toNat 32)) / 2 ^ Int.toNat (32:Int)=0/\x.1 * x.2=x.2/\True
theorem HM:Cv:=by
 unfold Cv;intro ⟨x,y⟩ ⟨hx,hy⟩ ⟨h1,h2⟩;simp only [am] at hx hy h1 h2 |-;subst h1;have e1:(((1:Int).toNat &&& Int.toNat 4294967295:Nat):Int)=1:=by decide
 have e2:((y.toNat &&& Int.toNat 4294967295:Nat):Int)=y:=by
  have h:=mN hy.1 32;have h3:Int.toNat 4294967295=2 ^ 32 - 1:=by decide
  rw [h3,h];omega
 have e3:(1:Int) / 2 ^ Int.toNat 32=0:=by decide
 have e4:y / 2 ^ Int.toNat 32=0:=by
  have:(2:Int) ^ Int.toNat 32=4294967296:=by decide
  rw [this]; omega
 have e5:(0:Int) / 2 ^ Int.toNat 32=0:=by decide
 have e6:(((0:Int).toNat &&& Int.toNat 4294967295:Nat):Int)=0:=by decide
 simp only [e1,e2,e3,e4,Int.one_mul,Int.zero_mul,Int.mul_zero,Int.add_zero,e5,e6];have eb:((IntKind.u64.bits:Nat):Int)=64:=rfl;rw [eb];simp only [RB];omega
theorem K5:BI.ok Tryz.prog 201:=aA (ann:=cn) ap Tryz.func201 (by kernel_rfl) HM
def NZ:Spec:=BI
def KL:Prop :=
  ∀ (x:Int×Int),am .u64 x.1/\am .u64 x.2->x.1=1/\x.2<=1000->(false=true->False)/\(false=false->(x.1=1/\x.2<=1000)/\(0:Int)=0/\x.2=x.2/\True)
theorem Mz:KL:=by
 unfold KL;intro ⟨x,y⟩ _ ⟨h1,h2⟩;exact ⟨fun h=>(by cases h),fun _=>⟨⟨h1,h2⟩,rfl,rfl,trivial⟩⟩
theorem Of:NZ.ok Tryz.prog 136:=aA (ann:=cn) (ac K5 ap) Tryz.func136 (by kernel_rfl) Mz
theorem zF {v n:Int} (h:0<n):List.take 1 [v]++List.drop (0+1) (List.replicate n.toNat 0)=List.replicate (1:Int).toNat v++List.replicate (n - 1).toNat 0:=by
 rw [List.drop_replicate,show n.toNat - (0+1)=(n - 1).toNat by omega];rfl
theorem Cb {v n k:Int} {row:List Int} (k0:0<=k) (kn:k<=n) (hrow:row=List.replicate k.toNat v++List.replicate (n - k).toNat 0) {m:Nat} (hm:m=min k.toNat (n - k).toNat) :
  row.take k.toNat++((row.take k.toNat).take m++row.drop (k.toNat+m))=List.replicate (k+m).toNat v++List.replicate (n - (k+m)).toNat 0:=by
 have h1:row.take k.toNat=List.replicate k.toNat v:=by
  rw [hrow,PQ (by simp),PJ (by simp)]
 have h2:row.drop (k.toNat+m)=List.replicate (n - (k+m)).toNat 0:=by
  rw [hrow,Rx,P7 (by simp),P0,List.drop_replicate,Qd];congr 1;omega
 rw [h1,h2,List.take_replicate,<- PT,List.replicate_append_replicate];congr 2;omega
def Gf:Nat->Option LoopGen
 | 8=>some { wr:=[7],rd:=[.dat 0 (.arr ty_I),.dat 1 ty_I],A:=fun ((xs,n):List Int×Int)=>{ cs:=[.own 7 3 ty_I,.dat 8 ty_I],inv:=fun ((row,k):List Int×Int)=>0<=k/\k<=n/\(0<n->0<k)/\row=List.replicate k.toNat (xs.getD 0 0)++List.replicate (n - k).toNat 0,mu:=fun ((_,k):List Int×Int)=>(n - k).toNat } }
 | _=>none
def ES:Spec:={ Ts:=[.arr ty_I,ty_I],Rs:=[.own 3 ty_I],pre:=fun ((xs,n):List Int×Int)=>xs.length=1/\0<=n/\n<=1000,F:=fun ((xs,n):List Int×Int)=>List.replicate n.toNat (xs.getD 0 0) }
def uc:Prop :=
  ∀ (x:List Int×Int),(fun (v1:type_of% (IntKind.i64.wrap (IntKind.u64.wrap x.2)))=>(x.1.length * 8<=aF/\∀ (x_1:Int),x_1∈x.1->am .i64 x_1)/\am .i64 x.2->x.1.length=1/\0<=x.2/\x.2<=1000->(decide (x.2<0)=true->False)/\(decide (x.2<0)=false->(IntKind.u64.wrap (x.1.length:Int)=1/\IntKind.u64.wrap x.2<=1000)/\((decide ((0:Int)<0)||decide (9223372036854775807<IntKind.u64.wrap x.2))=true->False)/\((decide ((0:Int)<0)||decide (9223372036854775807<IntKind.u64.wrap x.2))=false->0<=IntKind.i64.wrap (IntKind.u64.wrap x.2)/\v1.toNat * 8<=aF/\0+(List.replicate v1.toNat (0:Int)).length<=(List.replicate v1.toNat (0:Int)).length/\(0<=(↑(min x.1.length (List.replicate v1.toNat (0:Int)).length):Int)/\(↑(min x.1.length (List.replicate v1.toNat (0:Int)).length):Int)<=x.2/\(0<x.2->0<(↑(min x.1.length (List.replicate v1.toNat (0:Int)).length):Int))/\List.take 0 (List.replicate v1.toNat (0:Int))++(List.take (min x.1.length (List.replicate v1.toNat (0:Int)).length) x.1++List.drop (0+min x.1.length (List.replicate v1.toNat (0:Int)).length) (List.replicate v1.toNat (0:Int)))=List.replicate (↑(min x.1.length (List.replicate v1.toNat (0:Int)).length):Int).toNat (x.1.getD 0 0)++List.replicate (x.2 - (↑(min x.1.length (List.replicate v1.toNat (0:Int)).length):Int)).toNat (0:Int))/\∀ (x_1:List Int×Int),(fun (v0:type_of% (min (List.take x_1.2.toNat (List.drop 0 x_1.1)).length (x_1.1.length - x_1.2.toNat)))=>0<=x_1.2/\x_1.2<=x.2/\(0<x.2->0<x_1.2)/\x_1.1=List.replicate x_1.2.toNat (x.1.getD 0 0)++List.replicate (x.2 - x_1.2).toNat (0:Int)->(decide (x_1.2<(x_1.1.length:Int))=true->0<=x_1.2/\x_1.2<=(x_1.1.length:Int)/\0<=x_1.2/\x_1.2<=(x_1.1.length:Int)/\0+x_1.2.toNat<=x_1.1.length/\x_1.2.toNat+(x_1.1.length - x_1.2.toNat)<=x_1.1.length/\x_1.2=x_1.2/\am .i64 (x_1.2+(↑v0:Int))/\(0<=x_1.2+(↑v0:Int)/\x_1.2+(↑v0:Int)<=x.2/\(0<x.2->0<x_1.2+(↑v0:Int))/\List.take x_1.2.toNat x_1.1++(List.take v0 (List.take x_1.2.toNat (List.drop 0 x_1.1))++List.drop (x_1.2.toNat+min (List.take x_1.2.toNat (List.drop 0 x_1.1)).length (x_1.1.length - x_1.2.toNat)) x_1.1)=List.replicate (x_1.2+(↑v0:Int)).toNat (x.1.getD 0 0)++List.replicate (x.2 - (x_1.2+(↑v0:Int))).toNat (0:Int))/\(x.2 - (x_1.2+(↑v0:Int))).toNat<(x.2 - x_1.2).toNat)/\(decide (x_1.2<(x_1.1.length:Int))=false->x_1.1=List.replicate x.2.toNat (x.1.getD 0 0)/\True)) (min (List.take x_1.2.toNat (List.drop 0 x_1.1)).length (x_1.1.length - x_1.2.toNat))))) (IntKind.i64.wrap (IntKind.u64.wrap x.2))
theorem Ba:uc:=by
 unfold uc;intro ⟨xs,n⟩ _ ⟨h1,h2,h3⟩;simp only at h1 h2 h3 |-
 obtain ⟨v,rfl⟩:∃ v,xs=[v]:=by
  match xs,h1 with
  | [v],_=>exact ⟨v,rfl⟩
 have e1:IntKind.u64.wrap n=n:=fA h2 (by omega);have e2:IntKind.i64.wrap n=n:=jF (by omega) (by omega);have e3:IntKind.u64.wrap (([v].length:Nat):Int)=1:=fA (by simp) (by simp);have e4:[v].getD 0 0=v:=rfl;rw [e1,e2,e3,e4];refine ⟨fun h=>absurd (Pt h) (by omega),fun _=>⟨⟨rfl,by omega⟩,fun h=>?_,fun _=>⟨h2,by unfold aF; omega,by omega,?_,fun ⟨row,k⟩ ⟨k0,kn,kp,kr⟩=>⟨fun hlt=>?_,fun hge=>?_⟩⟩⟩⟩
 ·simp only [Qq,Qk] at h;omega
 ·by_cases hn:0<n
  ·have hm:min [v].length (List.replicate n.toNat (0:Int)).length=1:=by
    rw [Qd,Qo]; omega
   rw [hm];refine ⟨by omega,by omega,by omega,?_⟩;rw [Q5,P0];exact zF hn
  ·have hz:n=0:=by omega
   subst hz;simp
 ·simp only at k0 kn kp kr hlt |-;have hl:(row.length:Int)=n:=by rw [kr]; simp; omega
  have hlt:=Pt hlt;have htl:(List.take k.toNat row).length=k.toNat:=by rw [PM]; omega
  have hmin:min (List.take k.toNat row).length (row.length - k.toNat)=min k.toNat (n - k).toNat:=by rw [htl]; omega
  rw [RU,hmin,Cb k0 kn kr rfl];simp only [am];exact ⟨by omega,by omega,by omega,by omega,by omega,by omega,by first | rfl | trivial,by omega,⟨by omega,by omega,by omega,by first | rfl | trivial⟩,by omega⟩
 ·simp only at k0 kn kp kr hge |-;have hl:(row.length:Int)=n:=by rw [kr]; simp; omega
  have hge:=Pu hge;have hk:k=n:=by omega
  refine ⟨?_,trivial⟩;rw [kr,hk];simp
theorem Fu:ES.ok Tryz.prog 57:=aA (ann:=Gf) (ac Of ap) Tryz.func57 (by kernel_rfl) Ba
def pC (w:Int):List Int:=if 0<w then (List.replicate w.toNat 0).set 0 (aR (0,w - 1,0,true)) else List.replicate w.toNat 0
def az (w r h:Int):an×Int:=if w<0\/256<w then (([],[],[],[]),4) else if r<0\/32<r then (([],[],[],[]),4) else if h<0\/16<h then (([],[],[],[]),4) else ((pC w,List.replicate r.toNat (-1),[],List.replicate h.toNat (0,false,0)),0)
def Kn:Spec:={ Ts:=[ty_I,ty_I,ty_I],Rs:=[.dat aP,.dat ty_I],al:=true,pre:=fun _=>True,F:=fun ((w,r,h):Int×Int×Int)=>az w r h }
def Cm:Prop :=
  ∀ (x:Int×Int×Int),am .i64 x.1/\am .i64 x.2.1/\am .i64 x.2.2->True->True/\(decide ((pB x.1).2≠0)=true->(([]:List Int),([]:List Int),([]:List (Int×Int)),([]:List (Int×Bool×Int)))=(az x.1 x.2.1 x.2.2).1/\(pB x.1).2=(az x.1 x.2.1 x.2.2).2/\True)/\(decide ((pB x.1).2≠0)=false->((decide (x.2.1<0)||decide (32<x.2.1))=true->(([]:List Int),([]:List Int),([]:List (Int×Int)),([]:List (Int×Bool×Int)))=(az x.1 x.2.1 x.2.2).1/\4=(az x.1 x.2.1 x.2.2).2/\True)/\((decide (x.2.1<0)||decide (32<x.2.1))=false->True/\(decide ((dZ x.2.2).2≠0)=true->(([]:List Int),([]:List Int),([]:List (Int×Int)),([]:List (Int×Bool×Int)))=(az x.1 x.2.1 x.2.2).1/\(dZ x.2.2).2=(az x.1 x.2.1 x.2.2).2/\True)/\(decide ((dZ x.2.2).2≠0)=false->(decide (0<x.1)=true->am .i64 (x.1 - 1)/\True/\(0:Int)<=0/\0<(↑(pB x.1).1.length:Int)/\Int.toNat 0<(pB x.1).1.length/\([(-1)].length=1/\0<=x.2.1/\x.2.1<=1000)/\((pB x.1).1.set (Int.toNat 0) (if af (0,x.1 - 1,0,true)=0 then aR (0,x.1 - 1,0,true) else (0:Int)),List.replicate x.2.1.toNat ([(-1)].getD 0 0),([]:List (Int×Int)),(dZ x.2.2).1)=(az x.1 x.2.1 x.2.2).1/\0=(az x.1 x.2.1 x.2.2).2/\True)/\(decide (0<x.1)=false->([(-1)].length=1/\0<=x.2.1/\x.2.1<=1000)/\((pB x.1).1,List.replicate x.2.1.toNat ([(-1)].getD 0 0),([]:List (Int×Int)),(dZ x.2.2).1)=(az x.1 x.2.1 x.2.2).1/\0=(az x.1 x.2.1 x.2.2).2/\True))))
theorem HE:Cm:=by
 unfold Cm;intro ⟨w,r,h⟩ _ _;simp only;have hF:az w r h=if w<0\/256<w then (([],[],[],[]),4) else if r<0\/32<r then (([],[],[],[]),4) else if h<0\/16<h then (([],[],[],[]),4) else ((pC w,List.replicate r.toNat (-1),[],List.replicate h.toNat (0,false,0)),0):=rfl
 have hW:pB w=if w<0\/256<w then ([],4) else (List.replicate w.toNat 0,0):=rfl
 have hH:dZ h=if h<0\/16<h then ([],4) else (List.replicate h.toNat (0,false,0),0):=rfl
 by_cases cw:w<0\/256<w
 ·rw [if_pos cw] at hW hF;rw [hW,hF];exact ⟨trivial,fun _=>⟨by first | rfl | trivial,by first | rfl | trivial,trivial⟩,fun hn=>by simp at hn⟩
 rw [if_neg cw] at hW hF;rw [hW];refine ⟨trivial,fun hn=>by simp at hn,fun _=>⟨fun hr=>?_,fun hr=>?_⟩⟩
 ·rw [hF,if_pos (by simpa using hr)];exact ⟨by first | rfl | trivial,by first | rfl | trivial,trivial⟩
 have hr:¬ (r<0\/32<r):=by simpa using hr
 rw [if_neg hr] at hF;by_cases ch:h<0\/16<h
 ·rw [if_pos ch] at hH hF;rw [hH,hF];exact ⟨trivial,fun _=>⟨by first | rfl | trivial,by first | rfl | trivial,trivial⟩,fun hn=>by simp at hn⟩
 rw [if_neg ch] at hH hF;rw [hH,hF];refine ⟨trivial,fun hn=>by simp at hn,fun _=>⟨fun h0=>?_,fun h0=>?_⟩⟩
 ·have h0:=Pt h0;have hhf:af (0,w - 1,0,true)=0:=by simp [af,ae]; omega
  rw [if_pos hhf];simp only [am,Qd];refine ⟨by omega,trivial,by omega,by omega,by simp; omega,⟨rfl,by omega,by omega⟩,?_,by first | rfl | trivial,trivial⟩;unfold pC;rw [if_pos h0];rfl
 ·have h0:=Pu h0;refine ⟨⟨rfl,by omega,by omega⟩,?_,by first | rfl | trivial,trivial⟩;unfold pC;rw [if_neg h0];rfl
theorem KX:Kn.ok Tryz.prog 13:=aA (ann:=cn) (ac Fk (ac Fz (ac iV (ac Fu ap)))) Tryz.func13 (by kernel_rfl) HE
end
section
end
section
def Pc (a:List Int) (x:Int):Int:=ef (aa a).1 x
def wS (a:List Int):List Int->Int
 | []=>0
 | x::l=>Pc a x+wS a l
theorem Ol (a:List Int) (x:Int):1<=Pc a x/\Pc a x<=256:=OU a x
theorem vp (a:List Int):∀ l:List Int,(l.length:Int)<=wS a l/\wS a l<=256 * l.length
 | []=>by simp [wS]
 | x::l=>by
  have:=vp a l;have:=Ol a x;simp only [wS,Pz];omega
theorem DC (a:List Int):∀ l:List Int,wS a l=(l.map (Pc a)).sum
 | []=>rfl
 | x::l=>by simp [wS,DC a l]
theorem vC {a f:List Int} (hw:∀ x∈a,am .u64 x) (hc:(ai a).2.2=0) (hf:∀ x∈f,isB (aa a).1 x=true):∀ (n i:Nat) (o:List Int),Came a f o->(∀ x∈o.take i,∀ y∈a8 a x,y∈o)->i<=o.length->257<=n+i->∀ x∈gu a n i o,∀ y∈a8 a x,y∈gu a n i o
 | 0,i,o,h,_,hi,hn=>by have:=h.length hw hc hf; omega
 | n+1,i,o,h,h2,hi,hn=>by
  rw [gu];split
  ·rename_i hlt;have hm:o.getD i 0∈o:=by simpa using aH (0:Int) (Int.natCast_nonneg i) (by omega:(i:Int)<(o.length:Int))
   obtain ⟨k,h3,h4⟩:=iF (fG (aY a (o.getD i 0))) o;have h5:=rk (fG (aY a (o.getD i 0))) o;refine vC hw hc hf n (i+1) _ (h.comes hm _ fun v hv=>hv) (fun x hx y hy=>?_) ?_ (by omega)
   ·have ht:o.take (i+1)=o.take i++[o.getD i 0]:=by
     have:=a7 (0:Int) (Int.natCast_nonneg i) (by omega:(i:Int)<(o.length:Int));simpa using this
    rw [h3,PQ (by omega),ht] at hx;rcases PI.1 hx with hx | hx
    ·rw [h3]; exact PE _ (h2 x hx y hy)
    ·rw [PB.1 hx] at hy;exact h5 y hy
   ·rw [h3,PC]; omega
  ·rename_i hlt;rw [PJ (by omega)] at h2;exact h2
theorem Jy {a f:List Int} (h:au a f=0) (hw:∀ x∈a,am .u64 x):Full a f (fy a f):=by
 obtain ⟨hc,hfb⟩:=bW h;refine ⟨fun x hx=>Jz hx,(Hm a f).only,?_⟩;unfold fy;exact vC hw hc hfb 257 0 _ (Came.first fun _ h=>h) (fun x hx=>by simp at hx) (by omega) (by omega)
structure Carr (a o:List Int):Prop where
 nodup:o.Nodup
 isB:∀ x∈o,isB (aa a).1 x=true
 refs:∀ x∈o,∀ v∈aY a x,v=0\/(1<=v/\v<=256/\v - 1∈o)
 head:∀ x∈o,aR (eN a x)=a.getD x.toNat 0
end
section
end
section
def G8 (s:an):List dp:=aV false [] (aa (fw s)).1
theorem Right.live {s:an} (R:Right s):wS s.1 (br s.1 (fa (cW s) 256))+lp s=s.1.length/\0<=lp s/\0<=wS s.1 (br s.1 (fa (cW s) 256)):=by
 have h:=R.free;have e:wS s.1 (fk s)=((fk s).map (ef (aa s.1).1)).sum:=DC s.1 (fk s);have h2:=vp s.1 (fk s);have h3:=R.gaps.2.1
 have h4:0<=lp s:=by
  unfold lp;generalize aV false [] (aa (fw s)).1=g at *
  have:∀ l:List dp,(∀ r∈l,0<=r.1/\1<=r.2/\r.2<=256)->0<=fQ l:=fun l=>by
   induction l with
   | nil=>intro _; simp [fQ]
   | cons r l ih =>
    intro hl;have:=ih fun x hx=>hl x (by simp [hx])
    have:=hl r (by simp);simp only [fQ,Qf,List.sum_cons] at *;omega
  exact this g h3
 rw [R.reached];omega
def kC (s:an):Int×List dp×Int:=if ay s≠0 then (0,[],ay s) else (lp s,G8 s,0)
def BK:Spec:={ Ts:=[aP],Rs:=[.dat ty_I,.own 105 jH,.dat ty_I],pre:=fun _=>True,F:=kC }
def rL:Prop :=
  ∀ (x:List Int×List Int×List (Int×Int)×List (Int×Bool×Int)),(qo x)->True->True/\(decide ((bC x).2.2≠0)=true->0=(kC x).1/\([]:List (Int×Int))=(kC x).2.1/\(bC x).2.2=(kC x).2.2/\True)/\(decide ((bC x).2.2≠0)=false->True/\(bC x).2.1=(kC x).1/\(aq (bC x).1.1).1=(kC x).2.1/\0=(kC x).2.2/\True)
theorem yO:rL:=by
 unfold rL;intro s ⟨⟨_,hw⟩,_⟩ _;have hC:bC s=if ay s≠0 then (aE,0,ay s) else ((db s).1,(db s).2,0):=rfl
 have hF:kC s=if ay s≠0 then (0,[],ay s) else (lp s,G8 s,0):=rfl
 by_cases h0:ay s≠0
 ·rw [if_pos h0] at hC hF;rw [hC,hF];exact ⟨trivial,fun _=>⟨by trivial,by trivial,by trivial,trivial⟩,fun h=>absurd h0 (Pu h)⟩
 ·rw [if_neg h0] at hC hF;have R:=ic hw (by omega:ay s=0);have e:aq (db s).1.1=(G8 s,0):=R.gaps.1;rw [hC,hF];simp only;rw [e];exact ⟨trivial,fun h=>absurd rfl (Pt h),fun _=>⟨trivial,by trivial,by trivial,by trivial,trivial⟩⟩
theorem CR:BK.ok Tryz.prog 82:=aA (ann:=cn) (ac nI (ac kv ap)) Tryz.func82 (by kernel_rfl) yO
def kx (s:an):Int×Int:=if ay s≠0 then (0,ay s) else (s.1.length - lp s,0)
def BJ:Spec:={ Ts:=[aP],Rs:=[.dat ty_I,.dat ty_I],pre:=fun _=>True,F:=kx }
def rK:Prop :=
  ∀ (x:List Int×List Int×List (Int×Int)×List (Int×Bool×Int)),(qo x)->True->True/\(decide ((kC x).2.2≠0)=true->0=(kx x).1/\(kC x).2.2=(kx x).2/\True)/\(decide ((kC x).2.2≠0)=false->am .i64 ((x.1.length:Int) - (kC x).1)/\(x.1.length:Int) - (kC x).1=(kx x).1/\0=(kx x).2/\True)
theorem yN:rK:=by
 unfold rK;intro s ⟨⟨_,hw⟩,_⟩ _;have hL:kx s=if ay s≠0 then (0,ay s) else (s.1.length - lp s,0):=rfl
 have hF:kC s=if ay s≠0 then (0,[],ay s) else (lp s,G8 s,0):=rfl
 by_cases h0:ay s≠0
 ·rw [if_pos h0] at hL hF;rw [hL,hF];exact ⟨trivial,fun _=>⟨by trivial,by trivial,trivial⟩,fun h=>absurd h0 (Pu h)⟩
 ·rw [if_neg h0] at hL hF;have R:=ic hw (by omega:ay s=0);have hl:=R.live;have hal:=R.al;rw [hL,hF];simp only [am];exact ⟨trivial,fun h=>absurd rfl (Pt h),fun _=>⟨by omega,by trivial,by trivial,trivial⟩⟩
theorem CQ:BJ.ok Tryz.prog 22:=aA (ann:=cn) (ac CR ap) Tryz.func22 (by kernel_rfl) yN
end
section
structure Given (G:List Int) (h:List b9):Prop where
 len:h.length<=16
 ok:∀ s∈h,jo s=0
 old:∀ n∈G,∃ (i:Nat) (g:Int) (s:b9),h[i]?=some s/\n=(i:Int)+65536 * g/\g<=s.1
 live:∀ (i:Nat) (s:b9),h[i]?=some s->s.2.1=true->(i:Int)+65536 * s.1∈G
end
section
theorem DH {b:List Int} {l:List ax} (hs:aa b=(l,0)) (hr:∀ s∈l,∀ v∈bc b s,v=0\/1<=v/\isB l (v - 1)=true):(ai b).2.2=0:=by
 have hsort:=bz b;have hrange:=gL (a:=b);rw [hs] at hsort hrange;unfold ai;rw [hs,if_neg (by simp),if_pos];refine PA.2 fun s hm=>PA.2 fun v hv=>?_
 have h:=hr s hm v hv;rw [<- xQ hsort hrange (by omega)];rcases h with rfl | ⟨h1,h2⟩
 ·simp [nameOf]
 ·have hb:=cA (a:=b) (x:=v - 1) (by rw [hs]; exact h2);have:nameOf v=v - 1:=by unfold nameOf; rw [if_neg (by omega)]
  rw [this,cX,h2,Bool.or_true]
section
variable {s:an}
end
section
variable {s:an}
end
end
section
section
variable {a keep pinned long:List Int}
end
section
variable {s:an}
end
end
section
end
section
section
variable {s:an}
theorem CH {k a b c v:Int} (h:¬ cj k a b c v=true):1<=k/\k<=13:=by
 unfold cj at h;simp only [Qq,Qk,not_or] at h;omega
end
end
section
end
section
set_option maxHeartbeats 4000000
end
section
section
variable {a keep pinned long:List Int}
end
end
section
def Er (e:Int):Prop:=0<=e/\e<=12
theorem LO (a:List Int):Er (aa a).2:=by
 unfold aa Er;split
 ·simp
 ·split <;> simp
theorem vk (a:List Int):Er (ai a).2.2:=by
 have h:=LO a;unfold ai;split
 ·exact h
 ·split <;> simp [Er]
theorem Nm (r:List Int) (n:Int):Er (aJ r n):=by
 unfold aJ Er;split
 ·omega
 split
 ·omega
 split <;> omega
theorem vh:∀ (p:List bu) (q:Int),Er (dg q p)
 | [],_=>by simp [dg,Er]
 | x::p,q=>by
  unfold dg;split
  ·simp [Er]
  split
  ·simp [Er]
  ·exact vh p x.1
theorem Hb (p:List bu):Er (ci p):=by
 unfold ci;split
 ·simp [Er]
 ·exact vh p _
theorem Dy:∀ (h:List b9),Er (bK h)
 | []=>by simp [bK,Er]
 | s::h=>by
  unfold bK;split
  ·unfold jo Er;split
   ·omega
   split <;> omega
  ·exact Dy h
theorem vj (h:List b9):Er (aT h):=by
 unfold aT;split
 ·simp [Er]
 ·exact Dy h
theorem Ns (a f:List Int):Er (au a f):=by
 have h:=vk a;unfold au;split
 ·exact h
 split <;> simp [Er]
theorem jV (s:an):Er (ay s):=by
 unfold ay;split
 ·exact vk _
 split
 ·exact Nm _ _
 split
 ·exact Hb _
 split
 ·exact vj _
 ·exact Ns _ _
theorem Ax (s:an) (k:Int):Er (bN s k):=by
 unfold bN;split
 ·exact jV s
 split <;> simp [Er]
theorem Ay (s:an) (k:Int):Er (bw s k):=by
 unfold bw;split
 ·exact jV s
 split <;> simp [Er]
theorem LP (s:an) (a b c:Int):Er (bF s a b c):=by
 unfold bF;split
 ·exact Ay s a
 split
 ·simp [Er]
 split <;> simp [Er]
theorem Hd (s:an) (a b:Int):Er (aO s a b):=by
 unfold aO;split
 ·exact Ay s a
 split <;> simp [Er]
theorem Nn (s:an) (a b:Int):Er (cp s a b):=by
 unfold cp;split
 ·exact jV s
 split
 ·simp [Er]
 split <;> simp [Er]
theorem Nr (h:ew):Er (lL h):=by
 unfold lL;split
 ·unfold af Er;split
  ·omega
  split
  ·omega
  split <;> omega
 split <;> simp [Er]
theorem Dz (p:List bu) (k:Int):Er (aI p k).2.2:=by
 unfold aI;split
 ·exact Hb p
 split <;> simp [Er]
theorem Ot (p:List bu) (k:Int):Er (ja p k).2.2:=by
 unfold ja;split
 ·exact Dz p k
 split <;> simp [Er]
theorem Nt (p:List bu) (k:Int):Er (eT p k).2.2:=by
 unfold eT;split
 ·exact Dz p k
 split <;> simp [Er]
theorem No (h:List b9) (a:Int):Er (eA h a).2.2:=by
 unfold eA;split
 ·exact vj h
 split
 ·simp [Er]
 split <;> simp [Er]
theorem Hc (h:List b9) (n:Int):Er (cD h n).2:=by
 unfold cD;split
 ·exact vj h
 split <;> simp [Er]
theorem Nq (h:List b9) (n:Int):Er (iu h n).2:=by
 unfold iu;split
 ·exact Hc h n
 ·simp [Er]
theorem LQ (h:List b9) (n:Int):Er (ft h n).2:=by
 unfold ft;split
 ·exact Hc h n
 ·simp [Er]
theorem Np (s:an) (k:Int) (h:ew):Er (bB s k h).2.2:=by
 unfold bB;split
 ·exact Ax s k
 split
 ·exact Nr h
 split
 ·simp [Er]
 split <;> simp [Er]
theorem Nv (s:an) (k a b c v:Int) (hk:1<=k/\k<=13):Er (deed s k a b c v).2.2:=by
 have hk:k=1\/k=2\/k=3\/k=4\/k=5\/k=6\/k=7\/k=8\/k=9\/k=10\/k=11\/k=12\/k=13:=by omega
 have z:Er 0:=by simp [Er]
 rcases hk with rfl | rfl | rfl | rfl | rfl | rfl | rfl | rfl | rfl | rfl | rfl | rfl | rfl
 ·rw [Hj]; exact Np ..
 ·rw [L6]; exact z
 ·rw [L5]; unfold mE; split; exact LP ..; exact z
 ·rw [L4]; unfold mz; split; exact LP ..; exact z
 ·rw [Hi]; split; exact Hd ..; exact z
 ·rw [Hh]; unfold lD; split; exact Hd ..; exact z
 ·rw [L3]; unfold j7; split; exact Ay ..; split; exact Ot ..; exact z
 ·rw [LZ]; unfold dI; split; exact jV ..; split; exact Nt ..; exact z
 ·rw [LY]; split; exact Nn ..; exact z
 ·rw [F3]; unfold gS; split; exact Ay ..; split; exact No ..; exact z
 ·rw [F2]; unfold ly; split; exact Ax ..; split; exact Nq ..; exact z
 ·rw [F1]; unfold ib; split; exact jV ..; split; exact LQ ..; exact z
 ·rw [F0]; unfold gr; split; exact Ax ..; exact z
theorem Nu (s:an) (k a b c v:Int):Er (b7 s k a b c v).2.2:=by
 unfold b7;split
 ·simp [Er]
 rename_i h;split
 ·exact jV s
 ·exact Nv _ _ _ _ _ _ (CH h)
theorem FZ {s:an} {k a b c v:Int} (e:(b7 s k a b c v).2.2=0):(b7 s k a b c v).1.2.1.length=s.2.1.length:=by
 unfold b7 at e |-;split at e
 ·simp at e
 rename_i h1;rw [if_neg h1];split at e
 ·rename_i h2; exact absurd e h2
 rename_i h2;rw [if_neg h2];have hk:=CH h1;have hk:k=1\/k=2\/k=3\/k=4\/k=5\/k=6\/k=7\/k=8\/k=9\/k=10\/k=11\/k=12\/k=13:=by omega
 clear h1;rcases hk with rfl | rfl | rfl | rfl | rfl | rfl | rfl | rfl | rfl | rfl | rfl | rfl | rfl
 ·rw [Hj] at e |-;simp only at e |-;unfold bB x9 qz at e |-
  repeat' split
  all_goals simp_all
 ·rw [L6]; simp [db,qz]
 ·rw [L5] at e |-;unfold mE at e |-
  repeat' split
  all_goals simp_all
 ·rw [L4] at e |-;unfold mz at e |-
  repeat' split
  all_goals simp_all
 ·rw [Hi] at e |-
  repeat' split
  all_goals simp_all
 ·rw [Hh] at e |-;unfold lD at e |-
  repeat' split
  all_goals simp_all
 ·rw [L3] at e |-;unfold j7 at e |-
  repeat' split
  all_goals simp_all
 ·rw [LZ] at e |-;unfold dI at e |-
  repeat' split
  all_goals simp_all
 ·rw [LY] at e |-
  repeat' split
  all_goals simp_all
 ·rw [F3] at e |-;unfold gS at e |-
  repeat' split
  all_goals simp_all
 ·rw [F2] at e |-;unfold ly at e |-
  repeat' split
  all_goals simp_all
 ·rw [F1] at e |-;unfold ib at e |-
  repeat' split
  all_goals simp_all
 ·rw [F0] at e |-;unfold gr at e |-
  repeat' split
  all_goals simp_all
theorem I3 {w r h:Int} (e:(az w r h).2=0):(az w r h).1.2.1.length<=32:=by
 unfold az at e |-
 repeat' split
 all_goals simp_all
end
section
abbrev zc:Ty:=.pair .bool aP
abbrev de:=Bool×an
inductive Act where
 | begin
 | deed (kind v:Int) (told:Bool)
 | gaps
 | live
 | roots
def A0 (w:List UInt8):Option (Int×Bool×Act) :=
 if w=[110,101,119] then some (3,false,.begin) else
 if w=[109,97,107,101] then some (4,true,.deed 1 3 true) else
 if w=[99,111,108,108,101,99,116] then some (0,true,.deed 2 (-1) true) else
 if w=[114,101,102] then some (3,true,.deed 3 (-1) false) else
 if w=[115,101,116] then some (3,true,.deed 4 (-1) false) else
 if w=[103,101,116] then some (2,true,.deed 5 (-1) true) else
 if w=[112,117,116] then some (3,true,.deed 6 2 false) else
 if w=[112,105,110] then some (1,true,.deed 7 (-1) true) else
 if w=[117,110,112,105,110] then some (1,true,.deed 8 (-1) false) else
 if w=[112,101,101,107] then some (2,true,.deed 9 (-1) true) else
 if w=[111,112,101,110] then some (1,true,.deed 10 (-1) true) else
 if w=[117,115,101] then some (2,true,.deed 11 1 false) else
 if w=[115,104,117,116] then some (1,true,.deed 12 0 false) else
 if w=[100,114,111,112] then some (1,true,.deed 13 (-1) false) else
 if w=[103,97,112,115] then some (0,true,.gaps) else
 if w=[108,105,118,101] then some (0,true,.live) else
 if w=[114,111,111,116,115] then some (0,true,.roots) else none
def gc:List (List UInt8)->Option (List Int)
 | []=>some []
 | s::l=>if (fV s).2 then (gc l).map ((fV s).1::·) else none
def ff (v:Int) (n:List Int):List Int:=if 0<=v then n.eraseIdx v.toNat else n
def qg (d:de) (kind v:Int) (told:Bool) (n:List Int):(List Int×Int)×de :=
 if 0<=v/\n.getD v.toNat 0<0 then (([],4),d) else
 let r:=b7 d.2 kind ((ff v n).getD 0 0) ((ff v n).getD 1 0) ((ff v n).getD 2 0) (if 0<=v then n.getD v.toNat 0 else 0)
 if r.2.2≠0 then (([],r.2.2),d) else ((if told then [IntKind.i64.wrap r.2.1] else [],0),(d.1,r.1))
def me (d:de) (n:List Int):Act->(List Int×Int)×de
 | .begin=>let r:=az (n.getD 0 0) (n.getD 1 0) (n.getD 2 0); if r.2=0 then (([],0),(true,r.1)) else (([],r.2),d)
 | .deed kind v told=>qg d kind v told n
 | .gaps=>(((aq d.2.1).1.flatMap fun g=>[g.1,g.2],(aq d.2.1).2),d)
 | .live=>(([(kx d.2).1],(kx d.2).2),d)
 | .roots=>((d.2.2.1,0),d)
def aQ (d:de) (w:List (List UInt8)):(List Int×Int)×de:=match A0 (w.getD 0 []) with
 | none=>(([],1),d)
 | some (many,store,a)=>if ((w.length:Nat):Int) - 1≠many then (([],3),d) else match gc w.tail with
  | none=>(([],3),d)
  | some n=>if store&&!d.1 then (([],8),d) else me d n a
def Iq:BoxFn:={ T:=zc,Ts:=[.str],Rs:=[.dat (.arr ty_I),.dat ty_I],pre:=fun _ (line:List UInt8)=>line.length<4294967281,F:=fun (d:de) (line:List UInt8)=>aQ d (ak line) }
def dR (k:Int):Int:=if k=1 then 3 else if k=6 then 2 else if k=11 then 1 else if k=12 then 0 else -1
def lx (k:Int) (n:List Int):NT:=(k,(ff (dR k) n).getD 0 0,(ff (dR k) n).getD 1 0,(ff (dR k) n).getD 2 0,if 0<=dR k then n.getD (dR k).toNat 0 else 0)
def Gd:LoopGen:={ rd:=[],wr:=[0,0,0,0],A:=fun _=>{ cs:=[],inv:=fun _=>True,mu:=fun _=>0 } }
def JO:Nat->Option LoopGen
 | 3000109=>some cU
 | 3000186=>some cU
 | 3000238=>some cU
 | 3000261=>some cU
 | 3000237=>some cU
 | 3000239=>some cU
 | 3000240=>some cU
 | 3000241=>some cU
 | 11000000009=>some { rd:=[.dat 34 (.arr .str)],A:=fun (w:List (List UInt8))=>{ cs:=[.own 9 3 ty_I,.dat 36 ty_I],inv:=fun ((n,i):List Int×Int)=>0<=i/\i<=(w.length:Int)/\gc (w.take i.toNat)=some n,mu:=fun ((_,i):List Int×Int)=>((w.length:Int) - i).toNat } }
 | 24000000004=>some { rd:=[.own 20 105 jH],A:=fun (g:List (Int×Int))=>{ cs:=[.own 8 3 ty_I,.dat 22 ty_I],inv:=fun ((l,i):List Int×Int)=>0<=i/\i<=(g.length:Int)/\l=(g.take i.toNat).flatMap fun x=>[x.1,x.2],mu:=fun ((_,i):List Int×Int)=>((g.length:Int) - i).toNat } }
 | 26208000004=>some Gd
 | 26209000004=>some { rd:=[.box 9 Gq,.own 1 3 ty_I],A:=fun ((o0,n):NT×List Int)=>{ cs:=[.box 9 Gq],inv:=fun (o:NT)=>o=lx o0.1 n/\(0<=dR o0.1->0<=n.getD (dR o0.1).toNat 0),mu:=fun _=>0 } }
 | 26210000007=>some Gd
 | 26210000018=>some Gd
 | _=>none
theorem pW (a:List Int):(aq a).1.length<=256:=by
 unfold aq;split
 ·simp
 ·rename_i h;exact (pT (bJ (by omega)).2.2.2.1).2
theorem La {s:List UInt8} (h:(fV s).2=true):-1000000000000000<(fV s).1/\(fV s).1<1000000000000000:=by
 unfold fV at h |-;cases e:Lib.atoiAll s
 ·rw [e] at h;have h:=Pt h;exact ⟨h.1,h.2.1⟩
 ·rw [e] at h; cases h
 ·rw [e] at h; cases h
theorem uy:∀ (l:List (List UInt8)) (s:List UInt8) (n:List Int),gc l=some n->(fV s).2=true->gc (l++[s])=some (n++[(fV s).1])
 | [],s,n,h,hs=>by
  obtain rfl:=QJ h;simp only [P0,gc];rw [if_pos hs];rfl
 | x::l,s,n,h,hs=>by
  unfold gc at h;split at h
  ·rename_i hx;obtain ⟨m,hm,rfl⟩:=Py.1 h;simp only [Qs,gc];rw [if_pos hx,uy l s m hm hs];rfl
  ·cases h
theorem xZ:∀ (l:List (List UInt8)) (s:List UInt8),s∈l->(fV s).2=false->gc l=none
 | [],s,h,_=>by cases h
 | x::l,s,h,hs=>by
  unfold gc;split
  ·rename_i hx;rcases PD.1 h with rfl | h
   ·rw [hs] at hx; cases hx
   ·rw [xZ l s h hs]; rfl
  ·rfl
theorem qJ:∀ (l:List (List UInt8)) (n:List Int),gc l=some n->n.length=l.length/\∀ x∈n,-1000000000000000<x/\x<1000000000000000
 | [],n,h=>by obtain rfl:=QJ h; exact ⟨rfl,fun x hx=>by cases hx⟩
 | x::l,n,h=>by
  unfold gc at h;split at h
  ·rename_i hx;obtain ⟨m,hm,rfl⟩:=Py.1 h;obtain ⟨h1,h2⟩:=qJ l m hm;refine ⟨by simp [h1],fun y hy=>?_⟩;rcases PD.1 hy with rfl | hy
   ·exact La hx
   ·exact h2 y hy
  ·cases h
def ir (d:de) (w:List (List UInt8)) (many:Int) (store:Bool) (R:List Int×Int->Prop):Prop :=
  ((!true)=true->(([]:List Int),(1:Int))=(aQ d w).fst/\d=(aQ d w).snd) /\
  ((!true)=false->am .i64 ((w.length:Int) - 1) /\
   (decide ((w.length:Int) - 1≠many)=true->(([]:List Int),(3:Int))=(aQ d w).fst/\d=(aQ d w).snd) /\
   (decide ((w.length:Int) - 1≠many)=false->(0:Int)<=1/\(1:Int)<=(w.length:Int) /\
    ((0:Int)<=0/\(0:Int)<=((w.drop (Int.toNat 1)).length:Int)/\gc ((w.drop (Int.toNat 1)).take (Int.toNat 0))=some []) /\
    ∀ x:List Int×Int,(0:Int)<=x.snd/\x.snd<=((w.drop (Int.toNat 1)).length:Int)/\gc ((w.drop (Int.toNat 1)).take x.snd.toNat)=some x.fst ->
     (decide (x.snd<((w.drop (Int.toNat 1)).length:Int))=true->(0:Int)<=x.snd/\x.snd<((w.drop (Int.toNat 1)).length:Int)/\True /\
      ((!(fV ((w.drop (Int.toNat 1)).getD x.snd.toNat ([]:List UInt8))).snd)=true->(([]:List Int),(3:Int))=(aQ d w).fst/\d=(aQ d w).snd) /\
      ((!(fV ((w.drop (Int.toNat 1)).getD x.snd.toNat ([]:List UInt8))).snd)=false->(x.fst.length+[(fV ((w.drop (Int.toNat 1)).getD x.snd.toNat ([]:List UInt8))).fst].length) * 8<=aF/\am .i64 (x.snd+1) /\
       ((0:Int)<=x.snd+1/\x.snd+1<=((w.drop (Int.toNat 1)).length:Int)/\gc ((w.drop (Int.toNat 1)).take (x.snd+1).toNat)=some (x.fst++[(fV ((w.drop (Int.toNat 1)).getD x.snd.toNat ([]:List UInt8))).fst])) /\
       (((w.drop (Int.toNat 1)).length:Int) - (x.snd+1)).toNat<(((w.drop (Int.toNat 1)).length:Int) - x.snd).toNat)) /\
     (decide (x.snd<((w.drop (Int.toNat 1)).length:Int))=false->((store&&!d.fst)=true->(([]:List Int),(8:Int))=(aQ d w).fst/\d=(aQ d w).snd)/\((store&&!d.fst)=false->R x))))
abbrev AY (k:Int) (n:List Int):Prop:=(fun (l:Int)=>((decide (0<l)=true->(0:Int)<=0/\0<l/\Int.toNat 0<n.length/\(0:Int)<=0/\0<(↑(3:Nat):Int)/\(0:Int)<=1/\1<=(↑(3:Nat):Int)/\am .i64 (0+1)/\(decide (0+1<l)=true->(0:Int)<=0+1/\0+1<l/\((0:Int)+1).toNat<n.length/\(0:Int)<=0/\0<(↑(3 - Int.toNat 1):Int)/\(0:Int)<=1/\1<=(↑(3 - Int.toNat 1):Int)/\am .i64 (0+1+1)/\(decide (0+1+1<l)=true->(0:Int)<=0+1+1/\0+1+1<l/\((0:Int)+1+1).toNat<n.length/\(0:Int)<=0/\0<(↑(3 - Int.toNat 1 - Int.toNat 1):Int)/\(0:Int)<=1/\1<=(↑(3 - Int.toNat 1 - Int.toNat 1):Int)/\am .i64 (0+1+1+1)/\(decide (0+1+1+1<l)=true->(0:Int)<=0+1+1+1/\0+1+1+1<l/\((0:Int)+1+1+1).toNat<n.length/\False)/\(decide (0+1+1+1<l)=false->(k,n.getD (Int.toNat 0) 0,n.getD ((0:Int)+1).toNat 0,n.getD ((0:Int)+1+1).toNat 0,0)=lx k n/\(0<=dR k->0<=n.getD (dR k).toNat 0)))/\(decide (0+1+1<l)=false->(k,n.getD (Int.toNat 0) 0,n.getD ((0:Int)+1).toNat 0,0,0)=lx k n/\(0<=dR k->0<=n.getD (dR k).toNat 0)))/\(decide (0+1<l)=false->(k,n.getD (Int.toNat 0) 0,0,0,0)=lx k n/\(0<=dR k->0<=n.getD (dR k).toNat 0)))/\(decide (0<l)=false->(k,0,0,0,0)=lx k n/\(0<=dR k->0<=n.getD (dR k).toNat 0)))) (n.length:Int)
abbrev Po (x:de) (w:List (List UInt8)) (n:List Int):Prop:=(fun (l:Int)=>((decide (0<l)=true->(0:Int)<=0/\0<l/\Int.toNat 0<n.length/\(0:Int)<=0/\0<(↑(3:Nat):Int)/\(0:Int)<=1/\1<=(↑(3:Nat):Int)/\am .i64 (0+1)/\(decide (0+1<l)=true->(0:Int)<=0+1/\0+1<l/\((0:Int)+1).toNat<n.length/\(0:Int)<=0/\0<(↑(3 - Int.toNat 1):Int)/\(0:Int)<=1/\1<=(↑(3 - Int.toNat 1):Int)/\am .i64 (0+1+1)/\(decide (0+1+1<l)=true->(0:Int)<=0+1+1/\0+1+1<l/\((0:Int)+1+1).toNat<n.length/\(0:Int)<=0/\0<(↑(3 - Int.toNat 1 - Int.toNat 1):Int)/\(0:Int)<=1/\1<=(↑(3 - Int.toNat 1 - Int.toNat 1):Int)/\am .i64 (0+1+1+1)/\(decide (0+1+1+1<l)=true->(0:Int)<=0+1+1+1/\0+1+1+1<l/\((0:Int)+1+1+1).toNat<n.length/\(decide (n.getD ((0:Int)+1+1+1).toNat (0:Int)<0)=true->(([]:List Int),4)=(aQ x w).1/\x=(aQ x w).2)/\(decide (n.getD ((0:Int)+1+1+1).toNat (0:Int)<0)=false->am .i64 (0+1+1+1+1)/\(decide (0+1+1+1+1<l)=true->(0:Int)<=0+1+1+1+1/\0+1+1+1+1<l/\((0:Int)+1+1+1+1).toNat<n.length/\False)/\(decide (0+1+1+1+1<l)=false->(1,n.getD (Int.toNat 0) 0,n.getD ((0:Int)+1).toNat 0,n.getD ((0:Int)+1+1).toNat 0,IntKind.u64.wrap (n.getD ((0:Int)+1+1+1).toNat 0))=lx 1 n/\(0<=dR 1->0<=n.getD (dR 1).toNat 0))))/\(decide (0+1+1+1<l)=false->(1,n.getD (Int.toNat 0) 0,n.getD ((0:Int)+1).toNat 0,n.getD ((0:Int)+1+1).toNat 0,0)=lx 1 n/\(0<=dR 1->0<=n.getD (dR 1).toNat 0)))/\(decide (0+1+1<l)=false->(1,n.getD (Int.toNat 0) 0,n.getD ((0:Int)+1).toNat 0,0,0)=lx 1 n/\(0<=dR 1->0<=n.getD (dR 1).toNat 0)))/\(decide (0+1<l)=false->(1,n.getD (Int.toNat 0) 0,0,0,0)=lx 1 n/\(0<=dR 1->0<=n.getD (dR 1).toNat 0)))/\(decide (0<l)=false->(1,0,0,0,0)=lx 1 n/\(0<=dR 1->0<=n.getD (dR 1).toNat 0)))) (n.length:Int)
abbrev Pn (x:de) (w:List (List UInt8)) (n:List Int):Prop:=(fun (l:Int)=>((decide (0<l)=true->(0:Int)<=0/\0<l/\Int.toNat 0<n.length/\(0:Int)<=0/\0<(↑(3:Nat):Int)/\(0:Int)<=1/\1<=(↑(3:Nat):Int)/\am .i64 (0+1)/\(decide (0+1<l)=true->(0:Int)<=0+1/\0+1<l/\((0:Int)+1).toNat<n.length/\(0:Int)<=0/\0<(↑(3 - Int.toNat 1):Int)/\(0:Int)<=1/\1<=(↑(3 - Int.toNat 1):Int)/\am .i64 (0+1+1)/\(decide (0+1+1<l)=true->(0:Int)<=0+1+1/\0+1+1<l/\((0:Int)+1+1).toNat<n.length/\(decide (n.getD ((0:Int)+1+1).toNat (0:Int)<0)=true->(([]:List Int),4)=(aQ x w).1/\x=(aQ x w).2)/\(decide (n.getD ((0:Int)+1+1).toNat (0:Int)<0)=false->am .i64 (0+1+1+1)/\(decide (0+1+1+1<l)=true->(0:Int)<=0+1+1+1/\0+1+1+1<l/\((0:Int)+1+1+1).toNat<n.length/\(0:Int)<=0/\0<(↑(3 - Int.toNat 1 - Int.toNat 1):Int)/\(0:Int)<=1/\1<=(↑(3 - Int.toNat 1 - Int.toNat 1):Int)/\am .i64 (0+1+1+1+1)/\(decide (0+1+1+1+1<l)=true->(0:Int)<=0+1+1+1+1/\0+1+1+1+1<l/\((0:Int)+1+1+1+1).toNat<n.length/\False)/\(decide (0+1+1+1+1<l)=false->(6,n.getD (Int.toNat 0) 0,n.getD ((0:Int)+1).toNat 0,n.getD ((0:Int)+1+1+1).toNat 0,IntKind.u64.wrap (n.getD ((0:Int)+1+1).toNat 0))=lx 6 n/\(0<=dR 6->0<=n.getD (dR 6).toNat 0)))/\(decide (0+1+1+1<l)=false->(6,n.getD (Int.toNat 0) 0,n.getD ((0:Int)+1).toNat 0,0,IntKind.u64.wrap (n.getD ((0:Int)+1+1).toNat 0))=lx 6 n/\(0<=dR 6->0<=n.getD (dR 6).toNat 0))))/\(decide (0+1+1<l)=false->(6,n.getD (Int.toNat 0) 0,n.getD ((0:Int)+1).toNat 0,0,0)=lx 6 n/\(0<=dR 6->0<=n.getD (dR 6).toNat 0)))/\(decide (0+1<l)=false->(6,n.getD (Int.toNat 0) 0,0,0,0)=lx 6 n/\(0<=dR 6->0<=n.getD (dR 6).toNat 0)))/\(decide (0<l)=false->(6,0,0,0,0)=lx 6 n/\(0<=dR 6->0<=n.getD (dR 6).toNat 0)))) (n.length:Int)
abbrev Pa (x:de) (w:List (List UInt8)) (n:List Int):Prop:=(fun (l:Int)=>((decide (0<l)=true->(0:Int)<=0/\0<l/\Int.toNat 0<n.length/\(0:Int)<=0/\0<(↑(3:Nat):Int)/\(0:Int)<=1/\1<=(↑(3:Nat):Int)/\am .i64 (0+1)/\(decide (0+1<l)=true->(0:Int)<=0+1/\0+1<l/\((0:Int)+1).toNat<n.length/\(decide (n.getD ((0:Int)+1).toNat (0:Int)<0)=true->(([]:List Int),4)=(aQ x w).1/\x=(aQ x w).2)/\(decide (n.getD ((0:Int)+1).toNat (0:Int)<0)=false->am .i64 (0+1+1)/\(decide (0+1+1<l)=true->(0:Int)<=0+1+1/\0+1+1<l/\((0:Int)+1+1).toNat<n.length/\(0:Int)<=0/\0<(↑(3 - Int.toNat 1):Int)/\(0:Int)<=1/\1<=(↑(3 - Int.toNat 1):Int)/\am .i64 (0+1+1+1)/\(decide (0+1+1+1<l)=true->(0:Int)<=0+1+1+1/\0+1+1+1<l/\((0:Int)+1+1+1).toNat<n.length/\(0:Int)<=0/\0<(↑(3 - Int.toNat 1 - Int.toNat 1):Int)/\(0:Int)<=1/\1<=(↑(3 - Int.toNat 1 - Int.toNat 1):Int)/\am .i64 (0+1+1+1+1)/\(decide (0+1+1+1+1<l)=true->(0:Int)<=0+1+1+1+1/\0+1+1+1+1<l/\((0:Int)+1+1+1+1).toNat<n.length/\False)/\(decide (0+1+1+1+1<l)=false->(11,n.getD (Int.toNat 0) 0,n.getD ((0:Int)+1+1).toNat 0,n.getD ((0:Int)+1+1+1).toNat 0,IntKind.u64.wrap (n.getD ((0:Int)+1).toNat 0))=lx 11 n/\(0<=dR 11->0<=n.getD (dR 11).toNat 0)))/\(decide (0+1+1+1<l)=false->(11,n.getD (Int.toNat 0) 0,n.getD ((0:Int)+1+1).toNat 0,0,IntKind.u64.wrap (n.getD ((0:Int)+1).toNat 0))=lx 11 n/\(0<=dR 11->0<=n.getD (dR 11).toNat 0)))/\(decide (0+1+1<l)=false->(11,n.getD (Int.toNat 0) 0,0,0,IntKind.u64.wrap (n.getD ((0:Int)+1).toNat 0))=lx 11 n/\(0<=dR 11->0<=n.getD (dR 11).toNat 0))))/\(decide (0+1<l)=false->(11,n.getD (Int.toNat 0) 0,0,0,0)=lx 11 n/\(0<=dR 11->0<=n.getD (dR 11).toNat 0)))/\(decide (0<l)=false->(11,0,0,0,0)=lx 11 n/\(0<=dR 11->0<=n.getD (dR 11).toNat 0)))) (n.length:Int)
abbrev O9 (x:de) (w:List (List UInt8)) (n:List Int):Prop:=(fun (l:Int)=>((decide (0<l)=true->(0:Int)<=0/\0<l/\Int.toNat 0<n.length/\(decide (n.getD (Int.toNat 0) (0:Int)<0)=true->(([]:List Int),4)=(aQ x w).1/\x=(aQ x w).2)/\(decide (n.getD (Int.toNat 0) (0:Int)<0)=false->am .i64 (0+1)/\(decide (0+1<l)=true->(0:Int)<=0+1/\0+1<l/\((0:Int)+1).toNat<n.length/\(0:Int)<=0/\0<(↑(3:Nat):Int)/\(0:Int)<=1/\1<=(↑(3:Nat):Int)/\am .i64 (0+1+1)/\(decide (0+1+1<l)=true->(0:Int)<=0+1+1/\0+1+1<l/\((0:Int)+1+1).toNat<n.length/\(0:Int)<=0/\0<(↑(3 - Int.toNat 1):Int)/\(0:Int)<=1/\1<=(↑(3 - Int.toNat 1):Int)/\am .i64 (0+1+1+1)/\(decide (0+1+1+1<l)=true->(0:Int)<=0+1+1+1/\0+1+1+1<l/\((0:Int)+1+1+1).toNat<n.length/\(0:Int)<=0/\0<(↑(3 - Int.toNat 1 - Int.toNat 1):Int)/\(0:Int)<=1/\1<=(↑(3 - Int.toNat 1 - Int.toNat 1):Int)/\am .i64 (0+1+1+1+1)/\(decide (0+1+1+1+1<l)=true->(0:Int)<=0+1+1+1+1/\0+1+1+1+1<l/\((0:Int)+1+1+1+1).toNat<n.length/\False)/\(decide (0+1+1+1+1<l)=false->(12,n.getD ((0:Int)+1).toNat 0,n.getD ((0:Int)+1+1).toNat 0,n.getD ((0:Int)+1+1+1).toNat 0,IntKind.u64.wrap (n.getD (Int.toNat 0) 0))=lx 12 n/\(0<=dR 12->0<=n.getD (dR 12).toNat 0)))/\(decide (0+1+1+1<l)=false->(12,n.getD ((0:Int)+1).toNat 0,n.getD ((0:Int)+1+1).toNat 0,0,IntKind.u64.wrap (n.getD (Int.toNat 0) 0))=lx 12 n/\(0<=dR 12->0<=n.getD (dR 12).toNat 0)))/\(decide (0+1+1<l)=false->(12,n.getD ((0:Int)+1).toNat 0,0,0,IntKind.u64.wrap (n.getD (Int.toNat 0) 0))=lx 12 n/\(0<=dR 12->0<=n.getD (dR 12).toNat 0)))/\(decide (0+1<l)=false->(12,0,0,0,IntKind.u64.wrap (n.getD (Int.toNat 0) 0))=lx 12 n/\(0<=dR 12->0<=n.getD (dR 12).toNat 0))))/\(decide (0<l)=false->(12,0,0,0,0)=lx 12 n/\(0<=dR 12->0<=n.getD (dR 12).toNat 0)))) (n.length:Int)
abbrev JQ (x:de) (w:List (List UInt8)) (o:NT):Prop:=(fun (r:an×Int×Int)=>True/\x.2.1=x.2.1/\x.2.2.1=x.2.2.1/\x.2.2.2.1=x.2.2.2.1/\x.2.2.2.2=x.2.2.2.2/\o.1=o.1/\o.2.1=o.2.1/\o.2.2.1=o.2.2.1/\o.2.2.2.1=o.2.2.2.1/\o.2.2.2.2=o.2.2.2.2/\True/\r.1.1=r.1.1/\r.1.2.1=r.1.2.1/\r.1.2.2.1=r.1.2.2.1/\r.1.2.2.2=r.1.2.2.2/\r.2.1=r.2.1/\r.2.2=r.2.2/\r.1.1=r.1.1/\r.1.2.1=r.1.2.1/\r.1.2.2.1=r.1.2.2.1/\r.1.2.2.2=r.1.2.2.2/\r.2.1=r.2.1/\r.2.2=r.2.2/\r.1.1=r.1.1/\r.1.2.1=r.1.2.1/\r.1.2.2.1=r.1.2.2.1/\r.1.2.2.2=r.1.2.2.2/\r.2.1=r.2.1/\r.2.1=r.2.1/\r.2.2=r.2.2/\r.2.2=r.2.2/\r.2.2=r.2.2/\(decide (r.2.2≠0)=true->(([]:List Int),r.2.2)=(aQ x w).1/\x=(aQ x w).2)/\(decide (r.2.2≠0)=false->([IntKind.i64.wrap r.2.1],0)=(aQ x w).1/\(x.1,r.1)=(aQ x w).2)) (b7 x.2 o.1 o.2.1 o.2.2.1 o.2.2.2.1 o.2.2.2.2)
abbrev Hu (x:de) (w:List (List UInt8)) (o:NT):Prop:=(fun (r:an×Int×Int)=>True/\x.2.1=x.2.1/\x.2.2.1=x.2.2.1/\x.2.2.2.1=x.2.2.2.1/\x.2.2.2.2=x.2.2.2.2/\o.1=o.1/\o.2.1=o.2.1/\o.2.2.1=o.2.2.1/\o.2.2.2.1=o.2.2.2.1/\o.2.2.2.2=o.2.2.2.2/\True/\r.1.1=r.1.1/\r.1.2.1=r.1.2.1/\r.1.2.2.1=r.1.2.2.1/\r.1.2.2.2=r.1.2.2.2/\r.2.1=r.2.1/\r.2.2=r.2.2/\r.1.1=r.1.1/\r.1.2.1=r.1.2.1/\r.1.2.2.1=r.1.2.2.1/\r.1.2.2.2=r.1.2.2.2/\r.2.1=r.2.1/\r.2.2=r.2.2/\r.1.1=r.1.1/\r.1.2.1=r.1.2.1/\r.1.2.2.1=r.1.2.2.1/\r.1.2.2.2=r.1.2.2.2/\r.2.1=r.2.1/\r.2.1=r.2.1/\r.2.2=r.2.2/\r.2.2=r.2.2/\r.2.2=r.2.2/\(decide (r.2.2≠0)=true->(([]:List Int),r.2.2)=(aQ x w).1/\x=(aQ x w).2)/\(decide (r.2.2≠0)=false->(([]:List Int),0)=(aQ x w).1/\(x.1,r.1)=(aQ x w).2)) (b7 x.2 o.1 o.2.1 o.2.2.1 o.2.2.2.1 o.2.2.2.2)
abbrev lw (U:Prop) (D:NT->Prop) (k:Int) (n:List Int):Prop:=U/\∀ o:NT,o=lx k n/\(0<=dR k->0<=n.getD (dR k).toNat 0)->D o
theorem ee {d:de} {w:List (List UInt8)} {many:Int} {store:Bool} {a:Act} {R:List Int×Int->Prop} (h0:0<w.length) (hb:w.length<=4294967281) (hw:A0 (w.getD 0 [])=some (many,store,a))
  (hR:∀ x:List Int×Int,(x.1.length:Int)=many->(∀ v∈x.1,-1000000000000000<v/\v<1000000000000000)->(store&&!d.1)=false->aQ d w=me d x.1 a->R x) :
  ir d w many store R:=by
 unfold ir;have e1:w.drop (Int.toNat 1)=w.tail:=by simp
 have hL:aQ d w=if ((w.length:Nat):Int) - 1≠many then (([],3),d) else match gc w.tail with
  | none=>(([],3),d)
  | some n=>if store&&!d.1 then (([],8),d) else me d n a:=by unfold aQ; rw [hw]
 rw [e1];have ht:w.tail.length=w.length - 1:=by simp
 refine ⟨fun h=>(by cases h),fun _=>⟨(by simp only [am]; omega),fun h=>?_,fun h=>?_⟩⟩
 ·rw [hL,if_pos (Pt h)];exact ⟨rfl,rfl⟩
 rw [if_neg (Pu h)] at hL;have h:=Pu h;refine ⟨by omega,by omega,⟨by omega,by omega,rfl⟩,fun x ⟨x0,x1,x2⟩=>⟨fun hlt=>?_,fun hge=>?_⟩⟩
 ·have hlt:=Pt hlt;have hl:=(qJ _ _ x2).1;rw [PM] at hl;refine ⟨x0,hlt,trivial,fun hn=>?_,fun hn=>?_⟩
  ·have hn:(fV (w.tail.getD x.2.toNat [])).2=false:=by simpa using hn
   rw [xZ w.tail _ (aH [] x0 hlt) hn] at hL;rw [hL];exact ⟨rfl,rfl⟩
  ·have hn:(fV (w.tail.getD x.2.toNat [])).2=true:=by simpa using hn
   unfold aF;simp only [Pz,P4,am];refine ⟨by omega,by omega,⟨by omega,by omega,?_⟩,by omega⟩;rw [a7 ([]:List UInt8) x0 hlt];exact uy _ _ _ x2 hn
 ·have hge:=Pu hge;rw [PJ (by omega)] at x2;rw [x2] at hL;obtain ⟨hl,hin⟩:=qJ _ _ x2;refine ⟨fun hs=>?_,fun hs=>?_⟩
  ·simp only [hs,if_true] at hL;rw [hL];exact ⟨rfl,rfl⟩
  ·simp only [hs,PG,P5] at hL;exact hR x (by omega) hin hs hL
theorem dt {d:de} {k:Int} {told:Bool} {n:List Int} (hv:0<=dR k->0<=n.getD (dR k).toNat 0) {o:NT} (ho:o=lx k n) :
  qg d k (dR k) told n=if (b7 d.2 o.1 o.2.1 o.2.2.1 o.2.2.2.1 o.2.2.2.2).2.2≠0 then (([],(b7 d.2 o.1 o.2.1 o.2.2.1 o.2.2.2.1 o.2.2.2.2).2.2),d) else ((if told then [IntKind.i64.wrap (b7 d.2 o.1 o.2.1 o.2.2.1 o.2.2.2.1 o.2.2.2.2).2.1] else [],0),(d.1,(b7 d.2 o.1 o.2.1 o.2.2.1 o.2.2.2.1 o.2.2.2.2).1)):=by
 subst ho;unfold qg;rw [if_neg (fun h=>by have:=hv h.1; omega)];rfl
theorem qf {d:de} {k:Int} {told:Bool} {n:List Int} (h0:0<=dR k) (hv:n.getD (dR k).toNat 0<0):qg d k (dR k) told n=(([],4),d):=by
 unfold qg;rw [if_pos ⟨h0,hv⟩]
theorem dF {r:an×Int×Int} {d:de} {x:(List Int×Int)×de} {l:List Int} (h:x=if r.2.2≠0 then (([],r.2.2),d) else ((l,0),(d.1,r.1))) :
  (decide (r.2.2≠0)=true->(([]:List Int),r.2.2)=x.1/\d=x.2)/\(decide (r.2.2≠0)=false->(l,(0:Int))=x.1/\(d.1,r.1)=x.2):=by
 refine ⟨fun h1=>?_,fun h1=>?_⟩
 ·rw [h,if_pos (Pt h1)];exact ⟨rfl,rfl⟩
 ·rw [h,if_neg (Pu h1)];exact ⟨rfl,rfl⟩
theorem Lk {n:List Int} (h:n.length=0):n=[]:=by
 match n,h with
 | [],_=>exact rfl
theorem mM {n:List Int} (h:n.length=1):∃ n0,n=[n0]:=by
 match n,h with
 | [a0],_=>exact ⟨_,rfl⟩
theorem uG {n:List Int} (h:n.length=2):∃ n0 n1,n=[n0,n1]:=by
 match n,h with
 | [a0,a1],_=>exact ⟨_,_,rfl⟩
theorem pH {n:List Int} (h:n.length=3):∃ n0 n1 n2,n=[n0,n1,n2]:=by
 match n,h with
 | [a0,a1,a2],_=>exact ⟨_,_,_,rfl⟩
theorem Lj {n:List Int} (h:n.length=4):∃ n0 n1 n2 n3,n=[n0,n1,n2,n3]:=by
 match n,h with
 | [a0,a1,a2,a3],_=>exact ⟨_,_,_,_,rfl⟩
def xK:Prop :=
  ∀ (x:Bool×List Int×List Int×List (Int×Int)×List (Int×Bool×Int)) (y:List UInt8),(True/\qo x.2)->y.length<=aF->y.length<4294967281->∀ (_:Array Value),([(32:UInt8)]=[(32:UInt8)]/\y.length<4294967281)/\(0:Int)<=0/\0<(↑(ak y).length:Int)/\∀ (_:Array Value),(decide ((ak y).getD (Int.toNat 0) ([]:List UInt8)=[(110:UInt8),(101:UInt8),(119:UInt8)])=true->ir x (ak y) 3 false (fun (x_1:List Int×Int)=>∀ (_:Array Value),(0:Int)<=0/\0<(x_1.1.length:Int)/\Int.toNat 0<x_1.1.length/\(0:Int)<=1/\1<(x_1.1.length:Int)/\Int.toNat 1<x_1.1.length/\(0:Int)<=2/\2<(x_1.1.length:Int)/\Int.toNat 2<x_1.1.length/\True/\(0:Int)<=0/\0<(x_1.1.length:Int)/\Int.toNat 0=Int.toNat 0/\Int.toNat 0<x_1.1.length/\x_1.1.getD (Int.toNat 0) 0=x_1.1.getD (Int.toNat 0) 0/\(0:Int)<=1/\1<(x_1.1.length:Int)/\Int.toNat 1=Int.toNat 1/\Int.toNat 1<x_1.1.length/\x_1.1.getD (Int.toNat 1) 0=x_1.1.getD (Int.toNat 1) 0/\(0:Int)<=2/\2<(x_1.1.length:Int)/\Int.toNat 2=Int.toNat 2/\Int.toNat 2<x_1.1.length/\x_1.1.getD (Int.toNat 2) 0=x_1.1.getD (Int.toNat 2) 0/\True/\(az (x_1.1.getD (Int.toNat 0) 0) (x_1.1.getD (Int.toNat 1) 0) (x_1.1.getD (Int.toNat 2) 0)).1.1=(az (x_1.1.getD (Int.toNat 0) 0) (x_1.1.getD (Int.toNat 1) 0) (x_1.1.getD (Int.toNat 2) 0)).1.1/\(az (x_1.1.getD (Int.toNat 0) 0) (x_1.1.getD (Int.toNat 1) 0) (x_1.1.getD (Int.toNat 2) 0)).1.2.1=(az (x_1.1.getD (Int.toNat 0) 0) (x_1.1.getD (Int.toNat 1) 0) (x_1.1.getD (Int.toNat 2) 0)).1.2.1/\(az (x_1.1.getD (Int.toNat 0) 0) (x_1.1.getD (Int.toNat 1) 0) (x_1.1.getD (Int.toNat 2) 0)).1.2.2.1=(az (x_1.1.getD (Int.toNat 0) 0) (x_1.1.getD (Int.toNat 1) 0) (x_1.1.getD (Int.toNat 2) 0)).1.2.2.1/\(az (x_1.1.getD (Int.toNat 0) 0) (x_1.1.getD (Int.toNat 1) 0) (x_1.1.getD (Int.toNat 2) 0)).1.2.2.2=(az (x_1.1.getD (Int.toNat 0) 0) (x_1.1.getD (Int.toNat 1) 0) (x_1.1.getD (Int.toNat 2) 0)).1.2.2.2/\(az (x_1.1.getD (Int.toNat 0) 0) (x_1.1.getD (Int.toNat 1) 0) (x_1.1.getD (Int.toNat 2) 0)).2=(az (x_1.1.getD (Int.toNat 0) 0) (x_1.1.getD (Int.toNat 1) 0) (x_1.1.getD (Int.toNat 2) 0)).2/\(az (x_1.1.getD (Int.toNat 0) 0) (x_1.1.getD (Int.toNat 1) 0) (x_1.1.getD (Int.toNat 2) 0)).1.1=(az (x_1.1.getD (Int.toNat 0) 0) (x_1.1.getD (Int.toNat 1) 0) (x_1.1.getD (Int.toNat 2) 0)).1.1/\(az (x_1.1.getD (Int.toNat 0) 0) (x_1.1.getD (Int.toNat 1) 0) (x_1.1.getD (Int.toNat 2) 0)).1.2.1=(az (x_1.1.getD (Int.toNat 0) 0) (x_1.1.getD (Int.toNat 1) 0) (x_1.1.getD (Int.toNat 2) 0)).1.2.1/\(az (x_1.1.getD (Int.toNat 0) 0) (x_1.1.getD (Int.toNat 1) 0) (x_1.1.getD (Int.toNat 2) 0)).1.2.2.1=(az (x_1.1.getD (Int.toNat 0) 0) (x_1.1.getD (Int.toNat 1) 0) (x_1.1.getD (Int.toNat 2) 0)).1.2.2.1/\(az (x_1.1.getD (Int.toNat 0) 0) (x_1.1.getD (Int.toNat 1) 0) (x_1.1.getD (Int.toNat 2) 0)).1.2.2.2=(az (x_1.1.getD (Int.toNat 0) 0) (x_1.1.getD (Int.toNat 1) 0) (x_1.1.getD (Int.toNat 2) 0)).1.2.2.2/\(az (x_1.1.getD (Int.toNat 0) 0) (x_1.1.getD (Int.toNat 1) 0) (x_1.1.getD (Int.toNat 2) 0)).2=(az (x_1.1.getD (Int.toNat 0) 0) (x_1.1.getD (Int.toNat 1) 0) (x_1.1.getD (Int.toNat 2) 0)).2/\(az (x_1.1.getD (Int.toNat 0) 0) (x_1.1.getD (Int.toNat 1) 0) (x_1.1.getD (Int.toNat 2) 0)).1.1=(az (x_1.1.getD (Int.toNat 0) 0) (x_1.1.getD (Int.toNat 1) 0) (x_1.1.getD (Int.toNat 2) 0)).1.1/\(az (x_1.1.getD (Int.toNat 0) 0) (x_1.1.getD (Int.toNat 1) 0) (x_1.1.getD (Int.toNat 2) 0)).1.2.1=(az (x_1.1.getD (Int.toNat 0) 0) (x_1.1.getD (Int.toNat 1) 0) (x_1.1.getD (Int.toNat 2) 0)).1.2.1/\(az (x_1.1.getD (Int.toNat 0) 0) (x_1.1.getD (Int.toNat 1) 0) (x_1.1.getD (Int.toNat 2) 0)).1.2.2.1=(az (x_1.1.getD (Int.toNat 0) 0) (x_1.1.getD (Int.toNat 1) 0) (x_1.1.getD (Int.toNat 2) 0)).1.2.2.1/\(az (x_1.1.getD (Int.toNat 0) 0) (x_1.1.getD (Int.toNat 1) 0) (x_1.1.getD (Int.toNat 2) 0)).1.2.2.2=(az (x_1.1.getD (Int.toNat 0) 0) (x_1.1.getD (Int.toNat 1) 0) (x_1.1.getD (Int.toNat 2) 0)).1.2.2.2/\(az (x_1.1.getD (Int.toNat 0) 0) (x_1.1.getD (Int.toNat 1) 0) (x_1.1.getD (Int.toNat 2) 0)).2=(az (x_1.1.getD (Int.toNat 0) 0) (x_1.1.getD (Int.toNat 1) 0) (x_1.1.getD (Int.toNat 2) 0)).2/\(az (x_1.1.getD (Int.toNat 0) 0) (x_1.1.getD (Int.toNat 1) 0) (x_1.1.getD (Int.toNat 2) 0)).2=(az (x_1.1.getD (Int.toNat 0) 0) (x_1.1.getD (Int.toNat 1) 0) (x_1.1.getD (Int.toNat 2) 0)).2/\(decide ((az (x_1.1.getD (Int.toNat 0) 0) (x_1.1.getD (Int.toNat 1) 0) (x_1.1.getD (Int.toNat 2) 0)).2=0)=true->(([]:List Int),(az (x_1.1.getD (Int.toNat 0) 0) (x_1.1.getD (Int.toNat 1) 0) (x_1.1.getD (Int.toNat 2) 0)).2)=(aQ x (ak y)).1/\(true,(az (x_1.1.getD (Int.toNat 0) 0) (x_1.1.getD (Int.toNat 1) 0) (x_1.1.getD (Int.toNat 2) 0)).1)=(aQ x (ak y)).2)/\(decide ((az (x_1.1.getD (Int.toNat 0) 0) (x_1.1.getD (Int.toNat 1) 0) (x_1.1.getD (Int.toNat 2) 0)).2=0)=false->(([]:List Int),(az (x_1.1.getD (Int.toNat 0) 0) (x_1.1.getD (Int.toNat 1) 0) (x_1.1.getD (Int.toNat 2) 0)).2)=(aQ x (ak y)).1/\x=(aQ x (ak y)).2)))/\(decide ((ak y).getD (Int.toNat 0) ([]:List UInt8)=[(110:UInt8),(101:UInt8),(119:UInt8)])=false->(decide ((ak y).getD (Int.toNat 0) ([]:List UInt8)=[(109:UInt8),(97:UInt8),(107:UInt8),(101:UInt8)])=true->∀ (_:Array Value),ir x (ak y) 4 true (fun (x_1:List Int×Int)=>∀ (_:Array Value),lw (Po x (ak y) x_1.1) (JQ x (ak y)) 1 x_1.1))/\(decide ((ak y).getD (Int.toNat 0) ([]:List UInt8)=[(109:UInt8),(97:UInt8),(107:UInt8),(101:UInt8)])=false->(decide ((ak y).getD (Int.toNat 0) ([]:List UInt8)=[(99:UInt8),(111:UInt8),(108:UInt8),(108:UInt8),(101:UInt8),(99:UInt8),(116:UInt8)])=true->∀ (_:Array Value),ir x (ak y) 0 true (fun (x_1:List Int×Int)=>∀ (_:Array Value),lw (AY 2 x_1.1) (JQ x (ak y)) 2 x_1.1))/\(decide ((ak y).getD (Int.toNat 0) ([]:List UInt8)=[(99:UInt8),(111:UInt8),(108:UInt8),(108:UInt8),(101:UInt8),(99:UInt8),(116:UInt8)])=false->(decide ((ak y).getD (Int.toNat 0) ([]:List UInt8)=[(114:UInt8),(101:UInt8),(102:UInt8)])=true->∀ (_:Array Value),ir x (ak y) 3 true (fun (x_1:List Int×Int)=>∀ (_:Array Value),lw (AY 3 x_1.1) (Hu x (ak y)) 3 x_1.1))/\(decide ((ak y).getD (Int.toNat 0) ([]:List UInt8)=[(114:UInt8),(101:UInt8),(102:UInt8)])=false->(decide ((ak y).getD (Int.toNat 0) ([]:List UInt8)=[(115:UInt8),(101:UInt8),(116:UInt8)])=true->∀ (_:Array Value),ir x (ak y) 3 true (fun (x_1:List Int×Int)=>∀ (_:Array Value),lw (AY 4 x_1.1) (Hu x (ak y)) 4 x_1.1))/\(decide ((ak y).getD (Int.toNat 0) ([]:List UInt8)=[(115:UInt8),(101:UInt8),(116:UInt8)])=false->(decide ((ak y).getD (Int.toNat 0) ([]:List UInt8)=[(103:UInt8),(101:UInt8),(116:UInt8)])=true->∀ (_:Array Value),ir x (ak y) 2 true (fun (x_1:List Int×Int)=>∀ (_:Array Value),lw (AY 5 x_1.1) (JQ x (ak y)) 5 x_1.1))/\(decide ((ak y).getD (Int.toNat 0) ([]:List UInt8)=[(103:UInt8),(101:UInt8),(116:UInt8)])=false->(decide ((ak y).getD (Int.toNat 0) ([]:List UInt8)=[(112:UInt8),(117:UInt8),(116:UInt8)])=true->∀ (_:Array Value),ir x (ak y) 3 true (fun (x_1:List Int×Int)=>∀ (_:Array Value),lw (Pn x (ak y) x_1.1) (Hu x (ak y)) 6 x_1.1))/\(decide ((ak y).getD (Int.toNat 0) ([]:List UInt8)=[(112:UInt8),(117:UInt8),(116:UInt8)])=false->(decide ((ak y).getD (Int.toNat 0) ([]:List UInt8)=[(112:UInt8),(105:UInt8),(110:UInt8)])=true->∀ (_:Array Value),ir x (ak y) 1 true (fun (x_1:List Int×Int)=>∀ (_:Array Value),lw (AY 7 x_1.1) (JQ x (ak y)) 7 x_1.1))/\(decide ((ak y).getD (Int.toNat 0) ([]:List UInt8)=[(112:UInt8),(105:UInt8),(110:UInt8)])=false->(decide ((ak y).getD (Int.toNat 0) ([]:List UInt8)=[(117:UInt8),(110:UInt8),(112:UInt8),(105:UInt8),(110:UInt8)])=true->∀ (_:Array Value),ir x (ak y) 1 true (fun (x_1:List Int×Int)=>∀ (_:Array Value),lw (AY 8 x_1.1) (Hu x (ak y)) 8 x_1.1))/\(decide ((ak y).getD (Int.toNat 0) ([]:List UInt8)=[(117:UInt8),(110:UInt8),(112:UInt8),(105:UInt8),(110:UInt8)])=false->(decide ((ak y).getD (Int.toNat 0) ([]:List UInt8)=[(112:UInt8),(101:UInt8),(101:UInt8),(107:UInt8)])=true->∀ (_:Array Value),ir x (ak y) 2 true (fun (x_1:List Int×Int)=>∀ (_:Array Value),lw (AY 9 x_1.1) (JQ x (ak y)) 9 x_1.1))/\(decide ((ak y).getD (Int.toNat 0) ([]:List UInt8)=[(112:UInt8),(101:UInt8),(101:UInt8),(107:UInt8)])=false->(decide ((ak y).getD (Int.toNat 0) ([]:List UInt8)=[(111:UInt8),(112:UInt8),(101:UInt8),(110:UInt8)])=true->∀ (_:Array Value),ir x (ak y) 1 true (fun (x_1:List Int×Int)=>∀ (_:Array Value),lw (AY 10 x_1.1) (JQ x (ak y)) 10 x_1.1))/\(decide ((ak y).getD (Int.toNat 0) ([]:List UInt8)=[(111:UInt8),(112:UInt8),(101:UInt8),(110:UInt8)])=false->(decide ((ak y).getD (Int.toNat 0) ([]:List UInt8)=[(117:UInt8),(115:UInt8),(101:UInt8)])=true->∀ (_:Array Value),ir x (ak y) 2 true (fun (x_1:List Int×Int)=>∀ (_:Array Value),lw (Pa x (ak y) x_1.1) (Hu x (ak y)) 11 x_1.1))/\(decide ((ak y).getD (Int.toNat 0) ([]:List UInt8)=[(117:UInt8),(115:UInt8),(101:UInt8)])=false->(decide ((ak y).getD (Int.toNat 0) ([]:List UInt8)=[(115:UInt8),(104:UInt8),(117:UInt8),(116:UInt8)])=true->∀ (_:Array Value),ir x (ak y) 1 true (fun (x_1:List Int×Int)=>∀ (_:Array Value),lw (O9 x (ak y) x_1.1) (Hu x (ak y)) 12 x_1.1))/\(decide ((ak y).getD (Int.toNat 0) ([]:List UInt8)=[(115:UInt8),(104:UInt8),(117:UInt8),(116:UInt8)])=false->(decide ((ak y).getD (Int.toNat 0) ([]:List UInt8)=[(100:UInt8),(114:UInt8),(111:UInt8),(112:UInt8)])=true->∀ (_:Array Value),ir x (ak y) 1 true (fun (x_1:List Int×Int)=>∀ (_:Array Value),lw (AY 13 x_1.1) (Hu x (ak y)) 13 x_1.1))/\(decide ((ak y).getD (Int.toNat 0) ([]:List UInt8)=[(100:UInt8),(114:UInt8),(111:UInt8),(112:UInt8)])=false->(decide ((ak y).getD (Int.toNat 0) ([]:List UInt8)=[(103:UInt8),(97:UInt8),(112:UInt8),(115:UInt8)])=true->ir x (ak y) 0 true (fun (_:List Int×Int)=>∀ (_:Array Value),True/\((0:Int)<=0/\0<=(↑(aq x.2.1).1.length:Int)/\([]:List Int)=List.flatMap (fun (x:Int×Int)=>[x.1,x.2]) (List.take (Int.toNat 0) (aq x.2.1).1))/\∀ (x_2:List Int×Int),0<=x_2.2/\x_2.2<=(↑(aq x.2.1).1.length:Int)/\x_2.1=List.flatMap (fun (x:Int×Int)=>[x.1,x.2]) (List.take x_2.2.toNat (aq x.2.1).1)->(decide (x_2.2<(↑(aq x.2.1).1.length:Int))=true->0<=x_2.2/\x_2.2<(↑(aq x.2.1).1.length:Int)/\x_2.2.toNat<(aq x.2.1).1.length/\(x_2.1.length+[((aq x.2.1).1.getD x_2.2.toNat (0,0)).1,((aq x.2.1).1.getD x_2.2.toNat (0,0)).2].length) * 8<=aF/\am .i64 (x_2.2+1)/\(0<=x_2.2+1/\x_2.2+1<=(↑(aq x.2.1).1.length:Int)/\x_2.1++[((aq x.2.1).1.getD x_2.2.toNat (0,0)).1,((aq x.2.1).1.getD x_2.2.toNat (0,0)).2]=List.flatMap (fun (x:Int×Int)=>[x.1,x.2]) (List.take (x_2.2+1).toNat (aq x.2.1).1))/\((↑(aq x.2.1).1.length:Int) - (x_2.2+1)).toNat<((↑(aq x.2.1).1.length:Int) - x_2.2).toNat)/\(decide (x_2.2<(↑(aq x.2.1).1.length:Int))=false->(x_2.1,(aq x.2.1).2)=(aQ x (ak y)).1/\x=(aQ x (ak y)).2)))/\(decide ((ak y).getD (Int.toNat 0) ([]:List UInt8)=[(103:UInt8),(97:UInt8),(112:UInt8),(115:UInt8)])=false->(decide ((ak y).getD (Int.toNat 0) ([]:List UInt8)=[(108:UInt8),(105:UInt8),(118:UInt8),(101:UInt8)])=true->ir x (ak y) 0 true (fun (_:List Int×Int)=>∀ (_:Array Value),True/\([(kx x.2).1],(kx x.2).2)=(aQ x (ak y)).1/\x=(aQ x (ak y)).2))/\(decide ((ak y).getD (Int.toNat 0) ([]:List UInt8)=[(108:UInt8),(105:UInt8),(118:UInt8),(101:UInt8)])=false->(decide ((ak y).getD (Int.toNat 0) ([]:List UInt8)=[(114:UInt8),(111:UInt8),(111:UInt8),(116:UInt8),(115:UInt8)])=true->ir x (ak y) 0 true (fun (_:List Int×Int)=>∀ (_:Array Value),(x.2.2.1,0)=(aQ x (ak y)).1/\x=(aQ x (ak y)).2))/\(decide ((ak y).getD (Int.toNat 0) ([]:List UInt8)=[(114:UInt8),(111:UInt8),(111:UInt8),(116:UInt8),(115:UInt8)])=false->((!false)=true->(([]:List Int),1)=(aQ x (ak y)).1/\x=(aQ x (ak y)).2)/\((!false)=false->am .i64 ((↑(ak y).length:Int) - 1)/\(decide ((↑(ak y).length:Int) - 1≠0)=true->(([]:List Int),3)=(aQ x (ak y)).1/\x=(aQ x (ak y)).2)/\(decide ((↑(ak y).length:Int) - 1≠0)=false->(0:Int)<=1/\1<=(↑(ak y).length:Int)/\((0:Int)<=0/\0<=(↑(List.drop (Int.toNat 1) (ak y)).length:Int)/\gc (List.take (Int.toNat 0) (List.drop (Int.toNat 1) (ak y)))=some ([]:List Int))/\∀ (x_1:List Int×Int),0<=x_1.2/\x_1.2<=(↑(List.drop (Int.toNat 1) (ak y)).length:Int)/\gc (List.take x_1.2.toNat (List.drop (Int.toNat 1) (ak y)))=some x_1.1->(decide (x_1.2<(↑(List.drop (Int.toNat 1) (ak y)).length:Int))=true->0<=x_1.2/\x_1.2<(↑(List.drop (Int.toNat 1) (ak y)).length:Int)/\True/\((!(fV ((List.drop (Int.toNat 1) (ak y)).getD x_1.2.toNat ([]:List UInt8))).2)=true->(([]:List Int),3)=(aQ x (ak y)).1/\x=(aQ x (ak y)).2)/\((!(fV ((List.drop (Int.toNat 1) (ak y)).getD x_1.2.toNat ([]:List UInt8))).2)=false->(x_1.1.length+[(fV ((List.drop (Int.toNat 1) (ak y)).getD x_1.2.toNat ([]:List UInt8))).1].length) * 8<=aF/\am .i64 (x_1.2+1)/\(0<=x_1.2+1/\x_1.2+1<=(↑(List.drop (Int.toNat 1) (ak y)).length:Int)/\gc (List.take (x_1.2+1).toNat (List.drop (Int.toNat 1) (ak y)))=some (x_1.1++[(fV ((List.drop (Int.toNat 1) (ak y)).getD x_1.2.toNat ([]:List UInt8))).1]))/\((↑(List.drop (Int.toNat 1) (ak y)).length:Int) - (x_1.2+1)).toNat<((↑(List.drop (Int.toNat 1) (ak y)).length:Int) - x_1.2).toNat))/\(decide (x_1.2<(↑(List.drop (Int.toNat 1) (ak y)).length:Int))=false->((false&&!x.1)=true->(([]:List Int),8)=(aQ x (ak y)).1/\x=(aQ x (ak y)).2)/\((false&&!x.1)=false->False)))))))))))))))))))))
theorem Eq:xK:=by
 unfold xK;intro d line hT _ hp tm;have h0:0<(ak line).length:=RI.2 (xc line)
 have hb:(ak line).length<=4294967281:=by
  have h1:=jm line;have h2:line.count 32<=line.length:=QS;omega
 refine ⟨⟨rfl,hp⟩,by omega,by omega,fun tm=>?_⟩;generalize ak line=w at *;refine ⟨fun h=>?_,fun h1=>⟨fun h=>?_,fun h2=>⟨fun h=>?_,fun h3=>⟨fun h=>?_,fun h4=>⟨fun h=>?_,fun h5=>⟨fun h=>?_,fun h6=>⟨fun h=>?_,fun h7=>⟨fun h=>?_,fun h8=>⟨fun h=>?_,fun h9=>⟨fun h=>?_,fun h10=>⟨fun h=>?_,fun h11=>⟨fun h=>?_,fun h12=>⟨fun h=>?_,fun h13=>⟨fun h=>?_,fun h14=>⟨fun h=>?_,fun h15=>⟨fun h=>?_,fun h16=>⟨fun h=>?_,fun h17=>?_⟩⟩⟩⟩⟩⟩⟩⟩⟩⟩⟩⟩⟩⟩⟩⟩⟩
 ·refine ee (a:=.begin) h0 hb (by rw [show w.getD 0 []=[110,101,119] from Pt h]; rfl) fun ⟨n,i⟩ hn hin hs hL=>?_
  simp only at hn hin hL |-;obtain ⟨n0,n1,n2,rfl⟩:=pH (n:=n) (by omega);intro tm;rw [hL];simp [me];by_cases e:(az n0 n1 n2).2=0 <;> simp [e]
 ·intro tm;refine ee (a:=.deed 1 (dR 1) true) h0 hb (by rw [show w.getD 0 []=[109,97,107,101] from Pt h]; rfl) fun ⟨n,i⟩ hn hin hs hL tm=>?_
  simp only at hn hin hL |-;obtain ⟨n0,n1,n2,n3,rfl⟩:∃ n0 n1 n2 n3,n=[n0,n1,n2,n3]:=Lj (by omega);refine ⟨?_,fun o ⟨ho,hv⟩=>?_⟩
  ·simp [Po,lx,dR,ff,am];refine ⟨fun hneg=>?_,fun h0=>⟨fA h0 (by have:=hin n3 (by simp); omega),h0⟩⟩;have hN:=qf (d:=d) (k:=1) (told:=true) (n:=[n0,n1,n2,n3]) (by decide) hneg;rw [hL.trans hN];exact ⟨rfl,rfl⟩
  ·have hE:=dt (d:=d) (told:=true) hv ho;have hT:=dF (hL.trans hE);simpa [JQ] using hT
 ·intro tm;refine ee (a:=.deed 2 (dR 2) true) h0 hb (by rw [show w.getD 0 []=[99,111,108,108,101,99,116] from Pt h]; rfl) fun ⟨n,i⟩ hn hin hs hL tm=>?_
  simp only at hn hin hL |-;obtain rfl:n=[]:=Lk (by omega);refine ⟨?_,fun o ⟨ho,hv⟩=>?_⟩
  ·simp [AY,lx,dR,ff,am]
  ·have hE:=dt (d:=d) (told:=true) hv ho;have hT:=dF (hL.trans hE);simpa [JQ] using hT
 ·intro tm;refine ee (a:=.deed 3 (dR 3) false) h0 hb (by rw [show w.getD 0 []=[114,101,102] from Pt h]; rfl) fun ⟨n,i⟩ hn hin hs hL tm=>?_
  simp only at hn hin hL |-;obtain ⟨n0,n1,n2,rfl⟩:∃ n0 n1 n2,n=[n0,n1,n2]:=pH (by omega);refine ⟨?_,fun o ⟨ho,hv⟩=>?_⟩
  ·simp [AY,lx,dR,ff,am]
  ·have hE:=dt (d:=d) (told:=false) hv ho;have hT:=dF (hL.trans hE);simpa [Hu] using hT
 ·intro tm;refine ee (a:=.deed 4 (dR 4) false) h0 hb (by rw [show w.getD 0 []=[115,101,116] from Pt h]; rfl) fun ⟨n,i⟩ hn hin hs hL tm=>?_
  simp only at hn hin hL |-;obtain ⟨n0,n1,n2,rfl⟩:∃ n0 n1 n2,n=[n0,n1,n2]:=pH (by omega);refine ⟨?_,fun o ⟨ho,hv⟩=>?_⟩
  ·simp [AY,lx,dR,ff,am]
  ·have hE:=dt (d:=d) (told:=false) hv ho;have hT:=dF (hL.trans hE);simpa [Hu] using hT
 ·intro tm;refine ee (a:=.deed 5 (dR 5) true) h0 hb (by rw [show w.getD 0 []=[103,101,116] from Pt h]; rfl) fun ⟨n,i⟩ hn hin hs hL tm=>?_
  simp only at hn hin hL |-;obtain ⟨n0,n1,rfl⟩:∃ n0 n1,n=[n0,n1]:=uG (by omega);refine ⟨?_,fun o ⟨ho,hv⟩=>?_⟩
  ·simp [AY,lx,dR,ff,am]
  ·have hE:=dt (d:=d) (told:=true) hv ho;have hT:=dF (hL.trans hE);simpa [JQ] using hT
 ·intro tm;refine ee (a:=.deed 6 (dR 6) false) h0 hb (by rw [show w.getD 0 []=[112,117,116] from Pt h]; rfl) fun ⟨n,i⟩ hn hin hs hL tm=>?_
  simp only at hn hin hL |-;obtain ⟨n0,n1,n2,rfl⟩:∃ n0 n1 n2,n=[n0,n1,n2]:=pH (by omega);refine ⟨?_,fun o ⟨ho,hv⟩=>?_⟩
  ·simp [Pn,lx,dR,ff,am];refine ⟨fun hneg=>?_,fun h0=>⟨fA h0 (by have:=hin n2 (by simp); omega),h0⟩⟩;have hN:=qf (d:=d) (k:=6) (told:=false) (n:=[n0,n1,n2]) (by decide) hneg;rw [hL.trans hN];exact ⟨rfl,rfl⟩
  ·have hE:=dt (d:=d) (told:=false) hv ho;have hT:=dF (hL.trans hE);simpa [Hu] using hT
 ·intro tm;refine ee (a:=.deed 7 (dR 7) true) h0 hb (by rw [show w.getD 0 []=[112,105,110] from Pt h]; rfl) fun ⟨n,i⟩ hn hin hs hL tm=>?_
  simp only at hn hin hL |-;obtain ⟨n0,rfl⟩:∃ n0,n=[n0]:=mM (by omega);refine ⟨?_,fun o ⟨ho,hv⟩=>?_⟩
  ·simp [AY,lx,dR,ff,am]
  ·have hE:=dt (d:=d) (told:=true) hv ho;have hT:=dF (hL.trans hE);simpa [JQ] using hT
 ·intro tm;refine ee (a:=.deed 8 (dR 8) false) h0 hb (by rw [show w.getD 0 []=[117,110,112,105,110] from Pt h]; rfl) fun ⟨n,i⟩ hn hin hs hL tm=>?_
  simp only at hn hin hL |-;obtain ⟨n0,rfl⟩:∃ n0,n=[n0]:=mM (by omega);refine ⟨?_,fun o ⟨ho,hv⟩=>?_⟩
  ·simp [AY,lx,dR,ff,am]
  ·have hE:=dt (d:=d) (told:=false) hv ho;have hT:=dF (hL.trans hE);simpa [Hu] using hT
 ·intro tm;refine ee (a:=.deed 9 (dR 9) true) h0 hb (by rw [show w.getD 0 []=[112,101,101,107] from Pt h]; rfl) fun ⟨n,i⟩ hn hin hs hL tm=>?_
  simp only at hn hin hL |-;obtain ⟨n0,n1,rfl⟩:∃ n0 n1,n=[n0,n1]:=uG (by omega);refine ⟨?_,fun o ⟨ho,hv⟩=>?_⟩
  ·simp [AY,lx,dR,ff,am]
  ·have hE:=dt (d:=d) (told:=true) hv ho;have hT:=dF (hL.trans hE);simpa [JQ] using hT
 ·intro tm;refine ee (a:=.deed 10 (dR 10) true) h0 hb (by rw [show w.getD 0 []=[111,112,101,110] from Pt h]; rfl) fun ⟨n,i⟩ hn hin hs hL tm=>?_
  simp only at hn hin hL |-;obtain ⟨n0,rfl⟩:∃ n0,n=[n0]:=mM (by omega);refine ⟨?_,fun o ⟨ho,hv⟩=>?_⟩
  ·simp [AY,lx,dR,ff,am]
  ·have hE:=dt (d:=d) (told:=true) hv ho;have hT:=dF (hL.trans hE);simpa [JQ] using hT
 ·intro tm;refine ee (a:=.deed 11 (dR 11) false) h0 hb (by rw [show w.getD 0 []=[117,115,101] from Pt h]; rfl) fun ⟨n,i⟩ hn hin hs hL tm=>?_
  simp only at hn hin hL |-;obtain ⟨n0,n1,rfl⟩:∃ n0 n1,n=[n0,n1]:=uG (by omega);refine ⟨?_,fun o ⟨ho,hv⟩=>?_⟩
  ·simp [Pa,lx,dR,ff,am];refine ⟨fun hneg=>?_,fun h0=>⟨fA h0 (by have:=hin n1 (by simp); omega),h0⟩⟩;have hN:=qf (d:=d) (k:=11) (told:=false) (n:=[n0,n1]) (by decide) hneg;rw [hL.trans hN];exact ⟨rfl,rfl⟩
  ·have hE:=dt (d:=d) (told:=false) hv ho;have hT:=dF (hL.trans hE);simpa [Hu] using hT
 ·intro tm;refine ee (a:=.deed 12 (dR 12) false) h0 hb (by rw [show w.getD 0 []=[115,104,117,116] from Pt h]; rfl) fun ⟨n,i⟩ hn hin hs hL tm=>?_
  simp only at hn hin hL |-;obtain ⟨n0,rfl⟩:∃ n0,n=[n0]:=mM (by omega);refine ⟨?_,fun o ⟨ho,hv⟩=>?_⟩
  ·simp [O9,lx,dR,ff,am];refine ⟨fun hneg=>?_,fun h0=>⟨fA h0 (by have:=hin n0 (by simp); omega),h0⟩⟩;have hN:=qf (d:=d) (k:=12) (told:=false) (n:=[n0]) (by decide) hneg;rw [hL.trans hN];exact ⟨rfl,rfl⟩
  ·have hE:=dt (d:=d) (told:=false) hv ho;have hT:=dF (hL.trans hE);simpa [Hu] using hT
 ·intro tm;refine ee (a:=.deed 13 (dR 13) false) h0 hb (by rw [show w.getD 0 []=[100,114,111,112] from Pt h]; rfl) fun ⟨n,i⟩ hn hin hs hL tm=>?_
  simp only at hn hin hL |-;obtain ⟨n0,rfl⟩:∃ n0,n=[n0]:=mM (by omega);refine ⟨?_,fun o ⟨ho,hv⟩=>?_⟩
  ·simp [AY,lx,dR,ff,am]
  ·have hE:=dt (d:=d) (told:=false) hv ho;have hT:=dF (hL.trans hE);simpa [Hu] using hT
 ·refine ee (a:=.gaps) h0 hb (by rw [show w.getD 0 []=[103,97,112,115] from Pt h]; rfl) fun ⟨n,i⟩ hn hin hs hL=>?_
  simp only at hn hin hL |-;have hg:=pW d.2.1;refine fun tm=>⟨trivial,⟨by omega,by omega,rfl⟩,fun ⟨l,j⟩ ⟨j0,j1,j2⟩=>⟨fun hlt=>?_,fun hge=>?_⟩⟩
  ·have hlt:=Pt hlt;simp only at j0 j1 j2 hlt |-;have hl:=congrArg List.length j2
   have hf:∀ r:List dp,(r.flatMap fun x=>[x.1,x.2]).length=2 * r.length:=fun r=>by
    induction r with
    | nil=>rfl
    | cons a r ih=>rw [Ql,PC,ih,Pz]; simp; omega
   rw [hf,PM] at hl;simp only [am,Pz,P4];unfold aF;refine ⟨j0,hlt,by omega,by omega,by omega,⟨by omega,by omega,?_⟩,by omega⟩;rw [a7 ((0,0):dp) j0 hlt,RJ,<- j2];rfl
  ·have hge:=Pu hge;simp only at j0 j1 j2 hge |-;rw [bE hge] at j2;rw [hL,j2];exact ⟨rfl,rfl⟩
 ·refine ee (a:=.live) h0 hb (by rw [show w.getD 0 []=[108,105,118,101] from Pt h]; rfl) fun ⟨n,i⟩ hn hin hs hL=>?_
  simp only at hL |-;rw [hL];exact fun _=>⟨trivial,rfl,rfl⟩
 ·refine ee (a:=.roots) h0 hb (by rw [show w.getD 0 []=[114,111,111,116,115] from Pt h]; rfl) fun ⟨n,i⟩ hn hin hs hL=>?_
  simp only at hL |-;rw [hL];exact fun _=>⟨rfl,rfl⟩
 ·have hw:A0 (w.getD 0 [])=none:=by
   unfold A0
   iterate 17 rw [if_neg (Pu (by assumption))]
  have hL:aQ d w=(([],1),d):=by unfold aQ; rw [hw]
  rw [hL];refine ⟨fun _=>⟨rfl,rfl⟩,fun h=>by cases h⟩
theorem IY:Iq.ok Tryz.prog 109:=Mc (ann:=JO) (ac Fs (ac Fw (ac Oe (ac KX (ac kv (ac CQ ap)))))) (by kernel_rfl) Eq
def ml (r:List Int×Int):List UInt8:=if r.2≠0 then [101,114,114,32]++Lib.itoa r.2 else [111,107]++r.1.flatMap fun n=>32::Lib.itoa n
def gJ (d:de):Prop:=d.2.2.1.length<=32
theorem JP {d:de} (h32:gJ d) (n:List Int) (a:Act):gJ (me d n a).2:=by
 cases a with
 | begin =>
  unfold me;simp only;split
  ·rename_i h; exact I3 h
  ·exact h32
 | deed k v told =>
  rw [show me d n (.deed k v told)=qg d k v told n from rfl];unfold qg;split
  ·exact h32
  generalize (ff v n).getD 0 0=A;generalize (ff v n).getD 1 0=B;generalize (ff v n).getD 2 0=C;generalize (if 0<=v then n.getD v.toNat 0 else 0)=V;have hr:=FZ (s:=d.2) (k:=k) (a:=A) (b:=B) (c:=C) (v:=V);simp only;generalize b7 d.2 k A B C V=r at *;by_cases e:r.2.2≠0
  ·rw [if_pos e]; exact h32
  ·rw [if_neg e];have:=hr (by omega);unfold gJ at *;simp only;omega
 | gaps=>exact h32
 | live=>exact h32
 | roots=>exact h32
theorem FJ {d:de} (h32:gJ d) (w:List (List UInt8)):gJ (aQ d w).2:=by
 unfold aQ;split
 ·exact h32
 ·split
  ·exact h32
  ·split
   ·exact h32
   ·split
    ·exact h32
    ·exact JP h32 _ _
theorem Mr {d:de} (hw:∀ x∈d.2.1,am .u64 x) (hr:∀ v∈d.2.2.1,am .i64 v) (h32:gJ d) (n:List Int) (a:Act) :
  Er (me d n a).1.2/\(∀ v∈(me d n a).1.1,am .i64 v)/\(me d n a).1.1.length<=512:=by
 have z:∀ e:Int,Er e->Er (([]:List Int),e).2/\(∀ v∈(([]:List Int),e).1,am .i64 v)/\(([]:List Int),e).1.length<=512:=fun e he=>⟨he,fun v hv=>(by cases hv),by simp⟩
 cases a with
 | begin =>
  have he:Er (az (n.getD 0 0) (n.getD 1 0) (n.getD 2 0)).2:=by
   unfold az Er;split
   ·simp
   split
   ·simp
   split <;> simp
  unfold me;simp only;split
  ·exact z 0 (by simp [Er])
  ·exact z _ he
 | deed k v told =>
  rw [show me d n (.deed k v told)=qg d k v told n from rfl];unfold qg;split
  ·exact z 4 (by simp [Er])
  generalize (ff v n).getD 0 0=A;generalize (ff v n).getD 1 0=B;generalize (ff v n).getD 2 0=C;generalize (if 0<=v then n.getD v.toNat 0 else 0)=V;have hd:=Nu d.2 k A B C V;simp only;generalize b7 d.2 k A B C V=r at *;by_cases e:r.2.2≠0
  ·rw [if_pos e];exact z _ hd
  ·rw [if_neg e];refine ⟨by simp [Er],fun u hu=>?_,by simp only; split <;> simp⟩;simp only at hu;split at hu
   ·rw [PB.1 hu]; exact pQ _ _
   ·cases hu
 | gaps =>
  have hl:=pW d.2.1
  have hf:∀ r:List dp,(r.flatMap fun x=>[x.1,x.2]).length=2 * r.length:=fun r=>by
   induction r with
   | nil=>rfl
   | cons a r ih=>rw [Ql,PC,ih,Pz]; simp; omega
  by_cases hc:(ai d.2.1).2.2=0
  ·have hg:aq d.2.1=(aV false [] (aa d.2.1).1,0):=by unfold aq; rw [if_neg (by omega)]
   have hi:=(pT (bJ hc).2.2.2.1).1;have h2:=(bJ hc).1;unfold me;simp only;refine ⟨by rw [hg]; simp [Er],fun v hv=>?_,by rw [hf]; omega⟩;obtain ⟨g,hgm,hv⟩:=Ri.1 hv;rw [hg] at hgm;have h1:=hi g hgm;simp only [PD,R2,or_false] at hv;simp only [am];rcases hv with rfl | rfl <;> omega
  ·have hg:aq d.2.1=([],(ai d.2.1).2.2):=by unfold aq; rw [if_pos hc]
   unfold me;simp only;rw [hg];exact z _ (vk _)
 | live =>
  unfold me;simp only;by_cases h0:ay d.2=0
  ·have R:=ic hw h0;have hl:=R.live;have ha:=R.al;have e:kx d.2=((d.2.1.length:Int) - lp d.2,0):=by unfold kx; rw [if_neg (by omega)]
   rw [e];refine ⟨by simp [Er],fun v hv=>?_,by simp⟩;rw [PB.1 hv];simp only [am];omega
  ·have e:kx d.2=(0,ay d.2):=by unfold kx; rw [if_pos h0]
   rw [e];refine ⟨jV _,fun v hv=>?_,by simp⟩;rw [PB.1 hv];simp [am]
 | roots=>exact ⟨by simp [me,Er],hr,by unfold me; simp only; unfold gJ at h32; omega⟩
theorem I6 {d:de} (hw:∀ x∈d.2.1,am .u64 x) (hr:∀ v∈d.2.2.1,am .i64 v) (h32:gJ d) (w:List (List UInt8)):Er (aQ d w).1.2/\(∀ v∈(aQ d w).1.1,am .i64 v)/\(aQ d w).1.1.length<=512:=by
 have z:∀ e:Int,0<=e/\e<=12->Er (([]:List Int),e).2/\(∀ v∈(([]:List Int),e).1,am .i64 v)/\(([]:List Int),e).1.length<=512:=fun e he=>⟨he,fun v hv=>(by cases hv),by simp⟩
 unfold aQ;split
 ·exact z 1 (by omega)
 ·split
  ·exact z 3 (by omega)
  ·split
   ·exact z 3 (by omega)
   ·split
    ·exact z 8 (by omega)
    ·exact Mr hw hr h32 _ _
def BY:BoxFn:={ T:=zc,Ts:=[.str],Rs:=[.dat .str],pre:=fun (d:de) (line:List UInt8)=>gJ d/\line.length<4294967281,F:=fun (d:de) (line:List UInt8)=>(ml (aQ d (ak line)).1,(aQ d (ak line)).2) }
def DU:Nat->Option LoopGen
 | 3000042=>some cU
 | 4300000006=>some { rd:=[.dat 21 (.arr ty_I)],A:=fun (l:List Int)=>{ cs:=[.dat 7 .str,.dat 23 ty_I],inv:=fun ((out,i):List UInt8×Int)=>0<=i/\i<=(l.length:Int)/\out=[111,107]++(l.take i.toNat).flatMap fun n=>32::Lib.itoa n,mu:=fun ((_,i):List UInt8×Int)=>((l.length:Int) - i).toNat } }
 | _=>none
def rZ:Prop :=
  ∀ (x:Bool×List Int×List Int×List (Int×Int)×List (Int×Bool×Int)) (y:List UInt8),(True/\qo x.2)->y.length<=aF->gJ x/\y.length<4294967281->∀ (_:Array Value),y.length<4294967281/\(decide ((aQ x (ak y)).1.2≠0)=true->True/\[(101:UInt8),(114:UInt8),(114:UInt8),(32:UInt8)].length+(Lib.itoa (aQ x (ak y)).1.2).length<=aF/\[(101:UInt8),(114:UInt8),(114:UInt8),(32:UInt8)]++Lib.itoa (aQ x (ak y)).1.2=ml (aQ x (ak y)).1/\(aQ x (ak y)).2=(aQ x (ak y)).2)/\(decide ((aQ x (ak y)).1.2≠0)=false->((0:Int)<=0/\0<=(↑(aQ x (ak y)).1.1.length:Int)/\[(111:UInt8),(107:UInt8)]=[(111:UInt8),(107:UInt8)]++List.flatMap (fun (n:Int)=>(32:UInt8)::Lib.itoa n) (List.take (Int.toNat 0) (aQ x (ak y)).1.1))/\∀ (x_1:List UInt8×Int),0<=x_1.2/\x_1.2<=(↑(aQ x (ak y)).1.1.length:Int)/\x_1.1=[(111:UInt8),(107:UInt8)]++List.flatMap (fun (n:Int)=>(32:UInt8)::Lib.itoa n) (List.take x_1.2.toNat (aQ x (ak y)).1.1)->(decide (x_1.2<(↑(aQ x (ak y)).1.1.length:Int))=true->0<=x_1.2/\x_1.2<(↑(aQ x (ak y)).1.1.length:Int)/\True/\[(32:UInt8)].length+(Lib.itoa ((aQ x (ak y)).1.1.getD x_1.2.toNat 0)).length<=aF/\x_1.1.length+([(32:UInt8)]++Lib.itoa ((aQ x (ak y)).1.1.getD x_1.2.toNat 0)).length<=aF/\am .i64 (x_1.2+1)/\(0<=x_1.2+1/\x_1.2+1<=(↑(aQ x (ak y)).1.1.length:Int)/\x_1.1++([(32:UInt8)]++Lib.itoa ((aQ x (ak y)).1.1.getD x_1.2.toNat 0))=[(111:UInt8),(107:UInt8)]++List.flatMap (fun (n:Int)=>(32:UInt8)::Lib.itoa n) (List.take (x_1.2+1).toNat (aQ x (ak y)).1.1))/\((↑(aQ x (ak y)).1.1.length:Int) - (x_1.2+1)).toNat<((↑(aQ x (ak y)).1.1.length:Int) - x_1.2).toNat)/\(decide (x_1.2<(↑(aQ x (ak y)).1.1.length:Int))=false->x_1.1=ml (aQ x (ak y)).1/\(aQ x (ak y)).2=(aQ x (ak y)).2))
theorem y7:rZ:=by
 unfold rZ;intro d line ⟨_,⟨_,hw⟩,⟨_,hr⟩,_⟩ _ ⟨R,hp⟩ tm;obtain ⟨he,hin,hl⟩:=I6 hw hr R (ak line)
 have hlen:∀ v:Int,am .i64 v->(Lib.itoa v).length<=21:=fun v hv=>by
  simp only [am] at hv;exact Lib.itoa_length_le v (by omega) (by omega)
 have h1:=hlen (aQ d (ak line)).1.2 (by unfold Er at he; simp only [am]; omega);generalize aQ d (ak line)=r at *;have hT2:ml r.1=if r.1.2≠0 then [101,114,114,32]++Lib.itoa r.1.2 else [111,107]++r.1.1.flatMap fun n=>32::Lib.itoa n:=rfl
 refine ⟨hp,fun h=>?_,fun h=>⟨⟨by omega,by omega,rfl⟩,fun ⟨o,i⟩ ⟨i0,i1,i2⟩=>⟨fun hlt=>?_,fun hge=>?_⟩⟩⟩
 ·rw [hT2,if_pos (Pt h)];refine ⟨trivial,?_,rfl,rfl⟩;unfold aF;simp only [Pz,P4];omega
 ·have hlt:=Pt hlt;simp only at i0 i1 i2 hlt |-;have hv:=hlen _ (hin _ (aH (0:Int) i0 hlt))
  have ho:o.length<=2+22 * i.toNat:=by
   have hf:∀ l:List Int,(∀ v∈l,am .i64 v)->(l.flatMap fun n=>32::Lib.itoa n).length<=22 * l.length:=fun l=>by
    induction l with
    | nil=>intro _; simp
    | cons a l ih =>
     intro h;have:=ih fun v hv=>h v (by simp [hv])
     have:=hlen a (h a (by simp));rw [Ql,PC,Pz,Pz];omega
   have:=hf (r.1.1.take i.toNat) fun v hv=>hin v (QF hv)
   rw [i2,PC];rw [PM] at this;simp only [Pz,P4];omega
  unfold aF;simp only [PC,Pz,P4,am];refine ⟨i0,hlt,trivial,by omega,by omega,by omega,⟨by omega,by omega,?_⟩,by omega⟩;rw [a7 (0:Int) i0 hlt,RJ,i2,PT];simp
 ·have hge:=Pu hge;simp only at i0 i1 i2 hge |-;rw [bE hge] at i2;rw [hT2,if_neg (Pu h)];exact ⟨i2,by first | exact trivial | rfl⟩
theorem CY:BY.ok Tryz.prog 42:=Mc (ann:=DU) (ac M4 (Gs IY ap)) (by kernel_rfl) y7
def iz (d:de):List (List UInt8)->List (List UInt8)
 | []=>[]
 | s::l=>ml (aQ d (ak s)).1::iz (aQ d (ak s)).2 l
def iY (d:de) (l:List (List UInt8)):de:=l.foldl (fun d s=>(aQ d (ak s)).2) d
theorem wy (d:de) (l:List (List UInt8)) (s:List UInt8):iY d (l++[s])=(aQ (iY d l) (ak s)).2:=by simp [iY]
theorem so:∀ (l:List (List UInt8)) (d:de) (s:List UInt8),iz d (l++[s])=iz d l++[ml (aQ (iY d l) (ak s)).1]
 | [],_,_=>rfl
 | x::l,d,s=>by
  simp only [Qs,iz];rw [so l];rfl
def eS (l:List (List UInt8)):List (List UInt8)×Int:=if 100<(l.length:Int) then ([],2) else (iz (false,aE) l,0)
def BX:Spec:={ Ts:=[.arr .str],Rs:=[.own 9 .str,.dat ty_I],pre:=fun (l:List (List UInt8))=>∀ s∈l,s.length<4294967281,F:=eS }
def DT:Nat->Option LoopGen
 | 3000041=>some cU
 | 6=>some { rd:=[.dat 12 (.arr .str)],A:=fun (l:List (List UInt8))=>{ cs:=[.own 5 9 .str,.box 102000011 zc,.dat 14 ty_I],inv:=fun ((out,d,i):List (List UInt8)×de×Int)=>0<=i/\i<=(l.length:Int)/\l.length<=100/\gJ d/\d=iY (false,aE) (l.take i.toNat)/\out=iz (false,aE) (l.take i.toNat),mu:=fun ((_,_,i):List (List UInt8)×de×Int)=>((l.length:Int) - i).toNat } }
 | _=>none
def rY:Prop :=
  ∀ (x:List (List UInt8)),(x.length * 16<=aF/\∀ (x_1:List UInt8),x_1∈x->x_1.length<=aF)->(∀ (s:List UInt8),s∈x->s.length<4294967281)->(decide (100<(x.length:Int))=true->([]:List (List UInt8))=(eS x).1/\2=(eS x).2/\True)/\(decide (100<(x.length:Int))=false->∀ (_:Array Value),((0:Int)<=0/\0<=(x.length:Int)/\x.length<=100/\gJ (false,([]:List Int),([]:List Int),([]:List (Int×Int)),([]:List (Int×Bool×Int)))/\(false,([]:List Int),([]:List Int),([]:List (Int×Int)),([]:List (Int×Bool×Int)))=iY (false,aE) (List.take (Int.toNat 0) x)/\([]:List (List UInt8))=iz (false,aE) (List.take (Int.toNat 0) x))/\∀ (x_1:List (List UInt8)×(Bool×List Int×List Int×List (Int×Int)×List (Int×Bool×Int))×Int),0<=x_1.2.2/\x_1.2.2<=(x.length:Int)/\x.length<=100/\gJ x_1.2.1/\x_1.2.1=iY (false,aE) (List.take x_1.2.2.toNat x)/\x_1.1=iz (false,aE) (List.take x_1.2.2.toNat x)->(decide (x_1.2.2<(x.length:Int))=true->0<=x_1.2.2/\x_1.2.2<(x.length:Int)/\(gJ x_1.2.1/\(x.getD x_1.2.2.toNat ([]:List UInt8)).length<4294967281)/\(x_1.1.length+[ml (aQ x_1.2.1 (ak (x.getD x_1.2.2.toNat ([]:List UInt8)))).1].length) * 16<=aF/\am .i64 (x_1.2.2+1)/\(0<=x_1.2.2+1/\x_1.2.2+1<=(x.length:Int)/\x.length<=100/\gJ (aQ x_1.2.1 (ak (x.getD x_1.2.2.toNat ([]:List UInt8)))).2/\(aQ x_1.2.1 (ak (x.getD x_1.2.2.toNat ([]:List UInt8)))).2=iY (false,aE) (List.take (x_1.2.2+1).toNat x)/\x_1.1++[ml (aQ x_1.2.1 (ak (x.getD x_1.2.2.toNat ([]:List UInt8)))).1]=iz (false,aE) (List.take (x_1.2.2+1).toNat x))/\((x.length:Int) - (x_1.2.2+1)).toNat<((x.length:Int) - x_1.2.2).toNat)/\(decide (x_1.2.2<(x.length:Int))=false->x_1.1=(eS x).1/\0=(eS x).2/\True))
theorem y6:rY:=by
 unfold rY;intro l ⟨hb,_⟩ hp;have hF:eS l=if 100<(l.length:Int) then ([],2) else (iz (false,aE) l,0):=rfl
 refine ⟨fun h=>?_,fun h=>?_⟩
 ·rw [hF,if_pos (Pt h)];exact ⟨rfl,rfl,trivial⟩
 have h:=Pu h;rw [if_neg h] at hF;refine fun _=>⟨⟨by omega,by omega,by omega,Qa _,rfl,rfl⟩,fun ⟨o,d,i⟩ ⟨i0,i1,i2,i3,i4,i5⟩=>⟨fun hlt=>?_,fun hge=>?_⟩⟩
 ·have hlt:=Pt hlt;simp only at i0 i1 i2 i3 i4 i5 hlt |-;have hm:=aH ([]:List UInt8) i0 hlt
  have ho:o.length=i.toNat:=by
   have hl:∀ (l:List (List UInt8)) (d:de),(iz d l).length=l.length:=fun l=>by
    induction l with
    | nil=>intro d; rfl
    | cons a l ih=>intro d; simp only [iz,Pz,ih]
   rw [i5,hl,PM];omega
  have hR:=FJ i3 (ak (l.getD i.toNat []));unfold aF;simp only [Pz,P4,am];refine ⟨i0,hlt,⟨i3,hp _ hm⟩,by omega,by omega,⟨by omega,by omega,i2,hR,?_,?_⟩,by omega⟩
  ·rw [a7 ([]:List UInt8) i0 hlt,wy,<- i4]
  ·rw [a7 ([]:List UInt8) i0 hlt,so,<- i4,<- i5]
 ·have hge:=Pu hge;simp only at i5 hge |-;rw [bE hge] at i5;rw [hF];exact ⟨i5,rfl,trivial⟩
theorem CX:BX.ok Tryz.prog 8:=aA (ann:=DT) (Gs CY ap) Tryz.func8 (by kernel_rfl) y6
end
section
def Io:Spec:={ Ts:=[.arr .str,.arr .str],Rs:=[.dat .bool],pre:=fun _=>True,F:=fun (x:List (List UInt8)×List (List UInt8))=>decide (x.1=x.2) }
def JM:Nat->Option LoopGen
 | 4=>some { rd:=[.dat 0 (.arr .str),.dat 1 (.arr .str)],A:=fun (g:List (List UInt8)×List (List UInt8))=>{ cs:=[.dat 13 ty_I],inv:=fun (i:Int)=>g.1.length=g.2.length/\0<=i/\i<=g.1.length/\g.1.take i.toNat=g.2.take i.toNat,mu:=fun (i:Int)=>(g.1.length - i).toNat } }
 | _=>none
def xI:Prop :=
  ∀ (x:List (List UInt8)×List (List UInt8)),((x.1.length * 16<=aF/\∀ (x_1:List UInt8),x_1∈x.1->x_1.length<=aF)/\x.2.length * 16<=aF/\∀ (x_1:List UInt8),x_1∈x.2->x_1.length<=aF)->True->(decide ((x.1.length:Int)≠(x.2.length:Int))=true->false=decide (x.1=x.2)/\True)/\(decide ((x.1.length:Int)≠(x.2.length:Int))=false->(x.1.length=x.2.length/\(0:Int)<=0/\0<=(x.1.length:Int)/\List.take (Int.toNat 0) x.1=List.take (Int.toNat 0) x.2)/\∀ (x_1:Int),x.1.length=x.2.length/\0<=x_1/\x_1<=(x.1.length:Int)/\List.take x_1.toNat x.1=List.take x_1.toNat x.2->(decide (x_1<(x.1.length:Int))=true->0<=x_1/\x_1<(x.1.length:Int)/\0<=x_1/\x_1<(x.2.length:Int)/\(decide (x.1.getD x_1.toNat ([]:List UInt8)≠x.2.getD x_1.toNat ([]:List UInt8))=true->false=decide (x.1=x.2)/\True)/\(decide (x.1.getD x_1.toNat ([]:List UInt8)≠x.2.getD x_1.toNat ([]:List UInt8))=false->am .i64 (x_1+1)/\(x.1.length=x.2.length/\0<=x_1+1/\x_1+1<=(x.1.length:Int)/\List.take (x_1+1).toNat x.1=List.take (x_1+1).toNat x.2)/\((x.1.length:Int) - (x_1+1)).toNat<((x.1.length:Int) - x_1).toNat))/\(decide (x_1<(x.1.length:Int))=false->true=decide (x.1=x.2)/\True))
theorem Eo:xI:=by
 unfold xI;intro x hw _;refine ⟨fun h=>?_,fun h=>?_⟩
 ·have h:x.1.length≠x.2.length:=by have:=Pt h; omega
  have:x.1≠x.2:=fun e=>h (by rw [e])
  simp [this]
 have hl:x.1.length=x.2.length:=by have:=Pu h; omega
 refine ⟨⟨hl,by omega,by omega,by simp⟩,fun i ⟨_,h0,h1,ht⟩=>⟨fun hlt=>?_,fun hge=>?_⟩⟩
 ·have hlt:i<x.1.length:=by simpa using hlt
  refine ⟨h0,hlt,h0,by omega,fun hne=>?_,fun he=>?_⟩
  ·have hne:x.1.getD i.toNat []≠x.2.getD i.toNat []:=by simpa using hne
   have:x.1≠x.2:=fun e=>hne (by rw [e])
   simp [this]
  ·have he:x.1.getD i.toNat []=x.2.getD i.toNat []:=by simpa using he
   have hb:x.1.length * 16<=aF:=hw.1.1;unfold aF at hb;refine ⟨by simp only [am]; omega,⟨hl,by omega,by omega,?_⟩,by omega⟩;rw [show (i+1).toNat=i.toNat+1 by omega];exact w7 hl (by omega) ht he
 ·have hge:¬ i<x.1.length:=by simpa using hge
  have hi:i.toNat=x.1.length:=by omega
  rw [hi,PJ (PP _),PJ (by omega)] at ht;simp [ht]
theorem IW:Io.ok Tryz.prog 9:=aA (ann:=JM) ap Tryz.func9 (by kernel_rfl) Eo
def FI:List (List UInt8):=[[110,101,119,32,56,32,49,32,48],[109,97,107,101,32,48,32,48,32,50,32,53],[112,117,116,32,48,32,49,32,55],[103,101,116,32,48,32,49]]
def OJ:List (List UInt8):=[[111,107],[111,107,32,48],[111,107],[111,107,32,55]]
def vL:an:=(aR (0,7,0,true)::List.replicate 7 0,[-1],[],[])
def DY:an:=([aR (0,2,5,false),0,0,aR (0,4,0,true),0,0,0,0],[0],[],[])
def B6:an:=([aR (0,2,5,false),0,7,aR (0,4,0,true),0,0,0,0],[0],[],[])
theorem I2 {u:Nat} (h:u<10):fV [UInt8.ofNat (48+u)]=((u:Int),true):=by
 have:u=0\/u=1\/u=2\/u=3\/u=4\/u=5\/u=6\/u=7\/u=8\/u=9:=by omega
 have hi:∀ n:Nat,n<10->Lib.itoa (n:Int)=[UInt8.ofNat (48+n)]:=fun n hn=>by
  unfold Lib.itoa;rw [if_neg (by omega),QC,Lib.decDigits,dif_pos hn]
 rcases this with rfl | rfl | rfl | rfl | rfl | rfl | rfl | rfl | rfl | rfl
 all_goals
  unfold fV;simp [Lib.atoiAll,Lib.parseMag,Lib.parseUint10]
  first | exact hi 0 (by omega) | exact hi 1 (by omega) | exact hi 2 (by omega) | exact hi 3 (by omega) | exact hi 4 (by omega) | exact hi 5 (by omega) | exact hi 6 (by omega) | exact hi 7 (by omega) | exact hi 8 (by omega) | exact hi 9 (by omega)
theorem Kf:aa vL.1=([aL 0 8],0):=by
 have h:=kf (at_:=0) (k:=8) (R:=[]) (by omega);rw [Qi,if_pos (by omega)] at h;have e:vL.1=dN 8:=rfl;rw [e];refine qB (by rw [cK]; omega) ?_;rw [h,spotsS];rfl
theorem Pg:az 8 1 0=(vL,0):=by
 unfold az;rw [if_neg (by omega),if_neg (by omega),if_neg (by omega)];rfl
theorem Bq {s:an} (hc:(ai s.1).2.2=0) (hr:aJ s.2.1 s.1.length=0) (hp:ci s.2.2.1=0) (hh:aT s.2.2.2=0) (hn:∀ x∈cW s,isB (aa s.1).1 x=true):ay s=0:=by
 unfold ay;rw [if_neg (by omega),if_neg (by omega),if_neg (by omega),if_neg (by omega)];exact il hc hn
theorem NQ:(ai vL.1).2.2=0:=DH Kf fun s hs v hv=>by
 have e:bc vL.1 (aL 0 8)=[]:=by decide
 rw [PB.1 hs,e] at hv;cases hv
theorem OQ:ay vL=0:=Bq NQ (by decide) rfl rfl fun x hx=>by
 have e:cW vL=[]:=rfl;rw [e] at hx;cases hx
theorem AB {s:an} (R:ay s=0) {k a b c v:Int} (hb:cj k a b c v=false):b7 s k a b c v=deed s k a b c v:=by
 unfold b7;rw [if_neg (by rw [hb]; simp),if_neg (by omega)]
theorem OT:b7 vL 1 0 0 2 5=(DY,0,0):=by
 rw [AB OQ (by decide),Hj,show (5:Int) % 65536=5 from rfl];have hg:aV false [] (aa vL.1).1=[(0,8)]:=by rw [Kf]; rfl
 have ht:jI vL.1 (0,2,5,false)=(od vL.1 (0,8) (0,2,5,false),0,true):=by
  unfold jI;rw [hg];rfl
 have hp:od vL.1 (0,8) (0,2,5,false)=DY.1:=by
  unfold od dS;rw [if_neg (by have:=NQ; omega),hg];rfl
 have hm:bB vL 0 (0,2,5,false)=(DY,false,0):=by
  unfold bB x9;rw [if_neg (by unfold bN; rw [if_neg (by have:=OQ; omega)]; decide),if_neg (by decide)];rw [ht];simp only [if_true];rw [hp];rfl
 rw [hm];rfl
theorem EF (x:Int):aa [aR (0,2,5,false),0,x,aR (0,4,0,true),0,0,0,0]=([(0,0,2,5,false),(3,0,4,0,true)],0):=by
 refine qB (by simp) ?_;rw [d6 (by decide) (by simp only [Pz,P4]; decide)];show (spotsS 3 [aR (0,4,0,true),0,0,0,0]).map _=_;rw [d6 (by decide) (by decide)];show ((spotsS 8 []).map _).map _=_;rw [spotsS];rfl
theorem iC (x:Int):eN [aR (0,2,5,false),0,x,aR (0,4,0,true),0,0,0,0] 0=(0,2,5,false):=by
 unfold eN;rw [EF];rfl
theorem OR {s:an} (R:ay s=0) (h:s.2.1=[0]):bw s 0=0:=by
 unfold bw;rw [if_neg (by omega),h];decide
theorem Pm (x:Int):ay ([aR (0,2,5,false),0,x,aR (0,4,0,true),0,0,0,0],[0],[],[])=0:=by
 refine Bq (DH (EF x) fun s hs v hv=>?_) (by simp only [Pz,P4]; decide) rfl rfl fun y hy=>?_
 ·simp only [PD,R2,or_false] at hs;rcases hs with rfl | rfl
  ·simp [bc] at hv
  ·simp [bc] at hv
 ·have e:y=0:=by
   have:cW (([aR (0,2,5,false),0,x,aR (0,4,0,true),0,0,0,0],[0],[],[]):an)=[0]:=rfl;rw [this] at hy;exact PB.1 hy
  rw [e];simp only;rw [EF];rfl
theorem OP:ay DY=0:=Pm 0
theorem OO:ay B6=0:=Pm 7
theorem Pf:b7 DY 6 0 1 0 7=(B6,0,0):=by
 rw [AB OP (by decide),Hh];have hh:eN DY.1 (aD DY 0)=(0,2,5,false):=iC 0
 have hb:aO DY 0 1=0:=by
  unfold aO;rw [OR OP rfl,if_neg (by decide),hh];decide
 have hp:lD DY 0 1 7=(B6,0):=by
  unfold lD;rw [if_neg (by rw [hb]; decide)];unfold bR;rw [hh];rfl
 rw [hp]
theorem Ph:b7 B6 5 0 1 0 0=(B6,7,0):=by
 rw [AB OO (by decide),Hi];have hh:eN B6.1 (aD B6 0)=(0,2,5,false):=iC 7
 have hb:aO B6 0 1=0:=by
  unfold aO;rw [OR OO rfl,if_neg (by decide),hh];decide
 rw [if_neg (by rw [hb]; decide)];unfold bR;rw [hh];rfl
theorem iW:∀ (l:List Nat),(∀ u∈l,u<10)->gc (l.map fun u=>[UInt8.ofNat (48+u)])=some (l.map fun u:Nat=>(u:Int))
 | [],_=>rfl
 | u::l,h=>by
  have ih:=iW l fun v hv=>h v (by simp [hv])
  simp only [Qf,gc];rw [I2 (h u (by simp)),if_pos rfl,ih];rfl
theorem s5 {d:de} {w:List (List UInt8)} {many:Int} {store:Bool} {a:Act} {n:List Int} (hw:A0 (w.getD 0 [])=some (many,store,a)) (hl:(w.length:Int) - 1=many) (hn:gc w.tail=some n) (hs:(store&&!d.1)=false):aQ d w=me d n a:=by
 unfold aQ;rw [hw];simp only;rw [if_neg (by omega),hn];simp only [hs];rfl
theorem w1:aQ (false,aE) (ak [110,101,119,32,56,32,49,32,48])=(([],0),(true,vL)):=by
 rw [show ak [110,101,119,32,56,32,49,32,48]=[[110,101,119],[56],[49],[48]] from rfl];rw [s5 (w:=[[110,101,119],[56],[49],[48]]) (many:=3) (store:=false) (a:=.begin) (n:=[8,1,0]) rfl rfl (iW [8,1,0] (by decide)) rfl];show (let r:=az 8 1 0; if r.2=0 then (([],0),(true,r.1)) else (([],r.2),(false,aE)))=_;rw [Pg];rfl
theorem w2:aQ (true,vL) (ak [109,97,107,101,32,48,32,48,32,50,32,53])=(([0],0),(true,DY)):=by
 rw [show ak [109,97,107,101,32,48,32,48,32,50,32,53]=[[109,97,107,101],[48],[48],[50],[53]] from rfl];rw [s5 (w:=[[109,97,107,101],[48],[48],[50],[53]]) (many:=4) (store:=true) (a:=.deed 1 (dR 1) true) (n:=[0,0,2,5]) rfl rfl (iW [0,0,2,5] (by decide)) rfl];refine (dt (d:=(true,vL)) (k:=1) (told:=true) (n:=[0,0,2,5]) (fun _=>by decide) rfl).trans ?_;show (if (b7 vL 1 0 0 2 5).2.2≠0 then _ else _)=_;have h:=OT;show (if (b7 vL 1 0 0 2 5).2.2≠0 then (([],(b7 vL 1 0 0 2 5).2.2),(true,vL)) else (([IntKind.i64.wrap (b7 vL 1 0 0 2 5).2.1],0),(true,(b7 vL 1 0 0 2 5).1)))=_;rw [h];rfl
theorem w3:aQ (true,DY) (ak [112,117,116,32,48,32,49,32,55])=(([],0),(true,B6)):=by
 rw [show ak [112,117,116,32,48,32,49,32,55]=[[112,117,116],[48],[49],[55]] from rfl];rw [s5 (w:=[[112,117,116],[48],[49],[55]]) (many:=3) (store:=true) (a:=.deed 6 (dR 6) false) (n:=[0,1,7]) rfl rfl (iW [0,1,7] (by decide)) rfl];refine (dt (d:=(true,DY)) (k:=6) (told:=false) (n:=[0,1,7]) (fun _=>by decide) rfl).trans ?_;show (if (b7 DY 6 0 1 0 7).2.2≠0 then (([],(b7 DY 6 0 1 0 7).2.2),(true,DY)) else (([],0),(true,(b7 DY 6 0 1 0 7).1)))=_;rw [Pf];rfl
theorem w4:aQ (true,B6) (ak [103,101,116,32,48,32,49])=(([7],0),(true,B6)):=by
 rw [show ak [103,101,116,32,48,32,49]=[[103,101,116],[48],[49]] from rfl];rw [s5 (w:=[[103,101,116],[48],[49]]) (many:=2) (store:=true) (a:=.deed 5 (dR 5) true) (n:=[0,1]) rfl rfl (iW [0,1] (by decide)) rfl];refine (dt (d:=(true,B6)) (k:=5) (told:=true) (n:=[0,1]) (fun _=>by decide) rfl).trans ?_;show (if (b7 B6 5 0 1 0 0).2.2≠0 then (([],(b7 B6 5 0 1 0 0).2.2),(true,B6)) else (([IntKind.i64.wrap (b7 B6 5 0 1 0 0).2.1],0),(true,(b7 B6 5 0 1 0 0).1)))=_;rw [Ph];rfl
theorem uP {u:Nat} (h:u<10):Lib.itoa (u:Int)=[UInt8.ofNat (48+u)]:=by
 unfold Lib.itoa;rw [if_neg (by omega),QC,Lib.decDigits,dif_pos h]
theorem JR:eS FI=(OJ,0):=by
 unfold eS FI;rw [if_neg (by decide)];simp only [iz,w1,w2,w3,w4];have h0:=uP (u:=0) (by omega);have h7:=uP (u:=7) (by omega);have e0:ml ([],0)=[111,107]:=rfl
 have e1:ml ([0],0)=[111,107,32,48]:=by
  show [111,107]++((32::Lib.itoa ((0:Nat):Int))++[])=_;rw [h0];rfl
 have e7:ml ([7],0)=[111,107,32,55]:=by
  show [111,107]++((32::Lib.itoa ((7:Nat):Int))++[])=_;rw [h7];rfl
 rw [e0,e1,e7];rfl
def Kh:Spec:={ Ts:=[],Rs:=[.dat .bool],pre:=fun _=>True,F:=fun _=>true }
def Cg:Prop :=
  ∀ (_:Unit),True->True->(∀ (s:List UInt8),s∈[[(110:UInt8),(101:UInt8),(119:UInt8),(32:UInt8),(56:UInt8),(32:UInt8),(49:UInt8),(32:UInt8),(48:UInt8)],[(109:UInt8),(97:UInt8),(107:UInt8),(101:UInt8),(32:UInt8),(48:UInt8),(32:UInt8),(48:UInt8),(32:UInt8),(50:UInt8),(32:UInt8),(53:UInt8)],[(112:UInt8),(117:UInt8),(116:UInt8),(32:UInt8),(48:UInt8),(32:UInt8),(49:UInt8),(32:UInt8),(55:UInt8)],[(103:UInt8),(101:UInt8),(116:UInt8),(32:UInt8),(48:UInt8),(32:UInt8),(49:UInt8)]]->s.length<4294967281)/\(decide ((eS [[(110:UInt8),(101:UInt8),(119:UInt8),(32:UInt8),(56:UInt8),(32:UInt8),(49:UInt8),(32:UInt8),(48:UInt8)],[(109:UInt8),(97:UInt8),(107:UInt8),(101:UInt8),(32:UInt8),(48:UInt8),(32:UInt8),(48:UInt8),(32:UInt8),(50:UInt8),(32:UInt8),(53:UInt8)],[(112:UInt8),(117:UInt8),(116:UInt8),(32:UInt8),(48:UInt8),(32:UInt8),(49:UInt8),(32:UInt8),(55:UInt8)],[(103:UInt8),(101:UInt8),(116:UInt8),(32:UInt8),(48:UInt8),(32:UInt8),(49:UInt8)]]).2=0)=true->True)/\(decide ((eS [[(110:UInt8),(101:UInt8),(119:UInt8),(32:UInt8),(56:UInt8),(32:UInt8),(49:UInt8),(32:UInt8),(48:UInt8)],[(109:UInt8),(97:UInt8),(107:UInt8),(101:UInt8),(32:UInt8),(48:UInt8),(32:UInt8),(48:UInt8),(32:UInt8),(50:UInt8),(32:UInt8),(53:UInt8)],[(112:UInt8),(117:UInt8),(116:UInt8),(32:UInt8),(48:UInt8),(32:UInt8),(49:UInt8),(32:UInt8),(55:UInt8)],[(103:UInt8),(101:UInt8),(116:UInt8),(32:UInt8),(48:UInt8),(32:UInt8),(49:UInt8)]]).2=0)&&decide ((eS [[(110:UInt8),(101:UInt8),(119:UInt8),(32:UInt8),(56:UInt8),(32:UInt8),(49:UInt8),(32:UInt8),(48:UInt8)],[(109:UInt8),(97:UInt8),(107:UInt8),(101:UInt8),(32:UInt8),(48:UInt8),(32:UInt8),(48:UInt8),(32:UInt8),(50:UInt8),(32:UInt8),(53:UInt8)],[(112:UInt8),(117:UInt8),(116:UInt8),(32:UInt8),(48:UInt8),(32:UInt8),(49:UInt8),(32:UInt8),(55:UInt8)],[(103:UInt8),(101:UInt8),(116:UInt8),(32:UInt8),(48:UInt8),(32:UInt8),(49:UInt8)]]).1=[[(111:UInt8),(107:UInt8)],[(111:UInt8),(107:UInt8),(32:UInt8),(48:UInt8)],[(111:UInt8),(107:UInt8)],[(111:UInt8),(107:UInt8),(32:UInt8),(55:UInt8)]]))=true/\True
theorem Hy:Cg:=by
 unfold Cg;have h:=JR;unfold FI at h;intro _ _ _;rw [h];refine ⟨fun s hs=>?_,fun _=>trivial,rfl,trivial⟩;simp only [PD,R2,or_false] at hs;rcases hs with rfl | rfl | rfl | rfl <;> decide
theorem KT:Kh.ok Tryz.prog 14:=aA (ann:=cn) (ac CX (ac IW ap)) Tryz.func14 (by kernel_rfl) Hy
end
section
abbrev lz:Ty:=.pair (.arr bo) (.pair (.arr ty_I) (.arr ty_I))
abbrev vN:=List Int×List Int×List Int
def H2:Spec:={ Ts:=[.arr ty_I],Rs:=[.dat .bool],pre:=fun _=>True,F:=aK }
def xn:Prop :=
  ∀ (x:List Int),(x.length * 8<=aF/\∀ (x_1:Int),x_1∈x->am .i64 x_1)->True->((1:Int)<=1/\1<=(x.length:Int)+1/\aK (List.drop ((1:Int) - 1).toNat x)=aK x)/\∀ (x_1:Int),1<=x_1/\x_1<=(x.length:Int)+1/\aK (List.drop (x_1 - 1).toNat x)=aK x->(decide (x_1<(x.length:Int))=true->am .i64 (x_1 - 1)/\0<=x_1 - 1/\x_1 - 1<(x.length:Int)/\0<=x_1/\x_1<(x.length:Int)/\(decide (x.getD x_1.toNat 0<=x.getD (x_1 - 1).toNat 0)=true->false=aK x/\True)/\(decide (x.getD x_1.toNat 0<=x.getD (x_1 - 1).toNat 0)=false->am .i64 (x_1+1)/\(1<=x_1+1/\x_1+1<=(x.length:Int)+1/\aK (List.drop (x_1+1 - 1).toNat x)=aK x)/\((x.length:Int) - (x_1+1)).toNat<((x.length:Int) - x_1).toNat))/\(decide (x_1<(x.length:Int))=false->true=aK x/\True)
theorem D4:xn:=by
 unfold xn;intro l ⟨hb,_⟩ _;unfold aF at hb;refine ⟨⟨by omega,by omega,rfl⟩,fun i ⟨h0,h1,h2⟩=>⟨fun hlt=>?_,fun hge=>?_⟩⟩
 ·have hlt:i<(l.length:Int):=Pt hlt;have e1:=bg (0:Int) (xs:=l) (i:=i - 1) (by omega) (by omega);have e2:=bg (0:Int) (xs:=l) (i:=i) (by omega) hlt;rw [show i - 1+1=i by omega] at e1;simp only [am] at h2 |-;rw [e1,e2] at h2;simp only [aK] at h2;rw [<- e2] at h2;refine ⟨by omega,by omega,by omega,by omega,hlt,fun hc=>?_,fun hc=>⟨by omega,⟨by omega,by omega,?_⟩,by omega⟩⟩
  ·have hc:=Pt hc;rw [<- h2,QI (by omega)];exact ⟨rfl,trivial⟩
  ·have hc:=Pu hc;rw [QA (by omega),QL] at h2;rw [show i+1 - 1=i by omega];exact h2
 ·have hge:¬ i<(l.length:Int):=Pu hge;rw [o7 (by rw [PW]; omega)] at h2;exact ⟨h2,trivial⟩
theorem IF:H2.ok Tryz.prog 168:=aA (ann:=DO) ap Tryz.func168 (by kernel_rfl) D4
def DK:Nat->Option LoopGen
 | 4=>some { rd:=[.own 14 202 cE],A:=fun (l:List ax)=>{ cs:=[.map 13 .i64 eX,.dat 16 ty_I],inv:=fun ((m,i):List (Int×ew)×Int)=>0<=i/\i<=l.length/\cG m (l.drop i.toNat)=cL l,mu:=fun ((_,i):List (Int×ew)×Int)=>(l.length - i).toNat } }
 | _=>none
def Bx:Spec:={ Ts:=[.arr bo],Rs:=[.map .i64 eX],pre:=fun _=>True,F:=fun (a:List Int)=>cL (aa a).1 }
def rB:Prop :=
  ∀ (x:List Int),(x.length * 8<=aF/\∀ (x_1:Int),x_1∈x->am .u64 x_1)->True->True/\((0:Int)<=0/\0<=(↑(aa x).1.length:Int)/\cG ([]:List (Int×Int×Int×Int×Bool)) (List.drop (Int.toNat 0) (aa x).1)=cL (aa x).1)/\∀ (x_1:List (Int×Int×Int×Int×Bool)×Int),0<=x_1.2/\x_1.2<=(↑(aa x).1.length:Int)/\cG x_1.1 (List.drop x_1.2.toNat (aa x).1)=cL (aa x).1->(decide (x_1.2<(↑(aa x).1.length:Int))=true->0<=x_1.2/\x_1.2<(↑(aa x).1.length:Int)/\x_1.2.toNat<(aa x).1.length/\((!((aa x).1.getD x_1.2.toNat (0,0,0,0,false)).2.2.2.2)=true->am .i64 (x_1.2+1)/\(0<=x_1.2+1/\x_1.2+1<=(↑(aa x).1.length:Int)/\cG (cR x_1.1 ((aa x).1.getD x_1.2.toNat (0,0,0,0,false)).1 ((aa x).1.getD x_1.2.toNat (0,0,0,0,false)).2) (List.drop (x_1.2+1).toNat (aa x).1)=cL (aa x).1)/\((↑(aa x).1.length:Int) - (x_1.2+1)).toNat<((↑(aa x).1.length:Int) - x_1.2).toNat)/\((!((aa x).1.getD x_1.2.toNat (0,0,0,0,false)).2.2.2.2)=false->am .i64 (x_1.2+1)/\(0<=x_1.2+1/\x_1.2+1<=(↑(aa x).1.length:Int)/\cG x_1.1 (List.drop (x_1.2+1).toNat (aa x).1)=cL (aa x).1)/\((↑(aa x).1.length:Int) - (x_1.2+1)).toNat<((↑(aa x).1.length:Int) - x_1.2).toNat))/\(decide (x_1.2<(↑(aa x).1.length:Int))=false->x_1.1=cL (aa x).1/\True)
theorem yE:rB:=by
 unfold rB;intro a ⟨hb,_⟩ _;have hsl:=cI a;refine ⟨trivial,⟨by omega,by omega,by first | trivial | rfl⟩,fun ⟨m,i⟩ ⟨i0,i1,i4⟩=>⟨fun hlt=>?_,fun hge=>?_⟩⟩
 ·simp only at i0 i1 i4 hlt |-;have hlt:=Pt hlt;rw [bg ((0,0,0,0,false):ax) i0 hlt] at i4;simp only [cG] at i4;generalize (aa a).1.getD i.toNat (0,0,0,0,false)=s at *;simp only [am];refine ⟨i0,hlt,by omega,fun hf0=>?_,fun hf0=>?_⟩
  ·have hf0:¬ s.2.2.2.2=true:=by simpa using hf0
   rw [if_neg hf0] at i4;exact ⟨by omega,⟨by omega,by omega,i4⟩,by omega⟩
  ·have hf0:s.2.2.2.2=true:=by simpa using hf0
   rw [if_pos hf0] at i4;exact ⟨by omega,⟨by omega,by omega,i4⟩,by omega⟩
 ·simp only at i0 i1 i4 hge |-;rw [b6 (Pu hge)] at i4;exact ⟨i4,trivial⟩
theorem sd:Bx.ok Tryz.prog 102:=aA (ann:=DK) (ac fS ap) Tryz.func102 (by kernel_rfl) yE
def JH:Nat->Option LoopGen
 | 3=>some { rd:=[.dat 18 (.arr bo)],A:=fun (r:List Int)=>{ cs:=[.own 7 3 ty_I,.dat 20 ty_I],inv:=fun ((out,i):List Int×Int)=>0<=i/\i<=r.length/\(∀ v∈r,v<=256)/\r.length<=256/\out=((r.take i.toNat).filter fun v=>decide (v≠0)).map (· - 1),mu:=fun ((_,i):List Int×Int)=>(r.length - i).toNat } }
 | _=>none
def H3:Spec:={ Ts:=[.arr bo,ty_I,eX],Rs:=[.own 3 ty_I],pre:=fun ((a,x,h):List Int×Int×ew)=>(ai a).2.2=0/\isB (aa a).1 x=true/\h=eN a x,F:=fun ((a,x,_):List Int×Int×ew)=>a8 a x }
def xo:Prop :=
  ∀ (x:List Int×Int×Int×Int×Int×Bool),(x.1.length * 8<=aF/\∀ (x_1:Int),x_1∈x.1->am .u64 x_1)/\am .i64 x.2.1/\am .i64 x.2.2.1/\am .i64 x.2.2.2.1/\am .i64 x.2.2.2.2.1/\True->(ai x.1).2.2=0/\isB (aa x.1).1 x.2.1=true/\x.2.2=eN x.1 x.2.1->am .i64 (x.2.1+1)/\am .i64 (x.2.1+1)/\am .i64 (x.2.1+1+x.2.2.1)/\0<=x.2.1+1/\x.2.1+1<=x.2.1+1+x.2.2.1/\x.2.1+1+x.2.2.1<=(x.1.length:Int)/\((0:Int)<=0/\0<=(↑(List.drop (x.2.1+1).toNat (List.take (x.2.1+1+x.2.2.1).toNat x.1)).length:Int)/\(∀ (v:Int),v∈List.drop (x.2.1+1).toNat (List.take (x.2.1+1+x.2.2.1).toNat x.1)->v<=256)/\(List.drop (x.2.1+1).toNat (List.take (x.2.1+1+x.2.2.1).toNat x.1)).length<=256/\([]:List Int)=List.map (fun (x:Int)=>x - 1) (List.filter (fun (v:Int)=>decide (v≠0)) (List.take (Int.toNat 0) (List.drop (x.2.1+1).toNat (List.take (x.2.1+1+x.2.2.1).toNat x.1)))))/\∀ (x_1:List Int×Int),0<=x_1.2/\x_1.2<=(↑(List.drop (x.2.1+1).toNat (List.take (x.2.1+1+x.2.2.1).toNat x.1)).length:Int)/\(∀ (v:Int),v∈List.drop (x.2.1+1).toNat (List.take (x.2.1+1+x.2.2.1).toNat x.1)->v<=256)/\(List.drop (x.2.1+1).toNat (List.take (x.2.1+1+x.2.2.1).toNat x.1)).length<=256/\x_1.1=List.map (fun (x:Int)=>x - 1) (List.filter (fun (v:Int)=>decide (v≠0)) (List.take x_1.2.toNat (List.drop (x.2.1+1).toNat (List.take (x.2.1+1+x.2.2.1).toNat x.1))))->(decide (x_1.2<(↑(List.drop (x.2.1+1).toNat (List.take (x.2.1+1+x.2.2.1).toNat x.1)).length:Int))=true->0<=x_1.2/\x_1.2<(↑(List.drop (x.2.1+1).toNat (List.take (x.2.1+1+x.2.2.1).toNat x.1)).length:Int)/\(decide ((List.drop (x.2.1+1).toNat (List.take (x.2.1+1+x.2.2.1).toNat x.1)).getD x_1.2.toNat (0:Int)≠0)=true->am .i64 (IntKind.i64.wrap ((List.drop (x.2.1+1).toNat (List.take (x.2.1+1+x.2.2.1).toNat x.1)).getD x_1.2.toNat 0) - 1)/\(x_1.1.length+[IntKind.i64.wrap ((List.drop (x.2.1+1).toNat (List.take (x.2.1+1+x.2.2.1).toNat x.1)).getD x_1.2.toNat 0) - 1].length) * 8<=aF/\am .i64 (x_1.2+1)/\(0<=x_1.2+1/\x_1.2+1<=(↑(List.drop (x.2.1+1).toNat (List.take (x.2.1+1+x.2.2.1).toNat x.1)).length:Int)/\(∀ (v:Int),v∈List.drop (x.2.1+1).toNat (List.take (x.2.1+1+x.2.2.1).toNat x.1)->v<=256)/\(List.drop (x.2.1+1).toNat (List.take (x.2.1+1+x.2.2.1).toNat x.1)).length<=256/\x_1.1++[IntKind.i64.wrap ((List.drop (x.2.1+1).toNat (List.take (x.2.1+1+x.2.2.1).toNat x.1)).getD x_1.2.toNat 0) - 1]=List.map (fun (x:Int)=>x - 1) (List.filter (fun (v:Int)=>decide (v≠0)) (List.take (x_1.2+1).toNat (List.drop (x.2.1+1).toNat (List.take (x.2.1+1+x.2.2.1).toNat x.1)))))/\((↑(List.drop (x.2.1+1).toNat (List.take (x.2.1+1+x.2.2.1).toNat x.1)).length:Int) - (x_1.2+1)).toNat<((↑(List.drop (x.2.1+1).toNat (List.take (x.2.1+1+x.2.2.1).toNat x.1)).length:Int) - x_1.2).toNat)/\(decide ((List.drop (x.2.1+1).toNat (List.take (x.2.1+1+x.2.2.1).toNat x.1)).getD x_1.2.toNat (0:Int)≠0)=false->am .i64 (x_1.2+1)/\(0<=x_1.2+1/\x_1.2+1<=(↑(List.drop (x.2.1+1).toNat (List.take (x.2.1+1+x.2.2.1).toNat x.1)).length:Int)/\(∀ (v:Int),v∈List.drop (x.2.1+1).toNat (List.take (x.2.1+1+x.2.2.1).toNat x.1)->v<=256)/\(List.drop (x.2.1+1).toNat (List.take (x.2.1+1+x.2.2.1).toNat x.1)).length<=256/\x_1.1=List.map (fun (x:Int)=>x - 1) (List.filter (fun (v:Int)=>decide (v≠0)) (List.take (x_1.2+1).toNat (List.drop (x.2.1+1).toNat (List.take (x.2.1+1+x.2.2.1).toNat x.1)))))/\((↑(List.drop (x.2.1+1).toNat (List.take (x.2.1+1+x.2.2.1).toNat x.1)).length:Int) - (x_1.2+1)).toNat<((↑(List.drop (x.2.1+1).toNat (List.take (x.2.1+1+x.2.2.1).toNat x.1)).length:Int) - x_1.2).toNat))/\(decide (x_1.2<(↑(List.drop (x.2.1+1).toNat (List.take (x.2.1+1+x.2.2.1).toNat x.1)).length:Int))=false->x_1.1=a8 x.1 x.2.1/\True)
theorem D5:xo:=by
 unfold xo;intro ⟨a,x,h⟩ ⟨⟨hb,hw⟩,hx,_⟩ ⟨hc,hB,hh⟩;unfold aF at hb;simp only at hb hw hx hc hB hh |-;subst hh;obtain ⟨k1,k2,k3,k4,k5,k6⟩:=bS hB;have hal:=(pP hB).2.2.2.2
 have hrf:∀ v∈aY a x,0<=v/\v<=256:=fun v hv=>by
  rcases jM hw hc _ (fU hB).1 v hv with h | h <;> omega
 have hF:a8 a x=((aY a x).filter fun v=>decide (v≠0)).map (· - 1):=rfl;have e:List.drop (x+1).toNat (List.take (x+1+(eN a x).1).toNat a)=aY a x:=rfl;simp only [e,hF];have hrl:(aY a x).length<=256:=by omega
 generalize aY a x=r at *;simp only [am];refine ⟨by omega,by omega,by omega,by omega,by omega,by omega,⟨by omega,by omega,fun v hv=>(hrf v hv).2,hrl,by first | trivial | rfl⟩,fun ⟨out,i⟩ ⟨i0,i1,_,_,i4⟩=>⟨fun hlt=>?_,fun hge=>?_⟩⟩
 ·simp only at i0 i1 i4 hlt |-;have hlt:=Pt hlt;have hv:=hrf _ (aH (0:Int) i0 hlt);have ht:=a7 (0:Int) i0 hlt
  have hol:out.length<=i.toNat:=by
   rw [i4,Qc];exact P9 (QD _ _) (by simp; omega)
  rw [ht,Q6,Qn,<- i4];generalize r.getD i.toNat 0=v at *;have hwr:IntKind.i64.wrap v=v:=jF (by omega) (by omega);rw [hwr];refine ⟨i0,hlt,fun hn=>⟨by omega,by simp only [Pz,P4]; unfold aF; omega,by omega,⟨by omega,by omega,fun v hv=>(hrf v hv).2,hrl,?_⟩,by omega⟩,fun hn=>⟨by omega,⟨by omega,by omega,fun v hv=>(hrf v hv).2,hrl,?_⟩,by omega⟩⟩
  ·have hn:v≠0:=Pt hn;simp [hn]
  ·have hn:v=0:=by simpa using hn
   simp [hn]
 ·simp only at i0 i1 i4 hge |-;have hge:=Pu hge;rw [PJ (by omega)] at i4;exact ⟨i4,trivial⟩
theorem xW:H3.ok Tryz.prog 101:=aA (ann:=JH) ap Tryz.func101 (by kernel_rfl) D5
def dv (t:vN) (x:Int):Bool:=!cu t.2.1 x&&!cu t.2.2 x
def Ki:Spec:={ Ts:=[lz,ty_I],Rs:=[.dat .bool],pre:=fun _=>True,F:=fun ((t,x):vN×Int)=>dv t x }
def Ch:Prop :=
  ∀ (x:(List Int×List Int×List Int)×Int),((x.1.1.length * 8<=aF/\∀ (x_1:Int),x_1∈x.1.1->am .u64 x_1)/\(x.1.2.1.length * 8<=aF/\∀ (x_1:Int),x_1∈x.1.2.1->am .i64 x_1)/\x.1.2.2.length * 8<=aF/\∀ (x_1:Int),x_1∈x.1.2.2->am .i64 x_1)/\am .i64 x.2->True->True/\((!cu x.1.2.1 x.2)=true->True)/\(!cu x.1.2.1 x.2&&!cu x.1.2.2 x.2)=dv x.1 x.2/\True
theorem Hz:Ch:=by
 unfold Ch;intro ⟨t,x⟩ _ _;exact ⟨trivial,fun _=>trivial,rfl,trivial⟩
theorem CJ:Ki.ok Tryz.prog 103:=aA (ann:=cn) (ac lG ap) Tryz.func103 (by kernel_rfl) Hz
def EM:Spec:={ Ts:=[ty_I,.ref lz],Rs:=[.dat .bool],pre:=fun _=>True,F:=fun ((x,t):Int×vN)=>cu t.2.2 x }
def t6:Prop :=
  ∀ (x:Int×List Int×List Int×List Int),(am .i64 x.1/\(x.2.1.length * 8<=aF/\∀ (x_1:Int),x_1∈x.2.1->am .u64 x_1)/\(x.2.2.1.length * 8<=aF/\∀ (x_1:Int),x_1∈x.2.2.1->am .i64 x_1)/\x.2.2.2.length * 8<=aF/\∀ (x_1:Int),x_1∈x.2.2.2->am .i64 x_1)->True->True/\cu x.2.2.2 x.1=cu x.2.2.2 x.1/\True
theorem A5:t6:=by
 unfold t6;intro ⟨x,t⟩ _ _;exact ⟨trivial,rfl,trivial⟩
theorem Fn:EM.ok Tryz.prog 170:=aA (ann:=cn) (ac lG ap) Tryz.func170 (by kernel_rfl) A5
def EL:Spec:={ Ts:=[ty_I,.ref lz],Rs:=[.dat .bool],pre:=fun _=>True,F:=fun ((x,t):Int×vN)=>dv t x }
def tZ:Prop :=
  ∀ (x:Int×List Int×List Int×List Int),(am .i64 x.1/\(x.2.1.length * 8<=aF/\∀ (x_1:Int),x_1∈x.2.1->am .u64 x_1)/\(x.2.2.1.length * 8<=aF/\∀ (x_1:Int),x_1∈x.2.2.1->am .i64 x_1)/\x.2.2.2.length * 8<=aF/\∀ (x_1:Int),x_1∈x.2.2.2->am .i64 x_1)->True->True/\dv x.2 x.1=dv x.2 x.1/\True
theorem A4:tZ:=by
 unfold tZ;intro ⟨x,t⟩ _ _;exact ⟨trivial,rfl,trivial⟩
theorem Fm:EL.ok Tryz.prog 171:=aA (ann:=cn) (ac CJ ap) Tryz.func171 (by kernel_rfl) A4
def ky (t:vN) (x:Int):Bool:=(a8 t.1 x).any (dv t)
def kI (t:vN):Int:=if (ai t.1).2.2≠0 then (ai t.1).2.2 else if (aK t.2.1&&aK t.2.2)=false then 3 else if (t.2.1++t.2.2).all (isB (aa t.1).1)=false then 5 else if t.2.1.any (cu t.2.2)=true then 6 else if t.2.2.any (ky t)=true then 8 else 0
def JI:Nat->Option LoopGen
 | 8=>some { rd:=[.own 35 3 ty_I,.map 29 .i64 eX],A:=fun ((l,m):List Int×List (Int×ew))=>{ cs:=[.dat 37 ty_I],inv:=fun (i:Int)=>0<=i/\i<=l.length/\((l.drop i.toNat).all fun x=>(aC m x).isSome)=(l.all fun x=>(aC m x).isSome),mu:=fun (i:Int)=>(l.length - i).toNat } }
 | 17=>some { rd:=[.dat 55 (.arr ty_I),.box 1 lz],A:=fun ((l,t):List Int×vN)=>{ cs:=[.dat 57 ty_I],inv:=fun (i:Int)=>0<=i/\i<=l.length/\(l.drop i.toNat).any (ky t)=l.any (ky t),mu:=fun (i:Int)=>(l.length - i).toNat } }
 | _=>none
def H4:Spec:={ Ts:=[lz],Rs:=[.dat ty_I],pre:=fun (t:vN)=>(t.2.1.length+t.2.2.length) * 8<=140737488355328,F:=kI }
def xp:Prop :=
  ∀ (x:List Int×List Int×List Int),((x.1.length * 8<=aF/\∀ (x_1:Int),x_1∈x.1->am .u64 x_1)/\(x.2.1.length * 8<=aF/\∀ (x_1:Int),x_1∈x.2.1->am .i64 x_1)/\x.2.2.length * 8<=aF/\∀ (x_1:Int),x_1∈x.2.2->am .i64 x_1)->(x.2.1.length+x.2.2.length) * 8<=140737488355328->True/\(decide ((ai x.1).2.2≠0)=true->(ai x.1).2.2=kI x/\True)/\(decide ((ai x.1).2.2≠0)=false->True/\((!aK x.2.1)=false->True)/\((!aK x.2.1||!aK x.2.2)=true->3=kI x/\True)/\((!aK x.2.1||!aK x.2.2)=false->True/\[x.2.1,x.2.2].flatten.length * 8<=aF/\((0:Int)<=0/\0<=(↑[x.2.1,x.2.2].flatten.length:Int)/\((List.drop (Int.toNat 0) [x.2.1,x.2.2].flatten).all fun (x_1:Int)=>(aC (cL (aa x.1).1) x_1).isSome)=[x.2.1,x.2.2].flatten.all fun (x_1:Int)=>(aC (cL (aa x.1).1) x_1).isSome)/\∀ (x_1:Int),(0<=x_1/\x_1<=(↑[x.2.1,x.2.2].flatten.length:Int)/\((List.drop x_1.toNat [x.2.1,x.2.2].flatten).all fun (x_2:Int)=>(aC (cL (aa x.1).1) x_2).isSome)=[x.2.1,x.2.2].flatten.all fun (x_2:Int)=>(aC (cL (aa x.1).1) x_2).isSome)->(decide (x_1<(↑[x.2.1,x.2.2].flatten.length:Int))=true->0<=x_1/\x_1<(↑[x.2.1,x.2.2].flatten.length:Int)/\x_1.toNat<[x.2.1,x.2.2].flatten.length/\((!(aC (cL (aa x.1).1) ([x.2.1,x.2.2].flatten.getD x_1.toNat 0)).isSome)=true->5=kI x/\True)/\((!(aC (cL (aa x.1).1) ([x.2.1,x.2.2].flatten.getD x_1.toNat 0)).isSome)=false->am .i64 (x_1+1)/\(0<=x_1+1/\x_1+1<=(↑[x.2.1,x.2.2].flatten.length:Int)/\((List.drop (x_1+1).toNat [x.2.1,x.2.2].flatten).all fun (x_2:Int)=>(aC (cL (aa x.1).1) x_2).isSome)=[x.2.1,x.2.2].flatten.all fun (x_2:Int)=>(aC (cL (aa x.1).1) x_2).isSome)/\((↑[x.2.1,x.2.2].flatten.length:Int) - (x_1+1)).toNat<((↑[x.2.1,x.2.2].flatten.length:Int) - x_1).toNat))/\(decide (x_1<(↑[x.2.1,x.2.2].flatten.length:Int))=false->(∀ (s:Int),s∈x.2.1->(fun (_:Int)=>True,fun (x_2:Int)=>cu x.2.2 x_2).1 s)/\((x.2.1.any fun (x_2:Int)=>cu x.2.2 x_2)=true->6=kI x/\True)/\((x.2.1.any fun (x_2:Int)=>cu x.2.2 x_2)=false->((0:Int)<=0/\0<=(x.2.2.length:Int)/\(List.drop (Int.toNat 0) x.2.2).any (ky x)=x.2.2.any (ky x))/\∀ (x_2:Int),0<=x_2/\x_2<=(x.2.2.length:Int)/\(List.drop x_2.toNat x.2.2).any (ky x)=x.2.2.any (ky x)->(decide (x_2<(x.2.2.length:Int))=true->0<=x_2/\x_2<(x.2.2.length:Int)/\((ai x.1).2.2=0/\isB (aa x.1).1 (x.2.2.getD x_2.toNat 0)=true/\(aC (cL (aa x.1).1) (x.2.2.getD x_2.toNat 0)).getD (0,0,0,false)=eN x.1 (x.2.2.getD x_2.toNat 0))/\(∀ (s:Int),s∈a8 x.1 (x.2.2.getD x_2.toNat 0)->(fun (_:Int)=>True,fun (x_3:Int)=>dv x x_3).1 s)/\(((a8 x.1 (x.2.2.getD x_2.toNat 0)).any fun (x_3:Int)=>dv x x_3)=true->8=kI x/\True)/\(((a8 x.1 (x.2.2.getD x_2.toNat 0)).any fun (x_3:Int)=>dv x x_3)=false->am .i64 (x_2+1)/\(0<=x_2+1/\x_2+1<=(x.2.2.length:Int)/\(List.drop (x_2+1).toNat x.2.2).any (ky x)=x.2.2.any (ky x))/\((x.2.2.length:Int) - (x_2+1)).toNat<((x.2.2.length:Int) - x_2).toNat))/\(decide (x_2<(x.2.2.length:Int))=false->0=kI x/\True)))))
theorem D6:xp:=by
 unfold xp;intro ⟨a,g,b⟩ ⟨⟨hb,hw⟩,⟨hbg,hg⟩,hbb,hbl⟩ hpre;unfold aF at hb hbg hbb;simp only at hb hw hbg hg hbb hbl hpre |-;have hF:kI (a,g,b)=if (ai a).2.2≠0 then (ai a).2.2 else if (aK g&&aK b)=false then 3 else if (g++b).all (isB (aa a).1)=false then 5 else if g.any (cu b)=true then 6 else if b.any (ky (a,g,b))=true then 8 else 0:=rfl
 have hget:=fun x=>qR (bz a) x
 have hsome:∀ x,(aC (cL (aa a).1) x).isSome=isB (aa a).1 x:=fun x=>by rw [hget]; cases isB (aa a).1 x <;> rfl
 have hfl:[g,b].flatten=g++b:=by simp
 simp only [hsome,hfl];have hgl:(g++b).length=g.length+b.length:=PC ..;refine ⟨trivial,fun h=>?_,fun h=>⟨trivial,fun _=>trivial,fun h2=>?_,fun h2=>⟨trivial,by unfold aF; omega,⟨by omega,by omega,by first | rfl | trivial⟩,fun i ⟨i0,i1,i2⟩=>⟨fun hlt=>?_,fun hge=>⟨fun _ _=>trivial,fun h6=>?_,fun h6=>⟨⟨by omega,by omega,by first | rfl | trivial⟩,fun k ⟨k0,k1,k2⟩=>⟨fun hlt3=>?_,fun hge3=>?_⟩⟩⟩⟩⟩⟩⟩
 ·rw [hF,if_pos (Pt h)];exact ⟨rfl,trivial⟩
 ·rw [hF,if_neg (Pu h),if_pos (by cases h3:aK g <;> cases h4:aK b <;> simp_all)];exact ⟨rfl,trivial⟩
 all_goals have hc:=Pu h
 all_goals have hr:¬ (aK g&&aK b)=false:=by cases h3:aK g <;> cases h4:aK b <;> simp_all
 all_goals rw [hF,if_neg hc,if_neg hr]
 ·have hlt:=Pt hlt;rw [bg (0:Int) i0 hlt,Qv] at i2;simp only [am];refine ⟨i0,hlt,by omega,fun hn=>?_,fun hn=>⟨by omega,⟨by omega,by omega,?_⟩,by omega⟩⟩
  ·have hn:isB (aa a).1 ((g++b).getD i.toNat 0)=false:=by simpa using hn
   rw [hn,Q8] at i2;rw [if_pos i2.symm];exact ⟨rfl,trivial⟩
  ·have hn:isB (aa a).1 ((g++b).getD i.toNat 0)=true:=by simpa using hn
   rw [hn,QL] at i2;exact i2
 all_goals rw [b6 (Pu hge),RH] at i2
 all_goals have hob:(g++b).all (isB (aa a).1)=true:=i2.symm
 all_goals rw [if_neg (by rw [hob]; simp)]
 ·rw [if_pos h6];exact ⟨rfl,trivial⟩
 all_goals have h6:¬ g.any (cu b)=true:=by
              intro e;have h6:(g.any fun x=>cu b x)=false:=h6;rw [show (g.any fun x=>cu b x)=g.any (cu b) from rfl,e] at h6;cases h6
 all_goals rw [if_neg h6]
 ·have hlt3:=Pt hlt3;rw [bg (0:Int) k0 hlt3,Q4] at k2;have hib:=PA.1 hob _ (PK g (aH (0:Int) k0 hlt3));have e:ky (a,g,b) (b.getD k.toNat 0)=(a8 a (b.getD k.toNat 0)).any (dv (a,g,b)):=rfl;generalize b.getD k.toNat 0=x at *;simp only [am];refine ⟨k0,hlt3,⟨by omega,hib,by rw [hget,if_pos hib]; rfl⟩,fun _ _=>trivial,fun hh=>?_,fun hh=>⟨by omega,⟨by omega,by omega,?_⟩,by omega⟩⟩
  ·have hh:(a8 a x).any (dv (a,g,b))=true:=hh;rw [e,hh,Bool.true_or] at k2;rw [if_pos k2.symm];exact ⟨rfl,trivial⟩
  ·have hh:(a8 a x).any (dv (a,g,b))=false:=hh;rw [e,hh,Re] at k2;exact k2
 ·rw [b6 (Pu hge3),List.any_nil] at k2;rw [if_neg (by rw [<- k2]; simp)];exact ⟨rfl,trivial⟩
theorem IG:H4.ok Tryz.prog 98:=aA (ann:=JI) (ac fT (ac IF (ac sd (ac kM (ac xW (ac Fn (ac Fm (ac py ap)))))))) Tryz.func98 (by kernel_rfl) D6
end
section
end
section
end
end Go.Proofs.YtmfileeamnfpaaaGreatDoor
