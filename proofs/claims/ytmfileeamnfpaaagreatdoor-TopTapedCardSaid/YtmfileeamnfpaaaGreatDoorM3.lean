import Derived.Test.YtmfileeamnfpaaaGreatDoorM2
import Derived.WalkKit
namespace Go.Proofs.YtmfileeamnfpaaaGreatDoor
open Go
set_option maxRecDepth 100000
set_option maxHeartbeats 1000000
section
def B1:Nat->Option LoopGen
 | 5000004=>some { rd:=[.box 1 aH],A:=fun (s:ah)=>{ cs:=[.own 9 3 ty_I,.own 10 3 ty_I],inv:=fun ((ra,ha):List Int×List Int)=>ra=List.replicate s.1.length 0/\ha=List.replicate 256 0,mu:=fun _=>0 } }
 | 6=>some { wr:=[9,10],rd:=[.box 1 aH],A:=fun (s:ah)=>{ cs:=[.own 9 3 ty_I,.own 10 3 ty_I,.dat 42 ty_I],inv:=fun ((ra,ha,i):List Int×List Int×Int)=>0<=i/\i<=(ai s).length/\ra=b6 (List.replicate s.1.length 0) ((ai s).take i.toNat) (lZ s)/\ha=b6 (List.replicate 256 0) ((ai s).take i.toNat) (lZ s),mu:=fun ((_,_,i):List Int×List Int×Int)=>((ai s).length - i).toNat } }
 | 15=>some { rd:=[.own 86 105 jW],A:=fun (g:List db)=>{ cs:=[.dat 13 ty_I,.dat 88 ty_I],inv:=fun ((n,i):Int×Int)=>0<=i/\i<=g.length/\g.length<=256/\(∀ r∈g,0<=r.2/\r.2<=256)/\n=dR (g.take i.toNat)/\0<=n/\n<=256 * i,mu:=fun ((_,i):Int×Int)=>(g.length - i).toNat } }
 | _=>none
def AA:Spec:={ Ts:=[aH],Rs:=[.dat aH,.dat ty_I],al:=true,pre:=fun (s:ah)=>ar s=0,F:=dg }
def ql:Prop :=
  ∀ (x:List Int×List Int×List (Int×Int)×List (Int×Bool×Int)),(oT x)->ar x=0->(x.2.1.length<=32/\x.2.2.1.length<=16/\x.2.2.2.length<=16)/\True/\((ai x).length+(List.map (fun (x:bh)=>x.1) x.2.2.1).length) * 8<=140737488355328/\True/\((((0<=(x.1.length:Int)/\(x.1.length:Int).toNat * 8<=aK/\((0:Int)<=256/\Int.toNat 256 * 8<=aK/\((List.replicate (x.1.length:Int).toNat (0:Int)=List.replicate x.1.length (0:Int)/\List.replicate (Int.toNat 256) (0:Int)=List.replicate 256 (0:Int))/\True)/\True)/\(((0:Int)<=256/\Int.toNat 256 * 8<=aK/\(List.replicate (x.1.length:Int).toNat (0:Int)=List.replicate x.1.length (0:Int)/\List.replicate (Int.toNat 256) (0:Int)=List.replicate 256 (0:Int))/\True)/\True)/\True)/\((0:Int)<=256/\Int.toNat 256 * 8<=aK/\(0<=(x.1.length:Int)/\(x.1.length:Int).toNat * 8<=aK/\((List.replicate (x.1.length:Int).toNat (0:Int)=List.replicate x.1.length (0:Int)/\List.replicate (Int.toNat 256) (0:Int)=List.replicate 256 (0:Int))/\True)/\True)/\True)/\True)/\((0:Int)<=256/\Int.toNat 256 * 8<=aK/\((0<=(x.1.length:Int)/\(x.1.length:Int).toNat * 8<=aK/\((List.replicate (x.1.length:Int).toNat (0:Int)=List.replicate x.1.length (0:Int)/\List.replicate (Int.toNat 256) (0:Int)=List.replicate 256 (0:Int))/\True)/\True)/\True)/\True)/\True)/\((0:Int)<=256/\Int.toNat 256 * 8<=aK/\(((0<=(x.1.length:Int)/\(x.1.length:Int).toNat * 8<=aK/\((List.replicate (x.1.length:Int).toNat (0:Int)=List.replicate x.1.length (0:Int)/\List.replicate (Int.toNat 256) (0:Int)=List.replicate 256 (0:Int))/\True)/\True)/\True)/\True)/\True)/\True)/\∀ (x_1:List Int×List Int),x_1.1=List.replicate x.1.length (0:Int)/\x_1.2=List.replicate 256 (0:Int)->((0:Int)<=0/\0<=(↑(ai x).length:Int)/\x_1.1=b6 (List.replicate x.1.length (0:Int)) (List.take (Int.toNat 0) (ai x)) (lZ x)/\x_1.2=b6 (List.replicate 256 (0:Int)) (List.take (Int.toNat 0) (ai x)) (lZ x))/\∀ (x_2:List Int×List Int×Int),0<=x_2.2.2/\x_2.2.2<=(↑(ai x).length:Int)/\x_2.1=b6 (List.replicate x.1.length (0:Int)) (List.take x_2.2.2.toNat (ai x)) (lZ x)/\x_2.2.1=b6 (List.replicate 256 (0:Int)) (List.take x_2.2.2.toNat (ai x)) (lZ x)->(decide (x_2.2.2<(↑(ai x).length:Int))=true->0<=x_2.2.2/\x_2.2.2<(↑(ai x).length:Int)/\x_2.2.2.toNat<(ai x).length/\0<=x_2.2.2/\x_2.2.2<(↑(aq x.1 (ai x) (List.map (fun (x:bh)=>x.1) x.2.2.1)).2.1.length:Int)/\0<=x_2.2.2/\x_2.2.2<(↑(aq x.1 (ai x) (List.map (fun (x:bh)=>x.1) x.2.2.1)).2.1.length:Int)/\0<=(ai x).getD x_2.2.2.toNat 0/\(ai x).getD x_2.2.2.toNat 0<(x_2.1.length:Int)/\((ai x).getD x_2.2.2.toNat 0).toNat<x_2.1.length/\(ai x).getD x_2.2.2.toNat 0=(ai x).getD x_2.2.2.toNat 0/\0<=(ai x).getD x_2.2.2.toNat 0/\(ai x).getD x_2.2.2.toNat 0<(x_2.2.1.length:Int)/\((ai x).getD x_2.2.2.toNat 0).toNat<x_2.2.1.length/\ak .i64 (x_2.2.2+1)/\(0<=x_2.2.2+1/\x_2.2.2+1<=(↑(ai x).length:Int)/\x_2.1.set ((ai x).getD x_2.2.2.toNat 0).toNat ((aq x.1 (ai x) (List.map (fun (x:bh)=>x.1) x.2.2.1)).2.1.getD x_2.2.2.toNat 0)=b6 (List.replicate x.1.length (0:Int)) (List.take (x_2.2.2+1).toNat (ai x)) (lZ x)/\x_2.2.1.set ((ai x).getD x_2.2.2.toNat 0).toNat ((aq x.1 (ai x) (List.map (fun (x:bh)=>x.1) x.2.2.1)).2.1.getD x_2.2.2.toNat 0)=b6 (List.replicate 256 (0:Int)) (List.take (x_2.2.2+1).toNat (ai x)) (lZ x))/\((↑(ai x).length:Int) - (x_2.2.2+1)).toNat<((↑(ai x).length:Int) - x_2.2.2).toNat)/\(decide (x_2.2.2<(↑(ai x).length:Int))=false->True/\True/\True/\((0:Int)<=0/\0<=(↑(an (aq x.1 (ai x) (List.map (fun (x:bh)=>x.1) x.2.2.1)).1).1.length:Int)/\(an (aq x.1 (ai x) (List.map (fun (x:bh)=>x.1) x.2.2.1)).1).1.length<=256/\(∀ (r:db),r∈(an (aq x.1 (ai x) (List.map (fun (x:bh)=>x.1) x.2.2.1)).1).1->0<=r.2/\r.2<=256)/\0=dR (List.take (Int.toNat 0) (an (aq x.1 (ai x) (List.map (fun (x:bh)=>x.1) x.2.2.1)).1).1)/\(0:Int)<=0/\(0:Int)<=256 * 0)/\∀ (x_3:Int×Int),0<=x_3.2/\x_3.2<=(↑(an (aq x.1 (ai x) (List.map (fun (x:bh)=>x.1) x.2.2.1)).1).1.length:Int)/\(an (aq x.1 (ai x) (List.map (fun (x:bh)=>x.1) x.2.2.1)).1).1.length<=256/\(∀ (r:db),r∈(an (aq x.1 (ai x) (List.map (fun (x:bh)=>x.1) x.2.2.1)).1).1->0<=r.2/\r.2<=256)/\x_3.1=dR (List.take x_3.2.toNat (an (aq x.1 (ai x) (List.map (fun (x:bh)=>x.1) x.2.2.1)).1).1)/\0<=x_3.1/\x_3.1<=256 * x_3.2->(decide (x_3.2<(↑(an (aq x.1 (ai x) (List.map (fun (x:bh)=>x.1) x.2.2.1)).1).1.length:Int))=true->0<=x_3.2/\x_3.2<(↑(an (aq x.1 (ai x) (List.map (fun (x:bh)=>x.1) x.2.2.1)).1).1.length:Int)/\x_3.2.toNat<(an (aq x.1 (ai x) (List.map (fun (x:bh)=>x.1) x.2.2.1)).1).1.length/\ak .i64 (x_3.1+((an (aq x.1 (ai x) (List.map (fun (x:bh)=>x.1) x.2.2.1)).1).1.getD x_3.2.toNat (0,0)).2)/\ak .i64 (x_3.2+1)/\(0<=x_3.2+1/\x_3.2+1<=(↑(an (aq x.1 (ai x) (List.map (fun (x:bh)=>x.1) x.2.2.1)).1).1.length:Int)/\(an (aq x.1 (ai x) (List.map (fun (x:bh)=>x.1) x.2.2.1)).1).1.length<=256/\(∀ (r:db),r∈(an (aq x.1 (ai x) (List.map (fun (x:bh)=>x.1) x.2.2.1)).1).1->0<=r.2/\r.2<=256)/\x_3.1+((an (aq x.1 (ai x) (List.map (fun (x:bh)=>x.1) x.2.2.1)).1).1.getD x_3.2.toNat (0,0)).2=dR (List.take (x_3.2+1).toNat (an (aq x.1 (ai x) (List.map (fun (x:bh)=>x.1) x.2.2.1)).1).1)/\0<=x_3.1+((an (aq x.1 (ai x) (List.map (fun (x:bh)=>x.1) x.2.2.1)).1).1.getD x_3.2.toNat (0,0)).2/\x_3.1+((an (aq x.1 (ai x) (List.map (fun (x:bh)=>x.1) x.2.2.1)).1).1.getD x_3.2.toNat (0,0)).2<=256 * (x_3.2+1))/\((↑(an (aq x.1 (ai x) (List.map (fun (x:bh)=>x.1) x.2.2.1)).1).1.length:Int) - (x_3.2+1)).toNat<((↑(an (aq x.1 (ai x) (List.map (fun (x:bh)=>x.1) x.2.2.1)).1).1.length:Int) - x_3.2).toNat)/\(decide (x_3.2<(↑(an (aq x.1 (ai x) (List.map (fun (x:bh)=>x.1) x.2.2.1)).1).1.length:Int))=false->((aq x.1 (ai x) (List.map (fun (x:bh)=>x.1) x.2.2.1)).1,(bo x.2.1 (x.1.length:Int) x_2.1).1,x.2.2.1,(gn x.2.2.2 x_2.2.1).1)=(dg x).1/\x_3.1=(dg x).2/\True))
theorem xt:ql:=by
 unfold ql;intro s ⟨⟨hb,hw⟩,_⟩ hs;have R:=go hw hs;have hcl:aq s.1 (ai s) (List.map (fun (x:bh)=>x.1) s.2.2.1)=(dL s,(ai s).map (lZ s),0):=R.clean;obtain ⟨hgf,hgi,hgl⟩:=R.gaps;have hfl:=R.fromLen;have hsm:=R.small;have hal:=R.al;have hF:dg s=(ig s,dR (aO false [] (ac (dL s)).1)):=rfl;have hfm:=fun x=>gZ (s:=s) R.root (x:=x)
 have hsr:=R.swapRoots;have hsh:=R.swapHands;rw [hF,hcl];simp only;rw [hgf];simp only;generalize aO false [] (ac (dL s)).1=g at *;unfold aK at hb |-;refine ⟨hsm,trivial,by rw [Q3]; omega,trivial,?_,fun ⟨ra,ha⟩ ⟨q1,q2⟩=>?_⟩
 ·have e1:((s.1.length:Int)).toNat=s.1.length:=by omega
  have e2:Int.toNat 256=256:=rfl;have e3:(0:Int)<=(s.1.length:Int):=by omega
  simp only [e1,e2,e3,hb,Sb,SI];omega
 simp only at q1 q2;subst q1 q2;refine ⟨⟨by omega,by omega,by simp [b6],by simp [b6]⟩,fun ⟨ra,ha,i⟩ ⟨i0,i1,i2,i3⟩=>⟨fun hlt=>?_,fun hge=>?_⟩⟩
 ·simp only at i0 i1 i2 i3 hlt |-;have hlt:=tM hlt;have ht:=a8 (0:Int) i0 hlt;have hx:=R.nameIn ((hfm _).1 (aI (0:Int) i0 hlt));have hm:(List.map (lZ s) (ai s)).getD i.toNat 0=lZ s ((ai s).getD i.toNat 0):=Em i0 hlt;have l1:ra.length=s.1.length:=by rw [i2,eu,QV]
  have l2:ha.length=256:=by rw [i3,eu,QV]
  rw [hm,ht,kJ,kJ,<- i2,<- i3,l1,l2,Q3];generalize (ai s).getD i.toNat 0=x at *;simp only [ak];exact ⟨i0,hlt,by omega,i0,hlt,i0,hlt,hx.1,hx.2,by omega,by first | trivial | rfl,hx.1,by omega,by omega,by omega,⟨by omega,by omega,by trivial,by trivial⟩,by omega⟩
 ·simp only at i0 i1 i2 i3 hge |-;have hge:=uZ hge;rw [bT hge] at i2 i3;refine ⟨trivial,trivial,trivial,⟨by omega,by omega,hgl,fun r hr=>by have:=hgi r hr; omega,by trivial,by omega,by omega⟩,fun ⟨n,j⟩ ⟨j0,j1,_,_,j2,j3,j4⟩=>⟨fun hlt=>?_,fun hge=>?_⟩⟩
  ·simp only at j0 j1 j2 j3 j4 hlt |-;have hlt:=tM hlt;have hm:=hgi _ (aI ((0,0):db) j0 hlt);rw [yr j0 hlt,<- j2];generalize (g.getD j.toNat (0,0)).2=y at *;simp only [ak];exact ⟨j0,hlt,by omega,by omega,by omega,⟨by omega,by omega,hgl,fun r hr=>by have:=hgi r hr; omega,by trivial,by omega,by omega⟩,by omega⟩
  ·simp only at j0 j1 j2 hge |-;rw [bT (uZ hge)] at j2;rw [i2,i3,hsr,hsh];exact ⟨rfl,j2,trivial⟩
theorem A5:AA.ok Tryz.prog 85:=aD (ann:=B1) (ae rQ (ae kO (ae Ee (ae bX (ae tv (ae tD (ae kQ ap))))))) Tryz.func85 (by kernel_rfl) xt
def bE (s:ah):ah×Int×Int:=if ar s≠0 then (ay,0,ar s) else ((dg s).1,(dg s).2,0)
def xK:Spec:={ Ts:=[aH],Rs:=[.dat aH,.dat ty_I,.dat ty_I],al:=true,pre:=fun _=>True,F:=bE }
def ow:Prop :=
  ∀ (x:List Int×List Int×List (Int×Int)×List (Int×Bool×Int)),(oT x)->True->True/\(decide (ar x≠0)=true->(([]:List Int),([]:List Int),([]:List (Int×Int)),([]:List (Int×Bool×Int)))=(bE x).1/\0=(bE x).2.1/\ar x=(bE x).2.2/\True)/\(decide (ar x≠0)=false->ar x=0/\(dg x).1=(bE x).1/\(dg x).2=(bE x).2.1/\0=(bE x).2.2/\True)
theorem uC:ow:=by
 unfold ow;intro s hx hs;refine ⟨trivial,fun h=>?_,fun h=>?_⟩
 ·unfold bE;rw [if_pos (tM h)];exact ⟨by trivial,by trivial,by trivial,trivial⟩
 ·have h:=uZ h;unfold bE;rw [if_neg h];exact ⟨by omega,rfl,rfl,rfl,trivial⟩
theorem oG:xK.ok Tryz.prog 60:=aD (ann:=cF) (ae eA (ae A5 ap)) Tryz.func60 (by kernel_rfl) uC
def bw (s:ah) (k:Int):Int:=if ar s≠0 then ar s else if k<0\/(s.2.1.length:Int)<=k\/s.2.1.getD k.toNat 0<0 then 5 else 0
def ax (s:ah) (k:Int):Int:=s.2.1.getD k.toNat 0
def aY (s:ah) (k:Int):Int×Obj×Int:=if bw s k≠0 then (0,iO,bw s k) else (ax s k,(iy s.1 (ax s k)).1,0)
def E9:Nat->Option LoopGen
 | 4000006=>some cY
 | _=>none
def CS:Spec:={ Ts:=[aH,ty_I],Rs:=[.dat ty_I,.dat FO,.dat ty_I],al:=true,pre:=fun _=>True,F:=fun ((s,k):ah×Int)=>aY s k }
def sQ:Prop :=
  ∀ (x:(List Int×List Int×List (Int×Int)×List (Int×Bool×Int))×Int),(fun (v0:type_of% (iy x.1.1 (x.1.2.1.getD x.2.toNat 0)))=>(oT x.1)/\ak .i64 x.2->True->True/\(decide (ar x.1≠0)=true->0=(aY x.1 x.2).1/\(0,([]:List Int),([]:List Int),false)=(aY x.1 x.2).2.1/\ar x.1=(aY x.1 x.2).2.2/\True)/\(decide (ar x.1≠0)=false->((decide (x.2<0)||decide ((x.1.2.1.length:Int)<=x.2))=false->0<=x.2)/\((decide (x.2<0)||decide ((x.1.2.1.length:Int)<=x.2))=false->x.2<(x.1.2.1.length:Int))/\((decide (x.2<0)||decide ((x.1.2.1.length:Int)<=x.2)||decide (x.1.2.1.getD x.2.toNat (0:Int)<0))=true->0=(aY x.1 x.2).1/\(0,([]:List Int),([]:List Int),false)=(aY x.1 x.2).2.1/\5=(aY x.1 x.2).2.2/\True)/\((decide (x.2<0)||decide ((x.1.2.1.length:Int)<=x.2)||decide (x.1.2.1.getD x.2.toNat (0:Int)<0))=false->0<=x.2/\x.2<(x.1.2.1.length:Int)/\True/\x.1.1=x.1.1/\x.1.2.1=x.1.2.1/\x.2=x.2/\0<=x.2/\x.2<(x.1.2.1.length:Int)/\x.1.2.1.getD x.2.toNat 0=x.1.2.1.getD x.2.toNat 0/\x.1.2.1.getD x.2.toNat 0=x.1.2.1.getD x.2.toNat 0/\True/\v0.1.1=v0.1.1/\v0.1.2.1=v0.1.2.1/\v0.1.2.2.1=v0.1.2.2.1/\v0.1.2.2.2=v0.1.2.2.2/\v0.2=v0.2/\v0.1.1=v0.1.1/\v0.1.2.1=v0.1.2.1/\v0.1.2.2.1=v0.1.2.2.1/\v0.1.2.2.2=v0.1.2.2.2/\v0.2=v0.2/\v0.1.1=v0.1.1/\v0.1.2.1=v0.1.2.1/\v0.1.2.2.1=v0.1.2.2.1/\v0.1.2.2.2=v0.1.2.2.2/\v0.2=v0.2/\v0.2=v0.2/\0<=x.2/\x.2<(x.1.2.1.length:Int)/\v0.1.1=v0.1.1/\v0.1.2.1=v0.1.2.1/\v0.1.2.2.1=v0.1.2.2.1/\v0.1.2.2.2=v0.1.2.2.2/\v0.2=v0.2/\v0.2=v0.2/\x.1.2.1.getD x.2.toNat 0=(aY x.1 x.2).1/\v0.1=(aY x.1 x.2).2.1/\v0.2=(aY x.1 x.2).2.2/\True))) (iy x.1.1 (x.1.2.1.getD x.2.toNat 0))
theorem zT:sQ:=by
 unfold sQ;intro ⟨s,k⟩ ⟨⟨⟨hb,hw⟩,_⟩,_⟩ _;simp only at hb hw |-;have hO:aY s k=if bw s k≠0 then (0,iO,bw s k) else (ax s k,(iy s.1 (ax s k)).1,0):=rfl
 have hE:bw s k=if ar s≠0 then ar s else if k<0\/(s.2.1.length:Int)<=k\/s.2.1.getD k.toNat 0<0 then 5 else 0:=rfl
 refine ⟨trivial,fun h=>?_,fun h=>⟨fun h1=>?_,fun h1=>?_,fun h1=>?_,fun h1=>?_⟩⟩
 ·rw [if_pos (tM h)] at hE;rw [hO,hE,if_pos (tM h)];exact ⟨by trivial,by trivial,by trivial,trivial⟩
 ·simp at h1; omega
 ·simp at h1; omega
 ·rw [if_neg (uZ h),if_pos (by simpa [or_assoc,SU] using h1)] at hE;rw [hO,hE,if_pos (by omega)];exact ⟨by trivial,by trivial,by trivial,trivial⟩
 ·have hs:ar s=0:=by simpa using uZ h
  have h1:¬ (k<0\/(s.2.1.length:Int)<=k\/s.2.1.getD k.toNat 0<0):=by simpa [or_assoc,SU] using h1
  rw [if_neg (by omega),if_neg h1] at hE;have R:=go hw hs;have O:=R.obj (R.rootNam (k:=k) (by omega) (by omega) (by omega));have hz:(iy s.1 (s.2.1.getD k.toNat 0)).2=0:=by rw [O.at_]
  rw [hO,hE,if_neg (by omega),hz];simp only [SI,Sb,ax];omega
theorem kP:CS.ok Tryz.prog 139:=aD (ann:=E9) (ae eA (ae nU ap)) Tryz.func139 (by kernel_rfl) zT
theorem ph {s:ah} {k:Int} (hw:∀ x∈s.1,ak .u64 x) (h:bw s k=0):Right s/\0<=k/\k<s.2.1.length/\ObjAt s (ax s k):=by
 unfold bw at h;split at h
 ·omega
 rename_i h0;split at h
 ·omega
 rename_i h1;have R:=go hw (by omega:ar s=0);exact ⟨R,by omega,by omega,R.obj (R.rootNam (k:=k) (by omega) (by omega) (by omega))⟩
def bC (s:ah) (slot k other:Int):Int:=if bw s slot≠0 then bw s slot else if k<0\/(eX s.1 (ax s slot)).1<=k then 4 else if other<0\/(s.2.1.length:Int)<=other then 5 else 0
def Ls:Spec:={ Ts:=[aH,ty_I,ty_I,ty_I],Rs:=[.dat ty_I,.dat ty_I],pre:=fun _=>True,F:=fun ((s,slot,k,other):ah×Int×Int×Int)=>((if bC s slot k other≠0 then 0 else ax s slot+1+k,bC s slot k other):Int×Int) }
def DC:Prop :=
  ∀ (x:(List Int×List Int×List (Int×Int)×List (Int×Bool×Int))×Int×Int×Int),(oT x.1)/\ak .i64 x.2.1/\ak .i64 x.2.2.1/\ak .i64 x.2.2.2->True->True/\(decide ((aY x.1 x.2.1).2.2≠0)=true->((0:Int)=if bC x.1 x.2.1 x.2.2.1 x.2.2.2≠0 then (0:Int) else ax x.1 x.2.1+1+x.2.2.1)/\(aY x.1 x.2.1).2.2=bC x.1 x.2.1 x.2.2.1 x.2.2.2/\True)/\(decide ((aY x.1 x.2.1).2.2≠0)=false->((decide (x.2.2.1<0)||decide ((↑(aY x.1 x.2.1).2.1.2.1.length:Int)<=x.2.2.1))=true->((0:Int)=if bC x.1 x.2.1 x.2.2.1 x.2.2.2≠0 then (0:Int) else ax x.1 x.2.1+1+x.2.2.1)/\4=bC x.1 x.2.1 x.2.2.1 x.2.2.2/\True)/\((decide (x.2.2.1<0)||decide ((↑(aY x.1 x.2.1).2.1.2.1.length:Int)<=x.2.2.1))=false->((decide (x.2.2.2<0)||decide ((x.1.2.1.length:Int)<=x.2.2.2))=true->((0:Int)=if bC x.1 x.2.1 x.2.2.1 x.2.2.2≠0 then (0:Int) else ax x.1 x.2.1+1+x.2.2.1)/\5=bC x.1 x.2.1 x.2.2.1 x.2.2.2/\True)/\((decide (x.2.2.2<0)||decide ((x.1.2.1.length:Int)<=x.2.2.2))=false->ak .i64 ((aY x.1 x.2.1).1+1)/\ak .i64 ((aY x.1 x.2.1).1+1+x.2.2.1)/\((aY x.1 x.2.1).1+1+x.2.2.1=if bC x.1 x.2.1 x.2.2.1 x.2.2.2≠0 then (0:Int) else ax x.1 x.2.1+1+x.2.2.1)/\0=bC x.1 x.2.1 x.2.2.1 x.2.2.2/\True)))
theorem IQ:DC:=by
 unfold DC;intro ⟨s,slot,k,other⟩ ⟨⟨⟨hb,hw⟩,_⟩,_⟩ _;simp only at hb hw |-;have hR:bC s slot k other=if bw s slot≠0 then bw s slot else if k<0\/(eX s.1 (ax s slot)).1<=k then 4 else if other<0\/(s.2.1.length:Int)<=other then 5 else 0:=rfl
 have hO:aY s slot=if bw s slot≠0 then (0,iO,bw s slot) else (ax s slot,(iy s.1 (ax s slot)).1,0):=rfl
 by_cases h0:bw s slot≠0
 ·rw [if_pos h0] at hR hO;rw [hO,hR];simp only;refine ⟨trivial,fun _=>?_,fun h=>absurd h0 (uZ h)⟩;rw [if_pos h0];exact ⟨by trivial,by trivial,trivial⟩
 ·obtain ⟨R,_,_,O⟩:=ph hw (by omega:bw s slot=0);have hal:=R.al;rw [if_neg h0] at hR hO;rw [hO];simp only;rw [O.refs];have:=O.x0;have:=O.r0;have:=O.b0;have:=O.fit;refine ⟨trivial,fun h=>absurd rfl (tM h),fun _=>⟨fun h1=>?_,fun h1=>⟨fun h2=>?_,fun h2=>?_⟩⟩⟩
  ·rw [if_pos (by simpa using h1)] at hR;rw [hR];exact ⟨by trivial,by trivial,trivial⟩
  ·have h1:¬ (k<0\/(eX s.1 (ax s slot)).1<=k):=by simpa using h1
   rw [if_neg h1,if_pos (by simpa using h2)] at hR;rw [hR];exact ⟨by trivial,by trivial,trivial⟩
  ·have h1:¬ (k<0\/(eX s.1 (ax s slot)).1<=k):=by simpa using h1
   have h2:¬ (other<0\/(s.2.1.length:Int)<=other):=by simpa using h2
   rw [if_neg h1,if_neg h2] at hR;rw [hR];simp only [ak];exact ⟨by omega,by omega,by simp,by trivial,trivial⟩
theorem DZ:Ls.ok Tryz.prog 137:=aD (ann:=cF) (ae kP ap) Tryz.func137 (by kernel_rfl) IQ
theorem AW {s:ah} {slot k other:Int} (hw:∀ x∈s.1,ak .u64 x) (h:bC s slot k other=0):Right s/\ObjAt s (ax s slot)/\0<=k/\k<(eX s.1 (ax s slot)).1/\0<=other/\other<s.2.1.length:=by
 unfold bC at h;split at h
 ·omega
 rename_i h0;split at h
 ·omega
 split at h
 ·omega
 obtain ⟨R,_,_,O⟩:=ph hw (by omega:bw s slot=0);exact ⟨R,O,by omega,by omega,by omega,by omega⟩
def gh:Nat->Option LoopGen
 | 3000083=>some cY
 | 8404000001=>some cY
 | _=>none
def lj (s:ah) (slot k into:Int):ah×Int:=if bC s slot k into≠0 then (ay,bC s slot k into) else ((s.1,s.2.1.set into.toNat (s.1.getD (ax s slot+1+k).toNat 0 - 1),s.2.2),0)
def Ji:Spec:={ Ts:=[aH,ty_I,ty_I,ty_I],Rs:=[.dat aH,.dat ty_I],al:=true,pre:=fun _=>True,F:=fun ((s,slot,k,into):ah×Int×Int×Int)=>lj s slot k into }
def yJ:Prop :=
  ∀ (x:(List Int×List Int×List (Int×Int)×List (Int×Bool×Int))×Int×Int×Int),(oT x.1)/\ak .i64 x.2.1/\ak .i64 x.2.2.1/\ak .i64 x.2.2.2->True->True/\(decide (bC x.1 x.2.1 x.2.2.1 x.2.2.2≠0)=true->(([]:List Int),([]:List Int),([]:List (Int×Int)),([]:List (Int×Bool×Int)))=(lj x.1 x.2.1 x.2.2.1 x.2.2.2).1/\bC x.1 x.2.1 x.2.2.1 x.2.2.2=(lj x.1 x.2.1 x.2.2.1 x.2.2.2).2/\True)/\(decide (bC x.1 x.2.1 x.2.2.1 x.2.2.2≠0)=false->∀ (_:Array Value),True/\True/\True/\x.1.2.1=x.1.2.1/\x.1.2.2.1=x.1.2.2.1/\x.1.2.2.1=x.1.2.2.1/\x.1.2.2.2=x.1.2.2.2/\x.1.2.2.2=x.1.2.2.2/\x.1.2.2.2=x.1.2.2.2/\True/\(0<=if bC x.1 x.2.1 x.2.2.1 x.2.2.2≠0 then (0:Int) else ax x.1 x.2.1+1+x.2.2.1)/\(if bC x.1 x.2.1 x.2.2.1 x.2.2.2≠0 then (0:Int) else ax x.1 x.2.1+1+x.2.2.1)<(x.1.1.length:Int)/\(if bC x.1 x.2.1 x.2.2.1 x.2.2.2≠0 then (0:Int) else ax x.1 x.2.1+1+x.2.2.1).toNat<x.1.1.length/\ak .i64 (IntKind.i64.wrap (x.1.1.getD (if bC x.1 x.2.1 x.2.2.1 x.2.2.2≠0 then (0:Int) else ax x.1 x.2.1+1+x.2.2.1).toNat 0) - 1)/\0<=x.2.2.2/\x.2.2.2<(x.1.2.1.length:Int)/\x.2.2.2.toNat<x.1.2.1.length/\(x.1.1,x.1.2.1.set x.2.2.2.toNat (IntKind.i64.wrap (x.1.1.getD (if bC x.1 x.2.1 x.2.2.1 x.2.2.2≠0 then (0:Int) else ax x.1 x.2.1+1+x.2.2.1).toNat 0) - 1),x.1.2.2)=(lj x.1 x.2.1 x.2.2.1 x.2.2.2).1/\0=(lj x.1 x.2.1 x.2.2.1 x.2.2.2).2/\True)
theorem Fu:yJ:=by
 unfold yJ;intro ⟨s,slot,k,into⟩ ⟨⟨⟨hb,hw⟩,_⟩,_⟩ _;simp only at hb hw |-;have hF:lj s slot k into=if bC s slot k into≠0 then (ay,bC s slot k into) else ((s.1,s.2.1.set into.toNat (s.1.getD (ax s slot+1+k).toNat 0 - 1),s.2.2),0):=rfl
 refine ⟨trivial,fun h=>?_,fun h tm=>⟨trivial,trivial,trivial,by trivial,by trivial,by trivial,by trivial,by trivial,by trivial,trivial,?_⟩⟩
 ·rw [hF,if_pos (tM h)];exact ⟨by trivial,by trivial,trivial⟩
 ·have h0:=uZ h;obtain ⟨R,O,k0,k1,o0,o1⟩:=AW hw (by omega:bC s slot k into=0);have hv:=R.refWord O.isb k0 k1;have:=O.x0;have:=O.b0;have:=O.fit;rw [hF,if_neg h0,if_neg h0];have hwr:IntKind.i64.wrap (s.1.getD (ax s slot+1+k).toNat 0)=s.1.getD (ax s slot+1+k).toNat 0:=jT (by omega) (by omega);rw [hwr];generalize s.1.getD (ax s slot+1+k).toNat 0=v at *;simp only [ak];exact ⟨by omega,by omega,by omega,by omega,o0,o1,by omega,by trivial,by trivial,trivial⟩
theorem JV:Ji.ok Tryz.prog 62:=aD (ann:=gh) (ae DZ (ae bK (ae cg (ae bX (ae bL ap))))) Tryz.func62 (by kernel_rfl) Fu
def ld (s:ah) (slot k other:Int):ah×Int:=if bC s slot k other≠0 then (ay,bC s slot k other) else ((s.1.set (ax s slot+1+k).toNat (ax s other+1),s.2),0)
def Jh:Spec:={ Ts:=[aH,ty_I,ty_I,ty_I],Rs:=[.dat aH,.dat ty_I],al:=true,pre:=fun _=>True,F:=fun ((s,slot,k,other):ah×Int×Int×Int)=>ld s slot k other }
def yI:Prop :=
  ∀ (x:(List Int×List Int×List (Int×Int)×List (Int×Bool×Int))×Int×Int×Int),(oT x.1)/\ak .i64 x.2.1/\ak .i64 x.2.2.1/\ak .i64 x.2.2.2->True->True/\(decide (bC x.1 x.2.1 x.2.2.1 x.2.2.2≠0)=true->(([]:List Int),([]:List Int),([]:List (Int×Int)),([]:List (Int×Bool×Int)))=(ld x.1 x.2.1 x.2.2.1 x.2.2.2).1/\bC x.1 x.2.1 x.2.2.1 x.2.2.2=(ld x.1 x.2.1 x.2.2.1 x.2.2.2).2/\True)/\(decide (bC x.1 x.2.1 x.2.2.1 x.2.2.2≠0)=false->∀ (_:Array Value),True/\True/\True/\x.1.2.1=x.1.2.1/\x.1.2.2.1=x.1.2.2.1/\x.1.2.2.1=x.1.2.2.1/\x.1.2.2.2=x.1.2.2.2/\x.1.2.2.2=x.1.2.2.2/\x.1.2.2.2=x.1.2.2.2/\True/\0<=x.2.2.2/\x.2.2.2<(x.1.2.1.length:Int)/\x.2.2.2.toNat<x.1.2.1.length/\ak .i64 (x.1.2.1.getD x.2.2.2.toNat 0+1)/\(0<=if bC x.1 x.2.1 x.2.2.1 x.2.2.2≠0 then (0:Int) else ax x.1 x.2.1+1+x.2.2.1)/\(if bC x.1 x.2.1 x.2.2.1 x.2.2.2≠0 then (0:Int) else ax x.1 x.2.1+1+x.2.2.1)<(x.1.1.length:Int)/\(if bC x.1 x.2.1 x.2.2.1 x.2.2.2≠0 then (0:Int) else ax x.1 x.2.1+1+x.2.2.1).toNat<x.1.1.length/\(x.1.1.set (if bC x.1 x.2.1 x.2.2.1 x.2.2.2≠0 then (0:Int) else ax x.1 x.2.1+1+x.2.2.1).toNat (IntKind.u64.wrap (x.1.2.1.getD x.2.2.2.toNat 0+1)),x.1.2)=(ld x.1 x.2.1 x.2.2.1 x.2.2.2).1/\0=(ld x.1 x.2.1 x.2.2.1 x.2.2.2).2/\True)
theorem Ft:yI:=by
 unfold yI;intro ⟨s,slot,k,other⟩ ⟨⟨⟨hb,hw⟩,_⟩,_⟩ _;simp only at hb hw |-;have hF:ld s slot k other=if bC s slot k other≠0 then (ay,bC s slot k other) else ((s.1.set (ax s slot+1+k).toNat (ax s other+1),s.2),0):=rfl
 refine ⟨trivial,fun h=>?_,fun h tm=>⟨trivial,trivial,trivial,by trivial,by trivial,by trivial,by trivial,by trivial,by trivial,trivial,?_⟩⟩
 ·rw [hF,if_pos (tM h)];exact ⟨by trivial,by trivial,trivial⟩
 ·have h0:=uZ h;obtain ⟨R,O,k0,k1,o0,o1⟩:=AW hw (by omega:bC s slot k other=0);have hv:=R.rootIn o0 o1;have hal:=R.al;have:=O.x0;have:=O.b0;have:=O.fit;rw [hF,if_neg h0,if_neg h0];have hwr:IntKind.u64.wrap (s.2.1.getD other.toNat 0+1)=ax s other+1:=eY (by omega) (by omega);rw [hwr];generalize s.2.1.getD other.toNat 0=v at *;simp only [ak];exact ⟨o0,o1,by omega,by omega,by omega,by omega,by omega,by trivial,by trivial,trivial⟩
theorem JU:Jh.ok Tryz.prog 63:=aD (ann:=gh) (ae DZ (ae bK (ae cg (ae bX (ae bL ap))))) Tryz.func63 (by kernel_rfl) Ft
def aP (s:ah) (slot k:Int):Int:=if bw s slot≠0 then bw s slot else if k<0\/(eX s.1 (ax s slot)).2.1<=k then 4 else 0
def bO (s:ah) (at_ k:Int):Int:=at_+1+(eX s.1 at_).1+k
def Jo:Spec:={ Ts:=[aH,ty_I,ty_I],Rs:=[.dat ty_I,.dat ty_I],pre:=fun _=>True,F:=fun ((s,slot,k):ah×Int×Int)=>((if aP s slot k≠0 then 0 else bO s (ax s slot) k,aP s slot k):Int×Int) }
def yP:Prop :=
  ∀ (x:(List Int×List Int×List (Int×Int)×List (Int×Bool×Int))×Int×Int),(oT x.1)/\ak .i64 x.2.1/\ak .i64 x.2.2->True->True/\(decide ((aY x.1 x.2.1).2.2≠0)=true->((0:Int)=if aP x.1 x.2.1 x.2.2≠0 then (0:Int) else bO x.1 (ax x.1 x.2.1) x.2.2)/\(aY x.1 x.2.1).2.2=aP x.1 x.2.1 x.2.2/\True)/\(decide ((aY x.1 x.2.1).2.2≠0)=false->((decide (x.2.2<0)||decide ((↑(aY x.1 x.2.1).2.1.2.2.1.length:Int)<=x.2.2))=true->((0:Int)=if aP x.1 x.2.1 x.2.2≠0 then (0:Int) else bO x.1 (ax x.1 x.2.1) x.2.2)/\4=aP x.1 x.2.1 x.2.2/\True)/\((decide (x.2.2<0)||decide ((↑(aY x.1 x.2.1).2.1.2.2.1.length:Int)<=x.2.2))=false->ak .i64 ((aY x.1 x.2.1).1+1)/\ak .i64 ((aY x.1 x.2.1).1+1+(↑(aY x.1 x.2.1).2.1.2.1.length:Int))/\ak .i64 ((aY x.1 x.2.1).1+1+(↑(aY x.1 x.2.1).2.1.2.1.length:Int)+x.2.2)/\((aY x.1 x.2.1).1+1+(↑(aY x.1 x.2.1).2.1.2.1.length:Int)+x.2.2=if aP x.1 x.2.1 x.2.2≠0 then (0:Int) else bO x.1 (ax x.1 x.2.1) x.2.2)/\0=aP x.1 x.2.1 x.2.2/\True))
theorem FA:yP:=by
 unfold yP;intro ⟨s,slot,k⟩ ⟨⟨⟨hb,hw⟩,_⟩,_⟩ _;simp only at hb hw |-;have hR:aP s slot k=if bw s slot≠0 then bw s slot else if k<0\/(eX s.1 (ax s slot)).2.1<=k then 4 else 0:=rfl
 have hO:aY s slot=if bw s slot≠0 then (0,iO,bw s slot) else (ax s slot,(iy s.1 (ax s slot)).1,0):=rfl
 by_cases h0:bw s slot≠0
 ·rw [if_pos h0] at hR hO;rw [hO,hR];simp only;refine ⟨trivial,fun _=>?_,fun h=>absurd h0 (uZ h)⟩;rw [if_pos h0];exact ⟨by trivial,by trivial,trivial⟩
 ·obtain ⟨R,_,_,O⟩:=ph hw (by omega:bw s slot=0);have hal:=R.al;rw [if_neg h0] at hR hO;rw [hO];simp only;rw [O.body,O.refs];have:=O.x0;have:=O.r0;have:=O.b0;have:=O.fit;refine ⟨trivial,fun h=>absurd rfl (tM h),fun _=>⟨fun h1=>?_,fun h1=>?_⟩⟩
  ·rw [if_pos (by simpa using h1)] at hR;rw [hR];exact ⟨by trivial,by trivial,trivial⟩
  ·have h1:¬ (k<0\/(eX s.1 (ax s slot)).2.1<=k):=by simpa using h1
   rw [if_neg h1] at hR;rw [hR];simp only [ak];exact ⟨by omega,by omega,by omega,by simp [bO],by trivial,trivial⟩
theorem zg:Jo.ok Tryz.prog 138:=aD (ann:=cF) (ae kP ap) Tryz.func138 (by kernel_rfl) FA
theorem BU {s:ah} {slot k:Int} (hw:∀ x∈s.1,ak .u64 x) (h:aP s slot k=0):Right s/\ObjAt s (ax s slot)/\0<=k/\k<(eX s.1 (ax s slot)).2.1/\0<=bO s (ax s slot) k/\bO s (ax s slot) k<s.1.length:=by
 unfold aP at h;split at h
 ·omega
 rename_i h0;split at h
 ·omega
 obtain ⟨R,_,_,O⟩:=ph hw (by omega:bw s slot=0);have:=O.x0;have:=O.r0;have:=O.fit;unfold bO;exact ⟨R,O,by omega,by omega,by omega,by omega⟩
def Lu:Spec:={ Ts:=[aH,ty_I,ty_I],Rs:=[.dat bi,.dat ty_I],pre:=fun _=>True,F:=fun ((s,slot,k):ah×Int×Int)=>((if aP s slot k≠0 then 0 else s.1.getD (bO s (ax s slot) k).toNat 0,aP s slot k):Int×Int) }
def DE:Prop :=
  ∀ (x:(List Int×List Int×List (Int×Int)×List (Int×Bool×Int))×Int×Int),(oT x.1)/\ak .i64 x.2.1/\ak .i64 x.2.2->True->True/\(decide (aP x.1 x.2.1 x.2.2≠0)=true->((0:Int)=if aP x.1 x.2.1 x.2.2≠0 then (0:Int) else x.1.1.getD (bO x.1 (ax x.1 x.2.1) x.2.2).toNat 0)/\aP x.1 x.2.1 x.2.2=aP x.1 x.2.1 x.2.2/\True)/\(decide (aP x.1 x.2.1 x.2.2≠0)=false->(0<=if aP x.1 x.2.1 x.2.2≠0 then (0:Int) else bO x.1 (ax x.1 x.2.1) x.2.2)/\(if aP x.1 x.2.1 x.2.2≠0 then (0:Int) else bO x.1 (ax x.1 x.2.1) x.2.2)<(x.1.1.length:Int)/\(x.1.1.getD (if aP x.1 x.2.1 x.2.2≠0 then (0:Int) else bO x.1 (ax x.1 x.2.1) x.2.2).toNat (0:Int)=if aP x.1 x.2.1 x.2.2≠0 then (0:Int) else x.1.1.getD (bO x.1 (ax x.1 x.2.1) x.2.2).toNat 0)/\0=aP x.1 x.2.1 x.2.2/\True)
theorem IS:DE:=by
 unfold DE;intro ⟨s,slot,k⟩ ⟨⟨⟨hb,hw⟩,_⟩,_⟩ _;simp only at hb hw |-;refine ⟨trivial,fun h=>?_,fun h=>?_⟩
 ·rw [if_pos (tM h)];exact ⟨by trivial,by trivial,trivial⟩
 ·have h0:=uZ h;obtain ⟨_,_,_,_,b0,b1⟩:=BU hw (by omega:aP s slot k=0);rw [if_neg h0];exact ⟨b0,b1,by rw [if_neg h0],by omega,trivial⟩
theorem Mc:Lu.ok Tryz.prog 64:=aD (ann:=cF) (ae zg ap) Tryz.func64 (by kernel_rfl) IS
def j7 (s:ah) (slot k v:Int):ah×Int:=if aP s slot k≠0 then (ay,aP s slot k) else ((s.1.set (bO s (ax s slot) k).toNat v,s.2),0)
def Jj:Spec:={ Ts:=[aH,ty_I,ty_I,bi],Rs:=[.dat aH,.dat ty_I],al:=true,pre:=fun _=>True,F:=fun ((s,slot,k,v):ah×Int×Int×Int)=>j7 s slot k v }
def yK:Prop :=
  ∀ (x:(List Int×List Int×List (Int×Int)×List (Int×Bool×Int))×Int×Int×Int),(oT x.1)/\ak .i64 x.2.1/\ak .i64 x.2.2.1/\ak .u64 x.2.2.2->True->True/\(decide (aP x.1 x.2.1 x.2.2.1≠0)=true->(([]:List Int),([]:List Int),([]:List (Int×Int)),([]:List (Int×Bool×Int)))=(j7 x.1 x.2.1 x.2.2.1 x.2.2.2).1/\aP x.1 x.2.1 x.2.2.1=(j7 x.1 x.2.1 x.2.2.1 x.2.2.2).2/\True)/\(decide (aP x.1 x.2.1 x.2.2.1≠0)=false->∀ (_:Array Value),True/\True/\True/\x.1.2.1=x.1.2.1/\x.1.2.2.1=x.1.2.2.1/\x.1.2.2.1=x.1.2.2.1/\x.1.2.2.2=x.1.2.2.2/\x.1.2.2.2=x.1.2.2.2/\x.1.2.2.2=x.1.2.2.2/\True/\(0<=if aP x.1 x.2.1 x.2.2.1≠0 then (0:Int) else bO x.1 (ax x.1 x.2.1) x.2.2.1)/\(if aP x.1 x.2.1 x.2.2.1≠0 then (0:Int) else bO x.1 (ax x.1 x.2.1) x.2.2.1)<(x.1.1.length:Int)/\(if aP x.1 x.2.1 x.2.2.1≠0 then (0:Int) else bO x.1 (ax x.1 x.2.1) x.2.2.1).toNat<x.1.1.length/\(x.1.1.set (if aP x.1 x.2.1 x.2.2.1≠0 then (0:Int) else bO x.1 (ax x.1 x.2.1) x.2.2.1).toNat x.2.2.2,x.1.2)=(j7 x.1 x.2.1 x.2.2.1 x.2.2.2).1/\0=(j7 x.1 x.2.1 x.2.2.1 x.2.2.2).2/\True)
theorem Fv:yK:=by
 unfold yK;intro ⟨s,slot,k,v⟩ ⟨⟨⟨hb,hw⟩,_⟩,_⟩ _;simp only at hb hw |-;have hF:j7 s slot k v=if aP s slot k≠0 then (ay,aP s slot k) else ((s.1.set (bO s (ax s slot) k).toNat v,s.2),0):=rfl
 refine ⟨trivial,fun h=>?_,fun h tm=>⟨trivial,trivial,trivial,by trivial,by trivial,by trivial,by trivial,by trivial,by trivial,trivial,?_⟩⟩
 ·rw [hF,if_pos (tM h)];exact ⟨by trivial,by trivial,trivial⟩
 ·have h0:=uZ h;obtain ⟨_,_,_,_,b0,b1⟩:=BU hw (by omega:aP s slot k=0);rw [hF,if_neg h0,if_neg h0];exact ⟨b0,b1,by omega,by trivial,by trivial,trivial⟩
theorem JW:Jj.ok Tryz.prog 66:=aD (ann:=gh) (ae zg (ae bK (ae cg (ae bX (ae bL ap))))) Tryz.func66 (by kernel_rfl) Fv
def ja (s:ah) (slot:Int):ah×Int×Int:=if bw s slot≠0 then (ay,0,bw s slot) else if (gK s.2.2.1 (ax s slot)).2.2≠0 then (ay,0,(gK s.2.2.1 (ax s slot)).2.2) else ((s.1,s.2.1,(gK s.2.2.1 (ax s slot)).1,s.2.2.2),ax s slot,0)
def Jk:Spec:={ Ts:=[aH,ty_I],Rs:=[.dat aH,.dat ty_I,.dat ty_I],al:=true,pre:=fun _=>True,F:=fun ((s,slot):ah×Int)=>ja s slot }
def yL:Prop :=
  ∀ (x:(List Int×List Int×List (Int×Int)×List (Int×Bool×Int))×Int),(oT x.1)/\ak .i64 x.2->True->True/\(decide ((aY x.1 x.2).2.2≠0)=true->(([]:List Int),([]:List Int),([]:List (Int×Int)),([]:List (Int×Bool×Int)))=(ja x.1 x.2).1/\0=(ja x.1 x.2).2.1/\(aY x.1 x.2).2.2=(ja x.1 x.2).2.2/\True)/\(decide ((aY x.1 x.2).2.2≠0)=false->True/\(decide ((gK x.1.2.2.1 (aY x.1 x.2).1).2.2≠0)=true->(([]:List Int),([]:List Int),([]:List (Int×Int)),([]:List (Int×Bool×Int)))=(ja x.1 x.2).1/\0=(ja x.1 x.2).2.1/\(gK x.1.2.2.1 (aY x.1 x.2).1).2.2=(ja x.1 x.2).2.2/\True)/\(decide ((gK x.1.2.2.1 (aY x.1 x.2).1).2.2≠0)=false->∀ (_:Array Value),True/\True/\True/\x.1.2.1=x.1.2.1/\x.1.2.2.1=x.1.2.2.1/\x.1.2.2.1=x.1.2.2.1/\x.1.2.2.2=x.1.2.2.2/\x.1.2.2.2=x.1.2.2.2/\x.1.2.2.2=x.1.2.2.2/\True/\(x.1.1,x.1.2.1,(gK x.1.2.2.1 (aY x.1 x.2).1).1,x.1.2.2.2)=(ja x.1 x.2).1/\(aY x.1 x.2).1=(ja x.1 x.2).2.1/\0=(ja x.1 x.2).2.2/\True))
theorem Fw:yL:=by
 unfold yL;intro ⟨s,slot⟩ hx _;simp only at hx |-;have hF:ja s slot=if bw s slot≠0 then (ay,0,bw s slot) else if (gK s.2.2.1 (ax s slot)).2.2≠0 then (ay,0,(gK s.2.2.1 (ax s slot)).2.2) else ((s.1,s.2.1,(gK s.2.2.1 (ax s slot)).1,s.2.2.2),ax s slot,0):=rfl
 have hO:aY s slot=if bw s slot≠0 then (0,iO,bw s slot) else (ax s slot,(iy s.1 (ax s slot)).1,0):=rfl
 by_cases h0:bw s slot≠0
 ·rw [if_pos h0] at hF hO;rw [hO,hF];exact ⟨trivial,fun _=>⟨by trivial,by trivial,by trivial,trivial⟩,fun h=>absurd h0 (uZ h)⟩
 ·rw [if_neg h0] at hF hO;rw [hO,hF];simp only;refine ⟨trivial,fun h=>absurd rfl (tM h),fun _=>⟨trivial,fun h=>?_,fun h tm=>⟨trivial,trivial,trivial,by trivial,by trivial,by trivial,by trivial,by trivial,by trivial,trivial,?_⟩⟩⟩
  ·rw [if_pos (tM h)];exact ⟨by trivial,by trivial,by trivial,trivial⟩
  ·rw [if_neg (uZ h)];exact ⟨by trivial,by trivial,by trivial,trivial⟩
theorem JX:Jk.ok Tryz.prog 67:=aD (ann:=gh) (ae kP (ae Pp (ae bK (ae cg (ae bX (ae bL ap)))))) Tryz.func67 (by kernel_rfl) Fw
def cZ (s:ah) (at_:Int):ah×Int:=if ar s≠0 then (ay,ar s) else if (dO s.2.2.1 at_).2.2≠0 then (ay,(dO s.2.2.1 at_).2.2) else ((s.1,s.2.1,(dO s.2.2.1 at_).1,s.2.2.2),0)
def CQ:Spec:={ Ts:=[aH,ty_I],Rs:=[.dat aH,.dat ty_I],al:=true,pre:=fun _=>True,F:=fun ((s,at_):ah×Int)=>cZ s at_ }
def sO:Prop :=
  ∀ (x:(List Int×List Int×List (Int×Int)×List (Int×Bool×Int))×Int),(oT x.1)/\ak .i64 x.2->True->True/\(decide (ar x.1≠0)=true->(([]:List Int),([]:List Int),([]:List (Int×Int)),([]:List (Int×Bool×Int)))=(cZ x.1 x.2).1/\ar x.1=(cZ x.1 x.2).2/\True)/\(decide (ar x.1≠0)=false->True/\(decide ((dO x.1.2.2.1 x.2).2.2≠0)=true->(([]:List Int),([]:List Int),([]:List (Int×Int)),([]:List (Int×Bool×Int)))=(cZ x.1 x.2).1/\(dO x.1.2.2.1 x.2).2.2=(cZ x.1 x.2).2/\True)/\(decide ((dO x.1.2.2.1 x.2).2.2≠0)=false->∀ (_:Array Value),True/\True/\True/\x.1.2.1=x.1.2.1/\x.1.2.2.1=x.1.2.2.1/\x.1.2.2.1=x.1.2.2.1/\x.1.2.2.2=x.1.2.2.2/\x.1.2.2.2=x.1.2.2.2/\x.1.2.2.2=x.1.2.2.2/\True/\(x.1.1,x.1.2.1,(dO x.1.2.2.1 x.2).1,x.1.2.2.2)=(cZ x.1 x.2).1/\0=(cZ x.1 x.2).2/\True))
theorem zR:sO:=by
 unfold sO;intro ⟨s,at_⟩ hx _;simp only at hx |-;have hF:cZ s at_=if ar s≠0 then (ay,ar s) else if (dO s.2.2.1 at_).2.2≠0 then (ay,(dO s.2.2.1 at_).2.2) else ((s.1,s.2.1,(dO s.2.2.1 at_).1,s.2.2.2),0):=rfl
 rw [hF];refine ⟨trivial,fun h=>?_,fun h=>⟨trivial,fun h1=>?_,fun h1 tm=>⟨trivial,trivial,trivial,by trivial,by trivial,by trivial,by trivial,by trivial,by trivial,trivial,?_⟩⟩⟩
 ·rw [if_pos (tM h)];exact ⟨by trivial,by trivial,trivial⟩
 ·rw [if_neg (uZ h),if_pos (tM h1)];exact ⟨by trivial,by trivial,trivial⟩
 ·rw [if_neg (uZ h),if_neg (uZ h1)];exact ⟨by trivial,by trivial,trivial⟩
theorem DY:CQ.ok Tryz.prog 68:=aD (ann:=gh) (ae eA (ae N8 (ae bK (ae cg (ae bX (ae bL ap)))))) Tryz.func68 (by kernel_rfl) zR
def cr (s:ah) (at_ k:Int):Int:=if ar s≠0 then ar s else if fR (cO s) at_=false then 8 else if k<0\/(eX s.1 at_).2.1<=k then 4 else 0
def Jl:Spec:={ Ts:=[aH,ty_I,ty_I],Rs:=[.dat bi,.dat ty_I],pre:=fun _=>True,F:=fun ((s,at_,k):ah×Int×Int)=>((if cr s at_ k≠0 then 0 else s.1.getD (bO s at_ k).toNat 0,cr s at_ k):Int×Int) }
def yM:Prop :=
  ∀ (x:(List Int×List Int×List (Int×Int)×List (Int×Bool×Int))×Int×Int),(oT x.1)/\ak .i64 x.2.1/\ak .i64 x.2.2->True->True/\(decide (ar x.1≠0)=true->((0:Int)=if cr x.1 x.2.1 x.2.2≠0 then (0:Int) else x.1.1.getD (bO x.1 x.2.1 x.2.2).toNat 0)/\ar x.1=cr x.1 x.2.1 x.2.2/\True)/\(decide (ar x.1≠0)=false->True/\True/\((!fR (List.map (fun (x:bh)=>x.1) x.1.2.2.1) x.2.1)=true->((0:Int)=if cr x.1 x.2.1 x.2.2≠0 then (0:Int) else x.1.1.getD (bO x.1 x.2.1 x.2.2).toNat 0)/\8=cr x.1 x.2.1 x.2.2/\True)/\((!fR (List.map (fun (x:bh)=>x.1) x.1.2.2.1) x.2.1)=false->True/\((decide (x.2.2<0)||decide ((↑(iy x.1.1 x.2.1).1.2.2.1.length:Int)<=x.2.2))=true->((0:Int)=if cr x.1 x.2.1 x.2.2≠0 then (0:Int) else x.1.1.getD (bO x.1 x.2.1 x.2.2).toNat 0)/\4=cr x.1 x.2.1 x.2.2/\True)/\((decide (x.2.2<0)||decide ((↑(iy x.1.1 x.2.1).1.2.2.1.length:Int)<=x.2.2))=false->0<=x.2.2/\x.2.2<(↑(iy x.1.1 x.2.1).1.2.2.1.length:Int)/\((iy x.1.1 x.2.1).1.2.2.1.getD x.2.2.toNat (0:Int)=if cr x.1 x.2.1 x.2.2≠0 then (0:Int) else x.1.1.getD (bO x.1 x.2.1 x.2.2).toNat 0)/\0=cr x.1 x.2.1 x.2.2/\True)))
theorem Fx:yM:=by
 unfold yM;intro ⟨s,at_,k⟩ ⟨⟨⟨hb,hw⟩,_⟩,_⟩ _;simp only at hb hw |-;have hP:cr s at_ k=if ar s≠0 then ar s else if fR (cO s) at_=false then 8 else if k<0\/(eX s.1 at_).2.1<=k then 4 else 0:=rfl
 have hpo:List.map (fun (x:bh)=>x.1) s.2.2.1=cO s:=rfl;rw [hpo];refine ⟨trivial,fun h=>?_,fun h=>⟨trivial,trivial,fun h1=>?_,fun h1=>⟨trivial,fun h2=>?_,fun h2=>?_⟩⟩⟩
 ·have h:=tM h;rw [if_pos h] at hP;rw [hP,if_pos h];exact ⟨by trivial,by trivial,trivial⟩
 all_goals have h:=uZ h
 ·rw [if_neg h,if_pos (by simpa using h1)] at hP;rw [hP];exact ⟨by trivial,by trivial,trivial⟩
 all_goals
  have h1:fR (cO s) at_=true:=by simpa using h1
  have R:=go hw (by omega:ar s=0);have O:=R.obj (R.pinsIn at_ (cG.1 h1));rw [if_neg h,if_neg (by rw [h1]; simp)] at hP;rw [O.body] at h2
 ·rw [if_pos (by simpa using h2)] at hP;rw [hP];exact ⟨by trivial,by trivial,trivial⟩
 ·have h2:¬ (k<0\/(eX s.1 at_).2.1<=k):=by simpa using h2
  have l:=cd O.isb;rw [if_neg h2] at hP;rw [hP,O.body];have hg:=KQ (a:=s.1) (at_:=at_) (k:=k) (by omega) (by omega) l.2.1 O.x0 O.r0;have e:(iy s.1 at_).1.2.2.1=hY s.1 at_:=by rw [O.at_]; rfl
  rw [e,<- hg];exact ⟨by omega,by omega,by simp [bO],by trivial,trivial⟩
theorem JY:Jl.ok Tryz.prog 69:=aD (ann:=cF) (ae eA (ae kO (ae A7 (ae nU ap)))) Tryz.func69 (by kernel_rfl) Fx
def fF (s:ah) (slot:Int):ah×Int×Int:=if bw s slot≠0 then (ay,0,bw s slot) else if (openF s.2.2.2 (ax s slot)).2.2≠0 then (ay,0,(openF s.2.2.2 (ax s slot)).2.2) else ((s.1,s.2.1,s.2.2.1,(openF s.2.2.2 (ax s slot)).1),(openF s.2.2.2 (ax s slot)).2.1,0)
def F3:Spec:={ Ts:=[aH,ty_I],Rs:=[.dat aH,.dat bi,.dat ty_I],al:=true,pre:=fun _=>True,F:=fun ((s,slot):ah×Int)=>fF s slot }
def vw:Prop :=
  ∀ (x:(List Int×List Int×List (Int×Int)×List (Int×Bool×Int))×Int),(oT x.1)/\ak .i64 x.2->True->True/\(decide ((aY x.1 x.2).2.2≠0)=true->(([]:List Int),([]:List Int),([]:List (Int×Int)),([]:List (Int×Bool×Int)))=(fF x.1 x.2).1/\0=(fF x.1 x.2).2.1/\(aY x.1 x.2).2.2=(fF x.1 x.2).2.2/\True)/\(decide ((aY x.1 x.2).2.2≠0)=false->True/\(decide ((openF x.1.2.2.2 (aY x.1 x.2).1).2.2≠0)=true->(([]:List Int),([]:List Int),([]:List (Int×Int)),([]:List (Int×Bool×Int)))=(fF x.1 x.2).1/\0=(fF x.1 x.2).2.1/\(openF x.1.2.2.2 (aY x.1 x.2).1).2.2=(fF x.1 x.2).2.2/\True)/\(decide ((openF x.1.2.2.2 (aY x.1 x.2).1).2.2≠0)=false->∀ (_:Array Value),True/\True/\True/\x.1.2.1=x.1.2.1/\x.1.2.2.1=x.1.2.2.1/\x.1.2.2.1=x.1.2.2.1/\x.1.2.2.2=x.1.2.2.2/\x.1.2.2.2=x.1.2.2.2/\x.1.2.2.2=x.1.2.2.2/\True/\(x.1.1,x.1.2.1,x.1.2.2.1,(openF x.1.2.2.2 (aY x.1 x.2).1).1)=(fF x.1 x.2).1/\(openF x.1.2.2.2 (aY x.1 x.2).1).2.1=(fF x.1 x.2).2.1/\0=(fF x.1 x.2).2.2/\True))
theorem Cg:vw:=by
 unfold vw;intro ⟨s,slot⟩ hx _;simp only at hx |-;have hF:fF s slot=if bw s slot≠0 then (ay,0,bw s slot) else if (openF s.2.2.2 (ax s slot)).2.2≠0 then (ay,0,(openF s.2.2.2 (ax s slot)).2.2) else ((s.1,s.2.1,s.2.2.1,(openF s.2.2.2 (ax s slot)).1),(openF s.2.2.2 (ax s slot)).2.1,0):=rfl
 have hO:aY s slot=if bw s slot≠0 then (0,iO,bw s slot) else (ax s slot,(iy s.1 (ax s slot)).1,0):=rfl
 by_cases h0:bw s slot≠0
 ·rw [if_pos h0] at hF hO;rw [hO,hF];exact ⟨trivial,fun _=>⟨by trivial,by trivial,by trivial,trivial⟩,fun h=>absurd h0 (uZ h)⟩
 ·rw [if_neg h0] at hF hO;rw [hO,hF];simp only;refine ⟨trivial,fun h=>absurd rfl (tM h),fun _=>⟨trivial,fun h=>?_,fun h tm=>⟨trivial,trivial,trivial,by trivial,by trivial,by trivial,by trivial,by trivial,by trivial,trivial,?_⟩⟩⟩
  ·rw [if_pos (tM h)];exact ⟨by trivial,by trivial,by trivial,trivial⟩
  ·rw [if_neg (uZ h)];exact ⟨by trivial,by trivial,by trivial,trivial⟩
theorem GH:F3.ok Tryz.prog 70:=aD (ann:=gh) (ae kP (ae D8 (ae bK (ae cg (ae bX (ae bL ap)))))) Tryz.func70 (by kernel_rfl) Cg
def bM (s:ah) (k:Int):Int:=if ar s≠0 then ar s else if k<0\/(s.2.1.length:Int)<=k then 5 else 0
def Az:Spec:={ Ts:=[aH,ty_I],Rs:=[.dat ty_I],pre:=fun _=>True,F:=fun ((s,k):ah×Int)=>bM s k }
def qk:Prop :=
  ∀ (x:(List Int×List Int×List (Int×Int)×List (Int×Bool×Int))×Int),(oT x.1)/\ak .i64 x.2->True->True/\((decide (ar x.1=0)&&(decide (x.2<0)||decide ((x.1.2.1.length:Int)<=x.2)))=true->5=bM x.1 x.2/\True)/\((decide (ar x.1=0)&&(decide (x.2<0)||decide ((x.1.2.1.length:Int)<=x.2)))=false->ar x.1=bM x.1 x.2/\True)
theorem xr:qk:=by
 unfold qk;intro ⟨s,k⟩ hx _;simp only at hx |-;have hE:bM s k=if ar s≠0 then ar s else if k<0\/(s.2.1.length:Int)<=k then 5 else 0:=rfl
 rw [hE];refine ⟨trivial,fun h=>?_,fun h=>?_⟩
 ·simp only [CF,QP,Ri] at h;rw [if_neg (by omega),if_pos h.2];exact ⟨rfl,trivial⟩
 ·simp only [R6,Rh,Rn] at h;by_cases h0:ar s≠0
  ·rw [if_pos h0];exact ⟨rfl,trivial⟩
  ·rw [if_neg h0,if_neg (by omega)];exact ⟨by omega,trivial⟩
theorem qE:Az.ok Tryz.prog 144:=aD (ann:=cF) (ae eA ap) Tryz.func144 (by kernel_rfl) xr
theorem HP {s:ah} {k:Int} (h:bM s k=0):0<=k/\k<s.2.1.length:=by
 unfold bM at h;split at h
 ·omega
 split at h
 ·omega
 omega
def jV (s:ah) (name slot:Int):ah×Int:=if bM s slot≠0 then (ay,bM s slot) else if (iq s.2.2.2 name).2≠0 then (ay,(iq s.2.2.2 name).2) else ((s.1,s.2.1.set slot.toNat (iq s.2.2.2 name).1,s.2.2),0)
def Jg:Spec:={ Ts:=[aH,bi,ty_I],Rs:=[.dat aH,.dat ty_I],al:=true,pre:=fun _=>True,F:=fun ((s,name,slot):ah×Int×Int)=>jV s name slot }
def yH:Prop :=
  ∀ (x:(List Int×List Int×List (Int×Int)×List (Int×Bool×Int))×Int×Int),(oT x.1)/\ak .u64 x.2.1/\ak .i64 x.2.2->True->True/\(decide (bM x.1 x.2.2≠0)=true->(([]:List Int),([]:List Int),([]:List (Int×Int)),([]:List (Int×Bool×Int)))=(jV x.1 x.2.1 x.2.2).1/\bM x.1 x.2.2=(jV x.1 x.2.1 x.2.2).2/\True)/\(decide (bM x.1 x.2.2≠0)=false->True/\(decide ((iq x.1.2.2.2 x.2.1).2≠0)=true->(([]:List Int),([]:List Int),([]:List (Int×Int)),([]:List (Int×Bool×Int)))=(jV x.1 x.2.1 x.2.2).1/\(iq x.1.2.2.2 x.2.1).2=(jV x.1 x.2.1 x.2.2).2/\True)/\(decide ((iq x.1.2.2.2 x.2.1).2≠0)=false->∀ (_:Array Value),True/\True/\True/\x.1.2.1=x.1.2.1/\x.1.2.2.1=x.1.2.2.1/\x.1.2.2.1=x.1.2.2.1/\x.1.2.2.2=x.1.2.2.2/\x.1.2.2.2=x.1.2.2.2/\x.1.2.2.2=x.1.2.2.2/\True/\0<=x.2.2/\x.2.2<(x.1.2.1.length:Int)/\x.2.2.toNat<x.1.2.1.length/\(x.1.1,x.1.2.1.set x.2.2.toNat (iq x.1.2.2.2 x.2.1).1,x.1.2.2)=(jV x.1 x.2.1 x.2.2).1/\0=(jV x.1 x.2.1 x.2.2).2/\True))
theorem Fs:yH:=by
 unfold yH;intro ⟨s,name,slot⟩ hx _;simp only at hx |-;have hF:jV s name slot=if bM s slot≠0 then (ay,bM s slot) else if (iq s.2.2.2 name).2≠0 then (ay,(iq s.2.2.2 name).2) else ((s.1,s.2.1.set slot.toNat (iq s.2.2.2 name).1,s.2.2),0):=rfl
 rw [hF];refine ⟨trivial,fun h=>?_,fun h=>⟨trivial,fun h1=>?_,fun h1 tm=>⟨trivial,trivial,trivial,by trivial,by trivial,by trivial,by trivial,by trivial,by trivial,trivial,?_⟩⟩⟩
 ·rw [if_pos (tM h)];exact ⟨by trivial,by trivial,trivial⟩
 ·rw [if_neg (uZ h),if_pos (tM h1)];exact ⟨by trivial,by trivial,trivial⟩
 ·rw [if_neg (uZ h),if_neg (uZ h1)];have hs:=HP (by simpa using uZ h:bM s slot=0);exact ⟨hs.1,hs.2,by omega,by trivial,by trivial,trivial⟩
theorem JT:Jg.ok Tryz.prog 71:=aD (ann:=gh) (ae qE (ae D9 (ae bK (ae cg (ae bX (ae bL ap)))))) Tryz.func71 (by kernel_rfl) Fs
def fL (s:ah) (name:Int):ah×Int:=if ar s≠0 then (ay,ar s) else if (closeF s.2.2.2 name).2≠0 then (ay,(closeF s.2.2.2 name).2) else ((s.1,s.2.1,s.2.2.1,(closeF s.2.2.2 name).1),0)
def F2:Spec:={ Ts:=[aH,bi],Rs:=[.dat aH,.dat ty_I],al:=true,pre:=fun _=>True,F:=fun ((s,name):ah×Int)=>fL s name }
def vv:Prop :=
  ∀ (x:(List Int×List Int×List (Int×Int)×List (Int×Bool×Int))×Int),(oT x.1)/\ak .u64 x.2->True->True/\(decide (ar x.1≠0)=true->(([]:List Int),([]:List Int),([]:List (Int×Int)),([]:List (Int×Bool×Int)))=(fL x.1 x.2).1/\ar x.1=(fL x.1 x.2).2/\True)/\(decide (ar x.1≠0)=false->True/\(decide ((closeF x.1.2.2.2 x.2).2≠0)=true->(([]:List Int),([]:List Int),([]:List (Int×Int)),([]:List (Int×Bool×Int)))=(fL x.1 x.2).1/\(closeF x.1.2.2.2 x.2).2=(fL x.1 x.2).2/\True)/\(decide ((closeF x.1.2.2.2 x.2).2≠0)=false->∀ (_:Array Value),True/\True/\True/\x.1.2.1=x.1.2.1/\x.1.2.2.1=x.1.2.2.1/\x.1.2.2.1=x.1.2.2.1/\x.1.2.2.2=x.1.2.2.2/\x.1.2.2.2=x.1.2.2.2/\x.1.2.2.2=x.1.2.2.2/\True/\(x.1.1,x.1.2.1,x.1.2.2.1,(closeF x.1.2.2.2 x.2).1)=(fL x.1 x.2).1/\0=(fL x.1 x.2).2/\True))
theorem Cf:vv:=by
 unfold vv;intro ⟨s,name⟩ hx _;simp only at hx |-;have hF:fL s name=if ar s≠0 then (ay,ar s) else if (closeF s.2.2.2 name).2≠0 then (ay,(closeF s.2.2.2 name).2) else ((s.1,s.2.1,s.2.2.1,(closeF s.2.2.2 name).1),0):=rfl
 rw [hF];refine ⟨trivial,fun h=>?_,fun h=>⟨trivial,fun h1=>?_,fun h1 tm=>⟨trivial,trivial,trivial,by trivial,by trivial,by trivial,by trivial,by trivial,by trivial,trivial,?_⟩⟩⟩
 ·rw [if_pos (tM h)];exact ⟨by trivial,by trivial,trivial⟩
 ·rw [if_neg (uZ h),if_pos (tM h1)];exact ⟨by trivial,by trivial,trivial⟩
 ·rw [if_neg (uZ h),if_neg (uZ h1)];exact ⟨by trivial,by trivial,trivial⟩
theorem GG:F2.ok Tryz.prog 72:=aD (ann:=gh) (ae eA (ae A8 (ae bK (ae cg (ae bX (ae bL ap)))))) Tryz.func72 (by kernel_rfl) Cf
def fu (s:ah) (slot:Int):ah×Int:=if bM s slot≠0 then (ay,bM s slot) else ((s.1,s.2.1.set slot.toNat (-1),s.2.2),0)
def F4:Spec:={ Ts:=[aH,ty_I],Rs:=[.dat aH,.dat ty_I],al:=true,pre:=fun _=>True,F:=fun ((s,slot):ah×Int)=>fu s slot }
def vz:Prop :=
  ∀ (x:(List Int×List Int×List (Int×Int)×List (Int×Bool×Int))×Int),(oT x.1)/\ak .i64 x.2->True->True/\(decide (bM x.1 x.2≠0)=true->(([]:List Int),([]:List Int),([]:List (Int×Int)),([]:List (Int×Bool×Int)))=(fu x.1 x.2).1/\bM x.1 x.2=(fu x.1 x.2).2/\True)/\(decide (bM x.1 x.2≠0)=false->∀ (_:Array Value),True/\True/\True/\x.1.2.1=x.1.2.1/\x.1.2.2.1=x.1.2.2.1/\x.1.2.2.1=x.1.2.2.1/\x.1.2.2.2=x.1.2.2.2/\x.1.2.2.2=x.1.2.2.2/\x.1.2.2.2=x.1.2.2.2/\True/\0<=x.2/\x.2<(x.1.2.1.length:Int)/\x.2.toNat<x.1.2.1.length/\(x.1.1,x.1.2.1.set x.2.toNat (-1),x.1.2.2)=(fu x.1 x.2).1/\0=(fu x.1 x.2).2/\True)
theorem Ch:vz:=by
 unfold vz;intro ⟨s,slot⟩ hx _;simp only at hx |-;have hF:fu s slot=if bM s slot≠0 then (ay,bM s slot) else ((s.1,s.2.1.set slot.toNat (-1),s.2.2),0):=rfl
 rw [hF];refine ⟨trivial,fun h=>?_,fun h tm=>⟨trivial,trivial,trivial,by trivial,by trivial,by trivial,by trivial,by trivial,by trivial,trivial,?_⟩⟩
 ·rw [if_pos (tM h)];exact ⟨by trivial,by trivial,trivial⟩
 ·have hs:=HP (by simpa using uZ h:bM s slot=0);rw [if_neg (uZ h)];exact ⟨hs.1,hs.2,by omega,by trivial,by trivial,trivial⟩
theorem GI:F4.ok Tryz.prog 73:=aD (ann:=gh) (ae qE (ae bK (ae cg (ae bX (ae bL ap))))) Tryz.func73 (by kernel_rfl) Ch
def fe (h:dY):Int:=if af h≠0 then af h else if h.2.2.2=true then 3 else 0
theorem Ir {h:dY} (hh:fe h=0):af h=0/\h.2.2.2=false:=by
 unfold fe at hh;split at hh
 ·omega
 split at hh
 ·omega
 rename_i h1 h2;exact ⟨by omega,by simpa using h2⟩
theorem uM {a:List Int} (hc:(am a).2.2=0) {h:dY} (h0:af h=0) (hf:h.2.2.2=false):match (aO false [] (ac a).1).find? (fun r=>decide (aa h<=r.2)) with
  | none=>bD (aO false [] (ac a).1) (aa h)=(0,7)/\ie a h=([],0,false)
  | some r=>∃ i,0<=i/\i<((aO false [] (ac a).1).length:Int)/\bD (aO false [] (ac a).1) (aa h)=(i,0)/\(aO false [] (ac a).1).getD i.toNat (0,0)=r/\iW (cL a).1 r.1 h=(fA a r h,0)/\ie a h=(fA a r h,r.1,true):=by
 have hgi:=(nZ (bp hc).2.2.2.1).1;have hz:=a7 h0;have hL:aa h=1+h.1+h.2.1:=rfl;have hff:=Kz (n:=aa h) (l:=aO false [] (ac a).1) (by omega) (fun r hr=>by have:=hgi r hr; omega);have hfi:=zC (aa h) (aO false [] (ac a).1) 0;cases hfd:(aO false [] (ac a).1).find? (fun r=>decide (aa h<=r.2)) with
 | none =>
  rw [hfd] at hfi;simp only at hfi |-;rw [if_pos hfi] at hff;refine ⟨hff,?_⟩;unfold ie;rw [hfd]
 | some r =>
  rw [hfd] at hfi;obtain ⟨i,i0,i1,i2,i3,i4⟩:=hfi;rw [if_neg i3,i4,Int.zero_add] at hff;have hr:=List.mem_of_find?_eq_some hfd;have hle:aa h<=r.2:=by simpa using List.find?_some hfd
  refine ⟨i,i0,i1,hff,i2,Gy hc hr h0 hf hle,?_⟩;unfold ie;rw [hfd]
def KT:Nat->Option LoopGen
 | 3000083=>some cY
 | 8404000001=>some cY
 | 3000084=>some cY
 | 8504000007=>some cY
 | 3000085=>some cY
 | 8605000004=>some { rd:=[.boxS 1 [.own 45 bi,.own 3 ty_I,.own 157 dr,.own 135 bF]],A:=fun (s:ah)=>{ cs:=[.own 9 3 ty_I,.own 10 3 ty_I],inv:=fun ((ra,ha):List Int×List Int)=>ra=List.replicate s.1.length 0/\ha=List.replicate 256 0,mu:=fun _=>0 } }
 | 8600000006=>some { wr:=[9,10],rd:=[.boxS 1 [.own 45 bi,.own 3 ty_I,.own 157 dr,.own 135 bF]],A:=fun (s:ah)=>{ cs:=[.own 9 3 ty_I,.own 10 3 ty_I,.dat 42 ty_I],inv:=fun ((ra,ha,i):List Int×List Int×Int)=>0<=i/\i<=(ai s).length/\ra=b6 (List.replicate s.1.length 0) ((ai s).take i.toNat) (lZ s)/\ha=b6 (List.replicate 256 0) ((ai s).take i.toNat) (lZ s),mu:=fun ((_,_,i):List Int×List Int×Int)=>((ai s).length - i).toNat } }
 | 8600000015=>some { rd:=[.own 86 105 jW],A:=fun (g:List db)=>{ cs:=[.dat 13 ty_I,.dat 88 ty_I],inv:=fun ((n,i):Int×Int)=>0<=i/\i<=g.length/\g.length<=256/\(∀ r∈g,0<=r.2/\r.2<=256)/\n=dR (g.take i.toNat)/\0<=n/\n<=256 * i,mu:=fun ((_,i):Int×Int)=>(g.length - i).toNat } }
 | _=>none
def gt (s:ah) (slot:Int) (h:dY):ah×Bool:=((((ie s.1 h).1,s.2.1.set slot.toNat (ie s.1 h).2.1,s.2.2):ah),(ie s.1 h).2.2)
def bf (s:ah) (slot:Int) (h:dY):ah×Bool×Int :=
 if bM s slot≠0 then (ay,false,bM s slot) else if fe h≠0 then (ay,false,fe h) else
 if (gt s slot h).2=true then ((gt s slot h).1,false,0) else if (gt (ig s) slot h).2=true then ((gt (ig s) slot h).1,true,0) else (ay,false,7)
def Jm:Spec:={ Ts:=[aH,ty_I,ia],Rs:=[.dat aH,.dat .bool,.dat ty_I],al:=true,pre:=fun _=>True,F:=fun ((s,slot,h):ah×Int×dY)=>bf s slot h }
def yN:Prop :=
  ∀ (x:(List Int×List Int×List (Int×Int)×List (Int×Bool×Int))×Int×Int×Int×Int×Bool),(oT x.1)/\ak .i64 x.2.1/\ak .i64 x.2.2.1/\ak .i64 x.2.2.2.1/\ak .i64 x.2.2.2.2.1/\True->True->True/\(decide (ar x.1≠0)=true->(([]:List Int),([]:List Int),([]:List (Int×Int)),([]:List (Int×Bool×Int)))=(bf x.1 x.2.1 x.2.2).1/\false=(bf x.1 x.2.1 x.2.2).2.1/\ar x.1=(bf x.1 x.2.1 x.2.2).2.2/\True)/\(decide (ar x.1≠0)=false->((decide (x.2.1<0)||decide ((x.1.2.1.length:Int)<=x.2.1))=true->(([]:List Int),([]:List Int),([]:List (Int×Int)),([]:List (Int×Bool×Int)))=(bf x.1 x.2.1 x.2.2).1/\false=(bf x.1 x.2.1 x.2.2).2.1/\5=(bf x.1 x.2.1 x.2.2).2.2/\True)/\((decide (x.2.1<0)||decide ((x.1.2.1.length:Int)<=x.2.1))=false->True/\(decide (af x.2.2≠0)=true->(([]:List Int),([]:List Int),([]:List (Int×Int)),([]:List (Int×Bool×Int)))=(bf x.1 x.2.1 x.2.2).1/\false=(bf x.1 x.2.1 x.2.2).2.1/\af x.2.2=(bf x.1 x.2.1 x.2.2).2.2/\True)/\(decide (af x.2.2≠0)=false->(x.2.2.2.2.2=true->(([]:List Int),([]:List Int),([]:List (Int×Int)),([]:List (Int×Bool×Int)))=(bf x.1 x.2.1 x.2.2).1/\false=(bf x.1 x.2.1 x.2.2).2.1/\3=(bf x.1 x.2.1 x.2.2).2.2/\True)/\(x.2.2.2.2.2=false->∀ (_:Array Value),True/\True/\True/\x.1.2.1=x.1.2.1/\x.1.2.2.1=x.1.2.2.1/\x.1.2.2.1=x.1.2.2.1/\x.1.2.2.2=x.1.2.2.2/\x.1.2.2.2=x.1.2.2.2/\x.1.2.2.2=x.1.2.2.2/\True/\∀ (_:Array Value),True/\True/\True/\(decide ((bD (an x.1.1).1 (if af x.2.2=0 then aa x.2.2 else (0:Int))).2≠0)=true->((!false)=true->∀ (_:Array Value),(x.1.2.1.length<=32/\x.1.2.2.1.length<=16/\x.1.2.2.2.length<=16)/\True/\((ai x.1).length+(List.map (fun (x:bh)=>x.1) x.1.2.2.1).length) * 8<=140737488355328/\True/\((((0<=(x.1.1.length:Int)/\(x.1.1.length:Int).toNat * 8<=aK/\((0:Int)<=256/\Int.toNat 256 * 8<=aK/\((List.replicate (x.1.1.length:Int).toNat (0:Int)=List.replicate x.1.1.length (0:Int)/\List.replicate (Int.toNat 256) (0:Int)=List.replicate 256 (0:Int))/\True)/\True)/\(((0:Int)<=256/\Int.toNat 256 * 8<=aK/\(List.replicate (x.1.1.length:Int).toNat (0:Int)=List.replicate x.1.1.length (0:Int)/\List.replicate (Int.toNat 256) (0:Int)=List.replicate 256 (0:Int))/\True)/\True)/\True)/\((0:Int)<=256/\Int.toNat 256 * 8<=aK/\(0<=(x.1.1.length:Int)/\(x.1.1.length:Int).toNat * 8<=aK/\((List.replicate (x.1.1.length:Int).toNat (0:Int)=List.replicate x.1.1.length (0:Int)/\List.replicate (Int.toNat 256) (0:Int)=List.replicate 256 (0:Int))/\True)/\True)/\True)/\True)/\((0:Int)<=256/\Int.toNat 256 * 8<=aK/\((0<=(x.1.1.length:Int)/\(x.1.1.length:Int).toNat * 8<=aK/\((List.replicate (x.1.1.length:Int).toNat (0:Int)=List.replicate x.1.1.length (0:Int)/\List.replicate (Int.toNat 256) (0:Int)=List.replicate 256 (0:Int))/\True)/\True)/\True)/\True)/\True)/\((0:Int)<=256/\Int.toNat 256 * 8<=aK/\(((0<=(x.1.1.length:Int)/\(x.1.1.length:Int).toNat * 8<=aK/\((List.replicate (x.1.1.length:Int).toNat (0:Int)=List.replicate x.1.1.length (0:Int)/\List.replicate (Int.toNat 256) (0:Int)=List.replicate 256 (0:Int))/\True)/\True)/\True)/\True)/\True)/\True)/\∀ (x_1:List Int×List Int),x_1.1=List.replicate x.1.1.length (0:Int)/\x_1.2=List.replicate 256 (0:Int)->((0:Int)<=0/\0<=(↑(ai x.1).length:Int)/\x_1.1=b6 (List.replicate x.1.1.length (0:Int)) (List.take (Int.toNat 0) (ai x.1)) (lZ x.1)/\x_1.2=b6 (List.replicate 256 (0:Int)) (List.take (Int.toNat 0) (ai x.1)) (lZ x.1))/\∀ (x_2:List Int×List Int×Int),0<=x_2.2.2/\x_2.2.2<=(↑(ai x.1).length:Int)/\x_2.1=b6 (List.replicate x.1.1.length (0:Int)) (List.take x_2.2.2.toNat (ai x.1)) (lZ x.1)/\x_2.2.1=b6 (List.replicate 256 (0:Int)) (List.take x_2.2.2.toNat (ai x.1)) (lZ x.1)->(decide (x_2.2.2<(↑(ai x.1).length:Int))=true->0<=x_2.2.2/\x_2.2.2<(↑(ai x.1).length:Int)/\x_2.2.2.toNat<(ai x.1).length/\0<=x_2.2.2/\x_2.2.2<(↑(aq x.1.1 (ai x.1) (List.map (fun (x:bh)=>x.1) x.1.2.2.1)).2.1.length:Int)/\0<=x_2.2.2/\x_2.2.2<(↑(aq x.1.1 (ai x.1) (List.map (fun (x:bh)=>x.1) x.1.2.2.1)).2.1.length:Int)/\0<=(ai x.1).getD x_2.2.2.toNat 0/\(ai x.1).getD x_2.2.2.toNat 0<(x_2.1.length:Int)/\((ai x.1).getD x_2.2.2.toNat 0).toNat<x_2.1.length/\(ai x.1).getD x_2.2.2.toNat 0=(ai x.1).getD x_2.2.2.toNat 0/\0<=(ai x.1).getD x_2.2.2.toNat 0/\(ai x.1).getD x_2.2.2.toNat 0<(x_2.2.1.length:Int)/\((ai x.1).getD x_2.2.2.toNat 0).toNat<x_2.2.1.length/\ak .i64 (x_2.2.2+1)/\(0<=x_2.2.2+1/\x_2.2.2+1<=(↑(ai x.1).length:Int)/\x_2.1.set ((ai x.1).getD x_2.2.2.toNat 0).toNat ((aq x.1.1 (ai x.1) (List.map (fun (x:bh)=>x.1) x.1.2.2.1)).2.1.getD x_2.2.2.toNat 0)=b6 (List.replicate x.1.1.length (0:Int)) (List.take (x_2.2.2+1).toNat (ai x.1)) (lZ x.1)/\x_2.2.1.set ((ai x.1).getD x_2.2.2.toNat 0).toNat ((aq x.1.1 (ai x.1) (List.map (fun (x:bh)=>x.1) x.1.2.2.1)).2.1.getD x_2.2.2.toNat 0)=b6 (List.replicate 256 (0:Int)) (List.take (x_2.2.2+1).toNat (ai x.1)) (lZ x.1))/\((↑(ai x.1).length:Int) - (x_2.2.2+1)).toNat<((↑(ai x.1).length:Int) - x_2.2.2).toNat)/\(decide (x_2.2.2<(↑(ai x.1).length:Int))=false->True/\True/\True/\((0:Int)<=0/\0<=(↑(an (aq x.1.1 (ai x.1) (List.map (fun (x:bh)=>x.1) x.1.2.2.1)).1).1.length:Int)/\(an (aq x.1.1 (ai x.1) (List.map (fun (x:bh)=>x.1) x.1.2.2.1)).1).1.length<=256/\(∀ (r:db),r∈(an (aq x.1.1 (ai x.1) (List.map (fun (x:bh)=>x.1) x.1.2.2.1)).1).1->0<=r.2/\r.2<=256)/\0=dR (List.take (Int.toNat 0) (an (aq x.1.1 (ai x.1) (List.map (fun (x:bh)=>x.1) x.1.2.2.1)).1).1)/\(0:Int)<=0/\(0:Int)<=256 * 0)/\∀ (x_3:Int×Int),0<=x_3.2/\x_3.2<=(↑(an (aq x.1.1 (ai x.1) (List.map (fun (x:bh)=>x.1) x.1.2.2.1)).1).1.length:Int)/\(an (aq x.1.1 (ai x.1) (List.map (fun (x:bh)=>x.1) x.1.2.2.1)).1).1.length<=256/\(∀ (r:db),r∈(an (aq x.1.1 (ai x.1) (List.map (fun (x:bh)=>x.1) x.1.2.2.1)).1).1->0<=r.2/\r.2<=256)/\x_3.1=dR (List.take x_3.2.toNat (an (aq x.1.1 (ai x.1) (List.map (fun (x:bh)=>x.1) x.1.2.2.1)).1).1)/\0<=x_3.1/\x_3.1<=256 * x_3.2->(decide (x_3.2<(↑(an (aq x.1.1 (ai x.1) (List.map (fun (x:bh)=>x.1) x.1.2.2.1)).1).1.length:Int))=true->0<=x_3.2/\x_3.2<(↑(an (aq x.1.1 (ai x.1) (List.map (fun (x:bh)=>x.1) x.1.2.2.1)).1).1.length:Int)/\x_3.2.toNat<(an (aq x.1.1 (ai x.1) (List.map (fun (x:bh)=>x.1) x.1.2.2.1)).1).1.length/\ak .i64 (x_3.1+((an (aq x.1.1 (ai x.1) (List.map (fun (x:bh)=>x.1) x.1.2.2.1)).1).1.getD x_3.2.toNat (0,0)).2)/\ak .i64 (x_3.2+1)/\(0<=x_3.2+1/\x_3.2+1<=(↑(an (aq x.1.1 (ai x.1) (List.map (fun (x:bh)=>x.1) x.1.2.2.1)).1).1.length:Int)/\(an (aq x.1.1 (ai x.1) (List.map (fun (x:bh)=>x.1) x.1.2.2.1)).1).1.length<=256/\(∀ (r:db),r∈(an (aq x.1.1 (ai x.1) (List.map (fun (x:bh)=>x.1) x.1.2.2.1)).1).1->0<=r.2/\r.2<=256)/\x_3.1+((an (aq x.1.1 (ai x.1) (List.map (fun (x:bh)=>x.1) x.1.2.2.1)).1).1.getD x_3.2.toNat (0,0)).2=dR (List.take (x_3.2+1).toNat (an (aq x.1.1 (ai x.1) (List.map (fun (x:bh)=>x.1) x.1.2.2.1)).1).1)/\0<=x_3.1+((an (aq x.1.1 (ai x.1) (List.map (fun (x:bh)=>x.1) x.1.2.2.1)).1).1.getD x_3.2.toNat (0,0)).2/\x_3.1+((an (aq x.1.1 (ai x.1) (List.map (fun (x:bh)=>x.1) x.1.2.2.1)).1).1.getD x_3.2.toNat (0,0)).2<=256 * (x_3.2+1))/\((↑(an (aq x.1.1 (ai x.1) (List.map (fun (x:bh)=>x.1) x.1.2.2.1)).1).1.length:Int) - (x_3.2+1)).toNat<((↑(an (aq x.1.1 (ai x.1) (List.map (fun (x:bh)=>x.1) x.1.2.2.1)).1).1.length:Int) - x_3.2).toNat)/\(decide (x_3.2<(↑(an (aq x.1.1 (ai x.1) (List.map (fun (x:bh)=>x.1) x.1.2.2.1)).1).1.length:Int))=false->∀ (_:Array Value),True/\True/\True/\(decide ((bD (an (aq x.1.1 (ai x.1) (List.map (fun (x:bh)=>x.1) x.1.2.2.1)).1).1 (if af x.2.2=0 then aa x.2.2 else (0:Int))).2≠0)=true->((!false)=true->(([]:List Int),([]:List Int),([]:List (Int×Int)),([]:List (Int×Bool×Int)))=(bf x.1 x.2.1 x.2.2).1/\false=(bf x.1 x.2.1 x.2.2).2.1/\7=(bf x.1 x.2.1 x.2.2).2.2/\True)/\((!false)=false->0<=x.2.1/\x.2.1<(↑(bo x.1.2.1 (x.1.1.length:Int) x_2.1).1.length:Int)/\x.2.1.toNat<(bo x.1.2.1 (x.1.1.length:Int) x_2.1).1.length/\(([]:List Int),(bo x.1.2.1 (x.1.1.length:Int) x_2.1).1.set x.2.1.toNat 0,x.1.2.2.1,(gn x.1.2.2.2 x_2.2.1).1)=(bf x.1 x.2.1 x.2.2).1/\(!false)=(bf x.1 x.2.1 x.2.2).2.1/\0=(bf x.1 x.2.1 x.2.2).2.2/\True))/\(decide ((bD (an (aq x.1.1 (ai x.1) (List.map (fun (x:bh)=>x.1) x.1.2.2.1)).1).1 (if af x.2.2=0 then aa x.2.2 else (0:Int))).2≠0)=false->True/\0<=(bD (an (aq x.1.1 (ai x.1) (List.map (fun (x:bh)=>x.1) x.1.2.2.1)).1).1 (if af x.2.2=0 then aa x.2.2 else (0:Int))).1/\(bD (an (aq x.1.1 (ai x.1) (List.map (fun (x:bh)=>x.1) x.1.2.2.1)).1).1 (if af x.2.2=0 then aa x.2.2 else (0:Int))).1<(↑(an (aq x.1.1 (ai x.1) (List.map (fun (x:bh)=>x.1) x.1.2.2.1)).1).1.length:Int)/\(bD (an (aq x.1.1 (ai x.1) (List.map (fun (x:bh)=>x.1) x.1.2.2.1)).1).1 (if af x.2.2=0 then aa x.2.2 else (0:Int))).1.toNat<(an (aq x.1.1 (ai x.1) (List.map (fun (x:bh)=>x.1) x.1.2.2.1)).1).1.length/\True/\(iW (cL (aq x.1.1 (ai x.1) (List.map (fun (x:bh)=>x.1) x.1.2.2.1)).1).1 ((an (aq x.1.1 (ai x.1) (List.map (fun (x:bh)=>x.1) x.1.2.2.1)).1).1.getD (bD (an (aq x.1.1 (ai x.1) (List.map (fun (x:bh)=>x.1) x.1.2.2.1)).1).1 (if af x.2.2=0 then aa x.2.2 else (0:Int))).1.toNat (0,0)).1 x.2.2).2=(iW (cL (aq x.1.1 (ai x.1) (List.map (fun (x:bh)=>x.1) x.1.2.2.1)).1).1 ((an (aq x.1.1 (ai x.1) (List.map (fun (x:bh)=>x.1) x.1.2.2.1)).1).1.getD (bD (an (aq x.1.1 (ai x.1) (List.map (fun (x:bh)=>x.1) x.1.2.2.1)).1).1 (if af x.2.2=0 then aa x.2.2 else (0:Int))).1.toNat (0,0)).1 x.2.2).2/\0<=(bD (an (aq x.1.1 (ai x.1) (List.map (fun (x:bh)=>x.1) x.1.2.2.1)).1).1 (if af x.2.2=0 then aa x.2.2 else (0:Int))).1/\(bD (an (aq x.1.1 (ai x.1) (List.map (fun (x:bh)=>x.1) x.1.2.2.1)).1).1 (if af x.2.2=0 then aa x.2.2 else (0:Int))).1<(↑(an (aq x.1.1 (ai x.1) (List.map (fun (x:bh)=>x.1) x.1.2.2.1)).1).1.length:Int)/\(bD (an (aq x.1.1 (ai x.1) (List.map (fun (x:bh)=>x.1) x.1.2.2.1)).1).1 (if af x.2.2=0 then aa x.2.2 else (0:Int))).1.toNat<(an (aq x.1.1 (ai x.1) (List.map (fun (x:bh)=>x.1) x.1.2.2.1)).1).1.length/\((!true)=true->(([]:List Int),([]:List Int),([]:List (Int×Int)),([]:List (Int×Bool×Int)))=(bf x.1 x.2.1 x.2.2).1/\false=(bf x.1 x.2.1 x.2.2).2.1/\7=(bf x.1 x.2.1 x.2.2).2.2/\True)/\((!true)=false->0<=x.2.1/\x.2.1<(↑(bo x.1.2.1 (x.1.1.length:Int) x_2.1).1.length:Int)/\x.2.1.toNat<(bo x.1.2.1 (x.1.1.length:Int) x_2.1).1.length/\((iW (cL (aq x.1.1 (ai x.1) (List.map (fun (x:bh)=>x.1) x.1.2.2.1)).1).1 ((an (aq x.1.1 (ai x.1) (List.map (fun (x:bh)=>x.1) x.1.2.2.1)).1).1.getD (bD (an (aq x.1.1 (ai x.1) (List.map (fun (x:bh)=>x.1) x.1.2.2.1)).1).1 (if af x.2.2=0 then aa x.2.2 else (0:Int))).1.toNat (0,0)).1 x.2.2).1,(bo x.1.2.1 (x.1.1.length:Int) x_2.1).1.set x.2.1.toNat ((an (aq x.1.1 (ai x.1) (List.map (fun (x:bh)=>x.1) x.1.2.2.1)).1).1.getD (bD (an (aq x.1.1 (ai x.1) (List.map (fun (x:bh)=>x.1) x.1.2.2.1)).1).1 (if af x.2.2=0 then aa x.2.2 else (0:Int))).1.toNat (0,0)).1,x.1.2.2.1,(gn x.1.2.2.2 x_2.2.1).1)=(bf x.1 x.2.1 x.2.2).1/\(!false)=(bf x.1 x.2.1 x.2.2).2.1/\0=(bf x.1 x.2.1 x.2.2).2.2/\True)))))/\((!false)=false->0<=x.2.1/\x.2.1<(x.1.2.1.length:Int)/\x.2.1.toNat<x.1.2.1.length/\(([]:List Int),x.1.2.1.set x.2.1.toNat 0,x.1.2.2)=(bf x.1 x.2.1 x.2.2).1/\(!false)=(bf x.1 x.2.1 x.2.2).2.1/\0=(bf x.1 x.2.1 x.2.2).2.2/\True))/\(decide ((bD (an x.1.1).1 (if af x.2.2=0 then aa x.2.2 else (0:Int))).2≠0)=false->True/\0<=(bD (an x.1.1).1 (if af x.2.2=0 then aa x.2.2 else (0:Int))).1/\(bD (an x.1.1).1 (if af x.2.2=0 then aa x.2.2 else (0:Int))).1<(↑(an x.1.1).1.length:Int)/\(bD (an x.1.1).1 (if af x.2.2=0 then aa x.2.2 else (0:Int))).1.toNat<(an x.1.1).1.length/\True/\(iW (cL x.1.1).1 ((an x.1.1).1.getD (bD (an x.1.1).1 (if af x.2.2=0 then aa x.2.2 else (0:Int))).1.toNat (0,0)).1 x.2.2).2=(iW (cL x.1.1).1 ((an x.1.1).1.getD (bD (an x.1.1).1 (if af x.2.2=0 then aa x.2.2 else (0:Int))).1.toNat (0,0)).1 x.2.2).2/\0<=(bD (an x.1.1).1 (if af x.2.2=0 then aa x.2.2 else (0:Int))).1/\(bD (an x.1.1).1 (if af x.2.2=0 then aa x.2.2 else (0:Int))).1<(↑(an x.1.1).1.length:Int)/\(bD (an x.1.1).1 (if af x.2.2=0 then aa x.2.2 else (0:Int))).1.toNat<(an x.1.1).1.length/\((!true)=true->∀ (_:Array Value),(x.1.2.1.length<=32/\x.1.2.2.1.length<=16/\x.1.2.2.2.length<=16)/\True/\((ai x.1).length+(List.map (fun (x:bh)=>x.1) x.1.2.2.1).length) * 8<=140737488355328/\True/\((((0<=(x.1.1.length:Int)/\(x.1.1.length:Int).toNat * 8<=aK/\((0:Int)<=256/\Int.toNat 256 * 8<=aK/\((List.replicate (x.1.1.length:Int).toNat (0:Int)=List.replicate x.1.1.length (0:Int)/\List.replicate (Int.toNat 256) (0:Int)=List.replicate 256 (0:Int))/\True)/\True)/\(((0:Int)<=256/\Int.toNat 256 * 8<=aK/\(List.replicate (x.1.1.length:Int).toNat (0:Int)=List.replicate x.1.1.length (0:Int)/\List.replicate (Int.toNat 256) (0:Int)=List.replicate 256 (0:Int))/\True)/\True)/\True)/\((0:Int)<=256/\Int.toNat 256 * 8<=aK/\(0<=(x.1.1.length:Int)/\(x.1.1.length:Int).toNat * 8<=aK/\((List.replicate (x.1.1.length:Int).toNat (0:Int)=List.replicate x.1.1.length (0:Int)/\List.replicate (Int.toNat 256) (0:Int)=List.replicate 256 (0:Int))/\True)/\True)/\True)/\True)/\((0:Int)<=256/\Int.toNat 256 * 8<=aK/\((0<=(x.1.1.length:Int)/\(x.1.1.length:Int).toNat * 8<=aK/\((List.replicate (x.1.1.length:Int).toNat (0:Int)=List.replicate x.1.1.length (0:Int)/\List.replicate (Int.toNat 256) (0:Int)=List.replicate 256 (0:Int))/\True)/\True)/\True)/\True)/\True)/\((0:Int)<=256/\Int.toNat 256 * 8<=aK/\(((0<=(x.1.1.length:Int)/\(x.1.1.length:Int).toNat * 8<=aK/\((List.replicate (x.1.1.length:Int).toNat (0:Int)=List.replicate x.1.1.length (0:Int)/\List.replicate (Int.toNat 256) (0:Int)=List.replicate 256 (0:Int))/\True)/\True)/\True)/\True)/\True)/\True)/\∀ (x_1:List Int×List Int),x_1.1=List.replicate x.1.1.length (0:Int)/\x_1.2=List.replicate 256 (0:Int)->((0:Int)<=0/\0<=(↑(ai x.1).length:Int)/\x_1.1=b6 (List.replicate x.1.1.length (0:Int)) (List.take (Int.toNat 0) (ai x.1)) (lZ x.1)/\x_1.2=b6 (List.replicate 256 (0:Int)) (List.take (Int.toNat 0) (ai x.1)) (lZ x.1))/\∀ (x_2:List Int×List Int×Int),0<=x_2.2.2/\x_2.2.2<=(↑(ai x.1).length:Int)/\x_2.1=b6 (List.replicate x.1.1.length (0:Int)) (List.take x_2.2.2.toNat (ai x.1)) (lZ x.1)/\x_2.2.1=b6 (List.replicate 256 (0:Int)) (List.take x_2.2.2.toNat (ai x.1)) (lZ x.1)->(decide (x_2.2.2<(↑(ai x.1).length:Int))=true->0<=x_2.2.2/\x_2.2.2<(↑(ai x.1).length:Int)/\x_2.2.2.toNat<(ai x.1).length/\0<=x_2.2.2/\x_2.2.2<(↑(aq x.1.1 (ai x.1) (List.map (fun (x:bh)=>x.1) x.1.2.2.1)).2.1.length:Int)/\0<=x_2.2.2/\x_2.2.2<(↑(aq x.1.1 (ai x.1) (List.map (fun (x:bh)=>x.1) x.1.2.2.1)).2.1.length:Int)/\0<=(ai x.1).getD x_2.2.2.toNat 0/\(ai x.1).getD x_2.2.2.toNat 0<(x_2.1.length:Int)/\((ai x.1).getD x_2.2.2.toNat 0).toNat<x_2.1.length/\(ai x.1).getD x_2.2.2.toNat 0=(ai x.1).getD x_2.2.2.toNat 0/\0<=(ai x.1).getD x_2.2.2.toNat 0/\(ai x.1).getD x_2.2.2.toNat 0<(x_2.2.1.length:Int)/\((ai x.1).getD x_2.2.2.toNat 0).toNat<x_2.2.1.length/\ak .i64 (x_2.2.2+1)/\(0<=x_2.2.2+1/\x_2.2.2+1<=(↑(ai x.1).length:Int)/\x_2.1.set ((ai x.1).getD x_2.2.2.toNat 0).toNat ((aq x.1.1 (ai x.1) (List.map (fun (x:bh)=>x.1) x.1.2.2.1)).2.1.getD x_2.2.2.toNat 0)=b6 (List.replicate x.1.1.length (0:Int)) (List.take (x_2.2.2+1).toNat (ai x.1)) (lZ x.1)/\x_2.2.1.set ((ai x.1).getD x_2.2.2.toNat 0).toNat ((aq x.1.1 (ai x.1) (List.map (fun (x:bh)=>x.1) x.1.2.2.1)).2.1.getD x_2.2.2.toNat 0)=b6 (List.replicate 256 (0:Int)) (List.take (x_2.2.2+1).toNat (ai x.1)) (lZ x.1))/\((↑(ai x.1).length:Int) - (x_2.2.2+1)).toNat<((↑(ai x.1).length:Int) - x_2.2.2).toNat)/\(decide (x_2.2.2<(↑(ai x.1).length:Int))=false->True/\True/\True/\((0:Int)<=0/\0<=(↑(an (aq x.1.1 (ai x.1) (List.map (fun (x:bh)=>x.1) x.1.2.2.1)).1).1.length:Int)/\(an (aq x.1.1 (ai x.1) (List.map (fun (x:bh)=>x.1) x.1.2.2.1)).1).1.length<=256/\(∀ (r:db),r∈(an (aq x.1.1 (ai x.1) (List.map (fun (x:bh)=>x.1) x.1.2.2.1)).1).1->0<=r.2/\r.2<=256)/\0=dR (List.take (Int.toNat 0) (an (aq x.1.1 (ai x.1) (List.map (fun (x:bh)=>x.1) x.1.2.2.1)).1).1)/\(0:Int)<=0/\(0:Int)<=256 * 0)/\∀ (x_3:Int×Int),0<=x_3.2/\x_3.2<=(↑(an (aq x.1.1 (ai x.1) (List.map (fun (x:bh)=>x.1) x.1.2.2.1)).1).1.length:Int)/\(an (aq x.1.1 (ai x.1) (List.map (fun (x:bh)=>x.1) x.1.2.2.1)).1).1.length<=256/\(∀ (r:db),r∈(an (aq x.1.1 (ai x.1) (List.map (fun (x:bh)=>x.1) x.1.2.2.1)).1).1->0<=r.2/\r.2<=256)/\x_3.1=dR (List.take x_3.2.toNat (an (aq x.1.1 (ai x.1) (List.map (fun (x:bh)=>x.1) x.1.2.2.1)).1).1)/\0<=x_3.1/\x_3.1<=256 * x_3.2->(decide (x_3.2<(↑(an (aq x.1.1 (ai x.1) (List.map (fun (x:bh)=>x.1) x.1.2.2.1)).1).1.length:Int))=true->0<=x_3.2/\x_3.2<(↑(an (aq x.1.1 (ai x.1) (List.map (fun (x:bh)=>x.1) x.1.2.2.1)).1).1.length:Int)/\x_3.2.toNat<(an (aq x.1.1 (ai x.1) (List.map (fun (x:bh)=>x.1) x.1.2.2.1)).1).1.length/\ak .i64 (x_3.1+((an (aq x.1.1 (ai x.1) (List.map (fun (x:bh)=>x.1) x.1.2.2.1)).1).1.getD x_3.2.toNat (0,0)).2)/\ak .i64 (x_3.2+1)/\(0<=x_3.2+1/\x_3.2+1<=(↑(an (aq x.1.1 (ai x.1) (List.map (fun (x:bh)=>x.1) x.1.2.2.1)).1).1.length:Int)/\(an (aq x.1.1 (ai x.1) (List.map (fun (x:bh)=>x.1) x.1.2.2.1)).1).1.length<=256/\(∀ (r:db),r∈(an (aq x.1.1 (ai x.1) (List.map (fun (x:bh)=>x.1) x.1.2.2.1)).1).1->0<=r.2/\r.2<=256)/\x_3.1+((an (aq x.1.1 (ai x.1) (List.map (fun (x:bh)=>x.1) x.1.2.2.1)).1).1.getD x_3.2.toNat (0,0)).2=dR (List.take (x_3.2+1).toNat (an (aq x.1.1 (ai x.1) (List.map (fun (x:bh)=>x.1) x.1.2.2.1)).1).1)/\0<=x_3.1+((an (aq x.1.1 (ai x.1) (List.map (fun (x:bh)=>x.1) x.1.2.2.1)).1).1.getD x_3.2.toNat (0,0)).2/\x_3.1+((an (aq x.1.1 (ai x.1) (List.map (fun (x:bh)=>x.1) x.1.2.2.1)).1).1.getD x_3.2.toNat (0,0)).2<=256 * (x_3.2+1))/\((↑(an (aq x.1.1 (ai x.1) (List.map (fun (x:bh)=>x.1) x.1.2.2.1)).1).1.length:Int) - (x_3.2+1)).toNat<((↑(an (aq x.1.1 (ai x.1) (List.map (fun (x:bh)=>x.1) x.1.2.2.1)).1).1.length:Int) - x_3.2).toNat)/\(decide (x_3.2<(↑(an (aq x.1.1 (ai x.1) (List.map (fun (x:bh)=>x.1) x.1.2.2.1)).1).1.length:Int))=false->∀ (_:Array Value),True/\True/\True/\(decide ((bD (an (aq x.1.1 (ai x.1) (List.map (fun (x:bh)=>x.1) x.1.2.2.1)).1).1 (if af x.2.2=0 then aa x.2.2 else (0:Int))).2≠0)=true->((!false)=true->(([]:List Int),([]:List Int),([]:List (Int×Int)),([]:List (Int×Bool×Int)))=(bf x.1 x.2.1 x.2.2).1/\false=(bf x.1 x.2.1 x.2.2).2.1/\7=(bf x.1 x.2.1 x.2.2).2.2/\True)/\((!false)=false->0<=x.2.1/\x.2.1<(↑(bo x.1.2.1 (x.1.1.length:Int) x_2.1).1.length:Int)/\x.2.1.toNat<(bo x.1.2.1 (x.1.1.length:Int) x_2.1).1.length/\(([]:List Int),(bo x.1.2.1 (x.1.1.length:Int) x_2.1).1.set x.2.1.toNat 0,x.1.2.2.1,(gn x.1.2.2.2 x_2.2.1).1)=(bf x.1 x.2.1 x.2.2).1/\(!true)=(bf x.1 x.2.1 x.2.2).2.1/\0=(bf x.1 x.2.1 x.2.2).2.2/\True))/\(decide ((bD (an (aq x.1.1 (ai x.1) (List.map (fun (x:bh)=>x.1) x.1.2.2.1)).1).1 (if af x.2.2=0 then aa x.2.2 else (0:Int))).2≠0)=false->True/\0<=(bD (an (aq x.1.1 (ai x.1) (List.map (fun (x:bh)=>x.1) x.1.2.2.1)).1).1 (if af x.2.2=0 then aa x.2.2 else (0:Int))).1/\(bD (an (aq x.1.1 (ai x.1) (List.map (fun (x:bh)=>x.1) x.1.2.2.1)).1).1 (if af x.2.2=0 then aa x.2.2 else (0:Int))).1<(↑(an (aq x.1.1 (ai x.1) (List.map (fun (x:bh)=>x.1) x.1.2.2.1)).1).1.length:Int)/\(bD (an (aq x.1.1 (ai x.1) (List.map (fun (x:bh)=>x.1) x.1.2.2.1)).1).1 (if af x.2.2=0 then aa x.2.2 else (0:Int))).1.toNat<(an (aq x.1.1 (ai x.1) (List.map (fun (x:bh)=>x.1) x.1.2.2.1)).1).1.length/\True/\(iW (cL (aq x.1.1 (ai x.1) (List.map (fun (x:bh)=>x.1) x.1.2.2.1)).1).1 ((an (aq x.1.1 (ai x.1) (List.map (fun (x:bh)=>x.1) x.1.2.2.1)).1).1.getD (bD (an (aq x.1.1 (ai x.1) (List.map (fun (x:bh)=>x.1) x.1.2.2.1)).1).1 (if af x.2.2=0 then aa x.2.2 else (0:Int))).1.toNat (0,0)).1 x.2.2).2=(iW (cL (aq x.1.1 (ai x.1) (List.map (fun (x:bh)=>x.1) x.1.2.2.1)).1).1 ((an (aq x.1.1 (ai x.1) (List.map (fun (x:bh)=>x.1) x.1.2.2.1)).1).1.getD (bD (an (aq x.1.1 (ai x.1) (List.map (fun (x:bh)=>x.1) x.1.2.2.1)).1).1 (if af x.2.2=0 then aa x.2.2 else (0:Int))).1.toNat (0,0)).1 x.2.2).2/\0<=(bD (an (aq x.1.1 (ai x.1) (List.map (fun (x:bh)=>x.1) x.1.2.2.1)).1).1 (if af x.2.2=0 then aa x.2.2 else (0:Int))).1/\(bD (an (aq x.1.1 (ai x.1) (List.map (fun (x:bh)=>x.1) x.1.2.2.1)).1).1 (if af x.2.2=0 then aa x.2.2 else (0:Int))).1<(↑(an (aq x.1.1 (ai x.1) (List.map (fun (x:bh)=>x.1) x.1.2.2.1)).1).1.length:Int)/\(bD (an (aq x.1.1 (ai x.1) (List.map (fun (x:bh)=>x.1) x.1.2.2.1)).1).1 (if af x.2.2=0 then aa x.2.2 else (0:Int))).1.toNat<(an (aq x.1.1 (ai x.1) (List.map (fun (x:bh)=>x.1) x.1.2.2.1)).1).1.length/\((!true)=true->(([]:List Int),([]:List Int),([]:List (Int×Int)),([]:List (Int×Bool×Int)))=(bf x.1 x.2.1 x.2.2).1/\false=(bf x.1 x.2.1 x.2.2).2.1/\7=(bf x.1 x.2.1 x.2.2).2.2/\True)/\((!true)=false->0<=x.2.1/\x.2.1<(↑(bo x.1.2.1 (x.1.1.length:Int) x_2.1).1.length:Int)/\x.2.1.toNat<(bo x.1.2.1 (x.1.1.length:Int) x_2.1).1.length/\((iW (cL (aq x.1.1 (ai x.1) (List.map (fun (x:bh)=>x.1) x.1.2.2.1)).1).1 ((an (aq x.1.1 (ai x.1) (List.map (fun (x:bh)=>x.1) x.1.2.2.1)).1).1.getD (bD (an (aq x.1.1 (ai x.1) (List.map (fun (x:bh)=>x.1) x.1.2.2.1)).1).1 (if af x.2.2=0 then aa x.2.2 else (0:Int))).1.toNat (0,0)).1 x.2.2).1,(bo x.1.2.1 (x.1.1.length:Int) x_2.1).1.set x.2.1.toNat ((an (aq x.1.1 (ai x.1) (List.map (fun (x:bh)=>x.1) x.1.2.2.1)).1).1.getD (bD (an (aq x.1.1 (ai x.1) (List.map (fun (x:bh)=>x.1) x.1.2.2.1)).1).1 (if af x.2.2=0 then aa x.2.2 else (0:Int))).1.toNat (0,0)).1,x.1.2.2.1,(gn x.1.2.2.2 x_2.2.1).1)=(bf x.1 x.2.1 x.2.2).1/\(!true)=(bf x.1 x.2.1 x.2.2).2.1/\0=(bf x.1 x.2.1 x.2.2).2.2/\True)))))/\((!true)=false->0<=x.2.1/\x.2.1<(x.1.2.1.length:Int)/\x.2.1.toNat<x.1.2.1.length/\((iW (cL x.1.1).1 ((an x.1.1).1.getD (bD (an x.1.1).1 (if af x.2.2=0 then aa x.2.2 else (0:Int))).1.toNat (0,0)).1 x.2.2).1,x.1.2.1.set x.2.1.toNat ((an x.1.1).1.getD (bD (an x.1.1).1 (if af x.2.2=0 then aa x.2.2 else (0:Int))).1.toNat (0,0)).1,x.1.2.2)=(bf x.1 x.2.1 x.2.2).1/\(!true)=(bf x.1 x.2.1 x.2.2).2.1/\0=(bf x.1 x.2.1 x.2.2).2.2/\True))))))
theorem Fy:yN:=by
 unfold yN;intro ⟨s,slot,h⟩ ⟨⟨⟨hb,hw⟩,_⟩,_⟩ _;simp only at hb hw |-
 have hM:bf s slot h=if bM s slot≠0 then (ay,false,bM s slot) else if fe h≠0 then (ay,false,fe h) else
  if (ie s.1 h).2.2=true then (((ie s.1 h).1,s.2.1.set slot.toNat (ie s.1 h).2.1,s.2.2),false,0) else
  if (ie (dL s) h).2.2=true then (((ie (dL s) h).1,(s.2.1.map (lf s)).set slot.toNat (ie (dL s) h).2.1,s.2.2.1,s.2.2.2.map (ns s)),true,0) else (ay,false,7):=rfl
 have hE:bM s slot=if ar s≠0 then ar s else if slot<0\/(s.2.1.length:Int)<=slot then 5 else 0:=rfl
 have hH:fe h=if af h≠0 then af h else if h.2.2.2=true then 3 else 0:=rfl
 refine ⟨trivial,fun h0=>?_,fun h0=>⟨fun h1=>?_,fun h1=>⟨trivial,fun h2=>?_,fun h2=>⟨fun h3=>?_,fun h3 tm=>⟨trivial,trivial,trivial,by trivial,by trivial,by trivial,by trivial,by trivial,by trivial,trivial,fun tm2=>⟨trivial,trivial,trivial,?_,?_⟩⟩⟩⟩⟩⟩
 ·have h0:=tM h0;rw [if_pos h0] at hE;rw [hM,hE,if_pos h0];exact ⟨by trivial,by trivial,by trivial,trivial⟩
 all_goals have h0:=uZ h0
 all_goals rw [if_neg h0] at hE
 ·rw [if_pos (by simpa using h1)] at hE;rw [hM,hE,if_pos (by omega)];exact ⟨by trivial,by trivial,by trivial,trivial⟩
 all_goals have h1:¬ (slot<0\/(s.2.1.length:Int)<=slot):=by simpa using h1
 all_goals rw [if_neg h1] at hE
 all_goals rw [hE,if_neg (by omega)] at hM
 ·have h2:=tM h2;rw [if_pos h2] at hH;rw [hM,hH,if_pos h2];exact ⟨by trivial,by trivial,by trivial,trivial⟩
 all_goals have h2:af h=0:=by simpa using uZ h2
 ·rw [if_neg (by omega),if_pos h3] at hH;rw [hM,hH,if_pos (by omega)];exact ⟨by trivial,by trivial,by trivial,trivial⟩
 all_goals
  rw [if_neg (by omega),if_neg (by rw [h3]; simp)] at hH;rw [hH,if_neg (by omega)] at hM;rw [hM,if_pos h2];have R:=go hw (by omega:ar s=0);have hcl:aq s.1 (ai s) (List.map (fun (x:bh)=>x.1) s.2.2.1)=(dL s,(ai s).map (lZ s),0):=R.clean;obtain ⟨hgf,hgi,hgl⟩:=R.gaps;have hfl:=R.fromLen;have hsm:=R.small;have hal:=R.al;have hfm:=fun x=>gZ (s:=s) R.root (x:=x)
  have hsr:=R.swapRoots;have hsh:=R.swapHands;have hg1:an s.1=(aO false [] (ac s.1).1,0):=by unfold an; rw [if_neg (by have:=R.chk; omega)]
  have T1:=uM R.chk h2 h3;have T2:=uM R.slidOK.1 h2 h3;rw [hg1];simp only;cases hfd:(aO false [] (ac s.1).1).find? (fun r=>decide (aa h<=r.2)) with
  | none=>?_
  | some r=>?_
  all_goals rw [hfd] at T1
  all_goals simp only at T1
 ·obtain ⟨t1,t2⟩:=T1;rw [t1,t2];simp only;refine fun _=>⟨fun _ tm=>?_,fun hx=>by cases hx⟩
  rw [if_neg (by simp),hcl];simp only;rw [hgf];simp only;generalize aO false [] (ac (dL s)).1=g at *;unfold aK at hb |-;refine ⟨hsm,trivial,by rw [Q3]; omega,trivial,?_,fun ⟨ra,ha⟩ ⟨q1,q2⟩=>?_⟩
  ·have e1:((s.1.length:Int)).toNat=s.1.length:=by omega
   have e2:Int.toNat 256=256:=rfl;have e3:(0:Int)<=(s.1.length:Int):=by omega
   simp only [e1,e2,e3,hb,Sb,SI];omega
  simp only at q1 q2;subst q1 q2;refine ⟨⟨by omega,by omega,by simp [b6],by simp [b6]⟩,fun ⟨ra,ha,i⟩ ⟨i0,i1,i2,i3⟩=>⟨fun hlt=>?_,fun hge=>?_⟩⟩
  ·simp only at i0 i1 i2 i3 hlt |-;have hlt:=tM hlt;have ht:=a8 (0:Int) i0 hlt;have hx:=R.nameIn ((hfm _).1 (aI (0:Int) i0 hlt));have hm:(List.map (lZ s) (ai s)).getD i.toNat 0=lZ s ((ai s).getD i.toNat 0):=Em i0 hlt;have l1:ra.length=s.1.length:=by rw [i2,eu,QV]
   have l2:ha.length=256:=by rw [i3,eu,QV]
   rw [hm,ht,kJ,kJ,<- i2,<- i3,l1,l2,Q3];generalize (ai s).getD i.toNat 0=x at *;simp only [ak];exact ⟨i0,hlt,by omega,i0,hlt,i0,hlt,hx.1,hx.2,by omega,by first | trivial | rfl,hx.1,by omega,by omega,by omega,⟨by omega,by omega,by trivial,by trivial⟩,by omega⟩
  ·simp only at i0 i1 i2 i3 hge |-;have hge:=uZ hge;rw [bT hge] at i2 i3;refine ⟨trivial,trivial,trivial,⟨by omega,by omega,hgl,fun r hr=>by have:=hgi r hr; omega,by trivial,by omega,by omega⟩,fun ⟨n,j⟩ ⟨j0,j1,_,_,j2,j3,j4⟩=>⟨fun hlt=>?_,fun hge tm=>⟨trivial,trivial,trivial,?_⟩⟩⟩
   ·simp only at j0 j1 j2 j3 j4 hlt |-;have hlt:=tM hlt;have hm:=hgi _ (aI ((0,0):db) j0 hlt);rw [yr j0 hlt,<- j2];generalize (g.getD j.toNat (0,0)).2=y at *;simp only [ak];exact ⟨j0,hlt,by omega,by omega,by omega,⟨by omega,by omega,hgl,fun r hr=>by have:=hgi r hr; omega,by trivial,by omega,by omega⟩,by omega⟩
   ·rw [i2,i3,hsr,hsh];simp only;cases hfd2:g.find? (fun r=>decide (aa h<=r.2)) with
    | none =>
     rw [hfd2] at T2;simp only at T2;obtain ⟨u1,u2⟩:=T2;rw [u1,u2];exact ⟨fun _=>⟨fun _=>⟨by trivial,by trivial,by trivial,trivial⟩,fun hx=>by cases hx⟩,fun hx=>by simp at hx⟩
    | some r =>
     rw [hfd2] at T2;simp only at T2;obtain ⟨k,k0,k1,u1,u2,u3,u4⟩:=T2;rw [u1,u4];simp only;rw [u2,u3];refine ⟨fun hx=>by simp at hx,fun _=>⟨trivial,k0,k1,by omega,trivial,by trivial,k0,k1,by omega,fun hx=>(by cases hx),fun _=>⟨by omega,by rw [Q3]; omega,by rw [Q3]; omega,by trivial,by trivial,by trivial,trivial⟩⟩⟩
 ·obtain ⟨i,i0,i1,t1,t2,t3,t4⟩:=T1;rw [t1];exact fun hx=>by simp at hx
 ·obtain ⟨t1,t2⟩:=T1;rw [t1];exact fun hx=>by simp at hx
 ·obtain ⟨i,i0,i1,t1,t2,t3,t4⟩:=T1;rw [t1,t4];simp only;rw [t2,t3];exact fun _=>⟨trivial,i0,i1,by omega,trivial,by trivial,i0,i1,by omega,fun hx=>(by cases hx),fun _=>⟨by omega,by omega,by omega,by trivial,by trivial,by trivial,trivial⟩⟩
theorem JZ:Jm.ok Tryz.prog 23:=aD (ann:=KT) (ae eA (ae jC (ae jB (ae kQ (ae Mn (ae GR (ae GQ (ae rQ (ae kO (ae Ee (ae bK (ae cg (ae bX (ae bL (ae tv (ae tD ap)))))))))))))))) Tryz.func23 (by kernel_rfl) Fy
end
section
end
section
theorem DW {h:List a6} (at_:Int) (hf:aM h=0) :
  openF h at_=if at_<0\/255<at_ then ([],0,4) else if ag az 0 h<0 then ([],0,7) else (h.set (ag az 0 h).toNat (mc h (ag az 0 h) at_),eh (ag az 0 h) (mc h (ag az 0 h) at_),0):=by
 unfold openF;rw [if_neg (by omega)];by_cases ht:at_<0\/255<at_
 ·rw [if_pos ht,if_pos (by unfold fj; grind)]
 ·rw [if_neg ht,if_neg (by unfold fj; grind)]
abbrev pO:Ty:=.pair ty_I (.pair ty_I (.pair ty_I (.pair ty_I bi)))
abbrev O1:=Int×Int×Int×Int×Int
def cm (k a b c v:Int):Bool:=decide (k<1)||decide (13<k)||!(decide (k≠2)&&decide (k≠12))&&decide (a≠0)||!(decide (k=1)||decide (3<=k)&&decide (k<=6)||decide (k=9))&&decide (b≠0)||!(decide (k=1)||decide (k=3)||decide (k=4))&&decide (c≠0)||!(decide (k=1)||decide (k=6)||decide (k=11)||decide (k=12))&&decide (v≠0)
def Qn (b:Bool):Int:=if b=true then 1 else 0
def deed (s:ah) (k a b c v:Int):ah×Int×Int :=
 if k=1 then ((bf s a (b,c,v % 65536,false)).1,Qn (bf s a (b,c,v % 65536,false)).2.1,(bf s a (b,c,v % 65536,false)).2.2)
 else if k=2 then ((dg s).1,(dg s).2,0)
 else if k=3 then ((lj s a b c).1,0,(lj s a b c).2)
 else if k=4 then ((ld s a b c).1,0,(ld s a b c).2)
 else if k=5 then (if aP s a b≠0 then (ay,0,aP s a b) else (s,s.1.getD (bO s (ax s a) b).toNat 0,0))
 else if k=6 then ((j7 s a b v).1,0,(j7 s a b v).2)
 else if k=7 then ja s a
 else if k=8 then ((cZ s a).1,0,(cZ s a).2)
 else if k=9 then (if cr s a b≠0 then (ay,0,cr s a b) else (s,s.1.getD (bO s a b).toNat 0,0))
 else if k=10 then fF s a
 else if k=11 then ((jV s v a).1,0,(jV s v a).2)
 else if k=12 then ((fL s v).1,0,(fL s v).2)
 else ((fu s a).1,0,(fu s a).2)
def bv (s:ah) (k a b c v:Int):ah×Int×Int:=if cm k a b c v=true then (ay,0,1) else if ar s≠0 then (ay,0,ar s) else deed s k a b c v
theorem zJ (s:ah) (a b c v:Int):deed s 1 a b c v=((bf s a (b,c,v % 65536,false)).1,Qn (bf s a (b,c,v % 65536,false)).2.1,(bf s a (b,c,v % 65536,false)).2.2):=if_pos rfl
theorem EZ (s:ah) (a b c v:Int):deed s 2 a b c v=((dg s).1,(dg s).2,0):=by unfold deed; rw [if_neg (by omega),if_pos rfl]
theorem EY (s:ah) (a b c v:Int):deed s 3 a b c v=((lj s a b c).1,0,(lj s a b c).2):=by
 unfold deed
 iterate 2 rw [if_neg (by omega)]
 rw [if_pos rfl]
theorem EX (s:ah) (a b c v:Int):deed s 4 a b c v=((ld s a b c).1,0,(ld s a b c).2):=by
 unfold deed
 iterate 3 rw [if_neg (by omega)]
 rw [if_pos rfl]
theorem zI (s:ah) (a b c v:Int):deed s 5 a b c v=(if aP s a b≠0 then (ay,0,aP s a b) else (s,s.1.getD (bO s (ax s a) b).toNat 0,0)):=by
 unfold deed
 iterate 4 rw [if_neg (by omega)]
 rw [if_pos rfl]
theorem zH (s:ah) (a b c v:Int):deed s 6 a b c v=((j7 s a b v).1,0,(j7 s a b v).2):=by
 unfold deed
 iterate 5 rw [if_neg (by omega)]
 rw [if_pos rfl]
theorem EW (s:ah) (a b c v:Int):deed s 7 a b c v=ja s a:=by
 unfold deed
 iterate 6 rw [if_neg (by omega)]
 rw [if_pos rfl]
theorem EV (s:ah) (a b c v:Int):deed s 8 a b c v=((cZ s a).1,0,(cZ s a).2):=by
 unfold deed
 iterate 7 rw [if_neg (by omega)]
 rw [if_pos rfl]
theorem EU (s:ah) (a b c v:Int):deed s 9 a b c v=(if cr s a b≠0 then (ay,0,cr s a b) else (s,s.1.getD (bO s a b).toNat 0,0)):=by
 unfold deed
 iterate 8 rw [if_neg (by omega)]
 rw [if_pos rfl]
theorem w7 (s:ah) (a b c v:Int):deed s 10 a b c v=fF s a:=by
 unfold deed
 iterate 9 rw [if_neg (by omega)]
 rw [if_pos rfl]
theorem w6 (s:ah) (a b c v:Int):deed s 11 a b c v=((jV s v a).1,0,(jV s v a).2):=by
 unfold deed
 iterate 10 rw [if_neg (by omega)]
 rw [if_pos rfl]
theorem w5 (s:ah) (a b c v:Int):deed s 12 a b c v=((fL s v).1,0,(fL s v).2):=by
 unfold deed
 iterate 11 rw [if_neg (by omega)]
 rw [if_pos rfl]
theorem wZ (s:ah) (a b c v:Int):deed s 13 a b c v=((fu s a).1,0,(fu s a).2):=by
 unfold deed
 iterate 12 rw [if_neg (by omega)]
theorem HO:∀ (l:List db),(∀ r∈l,0<=r.2/\r.2<=256)->0<=dR l/\dR l<=256 * (l.length:Int)
 | [],_=>by simp [dR]
 | r::l,h=>by
  have ih:=HO l fun x hx=>h x (QK _ hx)
  have h1:=h r QJ;have e:dR (r::l)=r.2+dR l:=by simp [dR]
  rw [e,HN];omega
end
section
set_option maxHeartbeats 8000000
end
section
set_option maxHeartbeats 4000000
theorem ge {s:ah} {k a b c v:Int} {y:ah×Int×Int} (hb:cm k a b c v=false) (h1:ar s≠0->y=(ay,0,ar s)) (h2:ar s=0->y=deed s k a b c v):bv s k a b c v=y:=by
 unfold bv;rw [if_neg (by rw [hb]; simp)];by_cases h:ar s≠0
 ·rw [if_pos h,h1 h]
 ·rw [if_neg h,h2 (by omega)]
theorem tX {s:ah} (a:Int) (h:ar s≠0):bw s a=ar s:=by unfold bw; rw [if_pos h]
theorem Dk {s:ah} (a:Int) (h:ar s≠0):bM s a=ar s:=by unfold bM; rw [if_pos h]
theorem Qc (s:ah) (a b c v:Int):bv s 1 a b c v=((bf s a (b,c,v % 65536,false)).1,Qn (bf s a (b,c,v % 65536,false)).2.1,(bf s a (b,c,v % 65536,false)).2.2):=ge (by simp [cm]) (fun h=>by
 have e:=Dk a h;unfold bf;rw [if_pos (by omega),e];rfl) (fun h=>by rw [zJ])
theorem Qb (s:ah):bv s 2 0 0 0 0=bE s:=ge (by rfl) (fun h=>by unfold bE; rw [if_pos h]) (fun h=>by rw [EZ]; unfold bE; rw [if_neg (by omega)])
theorem Qa (s:ah) (a b c:Int):bv s 3 a b c 0=((lj s a b c).1,0,(lj s a b c).2):=ge (by simp [cm]) (fun h=>by
 have e:bC s a b c=ar s:=by unfold bC; rw [if_pos (by rw [tX a h]; exact h),tX a h]
 unfold lj;rw [if_pos (by omega),e]) (fun h=>by rw [EY])
theorem P9 (s:ah) (a b c:Int):bv s 4 a b c 0=((ld s a b c).1,0,(ld s a b c).2):=ge (by simp [cm]) (fun h=>by
 have e:bC s a b c=ar s:=by unfold bC; rw [if_pos (by rw [tX a h]; exact h),tX a h]
 unfold ld;rw [if_pos (by omega),e]) (fun h=>by rw [EX])
theorem P8 (s:ah) (a b:Int):bv s 5 a b 0 0=(if aP s a b≠0 then (ay,0,aP s a b) else (s,s.1.getD (bO s (ax s a) b).toNat 0,0)):=ge (by simp [cm]) (fun h=>by
 have e:aP s a b=ar s:=by unfold aP; rw [if_pos (by rw [tX a h]; exact h),tX a h]
 rw [if_pos (by omega),e]) (fun h=>by rw [zI])
theorem P7 (s:ah) (a b v:Int):bv s 6 a b 0 v=((j7 s a b v).1,0,(j7 s a b v).2):=ge (by simp [cm]) (fun h=>by
 have e:aP s a b=ar s:=by unfold aP; rw [if_pos (by rw [tX a h]; exact h),tX a h]
 unfold j7;rw [if_pos (by omega),e]) (fun h=>by rw [zH])
theorem P6 (s:ah) (a:Int):bv s 7 a 0 0 0=ja s a:=ge (by simp [cm]) (fun h=>by unfold ja; rw [if_pos (by rw [tX a h]; exact h),tX a h]) (fun h=>by rw [EW])
theorem P5 (s:ah) (a:Int):bv s 8 a 0 0 0=((cZ s a).1,0,(cZ s a).2):=ge (by simp [cm]) (fun h=>by unfold cZ; rw [if_pos h]) (fun h=>by rw [EV])
theorem P4 (s:ah) (a b:Int):bv s 9 a b 0 0=(if cr s a b≠0 then (ay,0,cr s a b) else (s,s.1.getD (bO s a b).toNat 0,0)):=ge (by simp [cm]) (fun h=>by
 have e:cr s a b=ar s:=by unfold cr; rw [if_pos h]
 rw [if_pos (by omega),e]) (fun h=>by rw [EU])
theorem PF (s:ah) (a:Int):bv s 10 a 0 0 0=fF s a:=ge (by simp [cm]) (fun h=>by unfold fF; rw [if_pos (by rw [tX a h]; exact h),tX a h]) (fun h=>by rw [w7])
theorem PE (s:ah) (a v:Int):bv s 11 a 0 0 v=((jV s v a).1,0,(jV s v a).2):=ge (by simp [cm]) (fun h=>by unfold jV; rw [if_pos (by rw [Dk a h]; exact h),Dk a h]) (fun h=>by rw [w6])
theorem PD (s:ah) (v:Int):bv s 12 0 0 0 v=((fL s v).1,0,(fL s v).2):=ge (by simp [cm]) (fun h=>by unfold fL; rw [if_pos h]) (fun h=>by rw [w5])
theorem PC (s:ah) (a:Int):bv s 13 a 0 0 0=((fu s a).1,0,(fu s a).2):=ge (by simp [cm]) (fun h=>by unfold fu; rw [if_pos (by rw [Dk a h]; exact h),Dk a h]) (fun h=>by rw [wZ])
theorem LZ {s:ah} (hw:∀ x∈s.1,ak .u64 x) (a:Int):IntKind.u64.wrap (ja s a).2.1=(ja s a).2.1:=by
 unfold ja;split
 ·rfl
 ·rename_i h;split
  ·rfl
  ·obtain ⟨R,_,_,O⟩:=ph hw (by omega:bw s a=0);have:=O.x0;have:=O.r0;have:=O.b0;have:=O.fit;have:=R.al;exact eY (by simp only; omega) (by simp only; omega)
theorem BO {s:ah} (hw:∀ x∈s.1,ak .u64 x):IntKind.u64.wrap (bE s).2.1=(bE s).2.1:=by
 unfold bE;split
 ·rfl
 ·have R:=go hw (by omega:ar s=0);have hg:=HO (aO false [] (ac (dL s)).1) (fun r hr=>by have:=R.gaps.2.1 r hr; omega);have hl:=R.gaps.2.2;have e:(dg s).2=dR (aO false [] (ac (dL s)).1):=rfl;exact eY (by simp only; omega) (by simp only; omega)
end
section
open Go Go.RowKit
set_option maxHeartbeats 8000000
theorem Ht {w:World} {a:Addr} {v:Value} (h:w.cell? a=some v) (o:Go.Obj):(w.alloc o).cell? a=some v:=by
 refine (((Below.refl w.heap.size w).alloc (QI _) o).cell (Nat.lt_of_not_le fun hn=>?_)).trans h;unfold World.cell? at h;rw [Array.getElem?_eq_none hn] at h;cases h
abbrev Qt (k a b c v:Int):Value:=.agg #[.int .i64 k,.int .i64 a,.int .i64 b,.int .i64 c,.int .u64 v]
abbrev JS (k a b c v:Int):Go.Obj:=Go.Obj.cells #[.int .i64 k,.int .i64 a,.int .i64 b,.int .i64 c,.int .u64 v] 47
def dV (k a b c v:Int):Bool:=!cm k a b c v
abbrev gL (k a b c v:Int) (w:World):Prop:=Calls Tryz.prog 58 #[Qt k a b c v] w fun e w'=>e=.returned (.bool (dV k a b c v))/\Below w.heap.size w w'
theorem iJ (w:World) (o o2:Go.Obj):Below w.heap.size w ((w.alloc o).alloc o2):=((Below.refl _ w).alloc (QI _) o).alloc (by simp) o2
theorem gJ {x y:Bool} (h:x=y):Ending.returned (.bool x)=Ending.returned (.bool y):=by rw [h]
def formsB:List (List Bool):=[[false,false,false,false],[true,true,true,true],[false,false,false,false],[true,true,true,false],[true,true,true,false],[true,true,false,false],[true,true,false,true],[true,false,false,false],[true,false,false,false],[true,true,false,false],[true,false,false,false],[true,false,false,true],[false,false,false,true],[true,false,false,false]]
def formsZ:List (Nat×Bool):=List.zip (List.range 56) formsB.flatten
theorem lR {w:World} (h:Laid w) (i j k l:Nat) (x y z u:Bool) (o:Go.Obj)
  (hm:(formsZ.contains (i,x)&&formsZ.contains (j,y)&&formsZ.contains (k,z)&&formsZ.contains (l,u))=true) :
  (w.alloc o).cell? ⟨0,i,none⟩=some (.bool x)/\(w.alloc o).cell? ⟨0,j,none⟩=some (.bool y)/\(w.alloc o).cell? ⟨0,k,none⟩=some (.bool z)/\(w.alloc o).cell? ⟨0,l,none⟩=some (.bool u):=by
 simp only [CF,QT] at hm
 have key:∀ n b,(n,b)∈formsZ->(w.alloc o).cell? ⟨0,n,none⟩=some (.bool b):=fun n b hb=>by
  have h1:w.cell? ⟨0,n,none⟩=some (.bool b):=h (0,n,.bool b) (by first | exact QR.2 ⟨(n,b),hb,rfl⟩ | exact L3 _ (QR.2 ⟨(n,b),hb,rfl⟩));exact Ht h1 o
 exact ⟨key _ _ hm.1.1.1,key _ _ hm.1.1.2,key _ _ hm.1.2,key _ _ hm.2⟩
theorem rv (x:Int):x=0\/(x≠0/\(x == 0)=false):=by
 by_cases h:x=0
 ·exact .inl h
 ·exact .inr ⟨h,by simp [h]⟩
theorem LP (k a b c v:Int) (w:World) (hk:k<1\/13<k):gL k a b c v w:=by
 by_cases h1:k<1
 ·have e1:decide (k<1)=true:=Rm h1
  go_enter RU,RH
  go_wp2
  go_ret
  exact ⟨gJ (by simp [dV,cm,e1]),(Below.refl _ w).alloc (QI _) _⟩
 ·have e1:decide (k<1)=false:=Rz h1;have e2:decide (k > 13)=true:=Rm (by omega);have e3:decide (13<k)=true:=e2
  go_enter RU,RH
  go_wp2
  go_ret
  exact ⟨gJ (by simp [dV,cm,e1,e3]),(Below.refl _ w).alloc (QI _) _⟩
theorem Pi (a b c v:Int) (w:World) (h:Laid w):gL 1 a b c v w:=by
 obtain ⟨e0,e1,e2,e3⟩:=lR h 4 5 6 7 true true true true (JS 1 a b c v) (by decide)
 all_goals (go_enter RU,RH; go_wp2; go_ret; exact ⟨gJ (by simp [dV,cm, *]),iJ _ _ _⟩)
theorem Ph (a b c v:Int) (w:World) (h:Laid w):gL 2 a b c v w:=by
 obtain ⟨e0,e1,e2,e3⟩:=lR h 8 9 10 11 false false false false (JS 2 a b c v) (by decide);rcases rv a with rfl | ⟨qa,sa⟩
 all_goals rcases rv b with rfl | ⟨qb,sb⟩
 all_goals rcases rv c with rfl | ⟨qc,sc⟩
 all_goals rcases rv v with rfl | ⟨qv,sv⟩
 all_goals (go_enter RU,RH; go_wp2; go_ret; exact ⟨gJ (by simp [dV,cm, *]),iJ _ _ _⟩)
theorem Pg (a b c v:Int) (w:World) (h:Laid w):gL 3 a b c v w:=by
 obtain ⟨e0,e1,e2,e3⟩:=lR h 12 13 14 15 true true true false (JS 3 a b c v) (by decide);rcases rv v with rfl | ⟨qv,sv⟩
 all_goals (go_enter RU,RH; go_wp2; go_ret; exact ⟨gJ (by simp [dV,cm, *]),iJ _ _ _⟩)
theorem Pf (a b c v:Int) (w:World) (h:Laid w):gL 4 a b c v w:=by
 obtain ⟨e0,e1,e2,e3⟩:=lR h 16 17 18 19 true true true false (JS 4 a b c v) (by decide);rcases rv v with rfl | ⟨qv,sv⟩
 all_goals (go_enter RU,RH; go_wp2; go_ret; exact ⟨gJ (by simp [dV,cm, *]),iJ _ _ _⟩)
theorem Pe (a b c v:Int) (w:World) (h:Laid w):gL 5 a b c v w:=by
 obtain ⟨e0,e1,e2,e3⟩:=lR h 20 21 22 23 true true false false (JS 5 a b c v) (by decide);rcases rv c with rfl | ⟨qc,sc⟩
 all_goals rcases rv v with rfl | ⟨qv,sv⟩
 all_goals (go_enter RU,RH; go_wp2; go_ret; exact ⟨gJ (by simp [dV,cm, *]),iJ _ _ _⟩)
theorem Pd (a b c v:Int) (w:World) (h:Laid w):gL 6 a b c v w:=by
 obtain ⟨e0,e1,e2,e3⟩:=lR h 24 25 26 27 true true false true (JS 6 a b c v) (by decide);rcases rv c with rfl | ⟨qc,sc⟩
 all_goals (go_enter RU,RH; go_wp2; go_ret; exact ⟨gJ (by simp [dV,cm, *]),iJ _ _ _⟩)
theorem Pc (a b c v:Int) (w:World) (h:Laid w):gL 7 a b c v w:=by
 obtain ⟨e0,e1,e2,e3⟩:=lR h 28 29 30 31 true false false false (JS 7 a b c v) (by decide);rcases rv b with rfl | ⟨qb,sb⟩
 all_goals rcases rv c with rfl | ⟨qc,sc⟩
 all_goals rcases rv v with rfl | ⟨qv,sv⟩
 all_goals (go_enter RU,RH; go_wp2; go_ret; exact ⟨gJ (by simp [dV,cm, *]),iJ _ _ _⟩)
theorem Pb (a b c v:Int) (w:World) (h:Laid w):gL 8 a b c v w:=by
 obtain ⟨e0,e1,e2,e3⟩:=lR h 32 33 34 35 true false false false (JS 8 a b c v) (by decide);rcases rv b with rfl | ⟨qb,sb⟩
 all_goals rcases rv c with rfl | ⟨qc,sc⟩
 all_goals rcases rv v with rfl | ⟨qv,sv⟩
 all_goals (go_enter RU,RH; go_wp2; go_ret; exact ⟨gJ (by simp [dV,cm, *]),iJ _ _ _⟩)
theorem Pa (a b c v:Int) (w:World) (h:Laid w):gL 9 a b c v w:=by
 obtain ⟨e0,e1,e2,e3⟩:=lR h 36 37 38 39 true true false false (JS 9 a b c v) (by decide);rcases rv c with rfl | ⟨qc,sc⟩
 all_goals rcases rv v with rfl | ⟨qv,sv⟩
 all_goals (go_enter RU,RH; go_wp2; go_ret; exact ⟨gJ (by simp [dV,cm, *]),iJ _ _ _⟩)
theorem NY (a b c v:Int) (w:World) (h:Laid w):gL 10 a b c v w:=by
 obtain ⟨e0,e1,e2,e3⟩:=lR h 40 41 42 43 true false false false (JS 10 a b c v) (by decide);rcases rv b with rfl | ⟨qb,sb⟩
 all_goals rcases rv c with rfl | ⟨qc,sc⟩
 all_goals rcases rv v with rfl | ⟨qv,sv⟩
 all_goals (go_enter RU,RH; go_wp2; go_ret; exact ⟨gJ (by simp [dV,cm, *]),iJ _ _ _⟩)
theorem NX (a b c v:Int) (w:World) (h:Laid w):gL 11 a b c v w:=by
 obtain ⟨e0,e1,e2,e3⟩:=lR h 44 45 46 47 true false false true (JS 11 a b c v) (by decide);rcases rv b with rfl | ⟨qb,sb⟩
 all_goals rcases rv c with rfl | ⟨qc,sc⟩
 all_goals (go_enter RU,RH; go_wp2; go_ret; exact ⟨gJ (by simp [dV,cm, *]),iJ _ _ _⟩)
theorem NW (a b c v:Int) (w:World) (h:Laid w):gL 12 a b c v w:=by
 obtain ⟨e0,e1,e2,e3⟩:=lR h 48 49 50 51 false false false true (JS 12 a b c v) (by decide);rcases rv a with rfl | ⟨qa,sa⟩
 all_goals rcases rv b with rfl | ⟨qb,sb⟩
 all_goals rcases rv c with rfl | ⟨qc,sc⟩
 all_goals (go_enter RU,RH; go_wp2; go_ret; exact ⟨gJ (by simp [dV,cm, *]),iJ _ _ _⟩)
theorem NV (a b c v:Int) (w:World) (h:Laid w):gL 13 a b c v w:=by
 obtain ⟨e0,e1,e2,e3⟩:=lR h 52 53 54 55 true false false false (JS 13 a b c v) (by decide);rcases rv b with rfl | ⟨qb,sb⟩
 all_goals rcases rv c with rfl | ⟨qc,sc⟩
 all_goals rcases rv v with rfl | ⟨qv,sv⟩
 all_goals (go_enter RU,RH; go_wp2; go_ret; exact ⟨gJ (by simp [dV,cm, *]),iJ _ _ _⟩)
theorem Gp {k a b c v:Int} {w:World} (h:Laid w):gL k a b c v w:=by
 by_cases h1:k<1\/13<k
 ·exact LP k a b c v w h1
 have:k=1\/k=2\/k=3\/k=4\/k=5\/k=6\/k=7\/k=8\/k=9\/k=10\/k=11\/k=12\/k=13:=by omega
 rcases this with rfl | rfl | rfl | rfl | rfl | rfl | rfl | rfl | rfl | rfl | rfl | rfl | rfl
 ·exact Pi a b c v w h
 ·exact Ph a b c v w h
 ·exact Pg a b c v w h
 ·exact Pf a b c v w h
 ·exact Pe a b c v w h
 ·exact Pd a b c v w h
 ·exact Pc a b c v w h
 ·exact Pb a b c v w h
 ·exact Pa a b c v w h
 ·exact NY a b c v w h
 ·exact NX a b c v w h
 ·exact NW a b c v w h
 ·exact NV a b c v w h
def Lx:Spec:={ Ts:=[pO],Rs:=[.dat .bool],pre:=fun _=>True,F:=fun ((k,a,b,c,v):Int×Int×Int×Int×Int)=>dV k a b c v }
theorem Mf:Lx.ok Tryz.prog 58:=by
 intro p w vs ⟨k,a,b,c,v⟩ hL hA hargs _;obtain ⟨val,rfl,hv⟩:=hargs;obtain ⟨cs,rfl,c1,c1',e1,⟨rfl,_⟩,c2,c2',rfl,⟨rfl,_⟩,c3,c3',rfl,⟨rfl,_⟩,c4,c4',rfl,⟨rfl,_⟩,rfl,_⟩:=hv
 have e:cs=#[.int .i64 k,.int .i64 a,.int .i64 b,.int .i64 c,.int .u64 v]:=by
  apply QZ.1;simpa using e1
 subst e;refine (Gp (k:=k) (a:=a) (b:=b) (c:=c) (v:=v) hL).mono ?_;rintro e w' ⟨rfl,hb⟩;refine ⟨[.bool (dV k a b c v)],fun _=>none,rfl,⟨hb.os,hb.tape,hb.output,hb.size,fun i hi _=>hb.block i hi⟩,fun _ _ h=>(by cases h),fun _ _ h=>(by cases h),?_⟩;exact ⟨_,rfl,rfl,fun b hb=>by cases hb⟩
end
section
set_option maxHeartbeats 4000000
def OI:Nat->Option LoopGen
 | 3000081=>some cY
 | 8204000001=>some cY
 | _=>none
def fm (s:ah) (e:Int):ah×Int×Int:=(s,0,e)
def LA:Spec:={ Ts:=[aH,ty_I],Rs:=[.dat aH,.dat bi,.dat ty_I],al:=true,pre:=fun _=>True,F:=fun ((s,e):ah×Int)=>fm s e }
def DJ:Prop :=
  ∀ (x:(List Int×List Int×List (Int×Int)×List (Int×Bool×Int))×Int),(oT x.1)/\ak .i64 x.2->True->x.1=(fm x.1 x.2).1/\0=(fm x.1 x.2).2.1/\x.2=(fm x.1 x.2).2.2/\True
theorem IX:DJ:=by
 unfold DJ;intro ⟨s,e⟩ _ _;exact ⟨by first | exact trivial | rfl,by first | exact trivial | rfl,by first | exact trivial | rfl,trivial⟩
theorem Mi:LA.ok Tryz.prog 61:=aD (ann:=cF) ap Tryz.func61 (by kernel_rfl) IX
def gz (s:ah) (n e:Int):ah×Int×Int:=(s,IntKind.u64.wrap n,e)
def F8:Spec:={ Ts:=[aH,ty_I,ty_I],Rs:=[.dat aH,.dat bi,.dat ty_I],al:=true,pre:=fun _=>True,F:=fun ((s,n,e):ah×Int×Int)=>gz s n e }
def vC:Prop :=
  ∀ (x:(List Int×List Int×List (Int×Int)×List (Int×Bool×Int))×Int×Int),(oT x.1)/\ak .i64 x.2.1/\ak .i64 x.2.2->True->x.1=(gz x.1 x.2.1 x.2.2).1/\IntKind.u64.wrap x.2.1=(gz x.1 x.2.1 x.2.2).2.1/\x.2.2=(gz x.1 x.2.1 x.2.2).2.2/\True
theorem Ck:vC:=by
 unfold vC;intro ⟨s,n,e⟩ _ _;exact ⟨by first | exact trivial | rfl,by first | exact trivial | rfl,by first | exact trivial | rfl,trivial⟩
theorem GL:F8.ok Tryz.prog 59:=aD (ann:=cF) ap Tryz.func59 (by kernel_rfl) Ck
def jr (s:ah) (v e:Int):ah×Int×Int:=if e≠0 then (ay,0,e) else (s,v,0)
def LB:Spec:={ Ts:=[aH,bi,ty_I],Rs:=[.dat aH,.dat bi,.dat ty_I],al:=true,pre:=fun _=>True,F:=fun ((s,v,e):ah×Int×Int)=>jr s v e }
def DK:Prop :=
  ∀ (x:(List Int×List Int×List (Int×Int)×List (Int×Bool×Int))×Int×Int),(oT x.1)/\ak .u64 x.2.1/\ak .i64 x.2.2->True->(decide (x.2.2≠0)=true->(([]:List Int),([]:List Int),([]:List (Int×Int)),([]:List (Int×Bool×Int)))=(jr x.1 x.2.1 x.2.2).1/\0=(jr x.1 x.2.1 x.2.2).2.1/\x.2.2=(jr x.1 x.2.1 x.2.2).2.2/\True)/\(decide (x.2.2≠0)=false->∀ (_:Array Value),True/\True/\True/\x.1.2.1=x.1.2.1/\x.1.2.2.1=x.1.2.2.1/\x.1.2.2.1=x.1.2.2.1/\x.1.2.2.2=x.1.2.2.2/\x.1.2.2.2=x.1.2.2.2/\x.1.2.2.2=x.1.2.2.2/\True/\x.1=(jr x.1 x.2.1 x.2.2).1/\x.2.1=(jr x.1 x.2.1 x.2.2).2.1/\0=(jr x.1 x.2.1 x.2.2).2.2/\True)
theorem IY:DK:=by
 unfold DK;intro ⟨s,v,e⟩ _ _;simp only;unfold jr;refine ⟨fun h=>?_,fun h=>?_⟩
 ·rw [if_pos (tM h)];exact ⟨rfl,rfl,rfl,trivial⟩
 ·rw [if_neg (uZ h)];exact fun _=>⟨by first | exact trivial | rfl,by first | exact trivial | rfl,by first | exact trivial | rfl,by first | exact trivial | rfl,by first | exact trivial | rfl,by first | exact trivial | rfl,by first | exact trivial | rfl,by first | exact trivial | rfl,by first | exact trivial | rfl,by first | exact trivial | rfl,by first | exact trivial | rfl,by first | exact trivial | rfl,by first | exact trivial | rfl,trivial⟩
theorem Mj:LB.ok Tryz.prog 65:=aD (ann:=OI) (ae bK (ae cg (ae bX (ae bL ap)))) Tryz.func65 (by kernel_rfl) IY
theorem Im (s:ah) (v e:Int):jr s (if e≠0 then 0 else v) e=if e≠0 then (ay,0,e) else (s,v,0):=by
 unfold jr;by_cases h:e≠0
 ·rw [if_pos h,if_pos h]
 ·rw [if_neg h,if_neg h,if_neg h]
theorem mF {α β γ:Type} {x y:α×β×γ} (h:x=y):x.1=y.1/\x.2.1=y.2.1/\x.2.2=y.2.2/\True:=by subst h; exact ⟨rfl,rfl,rfl,trivial⟩
def O6:Spec:={ Ts:=[aH,pO],Rs:=[.dat aH,.dat bi,.dat ty_I],al:=true,pre:=fun _=>True,F:=fun ((s,k,a,b,c,v):ah×Int×Int×Int×Int×Int)=>bv s k a b c v }
def LT:Prop :=
  ∀ (x:(List Int×List Int×List (Int×Int)×List (Int×Bool×Int))×Int×Int×Int×Int×Int),(fun (v7:type_of% (fL x.1 x.2.2.2.2.2))=>(fun (v6:type_of% (ja x.1 x.2.2.1))=>(fun (v5:type_of% (jV x.1 x.2.2.2.2.2 x.2.2.1))=>(fun (v4:type_of% (j7 x.1 x.2.2.1 x.2.2.2.1 x.2.2.2.2.2))=>(fun (v3:type_of% (ld x.1 x.2.2.1 x.2.2.2.1 x.2.2.2.2.1))=>(fun (v2:type_of% (lj x.1 x.2.2.1 x.2.2.2.1 x.2.2.2.2.1))=>(fun (v1:type_of% (bf x.1 x.2.2.1 (x.2.2.2.1,x.2.2.2.2.1,IntKind.i64.wrap (x.2.2.2.2.2 % 65536),false)))=>(fun (v0:type_of% (bv x.1 x.2.1 x.2.2.1 x.2.2.2.1 x.2.2.2.2.1 x.2.2.2.2.2))=>(oT x.1)/\ak .i64 x.2.1/\ak .i64 x.2.2.1/\ak .i64 x.2.2.2.1/\ak .i64 x.2.2.2.2.1/\ak .u64 x.2.2.2.2.2->True->True/\((!dV x.2.1 x.2.2.1 x.2.2.2.1 x.2.2.2.2.1 x.2.2.2.2.2)=true->(([]:List Int),([]:List Int),([]:List (Int×Int)),([]:List (Int×Bool×Int)))=v0.1/\0=v0.2.1/\1=v0.2.2/\True)/\((!dV x.2.1 x.2.2.1 x.2.2.2.1 x.2.2.2.2.1 x.2.2.2.2.2)=false->(decide (x.2.1=1)=true->0<=x.2.2.2.2.2/\(0:Int)<65536/\True/\(v1.2.1=true->v1.1=v0.1/\1=v0.2.1/\v1.2.2=v0.2.2/\True)/\(v1.2.1=false->v1.1=v0.1/\0=v0.2.1/\v1.2.2=v0.2.2/\True))/\(decide (x.2.1=1)=false->(decide (x.2.1=2)=true->True/\True/\(gz (bE x.1).1 (bE x.1).2.1 (bE x.1).2.2).1=v0.1/\(gz (bE x.1).1 (bE x.1).2.1 (bE x.1).2.2).2.1=v0.2.1/\(gz (bE x.1).1 (bE x.1).2.1 (bE x.1).2.2).2.2=v0.2.2/\True)/\(decide (x.2.1=2)=false->(decide (x.2.1=3)=true->True/\True/\(fm v2.1 v2.2).1=v0.1/\(fm v2.1 v2.2).2.1=v0.2.1/\(fm v2.1 v2.2).2.2=v0.2.2/\True)/\(decide (x.2.1=3)=false->(decide (x.2.1=4)=true->True/\True/\(fm v3.1 v3.2).1=v0.1/\(fm v3.1 v3.2).2.1=v0.2.1/\(fm v3.1 v3.2).2.2=v0.2.2/\True)/\(decide (x.2.1=4)=false->(decide (x.2.1=5)=true->True/\True/\(jr x.1 (if aP x.1 x.2.2.1 x.2.2.2.1≠0 then (0:Int) else x.1.1.getD (bO x.1 (ax x.1 x.2.2.1) x.2.2.2.1).toNat 0) (aP x.1 x.2.2.1 x.2.2.2.1)).1=v0.1/\(jr x.1 (if aP x.1 x.2.2.1 x.2.2.2.1≠0 then (0:Int) else x.1.1.getD (bO x.1 (ax x.1 x.2.2.1) x.2.2.2.1).toNat 0) (aP x.1 x.2.2.1 x.2.2.2.1)).2.1=v0.2.1/\(jr x.1 (if aP x.1 x.2.2.1 x.2.2.2.1≠0 then (0:Int) else x.1.1.getD (bO x.1 (ax x.1 x.2.2.1) x.2.2.2.1).toNat 0) (aP x.1 x.2.2.1 x.2.2.2.1)).2.2=v0.2.2/\True)/\(decide (x.2.1=5)=false->(decide (x.2.1=6)=true->True/\True/\(fm v4.1 v4.2).1=v0.1/\(fm v4.1 v4.2).2.1=v0.2.1/\(fm v4.1 v4.2).2.2=v0.2.2/\True)/\(decide (x.2.1=6)=false->(decide (x.2.1=7)=true->True/\True/\(gz v6.1 v6.2.1 v6.2.2).1=v0.1/\(gz v6.1 v6.2.1 v6.2.2).2.1=v0.2.1/\(gz v6.1 v6.2.1 v6.2.2).2.2=v0.2.2/\True)/\(decide (x.2.1=7)=false->(decide (x.2.1=8)=true->True/\True/\(fm (cZ x.1 x.2.2.1).1 (cZ x.1 x.2.2.1).2).1=v0.1/\(fm (cZ x.1 x.2.2.1).1 (cZ x.1 x.2.2.1).2).2.1=v0.2.1/\(fm (cZ x.1 x.2.2.1).1 (cZ x.1 x.2.2.1).2).2.2=v0.2.2/\True)/\(decide (x.2.1=8)=false->(decide (x.2.1=9)=true->True/\True/\(jr x.1 (if cr x.1 x.2.2.1 x.2.2.2.1≠0 then (0:Int) else x.1.1.getD (bO x.1 x.2.2.1 x.2.2.2.1).toNat 0) (cr x.1 x.2.2.1 x.2.2.2.1)).1=v0.1/\(jr x.1 (if cr x.1 x.2.2.1 x.2.2.2.1≠0 then (0:Int) else x.1.1.getD (bO x.1 x.2.2.1 x.2.2.2.1).toNat 0) (cr x.1 x.2.2.1 x.2.2.2.1)).2.1=v0.2.1/\(jr x.1 (if cr x.1 x.2.2.1 x.2.2.2.1≠0 then (0:Int) else x.1.1.getD (bO x.1 x.2.2.1 x.2.2.2.1).toNat 0) (cr x.1 x.2.2.1 x.2.2.2.1)).2.2=v0.2.2/\True)/\(decide (x.2.1=9)=false->(decide (x.2.1=10)=true->True/\(fF x.1 x.2.2.1).1=v0.1/\(fF x.1 x.2.2.1).2.1=v0.2.1/\(fF x.1 x.2.2.1).2.2=v0.2.2/\True)/\(decide (x.2.1=10)=false->(decide (x.2.1=11)=true->True/\True/\(fm v5.1 v5.2).1=v0.1/\(fm v5.1 v5.2).2.1=v0.2.1/\(fm v5.1 v5.2).2.2=v0.2.2/\True)/\(decide (x.2.1=11)=false->(decide (x.2.1=12)=true->True/\True/\(fm v7.1 v7.2).1=v0.1/\(fm v7.1 v7.2).2.1=v0.2.1/\(fm v7.1 v7.2).2.2=v0.2.2/\True)/\(decide (x.2.1=12)=false->True/\True/\(fm (fu x.1 x.2.2.1).1 (fu x.1 x.2.2.1).2).1=v0.1/\(fm (fu x.1 x.2.2.1).1 (fu x.1 x.2.2.1).2).2.1=v0.2.1/\(fm (fu x.1 x.2.2.1).1 (fu x.1 x.2.2.1).2).2.2=v0.2.2/\True)))))))))))))) (bv x.1 x.2.1 x.2.2.1 x.2.2.2.1 x.2.2.2.2.1 x.2.2.2.2.2)) (bf x.1 x.2.2.1 (x.2.2.2.1,x.2.2.2.2.1,IntKind.i64.wrap (x.2.2.2.2.2 % 65536),false))) (lj x.1 x.2.2.1 x.2.2.2.1 x.2.2.2.2.1)) (ld x.1 x.2.2.1 x.2.2.2.1 x.2.2.2.2.1)) (j7 x.1 x.2.2.1 x.2.2.2.1 x.2.2.2.2.2)) (jV x.1 x.2.2.2.2.2 x.2.2.1)) (ja x.1 x.2.2.1)) (fL x.1 x.2.2.2.2.2)
theorem Nx:LT:=by
 unfold LT;intro ⟨s,k,a,b,c,v⟩ ⟨⟨⟨_,hw⟩,_⟩,_,_,_,_,hv⟩ _;simp only at hw hv |-;simp only [ak] at hv;refine ⟨trivial,fun h=>?_,fun h=>?_⟩
 ·have hb:cm k a b c v=true:=by simpa [dV] using h
  have hD:bv s k a b c v=(ay,0,1):=by unfold bv; rw [if_pos hb]
  rw [hD];exact ⟨rfl,rfl,rfl,trivial⟩
 have hb:cm k a b c v=false:=by simpa [dV] using h
 have hk:1<=k/\k<=13:=by
  unfold cm at hb;simp only [Rn,Rh] at hb;omega
 refine ⟨fun q1=>?_,fun q1=>⟨fun q2=>?_,fun q2=>⟨fun q3=>?_,fun q3=>⟨fun q4=>?_,fun q4=>⟨fun q5=>?_,fun q5=>⟨fun q6=>?_,fun q6=>⟨fun q7=>?_,fun q7=>⟨fun q8=>?_,fun q8=>⟨fun q9=>?_,fun q9=>⟨fun q10=>?_,fun q10=>⟨fun q11=>?_,fun q11=>⟨fun q12=>?_,fun q12=>?_⟩⟩⟩⟩⟩⟩⟩⟩⟩⟩⟩⟩
 ·obtain rfl:=tM q1;rw [Qc,jT (by omega) (by omega)];refine ⟨by omega,by omega,trivial,fun q=>?_,fun q=>?_⟩
  ·exact ⟨rfl,by rw [q]; rfl,rfl,trivial⟩
  ·exact ⟨rfl,by rw [q]; rfl,rfl,trivial⟩
 ·obtain rfl:=tM q2;obtain ⟨rfl,rfl,rfl,rfl⟩:a=0/\b=0/\c=0/\v=0:=by simpa [cm,SU] using hb
  rw [Qb];refine ⟨trivial,trivial,mF ?_⟩;unfold gz;rw [BO hw]
 ·obtain rfl:=tM q3;obtain rfl:v=0:=by simpa [cm] using hb
  rw [Qa];exact ⟨trivial,trivial,mF rfl⟩
 ·obtain rfl:=tM q4;obtain rfl:v=0:=by simpa [cm] using hb
  rw [P9];exact ⟨trivial,trivial,mF rfl⟩
 ·obtain rfl:=tM q5;obtain ⟨rfl,rfl⟩:c=0/\v=0:=by simpa [cm] using hb
  rw [P8];exact ⟨trivial,trivial,mF (Im ..)⟩
 ·obtain rfl:=tM q6;obtain rfl:c=0:=by simpa [cm] using hb
  rw [P7];exact ⟨trivial,trivial,mF rfl⟩
 ·obtain rfl:=tM q7;obtain ⟨rfl,rfl,rfl⟩:b=0/\c=0/\v=0:=by simpa [cm,SU] using hb
  rw [P6];refine ⟨trivial,trivial,mF ?_⟩;unfold gz;rw [LZ hw]
 ·obtain rfl:=tM q8;obtain ⟨rfl,rfl,rfl⟩:b=0/\c=0/\v=0:=by simpa [cm,SU] using hb
  rw [P5];exact ⟨trivial,trivial,mF rfl⟩
 ·obtain rfl:=tM q9;obtain ⟨rfl,rfl⟩:c=0/\v=0:=by simpa [cm] using hb
  rw [P4];exact ⟨trivial,trivial,mF (Im ..)⟩
 ·obtain rfl:=tM q10;obtain ⟨rfl,rfl,rfl⟩:b=0/\c=0/\v=0:=by simpa [cm,SU] using hb
  rw [PF];exact ⟨trivial,mF rfl⟩
 ·obtain rfl:=tM q11;obtain ⟨rfl,rfl⟩:b=0/\c=0:=by simpa [cm] using hb
  rw [PE];exact ⟨trivial,trivial,mF rfl⟩
 ·obtain rfl:=tM q12;obtain ⟨rfl,rfl,rfl⟩:a=0/\b=0/\c=0:=by simpa [cm,SU] using hb
  rw [PD];exact ⟨trivial,trivial,mF rfl⟩
 ·have n1:=uZ q1;have n2:=uZ q2;have n3:=uZ q3;have n4:=uZ q4;have n5:=uZ q5;have n6:=uZ q6;have n7:=uZ q7;have n8:=uZ q8;have n9:=uZ q9;have n10:=uZ q10;have n11:=uZ q11;have n12:=uZ q12;obtain rfl:k=13:=by omega
  obtain ⟨rfl,rfl,rfl⟩:b=0/\c=0/\v=0:=by simpa [cm,SU] using hb
  rw [PC];exact ⟨trivial,trivial,mF rfl⟩
theorem Mk:O6.ok Tryz.prog 15:=aD (ann:=cF) (ae Mf (ae JZ (ae oG (ae GL (ae JV (ae Mi (ae JU (ae Mc (ae Mj (ae JW (ae JX (ae DY (ae JY (ae GH (ae JT (ae GG (ae GI ap))))))))))))))))) Tryz.func15 (by kernel_rfl) Nx
end
section
def CZ:Spec:={ Ts:=[bi,bi],Rs:=[.dat bi,.dat bi],pre:=fun ((x,y):Int×Int)=>x=1/\y<=1000,F:=fun ((_,y):Int×Int)=>((0,y):Int×Int) }
def DL:Prop :=
  ∀ (x:Int×Int),ak .u64 x.1/\ak .u64 x.2->x.1=1/\x.2<=1000->(0:Int)<=32/\32<(↑IntKind.u64.bits:Int)/\(0:Int)<=32/\32<(↑IntKind.u64.bits:Int)/\ak .u64 ((↑(x.1.toNat &&& Int.toNat 4294967295):Int) * (↑(x.2.toNat &&& Int.toNat 4294967295):Int))/\ak .u64 (x.1 / 2 ^ Int.toNat 32 * (↑(x.2.toNat &&& Int.toNat 4294967295):Int))/\(0:Int)<=32/\32<(↑IntKind.u64.bits:Int)/\ak .u64 (x.1 / 2 ^ Int.toNat 32 * (↑(x.2.toNat &&& Int.toNat 4294967295):Int)+(↑(x.1.toNat &&& Int.toNat 4294967295):Int) * (↑(x.2.toNat &&& Int.toNat 4294967295):Int) / 2 ^ Int.toNat 32)/\(0:Int)<=32/\32<(↑IntKind.u64.bits:Int)/\ak .u64 ((↑(x.1.toNat &&& Int.toNat 4294967295):Int) * (x.2 / 2 ^ Int.toNat 32))/\ak .u64 ((↑((x.1 / 2 ^ Int.toNat 32 * (↑(x.2.toNat &&& Int.toNat 4294967295):Int)+(↑(x.1.toNat &&& Int.toNat 4294967295):Int) * (↑(x.2.toNat &&& Int.toNat 4294967295):Int) / 2 ^ Int.toNat 32).toNat &&& Int.toNat 4294967295):Int)+(↑(x.1.toNat &&& Int.toNat 4294967295):Int) * (x.2 / 2 ^ Int.toNat 32))/\ak .u64 (x.1 / 2 ^ Int.toNat 32 * (x.2 / 2 ^ Int.toNat 32))/\ak .u64 (x.1 / 2 ^ Int.toNat 32 * (x.2 / 2 ^ Int.toNat 32)+(x.1 / 2 ^ Int.toNat 32 * (↑(x.2.toNat &&& Int.toNat 4294967295):Int)+(↑(x.1.toNat &&& Int.toNat 4294967295):Int) * (↑(x.2.toNat &&& Int.toNat 4294967295):Int) / 2 ^ Int.toNat 32) / 2 ^ Int.toNat 32)/\(0:Int)<=32/\32<(↑IntKind.u64.bits:Int)/\ak .u64 (x.1 / 2 ^ Int.toNat 32 * (x.2 / 2 ^ Int.toNat 32)+(x.1 / 2 ^ Int.toNat 32 * (↑(x.2.toNat &&& Int.toNat 4294967295):Int)+(↑(x.1.toNat &&& Int.toNat 4294967295):Int) * (↑(x.2.toNat &&& Int.toNat 4294967295):Int) / 2 ^ Int.toNat 32) / 2 ^ Int.toNat 32+((↑((x.1 / 2 ^ Int.toNat 32 * (↑(x.2.toNat &&& Int.toNat 4294967295):Int)+(↑(x.1.toNat &&& Int.toNat 4294967295):Int) * (↑(x.2.toNat &&& Int.toNat 4294967295):Int) / 2 ^ Int.toNat 32).toNat &&& Int.toNat 4294967295):Int)+(↑(x.1.toNat &&& Int.toNat 4294967295):Int) * (x.2 / 2 ^ Int.toNat 32)) / 2 ^ Int.toNat 32)/\ak .u64 (x.1 * x.2)/\x.1 / 2 ^ Int.toNat 32 * (x.2 / 2 ^ Int.toNat 32)+(x.1 / 2 ^ Int.toNat 32 * (↑(x.2.toNat &&& Int.toNat 4294967295):Int)+(↑(x.1.toNat &&& Int.toNat 4294967295):Int) * (↑(x.2.toNat &&& Int.toNat 4294967295):Int) / 2 ^ Int.toNat 32) / 2 ^ Int.toNat 32+((↑((x.1 / 2 ^ Int.toNat 32 * (↑(x.2.toNat &&& Int.toNat 4294967295):Int)+(↑(x.1.toNat &&& Int.toNat 4294967295):Int) * (↑(x.2.toNat &&& Int.toNat 4294967295):Int) / 2 ^ Int.toNat 32).toNat &&& Int.toNat 4294967295):Int)+(↑(x.1.toNat &&& Int.toNat 4294967295):Int) * (x.2 / 2 ^ Int.toNat 32)) / 2 ^ Int.toNat (32:Int)=0/\x.1 * x.2=x.2/\True
theorem IZ:DL:=by
 unfold DL;intro ⟨x,y⟩ ⟨hx,hy⟩ ⟨h1,h2⟩;simp only [ak] at hx hy h1 h2 |-;subst h1;have e1:(((1:Int).toNat &&& Int.toNat 4294967295:Nat):Int)=1:=by decide
 have e2:((y.toNat &&& Int.toNat 4294967295:Nat):Int)=y:=by
  have h:=nn hy.1 32;have h3:Int.toNat 4294967295=2 ^ 32 - 1:=by decide
  rw [h3,h];omega
 have e3:(1:Int) / 2 ^ Int.toNat 32=0:=by decide
 have e4:y / 2 ^ Int.toNat 32=0:=by
  have:(2:Int) ^ Int.toNat 32=4294967296:=by decide
  rw [this]; omega
 have e5:(0:Int) / 2 ^ Int.toNat 32=0:=by decide
 have e6:(((0:Int).toNat &&& Int.toNat 4294967295:Nat):Int)=0:=by decide
 simp only [e1,e2,e3,e4,Int.one_mul,Int.zero_mul,Int.mul_zero,Int.add_zero,e5,e6];have eb:((IntKind.u64.bits:Nat):Int)=64:=rfl;rw [eb];simp only [SI];omega
theorem Ml:CZ.ok Tryz.prog 201:=aD (ann:=cF) ap Tryz.func201 (by kernel_rfl) IZ
def O7:Spec:=CZ
def LU:Prop :=
  ∀ (x:Int×Int),ak .u64 x.1/\ak .u64 x.2->x.1=1/\x.2<=1000->(false=true->False)/\(false=false->(x.1=1/\x.2<=1000)/\(0:Int)=0/\x.2=x.2/\True)
theorem Ny:LU:=by
 unfold LU;intro ⟨x,y⟩ _ ⟨h1,h2⟩;exact ⟨fun h=>(by cases h),fun _=>⟨⟨h1,h2⟩,rfl,rfl,trivial⟩⟩
theorem Po:O7.ok Tryz.prog 136:=aD (ann:=cF) (ae Ml ap) Tryz.func136 (by kernel_rfl) Ny
theorem AS {v n:Int} (h:0<n):List.take 1 [v]++List.drop (0+1) (List.replicate n.toNat 0)=List.replicate (1:Int).toNat v++List.replicate (n - 1).toNat 0:=by
 rw [List.drop_replicate,show n.toNat - (0+1)=(n - 1).toNat by omega];rfl
theorem Dw {v n k:Int} {row:List Int} (k0:0<=k) (kn:k<=n) (hrow:row=List.replicate k.toNat v++List.replicate (n - k).toNat 0) {m:Nat} (hm:m=min k.toNat (n - k).toNat) :
  row.take k.toNat++((row.take k.toNat).take m++row.drop (k.toNat+m))=List.replicate (k+m).toNat v++List.replicate (n - (k+m)).toNat 0:=by
 have h1:row.take k.toNat=List.replicate k.toNat v:=by
  rw [hrow,QY (by simp),QG (by simp)]
 have h2:row.drop (k.toNat+m)=List.replicate (n - (k+m)).toNat 0:=by
  rw [hrow,Sh,QX (by simp),Q0,List.drop_replicate,QV];congr 1;omega
 rw [h1,h2,List.take_replicate,<- List.append_assoc,List.replicate_append_replicate];congr 2;omega
def HC:Nat->Option LoopGen
 | 8=>some { wr:=[7],rd:=[.dat 0 (.arr ty_I),.dat 1 ty_I],A:=fun ((xs,n):List Int×Int)=>{ cs:=[.own 7 3 ty_I,.dat 8 ty_I],inv:=fun ((row,k):List Int×Int)=>0<=k/\k<=n/\(0<n->0<k)/\row=List.replicate k.toNat (xs.getD 0 0)++List.replicate (n - k).toNat 0,mu:=fun ((_,k):List Int×Int)=>(n - k).toNat } }
 | _=>none
def F7:Spec:={ Ts:=[.arr ty_I,ty_I],Rs:=[.own 3 ty_I],pre:=fun ((xs,n):List Int×Int)=>xs.length=1/\0<=n/\n<=1000,F:=fun ((xs,n):List Int×Int)=>List.replicate n.toNat (xs.getD 0 0) }
def vB:Prop :=
  ∀ (x:List Int×Int),(fun (v1:type_of% (IntKind.i64.wrap (IntKind.u64.wrap x.2)))=>(x.1.length * 8<=aK/\∀ (x_1:Int),x_1∈x.1->ak .i64 x_1)/\ak .i64 x.2->x.1.length=1/\0<=x.2/\x.2<=1000->(decide (x.2<0)=true->False)/\(decide (x.2<0)=false->(IntKind.u64.wrap (x.1.length:Int)=1/\IntKind.u64.wrap x.2<=1000)/\((decide ((0:Int)<0)||decide (9223372036854775807<IntKind.u64.wrap x.2))=true->False)/\((decide ((0:Int)<0)||decide (9223372036854775807<IntKind.u64.wrap x.2))=false->0<=IntKind.i64.wrap (IntKind.u64.wrap x.2)/\v1.toNat * 8<=aK/\0+(List.replicate v1.toNat (0:Int)).length<=(List.replicate v1.toNat (0:Int)).length/\(0<=(↑(min x.1.length (List.replicate v1.toNat (0:Int)).length):Int)/\(↑(min x.1.length (List.replicate v1.toNat (0:Int)).length):Int)<=x.2/\(0<x.2->0<(↑(min x.1.length (List.replicate v1.toNat (0:Int)).length):Int))/\List.take 0 (List.replicate v1.toNat (0:Int))++(List.take (min x.1.length (List.replicate v1.toNat (0:Int)).length) x.1++List.drop (0+min x.1.length (List.replicate v1.toNat (0:Int)).length) (List.replicate v1.toNat (0:Int)))=List.replicate (↑(min x.1.length (List.replicate v1.toNat (0:Int)).length):Int).toNat (x.1.getD 0 0)++List.replicate (x.2 - (↑(min x.1.length (List.replicate v1.toNat (0:Int)).length):Int)).toNat (0:Int))/\∀ (x_1:List Int×Int),(fun (v0:type_of% (min (List.take x_1.2.toNat (List.drop 0 x_1.1)).length (x_1.1.length - x_1.2.toNat)))=>0<=x_1.2/\x_1.2<=x.2/\(0<x.2->0<x_1.2)/\x_1.1=List.replicate x_1.2.toNat (x.1.getD 0 0)++List.replicate (x.2 - x_1.2).toNat (0:Int)->(decide (x_1.2<(x_1.1.length:Int))=true->0<=x_1.2/\x_1.2<=(x_1.1.length:Int)/\0<=x_1.2/\x_1.2<=(x_1.1.length:Int)/\0+x_1.2.toNat<=x_1.1.length/\x_1.2.toNat+(x_1.1.length - x_1.2.toNat)<=x_1.1.length/\x_1.2=x_1.2/\ak .i64 (x_1.2+(↑v0:Int))/\(0<=x_1.2+(↑v0:Int)/\x_1.2+(↑v0:Int)<=x.2/\(0<x.2->0<x_1.2+(↑v0:Int))/\List.take x_1.2.toNat x_1.1++(List.take v0 (List.take x_1.2.toNat (List.drop 0 x_1.1))++List.drop (x_1.2.toNat+min (List.take x_1.2.toNat (List.drop 0 x_1.1)).length (x_1.1.length - x_1.2.toNat)) x_1.1)=List.replicate (x_1.2+(↑v0:Int)).toNat (x.1.getD 0 0)++List.replicate (x.2 - (x_1.2+(↑v0:Int))).toNat (0:Int))/\(x.2 - (x_1.2+(↑v0:Int))).toNat<(x.2 - x_1.2).toNat)/\(decide (x_1.2<(x_1.1.length:Int))=false->x_1.1=List.replicate x.2.toNat (x.1.getD 0 0)/\True)) (min (List.take x_1.2.toNat (List.drop 0 x_1.1)).length (x_1.1.length - x_1.2.toNat))))) (IntKind.i64.wrap (IntKind.u64.wrap x.2))
theorem Cj:vB:=by
 unfold vB;intro ⟨xs,n⟩ _ ⟨h1,h2,h3⟩;simp only at h1 h2 h3 |-
 obtain ⟨v,rfl⟩:∃ v,xs=[v]:=by
  match xs,h1 with
  | [v],_=>exact ⟨v,rfl⟩
 have e1:IntKind.u64.wrap n=n:=eY h2 (by omega);have e2:IntKind.i64.wrap n=n:=jT (by omega) (by omega);have e3:IntKind.u64.wrap (([v].length:Nat):Int)=1:=eY (by simp) (by simp);have e4:[v].getD 0 0=v:=rfl;rw [e1,e2,e3,e4];refine ⟨fun h=>absurd (tM h) (by omega),fun _=>⟨⟨rfl,by omega⟩,fun h=>?_,fun _=>⟨h2,by unfold aK; omega,by omega,?_,fun ⟨row,k⟩ ⟨k0,kn,kp,kr⟩=>⟨fun hlt=>?_,fun hge=>?_⟩⟩⟩⟩
 ·simp only [Ri,QP] at h;omega
 ·by_cases hn:0<n
  ·have hm:min [v].length (List.replicate n.toNat (0:Int)).length=1:=by
    rw [QV,Rv]; omega
   rw [hm];refine ⟨by omega,by omega,by omega,?_⟩;rw [R1,Q0];exact AS hn
  ·have hz:n=0:=by omega
   subst hz;simp
 ·simp only at k0 kn kp kr hlt |-;have hl:(row.length:Int)=n:=by rw [kr]; simp; omega
  have hlt:=tM hlt;have htl:(List.take k.toNat row).length=k.toNat:=by rw [QD]; omega
  have hmin:min (List.take k.toNat row).length (row.length - k.toNat)=min k.toNat (n - k).toNat:=by rw [htl]; omega
  rw [SJ,hmin,Dw k0 kn kr rfl];simp only [ak];exact ⟨by omega,by omega,by omega,by omega,by omega,by omega,by first | rfl | trivial,by omega,⟨by omega,by omega,by omega,by first | rfl | trivial⟩,by omega⟩
 ·simp only at k0 kn kp kr hge |-;have hl:(row.length:Int)=n:=by rw [kr]; simp; omega
  have hge:=uZ hge;have hk:k=n:=by omega
  refine ⟨?_,trivial⟩;rw [kr,hk];simp
theorem GK:F7.ok Tryz.prog 57:=aD (ann:=HC) (ae Po ap) Tryz.func57 (by kernel_rfl) Cj
def kc (w:Int):List Int:=if 0<w then (List.replicate w.toNat 0).set 0 (aC (0,w - 1,0,true)) else List.replicate w.toNat 0
def au (w r h:Int):ah×Int:=if w<0\/256<w then (([],[],[],[]),4) else if r<0\/32<r then (([],[],[],[]),4) else if h<0\/16<h then (([],[],[],[]),4) else ((kc w,List.replicate r.toNat (-1),[],List.replicate h.toNat (0,false,0)),0)
def Lt:Spec:={ Ts:=[ty_I,ty_I,ty_I],Rs:=[.dat aH,.dat ty_I],al:=true,pre:=fun _=>True,F:=fun ((w,r,h):Int×Int×Int)=>au w r h }
def DD:Prop :=
  ∀ (x:Int×Int×Int),ak .i64 x.1/\ak .i64 x.2.1/\ak .i64 x.2.2->True->True/\(decide ((qH x.1).2≠0)=true->(([]:List Int),([]:List Int),([]:List (Int×Int)),([]:List (Int×Bool×Int)))=(au x.1 x.2.1 x.2.2).1/\(qH x.1).2=(au x.1 x.2.1 x.2.2).2/\True)/\(decide ((qH x.1).2≠0)=false->((decide (x.2.1<0)||decide (32<x.2.1))=true->(([]:List Int),([]:List Int),([]:List (Int×Int)),([]:List (Int×Bool×Int)))=(au x.1 x.2.1 x.2.2).1/\4=(au x.1 x.2.1 x.2.2).2/\True)/\((decide (x.2.1<0)||decide (32<x.2.1))=false->True/\(decide ((d5 x.2.2).2≠0)=true->(([]:List Int),([]:List Int),([]:List (Int×Int)),([]:List (Int×Bool×Int)))=(au x.1 x.2.1 x.2.2).1/\(d5 x.2.2).2=(au x.1 x.2.1 x.2.2).2/\True)/\(decide ((d5 x.2.2).2≠0)=false->(decide (0<x.1)=true->ak .i64 (x.1 - 1)/\True/\(0:Int)<=0/\0<(↑(qH x.1).1.length:Int)/\Int.toNat 0<(qH x.1).1.length/\([(-1)].length=1/\0<=x.2.1/\x.2.1<=1000)/\((qH x.1).1.set (Int.toNat 0) (if af (0,x.1 - 1,0,true)=0 then aC (0,x.1 - 1,0,true) else (0:Int)),List.replicate x.2.1.toNat ([(-1)].getD 0 0),([]:List (Int×Int)),(d5 x.2.2).1)=(au x.1 x.2.1 x.2.2).1/\0=(au x.1 x.2.1 x.2.2).2/\True)/\(decide (0<x.1)=false->([(-1)].length=1/\0<=x.2.1/\x.2.1<=1000)/\((qH x.1).1,List.replicate x.2.1.toNat ([(-1)].getD 0 0),([]:List (Int×Int)),(d5 x.2.2).1)=(au x.1 x.2.1 x.2.2).1/\0=(au x.1 x.2.1 x.2.2).2/\True))))
theorem IR:DD:=by
 unfold DD;intro ⟨w,r,h⟩ _ _;simp only;have hF:au w r h=if w<0\/256<w then (([],[],[],[]),4) else if r<0\/32<r then (([],[],[],[]),4) else if h<0\/16<h then (([],[],[],[]),4) else ((kc w,List.replicate r.toNat (-1),[],List.replicate h.toNat (0,false,0)),0):=rfl
 have hW:qH w=if w<0\/256<w then ([],4) else (List.replicate w.toNat 0,0):=rfl
 have hH:d5 h=if h<0\/16<h then ([],4) else (List.replicate h.toNat (0,false,0),0):=rfl
 by_cases cw:w<0\/256<w
 ·rw [if_pos cw] at hW hF;rw [hW,hF];exact ⟨trivial,fun _=>⟨by first | rfl | trivial,by first | rfl | trivial,trivial⟩,fun hn=>by simp at hn⟩
 rw [if_neg cw] at hW hF;rw [hW];refine ⟨trivial,fun hn=>by simp at hn,fun _=>⟨fun hr=>?_,fun hr=>?_⟩⟩
 ·rw [hF,if_pos (by simpa using hr)];exact ⟨by first | rfl | trivial,by first | rfl | trivial,trivial⟩
 have hr:¬ (r<0\/32<r):=by simpa using hr
 rw [if_neg hr] at hF;by_cases ch:h<0\/16<h
 ·rw [if_pos ch] at hH hF;rw [hH,hF];exact ⟨trivial,fun _=>⟨by first | rfl | trivial,by first | rfl | trivial,trivial⟩,fun hn=>by simp at hn⟩
 rw [if_neg ch] at hH hF;rw [hH,hF];refine ⟨trivial,fun hn=>by simp at hn,fun _=>⟨fun h0=>?_,fun h0=>?_⟩⟩
 ·have h0:=tM h0;have hhf:af (0,w - 1,0,true)=0:=by simp [af,aa]; omega
  rw [if_pos hhf];simp only [ak,QV];refine ⟨by omega,trivial,by omega,by omega,by simp; omega,⟨rfl,by omega,by omega⟩,?_,by first | rfl | trivial,trivial⟩;unfold kc;rw [if_pos h0];rfl
 ·have h0:=uZ h0;refine ⟨⟨rfl,by omega,by omega⟩,?_,by first | rfl | trivial,trivial⟩;unfold kc;rw [if_neg h0];rfl
theorem D0:Lt.ok Tryz.prog 13:=aD (ann:=cF) (ae GD (ae GP (ae jc (ae GK ap)))) Tryz.func13 (by kernel_rfl) IR
end
section
end
section
def Qg (a:List Int) (x:Int):Int:=dw (ac a).1 x
def yh (a:List Int):List Int->Int
 | []=>0
 | x::l=>Qg a x+yh a l
theorem Pv (a:List Int) (x:Int):1<=Qg a x/\Qg a x<=256:=PZ a x
theorem wX (a:List Int):∀ l:List Int,(l.length:Int)<=yh a l/\yh a l<=256 * l.length
 | []=>by simp [yh]
 | x::l=>by
  have:=wX a l;have:=Pv a x;simp only [yh,HN];omega
theorem ER (a:List Int):∀ l:List Int,yh a l=(l.map (Qg a)).sum
 | []=>rfl
 | x::l=>by simp [yh,ER a l]
structure Carr (a o:List Int):Prop where
 nodup:o.Nodup
 isB:∀ x∈o,isB (ac a).1 x=true
 refs:∀ x∈o,∀ v∈bP a x,v=0\/(1<=v/\v<=256/\v - 1∈o)
 head:∀ x∈o,aC (eX a x)=a.getD x.toNat 0
end
section
end
section
def mK (s:ah):List db:=aO false [] (ac (dL s)).1
theorem Right.live {s:ah} (R:Right s):yh s.1 (bN s.1 (iN (cJ s) 256))+iw s=s.1.length/\0<=iw s/\0<=yh s.1 (bN s.1 (iN (cJ s) 256)):=by
 have h:=R.free;have e:yh s.1 (dM s)=((dM s).map (dw (ac s.1).1)).sum:=ER s.1 (dM s);have h2:=wX s.1 (dM s);have h3:=R.gaps.2.1
 have h4:0<=iw s:=by
  unfold iw;generalize aO false [] (ac (dL s)).1=g at *
  have:∀ l:List db,(∀ r∈l,0<=r.1/\1<=r.2/\r.2<=256)->0<=dR l:=fun l=>by
   induction l with
   | nil=>intro _; simp [dR]
   | cons r l ih =>
    intro hl;have:=ih fun x hx=>hl x (by simp [hx])
    have:=hl r (by simp);simp only [dR,Q1,List.sum_cons] at *;omega
  exact this g h3
 rw [R.reached];omega
def kV (s:ah):Int×List db×Int:=if ar s≠0 then (0,[],ar s) else (iw s,mK s,0)
def C2:Spec:={ Ts:=[aH],Rs:=[.dat ty_I,.own 105 jW,.dat ty_I],pre:=fun _=>True,F:=kV }
def sY:Prop :=
  ∀ (x:List Int×List Int×List (Int×Int)×List (Int×Bool×Int)),(oT x)->True->True/\(decide ((bE x).2.2≠0)=true->0=(kV x).1/\([]:List (Int×Int))=(kV x).2.1/\(bE x).2.2=(kV x).2.2/\True)/\(decide ((bE x).2.2≠0)=false->True/\(bE x).2.1=(kV x).1/\(an (bE x).1.1).1=(kV x).2.1/\0=(kV x).2.2/\True)
theorem z6:sY:=by
 unfold sY;intro s ⟨⟨_,hw⟩,_⟩ _;have hC:bE s=if ar s≠0 then (ay,0,ar s) else ((dg s).1,(dg s).2,0):=rfl
 have hF:kV s=if ar s≠0 then (0,[],ar s) else (iw s,mK s,0):=rfl
 by_cases h0:ar s≠0
 ·rw [if_pos h0] at hC hF;rw [hC,hF];exact ⟨trivial,fun _=>⟨by trivial,by trivial,by trivial,trivial⟩,fun h=>absurd h0 (uZ h)⟩
 ·rw [if_neg h0] at hC hF;have R:=go hw (by omega:ar s=0);have e:an (dg s).1.1=(mK s,0):=R.gaps.1;rw [hC,hF];simp only;rw [e];exact ⟨trivial,fun h=>absurd rfl (tM h),fun _=>⟨trivial,by trivial,by trivial,by trivial,trivial⟩⟩
theorem D6:C2.ok Tryz.prog 82:=aD (ann:=cF) (ae oG (ae kQ ap)) Tryz.func82 (by kernel_rfl) z6
def kT (s:ah):Int×Int:=if ar s≠0 then (0,ar s) else (s.1.length - iw s,0)
def C0:Spec:={ Ts:=[aH],Rs:=[.dat ty_I,.dat ty_I],pre:=fun _=>True,F:=kT }
def sX:Prop :=
  ∀ (x:List Int×List Int×List (Int×Int)×List (Int×Bool×Int)),(oT x)->True->True/\(decide ((kV x).2.2≠0)=true->0=(kT x).1/\(kV x).2.2=(kT x).2/\True)/\(decide ((kV x).2.2≠0)=false->ak .i64 ((x.1.length:Int) - (kV x).1)/\(x.1.length:Int) - (kV x).1=(kT x).1/\0=(kT x).2/\True)
theorem zZ:sX:=by
 unfold sX;intro s ⟨⟨_,hw⟩,_⟩ _;have hL:kT s=if ar s≠0 then (0,ar s) else (s.1.length - iw s,0):=rfl
 have hF:kV s=if ar s≠0 then (0,[],ar s) else (iw s,mK s,0):=rfl
 by_cases h0:ar s≠0
 ·rw [if_pos h0] at hL hF;rw [hL,hF];exact ⟨trivial,fun _=>⟨by trivial,by trivial,trivial⟩,fun h=>absurd h0 (uZ h)⟩
 ·rw [if_neg h0] at hL hF;have R:=go hw (by omega:ar s=0);have hl:=R.live;have hal:=R.al;rw [hL,hF];simp only [ak];exact ⟨trivial,fun h=>absurd rfl (tM h),fun _=>⟨by omega,by trivial,by trivial,trivial⟩⟩
theorem D5:C0.ok Tryz.prog 22:=aD (ann:=cF) (ae D6 ap) Tryz.func22 (by kernel_rfl) zZ
end
section
structure Given (G:List Int) (h:List a6):Prop where
 len:h.length<=16
 ok:∀ s∈h,eE s=0
 old:∀ n∈G,∃ (i:Nat) (g:Int) (s:a6),h[i]?=some s/\n=(i:Int)+65536 * g/\g<=s.1
 live:∀ (i:Nat) (s:a6),h[i]?=some s->s.2.1=true->(i:Int)+65536 * s.1∈G
theorem Di:∀ {h:List a6},bz h=0 ↔ ∀ s∈h,eE s=0
 | []=>by simp [bz]
 | s::l=>by
  have ih:=Di (h:=l);simp only [bz,Qs,forall_eq_or_imp];split
  ·rename_i h;exact ⟨fun e=>absurd e h,fun e=>absurd e.1 h⟩
  ·rename_i h;have h:eE s=0:=by omega
   exact ⟨fun e=>⟨h,ih.1 e⟩,fun e=>ih.2 e.2⟩
theorem kg {h:List a6}:aM h=0 ↔ h.length<=16/\∀ s∈h,eE s=0:=by
 unfold aM;split
 ·exact ⟨fun e=>absurd e (by decide),fun e=>by omega⟩
 ·rw [Di];exact ⟨fun e=>⟨by omega,e⟩,fun e=>e.2⟩
theorem gC {s:a6}:eE s=0 ↔ 0<=s.1/\s.1<=65535/\0<=s.2.2/\s.2.2<=255/\(s.2.1=true->s.1≠0)/\(s.2.1=false->s.2.2=0):=by
 unfold eE;split
 ·exact ⟨fun e=>absurd e (by decide),fun e=>by omega⟩
 ·split
  ·rename_i h1 h2;refine ⟨fun e=>absurd e (by decide),fun e=>?_⟩;rcases h2 with ⟨a,b⟩ | ⟨a,b⟩
   ·exact absurd b (e.2.2.2.2.1 a)
   ·exact absurd (e.2.2.2.2.2 a) b
  ·rename_i h1 h2;refine ⟨fun _=>⟨by omega,by omega,by omega,by omega,fun a b=>h2 (.inl ⟨a,b⟩),fun a=>?_⟩,fun _=>rfl⟩;apply Rc;intro b;exact h2 (.inr ⟨a,b⟩)
theorem Given.new (n:Nat) (hn:n<=16):Given [] (List.replicate n (0,false,0)) where
 len:=by simp; omega
 ok:=fun s hs=>by rw [RB hs]; decide
 old:=fun n h=>by cases h
 live:=fun i s h e=>by
  rw [List.getElem?_replicate] at h;split at h
  ·injection h with h
   subst h;cases e
  ·cases h
theorem Given.map {G:List Int} {h:List a6} (H:Given G h) (f:a6->a6) (h1:∀ s,(f s).1=s.1/\(f s).2.1=s.2.1) (h2:∀ s∈h,eE (f s)=0):Given G (h.map f) where
 len:=by simpa using H.len
 ok:=fun s hs=>by
  obtain ⟨t,ht,rfl⟩:=QR.1 hs;exact h2 t ht
 old:=fun n hn=>by
  obtain ⟨i,g,s,e1,e2,e3⟩:=H.old n hn;exact ⟨i,g,f s,by rw [List.getElem?_map,e1]; rfl,e2,by rw [(h1 s).1]; exact e3⟩
 live:=fun i s hi e=>by
  rw [List.getElem?_map] at hi;obtain ⟨t,ht,rfl⟩:=Dm.1 hi;rw [(h1 t).1];exact H.live i t ht (by rw [<- (h1 t).2]; exact e)
theorem Given.shut {G:List Int} {h:List a6} (H:Given G h) {k:Nat} {s:a6} (hk:h[k]?=some s):Given G (h.set k (s.1,false,0)) where
 len:=by simpa using H.len
 ok:=fun t ht=>by
  rcases Rb ht with ht | rfl
  ·exact H.ok t ht
  ·have:=gC.1 (H.ok s (Rr hk));exact gC.2 ⟨this.1,this.2.1,RX _,(show (0:Int)<=255 by decide),(fun e=>by cases e),fun _=>rfl⟩
 old:=fun n hn=>by
  obtain ⟨i,g,t,e1,e2,e3⟩:=H.old n hn;by_cases e:k=i
  ·subst e;rw [hk] at e1;injection e1 with e1
   subst e1;exact ⟨k,g,(s.1,false,0),List.getElem?_set_self (List.getElem?_eq_some_iff.1 hk).1,e2,e3⟩
  ·exact ⟨i,g,t,by rw [List.getElem?_set_ne e]; exact e1,e2,e3⟩
 live:=fun i t hi e=>by
  by_cases ek:k=i
  ·subst ek;rw [List.getElem?_set_self (List.getElem?_eq_some_iff.1 hk).1] at hi;injection hi with hi
   subst hi;cases e
  ·rw [List.getElem?_set_ne ek] at hi;exact H.live i t hi e
theorem Given.opn {G:List Int} {h:List a6} (H:Given G h) {k:Nat} {s:a6} (hk:h[k]?=some s) (hg:s.1<65535) {at_:Int} (h0:0<=at_) (h1:at_<=255) :
  (k:Int)+65536 * (s.1+1) ∉ G/\Given (G++[(k:Int)+65536 * (s.1+1)]) (h.set k (s.1+1,true,at_)):=by
 have hs:=gC.1 (H.ok s (Rr hk));have hl:∀ {i:Nat} {t:a6},h[i]?=some t->i<16:=fun e=>Rp (List.getElem?_eq_some_iff.1 e).1 H.len
 refine ⟨fun hn=>?_,?_,?_,?_,?_⟩
 ·obtain ⟨i,g,t,e1,e2,e3⟩:=H.old _ hn;have a1:=hl hk;have a2:=hl e1;obtain rfl:i=k:=by omega
  rw [hk] at e1;injection e1 with e1
  subst e1;omega
 ·simpa using H.len
 ·intro t ht;rcases Rb ht with ht | rfl
  ·exact H.ok t ht
  ·exact gC.2 ⟨by simp only; omega,by simp only; omega,h0,h1,(fun _=>by simp only; omega),fun e=>by cases e⟩
 ·intro n hn;rcases Qx.1 hn with hn | hn
  ·obtain ⟨i,g,t,e1,e2,e3⟩:=H.old n hn;by_cases e:k=i
   ·subst e;rw [hk] at e1;injection e1 with e1
    subst e1;exact ⟨k,g,(s.1+1,true,at_),List.getElem?_set_self (List.getElem?_eq_some_iff.1 hk).1,e2,by simp only; omega⟩
   ·exact ⟨i,g,t,by rw [List.getElem?_set_ne e]; exact e1,e2,e3⟩
  ·simp only [QA] at hn;exact ⟨k,s.1+1,(s.1+1,true,at_),List.getElem?_set_self (List.getElem?_eq_some_iff.1 hk).1,hn,RX _⟩
 ·intro i t hi e;by_cases ek:k=i
  ·subst ek;rw [List.getElem?_set_self (List.getElem?_eq_some_iff.1 hk).1] at hi;injection hi with hi
   subst hi;simp
  ·rw [List.getElem?_set_ne ek] at hi;exact L3 _ (H.live i t hi e)
theorem zr:∀ (h:List a6) (k:Nat),∀ n∈it k h,∃ (i:Nat) (s:a6),h[i]?=some s/\s.2.1=true/\n=((k+i:Nat):Int)+65536 * s.1
 | [],k,n,hn=>by simp [it] at hn
 | s::l,k,n,hn=>by
  have ih:=zr l (k+1)
  have step:n∈it ((k:Int)+1) l->∃ (i:Nat) (t:a6),(s::l)[i]?=some t/\t.2.1=true/\n=((k+i:Nat):Int)+65536 * t.1:=fun hm=>by
   obtain ⟨i,t,e1,e2,e3⟩:=ih n (by simpa using hm);exact ⟨i+1,t,by simpa using e1,e2,by rw [e3]; congr 1; omega⟩
  simp only [it] at hn;split at hn
  ·rename_i h;rcases Qs.1 hn with rfl | hn
   ·exact ⟨0,s,rfl,h,by simp [eh]⟩
   ·exact step hn
  ·exact step hn
theorem Given.all {G:List Int} {h:List a6} (H:Given G h):OS h=(it 0 h,0)/\∀ n∈it 0 h,n∈G:=by
 refine ⟨by unfold OS; rw [if_neg (by rw [kg.2 ⟨H.len,H.ok⟩]; decide)],fun n hn=>?_⟩;obtain ⟨i,s,e1,e2,e3⟩:=zr h 0 n hn;rw [e3,Rl];exact H.live i s e1 e2
theorem Given.openF {G:List Int} {h:List a6} (H:Given G h) {at_:Int} {r:List a6×Int×Int} (e:openF h at_=r) (h0:r.2.2=0):r.2.1 ∉ G/\Given (G++[r.2.1]) r.1:=by
 have hf:=kg.2 ⟨H.len,H.ok⟩;rw [DW at_ hf] at e;split at e
 ·subst e; exact absurd h0 (by decide)
 split at e
 ·subst e; exact absurd h0 (by decide)
 rename_i ha hi;subst e;have hr:=eS az h 0;have hlt:ag az 0 h<(h.length:Int):=by omega
 have his:=eo az (0,false,0) h 0 (by omega) (RX _);obtain ⟨i,hi'⟩:=Ro (show 0<=ag az 0 h by omega);simp only [hi',Su,Q5] at his |-;have hil:i<h.length:=by omega
 have hk:h[i]?=some h[i]:=List.getElem?_eq_getElem hil;have hd:h.getD i (0,false,0)=h[i]:=by simp [List.getD,hk]
 rw [hd] at his;unfold az at his;simp only [CF,QP] at his;have:=H.opn hk his.2 (at_:=at_) (by omega) (by omega);unfold mc eh;simp only [Q5,hd];exact this
theorem Given.closeF {G:List Int} {h:List a6} (H:Given G h) {n:Int} {r:List a6×Int} (e:closeF h n=r) (h0:r.2=0):Given G r.1:=by
 unfold Go.Proofs.YtmfileeamnfpaaaGreatDoor.closeF at e;split at e
 ·rename_i hb;subst e;exact absurd h0 hb
 ·rename_i hb;subst e;have hb:(cp h n).2=0:=by omega
  unfold cp at hb |-;split at hb
  ·rename_i h1; simp only at hb; exact absurd hb h1
  rename_i hh;rw [if_neg hh];split at hb
  ·rename_i h1;rw [if_pos h1];simp only;obtain ⟨i,hi⟩:=Ro (show 0<=n % 65536 by omega);simp only [hi,Q5] at h1 |-;have hil:i<h.length:=by omega
   have hk:h[i]?=some h[i]:=List.getElem?_eq_getElem hil;have hd:h.getD i (0,false,0)=h[i]:=by simp [List.getD,hk]
   rw [hd];exact H.shut hk
  ·simp at hb
end
section
theorem CK:∀ (at_:Int) (l:List Int) (r:List aw),spotsS at_ l=some r->∀ m:List Int,m.length=l.length->(∀ s∈r,m.getD (s.1 - at_).toNat 0=l.getD (s.1 - at_).toNat 0)->spotsS at_ m=some r:=by
 intro at_ l r h
 induction at_,l using spotsS.induct generalizing r with
 | case1 at_ =>
  intro m hm _;rw [QF hm];exact h
 | case2 at_ v l hv ih =>
  intro m hm hk;rw [cT hv.1 hv.2] at h;obtain ⟨r',hr,rfl⟩:=Dm.1 h;have hl:=eg hv.1
  match m,hm,hk with
  | u::m,hm,hk =>
   have h0:=hk (at_,aW v) QJ;simp only [Int.sub_self,Int.toNat_zero,List.getD_cons_zero] at h0;subst h0;rw [cT hv.1 (by rw [hm]; exact hv.2),ih r' hr ((u::m).drop (aa (aW u)).toNat) (by simp only [QH,hm]) (fun s hs=>?_)]
   ·rfl
   ·have h1:=(rC _ _ _ hr s hs).1;have h2:=hk s (QK _ hs)
    have e:∀ w:List Int,(w.drop (aa (aW u)).toNat).getD (s.1 - (at_+aa (aW u))).toNat 0=w.getD (s.1 - at_).toNat 0:=fun w=>by
     rw [List.getD_eq_getElem?_getD,List.getElem?_drop,List.getD_eq_getElem?_getD];congr 2;omega
    rw [e,e];exact h2
 | case3 at_ v l hv =>
  rw [eZ hv] at h;cases h
theorem CM {a b:List Int} (h:(ac a).2=0) (hl:b.length=a.length) (hk:∀ s∈(ac a).1,b.getD s.1.toNat 0=a.getD s.1.toNat 0):ac b=ac a:=by
 have hal:=(gP h).1;unfold ac at h hk |-;rw [if_neg (by omega)] at h hk;rw [if_neg (by omega),if_neg (by omega)];cases e:spotsS 0 a with
 | none=>rw [e] at h; simp at h
 | some l =>
  rw [e] at hk;rw [CK 0 a l e b hl (fun s hs=>by rw [Su]; exact hk s hs)]
theorem nC {b:List Int} {l:List aw} (hs:ac b=(l,0)) (hr:∀ s∈l,∀ v∈aQ b s,v=0\/1<=v/\isB l (v - 1)=true):(am b).2.2=0:=by
 have hsort:=ca b;have hrange:=cS (a:=b);rw [hs] at hsort hrange;unfold am;rw [hs,if_neg (by simp),if_pos];refine Qy.2 fun s hm=>Qy.2 fun v hv=>?_
 have h:=hr s hm v hv;rw [<- y8 hsort hrange (by omega)];rcases h with rfl | ⟨h1,h2⟩
 ·simp [nameOf]
 ·have hb:=gY (a:=b) (x:=v - 1) (by rw [hs]; exact h2);have:nameOf v=v - 1:=by unfold nameOf; rw [if_neg (by omega)]
  rw [this,fQ,h2,Bool.or_true]
theorem mA {a:List Int} (hw:∀ x∈a,ak .u64 x) (hc:(am a).2.2=0):∀ s∈(ac a).1,∀ v∈aQ a s,v=0\/1<=v/\isB (ac a).1 (v - 1)=true:=fun s hs v hv=>by
 rcases pb hw hc s hs v hv with h | ⟨h1,_,h2⟩
 ·exact .inl h
 ·exact .inr ⟨h1,h2⟩
theorem CA:∀ {l:List aw} {s e:Int},fI s e l->∀ x∈l,∀ y∈l,x=y\/x.1+aa x.2<=y.1\/y.1+aa y.2<=x.1:=by
 intro l
 have low:∀ {l:List aw} {s e:Int},fI s e l->∀ x∈l,s<=x.1:=by
  intro l
  induction l with
  | nil=>intro s e _ x hx; cases hx
  | cons z l ih =>
   intro s e h x hx;obtain ⟨h1,h2,h3⟩:=h;rcases Qs.1 hx with rfl | hx
   ·omega
   ·have:=ih h3 x hx;omega
 induction l with
 | nil=>intro s e _ x hx; cases hx
 | cons z l ih =>
  intro s e h x hx y hy;obtain ⟨h1,h2,h3⟩:=h;rcases Qs.1 hx with ex | hx' <;> rcases Qs.1 hy with ey | hy'
  ·exact .inl (ex.trans ey.symm)
  ·have:=low h3 y hy';rw [ex];exact .inr (.inl (by omega))
  ·have:=low h3 x hx';rw [ey];exact .inr (.inr (by omega))
  ·exact ih h3 x hx' y hy'
theorem mY {a:List Int} (h:(ac a).2=0) {x y:aw} (hx:x∈(ac a).1) (hy:y∈(ac a).1):x=y\/x.1+aa x.2<=y.1\/y.1+aa y.2<=x.1:=CA (fZ h) x hx y hy
theorem yv {a:List Int} (h:(ac a).2=0) {x:aw} (hx:x∈(ac a).1) {p:Int} (h1:x.1<p) (h2:p<x.1+aa x.2) (v:Int):ac (a.set p.toNat v)=ac a:=by
 refine CM h (by simp) fun s hs=>?_
 have h0:=(cS s hs).1;have hx0:=(cS x hx).1
 have hne:p.toNat≠s.1.toNat:=by
  have hls:1<=aa s.2:=by
   have:=a7 ((gP h).2 s hs).2;unfold aa;omega
  rcases mY h hx hs with rfl | e | e <;> omega
 rw [List.getD_eq_getElem?_getD,List.getElem?_set_ne hne,<- List.getD_eq_getElem?_getD]
theorem LR {a:List Int} {s:aw} {p:Nat} {v u:Int} (h:u∈aQ (a.set p v) s):u=v\/u∈aQ a s:=by
 unfold aQ at h |-;rw [List.take_set] at h;rw [List.drop_set] at h;split at h
 ·exact .inr h
 ·rcases Rb h with h | h
  ·exact .inr h
  ·exact .inl h
section
variable {s:ah}
theorem Right.isIn (_R:Right s) {x:Int} (h:isB (ac s.1).1 x=true):0<=x/\x<s.1.length:=by
 obtain ⟨l1,l2,l3,l4,l5,l6⟩:=cd h;omega
theorem AQ {r:List Int} {n:Int} (h0:0<=n) (h1:n<=256) (h2:r.length<=32) (h3:∀ v∈r,-1<=v/\v<n):aG r n=0:=by
 unfold aG;rw [if_neg (by omega),if_neg (by omega),if_neg];intro h;obtain ⟨v,hv,e⟩:=RI.1 h;have:=h3 v hv;simp only [dq,QN,R6,Rh] at e;omega
theorem Right.roots (R:Right s):s.2.1.length<=32/\∀ v∈s.2.1,-1<=v/\v<(s.1.length:Int):=⟨R.small.1,fun _ hv=>pL (iM R.root) hv⟩
theorem cu {x:Int}:x∈cJ s ↔ (x∈s.2.1/\0<=x)\/(∃ h∈s.2.2.2,h.2.1=true/\h.2.2=x)\/∃ p∈s.2.2.1,p.1=x:=by
 unfold cJ gU;simp only [Qx,Rx,QR,QP];constructor
 ·rintro ((h | ⟨t,⟨h1,h2⟩,h3⟩) | ⟨p,h1,h2⟩)
  ·exact .inl h
  ·exact .inr (.inl ⟨t,h1,h2,h3⟩)
  ·exact .inr (.inr ⟨p,h1,h2⟩)
 ·rintro (h | ⟨t,h1,h2,h3⟩ | ⟨p,h1,h2⟩)
  ·exact .inl (.inl h)
  ·exact .inl (.inr ⟨t,⟨h1,h2⟩,h3⟩)
  ·exact .inr ⟨p,h1,h2⟩
theorem Right.setRoot (R:Right s) {k:Nat} {v:Int} (hv:v=-1\/isB (ac s.1).1 v=true):Right (s.1,s.2.1.set k v,s.2.2):=by
 have hr:=R.roots;have hal:=R.al
 have hvr:-1<=v/\v<(s.1.length:Int):=by
  rcases hv with rfl | h
  ·omega
  ·have:=R.isIn h;omega
 refine ⟨R.w,R.chk,AQ (by simp only; omega) (by simp only; omega) (by simp only [R4]; exact hr.1) (fun u hu=>?_),R.pin,R.hand,fun x hx=>?_⟩
 ·rcases Rb hu with h | rfl
  ·exact hr.2 u h
  ·exact hvr
 ·rcases cu.1 hx with ⟨h,h0⟩ | h | h
  ·rcases Rb h with h | rfl
   ·exact R.nam x (cu.2 (.inl ⟨h,h0⟩))
   ·rcases hv with rfl | h
    ·omega
    ·exact h
  ·exact R.nam x (cu.2 (.inr (.inl h)))
  ·exact R.nam x (cu.2 (.inr (.inr h)))
theorem Right.arena (R:Right s) {b:List Int} (hw:∀ x∈b,ak .u64 x) (hl:b.length=s.1.length) (hs:ac b=ac s.1) (hr:∀ t∈(ac s.1).1,∀ u∈aQ b t,u=0\/1<=u/\isB (ac s.1).1 (u - 1)=true):Right (b,s.2):=by
 have h2:=(bp R.chk).2.2.2.1;refine ⟨hw,nC (l:=(ac s.1).1) (by rw [hs,<- h2]) hr,by simp only; rw [hl]; exact R.root,R.pin,R.hand,fun x hx=>?_⟩;simp only;rw [hs];exact R.nam x hx
theorem Right.setRef (R:Right s) {x k v:Int} (O:ObjAt s x) (k0:0<=k) (k1:k<(eX s.1 x).1) (hv:v=0\/1<=v/\isB (ac s.1).1 (v - 1)=true):Right (s.1.set (x+1+k).toNat v,s.2):=by
 have h2:=(bp R.chk).2.2.2.1;have hin:=(fG O.isb).1
 have hvr:ak .u64 v:=by
  simp only [ak];rcases hv with rfl | ⟨h1,h⟩
  ·omega
  ·have:=gY h;omega
 have hL:aa (eX s.1 x)=1+(eX s.1 x).1+(eX s.1 x).2.1:=rfl;have hb0:=O.b0;refine R.arena (fun u hu=>?_) (by simp) (yv h2 hin (by simp only; omega) (by simp only; omega) v) (fun t ht u hu=>?_)
 ·rcases Rb hu with h | rfl
  ·exact R.w u h
  ·exact hvr
 ·rcases LR hu with rfl | h
  ·exact hv
  ·exact mA R.w R.chk t ht u h
theorem Right.setBody (R:Right s) {x k v:Int} (O:ObjAt s x) (k0:0<=k) (k1:k<(eX s.1 x).2.1) (hv:ak .u64 v):Right (s.1.set (bO s x k).toNat v,s.2):=by
 have h2:=(bp R.chk).2.2.2.1;have hin:=(fG O.isb).1;have hL:aa (eX s.1 x)=1+(eX s.1 x).1+(eX s.1 x).2.1:=rfl;have hr0:=O.r0;have hx0:=O.x0;unfold bO;refine R.arena (fun u hu=>?_) (by simp) (yv h2 hin (by simp only; omega) (by simp only; omega) v) (fun t ht u hu=>?_)
 ·rcases Rb hu with h | rfl
  ·exact R.w u h
  ·exact hv
 ·have ht2:=a7 ((gP h2).2 t ht).2;have htr:=(cS t ht).1;have hLt:aa t.2=1+t.2.1+t.2.2.1:=rfl;rw [rN (a:=s.1) htr ht2.1 (fun j j0 j1=>?_)] at hu
  ·exact mA R.w R.chk t ht u hu
  ·rw [List.getElem?_set_ne];rcases mY h2 hin ht with e | e | e
   ·subst e;simp only at *;omega
   ·simp only at e;omega
   ·simp only at e;omega
end
theorem ul {p:List bh} (h1:p.length<=16) (h2:p.Pairwise (fun x y=>x.1<y.1)) (h3:∀ x∈p,0<=x.1/\x.1<=255/\1<=x.2/\x.2<=1000000):bU p=0:=by
 have scan:∀ (p:List bh) (q:Int),p.Pairwise (fun x y=>x.1<y.1)->(∀ x∈p,q<x.1/\0<=x.1/\x.1<=255/\1<=x.2/\x.2<=1000000)->cV q p=0:=by
  intro p
  induction p with
  | nil=>intro q _ _; rfl
  | cons x l ih =>
   intro q hp hr;obtain ⟨h1,h2⟩:=Q9.1 hp;have hx:=hr x QJ;unfold cV;rw [if_neg (by simp only [mC,Ri,QP]; omega),if_neg (by omega)];exact ih x.1 h2 fun y hy=>⟨h1 y hy,(hr y (QK _ hy)).2⟩
 unfold bU;rw [if_neg (by omega)];exact scan p _ h2 fun x hx=>by have:=h3 x hx; omega
theorem qz {A B C:List bh} {k v:Int} (hp:(A++C).Pairwise (fun x y=>x.1<y.1)) (hC:C=B\/∃ w,C=(k,w)::B) (hA:∀ x∈A,x.1<k) (hB:∀ x∈B,k<x.1):(A++(k,v)::B).Pairwise (fun x y=>x.1<y.1)/\(A++B).Pairwise (fun x y=>x.1<y.1):=by
 obtain ⟨h1,h2,h3⟩:=Sp.1 hp
 have hBp:B.Pairwise (fun x y=>x.1<y.1):=by
  rcases hC with rfl | ⟨w,rfl⟩
  ·exact h2
  ·exact (Q9.1 h2).2
 refine ⟨Sp.2 ⟨h1,Q9.2 ⟨fun y hy=>hB y hy,hBp⟩,fun x hx y hy=>?_⟩,Sp.2 ⟨h1,hBp,fun x hx y hy=>?_⟩⟩
 ·rcases Qs.1 hy with rfl | hy
  ·exact hA x hx
  ·have:=hA x hx;have:=hB y hy;omega
 ·have:=hA x hx;have:=hB y hy;omega
theorem PL {p:List bh} {k:Int} (h:(gK p k).2.2=0):bU (gK p k).1=0/\∀ x∈(gK p k).1,x.1=k\/∃ y∈p,y.1=x.1:=by
 unfold gK at h |-;split at h
 ·rename_i h1; simp only at h; exact absurd h h1
 rename_i h1;rw [if_neg h1];split at h
 ·simp at h
 rename_i h2;rw [if_neg h2];simp only;have h0:(aF p k).2.2=0:=by omega
 obtain ⟨k1,k2,k3,k4⟩:=wH h0;obtain ⟨q1,q2,q3⟩:=nR k1;obtain ⟨A,B,e,e2,hl,hA,hB,h3⟩:=mn h0;rw [e2];rcases h3 with ⟨b1,b2,b3⟩ | ⟨b1,b2,b3,b4⟩
 ·rw [if_neg (by rw [b1]; simp),b3,G5];have hlen:(A++B).length≠16:=fun e=>h2 (.inr ⟨b1,by rw [b3]; exact e⟩)
  rw [b3] at q1 q2 q3;refine ⟨ul (by simp only [KK,HN] at *; omega) (qz q2 (.inl rfl) hA hB).1 (fun x hx=>?_),fun x hx=>?_⟩
  ·rcases Qx.1 hx with hx | hx
   ·exact q3 x (L3 _ hx)
   ·rcases Qs.1 hx with rfl | hx
    ·have:=k2;simp only;omega
    ·exact q3 x (Qw _ hx)
  ·rcases Qx.1 hx with hx | hx
   ·exact .inr ⟨x,L3 _ hx,rfl⟩
   ·rcases Qs.1 hx with rfl | hx
    ·exact .inl rfl
    ·exact .inr ⟨x,Qw _ hx,rfl⟩
 ·rw [if_pos b1];have hm:fH p k≠1000000:=fun e=>h2 (.inl e)
  generalize fH p k=v at *;subst b4;rw [uX];refine ⟨ul (by simp only [KK,HN] at *; omega) (qz q2 (.inr ⟨v,rfl⟩) hA hB).1 (fun x hx=>?_),fun x hx=>?_⟩
  ·rcases Qx.1 hx with hx | hx
   ·exact q3 x (L3 _ hx)
   ·rcases Qs.1 hx with rfl | hx
    ·have:=q3 (k,v) (by simp);simp only at this |-;omega
    ·exact q3 x (Qw _ (QK _ hx))
  ·rcases Qx.1 hx with hx | hx
   ·exact .inr ⟨x,L3 _ hx,rfl⟩
   ·rcases Qs.1 hx with rfl | hx
    ·exact .inl rfl
    ·exact .inr ⟨x,Qw _ (QK _ hx),rfl⟩
theorem Oz {p:List bh} {k:Int} (h:(dO p k).2.2=0):bU (dO p k).1=0/\∀ x∈(dO p k).1,∃ y∈p,y.1=x.1:=by
 unfold dO at h |-;split at h
 ·rename_i h1; simp only at h; exact absurd h h1
 rename_i h1;rw [if_neg h1];split at h
 ·simp at h
 rename_i h2;rw [if_neg h2];simp only;have h0:(aF p k).2.2=0:=by omega
 obtain ⟨k1,k2,k3,k4⟩:=wH h0;obtain ⟨q1,q2,q3⟩:=nR k1;obtain ⟨A,B,e,e2,hl,hA,hB,h3⟩:=mn h0;rw [e2];rcases h3 with ⟨b1,b2,b3⟩ | ⟨b1,b2,b3,b4⟩
 ·exact absurd b1 h2
 ·generalize fH p k=v at *;subst b4;by_cases hv:v=1
  ·rw [if_pos hv,Ho];refine ⟨ul (by simp only [KK,HN] at *; omega) (qz (v:=v) q2 (.inr ⟨v,rfl⟩) hA hB).2 (fun x hx=>?_),fun x hx=>?_⟩
   ·rcases Qx.1 hx with hx | hx
    ·exact q3 x (L3 _ hx)
    ·exact q3 x (Qw _ (QK _ hx))
   ·rcases Qx.1 hx with hx | hx
    ·exact ⟨x,L3 _ hx,rfl⟩
    ·exact ⟨x,Qw _ (QK _ hx),rfl⟩
  ·rw [if_neg hv,uX];refine ⟨ul (by simp only [KK,HN] at *; omega) (qz q2 (.inr ⟨v,rfl⟩) hA hB).1 (fun x hx=>?_),fun x hx=>?_⟩
   ·rcases Qx.1 hx with hx | hx
    ·exact q3 x (L3 _ hx)
    ·rcases Qs.1 hx with rfl | hx
     ·have:=q3 (k,v) (by simp);simp only at this |-;omega
     ·exact q3 x (Qw _ (QK _ hx))
   ·rcases Qx.1 hx with hx | hx
    ·exact ⟨x,L3 _ hx,rfl⟩
    ·rcases Qs.1 hx with rfl | hx
     ·exact ⟨(k,v),by simp,rfl⟩
     ·exact ⟨x,Qw _ (QK _ hx),rfl⟩
section
variable {s:ah}
theorem Right.setPins (R:Right s) {p:List bh} (h0:bU p=0) (h:∀ x∈p,isB (ac s.1).1 x.1=true):Right (s.1,s.2.1,p,s.2.2.2) :=
 ⟨R.w,R.chk,R.root,h0,R.hand,fun x hx=>by
  rcases cu.1 hx with h1 | h1 | ⟨y,h1,rfl⟩
  ·exact R.nam x (cu.2 (.inl h1))
  ·exact R.nam x (cu.2 (.inr (.inl h1)))
  ·exact h y h1⟩
theorem Right.setHands (R:Right s) {h:List a6} (h0:aM h=0) (hh:∀ x∈h,x.2.1=true->isB (ac s.1).1 x.2.2=true):Right (s.1,s.2.1,s.2.2.1,h) :=
 ⟨R.w,R.chk,R.root,R.pin,h0,fun x hx=>by
  rcases cu.1 hx with h1 | ⟨y,h1,h2,rfl⟩ | h1
  ·exact R.nam x (cu.2 (.inl h1))
  ·exact hh y h1 h2
  ·exact R.nam x (cu.2 (.inr (.inr h1)))⟩
theorem Right.pinB (R:Right s) {x:bh} (h:x∈s.2.2.1):isB (ac s.1).1 x.1=true:=R.nam _ (cu.2 (.inr (.inr ⟨x,h,rfl⟩)))
theorem Right.handB (R:Right s) {x:a6} (h:x∈s.2.2.2) (h1:x.2.1=true):isB (ac s.1).1 x.2.2=true:=R.nam _ (cu.2 (.inr (.inl ⟨x,h,h1,rfl⟩)))
theorem Right.rootB (R:Right s) {v:Int} (h:v∈s.2.1) (h1:0<=v):isB (ac s.1).1 v=true:=R.nam _ (cu.2 (.inl ⟨h,h1⟩))
theorem Right.given (R:Right s):s.2.2.2.length<=16/\∀ x∈s.2.2.2,eE x=0:=kg.1 R.hand
end
end
section
theorem lO {k:Int} (hk:k<=256):∀ x∈bY k,ak .u64 x:=by
 intro x hx;unfold bY at hx;split at hx
 ·rcases Qs.1 hx with rfl | hx
  ·simp only [aC,ak,if_true];omega
  ·rw [RB hx];simp only [ak];omega
 ·cases hx
theorem LY {l:List Int} {x:Int} (h:x∈l):l.getD (cK l x).toNat 0=x:=by
 have hp:=ka h;have:=eo (fun y=>decide (y=x)) (0:Int) l 0 hp.1 (RX _);rw [Su] at this;exact tM this
section
variable {a keep pinned long:List Int}
theorem N0 (hw:∀ x∈a,ak .u64 x) (hP:Plan a keep pinned long) {i:Nat} (hi:i<keep.length):∀ x∈il a keep (aA keep long pinned) (keep.getD i 0),ak .u64 x:=by
 intro x hx;unfold il at hx;have hb:=hP.isb _ (ef hi);obtain ⟨l1,l2,l3,l4,l5,l6⟩:=cd hb;rcases Qs.1 hx with rfl | hx
 ·exact hw _ (aI (0:Int) (xs:=a) (i:=keep.getD i 0) (by omega) (by omega))
 rcases Qx.1 hx with hx | hx
 ·obtain ⟨v,_,rfl⟩:=QR.1 hx;unfold kS lI;split
  ·simp only [SK,ak]; omega
  split
  ·rename_i hk;have hp:=ka (cG.1 hk);rw [lK (by omega)];have h1:=hP.le (cK keep (v - 1)).toNat (by omega);have h2:=(cq pinned hP.pre (cK keep (v - 1)).toNat (by omega)).1;have h3:=hP.lg (cK keep (v - 1)).toNat (by omega);obtain ⟨_,_,_,_,k5,k6⟩:=cd (hP.isb _ (ef (i:=(cK keep (v - 1)).toNat) (by omega)));have hal:=hP.al;simp only [SK,ak];omega
  ·simp only [Option.getD_none,ak]; omega
 ·unfold hY iX at hx;exact hw x (RG (RW hx))
theorem LM (hw:∀ x∈a,ak .u64 x) (hP:Plan a keep pinned long):∀ n:Nat,n<=keep.length->∀ x∈og a keep (aA keep long pinned) pinned long n,ak .u64 x
 | 0,_,x,hx=>by cases hx
 | n+1,hn,x,hx=>by
  simp only [og] at hx;rcases Qx.1 hx with hx | hx
  ·exact LM hw hP n (by omega) x hx
  rcases Qx.1 hx with hx | hx
  ·have h1:=hP.le n (by omega);have h2:=(cq pinned hP.pre n (by omega)).1;have h3:=hP.lg n (by omega);obtain ⟨_,_,_,_,k5,k6⟩:=cd (hP.isb _ (ef (i:=n) (by omega)));have hal:=hP.al;exact lO (by omega) x hx
  ·exact N0 hw hP (by omega) x hx
theorem NT (hw:∀ x∈a,ak .u64 x) (hP:Plan a keep pinned long):∀ x∈mI a keep (aA keep long pinned) pinned long (ck a.length keep long pinned),ak .u64 x:=by
 intro x hx;rw [pY _ hP] at hx;rcases Qx.1 hx with hx | hx
 ·exact LM hw hP _ (QI _) x hx
 ·have h2:=(cq pinned hP.pre keep.length (QI _)).1;have hal:=hP.al;exact lO (by omega) x hx
theorem LK (hP:Plan a keep pinned long) {i:Nat} (hi:i<keep.length):isB (kI a keep pinned long) (fD pinned keep long i)=true:=by
 rw [<- fQ,cG];exact mB (L3 _ (uY (pinned:=pinned) (long:=long) (a:=a) keep.length hi)) (fG (hP.isb _ (ef hi))).2.2.2.2.2
end
section
variable {s:ah}
theorem Right.toB (R:Right s) {x:Int} (hx:x∈cJ s):isB (ac (dL s)).1 (lZ s x)=true:=by
 have hp:=ka (R.keepIn hx);have hi:(cK (dM s) x).toNat<(dM s).length:=by omega
 rw [R.slidOK.2.2];unfold lZ;rw [lK hi];exact LK R.plan hi
theorem Right.toPin (R:Right s) {x:Int} (hx:x∈cO s):lZ s x=x:=by
 have hk:=R.keepIn (R.pinsIn x hx);have hp:=ka hk;have hi:(cK (dM s) x).toNat<(dM s).length:=by omega
 unfold lZ;rw [lK hi];unfold fD;rw [LY hk,if_pos (cG.2 hx)]
theorem Right.swept (R:Right s):Right (ig s):=by
 have hal:=R.al;obtain ⟨k1,k2,k3⟩:=R.slidOK;have hr:=R.roots;have hg:=R.given;refine ⟨?_,k1,AQ (by show (0:Int)<=((dL s).length:Nat); omega) (by show (((dL s).length:Nat):Int)<=256; omega) (by show (s.2.1.map (lf s)).length<=32; rw [Q3]; exact hr.1) (fun v hv=>?_),R.pin,kg.2 ⟨by show (s.2.2.2.map (ns s)).length<=16; rw [Q3]; exact hg.1,fun x hx=>?_⟩,fun x hx=>?_⟩
 ·show ∀ x∈dL s,ak .u64 x;rw [R.slid];exact NT R.w R.plan
 ·obtain ⟨u,hu,rfl⟩:=QR.1 hv;show -1<=lf s u/\lf s u<((dL s).length:Nat);rw [k2];unfold lf;split
  ·rename_i h0;have:=R.toIn (cu.2 (.inl ⟨hu,h0⟩));omega
  ·have:=hr.2 u hu;omega
 ·obtain ⟨t,ht,rfl⟩:=QR.1 hx;have h1:=gC.1 (hg.2 t ht);unfold ns;split
  ·rename_i h2;have:=R.toIn (cu.2 (.inr (.inl ⟨t,ht,h2,rfl⟩)));refine gC.2 ⟨h1.1,h1.2.1,this.1,by simp only; omega,h1.2.2.2.2.1,fun e=>?_⟩;simp only at e;rw [e] at h2;cases h2
  ·exact hg.2 t ht
 ·show isB (ac (dL s)).1 x=true;rcases cu.1 hx with ⟨h,h0⟩ | ⟨y,h,h1,rfl⟩ | ⟨p,h,rfl⟩
  ·obtain ⟨u,hu,rfl⟩:=QR.1 (show x∈s.2.1.map (lf s) from h);unfold lf at h0 |-;split at h0
   ·rename_i h2;rw [if_pos h2];exact R.toB (cu.2 (.inl ⟨hu,h2⟩))
   ·omega
  ·obtain ⟨t,ht,rfl⟩:=QR.1 (show y∈s.2.2.2.map (ns s) from h);unfold ns at h1 |-;split at h1
   ·rename_i h2;rw [if_pos h2];exact R.toB (cu.2 (.inr (.inl ⟨t,ht,h2,rfl⟩)))
   ·rename_i h2;exact absurd h1 h2
  ·have hp:p.1∈cO s:=QR.2 ⟨p,h,rfl⟩;have:=R.toB (R.pinsIn _ hp);rw [R.toPin hp] at this;exact this
end
end
section
theorem Jc:∀ (at_:Int) (l:List Int) (k:List aw),spotsS at_ l=some k->∀ (A:List aw) (s:aw) (B:List aw),k=A++s::B ->
  ∃ X W Y,l=X++(W++Y)/\(X.length:Int)=s.1 - at_/\(W.length:Int)=aa s.2/\(∀ Z,spotsS at_ (X++Z)=(spotsS s.1 Z).map (A++·))/\spotsS (s.1+aa s.2) Y=some B:=by
 intro at_ l k h
 induction at_,l using spotsS.induct generalizing k with
 | case1 at_ =>
  intro A s B e;simp only [spotsS,pS] at h;rw [<- h] at e;simp at e
 | case2 at_ v l hv ih =>
  intro A s B e;rw [cT hv.1 hv.2] at h;obtain ⟨r',hr,rfl⟩:=Dm.1 h;have hl:=eg hv.1;have hle:=hv.2;obtain ⟨n,hn⟩:∃ n:Nat,(aa (aW v)).toNat=n+1:=⟨(aa (aW v)).toNat - 1,by omega⟩
  have hlen:(l.take n).length=n:=by
   rw [QD];simp only [HN] at hle;omega
  cases A with
  | nil =>
   simp only [Q0,So] at e;obtain ⟨rfl,rfl⟩:=e;refine ⟨[],v::l.take n,(v::l).drop (aa (aW v)).toNat,?_,by simp,?_,fun Z=>?_,hr⟩
   ·rw [hn];simp
   ·simp only [HN,hlen];omega
   ·simp only [Q0];cases spotsS at_ Z <;> rfl
  | cons t A =>
   simp only [Rf,So] at e;obtain ⟨rfl,rfl⟩:=e;obtain ⟨X,W,Y,e1,e2,e3,e4,e5⟩:=ih _ hr A s B rfl;refine ⟨v::l.take n++X,W,Y,?_,?_,e3,fun Z=>?_,e5⟩
   ·rw [List.append_assoc,<- e1,hn];simp
   ·simp only [KK,HN,hlen];omega
   ·rw [List.append_assoc,ii hv.1 (by rw [hlen]; omega),e4];cases spotsS s.1 Z <;> rfl
 | case3 at_ v l hv =>
  rw [eZ hv] at h;cases h
theorem Jb {b:List Int} (h:(ac b).2=0):spotsS 0 b=some (ac b).1:=by
 unfold ac at h |-;split at h
 ·simp at h
 rename_i hl;rw [if_neg hl];cases e:spotsS 0 b with
 | none=>rw [e] at h; simp at h
 | some l=>rfl
theorem Ex {X V V' Y:List Int} (h:V.length=V'.length) {j:Nat} (hj:j<X.length\/X.length+V.length<=j):(X++(V++Y))[j]?=(X++(V'++Y))[j]?:=by
 rcases hj with hj | hj
 ·rw [List.getElem?_append_left hj,List.getElem?_append_left hj]
 ·rw [List.getElem?_append_right (by omega),List.getElem?_append_right (by omega),List.getElem?_append_right (by omega),List.getElem?_append_right (by omega),h]
theorem tk {a:List Int} (hw:∀ x∈a,ak .u64 x) (hc:(am a).2.2=0) {r:db} {h:dY} (hr:r∈aO false [] (ac a).1) (h0:af h=0) (hf:h.2.2.2=false) (hl:aa h<=r.2) :
  (∀ x∈fA a r h,ak .u64 x)/\(am (fA a r h)).2.2=0/\(fA a r h).length=a.length/\(∀ x,isB (ac a).1 x=true->isB (ac (fA a r h)).1 x=true)/\isB (ac (fA a r h)).1 r.1=true:=by
 obtain ⟨h1,h2,h3,h4,h5⟩:=wv hc;obtain ⟨hal,_,_,hsz,_⟩:=bp hc;rw [h5] at hr;obtain ⟨s,hs,hsf,er⟩:=mm hr;have hz:(am (cL a).1).2.2=0:=by rw [h1]
 obtain ⟨_,_,k1,k2,_⟩:=bp hz;have hsp:(ac (cL a).1).1=bJ (ac a).1:=by rw [h1] at k1; exact k1.symm
 obtain ⟨A,B,eAB⟩:=List.append_of_mem hs;have hS:spotsS 0 (cL a).1=some (A++s::B):=by rw [Jb k2,hsp,eAB]
 obtain ⟨X,W,Y,e1,e2,e3,e4,e5⟩:=Jc 0 _ _ hS A s B rfl;have hn:=a7 h0;have hL:aa h=1+h.1+h.2.1:=rfl;have er1:r.1=s.1:=by rw [er]
 have er2:r.2=aa s.2:=by rw [er]
 have hsr:=cS s (a:=(cL a).1) (by rw [hsp]; exact hs)
 have hXY:X.length+(W.length+Y.length)=a.length:=by
  have:=congrArg List.length e1;rw [h4] at this;simpa using this.symm
 have hW:W=bY r.2:=by
  obtain ⟨X',Y',eW,hX',_⟩:=mR _ 0 h3 (by omega) hs;rw [if_pos hsf] at eW;rw [<- h2,e1] at eW;have hx:X.length=X'.length:=by omega
  obtain ⟨rfl,e⟩:=List.append_inj eW hx;have hl2:W.length=(bY (aa s.2)).length:=by rw [bQ]; omega
  rw [er2];exact (List.append_inj e hl2).1
 obtain ⟨m,hm⟩:∃ m:Nat,aa h=(m:Int)+1:=⟨(aa h - 1).toNat,by omega⟩;obtain ⟨V,hV⟩:∃ V,V=(aC h::List.replicate m 0)++bY (r.2 - aa h):=⟨_,rfl⟩
 have hVl:V.length=W.length:=by
  rw [hV,hW];simp only [KK,HN,QV,bQ];omega
 have hP:fA a r h=X++(V++Y):=by
  unfold fA;rw [e1,hW,er1]
  have hWc:bY r.2=aC (0,r.2 - 1,0,true)::(List.replicate m 0++List.replicate (r.2 - aa h).toNat 0):=by
   unfold bY;rw [if_pos (by omega),List.replicate_append_replicate];congr 2;omega
  rw [hWc];have hcut:X++(aC (0,r.2 - 1,0,true)::(List.replicate m 0++List.replicate (r.2 - aa h).toNat 0)++Y)=(X++aC (0,r.2 - 1,0,true)::List.replicate m 0)++(List.replicate (r.2 - aa h).toNat 0++Y):=by simp only [List.append_assoc,Rf]
  have hem:aV ((X++aC (0,r.2 - 1,0,true)::List.replicate m 0)++(List.replicate (r.2 - aa h).toNat 0++Y)) (s.1+aa h) (r.2 - aa h)=(X++aC (0,r.2 - 1,0,true)::List.replicate m 0)++(bY (r.2 - aa h)++Y):=by
   by_cases hz:0<r.2 - aa h
   ·rw [pE (by simp only [KK,HN,QV]; omega) (by omega) hz (by simp),List.drop_left' (by simp)]
   ·have:r.2 - aa h=0:=by omega
    rw [this];simp [aV,bY]
  rw [hcut,hem,hV]
  have hset:((X++aC (0,r.2 - 1,0,true)::List.replicate m 0)++(bY (r.2 - aa h)++Y)).set s.1.toNat (aC h)=(X++aC h::List.replicate m 0)++(bY (r.2 - aa h)++Y):=by
   rw [List.append_assoc,Rf,pZ _ (by omega)];simp
  rw [hset];simp
 have hJw:∀ x∈(cL a).1,ak .u64 x:=by
  intro x hx;rw [h2] at hx
  have tw:∀ k:List aw,(∀ t∈k,t.2.2.2.2=true->aa t.2<=256)->∀ x∈ic a k,ak .u64 x:=by
   intro k
   induction k with
   | nil=>intro _ x hx; cases hx
   | cons t k ih =>
    intro hk x hx;simp only [ic] at hx;rcases Qx.1 hx with hx | hx
    ·split at hx
     ·rename_i ht;exact lO (hk t QJ ht) x hx
     ·exact hw x (RW (RG hx))
    ·exact ih (fun t ht=>hk t (QK _ ht)) x hx
  exact tw _ (fun t ht hf=>by
   obtain ⟨_,_,_,_,_,q⟩:=mR _ 0 h3 (by omega) ht;have:=(cS t (a:=(cL a).1) (by rw [hsp]; exact ht)).1;omega) x hx
 have hhw:ak .u64 (aC h):=by
  have hx:h.1<=255/\h.2.1<=255:=by omega
  unfold aC;rw [hf];simp only [ak,Qz,QW];omega
 obtain ⟨F,hF⟩:∃ F,F=(if 0<r.2 - aa h then [aE (s.1+aa h) (r.2 - aa h)] else []):=⟨_,rfl⟩
 have hspots:ac (fA a r h)=(A++((s.1,h)::(F++B)),0):=by
  refine lE (by rw [hP]; simp only [KK]; omega) ?_;obtain ⟨q1,q2⟩:=tK h0;rw [hP,e4,hV,List.append_assoc,ii q2 (by rw [q1]; simp only [QV]; omega),q1,gO (by omega),hF];by_cases hz:0<r.2 - aa h
  ·rw [if_pos hz,if_pos hz,show s.1+aa h+(r.2 - aa h)=s.1+aa s.2 by omega,e5];rfl
  ·rw [if_neg hz,if_neg hz,show s.1+aa h=s.1+aa s.2 by omega,e5];rfl
 have hB:∀ x,isB (A++s::B) x=true->isB (A++((s.1,h)::(F++B))) x=true:=by
  intro x hx;rw [<- fQ,cG] at hx |-
  have app:∀ (K L:List aw),ba (K++L)=ba K++ba L:=by
   intro K L
   induction K with
   | nil=>rfl
   | cons t K ih =>
    simp only [Rf,ba,ih];split
    ·rfl
    ·rfl
  rw [app] at hx |-;simp only [ba,hsf,if_true,hf,Qz,QW] at hx |-;rcases Qx.1 hx with hx | hx
  ·exact L3 _ hx
  ·refine Qw _ (QK _ ?_);rw [app];exact Qw _ hx
 have hold:∀ x,isB (ac a).1 x=true->isB (A++s::B) x=true:=by
  intro x hx;rw [<- fQ] at hx |-;rw [<- eAB,nE];exact hx
 have hnew:isB (A++((s.1,h)::(F++B))) s.1=true:=by
  rw [<- fQ,cG];exact mB (t:=s.1) (h:=h) (Qw _ QJ) hf
 have hlen:(fA a r h).length=a.length:=by
  rw [hP];simp only [KK];omega
 refine ⟨fun x hx=>?_,nC hspots (fun t ht v hv=>?_),hlen,fun x hx=>by rw [hspots]; exact hB x (hold x hx),by rw [hspots,er1]; exact hnew⟩
 ·rw [hP,hV] at hx
  have hJ:∀ x,x∈X\/x∈Y->ak .u64 x:=fun x hx=>hJw x (by
   rw [e1];rcases hx with hx | hx
   ·exact L3 _ hx
   ·exact Qw _ (Qw _ hx))
  rcases Qx.1 hx with hx | hx
  ·exact hJ x (.inl hx)
  rcases Qx.1 hx with hx | hx
  ·rcases Qx.1 hx with hx | hx
   ·rcases Qs.1 hx with rfl | hx
    ·exact hhw
    ·rw [RB hx];simp only [ak];omega
   ·exact lO (by omega) x hx
  ·exact hJ x (.inr hx)
 ·
  have hrefs:∀ t,t∈A++s::B->t≠s->aQ (fA a r h) t=aQ (cL a).1 t:=by
   intro t ht hne;have htJ:t∈(ac (cL a).1).1:=by rw [hsp,eAB]; exact ht
   have hsJ:s∈(ac (cL a).1).1:=by rw [hsp]; exact hs
   have ht2:=a7 ((gP k2).2 t htJ).2;have hLt:aa t.2=1+t.2.1+t.2.2.1:=rfl;refine rN (cS t htJ).1 ht2.1 fun j j0 j1=>?_
   rw [hP,e1];refine Ex hVl ?_;rcases mY k2 htJ hsJ with e | e | e
   ·exact absurd e hne
   ·left; omega
   ·right; omega
  have old:∀ t,t∈A++s::B->t≠s->v∈aQ (fA a r h) t->v=0\/1<=v/\isB (A++((s.1,h)::(F++B))) (v - 1)=true:=by
   intro t ht hne hv;rw [hrefs t ht hne] at hv;rcases mA hJw hz t (by rw [hsp,eAB]; exact ht) v hv with h | ⟨h1,h2⟩
   ·exact .inl h
   ·rw [hsp,eAB] at h2;exact .inr ⟨h1,hB _ h2⟩
  have hsort:=ca (cL a).1;rw [hsp,eAB] at hsort;obtain ⟨_,hs2,hs3⟩:=Sp.1 hsort;rcases Qx.1 ht with ht | ht
  ·exact old t (L3 _ ht) (fun e=>by have:=hs3 t ht s QJ; rw [e] at this; omega) hv
  rcases Qs.1 ht with rfl | ht
  ·left;unfold aQ at hv;rw [hP,hV] at hv;have hx:(X.length:Int)=s.1:=by omega
   have e6:(s.1+1+h.1).toNat=X.length+(1+h.1.toNat):=by omega
   have e7:(s.1+1).toNat=X.length+1:=by omega
   simp only at hv;rw [e6,e7,SL,Sh,QX (by rw [QD]; omega),Q0,QG (by omega:X.length<=_),show X.length+1 - X.length=1 by omega,show X.length+(1+h.1.toNat) - X.length=h.1.toNat+1 by omega,List.append_assoc,Rf,RC,RK,SJ,QY (by rw [QV]; omega)] at hv;exact RB (RG hv)
  rcases Qx.1 ht with ht | ht
  ·rw [hF] at ht;split at ht
   ·rw [QA.1 ht] at hv;unfold aQ aE at hv;simp only [Int.add_zero] at hv;rw [QX (by rw [QD]; omega)] at hv;cases hv
   ·cases ht
  ·exact old t (Qw _ (QK _ ht)) (fun e=>by have:=(Q9.1 hs2).1 t ht; rw [e] at this; omega) hv
end
section
section
variable {s:ah}
theorem Right.arena2 (R:Right s) {b:List Int} (hw:∀ x∈b,ak .u64 x) (hc:(am b).2.2=0) (hl:b.length=s.1.length) (hb:∀ x,isB (ac s.1).1 x=true->isB (ac b).1 x=true):Right (b,s.2) :=
 ⟨hw,hc,by simp only; rw [hl]; exact R.root,R.pin,R.hand,fun x hx=>hb x (R.nam x hx)⟩
theorem Right.laid (R:Right s) {slot:Int} {h:dY} (hh:fe h=0) (ht:(gt s slot h).2=true):Right (gt s slot h).1:=by
 obtain ⟨h0,hf⟩:=Ir hh;unfold gt ie at ht |-;split at ht
 ·simp at ht
 ·rename_i r hr;have hm:=List.mem_of_find?_eq_some hr;have hle:aa h<=r.2:=by simpa using List.find?_some hr
  obtain ⟨p1,p2,p3,p4,p5⟩:=tk R.w R.chk hm h0 hf hle;exact (R.arena2 p1 p2 p3 p4).setRoot (.inr p5)
theorem Right.make (R:Right s) {slot:Int} {h:dY} (e:(bf s slot h).2.2=0):Right (bf s slot h).1:=by
 unfold bf at e |-;split at e
 ·rename_i h1; simp only at e; exact absurd e h1
 rename_i h1;split at e
 ·rename_i h2; simp only at e; exact absurd e h2
 rename_i h2;rw [if_neg h1,if_neg h2];have hh:fe h=0:=by omega
 split at e
 ·rename_i h3;rw [if_pos h3];exact R.laid hh h3
 rename_i h3;rw [if_neg h3];split at e
 ·rename_i h4;rw [if_pos h4];exact R.swept.laid hh h4
 ·simp at e
theorem JL (R:Right s) {a b c:Int} (e:(lj s a b c).2=0):Right (lj s a b c).1:=by
 unfold lj at e |-;split at e
 ·rename_i h; exact absurd e h
 rename_i h;rw [if_neg h];obtain ⟨_,O,b0,b1,c0,c1⟩:=AW R.w (by omega:bC s a b c=0);refine R.setRoot ?_;have hin:=fG O.isb;obtain ⟨l1,l2,l3,l4,l5,l6⟩:=cd O.isb
 have hm:s.1.getD (ax s a+1+b).toNat 0∈bP s.1 (ax s a):=by
  unfold bP aQ;rw [List.mem_iff_getElem?];refine ⟨b.toNat,?_⟩;rw [List.getElem?_drop,List.getElem?_take,if_pos (by simp only; omega),show (ax s a+1).toNat+b.toNat=(ax s a+1+b).toNat by omega];have hlt:(ax s a+1+b).toNat<s.1.length:=by omega
  simp [List.getD_eq_getElem?_getD,hlt]
 rcases mA R.w R.chk _ hin.1 _ hm with h | ⟨_,h⟩
 ·exact .inl (by omega)
 ·exact .inr h
theorem JF (R:Right s) {a b c:Int} (e:(ld s a b c).2=0):Right (ld s a b c).1:=by
 unfold ld at e |-;split at e
 ·rename_i h; exact absurd e h
 rename_i h;rw [if_neg h];obtain ⟨_,O,b0,b1,c0,c1⟩:=AW R.w (by omega:bC s a b c=0);refine R.setRef O b0 b1 ?_;have hr:=R.rootIn c0 c1;by_cases h0:0<=ax s c
 ·refine .inr ⟨by omega,?_⟩;rw [show ax s c+1 - 1=ax s c by omega];exact R.rootB (aI (0:Int) c0 c1) h0
 ·left;unfold ax at *;omega
theorem JN (R:Right s) {a b v:Int} (hv:ak .u64 v) (e:(j7 s a b v).2=0):Right (j7 s a b v).1:=by
 unfold j7 at e |-;split at e
 ·rename_i h; exact absurd e h
 rename_i h;rw [if_neg h];obtain ⟨_,O,b0,b1,_⟩:=BU R.w (by omega:aP s a b=0);exact R.setBody O b0 b1 hv
theorem JP (R:Right s) {a:Int} (e:(ja s a).2.2=0):Right (ja s a).1:=by
 unfold ja at e |-;split at e
 ·rename_i h; exact absurd e h
 rename_i h;rw [if_neg h];split at e
 ·rename_i h2; exact absurd e h2
 rename_i h2;rw [if_neg h2];obtain ⟨_,a0,a1,O⟩:=ph R.w (by omega:bw s a=0);obtain ⟨p1,p2⟩:=PL (by omega:(gK s.2.2.1 (ax s a)).2.2=0);refine R.setPins p1 fun x hx=>?_
 rcases p2 x hx with h | ⟨y,hy,h⟩
 ·rw [h]; exact O.isb
 ·rw [<- h]; exact R.pinB hy
theorem Cy (R:Right s) {a:Int} (e:(cZ s a).2=0):Right (cZ s a).1:=by
 unfold cZ at e |-;split at e
 ·rename_i h; exact absurd e h
 rename_i h;rw [if_neg h];split at e
 ·rename_i h2; exact absurd e h2
 rename_i h2;rw [if_neg h2];obtain ⟨p1,p2⟩:=Oz (by omega:(dO s.2.2.1 a).2.2=0);refine R.setPins p1 fun x hx=>?_
 obtain ⟨y,hy,h⟩:=p2 x hx;rw [<- h];exact R.pinB hy
theorem GB (R:Right s) {a:Int} (e:(fF s a).2.2=0):Right (fF s a).1:=by
 unfold fF at e |-;split at e
 ·rename_i h; exact absurd e h
 rename_i h;rw [if_neg h];split at e
 ·rename_i h2; exact absurd e h2
 rename_i h2;rw [if_neg h2];obtain ⟨_,a0,a1,O⟩:=ph R.w (by omega:bw s a=0);have h2:(openF s.2.2.2 (ax s a)).2.2=0:=by omega
 have hb:=gY O.isb;rw [DW _ R.hand] at h2 |-;split at h2
 ·simp at h2
 rename_i h3;rw [if_neg h3];split at h2
 ·simp at h2
 rename_i h4;rw [if_neg h4];have hr:=eS az s.2.2.2 0;have hi:=eo az (0,false,0) s.2.2.2 0 (by omega) (RX _);rw [Su] at hi;generalize ag az 0 s.2.2.2=i at *;unfold az at hi;simp only [CF,QP] at hi;have hg:=R.given;have hgd:=aI ((0,false,0):a6) (xs:=s.2.2.2) (i:=i) (by omega) (by omega);have hbad:=gC.1 (hg.2 _ hgd);refine R.setHands (kg.2 ⟨by simpa using hg.1,fun x hx=>?_⟩) fun x hx h1=>?_
 ·rcases Rb hx with hx | rfl
  ·exact hg.2 x hx
  ·unfold mc;exact gC.2 ⟨by simp only; omega,by have:=hi.2; simp only; omega,by simp only; omega,by simp only; omega,(fun _=>by simp only; omega),fun e=>by cases e⟩
 ·rcases Rb hx with hx | rfl
  ·exact R.handB hx h1
  ·exact O.isb
theorem I6 (R:Right s) {v a:Int} (e:(jV s v a).2=0):Right (jV s v a).1:=by
 unfold jV at e |-;split at e
 ·rename_i h; exact absurd e h
 rename_i h;rw [if_neg h];split at e
 ·rename_i h2; exact absurd e h2
 rename_i h2;rw [if_neg h2];refine R.setRoot (.inr ?_);unfold iq at h2 |-;split at h2
 ·rename_i h3; exact absurd h3 h2
 rename_i h3;rw [if_neg h3];simp only;unfold cp at h3 |-;split at h3
 ·rename_i h4; exact absurd h4 h3
 rename_i h4;rw [if_neg h4];split at h3
 ·rename_i h5;rw [if_pos h5];simp only;exact R.handB (aI ((0,false,0):a6) (by omega) (by omega)) h5.2.1
 ·simp at h3
theorem Gl (R:Right s) {v:Int} (e:(fL s v).2=0):Right (fL s v).1:=by
 unfold fL at e |-;split at e
 ·rename_i h; exact absurd e h
 rename_i h;rw [if_neg h];split at e
 ·rename_i h2; exact absurd e h2
 rename_i h2;rw [if_neg h2];unfold closeF at h2 |-;split at h2
 ·rename_i h3; exact absurd h3 h2
 rename_i h3;rw [if_neg h3];simp only;have hg:=R.given;refine R.setHands (kg.2 ⟨by simpa using hg.1,fun x hx=>?_⟩) fun x hx h1=>?_
 ·rcases Rb hx with hx | rfl
  ·exact hg.2 x hx
  ·by_cases hlt:(cp s.2.2.2 v).1.toNat<s.2.2.2.length
   ·have hgd:=List.getElem_mem hlt;have hbad:=gC.1 (hg.2 _ hgd);rw [List.getD_eq_getElem?_getD,List.getElem?_eq_getElem hlt];exact gC.2 ⟨hbad.1,hbad.2.1,RX _,(show (0:Int)<=255 by decide),(fun e=>by cases e),fun _=>rfl⟩
   ·rw [List.getD_eq_getElem?_getD,List.getElem?_eq_none (by omega)];exact gC.2 ⟨RX _,(show (0:Int)<=65535 by decide),RX _,(show (0:Int)<=255 by decide),(fun e=>by cases e),fun _=>rfl⟩
 ·rcases Rb hx with hx | rfl
  ·exact R.handB hx h1
  ·cases h1
theorem Hj (R:Right s) {a:Int} (e:(fu s a).2=0):Right (fu s a).1:=by
 unfold fu at e |-;split at e
 ·rename_i h; exact absurd e h
 rename_i h;rw [if_neg h];exact R.setRoot (.inl rfl)
theorem Hm (R:Right s) {k a b c v:Int} (hk:1<=k/\k<=13) (hv:ak .u64 v) (e:(deed s k a b c v).2.2=0):Right (deed s k a b c v).1:=by
 have hk:k=1\/k=2\/k=3\/k=4\/k=5\/k=6\/k=7\/k=8\/k=9\/k=10\/k=11\/k=12\/k=13:=by omega
 rcases hk with rfl | rfl | rfl | rfl | rfl | rfl | rfl | rfl | rfl | rfl | rfl | rfl | rfl
 ·rw [zJ] at e |-; exact R.make e
 ·rw [EZ]; exact R.swept
 ·rw [EY] at e |-; exact JL R e
 ·rw [EX] at e |-; exact JF R e
 ·rw [zI] at e |-;split at e
  ·rename_i h; exact absurd e h
  rename_i h;rw [if_neg h];exact R
 ·rw [zH] at e |-; exact JN R hv e
 ·rw [EW] at e |-; exact JP R e
 ·rw [EV] at e |-; exact Cy R e
 ·rw [EU] at e |-;split at e
  ·rename_i h; exact absurd e h
  rename_i h;rw [if_neg h];exact R
 ·rw [w7] at e |-; exact GB R e
 ·rw [w6] at e |-; exact I6 R e
 ·rw [w5] at e |-; exact Gl R e
 ·rw [wZ] at e |-; exact Hj R e
theorem qD {k a b c v:Int} (h:¬ cm k a b c v=true):1<=k/\k<=13:=by
 unfold cm at h;simp only [Ri,QP,not_or] at h;omega
theorem Hl (R:Right s) {k a b c v:Int} (hv:ak .u64 v) (e:(bv s k a b c v).2.2=0):Right (bv s k a b c v).1:=by
 unfold bv at e |-;split at e
 ·simp at e
 rename_i h1;rw [if_neg h1];split at e
 ·rename_i h2; exact absurd e h2
 rename_i h2;rw [if_neg h2];exact Hm R (qD h1) hv e
end
end
section
theorem Kg {w r h:Int} (e:(au w r h).2=0):Right (au w r h).1/\Given [] (au w r h).1.2.2.2:=by
 unfold au at e |-;split at e
 ·simp at e
 rename_i h1;split at e
 ·simp at e
 rename_i h2;split at e
 ·simp at e
 rename_i h3;rw [if_neg h1,if_neg h2,if_neg h3]
 have hA:kc w=bY w:=by
  unfold kc bY;split
  ·obtain ⟨n,hn⟩:∃ n:Nat,w=(n:Int)+1:=⟨(w - 1).toNat,by omega⟩;subst hn;rw [show ((n:Int)+1).toNat=n+1 by omega,show ((n:Int)+1 - 1).toNat=n by omega];rfl
  ·rw [show w.toNat=0 by omega];rfl
 have hsp:ac (kc w)=((if 0<w then [aE 0 w] else []),0):=by
  refine lE (by rw [hA,bQ]; omega) ?_;have:=gO (at_:=0) (k:=w) (R:=[]) (by omega);rw [Q8] at this;rw [hA,this];split
  ·rw [spotsS]; rfl
  ·rw [spotsS]
 have G:=Given.new h.toNat (by omega);refine ⟨⟨?_,nC hsp (fun s hs v hv=>?_),AQ (by simp only; omega) ?_ (by simp only [QV]; omega) (fun v hv=>?_),rfl,kg.2 ⟨G.len,G.ok⟩,fun x hx=>?_⟩,G⟩
 ·simp only;rw [hA];exact lO (by omega)
 ·split at hs
  ·rw [QA.1 hs] at hv;unfold aQ aE at hv;simp only [Int.add_zero] at hv;rw [QX (by rw [QD]; omega)] at hv;cases hv
  ·cases hs
 ·simp only;rw [hA,bQ];omega
 ·rw [RB hv];omega
 ·rcases cu.1 hx with ⟨h,h0⟩ | ⟨y,h,h1,_⟩ | ⟨p,h,_⟩
  ·rw [RB h] at h0;omega
  ·rw [RB h] at h1;cases h1
  ·cases h
end
section
set_option maxHeartbeats 4000000
abbrev IK:=Int×Int×Int×Int×Int
abbrev nM:Ty:=.pair ty_I bi
abbrev oU:=Int×Int
theorem JC {α:Type} {P:List α->Prop} (h0:P []) (h1:∀ l x,P l->P (l++[x])) (l:List α):P l:=by
 have h:∀ k:List α,P k.reverse:=fun k=>by
  induction k with
  | nil=>exact h0
  | cons x k ih=>rw [List.reverse_cons]; exact h1 _ _ ih
 have:=h l.reverse
 rwa [List.reverse_reverse] at this
def qy (p:ah×List oU) (o:IK):ah×List oU :=
 (if (bv p.1 o.1 o.2.1 o.2.2.1 o.2.2.2.1 o.2.2.2.2).2.2=0 then (bv p.1 o.1 o.2.1 o.2.2.1 o.2.2.2.1 o.2.2.2.2).1 else p.1,
  p.2++[((bv p.1 o.1 o.2.1 o.2.2.1 o.2.2.2.1 o.2.2.2.2).2.2,(bv p.1 o.1 o.2.1 o.2.2.1 o.2.2.2.1 o.2.2.2.2).2.1)])
def i7 (s:ah) (l:List IK):ah×List oU:=l.foldl qy (s,[])
def j8 (s:ah) (l:List IK):Int:=if ar s≠0 then ar s else if 200<l.length then 2 else 0
def d8 (s:ah) (l:List IK):ah×List oU×Int:=if j8 s l≠0 then (ay,[],j8 s l) else ((i7 s l).1,(i7 s l).2,0)
def OJ:Nat->Option LoopGen
 | 4000001=>some cY
 | _=>none
def NI:Spec:={ Ts:=[aH],Rs:=[.dat aH],al:=true,pre:=fun _=>True,F:=fun (s:ah)=>s }
def HY:Prop :=
  ∀ (x:List Int×List Int×List (Int×Int)×List (Int×Bool×Int)),(oT x)->True->True/\True/\True/\x.2.1=x.2.1/\x.2.2.1=x.2.2.1/\x.2.2.1=x.2.2.1/\x.2.2.2=x.2.2.2/\x.2.2.2=x.2.2.2/\x.2.2.2=x.2.2.2/\True/\x=x/\True
theorem K4:HY:=by
 unfold HY;intro s _ _;simp
theorem N3:NI.ok Tryz.prog 81:=aD (ann:=OJ) (ae bK (ae cg (ae bX (ae bL ap)))) Tryz.func81 (by kernel_rfl) K4
theorem vN (s:ah) (l:List IK) (o:IK):i7 s (l++[o])=qy (i7 s l) o:=by simp [i7]
theorem LX (s:ah) (l:List IK):((decide (ar s=0)&&decide ((200:Int)<l.length))=true->2=j8 s l)/\((decide (ar s=0)&&decide ((200:Int)<l.length))=false->ar s=j8 s l):=by
 unfold j8;simp only [CF,QP,R6,Rh];refine ⟨fun h=>?_,fun h=>?_⟩
 ·rw [if_neg (by omega),if_pos (by omega)]
 ·by_cases h0:ar s≠0
  ·rw [if_pos h0]
  ·rw [if_neg h0,if_neg (by omega)];omega
theorem DT {s:ah} {l:List IK} (h:j8 s l=0):ar s=0/\l.length<=200:=by
 unfold j8 at h;split at h
 ·omega
 ·split at h <;> omega
def Nl:Nat->Option LoopGen
 | 1000003=>some { rd:=[.dat 0 aH,.dat 1 (.arr pO)],A:=fun ((s,l):ah×List IK)=>{ cs:=[.dat 7 ty_I],inv:=fun (e:Int)=>e=j8 s l,mu:=fun _=>0 } }
 | 9=>some { rd:=[.dat 0 aH,.dat 29 (.arr pO)],A:=fun ((s,l):ah×List IK)=>{ cs:=[.box 2 aH,.own 8 75 nM,.dat 31 ty_I],inv:=fun ((x,o,i):ah×List oU×Int)=>0<=i/\i<=l.length/\l.length<=200/\o.length=i.toNat/\(x,o)=i7 s (l.take i.toNat),mu:=fun ((_,_,i):ah×List oU×Int)=>(l.length - i).toNat } }
 | _=>none
def Lz:Spec:={ Ts:=[aH,.arr pO],Rs:=[.dat aH,.dat (.arr nM),.dat ty_I],al:=true,pre:=fun _=>True,F:=fun ((s,l):ah×List IK)=>d8 s l }
def DI:Prop :=
  ∀ (x:(List Int×List Int×List (Int×Int)×List (Int×Bool×Int))×List (Int×Int×Int×Int×Int)),((oT x.1)/\x.2.length * (8+(8+(8+(8+8))))<=aK/\∀ (x_1:Int×Int×Int×Int×Int),x_1∈x.2->ak .i64 x_1.1/\ak .i64 x_1.2.1/\ak .i64 x_1.2.2.1/\ak .i64 x_1.2.2.2.1/\ak .u64 x_1.2.2.2.2)->True->True/\(((decide (ar x.1=0)&&decide (200<(x.2.length:Int)))=true->2=j8 x.1 x.2)/\((decide (ar x.1=0)&&decide (200<(x.2.length:Int)))=false->ar x.1=j8 x.1 x.2))/\∀ (x_1:Int),x_1=j8 x.1 x.2->(decide (x_1≠0)=true->(([]:List Int),([]:List Int),([]:List (Int×Int)),([]:List (Int×Bool×Int)))=(d8 x.1 x.2).1/\([]:List (Int×Int))=(d8 x.1 x.2).2.1/\x_1=(d8 x.1 x.2).2.2/\True)/\(decide (x_1≠0)=false->True/\((0:Int)<=0/\0<=(x.2.length:Int)/\x.2.length<=200/\0=Int.toNat 0/\(x.1,([]:List (Int×Int)))=i7 x.1 (List.take (Int.toNat 0) x.2))/\∀ (x_2:(List Int×List Int×List (Int×Int)×List (Int×Bool×Int))×List (Int×Int)×Int),(fun (v1:type_of% (x.2.getD x_2.2.2.toNat (0,0,0,0,0)))=>(fun (v0:type_of% (bv x_2.1 v1.1 v1.2.1 v1.2.2.1 v1.2.2.2.1 v1.2.2.2.2))=>0<=x_2.2.2/\x_2.2.2<=(x.2.length:Int)/\x.2.length<=200/\x_2.2.1.length=x_2.2.2.toNat/\(x_2.1,x_2.2.1)=i7 x.1 (List.take x_2.2.2.toNat x.2)->(decide (x_2.2.2<(x.2.length:Int))=true->0<=x_2.2.2/\x_2.2.2<(x.2.length:Int)/\True/\(decide (v0.2.2=0)=true->(x_2.2.1.length+[(v0.2.2,v0.2.1)].length) * (8+8)<=aK/\ak .i64 (x_2.2.2+1)/\(0<=x_2.2.2+1/\x_2.2.2+1<=(x.2.length:Int)/\x.2.length<=200/\(x_2.2.1++[(v0.2.2,v0.2.1)]).length=(x_2.2.2+1).toNat/\(v0.1,x_2.2.1++[(v0.2.2,v0.2.1)])=i7 x.1 (List.take (x_2.2.2+1).toNat x.2))/\((x.2.length:Int) - (x_2.2.2+1)).toNat<((x.2.length:Int) - x_2.2.2).toNat)/\(decide (v0.2.2=0)=false->(x_2.2.1.length+[(v0.2.2,v0.2.1)].length) * (8+8)<=aK/\ak .i64 (x_2.2.2+1)/\(0<=x_2.2.2+1/\x_2.2.2+1<=(x.2.length:Int)/\x.2.length<=200/\(x_2.2.1++[(v0.2.2,v0.2.1)]).length=(x_2.2.2+1).toNat/\(x_2.1,x_2.2.1++[(v0.2.2,v0.2.1)])=i7 x.1 (List.take (x_2.2.2+1).toNat x.2))/\((x.2.length:Int) - (x_2.2.2+1)).toNat<((x.2.length:Int) - x_2.2.2).toNat))/\(decide (x_2.2.2<(x.2.length:Int))=false->x_2.1=(d8 x.1 x.2).1/\x_2.2.1=(d8 x.1 x.2).2.1/\0=(d8 x.1 x.2).2.2/\True)) (bv x_2.1 v1.1 v1.2.1 v1.2.2.1 v1.2.2.2.1 v1.2.2.2.2)) (x.2.getD x_2.2.2.toNat (0,0,0,0,0)))
theorem IW:DI:=by
 unfold DI;intro ⟨s,l⟩ _ _;simp only;have hF:d8 s l=if j8 s l≠0 then (ay,[],j8 s l) else ((i7 s l).1,(i7 s l).2,0):=rfl
 refine ⟨trivial,LX s l,fun e he=>⟨fun h=>?_,fun h=>⟨trivial,⟨by omega,by omega,?_,rfl,rfl⟩,fun ⟨x,o,i⟩ ⟨i0,i1,i2,i3,i4⟩=>⟨fun hlt=>?_,fun hge=>?_⟩⟩⟩⟩
 ·have h:=tM h;rw [hF,if_pos (by rw [<- he]; exact h),he];exact ⟨rfl,rfl,rfl,trivial⟩
 ·have h:=uZ h;exact (DT (by rw [<- he]; simpa using h)).2
 ·simp only at i0 i1 i2 i3 i4 hlt |-;have hlt:=tM hlt;rw [a8 ((0,0,0,0,0):IK) i0 hlt,vN,<- i4];generalize l.getD i.toNat (0,0,0,0,0)=r at *;unfold qy;simp only;generalize bv x r.1 r.2.1 r.2.2.1 r.2.2.2.1 r.2.2.2.2=y at *;unfold aK;simp only [ak,KK,HN,QQ];refine ⟨i0,hlt,trivial,fun hc=>⟨by omega,by omega,⟨by omega,by omega,i2,by omega,?_⟩,by omega⟩,fun hc=>⟨by omega,by omega,⟨by omega,by omega,i2,by omega,?_⟩,by omega⟩⟩
  ·rw [if_pos (tM hc)]
  ·rw [if_neg (uZ hc)]
 ·simp only at i4 hge |-;rw [bT (uZ hge)] at i4;have h:=uZ h;rw [hF,if_neg (by rw [<- he]; exact h),<- i4];exact ⟨rfl,rfl,rfl,trivial⟩
theorem Mh:Lz.ok Tryz.prog 21:=aD (ann:=Nl) (ae eA (ae N3 (ae Mk ap))) Tryz.func21 (by kernel_rfl) IW
end
section
theorem Right.ok {s:ah} (R:Right s):ar s=0:=by
 unfold ar;rw [if_neg (by have:=R.chk; omega),if_neg (by have:=R.root; omega),if_neg (by have:=R.pin; omega),if_neg (by have:=R.hand; omega)];exact jF R.chk R.nam
section
variable {a keep pinned long:List Int}
end
theorem zt {s:ah} (R:Right s) {slot:Int} {h:dY} (hh:fe h=0) (ht:(gt s slot h).2=true):(gt s slot h).1.1.length=s.1.length/\(gt s slot h).1.2.1.length=s.2.1.length:=by
 obtain ⟨h0,hf⟩:=Ir hh;unfold gt ie at ht |-;split at ht
 ·simp at ht
 ·rename_i r hr;have hm:=List.mem_of_find?_eq_some hr;have hle:aa h<=r.2:=by simpa using List.find?_some hr
  obtain ⟨p1,p2,p3,p4,p5⟩:=tk R.w R.chk hm h0 hf hle;exact ⟨p3,by simp⟩
theorem Right.sweptSize {s:ah} (R:Right s):(ig s).1.length=s.1.length/\(ig s).2.1.length=s.2.1.length:=⟨R.slidOK.2.1,by simp [ig]⟩
theorem KI {s:ah} (R:Right s) {k a b c v:Int} (e:(bv s k a b c v).2.2=0):(bv s k a b c v).1.1.length=s.1.length/\(bv s k a b c v).1.2.1.length=s.2.1.length:=by
 unfold bv at e |-;split at e
 ·simp at e
 rename_i h1;rw [if_neg h1];split at e
 ·rename_i h2; exact absurd e h2
 rename_i h2;rw [if_neg h2];have hk:=qD h1;have hk:k=1\/k=2\/k=3\/k=4\/k=5\/k=6\/k=7\/k=8\/k=9\/k=10\/k=11\/k=12\/k=13:=by omega
 clear h1;rcases hk with rfl | rfl | rfl | rfl | rfl | rfl | rfl | rfl | rfl | rfl | rfl | rfl | rfl
 ·rw [zJ] at e |-;simp only at e |-;unfold bf at e |-;split at e
  ·rename_i h1; exact absurd e h1
  rename_i h1;split at e
  ·rename_i h2; exact absurd e h2
  rename_i h2;rw [if_neg h1,if_neg h2];have hh:fe (b,c,v % 65536,false)=0:=by omega
  split at e
  ·rename_i h3;rw [if_pos h3];exact zt R hh h3
  rename_i h3;rw [if_neg h3];split at e
  ·rename_i h4;rw [if_pos h4];have z:=zt R.swept hh h4;have y:=R.sweptSize;exact ⟨z.1.trans y.1,z.2.trans y.2⟩
  ·simp at e
 ·rw [EZ]; exact R.sweptSize
 ·rw [EY] at e |-;simp only at e |-;unfold lj at e |-;split at e
  ·rename_i h; exact absurd e h
  rename_i h;rw [if_neg h];simp
 ·rw [EX] at e |-;simp only at e |-;unfold ld at e |-;split at e
  ·rename_i h; exact absurd e h
  rename_i h;rw [if_neg h];simp
 ·rw [zI] at e |-;split at e
  ·rename_i h; exact absurd e h
  rename_i h;rw [if_neg h];simp
 ·rw [zH] at e |-;simp only at e |-;unfold j7 at e |-;split at e
  ·rename_i h; exact absurd e h
  rename_i h;rw [if_neg h];simp
 ·rw [EW] at e |-;unfold ja at e |-;split at e
  ·rename_i h; exact absurd e h
  rename_i h;rw [if_neg h];split at e
  ·rename_i h2; exact absurd e h2
  rename_i h2;rw [if_neg h2];simp
 ·rw [EV] at e |-;simp only at e |-;unfold cZ at e |-;split at e
  ·rename_i h; exact absurd e h
  rename_i h;rw [if_neg h];split at e
  ·rename_i h2; exact absurd e h2
  rename_i h2;rw [if_neg h2];simp
 ·rw [EU] at e |-;split at e
  ·rename_i h; exact absurd e h
  rename_i h;rw [if_neg h];simp
 ·rw [w7] at e |-;unfold fF at e |-;split at e
  ·rename_i h; exact absurd e h
  rename_i h;rw [if_neg h];split at e
  ·rename_i h2; exact absurd e h2
  rename_i h2;rw [if_neg h2];simp
 ·rw [w6] at e |-;simp only at e |-;unfold jV at e |-;split at e
  ·rename_i h; exact absurd e h
  rename_i h;rw [if_neg h];split at e
  ·rename_i h2; exact absurd e h2
  rename_i h2;rw [if_neg h2];simp
 ·rw [w5] at e |-;simp only at e |-;unfold fL at e |-;split at e
  ·rename_i h; exact absurd e h
  rename_i h;rw [if_neg h];split at e
  ·rename_i h2; exact absurd e h2
  rename_i h2;rw [if_neg h2];simp
 ·rw [wZ] at e |-;simp only at e |-;unfold fu at e |-;split at e
  ·rename_i h; exact absurd e h
  rename_i h;rw [if_neg h];simp
theorem Gw {s:ah} (R:Right s):∀ l:List IK,(∀ o∈l,ak .u64 o.2.2.2.2)->Right (i7 s l).1/\(i7 s l).1.1.length=s.1.length/\(i7 s l).1.2.1.length=s.2.1.length:=by
 intro l
 induction l using JC with
 | h0=>exact fun _=>⟨R,rfl,rfl⟩
 | h1 l o ih =>
  intro hl;obtain ⟨r1,r2,r3⟩:=ih fun o ho=>hl o (by simp [ho])
  rw [vN];unfold qy;split
  ·rename_i h;have z:=KI r1 h;exact ⟨Hl r1 (hl o (by simp)) h,z.1.trans r2,z.2.trans r3⟩
  ·exact ⟨r1,r2,r3⟩
theorem NZ {s:ah} (R:Right s) {l:List IK} (hl:l.length<=200):d8 s l=((i7 s l).1,(i7 s l).2,0):=by
 have h:j8 s l=0:=by
  unfold j8;rw [if_neg (by have:=R.ok; omega),if_neg (by omega)]
 unfold d8;rw [if_neg (by omega)]
end
section
def Er (e:Int):Prop:=0<=e/\e<=12
theorem MX (a:List Int):Er (ac a).2:=by
 unfold ac Er;split
 ·simp
 ·split <;> simp
theorem wT (a:List Int):Er (am a).2.2:=by
 have h:=MX a;unfold am;split
 ·exact h
 ·split <;> simp [Er]
theorem Om (r:List Int) (n:Int):Er (aG r n):=by
 unfold aG Er;split
 ·omega
 split
 ·omega
 split <;> omega
theorem wR:∀ (p:List bh) (q:Int),Er (cV q p)
 | [],_=>by simp [cV,Er]
 | x::p,q=>by
  unfold cV;split
  ·simp [Er]
  split
  ·simp [Er]
  ·exact wR p x.1
theorem Iw (p:List bh):Er (bU p):=by
 unfold bU;split
 ·simp [Er]
 ·exact wR p _
theorem EN:∀ (h:List a6),Er (bz h)
 | []=>by simp [bz,Er]
 | s::h=>by
  unfold bz;split
  ·unfold eE Er;split
   ·omega
   split <;> omega
  ·exact EN h
theorem wS (h:List a6):Er (aM h):=by
 unfold aM;split
 ·simp [Er]
 ·exact EN h
theorem Ov (a f:List Int):Er (bb a f):=by
 have h:=wT a;unfold bb;split
 ·exact h
 split <;> simp [Er]
theorem kj (s:ah):Er (ar s):=by
 unfold ar;split
 ·exact wT _
 split
 ·exact Om _ _
 split
 ·exact Iw _
 split
 ·exact wS _
 ·exact Ov _ _
theorem BH (s:ah) (k:Int):Er (bM s k):=by
 unfold bM;split
 ·exact kj s
 split <;> simp [Er]
theorem BI (s:ah) (k:Int):Er (bw s k):=by
 unfold bw;split
 ·exact kj s
 split <;> simp [Er]
theorem MY (s:ah) (a b c:Int):Er (bC s a b c):=by
 unfold bC;split
 ·exact BI s a
 split
 ·simp [Er]
 split <;> simp [Er]
theorem Iy (s:ah) (a b:Int):Er (aP s a b):=by
 unfold aP;split
 ·exact BI s a
 split <;> simp [Er]
theorem On (s:ah) (a b:Int):Er (cr s a b):=by
 unfold cr;split
 ·exact kj s
 split
 ·simp [Er]
 split <;> simp [Er]
theorem Ou (h:dY):Er (fe h):=by
 unfold fe;split
 ·unfold af Er;split
  ·omega
  split
  ·omega
  split <;> omega
 split <;> simp [Er]
theorem EO (p:List bh) (k:Int):Er (aF p k).2.2:=by
 unfold aF;split
 ·exact Iw p
 split <;> simp [Er]
theorem PA (p:List bh) (k:Int):Er (gK p k).2.2:=by
 unfold gK;split
 ·exact EO p k
 split <;> simp [Er]
theorem Ow (p:List bh) (k:Int):Er (dO p k).2.2:=by
 unfold dO;split
 ·exact EO p k
 split <;> simp [Er]
theorem Oo (h:List a6) (a:Int):Er (openF h a).2.2:=by
 unfold openF;split
 ·exact wS h
 split
 ·simp [Er]
 split <;> simp [Er]
theorem Ix (h:List a6) (n:Int):Er (cp h n).2:=by
 unfold cp;split
 ·exact wS h
 split <;> simp [Er]
theorem Ot (h:List a6) (n:Int):Er (iq h n).2:=by
 unfold iq;split
 ·exact Ix h n
 ·simp [Er]
theorem MZ (h:List a6) (n:Int):Er (closeF h n).2:=by
 unfold closeF;split
 ·exact Ix h n
 ·simp [Er]
theorem Oq (s:ah) (k:Int) (h:dY):Er (bf s k h).2.2:=by
 unfold bf;split
 ·exact BH s k
 split
 ·exact Ou h
 split
 ·simp [Er]
 split <;> simp [Er]
theorem Oy (s:ah) (k a b c v:Int) (hk:1<=k/\k<=13):Er (deed s k a b c v).2.2:=by
 have hk:k=1\/k=2\/k=3\/k=4\/k=5\/k=6\/k=7\/k=8\/k=9\/k=10\/k=11\/k=12\/k=13:=by omega
 have z:Er 0:=by simp [Er]
 rcases hk with rfl | rfl | rfl | rfl | rfl | rfl | rfl | rfl | rfl | rfl | rfl | rfl | rfl
 ·rw [zJ]; exact Oq ..
 ·rw [EZ]; exact z
 ·rw [EY]; unfold lj; split; exact MY ..; exact z
 ·rw [EX]; unfold ld; split; exact MY ..; exact z
 ·rw [zI]; split; exact Iy ..; exact z
 ·rw [zH]; unfold j7; split; exact Iy ..; exact z
 ·rw [EW]; unfold ja; split; exact BI ..; split; exact PA ..; exact z
 ·rw [EV]; unfold cZ; split; exact kj ..; split; exact Ow ..; exact z
 ·rw [EU]; split; exact On ..; exact z
 ·rw [w7]; unfold fF; split; exact BI ..; split; exact Oo ..; exact z
 ·rw [w6]; unfold jV; split; exact BH ..; split; exact Ot ..; exact z
 ·rw [w5]; unfold fL; split; exact kj ..; split; exact MZ ..; exact z
 ·rw [wZ]; unfold fu; split; exact BH ..; exact z
theorem Ox (s:ah) (k a b c v:Int):Er (bv s k a b c v).2.2:=by
 unfold bv;split
 ·simp [Er]
 rename_i h;split
 ·exact kj s
 ·exact Oy _ _ _ _ _ _ (qD h)
theorem Hk {s:ah} {k a b c v:Int} (e:(bv s k a b c v).2.2=0):(bv s k a b c v).1.2.1.length=s.2.1.length:=by
 unfold bv at e |-;split at e
 ·simp at e
 rename_i h1;rw [if_neg h1];split at e
 ·rename_i h2; exact absurd e h2
 rename_i h2;rw [if_neg h2];have hk:=qD h1;have hk:k=1\/k=2\/k=3\/k=4\/k=5\/k=6\/k=7\/k=8\/k=9\/k=10\/k=11\/k=12\/k=13:=by omega
 clear h1;rcases hk with rfl | rfl | rfl | rfl | rfl | rfl | rfl | rfl | rfl | rfl | rfl | rfl | rfl
 ·rw [zJ] at e |-;simp only at e |-;unfold bf gt ig at e |-
  repeat' split
  all_goals simp_all
 ·rw [EZ]; simp [dg,ig]
 ·rw [EY] at e |-;unfold lj at e |-
  repeat' split
  all_goals simp_all
 ·rw [EX] at e |-;unfold ld at e |-
  repeat' split
  all_goals simp_all
 ·rw [zI] at e |-
  repeat' split
  all_goals simp_all
 ·rw [zH] at e |-;unfold j7 at e |-
  repeat' split
  all_goals simp_all
 ·rw [EW] at e |-;unfold ja at e |-
  repeat' split
  all_goals simp_all
 ·rw [EV] at e |-;unfold cZ at e |-
  repeat' split
  all_goals simp_all
 ·rw [EU] at e |-
  repeat' split
  all_goals simp_all
 ·rw [w7] at e |-;unfold fF at e |-
  repeat' split
  all_goals simp_all
 ·rw [w6] at e |-;unfold jV at e |-
  repeat' split
  all_goals simp_all
 ·rw [w5] at e |-;unfold fL at e |-
  repeat' split
  all_goals simp_all
 ·rw [wZ] at e |-;unfold fu at e |-
  repeat' split
  all_goals simp_all
theorem Kf {w r h:Int} (e:(au w r h).2=0):(au w r h).1.2.1.length<=32:=by
 unfold au at e |-
 repeat' split
 all_goals simp_all
end
end Go.Proofs.YtmfileeamnfpaaaGreatDoor
