import Derived.Test.YtmfileeamnfpaaaGreatDoorM2
import Derived.WalkKit
namespace Go.Proofs.YtmfileeamnfpaaaGreatDoor
open Go
set_option maxRecDepth 100000
set_option maxHeartbeats 1000000
section
def zV:Nat->Option LoopGen
 | 5000004=>some { rd:=[.box 1 aG],A:=fun (s:ah)=>{ cs:=[.own 9 3 ty_I,.own 10 3 ty_I],inv:=fun ((ra,ha):List Int×List Int)=>ra=List.replicate s.1.length 0/\ha=List.replicate 256 0,mu:=fun _=>0 } }
 | 6=>some { wr:=[9,10],rd:=[.box 1 aG],A:=fun (s:ah)=>{ cs:=[.own 9 3 ty_I,.own 10 3 ty_I,.dat 42 ty_I],inv:=fun ((ra,ha,i):List Int×List Int×Int)=>0<=i/\i<=(ai s).length/\ra=bR (List.replicate s.1.length 0) ((ai s).take i.toNat) (kV s)/\ha=bR (List.replicate 256 0) ((ai s).take i.toNat) (kV s),mu:=fun ((_,_,i):List Int×List Int×Int)=>((ai s).length - i).toNat } }
 | 15=>some { rd:=[.own 86 105 jp],A:=fun (g:List cR)=>{ cs:=[.dat 13 ty_I,.dat 88 ty_I],inv:=fun ((n,i):Int×Int)=>0<=i/\i<=g.length/\g.length<=256/\(∀ r∈g,0<=r.2/\r.2<=256)/\n=dC (g.take i.toNat)/\0<=n/\n<=256 * i,mu:=fun ((_,i):Int×Int)=>(g.length - i).toNat } }
 | _=>none
def yr:Spec:={ Ts:=[aG],Rs:=[.dat aG,.dat ty_I],al:=true,pre:=fun (s:ah)=>au s=0,F:=cW }
def oO:Prop :=
  ∀ (x:List Int×List Int×List (Int×Int)×List (Int×Bool×Int)),(ol x)->au x=0->(x.2.1.length<=32/\x.2.2.1.length<=16/\x.2.2.2.length<=16)/\True/\((ai x).length+(List.map (fun (x:bj)=>x.1) x.2.2.1).length) * 8<=140737488355328/\True/\((((0<=(x.1.length:Int)/\(x.1.length:Int).toNat * 8<=aL/\((0:Int)<=256/\Int.toNat 256 * 8<=aL/\((List.replicate (x.1.length:Int).toNat (0:Int)=List.replicate x.1.length (0:Int)/\List.replicate (Int.toNat 256) (0:Int)=List.replicate 256 (0:Int))/\True)/\True)/\(((0:Int)<=256/\Int.toNat 256 * 8<=aL/\(List.replicate (x.1.length:Int).toNat (0:Int)=List.replicate x.1.length (0:Int)/\List.replicate (Int.toNat 256) (0:Int)=List.replicate 256 (0:Int))/\True)/\True)/\True)/\((0:Int)<=256/\Int.toNat 256 * 8<=aL/\(0<=(x.1.length:Int)/\(x.1.length:Int).toNat * 8<=aL/\((List.replicate (x.1.length:Int).toNat (0:Int)=List.replicate x.1.length (0:Int)/\List.replicate (Int.toNat 256) (0:Int)=List.replicate 256 (0:Int))/\True)/\True)/\True)/\True)/\((0:Int)<=256/\Int.toNat 256 * 8<=aL/\((0<=(x.1.length:Int)/\(x.1.length:Int).toNat * 8<=aL/\((List.replicate (x.1.length:Int).toNat (0:Int)=List.replicate x.1.length (0:Int)/\List.replicate (Int.toNat 256) (0:Int)=List.replicate 256 (0:Int))/\True)/\True)/\True)/\True)/\True)/\((0:Int)<=256/\Int.toNat 256 * 8<=aL/\(((0<=(x.1.length:Int)/\(x.1.length:Int).toNat * 8<=aL/\((List.replicate (x.1.length:Int).toNat (0:Int)=List.replicate x.1.length (0:Int)/\List.replicate (Int.toNat 256) (0:Int)=List.replicate 256 (0:Int))/\True)/\True)/\True)/\True)/\True)/\True)/\∀ (x_1:List Int×List Int),x_1.1=List.replicate x.1.length (0:Int)/\x_1.2=List.replicate 256 (0:Int)->((0:Int)<=0/\0<=(↑(ai x).length:Int)/\x_1.1=bR (List.replicate x.1.length (0:Int)) (List.take (Int.toNat 0) (ai x)) (kV x)/\x_1.2=bR (List.replicate 256 (0:Int)) (List.take (Int.toNat 0) (ai x)) (kV x))/\∀ (x_2:List Int×List Int×Int),0<=x_2.2.2/\x_2.2.2<=(↑(ai x).length:Int)/\x_2.1=bR (List.replicate x.1.length (0:Int)) (List.take x_2.2.2.toNat (ai x)) (kV x)/\x_2.2.1=bR (List.replicate 256 (0:Int)) (List.take x_2.2.2.toNat (ai x)) (kV x)->(decide (x_2.2.2<(↑(ai x).length:Int))=true->0<=x_2.2.2/\x_2.2.2<(↑(ai x).length:Int)/\x_2.2.2.toNat<(ai x).length/\0<=x_2.2.2/\x_2.2.2<(↑(aq x.1 (ai x) (List.map (fun (x:bj)=>x.1) x.2.2.1)).2.1.length:Int)/\0<=x_2.2.2/\x_2.2.2<(↑(aq x.1 (ai x) (List.map (fun (x:bj)=>x.1) x.2.2.1)).2.1.length:Int)/\0<=(ai x).getD x_2.2.2.toNat 0/\(ai x).getD x_2.2.2.toNat 0<(x_2.1.length:Int)/\((ai x).getD x_2.2.2.toNat 0).toNat<x_2.1.length/\(ai x).getD x_2.2.2.toNat 0=(ai x).getD x_2.2.2.toNat 0/\0<=(ai x).getD x_2.2.2.toNat 0/\(ai x).getD x_2.2.2.toNat 0<(x_2.2.1.length:Int)/\((ai x).getD x_2.2.2.toNat 0).toNat<x_2.2.1.length/\am .i64 (x_2.2.2+1)/\(0<=x_2.2.2+1/\x_2.2.2+1<=(↑(ai x).length:Int)/\x_2.1.set ((ai x).getD x_2.2.2.toNat 0).toNat ((aq x.1 (ai x) (List.map (fun (x:bj)=>x.1) x.2.2.1)).2.1.getD x_2.2.2.toNat 0)=bR (List.replicate x.1.length (0:Int)) (List.take (x_2.2.2+1).toNat (ai x)) (kV x)/\x_2.2.1.set ((ai x).getD x_2.2.2.toNat 0).toNat ((aq x.1 (ai x) (List.map (fun (x:bj)=>x.1) x.2.2.1)).2.1.getD x_2.2.2.toNat 0)=bR (List.replicate 256 (0:Int)) (List.take (x_2.2.2+1).toNat (ai x)) (kV x))/\((↑(ai x).length:Int) - (x_2.2.2+1)).toNat<((↑(ai x).length:Int) - x_2.2.2).toNat)/\(decide (x_2.2.2<(↑(ai x).length:Int))=false->True/\True/\True/\((0:Int)<=0/\0<=(↑(an (aq x.1 (ai x) (List.map (fun (x:bj)=>x.1) x.2.2.1)).1).1.length:Int)/\(an (aq x.1 (ai x) (List.map (fun (x:bj)=>x.1) x.2.2.1)).1).1.length<=256/\(∀ (r:cR),r∈(an (aq x.1 (ai x) (List.map (fun (x:bj)=>x.1) x.2.2.1)).1).1->0<=r.2/\r.2<=256)/\0=dC (List.take (Int.toNat 0) (an (aq x.1 (ai x) (List.map (fun (x:bj)=>x.1) x.2.2.1)).1).1)/\(0:Int)<=0/\(0:Int)<=256 * 0)/\∀ (x_3:Int×Int),0<=x_3.2/\x_3.2<=(↑(an (aq x.1 (ai x) (List.map (fun (x:bj)=>x.1) x.2.2.1)).1).1.length:Int)/\(an (aq x.1 (ai x) (List.map (fun (x:bj)=>x.1) x.2.2.1)).1).1.length<=256/\(∀ (r:cR),r∈(an (aq x.1 (ai x) (List.map (fun (x:bj)=>x.1) x.2.2.1)).1).1->0<=r.2/\r.2<=256)/\x_3.1=dC (List.take x_3.2.toNat (an (aq x.1 (ai x) (List.map (fun (x:bj)=>x.1) x.2.2.1)).1).1)/\0<=x_3.1/\x_3.1<=256 * x_3.2->(decide (x_3.2<(↑(an (aq x.1 (ai x) (List.map (fun (x:bj)=>x.1) x.2.2.1)).1).1.length:Int))=true->0<=x_3.2/\x_3.2<(↑(an (aq x.1 (ai x) (List.map (fun (x:bj)=>x.1) x.2.2.1)).1).1.length:Int)/\x_3.2.toNat<(an (aq x.1 (ai x) (List.map (fun (x:bj)=>x.1) x.2.2.1)).1).1.length/\am .i64 (x_3.1+((an (aq x.1 (ai x) (List.map (fun (x:bj)=>x.1) x.2.2.1)).1).1.getD x_3.2.toNat (0,0)).2)/\am .i64 (x_3.2+1)/\(0<=x_3.2+1/\x_3.2+1<=(↑(an (aq x.1 (ai x) (List.map (fun (x:bj)=>x.1) x.2.2.1)).1).1.length:Int)/\(an (aq x.1 (ai x) (List.map (fun (x:bj)=>x.1) x.2.2.1)).1).1.length<=256/\(∀ (r:cR),r∈(an (aq x.1 (ai x) (List.map (fun (x:bj)=>x.1) x.2.2.1)).1).1->0<=r.2/\r.2<=256)/\x_3.1+((an (aq x.1 (ai x) (List.map (fun (x:bj)=>x.1) x.2.2.1)).1).1.getD x_3.2.toNat (0,0)).2=dC (List.take (x_3.2+1).toNat (an (aq x.1 (ai x) (List.map (fun (x:bj)=>x.1) x.2.2.1)).1).1)/\0<=x_3.1+((an (aq x.1 (ai x) (List.map (fun (x:bj)=>x.1) x.2.2.1)).1).1.getD x_3.2.toNat (0,0)).2/\x_3.1+((an (aq x.1 (ai x) (List.map (fun (x:bj)=>x.1) x.2.2.1)).1).1.getD x_3.2.toNat (0,0)).2<=256 * (x_3.2+1))/\((↑(an (aq x.1 (ai x) (List.map (fun (x:bj)=>x.1) x.2.2.1)).1).1.length:Int) - (x_3.2+1)).toNat<((↑(an (aq x.1 (ai x) (List.map (fun (x:bj)=>x.1) x.2.2.1)).1).1.length:Int) - x_3.2).toNat)/\(decide (x_3.2<(↑(an (aq x.1 (ai x) (List.map (fun (x:bj)=>x.1) x.2.2.1)).1).1.length:Int))=false->((aq x.1 (ai x) (List.map (fun (x:bj)=>x.1) x.2.2.1)).1,(bf x.2.1 (x.1.length:Int) x_2.1).1,x.2.2.1,(fU x.2.2.2 x_2.2.1).1)=(cW x).1/\x_3.1=(cW x).2/\True))
theorem vl:oO:=by
 unfold oO;intro s ⟨⟨hb,hw⟩,_⟩ hs;have R:=gQ hw hs;have hcl:aq s.1 (ai s) (List.map (fun (x:bj)=>x.1) s.2.2.1)=(dw s,(ai s).map (kV s),0):=R.clean;obtain ⟨hgf,hgi,hgl⟩:=R.gaps;have hfl:=R.fromLen;have hsm:=R.small;have hal:=R.al;have hF:cW s=(gM s,dC (aM false [] (ac (dw s)).1)):=rfl;have hfm:=fun x=>gG (s:=s) R.root (x:=x)
 have hsr:=R.swapRoots;have hsh:=R.swapHands;rw [hF,hcl];simp only;rw [hgf];simp only;generalize aM false [] (ac (dw s)).1=g at *;unfold aL at hb |-;refine ⟨hsm,trivial,by rw [Oh]; omega,trivial,?_,fun ⟨ra,ha⟩ ⟨q1,q2⟩=>?_⟩
 ·have e1:((s.1.length:Int)).toNat=s.1.length:=by omega
  have e2:Int.toNat 256=256:=rfl;have e3:(0:Int)<=(s.1.length:Int):=by omega
  simp only [e1,e2,e3,hb,Pp,PF];omega
 simp only at q1 q2;subst q1 q2;refine ⟨⟨by omega,by omega,by simp [bR],by simp [bR]⟩,fun ⟨ra,ha,i⟩ ⟨i0,i1,i2,i3⟩=>⟨fun hlt=>?_,fun hge=>?_⟩⟩
 ·simp only at i0 i1 i2 i3 hlt |-;have hlt:=Nw hlt;have ht:=bx (0:Int) i0 hlt;have hx:=R.nameIn ((hfm _).1 (aH (0:Int) i0 hlt));have hm:(List.map (kV s) (ai s)).getD i.toNat 0=kV s ((ai s).getD i.toNat 0):=Cd i0 hlt;have l1:ra.length=s.1.length:=by rw [i2,d5,N0]
  have l2:ha.length=256:=by rw [i3,d5,N0]
  rw [hm,ht,jO,jO,<- i2,<- i3,l1,l2,Oh];generalize (ai s).getD i.toNat 0=x at *;simp only [am];exact ⟨i0,hlt,by omega,i0,hlt,i0,hlt,hx.1,hx.2,by omega,by first | trivial | rfl,hx.1,by omega,by omega,by omega,⟨by omega,by omega,by trivial,by trivial⟩,by omega⟩
 ·simp only at i0 i1 i2 i3 hge |-;have hge:=Nx hge;rw [cn hge] at i2 i3;refine ⟨trivial,trivial,trivial,⟨by omega,by omega,hgl,fun r hr=>by have:=hgi r hr; omega,by trivial,by omega,by omega⟩,fun ⟨n,j⟩ ⟨j0,j1,_,_,j2,j3,j4⟩=>⟨fun hlt=>?_,fun hge=>?_⟩⟩
  ·simp only at j0 j1 j2 j3 j4 hlt |-;have hlt:=Nw hlt;have hm:=hgi _ (aH ((0,0):cR) j0 hlt);rw [wx j0 hlt,<- j2];generalize (g.getD j.toNat (0,0)).2=y at *;simp only [am];exact ⟨j0,hlt,by omega,by omega,by omega,⟨by omega,by omega,hgl,fun r hr=>by have:=hgi r hr; omega,by trivial,by omega,by omega⟩,by omega⟩
  ·simp only at j0 j1 j2 hge |-;rw [cn (Nx hge)] at j2;rw [i2,i3,hsr,hsh];exact ⟨rfl,j2,trivial⟩
theorem yV:yr.ok Tryz.prog 85:=aF (ann:=zV) (ae ql (ae jT (ae B8 (ae bP (ae rJ (ae rO (ae jV ap))))))) Tryz.func85 (by kernel_rfl) vl
def bv (s:ah):ah×Int×Int:=if au s≠0 then (ay,0,au s) else ((cW s).1,(cW s).2,0)
def vG:Spec:={ Ts:=[aG],Rs:=[.dat aG,.dat ty_I,.dat ty_I],al:=true,pre:=fun _=>True,F:=bv }
def na:Prop :=
  ∀ (x:List Int×List Int×List (Int×Int)×List (Int×Bool×Int)),(ol x)->True->True/\(decide (au x≠0)=true->(([]:List Int),([]:List Int),([]:List (Int×Int)),([]:List (Int×Bool×Int)))=(bv x).1/\0=(bv x).2.1/\au x=(bv x).2.2/\True)/\(decide (au x≠0)=false->au x=0/\(cW x).1=(bv x).1/\(cW x).2=(bv x).2.1/\0=(bv x).2.2/\True)
theorem sQ:na:=by
 unfold na;intro s hx hs;refine ⟨trivial,fun h=>?_,fun h=>?_⟩
 ·unfold bv;rw [if_pos (Nw h)];exact ⟨by trivial,by trivial,by trivial,trivial⟩
 ·have h:=Nx h;unfold bv;rw [if_neg h];exact ⟨by omega,rfl,rfl,rfl,trivial⟩
theorem ni:vG.ok Tryz.prog 60:=aF (ann:=cr) (ae fv (ae yV ap)) Tryz.func60 (by kernel_rfl) sQ
def bn (s:ah) (k:Int):Int:=if au s≠0 then au s else if k<0\/(s.2.1.length:Int)<=k\/s.2.1.getD k.toNat 0<0 then 5 else 0
def ax (s:ah) (k:Int):Int:=s.2.1.getD k.toNat 0
def aV (s:ah) (k:Int):Int×Obj×Int:=if bn s k≠0 then (0,ip,bn s k) else (ax s k,(g9 s.1 (ax s k)).1,0)
def CW:Nat->Option LoopGen
 | 4000006=>some d9
 | _=>none
def AL:Spec:={ Ts:=[aG,ty_I],Rs:=[.dat ty_I,.dat DA,.dat ty_I],al:=true,pre:=fun _=>True,F:=fun ((s,k):ah×Int)=>aV s k }
def rg:Prop :=
  ∀ (x:(List Int×List Int×List (Int×Int)×List (Int×Bool×Int))×Int),(fun (v0:type_of% (g9 x.1.1 (x.1.2.1.getD x.2.toNat 0)))=>(ol x.1)/\am .i64 x.2->True->True/\(decide (au x.1≠0)=true->0=(aV x.1 x.2).1/\(0,([]:List Int),([]:List Int),false)=(aV x.1 x.2).2.1/\au x.1=(aV x.1 x.2).2.2/\True)/\(decide (au x.1≠0)=false->((decide (x.2<0)||decide ((x.1.2.1.length:Int)<=x.2))=false->0<=x.2)/\((decide (x.2<0)||decide ((x.1.2.1.length:Int)<=x.2))=false->x.2<(x.1.2.1.length:Int))/\((decide (x.2<0)||decide ((x.1.2.1.length:Int)<=x.2)||decide (x.1.2.1.getD x.2.toNat (0:Int)<0))=true->0=(aV x.1 x.2).1/\(0,([]:List Int),([]:List Int),false)=(aV x.1 x.2).2.1/\5=(aV x.1 x.2).2.2/\True)/\((decide (x.2<0)||decide ((x.1.2.1.length:Int)<=x.2)||decide (x.1.2.1.getD x.2.toNat (0:Int)<0))=false->0<=x.2/\x.2<(x.1.2.1.length:Int)/\True/\x.1.1=x.1.1/\x.1.2.1=x.1.2.1/\x.2=x.2/\0<=x.2/\x.2<(x.1.2.1.length:Int)/\x.1.2.1.getD x.2.toNat 0=x.1.2.1.getD x.2.toNat 0/\x.1.2.1.getD x.2.toNat 0=x.1.2.1.getD x.2.toNat 0/\True/\v0.1.1=v0.1.1/\v0.1.2.1=v0.1.2.1/\v0.1.2.2.1=v0.1.2.2.1/\v0.1.2.2.2=v0.1.2.2.2/\v0.2=v0.2/\v0.1.1=v0.1.1/\v0.1.2.1=v0.1.2.1/\v0.1.2.2.1=v0.1.2.2.1/\v0.1.2.2.2=v0.1.2.2.2/\v0.2=v0.2/\v0.1.1=v0.1.1/\v0.1.2.1=v0.1.2.1/\v0.1.2.2.1=v0.1.2.2.1/\v0.1.2.2.2=v0.1.2.2.2/\v0.2=v0.2/\v0.2=v0.2/\0<=x.2/\x.2<(x.1.2.1.length:Int)/\v0.1.1=v0.1.1/\v0.1.2.1=v0.1.2.1/\v0.1.2.2.1=v0.1.2.2.1/\v0.1.2.2.2=v0.1.2.2.2/\v0.2=v0.2/\v0.2=v0.2/\x.1.2.1.getD x.2.toNat 0=(aV x.1 x.2).1/\v0.1=(aV x.1 x.2).2.1/\v0.2=(aV x.1 x.2).2.2/\True))) (g9 x.1.1 (x.1.2.1.getD x.2.toNat 0))
theorem xS:rg:=by
 unfold rg;intro ⟨s,k⟩ ⟨⟨⟨hb,hw⟩,_⟩,_⟩ _;simp only at hb hw |-;have hO:aV s k=if bn s k≠0 then (0,ip,bn s k) else (ax s k,(g9 s.1 (ax s k)).1,0):=rfl
 have hE:bn s k=if au s≠0 then au s else if k<0\/(s.2.1.length:Int)<=k\/s.2.1.getD k.toNat 0<0 then 5 else 0:=rfl
 refine ⟨trivial,fun h=>?_,fun h=>⟨fun h1=>?_,fun h1=>?_,fun h1=>?_,fun h1=>?_⟩⟩
 ·rw [if_pos (Nw h)] at hE;rw [hO,hE,if_pos (Nw h)];exact ⟨by trivial,by trivial,by trivial,trivial⟩
 ·simp at h1; omega
 ·simp at h1; omega
 ·rw [if_neg (Nx h),if_pos (by simpa [or_assoc,PT] using h1)] at hE;rw [hO,hE,if_pos (by omega)];exact ⟨by trivial,by trivial,by trivial,trivial⟩
 ·have hs:au s=0:=by simpa using Nx h
  have h1:¬ (k<0\/(s.2.1.length:Int)<=k\/s.2.1.getD k.toNat 0<0):=by simpa [or_assoc,PT] using h1
  rw [if_neg (by omega),if_neg h1] at hE;have R:=gQ hw hs;have O:=R.obj (R.rootNam (k:=k) (by omega) (by omega) (by omega));have hz:(g9 s.1 (s.2.1.getD k.toNat 0)).2=0:=by rw [O.at_]
  rw [hO,hE,if_neg (by omega),hz];simp only [PF,Pp,ax];omega
theorem jU:AL.ok Tryz.prog 139:=aF (ann:=CW) (ae fv (ae mR ap)) Tryz.func139 (by kernel_rfl) xS
theorem nK {s:ah} {k:Int} (hw:∀ x∈s.1,am .u64 x) (h:bn s k=0):Right s/\0<=k/\k<s.2.1.length/\ObjAt s (ax s k):=by
 unfold bn at h;split at h
 ·omega
 rename_i h0;split at h
 ·omega
 rename_i h1;have R:=gQ hw (by omega:au s=0);exact ⟨R,by omega,by omega,R.obj (R.rootNam (k:=k) (by omega) (by omega) (by omega))⟩
def bt (s:ah) (slot k other:Int):Int:=if bn s slot≠0 then bn s slot else if k<0\/(eG s.1 (ax s slot)).1<=k then 4 else if other<0\/(s.2.1.length:Int)<=other then 5 else 0
def IL:Spec:={ Ts:=[aG,ty_I,ty_I,ty_I],Rs:=[.dat ty_I,.dat ty_I],pre:=fun _=>True,F:=fun ((s,slot,k,other):ah×Int×Int×Int)=>((if bt s slot k other≠0 then 0 else ax s slot+1+k,bt s slot k other):Int×Int) }
def Bx:Prop :=
  ∀ (x:(List Int×List Int×List (Int×Int)×List (Int×Bool×Int))×Int×Int×Int),(ol x.1)/\am .i64 x.2.1/\am .i64 x.2.2.1/\am .i64 x.2.2.2->True->True/\(decide ((aV x.1 x.2.1).2.2≠0)=true->((0:Int)=if bt x.1 x.2.1 x.2.2.1 x.2.2.2≠0 then (0:Int) else ax x.1 x.2.1+1+x.2.2.1)/\(aV x.1 x.2.1).2.2=bt x.1 x.2.1 x.2.2.1 x.2.2.2/\True)/\(decide ((aV x.1 x.2.1).2.2≠0)=false->((decide (x.2.2.1<0)||decide ((↑(aV x.1 x.2.1).2.1.2.1.length:Int)<=x.2.2.1))=true->((0:Int)=if bt x.1 x.2.1 x.2.2.1 x.2.2.2≠0 then (0:Int) else ax x.1 x.2.1+1+x.2.2.1)/\4=bt x.1 x.2.1 x.2.2.1 x.2.2.2/\True)/\((decide (x.2.2.1<0)||decide ((↑(aV x.1 x.2.1).2.1.2.1.length:Int)<=x.2.2.1))=false->((decide (x.2.2.2<0)||decide ((x.1.2.1.length:Int)<=x.2.2.2))=true->((0:Int)=if bt x.1 x.2.1 x.2.2.1 x.2.2.2≠0 then (0:Int) else ax x.1 x.2.1+1+x.2.2.1)/\5=bt x.1 x.2.1 x.2.2.1 x.2.2.2/\True)/\((decide (x.2.2.2<0)||decide ((x.1.2.1.length:Int)<=x.2.2.2))=false->am .i64 ((aV x.1 x.2.1).1+1)/\am .i64 ((aV x.1 x.2.1).1+1+x.2.2.1)/\((aV x.1 x.2.1).1+1+x.2.2.1=if bt x.1 x.2.1 x.2.2.1 x.2.2.2≠0 then (0:Int) else ax x.1 x.2.1+1+x.2.2.1)/\0=bt x.1 x.2.1 x.2.2.1 x.2.2.2/\True)))
theorem Gg:Bx:=by
 unfold Bx;intro ⟨s,slot,k,other⟩ ⟨⟨⟨hb,hw⟩,_⟩,_⟩ _;simp only at hb hw |-;have hR:bt s slot k other=if bn s slot≠0 then bn s slot else if k<0\/(eG s.1 (ax s slot)).1<=k then 4 else if other<0\/(s.2.1.length:Int)<=other then 5 else 0:=rfl
 have hO:aV s slot=if bn s slot≠0 then (0,ip,bn s slot) else (ax s slot,(g9 s.1 (ax s slot)).1,0):=rfl
 by_cases h0:bn s slot≠0
 ·rw [if_pos h0] at hR hO;rw [hO,hR];simp only;refine ⟨trivial,fun _=>?_,fun h=>absurd h0 (Nx h)⟩;rw [if_pos h0];exact ⟨by trivial,by trivial,trivial⟩
 ·obtain ⟨R,_,_,O⟩:=nK hw (by omega:bn s slot=0);have hal:=R.al;rw [if_neg h0] at hR hO;rw [hO];simp only;rw [O.refs];have:=O.x0;have:=O.r0;have:=O.b0;have:=O.fit;refine ⟨trivial,fun h=>absurd rfl (Nw h),fun _=>⟨fun h1=>?_,fun h1=>⟨fun h2=>?_,fun h2=>?_⟩⟩⟩
  ·rw [if_pos (by simpa using h1)] at hR;rw [hR];exact ⟨by trivial,by trivial,trivial⟩
  ·have h1:¬ (k<0\/(eG s.1 (ax s slot)).1<=k):=by simpa using h1
   rw [if_neg h1,if_pos (by simpa using h2)] at hR;rw [hR];exact ⟨by trivial,by trivial,trivial⟩
  ·have h1:¬ (k<0\/(eG s.1 (ax s slot)).1<=k):=by simpa using h1
   have h2:¬ (other<0\/(s.2.1.length:Int)<=other):=by simpa using h2
   rw [if_neg h1,if_neg h2] at hR;rw [hR];simp only [am];exact ⟨by omega,by omega,by simp,by trivial,trivial⟩
theorem BU:IL.ok Tryz.prog 137:=aF (ann:=cr) (ae jU ap) Tryz.func137 (by kernel_rfl) Gg
theorem yO {s:ah} {slot k other:Int} (hw:∀ x∈s.1,am .u64 x) (h:bt s slot k other=0):Right s/\ObjAt s (ax s slot)/\0<=k/\k<(eG s.1 (ax s slot)).1/\0<=other/\other<s.2.1.length:=by
 unfold bt at h;split at h
 ·omega
 rename_i h0;split at h
 ·omega
 split at h
 ·omega
 obtain ⟨R,_,_,O⟩:=nK hw (by omega:bn s slot=0);exact ⟨R,O,by omega,by omega,by omega,by omega⟩
def fO:Nat->Option LoopGen
 | 3000083=>some d9
 | 8404000001=>some d9
 | _=>none
def kh (s:ah) (slot k into:Int):ah×Int:=if bt s slot k into≠0 then (ay,bt s slot k into) else ((s.1,s.2.1.set into.toNat (s.1.getD (ax s slot+1+k).toNat 0 - 1),s.2.2),0)
def GK:Spec:={ Ts:=[aG,ty_I,ty_I,ty_I],Rs:=[.dat aG,.dat ty_I],al:=true,pre:=fun _=>True,F:=fun ((s,slot,k,into):ah×Int×Int×Int)=>kh s slot k into }
def wN:Prop :=
  ∀ (x:(List Int×List Int×List (Int×Int)×List (Int×Bool×Int))×Int×Int×Int),(ol x.1)/\am .i64 x.2.1/\am .i64 x.2.2.1/\am .i64 x.2.2.2->True->True/\(decide (bt x.1 x.2.1 x.2.2.1 x.2.2.2≠0)=true->(([]:List Int),([]:List Int),([]:List (Int×Int)),([]:List (Int×Bool×Int)))=(kh x.1 x.2.1 x.2.2.1 x.2.2.2).1/\bt x.1 x.2.1 x.2.2.1 x.2.2.2=(kh x.1 x.2.1 x.2.2.1 x.2.2.2).2/\True)/\(decide (bt x.1 x.2.1 x.2.2.1 x.2.2.2≠0)=false->∀ (_:Array Value),True/\True/\True/\x.1.2.1=x.1.2.1/\x.1.2.2.1=x.1.2.2.1/\x.1.2.2.1=x.1.2.2.1/\x.1.2.2.2=x.1.2.2.2/\x.1.2.2.2=x.1.2.2.2/\x.1.2.2.2=x.1.2.2.2/\True/\(0<=if bt x.1 x.2.1 x.2.2.1 x.2.2.2≠0 then (0:Int) else ax x.1 x.2.1+1+x.2.2.1)/\(if bt x.1 x.2.1 x.2.2.1 x.2.2.2≠0 then (0:Int) else ax x.1 x.2.1+1+x.2.2.1)<(x.1.1.length:Int)/\(if bt x.1 x.2.1 x.2.2.1 x.2.2.2≠0 then (0:Int) else ax x.1 x.2.1+1+x.2.2.1).toNat<x.1.1.length/\am .i64 (IntKind.i64.wrap (x.1.1.getD (if bt x.1 x.2.1 x.2.2.1 x.2.2.2≠0 then (0:Int) else ax x.1 x.2.1+1+x.2.2.1).toNat 0) - 1)/\0<=x.2.2.2/\x.2.2.2<(x.1.2.1.length:Int)/\x.2.2.2.toNat<x.1.2.1.length/\(x.1.1,x.1.2.1.set x.2.2.2.toNat (IntKind.i64.wrap (x.1.1.getD (if bt x.1 x.2.1 x.2.2.1 x.2.2.2≠0 then (0:Int) else ax x.1 x.2.1+1+x.2.2.1).toNat 0) - 1),x.1.2.2)=(kh x.1 x.2.1 x.2.2.1 x.2.2.2).1/\0=(kh x.1 x.2.1 x.2.2.1 x.2.2.2).2/\True)
theorem Dg:wN:=by
 unfold wN;intro ⟨s,slot,k,into⟩ ⟨⟨⟨hb,hw⟩,_⟩,_⟩ _;simp only at hb hw |-;have hF:kh s slot k into=if bt s slot k into≠0 then (ay,bt s slot k into) else ((s.1,s.2.1.set into.toNat (s.1.getD (ax s slot+1+k).toNat 0 - 1),s.2.2),0):=rfl
 refine ⟨trivial,fun h=>?_,fun h tm=>⟨trivial,trivial,trivial,by trivial,by trivial,by trivial,by trivial,by trivial,by trivial,trivial,?_⟩⟩
 ·rw [hF,if_pos (Nw h)];exact ⟨by trivial,by trivial,trivial⟩
 ·have h0:=Nx h;obtain ⟨R,O,k0,k1,o0,o1⟩:=yO hw (by omega:bt s slot k into=0);have hv:=R.refWord O.isb k0 k1;have:=O.x0;have:=O.b0;have:=O.fit;rw [hF,if_neg h0,if_neg h0];have hwr:IntKind.i64.wrap (s.1.getD (ax s slot+1+k).toNat 0)=s.1.getD (ax s slot+1+k).toNat 0:=m4 (by omega) (by omega);rw [hwr];generalize s.1.getD (ax s slot+1+k).toNat 0=v at *;simp only [am];exact ⟨by omega,by omega,by omega,by omega,o0,o1,by omega,by trivial,by trivial,trivial⟩
theorem Hj:GK.ok Tryz.prog 62:=aF (ann:=fO) (ae BU (ae bC (ae bZ (ae bP (ae bD ap))))) Tryz.func62 (by kernel_rfl) Dg
def kc (s:ah) (slot k other:Int):ah×Int:=if bt s slot k other≠0 then (ay,bt s slot k other) else ((s.1.set (ax s slot+1+k).toNat (ax s other+1),s.2),0)
def GJ:Spec:={ Ts:=[aG,ty_I,ty_I,ty_I],Rs:=[.dat aG,.dat ty_I],al:=true,pre:=fun _=>True,F:=fun ((s,slot,k,other):ah×Int×Int×Int)=>kc s slot k other }
def wM:Prop :=
  ∀ (x:(List Int×List Int×List (Int×Int)×List (Int×Bool×Int))×Int×Int×Int),(ol x.1)/\am .i64 x.2.1/\am .i64 x.2.2.1/\am .i64 x.2.2.2->True->True/\(decide (bt x.1 x.2.1 x.2.2.1 x.2.2.2≠0)=true->(([]:List Int),([]:List Int),([]:List (Int×Int)),([]:List (Int×Bool×Int)))=(kc x.1 x.2.1 x.2.2.1 x.2.2.2).1/\bt x.1 x.2.1 x.2.2.1 x.2.2.2=(kc x.1 x.2.1 x.2.2.1 x.2.2.2).2/\True)/\(decide (bt x.1 x.2.1 x.2.2.1 x.2.2.2≠0)=false->∀ (_:Array Value),True/\True/\True/\x.1.2.1=x.1.2.1/\x.1.2.2.1=x.1.2.2.1/\x.1.2.2.1=x.1.2.2.1/\x.1.2.2.2=x.1.2.2.2/\x.1.2.2.2=x.1.2.2.2/\x.1.2.2.2=x.1.2.2.2/\True/\0<=x.2.2.2/\x.2.2.2<(x.1.2.1.length:Int)/\x.2.2.2.toNat<x.1.2.1.length/\am .i64 (x.1.2.1.getD x.2.2.2.toNat 0+1)/\(0<=if bt x.1 x.2.1 x.2.2.1 x.2.2.2≠0 then (0:Int) else ax x.1 x.2.1+1+x.2.2.1)/\(if bt x.1 x.2.1 x.2.2.1 x.2.2.2≠0 then (0:Int) else ax x.1 x.2.1+1+x.2.2.1)<(x.1.1.length:Int)/\(if bt x.1 x.2.1 x.2.2.1 x.2.2.2≠0 then (0:Int) else ax x.1 x.2.1+1+x.2.2.1).toNat<x.1.1.length/\(x.1.1.set (if bt x.1 x.2.1 x.2.2.1 x.2.2.2≠0 then (0:Int) else ax x.1 x.2.1+1+x.2.2.1).toNat (IntKind.u64.wrap (x.1.2.1.getD x.2.2.2.toNat 0+1)),x.1.2)=(kc x.1 x.2.1 x.2.2.1 x.2.2.2).1/\0=(kc x.1 x.2.1 x.2.2.1 x.2.2.2).2/\True)
theorem Df:wM:=by
 unfold wM;intro ⟨s,slot,k,other⟩ ⟨⟨⟨hb,hw⟩,_⟩,_⟩ _;simp only at hb hw |-;have hF:kc s slot k other=if bt s slot k other≠0 then (ay,bt s slot k other) else ((s.1.set (ax s slot+1+k).toNat (ax s other+1),s.2),0):=rfl
 refine ⟨trivial,fun h=>?_,fun h tm=>⟨trivial,trivial,trivial,by trivial,by trivial,by trivial,by trivial,by trivial,by trivial,trivial,?_⟩⟩
 ·rw [hF,if_pos (Nw h)];exact ⟨by trivial,by trivial,trivial⟩
 ·have h0:=Nx h;obtain ⟨R,O,k0,k1,o0,o1⟩:=yO hw (by omega:bt s slot k other=0);have hv:=R.rootIn o0 o1;have hal:=R.al;have:=O.x0;have:=O.b0;have:=O.fit;rw [hF,if_neg h0,if_neg h0];have hwr:IntKind.u64.wrap (s.2.1.getD other.toNat 0+1)=ax s other+1:=fP (by omega) (by omega);rw [hwr];generalize s.2.1.getD other.toNat 0=v at *;simp only [am];exact ⟨o0,o1,by omega,by omega,by omega,by omega,by omega,by trivial,by trivial,trivial⟩
theorem Hi:GJ.ok Tryz.prog 63:=aF (ann:=fO) (ae BU (ae bC (ae bZ (ae bP (ae bD ap))))) Tryz.func63 (by kernel_rfl) Df
def aN (s:ah) (slot k:Int):Int:=if bn s slot≠0 then bn s slot else if k<0\/(eG s.1 (ax s slot)).2.1<=k then 4 else 0
def bG (s:ah) (at_ k:Int):Int:=at_+1+(eG s.1 at_).1+k
def GQ:Spec:={ Ts:=[aG,ty_I,ty_I],Rs:=[.dat ty_I,.dat ty_I],pre:=fun _=>True,F:=fun ((s,slot,k):ah×Int×Int)=>((if aN s slot k≠0 then 0 else bG s (ax s slot) k,aN s slot k):Int×Int) }
def wT:Prop :=
  ∀ (x:(List Int×List Int×List (Int×Int)×List (Int×Bool×Int))×Int×Int),(ol x.1)/\am .i64 x.2.1/\am .i64 x.2.2->True->True/\(decide ((aV x.1 x.2.1).2.2≠0)=true->((0:Int)=if aN x.1 x.2.1 x.2.2≠0 then (0:Int) else bG x.1 (ax x.1 x.2.1) x.2.2)/\(aV x.1 x.2.1).2.2=aN x.1 x.2.1 x.2.2/\True)/\(decide ((aV x.1 x.2.1).2.2≠0)=false->((decide (x.2.2<0)||decide ((↑(aV x.1 x.2.1).2.1.2.2.1.length:Int)<=x.2.2))=true->((0:Int)=if aN x.1 x.2.1 x.2.2≠0 then (0:Int) else bG x.1 (ax x.1 x.2.1) x.2.2)/\4=aN x.1 x.2.1 x.2.2/\True)/\((decide (x.2.2<0)||decide ((↑(aV x.1 x.2.1).2.1.2.2.1.length:Int)<=x.2.2))=false->am .i64 ((aV x.1 x.2.1).1+1)/\am .i64 ((aV x.1 x.2.1).1+1+(↑(aV x.1 x.2.1).2.1.2.1.length:Int))/\am .i64 ((aV x.1 x.2.1).1+1+(↑(aV x.1 x.2.1).2.1.2.1.length:Int)+x.2.2)/\((aV x.1 x.2.1).1+1+(↑(aV x.1 x.2.1).2.1.2.1.length:Int)+x.2.2=if aN x.1 x.2.1 x.2.2≠0 then (0:Int) else bG x.1 (ax x.1 x.2.1) x.2.2)/\0=aN x.1 x.2.1 x.2.2/\True))
theorem Dm:wT:=by
 unfold wT;intro ⟨s,slot,k⟩ ⟨⟨⟨hb,hw⟩,_⟩,_⟩ _;simp only at hb hw |-;have hR:aN s slot k=if bn s slot≠0 then bn s slot else if k<0\/(eG s.1 (ax s slot)).2.1<=k then 4 else 0:=rfl
 have hO:aV s slot=if bn s slot≠0 then (0,ip,bn s slot) else (ax s slot,(g9 s.1 (ax s slot)).1,0):=rfl
 by_cases h0:bn s slot≠0
 ·rw [if_pos h0] at hR hO;rw [hO,hR];simp only;refine ⟨trivial,fun _=>?_,fun h=>absurd h0 (Nx h)⟩;rw [if_pos h0];exact ⟨by trivial,by trivial,trivial⟩
 ·obtain ⟨R,_,_,O⟩:=nK hw (by omega:bn s slot=0);have hal:=R.al;rw [if_neg h0] at hR hO;rw [hO];simp only;rw [O.body,O.refs];have:=O.x0;have:=O.r0;have:=O.b0;have:=O.fit;refine ⟨trivial,fun h=>absurd rfl (Nw h),fun _=>⟨fun h1=>?_,fun h1=>?_⟩⟩
  ·rw [if_pos (by simpa using h1)] at hR;rw [hR];exact ⟨by trivial,by trivial,trivial⟩
  ·have h1:¬ (k<0\/(eG s.1 (ax s slot)).2.1<=k):=by simpa using h1
   rw [if_neg h1] at hR;rw [hR];simp only [am];exact ⟨by omega,by omega,by omega,by simp [bG],by trivial,trivial⟩
theorem xj:GQ.ok Tryz.prog 138:=aF (ann:=cr) (ae jU ap) Tryz.func138 (by kernel_rfl) Dm
theorem zP {s:ah} {slot k:Int} (hw:∀ x∈s.1,am .u64 x) (h:aN s slot k=0):Right s/\ObjAt s (ax s slot)/\0<=k/\k<(eG s.1 (ax s slot)).2.1/\0<=bG s (ax s slot) k/\bG s (ax s slot) k<s.1.length:=by
 unfold aN at h;split at h
 ·omega
 rename_i h0;split at h
 ·omega
 obtain ⟨R,_,_,O⟩:=nK hw (by omega:bn s slot=0);have:=O.x0;have:=O.r0;have:=O.fit;unfold bG;exact ⟨R,O,by omega,by omega,by omega,by omega⟩
def IN:Spec:={ Ts:=[aG,ty_I,ty_I],Rs:=[.dat bJ,.dat ty_I],pre:=fun _=>True,F:=fun ((s,slot,k):ah×Int×Int)=>((if aN s slot k≠0 then 0 else s.1.getD (bG s (ax s slot) k).toNat 0,aN s slot k):Int×Int) }
def Bz:Prop :=
  ∀ (x:(List Int×List Int×List (Int×Int)×List (Int×Bool×Int))×Int×Int),(ol x.1)/\am .i64 x.2.1/\am .i64 x.2.2->True->True/\(decide (aN x.1 x.2.1 x.2.2≠0)=true->((0:Int)=if aN x.1 x.2.1 x.2.2≠0 then (0:Int) else x.1.1.getD (bG x.1 (ax x.1 x.2.1) x.2.2).toNat 0)/\aN x.1 x.2.1 x.2.2=aN x.1 x.2.1 x.2.2/\True)/\(decide (aN x.1 x.2.1 x.2.2≠0)=false->(0<=if aN x.1 x.2.1 x.2.2≠0 then (0:Int) else bG x.1 (ax x.1 x.2.1) x.2.2)/\(if aN x.1 x.2.1 x.2.2≠0 then (0:Int) else bG x.1 (ax x.1 x.2.1) x.2.2)<(x.1.1.length:Int)/\(x.1.1.getD (if aN x.1 x.2.1 x.2.2≠0 then (0:Int) else bG x.1 (ax x.1 x.2.1) x.2.2).toNat (0:Int)=if aN x.1 x.2.1 x.2.2≠0 then (0:Int) else x.1.1.getD (bG x.1 (ax x.1 x.2.1) x.2.2).toNat 0)/\0=aN x.1 x.2.1 x.2.2/\True)
theorem Gi:Bz:=by
 unfold Bz;intro ⟨s,slot,k⟩ ⟨⟨⟨hb,hw⟩,_⟩,_⟩ _;simp only at hb hw |-;refine ⟨trivial,fun h=>?_,fun h=>?_⟩
 ·rw [if_pos (Nw h)];exact ⟨by trivial,by trivial,trivial⟩
 ·have h0:=Nx h;obtain ⟨_,_,_,_,b0,b1⟩:=zP hw (by omega:aN s slot k=0);rw [if_neg h0];exact ⟨b0,b1,by rw [if_neg h0],by omega,trivial⟩
theorem Jm:IN.ok Tryz.prog 64:=aF (ann:=cr) (ae xj ap) Tryz.func64 (by kernel_rfl) Gi
def js (s:ah) (slot k v:Int):ah×Int:=if aN s slot k≠0 then (ay,aN s slot k) else ((s.1.set (bG s (ax s slot) k).toNat v,s.2),0)
def GL:Spec:={ Ts:=[aG,ty_I,ty_I,bJ],Rs:=[.dat aG,.dat ty_I],al:=true,pre:=fun _=>True,F:=fun ((s,slot,k,v):ah×Int×Int×Int)=>js s slot k v }
def wO:Prop :=
  ∀ (x:(List Int×List Int×List (Int×Int)×List (Int×Bool×Int))×Int×Int×Int),(ol x.1)/\am .i64 x.2.1/\am .i64 x.2.2.1/\am .u64 x.2.2.2->True->True/\(decide (aN x.1 x.2.1 x.2.2.1≠0)=true->(([]:List Int),([]:List Int),([]:List (Int×Int)),([]:List (Int×Bool×Int)))=(js x.1 x.2.1 x.2.2.1 x.2.2.2).1/\aN x.1 x.2.1 x.2.2.1=(js x.1 x.2.1 x.2.2.1 x.2.2.2).2/\True)/\(decide (aN x.1 x.2.1 x.2.2.1≠0)=false->∀ (_:Array Value),True/\True/\True/\x.1.2.1=x.1.2.1/\x.1.2.2.1=x.1.2.2.1/\x.1.2.2.1=x.1.2.2.1/\x.1.2.2.2=x.1.2.2.2/\x.1.2.2.2=x.1.2.2.2/\x.1.2.2.2=x.1.2.2.2/\True/\(0<=if aN x.1 x.2.1 x.2.2.1≠0 then (0:Int) else bG x.1 (ax x.1 x.2.1) x.2.2.1)/\(if aN x.1 x.2.1 x.2.2.1≠0 then (0:Int) else bG x.1 (ax x.1 x.2.1) x.2.2.1)<(x.1.1.length:Int)/\(if aN x.1 x.2.1 x.2.2.1≠0 then (0:Int) else bG x.1 (ax x.1 x.2.1) x.2.2.1).toNat<x.1.1.length/\(x.1.1.set (if aN x.1 x.2.1 x.2.2.1≠0 then (0:Int) else bG x.1 (ax x.1 x.2.1) x.2.2.1).toNat x.2.2.2,x.1.2)=(js x.1 x.2.1 x.2.2.1 x.2.2.2).1/\0=(js x.1 x.2.1 x.2.2.1 x.2.2.2).2/\True)
theorem Dh:wO:=by
 unfold wO;intro ⟨s,slot,k,v⟩ ⟨⟨⟨hb,hw⟩,_⟩,_⟩ _;simp only at hb hw |-;have hF:js s slot k v=if aN s slot k≠0 then (ay,aN s slot k) else ((s.1.set (bG s (ax s slot) k).toNat v,s.2),0):=rfl
 refine ⟨trivial,fun h=>?_,fun h tm=>⟨trivial,trivial,trivial,by trivial,by trivial,by trivial,by trivial,by trivial,by trivial,trivial,?_⟩⟩
 ·rw [hF,if_pos (Nw h)];exact ⟨by trivial,by trivial,trivial⟩
 ·have h0:=Nx h;obtain ⟨_,_,_,_,b0,b1⟩:=zP hw (by omega:aN s slot k=0);rw [hF,if_neg h0,if_neg h0];exact ⟨b0,b1,by omega,by trivial,by trivial,trivial⟩
theorem Hk:GL.ok Tryz.prog 66:=aF (ann:=fO) (ae xj (ae bC (ae bZ (ae bP (ae bD ap))))) Tryz.func66 (by kernel_rfl) Dh
def iC (s:ah) (slot:Int):ah×Int×Int:=if bn s slot≠0 then (ay,0,bn s slot) else if (gq s.2.2.1 (ax s slot)).2.2≠0 then (ay,0,(gq s.2.2.1 (ax s slot)).2.2) else ((s.1,s.2.1,(gq s.2.2.1 (ax s slot)).1,s.2.2.2),ax s slot,0)
def GM:Spec:={ Ts:=[aG,ty_I],Rs:=[.dat aG,.dat ty_I,.dat ty_I],al:=true,pre:=fun _=>True,F:=fun ((s,slot):ah×Int)=>iC s slot }
def wP:Prop :=
  ∀ (x:(List Int×List Int×List (Int×Int)×List (Int×Bool×Int))×Int),(ol x.1)/\am .i64 x.2->True->True/\(decide ((aV x.1 x.2).2.2≠0)=true->(([]:List Int),([]:List Int),([]:List (Int×Int)),([]:List (Int×Bool×Int)))=(iC x.1 x.2).1/\0=(iC x.1 x.2).2.1/\(aV x.1 x.2).2.2=(iC x.1 x.2).2.2/\True)/\(decide ((aV x.1 x.2).2.2≠0)=false->True/\(decide ((gq x.1.2.2.1 (aV x.1 x.2).1).2.2≠0)=true->(([]:List Int),([]:List Int),([]:List (Int×Int)),([]:List (Int×Bool×Int)))=(iC x.1 x.2).1/\0=(iC x.1 x.2).2.1/\(gq x.1.2.2.1 (aV x.1 x.2).1).2.2=(iC x.1 x.2).2.2/\True)/\(decide ((gq x.1.2.2.1 (aV x.1 x.2).1).2.2≠0)=false->∀ (_:Array Value),True/\True/\True/\x.1.2.1=x.1.2.1/\x.1.2.2.1=x.1.2.2.1/\x.1.2.2.1=x.1.2.2.1/\x.1.2.2.2=x.1.2.2.2/\x.1.2.2.2=x.1.2.2.2/\x.1.2.2.2=x.1.2.2.2/\True/\(x.1.1,x.1.2.1,(gq x.1.2.2.1 (aV x.1 x.2).1).1,x.1.2.2.2)=(iC x.1 x.2).1/\(aV x.1 x.2).1=(iC x.1 x.2).2.1/\0=(iC x.1 x.2).2.2/\True))
theorem Di:wP:=by
 unfold wP;intro ⟨s,slot⟩ hx _;simp only at hx |-;have hF:iC s slot=if bn s slot≠0 then (ay,0,bn s slot) else if (gq s.2.2.1 (ax s slot)).2.2≠0 then (ay,0,(gq s.2.2.1 (ax s slot)).2.2) else ((s.1,s.2.1,(gq s.2.2.1 (ax s slot)).1,s.2.2.2),ax s slot,0):=rfl
 have hO:aV s slot=if bn s slot≠0 then (0,ip,bn s slot) else (ax s slot,(g9 s.1 (ax s slot)).1,0):=rfl
 by_cases h0:bn s slot≠0
 ·rw [if_pos h0] at hF hO;rw [hO,hF];exact ⟨trivial,fun _=>⟨by trivial,by trivial,by trivial,trivial⟩,fun h=>absurd h0 (Nx h)⟩
 ·rw [if_neg h0] at hF hO;rw [hO,hF];simp only;refine ⟨trivial,fun h=>absurd rfl (Nw h),fun _=>⟨trivial,fun h=>?_,fun h tm=>⟨trivial,trivial,trivial,by trivial,by trivial,by trivial,by trivial,by trivial,by trivial,trivial,?_⟩⟩⟩
  ·rw [if_pos (Nw h)];exact ⟨by trivial,by trivial,by trivial,trivial⟩
  ·rw [if_neg (Nx h)];exact ⟨by trivial,by trivial,by trivial,trivial⟩
theorem Hl:GM.ok Tryz.prog 67:=aF (ann:=fO) (ae jU (ae Mr (ae bC (ae bZ (ae bP (ae bD ap)))))) Tryz.func67 (by kernel_rfl) Di
def cO (s:ah) (at_:Int):ah×Int:=if au s≠0 then (ay,au s) else if (dz s.2.2.1 at_).2.2≠0 then (ay,(dz s.2.2.1 at_).2.2) else ((s.1,s.2.1,(dz s.2.2.1 at_).1,s.2.2.2),0)
def AJ:Spec:={ Ts:=[aG,ty_I],Rs:=[.dat aG,.dat ty_I],al:=true,pre:=fun _=>True,F:=fun ((s,at_):ah×Int)=>cO s at_ }
def re:Prop :=
  ∀ (x:(List Int×List Int×List (Int×Int)×List (Int×Bool×Int))×Int),(ol x.1)/\am .i64 x.2->True->True/\(decide (au x.1≠0)=true->(([]:List Int),([]:List Int),([]:List (Int×Int)),([]:List (Int×Bool×Int)))=(cO x.1 x.2).1/\au x.1=(cO x.1 x.2).2/\True)/\(decide (au x.1≠0)=false->True/\(decide ((dz x.1.2.2.1 x.2).2.2≠0)=true->(([]:List Int),([]:List Int),([]:List (Int×Int)),([]:List (Int×Bool×Int)))=(cO x.1 x.2).1/\(dz x.1.2.2.1 x.2).2.2=(cO x.1 x.2).2/\True)/\(decide ((dz x.1.2.2.1 x.2).2.2≠0)=false->∀ (_:Array Value),True/\True/\True/\x.1.2.1=x.1.2.1/\x.1.2.2.1=x.1.2.2.1/\x.1.2.2.1=x.1.2.2.1/\x.1.2.2.2=x.1.2.2.2/\x.1.2.2.2=x.1.2.2.2/\x.1.2.2.2=x.1.2.2.2/\True/\(x.1.1,x.1.2.1,(dz x.1.2.2.1 x.2).1,x.1.2.2.2)=(cO x.1 x.2).1/\0=(cO x.1 x.2).2/\True))
theorem xQ:re:=by
 unfold re;intro ⟨s,at_⟩ hx _;simp only at hx |-;have hF:cO s at_=if au s≠0 then (ay,au s) else if (dz s.2.2.1 at_).2.2≠0 then (ay,(dz s.2.2.1 at_).2.2) else ((s.1,s.2.1,(dz s.2.2.1 at_).1,s.2.2.2),0):=rfl
 rw [hF];refine ⟨trivial,fun h=>?_,fun h=>⟨trivial,fun h1=>?_,fun h1 tm=>⟨trivial,trivial,trivial,by trivial,by trivial,by trivial,by trivial,by trivial,by trivial,trivial,?_⟩⟩⟩
 ·rw [if_pos (Nw h)];exact ⟨by trivial,by trivial,trivial⟩
 ·rw [if_neg (Nx h),if_pos (Nw h1)];exact ⟨by trivial,by trivial,trivial⟩
 ·rw [if_neg (Nx h),if_neg (Nx h1)];exact ⟨by trivial,by trivial,trivial⟩
theorem BT:AJ.ok Tryz.prog 68:=aF (ann:=fO) (ae fv (ae Lf (ae bC (ae bZ (ae bP (ae bD ap)))))) Tryz.func68 (by kernel_rfl) xQ
def cg (s:ah) (at_ k:Int):Int:=if au s≠0 then au s else if fx (cG s) at_=false then 8 else if k<0\/(eG s.1 at_).2.1<=k then 4 else 0
def GN:Spec:={ Ts:=[aG,ty_I,ty_I],Rs:=[.dat bJ,.dat ty_I],pre:=fun _=>True,F:=fun ((s,at_,k):ah×Int×Int)=>((if cg s at_ k≠0 then 0 else s.1.getD (bG s at_ k).toNat 0,cg s at_ k):Int×Int) }
def wQ:Prop :=
  ∀ (x:(List Int×List Int×List (Int×Int)×List (Int×Bool×Int))×Int×Int),(ol x.1)/\am .i64 x.2.1/\am .i64 x.2.2->True->True/\(decide (au x.1≠0)=true->((0:Int)=if cg x.1 x.2.1 x.2.2≠0 then (0:Int) else x.1.1.getD (bG x.1 x.2.1 x.2.2).toNat 0)/\au x.1=cg x.1 x.2.1 x.2.2/\True)/\(decide (au x.1≠0)=false->True/\True/\((!fx (List.map (fun (x:bj)=>x.1) x.1.2.2.1) x.2.1)=true->((0:Int)=if cg x.1 x.2.1 x.2.2≠0 then (0:Int) else x.1.1.getD (bG x.1 x.2.1 x.2.2).toNat 0)/\8=cg x.1 x.2.1 x.2.2/\True)/\((!fx (List.map (fun (x:bj)=>x.1) x.1.2.2.1) x.2.1)=false->True/\((decide (x.2.2<0)||decide ((↑(g9 x.1.1 x.2.1).1.2.2.1.length:Int)<=x.2.2))=true->((0:Int)=if cg x.1 x.2.1 x.2.2≠0 then (0:Int) else x.1.1.getD (bG x.1 x.2.1 x.2.2).toNat 0)/\4=cg x.1 x.2.1 x.2.2/\True)/\((decide (x.2.2<0)||decide ((↑(g9 x.1.1 x.2.1).1.2.2.1.length:Int)<=x.2.2))=false->0<=x.2.2/\x.2.2<(↑(g9 x.1.1 x.2.1).1.2.2.1.length:Int)/\((g9 x.1.1 x.2.1).1.2.2.1.getD x.2.2.toNat (0:Int)=if cg x.1 x.2.1 x.2.2≠0 then (0:Int) else x.1.1.getD (bG x.1 x.2.1 x.2.2).toNat 0)/\0=cg x.1 x.2.1 x.2.2/\True)))
theorem Dj:wQ:=by
 unfold wQ;intro ⟨s,at_,k⟩ ⟨⟨⟨hb,hw⟩,_⟩,_⟩ _;simp only at hb hw |-;have hP:cg s at_ k=if au s≠0 then au s else if fx (cG s) at_=false then 8 else if k<0\/(eG s.1 at_).2.1<=k then 4 else 0:=rfl
 have hpo:List.map (fun (x:bj)=>x.1) s.2.2.1=cG s:=rfl;rw [hpo];refine ⟨trivial,fun h=>?_,fun h=>⟨trivial,trivial,fun h1=>?_,fun h1=>⟨trivial,fun h2=>?_,fun h2=>?_⟩⟩⟩
 ·have h:=Nw h;rw [if_pos h] at hP;rw [hP,if_pos h];exact ⟨by trivial,by trivial,trivial⟩
 all_goals have h:=Nx h
 ·rw [if_neg h,if_pos (by simpa using h1)] at hP;rw [hP];exact ⟨by trivial,by trivial,trivial⟩
 all_goals
  have h1:fx (cG s) at_=true:=by simpa using h1
  have R:=gQ hw (by omega:au s=0);have O:=R.obj (R.pinsIn at_ (cu.1 h1));rw [if_neg h,if_neg (by rw [h1]; simp)] at hP;rw [O.body] at h2
 ·rw [if_pos (by simpa using h2)] at hP;rw [hP];exact ⟨by trivial,by trivial,trivial⟩
 ·have h2:¬ (k<0\/(eG s.1 at_).2.1<=k):=by simpa using h2
  have l:=bW O.isb;rw [if_neg h2] at hP;rw [hP,O.body];have hg:=Ib (a:=s.1) (at_:=at_) (k:=k) (by omega) (by omega) l.2.1 O.x0 O.r0;have e:(g9 s.1 at_).1.2.2.1=gI s.1 at_:=by rw [O.at_]; rfl
  rw [e,<- hg];exact ⟨by omega,by omega,by simp [bG],by trivial,trivial⟩
theorem Hm:GN.ok Tryz.prog 69:=aF (ann:=cr) (ae fv (ae jT (ae yX (ae mR ap)))) Tryz.func69 (by kernel_rfl) Dj
def fi (s:ah) (slot:Int):ah×Int×Int:=if bn s slot≠0 then (ay,0,bn s slot) else if (openF s.2.2.2 (ax s slot)).2.2≠0 then (ay,0,(openF s.2.2.2 (ax s slot)).2.2) else ((s.1,s.2.1,s.2.2.1,(openF s.2.2.2 (ax s slot)).1),(openF s.2.2.2 (ax s slot)).2.1,0)
def DM:Spec:={ Ts:=[aG,ty_I],Rs:=[.dat aG,.dat bJ,.dat ty_I],al:=true,pre:=fun _=>True,F:=fun ((s,slot):ah×Int)=>fi s slot }
def tG:Prop :=
  ∀ (x:(List Int×List Int×List (Int×Int)×List (Int×Bool×Int))×Int),(ol x.1)/\am .i64 x.2->True->True/\(decide ((aV x.1 x.2).2.2≠0)=true->(([]:List Int),([]:List Int),([]:List (Int×Int)),([]:List (Int×Bool×Int)))=(fi x.1 x.2).1/\0=(fi x.1 x.2).2.1/\(aV x.1 x.2).2.2=(fi x.1 x.2).2.2/\True)/\(decide ((aV x.1 x.2).2.2≠0)=false->True/\(decide ((openF x.1.2.2.2 (aV x.1 x.2).1).2.2≠0)=true->(([]:List Int),([]:List Int),([]:List (Int×Int)),([]:List (Int×Bool×Int)))=(fi x.1 x.2).1/\0=(fi x.1 x.2).2.1/\(openF x.1.2.2.2 (aV x.1 x.2).1).2.2=(fi x.1 x.2).2.2/\True)/\(decide ((openF x.1.2.2.2 (aV x.1 x.2).1).2.2≠0)=false->∀ (_:Array Value),True/\True/\True/\x.1.2.1=x.1.2.1/\x.1.2.2.1=x.1.2.2.1/\x.1.2.2.1=x.1.2.2.1/\x.1.2.2.2=x.1.2.2.2/\x.1.2.2.2=x.1.2.2.2/\x.1.2.2.2=x.1.2.2.2/\True/\(x.1.1,x.1.2.1,x.1.2.2.1,(openF x.1.2.2.2 (aV x.1 x.2).1).1)=(fi x.1 x.2).1/\(openF x.1.2.2.2 (aV x.1 x.2).1).2.1=(fi x.1 x.2).2.1/\0=(fi x.1 x.2).2.2/\True))
theorem Af:tG:=by
 unfold tG;intro ⟨s,slot⟩ hx _;simp only at hx |-;have hF:fi s slot=if bn s slot≠0 then (ay,0,bn s slot) else if (openF s.2.2.2 (ax s slot)).2.2≠0 then (ay,0,(openF s.2.2.2 (ax s slot)).2.2) else ((s.1,s.2.1,s.2.2.1,(openF s.2.2.2 (ax s slot)).1),(openF s.2.2.2 (ax s slot)).2.1,0):=rfl
 have hO:aV s slot=if bn s slot≠0 then (0,ip,bn s slot) else (ax s slot,(g9 s.1 (ax s slot)).1,0):=rfl
 by_cases h0:bn s slot≠0
 ·rw [if_pos h0] at hF hO;rw [hO,hF];exact ⟨trivial,fun _=>⟨by trivial,by trivial,by trivial,trivial⟩,fun h=>absurd h0 (Nx h)⟩
 ·rw [if_neg h0] at hF hO;rw [hO,hF];simp only;refine ⟨trivial,fun h=>absurd rfl (Nw h),fun _=>⟨trivial,fun h=>?_,fun h tm=>⟨trivial,trivial,trivial,by trivial,by trivial,by trivial,by trivial,by trivial,by trivial,trivial,?_⟩⟩⟩
  ·rw [if_pos (Nw h)];exact ⟨by trivial,by trivial,by trivial,trivial⟩
  ·rw [if_neg (Nx h)];exact ⟨by trivial,by trivial,by trivial,trivial⟩
theorem Ei:DM.ok Tryz.prog 70:=aF (ann:=fO) (ae jU (ae B2 (ae bC (ae bZ (ae bP (ae bD ap)))))) Tryz.func70 (by kernel_rfl) Af
def bE (s:ah) (k:Int):Int:=if au s≠0 then au s else if k<0\/(s.2.1.length:Int)<=k then 5 else 0
def yq:Spec:={ Ts:=[aG,ty_I],Rs:=[.dat ty_I],pre:=fun _=>True,F:=fun ((s,k):ah×Int)=>bE s k }
def oN:Prop :=
  ∀ (x:(List Int×List Int×List (Int×Int)×List (Int×Bool×Int))×Int),(ol x.1)/\am .i64 x.2->True->True/\((decide (au x.1=0)&&(decide (x.2<0)||decide ((x.1.2.1.length:Int)<=x.2)))=true->5=bE x.1 x.2/\True)/\((decide (au x.1=0)&&(decide (x.2<0)||decide ((x.1.2.1.length:Int)<=x.2)))=false->au x.1=bE x.1 x.2/\True)
theorem vk:oN:=by
 unfold oN;intro ⟨s,k⟩ hx _;simp only at hx |-;have hE:bE s k=if au s≠0 then au s else if k<0\/(s.2.1.length:Int)<=k then 5 else 0:=rfl
 rw [hE];refine ⟨trivial,fun h=>?_,fun h=>?_⟩
 ·simp only [NA,N5,Oj] at h;rw [if_neg (by omega),if_pos h.2];exact ⟨rfl,trivial⟩
 ·simp only [PD,Ou,OG] at h;by_cases h0:au s≠0
  ·rw [if_pos h0];exact ⟨rfl,trivial⟩
  ·rw [if_neg h0,if_neg (by omega)];exact ⟨by omega,trivial⟩
theorem o9:yq.ok Tryz.prog 144:=aF (ann:=cr) (ae fv ap) Tryz.func144 (by kernel_rfl) vk
theorem Fj {s:ah} {k:Int} (h:bE s k=0):0<=k/\k<s.2.1.length:=by
 unfold bE at h;split at h
 ·omega
 split at h
 ·omega
 omega
def jo (s:ah) (name slot:Int):ah×Int:=if bE s slot≠0 then (ay,bE s slot) else if (gW s.2.2.2 name).2≠0 then (ay,(gW s.2.2.2 name).2) else ((s.1,s.2.1.set slot.toNat (gW s.2.2.2 name).1,s.2.2),0)
def GI:Spec:={ Ts:=[aG,bJ,ty_I],Rs:=[.dat aG,.dat ty_I],al:=true,pre:=fun _=>True,F:=fun ((s,name,slot):ah×Int×Int)=>jo s name slot }
def wL:Prop :=
  ∀ (x:(List Int×List Int×List (Int×Int)×List (Int×Bool×Int))×Int×Int),(ol x.1)/\am .u64 x.2.1/\am .i64 x.2.2->True->True/\(decide (bE x.1 x.2.2≠0)=true->(([]:List Int),([]:List Int),([]:List (Int×Int)),([]:List (Int×Bool×Int)))=(jo x.1 x.2.1 x.2.2).1/\bE x.1 x.2.2=(jo x.1 x.2.1 x.2.2).2/\True)/\(decide (bE x.1 x.2.2≠0)=false->True/\(decide ((gW x.1.2.2.2 x.2.1).2≠0)=true->(([]:List Int),([]:List Int),([]:List (Int×Int)),([]:List (Int×Bool×Int)))=(jo x.1 x.2.1 x.2.2).1/\(gW x.1.2.2.2 x.2.1).2=(jo x.1 x.2.1 x.2.2).2/\True)/\(decide ((gW x.1.2.2.2 x.2.1).2≠0)=false->∀ (_:Array Value),True/\True/\True/\x.1.2.1=x.1.2.1/\x.1.2.2.1=x.1.2.2.1/\x.1.2.2.1=x.1.2.2.1/\x.1.2.2.2=x.1.2.2.2/\x.1.2.2.2=x.1.2.2.2/\x.1.2.2.2=x.1.2.2.2/\True/\0<=x.2.2/\x.2.2<(x.1.2.1.length:Int)/\x.2.2.toNat<x.1.2.1.length/\(x.1.1,x.1.2.1.set x.2.2.toNat (gW x.1.2.2.2 x.2.1).1,x.1.2.2)=(jo x.1 x.2.1 x.2.2).1/\0=(jo x.1 x.2.1 x.2.2).2/\True))
theorem De:wL:=by
 unfold wL;intro ⟨s,name,slot⟩ hx _;simp only at hx |-;have hF:jo s name slot=if bE s slot≠0 then (ay,bE s slot) else if (gW s.2.2.2 name).2≠0 then (ay,(gW s.2.2.2 name).2) else ((s.1,s.2.1.set slot.toNat (gW s.2.2.2 name).1,s.2.2),0):=rfl
 rw [hF];refine ⟨trivial,fun h=>?_,fun h=>⟨trivial,fun h1=>?_,fun h1 tm=>⟨trivial,trivial,trivial,by trivial,by trivial,by trivial,by trivial,by trivial,by trivial,trivial,?_⟩⟩⟩
 ·rw [if_pos (Nw h)];exact ⟨by trivial,by trivial,trivial⟩
 ·rw [if_neg (Nx h),if_pos (Nw h1)];exact ⟨by trivial,by trivial,trivial⟩
 ·rw [if_neg (Nx h),if_neg (Nx h1)];have hs:=Fj (by simpa using Nx h:bE s slot=0);exact ⟨hs.1,hs.2,by omega,by trivial,by trivial,trivial⟩
theorem Hh:GI.ok Tryz.prog 71:=aF (ann:=fO) (ae o9 (ae B3 (ae bC (ae bZ (ae bP (ae bD ap)))))) Tryz.func71 (by kernel_rfl) De
def fp (s:ah) (name:Int):ah×Int:=if au s≠0 then (ay,au s) else if (closeF s.2.2.2 name).2≠0 then (ay,(closeF s.2.2.2 name).2) else ((s.1,s.2.1,s.2.2.1,(closeF s.2.2.2 name).1),0)
def DL:Spec:={ Ts:=[aG,bJ],Rs:=[.dat aG,.dat ty_I],al:=true,pre:=fun _=>True,F:=fun ((s,name):ah×Int)=>fp s name }
def tF:Prop :=
  ∀ (x:(List Int×List Int×List (Int×Int)×List (Int×Bool×Int))×Int),(ol x.1)/\am .u64 x.2->True->True/\(decide (au x.1≠0)=true->(([]:List Int),([]:List Int),([]:List (Int×Int)),([]:List (Int×Bool×Int)))=(fp x.1 x.2).1/\au x.1=(fp x.1 x.2).2/\True)/\(decide (au x.1≠0)=false->True/\(decide ((closeF x.1.2.2.2 x.2).2≠0)=true->(([]:List Int),([]:List Int),([]:List (Int×Int)),([]:List (Int×Bool×Int)))=(fp x.1 x.2).1/\(closeF x.1.2.2.2 x.2).2=(fp x.1 x.2).2/\True)/\(decide ((closeF x.1.2.2.2 x.2).2≠0)=false->∀ (_:Array Value),True/\True/\True/\x.1.2.1=x.1.2.1/\x.1.2.2.1=x.1.2.2.1/\x.1.2.2.1=x.1.2.2.1/\x.1.2.2.2=x.1.2.2.2/\x.1.2.2.2=x.1.2.2.2/\x.1.2.2.2=x.1.2.2.2/\True/\(x.1.1,x.1.2.1,x.1.2.2.1,(closeF x.1.2.2.2 x.2).1)=(fp x.1 x.2).1/\0=(fp x.1 x.2).2/\True))
theorem Ae:tF:=by
 unfold tF;intro ⟨s,name⟩ hx _;simp only at hx |-;have hF:fp s name=if au s≠0 then (ay,au s) else if (closeF s.2.2.2 name).2≠0 then (ay,(closeF s.2.2.2 name).2) else ((s.1,s.2.1,s.2.2.1,(closeF s.2.2.2 name).1),0):=rfl
 rw [hF];refine ⟨trivial,fun h=>?_,fun h=>⟨trivial,fun h1=>?_,fun h1 tm=>⟨trivial,trivial,trivial,by trivial,by trivial,by trivial,by trivial,by trivial,by trivial,trivial,?_⟩⟩⟩
 ·rw [if_pos (Nw h)];exact ⟨by trivial,by trivial,trivial⟩
 ·rw [if_neg (Nx h),if_pos (Nw h1)];exact ⟨by trivial,by trivial,trivial⟩
 ·rw [if_neg (Nx h),if_neg (Nx h1)];exact ⟨by trivial,by trivial,trivial⟩
theorem Eh:DL.ok Tryz.prog 72:=aF (ann:=fO) (ae fv (ae yY (ae bC (ae bZ (ae bP (ae bD ap)))))) Tryz.func72 (by kernel_rfl) Ae
def eY (s:ah) (slot:Int):ah×Int:=if bE s slot≠0 then (ay,bE s slot) else ((s.1,s.2.1.set slot.toNat (-1),s.2.2),0)
def DN:Spec:={ Ts:=[aG,ty_I],Rs:=[.dat aG,.dat ty_I],al:=true,pre:=fun _=>True,F:=fun ((s,slot):ah×Int)=>eY s slot }
def tH:Prop :=
  ∀ (x:(List Int×List Int×List (Int×Int)×List (Int×Bool×Int))×Int),(ol x.1)/\am .i64 x.2->True->True/\(decide (bE x.1 x.2≠0)=true->(([]:List Int),([]:List Int),([]:List (Int×Int)),([]:List (Int×Bool×Int)))=(eY x.1 x.2).1/\bE x.1 x.2=(eY x.1 x.2).2/\True)/\(decide (bE x.1 x.2≠0)=false->∀ (_:Array Value),True/\True/\True/\x.1.2.1=x.1.2.1/\x.1.2.2.1=x.1.2.2.1/\x.1.2.2.1=x.1.2.2.1/\x.1.2.2.2=x.1.2.2.2/\x.1.2.2.2=x.1.2.2.2/\x.1.2.2.2=x.1.2.2.2/\True/\0<=x.2/\x.2<(x.1.2.1.length:Int)/\x.2.toNat<x.1.2.1.length/\(x.1.1,x.1.2.1.set x.2.toNat (-1),x.1.2.2)=(eY x.1 x.2).1/\0=(eY x.1 x.2).2/\True)
theorem Ag:tH:=by
 unfold tH;intro ⟨s,slot⟩ hx _;simp only at hx |-;have hF:eY s slot=if bE s slot≠0 then (ay,bE s slot) else ((s.1,s.2.1.set slot.toNat (-1),s.2.2),0):=rfl
 rw [hF];refine ⟨trivial,fun h=>?_,fun h tm=>⟨trivial,trivial,trivial,by trivial,by trivial,by trivial,by trivial,by trivial,by trivial,trivial,?_⟩⟩
 ·rw [if_pos (Nw h)];exact ⟨by trivial,by trivial,trivial⟩
 ·have hs:=Fj (by simpa using Nx h:bE s slot=0);rw [if_neg (Nx h)];exact ⟨hs.1,hs.2,by omega,by trivial,by trivial,trivial⟩
theorem Ej:DN.ok Tryz.prog 73:=aF (ann:=fO) (ae o9 (ae bC (ae bZ (ae bP (ae bD ap))))) Tryz.func73 (by kernel_rfl) Ag
def eL (h:dI):Int:=if af h≠0 then af h else if h.2.2.2=true then 3 else 0
theorem FU {h:dI} (hh:eL h=0):af h=0/\h.2.2.2=false:=by
 unfold eL at hh;split at hh
 ·omega
 split at hh
 ·omega
 rename_i h1 h2;exact ⟨by omega,by simpa using h2⟩
theorem s7 {a:List Int} (hc:(ak a).2.2=0) {h:dI} (h0:af h=0) (hf:h.2.2.2=false):match (aM false [] (ac a).1).find? (fun r=>decide (aa h<=r.2)) with
  | none=>bu (aM false [] (ac a).1) (aa h)=(0,7)/\gL a h=([],0,false)
  | some r=>∃ i,0<=i/\i<((aM false [] (ac a).1).length:Int)/\bu (aM false [] (ac a).1) (aa h)=(i,0)/\(aM false [] (ac a).1).getD i.toNat (0,0)=r/\ix (cD a).1 r.1 h=(fc a r h,0)/\gL a h=(fc a r h,r.1,true):=by
 have hgi:=(mU (bg hc).2.2.2.1).1;have hz:=aW h0;have hL:aa h=1+h.1+h.2.1:=rfl;have hff:=HU (n:=aa h) (l:=aM false [] (ac a).1) (by omega) (fun r hr=>by have:=hgi r hr; omega);have hfi:=xB (aa h) (aM false [] (ac a).1) 0;cases hfd:(aM false [] (ac a).1).find? (fun r=>decide (aa h<=r.2)) with
 | none =>
  rw [hfd] at hfi;simp only at hfi |-;rw [if_pos hfi] at hff;refine ⟨hff,?_⟩;unfold gL;rw [hfd]
 | some r =>
  rw [hfd] at hfi;obtain ⟨i,i0,i1,i2,i3,i4⟩:=hfi;rw [if_neg i3,i4,Int.zero_add] at hff;have hr:=List.mem_of_find?_eq_some hfd;have hle:aa h<=r.2:=by simpa using List.find?_some hfd
  refine ⟨i,i0,i1,hff,i2,Ed hc hr h0 hf hle,?_⟩;unfold gL;rw [hfd]
def Ie:Nat->Option LoopGen
 | 3000083=>some d9
 | 8404000001=>some d9
 | 3000084=>some d9
 | 8504000007=>some d9
 | 3000085=>some d9
 | 8605000004=>some { rd:=[.boxS 1 [.own 45 bJ,.own 3 ty_I,.own 157 fo,.own 135 ca]],A:=fun (s:ah)=>{ cs:=[.own 9 3 ty_I,.own 10 3 ty_I],inv:=fun ((ra,ha):List Int×List Int)=>ra=List.replicate s.1.length 0/\ha=List.replicate 256 0,mu:=fun _=>0 } }
 | 8600000006=>some { wr:=[9,10],rd:=[.boxS 1 [.own 45 bJ,.own 3 ty_I,.own 157 fo,.own 135 ca]],A:=fun (s:ah)=>{ cs:=[.own 9 3 ty_I,.own 10 3 ty_I,.dat 42 ty_I],inv:=fun ((ra,ha,i):List Int×List Int×Int)=>0<=i/\i<=(ai s).length/\ra=bR (List.replicate s.1.length 0) ((ai s).take i.toNat) (kV s)/\ha=bR (List.replicate 256 0) ((ai s).take i.toNat) (kV s),mu:=fun ((_,_,i):List Int×List Int×Int)=>((ai s).length - i).toNat } }
 | 8600000015=>some { rd:=[.own 86 105 jp],A:=fun (g:List cR)=>{ cs:=[.dat 13 ty_I,.dat 88 ty_I],inv:=fun ((n,i):Int×Int)=>0<=i/\i<=g.length/\g.length<=256/\(∀ r∈g,0<=r.2/\r.2<=256)/\n=dC (g.take i.toNat)/\0<=n/\n<=256 * i,mu:=fun ((_,i):Int×Int)=>(g.length - i).toNat } }
 | _=>none
def fZ (s:ah) (slot:Int) (h:dI):ah×Bool:=((((gL s.1 h).1,s.2.1.set slot.toNat (gL s.1 h).2.1,s.2.2):ah),(gL s.1 h).2.2)
def aX (s:ah) (slot:Int) (h:dI):ah×Bool×Int :=
 if bE s slot≠0 then (ay,false,bE s slot) else if eL h≠0 then (ay,false,eL h) else
 if (fZ s slot h).2=true then ((fZ s slot h).1,false,0) else if (fZ (gM s) slot h).2=true then ((fZ (gM s) slot h).1,true,0) else (ay,false,7)
def GO:Spec:={ Ts:=[aG,ty_I,gc],Rs:=[.dat aG,.dat .bool,.dat ty_I],al:=true,pre:=fun _=>True,F:=fun ((s,slot,h):ah×Int×dI)=>aX s slot h }
def wR:Prop :=
  ∀ (x:(List Int×List Int×List (Int×Int)×List (Int×Bool×Int))×Int×Int×Int×Int×Bool),(ol x.1)/\am .i64 x.2.1/\am .i64 x.2.2.1/\am .i64 x.2.2.2.1/\am .i64 x.2.2.2.2.1/\True->True->True/\(decide (au x.1≠0)=true->(([]:List Int),([]:List Int),([]:List (Int×Int)),([]:List (Int×Bool×Int)))=(aX x.1 x.2.1 x.2.2).1/\false=(aX x.1 x.2.1 x.2.2).2.1/\au x.1=(aX x.1 x.2.1 x.2.2).2.2/\True)/\(decide (au x.1≠0)=false->((decide (x.2.1<0)||decide ((x.1.2.1.length:Int)<=x.2.1))=true->(([]:List Int),([]:List Int),([]:List (Int×Int)),([]:List (Int×Bool×Int)))=(aX x.1 x.2.1 x.2.2).1/\false=(aX x.1 x.2.1 x.2.2).2.1/\5=(aX x.1 x.2.1 x.2.2).2.2/\True)/\((decide (x.2.1<0)||decide ((x.1.2.1.length:Int)<=x.2.1))=false->True/\(decide (af x.2.2≠0)=true->(([]:List Int),([]:List Int),([]:List (Int×Int)),([]:List (Int×Bool×Int)))=(aX x.1 x.2.1 x.2.2).1/\false=(aX x.1 x.2.1 x.2.2).2.1/\af x.2.2=(aX x.1 x.2.1 x.2.2).2.2/\True)/\(decide (af x.2.2≠0)=false->(x.2.2.2.2.2=true->(([]:List Int),([]:List Int),([]:List (Int×Int)),([]:List (Int×Bool×Int)))=(aX x.1 x.2.1 x.2.2).1/\false=(aX x.1 x.2.1 x.2.2).2.1/\3=(aX x.1 x.2.1 x.2.2).2.2/\True)/\(x.2.2.2.2.2=false->∀ (_:Array Value),True/\True/\True/\x.1.2.1=x.1.2.1/\x.1.2.2.1=x.1.2.2.1/\x.1.2.2.1=x.1.2.2.1/\x.1.2.2.2=x.1.2.2.2/\x.1.2.2.2=x.1.2.2.2/\x.1.2.2.2=x.1.2.2.2/\True/\∀ (_:Array Value),True/\True/\True/\(decide ((bu (an x.1.1).1 (if af x.2.2=0 then aa x.2.2 else (0:Int))).2≠0)=true->((!false)=true->∀ (_:Array Value),(x.1.2.1.length<=32/\x.1.2.2.1.length<=16/\x.1.2.2.2.length<=16)/\True/\((ai x.1).length+(List.map (fun (x:bj)=>x.1) x.1.2.2.1).length) * 8<=140737488355328/\True/\((((0<=(x.1.1.length:Int)/\(x.1.1.length:Int).toNat * 8<=aL/\((0:Int)<=256/\Int.toNat 256 * 8<=aL/\((List.replicate (x.1.1.length:Int).toNat (0:Int)=List.replicate x.1.1.length (0:Int)/\List.replicate (Int.toNat 256) (0:Int)=List.replicate 256 (0:Int))/\True)/\True)/\(((0:Int)<=256/\Int.toNat 256 * 8<=aL/\(List.replicate (x.1.1.length:Int).toNat (0:Int)=List.replicate x.1.1.length (0:Int)/\List.replicate (Int.toNat 256) (0:Int)=List.replicate 256 (0:Int))/\True)/\True)/\True)/\((0:Int)<=256/\Int.toNat 256 * 8<=aL/\(0<=(x.1.1.length:Int)/\(x.1.1.length:Int).toNat * 8<=aL/\((List.replicate (x.1.1.length:Int).toNat (0:Int)=List.replicate x.1.1.length (0:Int)/\List.replicate (Int.toNat 256) (0:Int)=List.replicate 256 (0:Int))/\True)/\True)/\True)/\True)/\((0:Int)<=256/\Int.toNat 256 * 8<=aL/\((0<=(x.1.1.length:Int)/\(x.1.1.length:Int).toNat * 8<=aL/\((List.replicate (x.1.1.length:Int).toNat (0:Int)=List.replicate x.1.1.length (0:Int)/\List.replicate (Int.toNat 256) (0:Int)=List.replicate 256 (0:Int))/\True)/\True)/\True)/\True)/\True)/\((0:Int)<=256/\Int.toNat 256 * 8<=aL/\(((0<=(x.1.1.length:Int)/\(x.1.1.length:Int).toNat * 8<=aL/\((List.replicate (x.1.1.length:Int).toNat (0:Int)=List.replicate x.1.1.length (0:Int)/\List.replicate (Int.toNat 256) (0:Int)=List.replicate 256 (0:Int))/\True)/\True)/\True)/\True)/\True)/\True)/\∀ (x_1:List Int×List Int),x_1.1=List.replicate x.1.1.length (0:Int)/\x_1.2=List.replicate 256 (0:Int)->((0:Int)<=0/\0<=(↑(ai x.1).length:Int)/\x_1.1=bR (List.replicate x.1.1.length (0:Int)) (List.take (Int.toNat 0) (ai x.1)) (kV x.1)/\x_1.2=bR (List.replicate 256 (0:Int)) (List.take (Int.toNat 0) (ai x.1)) (kV x.1))/\∀ (x_2:List Int×List Int×Int),0<=x_2.2.2/\x_2.2.2<=(↑(ai x.1).length:Int)/\x_2.1=bR (List.replicate x.1.1.length (0:Int)) (List.take x_2.2.2.toNat (ai x.1)) (kV x.1)/\x_2.2.1=bR (List.replicate 256 (0:Int)) (List.take x_2.2.2.toNat (ai x.1)) (kV x.1)->(decide (x_2.2.2<(↑(ai x.1).length:Int))=true->0<=x_2.2.2/\x_2.2.2<(↑(ai x.1).length:Int)/\x_2.2.2.toNat<(ai x.1).length/\0<=x_2.2.2/\x_2.2.2<(↑(aq x.1.1 (ai x.1) (List.map (fun (x:bj)=>x.1) x.1.2.2.1)).2.1.length:Int)/\0<=x_2.2.2/\x_2.2.2<(↑(aq x.1.1 (ai x.1) (List.map (fun (x:bj)=>x.1) x.1.2.2.1)).2.1.length:Int)/\0<=(ai x.1).getD x_2.2.2.toNat 0/\(ai x.1).getD x_2.2.2.toNat 0<(x_2.1.length:Int)/\((ai x.1).getD x_2.2.2.toNat 0).toNat<x_2.1.length/\(ai x.1).getD x_2.2.2.toNat 0=(ai x.1).getD x_2.2.2.toNat 0/\0<=(ai x.1).getD x_2.2.2.toNat 0/\(ai x.1).getD x_2.2.2.toNat 0<(x_2.2.1.length:Int)/\((ai x.1).getD x_2.2.2.toNat 0).toNat<x_2.2.1.length/\am .i64 (x_2.2.2+1)/\(0<=x_2.2.2+1/\x_2.2.2+1<=(↑(ai x.1).length:Int)/\x_2.1.set ((ai x.1).getD x_2.2.2.toNat 0).toNat ((aq x.1.1 (ai x.1) (List.map (fun (x:bj)=>x.1) x.1.2.2.1)).2.1.getD x_2.2.2.toNat 0)=bR (List.replicate x.1.1.length (0:Int)) (List.take (x_2.2.2+1).toNat (ai x.1)) (kV x.1)/\x_2.2.1.set ((ai x.1).getD x_2.2.2.toNat 0).toNat ((aq x.1.1 (ai x.1) (List.map (fun (x:bj)=>x.1) x.1.2.2.1)).2.1.getD x_2.2.2.toNat 0)=bR (List.replicate 256 (0:Int)) (List.take (x_2.2.2+1).toNat (ai x.1)) (kV x.1))/\((↑(ai x.1).length:Int) - (x_2.2.2+1)).toNat<((↑(ai x.1).length:Int) - x_2.2.2).toNat)/\(decide (x_2.2.2<(↑(ai x.1).length:Int))=false->True/\True/\True/\((0:Int)<=0/\0<=(↑(an (aq x.1.1 (ai x.1) (List.map (fun (x:bj)=>x.1) x.1.2.2.1)).1).1.length:Int)/\(an (aq x.1.1 (ai x.1) (List.map (fun (x:bj)=>x.1) x.1.2.2.1)).1).1.length<=256/\(∀ (r:cR),r∈(an (aq x.1.1 (ai x.1) (List.map (fun (x:bj)=>x.1) x.1.2.2.1)).1).1->0<=r.2/\r.2<=256)/\0=dC (List.take (Int.toNat 0) (an (aq x.1.1 (ai x.1) (List.map (fun (x:bj)=>x.1) x.1.2.2.1)).1).1)/\(0:Int)<=0/\(0:Int)<=256 * 0)/\∀ (x_3:Int×Int),0<=x_3.2/\x_3.2<=(↑(an (aq x.1.1 (ai x.1) (List.map (fun (x:bj)=>x.1) x.1.2.2.1)).1).1.length:Int)/\(an (aq x.1.1 (ai x.1) (List.map (fun (x:bj)=>x.1) x.1.2.2.1)).1).1.length<=256/\(∀ (r:cR),r∈(an (aq x.1.1 (ai x.1) (List.map (fun (x:bj)=>x.1) x.1.2.2.1)).1).1->0<=r.2/\r.2<=256)/\x_3.1=dC (List.take x_3.2.toNat (an (aq x.1.1 (ai x.1) (List.map (fun (x:bj)=>x.1) x.1.2.2.1)).1).1)/\0<=x_3.1/\x_3.1<=256 * x_3.2->(decide (x_3.2<(↑(an (aq x.1.1 (ai x.1) (List.map (fun (x:bj)=>x.1) x.1.2.2.1)).1).1.length:Int))=true->0<=x_3.2/\x_3.2<(↑(an (aq x.1.1 (ai x.1) (List.map (fun (x:bj)=>x.1) x.1.2.2.1)).1).1.length:Int)/\x_3.2.toNat<(an (aq x.1.1 (ai x.1) (List.map (fun (x:bj)=>x.1) x.1.2.2.1)).1).1.length/\am .i64 (x_3.1+((an (aq x.1.1 (ai x.1) (List.map (fun (x:bj)=>x.1) x.1.2.2.1)).1).1.getD x_3.2.toNat (0,0)).2)/\am .i64 (x_3.2+1)/\(0<=x_3.2+1/\x_3.2+1<=(↑(an (aq x.1.1 (ai x.1) (List.map (fun (x:bj)=>x.1) x.1.2.2.1)).1).1.length:Int)/\(an (aq x.1.1 (ai x.1) (List.map (fun (x:bj)=>x.1) x.1.2.2.1)).1).1.length<=256/\(∀ (r:cR),r∈(an (aq x.1.1 (ai x.1) (List.map (fun (x:bj)=>x.1) x.1.2.2.1)).1).1->0<=r.2/\r.2<=256)/\x_3.1+((an (aq x.1.1 (ai x.1) (List.map (fun (x:bj)=>x.1) x.1.2.2.1)).1).1.getD x_3.2.toNat (0,0)).2=dC (List.take (x_3.2+1).toNat (an (aq x.1.1 (ai x.1) (List.map (fun (x:bj)=>x.1) x.1.2.2.1)).1).1)/\0<=x_3.1+((an (aq x.1.1 (ai x.1) (List.map (fun (x:bj)=>x.1) x.1.2.2.1)).1).1.getD x_3.2.toNat (0,0)).2/\x_3.1+((an (aq x.1.1 (ai x.1) (List.map (fun (x:bj)=>x.1) x.1.2.2.1)).1).1.getD x_3.2.toNat (0,0)).2<=256 * (x_3.2+1))/\((↑(an (aq x.1.1 (ai x.1) (List.map (fun (x:bj)=>x.1) x.1.2.2.1)).1).1.length:Int) - (x_3.2+1)).toNat<((↑(an (aq x.1.1 (ai x.1) (List.map (fun (x:bj)=>x.1) x.1.2.2.1)).1).1.length:Int) - x_3.2).toNat)/\(decide (x_3.2<(↑(an (aq x.1.1 (ai x.1) (List.map (fun (x:bj)=>x.1) x.1.2.2.1)).1).1.length:Int))=false->∀ (_:Array Value),True/\True/\True/\(decide ((bu (an (aq x.1.1 (ai x.1) (List.map (fun (x:bj)=>x.1) x.1.2.2.1)).1).1 (if af x.2.2=0 then aa x.2.2 else (0:Int))).2≠0)=true->((!false)=true->(([]:List Int),([]:List Int),([]:List (Int×Int)),([]:List (Int×Bool×Int)))=(aX x.1 x.2.1 x.2.2).1/\false=(aX x.1 x.2.1 x.2.2).2.1/\7=(aX x.1 x.2.1 x.2.2).2.2/\True)/\((!false)=false->0<=x.2.1/\x.2.1<(↑(bf x.1.2.1 (x.1.1.length:Int) x_2.1).1.length:Int)/\x.2.1.toNat<(bf x.1.2.1 (x.1.1.length:Int) x_2.1).1.length/\(([]:List Int),(bf x.1.2.1 (x.1.1.length:Int) x_2.1).1.set x.2.1.toNat 0,x.1.2.2.1,(fU x.1.2.2.2 x_2.2.1).1)=(aX x.1 x.2.1 x.2.2).1/\(!false)=(aX x.1 x.2.1 x.2.2).2.1/\0=(aX x.1 x.2.1 x.2.2).2.2/\True))/\(decide ((bu (an (aq x.1.1 (ai x.1) (List.map (fun (x:bj)=>x.1) x.1.2.2.1)).1).1 (if af x.2.2=0 then aa x.2.2 else (0:Int))).2≠0)=false->True/\0<=(bu (an (aq x.1.1 (ai x.1) (List.map (fun (x:bj)=>x.1) x.1.2.2.1)).1).1 (if af x.2.2=0 then aa x.2.2 else (0:Int))).1/\(bu (an (aq x.1.1 (ai x.1) (List.map (fun (x:bj)=>x.1) x.1.2.2.1)).1).1 (if af x.2.2=0 then aa x.2.2 else (0:Int))).1<(↑(an (aq x.1.1 (ai x.1) (List.map (fun (x:bj)=>x.1) x.1.2.2.1)).1).1.length:Int)/\(bu (an (aq x.1.1 (ai x.1) (List.map (fun (x:bj)=>x.1) x.1.2.2.1)).1).1 (if af x.2.2=0 then aa x.2.2 else (0:Int))).1.toNat<(an (aq x.1.1 (ai x.1) (List.map (fun (x:bj)=>x.1) x.1.2.2.1)).1).1.length/\True/\(ix (cD (aq x.1.1 (ai x.1) (List.map (fun (x:bj)=>x.1) x.1.2.2.1)).1).1 ((an (aq x.1.1 (ai x.1) (List.map (fun (x:bj)=>x.1) x.1.2.2.1)).1).1.getD (bu (an (aq x.1.1 (ai x.1) (List.map (fun (x:bj)=>x.1) x.1.2.2.1)).1).1 (if af x.2.2=0 then aa x.2.2 else (0:Int))).1.toNat (0,0)).1 x.2.2).2=(ix (cD (aq x.1.1 (ai x.1) (List.map (fun (x:bj)=>x.1) x.1.2.2.1)).1).1 ((an (aq x.1.1 (ai x.1) (List.map (fun (x:bj)=>x.1) x.1.2.2.1)).1).1.getD (bu (an (aq x.1.1 (ai x.1) (List.map (fun (x:bj)=>x.1) x.1.2.2.1)).1).1 (if af x.2.2=0 then aa x.2.2 else (0:Int))).1.toNat (0,0)).1 x.2.2).2/\0<=(bu (an (aq x.1.1 (ai x.1) (List.map (fun (x:bj)=>x.1) x.1.2.2.1)).1).1 (if af x.2.2=0 then aa x.2.2 else (0:Int))).1/\(bu (an (aq x.1.1 (ai x.1) (List.map (fun (x:bj)=>x.1) x.1.2.2.1)).1).1 (if af x.2.2=0 then aa x.2.2 else (0:Int))).1<(↑(an (aq x.1.1 (ai x.1) (List.map (fun (x:bj)=>x.1) x.1.2.2.1)).1).1.length:Int)/\(bu (an (aq x.1.1 (ai x.1) (List.map (fun (x:bj)=>x.1) x.1.2.2.1)).1).1 (if af x.2.2=0 then aa x.2.2 else (0:Int))).1.toNat<(an (aq x.1.1 (ai x.1) (List.map (fun (x:bj)=>x.1) x.1.2.2.1)).1).1.length/\((!true)=true->(([]:List Int),([]:List Int),([]:List (Int×Int)),([]:List (Int×Bool×Int)))=(aX x.1 x.2.1 x.2.2).1/\false=(aX x.1 x.2.1 x.2.2).2.1/\7=(aX x.1 x.2.1 x.2.2).2.2/\True)/\((!true)=false->0<=x.2.1/\x.2.1<(↑(bf x.1.2.1 (x.1.1.length:Int) x_2.1).1.length:Int)/\x.2.1.toNat<(bf x.1.2.1 (x.1.1.length:Int) x_2.1).1.length/\((ix (cD (aq x.1.1 (ai x.1) (List.map (fun (x:bj)=>x.1) x.1.2.2.1)).1).1 ((an (aq x.1.1 (ai x.1) (List.map (fun (x:bj)=>x.1) x.1.2.2.1)).1).1.getD (bu (an (aq x.1.1 (ai x.1) (List.map (fun (x:bj)=>x.1) x.1.2.2.1)).1).1 (if af x.2.2=0 then aa x.2.2 else (0:Int))).1.toNat (0,0)).1 x.2.2).1,(bf x.1.2.1 (x.1.1.length:Int) x_2.1).1.set x.2.1.toNat ((an (aq x.1.1 (ai x.1) (List.map (fun (x:bj)=>x.1) x.1.2.2.1)).1).1.getD (bu (an (aq x.1.1 (ai x.1) (List.map (fun (x:bj)=>x.1) x.1.2.2.1)).1).1 (if af x.2.2=0 then aa x.2.2 else (0:Int))).1.toNat (0,0)).1,x.1.2.2.1,(fU x.1.2.2.2 x_2.2.1).1)=(aX x.1 x.2.1 x.2.2).1/\(!false)=(aX x.1 x.2.1 x.2.2).2.1/\0=(aX x.1 x.2.1 x.2.2).2.2/\True)))))/\((!false)=false->0<=x.2.1/\x.2.1<(x.1.2.1.length:Int)/\x.2.1.toNat<x.1.2.1.length/\(([]:List Int),x.1.2.1.set x.2.1.toNat 0,x.1.2.2)=(aX x.1 x.2.1 x.2.2).1/\(!false)=(aX x.1 x.2.1 x.2.2).2.1/\0=(aX x.1 x.2.1 x.2.2).2.2/\True))/\(decide ((bu (an x.1.1).1 (if af x.2.2=0 then aa x.2.2 else (0:Int))).2≠0)=false->True/\0<=(bu (an x.1.1).1 (if af x.2.2=0 then aa x.2.2 else (0:Int))).1/\(bu (an x.1.1).1 (if af x.2.2=0 then aa x.2.2 else (0:Int))).1<(↑(an x.1.1).1.length:Int)/\(bu (an x.1.1).1 (if af x.2.2=0 then aa x.2.2 else (0:Int))).1.toNat<(an x.1.1).1.length/\True/\(ix (cD x.1.1).1 ((an x.1.1).1.getD (bu (an x.1.1).1 (if af x.2.2=0 then aa x.2.2 else (0:Int))).1.toNat (0,0)).1 x.2.2).2=(ix (cD x.1.1).1 ((an x.1.1).1.getD (bu (an x.1.1).1 (if af x.2.2=0 then aa x.2.2 else (0:Int))).1.toNat (0,0)).1 x.2.2).2/\0<=(bu (an x.1.1).1 (if af x.2.2=0 then aa x.2.2 else (0:Int))).1/\(bu (an x.1.1).1 (if af x.2.2=0 then aa x.2.2 else (0:Int))).1<(↑(an x.1.1).1.length:Int)/\(bu (an x.1.1).1 (if af x.2.2=0 then aa x.2.2 else (0:Int))).1.toNat<(an x.1.1).1.length/\((!true)=true->∀ (_:Array Value),(x.1.2.1.length<=32/\x.1.2.2.1.length<=16/\x.1.2.2.2.length<=16)/\True/\((ai x.1).length+(List.map (fun (x:bj)=>x.1) x.1.2.2.1).length) * 8<=140737488355328/\True/\((((0<=(x.1.1.length:Int)/\(x.1.1.length:Int).toNat * 8<=aL/\((0:Int)<=256/\Int.toNat 256 * 8<=aL/\((List.replicate (x.1.1.length:Int).toNat (0:Int)=List.replicate x.1.1.length (0:Int)/\List.replicate (Int.toNat 256) (0:Int)=List.replicate 256 (0:Int))/\True)/\True)/\(((0:Int)<=256/\Int.toNat 256 * 8<=aL/\(List.replicate (x.1.1.length:Int).toNat (0:Int)=List.replicate x.1.1.length (0:Int)/\List.replicate (Int.toNat 256) (0:Int)=List.replicate 256 (0:Int))/\True)/\True)/\True)/\((0:Int)<=256/\Int.toNat 256 * 8<=aL/\(0<=(x.1.1.length:Int)/\(x.1.1.length:Int).toNat * 8<=aL/\((List.replicate (x.1.1.length:Int).toNat (0:Int)=List.replicate x.1.1.length (0:Int)/\List.replicate (Int.toNat 256) (0:Int)=List.replicate 256 (0:Int))/\True)/\True)/\True)/\True)/\((0:Int)<=256/\Int.toNat 256 * 8<=aL/\((0<=(x.1.1.length:Int)/\(x.1.1.length:Int).toNat * 8<=aL/\((List.replicate (x.1.1.length:Int).toNat (0:Int)=List.replicate x.1.1.length (0:Int)/\List.replicate (Int.toNat 256) (0:Int)=List.replicate 256 (0:Int))/\True)/\True)/\True)/\True)/\True)/\((0:Int)<=256/\Int.toNat 256 * 8<=aL/\(((0<=(x.1.1.length:Int)/\(x.1.1.length:Int).toNat * 8<=aL/\((List.replicate (x.1.1.length:Int).toNat (0:Int)=List.replicate x.1.1.length (0:Int)/\List.replicate (Int.toNat 256) (0:Int)=List.replicate 256 (0:Int))/\True)/\True)/\True)/\True)/\True)/\True)/\∀ (x_1:List Int×List Int),x_1.1=List.replicate x.1.1.length (0:Int)/\x_1.2=List.replicate 256 (0:Int)->((0:Int)<=0/\0<=(↑(ai x.1).length:Int)/\x_1.1=bR (List.replicate x.1.1.length (0:Int)) (List.take (Int.toNat 0) (ai x.1)) (kV x.1)/\x_1.2=bR (List.replicate 256 (0:Int)) (List.take (Int.toNat 0) (ai x.1)) (kV x.1))/\∀ (x_2:List Int×List Int×Int),0<=x_2.2.2/\x_2.2.2<=(↑(ai x.1).length:Int)/\x_2.1=bR (List.replicate x.1.1.length (0:Int)) (List.take x_2.2.2.toNat (ai x.1)) (kV x.1)/\x_2.2.1=bR (List.replicate 256 (0:Int)) (List.take x_2.2.2.toNat (ai x.1)) (kV x.1)->(decide (x_2.2.2<(↑(ai x.1).length:Int))=true->0<=x_2.2.2/\x_2.2.2<(↑(ai x.1).length:Int)/\x_2.2.2.toNat<(ai x.1).length/\0<=x_2.2.2/\x_2.2.2<(↑(aq x.1.1 (ai x.1) (List.map (fun (x:bj)=>x.1) x.1.2.2.1)).2.1.length:Int)/\0<=x_2.2.2/\x_2.2.2<(↑(aq x.1.1 (ai x.1) (List.map (fun (x:bj)=>x.1) x.1.2.2.1)).2.1.length:Int)/\0<=(ai x.1).getD x_2.2.2.toNat 0/\(ai x.1).getD x_2.2.2.toNat 0<(x_2.1.length:Int)/\((ai x.1).getD x_2.2.2.toNat 0).toNat<x_2.1.length/\(ai x.1).getD x_2.2.2.toNat 0=(ai x.1).getD x_2.2.2.toNat 0/\0<=(ai x.1).getD x_2.2.2.toNat 0/\(ai x.1).getD x_2.2.2.toNat 0<(x_2.2.1.length:Int)/\((ai x.1).getD x_2.2.2.toNat 0).toNat<x_2.2.1.length/\am .i64 (x_2.2.2+1)/\(0<=x_2.2.2+1/\x_2.2.2+1<=(↑(ai x.1).length:Int)/\x_2.1.set ((ai x.1).getD x_2.2.2.toNat 0).toNat ((aq x.1.1 (ai x.1) (List.map (fun (x:bj)=>x.1) x.1.2.2.1)).2.1.getD x_2.2.2.toNat 0)=bR (List.replicate x.1.1.length (0:Int)) (List.take (x_2.2.2+1).toNat (ai x.1)) (kV x.1)/\x_2.2.1.set ((ai x.1).getD x_2.2.2.toNat 0).toNat ((aq x.1.1 (ai x.1) (List.map (fun (x:bj)=>x.1) x.1.2.2.1)).2.1.getD x_2.2.2.toNat 0)=bR (List.replicate 256 (0:Int)) (List.take (x_2.2.2+1).toNat (ai x.1)) (kV x.1))/\((↑(ai x.1).length:Int) - (x_2.2.2+1)).toNat<((↑(ai x.1).length:Int) - x_2.2.2).toNat)/\(decide (x_2.2.2<(↑(ai x.1).length:Int))=false->True/\True/\True/\((0:Int)<=0/\0<=(↑(an (aq x.1.1 (ai x.1) (List.map (fun (x:bj)=>x.1) x.1.2.2.1)).1).1.length:Int)/\(an (aq x.1.1 (ai x.1) (List.map (fun (x:bj)=>x.1) x.1.2.2.1)).1).1.length<=256/\(∀ (r:cR),r∈(an (aq x.1.1 (ai x.1) (List.map (fun (x:bj)=>x.1) x.1.2.2.1)).1).1->0<=r.2/\r.2<=256)/\0=dC (List.take (Int.toNat 0) (an (aq x.1.1 (ai x.1) (List.map (fun (x:bj)=>x.1) x.1.2.2.1)).1).1)/\(0:Int)<=0/\(0:Int)<=256 * 0)/\∀ (x_3:Int×Int),0<=x_3.2/\x_3.2<=(↑(an (aq x.1.1 (ai x.1) (List.map (fun (x:bj)=>x.1) x.1.2.2.1)).1).1.length:Int)/\(an (aq x.1.1 (ai x.1) (List.map (fun (x:bj)=>x.1) x.1.2.2.1)).1).1.length<=256/\(∀ (r:cR),r∈(an (aq x.1.1 (ai x.1) (List.map (fun (x:bj)=>x.1) x.1.2.2.1)).1).1->0<=r.2/\r.2<=256)/\x_3.1=dC (List.take x_3.2.toNat (an (aq x.1.1 (ai x.1) (List.map (fun (x:bj)=>x.1) x.1.2.2.1)).1).1)/\0<=x_3.1/\x_3.1<=256 * x_3.2->(decide (x_3.2<(↑(an (aq x.1.1 (ai x.1) (List.map (fun (x:bj)=>x.1) x.1.2.2.1)).1).1.length:Int))=true->0<=x_3.2/\x_3.2<(↑(an (aq x.1.1 (ai x.1) (List.map (fun (x:bj)=>x.1) x.1.2.2.1)).1).1.length:Int)/\x_3.2.toNat<(an (aq x.1.1 (ai x.1) (List.map (fun (x:bj)=>x.1) x.1.2.2.1)).1).1.length/\am .i64 (x_3.1+((an (aq x.1.1 (ai x.1) (List.map (fun (x:bj)=>x.1) x.1.2.2.1)).1).1.getD x_3.2.toNat (0,0)).2)/\am .i64 (x_3.2+1)/\(0<=x_3.2+1/\x_3.2+1<=(↑(an (aq x.1.1 (ai x.1) (List.map (fun (x:bj)=>x.1) x.1.2.2.1)).1).1.length:Int)/\(an (aq x.1.1 (ai x.1) (List.map (fun (x:bj)=>x.1) x.1.2.2.1)).1).1.length<=256/\(∀ (r:cR),r∈(an (aq x.1.1 (ai x.1) (List.map (fun (x:bj)=>x.1) x.1.2.2.1)).1).1->0<=r.2/\r.2<=256)/\x_3.1+((an (aq x.1.1 (ai x.1) (List.map (fun (x:bj)=>x.1) x.1.2.2.1)).1).1.getD x_3.2.toNat (0,0)).2=dC (List.take (x_3.2+1).toNat (an (aq x.1.1 (ai x.1) (List.map (fun (x:bj)=>x.1) x.1.2.2.1)).1).1)/\0<=x_3.1+((an (aq x.1.1 (ai x.1) (List.map (fun (x:bj)=>x.1) x.1.2.2.1)).1).1.getD x_3.2.toNat (0,0)).2/\x_3.1+((an (aq x.1.1 (ai x.1) (List.map (fun (x:bj)=>x.1) x.1.2.2.1)).1).1.getD x_3.2.toNat (0,0)).2<=256 * (x_3.2+1))/\((↑(an (aq x.1.1 (ai x.1) (List.map (fun (x:bj)=>x.1) x.1.2.2.1)).1).1.length:Int) - (x_3.2+1)).toNat<((↑(an (aq x.1.1 (ai x.1) (List.map (fun (x:bj)=>x.1) x.1.2.2.1)).1).1.length:Int) - x_3.2).toNat)/\(decide (x_3.2<(↑(an (aq x.1.1 (ai x.1) (List.map (fun (x:bj)=>x.1) x.1.2.2.1)).1).1.length:Int))=false->∀ (_:Array Value),True/\True/\True/\(decide ((bu (an (aq x.1.1 (ai x.1) (List.map (fun (x:bj)=>x.1) x.1.2.2.1)).1).1 (if af x.2.2=0 then aa x.2.2 else (0:Int))).2≠0)=true->((!false)=true->(([]:List Int),([]:List Int),([]:List (Int×Int)),([]:List (Int×Bool×Int)))=(aX x.1 x.2.1 x.2.2).1/\false=(aX x.1 x.2.1 x.2.2).2.1/\7=(aX x.1 x.2.1 x.2.2).2.2/\True)/\((!false)=false->0<=x.2.1/\x.2.1<(↑(bf x.1.2.1 (x.1.1.length:Int) x_2.1).1.length:Int)/\x.2.1.toNat<(bf x.1.2.1 (x.1.1.length:Int) x_2.1).1.length/\(([]:List Int),(bf x.1.2.1 (x.1.1.length:Int) x_2.1).1.set x.2.1.toNat 0,x.1.2.2.1,(fU x.1.2.2.2 x_2.2.1).1)=(aX x.1 x.2.1 x.2.2).1/\(!true)=(aX x.1 x.2.1 x.2.2).2.1/\0=(aX x.1 x.2.1 x.2.2).2.2/\True))/\(decide ((bu (an (aq x.1.1 (ai x.1) (List.map (fun (x:bj)=>x.1) x.1.2.2.1)).1).1 (if af x.2.2=0 then aa x.2.2 else (0:Int))).2≠0)=false->True/\0<=(bu (an (aq x.1.1 (ai x.1) (List.map (fun (x:bj)=>x.1) x.1.2.2.1)).1).1 (if af x.2.2=0 then aa x.2.2 else (0:Int))).1/\(bu (an (aq x.1.1 (ai x.1) (List.map (fun (x:bj)=>x.1) x.1.2.2.1)).1).1 (if af x.2.2=0 then aa x.2.2 else (0:Int))).1<(↑(an (aq x.1.1 (ai x.1) (List.map (fun (x:bj)=>x.1) x.1.2.2.1)).1).1.length:Int)/\(bu (an (aq x.1.1 (ai x.1) (List.map (fun (x:bj)=>x.1) x.1.2.2.1)).1).1 (if af x.2.2=0 then aa x.2.2 else (0:Int))).1.toNat<(an (aq x.1.1 (ai x.1) (List.map (fun (x:bj)=>x.1) x.1.2.2.1)).1).1.length/\True/\(ix (cD (aq x.1.1 (ai x.1) (List.map (fun (x:bj)=>x.1) x.1.2.2.1)).1).1 ((an (aq x.1.1 (ai x.1) (List.map (fun (x:bj)=>x.1) x.1.2.2.1)).1).1.getD (bu (an (aq x.1.1 (ai x.1) (List.map (fun (x:bj)=>x.1) x.1.2.2.1)).1).1 (if af x.2.2=0 then aa x.2.2 else (0:Int))).1.toNat (0,0)).1 x.2.2).2=(ix (cD (aq x.1.1 (ai x.1) (List.map (fun (x:bj)=>x.1) x.1.2.2.1)).1).1 ((an (aq x.1.1 (ai x.1) (List.map (fun (x:bj)=>x.1) x.1.2.2.1)).1).1.getD (bu (an (aq x.1.1 (ai x.1) (List.map (fun (x:bj)=>x.1) x.1.2.2.1)).1).1 (if af x.2.2=0 then aa x.2.2 else (0:Int))).1.toNat (0,0)).1 x.2.2).2/\0<=(bu (an (aq x.1.1 (ai x.1) (List.map (fun (x:bj)=>x.1) x.1.2.2.1)).1).1 (if af x.2.2=0 then aa x.2.2 else (0:Int))).1/\(bu (an (aq x.1.1 (ai x.1) (List.map (fun (x:bj)=>x.1) x.1.2.2.1)).1).1 (if af x.2.2=0 then aa x.2.2 else (0:Int))).1<(↑(an (aq x.1.1 (ai x.1) (List.map (fun (x:bj)=>x.1) x.1.2.2.1)).1).1.length:Int)/\(bu (an (aq x.1.1 (ai x.1) (List.map (fun (x:bj)=>x.1) x.1.2.2.1)).1).1 (if af x.2.2=0 then aa x.2.2 else (0:Int))).1.toNat<(an (aq x.1.1 (ai x.1) (List.map (fun (x:bj)=>x.1) x.1.2.2.1)).1).1.length/\((!true)=true->(([]:List Int),([]:List Int),([]:List (Int×Int)),([]:List (Int×Bool×Int)))=(aX x.1 x.2.1 x.2.2).1/\false=(aX x.1 x.2.1 x.2.2).2.1/\7=(aX x.1 x.2.1 x.2.2).2.2/\True)/\((!true)=false->0<=x.2.1/\x.2.1<(↑(bf x.1.2.1 (x.1.1.length:Int) x_2.1).1.length:Int)/\x.2.1.toNat<(bf x.1.2.1 (x.1.1.length:Int) x_2.1).1.length/\((ix (cD (aq x.1.1 (ai x.1) (List.map (fun (x:bj)=>x.1) x.1.2.2.1)).1).1 ((an (aq x.1.1 (ai x.1) (List.map (fun (x:bj)=>x.1) x.1.2.2.1)).1).1.getD (bu (an (aq x.1.1 (ai x.1) (List.map (fun (x:bj)=>x.1) x.1.2.2.1)).1).1 (if af x.2.2=0 then aa x.2.2 else (0:Int))).1.toNat (0,0)).1 x.2.2).1,(bf x.1.2.1 (x.1.1.length:Int) x_2.1).1.set x.2.1.toNat ((an (aq x.1.1 (ai x.1) (List.map (fun (x:bj)=>x.1) x.1.2.2.1)).1).1.getD (bu (an (aq x.1.1 (ai x.1) (List.map (fun (x:bj)=>x.1) x.1.2.2.1)).1).1 (if af x.2.2=0 then aa x.2.2 else (0:Int))).1.toNat (0,0)).1,x.1.2.2.1,(fU x.1.2.2.2 x_2.2.1).1)=(aX x.1 x.2.1 x.2.2).1/\(!true)=(aX x.1 x.2.1 x.2.2).2.1/\0=(aX x.1 x.2.1 x.2.2).2.2/\True)))))/\((!true)=false->0<=x.2.1/\x.2.1<(x.1.2.1.length:Int)/\x.2.1.toNat<x.1.2.1.length/\((ix (cD x.1.1).1 ((an x.1.1).1.getD (bu (an x.1.1).1 (if af x.2.2=0 then aa x.2.2 else (0:Int))).1.toNat (0,0)).1 x.2.2).1,x.1.2.1.set x.2.1.toNat ((an x.1.1).1.getD (bu (an x.1.1).1 (if af x.2.2=0 then aa x.2.2 else (0:Int))).1.toNat (0,0)).1,x.1.2.2)=(aX x.1 x.2.1 x.2.2).1/\(!true)=(aX x.1 x.2.1 x.2.2).2.1/\0=(aX x.1 x.2.1 x.2.2).2.2/\True))))))
theorem Dk:wR:=by
 unfold wR;intro ⟨s,slot,h⟩ ⟨⟨⟨hb,hw⟩,_⟩,_⟩ _;simp only at hb hw |-
 have hM:aX s slot h=if bE s slot≠0 then (ay,false,bE s slot) else if eL h≠0 then (ay,false,eL h) else
  if (gL s.1 h).2.2=true then (((gL s.1 h).1,s.2.1.set slot.toNat (gL s.1 h).2.1,s.2.2),false,0) else
  if (gL (dw s) h).2.2=true then (((gL (dw s) h).1,(s.2.1.map (ke s)).set slot.toNat (gL (dw s) h).2.1,s.2.2.1,s.2.2.2.map (mr s)),true,0) else (ay,false,7):=rfl
 have hE:bE s slot=if au s≠0 then au s else if slot<0\/(s.2.1.length:Int)<=slot then 5 else 0:=rfl
 have hH:eL h=if af h≠0 then af h else if h.2.2.2=true then 3 else 0:=rfl
 refine ⟨trivial,fun h0=>?_,fun h0=>⟨fun h1=>?_,fun h1=>⟨trivial,fun h2=>?_,fun h2=>⟨fun h3=>?_,fun h3 tm=>⟨trivial,trivial,trivial,by trivial,by trivial,by trivial,by trivial,by trivial,by trivial,trivial,fun tm2=>⟨trivial,trivial,trivial,?_,?_⟩⟩⟩⟩⟩⟩
 ·have h0:=Nw h0;rw [if_pos h0] at hE;rw [hM,hE,if_pos h0];exact ⟨by trivial,by trivial,by trivial,trivial⟩
 all_goals have h0:=Nx h0
 all_goals rw [if_neg h0] at hE
 ·rw [if_pos (by simpa using h1)] at hE;rw [hM,hE,if_pos (by omega)];exact ⟨by trivial,by trivial,by trivial,trivial⟩
 all_goals have h1:¬ (slot<0\/(s.2.1.length:Int)<=slot):=by simpa using h1
 all_goals rw [if_neg h1] at hE
 all_goals rw [hE,if_neg (by omega)] at hM
 ·have h2:=Nw h2;rw [if_pos h2] at hH;rw [hM,hH,if_pos h2];exact ⟨by trivial,by trivial,by trivial,trivial⟩
 all_goals have h2:af h=0:=by simpa using Nx h2
 ·rw [if_neg (by omega),if_pos h3] at hH;rw [hM,hH,if_pos (by omega)];exact ⟨by trivial,by trivial,by trivial,trivial⟩
 all_goals
  rw [if_neg (by omega),if_neg (by rw [h3]; simp)] at hH;rw [hH,if_neg (by omega)] at hM;rw [hM,if_pos h2];have R:=gQ hw (by omega:au s=0);have hcl:aq s.1 (ai s) (List.map (fun (x:bj)=>x.1) s.2.2.1)=(dw s,(ai s).map (kV s),0):=R.clean;obtain ⟨hgf,hgi,hgl⟩:=R.gaps;have hfl:=R.fromLen;have hsm:=R.small;have hal:=R.al;have hfm:=fun x=>gG (s:=s) R.root (x:=x)
  have hsr:=R.swapRoots;have hsh:=R.swapHands;have hg1:an s.1=(aM false [] (ac s.1).1,0):=by unfold an; rw [if_neg (by have:=R.chk; omega)]
  have T1:=s7 R.chk h2 h3;have T2:=s7 R.slidOK.1 h2 h3;rw [hg1];simp only;cases hfd:(aM false [] (ac s.1).1).find? (fun r=>decide (aa h<=r.2)) with
  | none=>?_
  | some r=>?_
  all_goals rw [hfd] at T1
  all_goals simp only at T1
 ·obtain ⟨t1,t2⟩:=T1;rw [t1,t2];simp only;refine fun _=>⟨fun _ tm=>?_,fun hx=>by cases hx⟩
  rw [if_neg (by simp),hcl];simp only;rw [hgf];simp only;generalize aM false [] (ac (dw s)).1=g at *;unfold aL at hb |-;refine ⟨hsm,trivial,by rw [Oh]; omega,trivial,?_,fun ⟨ra,ha⟩ ⟨q1,q2⟩=>?_⟩
  ·have e1:((s.1.length:Int)).toNat=s.1.length:=by omega
   have e2:Int.toNat 256=256:=rfl;have e3:(0:Int)<=(s.1.length:Int):=by omega
   simp only [e1,e2,e3,hb,Pp,PF];omega
  simp only at q1 q2;subst q1 q2;refine ⟨⟨by omega,by omega,by simp [bR],by simp [bR]⟩,fun ⟨ra,ha,i⟩ ⟨i0,i1,i2,i3⟩=>⟨fun hlt=>?_,fun hge=>?_⟩⟩
  ·simp only at i0 i1 i2 i3 hlt |-;have hlt:=Nw hlt;have ht:=bx (0:Int) i0 hlt;have hx:=R.nameIn ((hfm _).1 (aH (0:Int) i0 hlt));have hm:(List.map (kV s) (ai s)).getD i.toNat 0=kV s ((ai s).getD i.toNat 0):=Cd i0 hlt;have l1:ra.length=s.1.length:=by rw [i2,d5,N0]
   have l2:ha.length=256:=by rw [i3,d5,N0]
   rw [hm,ht,jO,jO,<- i2,<- i3,l1,l2,Oh];generalize (ai s).getD i.toNat 0=x at *;simp only [am];exact ⟨i0,hlt,by omega,i0,hlt,i0,hlt,hx.1,hx.2,by omega,by first | trivial | rfl,hx.1,by omega,by omega,by omega,⟨by omega,by omega,by trivial,by trivial⟩,by omega⟩
  ·simp only at i0 i1 i2 i3 hge |-;have hge:=Nx hge;rw [cn hge] at i2 i3;refine ⟨trivial,trivial,trivial,⟨by omega,by omega,hgl,fun r hr=>by have:=hgi r hr; omega,by trivial,by omega,by omega⟩,fun ⟨n,j⟩ ⟨j0,j1,_,_,j2,j3,j4⟩=>⟨fun hlt=>?_,fun hge tm=>⟨trivial,trivial,trivial,?_⟩⟩⟩
   ·simp only at j0 j1 j2 j3 j4 hlt |-;have hlt:=Nw hlt;have hm:=hgi _ (aH ((0,0):cR) j0 hlt);rw [wx j0 hlt,<- j2];generalize (g.getD j.toNat (0,0)).2=y at *;simp only [am];exact ⟨j0,hlt,by omega,by omega,by omega,⟨by omega,by omega,hgl,fun r hr=>by have:=hgi r hr; omega,by trivial,by omega,by omega⟩,by omega⟩
   ·rw [i2,i3,hsr,hsh];simp only;cases hfd2:g.find? (fun r=>decide (aa h<=r.2)) with
    | none =>
     rw [hfd2] at T2;simp only at T2;obtain ⟨u1,u2⟩:=T2;rw [u1,u2];exact ⟨fun _=>⟨fun _=>⟨by trivial,by trivial,by trivial,trivial⟩,fun hx=>by cases hx⟩,fun hx=>by simp at hx⟩
    | some r =>
     rw [hfd2] at T2;simp only at T2;obtain ⟨k,k0,k1,u1,u2,u3,u4⟩:=T2;rw [u1,u4];simp only;rw [u2,u3];refine ⟨fun hx=>by simp at hx,fun _=>⟨trivial,k0,k1,by omega,trivial,by trivial,k0,k1,by omega,fun hx=>(by cases hx),fun _=>⟨by omega,by rw [Oh]; omega,by rw [Oh]; omega,by trivial,by trivial,by trivial,trivial⟩⟩⟩
 ·obtain ⟨i,i0,i1,t1,t2,t3,t4⟩:=T1;rw [t1];exact fun hx=>by simp at hx
 ·obtain ⟨t1,t2⟩:=T1;rw [t1];exact fun hx=>by simp at hx
 ·obtain ⟨i,i0,i1,t1,t2,t3,t4⟩:=T1;rw [t1,t4];simp only;rw [t2,t3];exact fun _=>⟨trivial,i0,i1,by omega,trivial,by trivial,i0,i1,by omega,fun hx=>(by cases hx),fun _=>⟨by omega,by omega,by omega,by trivial,by trivial,by trivial,trivial⟩⟩
theorem xi:GO.ok Tryz.prog 23:=aF (ann:=Ie) (ae fv (ae i7 (ae gT (ae jV (ae Jx (ae Et (ae Es (ae ql (ae jT (ae B8 (ae bC (ae bZ (ae bP (ae bD (ae rJ (ae rO ap)))))))))))))))) Tryz.func23 (by kernel_rfl) Dk
end
section
end
section
theorem BS {h:List be} (at_:Int) (hf:aJ h=0) :
  openF h at_=if at_<0\/255<at_ then ([],0,4) else if ag az 0 h<0 then ([],0,7) else (h.set (ag az 0 h).toNat (lc h (ag az 0 h) at_),dS (ag az 0 h) (lc h (ag az 0 h) at_),0):=by
 unfold openF;rw [if_neg (by omega)];by_cases ht:at_<0\/255<at_
 ·rw [if_pos ht,if_pos (by unfold eQ; grind)]
 ·rw [if_neg ht,if_neg (by unfold eQ; grind)]
abbrev oo:Ty:=.pair ty_I (.pair ty_I (.pair ty_I (.pair ty_I bJ)))
abbrev L6:=Int×Int×Int×Int×Int
def b9 (k a b c v:Int):Bool:=decide (k<1)||decide (13<k)||!(decide (k≠2)&&decide (k≠12))&&decide (a≠0)||!(decide (k=1)||decide (3<=k)&&decide (k<=6)||decide (k=9))&&decide (b≠0)||!(decide (k=1)||decide (k=3)||decide (k=4))&&decide (c≠0)||!(decide (k=1)||decide (k=6)||decide (k=11)||decide (k=12))&&decide (v≠0)
def No (b:Bool):Int:=if b=true then 1 else 0
def deed (s:ah) (k a b c v:Int):ah×Int×Int :=
 if k=1 then ((aX s a (b,c,v % 65536,false)).1,No (aX s a (b,c,v % 65536,false)).2.1,(aX s a (b,c,v % 65536,false)).2.2)
 else if k=2 then ((cW s).1,(cW s).2,0)
 else if k=3 then ((kh s a b c).1,0,(kh s a b c).2)
 else if k=4 then ((kc s a b c).1,0,(kc s a b c).2)
 else if k=5 then (if aN s a b≠0 then (ay,0,aN s a b) else (s,s.1.getD (bG s (ax s a) b).toNat 0,0))
 else if k=6 then ((js s a b v).1,0,(js s a b v).2)
 else if k=7 then iC s a
 else if k=8 then ((cO s a).1,0,(cO s a).2)
 else if k=9 then (if cg s a b≠0 then (ay,0,cg s a b) else (s,s.1.getD (bG s a b).toNat 0,0))
 else if k=10 then fi s a
 else if k=11 then ((jo s v a).1,0,(jo s v a).2)
 else if k=12 then ((fp s v).1,0,(fp s v).2)
 else ((eY s a).1,0,(eY s a).2)
def bk (s:ah) (k a b c v:Int):ah×Int×Int:=if b9 k a b c v=true then (ay,0,1) else if au s≠0 then (ay,0,au s) else deed s k a b c v
theorem xI (s:ah) (a b c v:Int):deed s 1 a b c v=((aX s a (b,c,v % 65536,false)).1,No (aX s a (b,c,v % 65536,false)).2.1,(aX s a (b,c,v % 65536,false)).2.2):=if_pos rfl
theorem CQ (s:ah) (a b c v:Int):deed s 2 a b c v=((cW s).1,(cW s).2,0):=by unfold deed; rw [if_neg (by omega),if_pos rfl]
theorem CP (s:ah) (a b c v:Int):deed s 3 a b c v=((kh s a b c).1,0,(kh s a b c).2):=by
 unfold deed
 iterate 2 rw [if_neg (by omega)]
 rw [if_pos rfl]
theorem CO (s:ah) (a b c v:Int):deed s 4 a b c v=((kc s a b c).1,0,(kc s a b c).2):=by
 unfold deed
 iterate 3 rw [if_neg (by omega)]
 rw [if_pos rfl]
theorem xH (s:ah) (a b c v:Int):deed s 5 a b c v=(if aN s a b≠0 then (ay,0,aN s a b) else (s,s.1.getD (bG s (ax s a) b).toNat 0,0)):=by
 unfold deed
 iterate 4 rw [if_neg (by omega)]
 rw [if_pos rfl]
theorem xG (s:ah) (a b c v:Int):deed s 6 a b c v=((js s a b v).1,0,(js s a b v).2):=by
 unfold deed
 iterate 5 rw [if_neg (by omega)]
 rw [if_pos rfl]
theorem CN (s:ah) (a b c v:Int):deed s 7 a b c v=iC s a:=by
 unfold deed
 iterate 6 rw [if_neg (by omega)]
 rw [if_pos rfl]
theorem CM (s:ah) (a b c v:Int):deed s 8 a b c v=((cO s a).1,0,(cO s a).2):=by
 unfold deed
 iterate 7 rw [if_neg (by omega)]
 rw [if_pos rfl]
theorem CL (s:ah) (a b c v:Int):deed s 9 a b c v=(if cg s a b≠0 then (ay,0,cg s a b) else (s,s.1.getD (bG s a b).toNat 0,0)):=by
 unfold deed
 iterate 8 rw [if_neg (by omega)]
 rw [if_pos rfl]
theorem uU (s:ah) (a b c v:Int):deed s 10 a b c v=fi s a:=by
 unfold deed
 iterate 9 rw [if_neg (by omega)]
 rw [if_pos rfl]
theorem uT (s:ah) (a b c v:Int):deed s 11 a b c v=((jo s v a).1,0,(jo s v a).2):=by
 unfold deed
 iterate 10 rw [if_neg (by omega)]
 rw [if_pos rfl]
theorem uS (s:ah) (a b c v:Int):deed s 12 a b c v=((fp s v).1,0,(fp s v).2):=by
 unfold deed
 iterate 11 rw [if_neg (by omega)]
 rw [if_pos rfl]
theorem uR (s:ah) (a b c v:Int):deed s 13 a b c v=((eY s a).1,0,(eY s a).2):=by
 unfold deed
 iterate 12 rw [if_neg (by omega)]
theorem Fi:∀ (l:List cR),(∀ r∈l,0<=r.2/\r.2<=256)->0<=dC l/\dC l<=256 * (l.length:Int)
 | [],_=>by simp [dC]
 | r::l,h=>by
  have ih:=Fi l fun x hx=>h x (NT _ hx)
  have h1:=h r NS;have e:dC (r::l)=r.2+dC l:=by simp [dC]
  rw [e,NC];omega
end
section
set_option maxHeartbeats 8000000
end
section
set_option maxHeartbeats 4000000
theorem fL {s:ah} {k a b c v:Int} {y:ah×Int×Int} (hb:b9 k a b c v=false) (h1:au s≠0->y=(ay,0,au s)) (h2:au s=0->y=deed s k a b c v):bk s k a b c v=y:=by
 unfold bk;rw [if_neg (by rw [hb]; simp)];by_cases h:au s≠0
 ·rw [if_pos h,h1 h]
 ·rw [if_neg h,h2 (by omega)]
theorem se {s:ah} (a:Int) (h:au s≠0):bn s a=au s:=by unfold bn; rw [if_pos h]
theorem Bf {s:ah} (a:Int) (h:au s≠0):bE s a=au s:=by unfold bE; rw [if_pos h]
theorem Na (s:ah) (a b c v:Int):bk s 1 a b c v=((aX s a (b,c,v % 65536,false)).1,No (aX s a (b,c,v % 65536,false)).2.1,(aX s a (b,c,v % 65536,false)).2.2):=fL (by simp [b9]) (fun h=>by
 have e:=Bf a h;unfold aX;rw [if_pos (by omega),e];rfl) (fun h=>by rw [xI])
theorem M9 (s:ah):bk s 2 0 0 0 0=bv s:=fL (by rfl) (fun h=>by unfold bv; rw [if_pos h]) (fun h=>by rw [CQ]; unfold bv; rw [if_neg (by omega)])
theorem M8 (s:ah) (a b c:Int):bk s 3 a b c 0=((kh s a b c).1,0,(kh s a b c).2):=fL (by simp [b9]) (fun h=>by
 have e:bt s a b c=au s:=by unfold bt; rw [if_pos (by rw [se a h]; exact h),se a h]
 unfold kh;rw [if_pos (by omega),e]) (fun h=>by rw [CP])
theorem M7 (s:ah) (a b c:Int):bk s 4 a b c 0=((kc s a b c).1,0,(kc s a b c).2):=fL (by simp [b9]) (fun h=>by
 have e:bt s a b c=au s:=by unfold bt; rw [if_pos (by rw [se a h]; exact h),se a h]
 unfold kc;rw [if_pos (by omega),e]) (fun h=>by rw [CO])
theorem M6 (s:ah) (a b:Int):bk s 5 a b 0 0=(if aN s a b≠0 then (ay,0,aN s a b) else (s,s.1.getD (bG s (ax s a) b).toNat 0,0)):=fL (by simp [b9]) (fun h=>by
 have e:aN s a b=au s:=by unfold aN; rw [if_pos (by rw [se a h]; exact h),se a h]
 rw [if_pos (by omega),e]) (fun h=>by rw [xH])
theorem M5 (s:ah) (a b v:Int):bk s 6 a b 0 v=((js s a b v).1,0,(js s a b v).2):=fL (by simp [b9]) (fun h=>by
 have e:aN s a b=au s:=by unfold aN; rw [if_pos (by rw [se a h]; exact h),se a h]
 unfold js;rw [if_pos (by omega),e]) (fun h=>by rw [xG])
theorem M4 (s:ah) (a:Int):bk s 7 a 0 0 0=iC s a:=fL (by simp [b9]) (fun h=>by unfold iC; rw [if_pos (by rw [se a h]; exact h),se a h]) (fun h=>by rw [CN])
theorem M3 (s:ah) (a:Int):bk s 8 a 0 0 0=((cO s a).1,0,(cO s a).2):=fL (by simp [b9]) (fun h=>by unfold cO; rw [if_pos h]) (fun h=>by rw [CM])
theorem M2 (s:ah) (a b:Int):bk s 9 a b 0 0=(if cg s a b≠0 then (ay,0,cg s a b) else (s,s.1.getD (bG s a b).toNat 0,0)):=fL (by simp [b9]) (fun h=>by
 have e:cg s a b=au s:=by unfold cg; rw [if_pos h]
 rw [if_pos (by omega),e]) (fun h=>by rw [CL])
theorem MH (s:ah) (a:Int):bk s 10 a 0 0 0=fi s a:=fL (by simp [b9]) (fun h=>by unfold fi; rw [if_pos (by rw [se a h]; exact h),se a h]) (fun h=>by rw [uU])
theorem MG (s:ah) (a v:Int):bk s 11 a 0 0 v=((jo s v a).1,0,(jo s v a).2):=fL (by simp [b9]) (fun h=>by unfold jo; rw [if_pos (by rw [Bf a h]; exact h),Bf a h]) (fun h=>by rw [uT])
theorem MF (s:ah) (v:Int):bk s 12 0 0 0 v=((fp s v).1,0,(fp s v).2):=fL (by simp [b9]) (fun h=>by unfold fp; rw [if_pos h]) (fun h=>by rw [uS])
theorem ME (s:ah) (a:Int):bk s 13 a 0 0 0=((eY s a).1,0,(eY s a).2):=fL (by simp [b9]) (fun h=>by unfold eY; rw [if_pos (by rw [Bf a h]; exact h),Bf a h]) (fun h=>by rw [uR])
theorem Jf {s:ah} (hw:∀ x∈s.1,am .u64 x) (a:Int):IntKind.u64.wrap (iC s a).2.1=(iC s a).2.1:=by
 unfold iC;split
 ·rfl
 ·rename_i h;split
  ·rfl
  ·obtain ⟨R,_,_,O⟩:=nK hw (by omega:bn s a=0);have:=O.x0;have:=O.r0;have:=O.b0;have:=O.fit;have:=R.al;exact fP (by simp only; omega) (by simp only; omega)
theorem zK {s:ah} (hw:∀ x∈s.1,am .u64 x):IntKind.u64.wrap (bv s).2.1=(bv s).2.1:=by
 unfold bv;split
 ·rfl
 ·have R:=gQ hw (by omega:au s=0);have hg:=Fi (aM false [] (ac (dw s)).1) (fun r hr=>by have:=R.gaps.2.1 r hr; omega);have hl:=R.gaps.2.2;have e:(cW s).2=dC (aM false [] (ac (dw s)).1):=rfl;exact fP (by simp only; omega) (by simp only; omega)
end
section
open Go Go.RowKit
set_option maxHeartbeats 8000000
theorem E0 {w:World} {a:Addr} {v:Value} (h:w.cell? a=some v) (o:Go.Obj):(w.alloc o).cell? a=some v:=by
 refine (((Below.refl w.heap.size w).alloc (NR _) o).cell (Nat.lt_of_not_le fun hn=>?_)).trans h;unfold World.cell? at h;rw [Array.getElem?_eq_none hn] at h;cases h
abbrev Nt (k a b c v:Int):Value:=.agg #[.int .i64 k,.int .i64 a,.int .i64 b,.int .i64 c,.int .u64 v]
abbrev Hg (k a b c v:Int):Go.Obj:=Go.Obj.cells #[.int .i64 k,.int .i64 a,.int .i64 b,.int .i64 c,.int .u64 v] 47
def dF (k a b c v:Int):Bool:=!b9 k a b c v
abbrev gr (k a b c v:Int) (w:World):Prop:=Calls Tryz.prog 58 #[Nt k a b c v] w fun e w'=>e=.returned (.bool (dF k a b c v))/\Below w.heap.size w w'
theorem ik (w:World) (o o2:Go.Obj):Below w.heap.size w ((w.alloc o).alloc o2):=((Below.refl _ w).alloc (NR _) o).alloc (by simp) o2
theorem gp {x y:Bool} (h:x=y):Ending.returned (.bool x)=Ending.returned (.bool y):=by rw [h]
def formsB:List (List Bool):=[[false,false,false,false],[true,true,true,true],[false,false,false,false],[true,true,true,false],[true,true,true,false],[true,true,false,false],[true,true,false,true],[true,false,false,false],[true,false,false,false],[true,true,false,false],[true,false,false,false],[true,false,false,true],[false,false,false,true],[true,false,false,false]]
def formsZ:List (Nat×Bool):=List.zip (List.range 56) formsB.flatten
theorem kP {w:World} (h:Laid w) (i j k l:Nat) (x y z u:Bool) (o:Go.Obj)
  (hm:(formsZ.contains (i,x)&&formsZ.contains (j,y)&&formsZ.contains (k,z)&&formsZ.contains (l,u))=true) :
  (w.alloc o).cell? ⟨0,i,none⟩=some (.bool x)/\(w.alloc o).cell? ⟨0,j,none⟩=some (.bool y)/\(w.alloc o).cell? ⟨0,k,none⟩=some (.bool z)/\(w.alloc o).cell? ⟨0,l,none⟩=some (.bool u):=by
 simp only [NA,N1] at hm
 have key:∀ n b,(n,b)∈formsZ->(w.alloc o).cell? ⟨0,n,none⟩=some (.bool b):=fun n b hb=>by
  have h1:w.cell? ⟨0,n,none⟩=some (.bool b):=h (0,n,.bool b) (by first | exact NZ.2 ⟨(n,b),hb,rfl⟩ | exact ND _ (NZ.2 ⟨(n,b),hb,rfl⟩));exact E0 h1 o
 exact ⟨key _ _ hm.1.1.1,key _ _ hm.1.1.2,key _ _ hm.1.2,key _ _ hm.2⟩
theorem pT (x:Int):x=0\/(x≠0/\(x == 0)=false):=by
 by_cases h:x=0
 ·exact .inl h
 ·exact .inr ⟨h,by simp [h]⟩
theorem I6 (k a b c v:Int) (w:World) (hk:k<1\/13<k):gr k a b c v w:=by
 by_cases h1:k<1
 ·have e1:decide (k<1)=true:=OI h1
  go_enter OY,OQ
  go_wp2
  go_ret
  exact ⟨gp (by simp [dF,b9,e1]),(Below.refl _ w).alloc (NR _) _⟩
 ·have e1:decide (k<1)=false:=OP h1;have e2:decide (k > 13)=true:=OI (by omega);have e3:decide (13<k)=true:=e2
  go_enter OY,OQ
  go_wp2
  go_ret
  exact ⟨gp (by simp [dF,b9,e1,e3]),(Below.refl _ w).alloc (NR _) _⟩
theorem Mm (a b c v:Int) (w:World) (h:Laid w):gr 1 a b c v w:=by
 obtain ⟨e0,e1,e2,e3⟩:=kP h 4 5 6 7 true true true true (Hg 1 a b c v) (by decide)
 all_goals (go_enter OY,OQ; go_wp2; go_ret; exact ⟨gp (by simp [dF,b9, *]),ik _ _ _⟩)
theorem Ml (a b c v:Int) (w:World) (h:Laid w):gr 2 a b c v w:=by
 obtain ⟨e0,e1,e2,e3⟩:=kP h 8 9 10 11 false false false false (Hg 2 a b c v) (by decide);rcases pT a with rfl | ⟨qa,sa⟩
 all_goals rcases pT b with rfl | ⟨qb,sb⟩
 all_goals rcases pT c with rfl | ⟨qc,sc⟩
 all_goals rcases pT v with rfl | ⟨qv,sv⟩
 all_goals (go_enter OY,OQ; go_wp2; go_ret; exact ⟨gp (by simp [dF,b9, *]),ik _ _ _⟩)
theorem Mk (a b c v:Int) (w:World) (h:Laid w):gr 3 a b c v w:=by
 obtain ⟨e0,e1,e2,e3⟩:=kP h 12 13 14 15 true true true false (Hg 3 a b c v) (by decide);rcases pT v with rfl | ⟨qv,sv⟩
 all_goals (go_enter OY,OQ; go_wp2; go_ret; exact ⟨gp (by simp [dF,b9, *]),ik _ _ _⟩)
theorem Mj (a b c v:Int) (w:World) (h:Laid w):gr 4 a b c v w:=by
 obtain ⟨e0,e1,e2,e3⟩:=kP h 16 17 18 19 true true true false (Hg 4 a b c v) (by decide);rcases pT v with rfl | ⟨qv,sv⟩
 all_goals (go_enter OY,OQ; go_wp2; go_ret; exact ⟨gp (by simp [dF,b9, *]),ik _ _ _⟩)
theorem Mi (a b c v:Int) (w:World) (h:Laid w):gr 5 a b c v w:=by
 obtain ⟨e0,e1,e2,e3⟩:=kP h 20 21 22 23 true true false false (Hg 5 a b c v) (by decide);rcases pT c with rfl | ⟨qc,sc⟩
 all_goals rcases pT v with rfl | ⟨qv,sv⟩
 all_goals (go_enter OY,OQ; go_wp2; go_ret; exact ⟨gp (by simp [dF,b9, *]),ik _ _ _⟩)
theorem Mh (a b c v:Int) (w:World) (h:Laid w):gr 6 a b c v w:=by
 obtain ⟨e0,e1,e2,e3⟩:=kP h 24 25 26 27 true true false true (Hg 6 a b c v) (by decide);rcases pT c with rfl | ⟨qc,sc⟩
 all_goals (go_enter OY,OQ; go_wp2; go_ret; exact ⟨gp (by simp [dF,b9, *]),ik _ _ _⟩)
theorem Mg (a b c v:Int) (w:World) (h:Laid w):gr 7 a b c v w:=by
 obtain ⟨e0,e1,e2,e3⟩:=kP h 28 29 30 31 true false false false (Hg 7 a b c v) (by decide);rcases pT b with rfl | ⟨qb,sb⟩
 all_goals rcases pT c with rfl | ⟨qc,sc⟩
 all_goals rcases pT v with rfl | ⟨qv,sv⟩
 all_goals (go_enter OY,OQ; go_wp2; go_ret; exact ⟨gp (by simp [dF,b9, *]),ik _ _ _⟩)
theorem Mf (a b c v:Int) (w:World) (h:Laid w):gr 8 a b c v w:=by
 obtain ⟨e0,e1,e2,e3⟩:=kP h 32 33 34 35 true false false false (Hg 8 a b c v) (by decide);rcases pT b with rfl | ⟨qb,sb⟩
 all_goals rcases pT c with rfl | ⟨qc,sc⟩
 all_goals rcases pT v with rfl | ⟨qv,sv⟩
 all_goals (go_enter OY,OQ; go_wp2; go_ret; exact ⟨gp (by simp [dF,b9, *]),ik _ _ _⟩)
theorem Me (a b c v:Int) (w:World) (h:Laid w):gr 9 a b c v w:=by
 obtain ⟨e0,e1,e2,e3⟩:=kP h 36 37 38 39 true true false false (Hg 9 a b c v) (by decide);rcases pT c with rfl | ⟨qc,sc⟩
 all_goals rcases pT v with rfl | ⟨qv,sv⟩
 all_goals (go_enter OY,OQ; go_wp2; go_ret; exact ⟨gp (by simp [dF,b9, *]),ik _ _ _⟩)
theorem K5 (a b c v:Int) (w:World) (h:Laid w):gr 10 a b c v w:=by
 obtain ⟨e0,e1,e2,e3⟩:=kP h 40 41 42 43 true false false false (Hg 10 a b c v) (by decide);rcases pT b with rfl | ⟨qb,sb⟩
 all_goals rcases pT c with rfl | ⟨qc,sc⟩
 all_goals rcases pT v with rfl | ⟨qv,sv⟩
 all_goals (go_enter OY,OQ; go_wp2; go_ret; exact ⟨gp (by simp [dF,b9, *]),ik _ _ _⟩)
theorem K4 (a b c v:Int) (w:World) (h:Laid w):gr 11 a b c v w:=by
 obtain ⟨e0,e1,e2,e3⟩:=kP h 44 45 46 47 true false false true (Hg 11 a b c v) (by decide);rcases pT b with rfl | ⟨qb,sb⟩
 all_goals rcases pT c with rfl | ⟨qc,sc⟩
 all_goals (go_enter OY,OQ; go_wp2; go_ret; exact ⟨gp (by simp [dF,b9, *]),ik _ _ _⟩)
theorem K3 (a b c v:Int) (w:World) (h:Laid w):gr 12 a b c v w:=by
 obtain ⟨e0,e1,e2,e3⟩:=kP h 48 49 50 51 false false false true (Hg 12 a b c v) (by decide);rcases pT a with rfl | ⟨qa,sa⟩
 all_goals rcases pT b with rfl | ⟨qb,sb⟩
 all_goals rcases pT c with rfl | ⟨qc,sc⟩
 all_goals (go_enter OY,OQ; go_wp2; go_ret; exact ⟨gp (by simp [dF,b9, *]),ik _ _ _⟩)
theorem K2 (a b c v:Int) (w:World) (h:Laid w):gr 13 a b c v w:=by
 obtain ⟨e0,e1,e2,e3⟩:=kP h 52 53 54 55 true false false false (Hg 13 a b c v) (by decide);rcases pT b with rfl | ⟨qb,sb⟩
 all_goals rcases pT c with rfl | ⟨qc,sc⟩
 all_goals rcases pT v with rfl | ⟨qv,sv⟩
 all_goals (go_enter OY,OQ; go_wp2; go_ret; exact ⟨gp (by simp [dF,b9, *]),ik _ _ _⟩)
theorem D6 {k a b c v:Int} {w:World} (h:Laid w):gr k a b c v w:=by
 by_cases h1:k<1\/13<k
 ·exact I6 k a b c v w h1
 have:k=1\/k=2\/k=3\/k=4\/k=5\/k=6\/k=7\/k=8\/k=9\/k=10\/k=11\/k=12\/k=13:=by omega
 rcases this with rfl | rfl | rfl | rfl | rfl | rfl | rfl | rfl | rfl | rfl | rfl | rfl | rfl
 ·exact Mm a b c v w h
 ·exact Ml a b c v w h
 ·exact Mk a b c v w h
 ·exact Mj a b c v w h
 ·exact Mi a b c v w h
 ·exact Mh a b c v w h
 ·exact Mg a b c v w h
 ·exact Mf a b c v w h
 ·exact Me a b c v w h
 ·exact K5 a b c v w h
 ·exact K4 a b c v w h
 ·exact K3 a b c v w h
 ·exact K2 a b c v w h
def IQ:Spec:={ Ts:=[oo],Rs:=[.dat .bool],pre:=fun _=>True,F:=fun ((k,a,b,c,v):Int×Int×Int×Int×Int)=>dF k a b c v }
theorem Jp:IQ.ok Tryz.prog 58:=by
 intro p w vs ⟨k,a,b,c,v⟩ hL hA hargs _;obtain ⟨val,rfl,hv⟩:=hargs;obtain ⟨cs,rfl,c1,c1',e1,⟨rfl,_⟩,c2,c2',rfl,⟨rfl,_⟩,c3,c3',rfl,⟨rfl,_⟩,c4,c4',rfl,⟨rfl,_⟩,rfl,_⟩:=hv
 have e:cs=#[.int .i64 k,.int .i64 a,.int .i64 b,.int .i64 c,.int .u64 v]:=by
  apply N7.1;simpa using e1
 subst e;refine (D6 (k:=k) (a:=a) (b:=b) (c:=c) (v:=v) hL).mono ?_;rintro e w' ⟨rfl,hb⟩;refine ⟨[.bool (dF k a b c v)],fun _=>none,rfl,⟨hb.os,hb.tape,hb.output,hb.size,fun i hi _=>hb.block i hi⟩,fun _ _ h=>(by cases h),fun _ _ h=>(by cases h),?_⟩;exact ⟨_,rfl,rfl,fun b hb=>by cases hb⟩
end
section
set_option maxHeartbeats 4000000
def LL:Nat->Option LoopGen
 | 3000081=>some d9
 | 8204000001=>some d9
 | _=>none
def eS (s:ah) (e:Int):ah×Int×Int:=(s,0,e)
def IT:Spec:={ Ts:=[aG,ty_I],Rs:=[.dat aG,.dat bJ,.dat ty_I],al:=true,pre:=fun _=>True,F:=fun ((s,e):ah×Int)=>eS s e }
def BE:Prop :=
  ∀ (x:(List Int×List Int×List (Int×Int)×List (Int×Bool×Int))×Int),(ol x.1)/\am .i64 x.2->True->x.1=(eS x.1 x.2).1/\0=(eS x.1 x.2).2.1/\x.2=(eS x.1 x.2).2.2/\True
theorem Gn:BE:=by
 unfold BE;intro ⟨s,e⟩ _ _;exact ⟨by first | exact trivial | rfl,by first | exact trivial | rfl,by first | exact trivial | rfl,trivial⟩
theorem Js:IT.ok Tryz.prog 61:=aF (ann:=cr) ap Tryz.func61 (by kernel_rfl) Gn
def gh (s:ah) (n e:Int):ah×Int×Int:=(s,IntKind.u64.wrap n,e)
def DR:Spec:={ Ts:=[aG,ty_I,ty_I],Rs:=[.dat aG,.dat bJ,.dat ty_I],al:=true,pre:=fun _=>True,F:=fun ((s,n,e):ah×Int×Int)=>gh s n e }
def tK:Prop :=
  ∀ (x:(List Int×List Int×List (Int×Int)×List (Int×Bool×Int))×Int×Int),(ol x.1)/\am .i64 x.2.1/\am .i64 x.2.2->True->x.1=(gh x.1 x.2.1 x.2.2).1/\IntKind.u64.wrap x.2.1=(gh x.1 x.2.1 x.2.2).2.1/\x.2.2=(gh x.1 x.2.1 x.2.2).2.2/\True
theorem Aj:tK:=by
 unfold tK;intro ⟨s,n,e⟩ _ _;exact ⟨by first | exact trivial | rfl,by first | exact trivial | rfl,by first | exact trivial | rfl,trivial⟩
theorem Em:DR.ok Tryz.prog 59:=aF (ann:=cr) ap Tryz.func59 (by kernel_rfl) Aj
def iS (s:ah) (v e:Int):ah×Int×Int:=if e≠0 then (ay,0,e) else (s,v,0)
def IU:Spec:={ Ts:=[aG,bJ,ty_I],Rs:=[.dat aG,.dat bJ,.dat ty_I],al:=true,pre:=fun _=>True,F:=fun ((s,v,e):ah×Int×Int)=>iS s v e }
def BG:Prop :=
  ∀ (x:(List Int×List Int×List (Int×Int)×List (Int×Bool×Int))×Int×Int),(ol x.1)/\am .u64 x.2.1/\am .i64 x.2.2->True->(decide (x.2.2≠0)=true->(([]:List Int),([]:List Int),([]:List (Int×Int)),([]:List (Int×Bool×Int)))=(iS x.1 x.2.1 x.2.2).1/\0=(iS x.1 x.2.1 x.2.2).2.1/\x.2.2=(iS x.1 x.2.1 x.2.2).2.2/\True)/\(decide (x.2.2≠0)=false->∀ (_:Array Value),True/\True/\True/\x.1.2.1=x.1.2.1/\x.1.2.2.1=x.1.2.2.1/\x.1.2.2.1=x.1.2.2.1/\x.1.2.2.2=x.1.2.2.2/\x.1.2.2.2=x.1.2.2.2/\x.1.2.2.2=x.1.2.2.2/\True/\x.1=(iS x.1 x.2.1 x.2.2).1/\x.2.1=(iS x.1 x.2.1 x.2.2).2.1/\0=(iS x.1 x.2.1 x.2.2).2.2/\True)
theorem Gp:BG:=by
 unfold BG;intro ⟨s,v,e⟩ _ _;simp only;unfold iS;refine ⟨fun h=>?_,fun h=>?_⟩
 ·rw [if_pos (Nw h)];exact ⟨rfl,rfl,rfl,trivial⟩
 ·rw [if_neg (Nx h)];exact fun _=>⟨by first | exact trivial | rfl,by first | exact trivial | rfl,by first | exact trivial | rfl,by first | exact trivial | rfl,by first | exact trivial | rfl,by first | exact trivial | rfl,by first | exact trivial | rfl,by first | exact trivial | rfl,by first | exact trivial | rfl,by first | exact trivial | rfl,by first | exact trivial | rfl,by first | exact trivial | rfl,by first | exact trivial | rfl,trivial⟩
theorem Jt:IU.ok Tryz.prog 65:=aF (ann:=LL) (ae bC (ae bZ (ae bP (ae bD ap)))) Tryz.func65 (by kernel_rfl) Gp
theorem FQ (s:ah) (v e:Int):iS s (if e≠0 then 0 else v) e=if e≠0 then (ay,0,e) else (s,v,0):=by
 unfold iS;by_cases h:e≠0
 ·rw [if_pos h,if_pos h]
 ·rw [if_neg h,if_neg h,if_neg h]
theorem lF {α β γ:Type} {x y:α×β×γ} (h:x=y):x.1=y.1/\x.2.1=y.2.1/\x.2.2=y.2.2/\True:=by subst h; exact ⟨rfl,rfl,rfl,trivial⟩
def Mb:Spec:={ Ts:=[aG,oo],Rs:=[.dat aG,.dat bJ,.dat ty_I],al:=true,pre:=fun _=>True,F:=fun ((s,k,a,b,c,v):ah×Int×Int×Int×Int×Int)=>bk s k a b c v }
def I9:Prop :=
  ∀ (x:(List Int×List Int×List (Int×Int)×List (Int×Bool×Int))×Int×Int×Int×Int×Int),(fun (v7:type_of% (fp x.1 x.2.2.2.2.2))=>(fun (v6:type_of% (iC x.1 x.2.2.1))=>(fun (v5:type_of% (jo x.1 x.2.2.2.2.2 x.2.2.1))=>(fun (v4:type_of% (js x.1 x.2.2.1 x.2.2.2.1 x.2.2.2.2.2))=>(fun (v3:type_of% (kc x.1 x.2.2.1 x.2.2.2.1 x.2.2.2.2.1))=>(fun (v2:type_of% (kh x.1 x.2.2.1 x.2.2.2.1 x.2.2.2.2.1))=>(fun (v1:type_of% (aX x.1 x.2.2.1 (x.2.2.2.1,x.2.2.2.2.1,IntKind.i64.wrap (x.2.2.2.2.2 % 65536),false)))=>(fun (v0:type_of% (bk x.1 x.2.1 x.2.2.1 x.2.2.2.1 x.2.2.2.2.1 x.2.2.2.2.2))=>(ol x.1)/\am .i64 x.2.1/\am .i64 x.2.2.1/\am .i64 x.2.2.2.1/\am .i64 x.2.2.2.2.1/\am .u64 x.2.2.2.2.2->True->True/\((!dF x.2.1 x.2.2.1 x.2.2.2.1 x.2.2.2.2.1 x.2.2.2.2.2)=true->(([]:List Int),([]:List Int),([]:List (Int×Int)),([]:List (Int×Bool×Int)))=v0.1/\0=v0.2.1/\1=v0.2.2/\True)/\((!dF x.2.1 x.2.2.1 x.2.2.2.1 x.2.2.2.2.1 x.2.2.2.2.2)=false->(decide (x.2.1=1)=true->0<=x.2.2.2.2.2/\(0:Int)<65536/\True/\(v1.2.1=true->v1.1=v0.1/\1=v0.2.1/\v1.2.2=v0.2.2/\True)/\(v1.2.1=false->v1.1=v0.1/\0=v0.2.1/\v1.2.2=v0.2.2/\True))/\(decide (x.2.1=1)=false->(decide (x.2.1=2)=true->True/\True/\(gh (bv x.1).1 (bv x.1).2.1 (bv x.1).2.2).1=v0.1/\(gh (bv x.1).1 (bv x.1).2.1 (bv x.1).2.2).2.1=v0.2.1/\(gh (bv x.1).1 (bv x.1).2.1 (bv x.1).2.2).2.2=v0.2.2/\True)/\(decide (x.2.1=2)=false->(decide (x.2.1=3)=true->True/\True/\(eS v2.1 v2.2).1=v0.1/\(eS v2.1 v2.2).2.1=v0.2.1/\(eS v2.1 v2.2).2.2=v0.2.2/\True)/\(decide (x.2.1=3)=false->(decide (x.2.1=4)=true->True/\True/\(eS v3.1 v3.2).1=v0.1/\(eS v3.1 v3.2).2.1=v0.2.1/\(eS v3.1 v3.2).2.2=v0.2.2/\True)/\(decide (x.2.1=4)=false->(decide (x.2.1=5)=true->True/\True/\(iS x.1 (if aN x.1 x.2.2.1 x.2.2.2.1≠0 then (0:Int) else x.1.1.getD (bG x.1 (ax x.1 x.2.2.1) x.2.2.2.1).toNat 0) (aN x.1 x.2.2.1 x.2.2.2.1)).1=v0.1/\(iS x.1 (if aN x.1 x.2.2.1 x.2.2.2.1≠0 then (0:Int) else x.1.1.getD (bG x.1 (ax x.1 x.2.2.1) x.2.2.2.1).toNat 0) (aN x.1 x.2.2.1 x.2.2.2.1)).2.1=v0.2.1/\(iS x.1 (if aN x.1 x.2.2.1 x.2.2.2.1≠0 then (0:Int) else x.1.1.getD (bG x.1 (ax x.1 x.2.2.1) x.2.2.2.1).toNat 0) (aN x.1 x.2.2.1 x.2.2.2.1)).2.2=v0.2.2/\True)/\(decide (x.2.1=5)=false->(decide (x.2.1=6)=true->True/\True/\(eS v4.1 v4.2).1=v0.1/\(eS v4.1 v4.2).2.1=v0.2.1/\(eS v4.1 v4.2).2.2=v0.2.2/\True)/\(decide (x.2.1=6)=false->(decide (x.2.1=7)=true->True/\True/\(gh v6.1 v6.2.1 v6.2.2).1=v0.1/\(gh v6.1 v6.2.1 v6.2.2).2.1=v0.2.1/\(gh v6.1 v6.2.1 v6.2.2).2.2=v0.2.2/\True)/\(decide (x.2.1=7)=false->(decide (x.2.1=8)=true->True/\True/\(eS (cO x.1 x.2.2.1).1 (cO x.1 x.2.2.1).2).1=v0.1/\(eS (cO x.1 x.2.2.1).1 (cO x.1 x.2.2.1).2).2.1=v0.2.1/\(eS (cO x.1 x.2.2.1).1 (cO x.1 x.2.2.1).2).2.2=v0.2.2/\True)/\(decide (x.2.1=8)=false->(decide (x.2.1=9)=true->True/\True/\(iS x.1 (if cg x.1 x.2.2.1 x.2.2.2.1≠0 then (0:Int) else x.1.1.getD (bG x.1 x.2.2.1 x.2.2.2.1).toNat 0) (cg x.1 x.2.2.1 x.2.2.2.1)).1=v0.1/\(iS x.1 (if cg x.1 x.2.2.1 x.2.2.2.1≠0 then (0:Int) else x.1.1.getD (bG x.1 x.2.2.1 x.2.2.2.1).toNat 0) (cg x.1 x.2.2.1 x.2.2.2.1)).2.1=v0.2.1/\(iS x.1 (if cg x.1 x.2.2.1 x.2.2.2.1≠0 then (0:Int) else x.1.1.getD (bG x.1 x.2.2.1 x.2.2.2.1).toNat 0) (cg x.1 x.2.2.1 x.2.2.2.1)).2.2=v0.2.2/\True)/\(decide (x.2.1=9)=false->(decide (x.2.1=10)=true->True/\(fi x.1 x.2.2.1).1=v0.1/\(fi x.1 x.2.2.1).2.1=v0.2.1/\(fi x.1 x.2.2.1).2.2=v0.2.2/\True)/\(decide (x.2.1=10)=false->(decide (x.2.1=11)=true->True/\True/\(eS v5.1 v5.2).1=v0.1/\(eS v5.1 v5.2).2.1=v0.2.1/\(eS v5.1 v5.2).2.2=v0.2.2/\True)/\(decide (x.2.1=11)=false->(decide (x.2.1=12)=true->True/\True/\(eS v7.1 v7.2).1=v0.1/\(eS v7.1 v7.2).2.1=v0.2.1/\(eS v7.1 v7.2).2.2=v0.2.2/\True)/\(decide (x.2.1=12)=false->True/\True/\(eS (eY x.1 x.2.2.1).1 (eY x.1 x.2.2.1).2).1=v0.1/\(eS (eY x.1 x.2.2.1).1 (eY x.1 x.2.2.1).2).2.1=v0.2.1/\(eS (eY x.1 x.2.2.1).1 (eY x.1 x.2.2.1).2).2.2=v0.2.2/\True)))))))))))))) (bk x.1 x.2.1 x.2.2.1 x.2.2.2.1 x.2.2.2.2.1 x.2.2.2.2.2)) (aX x.1 x.2.2.1 (x.2.2.2.1,x.2.2.2.2.1,IntKind.i64.wrap (x.2.2.2.2.2 % 65536),false))) (kh x.1 x.2.2.1 x.2.2.2.1 x.2.2.2.2.1)) (kc x.1 x.2.2.1 x.2.2.2.1 x.2.2.2.2.1)) (js x.1 x.2.2.1 x.2.2.2.1 x.2.2.2.2.2)) (jo x.1 x.2.2.2.2.2 x.2.2.1)) (iC x.1 x.2.2.1)) (fp x.1 x.2.2.2.2.2)
theorem KF:I9:=by
 unfold I9;intro ⟨s,k,a,b,c,v⟩ ⟨⟨⟨_,hw⟩,_⟩,_,_,_,_,hv⟩ _;simp only at hw hv |-;simp only [am] at hv;refine ⟨trivial,fun h=>?_,fun h=>?_⟩
 ·have hb:b9 k a b c v=true:=by simpa [dF] using h
  have hD:bk s k a b c v=(ay,0,1):=by unfold bk; rw [if_pos hb]
  rw [hD];exact ⟨rfl,rfl,rfl,trivial⟩
 have hb:b9 k a b c v=false:=by simpa [dF] using h
 have hk:1<=k/\k<=13:=by
  unfold b9 at hb;simp only [OG,Ou] at hb;omega
 refine ⟨fun q1=>?_,fun q1=>⟨fun q2=>?_,fun q2=>⟨fun q3=>?_,fun q3=>⟨fun q4=>?_,fun q4=>⟨fun q5=>?_,fun q5=>⟨fun q6=>?_,fun q6=>⟨fun q7=>?_,fun q7=>⟨fun q8=>?_,fun q8=>⟨fun q9=>?_,fun q9=>⟨fun q10=>?_,fun q10=>⟨fun q11=>?_,fun q11=>⟨fun q12=>?_,fun q12=>?_⟩⟩⟩⟩⟩⟩⟩⟩⟩⟩⟩⟩
 ·obtain rfl:=Nw q1;rw [Na,m4 (by omega) (by omega)];refine ⟨by omega,by omega,trivial,fun q=>?_,fun q=>?_⟩
  ·exact ⟨rfl,by rw [q]; rfl,rfl,trivial⟩
  ·exact ⟨rfl,by rw [q]; rfl,rfl,trivial⟩
 ·obtain rfl:=Nw q2;obtain ⟨rfl,rfl,rfl,rfl⟩:a=0/\b=0/\c=0/\v=0:=by simpa [b9,PT] using hb
  rw [M9];refine ⟨trivial,trivial,lF ?_⟩;unfold gh;rw [zK hw]
 ·obtain rfl:=Nw q3;obtain rfl:v=0:=by simpa [b9] using hb
  rw [M8];exact ⟨trivial,trivial,lF rfl⟩
 ·obtain rfl:=Nw q4;obtain rfl:v=0:=by simpa [b9] using hb
  rw [M7];exact ⟨trivial,trivial,lF rfl⟩
 ·obtain rfl:=Nw q5;obtain ⟨rfl,rfl⟩:c=0/\v=0:=by simpa [b9] using hb
  rw [M6];exact ⟨trivial,trivial,lF (FQ ..)⟩
 ·obtain rfl:=Nw q6;obtain rfl:c=0:=by simpa [b9] using hb
  rw [M5];exact ⟨trivial,trivial,lF rfl⟩
 ·obtain rfl:=Nw q7;obtain ⟨rfl,rfl,rfl⟩:b=0/\c=0/\v=0:=by simpa [b9,PT] using hb
  rw [M4];refine ⟨trivial,trivial,lF ?_⟩;unfold gh;rw [Jf hw]
 ·obtain rfl:=Nw q8;obtain ⟨rfl,rfl,rfl⟩:b=0/\c=0/\v=0:=by simpa [b9,PT] using hb
  rw [M3];exact ⟨trivial,trivial,lF rfl⟩
 ·obtain rfl:=Nw q9;obtain ⟨rfl,rfl⟩:c=0/\v=0:=by simpa [b9] using hb
  rw [M2];exact ⟨trivial,trivial,lF (FQ ..)⟩
 ·obtain rfl:=Nw q10;obtain ⟨rfl,rfl,rfl⟩:b=0/\c=0/\v=0:=by simpa [b9,PT] using hb
  rw [MH];exact ⟨trivial,lF rfl⟩
 ·obtain rfl:=Nw q11;obtain ⟨rfl,rfl⟩:b=0/\c=0:=by simpa [b9] using hb
  rw [MG];exact ⟨trivial,trivial,lF rfl⟩
 ·obtain rfl:=Nw q12;obtain ⟨rfl,rfl,rfl⟩:a=0/\b=0/\c=0:=by simpa [b9,PT] using hb
  rw [MF];exact ⟨trivial,trivial,lF rfl⟩
 ·have n1:=Nx q1;have n2:=Nx q2;have n3:=Nx q3;have n4:=Nx q4;have n5:=Nx q5;have n6:=Nx q6;have n7:=Nx q7;have n8:=Nx q8;have n9:=Nx q9;have n10:=Nx q10;have n11:=Nx q11;have n12:=Nx q12;obtain rfl:k=13:=by omega
  obtain ⟨rfl,rfl,rfl⟩:b=0/\c=0/\v=0:=by simpa [b9,PT] using hb
  rw [ME];exact ⟨trivial,trivial,lF rfl⟩
theorem Ju:Mb.ok Tryz.prog 15:=aF (ann:=cr) (ae Jp (ae xi (ae ni (ae Em (ae Hj (ae Js (ae Hi (ae Jm (ae Jt (ae Hk (ae Hl (ae BT (ae Hm (ae Ei (ae Hh (ae Eh (ae Ej ap))))))))))))))))) Tryz.func15 (by kernel_rfl) KF
end
section
def AS:Spec:={ Ts:=[bJ,bJ],Rs:=[.dat bJ,.dat bJ],pre:=fun ((x,y):Int×Int)=>x=1/\y<=1000,F:=fun ((_,y):Int×Int)=>((0,y):Int×Int) }
def BH:Prop :=
  ∀ (x:Int×Int),am .u64 x.1/\am .u64 x.2->x.1=1/\x.2<=1000->(0:Int)<=32/\32<(↑IntKind.u64.bits:Int)/\(0:Int)<=32/\32<(↑IntKind.u64.bits:Int)/\am .u64 ((↑(x.1.toNat &&& Int.toNat 4294967295):Int) * (↑(x.2.toNat &&& Int.toNat 4294967295):Int))/\am .u64 (x.1 / 2 ^ Int.toNat 32 * (↑(x.2.toNat &&& Int.toNat 4294967295):Int))/\(0:Int)<=32/\32<(↑IntKind.u64.bits:Int)/\am .u64 (x.1 / 2 ^ Int.toNat 32 * (↑(x.2.toNat &&& Int.toNat 4294967295):Int)+(↑(x.1.toNat &&& Int.toNat 4294967295):Int) * (↑(x.2.toNat &&& Int.toNat 4294967295):Int) / 2 ^ Int.toNat 32)/\(0:Int)<=32/\32<(↑IntKind.u64.bits:Int)/\am .u64 ((↑(x.1.toNat &&& Int.toNat 4294967295):Int) * (x.2 / 2 ^ Int.toNat 32))/\am .u64 ((↑((x.1 / 2 ^ Int.toNat 32 * (↑(x.2.toNat &&& Int.toNat 4294967295):Int)+(↑(x.1.toNat &&& Int.toNat 4294967295):Int) * (↑(x.2.toNat &&& Int.toNat 4294967295):Int) / 2 ^ Int.toNat 32).toNat &&& Int.toNat 4294967295):Int)+(↑(x.1.toNat &&& Int.toNat 4294967295):Int) * (x.2 / 2 ^ Int.toNat 32))/\am .u64 (x.1 / 2 ^ Int.toNat 32 * (x.2 / 2 ^ Int.toNat 32))/\am .u64 (x.1 / 2 ^ Int.toNat 32 * (x.2 / 2 ^ Int.toNat 32)+(x.1 / 2 ^ Int.toNat 32 * (↑(x.2.toNat &&& Int.toNat 4294967295):Int)+(↑(x.1.toNat &&& Int.toNat 4294967295):Int) * (↑(x.2.toNat &&& Int.toNat 4294967295):Int) / 2 ^ Int.toNat 32) / 2 ^ Int.toNat 32)/\(0:Int)<=32/\32<(↑IntKind.u64.bits:Int)/\am .u64 (x.1 / 2 ^ Int.toNat 32 * (x.2 / 2 ^ Int.toNat 32)+(x.1 / 2 ^ Int.toNat 32 * (↑(x.2.toNat &&& Int.toNat 4294967295):Int)+(↑(x.1.toNat &&& Int.toNat 4294967295):Int) * (↑(x.2.toNat &&& Int.toNat 4294967295):Int) / 2 ^ Int.toNat 32) / 2 ^ Int.toNat 32+((↑((x.1 / 2 ^ Int.toNat 32 * (↑(x.2.toNat &&& Int.toNat 4294967295):Int)+(↑(x.1.toNat &&& Int.toNat 4294967295):Int) * (↑(x.2.toNat &&& Int.toNat 4294967295):Int) / 2 ^ Int.toNat 32).toNat &&& Int.toNat 4294967295):Int)+(↑(x.1.toNat &&& Int.toNat 4294967295):Int) * (x.2 / 2 ^ Int.toNat 32)) / 2 ^ Int.toNat 32)/\am .u64 (x.1 * x.2)/\x.1 / 2 ^ Int.toNat 32 * (x.2 / 2 ^ Int.toNat 32)+(x.1 / 2 ^ Int.toNat 32 * (↑(x.2.toNat &&& Int.toNat 4294967295):Int)+(↑(x.1.toNat &&& Int.toNat 4294967295):Int) * (↑(x.2.toNat &&& Int.toNat 4294967295):Int) / 2 ^ Int.toNat 32) / 2 ^ Int.toNat 32+((↑((x.1 / 2 ^ Int.toNat 32 * (↑(x.2.toNat &&& Int.toNat 4294967295):Int)+(↑(x.1.toNat &&& Int.toNat 4294967295):Int) * (↑(x.2.toNat &&& Int.toNat 4294967295):Int) / 2 ^ Int.toNat 32).toNat &&& Int.toNat 4294967295):Int)+(↑(x.1.toNat &&& Int.toNat 4294967295):Int) * (x.2 / 2 ^ Int.toNat 32)) / 2 ^ Int.toNat (32:Int)=0/\x.1 * x.2=x.2/\True
theorem Gq:BH:=by
 unfold BH;intro ⟨x,y⟩ ⟨hx,hy⟩ ⟨h1,h2⟩;simp only [am] at hx hy h1 h2 |-;subst h1;have e1:(((1:Int).toNat &&& Int.toNat 4294967295:Nat):Int)=1:=by decide
 have e2:((y.toNat &&& Int.toNat 4294967295:Nat):Int)=y:=by
  have h:=ml hy.1 32;have h3:Int.toNat 4294967295=2 ^ 32 - 1:=by decide
  rw [h3,h];omega
 have e3:(1:Int) / 2 ^ Int.toNat 32=0:=by decide
 have e4:y / 2 ^ Int.toNat 32=0:=by
  have:(2:Int) ^ Int.toNat 32=4294967296:=by decide
  rw [this]; omega
 have e5:(0:Int) / 2 ^ Int.toNat 32=0:=by decide
 have e6:(((0:Int).toNat &&& Int.toNat 4294967295:Nat):Int)=0:=by decide
 simp only [e1,e2,e3,e4,Int.one_mul,Int.zero_mul,Int.mul_zero,Int.add_zero,e5,e6];have eb:((IntKind.u64.bits:Nat):Int)=64:=rfl;rw [eb];simp only [PF];omega
theorem Jv:AS.ok Tryz.prog 201:=aF (ann:=cr) ap Tryz.func201 (by kernel_rfl) Gq
def Mc:Spec:=AS
def Ja:Prop :=
  ∀ (x:Int×Int),am .u64 x.1/\am .u64 x.2->x.1=1/\x.2<=1000->(false=true->False)/\(false=false->(x.1=1/\x.2<=1000)/\(0:Int)=0/\x.2=x.2/\True)
theorem KG:Ja:=by
 unfold Ja;intro ⟨x,y⟩ _ ⟨h1,h2⟩;exact ⟨fun h=>(by cases h),fun _=>⟨⟨h1,h2⟩,rfl,rfl,trivial⟩⟩
theorem Mq:Mc.ok Tryz.prog 136:=aF (ann:=cr) (ae Jv ap) Tryz.func136 (by kernel_rfl) KG
theorem yL {v n:Int} (h:0<n):List.take 1 [v]++List.drop (0+1) (List.replicate n.toNat 0)=List.replicate (1:Int).toNat v++List.replicate (n - 1).toNat 0:=by
 rw [List.drop_replicate,show n.toNat - (0+1)=(n - 1).toNat by omega];rfl
theorem Br {v n k:Int} {row:List Int} (k0:0<=k) (kn:k<=n) (hrow:row=List.replicate k.toNat v++List.replicate (n - k).toNat 0) {m:Nat} (hm:m=min k.toNat (n - k).toNat) :
  row.take k.toNat++((row.take k.toNat).take m++row.drop (k.toNat+m))=List.replicate (k+m).toNat v++List.replicate (n - (k+m)).toNat 0:=by
 have h1:row.take k.toNat=List.replicate k.toNat v:=by
  rw [hrow,N6 (by simp),NP (by simp)]
 have h2:row.drop (k.toNat+m)=List.replicate (n - (k+m)).toNat 0:=by
  rw [hrow,Ph,N9 (by simp),Oa,List.drop_replicate,N0];congr 1;omega
 rw [h1,h2,List.take_replicate,<- List.append_assoc,List.replicate_append_replicate];congr 2;omega
def E5:Nat->Option LoopGen
 | 8=>some { wr:=[7],rd:=[.dat 0 (.arr ty_I),.dat 1 ty_I],A:=fun ((xs,n):List Int×Int)=>{ cs:=[.own 7 3 ty_I,.dat 8 ty_I],inv:=fun ((row,k):List Int×Int)=>0<=k/\k<=n/\(0<n->0<k)/\row=List.replicate k.toNat (xs.getD 0 0)++List.replicate (n - k).toNat 0,mu:=fun ((_,k):List Int×Int)=>(n - k).toNat } }
 | _=>none
def DQ:Spec:={ Ts:=[.arr ty_I,ty_I],Rs:=[.own 3 ty_I],pre:=fun ((xs,n):List Int×Int)=>xs.length=1/\0<=n/\n<=1000,F:=fun ((xs,n):List Int×Int)=>List.replicate n.toNat (xs.getD 0 0) }
def tJ:Prop :=
  ∀ (x:List Int×Int),(fun (v1:type_of% (IntKind.i64.wrap (IntKind.u64.wrap x.2)))=>(x.1.length * 8<=aL/\∀ (x_1:Int),x_1∈x.1->am .i64 x_1)/\am .i64 x.2->x.1.length=1/\0<=x.2/\x.2<=1000->(decide (x.2<0)=true->False)/\(decide (x.2<0)=false->(IntKind.u64.wrap (x.1.length:Int)=1/\IntKind.u64.wrap x.2<=1000)/\((decide ((0:Int)<0)||decide (9223372036854775807<IntKind.u64.wrap x.2))=true->False)/\((decide ((0:Int)<0)||decide (9223372036854775807<IntKind.u64.wrap x.2))=false->0<=IntKind.i64.wrap (IntKind.u64.wrap x.2)/\v1.toNat * 8<=aL/\0+(List.replicate v1.toNat (0:Int)).length<=(List.replicate v1.toNat (0:Int)).length/\(0<=(↑(min x.1.length (List.replicate v1.toNat (0:Int)).length):Int)/\(↑(min x.1.length (List.replicate v1.toNat (0:Int)).length):Int)<=x.2/\(0<x.2->0<(↑(min x.1.length (List.replicate v1.toNat (0:Int)).length):Int))/\List.take 0 (List.replicate v1.toNat (0:Int))++(List.take (min x.1.length (List.replicate v1.toNat (0:Int)).length) x.1++List.drop (0+min x.1.length (List.replicate v1.toNat (0:Int)).length) (List.replicate v1.toNat (0:Int)))=List.replicate (↑(min x.1.length (List.replicate v1.toNat (0:Int)).length):Int).toNat (x.1.getD 0 0)++List.replicate (x.2 - (↑(min x.1.length (List.replicate v1.toNat (0:Int)).length):Int)).toNat (0:Int))/\∀ (x_1:List Int×Int),(fun (v0:type_of% (min (List.take x_1.2.toNat (List.drop 0 x_1.1)).length (x_1.1.length - x_1.2.toNat)))=>0<=x_1.2/\x_1.2<=x.2/\(0<x.2->0<x_1.2)/\x_1.1=List.replicate x_1.2.toNat (x.1.getD 0 0)++List.replicate (x.2 - x_1.2).toNat (0:Int)->(decide (x_1.2<(x_1.1.length:Int))=true->0<=x_1.2/\x_1.2<=(x_1.1.length:Int)/\0<=x_1.2/\x_1.2<=(x_1.1.length:Int)/\0+x_1.2.toNat<=x_1.1.length/\x_1.2.toNat+(x_1.1.length - x_1.2.toNat)<=x_1.1.length/\x_1.2=x_1.2/\am .i64 (x_1.2+(↑v0:Int))/\(0<=x_1.2+(↑v0:Int)/\x_1.2+(↑v0:Int)<=x.2/\(0<x.2->0<x_1.2+(↑v0:Int))/\List.take x_1.2.toNat x_1.1++(List.take v0 (List.take x_1.2.toNat (List.drop 0 x_1.1))++List.drop (x_1.2.toNat+min (List.take x_1.2.toNat (List.drop 0 x_1.1)).length (x_1.1.length - x_1.2.toNat)) x_1.1)=List.replicate (x_1.2+(↑v0:Int)).toNat (x.1.getD 0 0)++List.replicate (x.2 - (x_1.2+(↑v0:Int))).toNat (0:Int))/\(x.2 - (x_1.2+(↑v0:Int))).toNat<(x.2 - x_1.2).toNat)/\(decide (x_1.2<(x_1.1.length:Int))=false->x_1.1=List.replicate x.2.toNat (x.1.getD 0 0)/\True)) (min (List.take x_1.2.toNat (List.drop 0 x_1.1)).length (x_1.1.length - x_1.2.toNat))))) (IntKind.i64.wrap (IntKind.u64.wrap x.2))
theorem Ai:tJ:=by
 unfold tJ;intro ⟨xs,n⟩ _ ⟨h1,h2,h3⟩;simp only at h1 h2 h3 |-
 obtain ⟨v,rfl⟩:∃ v,xs=[v]:=by
  match xs,h1 with
  | [v],_=>exact ⟨v,rfl⟩
 have e1:IntKind.u64.wrap n=n:=fP h2 (by omega);have e2:IntKind.i64.wrap n=n:=m4 (by omega) (by omega);have e3:IntKind.u64.wrap (([v].length:Nat):Int)=1:=fP (by simp) (by simp);have e4:[v].getD 0 0=v:=rfl;rw [e1,e2,e3,e4];refine ⟨fun h=>absurd (Nw h) (by omega),fun _=>⟨⟨rfl,by omega⟩,fun h=>?_,fun _=>⟨h2,by unfold aL; omega,by omega,?_,fun ⟨row,k⟩ ⟨k0,kn,kp,kr⟩=>⟨fun hlt=>?_,fun hge=>?_⟩⟩⟩⟩
 ·simp only [Oj,N5] at h;omega
 ·by_cases hn:0<n
  ·have hm:min [v].length (List.replicate n.toNat (0:Int)).length=1:=by
    rw [N0,Pk]; omega
   rw [hm];refine ⟨by omega,by omega,by omega,?_⟩;rw [Pc,Oa];exact yL hn
  ·have hz:n=0:=by omega
   subst hz;simp
 ·simp only at k0 kn kp kr hlt |-;have hl:(row.length:Int)=n:=by rw [kr]; simp; omega
  have hlt:=Nw hlt;have htl:(List.take k.toNat row).length=k.toNat:=by rw [NN]; omega
  have hmin:min (List.take k.toNat row).length (row.length - k.toNat)=min k.toNat (n - k).toNat:=by rw [htl]; omega
  rw [PQ,hmin,Br k0 kn kr rfl];simp only [am];exact ⟨by omega,by omega,by omega,by omega,by omega,by omega,by first | rfl | trivial,by omega,⟨by omega,by omega,by omega,by first | rfl | trivial⟩,by omega⟩
 ·simp only at k0 kn kp kr hge |-;have hl:(row.length:Int)=n:=by rw [kr]; simp; omega
  have hge:=Nx hge;have hk:k=n:=by omega
  refine ⟨?_,trivial⟩;rw [kr,hk];simp
theorem El:DQ.ok Tryz.prog 57:=aF (ann:=E5) (ae Mq ap) Tryz.func57 (by kernel_rfl) Ai
def fV (w:Int):List Int:=if 0<w then (List.replicate w.toNat 0).set 0 (aB (0,w - 1,0,true)) else List.replicate w.toNat 0
def ar (w r h:Int):ah×Int:=if w<0\/256<w then (([],[],[],[]),4) else if r<0\/32<r then (([],[],[],[]),4) else if h<0\/16<h then (([],[],[],[]),4) else ((fV w,List.replicate r.toNat (-1),[],List.replicate h.toNat (0,false,0)),0)
def IM:Spec:={ Ts:=[ty_I,ty_I,ty_I],Rs:=[.dat aG,.dat ty_I],al:=true,pre:=fun _=>True,F:=fun ((w,r,h):Int×Int×Int)=>ar w r h }
def By:Prop :=
  ∀ (x:Int×Int×Int),am .i64 x.1/\am .i64 x.2.1/\am .i64 x.2.2->True->True/\(decide ((pc x.1).2≠0)=true->(([]:List Int),([]:List Int),([]:List (Int×Int)),([]:List (Int×Bool×Int)))=(ar x.1 x.2.1 x.2.2).1/\(pc x.1).2=(ar x.1 x.2.1 x.2.2).2/\True)/\(decide ((pc x.1).2≠0)=false->((decide (x.2.1<0)||decide (32<x.2.1))=true->(([]:List Int),([]:List Int),([]:List (Int×Int)),([]:List (Int×Bool×Int)))=(ar x.1 x.2.1 x.2.2).1/\4=(ar x.1 x.2.1 x.2.2).2/\True)/\((decide (x.2.1<0)||decide (32<x.2.1))=false->True/\(decide ((dK x.2.2).2≠0)=true->(([]:List Int),([]:List Int),([]:List (Int×Int)),([]:List (Int×Bool×Int)))=(ar x.1 x.2.1 x.2.2).1/\(dK x.2.2).2=(ar x.1 x.2.1 x.2.2).2/\True)/\(decide ((dK x.2.2).2≠0)=false->(decide (0<x.1)=true->am .i64 (x.1 - 1)/\True/\(0:Int)<=0/\0<(↑(pc x.1).1.length:Int)/\Int.toNat 0<(pc x.1).1.length/\([(-1)].length=1/\0<=x.2.1/\x.2.1<=1000)/\((pc x.1).1.set (Int.toNat 0) (if af (0,x.1 - 1,0,true)=0 then aB (0,x.1 - 1,0,true) else (0:Int)),List.replicate x.2.1.toNat ([(-1)].getD 0 0),([]:List (Int×Int)),(dK x.2.2).1)=(ar x.1 x.2.1 x.2.2).1/\0=(ar x.1 x.2.1 x.2.2).2/\True)/\(decide (0<x.1)=false->([(-1)].length=1/\0<=x.2.1/\x.2.1<=1000)/\((pc x.1).1,List.replicate x.2.1.toNat ([(-1)].getD 0 0),([]:List (Int×Int)),(dK x.2.2).1)=(ar x.1 x.2.1 x.2.2).1/\0=(ar x.1 x.2.1 x.2.2).2/\True))))
theorem Gh:By:=by
 unfold By;intro ⟨w,r,h⟩ _ _;simp only;have hF:ar w r h=if w<0\/256<w then (([],[],[],[]),4) else if r<0\/32<r then (([],[],[],[]),4) else if h<0\/16<h then (([],[],[],[]),4) else ((fV w,List.replicate r.toNat (-1),[],List.replicate h.toNat (0,false,0)),0):=rfl
 have hW:pc w=if w<0\/256<w then ([],4) else (List.replicate w.toNat 0,0):=rfl
 have hH:dK h=if h<0\/16<h then ([],4) else (List.replicate h.toNat (0,false,0),0):=rfl
 by_cases cw:w<0\/256<w
 ·rw [if_pos cw] at hW hF;rw [hW,hF];exact ⟨trivial,fun _=>⟨by first | rfl | trivial,by first | rfl | trivial,trivial⟩,fun hn=>by simp at hn⟩
 rw [if_neg cw] at hW hF;rw [hW];refine ⟨trivial,fun hn=>by simp at hn,fun _=>⟨fun hr=>?_,fun hr=>?_⟩⟩
 ·rw [hF,if_pos (by simpa using hr)];exact ⟨by first | rfl | trivial,by first | rfl | trivial,trivial⟩
 have hr:¬ (r<0\/32<r):=by simpa using hr
 rw [if_neg hr] at hF;by_cases ch:h<0\/16<h
 ·rw [if_pos ch] at hH hF;rw [hH,hF];exact ⟨trivial,fun _=>⟨by first | rfl | trivial,by first | rfl | trivial,trivial⟩,fun hn=>by simp at hn⟩
 rw [if_neg ch] at hH hF;rw [hH,hF];refine ⟨trivial,fun hn=>by simp at hn,fun _=>⟨fun h0=>?_,fun h0=>?_⟩⟩
 ·have h0:=Nw h0;have hhf:af (0,w - 1,0,true)=0:=by simp [af,aa]; omega
  rw [if_pos hhf];simp only [am,N0];refine ⟨by omega,trivial,by omega,by omega,by simp; omega,⟨rfl,by omega,by omega⟩,?_,by first | rfl | trivial,trivial⟩;unfold fV;rw [if_pos h0];rfl
 ·have h0:=Nx h0;refine ⟨⟨rfl,by omega,by omega⟩,?_,by first | rfl | trivial,trivial⟩;unfold fV;rw [if_neg h0];rfl
theorem BV:IM.ok Tryz.prog 13:=aF (ann:=cr) (ae Eg (ae Eq (ae iE (ae El ap)))) Tryz.func13 (by kernel_rfl) Gh
end
section
end
section
def Ng (a:List Int) (x:Int):Int:=df (ac a).1 x
def wm (a:List Int):List Int->Int
 | []=>0
 | x::l=>Ng a x+wm a l
theorem Mx (a:List Int) (x:Int):1<=Ng a x/\Ng a x<=256:=MY a x
theorem uP (a:List Int):∀ l:List Int,(l.length:Int)<=wm a l/\wm a l<=256 * l.length
 | []=>by simp [wm]
 | x::l=>by
  have:=uP a l;have:=Mx a x;simp only [wm,NC];omega
theorem CI (a:List Int):∀ l:List Int,wm a l=(l.map (Ng a)).sum
 | []=>rfl
 | x::l=>by simp [wm,CI a l]
structure Carr (a o:List Int):Prop where
 nodup:o.Nodup
 isB:∀ x∈o,isB (ac a).1 x=true
 refs:∀ x∈o,∀ v∈bH a x,v=0\/(1<=v/\v<=256/\v - 1∈o)
 head:∀ x∈o,aB (eG a x)=a.getD x.toNat 0
end
section
end
section
def lL (s:ah):List cR:=aM false [] (ac (dw s)).1
theorem Right.live {s:ah} (R:Right s):wm s.1 (bF s.1 (io (cB s) 256))+ga s=s.1.length/\0<=ga s/\0<=wm s.1 (bF s.1 (io (cB s) 256)):=by
 have h:=R.free;have e:wm s.1 (dx s)=((dx s).map (df (ac s.1).1)).sum:=CI s.1 (dx s);have h2:=uP s.1 (dx s);have h3:=R.gaps.2.1
 have h4:0<=ga s:=by
  unfold ga;generalize aM false [] (ac (dw s)).1=g at *
  have:∀ l:List cR,(∀ r∈l,0<=r.1/\1<=r.2/\r.2<=256)->0<=dC l:=fun l=>by
   induction l with
   | nil=>intro _; simp [dC]
   | cons r l ih =>
    intro hl;have:=ih fun x hx=>hl x (by simp [hx])
    have:=hl r (by simp);simp only [dC,Oi,List.sum_cons] at *;omega
  exact this g h3
 rw [R.reached];omega
def jZ (s:ah):Int×List cR×Int:=if au s≠0 then (0,[],au s) else (ga s,lL s,0)
def AU:Spec:={ Ts:=[aG],Rs:=[.dat ty_I,.own 105 jp,.dat ty_I],pre:=fun _=>True,F:=jZ }
def rn:Prop :=
  ∀ (x:List Int×List Int×List (Int×Int)×List (Int×Bool×Int)),(ol x)->True->True/\(decide ((bv x).2.2≠0)=true->0=(jZ x).1/\([]:List (Int×Int))=(jZ x).2.1/\(bv x).2.2=(jZ x).2.2/\True)/\(decide ((bv x).2.2≠0)=false->True/\(bv x).2.1=(jZ x).1/\(an (bv x).1.1).1=(jZ x).2.1/\0=(jZ x).2.2/\True)
theorem xZ:rn:=by
 unfold rn;intro s ⟨⟨_,hw⟩,_⟩ _;have hC:bv s=if au s≠0 then (ay,0,au s) else ((cW s).1,(cW s).2,0):=rfl
 have hF:jZ s=if au s≠0 then (0,[],au s) else (ga s,lL s,0):=rfl
 by_cases h0:au s≠0
 ·rw [if_pos h0] at hC hF;rw [hC,hF];exact ⟨trivial,fun _=>⟨by trivial,by trivial,by trivial,trivial⟩,fun h=>absurd h0 (Nx h)⟩
 ·rw [if_neg h0] at hC hF;have R:=gQ hw (by omega:au s=0);have e:an (cW s).1.1=(lL s,0):=R.gaps.1;rw [hC,hF];simp only;rw [e];exact ⟨trivial,fun h=>absurd rfl (Nw h),fun _=>⟨trivial,by trivial,by trivial,by trivial,trivial⟩⟩
theorem B0:AU.ok Tryz.prog 82:=aF (ann:=cr) (ae ni (ae jV ap)) Tryz.func82 (by kernel_rfl) xZ
def eu (s:ah):Int×Int:=if au s≠0 then (0,au s) else (s.1.length - ga s,0)
def AT:Spec:={ Ts:=[aG],Rs:=[.dat ty_I,.dat ty_I],pre:=fun _=>True,F:=eu }
def rm:Prop :=
  ∀ (x:List Int×List Int×List (Int×Int)×List (Int×Bool×Int)),(ol x)->True->True/\(decide ((jZ x).2.2≠0)=true->0=(eu x).1/\(jZ x).2.2=(eu x).2/\True)/\(decide ((jZ x).2.2≠0)=false->am .i64 ((x.1.length:Int) - (jZ x).1)/\(x.1.length:Int) - (jZ x).1=(eu x).1/\0=(eu x).2/\True)
theorem xY:rm:=by
 unfold rm;intro s ⟨⟨_,hw⟩,_⟩ _;have hL:eu s=if au s≠0 then (0,au s) else (s.1.length - ga s,0):=rfl
 have hF:jZ s=if au s≠0 then (0,[],au s) else (ga s,lL s,0):=rfl
 by_cases h0:au s≠0
 ·rw [if_pos h0] at hL hF;rw [hL,hF];exact ⟨trivial,fun _=>⟨by trivial,by trivial,trivial⟩,fun h=>absurd h0 (Nx h)⟩
 ·rw [if_neg h0] at hL hF;have R:=gQ hw (by omega:au s=0);have hl:=R.live;have hal:=R.al;rw [hL,hF];simp only [am];exact ⟨trivial,fun h=>absurd rfl (Nw h),fun _=>⟨by omega,by trivial,by trivial,trivial⟩⟩
theorem rM:AT.ok Tryz.prog 22:=aF (ann:=cr) (ae B0 ap) Tryz.func22 (by kernel_rfl) xY
end
section
structure Given (G:List Int) (h:List be):Prop where
 len:h.length<=16
 ok:∀ s∈h,ee s=0
 old:∀ n∈G,∃ (i:Nat) (g:Int) (s:be),h[i]?=some s/\n=(i:Int)+65536 * g/\g<=s.1
 live:∀ (i:Nat) (s:be),h[i]?=some s->s.2.1=true->(i:Int)+65536 * s.1∈G
theorem Be:∀ {h:List be},bp h=0 ↔ ∀ s∈h,ee s=0
 | []=>by simp [bp]
 | s::l=>by
  have ih:=Be (h:=l);simp only [bp,NG,forall_eq_or_imp];split
  ·rename_i h;exact ⟨fun e=>absurd e h,fun e=>absurd e.1 h⟩
  ·rename_i h;have h:ee s=0:=by omega
   exact ⟨fun e=>⟨h,ih.1 e⟩,fun e=>ih.2 e.2⟩
theorem jy {h:List be}:aJ h=0 ↔ h.length<=16/\∀ s∈h,ee s=0:=by
 unfold aJ;split
 ·exact ⟨fun e=>absurd e (by decide),fun e=>by omega⟩
 ·rw [Be];exact ⟨fun e=>⟨by omega,e⟩,fun e=>e.2⟩
theorem g8 {s:be}:ee s=0 ↔ 0<=s.1/\s.1<=65535/\0<=s.2.2/\s.2.2<=255/\(s.2.1=true->s.1≠0)/\(s.2.1=false->s.2.2=0):=by
 unfold ee;split
 ·exact ⟨fun e=>absurd e (by decide),fun e=>by omega⟩
 ·split
  ·rename_i h1 h2;refine ⟨fun e=>absurd e (by decide),fun e=>?_⟩;rcases h2 with ⟨a,b⟩ | ⟨a,b⟩
   ·exact absurd b (e.2.2.2.2.1 a)
   ·exact absurd (e.2.2.2.2.2 a) b
  ·rename_i h1 h2;refine ⟨fun _=>⟨by omega,by omega,by omega,by omega,fun a b=>h2 (.inl ⟨a,b⟩),fun a=>?_⟩,fun _=>rfl⟩;apply Ok;intro b;exact h2 (.inr ⟨a,b⟩)
theorem Given.new (n:Nat) (hn:n<=16):Given [] (List.replicate n (0,false,0)) where
 len:=by simp; omega
 ok:=fun s hs=>by rw [OJ hs]; decide
 old:=fun n h=>by cases h
 live:=fun i s h e=>by
  rw [List.getElem?_replicate] at h;split at h
  ·injection h with h
   subst h;cases e
  ·cases h
theorem Given.map {G:List Int} {h:List be} (H:Given G h) (f:be->be) (h1:∀ s,(f s).1=s.1/\(f s).2.1=s.2.1) (h2:∀ s∈h,ee (f s)=0):Given G (h.map f) where
 len:=by simpa using H.len
 ok:=fun s hs=>by
  obtain ⟨t,ht,rfl⟩:=NZ.1 hs;exact h2 t ht
 old:=fun n hn=>by
  obtain ⟨i,g,s,e1,e2,e3⟩:=H.old n hn;exact ⟨i,g,f s,by rw [List.getElem?_map,e1]; rfl,e2,by rw [(h1 s).1]; exact e3⟩
 live:=fun i s hi e=>by
  rw [List.getElem?_map] at hi;obtain ⟨t,ht,rfl⟩:=NB.1 hi;rw [(h1 t).1];exact H.live i t ht (by rw [<- (h1 t).2]; exact e)
theorem Given.shut {G:List Int} {h:List be} (H:Given G h) {k:Nat} {s:be} (hk:h[k]?=some s):Given G (h.set k (s.1,false,0)) where
 len:=by simpa using H.len
 ok:=fun t ht=>by
  rcases Og ht with ht | rfl
  ·exact H.ok t ht
  ·have:=g8.1 (H.ok s (Oy hk));exact g8.2 ⟨this.1,this.2.1,O1 _,(show (0:Int)<=255 by decide),(fun e=>by cases e),fun _=>rfl⟩
 old:=fun n hn=>by
  obtain ⟨i,g,t,e1,e2,e3⟩:=H.old n hn;by_cases e:k=i
  ·subst e;rw [hk] at e1;injection e1 with e1
   subst e1;exact ⟨k,g,(s.1,false,0),List.getElem?_set_self (List.getElem?_eq_some_iff.1 hk).1,e2,e3⟩
  ·exact ⟨i,g,t,by rw [List.getElem?_set_ne e]; exact e1,e2,e3⟩
 live:=fun i t hi e=>by
  by_cases ek:k=i
  ·subst ek;rw [List.getElem?_set_self (List.getElem?_eq_some_iff.1 hk).1] at hi;injection hi with hi
   subst hi;cases e
  ·rw [List.getElem?_set_ne ek] at hi;exact H.live i t hi e
theorem Given.opn {G:List Int} {h:List be} (H:Given G h) {k:Nat} {s:be} (hk:h[k]?=some s) (hg:s.1<65535) {at_:Int} (h0:0<=at_) (h1:at_<=255) :
  (k:Int)+65536 * (s.1+1) ∉ G/\Given (G++[(k:Int)+65536 * (s.1+1)]) (h.set k (s.1+1,true,at_)):=by
 have hs:=g8.1 (H.ok s (Oy hk));have hl:∀ {i:Nat} {t:be},h[i]?=some t->i<16:=fun e=>OA (List.getElem?_eq_some_iff.1 e).1 H.len
 refine ⟨fun hn=>?_,?_,?_,?_,?_⟩
 ·obtain ⟨i,g,t,e1,e2,e3⟩:=H.old _ hn;have a1:=hl hk;have a2:=hl e1;obtain rfl:i=k:=by omega
  rw [hk] at e1;injection e1 with e1
  subst e1;omega
 ·simpa using H.len
 ·intro t ht;rcases Og ht with ht | rfl
  ·exact H.ok t ht
  ·exact g8.2 ⟨by simp only; omega,by simp only; omega,h0,h1,(fun _=>by simp only; omega),fun e=>by cases e⟩
 ·intro n hn;rcases NI.1 hn with hn | hn
  ·obtain ⟨i,g,t,e1,e2,e3⟩:=H.old n hn;by_cases e:k=i
   ·subst e;rw [hk] at e1;injection e1 with e1
    subst e1;exact ⟨k,g,(s.1+1,true,at_),List.getElem?_set_self (List.getElem?_eq_some_iff.1 hk).1,e2,by simp only; omega⟩
   ·exact ⟨i,g,t,by rw [List.getElem?_set_ne e]; exact e1,e2,e3⟩
  ·simp only [NL] at hn;exact ⟨k,s.1+1,(s.1+1,true,at_),List.getElem?_set_self (List.getElem?_eq_some_iff.1 hk).1,hn,O1 _⟩
 ·intro i t hi e;by_cases ek:k=i
  ·subst ek;rw [List.getElem?_set_self (List.getElem?_eq_some_iff.1 hk).1] at hi;injection hi with hi
   subst hi;simp
  ·rw [List.getElem?_set_ne ek] at hi;exact ND _ (H.live i t hi e)
theorem xr:∀ (h:List be) (k:Nat),∀ n∈gY k h,∃ (i:Nat) (s:be),h[i]?=some s/\s.2.1=true/\n=((k+i:Nat):Int)+65536 * s.1
 | [],k,n,hn=>by simp [gY] at hn
 | s::l,k,n,hn=>by
  have ih:=xr l (k+1)
  have step:n∈gY ((k:Int)+1) l->∃ (i:Nat) (t:be),(s::l)[i]?=some t/\t.2.1=true/\n=((k+i:Nat):Int)+65536 * t.1:=fun hm=>by
   obtain ⟨i,t,e1,e2,e3⟩:=ih n (by simpa using hm);exact ⟨i+1,t,by simpa using e1,e2,by rw [e3]; congr 1; omega⟩
  simp only [gY] at hn;split at hn
  ·rename_i h;rcases NG.1 hn with rfl | hn
   ·exact ⟨0,s,rfl,h,by simp [dS]⟩
   ·exact step hn
  ·exact step hn
theorem Given.all {G:List Int} {h:List be} (H:Given G h):LU h=(gY 0 h,0)/\∀ n∈gY 0 h,n∈G:=by
 refine ⟨by unfold LU; rw [if_neg (by rw [jy.2 ⟨H.len,H.ok⟩]; decide)],fun n hn=>?_⟩;obtain ⟨i,s,e1,e2,e3⟩:=xr h 0 n hn;rw [e3,Ox];exact H.live i s e1 e2
theorem Given.openF {G:List Int} {h:List be} (H:Given G h) {at_:Int} {r:List be×Int×Int} (e:openF h at_=r) (h0:r.2.2=0):r.2.1 ∉ G/\Given (G++[r.2.1]) r.1:=by
 have hf:=jy.2 ⟨H.len,H.ok⟩;rw [BS at_ hf] at e;split at e
 ·subst e; exact absurd h0 (by decide)
 split at e
 ·subst e; exact absurd h0 (by decide)
 rename_i ha hi;subst e;have hr:=eB az h 0;have hlt:ag az 0 h<(h.length:Int):=by omega
 have his:=dW az (0,false,0) h 0 (by omega) (O1 _);obtain ⟨i,hi'⟩:=Oz (show 0<=ag az 0 h by omega);simp only [hi',Ps,Oo] at his |-;have hil:i<h.length:=by omega
 have hk:h[i]?=some h[i]:=List.getElem?_eq_getElem hil;have hd:h.getD i (0,false,0)=h[i]:=by simp [List.getD,hk]
 rw [hd] at his;unfold az at his;simp only [NA,N5] at his;have:=H.opn hk his.2 (at_:=at_) (by omega) (by omega);unfold lc dS;simp only [Oo,hd];exact this
theorem Given.closeF {G:List Int} {h:List be} (H:Given G h) {n:Int} {r:List be×Int} (e:closeF h n=r) (h0:r.2=0):Given G r.1:=by
 unfold Go.Proofs.YtmfileeamnfpaaaGreatDoor.closeF at e;split at e
 ·rename_i hb;subst e;exact absurd h0 hb
 ·rename_i hb;subst e;have hb:(ce h n).2=0:=by omega
  unfold ce at hb |-;split at hb
  ·rename_i h1; simp only at hb; exact absurd hb h1
  rename_i hh;rw [if_neg hh];split at hb
  ·rename_i h1;rw [if_pos h1];simp only;obtain ⟨i,hi⟩:=Oz (show 0<=n % 65536 by omega);simp only [hi,Oo] at h1 |-;have hil:i<h.length:=by omega
   have hk:h[i]?=some h[i]:=List.getElem?_eq_getElem hil;have hd:h.getD i (0,false,0)=h[i]:=by simp [List.getD,hk]
   rw [hd];exact H.shut hk
  ·simp at hb
end
section
theorem AE:∀ (at_:Int) (l:List Int) (r:List aw),spotsS at_ l=some r->∀ m:List Int,m.length=l.length->(∀ s∈r,m.getD (s.1 - at_).toNat 0=l.getD (s.1 - at_).toNat 0)->spotsS at_ m=some r:=by
 intro at_ l r h
 induction at_,l using spotsS.induct generalizing r with
 | case1 at_ =>
  intro m hm _;rw [NQ hm];exact h
 | case2 at_ v l hv ih =>
  intro m hm hk;rw [cK hv.1 hv.2] at h;obtain ⟨r',hr,rfl⟩:=NB.1 h;have hl:=dR hv.1
  match m,hm,hk with
  | u::m,hm,hk =>
   have h0:=hk (at_,aU v) NS;simp only [Int.sub_self,Int.toNat_zero,List.getD_cons_zero] at h0;subst h0;rw [cK hv.1 (by rw [hm]; exact hv.2),ih r' hr ((u::m).drop (aa (aU u)).toNat) (by simp only [NY,hm]) (fun s hs=>?_)]
   ·rfl
   ·have h1:=(p6 _ _ _ hr s hs).1;have h2:=hk s (NT _ hs)
    have e:∀ w:List Int,(w.drop (aa (aU u)).toNat).getD (s.1 - (at_+aa (aU u))).toNat 0=w.getD (s.1 - at_).toNat 0:=fun w=>by
     rw [List.getD_eq_getElem?_getD,List.getElem?_drop,List.getD_eq_getElem?_getD];congr 2;omega
    rw [e,e];exact h2
 | case3 at_ v l hv =>
  rw [eH hv] at h;cases h
theorem AG {a b:List Int} (h:(ac a).2=0) (hl:b.length=a.length) (hk:∀ s∈(ac a).1,b.getD s.1.toNat 0=a.getD s.1.toNat 0):ac b=ac a:=by
 have hal:=(gw h).1;unfold ac at h hk |-;rw [if_neg (by omega)] at h hk;rw [if_neg (by omega),if_neg (by omega)];cases e:spotsS 0 a with
 | none=>rw [e] at h; simp at h
 | some l =>
  rw [e] at hk;rw [AE 0 a l e b hl (fun s hs=>by rw [Ps]; exact hk s hs)]
theorem mE {b:List Int} {l:List aw} (hs:ac b=(l,0)) (hr:∀ s∈l,∀ v∈aO b s,v=0\/1<=v/\isB l (v - 1)=true):(ak b).2.2=0:=by
 have hsort:=bV b;have hrange:=cJ (a:=b);rw [hs] at hsort hrange;unfold ak;rw [hs,if_neg (by simp),if_pos];refine NH.2 fun s hm=>NH.2 fun v hv=>?_
 have h:=hr s hm v hv;rw [<- xc hsort hrange (by omega)];rcases h with rfl | ⟨h1,h2⟩
 ·simp [nameOf]
 ·have hb:=gF (a:=b) (x:=v - 1) (by rw [hs]; exact h2);have:nameOf v=v - 1:=by unfold nameOf; rw [if_neg (by omega)]
  rw [this,fw,h2,Bool.or_true]
theorem lA {a:List Int} (hw:∀ x∈a,am .u64 x) (hc:(ak a).2.2=0):∀ s∈(ac a).1,∀ v∈aO a s,v=0\/1<=v/\isB (ac a).1 (v - 1)=true:=fun s hs v hv=>by
 rcases nG hw hc s hs v hv with h | ⟨h1,_,h2⟩
 ·exact .inl h
 ·exact .inr ⟨h1,h2⟩
theorem Av:∀ {l:List aw} {s e:Int},fl s e l->∀ x∈l,∀ y∈l,x=y\/x.1+aa x.2<=y.1\/y.1+aa y.2<=x.1:=by
 intro l
 have low:∀ {l:List aw} {s e:Int},fl s e l->∀ x∈l,s<=x.1:=by
  intro l
  induction l with
  | nil=>intro s e _ x hx; cases hx
  | cons z l ih =>
   intro s e h x hx;obtain ⟨h1,h2,h3⟩:=h;rcases NG.1 hx with rfl | hx
   ·omega
   ·have:=ih h3 x hx;omega
 induction l with
 | nil=>intro s e _ x hx; cases hx
 | cons z l ih =>
  intro s e h x hx y hy;obtain ⟨h1,h2,h3⟩:=h;rcases NG.1 hx with ex | hx' <;> rcases NG.1 hy with ey | hy'
  ·exact .inl (ex.trans ey.symm)
  ·have:=low h3 y hy';rw [ex];exact .inr (.inl (by omega))
  ·have:=low h3 x hx';rw [ey];exact .inr (.inr (by omega))
  ·exact ih h3 x hx' y hy'
theorem lY {a:List Int} (h:(ac a).2=0) {x y:aw} (hx:x∈(ac a).1) (hy:y∈(ac a).1):x=y\/x.1+aa x.2<=y.1\/y.1+aa y.2<=x.1:=Av (fG h) x hx y hy
theorem wz {a:List Int} (h:(ac a).2=0) {x:aw} (hx:x∈(ac a).1) {p:Int} (h1:x.1<p) (h2:p<x.1+aa x.2) (v:Int):ac (a.set p.toNat v)=ac a:=by
 refine AG h (by simp) fun s hs=>?_
 have h0:=(cJ s hs).1;have hx0:=(cJ x hx).1
 have hne:p.toNat≠s.1.toNat:=by
  have hls:1<=aa s.2:=by
   have:=aW ((gw h).2 s hs).2;unfold aa;omega
  rcases lY h hx hs with rfl | e | e <;> omega
 rw [List.getD_eq_getElem?_getD,List.getElem?_set_ne hne,<- List.getD_eq_getElem?_getD]
theorem I8 {a:List Int} {s:aw} {p:Nat} {v u:Int} (h:u∈aO (a.set p v) s):u=v\/u∈aO a s:=by
 unfold aO at h |-;rw [List.take_set] at h;rw [List.drop_set] at h;split at h
 ·exact .inr h
 ·rcases Og h with h | h
  ·exact .inr h
  ·exact .inl h
section
variable {s:ah}
theorem Right.isIn (_R:Right s) {x:Int} (h:isB (ac s.1).1 x=true):0<=x/\x<s.1.length:=by
 obtain ⟨l1,l2,l3,l4,l5,l6⟩:=bW h;omega
theorem yJ {r:List Int} {n:Int} (h0:0<=n) (h1:n<=256) (h2:r.length<=32) (h3:∀ v∈r,-1<=v/\v<n):aE r n=0:=by
 unfold aE;rw [if_neg (by omega),if_neg (by omega),if_neg];intro h;obtain ⟨v,hv,e⟩:=OK.1 h;have:=h3 v hv;simp only [db,NX,PD,Ou] at e;omega
theorem Right.roots (R:Right s):s.2.1.length<=32/\∀ v∈s.2.1,-1<=v/\v<(s.1.length:Int):=⟨R.small.1,fun _ hv=>sz (kg R.root) hv⟩
theorem ci {x:Int}:x∈cB s ↔ (x∈s.2.1/\0<=x)\/(∃ h∈s.2.2.2,h.2.1=true/\h.2.2=x)\/∃ p∈s.2.2.1,p.1=x:=by
 unfold cB gB;simp only [NI,OC,NZ,N5];constructor
 ·rintro ((h | ⟨t,⟨h1,h2⟩,h3⟩) | ⟨p,h1,h2⟩)
  ·exact .inl h
  ·exact .inr (.inl ⟨t,h1,h2,h3⟩)
  ·exact .inr (.inr ⟨p,h1,h2⟩)
 ·rintro (h | ⟨t,h1,h2,h3⟩ | ⟨p,h1,h2⟩)
  ·exact .inl (.inl h)
  ·exact .inl (.inr ⟨t,⟨h1,h2⟩,h3⟩)
  ·exact .inr ⟨p,h1,h2⟩
theorem Right.setRoot (R:Right s) {k:Nat} {v:Int} (hv:v=-1\/isB (ac s.1).1 v=true):Right (s.1,s.2.1.set k v,s.2.2):=by
 have hr:=R.roots;have hal:=R.al
 have hvr:-1<=v/\v<(s.1.length:Int):=by
  rcases hv with rfl | h
  ·omega
  ·have:=R.isIn h;omega
 refine ⟨R.w,R.chk,yJ (by simp only; omega) (by simp only; omega) (by simp only [O7]; exact hr.1) (fun u hu=>?_),R.pin,R.hand,fun x hx=>?_⟩
 ·rcases Og hu with h | rfl
  ·exact hr.2 u h
  ·exact hvr
 ·rcases ci.1 hx with ⟨h,h0⟩ | h | h
  ·rcases Og h with h | rfl
   ·exact R.nam x (ci.2 (.inl ⟨h,h0⟩))
   ·rcases hv with rfl | h
    ·omega
    ·exact h
  ·exact R.nam x (ci.2 (.inr (.inl h)))
  ·exact R.nam x (ci.2 (.inr (.inr h)))
theorem Right.arena (R:Right s) {b:List Int} (hw:∀ x∈b,am .u64 x) (hl:b.length=s.1.length) (hs:ac b=ac s.1) (hr:∀ t∈(ac s.1).1,∀ u∈aO b t,u=0\/1<=u/\isB (ac s.1).1 (u - 1)=true):Right (b,s.2):=by
 have h2:=(bg R.chk).2.2.2.1;refine ⟨hw,mE (l:=(ac s.1).1) (by rw [hs,<- h2]) hr,by simp only; rw [hl]; exact R.root,R.pin,R.hand,fun x hx=>?_⟩;simp only;rw [hs];exact R.nam x hx
theorem Right.setRef (R:Right s) {x k v:Int} (O:ObjAt s x) (k0:0<=k) (k1:k<(eG s.1 x).1) (hv:v=0\/1<=v/\isB (ac s.1).1 (v - 1)=true):Right (s.1.set (x+1+k).toNat v,s.2):=by
 have h2:=(bg R.chk).2.2.2.1;have hin:=(fj O.isb).1
 have hvr:am .u64 v:=by
  simp only [am];rcases hv with rfl | ⟨h1,h⟩
  ·omega
  ·have:=gF h;omega
 have hL:aa (eG s.1 x)=1+(eG s.1 x).1+(eG s.1 x).2.1:=rfl;have hb0:=O.b0;refine R.arena (fun u hu=>?_) (by simp) (wz h2 hin (by simp only; omega) (by simp only; omega) v) (fun t ht u hu=>?_)
 ·rcases Og hu with h | rfl
  ·exact R.w u h
  ·exact hvr
 ·rcases I8 hu with rfl | h
  ·exact hv
  ·exact lA R.w R.chk t ht u h
theorem Right.setBody (R:Right s) {x k v:Int} (O:ObjAt s x) (k0:0<=k) (k1:k<(eG s.1 x).2.1) (hv:am .u64 v):Right (s.1.set (bG s x k).toNat v,s.2):=by
 have h2:=(bg R.chk).2.2.2.1;have hin:=(fj O.isb).1;have hL:aa (eG s.1 x)=1+(eG s.1 x).1+(eG s.1 x).2.1:=rfl;have hr0:=O.r0;have hx0:=O.x0;unfold bG;refine R.arena (fun u hu=>?_) (by simp) (wz h2 hin (by simp only; omega) (by simp only; omega) v) (fun t ht u hu=>?_)
 ·rcases Og hu with h | rfl
  ·exact R.w u h
  ·exact hv
 ·have ht2:=aW ((gw h2).2 t ht).2;have htr:=(cJ t ht).1;have hLt:aa t.2=1+t.2.1+t.2.2.1:=rfl;rw [qj (a:=s.1) htr ht2.1 (fun j j0 j1=>?_)] at hu
  ·exact lA R.w R.chk t ht u hu
  ·rw [List.getElem?_set_ne];rcases lY h2 hin ht with e | e | e
   ·subst e;simp only at *;omega
   ·simp only at e;omega
   ·simp only at e;omega
end
theorem sC {p:List bj} (h1:p.length<=16) (h2:p.Pairwise (fun x y=>x.1<y.1)) (h3:∀ x∈p,0<=x.1/\x.1<=255/\1<=x.2/\x.2<=1000000):bM p=0:=by
 have scan:∀ (p:List bj) (q:Int),p.Pairwise (fun x y=>x.1<y.1)->(∀ x∈p,q<x.1/\0<=x.1/\x.1<=255/\1<=x.2/\x.2<=1000000)->cL q p=0:=by
  intro p
  induction p with
  | nil=>intro q _ _; rfl
  | cons x l ih =>
   intro q hp hr;obtain ⟨h1,h2⟩:=Oc.1 hp;have hx:=hr x NS;unfold cL;rw [if_neg (by simp only [lC,Oj,N5]; omega),if_neg (by omega)];exact ih x.1 h2 fun y hy=>⟨h1 y hy,(hr y (NT _ hy)).2⟩
 unfold bM;rw [if_neg (by omega)];exact scan p _ h2 fun x hx=>by have:=h3 x hx; omega
theorem o6 {A B C:List bj} {k v:Int} (hp:(A++C).Pairwise (fun x y=>x.1<y.1)) (hC:C=B\/∃ w,C=(k,w)::B) (hA:∀ x∈A,x.1<k) (hB:∀ x∈B,k<x.1):(A++(k,v)::B).Pairwise (fun x y=>x.1<y.1)/\(A++B).Pairwise (fun x y=>x.1<y.1):=by
 obtain ⟨h1,h2,h3⟩:=Pq.1 hp
 have hBp:B.Pairwise (fun x y=>x.1<y.1):=by
  rcases hC with rfl | ⟨w,rfl⟩
  ·exact h2
  ·exact (Oc.1 h2).2
 refine ⟨Pq.2 ⟨h1,Oc.2 ⟨fun y hy=>hB y hy,hBp⟩,fun x hx y hy=>?_⟩,Pq.2 ⟨h1,hBp,fun x hx y hy=>?_⟩⟩
 ·rcases NG.1 hy with rfl | hy
  ·exact hA x hx
  ·have:=hA x hx;have:=hB y hy;omega
 ·have:=hA x hx;have:=hB y hy;omega
theorem ML {p:List bj} {k:Int} (h:(gq p k).2.2=0):bM (gq p k).1=0/\∀ x∈(gq p k).1,x.1=k\/∃ y∈p,y.1=x.1:=by
 unfold gq at h |-;split at h
 ·rename_i h1; simp only at h; exact absurd h h1
 rename_i h1;rw [if_neg h1];split at h
 ·simp at h
 rename_i h2;rw [if_neg h2];simp only;have h0:(aD p k).2.2=0:=by omega
 obtain ⟨k1,k2,k3,k4⟩:=uz h0;obtain ⟨q1,q2,q3⟩:=oZ k1;obtain ⟨A,B,e,e2,hl,hA,hB,h3⟩:=lq h0;rw [e2];rcases h3 with ⟨b1,b2,b3⟩ | ⟨b1,b2,b3,b4⟩
 ·rw [if_neg (by rw [b1]; simp),b3,ED];have hlen:(A++B).length≠16:=fun e=>h2 (.inr ⟨b1,by rw [b3]; exact e⟩)
  rw [b3] at q1 q2 q3;refine ⟨sC (by simp only [NE,NC] at *; omega) (o6 q2 (.inl rfl) hA hB).1 (fun x hx=>?_),fun x hx=>?_⟩
  ·rcases NI.1 hx with hx | hx
   ·exact q3 x (ND _ hx)
   ·rcases NG.1 hx with rfl | hx
    ·have:=k2;simp only;omega
    ·exact q3 x (NF _ hx)
  ·rcases NI.1 hx with hx | hx
   ·exact .inr ⟨x,ND _ hx,rfl⟩
   ·rcases NG.1 hx with rfl | hx
    ·exact .inl rfl
    ·exact .inr ⟨x,NF _ hx,rfl⟩
 ·rw [if_pos b1];have hm:fk p k≠1000000:=fun e=>h2 (.inl e)
  generalize fk p k=v at *;subst b4;rw [tg];refine ⟨sC (by simp only [NE,NC] at *; omega) (o6 q2 (.inr ⟨v,rfl⟩) hA hB).1 (fun x hx=>?_),fun x hx=>?_⟩
  ·rcases NI.1 hx with hx | hx
   ·exact q3 x (ND _ hx)
   ·rcases NG.1 hx with rfl | hx
    ·have:=q3 (k,v) (by simp);simp only at this |-;omega
    ·exact q3 x (NF _ (NT _ hx))
  ·rcases NI.1 hx with hx | hx
   ·exact .inr ⟨x,ND _ hx,rfl⟩
   ·rcases NG.1 hx with rfl | hx
    ·exact .inl rfl
    ·exact .inr ⟨x,NF _ (NT _ hx),rfl⟩
theorem LB {p:List bj} {k:Int} (h:(dz p k).2.2=0):bM (dz p k).1=0/\∀ x∈(dz p k).1,∃ y∈p,y.1=x.1:=by
 unfold dz at h |-;split at h
 ·rename_i h1; simp only at h; exact absurd h h1
 rename_i h1;rw [if_neg h1];split at h
 ·simp at h
 rename_i h2;rw [if_neg h2];simp only;have h0:(aD p k).2.2=0:=by omega
 obtain ⟨k1,k2,k3,k4⟩:=uz h0;obtain ⟨q1,q2,q3⟩:=oZ k1;obtain ⟨A,B,e,e2,hl,hA,hB,h3⟩:=lq h0;rw [e2];rcases h3 with ⟨b1,b2,b3⟩ | ⟨b1,b2,b3,b4⟩
 ·exact absurd b1 h2
 ·generalize fk p k=v at *;subst b4;by_cases hv:v=1
  ·rw [if_pos hv,EW];refine ⟨sC (by simp only [NE,NC] at *; omega) (o6 (v:=v) q2 (.inr ⟨v,rfl⟩) hA hB).2 (fun x hx=>?_),fun x hx=>?_⟩
   ·rcases NI.1 hx with hx | hx
    ·exact q3 x (ND _ hx)
    ·exact q3 x (NF _ (NT _ hx))
   ·rcases NI.1 hx with hx | hx
    ·exact ⟨x,ND _ hx,rfl⟩
    ·exact ⟨x,NF _ (NT _ hx),rfl⟩
  ·rw [if_neg hv,tg];refine ⟨sC (by simp only [NE,NC] at *; omega) (o6 q2 (.inr ⟨v,rfl⟩) hA hB).1 (fun x hx=>?_),fun x hx=>?_⟩
   ·rcases NI.1 hx with hx | hx
    ·exact q3 x (ND _ hx)
    ·rcases NG.1 hx with rfl | hx
     ·have:=q3 (k,v) (by simp);simp only at this |-;omega
     ·exact q3 x (NF _ (NT _ hx))
   ·rcases NI.1 hx with hx | hx
    ·exact ⟨x,ND _ hx,rfl⟩
    ·rcases NG.1 hx with rfl | hx
     ·exact ⟨(k,v),by simp,rfl⟩
     ·exact ⟨x,NF _ (NT _ hx),rfl⟩
section
variable {s:ah}
theorem Right.setPins (R:Right s) {p:List bj} (h0:bM p=0) (h:∀ x∈p,isB (ac s.1).1 x.1=true):Right (s.1,s.2.1,p,s.2.2.2) :=
 ⟨R.w,R.chk,R.root,h0,R.hand,fun x hx=>by
  rcases ci.1 hx with h1 | h1 | ⟨y,h1,rfl⟩
  ·exact R.nam x (ci.2 (.inl h1))
  ·exact R.nam x (ci.2 (.inr (.inl h1)))
  ·exact h y h1⟩
theorem Right.setHands (R:Right s) {h:List be} (h0:aJ h=0) (hh:∀ x∈h,x.2.1=true->isB (ac s.1).1 x.2.2=true):Right (s.1,s.2.1,s.2.2.1,h) :=
 ⟨R.w,R.chk,R.root,R.pin,h0,fun x hx=>by
  rcases ci.1 hx with h1 | ⟨y,h1,h2,rfl⟩ | h1
  ·exact R.nam x (ci.2 (.inl h1))
  ·exact hh y h1 h2
  ·exact R.nam x (ci.2 (.inr (.inr h1)))⟩
theorem Right.pinB (R:Right s) {x:bj} (h:x∈s.2.2.1):isB (ac s.1).1 x.1=true:=R.nam _ (ci.2 (.inr (.inr ⟨x,h,rfl⟩)))
theorem Right.handB (R:Right s) {x:be} (h:x∈s.2.2.2) (h1:x.2.1=true):isB (ac s.1).1 x.2.2=true:=R.nam _ (ci.2 (.inr (.inl ⟨x,h,h1,rfl⟩)))
theorem Right.rootB (R:Right s) {v:Int} (h:v∈s.2.1) (h1:0<=v):isB (ac s.1).1 v=true:=R.nam _ (ci.2 (.inl ⟨h,h1⟩))
theorem Right.given (R:Right s):s.2.2.2.length<=16/\∀ x∈s.2.2.2,ee x=0:=jy.1 R.hand
end
end
section
theorem kM {k:Int} (hk:k<=256):∀ x∈bI k,am .u64 x:=by
 intro x hx;unfold bI at hx;split at hx
 ·rcases NG.1 hx with rfl | hx
  ·simp only [aB,am,if_true];omega
  ·rw [OJ hx];simp only [am];omega
 ·cases hx
theorem Je {l:List Int} {x:Int} (h:x∈l):l.getD (cC l x).toNat 0=x:=by
 have hp:=jv h;have:=dW (fun y=>decide (y=x)) (0:Int) l 0 hp.1 (O1 _);rw [Ps] at this;exact Nw this
section
variable {a keep pinned long:List Int}
theorem K7 (hw:∀ x∈a,am .u64 x) (hP:Plan a keep pinned long) {i:Nat} (hi:i<keep.length):∀ x∈gS a keep (aA keep long pinned) (keep.getD i 0),am .u64 x:=by
 intro x hx;unfold gS at hx;have hb:=hP.isb _ (dQ hi);obtain ⟨l1,l2,l3,l4,l5,l6⟩:=bW hb;rcases NG.1 hx with rfl | hx
 ·exact hw _ (aH (0:Int) (xs:=a) (i:=keep.getD i 0) (by omega) (by omega))
 rcases NI.1 hx with hx | hx
 ·obtain ⟨v,_,rfl⟩:=NZ.1 hx;unfold jX kJ;split
  ·simp only [PI,am]; omega
  split
  ·rename_i hk;have hp:=jv (cu.1 hk);rw [kK (by omega)];have h1:=hP.le (cC keep (v - 1)).toNat (by omega);have h2:=(cf pinned hP.pre (cC keep (v - 1)).toNat (by omega)).1;have h3:=hP.lg (cC keep (v - 1)).toNat (by omega);obtain ⟨_,_,_,_,k5,k6⟩:=bW (hP.isb _ (dQ (i:=(cC keep (v - 1)).toNat) (by omega)));have hal:=hP.al;simp only [PI,am];omega
  ·simp only [Option.getD_none,am]; omega
 ·unfold gI iy at hx;exact hw x (OZ (O0 hx))
theorem I4 (hw:∀ x∈a,am .u64 x) (hP:Plan a keep pinned long):∀ n:Nat,n<=keep.length->∀ x∈mY a keep (aA keep long pinned) pinned long n,am .u64 x
 | 0,_,x,hx=>by cases hx
 | n+1,hn,x,hx=>by
  simp only [mY] at hx;rcases NI.1 hx with hx | hx
  ·exact I4 hw hP n (by omega) x hx
  rcases NI.1 hx with hx | hx
  ·have h1:=hP.le n (by omega);have h2:=(cf pinned hP.pre n (by omega)).1;have h3:=hP.lg n (by omega);obtain ⟨_,_,_,_,k5,k6⟩:=bW (hP.isb _ (dQ (i:=n) (by omega)));have hal:=hP.al;exact kM (by omega) x hx
  ·exact K7 hw hP (by omega) x hx
theorem K0 (hw:∀ x∈a,am .u64 x) (hP:Plan a keep pinned long):∀ x∈lI a keep (aA keep long pinned) pinned long (b8 a.length keep long pinned),am .u64 x:=by
 intro x hx;rw [oC _ hP] at hx;rcases NI.1 hx with hx | hx
 ·exact I4 hw hP _ (NR _) x hx
 ·have h2:=(cf pinned hP.pre keep.length (NR _)).1;have hal:=hP.al;exact kM (by omega) x hx
theorem I2 (hP:Plan a keep pinned long) {i:Nat} (hi:i<keep.length):isB (jN a keep pinned long) (fg pinned keep long i)=true:=by
 rw [<- fw,cu];exact lB (ND _ (th (pinned:=pinned) (long:=long) (a:=a) keep.length hi)) (fj (hP.isb _ (dQ hi))).2.2.2.2.2
end
section
variable {s:ah}
theorem Right.toB (R:Right s) {x:Int} (hx:x∈cB s):isB (ac (dw s)).1 (kV s x)=true:=by
 have hp:=jv (R.keepIn hx);have hi:(cC (dx s) x).toNat<(dx s).length:=by omega
 rw [R.slidOK.2.2];unfold kV;rw [kK hi];exact I2 R.plan hi
theorem Right.toPin (R:Right s) {x:Int} (hx:x∈cG s):kV s x=x:=by
 have hk:=R.keepIn (R.pinsIn x hx);have hp:=jv hk;have hi:(cC (dx s) x).toNat<(dx s).length:=by omega
 unfold kV;rw [kK hi];unfold fg;rw [Je hk,if_pos (cu.2 hx)]
theorem Right.swept (R:Right s):Right (gM s):=by
 have hal:=R.al;obtain ⟨k1,k2,k3⟩:=R.slidOK;have hr:=R.roots;have hg:=R.given;refine ⟨?_,k1,yJ (by show (0:Int)<=((dw s).length:Nat); omega) (by show (((dw s).length:Nat):Int)<=256; omega) (by show (s.2.1.map (ke s)).length<=32; rw [Oh]; exact hr.1) (fun v hv=>?_),R.pin,jy.2 ⟨by show (s.2.2.2.map (mr s)).length<=16; rw [Oh]; exact hg.1,fun x hx=>?_⟩,fun x hx=>?_⟩
 ·show ∀ x∈dw s,am .u64 x;rw [R.slid];exact K0 R.w R.plan
 ·obtain ⟨u,hu,rfl⟩:=NZ.1 hv;show -1<=ke s u/\ke s u<((dw s).length:Nat);rw [k2];unfold ke;split
  ·rename_i h0;have:=R.toIn (ci.2 (.inl ⟨hu,h0⟩));omega
  ·have:=hr.2 u hu;omega
 ·obtain ⟨t,ht,rfl⟩:=NZ.1 hx;have h1:=g8.1 (hg.2 t ht);unfold mr;split
  ·rename_i h2;have:=R.toIn (ci.2 (.inr (.inl ⟨t,ht,h2,rfl⟩)));refine g8.2 ⟨h1.1,h1.2.1,this.1,by simp only; omega,h1.2.2.2.2.1,fun e=>?_⟩;simp only at e;rw [e] at h2;cases h2
  ·exact hg.2 t ht
 ·show isB (ac (dw s)).1 x=true;rcases ci.1 hx with ⟨h,h0⟩ | ⟨y,h,h1,rfl⟩ | ⟨p,h,rfl⟩
  ·obtain ⟨u,hu,rfl⟩:=NZ.1 (show x∈s.2.1.map (ke s) from h);unfold ke at h0 |-;split at h0
   ·rename_i h2;rw [if_pos h2];exact R.toB (ci.2 (.inl ⟨hu,h2⟩))
   ·omega
  ·obtain ⟨t,ht,rfl⟩:=NZ.1 (show y∈s.2.2.2.map (mr s) from h);unfold mr at h1 |-;split at h1
   ·rename_i h2;rw [if_pos h2];exact R.toB (ci.2 (.inr (.inl ⟨t,ht,h2,rfl⟩)))
   ·rename_i h2;exact absurd h1 h2
  ·have hp:p.1∈cG s:=NZ.2 ⟨p,h,rfl⟩;have:=R.toB (R.pinsIn _ hp);rw [R.toPin hp] at this;exact this
end
end
section
theorem GE:∀ (at_:Int) (l:List Int) (k:List aw),spotsS at_ l=some k->∀ (A:List aw) (s:aw) (B:List aw),k=A++s::B ->
  ∃ X W Y,l=X++(W++Y)/\(X.length:Int)=s.1 - at_/\(W.length:Int)=aa s.2/\(∀ Z,spotsS at_ (X++Z)=(spotsS s.1 Z).map (A++·))/\spotsS (s.1+aa s.2) Y=some B:=by
 intro at_ l k h
 induction at_,l using spotsS.induct generalizing k with
 | case1 at_ =>
  intro A s B e;simp only [spotsS,Jg] at h;rw [<- h] at e;simp at e
 | case2 at_ v l hv ih =>
  intro A s B e;rw [cK hv.1 hv.2] at h;obtain ⟨r',hr,rfl⟩:=NB.1 h;have hl:=dR hv.1;have hle:=hv.2;obtain ⟨n,hn⟩:∃ n:Nat,(aa (aU v)).toNat=n+1:=⟨(aa (aU v)).toNat - 1,by omega⟩
  have hlen:(l.take n).length=n:=by
   rw [NN];simp only [NC] at hle;omega
  cases A with
  | nil =>
   simp only [Oa,PL] at e;obtain ⟨rfl,rfl⟩:=e;refine ⟨[],v::l.take n,(v::l).drop (aa (aU v)).toNat,?_,by simp,?_,fun Z=>?_,hr⟩
   ·rw [hn];simp
   ·simp only [NC,hlen];omega
   ·simp only [Oa];cases spotsS at_ Z <;> rfl
  | cons t A =>
   simp only [Oq,PL] at e;obtain ⟨rfl,rfl⟩:=e;obtain ⟨X,W,Y,e1,e2,e3,e4,e5⟩:=ih _ hr A s B rfl;refine ⟨v::l.take n++X,W,Y,?_,?_,e3,fun Z=>?_,e5⟩
   ·rw [List.append_assoc,<- e1,hn];simp
   ·simp only [NE,NC,hlen];omega
   ·rw [List.append_assoc,gN hv.1 (by rw [hlen]; omega),e4];cases spotsS s.1 Z <;> rfl
 | case3 at_ v l hv =>
  rw [eH hv] at h;cases h
theorem GD {b:List Int} (h:(ac b).2=0):spotsS 0 b=some (ac b).1:=by
 unfold ac at h |-;split at h
 ·simp at h
 rename_i hl;rw [if_neg hl];cases e:spotsS 0 b with
 | none=>rw [e] at h; simp at h
 | some l=>rfl
theorem Cn {X V V' Y:List Int} (h:V.length=V'.length) {j:Nat} (hj:j<X.length\/X.length+V.length<=j):(X++(V++Y))[j]?=(X++(V'++Y))[j]?:=by
 rcases hj with hj | hj
 ·rw [List.getElem?_append_left hj,List.getElem?_append_left hj]
 ·rw [List.getElem?_append_right (by omega),List.getElem?_append_right (by omega),List.getElem?_append_right (by omega),List.getElem?_append_right (by omega),h]
theorem rE {a:List Int} (hw:∀ x∈a,am .u64 x) (hc:(ak a).2.2=0) {r:cR} {h:dI} (hr:r∈aM false [] (ac a).1) (h0:af h=0) (hf:h.2.2.2=false) (hl:aa h<=r.2) :
  (∀ x∈fc a r h,am .u64 x)/\(ak (fc a r h)).2.2=0/\(fc a r h).length=a.length/\(∀ x,isB (ac a).1 x=true->isB (ac (fc a r h)).1 x=true)/\isB (ac (fc a r h)).1 r.1=true:=by
 obtain ⟨h1,h2,h3,h4,h5⟩:=un hc;obtain ⟨hal,_,_,hsz,_⟩:=bg hc;rw [h5] at hr;obtain ⟨s,hs,hsf,er⟩:=lp hr;have hz:(ak (cD a).1).2.2=0:=by rw [h1]
 obtain ⟨_,_,k1,k2,_⟩:=bg hz;have hsp:(ac (cD a).1).1=bB (ac a).1:=by rw [h1] at k1; exact k1.symm
 obtain ⟨A,B,eAB⟩:=List.append_of_mem hs;have hS:spotsS 0 (cD a).1=some (A++s::B):=by rw [GD k2,hsp,eAB]
 obtain ⟨X,W,Y,e1,e2,e3,e4,e5⟩:=GE 0 _ _ hS A s B rfl;have hn:=aW h0;have hL:aa h=1+h.1+h.2.1:=rfl;have er1:r.1=s.1:=by rw [er]
 have er2:r.2=aa s.2:=by rw [er]
 have hsr:=cJ s (a:=(cD a).1) (by rw [hsp]; exact hs)
 have hXY:X.length+(W.length+Y.length)=a.length:=by
  have:=congrArg List.length e1;rw [h4] at this;simpa using this.symm
 have hW:W=bI r.2:=by
  obtain ⟨X',Y',eW,hX',_⟩:=lR _ 0 h3 (by omega) hs;rw [if_pos hsf] at eW;rw [<- h2,e1] at eW;have hx:X.length=X'.length:=by omega
  obtain ⟨rfl,e⟩:=List.append_inj eW hx;have hl2:W.length=(bI (aa s.2)).length:=by rw [bA]; omega
  rw [er2];exact (List.append_inj e hl2).1
 obtain ⟨m,hm⟩:∃ m:Nat,aa h=(m:Int)+1:=⟨(aa h - 1).toNat,by omega⟩;obtain ⟨V,hV⟩:∃ V,V=(aB h::List.replicate m 0)++bI (r.2 - aa h):=⟨_,rfl⟩
 have hVl:V.length=W.length:=by
  rw [hV,hW];simp only [NE,NC,N0,bA];omega
 have hP:fc a r h=X++(V++Y):=by
  unfold fc;rw [e1,hW,er1]
  have hWc:bI r.2=aB (0,r.2 - 1,0,true)::(List.replicate m 0++List.replicate (r.2 - aa h).toNat 0):=by
   unfold bI;rw [if_pos (by omega),List.replicate_append_replicate];congr 2;omega
  rw [hWc];have hcut:X++(aB (0,r.2 - 1,0,true)::(List.replicate m 0++List.replicate (r.2 - aa h).toNat 0)++Y)=(X++aB (0,r.2 - 1,0,true)::List.replicate m 0)++(List.replicate (r.2 - aa h).toNat 0++Y):=by simp only [List.append_assoc,Oq]
  have hem:aT ((X++aB (0,r.2 - 1,0,true)::List.replicate m 0)++(List.replicate (r.2 - aa h).toNat 0++Y)) (s.1+aa h) (r.2 - aa h)=(X++aB (0,r.2 - 1,0,true)::List.replicate m 0)++(bI (r.2 - aa h)++Y):=by
   by_cases hz:0<r.2 - aa h
   ·rw [oc (by simp only [NE,NC,N0]; omega) (by omega) hz (by simp),List.drop_left' (by simp)]
   ·have:r.2 - aa h=0:=by omega
    rw [this];simp [aT,bI]
  rw [hcut,hem,hV]
  have hset:((X++aB (0,r.2 - 1,0,true)::List.replicate m 0)++(bI (r.2 - aa h)++Y)).set s.1.toNat (aB h)=(X++aB h::List.replicate m 0)++(bI (r.2 - aa h)++Y):=by
   rw [List.append_assoc,Oq,oD _ (by omega)];simp
  rw [hset];simp
 have hJw:∀ x∈(cD a).1,am .u64 x:=by
  intro x hx;rw [h2] at hx
  have tw:∀ k:List aw,(∀ t∈k,t.2.2.2.2=true->aa t.2<=256)->∀ x∈gK a k,am .u64 x:=by
   intro k
   induction k with
   | nil=>intro _ x hx; cases hx
   | cons t k ih =>
    intro hk x hx;simp only [gK] at hx;rcases NI.1 hx with hx | hx
    ·split at hx
     ·rename_i ht;exact kM (hk t NS ht) x hx
     ·exact hw x (O0 (OZ hx))
    ·exact ih (fun t ht=>hk t (NT _ ht)) x hx
  exact tw _ (fun t ht hf=>by
   obtain ⟨_,_,_,_,_,q⟩:=lR _ 0 h3 (by omega) ht;have:=(cJ t (a:=(cD a).1) (by rw [hsp]; exact ht)).1;omega) x hx
 have hhw:am .u64 (aB h):=by
  have hx:h.1<=255/\h.2.1<=255:=by omega
  unfold aB;rw [hf];simp only [am,NJ,N4];omega
 obtain ⟨F,hF⟩:∃ F,F=(if 0<r.2 - aa h then [aC (s.1+aa h) (r.2 - aa h)] else []):=⟨_,rfl⟩
 have hspots:ac (fc a r h)=(A++((s.1,h)::(F++B)),0):=by
  refine kF (by rw [hP]; simp only [NE]; omega) ?_;obtain ⟨q1,q2⟩:=rV h0;rw [hP,e4,hV,List.append_assoc,gN q2 (by rw [q1]; simp only [N0]; omega),q1,gv (by omega),hF];by_cases hz:0<r.2 - aa h
  ·rw [if_pos hz,if_pos hz,show s.1+aa h+(r.2 - aa h)=s.1+aa s.2 by omega,e5];rfl
  ·rw [if_neg hz,if_neg hz,show s.1+aa h=s.1+aa s.2 by omega,e5];rfl
 have hB:∀ x,isB (A++s::B) x=true->isB (A++((s.1,h)::(F++B))) x=true:=by
  intro x hx;rw [<- fw,cu] at hx |-
  have app:∀ (K L:List aw),aY (K++L)=aY K++aY L:=by
   intro K L
   induction K with
   | nil=>rfl
   | cons t K ih =>
    simp only [Oq,aY,ih];split
    ·rfl
    ·rfl
  rw [app] at hx |-;simp only [aY,hsf,if_true,hf,NJ,N4] at hx |-;rcases NI.1 hx with hx | hx
  ·exact ND _ hx
  ·refine NF _ (NT _ ?_);rw [app];exact NF _ hx
 have hold:∀ x,isB (ac a).1 x=true->isB (A++s::B) x=true:=by
  intro x hx;rw [<- fw] at hx |-;rw [<- eAB,mG];exact hx
 have hnew:isB (A++((s.1,h)::(F++B))) s.1=true:=by
  rw [<- fw,cu];exact lB (t:=s.1) (h:=h) (NF _ NS) hf
 have hlen:(fc a r h).length=a.length:=by
  rw [hP];simp only [NE];omega
 refine ⟨fun x hx=>?_,mE hspots (fun t ht v hv=>?_),hlen,fun x hx=>by rw [hspots]; exact hB x (hold x hx),by rw [hspots,er1]; exact hnew⟩
 ·rw [hP,hV] at hx
  have hJ:∀ x,x∈X\/x∈Y->am .u64 x:=fun x hx=>hJw x (by
   rw [e1];rcases hx with hx | hx
   ·exact ND _ hx
   ·exact NF _ (NF _ hx))
  rcases NI.1 hx with hx | hx
  ·exact hJ x (.inl hx)
  rcases NI.1 hx with hx | hx
  ·rcases NI.1 hx with hx | hx
   ·rcases NG.1 hx with rfl | hx
    ·exact hhw
    ·rw [OJ hx];simp only [am];omega
   ·exact kM (by omega) x hx
  ·exact hJ x (.inr hx)
 ·
  have hrefs:∀ t,t∈A++s::B->t≠s->aO (fc a r h) t=aO (cD a).1 t:=by
   intro t ht hne;have htJ:t∈(ac (cD a).1).1:=by rw [hsp,eAB]; exact ht
   have hsJ:s∈(ac (cD a).1).1:=by rw [hsp]; exact hs
   have ht2:=aW ((gw k2).2 t htJ).2;have hLt:aa t.2=1+t.2.1+t.2.2.1:=rfl;refine qj (cJ t htJ).1 ht2.1 fun j j0 j1=>?_
   rw [hP,e1];refine Cn hVl ?_;rcases lY k2 htJ hsJ with e | e | e
   ·exact absurd e hne
   ·left; omega
   ·right; omega
  have old:∀ t,t∈A++s::B->t≠s->v∈aO (fc a r h) t->v=0\/1<=v/\isB (A++((s.1,h)::(F++B))) (v - 1)=true:=by
   intro t ht hne hv;rw [hrefs t ht hne] at hv;rcases lA hJw hz t (by rw [hsp,eAB]; exact ht) v hv with h | ⟨h1,h2⟩
   ·exact .inl h
   ·rw [hsp,eAB] at h2;exact .inr ⟨h1,hB _ h2⟩
  have hsort:=bV (cD a).1;rw [hsp,eAB] at hsort;obtain ⟨_,hs2,hs3⟩:=Pq.1 hsort;rcases NI.1 ht with ht | ht
  ·exact old t (ND _ ht) (fun e=>by have:=hs3 t ht s NS; rw [e] at this; omega) hv
  rcases NG.1 ht with rfl | ht
  ·left;unfold aO at hv;rw [hP,hV] at hv;have hx:(X.length:Int)=s.1:=by omega
   have e6:(s.1+1+h.1).toNat=X.length+(1+h.1.toNat):=by omega
   have e7:(s.1+1).toNat=X.length+1:=by omega
   simp only at hv;rw [e6,e7,PJ,Ph,N9 (by rw [NN]; omega),Oa,NP (by omega:X.length<=_),show X.length+1 - X.length=1 by omega,show X.length+(1+h.1.toNat) - X.length=h.1.toNat+1 by omega,List.append_assoc,Oq,OR,O5,PQ,N6 (by rw [N0]; omega)] at hv;exact OJ (OZ hv)
  rcases NI.1 ht with ht | ht
  ·rw [hF] at ht;split at ht
   ·rw [NL.1 ht] at hv;unfold aO aC at hv;simp only [Int.add_zero] at hv;rw [N9 (by rw [NN]; omega)] at hv;cases hv
   ·cases ht
  ·exact old t (NF _ (NT _ ht)) (fun e=>by have:=(Oc.1 hs2).1 t ht; rw [e] at this; omega) hv
end
section
section
variable {s:ah}
theorem Right.arena2 (R:Right s) {b:List Int} (hw:∀ x∈b,am .u64 x) (hc:(ak b).2.2=0) (hl:b.length=s.1.length) (hb:∀ x,isB (ac s.1).1 x=true->isB (ac b).1 x=true):Right (b,s.2) :=
 ⟨hw,hc,by simp only; rw [hl]; exact R.root,R.pin,R.hand,fun x hx=>hb x (R.nam x hx)⟩
theorem Right.laid (R:Right s) {slot:Int} {h:dI} (hh:eL h=0) (ht:(fZ s slot h).2=true):Right (fZ s slot h).1:=by
 obtain ⟨h0,hf⟩:=FU hh;unfold fZ gL at ht |-;split at ht
 ·simp at ht
 ·rename_i r hr;have hm:=List.mem_of_find?_eq_some hr;have hle:aa h<=r.2:=by simpa using List.find?_some hr
  obtain ⟨p1,p2,p3,p4,p5⟩:=rE R.w R.chk hm h0 hf hle;exact (R.arena2 p1 p2 p3 p4).setRoot (.inr p5)
theorem Right.make (R:Right s) {slot:Int} {h:dI} (e:(aX s slot h).2.2=0):Right (aX s slot h).1:=by
 unfold aX at e |-;split at e
 ·rename_i h1; simp only at e; exact absurd e h1
 rename_i h1;split at e
 ·rename_i h2; simp only at e; exact absurd e h2
 rename_i h2;rw [if_neg h1,if_neg h2];have hh:eL h=0:=by omega
 split at e
 ·rename_i h3;rw [if_pos h3];exact R.laid hh h3
 rename_i h3;rw [if_neg h3];split at e
 ·rename_i h4;rw [if_pos h4];exact R.swept.laid hh h4
 ·simp at e
theorem Hc (R:Right s) {a b c:Int} (e:(kh s a b c).2=0):Right (kh s a b c).1:=by
 unfold kh at e |-;split at e
 ·rename_i h; exact absurd e h
 rename_i h;rw [if_neg h];obtain ⟨_,O,b0,b1,c0,c1⟩:=yO R.w (by omega:bt s a b c=0);refine R.setRoot ?_;have hin:=fj O.isb;obtain ⟨l1,l2,l3,l4,l5,l6⟩:=bW O.isb
 have hm:s.1.getD (ax s a+1+b).toNat 0∈bH s.1 (ax s a):=by
  unfold bH aO;rw [List.mem_iff_getElem?];refine ⟨b.toNat,?_⟩;rw [List.getElem?_drop,List.getElem?_take,if_pos (by simp only; omega),show (ax s a+1).toNat+b.toNat=(ax s a+1+b).toNat by omega];have hlt:(ax s a+1+b).toNat<s.1.length:=by omega
  simp [List.getD_eq_getElem?_getD,hlt]
 rcases lA R.w R.chk _ hin.1 _ hm with h | ⟨_,h⟩
 ·exact .inl (by omega)
 ·exact .inr h
theorem G7 (R:Right s) {a b c:Int} (e:(kc s a b c).2=0):Right (kc s a b c).1:=by
 unfold kc at e |-;split at e
 ·rename_i h; exact absurd e h
 rename_i h;rw [if_neg h];obtain ⟨_,O,b0,b1,c0,c1⟩:=yO R.w (by omega:bt s a b c=0);refine R.setRef O b0 b1 ?_;have hr:=R.rootIn c0 c1;by_cases h0:0<=ax s c
 ·refine .inr ⟨by omega,?_⟩;rw [show ax s c+1 - 1=ax s c by omega];exact R.rootB (aH (0:Int) c0 c1) h0
 ·left;unfold ax at *;omega
theorem Hd (R:Right s) {a b v:Int} (hv:am .u64 v) (e:(js s a b v).2=0):Right (js s a b v).1:=by
 unfold js at e |-;split at e
 ·rename_i h; exact absurd e h
 rename_i h;rw [if_neg h];obtain ⟨_,O,b0,b1,_⟩:=zP R.w (by omega:aN s a b=0);exact R.setBody O b0 b1 hv
theorem Hf (R:Right s) {a:Int} (e:(iC s a).2.2=0):Right (iC s a).1:=by
 unfold iC at e |-;split at e
 ·rename_i h; exact absurd e h
 rename_i h;rw [if_neg h];split at e
 ·rename_i h2; exact absurd e h2
 rename_i h2;rw [if_neg h2];obtain ⟨_,a0,a1,O⟩:=nK R.w (by omega:bn s a=0);obtain ⟨p1,p2⟩:=ML (by omega:(gq s.2.2.1 (ax s a)).2.2=0);refine R.setPins p1 fun x hx=>?_
 rcases p2 x hx with h | ⟨y,hy,h⟩
 ·rw [h]; exact O.isb
 ·rw [<- h]; exact R.pinB hy
theorem Au (R:Right s) {a:Int} (e:(cO s a).2=0):Right (cO s a).1:=by
 unfold cO at e |-;split at e
 ·rename_i h; exact absurd e h
 rename_i h;rw [if_neg h];split at e
 ·rename_i h2; exact absurd e h2
 rename_i h2;rw [if_neg h2];obtain ⟨p1,p2⟩:=LB (by omega:(dz s.2.2.1 a).2.2=0);refine R.setPins p1 fun x hx=>?_
 obtain ⟨y,hy,h⟩:=p2 x hx;rw [<- h];exact R.pinB hy
theorem Ee (R:Right s) {a:Int} (e:(fi s a).2.2=0):Right (fi s a).1:=by
 unfold fi at e |-;split at e
 ·rename_i h; exact absurd e h
 rename_i h;rw [if_neg h];split at e
 ·rename_i h2; exact absurd e h2
 rename_i h2;rw [if_neg h2];obtain ⟨_,a0,a1,O⟩:=nK R.w (by omega:bn s a=0);have h2:(openF s.2.2.2 (ax s a)).2.2=0:=by omega
 have hb:=gF O.isb;rw [BS _ R.hand] at h2 |-;split at h2
 ·simp at h2
 rename_i h3;rw [if_neg h3];split at h2
 ·simp at h2
 rename_i h4;rw [if_neg h4];have hr:=eB az s.2.2.2 0;have hi:=dW az (0,false,0) s.2.2.2 0 (by omega) (O1 _);rw [Ps] at hi;generalize ag az 0 s.2.2.2=i at *;unfold az at hi;simp only [NA,N5] at hi;have hg:=R.given;have hgd:=aH ((0,false,0):be) (xs:=s.2.2.2) (i:=i) (by omega) (by omega);have hbad:=g8.1 (hg.2 _ hgd);refine R.setHands (jy.2 ⟨by simpa using hg.1,fun x hx=>?_⟩) fun x hx h1=>?_
 ·rcases Og hx with hx | rfl
  ·exact hg.2 x hx
  ·unfold lc;exact g8.2 ⟨by simp only; omega,by have:=hi.2; simp only; omega,by simp only; omega,by simp only; omega,(fun _=>by simp only; omega),fun e=>by cases e⟩
 ·rcases Og hx with hx | rfl
  ·exact R.handB hx h1
  ·exact O.isb
theorem Gx (R:Right s) {v a:Int} (e:(jo s v a).2=0):Right (jo s v a).1:=by
 unfold jo at e |-;split at e
 ·rename_i h; exact absurd e h
 rename_i h;rw [if_neg h];split at e
 ·rename_i h2; exact absurd e h2
 rename_i h2;rw [if_neg h2];refine R.setRoot (.inr ?_);unfold gW at h2 |-;split at h2
 ·rename_i h3; exact absurd h3 h2
 rename_i h3;rw [if_neg h3];simp only;unfold ce at h3 |-;split at h3
 ·rename_i h4; exact absurd h4 h3
 rename_i h4;rw [if_neg h4];split at h3
 ·rename_i h5;rw [if_pos h5];simp only;exact R.handB (aH ((0,false,0):be) (by omega) (by omega)) h5.2.1
 ·simp at h3
theorem D3 (R:Right s) {v:Int} (e:(fp s v).2=0):Right (fp s v).1:=by
 unfold fp at e |-;split at e
 ·rename_i h; exact absurd e h
 rename_i h;rw [if_neg h];split at e
 ·rename_i h2; exact absurd e h2
 rename_i h2;rw [if_neg h2];unfold closeF at h2 |-;split at h2
 ·rename_i h3; exact absurd h3 h2
 rename_i h3;rw [if_neg h3];simp only;have hg:=R.given;refine R.setHands (jy.2 ⟨by simpa using hg.1,fun x hx=>?_⟩) fun x hx h1=>?_
 ·rcases Og hx with hx | rfl
  ·exact hg.2 x hx
  ·by_cases hlt:(ce s.2.2.2 v).1.toNat<s.2.2.2.length
   ·have hgd:=List.getElem_mem hlt;have hbad:=g8.1 (hg.2 _ hgd);rw [List.getD_eq_getElem?_getD,List.getElem?_eq_getElem hlt];exact g8.2 ⟨hbad.1,hbad.2.1,O1 _,(show (0:Int)<=255 by decide),(fun e=>by cases e),fun _=>rfl⟩
   ·rw [List.getD_eq_getElem?_getD,List.getElem?_eq_none (by omega)];exact g8.2 ⟨O1 _,(show (0:Int)<=65535 by decide),O1 _,(show (0:Int)<=255 by decide),(fun e=>by cases e),fun _=>rfl⟩
 ·rcases Og hx with hx | rfl
  ·exact R.handB hx h1
  ·cases h1
theorem ER (R:Right s) {a:Int} (e:(eY s a).2=0):Right (eY s a).1:=by
 unfold eY at e |-;split at e
 ·rename_i h; exact absurd e h
 rename_i h;rw [if_neg h];exact R.setRoot (.inl rfl)
theorem EU (R:Right s) {k a b c v:Int} (hk:1<=k/\k<=13) (hv:am .u64 v) (e:(deed s k a b c v).2.2=0):Right (deed s k a b c v).1:=by
 have hk:k=1\/k=2\/k=3\/k=4\/k=5\/k=6\/k=7\/k=8\/k=9\/k=10\/k=11\/k=12\/k=13:=by omega
 rcases hk with rfl | rfl | rfl | rfl | rfl | rfl | rfl | rfl | rfl | rfl | rfl | rfl | rfl
 ·rw [xI] at e |-; exact R.make e
 ·rw [CQ]; exact R.swept
 ·rw [CP] at e |-; exact Hc R e
 ·rw [CO] at e |-; exact G7 R e
 ·rw [xH] at e |-;split at e
  ·rename_i h; exact absurd e h
  rename_i h;rw [if_neg h];exact R
 ·rw [xG] at e |-; exact Hd R hv e
 ·rw [CN] at e |-; exact Hf R e
 ·rw [CM] at e |-; exact Au R e
 ·rw [CL] at e |-;split at e
  ·rename_i h; exact absurd e h
  rename_i h;rw [if_neg h];exact R
 ·rw [uU] at e |-; exact Ee R e
 ·rw [uT] at e |-; exact Gx R e
 ·rw [uS] at e |-; exact D3 R e
 ·rw [uR] at e |-; exact ER R e
theorem o8 {k a b c v:Int} (h:¬ b9 k a b c v=true):1<=k/\k<=13:=by
 unfold b9 at h;simp only [Oj,N5,not_or] at h;omega
theorem ET (R:Right s) {k a b c v:Int} (hv:am .u64 v) (e:(bk s k a b c v).2.2=0):Right (bk s k a b c v).1:=by
 unfold bk at e |-;split at e
 ·simp at e
 rename_i h1;rw [if_neg h1];split at e
 ·rename_i h2; exact absurd e h2
 rename_i h2;rw [if_neg h2];exact EU R (o8 h1) hv e
end
end
section
theorem HC {w r h:Int} (e:(ar w r h).2=0):Right (ar w r h).1/\Given [] (ar w r h).1.2.2.2:=by
 unfold ar at e |-;split at e
 ·simp at e
 rename_i h1;split at e
 ·simp at e
 rename_i h2;split at e
 ·simp at e
 rename_i h3;rw [if_neg h1,if_neg h2,if_neg h3]
 have hA:fV w=bI w:=by
  unfold fV bI;split
  ·obtain ⟨n,hn⟩:∃ n:Nat,w=(n:Int)+1:=⟨(w - 1).toNat,by omega⟩;subst hn;rw [show ((n:Int)+1).toNat=n+1 by omega,show ((n:Int)+1 - 1).toNat=n by omega];rfl
  ·rw [show w.toNat=0 by omega];rfl
 have hsp:ac (fV w)=((if 0<w then [aC 0 w] else []),0):=by
  refine kF (by rw [hA,bA]; omega) ?_;have:=gv (at_:=0) (k:=w) (R:=[]) (by omega);rw [Om] at this;rw [hA,this];split
  ·rw [spotsS]; rfl
  ·rw [spotsS]
 have G:=Given.new h.toNat (by omega);refine ⟨⟨?_,mE hsp (fun s hs v hv=>?_),yJ (by simp only; omega) ?_ (by simp only [N0]; omega) (fun v hv=>?_),rfl,jy.2 ⟨G.len,G.ok⟩,fun x hx=>?_⟩,G⟩
 ·simp only;rw [hA];exact kM (by omega)
 ·split at hs
  ·rw [NL.1 hs] at hv;unfold aO aC at hv;simp only [Int.add_zero] at hv;rw [N9 (by rw [NN]; omega)] at hv;cases hv
  ·cases hs
 ·simp only;rw [hA,bA];omega
 ·rw [OJ hv];omega
 ·rcases ci.1 hx with ⟨h,h0⟩ | ⟨y,h,h1,_⟩ | ⟨p,h,_⟩
  ·rw [OJ h] at h0;omega
  ·rw [OJ h] at h1;cases h1
  ·cases h
end
section
set_option maxHeartbeats 4000000
abbrev Ga:=Int×Int×Int×Int×Int
abbrev Fe:Ty:=.pair ty_I bJ
abbrev xM:=Int×Int
theorem G4 {α:Type} {P:List α->Prop} (h0:P []) (h1:∀ l x,P l->P (l++[x])) (l:List α):P l:=by
 have h:∀ k:List α,P k.reverse:=fun k=>by
  induction k with
  | nil=>exact h0
  | cons x k ih=>rw [List.reverse_cons]; exact h1 _ _ ih
 have:=h l.reverse
 rwa [List.reverse_reverse] at this
def oY (p:ah×List xM) (o:Ga):ah×List xM :=
 (if (bk p.1 o.1 o.2.1 o.2.2.1 o.2.2.2.1 o.2.2.2.2).2.2=0 then (bk p.1 o.1 o.2.1 o.2.2.1 o.2.2.2.1 o.2.2.2.2).1 else p.1,
  p.2++[((bk p.1 o.1 o.2.1 o.2.2.1 o.2.2.2.1 o.2.2.2.2).2.2,(bk p.1 o.1 o.2.1 o.2.2.1 o.2.2.2.1 o.2.2.2.2).2.1)])
def gR (s:ah) (l:List Ga):ah×List xM:=l.foldl oY (s,[])
def jt (s:ah) (l:List Ga):Int:=if au s≠0 then au s else if 200<l.length then 2 else 0
def lK (s:ah) (l:List Ga):ah×List xM×Int:=if jt s l≠0 then (ay,[],jt s l) else ((gR s l).1,(gR s l).2,0)
def LM:Nat->Option LoopGen
 | 4000001=>some d9
 | _=>none
def KP:Spec:={ Ts:=[aG],Rs:=[.dat aG],al:=true,pre:=fun _=>True,F:=fun (s:ah)=>s }
def Ft:Prop :=
  ∀ (x:List Int×List Int×List (Int×Int)×List (Int×Bool×Int)),(ol x)->True->True/\True/\True/\x.2.1=x.2.1/\x.2.2.1=x.2.2.1/\x.2.2.1=x.2.2.1/\x.2.2.2=x.2.2.2/\x.2.2.2=x.2.2.2/\x.2.2.2=x.2.2.2/\True/\x=x/\True
theorem Io:Ft:=by
 unfold Ft;intro s _ _;simp
theorem La:KP.ok Tryz.prog 81:=aF (ann:=LM) (ae bC (ae bZ (ae bP (ae bD ap)))) Tryz.func81 (by kernel_rfl) Io
theorem tU (s:ah) (l:List Ga) (o:Ga):gR s (l++[o])=oY (gR s l) o:=by simp [gR]
theorem Jd (s:ah) (l:List Ga):((decide (au s=0)&&decide ((200:Int)<l.length))=true->2=jt s l)/\((decide (au s=0)&&decide ((200:Int)<l.length))=false->au s=jt s l):=by
 unfold jt;simp only [NA,N5,PD,Ou];refine ⟨fun h=>?_,fun h=>?_⟩
 ·rw [if_neg (by omega),if_pos (by omega)]
 ·by_cases h0:au s≠0
  ·rw [if_pos h0]
  ·rw [if_neg h0,if_neg (by omega)];omega
theorem BP {s:ah} {l:List Ga} (h:jt s l=0):au s=0/\l.length<=200:=by
 unfold jt at h;split at h
 ·omega
 ·split at h <;> omega
def Kt:Nat->Option LoopGen
 | 1000003=>some { rd:=[.dat 0 aG,.dat 1 (.arr oo)],A:=fun ((s,l):ah×List Ga)=>{ cs:=[.dat 7 ty_I],inv:=fun (e:Int)=>e=jt s l,mu:=fun _=>0 } }
 | 9=>some { rd:=[.dat 0 aG,.dat 29 (.arr oo)],A:=fun ((s,l):ah×List Ga)=>{ cs:=[.box 2 aG,.own 8 75 Fe,.dat 31 ty_I],inv:=fun ((x,o,i):ah×List xM×Int)=>0<=i/\i<=l.length/\l.length<=200/\o.length=i.toNat/\(x,o)=gR s (l.take i.toNat),mu:=fun ((_,_,i):ah×List xM×Int)=>(l.length - i).toNat } }
 | _=>none
def IS:Spec:={ Ts:=[aG,.arr oo],Rs:=[.dat aG,.dat (.arr Fe),.dat ty_I],al:=true,pre:=fun _=>True,F:=fun ((s,l):ah×List Ga)=>lK s l }
def BD:Prop :=
  ∀ (x:(List Int×List Int×List (Int×Int)×List (Int×Bool×Int))×List (Int×Int×Int×Int×Int)),((ol x.1)/\x.2.length * (8+(8+(8+(8+8))))<=aL/\∀ (x_1:Int×Int×Int×Int×Int),x_1∈x.2->am .i64 x_1.1/\am .i64 x_1.2.1/\am .i64 x_1.2.2.1/\am .i64 x_1.2.2.2.1/\am .u64 x_1.2.2.2.2)->True->True/\(((decide (au x.1=0)&&decide (200<(x.2.length:Int)))=true->2=jt x.1 x.2)/\((decide (au x.1=0)&&decide (200<(x.2.length:Int)))=false->au x.1=jt x.1 x.2))/\∀ (x_1:Int),x_1=jt x.1 x.2->(decide (x_1≠0)=true->(([]:List Int),([]:List Int),([]:List (Int×Int)),([]:List (Int×Bool×Int)))=(lK x.1 x.2).1/\([]:List (Int×Int))=(lK x.1 x.2).2.1/\x_1=(lK x.1 x.2).2.2/\True)/\(decide (x_1≠0)=false->True/\((0:Int)<=0/\0<=(x.2.length:Int)/\x.2.length<=200/\0=Int.toNat 0/\(x.1,([]:List (Int×Int)))=gR x.1 (List.take (Int.toNat 0) x.2))/\∀ (x_2:(List Int×List Int×List (Int×Int)×List (Int×Bool×Int))×List (Int×Int)×Int),(fun (v1:type_of% (x.2.getD x_2.2.2.toNat (0,0,0,0,0)))=>(fun (v0:type_of% (bk x_2.1 v1.1 v1.2.1 v1.2.2.1 v1.2.2.2.1 v1.2.2.2.2))=>0<=x_2.2.2/\x_2.2.2<=(x.2.length:Int)/\x.2.length<=200/\x_2.2.1.length=x_2.2.2.toNat/\(x_2.1,x_2.2.1)=gR x.1 (List.take x_2.2.2.toNat x.2)->(decide (x_2.2.2<(x.2.length:Int))=true->0<=x_2.2.2/\x_2.2.2<(x.2.length:Int)/\True/\(decide (v0.2.2=0)=true->(x_2.2.1.length+[(v0.2.2,v0.2.1)].length) * (8+8)<=aL/\am .i64 (x_2.2.2+1)/\(0<=x_2.2.2+1/\x_2.2.2+1<=(x.2.length:Int)/\x.2.length<=200/\(x_2.2.1++[(v0.2.2,v0.2.1)]).length=(x_2.2.2+1).toNat/\(v0.1,x_2.2.1++[(v0.2.2,v0.2.1)])=gR x.1 (List.take (x_2.2.2+1).toNat x.2))/\((x.2.length:Int) - (x_2.2.2+1)).toNat<((x.2.length:Int) - x_2.2.2).toNat)/\(decide (v0.2.2=0)=false->(x_2.2.1.length+[(v0.2.2,v0.2.1)].length) * (8+8)<=aL/\am .i64 (x_2.2.2+1)/\(0<=x_2.2.2+1/\x_2.2.2+1<=(x.2.length:Int)/\x.2.length<=200/\(x_2.2.1++[(v0.2.2,v0.2.1)]).length=(x_2.2.2+1).toNat/\(x_2.1,x_2.2.1++[(v0.2.2,v0.2.1)])=gR x.1 (List.take (x_2.2.2+1).toNat x.2))/\((x.2.length:Int) - (x_2.2.2+1)).toNat<((x.2.length:Int) - x_2.2.2).toNat))/\(decide (x_2.2.2<(x.2.length:Int))=false->x_2.1=(lK x.1 x.2).1/\x_2.2.1=(lK x.1 x.2).2.1/\0=(lK x.1 x.2).2.2/\True)) (bk x_2.1 v1.1 v1.2.1 v1.2.2.1 v1.2.2.2.1 v1.2.2.2.2)) (x.2.getD x_2.2.2.toNat (0,0,0,0,0)))
theorem Gm:BD:=by
 unfold BD;intro ⟨s,l⟩ _ _;simp only;have hF:lK s l=if jt s l≠0 then (ay,[],jt s l) else ((gR s l).1,(gR s l).2,0):=rfl
 refine ⟨trivial,Jd s l,fun e he=>⟨fun h=>?_,fun h=>⟨trivial,⟨by omega,by omega,?_,rfl,rfl⟩,fun ⟨x,o,i⟩ ⟨i0,i1,i2,i3,i4⟩=>⟨fun hlt=>?_,fun hge=>?_⟩⟩⟩⟩
 ·have h:=Nw h;rw [hF,if_pos (by rw [<- he]; exact h),he];exact ⟨rfl,rfl,rfl,trivial⟩
 ·have h:=Nx h;exact (BP (by rw [<- he]; simpa using h)).2
 ·simp only at i0 i1 i2 i3 i4 hlt |-;have hlt:=Nw hlt;rw [bx ((0,0,0,0,0):Ga) i0 hlt,tU,<- i4];generalize l.getD i.toNat (0,0,0,0,0)=r at *;unfold oY;simp only;generalize bk x r.1 r.2.1 r.2.2.1 r.2.2.2.1 r.2.2.2.2=y at *;unfold aL;simp only [am,NE,NC,N8];refine ⟨i0,hlt,trivial,fun hc=>⟨by omega,by omega,⟨by omega,by omega,i2,by omega,?_⟩,by omega⟩,fun hc=>⟨by omega,by omega,⟨by omega,by omega,i2,by omega,?_⟩,by omega⟩⟩
  ·rw [if_pos (Nw hc)]
  ·rw [if_neg (Nx hc)]
 ·simp only at i4 hge |-;rw [cn (Nx hge)] at i4;have h:=Nx h;rw [hF,if_neg (by rw [<- he]; exact h),<- i4];exact ⟨rfl,rfl,rfl,trivial⟩
theorem Jr:IS.ok Tryz.prog 21:=aF (ann:=Kt) (ae fv (ae La (ae Ju ap))) Tryz.func21 (by kernel_rfl) Gm
end
section
theorem Right.ok {s:ah} (R:Right s):au s=0:=by
 unfold au;rw [if_neg (by have:=R.chk; omega),if_neg (by have:=R.root; omega),if_neg (by have:=R.pin; omega),if_neg (by have:=R.hand; omega)];exact jc R.chk R.nam
theorem rW:∀ (l:List aw) (p:Bool) (out:List cR),(aM p out l).length<=out.length+l.countP fun s=>s.2.2.2.2
 | [],p,out=>by simp [aM]
 | s::l,p,out=>by
  unfold aM;refine Oe (rW l _ _) ?_;rw [List.countP_cons];by_cases h:s.2.2.2.2=true
  ·rw [if_pos h,if_pos h];split
   ·rw [fN]; omega
   ·simp; omega
  ·rw [if_neg h,if_neg h];omega
section
variable {a keep pinned long:List Int}
theorem ti (hb:∀ x∈keep,isB (ac a).1 x=true):∀ i:Nat,i<=keep.length->(nC a keep pinned long i).countP (fun s=>s.2.2.2.2)<=(keep.take i).countP (fx pinned)
 | 0,_=>by simp [nC]
 | i+1,hi=>by
  have ih:=ti hb i (by omega);have hk:keep[i]?=some (keep.getD i 0):=by rw [List.getD_eq_getElem?_getD,List.getElem?_eq_getElem (by omega)]; rfl
  have hf:=(fj (hb _ (Oy hk))).2.2.2.2.2;rw [List.take_add_one,hk,List.countP_append];simp only [nC,List.countP_append]
  have e1:List.countP (fun s:aw=>s.2.2.2.2) [(fg pinned keep long i,eG a (keep.getD i 0))]=0:=by
   rw [List.countP_cons_of_neg (by show ¬ (eG a (keep.getD i 0)).2.2.2=true; rw [hf]; decide)];rfl
  rw [e1];have e2:List.countP (fx pinned) (some (keep.getD i 0)).toList=if fx pinned (keep.getD i 0)=true then 1 else 0:=by simp [List.countP_cons]
  rw [e2];by_cases hp:fx pinned (keep.getD i 0)=true
  ·rw [if_pos hp];split <;> simp [aC] <;> omega
  ·have e3:fg pinned keep long i=bo pinned keep long i:=by unfold fg; rw [if_neg hp]
   rw [if_neg hp,e3,if_neg (by omega)];simpa using ih
theorem Bh (hb:∀ x∈keep,isB (ac a).1 x=true):(jN a keep pinned long).countP (fun s=>s.2.2.2.2)<=keep.countP (fx pinned)+1:=by
 have h:=ti (pinned:=pinned) (long:=long) hb keep.length (NR _);rw [PW] at h;unfold jN;rw [List.countP_append];split
 ·simp [aC]; omega
 ·simp; omega
end
theorem xn:∀ {l k:List Int},l.Nodup->(∀ x∈l,x∈k)->l.length<=k.length
 | [],_,_,_=>Of _
 | x::l,k,h,hs=>by
  obtain ⟨h1,h2⟩:=PB.1 h;have hx:=hs x (by simp);have ih:=xn (l:=l) (k:=k.erase x) h2 fun y hy=>(List.mem_erase_of_ne (fun e:y=x=>h1 (e ▸ hy))).2 (hs y (by simp [hy]))
  rw [List.length_erase_of_mem hx] at ih;have:=List.length_pos_of_mem hx;simp only [NC];omega
theorem H5:∀ (keep:List Int),keep.Nodup->∀ pinned:List Int,keep.countP (fx pinned)<=pinned.length:=by
 intro keep hk pinned;rw [List.countP_eq_length_filter];refine xn (List.Pairwise.filter _ hk) fun x hx=>?_
 have:=(OC.1 hx).2;unfold fx at this;rw [OK] at this;obtain ⟨y,hy,e⟩:=this;rw [<- Nw e]; exact hy
theorem Right.gapCount {s:ah} (R:Right s):(lL s).length<=s.2.2.1.length+1:=by
 have h1:=rW (ac (dw s)).1 false [];have h2:=Bh (pinned:=cG s) (long:=pg s) R.plan.isb;have h3:=H5 (dx s) (R.plan.rs.imp fun h=>by omega) (cG s);rw [R.slidOK.2.2] at h1;unfold lL;rw [R.slidOK.2.2];have:(cG s).length=s.2.2.1.length:=by simp [cG]
 simp only [N8] at h1;omega
theorem Fh {n:Int}:∀ l:List cR,(∀ r∈l,r.2<n)->dC l<=l.length * (n - 1)
 | [],_=>by simp [dC]
 | r::l,h=>by
  have ih:=Fh l fun r hr=>h r (by simp [hr])
  have:=h r (by simp);have e:dC (r::l)=r.2+dC l:=by simp [dC]
  rw [e,NC]
  have e2:(((l.length+1:Nat):Int)) * (n - 1)=l.length * (n - 1)+(n - 1):=by
   rw [Int.natCast_add,Int.add_mul]; simp
  omega
theorem Right.share {s:ah} (R:Right s) {n:Int} (hn:1<=n) (h:((s.2.2.1.length:Int)+1) * n<=ga s):∃ r∈lL s,n<=r.2:=by
 apply Ok;intro hc
 have h1:=Fh (lL s) (n:=n) fun r hr=>by
  apply Ok;intro h;exact hc ⟨r,hr,by omega⟩
 have h2:=R.gapCount;have h3:dC (lL s)=ga s:=rfl;rw [h3] at h1;have h4:((lL s).length:Int) * (n - 1)<=((s.2.2.1.length:Int)+1) * (n - 1):=Int.mul_le_mul_of_nonneg_right (by omega) (by omega);have h5:((s.2.2.1.length:Int)+1) * (n - 1)=((s.2.2.1.length:Int)+1) * n - ((s.2.2.1.length:Int)+1):=by rw [Int.mul_sub,Int.mul_one]
 omega
theorem AA:∀ {l:List aw} {s e:Int},fl s e l->∀ keep:List Int,keep.Pairwise (·<·)->(∀ x∈keep,isB l x=true)->(keep.map (df l)).sum<=iU l
 | [],_,_,_,keep,_,hb=>by
  cases keep with
  | nil=>simp [iU]
  | cons x keep=>exact absurd (hb x (by simp)) (by simp [isB,bU])
 | t::l,s,e,ht,keep,hk,hb=>by
  obtain ⟨t1,t2,t3⟩:=ht
  have hlow:∀ {x:Int},isB l x=true->s+aa t.2<=x:=fun {x} h=>by
   unfold isB at h;rcases gl x l with e | ⟨u,h1,h2,h3,e⟩
   ·rw [e] at h; cases h
   ·have:=(kX t3 u h1).1;omega
  have hU:iU (t::l)=(if t.2.2.2.2=true then 0 else aa t.2)+iU l:=rfl
  have hrest:∀ k:List Int,k.Pairwise (·<·)->(∀ x∈k,isB (t::l) x=true/\x≠t.1)->(k.map (df (t::l))).sum<=iU l:=fun k hk h=>by
   have e1:∀ x∈k,bU x (t::l)=bU x l:=fun x hx=>by
    have:=(h x hx).2;simp only [bU];rw [if_neg fun hh=>this hh.1.symm]
   have e2:k.map (df (t::l))=k.map (df l):=OL fun x hx=>by unfold df; rw [e1 x hx]
   rw [e2];exact AA t3 k hk fun x hx=>by have:=(h x hx).1; unfold isB at this |-; rwa [<- e1 x hx]
  cases keep with
  | nil =>
   have:=hrest [] (by simp) (by simp);simp only [Pa,List.sum_nil] at this |-;rw [hU];split <;> omega
  | cons x keep =>
   rw [Oc] at hk;by_cases hx:x=t.1
   ·have h1:=hrest keep hk.2 fun y hy=>⟨hb y (by simp [hy]),by have:=hk.1 y hy; omega⟩
    have hb1:=hb x (by simp)
    have hf:¬ t.2.2.2.2=true:=fun hf=>by
     unfold isB at hb1;simp only [bU] at hb1;rw [if_neg fun hh=>by rw [hf] at hh; cases hh.2] at hb1;have:=hlow hb1;omega
    have hl:df (t::l) x=aa t.2:=by
     unfold df;simp only [bU];rw [if_pos ⟨hx.symm,by simpa using hf⟩]
    rw [Oi,List.sum_cons,hl,hU,if_neg hf];omega
   ·have hlt:∀ y∈x::keep,y≠t.1:=fun y hy e2=>by
     have h1:=hb x (by simp)
     have h2:isB l x=true:=by
      unfold isB at h1 |-;simp only [bU] at h1
      rwa [if_neg fun hh=>hx hh.1.symm] at h1
     have:=hlow h2;rcases NG.1 hy with rfl | hy
     ·exact hx e2
     ·have:=hk.1 y hy;omega
    have:=hrest (x::keep) (Oc.2 hk) fun y hy=>⟨hb y hy,hlt y hy⟩
    rw [hU];split <;> omega
theorem ov:∀ {l:List cR} {r:cR},r∈l->(∀ r∈l,0<=r.2)->r.2<=dC l
 | [],_,h,_=>by cases h
 | x::l,r,h,h0=>by
  have e:dC (x::l)=x.2+dC l:=by simp [dC]
  have hx:=h0 x (by simp)
  have hl:0<=dC l:=by
   cases l with
   | nil=>simp [dC]
   | cons y l=>have:=ov (r:=y) (l:=y::l) (by simp) fun r hr=>h0 r (by simp [hr]); have:=h0 y (by simp); omega
  rcases NG.1 h with rfl | h
  ·omega
  ·have:=ov h fun r hr=>h0 r (by simp [hr])
   omega
theorem Right.freed {s:ah} (R:Right s) {r:cR} (hr:r∈aM false [] (ac s.1).1):r.2<=ga s:=by
 have hz:=(bg R.chk).2.2.2.1;have h1:=AA (fG hz) (dx s) R.plan.rs R.plan.isb;have h2:=R.free;have h3:=Cq hz;have h4:=(mU hz).1;have h5:=ov hr fun r hr=>by have:=h4 r hr; omega
 omega
theorem Right.freedH {s:ah} (R:Right s) {r:cR} (hr:r∈lL s):r.2<=ga s:=by
 have h4:=R.gaps.2.1;exact ov hr fun r hr=>by have:=h4 r hr; omega
theorem Ax {a:List Int} {h:dI}:(gL a h).2.2=true ↔ ∃ r∈aM false [] (ac a).1,aa h<=r.2:=by
 unfold gL;split
 ·rename_i e;constructor
  ·intro h; simp at h
  ·rintro ⟨r,hr,h2⟩;have:=List.find?_eq_none.1 e r hr;simp only [N5] at this;omega
 ·rename_i r e;refine ⟨fun _=>⟨r,List.mem_of_find?_eq_some e,by simpa using List.find?_some e⟩,fun _=>rfl⟩
theorem Nj {s:ah} (R:Right s) {slot:Int} {h:dI} (s0:0<=slot) (s1:slot<s.2.1.length) (h0:af h=0) (hf:h.2.2.2=false) :
  ((aX s slot h).2.2=0\/(aX s slot h).2.2=7)/\(((s.2.2.1.length:Int)+1) * aa h<=ga s->(aX s slot h).2.2=0)/\(ga s<aa h->(aX s slot h).2.2≠0):=by
 have hsl:bE s slot=0:=by
  unfold bE;rw [R.ok,if_neg (by decide),if_neg (by omega)]
 have hhd:eL h=0:=by unfold eL; rw [if_neg (by omega),hf]; rfl
 have hL:1<=aa h:=by
  have:=aW h0;have:aa h=1+h.1+h.2.1:=rfl;omega
 have e:aX s slot h=if (fZ s slot h).2=true then ((fZ s slot h).1,false,0) else if (fZ (gM s) slot h).2=true then ((fZ (gM s) slot h).1,true,0) else (ay,false,7):=by
  unfold aX;rw [if_neg (by omega),if_neg (by omega)]
 have a1:(fZ s slot h).2=true ↔ ∃ r∈aM false [] (ac s.1).1,aa h<=r.2:=Ax;have a2:(fZ (gM s) slot h).2=true ↔ ∃ r∈lL s,aa h<=r.2:=Ax;rw [e];by_cases c1:(fZ s slot h).2=true
 ·rw [if_pos c1];refine ⟨.inl rfl,fun _=>rfl,fun hlt=>?_⟩;obtain ⟨r,hr,hle⟩:=a1.1 c1;have:=R.freed hr;omega
 rw [if_neg c1];by_cases c2:(fZ (gM s) slot h).2=true
 ·rw [if_pos c2];refine ⟨.inl rfl,fun _=>rfl,fun hlt=>?_⟩;obtain ⟨r,hr,hle⟩:=a2.1 c2;have:=R.freedH hr;omega
 rw [if_neg c2];exact ⟨.inr rfl,fun hs=>absurd (a2.2 (R.share hL hs)) c2,fun _=>by decide⟩
theorem xt {s:ah} (R:Right s) {slot:Int} {h:dI} (hh:eL h=0) (ht:(fZ s slot h).2=true):(fZ s slot h).1.1.length=s.1.length/\(fZ s slot h).1.2.1.length=s.2.1.length:=by
 obtain ⟨h0,hf⟩:=FU hh;unfold fZ gL at ht |-;split at ht
 ·simp at ht
 ·rename_i r hr;have hm:=List.mem_of_find?_eq_some hr;have hle:aa h<=r.2:=by simpa using List.find?_some hr
  obtain ⟨p1,p2,p3,p4,p5⟩:=rE R.w R.chk hm h0 hf hle;exact ⟨p3,by simp⟩
theorem Right.sweptSize {s:ah} (R:Right s):(gM s).1.length=s.1.length/\(gM s).2.1.length=s.2.1.length:=⟨R.slidOK.2.1,by simp [gM]⟩
theorem H3 {s:ah} (R:Right s) {k a b c v:Int} (e:(bk s k a b c v).2.2=0):(bk s k a b c v).1.1.length=s.1.length/\(bk s k a b c v).1.2.1.length=s.2.1.length:=by
 unfold bk at e |-;split at e
 ·simp at e
 rename_i h1;rw [if_neg h1];split at e
 ·rename_i h2; exact absurd e h2
 rename_i h2;rw [if_neg h2];have hk:=o8 h1;have hk:k=1\/k=2\/k=3\/k=4\/k=5\/k=6\/k=7\/k=8\/k=9\/k=10\/k=11\/k=12\/k=13:=by omega
 clear h1;rcases hk with rfl | rfl | rfl | rfl | rfl | rfl | rfl | rfl | rfl | rfl | rfl | rfl | rfl
 ·rw [xI] at e |-;simp only at e |-;unfold aX at e |-;split at e
  ·rename_i h1; exact absurd e h1
  rename_i h1;split at e
  ·rename_i h2; exact absurd e h2
  rename_i h2;rw [if_neg h1,if_neg h2];have hh:eL (b,c,v % 65536,false)=0:=by omega
  split at e
  ·rename_i h3;rw [if_pos h3];exact xt R hh h3
  rename_i h3;rw [if_neg h3];split at e
  ·rename_i h4;rw [if_pos h4];have z:=xt R.swept hh h4;have y:=R.sweptSize;exact ⟨z.1.trans y.1,z.2.trans y.2⟩
  ·simp at e
 ·rw [CQ]; exact R.sweptSize
 ·rw [CP] at e |-;simp only at e |-;unfold kh at e |-;split at e
  ·rename_i h; exact absurd e h
  rename_i h;rw [if_neg h];simp
 ·rw [CO] at e |-;simp only at e |-;unfold kc at e |-;split at e
  ·rename_i h; exact absurd e h
  rename_i h;rw [if_neg h];simp
 ·rw [xH] at e |-;split at e
  ·rename_i h; exact absurd e h
  rename_i h;rw [if_neg h];simp
 ·rw [xG] at e |-;simp only at e |-;unfold js at e |-;split at e
  ·rename_i h; exact absurd e h
  rename_i h;rw [if_neg h];simp
 ·rw [CN] at e |-;unfold iC at e |-;split at e
  ·rename_i h; exact absurd e h
  rename_i h;rw [if_neg h];split at e
  ·rename_i h2; exact absurd e h2
  rename_i h2;rw [if_neg h2];simp
 ·rw [CM] at e |-;simp only at e |-;unfold cO at e |-;split at e
  ·rename_i h; exact absurd e h
  rename_i h;rw [if_neg h];split at e
  ·rename_i h2; exact absurd e h2
  rename_i h2;rw [if_neg h2];simp
 ·rw [CL] at e |-;split at e
  ·rename_i h; exact absurd e h
  rename_i h;rw [if_neg h];simp
 ·rw [uU] at e |-;unfold fi at e |-;split at e
  ·rename_i h; exact absurd e h
  rename_i h;rw [if_neg h];split at e
  ·rename_i h2; exact absurd e h2
  rename_i h2;rw [if_neg h2];simp
 ·rw [uT] at e |-;simp only at e |-;unfold jo at e |-;split at e
  ·rename_i h; exact absurd e h
  rename_i h;rw [if_neg h];split at e
  ·rename_i h2; exact absurd e h2
  rename_i h2;rw [if_neg h2];simp
 ·rw [uS] at e |-;simp only at e |-;unfold fp at e |-;split at e
  ·rename_i h; exact absurd e h
  rename_i h;rw [if_neg h];split at e
  ·rename_i h2; exact absurd e h2
  rename_i h2;rw [if_neg h2];simp
 ·rw [uR] at e |-;simp only at e |-;unfold eY at e |-;split at e
  ·rename_i h; exact absurd e h
  rename_i h;rw [if_neg h];simp
theorem JC {w r h:Int} (e:(ar w r h).2=0):((ar w r h).1.1.length:Int)=w/\((ar w r h).1.2.1.length:Int)=r:=by
 unfold ar at e |-;split at e
 ·simp at e
 rename_i h1;split at e
 ·simp at e
 rename_i h2;split at e
 ·simp at e
 rename_i h3;rw [if_neg h1,if_neg h2,if_neg h3]
 have hl:((fV w).length:Int)=w:=by
  have hA:fV w=bI w:=by
   unfold fV bI;split
   ·obtain ⟨n,hn⟩:∃ n:Nat,w=(n:Int)+1:=⟨(w - 1).toNat,by omega⟩;subst hn;rw [show ((n:Int)+1).toNat=n+1 by omega,show ((n:Int)+1 - 1).toNat=n by omega];rfl
   ·rw [show w.toNat=0 by omega];rfl
  rw [hA,bA];omega
 exact ⟨hl,by simp only [N0]; omega⟩
theorem Eb {s:ah} (R:Right s):∀ l:List Ga,(∀ o∈l,am .u64 o.2.2.2.2)->Right (gR s l).1/\(gR s l).1.1.length=s.1.length/\(gR s l).1.2.1.length=s.2.1.length:=by
 intro l
 induction l using G4 with
 | h0=>exact fun _=>⟨R,rfl,rfl⟩
 | h1 l o ih =>
  intro hl;obtain ⟨r1,r2,r3⟩:=ih fun o ho=>hl o (by simp [ho])
  rw [tU];unfold oY;split
  ·rename_i h;have z:=H3 r1 h;exact ⟨ET r1 (hl o (by simp)) h,z.1.trans r2,z.2.trans r3⟩
  ·exact ⟨r1,r2,r3⟩
theorem K6 {s:ah} (R:Right s) {l:List Ga} (hl:l.length<=200):lK s l=((gR s l).1,(gR s l).2,0):=by
 have h:jt s l=0:=by
  unfold jt;rw [if_neg (by have:=R.ok; omega),if_neg (by omega)]
 unfold lK;rw [if_neg (by omega)]
end
section
def Er (e:Int):Prop:=0<=e/\e<=12
theorem J7 (a:List Int):Er (ac a).2:=by
 unfold ac Er;split
 ·simp
 ·split <;> simp
theorem uL (a:List Int):Er (ak a).2.2:=by
 have h:=J7 a;unfold ak;split
 ·exact h
 ·split <;> simp [Er]
theorem Lr (r:List Int) (n:Int):Er (aE r n):=by
 unfold aE Er;split
 ·omega
 split
 ·omega
 split <;> omega
theorem uJ:∀ (p:List bj) (q:Int),Er (cL q p)
 | [],_=>by simp [cL,Er]
 | x::p,q=>by
  unfold cL;split
  ·simp [Er]
  split
  ·simp [Er]
  ·exact uJ p x.1
theorem FZ (p:List bj):Er (bM p):=by
 unfold bM;split
 ·simp [Er]
 ·exact uJ p _
theorem CE:∀ (h:List be),Er (bp h)
 | []=>by simp [bp,Er]
 | s::h=>by
  unfold bp;split
  ·unfold ee Er;split
   ·omega
   split <;> omega
  ·exact CE h
theorem uK (h:List be):Er (aJ h):=by
 unfold aJ;split
 ·simp [Er]
 ·exact CE h
theorem Lx (a f:List Int):Er (aZ a f):=by
 have h:=uL a;unfold aZ;split
 ·exact h
 split <;> simp [Er]
theorem jB (s:ah):Er (au s):=by
 unfold au;split
 ·exact uL _
 split
 ·exact Lr _ _
 split
 ·exact FZ _
 split
 ·exact uK _
 ·exact Lx _ _
theorem zD (s:ah) (k:Int):Er (bE s k):=by
 unfold bE;split
 ·exact jB s
 split <;> simp [Er]
theorem zE (s:ah) (k:Int):Er (bn s k):=by
 unfold bn;split
 ·exact jB s
 split <;> simp [Er]
theorem J8 (s:ah) (a b c:Int):Er (bt s a b c):=by
 unfold bt;split
 ·exact zE s a
 split
 ·simp [Er]
 split <;> simp [Er]
theorem F1 (s:ah) (a b:Int):Er (aN s a b):=by
 unfold aN;split
 ·exact zE s a
 split <;> simp [Er]
theorem Ls (s:ah) (a b:Int):Er (cg s a b):=by
 unfold cg;split
 ·exact jB s
 split
 ·simp [Er]
 split <;> simp [Er]
theorem Lw (h:dI):Er (eL h):=by
 unfold eL;split
 ·unfold af Er;split
  ·omega
  split
  ·omega
  split <;> omega
 split <;> simp [Er]
theorem CF (p:List bj) (k:Int):Er (aD p k).2.2:=by
 unfold aD;split
 ·exact FZ p
 split <;> simp [Er]
theorem MC (p:List bj) (k:Int):Er (gq p k).2.2:=by
 unfold gq;split
 ·exact CF p k
 split <;> simp [Er]
theorem Ly (p:List bj) (k:Int):Er (dz p k).2.2:=by
 unfold dz;split
 ·exact CF p k
 split <;> simp [Er]
theorem Lt (h:List be) (a:Int):Er (openF h a).2.2:=by
 unfold openF;split
 ·exact uK h
 split
 ·simp [Er]
 split <;> simp [Er]
theorem F0 (h:List be) (n:Int):Er (ce h n).2:=by
 unfold ce;split
 ·exact uK h
 split <;> simp [Er]
theorem Lv (h:List be) (n:Int):Er (gW h n).2:=by
 unfold gW;split
 ·exact F0 h n
 ·simp [Er]
theorem J9 (h:List be) (n:Int):Er (closeF h n).2:=by
 unfold closeF;split
 ·exact F0 h n
 ·simp [Er]
theorem Lu (s:ah) (k:Int) (h:dI):Er (aX s k h).2.2:=by
 unfold aX;split
 ·exact zD s k
 split
 ·exact Lw h
 split
 ·simp [Er]
 split <;> simp [Er]
theorem LA (s:ah) (k a b c v:Int) (hk:1<=k/\k<=13):Er (deed s k a b c v).2.2:=by
 have hk:k=1\/k=2\/k=3\/k=4\/k=5\/k=6\/k=7\/k=8\/k=9\/k=10\/k=11\/k=12\/k=13:=by omega
 have z:Er 0:=by simp [Er]
 rcases hk with rfl | rfl | rfl | rfl | rfl | rfl | rfl | rfl | rfl | rfl | rfl | rfl | rfl
 ·rw [xI]; exact Lu ..
 ·rw [CQ]; exact z
 ·rw [CP]; unfold kh; split; exact J8 ..; exact z
 ·rw [CO]; unfold kc; split; exact J8 ..; exact z
 ·rw [xH]; split; exact F1 ..; exact z
 ·rw [xG]; unfold js; split; exact F1 ..; exact z
 ·rw [CN]; unfold iC; split; exact zE ..; split; exact MC ..; exact z
 ·rw [CM]; unfold cO; split; exact jB ..; split; exact Ly ..; exact z
 ·rw [CL]; split; exact Ls ..; exact z
 ·rw [uU]; unfold fi; split; exact zE ..; split; exact Lt ..; exact z
 ·rw [uT]; unfold jo; split; exact zD ..; split; exact Lv ..; exact z
 ·rw [uS]; unfold fp; split; exact jB ..; split; exact J9 ..; exact z
 ·rw [uR]; unfold eY; split; exact zD ..; exact z
theorem Lz (s:ah) (k a b c v:Int):Er (bk s k a b c v).2.2:=by
 unfold bk;split
 ·simp [Er]
 rename_i h;split
 ·exact jB s
 ·exact LA _ _ _ _ _ _ (o8 h)
theorem ES {s:ah} {k a b c v:Int} (e:(bk s k a b c v).2.2=0):(bk s k a b c v).1.2.1.length=s.2.1.length:=by
 unfold bk at e |-;split at e
 ·simp at e
 rename_i h1;rw [if_neg h1];split at e
 ·rename_i h2; exact absurd e h2
 rename_i h2;rw [if_neg h2];have hk:=o8 h1;have hk:k=1\/k=2\/k=3\/k=4\/k=5\/k=6\/k=7\/k=8\/k=9\/k=10\/k=11\/k=12\/k=13:=by omega
 clear h1;rcases hk with rfl | rfl | rfl | rfl | rfl | rfl | rfl | rfl | rfl | rfl | rfl | rfl | rfl
 ·rw [xI] at e |-;simp only at e |-;unfold aX fZ gM at e |-
  repeat' split
  all_goals simp_all
 ·rw [CQ]; simp [cW,gM]
 ·rw [CP] at e |-;unfold kh at e |-
  repeat' split
  all_goals simp_all
 ·rw [CO] at e |-;unfold kc at e |-
  repeat' split
  all_goals simp_all
 ·rw [xH] at e |-
  repeat' split
  all_goals simp_all
 ·rw [xG] at e |-;unfold js at e |-
  repeat' split
  all_goals simp_all
 ·rw [CN] at e |-;unfold iC at e |-
  repeat' split
  all_goals simp_all
 ·rw [CM] at e |-;unfold cO at e |-
  repeat' split
  all_goals simp_all
 ·rw [CL] at e |-
  repeat' split
  all_goals simp_all
 ·rw [uU] at e |-;unfold fi at e |-
  repeat' split
  all_goals simp_all
 ·rw [uT] at e |-;unfold jo at e |-
  repeat' split
  all_goals simp_all
 ·rw [uS] at e |-;unfold fp at e |-
  repeat' split
  all_goals simp_all
 ·rw [uR] at e |-;unfold eY at e |-
  repeat' split
  all_goals simp_all
theorem HB {w r h:Int} (e:(ar w r h).2=0):(ar w r h).1.2.1.length<=32:=by
 unfold ar at e |-
 repeat' split
 all_goals simp_all
end
end Go.Proofs.YtmfileeamnfpaaaGreatDoor
