import Derived.Test.YtmfileeamnfpaaaGreatDoorM2
import Derived.Lib.SplitLaws
import Derived.Lib.AtoiAll
import Derived.Lib.ItoaNum
import Derived.WalkKit
import Derived.Lib.ItoaLen
import Derived.Shelf.Strings.Split
import Derived.Shelf.Strings.SplitCore
import Derived.Shelf.Strings.Search3
import Derived.Shelf.Strconv.Itoa3
import Derived.Shelf.Strconv.AtoiAll
namespace Go.Proofs.YtmfileeamnfpaaaGreatDoor
section
open Go
set_option maxRecDepth 100000
set_option maxHeartbeats 1000000
def zQ:Nat->Option LoopGen
 | 5000004=>some { rd:=[.box 1 aM],A:=fun (s:aj)=>{ cs:=[.own 9 3 ty_I,.own 10 3 ty_I],inv:=fun ((ra,ha):List Int×List Int)=>ra=List.replicate s.1.length 0/\ha=List.replicate 256 0,mu:=fun _=>0 } }
 | 6=>some { wr:=[9,10],rd:=[.box 1 aM],A:=fun (s:aj)=>{ cs:=[.own 9 3 ty_I,.own 10 3 ty_I,.dat 42 ty_I],inv:=fun ((ra,ha,i):List Int×List Int×Int)=>0<=i/\i<=(ah s).length/\ra=bQ (List.replicate s.1.length 0) ((ah s).take i.toNat) (kW s)/\ha=bQ (List.replicate 256 0) ((ah s).take i.toNat) (kW s),mu:=fun ((_,_,i):List Int×List Int×Int)=>((ah s).length - i).toNat } }
 | 15=>some { rd:=[.own 86 105 jm],A:=fun (g:List cT)=>{ cs:=[.dat 13 ty_I,.dat 88 ty_I],inv:=fun ((n,i):Int×Int)=>0<=i/\i<=g.length/\g.length<=256/\(∀ r∈g,0<=r.2/\r.2<=256)/\n=dF (g.take i.toNat)/\0<=n/\n<=256 * i,mu:=fun ((_,i):Int×Int)=>(g.length - i).toNat } }
 | _=>none
def ym:Spec:={ Ts:=[aM],Rs:=[.dat aM,.dat ty_I],al:=true,pre:=fun (s:aj)=>aw s=0,F:=cZ }
def oL:Prop :=
  ∀ (x:List Int×List Int×List (Int×Int)×List (Int×Bool×Int)),(pO x)->aw x=0->(x.2.1.length<=32/\x.2.2.1.length<=16/\x.2.2.2.length<=16)/\True/\((ah x).length+(List.map (fun (x:bo)=>x.1) x.2.2.1).length) * 8<=140737488355328/\True/\((((0<=(x.1.length:Int)/\(x.1.length:Int).toNat * 8<=aJ/\((0:Int)<=256/\Int.toNat 256 * 8<=aJ/\((List.replicate (x.1.length:Int).toNat (0:Int)=List.replicate x.1.length (0:Int)/\List.replicate (Int.toNat 256) (0:Int)=List.replicate 256 (0:Int))/\True)/\True)/\(((0:Int)<=256/\Int.toNat 256 * 8<=aJ/\(List.replicate (x.1.length:Int).toNat (0:Int)=List.replicate x.1.length (0:Int)/\List.replicate (Int.toNat 256) (0:Int)=List.replicate 256 (0:Int))/\True)/\True)/\True)/\((0:Int)<=256/\Int.toNat 256 * 8<=aJ/\(0<=(x.1.length:Int)/\(x.1.length:Int).toNat * 8<=aJ/\((List.replicate (x.1.length:Int).toNat (0:Int)=List.replicate x.1.length (0:Int)/\List.replicate (Int.toNat 256) (0:Int)=List.replicate 256 (0:Int))/\True)/\True)/\True)/\True)/\((0:Int)<=256/\Int.toNat 256 * 8<=aJ/\((0<=(x.1.length:Int)/\(x.1.length:Int).toNat * 8<=aJ/\((List.replicate (x.1.length:Int).toNat (0:Int)=List.replicate x.1.length (0:Int)/\List.replicate (Int.toNat 256) (0:Int)=List.replicate 256 (0:Int))/\True)/\True)/\True)/\True)/\True)/\((0:Int)<=256/\Int.toNat 256 * 8<=aJ/\(((0<=(x.1.length:Int)/\(x.1.length:Int).toNat * 8<=aJ/\((List.replicate (x.1.length:Int).toNat (0:Int)=List.replicate x.1.length (0:Int)/\List.replicate (Int.toNat 256) (0:Int)=List.replicate 256 (0:Int))/\True)/\True)/\True)/\True)/\True)/\True)/\∀ (x_1:List Int×List Int),x_1.1=List.replicate x.1.length (0:Int)/\x_1.2=List.replicate 256 (0:Int)->((0:Int)<=0/\0<=(↑(ah x).length:Int)/\x_1.1=bQ (List.replicate x.1.length (0:Int)) (List.take (Int.toNat 0) (ah x)) (kW x)/\x_1.2=bQ (List.replicate 256 (0:Int)) (List.take (Int.toNat 0) (ah x)) (kW x))/\∀ (x_2:List Int×List Int×Int),0<=x_2.2.2/\x_2.2.2<=(↑(ah x).length:Int)/\x_2.1=bQ (List.replicate x.1.length (0:Int)) (List.take x_2.2.2.toNat (ah x)) (kW x)/\x_2.2.1=bQ (List.replicate 256 (0:Int)) (List.take x_2.2.2.toNat (ah x)) (kW x)->(decide (x_2.2.2<(↑(ah x).length:Int))=true->0<=x_2.2.2/\x_2.2.2<(↑(ah x).length:Int)/\x_2.2.2.toNat<(ah x).length/\0<=x_2.2.2/\x_2.2.2<(↑(aq x.1 (ah x) (List.map (fun (x:bo)=>x.1) x.2.2.1)).2.1.length:Int)/\0<=x_2.2.2/\x_2.2.2<(↑(aq x.1 (ah x) (List.map (fun (x:bo)=>x.1) x.2.2.1)).2.1.length:Int)/\0<=(ah x).getD x_2.2.2.toNat 0/\(ah x).getD x_2.2.2.toNat 0<(x_2.1.length:Int)/\((ah x).getD x_2.2.2.toNat 0).toNat<x_2.1.length/\(ah x).getD x_2.2.2.toNat 0=(ah x).getD x_2.2.2.toNat 0/\0<=(ah x).getD x_2.2.2.toNat 0/\(ah x).getD x_2.2.2.toNat 0<(x_2.2.1.length:Int)/\((ah x).getD x_2.2.2.toNat 0).toNat<x_2.2.1.length/\am .i64 (x_2.2.2+1)/\(0<=x_2.2.2+1/\x_2.2.2+1<=(↑(ah x).length:Int)/\x_2.1.set ((ah x).getD x_2.2.2.toNat 0).toNat ((aq x.1 (ah x) (List.map (fun (x:bo)=>x.1) x.2.2.1)).2.1.getD x_2.2.2.toNat 0)=bQ (List.replicate x.1.length (0:Int)) (List.take (x_2.2.2+1).toNat (ah x)) (kW x)/\x_2.2.1.set ((ah x).getD x_2.2.2.toNat 0).toNat ((aq x.1 (ah x) (List.map (fun (x:bo)=>x.1) x.2.2.1)).2.1.getD x_2.2.2.toNat 0)=bQ (List.replicate 256 (0:Int)) (List.take (x_2.2.2+1).toNat (ah x)) (kW x))/\((↑(ah x).length:Int) - (x_2.2.2+1)).toNat<((↑(ah x).length:Int) - x_2.2.2).toNat)/\(decide (x_2.2.2<(↑(ah x).length:Int))=false->True/\True/\True/\((0:Int)<=0/\0<=(↑(an (aq x.1 (ah x) (List.map (fun (x:bo)=>x.1) x.2.2.1)).1).1.length:Int)/\(an (aq x.1 (ah x) (List.map (fun (x:bo)=>x.1) x.2.2.1)).1).1.length<=256/\(∀ (r:cT),r∈(an (aq x.1 (ah x) (List.map (fun (x:bo)=>x.1) x.2.2.1)).1).1->0<=r.2/\r.2<=256)/\0=dF (List.take (Int.toNat 0) (an (aq x.1 (ah x) (List.map (fun (x:bo)=>x.1) x.2.2.1)).1).1)/\(0:Int)<=0/\(0:Int)<=256 * 0)/\∀ (x_3:Int×Int),0<=x_3.2/\x_3.2<=(↑(an (aq x.1 (ah x) (List.map (fun (x:bo)=>x.1) x.2.2.1)).1).1.length:Int)/\(an (aq x.1 (ah x) (List.map (fun (x:bo)=>x.1) x.2.2.1)).1).1.length<=256/\(∀ (r:cT),r∈(an (aq x.1 (ah x) (List.map (fun (x:bo)=>x.1) x.2.2.1)).1).1->0<=r.2/\r.2<=256)/\x_3.1=dF (List.take x_3.2.toNat (an (aq x.1 (ah x) (List.map (fun (x:bo)=>x.1) x.2.2.1)).1).1)/\0<=x_3.1/\x_3.1<=256 * x_3.2->(decide (x_3.2<(↑(an (aq x.1 (ah x) (List.map (fun (x:bo)=>x.1) x.2.2.1)).1).1.length:Int))=true->0<=x_3.2/\x_3.2<(↑(an (aq x.1 (ah x) (List.map (fun (x:bo)=>x.1) x.2.2.1)).1).1.length:Int)/\x_3.2.toNat<(an (aq x.1 (ah x) (List.map (fun (x:bo)=>x.1) x.2.2.1)).1).1.length/\am .i64 (x_3.1+((an (aq x.1 (ah x) (List.map (fun (x:bo)=>x.1) x.2.2.1)).1).1.getD x_3.2.toNat (0,0)).2)/\am .i64 (x_3.2+1)/\(0<=x_3.2+1/\x_3.2+1<=(↑(an (aq x.1 (ah x) (List.map (fun (x:bo)=>x.1) x.2.2.1)).1).1.length:Int)/\(an (aq x.1 (ah x) (List.map (fun (x:bo)=>x.1) x.2.2.1)).1).1.length<=256/\(∀ (r:cT),r∈(an (aq x.1 (ah x) (List.map (fun (x:bo)=>x.1) x.2.2.1)).1).1->0<=r.2/\r.2<=256)/\x_3.1+((an (aq x.1 (ah x) (List.map (fun (x:bo)=>x.1) x.2.2.1)).1).1.getD x_3.2.toNat (0,0)).2=dF (List.take (x_3.2+1).toNat (an (aq x.1 (ah x) (List.map (fun (x:bo)=>x.1) x.2.2.1)).1).1)/\0<=x_3.1+((an (aq x.1 (ah x) (List.map (fun (x:bo)=>x.1) x.2.2.1)).1).1.getD x_3.2.toNat (0,0)).2/\x_3.1+((an (aq x.1 (ah x) (List.map (fun (x:bo)=>x.1) x.2.2.1)).1).1.getD x_3.2.toNat (0,0)).2<=256 * (x_3.2+1))/\((↑(an (aq x.1 (ah x) (List.map (fun (x:bo)=>x.1) x.2.2.1)).1).1.length:Int) - (x_3.2+1)).toNat<((↑(an (aq x.1 (ah x) (List.map (fun (x:bo)=>x.1) x.2.2.1)).1).1.length:Int) - x_3.2).toNat)/\(decide (x_3.2<(↑(an (aq x.1 (ah x) (List.map (fun (x:bo)=>x.1) x.2.2.1)).1).1.length:Int))=false->((aq x.1 (ah x) (List.map (fun (x:bo)=>x.1) x.2.2.1)).1,(bg x.2.1 (x.1.length:Int) x_2.1).1,x.2.2.1,(fT x.2.2.2 x_2.2.1).1)=(cZ x).1/\x_3.1=(cZ x).2/\True))
theorem vj:oL:=by
 unfold oL;intro s ⟨⟨hb,hw⟩,_⟩ hs;have R:=gL hw hs;have hcl:aq s.1 (ah s) (List.map (fun (x:bo)=>x.1) s.2.2.1)=(dz s,(ah s).map (kW s),0):=R.clean;obtain ⟨hgf,hgi,hgl⟩:=R.gaps;have hfl:=R.fromLen;have hsm:=R.small;have hal:=R.al;have hF:cZ s=(iG s,dF (aL false [] (ac (dz s)).1)):=rfl;have hfm:=fun x=>gC (s:=s) R.root (x:=x)
 have hsr:=R.swapRoots;have hsh:=R.swapHands;rw [hF,hcl];simp only;rw [hgf];simp only;generalize aL false [] (ac (dz s)).1=g at *;unfold aJ at hb ⊢;refine ⟨hsm,trivial,by rw [List.length_map]; omega,trivial,?_,fun ⟨ra,ha⟩ ⟨q1,q2⟩=>?_⟩
 ·have e1:((s.1.length:Int)).toNat=s.1.length:=by omega
  have e2:Int.toNat 256=256:=rfl;have e3:(0:Int)<=(s.1.length:Int):=by omega
  simp only [e1,e2,e3,hb,true_and,and_true];omega
 simp only at q1 q2;subst q1 q2;refine ⟨⟨by omega,by omega,by simp [bQ],by simp [bQ]⟩,fun ⟨ra,ha,i⟩ ⟨i0,i1,i2,i3⟩=>⟨fun hlt=>?_,fun hge=>?_⟩⟩
 ·simp only at i0 i1 i2 i3 hlt ⊢;have hlt:=of_decide_eq_true hlt;have ht:=bB (0:Int) i0 hlt;have hx:=R.nameIn ((hfm _).1 (aH (0:Int) i0 hlt));have hm:(List.map (kW s) (ah s)).getD i.toNat 0=kW s ((ah s).getD i.toNat 0):=B9 i0 hlt;have l1:ra.length=s.1.length:=by rw [i2,d6,List.length_replicate]
  have l2:ha.length=256:=by rw [i3,d6,List.length_replicate]
  rw [hm,ht,jL,jL,<- i2,<- i3,l1,l2,List.length_map];generalize (ah s).getD i.toNat 0=x at *;simp only [am];exact ⟨i0,hlt,by omega,i0,hlt,i0,hlt,hx.1,hx.2,by omega,by first | trivial | rfl,hx.1,by omega,by omega,by omega,⟨by omega,by omega,by trivial,by trivial⟩,by omega⟩
 ·simp only at i0 i1 i2 i3 hge ⊢;have hge:=of_decide_eq_false hge;rw [cA hge] at i2 i3;refine ⟨trivial,trivial,trivial,⟨by omega,by omega,hgl,fun r hr=>by have:=hgi r hr; omega,by trivial,by omega,by omega⟩,fun ⟨n,j⟩ ⟨j0,j1,_,_,j2,j3,j4⟩=>⟨fun hlt=>?_,fun hge=>?_⟩⟩
  ·simp only at j0 j1 j2 j3 j4 hlt ⊢;have hlt:=of_decide_eq_true hlt;have hm:=hgi _ (aH ((0,0):cT) j0 hlt);rw [wt j0 hlt,<- j2];generalize (g.getD j.toNat (0,0)).2=y at *;simp only [am];exact ⟨j0,hlt,by omega,by omega,by omega,⟨by omega,by omega,hgl,fun r hr=>by have:=hgi r hr; omega,by trivial,by omega,by omega⟩,by omega⟩
  ·simp only at j0 j1 j2 hge ⊢;rw [cA (of_decide_eq_false hge)] at j2;rw [i2,i3,hsr,hsh];exact ⟨rfl,j2,trivial⟩
theorem yQ:ym.ok Tryz.prog 85:=aD (ann:=zQ) (ae qi (ae jQ (ae B4 (ae bZ (ae rG (ae rK (ae jS ap))))))) Tryz.func85 (by kernel_rfl) vj
def bx (s:aj):aj×Int×Int:=if aw s≠0 then (aA,0,aw s) else ((cZ s).1,(cZ s).2,0)
def vE:Spec:={ Ts:=[aM],Rs:=[.dat aM,.dat ty_I,.dat ty_I],al:=true,pre:=fun _=>True,F:=bx }
def na:Prop :=
  ∀ (x:List Int×List Int×List (Int×Int)×List (Int×Bool×Int)),(pO x)->True->True/\(decide (aw x≠0)=true->(([]:List Int),([]:List Int),([]:List (Int×Int)),([]:List (Int×Bool×Int)))=(bx x).1/\0=(bx x).2.1/\aw x=(bx x).2.2/\True)/\(decide (aw x≠0)=false->aw x=0/\(cZ x).1=(bx x).1/\(cZ x).2=(bx x).2.1/\0=(bx x).2.2/\True)
theorem sM:na:=by
 unfold na;intro s hx hs;refine ⟨trivial,fun h=>?_,fun h=>?_⟩
 ·unfold bx;rw [if_pos (of_decide_eq_true h)];exact ⟨by trivial,by trivial,by trivial,trivial⟩
 ·have h:=of_decide_eq_false h;unfold bx;rw [if_neg h];exact ⟨by omega,rfl,rfl,rfl,trivial⟩
theorem nh:vE.ok Tryz.prog 60:=aD (ann:=co) (ae gg (ae yQ ap)) Tryz.func60 (by kernel_rfl) sM
def bp (s:aj) (k:Int):Int:=if aw s≠0 then aw s else if k<0\/(s.2.1.length:Int)<=k\/s.2.1.getD k.toNat 0<0 then 5 else 0
def ax (s:aj) (k:Int):Int:=s.2.1.getD k.toNat 0
def aV (s:aj) (k:Int):Int×Obj×Int:=if bp s k≠0 then (0,ij,bp s k) else (ax s k,(gW s.1 (ax s k)).1,0)
def CS:Nat->Option LoopGen
 | 4000006=>some eE
 | _=>none
def AG:Spec:={ Ts:=[aM,ty_I],Rs:=[.dat ty_I,.dat Dy,.dat ty_I],al:=true,pre:=fun _=>True,F:=fun ((s,k):aj×Int)=>aV s k }
def rc:Prop :=
  ∀ (x:(List Int×List Int×List (Int×Int)×List (Int×Bool×Int))×Int),(fun (v0:type_of% (gW x.1.1 (x.1.2.1.getD x.2.toNat 0)))=>(pO x.1)/\am .i64 x.2->True->True/\(decide (aw x.1≠0)=true->0=(aV x.1 x.2).1/\(0,([]:List Int),([]:List Int),false)=(aV x.1 x.2).2.1/\aw x.1=(aV x.1 x.2).2.2/\True)/\(decide (aw x.1≠0)=false->((decide (x.2<0)||decide ((x.1.2.1.length:Int)<=x.2))=false->0<=x.2)/\((decide (x.2<0)||decide ((x.1.2.1.length:Int)<=x.2))=false->x.2<(x.1.2.1.length:Int))/\((decide (x.2<0)||decide ((x.1.2.1.length:Int)<=x.2)||decide (x.1.2.1.getD x.2.toNat (0:Int)<0))=true->0=(aV x.1 x.2).1/\(0,([]:List Int),([]:List Int),false)=(aV x.1 x.2).2.1/\5=(aV x.1 x.2).2.2/\True)/\((decide (x.2<0)||decide ((x.1.2.1.length:Int)<=x.2)||decide (x.1.2.1.getD x.2.toNat (0:Int)<0))=false->0<=x.2/\x.2<(x.1.2.1.length:Int)/\True/\x.1.1=x.1.1/\x.1.2.1=x.1.2.1/\x.2=x.2/\0<=x.2/\x.2<(x.1.2.1.length:Int)/\x.1.2.1.getD x.2.toNat 0=x.1.2.1.getD x.2.toNat 0/\x.1.2.1.getD x.2.toNat 0=x.1.2.1.getD x.2.toNat 0/\True/\v0.1.1=v0.1.1/\v0.1.2.1=v0.1.2.1/\v0.1.2.2.1=v0.1.2.2.1/\v0.1.2.2.2=v0.1.2.2.2/\v0.2=v0.2/\v0.1.1=v0.1.1/\v0.1.2.1=v0.1.2.1/\v0.1.2.2.1=v0.1.2.2.1/\v0.1.2.2.2=v0.1.2.2.2/\v0.2=v0.2/\v0.1.1=v0.1.1/\v0.1.2.1=v0.1.2.1/\v0.1.2.2.1=v0.1.2.2.1/\v0.1.2.2.2=v0.1.2.2.2/\v0.2=v0.2/\v0.2=v0.2/\0<=x.2/\x.2<(x.1.2.1.length:Int)/\v0.1.1=v0.1.1/\v0.1.2.1=v0.1.2.1/\v0.1.2.2.1=v0.1.2.2.1/\v0.1.2.2.2=v0.1.2.2.2/\v0.2=v0.2/\v0.2=v0.2/\x.1.2.1.getD x.2.toNat 0=(aV x.1 x.2).1/\v0.1=(aV x.1 x.2).2.1/\v0.2=(aV x.1 x.2).2.2/\True))) (gW x.1.1 (x.1.2.1.getD x.2.toNat 0))
theorem xM:rc:=by
 unfold rc;intro ⟨s,k⟩ ⟨⟨⟨hb,hw⟩,_⟩,_⟩ _;simp only at hb hw ⊢;have hO:aV s k=if bp s k≠0 then (0,ij,bp s k) else (ax s k,(gW s.1 (ax s k)).1,0):=rfl
 have hE:bp s k=if aw s≠0 then aw s else if k<0\/(s.2.1.length:Int)<=k\/s.2.1.getD k.toNat 0<0 then 5 else 0:=rfl
 refine ⟨trivial,fun h=>?_,fun h=>⟨fun h1=>?_,fun h1=>?_,fun h1=>?_,fun h1=>?_⟩⟩
 ·rw [if_pos (of_decide_eq_true h)] at hE;rw [hO,hE,if_pos (of_decide_eq_true h)];exact ⟨by trivial,by trivial,by trivial,trivial⟩
 ·simp at h1; omega
 ·simp at h1; omega
 ·rw [if_neg (of_decide_eq_false h),if_pos (by simpa [or_assoc,and_assoc] using h1)] at hE;rw [hO,hE,if_pos (by omega)];exact ⟨by trivial,by trivial,by trivial,trivial⟩
 ·have hs:aw s=0:=by simpa using of_decide_eq_false h
  have h1:¬ (k<0\/(s.2.1.length:Int)<=k\/s.2.1.getD k.toNat 0<0):=by simpa [or_assoc,and_assoc] using h1
  rw [if_neg (by omega),if_neg h1] at hE;have R:=gL hw hs;have O:=R.obj (R.rootNam (k:=k) (by omega) (by omega) (by omega));have hz:(gW s.1 (s.2.1.getD k.toNat 0)).2=0:=by rw [O.at_]
  rw [hO,hE,if_neg (by omega),hz];simp only [and_true,true_and,ax];omega
theorem jR:AG.ok Tryz.prog 139:=aD (ann:=CS) (ae gg (ae mR ap)) Tryz.func139 (by kernel_rfl) xM
theorem nJ {s:aj} {k:Int} (hw:∀ x∈s.1,am .u64 x) (h:bp s k=0):Right s/\0<=k/\k<s.2.1.length/\ObjAt s (ax s k):=by
 unfold bp at h;split at h
 ·omega
 rename_i h0;split at h
 ·omega
 rename_i h1;have R:=gL hw (by omega:aw s=0);exact ⟨R,by omega,by omega,R.obj (R.rootNam (k:=k) (by omega) (by omega) (by omega))⟩
def bv (s:aj) (slot k other:Int):Int:=if bp s slot≠0 then bp s slot else if k<0\/(eG s.1 (ax s slot)).1<=k then 4 else if other<0\/(s.2.1.length:Int)<=other then 5 else 0
def IM:Spec:={ Ts:=[aM,ty_I,ty_I,ty_I],Rs:=[.dat ty_I,.dat ty_I],pre:=fun _=>True,F:=fun ((s,slot,k,other):aj×Int×Int×Int)=>((if bv s slot k other≠0 then 0 else ax s slot+1+k,bv s slot k other):Int×Int) }
def Bq:Prop :=
  ∀ (x:(List Int×List Int×List (Int×Int)×List (Int×Bool×Int))×Int×Int×Int),(pO x.1)/\am .i64 x.2.1/\am .i64 x.2.2.1/\am .i64 x.2.2.2->True->True/\(decide ((aV x.1 x.2.1).2.2≠0)=true->((0:Int)=if bv x.1 x.2.1 x.2.2.1 x.2.2.2≠0 then (0:Int) else ax x.1 x.2.1+1+x.2.2.1)/\(aV x.1 x.2.1).2.2=bv x.1 x.2.1 x.2.2.1 x.2.2.2/\True)/\(decide ((aV x.1 x.2.1).2.2≠0)=false->((decide (x.2.2.1<0)||decide ((↑(aV x.1 x.2.1).2.1.2.1.length:Int)<=x.2.2.1))=true->((0:Int)=if bv x.1 x.2.1 x.2.2.1 x.2.2.2≠0 then (0:Int) else ax x.1 x.2.1+1+x.2.2.1)/\4=bv x.1 x.2.1 x.2.2.1 x.2.2.2/\True)/\((decide (x.2.2.1<0)||decide ((↑(aV x.1 x.2.1).2.1.2.1.length:Int)<=x.2.2.1))=false->((decide (x.2.2.2<0)||decide ((x.1.2.1.length:Int)<=x.2.2.2))=true->((0:Int)=if bv x.1 x.2.1 x.2.2.1 x.2.2.2≠0 then (0:Int) else ax x.1 x.2.1+1+x.2.2.1)/\5=bv x.1 x.2.1 x.2.2.1 x.2.2.2/\True)/\((decide (x.2.2.2<0)||decide ((x.1.2.1.length:Int)<=x.2.2.2))=false->am .i64 ((aV x.1 x.2.1).1+1)/\am .i64 ((aV x.1 x.2.1).1+1+x.2.2.1)/\((aV x.1 x.2.1).1+1+x.2.2.1=if bv x.1 x.2.1 x.2.2.1 x.2.2.2≠0 then (0:Int) else ax x.1 x.2.1+1+x.2.2.1)/\0=bv x.1 x.2.1 x.2.2.1 x.2.2.2/\True)))
theorem Gd:Bq:=by
 unfold Bq;intro ⟨s,slot,k,other⟩ ⟨⟨⟨hb,hw⟩,_⟩,_⟩ _;simp only at hb hw ⊢;have hR:bv s slot k other=if bp s slot≠0 then bp s slot else if k<0\/(eG s.1 (ax s slot)).1<=k then 4 else if other<0\/(s.2.1.length:Int)<=other then 5 else 0:=rfl
 have hO:aV s slot=if bp s slot≠0 then (0,ij,bp s slot) else (ax s slot,(gW s.1 (ax s slot)).1,0):=rfl
 by_cases h0:bp s slot≠0
 ·rw [if_pos h0] at hR hO;rw [hO,hR];simp only;refine ⟨trivial,fun _=>?_,fun h=>absurd h0 (of_decide_eq_false h)⟩;rw [if_pos h0];exact ⟨by trivial,by trivial,trivial⟩
 ·obtain ⟨R,_,_,O⟩:=nJ hw (by omega:bp s slot=0);have hal:=R.al;rw [if_neg h0] at hR hO;rw [hO];simp only;rw [O.refs];have:=O.x0;have:=O.r0;have:=O.b0;have:=O.fit;refine ⟨trivial,fun h=>absurd rfl (of_decide_eq_true h),fun _=>⟨fun h1=>?_,fun h1=>⟨fun h2=>?_,fun h2=>?_⟩⟩⟩
  ·rw [if_pos (by simpa using h1)] at hR;rw [hR];exact ⟨by trivial,by trivial,trivial⟩
  ·have h1:¬ (k<0\/(eG s.1 (ax s slot)).1<=k):=by simpa using h1
   rw [if_neg h1,if_pos (by simpa using h2)] at hR;rw [hR];exact ⟨by trivial,by trivial,trivial⟩
  ·have h1:¬ (k<0\/(eG s.1 (ax s slot)).1<=k):=by simpa using h1
   have h2:¬ (other<0\/(s.2.1.length:Int)<=other):=by simpa using h2
   rw [if_neg h1,if_neg h2] at hR;rw [hR];simp only [am];exact ⟨by omega,by omega,by simp,by trivial,trivial⟩
theorem BO:IM.ok Tryz.prog 137:=aD (ann:=co) (ae jR ap) Tryz.func137 (by kernel_rfl) Gd
theorem yJ {s:aj} {slot k other:Int} (hw:∀ x∈s.1,am .u64 x) (h:bv s slot k other=0):Right s/\ObjAt s (ax s slot)/\0<=k/\k<(eG s.1 (ax s slot)).1/\0<=other/\other<s.2.1.length:=by
 unfold bv at h;split at h
 ·omega
 rename_i h0;split at h
 ·omega
 split at h
 ·omega
 obtain ⟨R,_,_,O⟩:=nJ hw (by omega:bp s slot=0);exact ⟨R,O,by omega,by omega,by omega,by omega⟩
def fN:Nat->Option LoopGen
 | 3000083=>some eE
 | 8404000001=>some eE
 | _=>none
def kh (s:aj) (slot k into:Int):aj×Int:=if bv s slot k into≠0 then (aA,bv s slot k into) else ((s.1,s.2.1.set into.toNat (s.1.getD (ax s slot+1+k).toNat 0 - 1),s.2.2),0)
def GI:Spec:={ Ts:=[aM,ty_I,ty_I,ty_I],Rs:=[.dat aM,.dat ty_I],al:=true,pre:=fun _=>True,F:=fun ((s,slot,k,into):aj×Int×Int×Int)=>kh s slot k into }
def wJ:Prop :=
  ∀ (x:(List Int×List Int×List (Int×Int)×List (Int×Bool×Int))×Int×Int×Int),(pO x.1)/\am .i64 x.2.1/\am .i64 x.2.2.1/\am .i64 x.2.2.2->True->True/\(decide (bv x.1 x.2.1 x.2.2.1 x.2.2.2≠0)=true->(([]:List Int),([]:List Int),([]:List (Int×Int)),([]:List (Int×Bool×Int)))=(kh x.1 x.2.1 x.2.2.1 x.2.2.2).1/\bv x.1 x.2.1 x.2.2.1 x.2.2.2=(kh x.1 x.2.1 x.2.2.1 x.2.2.2).2/\True)/\(decide (bv x.1 x.2.1 x.2.2.1 x.2.2.2≠0)=false->∀ (_:Array Value),True/\True/\True/\x.1.2.1=x.1.2.1/\x.1.2.2.1=x.1.2.2.1/\x.1.2.2.1=x.1.2.2.1/\x.1.2.2.2=x.1.2.2.2/\x.1.2.2.2=x.1.2.2.2/\x.1.2.2.2=x.1.2.2.2/\True/\(0<=if bv x.1 x.2.1 x.2.2.1 x.2.2.2≠0 then (0:Int) else ax x.1 x.2.1+1+x.2.2.1)/\(if bv x.1 x.2.1 x.2.2.1 x.2.2.2≠0 then (0:Int) else ax x.1 x.2.1+1+x.2.2.1)<(x.1.1.length:Int)/\(if bv x.1 x.2.1 x.2.2.1 x.2.2.2≠0 then (0:Int) else ax x.1 x.2.1+1+x.2.2.1).toNat<x.1.1.length/\am .i64 (IntKind.i64.wrap (x.1.1.getD (if bv x.1 x.2.1 x.2.2.1 x.2.2.2≠0 then (0:Int) else ax x.1 x.2.1+1+x.2.2.1).toNat 0) - 1)/\0<=x.2.2.2/\x.2.2.2<(x.1.2.1.length:Int)/\x.2.2.2.toNat<x.1.2.1.length/\(x.1.1,x.1.2.1.set x.2.2.2.toNat (IntKind.i64.wrap (x.1.1.getD (if bv x.1 x.2.1 x.2.2.1 x.2.2.2≠0 then (0:Int) else ax x.1 x.2.1+1+x.2.2.1).toNat 0) - 1),x.1.2.2)=(kh x.1 x.2.1 x.2.2.1 x.2.2.2).1/\0=(kh x.1 x.2.1 x.2.2.1 x.2.2.2).2/\True)
theorem Dd:wJ:=by
 unfold wJ;intro ⟨s,slot,k,into⟩ ⟨⟨⟨hb,hw⟩,_⟩,_⟩ _;simp only at hb hw ⊢;have hF:kh s slot k into=if bv s slot k into≠0 then (aA,bv s slot k into) else ((s.1,s.2.1.set into.toNat (s.1.getD (ax s slot+1+k).toNat 0 - 1),s.2.2),0):=rfl
 refine ⟨trivial,fun h=>?_,fun h tm=>⟨trivial,trivial,trivial,by trivial,by trivial,by trivial,by trivial,by trivial,by trivial,trivial,?_⟩⟩
 ·rw [hF,if_pos (of_decide_eq_true h)];exact ⟨by trivial,by trivial,trivial⟩
 ·have h0:=of_decide_eq_false h;obtain ⟨R,O,k0,k1,o0,o1⟩:=yJ hw (by omega:bv s slot k into=0);have hv:=R.refWord O.isb k0 k1;have:=O.x0;have:=O.b0;have:=O.fit;rw [hF,if_neg h0,if_neg h0];have hwr:IntKind.i64.wrap (s.1.getD (ax s slot+1+k).toNat 0)=s.1.getD (ax s slot+1+k).toNat 0:=m4 (by omega) (by omega);rw [hwr];generalize s.1.getD (ax s slot+1+k).toNat 0=v at *;simp only [am];exact ⟨by omega,by omega,by omega,by omega,o0,o1,by omega,by trivial,by trivial,trivial⟩
theorem Hi:GI.ok Tryz.prog 62:=aD (ann:=fN) (ae BO (ae bI (ae ci (ae bZ (ae bJ ap))))) Tryz.func62 (by kernel_rfl) Dd
def kc (s:aj) (slot k other:Int):aj×Int:=if bv s slot k other≠0 then (aA,bv s slot k other) else ((s.1.set (ax s slot+1+k).toNat (ax s other+1),s.2),0)
def GH:Spec:={ Ts:=[aM,ty_I,ty_I,ty_I],Rs:=[.dat aM,.dat ty_I],al:=true,pre:=fun _=>True,F:=fun ((s,slot,k,other):aj×Int×Int×Int)=>kc s slot k other }
def wI:Prop :=
  ∀ (x:(List Int×List Int×List (Int×Int)×List (Int×Bool×Int))×Int×Int×Int),(pO x.1)/\am .i64 x.2.1/\am .i64 x.2.2.1/\am .i64 x.2.2.2->True->True/\(decide (bv x.1 x.2.1 x.2.2.1 x.2.2.2≠0)=true->(([]:List Int),([]:List Int),([]:List (Int×Int)),([]:List (Int×Bool×Int)))=(kc x.1 x.2.1 x.2.2.1 x.2.2.2).1/\bv x.1 x.2.1 x.2.2.1 x.2.2.2=(kc x.1 x.2.1 x.2.2.1 x.2.2.2).2/\True)/\(decide (bv x.1 x.2.1 x.2.2.1 x.2.2.2≠0)=false->∀ (_:Array Value),True/\True/\True/\x.1.2.1=x.1.2.1/\x.1.2.2.1=x.1.2.2.1/\x.1.2.2.1=x.1.2.2.1/\x.1.2.2.2=x.1.2.2.2/\x.1.2.2.2=x.1.2.2.2/\x.1.2.2.2=x.1.2.2.2/\True/\0<=x.2.2.2/\x.2.2.2<(x.1.2.1.length:Int)/\x.2.2.2.toNat<x.1.2.1.length/\am .i64 (x.1.2.1.getD x.2.2.2.toNat 0+1)/\(0<=if bv x.1 x.2.1 x.2.2.1 x.2.2.2≠0 then (0:Int) else ax x.1 x.2.1+1+x.2.2.1)/\(if bv x.1 x.2.1 x.2.2.1 x.2.2.2≠0 then (0:Int) else ax x.1 x.2.1+1+x.2.2.1)<(x.1.1.length:Int)/\(if bv x.1 x.2.1 x.2.2.1 x.2.2.2≠0 then (0:Int) else ax x.1 x.2.1+1+x.2.2.1).toNat<x.1.1.length/\(x.1.1.set (if bv x.1 x.2.1 x.2.2.1 x.2.2.2≠0 then (0:Int) else ax x.1 x.2.1+1+x.2.2.1).toNat (IntKind.u64.wrap (x.1.2.1.getD x.2.2.2.toNat 0+1)),x.1.2)=(kc x.1 x.2.1 x.2.2.1 x.2.2.2).1/\0=(kc x.1 x.2.1 x.2.2.1 x.2.2.2).2/\True)
theorem Dc:wI:=by
 unfold wI;intro ⟨s,slot,k,other⟩ ⟨⟨⟨hb,hw⟩,_⟩,_⟩ _;simp only at hb hw ⊢;have hF:kc s slot k other=if bv s slot k other≠0 then (aA,bv s slot k other) else ((s.1.set (ax s slot+1+k).toNat (ax s other+1),s.2),0):=rfl
 refine ⟨trivial,fun h=>?_,fun h tm=>⟨trivial,trivial,trivial,by trivial,by trivial,by trivial,by trivial,by trivial,by trivial,trivial,?_⟩⟩
 ·rw [hF,if_pos (of_decide_eq_true h)];exact ⟨by trivial,by trivial,trivial⟩
 ·have h0:=of_decide_eq_false h;obtain ⟨R,O,k0,k1,o0,o1⟩:=yJ hw (by omega:bv s slot k other=0);have hv:=R.rootIn o0 o1;have hal:=R.al;have:=O.x0;have:=O.b0;have:=O.fit;rw [hF,if_neg h0,if_neg h0];have hwr:IntKind.u64.wrap (s.2.1.getD other.toNat 0+1)=ax s other+1:=fO (by omega) (by omega);rw [hwr];generalize s.2.1.getD other.toNat 0=v at *;simp only [am];exact ⟨o0,o1,by omega,by omega,by omega,by omega,by omega,by trivial,by trivial,trivial⟩
theorem Hh:GH.ok Tryz.prog 63:=aD (ann:=fN) (ae BO (ae bI (ae ci (ae bZ (ae bJ ap))))) Tryz.func63 (by kernel_rfl) Dc
def aN (s:aj) (slot k:Int):Int:=if bp s slot≠0 then bp s slot else if k<0\/(eG s.1 (ax s slot)).2.1<=k then 4 else 0
def bE (s:aj) (at_ k:Int):Int:=at_+1+(eG s.1 at_).1+k
def GO:Spec:={ Ts:=[aM,ty_I,ty_I],Rs:=[.dat ty_I,.dat ty_I],pre:=fun _=>True,F:=fun ((s,slot,k):aj×Int×Int)=>((if aN s slot k≠0 then 0 else bE s (ax s slot) k,aN s slot k):Int×Int) }
def wP:Prop :=
  ∀ (x:(List Int×List Int×List (Int×Int)×List (Int×Bool×Int))×Int×Int),(pO x.1)/\am .i64 x.2.1/\am .i64 x.2.2->True->True/\(decide ((aV x.1 x.2.1).2.2≠0)=true->((0:Int)=if aN x.1 x.2.1 x.2.2≠0 then (0:Int) else bE x.1 (ax x.1 x.2.1) x.2.2)/\(aV x.1 x.2.1).2.2=aN x.1 x.2.1 x.2.2/\True)/\(decide ((aV x.1 x.2.1).2.2≠0)=false->((decide (x.2.2<0)||decide ((↑(aV x.1 x.2.1).2.1.2.2.1.length:Int)<=x.2.2))=true->((0:Int)=if aN x.1 x.2.1 x.2.2≠0 then (0:Int) else bE x.1 (ax x.1 x.2.1) x.2.2)/\4=aN x.1 x.2.1 x.2.2/\True)/\((decide (x.2.2<0)||decide ((↑(aV x.1 x.2.1).2.1.2.2.1.length:Int)<=x.2.2))=false->am .i64 ((aV x.1 x.2.1).1+1)/\am .i64 ((aV x.1 x.2.1).1+1+(↑(aV x.1 x.2.1).2.1.2.1.length:Int))/\am .i64 ((aV x.1 x.2.1).1+1+(↑(aV x.1 x.2.1).2.1.2.1.length:Int)+x.2.2)/\((aV x.1 x.2.1).1+1+(↑(aV x.1 x.2.1).2.1.2.1.length:Int)+x.2.2=if aN x.1 x.2.1 x.2.2≠0 then (0:Int) else bE x.1 (ax x.1 x.2.1) x.2.2)/\0=aN x.1 x.2.1 x.2.2/\True))
theorem Dj:wP:=by
 unfold wP;intro ⟨s,slot,k⟩ ⟨⟨⟨hb,hw⟩,_⟩,_⟩ _;simp only at hb hw ⊢;have hR:aN s slot k=if bp s slot≠0 then bp s slot else if k<0\/(eG s.1 (ax s slot)).2.1<=k then 4 else 0:=rfl
 have hO:aV s slot=if bp s slot≠0 then (0,ij,bp s slot) else (ax s slot,(gW s.1 (ax s slot)).1,0):=rfl
 by_cases h0:bp s slot≠0
 ·rw [if_pos h0] at hR hO;rw [hO,hR];simp only;refine ⟨trivial,fun _=>?_,fun h=>absurd h0 (of_decide_eq_false h)⟩;rw [if_pos h0];exact ⟨by trivial,by trivial,trivial⟩
 ·obtain ⟨R,_,_,O⟩:=nJ hw (by omega:bp s slot=0);have hal:=R.al;rw [if_neg h0] at hR hO;rw [hO];simp only;rw [O.body,O.refs];have:=O.x0;have:=O.r0;have:=O.b0;have:=O.fit;refine ⟨trivial,fun h=>absurd rfl (of_decide_eq_true h),fun _=>⟨fun h1=>?_,fun h1=>?_⟩⟩
  ·rw [if_pos (by simpa using h1)] at hR;rw [hR];exact ⟨by trivial,by trivial,trivial⟩
  ·have h1:¬ (k<0\/(eG s.1 (ax s slot)).2.1<=k):=by simpa using h1
   rw [if_neg h1] at hR;rw [hR];simp only [am];exact ⟨by omega,by omega,by omega,by simp [bE],by trivial,trivial⟩
theorem xf:GO.ok Tryz.prog 138:=aD (ann:=co) (ae jR ap) Tryz.func138 (by kernel_rfl) Dj
theorem zK {s:aj} {slot k:Int} (hw:∀ x∈s.1,am .u64 x) (h:aN s slot k=0):Right s/\ObjAt s (ax s slot)/\0<=k/\k<(eG s.1 (ax s slot)).2.1/\0<=bE s (ax s slot) k/\bE s (ax s slot) k<s.1.length:=by
 unfold aN at h;split at h
 ·omega
 rename_i h0;split at h
 ·omega
 obtain ⟨R,_,_,O⟩:=nJ hw (by omega:bp s slot=0);have:=O.x0;have:=O.r0;have:=O.fit;unfold bE;exact ⟨R,O,by omega,by omega,by omega,by omega⟩
def IO:Spec:={ Ts:=[aM,ty_I,ty_I],Rs:=[.dat bj,.dat ty_I],pre:=fun _=>True,F:=fun ((s,slot,k):aj×Int×Int)=>((if aN s slot k≠0 then 0 else s.1.getD (bE s (ax s slot) k).toNat 0,aN s slot k):Int×Int) }
def Bs:Prop :=
  ∀ (x:(List Int×List Int×List (Int×Int)×List (Int×Bool×Int))×Int×Int),(pO x.1)/\am .i64 x.2.1/\am .i64 x.2.2->True->True/\(decide (aN x.1 x.2.1 x.2.2≠0)=true->((0:Int)=if aN x.1 x.2.1 x.2.2≠0 then (0:Int) else x.1.1.getD (bE x.1 (ax x.1 x.2.1) x.2.2).toNat 0)/\aN x.1 x.2.1 x.2.2=aN x.1 x.2.1 x.2.2/\True)/\(decide (aN x.1 x.2.1 x.2.2≠0)=false->(0<=if aN x.1 x.2.1 x.2.2≠0 then (0:Int) else bE x.1 (ax x.1 x.2.1) x.2.2)/\(if aN x.1 x.2.1 x.2.2≠0 then (0:Int) else bE x.1 (ax x.1 x.2.1) x.2.2)<(x.1.1.length:Int)/\(x.1.1.getD (if aN x.1 x.2.1 x.2.2≠0 then (0:Int) else bE x.1 (ax x.1 x.2.1) x.2.2).toNat (0:Int)=if aN x.1 x.2.1 x.2.2≠0 then (0:Int) else x.1.1.getD (bE x.1 (ax x.1 x.2.1) x.2.2).toNat 0)/\0=aN x.1 x.2.1 x.2.2/\True)
theorem Gf:Bs:=by
 unfold Bs;intro ⟨s,slot,k⟩ ⟨⟨⟨hb,hw⟩,_⟩,_⟩ _;simp only at hb hw ⊢;refine ⟨trivial,fun h=>?_,fun h=>?_⟩
 ·rw [if_pos (of_decide_eq_true h)];exact ⟨by trivial,by trivial,trivial⟩
 ·have h0:=of_decide_eq_false h;obtain ⟨_,_,_,_,b0,b1⟩:=zK hw (by omega:aN s slot k=0);rw [if_neg h0];exact ⟨b0,b1,by rw [if_neg h0],by omega,trivial⟩
theorem Jn:IO.ok Tryz.prog 64:=aD (ann:=co) (ae xf ap) Tryz.func64 (by kernel_rfl) Gf
def jp (s:aj) (slot k v:Int):aj×Int:=if aN s slot k≠0 then (aA,aN s slot k) else ((s.1.set (bE s (ax s slot) k).toNat v,s.2),0)
def GJ:Spec:={ Ts:=[aM,ty_I,ty_I,bj],Rs:=[.dat aM,.dat ty_I],al:=true,pre:=fun _=>True,F:=fun ((s,slot,k,v):aj×Int×Int×Int)=>jp s slot k v }
def wK:Prop :=
  ∀ (x:(List Int×List Int×List (Int×Int)×List (Int×Bool×Int))×Int×Int×Int),(pO x.1)/\am .i64 x.2.1/\am .i64 x.2.2.1/\am .u64 x.2.2.2->True->True/\(decide (aN x.1 x.2.1 x.2.2.1≠0)=true->(([]:List Int),([]:List Int),([]:List (Int×Int)),([]:List (Int×Bool×Int)))=(jp x.1 x.2.1 x.2.2.1 x.2.2.2).1/\aN x.1 x.2.1 x.2.2.1=(jp x.1 x.2.1 x.2.2.1 x.2.2.2).2/\True)/\(decide (aN x.1 x.2.1 x.2.2.1≠0)=false->∀ (_:Array Value),True/\True/\True/\x.1.2.1=x.1.2.1/\x.1.2.2.1=x.1.2.2.1/\x.1.2.2.1=x.1.2.2.1/\x.1.2.2.2=x.1.2.2.2/\x.1.2.2.2=x.1.2.2.2/\x.1.2.2.2=x.1.2.2.2/\True/\(0<=if aN x.1 x.2.1 x.2.2.1≠0 then (0:Int) else bE x.1 (ax x.1 x.2.1) x.2.2.1)/\(if aN x.1 x.2.1 x.2.2.1≠0 then (0:Int) else bE x.1 (ax x.1 x.2.1) x.2.2.1)<(x.1.1.length:Int)/\(if aN x.1 x.2.1 x.2.2.1≠0 then (0:Int) else bE x.1 (ax x.1 x.2.1) x.2.2.1).toNat<x.1.1.length/\(x.1.1.set (if aN x.1 x.2.1 x.2.2.1≠0 then (0:Int) else bE x.1 (ax x.1 x.2.1) x.2.2.1).toNat x.2.2.2,x.1.2)=(jp x.1 x.2.1 x.2.2.1 x.2.2.2).1/\0=(jp x.1 x.2.1 x.2.2.1 x.2.2.2).2/\True)
theorem De:wK:=by
 unfold wK;intro ⟨s,slot,k,v⟩ ⟨⟨⟨hb,hw⟩,_⟩,_⟩ _;simp only at hb hw ⊢;have hF:jp s slot k v=if aN s slot k≠0 then (aA,aN s slot k) else ((s.1.set (bE s (ax s slot) k).toNat v,s.2),0):=rfl
 refine ⟨trivial,fun h=>?_,fun h tm=>⟨trivial,trivial,trivial,by trivial,by trivial,by trivial,by trivial,by trivial,by trivial,trivial,?_⟩⟩
 ·rw [hF,if_pos (of_decide_eq_true h)];exact ⟨by trivial,by trivial,trivial⟩
 ·have h0:=of_decide_eq_false h;obtain ⟨_,_,_,_,b0,b1⟩:=zK hw (by omega:aN s slot k=0);rw [hF,if_neg h0,if_neg h0];exact ⟨b0,b1,by omega,by trivial,by trivial,trivial⟩
theorem Hj:GJ.ok Tryz.prog 66:=aD (ann:=fN) (ae xf (ae bI (ae ci (ae bZ (ae bJ ap))))) Tryz.func66 (by kernel_rfl) De
def ix (s:aj) (slot:Int):aj×Int×Int:=if bp s slot≠0 then (aA,0,bp s slot) else if (gm s.2.2.1 (ax s slot)).2.2≠0 then (aA,0,(gm s.2.2.1 (ax s slot)).2.2) else ((s.1,s.2.1,(gm s.2.2.1 (ax s slot)).1,s.2.2.2),ax s slot,0)
def GK:Spec:={ Ts:=[aM,ty_I],Rs:=[.dat aM,.dat ty_I,.dat ty_I],al:=true,pre:=fun _=>True,F:=fun ((s,slot):aj×Int)=>ix s slot }
def wL:Prop :=
  ∀ (x:(List Int×List Int×List (Int×Int)×List (Int×Bool×Int))×Int),(pO x.1)/\am .i64 x.2->True->True/\(decide ((aV x.1 x.2).2.2≠0)=true->(([]:List Int),([]:List Int),([]:List (Int×Int)),([]:List (Int×Bool×Int)))=(ix x.1 x.2).1/\0=(ix x.1 x.2).2.1/\(aV x.1 x.2).2.2=(ix x.1 x.2).2.2/\True)/\(decide ((aV x.1 x.2).2.2≠0)=false->True/\(decide ((gm x.1.2.2.1 (aV x.1 x.2).1).2.2≠0)=true->(([]:List Int),([]:List Int),([]:List (Int×Int)),([]:List (Int×Bool×Int)))=(ix x.1 x.2).1/\0=(ix x.1 x.2).2.1/\(gm x.1.2.2.1 (aV x.1 x.2).1).2.2=(ix x.1 x.2).2.2/\True)/\(decide ((gm x.1.2.2.1 (aV x.1 x.2).1).2.2≠0)=false->∀ (_:Array Value),True/\True/\True/\x.1.2.1=x.1.2.1/\x.1.2.2.1=x.1.2.2.1/\x.1.2.2.1=x.1.2.2.1/\x.1.2.2.2=x.1.2.2.2/\x.1.2.2.2=x.1.2.2.2/\x.1.2.2.2=x.1.2.2.2/\True/\(x.1.1,x.1.2.1,(gm x.1.2.2.1 (aV x.1 x.2).1).1,x.1.2.2.2)=(ix x.1 x.2).1/\(aV x.1 x.2).1=(ix x.1 x.2).2.1/\0=(ix x.1 x.2).2.2/\True))
theorem Df:wL:=by
 unfold wL;intro ⟨s,slot⟩ hx _;simp only at hx ⊢;have hF:ix s slot=if bp s slot≠0 then (aA,0,bp s slot) else if (gm s.2.2.1 (ax s slot)).2.2≠0 then (aA,0,(gm s.2.2.1 (ax s slot)).2.2) else ((s.1,s.2.1,(gm s.2.2.1 (ax s slot)).1,s.2.2.2),ax s slot,0):=rfl
 have hO:aV s slot=if bp s slot≠0 then (0,ij,bp s slot) else (ax s slot,(gW s.1 (ax s slot)).1,0):=rfl
 by_cases h0:bp s slot≠0
 ·rw [if_pos h0] at hF hO;rw [hO,hF];exact ⟨trivial,fun _=>⟨by trivial,by trivial,by trivial,trivial⟩,fun h=>absurd h0 (of_decide_eq_false h)⟩
 ·rw [if_neg h0] at hF hO;rw [hO,hF];simp only;refine ⟨trivial,fun h=>absurd rfl (of_decide_eq_true h),fun _=>⟨trivial,fun h=>?_,fun h tm=>⟨trivial,trivial,trivial,by trivial,by trivial,by trivial,by trivial,by trivial,by trivial,trivial,?_⟩⟩⟩
  ·rw [if_pos (of_decide_eq_true h)];exact ⟨by trivial,by trivial,by trivial,trivial⟩
  ·rw [if_neg (of_decide_eq_false h)];exact ⟨by trivial,by trivial,by trivial,trivial⟩
theorem Hk:GK.ok Tryz.prog 67:=aD (ann:=fN) (ae jR (ae Ms (ae bI (ae ci (ae bZ (ae bJ ap)))))) Tryz.func67 (by kernel_rfl) Df
def cP (s:aj) (at_:Int):aj×Int:=if aw s≠0 then (aA,aw s) else if (dC s.2.2.1 at_).2.2≠0 then (aA,(dC s.2.2.1 at_).2.2) else ((s.1,s.2.1,(dC s.2.2.1 at_).1,s.2.2.2),0)
def AE:Spec:={ Ts:=[aM,ty_I],Rs:=[.dat aM,.dat ty_I],al:=true,pre:=fun _=>True,F:=fun ((s,at_):aj×Int)=>cP s at_ }
def qZ:Prop :=
  ∀ (x:(List Int×List Int×List (Int×Int)×List (Int×Bool×Int))×Int),(pO x.1)/\am .i64 x.2->True->True/\(decide (aw x.1≠0)=true->(([]:List Int),([]:List Int),([]:List (Int×Int)),([]:List (Int×Bool×Int)))=(cP x.1 x.2).1/\aw x.1=(cP x.1 x.2).2/\True)/\(decide (aw x.1≠0)=false->True/\(decide ((dC x.1.2.2.1 x.2).2.2≠0)=true->(([]:List Int),([]:List Int),([]:List (Int×Int)),([]:List (Int×Bool×Int)))=(cP x.1 x.2).1/\(dC x.1.2.2.1 x.2).2.2=(cP x.1 x.2).2/\True)/\(decide ((dC x.1.2.2.1 x.2).2.2≠0)=false->∀ (_:Array Value),True/\True/\True/\x.1.2.1=x.1.2.1/\x.1.2.2.1=x.1.2.2.1/\x.1.2.2.1=x.1.2.2.1/\x.1.2.2.2=x.1.2.2.2/\x.1.2.2.2=x.1.2.2.2/\x.1.2.2.2=x.1.2.2.2/\True/\(x.1.1,x.1.2.1,(dC x.1.2.2.1 x.2).1,x.1.2.2.2)=(cP x.1 x.2).1/\0=(cP x.1 x.2).2/\True))
theorem xK:qZ:=by
 unfold qZ;intro ⟨s,at_⟩ hx _;simp only at hx ⊢;have hF:cP s at_=if aw s≠0 then (aA,aw s) else if (dC s.2.2.1 at_).2.2≠0 then (aA,(dC s.2.2.1 at_).2.2) else ((s.1,s.2.1,(dC s.2.2.1 at_).1,s.2.2.2),0):=rfl
 rw [hF];refine ⟨trivial,fun h=>?_,fun h=>⟨trivial,fun h1=>?_,fun h1 tm=>⟨trivial,trivial,trivial,by trivial,by trivial,by trivial,by trivial,by trivial,by trivial,trivial,?_⟩⟩⟩
 ·rw [if_pos (of_decide_eq_true h)];exact ⟨by trivial,by trivial,trivial⟩
 ·rw [if_neg (of_decide_eq_false h),if_pos (of_decide_eq_true h1)];exact ⟨by trivial,by trivial,trivial⟩
 ·rw [if_neg (of_decide_eq_false h),if_neg (of_decide_eq_false h1)];exact ⟨by trivial,by trivial,trivial⟩
theorem BN:AE.ok Tryz.prog 68:=aD (ann:=fN) (ae gg (ae Lg (ae bI (ae ci (ae bZ (ae bJ ap)))))) Tryz.func68 (by kernel_rfl) xK
def cg (s:aj) (at_ k:Int):Int:=if aw s≠0 then aw s else if fv (cH s) at_=false then 8 else if k<0\/(eG s.1 at_).2.1<=k then 4 else 0
def GL:Spec:={ Ts:=[aM,ty_I,ty_I],Rs:=[.dat bj,.dat ty_I],pre:=fun _=>True,F:=fun ((s,at_,k):aj×Int×Int)=>((if cg s at_ k≠0 then 0 else s.1.getD (bE s at_ k).toNat 0,cg s at_ k):Int×Int) }
def wM:Prop :=
  ∀ (x:(List Int×List Int×List (Int×Int)×List (Int×Bool×Int))×Int×Int),(pO x.1)/\am .i64 x.2.1/\am .i64 x.2.2->True->True/\(decide (aw x.1≠0)=true->((0:Int)=if cg x.1 x.2.1 x.2.2≠0 then (0:Int) else x.1.1.getD (bE x.1 x.2.1 x.2.2).toNat 0)/\aw x.1=cg x.1 x.2.1 x.2.2/\True)/\(decide (aw x.1≠0)=false->True/\True/\((!fv (List.map (fun (x:bo)=>x.1) x.1.2.2.1) x.2.1)=true->((0:Int)=if cg x.1 x.2.1 x.2.2≠0 then (0:Int) else x.1.1.getD (bE x.1 x.2.1 x.2.2).toNat 0)/\8=cg x.1 x.2.1 x.2.2/\True)/\((!fv (List.map (fun (x:bo)=>x.1) x.1.2.2.1) x.2.1)=false->True/\((decide (x.2.2<0)||decide ((↑(gW x.1.1 x.2.1).1.2.2.1.length:Int)<=x.2.2))=true->((0:Int)=if cg x.1 x.2.1 x.2.2≠0 then (0:Int) else x.1.1.getD (bE x.1 x.2.1 x.2.2).toNat 0)/\4=cg x.1 x.2.1 x.2.2/\True)/\((decide (x.2.2<0)||decide ((↑(gW x.1.1 x.2.1).1.2.2.1.length:Int)<=x.2.2))=false->0<=x.2.2/\x.2.2<(↑(gW x.1.1 x.2.1).1.2.2.1.length:Int)/\((gW x.1.1 x.2.1).1.2.2.1.getD x.2.2.toNat (0:Int)=if cg x.1 x.2.1 x.2.2≠0 then (0:Int) else x.1.1.getD (bE x.1 x.2.1 x.2.2).toNat 0)/\0=cg x.1 x.2.1 x.2.2/\True)))
theorem Dg:wM:=by
 unfold wM;intro ⟨s,at_,k⟩ ⟨⟨⟨hb,hw⟩,_⟩,_⟩ _;simp only at hb hw ⊢;have hP:cg s at_ k=if aw s≠0 then aw s else if fv (cH s) at_=false then 8 else if k<0\/(eG s.1 at_).2.1<=k then 4 else 0:=rfl
 have hpo:List.map (fun (x:bo)=>x.1) s.2.2.1=cH s:=rfl;rw [hpo];refine ⟨trivial,fun h=>?_,fun h=>⟨trivial,trivial,fun h1=>?_,fun h1=>⟨trivial,fun h2=>?_,fun h2=>?_⟩⟩⟩
 ·have h:=of_decide_eq_true h;rw [if_pos h] at hP;rw [hP,if_pos h];exact ⟨by trivial,by trivial,trivial⟩
 all_goals have h:=of_decide_eq_false h
 ·rw [if_neg h,if_pos (by simpa using h1)] at hP;rw [hP];exact ⟨by trivial,by trivial,trivial⟩
 all_goals
  have h1:fv (cH s) at_=true:=by simpa using h1
  have R:=gL hw (by omega:aw s=0);have O:=R.obj (R.pinsIn at_ (cu.1 h1));rw [if_neg h,if_neg (by rw [h1]; simp)] at hP;rw [O.body] at h2
 ·rw [if_pos (by simpa using h2)] at hP;rw [hP];exact ⟨by trivial,by trivial,trivial⟩
 ·have h2:¬ (k<0\/(eG s.1 at_).2.1<=k):=by simpa using h2
  have l:=bW O.isb;rw [if_neg h2] at hP;rw [hP,O.body];have hg:=Ib (a:=s.1) (at_:=at_) (k:=k) (by omega) (by omega) l.2.1 O.x0 O.r0;have e:(gW s.1 at_).1.2.2.1=gE s.1 at_:=by rw [O.at_]; rfl
  rw [e,<- hg];exact ⟨by omega,by omega,by simp [bE],by trivial,trivial⟩
theorem Hl:GL.ok Tryz.prog 69:=aD (ann:=co) (ae gg (ae jQ (ae yS (ae mR ap)))) Tryz.func69 (by kernel_rfl) Dg
def fh (s:aj) (slot:Int):aj×Int×Int:=if bp s slot≠0 then (aA,0,bp s slot) else if (openF s.2.2.2 (ax s slot)).2.2≠0 then (aA,0,(openF s.2.2.2 (ax s slot)).2.2) else ((s.1,s.2.1,s.2.2.1,(openF s.2.2.2 (ax s slot)).1),(openF s.2.2.2 (ax s slot)).2.1,0)
def DK:Spec:={ Ts:=[aM,ty_I],Rs:=[.dat aM,.dat bj,.dat ty_I],al:=true,pre:=fun _=>True,F:=fun ((s,slot):aj×Int)=>fh s slot }
def tD:Prop :=
  ∀ (x:(List Int×List Int×List (Int×Int)×List (Int×Bool×Int))×Int),(pO x.1)/\am .i64 x.2->True->True/\(decide ((aV x.1 x.2).2.2≠0)=true->(([]:List Int),([]:List Int),([]:List (Int×Int)),([]:List (Int×Bool×Int)))=(fh x.1 x.2).1/\0=(fh x.1 x.2).2.1/\(aV x.1 x.2).2.2=(fh x.1 x.2).2.2/\True)/\(decide ((aV x.1 x.2).2.2≠0)=false->True/\(decide ((openF x.1.2.2.2 (aV x.1 x.2).1).2.2≠0)=true->(([]:List Int),([]:List Int),([]:List (Int×Int)),([]:List (Int×Bool×Int)))=(fh x.1 x.2).1/\0=(fh x.1 x.2).2.1/\(openF x.1.2.2.2 (aV x.1 x.2).1).2.2=(fh x.1 x.2).2.2/\True)/\(decide ((openF x.1.2.2.2 (aV x.1 x.2).1).2.2≠0)=false->∀ (_:Array Value),True/\True/\True/\x.1.2.1=x.1.2.1/\x.1.2.2.1=x.1.2.2.1/\x.1.2.2.1=x.1.2.2.1/\x.1.2.2.2=x.1.2.2.2/\x.1.2.2.2=x.1.2.2.2/\x.1.2.2.2=x.1.2.2.2/\True/\(x.1.1,x.1.2.1,x.1.2.2.1,(openF x.1.2.2.2 (aV x.1 x.2).1).1)=(fh x.1 x.2).1/\(openF x.1.2.2.2 (aV x.1 x.2).1).2.1=(fh x.1 x.2).2.1/\0=(fh x.1 x.2).2.2/\True))
theorem Aa:tD:=by
 unfold tD;intro ⟨s,slot⟩ hx _;simp only at hx ⊢;have hF:fh s slot=if bp s slot≠0 then (aA,0,bp s slot) else if (openF s.2.2.2 (ax s slot)).2.2≠0 then (aA,0,(openF s.2.2.2 (ax s slot)).2.2) else ((s.1,s.2.1,s.2.2.1,(openF s.2.2.2 (ax s slot)).1),(openF s.2.2.2 (ax s slot)).2.1,0):=rfl
 have hO:aV s slot=if bp s slot≠0 then (0,ij,bp s slot) else (ax s slot,(gW s.1 (ax s slot)).1,0):=rfl
 by_cases h0:bp s slot≠0
 ·rw [if_pos h0] at hF hO;rw [hO,hF];exact ⟨trivial,fun _=>⟨by trivial,by trivial,by trivial,trivial⟩,fun h=>absurd h0 (of_decide_eq_false h)⟩
 ·rw [if_neg h0] at hF hO;rw [hO,hF];simp only;refine ⟨trivial,fun h=>absurd rfl (of_decide_eq_true h),fun _=>⟨trivial,fun h=>?_,fun h tm=>⟨trivial,trivial,trivial,by trivial,by trivial,by trivial,by trivial,by trivial,by trivial,trivial,?_⟩⟩⟩
  ·rw [if_pos (of_decide_eq_true h)];exact ⟨by trivial,by trivial,by trivial,trivial⟩
  ·rw [if_neg (of_decide_eq_false h)];exact ⟨by trivial,by trivial,by trivial,trivial⟩
theorem Ef:DK.ok Tryz.prog 70:=aD (ann:=fN) (ae jR (ae BX (ae bI (ae ci (ae bZ (ae bJ ap)))))) Tryz.func70 (by kernel_rfl) Aa
def bC (s:aj) (k:Int):Int:=if aw s≠0 then aw s else if k<0\/(s.2.1.length:Int)<=k then 5 else 0
def yl:Spec:={ Ts:=[aM,ty_I],Rs:=[.dat ty_I],pre:=fun _=>True,F:=fun ((s,k):aj×Int)=>bC s k }
def oK:Prop :=
  ∀ (x:(List Int×List Int×List (Int×Int)×List (Int×Bool×Int))×Int),(pO x.1)/\am .i64 x.2->True->True/\((decide (aw x.1=0)&&(decide (x.2<0)||decide ((x.1.2.1.length:Int)<=x.2)))=true->5=bC x.1 x.2/\True)/\((decide (aw x.1=0)&&(decide (x.2<0)||decide ((x.1.2.1.length:Int)<=x.2)))=false->aw x.1=bC x.1 x.2/\True)
theorem vh:oK:=by
 unfold oK;intro ⟨s,k⟩ hx _;simp only at hx ⊢;have hE:bC s k=if aw s≠0 then aw s else if k<0\/(s.2.1.length:Int)<=k then 5 else 0:=rfl
 rw [hE];refine ⟨trivial,fun h=>?_,fun h=>?_⟩
 ·simp only [Bool.and_eq_true,decide_eq_true_eq,Bool.or_eq_true] at h;rw [if_neg (by omega),if_pos h.2];exact ⟨rfl,trivial⟩
 ·simp only [Bool.and_eq_false_iff,decide_eq_false_iff_not,Bool.or_eq_false_iff] at h;by_cases h0:aw s≠0
  ·rw [if_pos h0];exact ⟨rfl,trivial⟩
  ·rw [if_neg h0,if_neg (by omega)];exact ⟨by omega,trivial⟩
theorem oZ:yl.ok Tryz.prog 144:=aD (ann:=co) (ae gg ap) Tryz.func144 (by kernel_rfl) vh
theorem Fg {s:aj} {k:Int} (h:bC s k=0):0<=k/\k<s.2.1.length:=by
 unfold bC at h;split at h
 ·omega
 split at h
 ·omega
 omega
def jl (s:aj) (name slot:Int):aj×Int:=if bC s slot≠0 then (aA,bC s slot) else if (gQ s.2.2.2 name).2≠0 then (aA,(gQ s.2.2.2 name).2) else ((s.1,s.2.1.set slot.toNat (gQ s.2.2.2 name).1,s.2.2),0)
def GG:Spec:={ Ts:=[aM,bj,ty_I],Rs:=[.dat aM,.dat ty_I],al:=true,pre:=fun _=>True,F:=fun ((s,name,slot):aj×Int×Int)=>jl s name slot }
def wH:Prop :=
  ∀ (x:(List Int×List Int×List (Int×Int)×List (Int×Bool×Int))×Int×Int),(pO x.1)/\am .u64 x.2.1/\am .i64 x.2.2->True->True/\(decide (bC x.1 x.2.2≠0)=true->(([]:List Int),([]:List Int),([]:List (Int×Int)),([]:List (Int×Bool×Int)))=(jl x.1 x.2.1 x.2.2).1/\bC x.1 x.2.2=(jl x.1 x.2.1 x.2.2).2/\True)/\(decide (bC x.1 x.2.2≠0)=false->True/\(decide ((gQ x.1.2.2.2 x.2.1).2≠0)=true->(([]:List Int),([]:List Int),([]:List (Int×Int)),([]:List (Int×Bool×Int)))=(jl x.1 x.2.1 x.2.2).1/\(gQ x.1.2.2.2 x.2.1).2=(jl x.1 x.2.1 x.2.2).2/\True)/\(decide ((gQ x.1.2.2.2 x.2.1).2≠0)=false->∀ (_:Array Value),True/\True/\True/\x.1.2.1=x.1.2.1/\x.1.2.2.1=x.1.2.2.1/\x.1.2.2.1=x.1.2.2.1/\x.1.2.2.2=x.1.2.2.2/\x.1.2.2.2=x.1.2.2.2/\x.1.2.2.2=x.1.2.2.2/\True/\0<=x.2.2/\x.2.2<(x.1.2.1.length:Int)/\x.2.2.toNat<x.1.2.1.length/\(x.1.1,x.1.2.1.set x.2.2.toNat (gQ x.1.2.2.2 x.2.1).1,x.1.2.2)=(jl x.1 x.2.1 x.2.2).1/\0=(jl x.1 x.2.1 x.2.2).2/\True))
theorem Db:wH:=by
 unfold wH;intro ⟨s,name,slot⟩ hx _;simp only at hx ⊢;have hF:jl s name slot=if bC s slot≠0 then (aA,bC s slot) else if (gQ s.2.2.2 name).2≠0 then (aA,(gQ s.2.2.2 name).2) else ((s.1,s.2.1.set slot.toNat (gQ s.2.2.2 name).1,s.2.2),0):=rfl
 rw [hF];refine ⟨trivial,fun h=>?_,fun h=>⟨trivial,fun h1=>?_,fun h1 tm=>⟨trivial,trivial,trivial,by trivial,by trivial,by trivial,by trivial,by trivial,by trivial,trivial,?_⟩⟩⟩
 ·rw [if_pos (of_decide_eq_true h)];exact ⟨by trivial,by trivial,trivial⟩
 ·rw [if_neg (of_decide_eq_false h),if_pos (of_decide_eq_true h1)];exact ⟨by trivial,by trivial,trivial⟩
 ·rw [if_neg (of_decide_eq_false h),if_neg (of_decide_eq_false h1)];have hs:=Fg (by simpa using of_decide_eq_false h:bC s slot=0);exact ⟨hs.1,hs.2,by omega,by trivial,by trivial,trivial⟩
theorem Hg:GG.ok Tryz.prog 71:=aD (ann:=fN) (ae oZ (ae BY (ae bI (ae ci (ae bZ (ae bJ ap)))))) Tryz.func71 (by kernel_rfl) Db
def fo (s:aj) (name:Int):aj×Int:=if aw s≠0 then (aA,aw s) else if (closeF s.2.2.2 name).2≠0 then (aA,(closeF s.2.2.2 name).2) else ((s.1,s.2.1,s.2.2.1,(closeF s.2.2.2 name).1),0)
def DJ:Spec:={ Ts:=[aM,bj],Rs:=[.dat aM,.dat ty_I],al:=true,pre:=fun _=>True,F:=fun ((s,name):aj×Int)=>fo s name }
def tC:Prop :=
  ∀ (x:(List Int×List Int×List (Int×Int)×List (Int×Bool×Int))×Int),(pO x.1)/\am .u64 x.2->True->True/\(decide (aw x.1≠0)=true->(([]:List Int),([]:List Int),([]:List (Int×Int)),([]:List (Int×Bool×Int)))=(fo x.1 x.2).1/\aw x.1=(fo x.1 x.2).2/\True)/\(decide (aw x.1≠0)=false->True/\(decide ((closeF x.1.2.2.2 x.2).2≠0)=true->(([]:List Int),([]:List Int),([]:List (Int×Int)),([]:List (Int×Bool×Int)))=(fo x.1 x.2).1/\(closeF x.1.2.2.2 x.2).2=(fo x.1 x.2).2/\True)/\(decide ((closeF x.1.2.2.2 x.2).2≠0)=false->∀ (_:Array Value),True/\True/\True/\x.1.2.1=x.1.2.1/\x.1.2.2.1=x.1.2.2.1/\x.1.2.2.1=x.1.2.2.1/\x.1.2.2.2=x.1.2.2.2/\x.1.2.2.2=x.1.2.2.2/\x.1.2.2.2=x.1.2.2.2/\True/\(x.1.1,x.1.2.1,x.1.2.2.1,(closeF x.1.2.2.2 x.2).1)=(fo x.1 x.2).1/\0=(fo x.1 x.2).2/\True))
theorem z8:tC:=by
 unfold tC;intro ⟨s,name⟩ hx _;simp only at hx ⊢;have hF:fo s name=if aw s≠0 then (aA,aw s) else if (closeF s.2.2.2 name).2≠0 then (aA,(closeF s.2.2.2 name).2) else ((s.1,s.2.1,s.2.2.1,(closeF s.2.2.2 name).1),0):=rfl
 rw [hF];refine ⟨trivial,fun h=>?_,fun h=>⟨trivial,fun h1=>?_,fun h1 tm=>⟨trivial,trivial,trivial,by trivial,by trivial,by trivial,by trivial,by trivial,by trivial,trivial,?_⟩⟩⟩
 ·rw [if_pos (of_decide_eq_true h)];exact ⟨by trivial,by trivial,trivial⟩
 ·rw [if_neg (of_decide_eq_false h),if_pos (of_decide_eq_true h1)];exact ⟨by trivial,by trivial,trivial⟩
 ·rw [if_neg (of_decide_eq_false h),if_neg (of_decide_eq_false h1)];exact ⟨by trivial,by trivial,trivial⟩
theorem Ee:DJ.ok Tryz.prog 72:=aD (ann:=fN) (ae gg (ae yT (ae bI (ae ci (ae bZ (ae bJ ap)))))) Tryz.func72 (by kernel_rfl) z8
def eX (s:aj) (slot:Int):aj×Int:=if bC s slot≠0 then (aA,bC s slot) else ((s.1,s.2.1.set slot.toNat (-1),s.2.2),0)
def DL:Spec:={ Ts:=[aM,ty_I],Rs:=[.dat aM,.dat ty_I],al:=true,pre:=fun _=>True,F:=fun ((s,slot):aj×Int)=>eX s slot }
def tE:Prop :=
  ∀ (x:(List Int×List Int×List (Int×Int)×List (Int×Bool×Int))×Int),(pO x.1)/\am .i64 x.2->True->True/\(decide (bC x.1 x.2≠0)=true->(([]:List Int),([]:List Int),([]:List (Int×Int)),([]:List (Int×Bool×Int)))=(eX x.1 x.2).1/\bC x.1 x.2=(eX x.1 x.2).2/\True)/\(decide (bC x.1 x.2≠0)=false->∀ (_:Array Value),True/\True/\True/\x.1.2.1=x.1.2.1/\x.1.2.2.1=x.1.2.2.1/\x.1.2.2.1=x.1.2.2.1/\x.1.2.2.2=x.1.2.2.2/\x.1.2.2.2=x.1.2.2.2/\x.1.2.2.2=x.1.2.2.2/\True/\0<=x.2/\x.2<(x.1.2.1.length:Int)/\x.2.toNat<x.1.2.1.length/\(x.1.1,x.1.2.1.set x.2.toNat (-1),x.1.2.2)=(eX x.1 x.2).1/\0=(eX x.1 x.2).2/\True)
theorem Ab:tE:=by
 unfold tE;intro ⟨s,slot⟩ hx _;simp only at hx ⊢;have hF:eX s slot=if bC s slot≠0 then (aA,bC s slot) else ((s.1,s.2.1.set slot.toNat (-1),s.2.2),0):=rfl
 rw [hF];refine ⟨trivial,fun h=>?_,fun h tm=>⟨trivial,trivial,trivial,by trivial,by trivial,by trivial,by trivial,by trivial,by trivial,trivial,?_⟩⟩
 ·rw [if_pos (of_decide_eq_true h)];exact ⟨by trivial,by trivial,trivial⟩
 ·have hs:=Fg (by simpa using of_decide_eq_false h:bC s slot=0);rw [if_neg (of_decide_eq_false h)];exact ⟨hs.1,hs.2,by omega,by trivial,by trivial,trivial⟩
theorem Eg:DL.ok Tryz.prog 73:=aD (ann:=fN) (ae oZ (ae bI (ae ci (ae bZ (ae bJ ap))))) Tryz.func73 (by kernel_rfl) Ab
def fH (h:dZ):Int:=if af h≠0 then af h else if h.2.2.2=true then 3 else 0
theorem Lp {h:dZ} (hh:fH h=0):af h=0/\h.2.2.2=false:=by
 unfold fH at hh;split at hh
 ·omega
 split at hh
 ·omega
 rename_i h1 h2;exact ⟨by omega,by simpa using h2⟩
theorem sY {a:List Int} (hc:(ak a).2.2=0) {h:dZ} (h0:af h=0) (hf:h.2.2.2=false):match (aL false [] (ac a).1).find? (fun r=>decide (aa h<=r.2)) with
  | none=>bw (aL false [] (ac a).1) (aa h)=(0,7)/\gY a h=([],0,false)
  | some r=>∃ i,0<=i/\i<((aL false [] (ac a).1).length:Int)/\bw (aL false [] (ac a).1) (aa h)=(i,0)/\(aL false [] (ac a).1).getD i.toNat (0,0)=r/\ir (cE a).1 r.1 h=(fb a r h,0)/\gY a h=(fb a r h,r.1,true):=by
 have hgi:=(mU (bi hc).2.2.2.1).1;have hz:=aW h0;have hL:aa h=1+h.1+h.2.1:=rfl;have hff:=HV (n:=aa h) (l:=aL false [] (ac a).1) (by omega) (fun r hr=>by have:=hgi r hr; omega);have hfi:=xw (aa h) (aL false [] (ac a).1) 0;cases hfd:(aL false [] (ac a).1).find? (fun r=>decide (aa h<=r.2)) with
 | none =>
  rw [hfd] at hfi;simp only at hfi ⊢;rw [if_pos hfi] at hff;refine ⟨hff,?_⟩;unfold gY;rw [hfd]
 | some r =>
  rw [hfd] at hfi;obtain ⟨i,i0,i1,i2,i3,i4⟩:=hfi;rw [if_neg i3,i4,Int.zero_add] at hff;have hr:=List.mem_of_find?_eq_some hfd;have hle:aa h<=r.2:=by simpa using List.find?_some hfd
  refine ⟨i,i0,i1,hff,i2,Ea hc hr h0 hf hle,?_⟩;unfold gY;rw [hfd]
def Ie:Nat->Option LoopGen
 | 3000083=>some eE
 | 8404000001=>some eE
 | 3000084=>some eE
 | 8504000007=>some eE
 | 3000085=>some eE
 | 8605000004=>some { rd:=[.boxS 1 [.own 45 bj,.own 3 ty_I,.own 157 fm,.own 135 bT]],A:=fun (s:aj)=>{ cs:=[.own 9 3 ty_I,.own 10 3 ty_I],inv:=fun ((ra,ha):List Int×List Int)=>ra=List.replicate s.1.length 0/\ha=List.replicate 256 0,mu:=fun _=>0 } }
 | 8600000006=>some { wr:=[9,10],rd:=[.boxS 1 [.own 45 bj,.own 3 ty_I,.own 157 fm,.own 135 bT]],A:=fun (s:aj)=>{ cs:=[.own 9 3 ty_I,.own 10 3 ty_I,.dat 42 ty_I],inv:=fun ((ra,ha,i):List Int×List Int×Int)=>0<=i/\i<=(ah s).length/\ra=bQ (List.replicate s.1.length 0) ((ah s).take i.toNat) (kW s)/\ha=bQ (List.replicate 256 0) ((ah s).take i.toNat) (kW s),mu:=fun ((_,_,i):List Int×List Int×Int)=>((ah s).length - i).toNat } }
 | 8600000015=>some { rd:=[.own 86 105 jm],A:=fun (g:List cT)=>{ cs:=[.dat 13 ty_I,.dat 88 ty_I],inv:=fun ((n,i):Int×Int)=>0<=i/\i<=g.length/\g.length<=256/\(∀ r∈g,0<=r.2/\r.2<=256)/\n=dF (g.take i.toNat)/\0<=n/\n<=256 * i,mu:=fun ((_,i):Int×Int)=>(g.length - i).toNat } }
 | _=>none
def iD (s:aj) (slot:Int) (h:dZ):aj×Bool:=((((gY s.1 h).1,s.2.1.set slot.toNat (gY s.1 h).2.1,s.2.2):aj),(gY s.1 h).2.2)
def a8 (s:aj) (slot:Int) (h:dZ):aj×Bool×Int :=
 if bC s slot≠0 then (aA,false,bC s slot) else if fH h≠0 then (aA,false,fH h) else
 if (iD s slot h).2=true then ((iD s slot h).1,false,0) else if (iD (iG s) slot h).2=true then ((iD (iG s) slot h).1,true,0) else (aA,false,7)
def GM:Spec:={ Ts:=[aM,ty_I,gF],Rs:=[.dat aM,.dat .bool,.dat ty_I],al:=true,pre:=fun _=>True,F:=fun ((s,slot,h):aj×Int×dZ)=>a8 s slot h }
def wN:Prop :=
  ∀ (x:(List Int×List Int×List (Int×Int)×List (Int×Bool×Int))×Int×Int×Int×Int×Bool),(pO x.1)/\am .i64 x.2.1/\am .i64 x.2.2.1/\am .i64 x.2.2.2.1/\am .i64 x.2.2.2.2.1/\True->True->True/\(decide (aw x.1≠0)=true->(([]:List Int),([]:List Int),([]:List (Int×Int)),([]:List (Int×Bool×Int)))=(a8 x.1 x.2.1 x.2.2).1/\false=(a8 x.1 x.2.1 x.2.2).2.1/\aw x.1=(a8 x.1 x.2.1 x.2.2).2.2/\True)/\(decide (aw x.1≠0)=false->((decide (x.2.1<0)||decide ((x.1.2.1.length:Int)<=x.2.1))=true->(([]:List Int),([]:List Int),([]:List (Int×Int)),([]:List (Int×Bool×Int)))=(a8 x.1 x.2.1 x.2.2).1/\false=(a8 x.1 x.2.1 x.2.2).2.1/\5=(a8 x.1 x.2.1 x.2.2).2.2/\True)/\((decide (x.2.1<0)||decide ((x.1.2.1.length:Int)<=x.2.1))=false->True/\(decide (af x.2.2≠0)=true->(([]:List Int),([]:List Int),([]:List (Int×Int)),([]:List (Int×Bool×Int)))=(a8 x.1 x.2.1 x.2.2).1/\false=(a8 x.1 x.2.1 x.2.2).2.1/\af x.2.2=(a8 x.1 x.2.1 x.2.2).2.2/\True)/\(decide (af x.2.2≠0)=false->(x.2.2.2.2.2=true->(([]:List Int),([]:List Int),([]:List (Int×Int)),([]:List (Int×Bool×Int)))=(a8 x.1 x.2.1 x.2.2).1/\false=(a8 x.1 x.2.1 x.2.2).2.1/\3=(a8 x.1 x.2.1 x.2.2).2.2/\True)/\(x.2.2.2.2.2=false->∀ (_:Array Value),True/\True/\True/\x.1.2.1=x.1.2.1/\x.1.2.2.1=x.1.2.2.1/\x.1.2.2.1=x.1.2.2.1/\x.1.2.2.2=x.1.2.2.2/\x.1.2.2.2=x.1.2.2.2/\x.1.2.2.2=x.1.2.2.2/\True/\∀ (_:Array Value),True/\True/\True/\(decide ((bw (an x.1.1).1 (if af x.2.2=0 then aa x.2.2 else (0:Int))).2≠0)=true->((!false)=true->∀ (_:Array Value),(x.1.2.1.length<=32/\x.1.2.2.1.length<=16/\x.1.2.2.2.length<=16)/\True/\((ah x.1).length+(List.map (fun (x:bo)=>x.1) x.1.2.2.1).length) * 8<=140737488355328/\True/\((((0<=(x.1.1.length:Int)/\(x.1.1.length:Int).toNat * 8<=aJ/\((0:Int)<=256/\Int.toNat 256 * 8<=aJ/\((List.replicate (x.1.1.length:Int).toNat (0:Int)=List.replicate x.1.1.length (0:Int)/\List.replicate (Int.toNat 256) (0:Int)=List.replicate 256 (0:Int))/\True)/\True)/\(((0:Int)<=256/\Int.toNat 256 * 8<=aJ/\(List.replicate (x.1.1.length:Int).toNat (0:Int)=List.replicate x.1.1.length (0:Int)/\List.replicate (Int.toNat 256) (0:Int)=List.replicate 256 (0:Int))/\True)/\True)/\True)/\((0:Int)<=256/\Int.toNat 256 * 8<=aJ/\(0<=(x.1.1.length:Int)/\(x.1.1.length:Int).toNat * 8<=aJ/\((List.replicate (x.1.1.length:Int).toNat (0:Int)=List.replicate x.1.1.length (0:Int)/\List.replicate (Int.toNat 256) (0:Int)=List.replicate 256 (0:Int))/\True)/\True)/\True)/\True)/\((0:Int)<=256/\Int.toNat 256 * 8<=aJ/\((0<=(x.1.1.length:Int)/\(x.1.1.length:Int).toNat * 8<=aJ/\((List.replicate (x.1.1.length:Int).toNat (0:Int)=List.replicate x.1.1.length (0:Int)/\List.replicate (Int.toNat 256) (0:Int)=List.replicate 256 (0:Int))/\True)/\True)/\True)/\True)/\True)/\((0:Int)<=256/\Int.toNat 256 * 8<=aJ/\(((0<=(x.1.1.length:Int)/\(x.1.1.length:Int).toNat * 8<=aJ/\((List.replicate (x.1.1.length:Int).toNat (0:Int)=List.replicate x.1.1.length (0:Int)/\List.replicate (Int.toNat 256) (0:Int)=List.replicate 256 (0:Int))/\True)/\True)/\True)/\True)/\True)/\True)/\∀ (x_1:List Int×List Int),x_1.1=List.replicate x.1.1.length (0:Int)/\x_1.2=List.replicate 256 (0:Int)->((0:Int)<=0/\0<=(↑(ah x.1).length:Int)/\x_1.1=bQ (List.replicate x.1.1.length (0:Int)) (List.take (Int.toNat 0) (ah x.1)) (kW x.1)/\x_1.2=bQ (List.replicate 256 (0:Int)) (List.take (Int.toNat 0) (ah x.1)) (kW x.1))/\∀ (x_2:List Int×List Int×Int),0<=x_2.2.2/\x_2.2.2<=(↑(ah x.1).length:Int)/\x_2.1=bQ (List.replicate x.1.1.length (0:Int)) (List.take x_2.2.2.toNat (ah x.1)) (kW x.1)/\x_2.2.1=bQ (List.replicate 256 (0:Int)) (List.take x_2.2.2.toNat (ah x.1)) (kW x.1)->(decide (x_2.2.2<(↑(ah x.1).length:Int))=true->0<=x_2.2.2/\x_2.2.2<(↑(ah x.1).length:Int)/\x_2.2.2.toNat<(ah x.1).length/\0<=x_2.2.2/\x_2.2.2<(↑(aq x.1.1 (ah x.1) (List.map (fun (x:bo)=>x.1) x.1.2.2.1)).2.1.length:Int)/\0<=x_2.2.2/\x_2.2.2<(↑(aq x.1.1 (ah x.1) (List.map (fun (x:bo)=>x.1) x.1.2.2.1)).2.1.length:Int)/\0<=(ah x.1).getD x_2.2.2.toNat 0/\(ah x.1).getD x_2.2.2.toNat 0<(x_2.1.length:Int)/\((ah x.1).getD x_2.2.2.toNat 0).toNat<x_2.1.length/\(ah x.1).getD x_2.2.2.toNat 0=(ah x.1).getD x_2.2.2.toNat 0/\0<=(ah x.1).getD x_2.2.2.toNat 0/\(ah x.1).getD x_2.2.2.toNat 0<(x_2.2.1.length:Int)/\((ah x.1).getD x_2.2.2.toNat 0).toNat<x_2.2.1.length/\am .i64 (x_2.2.2+1)/\(0<=x_2.2.2+1/\x_2.2.2+1<=(↑(ah x.1).length:Int)/\x_2.1.set ((ah x.1).getD x_2.2.2.toNat 0).toNat ((aq x.1.1 (ah x.1) (List.map (fun (x:bo)=>x.1) x.1.2.2.1)).2.1.getD x_2.2.2.toNat 0)=bQ (List.replicate x.1.1.length (0:Int)) (List.take (x_2.2.2+1).toNat (ah x.1)) (kW x.1)/\x_2.2.1.set ((ah x.1).getD x_2.2.2.toNat 0).toNat ((aq x.1.1 (ah x.1) (List.map (fun (x:bo)=>x.1) x.1.2.2.1)).2.1.getD x_2.2.2.toNat 0)=bQ (List.replicate 256 (0:Int)) (List.take (x_2.2.2+1).toNat (ah x.1)) (kW x.1))/\((↑(ah x.1).length:Int) - (x_2.2.2+1)).toNat<((↑(ah x.1).length:Int) - x_2.2.2).toNat)/\(decide (x_2.2.2<(↑(ah x.1).length:Int))=false->True/\True/\True/\((0:Int)<=0/\0<=(↑(an (aq x.1.1 (ah x.1) (List.map (fun (x:bo)=>x.1) x.1.2.2.1)).1).1.length:Int)/\(an (aq x.1.1 (ah x.1) (List.map (fun (x:bo)=>x.1) x.1.2.2.1)).1).1.length<=256/\(∀ (r:cT),r∈(an (aq x.1.1 (ah x.1) (List.map (fun (x:bo)=>x.1) x.1.2.2.1)).1).1->0<=r.2/\r.2<=256)/\0=dF (List.take (Int.toNat 0) (an (aq x.1.1 (ah x.1) (List.map (fun (x:bo)=>x.1) x.1.2.2.1)).1).1)/\(0:Int)<=0/\(0:Int)<=256 * 0)/\∀ (x_3:Int×Int),0<=x_3.2/\x_3.2<=(↑(an (aq x.1.1 (ah x.1) (List.map (fun (x:bo)=>x.1) x.1.2.2.1)).1).1.length:Int)/\(an (aq x.1.1 (ah x.1) (List.map (fun (x:bo)=>x.1) x.1.2.2.1)).1).1.length<=256/\(∀ (r:cT),r∈(an (aq x.1.1 (ah x.1) (List.map (fun (x:bo)=>x.1) x.1.2.2.1)).1).1->0<=r.2/\r.2<=256)/\x_3.1=dF (List.take x_3.2.toNat (an (aq x.1.1 (ah x.1) (List.map (fun (x:bo)=>x.1) x.1.2.2.1)).1).1)/\0<=x_3.1/\x_3.1<=256 * x_3.2->(decide (x_3.2<(↑(an (aq x.1.1 (ah x.1) (List.map (fun (x:bo)=>x.1) x.1.2.2.1)).1).1.length:Int))=true->0<=x_3.2/\x_3.2<(↑(an (aq x.1.1 (ah x.1) (List.map (fun (x:bo)=>x.1) x.1.2.2.1)).1).1.length:Int)/\x_3.2.toNat<(an (aq x.1.1 (ah x.1) (List.map (fun (x:bo)=>x.1) x.1.2.2.1)).1).1.length/\am .i64 (x_3.1+((an (aq x.1.1 (ah x.1) (List.map (fun (x:bo)=>x.1) x.1.2.2.1)).1).1.getD x_3.2.toNat (0,0)).2)/\am .i64 (x_3.2+1)/\(0<=x_3.2+1/\x_3.2+1<=(↑(an (aq x.1.1 (ah x.1) (List.map (fun (x:bo)=>x.1) x.1.2.2.1)).1).1.length:Int)/\(an (aq x.1.1 (ah x.1) (List.map (fun (x:bo)=>x.1) x.1.2.2.1)).1).1.length<=256/\(∀ (r:cT),r∈(an (aq x.1.1 (ah x.1) (List.map (fun (x:bo)=>x.1) x.1.2.2.1)).1).1->0<=r.2/\r.2<=256)/\x_3.1+((an (aq x.1.1 (ah x.1) (List.map (fun (x:bo)=>x.1) x.1.2.2.1)).1).1.getD x_3.2.toNat (0,0)).2=dF (List.take (x_3.2+1).toNat (an (aq x.1.1 (ah x.1) (List.map (fun (x:bo)=>x.1) x.1.2.2.1)).1).1)/\0<=x_3.1+((an (aq x.1.1 (ah x.1) (List.map (fun (x:bo)=>x.1) x.1.2.2.1)).1).1.getD x_3.2.toNat (0,0)).2/\x_3.1+((an (aq x.1.1 (ah x.1) (List.map (fun (x:bo)=>x.1) x.1.2.2.1)).1).1.getD x_3.2.toNat (0,0)).2<=256 * (x_3.2+1))/\((↑(an (aq x.1.1 (ah x.1) (List.map (fun (x:bo)=>x.1) x.1.2.2.1)).1).1.length:Int) - (x_3.2+1)).toNat<((↑(an (aq x.1.1 (ah x.1) (List.map (fun (x:bo)=>x.1) x.1.2.2.1)).1).1.length:Int) - x_3.2).toNat)/\(decide (x_3.2<(↑(an (aq x.1.1 (ah x.1) (List.map (fun (x:bo)=>x.1) x.1.2.2.1)).1).1.length:Int))=false->∀ (_:Array Value),True/\True/\True/\(decide ((bw (an (aq x.1.1 (ah x.1) (List.map (fun (x:bo)=>x.1) x.1.2.2.1)).1).1 (if af x.2.2=0 then aa x.2.2 else (0:Int))).2≠0)=true->((!false)=true->(([]:List Int),([]:List Int),([]:List (Int×Int)),([]:List (Int×Bool×Int)))=(a8 x.1 x.2.1 x.2.2).1/\false=(a8 x.1 x.2.1 x.2.2).2.1/\7=(a8 x.1 x.2.1 x.2.2).2.2/\True)/\((!false)=false->0<=x.2.1/\x.2.1<(↑(bg x.1.2.1 (x.1.1.length:Int) x_2.1).1.length:Int)/\x.2.1.toNat<(bg x.1.2.1 (x.1.1.length:Int) x_2.1).1.length/\(([]:List Int),(bg x.1.2.1 (x.1.1.length:Int) x_2.1).1.set x.2.1.toNat 0,x.1.2.2.1,(fT x.1.2.2.2 x_2.2.1).1)=(a8 x.1 x.2.1 x.2.2).1/\(!false)=(a8 x.1 x.2.1 x.2.2).2.1/\0=(a8 x.1 x.2.1 x.2.2).2.2/\True))/\(decide ((bw (an (aq x.1.1 (ah x.1) (List.map (fun (x:bo)=>x.1) x.1.2.2.1)).1).1 (if af x.2.2=0 then aa x.2.2 else (0:Int))).2≠0)=false->True/\0<=(bw (an (aq x.1.1 (ah x.1) (List.map (fun (x:bo)=>x.1) x.1.2.2.1)).1).1 (if af x.2.2=0 then aa x.2.2 else (0:Int))).1/\(bw (an (aq x.1.1 (ah x.1) (List.map (fun (x:bo)=>x.1) x.1.2.2.1)).1).1 (if af x.2.2=0 then aa x.2.2 else (0:Int))).1<(↑(an (aq x.1.1 (ah x.1) (List.map (fun (x:bo)=>x.1) x.1.2.2.1)).1).1.length:Int)/\(bw (an (aq x.1.1 (ah x.1) (List.map (fun (x:bo)=>x.1) x.1.2.2.1)).1).1 (if af x.2.2=0 then aa x.2.2 else (0:Int))).1.toNat<(an (aq x.1.1 (ah x.1) (List.map (fun (x:bo)=>x.1) x.1.2.2.1)).1).1.length/\True/\(ir (cE (aq x.1.1 (ah x.1) (List.map (fun (x:bo)=>x.1) x.1.2.2.1)).1).1 ((an (aq x.1.1 (ah x.1) (List.map (fun (x:bo)=>x.1) x.1.2.2.1)).1).1.getD (bw (an (aq x.1.1 (ah x.1) (List.map (fun (x:bo)=>x.1) x.1.2.2.1)).1).1 (if af x.2.2=0 then aa x.2.2 else (0:Int))).1.toNat (0,0)).1 x.2.2).2=(ir (cE (aq x.1.1 (ah x.1) (List.map (fun (x:bo)=>x.1) x.1.2.2.1)).1).1 ((an (aq x.1.1 (ah x.1) (List.map (fun (x:bo)=>x.1) x.1.2.2.1)).1).1.getD (bw (an (aq x.1.1 (ah x.1) (List.map (fun (x:bo)=>x.1) x.1.2.2.1)).1).1 (if af x.2.2=0 then aa x.2.2 else (0:Int))).1.toNat (0,0)).1 x.2.2).2/\0<=(bw (an (aq x.1.1 (ah x.1) (List.map (fun (x:bo)=>x.1) x.1.2.2.1)).1).1 (if af x.2.2=0 then aa x.2.2 else (0:Int))).1/\(bw (an (aq x.1.1 (ah x.1) (List.map (fun (x:bo)=>x.1) x.1.2.2.1)).1).1 (if af x.2.2=0 then aa x.2.2 else (0:Int))).1<(↑(an (aq x.1.1 (ah x.1) (List.map (fun (x:bo)=>x.1) x.1.2.2.1)).1).1.length:Int)/\(bw (an (aq x.1.1 (ah x.1) (List.map (fun (x:bo)=>x.1) x.1.2.2.1)).1).1 (if af x.2.2=0 then aa x.2.2 else (0:Int))).1.toNat<(an (aq x.1.1 (ah x.1) (List.map (fun (x:bo)=>x.1) x.1.2.2.1)).1).1.length/\((!true)=true->(([]:List Int),([]:List Int),([]:List (Int×Int)),([]:List (Int×Bool×Int)))=(a8 x.1 x.2.1 x.2.2).1/\false=(a8 x.1 x.2.1 x.2.2).2.1/\7=(a8 x.1 x.2.1 x.2.2).2.2/\True)/\((!true)=false->0<=x.2.1/\x.2.1<(↑(bg x.1.2.1 (x.1.1.length:Int) x_2.1).1.length:Int)/\x.2.1.toNat<(bg x.1.2.1 (x.1.1.length:Int) x_2.1).1.length/\((ir (cE (aq x.1.1 (ah x.1) (List.map (fun (x:bo)=>x.1) x.1.2.2.1)).1).1 ((an (aq x.1.1 (ah x.1) (List.map (fun (x:bo)=>x.1) x.1.2.2.1)).1).1.getD (bw (an (aq x.1.1 (ah x.1) (List.map (fun (x:bo)=>x.1) x.1.2.2.1)).1).1 (if af x.2.2=0 then aa x.2.2 else (0:Int))).1.toNat (0,0)).1 x.2.2).1,(bg x.1.2.1 (x.1.1.length:Int) x_2.1).1.set x.2.1.toNat ((an (aq x.1.1 (ah x.1) (List.map (fun (x:bo)=>x.1) x.1.2.2.1)).1).1.getD (bw (an (aq x.1.1 (ah x.1) (List.map (fun (x:bo)=>x.1) x.1.2.2.1)).1).1 (if af x.2.2=0 then aa x.2.2 else (0:Int))).1.toNat (0,0)).1,x.1.2.2.1,(fT x.1.2.2.2 x_2.2.1).1)=(a8 x.1 x.2.1 x.2.2).1/\(!false)=(a8 x.1 x.2.1 x.2.2).2.1/\0=(a8 x.1 x.2.1 x.2.2).2.2/\True)))))/\((!false)=false->0<=x.2.1/\x.2.1<(x.1.2.1.length:Int)/\x.2.1.toNat<x.1.2.1.length/\(([]:List Int),x.1.2.1.set x.2.1.toNat 0,x.1.2.2)=(a8 x.1 x.2.1 x.2.2).1/\(!false)=(a8 x.1 x.2.1 x.2.2).2.1/\0=(a8 x.1 x.2.1 x.2.2).2.2/\True))/\(decide ((bw (an x.1.1).1 (if af x.2.2=0 then aa x.2.2 else (0:Int))).2≠0)=false->True/\0<=(bw (an x.1.1).1 (if af x.2.2=0 then aa x.2.2 else (0:Int))).1/\(bw (an x.1.1).1 (if af x.2.2=0 then aa x.2.2 else (0:Int))).1<(↑(an x.1.1).1.length:Int)/\(bw (an x.1.1).1 (if af x.2.2=0 then aa x.2.2 else (0:Int))).1.toNat<(an x.1.1).1.length/\True/\(ir (cE x.1.1).1 ((an x.1.1).1.getD (bw (an x.1.1).1 (if af x.2.2=0 then aa x.2.2 else (0:Int))).1.toNat (0,0)).1 x.2.2).2=(ir (cE x.1.1).1 ((an x.1.1).1.getD (bw (an x.1.1).1 (if af x.2.2=0 then aa x.2.2 else (0:Int))).1.toNat (0,0)).1 x.2.2).2/\0<=(bw (an x.1.1).1 (if af x.2.2=0 then aa x.2.2 else (0:Int))).1/\(bw (an x.1.1).1 (if af x.2.2=0 then aa x.2.2 else (0:Int))).1<(↑(an x.1.1).1.length:Int)/\(bw (an x.1.1).1 (if af x.2.2=0 then aa x.2.2 else (0:Int))).1.toNat<(an x.1.1).1.length/\((!true)=true->∀ (_:Array Value),(x.1.2.1.length<=32/\x.1.2.2.1.length<=16/\x.1.2.2.2.length<=16)/\True/\((ah x.1).length+(List.map (fun (x:bo)=>x.1) x.1.2.2.1).length) * 8<=140737488355328/\True/\((((0<=(x.1.1.length:Int)/\(x.1.1.length:Int).toNat * 8<=aJ/\((0:Int)<=256/\Int.toNat 256 * 8<=aJ/\((List.replicate (x.1.1.length:Int).toNat (0:Int)=List.replicate x.1.1.length (0:Int)/\List.replicate (Int.toNat 256) (0:Int)=List.replicate 256 (0:Int))/\True)/\True)/\(((0:Int)<=256/\Int.toNat 256 * 8<=aJ/\(List.replicate (x.1.1.length:Int).toNat (0:Int)=List.replicate x.1.1.length (0:Int)/\List.replicate (Int.toNat 256) (0:Int)=List.replicate 256 (0:Int))/\True)/\True)/\True)/\((0:Int)<=256/\Int.toNat 256 * 8<=aJ/\(0<=(x.1.1.length:Int)/\(x.1.1.length:Int).toNat * 8<=aJ/\((List.replicate (x.1.1.length:Int).toNat (0:Int)=List.replicate x.1.1.length (0:Int)/\List.replicate (Int.toNat 256) (0:Int)=List.replicate 256 (0:Int))/\True)/\True)/\True)/\True)/\((0:Int)<=256/\Int.toNat 256 * 8<=aJ/\((0<=(x.1.1.length:Int)/\(x.1.1.length:Int).toNat * 8<=aJ/\((List.replicate (x.1.1.length:Int).toNat (0:Int)=List.replicate x.1.1.length (0:Int)/\List.replicate (Int.toNat 256) (0:Int)=List.replicate 256 (0:Int))/\True)/\True)/\True)/\True)/\True)/\((0:Int)<=256/\Int.toNat 256 * 8<=aJ/\(((0<=(x.1.1.length:Int)/\(x.1.1.length:Int).toNat * 8<=aJ/\((List.replicate (x.1.1.length:Int).toNat (0:Int)=List.replicate x.1.1.length (0:Int)/\List.replicate (Int.toNat 256) (0:Int)=List.replicate 256 (0:Int))/\True)/\True)/\True)/\True)/\True)/\True)/\∀ (x_1:List Int×List Int),x_1.1=List.replicate x.1.1.length (0:Int)/\x_1.2=List.replicate 256 (0:Int)->((0:Int)<=0/\0<=(↑(ah x.1).length:Int)/\x_1.1=bQ (List.replicate x.1.1.length (0:Int)) (List.take (Int.toNat 0) (ah x.1)) (kW x.1)/\x_1.2=bQ (List.replicate 256 (0:Int)) (List.take (Int.toNat 0) (ah x.1)) (kW x.1))/\∀ (x_2:List Int×List Int×Int),0<=x_2.2.2/\x_2.2.2<=(↑(ah x.1).length:Int)/\x_2.1=bQ (List.replicate x.1.1.length (0:Int)) (List.take x_2.2.2.toNat (ah x.1)) (kW x.1)/\x_2.2.1=bQ (List.replicate 256 (0:Int)) (List.take x_2.2.2.toNat (ah x.1)) (kW x.1)->(decide (x_2.2.2<(↑(ah x.1).length:Int))=true->0<=x_2.2.2/\x_2.2.2<(↑(ah x.1).length:Int)/\x_2.2.2.toNat<(ah x.1).length/\0<=x_2.2.2/\x_2.2.2<(↑(aq x.1.1 (ah x.1) (List.map (fun (x:bo)=>x.1) x.1.2.2.1)).2.1.length:Int)/\0<=x_2.2.2/\x_2.2.2<(↑(aq x.1.1 (ah x.1) (List.map (fun (x:bo)=>x.1) x.1.2.2.1)).2.1.length:Int)/\0<=(ah x.1).getD x_2.2.2.toNat 0/\(ah x.1).getD x_2.2.2.toNat 0<(x_2.1.length:Int)/\((ah x.1).getD x_2.2.2.toNat 0).toNat<x_2.1.length/\(ah x.1).getD x_2.2.2.toNat 0=(ah x.1).getD x_2.2.2.toNat 0/\0<=(ah x.1).getD x_2.2.2.toNat 0/\(ah x.1).getD x_2.2.2.toNat 0<(x_2.2.1.length:Int)/\((ah x.1).getD x_2.2.2.toNat 0).toNat<x_2.2.1.length/\am .i64 (x_2.2.2+1)/\(0<=x_2.2.2+1/\x_2.2.2+1<=(↑(ah x.1).length:Int)/\x_2.1.set ((ah x.1).getD x_2.2.2.toNat 0).toNat ((aq x.1.1 (ah x.1) (List.map (fun (x:bo)=>x.1) x.1.2.2.1)).2.1.getD x_2.2.2.toNat 0)=bQ (List.replicate x.1.1.length (0:Int)) (List.take (x_2.2.2+1).toNat (ah x.1)) (kW x.1)/\x_2.2.1.set ((ah x.1).getD x_2.2.2.toNat 0).toNat ((aq x.1.1 (ah x.1) (List.map (fun (x:bo)=>x.1) x.1.2.2.1)).2.1.getD x_2.2.2.toNat 0)=bQ (List.replicate 256 (0:Int)) (List.take (x_2.2.2+1).toNat (ah x.1)) (kW x.1))/\((↑(ah x.1).length:Int) - (x_2.2.2+1)).toNat<((↑(ah x.1).length:Int) - x_2.2.2).toNat)/\(decide (x_2.2.2<(↑(ah x.1).length:Int))=false->True/\True/\True/\((0:Int)<=0/\0<=(↑(an (aq x.1.1 (ah x.1) (List.map (fun (x:bo)=>x.1) x.1.2.2.1)).1).1.length:Int)/\(an (aq x.1.1 (ah x.1) (List.map (fun (x:bo)=>x.1) x.1.2.2.1)).1).1.length<=256/\(∀ (r:cT),r∈(an (aq x.1.1 (ah x.1) (List.map (fun (x:bo)=>x.1) x.1.2.2.1)).1).1->0<=r.2/\r.2<=256)/\0=dF (List.take (Int.toNat 0) (an (aq x.1.1 (ah x.1) (List.map (fun (x:bo)=>x.1) x.1.2.2.1)).1).1)/\(0:Int)<=0/\(0:Int)<=256 * 0)/\∀ (x_3:Int×Int),0<=x_3.2/\x_3.2<=(↑(an (aq x.1.1 (ah x.1) (List.map (fun (x:bo)=>x.1) x.1.2.2.1)).1).1.length:Int)/\(an (aq x.1.1 (ah x.1) (List.map (fun (x:bo)=>x.1) x.1.2.2.1)).1).1.length<=256/\(∀ (r:cT),r∈(an (aq x.1.1 (ah x.1) (List.map (fun (x:bo)=>x.1) x.1.2.2.1)).1).1->0<=r.2/\r.2<=256)/\x_3.1=dF (List.take x_3.2.toNat (an (aq x.1.1 (ah x.1) (List.map (fun (x:bo)=>x.1) x.1.2.2.1)).1).1)/\0<=x_3.1/\x_3.1<=256 * x_3.2->(decide (x_3.2<(↑(an (aq x.1.1 (ah x.1) (List.map (fun (x:bo)=>x.1) x.1.2.2.1)).1).1.length:Int))=true->0<=x_3.2/\x_3.2<(↑(an (aq x.1.1 (ah x.1) (List.map (fun (x:bo)=>x.1) x.1.2.2.1)).1).1.length:Int)/\x_3.2.toNat<(an (aq x.1.1 (ah x.1) (List.map (fun (x:bo)=>x.1) x.1.2.2.1)).1).1.length/\am .i64 (x_3.1+((an (aq x.1.1 (ah x.1) (List.map (fun (x:bo)=>x.1) x.1.2.2.1)).1).1.getD x_3.2.toNat (0,0)).2)/\am .i64 (x_3.2+1)/\(0<=x_3.2+1/\x_3.2+1<=(↑(an (aq x.1.1 (ah x.1) (List.map (fun (x:bo)=>x.1) x.1.2.2.1)).1).1.length:Int)/\(an (aq x.1.1 (ah x.1) (List.map (fun (x:bo)=>x.1) x.1.2.2.1)).1).1.length<=256/\(∀ (r:cT),r∈(an (aq x.1.1 (ah x.1) (List.map (fun (x:bo)=>x.1) x.1.2.2.1)).1).1->0<=r.2/\r.2<=256)/\x_3.1+((an (aq x.1.1 (ah x.1) (List.map (fun (x:bo)=>x.1) x.1.2.2.1)).1).1.getD x_3.2.toNat (0,0)).2=dF (List.take (x_3.2+1).toNat (an (aq x.1.1 (ah x.1) (List.map (fun (x:bo)=>x.1) x.1.2.2.1)).1).1)/\0<=x_3.1+((an (aq x.1.1 (ah x.1) (List.map (fun (x:bo)=>x.1) x.1.2.2.1)).1).1.getD x_3.2.toNat (0,0)).2/\x_3.1+((an (aq x.1.1 (ah x.1) (List.map (fun (x:bo)=>x.1) x.1.2.2.1)).1).1.getD x_3.2.toNat (0,0)).2<=256 * (x_3.2+1))/\((↑(an (aq x.1.1 (ah x.1) (List.map (fun (x:bo)=>x.1) x.1.2.2.1)).1).1.length:Int) - (x_3.2+1)).toNat<((↑(an (aq x.1.1 (ah x.1) (List.map (fun (x:bo)=>x.1) x.1.2.2.1)).1).1.length:Int) - x_3.2).toNat)/\(decide (x_3.2<(↑(an (aq x.1.1 (ah x.1) (List.map (fun (x:bo)=>x.1) x.1.2.2.1)).1).1.length:Int))=false->∀ (_:Array Value),True/\True/\True/\(decide ((bw (an (aq x.1.1 (ah x.1) (List.map (fun (x:bo)=>x.1) x.1.2.2.1)).1).1 (if af x.2.2=0 then aa x.2.2 else (0:Int))).2≠0)=true->((!false)=true->(([]:List Int),([]:List Int),([]:List (Int×Int)),([]:List (Int×Bool×Int)))=(a8 x.1 x.2.1 x.2.2).1/\false=(a8 x.1 x.2.1 x.2.2).2.1/\7=(a8 x.1 x.2.1 x.2.2).2.2/\True)/\((!false)=false->0<=x.2.1/\x.2.1<(↑(bg x.1.2.1 (x.1.1.length:Int) x_2.1).1.length:Int)/\x.2.1.toNat<(bg x.1.2.1 (x.1.1.length:Int) x_2.1).1.length/\(([]:List Int),(bg x.1.2.1 (x.1.1.length:Int) x_2.1).1.set x.2.1.toNat 0,x.1.2.2.1,(fT x.1.2.2.2 x_2.2.1).1)=(a8 x.1 x.2.1 x.2.2).1/\(!true)=(a8 x.1 x.2.1 x.2.2).2.1/\0=(a8 x.1 x.2.1 x.2.2).2.2/\True))/\(decide ((bw (an (aq x.1.1 (ah x.1) (List.map (fun (x:bo)=>x.1) x.1.2.2.1)).1).1 (if af x.2.2=0 then aa x.2.2 else (0:Int))).2≠0)=false->True/\0<=(bw (an (aq x.1.1 (ah x.1) (List.map (fun (x:bo)=>x.1) x.1.2.2.1)).1).1 (if af x.2.2=0 then aa x.2.2 else (0:Int))).1/\(bw (an (aq x.1.1 (ah x.1) (List.map (fun (x:bo)=>x.1) x.1.2.2.1)).1).1 (if af x.2.2=0 then aa x.2.2 else (0:Int))).1<(↑(an (aq x.1.1 (ah x.1) (List.map (fun (x:bo)=>x.1) x.1.2.2.1)).1).1.length:Int)/\(bw (an (aq x.1.1 (ah x.1) (List.map (fun (x:bo)=>x.1) x.1.2.2.1)).1).1 (if af x.2.2=0 then aa x.2.2 else (0:Int))).1.toNat<(an (aq x.1.1 (ah x.1) (List.map (fun (x:bo)=>x.1) x.1.2.2.1)).1).1.length/\True/\(ir (cE (aq x.1.1 (ah x.1) (List.map (fun (x:bo)=>x.1) x.1.2.2.1)).1).1 ((an (aq x.1.1 (ah x.1) (List.map (fun (x:bo)=>x.1) x.1.2.2.1)).1).1.getD (bw (an (aq x.1.1 (ah x.1) (List.map (fun (x:bo)=>x.1) x.1.2.2.1)).1).1 (if af x.2.2=0 then aa x.2.2 else (0:Int))).1.toNat (0,0)).1 x.2.2).2=(ir (cE (aq x.1.1 (ah x.1) (List.map (fun (x:bo)=>x.1) x.1.2.2.1)).1).1 ((an (aq x.1.1 (ah x.1) (List.map (fun (x:bo)=>x.1) x.1.2.2.1)).1).1.getD (bw (an (aq x.1.1 (ah x.1) (List.map (fun (x:bo)=>x.1) x.1.2.2.1)).1).1 (if af x.2.2=0 then aa x.2.2 else (0:Int))).1.toNat (0,0)).1 x.2.2).2/\0<=(bw (an (aq x.1.1 (ah x.1) (List.map (fun (x:bo)=>x.1) x.1.2.2.1)).1).1 (if af x.2.2=0 then aa x.2.2 else (0:Int))).1/\(bw (an (aq x.1.1 (ah x.1) (List.map (fun (x:bo)=>x.1) x.1.2.2.1)).1).1 (if af x.2.2=0 then aa x.2.2 else (0:Int))).1<(↑(an (aq x.1.1 (ah x.1) (List.map (fun (x:bo)=>x.1) x.1.2.2.1)).1).1.length:Int)/\(bw (an (aq x.1.1 (ah x.1) (List.map (fun (x:bo)=>x.1) x.1.2.2.1)).1).1 (if af x.2.2=0 then aa x.2.2 else (0:Int))).1.toNat<(an (aq x.1.1 (ah x.1) (List.map (fun (x:bo)=>x.1) x.1.2.2.1)).1).1.length/\((!true)=true->(([]:List Int),([]:List Int),([]:List (Int×Int)),([]:List (Int×Bool×Int)))=(a8 x.1 x.2.1 x.2.2).1/\false=(a8 x.1 x.2.1 x.2.2).2.1/\7=(a8 x.1 x.2.1 x.2.2).2.2/\True)/\((!true)=false->0<=x.2.1/\x.2.1<(↑(bg x.1.2.1 (x.1.1.length:Int) x_2.1).1.length:Int)/\x.2.1.toNat<(bg x.1.2.1 (x.1.1.length:Int) x_2.1).1.length/\((ir (cE (aq x.1.1 (ah x.1) (List.map (fun (x:bo)=>x.1) x.1.2.2.1)).1).1 ((an (aq x.1.1 (ah x.1) (List.map (fun (x:bo)=>x.1) x.1.2.2.1)).1).1.getD (bw (an (aq x.1.1 (ah x.1) (List.map (fun (x:bo)=>x.1) x.1.2.2.1)).1).1 (if af x.2.2=0 then aa x.2.2 else (0:Int))).1.toNat (0,0)).1 x.2.2).1,(bg x.1.2.1 (x.1.1.length:Int) x_2.1).1.set x.2.1.toNat ((an (aq x.1.1 (ah x.1) (List.map (fun (x:bo)=>x.1) x.1.2.2.1)).1).1.getD (bw (an (aq x.1.1 (ah x.1) (List.map (fun (x:bo)=>x.1) x.1.2.2.1)).1).1 (if af x.2.2=0 then aa x.2.2 else (0:Int))).1.toNat (0,0)).1,x.1.2.2.1,(fT x.1.2.2.2 x_2.2.1).1)=(a8 x.1 x.2.1 x.2.2).1/\(!true)=(a8 x.1 x.2.1 x.2.2).2.1/\0=(a8 x.1 x.2.1 x.2.2).2.2/\True)))))/\((!true)=false->0<=x.2.1/\x.2.1<(x.1.2.1.length:Int)/\x.2.1.toNat<x.1.2.1.length/\((ir (cE x.1.1).1 ((an x.1.1).1.getD (bw (an x.1.1).1 (if af x.2.2=0 then aa x.2.2 else (0:Int))).1.toNat (0,0)).1 x.2.2).1,x.1.2.1.set x.2.1.toNat ((an x.1.1).1.getD (bw (an x.1.1).1 (if af x.2.2=0 then aa x.2.2 else (0:Int))).1.toNat (0,0)).1,x.1.2.2)=(a8 x.1 x.2.1 x.2.2).1/\(!true)=(a8 x.1 x.2.1 x.2.2).2.1/\0=(a8 x.1 x.2.1 x.2.2).2.2/\True))))))
theorem Dh:wN:=by
 unfold wN;intro ⟨s,slot,h⟩ ⟨⟨⟨hb,hw⟩,_⟩,_⟩ _;simp only at hb hw ⊢
 have hM:a8 s slot h=if bC s slot≠0 then (aA,false,bC s slot) else if fH h≠0 then (aA,false,fH h) else
  if (gY s.1 h).2.2=true then (((gY s.1 h).1,s.2.1.set slot.toNat (gY s.1 h).2.1,s.2.2),false,0) else
  if (gY (dz s) h).2.2=true then (((gY (dz s) h).1,(s.2.1.map (ke s)).set slot.toNat (gY (dz s) h).2.1,s.2.2.1,s.2.2.2.map (km s)),true,0) else (aA,false,7):=rfl
 have hE:bC s slot=if aw s≠0 then aw s else if slot<0\/(s.2.1.length:Int)<=slot then 5 else 0:=rfl
 have hH:fH h=if af h≠0 then af h else if h.2.2.2=true then 3 else 0:=rfl
 refine ⟨trivial,fun h0=>?_,fun h0=>⟨fun h1=>?_,fun h1=>⟨trivial,fun h2=>?_,fun h2=>⟨fun h3=>?_,fun h3 tm=>⟨trivial,trivial,trivial,by trivial,by trivial,by trivial,by trivial,by trivial,by trivial,trivial,fun tm2=>⟨trivial,trivial,trivial,?_,?_⟩⟩⟩⟩⟩⟩
 ·have h0:=of_decide_eq_true h0;rw [if_pos h0] at hE;rw [hM,hE,if_pos h0];exact ⟨by trivial,by trivial,by trivial,trivial⟩
 all_goals have h0:=of_decide_eq_false h0
 all_goals rw [if_neg h0] at hE
 ·rw [if_pos (by simpa using h1)] at hE;rw [hM,hE,if_pos (by omega)];exact ⟨by trivial,by trivial,by trivial,trivial⟩
 all_goals have h1:¬ (slot<0\/(s.2.1.length:Int)<=slot):=by simpa using h1
 all_goals rw [if_neg h1] at hE
 all_goals rw [hE,if_neg (by omega)] at hM
 ·have h2:=of_decide_eq_true h2;rw [if_pos h2] at hH;rw [hM,hH,if_pos h2];exact ⟨by trivial,by trivial,by trivial,trivial⟩
 all_goals have h2:af h=0:=by simpa using of_decide_eq_false h2
 ·rw [if_neg (by omega),if_pos h3] at hH;rw [hM,hH,if_pos (by omega)];exact ⟨by trivial,by trivial,by trivial,trivial⟩
 all_goals
  rw [if_neg (by omega),if_neg (by rw [h3]; simp)] at hH;rw [hH,if_neg (by omega)] at hM;rw [hM,if_pos h2];have R:=gL hw (by omega:aw s=0);have hcl:aq s.1 (ah s) (List.map (fun (x:bo)=>x.1) s.2.2.1)=(dz s,(ah s).map (kW s),0):=R.clean;obtain ⟨hgf,hgi,hgl⟩:=R.gaps;have hfl:=R.fromLen;have hsm:=R.small;have hal:=R.al;have hfm:=fun x=>gC (s:=s) R.root (x:=x)
  have hsr:=R.swapRoots;have hsh:=R.swapHands;have hg1:an s.1=(aL false [] (ac s.1).1,0):=by unfold an; rw [if_neg (by have:=R.chk; omega)]
  have T1:=sY R.chk h2 h3;have T2:=sY R.slidOK.1 h2 h3;rw [hg1];simp only;cases hfd:(aL false [] (ac s.1).1).find? (fun r=>decide (aa h<=r.2)) with
  | none=>?_
  | some r=>?_
  all_goals rw [hfd] at T1
  all_goals simp only at T1
 ·obtain ⟨t1,t2⟩:=T1;rw [t1,t2];simp only;refine fun _=>⟨fun _ tm=>?_,fun hx=>by cases hx⟩
  rw [if_neg (by simp),hcl];simp only;rw [hgf];simp only;generalize aL false [] (ac (dz s)).1=g at *;unfold aJ at hb ⊢;refine ⟨hsm,trivial,by rw [List.length_map]; omega,trivial,?_,fun ⟨ra,ha⟩ ⟨q1,q2⟩=>?_⟩
  ·have e1:((s.1.length:Int)).toNat=s.1.length:=by omega
   have e2:Int.toNat 256=256:=rfl;have e3:(0:Int)<=(s.1.length:Int):=by omega
   simp only [e1,e2,e3,hb,true_and,and_true];omega
  simp only at q1 q2;subst q1 q2;refine ⟨⟨by omega,by omega,by simp [bQ],by simp [bQ]⟩,fun ⟨ra,ha,i⟩ ⟨i0,i1,i2,i3⟩=>⟨fun hlt=>?_,fun hge=>?_⟩⟩
  ·simp only at i0 i1 i2 i3 hlt ⊢;have hlt:=of_decide_eq_true hlt;have ht:=bB (0:Int) i0 hlt;have hx:=R.nameIn ((hfm _).1 (aH (0:Int) i0 hlt));have hm:(List.map (kW s) (ah s)).getD i.toNat 0=kW s ((ah s).getD i.toNat 0):=B9 i0 hlt;have l1:ra.length=s.1.length:=by rw [i2,d6,List.length_replicate]
   have l2:ha.length=256:=by rw [i3,d6,List.length_replicate]
   rw [hm,ht,jL,jL,<- i2,<- i3,l1,l2,List.length_map];generalize (ah s).getD i.toNat 0=x at *;simp only [am];exact ⟨i0,hlt,by omega,i0,hlt,i0,hlt,hx.1,hx.2,by omega,by first | trivial | rfl,hx.1,by omega,by omega,by omega,⟨by omega,by omega,by trivial,by trivial⟩,by omega⟩
  ·simp only at i0 i1 i2 i3 hge ⊢;have hge:=of_decide_eq_false hge;rw [cA hge] at i2 i3;refine ⟨trivial,trivial,trivial,⟨by omega,by omega,hgl,fun r hr=>by have:=hgi r hr; omega,by trivial,by omega,by omega⟩,fun ⟨n,j⟩ ⟨j0,j1,_,_,j2,j3,j4⟩=>⟨fun hlt=>?_,fun hge tm=>⟨trivial,trivial,trivial,?_⟩⟩⟩
   ·simp only at j0 j1 j2 j3 j4 hlt ⊢;have hlt:=of_decide_eq_true hlt;have hm:=hgi _ (aH ((0,0):cT) j0 hlt);rw [wt j0 hlt,<- j2];generalize (g.getD j.toNat (0,0)).2=y at *;simp only [am];exact ⟨j0,hlt,by omega,by omega,by omega,⟨by omega,by omega,hgl,fun r hr=>by have:=hgi r hr; omega,by trivial,by omega,by omega⟩,by omega⟩
   ·rw [i2,i3,hsr,hsh];simp only;cases hfd2:g.find? (fun r=>decide (aa h<=r.2)) with
    | none =>
     rw [hfd2] at T2;simp only at T2;obtain ⟨u1,u2⟩:=T2;rw [u1,u2];exact ⟨fun _=>⟨fun _=>⟨by trivial,by trivial,by trivial,trivial⟩,fun hx=>by cases hx⟩,fun hx=>by simp at hx⟩
    | some r =>
     rw [hfd2] at T2;simp only at T2;obtain ⟨k,k0,k1,u1,u2,u3,u4⟩:=T2;rw [u1,u4];simp only;rw [u2,u3];refine ⟨fun hx=>by simp at hx,fun _=>⟨trivial,k0,k1,by omega,trivial,by trivial,k0,k1,by omega,fun hx=>(by cases hx),fun _=>⟨by omega,by rw [List.length_map]; omega,by rw [List.length_map]; omega,by trivial,by trivial,by trivial,trivial⟩⟩⟩
 ·obtain ⟨i,i0,i1,t1,t2,t3,t4⟩:=T1;rw [t1];exact fun hx=>by simp at hx
 ·obtain ⟨t1,t2⟩:=T1;rw [t1];exact fun hx=>by simp at hx
 ·obtain ⟨i,i0,i1,t1,t2,t3,t4⟩:=T1;rw [t1,t4];simp only;rw [t2,t3];exact fun _=>⟨trivial,i0,i1,by omega,trivial,by trivial,i0,i1,by omega,fun hx=>(by cases hx),fun _=>⟨by omega,by omega,by omega,by trivial,by trivial,by trivial,trivial⟩⟩
theorem Hm:GM.ok Tryz.prog 23:=aD (ann:=Ie) (ae gg (ae iZ (ae iY (ae jS (ae Jy (ae Ep (ae Eo (ae qi (ae jQ (ae B4 (ae bI (ae ci (ae bZ (ae bJ (ae rG (ae rK ap)))))))))))))))) Tryz.func23 (by kernel_rfl) Dh
end
section
open Go
set_option maxRecDepth 100000
set_option maxHeartbeats 1000000
end
section
open Go
set_option maxRecDepth 100000
set_option maxHeartbeats 1000000
theorem BM {h:List bb} (at_:Int) (hf:aG h=0) :
  openF h at_=if at_<0\/255<at_ then ([],0,4) else if ag ay 0 h<0 then ([],0,7) else (h.set (ag ay 0 h).toNat (ld h (ag ay 0 h) at_),cW (ag ay 0 h) (ld h (ag ay 0 h) at_),0):=by
 unfold openF;rw [if_neg (by omega)];by_cases ht:at_<0\/255<at_
 ·rw [if_pos ht,if_pos (by unfold eP; grind)]
 ·rw [if_neg ht,if_neg (by unfold eP; grind)]
abbrev sS:Ty:=.pair ty_I (.pair ty_I (.pair ty_I (.pair ty_I bj)))
abbrev L7:=Int×Int×Int×Int×Int
def ca (k a b c v:Int):Bool:=decide (k<1)||decide (13<k)||!(decide (k≠2)&&decide (k≠12))&&decide (a≠0)||!(decide (k=1)||decide (3<=k)&&decide (k<=6)||decide (k=9))&&decide (b≠0)||!(decide (k=1)||decide (k=3)||decide (k=4))&&decide (c≠0)||!(decide (k=1)||decide (k=6)||decide (k=11)||decide (k=12))&&decide (v≠0)
def No (b:Bool):Int:=if b=true then 1 else 0
def deed (s:aj) (k a b c v:Int):aj×Int×Int :=
 if k=1 then ((a8 s a (b,c,v % 65536,false)).1,No (a8 s a (b,c,v % 65536,false)).2.1,(a8 s a (b,c,v % 65536,false)).2.2)
 else if k=2 then ((cZ s).1,(cZ s).2,0)
 else if k=3 then ((kh s a b c).1,0,(kh s a b c).2)
 else if k=4 then ((kc s a b c).1,0,(kc s a b c).2)
 else if k=5 then (if aN s a b≠0 then (aA,0,aN s a b) else (s,s.1.getD (bE s (ax s a) b).toNat 0,0))
 else if k=6 then ((jp s a b v).1,0,(jp s a b v).2)
 else if k=7 then ix s a
 else if k=8 then ((cP s a).1,0,(cP s a).2)
 else if k=9 then (if cg s a b≠0 then (aA,0,cg s a b) else (s,s.1.getD (bE s a b).toNat 0,0))
 else if k=10 then fh s a
 else if k=11 then ((jl s v a).1,0,(jl s v a).2)
 else if k=12 then ((fo s v).1,0,(fo s v).2)
 else ((eX s a).1,0,(eX s a).2)
def a7 (s:aj) (k a b c v:Int):aj×Int×Int:=if ca k a b c v=true then (aA,0,1) else if aw s≠0 then (aA,0,aw s) else deed s k a b c v
theorem xD (s:aj) (a b c v:Int):deed s 1 a b c v=((a8 s a (b,c,v % 65536,false)).1,No (a8 s a (b,c,v % 65536,false)).2.1,(a8 s a (b,c,v % 65536,false)).2.2):=if_pos rfl
theorem CM (s:aj) (a b c v:Int):deed s 2 a b c v=((cZ s).1,(cZ s).2,0):=by unfold deed; rw [if_neg (by omega),if_pos rfl]
theorem CL (s:aj) (a b c v:Int):deed s 3 a b c v=((kh s a b c).1,0,(kh s a b c).2):=by
 unfold deed
 iterate 2 rw [if_neg (by omega)]
 rw [if_pos rfl]
theorem CK (s:aj) (a b c v:Int):deed s 4 a b c v=((kc s a b c).1,0,(kc s a b c).2):=by
 unfold deed
 iterate 3 rw [if_neg (by omega)]
 rw [if_pos rfl]
theorem xC (s:aj) (a b c v:Int):deed s 5 a b c v=(if aN s a b≠0 then (aA,0,aN s a b) else (s,s.1.getD (bE s (ax s a) b).toNat 0,0)):=by
 unfold deed
 iterate 4 rw [if_neg (by omega)]
 rw [if_pos rfl]
theorem xB (s:aj) (a b c v:Int):deed s 6 a b c v=((jp s a b v).1,0,(jp s a b v).2):=by
 unfold deed
 iterate 5 rw [if_neg (by omega)]
 rw [if_pos rfl]
theorem CJ (s:aj) (a b c v:Int):deed s 7 a b c v=ix s a:=by
 unfold deed
 iterate 6 rw [if_neg (by omega)]
 rw [if_pos rfl]
theorem CI (s:aj) (a b c v:Int):deed s 8 a b c v=((cP s a).1,0,(cP s a).2):=by
 unfold deed
 iterate 7 rw [if_neg (by omega)]
 rw [if_pos rfl]
theorem CH (s:aj) (a b c v:Int):deed s 9 a b c v=(if cg s a b≠0 then (aA,0,cg s a b) else (s,s.1.getD (bE s a b).toNat 0,0)):=by
 unfold deed
 iterate 8 rw [if_neg (by omega)]
 rw [if_pos rfl]
theorem uR (s:aj) (a b c v:Int):deed s 10 a b c v=fh s a:=by
 unfold deed
 iterate 9 rw [if_neg (by omega)]
 rw [if_pos rfl]
theorem uQ (s:aj) (a b c v:Int):deed s 11 a b c v=((jl s v a).1,0,(jl s v a).2):=by
 unfold deed
 iterate 10 rw [if_neg (by omega)]
 rw [if_pos rfl]
theorem uP (s:aj) (a b c v:Int):deed s 12 a b c v=((fo s v).1,0,(fo s v).2):=by
 unfold deed
 iterate 11 rw [if_neg (by omega)]
 rw [if_pos rfl]
theorem uO (s:aj) (a b c v:Int):deed s 13 a b c v=((eX s a).1,0,(eX s a).2):=by
 unfold deed
 iterate 12 rw [if_neg (by omega)]
theorem Ff:∀ (l:List cT),(∀ r∈l,0<=r.2/\r.2<=256)->0<=dF l/\dF l<=256 * (l.length:Int)
 | [],_=>by simp [dF]
 | r::l,h=>by
  have ih:=Ff l fun x hx=>h x (List.mem_cons_of_mem _ hx)
  have h1:=h r List.mem_cons_self;have e:dF (r::l)=r.2+dF l:=by simp [dF]
  rw [e,List.length_cons];omega
end
section
open Go
structure Given (G:List Int) (h:List bb):Prop where
 len:h.length<=16
 ok:∀ s∈h,ee s=0
 old:∀ n∈G,∃ (i:Nat) (g:Int) (s:bb),h[i]?=some s/\n=(i:Int)+65536 * g/\g<=s.1
 live:∀ (i:Nat) (s:bb),h[i]?=some s->s.2.1=true->(i:Int)+65536 * s.1∈G
theorem A7:∀ {h:List bb},br h=0 ↔ ∀ s∈h,ee s=0
 | []=>by simp [br]
 | s::l=>by
  have ih:=A7 (h:=l);simp only [br,List.mem_cons,forall_eq_or_imp];split
  ·rename_i h;exact ⟨fun e=>absurd e h,fun e=>absurd e.1 h⟩
  ·rename_i h;have h:ee s=0:=by omega
   exact ⟨fun e=>⟨h,ih.1 e⟩,fun e=>ih.2 e.2⟩
theorem jv {h:List bb}:aG h=0 ↔ h.length<=16/\∀ s∈h,ee s=0:=by
 unfold aG;split
 ·exact ⟨fun e=>absurd e (by decide),fun e=>by omega⟩
 ·rw [A7];exact ⟨fun e=>⟨by omega,e⟩,fun e=>e.2⟩
theorem gV {s:bb}:ee s=0 ↔ 0<=s.1/\s.1<=65535/\0<=s.2.2/\s.2.2<=255/\(s.2.1=true->s.1≠0)/\(s.2.1=false->s.2.2=0):=by
 unfold ee;split
 ·exact ⟨fun e=>absurd e (by decide),fun e=>by omega⟩
 ·split
  ·rename_i h1 h2;refine ⟨fun e=>absurd e (by decide),fun e=>?_⟩;rcases h2 with ⟨a,b⟩ | ⟨a,b⟩
   ·exact absurd b (e.2.2.2.2.1 a)
   ·exact absurd (e.2.2.2.2.2 a) b
  ·rename_i h1 h2;refine ⟨fun _=>⟨by omega,by omega,by omega,by omega,fun a b=>h2 (.inl ⟨a,b⟩),fun a=>?_⟩,fun _=>rfl⟩;apply Classical.byContradiction;intro b;exact h2 (.inr ⟨a,b⟩)
theorem Given.new (n:Nat) (hn:n<=16):Given [] (List.replicate n (0,false,0)) where
 len:=by simp; omega
 ok:=fun s hs=>by rw [List.eq_of_mem_replicate hs]; decide
 old:=fun n h=>by cases h
 live:=fun i s h e=>by
  rw [List.getElem?_replicate] at h;split at h
  ·injection h with h
   subst h;cases e
  ·cases h
theorem Given.map {G:List Int} {h:List bb} (H:Given G h) (f:bb->bb) (h1:∀ s,(f s).1=s.1/\(f s).2.1=s.2.1) (h2:∀ s∈h,ee (f s)=0):Given G (h.map f) where
 len:=by simpa using H.len
 ok:=fun s hs=>by
  obtain ⟨t,ht,rfl⟩:=List.mem_map.1 hs;exact h2 t ht
 old:=fun n hn=>by
  obtain ⟨i,g,s,e1,e2,e3⟩:=H.old n hn;exact ⟨i,g,f s,by rw [List.getElem?_map,e1]; rfl,e2,by rw [(h1 s).1]; exact e3⟩
 live:=fun i s hi e=>by
  rw [List.getElem?_map] at hi;obtain ⟨t,ht,rfl⟩:=Option.map_eq_some_iff.1 hi;rw [(h1 t).1];exact H.live i t ht (by rw [<- (h1 t).2]; exact e)
theorem Given.shut {G:List Int} {h:List bb} (H:Given G h) {k:Nat} {s:bb} (hk:h[k]?=some s):Given G (h.set k (s.1,false,0)) where
 len:=by simpa using H.len
 ok:=fun t ht=>by
  rcases List.mem_or_eq_of_mem_set ht with ht | rfl
  ·exact H.ok t ht
  ·have:=gV.1 (H.ok s (List.mem_of_getElem? hk));exact gV.2 ⟨this.1,this.2.1,Int.le_refl _,(show (0:Int)<=255 by decide),(fun e=>by cases e),fun _=>rfl⟩
 old:=fun n hn=>by
  obtain ⟨i,g,t,e1,e2,e3⟩:=H.old n hn;by_cases e:k=i
  ·subst e;rw [hk] at e1;injection e1 with e1
   subst e1;exact ⟨k,g,(s.1,false,0),List.getElem?_set_self (List.getElem?_eq_some_iff.1 hk).1,e2,e3⟩
  ·exact ⟨i,g,t,by rw [List.getElem?_set_ne e]; exact e1,e2,e3⟩
 live:=fun i t hi e=>by
  by_cases ek:k=i
  ·subst ek;rw [List.getElem?_set_self (List.getElem?_eq_some_iff.1 hk).1] at hi;injection hi with hi
   subst hi;cases e
  ·rw [List.getElem?_set_ne ek] at hi;exact H.live i t hi e
theorem Given.opn {G:List Int} {h:List bb} (H:Given G h) {k:Nat} {s:bb} (hk:h[k]?=some s) (hg:s.1<65535) {at_:Int} (h0:0<=at_) (h1:at_<=255) :
  (k:Int)+65536 * (s.1+1) ∉ G/\Given (G++[(k:Int)+65536 * (s.1+1)]) (h.set k (s.1+1,true,at_)):=by
 have hs:=gV.1 (H.ok s (List.mem_of_getElem? hk));have hl:∀ {i:Nat} {t:bb},h[i]?=some t->i<16:=fun e=>Nat.lt_of_lt_of_le (List.getElem?_eq_some_iff.1 e).1 H.len
 refine ⟨fun hn=>?_,?_,?_,?_,?_⟩
 ·obtain ⟨i,g,t,e1,e2,e3⟩:=H.old _ hn;have a1:=hl hk;have a2:=hl e1;obtain rfl:i=k:=by omega
  rw [hk] at e1;injection e1 with e1
  subst e1;omega
 ·simpa using H.len
 ·intro t ht;rcases List.mem_or_eq_of_mem_set ht with ht | rfl
  ·exact H.ok t ht
  ·exact gV.2 ⟨by simp only; omega,by simp only; omega,h0,h1,(fun _=>by simp only; omega),fun e=>by cases e⟩
 ·intro n hn;rcases List.mem_append.1 hn with hn | hn
  ·obtain ⟨i,g,t,e1,e2,e3⟩:=H.old n hn;by_cases e:k=i
   ·subst e;rw [hk] at e1;injection e1 with e1
    subst e1;exact ⟨k,g,(s.1+1,true,at_),List.getElem?_set_self (List.getElem?_eq_some_iff.1 hk).1,e2,by simp only; omega⟩
   ·exact ⟨i,g,t,by rw [List.getElem?_set_ne e]; exact e1,e2,e3⟩
  ·simp only [List.mem_singleton] at hn;exact ⟨k,s.1+1,(s.1+1,true,at_),List.getElem?_set_self (List.getElem?_eq_some_iff.1 hk).1,hn,Int.le_refl _⟩
 ·intro i t hi e;by_cases ek:k=i
  ·subst ek;rw [List.getElem?_set_self (List.getElem?_eq_some_iff.1 hk).1] at hi;injection hi with hi
   subst hi;simp
  ·rw [List.getElem?_set_ne ek] at hi;exact List.mem_append_left _ (H.live i t hi e)
theorem xn:∀ (h:List bb) (k:Nat),∀ n∈cn k h,∃ (i:Nat) (s:bb),h[i]?=some s/\s.2.1=true/\n=((k+i:Nat):Int)+65536 * s.1
 | [],k,n,hn=>by simp [cn] at hn
 | s::l,k,n,hn=>by
  have ih:=xn l (k+1)
  have step:n∈cn ((k:Int)+1) l->∃ (i:Nat) (t:bb),(s::l)[i]?=some t/\t.2.1=true/\n=((k+i:Nat):Int)+65536 * t.1:=fun hm=>by
   obtain ⟨i,t,e1,e2,e3⟩:=ih n (by simpa using hm);exact ⟨i+1,t,by simpa using e1,e2,by rw [e3]; congr 1; omega⟩
  simp only [cn] at hn;split at hn
  ·rename_i h;rcases List.mem_cons.1 hn with rfl | hn
   ·exact ⟨0,s,rfl,h,by simp [cW]⟩
   ·exact step hn
  ·exact step hn
theorem Given.all {G:List Int} {h:List bb} (H:Given G h):jW h=(cn 0 h,0)/\∀ n∈cn 0 h,n∈G:=by
 refine ⟨by unfold jW; rw [if_neg (by rw [jv.2 ⟨H.len,H.ok⟩]; decide)],fun n hn=>?_⟩;obtain ⟨i,s,e1,e2,e3⟩:=xn h 0 n hn;rw [e3,Nat.zero_add];exact H.live i s e1 e2
theorem Given.openF {G:List Int} {h:List bb} (H:Given G h) {at_:Int} {r:List bb×Int×Int} (e:openF h at_=r) (h0:r.2.2=0):r.2.1 ∉ G/\Given (G++[r.2.1]) r.1:=by
 have hf:=jv.2 ⟨H.len,H.ok⟩;rw [BM at_ hf] at e;split at e
 ·subst e; exact absurd h0 (by decide)
 split at e
 ·subst e; exact absurd h0 (by decide)
 rename_i ha hi;subst e;have hr:=eA ay h 0;have hlt:ag ay 0 h<(h.length:Int):=by omega
 have his:=dX ay (0,false,0) h 0 (by omega) (Int.le_refl _);obtain ⟨i,hi'⟩:=Int.eq_ofNat_of_zero_le (show 0<=ag ay 0 h by omega);simp only [hi',Int.sub_zero,Int.toNat_natCast] at his ⊢;have hil:i<h.length:=by omega
 have hk:h[i]?=some h[i]:=List.getElem?_eq_getElem hil;have hd:h.getD i (0,false,0)=h[i]:=by simp [List.getD,hk]
 rw [hd] at his;unfold ay at his;simp only [Bool.and_eq_true,decide_eq_true_eq] at his;have:=H.opn hk his.2 (at_:=at_) (by omega) (by omega);unfold ld cW;simp only [Int.toNat_natCast,hd];exact this
theorem Given.closeF {G:List Int} {h:List bb} (H:Given G h) {n:Int} {r:List bb×Int} (e:closeF h n=r) (h0:r.2=0):Given G r.1:=by
 unfold Go.Proofs.YtmfileeamnfpaaaGreatDoor.closeF at e;split at e
 ·rename_i hb;subst e;exact absurd h0 hb
 ·rename_i hb;subst e;have hb:(ce h n).2=0:=by omega
  unfold ce at hb ⊢;split at hb
  ·rename_i h1; simp only at hb; exact absurd hb h1
  rename_i hh;rw [if_neg hh];split at hb
  ·rename_i h1;rw [if_pos h1];simp only;obtain ⟨i,hi⟩:=Int.eq_ofNat_of_zero_le (show 0<=n % 65536 by omega);simp only [hi,Int.toNat_natCast] at h1 ⊢;have hil:i<h.length:=by omega
   have hk:h[i]?=some h[i]:=List.getElem?_eq_getElem hil;have hd:h.getD i (0,false,0)=h[i]:=by simp [List.getD,hk]
   rw [hd];exact H.shut hk
  ·simp at hb
end
section
open Go
theorem Az:∀ (at_:Int) (l:List Int) (r:List au),spotsS at_ l=some r->∀ m:List Int,m.length=l.length->(∀ s∈r,m.getD (s.1 - at_).toNat 0=l.getD (s.1 - at_).toNat 0)->spotsS at_ m=some r:=by
 intro at_ l r h
 induction at_,l using spotsS.induct generalizing r with
 | case1 at_ =>
  intro m hm _;rw [List.eq_nil_of_length_eq_zero hm];exact h
 | case2 at_ v l hv ih =>
  intro m hm hk;rw [cL hv.1 hv.2] at h;obtain ⟨r',hr,rfl⟩:=Option.map_eq_some_iff.1 h;have hl:=dU hv.1
  match m,hm,hk with
  | u::m,hm,hk =>
   have h0:=hk (at_,aU v) List.mem_cons_self;simp only [Int.sub_self,Int.toNat_zero,List.getD_cons_zero] at h0;subst h0;rw [cL hv.1 (by rw [hm]; exact hv.2),ih r' hr ((u::m).drop (aa (aU u)).toNat) (by simp only [List.length_drop,hm]) (fun s hs=>?_)]
   ·rfl
   ·have h1:=(pX _ _ _ hr s hs).1;have h2:=hk s (List.mem_cons_of_mem _ hs)
    have e:∀ w:List Int,(w.drop (aa (aU u)).toNat).getD (s.1 - (at_+aa (aU u))).toNat 0=w.getD (s.1 - at_).toNat 0:=fun w=>by
     rw [List.getD_eq_getElem?_getD,List.getElem?_drop,List.getD_eq_getElem?_getD];congr 2;omega
    rw [e,e];exact h2
 | case3 at_ v l hv =>
  rw [eH hv] at h;cases h
theorem AB {a b:List Int} (h:(ac a).2=0) (hl:b.length=a.length) (hk:∀ s∈(ac a).1,b.getD s.1.toNat 0=a.getD s.1.toNat 0):ac b=ac a:=by
 have hal:=(gr h).1;unfold ac at h hk ⊢;rw [if_neg (by omega)] at h hk;rw [if_neg (by omega),if_neg (by omega)];cases e:spotsS 0 a with
 | none=>rw [e] at h; simp at h
 | some l =>
  rw [e] at hk;rw [Az 0 a l e b hl (fun s hs=>by rw [Int.sub_zero]; exact hk s hs)]
theorem mE {b:List Int} {l:List au} (hs:ac b=(l,0)) (hr:∀ s∈l,∀ v∈aO b s,v=0\/1<=v/\isB l (v - 1)=true):(ak b).2.2=0:=by
 have hsort:=bV b;have hrange:=cK (a:=b);rw [hs] at hsort hrange;unfold ak;rw [hs,if_neg (by simp),if_pos];refine List.all_eq_true.2 fun s hm=>List.all_eq_true.2 fun v hv=>?_
 have h:=hr s hm v hv;rw [<- w9 hsort hrange (by omega)];rcases h with rfl | ⟨h1,h2⟩
 ·simp [nameOf]
 ·have hb:=gB (a:=b) (x:=v - 1) (by rw [hs]; exact h2);have:nameOf v=v - 1:=by unfold nameOf; rw [if_neg (by omega)]
  rw [this,fu,h2,Bool.or_true]
theorem lB {a:List Int} (hw:∀ x∈a,am .u64 x) (hc:(ak a).2.2=0):∀ s∈(ac a).1,∀ v∈aO a s,v=0\/1<=v/\isB (ac a).1 (v - 1)=true:=fun s hs v hv=>by
 rcases nF hw hc s hs v hv with h | ⟨h1,_,h2⟩
 ·exact .inl h
 ·exact .inr ⟨h1,h2⟩
theorem Aq:∀ {l:List au} {s e:Int},fk s e l->∀ x∈l,∀ y∈l,x=y\/x.1+aa x.2<=y.1\/y.1+aa y.2<=x.1:=by
 intro l
 have low:∀ {l:List au} {s e:Int},fk s e l->∀ x∈l,s<=x.1:=by
  intro l
  induction l with
  | nil=>intro s e _ x hx; cases hx
  | cons z l ih =>
   intro s e h x hx;obtain ⟨h1,h2,h3⟩:=h;rcases List.mem_cons.1 hx with rfl | hx
   ·omega
   ·have:=ih h3 x hx;omega
 induction l with
 | nil=>intro s e _ x hx; cases hx
 | cons z l ih =>
  intro s e h x hx y hy;obtain ⟨h1,h2,h3⟩:=h;rcases List.mem_cons.1 hx with ex | hx' <;> rcases List.mem_cons.1 hy with ey | hy'
  ·exact .inl (ex.trans ey.symm)
  ·have:=low h3 y hy';rw [ex];exact .inr (.inl (by omega))
  ·have:=low h3 x hx';rw [ey];exact .inr (.inr (by omega))
  ·exact ih h3 x hx' y hy'
theorem lY {a:List Int} (h:(ac a).2=0) {x y:au} (hx:x∈(ac a).1) (hy:y∈(ac a).1):x=y\/x.1+aa x.2<=y.1\/y.1+aa y.2<=x.1:=Aq (fE h) x hx y hy
theorem wv {a:List Int} (h:(ac a).2=0) {x:au} (hx:x∈(ac a).1) {p:Int} (h1:x.1<p) (h2:p<x.1+aa x.2) (v:Int):ac (a.set p.toNat v)=ac a:=by
 refine AB h (by simp) fun s hs=>?_
 have h0:=(cK s hs).1;have hx0:=(cK x hx).1
 have hne:p.toNat≠s.1.toNat:=by
  have hls:1<=aa s.2:=by
   have:=aW ((gr h).2 s hs).2;unfold aa;omega
  rcases lY h hx hs with rfl | e | e <;> omega
 rw [List.getD_eq_getElem?_getD,List.getElem?_set_ne hne,<- List.getD_eq_getElem?_getD]
theorem Ja {a:List Int} {s:au} {p:Nat} {v u:Int} (h:u∈aO (a.set p v) s):u=v\/u∈aO a s:=by
 unfold aO at h ⊢;rw [List.take_set] at h;rw [List.drop_set] at h;split at h
 ·exact .inr h
 ·rcases List.mem_or_eq_of_mem_set h with h | h
  ·exact .inr h
  ·exact .inl h
section
variable {s:aj}
theorem Right.isIn (_R:Right s) {x:Int} (h:isB (ac s.1).1 x=true):0<=x/\x<s.1.length:=by
 obtain ⟨l1,l2,l3,l4,l5,l6⟩:=bW h;omega
theorem yE {r:List Int} {n:Int} (h0:0<=n) (h1:n<=256) (h2:r.length<=32) (h3:∀ v∈r,-1<=v/\v<n):aF r n=0:=by
 unfold aF;rw [if_neg (by omega),if_neg (by omega),if_neg];intro h;obtain ⟨v,hv,e⟩:=List.any_eq_true.1 h;have:=h3 v hv;simp only [de,Bool.not_eq_true',Bool.and_eq_false_iff,decide_eq_false_iff_not] at e;omega
theorem Right.roots (R:Right s):s.2.1.length<=32/\∀ v∈s.2.1,-1<=v/\v<(s.1.length:Int):=⟨R.small.1,fun _ hv=>su (kg R.root) hv⟩
theorem cj {x:Int}:x∈cC s ↔ (x∈s.2.1/\0<=x)\/(∃ h∈s.2.2.2,h.2.1=true/\h.2.2=x)\/∃ p∈s.2.2.1,p.1=x:=by
 unfold cC gx;simp only [List.mem_append,List.mem_filter,List.mem_map,decide_eq_true_eq];constructor
 ·rintro ((h | ⟨t,⟨h1,h2⟩,h3⟩) | ⟨p,h1,h2⟩)
  ·exact .inl h
  ·exact .inr (.inl ⟨t,h1,h2,h3⟩)
  ·exact .inr (.inr ⟨p,h1,h2⟩)
 ·rintro (h | ⟨t,h1,h2,h3⟩ | ⟨p,h1,h2⟩)
  ·exact .inl (.inl h)
  ·exact .inl (.inr ⟨t,⟨h1,h2⟩,h3⟩)
  ·exact .inr ⟨p,h1,h2⟩
theorem Right.setRoot (R:Right s) {k:Nat} {v:Int} (hv:v=-1\/isB (ac s.1).1 v=true):Right (s.1,s.2.1.set k v,s.2.2):=by
 have hr:=R.roots;have hal:=R.al
 have hvr:-1<=v/\v<(s.1.length:Int):=by
  rcases hv with rfl | h
  ·omega
  ·have:=R.isIn h;omega
 refine ⟨R.w,R.chk,yE (by simp only; omega) (by simp only; omega) (by simp only [List.length_set]; exact hr.1) (fun u hu=>?_),R.pin,R.hand,fun x hx=>?_⟩
 ·rcases List.mem_or_eq_of_mem_set hu with h | rfl
  ·exact hr.2 u h
  ·exact hvr
 ·rcases cj.1 hx with ⟨h,h0⟩ | h | h
  ·rcases List.mem_or_eq_of_mem_set h with h | rfl
   ·exact R.nam x (cj.2 (.inl ⟨h,h0⟩))
   ·rcases hv with rfl | h
    ·omega
    ·exact h
  ·exact R.nam x (cj.2 (.inr (.inl h)))
  ·exact R.nam x (cj.2 (.inr (.inr h)))
theorem Right.arena (R:Right s) {b:List Int} (hw:∀ x∈b,am .u64 x) (hl:b.length=s.1.length) (hs:ac b=ac s.1) (hr:∀ t∈(ac s.1).1,∀ u∈aO b t,u=0\/1<=u/\isB (ac s.1).1 (u - 1)=true):Right (b,s.2):=by
 have h2:=(bi R.chk).2.2.2.1;refine ⟨hw,mE (l:=(ac s.1).1) (by rw [hs,<- h2]) hr,by simp only; rw [hl]; exact R.root,R.pin,R.hand,fun x hx=>?_⟩;simp only;rw [hs];exact R.nam x hx
theorem Right.setRef (R:Right s) {x k v:Int} (O:ObjAt s x) (k0:0<=k) (k1:k<(eG s.1 x).1) (hv:v=0\/1<=v/\isB (ac s.1).1 (v - 1)=true):Right (s.1.set (x+1+k).toNat v,s.2):=by
 have h2:=(bi R.chk).2.2.2.1;have hin:=(fi O.isb).1
 have hvr:am .u64 v:=by
  simp only [am];rcases hv with rfl | ⟨h1,h⟩
  ·omega
  ·have:=gB h;omega
 have hL:aa (eG s.1 x)=1+(eG s.1 x).1+(eG s.1 x).2.1:=rfl;have hb0:=O.b0;refine R.arena (fun u hu=>?_) (by simp) (wv h2 hin (by simp only; omega) (by simp only; omega) v) (fun t ht u hu=>?_)
 ·rcases List.mem_or_eq_of_mem_set hu with h | rfl
  ·exact R.w u h
  ·exact hvr
 ·rcases Ja hu with rfl | h
  ·exact hv
  ·exact lB R.w R.chk t ht u h
theorem Right.setBody (R:Right s) {x k v:Int} (O:ObjAt s x) (k0:0<=k) (k1:k<(eG s.1 x).2.1) (hv:am .u64 v):Right (s.1.set (bE s x k).toNat v,s.2):=by
 have h2:=(bi R.chk).2.2.2.1;have hin:=(fi O.isb).1;have hL:aa (eG s.1 x)=1+(eG s.1 x).1+(eG s.1 x).2.1:=rfl;have hr0:=O.r0;have hx0:=O.x0;unfold bE;refine R.arena (fun u hu=>?_) (by simp) (wv h2 hin (by simp only; omega) (by simp only; omega) v) (fun t ht u hu=>?_)
 ·rcases List.mem_or_eq_of_mem_set hu with h | rfl
  ·exact R.w u h
  ·exact hv
 ·have ht2:=aW ((gr h2).2 t ht).2;have htr:=(cK t ht).1;have hLt:aa t.2=1+t.2.1+t.2.2.1:=rfl;rw [qg (a:=s.1) htr ht2.1 (fun j j0 j1=>?_)] at hu
  ·exact lB R.w R.chk t ht u hu
  ·rw [List.getElem?_set_ne];rcases lY h2 hin ht with e | e | e
   ·subst e;simp only at *;omega
   ·simp only at e;omega
   ·simp only at e;omega
end
theorem sy {p:List bo} (h1:p.length<=16) (h2:p.Pairwise (fun x y=>x.1<y.1)) (h3:∀ x∈p,0<=x.1/\x.1<=255/\1<=x.2/\x.2<=1000000):bL p=0:=by
 have scan:∀ (p:List bo) (q:Int),p.Pairwise (fun x y=>x.1<y.1)->(∀ x∈p,q<x.1/\0<=x.1/\x.1<=255/\1<=x.2/\x.2<=1000000)->cM q p=0:=by
  intro p
  induction p with
  | nil=>intro q _ _; rfl
  | cons x l ih =>
   intro q hp hr;obtain ⟨h1,h2⟩:=List.pairwise_cons.1 hp;have hx:=hr x List.mem_cons_self;unfold cM;rw [if_neg (by simp only [lD,Bool.or_eq_true,decide_eq_true_eq]; omega),if_neg (by omega)];exact ih x.1 h2 fun y hy=>⟨h1 y hy,(hr y (List.mem_cons_of_mem _ hy)).2⟩
 unfold bL;rw [if_neg (by omega)];exact scan p _ h2 fun x hx=>by have:=h3 x hx; omega
theorem oW {A B C:List bo} {k v:Int} (hp:(A++C).Pairwise (fun x y=>x.1<y.1)) (hC:C=B\/∃ w,C=(k,w)::B) (hA:∀ x∈A,x.1<k) (hB:∀ x∈B,k<x.1):(A++(k,v)::B).Pairwise (fun x y=>x.1<y.1)/\(A++B).Pairwise (fun x y=>x.1<y.1):=by
 obtain ⟨h1,h2,h3⟩:=List.pairwise_append.1 hp
 have hBp:B.Pairwise (fun x y=>x.1<y.1):=by
  rcases hC with rfl | ⟨w,rfl⟩
  ·exact h2
  ·exact (List.pairwise_cons.1 h2).2
 refine ⟨List.pairwise_append.2 ⟨h1,List.pairwise_cons.2 ⟨fun y hy=>hB y hy,hBp⟩,fun x hx y hy=>?_⟩,List.pairwise_append.2 ⟨h1,hBp,fun x hx y hy=>?_⟩⟩
 ·rcases List.mem_cons.1 hy with rfl | hy
  ·exact hA x hx
  ·have:=hA x hx;have:=hB y hy;omega
 ·have:=hA x hx;have:=hB y hy;omega
theorem MM {p:List bo} {k:Int} (h:(gm p k).2.2=0):bL (gm p k).1=0/\∀ x∈(gm p k).1,x.1=k\/∃ y∈p,y.1=x.1:=by
 unfold gm at h ⊢;split at h
 ·rename_i h1; simp only at h; exact absurd h h1
 rename_i h1;rw [if_neg h1];split at h
 ·simp at h
 rename_i h2;rw [if_neg h2];simp only;have h0:(aE p k).2.2=0:=by omega
 obtain ⟨k1,k2,k3,k4⟩:=uw h0;obtain ⟨q1,q2,q3⟩:=oV k1;obtain ⟨A,B,e,e2,hl,hA,hB,h3⟩:=lr h0;rw [e2];rcases h3 with ⟨b1,b2,b3⟩ | ⟨b1,b2,b3,b4⟩
 ·rw [if_neg (by rw [b1]; simp),b3,EA];have hlen:(A++B).length≠16:=fun e=>h2 (.inr ⟨b1,by rw [b3]; exact e⟩)
  rw [b3] at q1 q2 q3;refine ⟨sy (by simp only [List.length_append,List.length_cons] at *; omega) (oW q2 (.inl rfl) hA hB).1 (fun x hx=>?_),fun x hx=>?_⟩
  ·rcases List.mem_append.1 hx with hx | hx
   ·exact q3 x (List.mem_append_left _ hx)
   ·rcases List.mem_cons.1 hx with rfl | hx
    ·have:=k2;simp only;omega
    ·exact q3 x (List.mem_append_right _ hx)
  ·rcases List.mem_append.1 hx with hx | hx
   ·exact .inr ⟨x,List.mem_append_left _ hx,rfl⟩
   ·rcases List.mem_cons.1 hx with rfl | hx
    ·exact .inl rfl
    ·exact .inr ⟨x,List.mem_append_right _ hx,rfl⟩
 ·rw [if_pos b1];have hm:fj p k≠1000000:=fun e=>h2 (.inl e)
  generalize fj p k=v at *;subst b4;rw [tc];refine ⟨sy (by simp only [List.length_append,List.length_cons] at *; omega) (oW q2 (.inr ⟨v,rfl⟩) hA hB).1 (fun x hx=>?_),fun x hx=>?_⟩
  ·rcases List.mem_append.1 hx with hx | hx
   ·exact q3 x (List.mem_append_left _ hx)
   ·rcases List.mem_cons.1 hx with rfl | hx
    ·have:=q3 (k,v) (by simp);simp only at this ⊢;omega
    ·exact q3 x (List.mem_append_right _ (List.mem_cons_of_mem _ hx))
  ·rcases List.mem_append.1 hx with hx | hx
   ·exact .inr ⟨x,List.mem_append_left _ hx,rfl⟩
   ·rcases List.mem_cons.1 hx with rfl | hx
    ·exact .inl rfl
    ·exact .inr ⟨x,List.mem_append_right _ (List.mem_cons_of_mem _ hx),rfl⟩
theorem LD {p:List bo} {k:Int} (h:(dC p k).2.2=0):bL (dC p k).1=0/\∀ x∈(dC p k).1,∃ y∈p,y.1=x.1:=by
 unfold dC at h ⊢;split at h
 ·rename_i h1; simp only at h; exact absurd h h1
 rename_i h1;rw [if_neg h1];split at h
 ·simp at h
 rename_i h2;rw [if_neg h2];simp only;have h0:(aE p k).2.2=0:=by omega
 obtain ⟨k1,k2,k3,k4⟩:=uw h0;obtain ⟨q1,q2,q3⟩:=oV k1;obtain ⟨A,B,e,e2,hl,hA,hB,h3⟩:=lr h0;rw [e2];rcases h3 with ⟨b1,b2,b3⟩ | ⟨b1,b2,b3,b4⟩
 ·exact absurd b1 h2
 ·generalize fj p k=v at *;subst b4;by_cases hv:v=1
  ·rw [if_pos hv,EU];refine ⟨sy (by simp only [List.length_append,List.length_cons] at *; omega) (oW (v:=v) q2 (.inr ⟨v,rfl⟩) hA hB).2 (fun x hx=>?_),fun x hx=>?_⟩
   ·rcases List.mem_append.1 hx with hx | hx
    ·exact q3 x (List.mem_append_left _ hx)
    ·exact q3 x (List.mem_append_right _ (List.mem_cons_of_mem _ hx))
   ·rcases List.mem_append.1 hx with hx | hx
    ·exact ⟨x,List.mem_append_left _ hx,rfl⟩
    ·exact ⟨x,List.mem_append_right _ (List.mem_cons_of_mem _ hx),rfl⟩
  ·rw [if_neg hv,tc];refine ⟨sy (by simp only [List.length_append,List.length_cons] at *; omega) (oW q2 (.inr ⟨v,rfl⟩) hA hB).1 (fun x hx=>?_),fun x hx=>?_⟩
   ·rcases List.mem_append.1 hx with hx | hx
    ·exact q3 x (List.mem_append_left _ hx)
    ·rcases List.mem_cons.1 hx with rfl | hx
     ·have:=q3 (k,v) (by simp);simp only at this ⊢;omega
     ·exact q3 x (List.mem_append_right _ (List.mem_cons_of_mem _ hx))
   ·rcases List.mem_append.1 hx with hx | hx
    ·exact ⟨x,List.mem_append_left _ hx,rfl⟩
    ·rcases List.mem_cons.1 hx with rfl | hx
     ·exact ⟨(k,v),by simp,rfl⟩
     ·exact ⟨x,List.mem_append_right _ (List.mem_cons_of_mem _ hx),rfl⟩
section
variable {s:aj}
theorem Right.setPins (R:Right s) {p:List bo} (h0:bL p=0) (h:∀ x∈p,isB (ac s.1).1 x.1=true):Right (s.1,s.2.1,p,s.2.2.2) :=
 ⟨R.w,R.chk,R.root,h0,R.hand,fun x hx=>by
  rcases cj.1 hx with h1 | h1 | ⟨y,h1,rfl⟩
  ·exact R.nam x (cj.2 (.inl h1))
  ·exact R.nam x (cj.2 (.inr (.inl h1)))
  ·exact h y h1⟩
theorem Right.setHands (R:Right s) {h:List bb} (h0:aG h=0) (hh:∀ x∈h,x.2.1=true->isB (ac s.1).1 x.2.2=true):Right (s.1,s.2.1,s.2.2.1,h) :=
 ⟨R.w,R.chk,R.root,R.pin,h0,fun x hx=>by
  rcases cj.1 hx with h1 | ⟨y,h1,h2,rfl⟩ | h1
  ·exact R.nam x (cj.2 (.inl h1))
  ·exact hh y h1 h2
  ·exact R.nam x (cj.2 (.inr (.inr h1)))⟩
theorem Right.pinB (R:Right s) {x:bo} (h:x∈s.2.2.1):isB (ac s.1).1 x.1=true:=R.nam _ (cj.2 (.inr (.inr ⟨x,h,rfl⟩)))
theorem Right.handB (R:Right s) {x:bb} (h:x∈s.2.2.2) (h1:x.2.1=true):isB (ac s.1).1 x.2.2=true:=R.nam _ (cj.2 (.inr (.inl ⟨x,h,h1,rfl⟩)))
theorem Right.rootB (R:Right s) {v:Int} (h:v∈s.2.1) (h1:0<=v):isB (ac s.1).1 v=true:=R.nam _ (cj.2 (.inl ⟨h,h1⟩))
theorem Right.given (R:Right s):s.2.2.2.length<=16/\∀ x∈s.2.2.2,ee x=0:=jv.1 R.hand
end
end
section
open Go
theorem kN {k:Int} (hk:k<=256):∀ x∈bO k,am .u64 x:=by
 intro x hx;unfold bO at hx;split at hx
 ·rcases List.mem_cons.1 hx with rfl | hx
  ·simp only [aB,am,if_true];omega
  ·rw [List.eq_of_mem_replicate hx];simp only [am];omega
 ·cases hx
theorem Jf {l:List Int} {x:Int} (h:x∈l):l.getD (cD l x).toNat 0=x:=by
 have hp:=jr h;have:=dX (fun y=>decide (y=x)) (0:Int) l 0 hp.1 (Int.le_refl _);rw [Int.sub_zero] at this;exact of_decide_eq_true this
section
variable {a keep pinned long:List Int}
theorem K8 (hw:∀ x∈a,am .u64 x) (hP:Plan a keep pinned long) {i:Nat} (hi:i<keep.length):∀ x∈gM a keep (az keep long pinned) (keep.getD i 0),am .u64 x:=by
 intro x hx;unfold gM at hx;have hb:=hP.isb _ (dS hi);obtain ⟨l1,l2,l3,l4,l5,l6⟩:=bW hb;rcases List.mem_cons.1 hx with rfl | hx
 ·exact hw _ (aH (0:Int) (xs:=a) (i:=keep.getD i 0) (by omega) (by omega))
 rcases List.mem_append.1 hx with hx | hx
 ·obtain ⟨v,_,rfl⟩:=List.mem_map.1 hx;unfold jU kK;split
  ·simp only [Option.getD_some,am]; omega
  split
  ·rename_i hk;have hp:=jr (cu.1 hk);rw [kL (by omega)];have h1:=hP.le (cD keep (v - 1)).toNat (by omega);have h2:=(cf pinned hP.pre (cD keep (v - 1)).toNat (by omega)).1;have h3:=hP.lg (cD keep (v - 1)).toNat (by omega);obtain ⟨_,_,_,_,k5,k6⟩:=bW (hP.isb _ (dS (i:=(cD keep (v - 1)).toNat) (by omega)));have hal:=hP.al;simp only [Option.getD_some,am];omega
  ·simp only [Option.getD_none,am]; omega
 ·unfold gE it at hx;exact hw x (List.mem_of_mem_take (List.mem_of_mem_drop hx))
theorem I6 (hw:∀ x∈a,am .u64 x) (hP:Plan a keep pinned long):∀ n:Nat,n<=keep.length->∀ x∈mY a keep (az keep long pinned) pinned long n,am .u64 x
 | 0,_,x,hx=>by cases hx
 | n+1,hn,x,hx=>by
  simp only [mY] at hx;rcases List.mem_append.1 hx with hx | hx
  ·exact I6 hw hP n (by omega) x hx
  rcases List.mem_append.1 hx with hx | hx
  ·have h1:=hP.le n (by omega);have h2:=(cf pinned hP.pre n (by omega)).1;have h3:=hP.lg n (by omega);obtain ⟨_,_,_,_,k5,k6⟩:=bW (hP.isb _ (dS (i:=n) (by omega)));have hal:=hP.al;exact kN (by omega) x hx
  ·exact K8 hw hP (by omega) x hx
theorem K2 (hw:∀ x∈a,am .u64 x) (hP:Plan a keep pinned long):∀ x∈lJ a keep (az keep long pinned) pinned long (b9 a.length keep long pinned),am .u64 x:=by
 intro x hx;rw [oz _ hP] at hx;rcases List.mem_append.1 hx with hx | hx
 ·exact I6 hw hP _ (Nat.le_refl _) x hx
 ·have h2:=(cf pinned hP.pre keep.length (Nat.le_refl _)).1;have hal:=hP.al;exact kN (by omega) x hx
theorem I4 (hP:Plan a keep pinned long) {i:Nat} (hi:i<keep.length):isB (jK a keep pinned long) (ff pinned keep long i)=true:=by
 rw [<- fu,cu];exact lC (List.mem_append_left _ (td (pinned:=pinned) (long:=long) (a:=a) keep.length hi)) (fi (hP.isb _ (dS hi))).2.2.2.2.2
end
section
variable {s:aj}
theorem Right.toB (R:Right s) {x:Int} (hx:x∈cC s):isB (ac (dz s)).1 (kW s x)=true:=by
 have hp:=jr (R.keepIn hx);have hi:(cD (dA s) x).toNat<(dA s).length:=by omega
 rw [R.slidOK.2.2];unfold kW;rw [kL hi];exact I4 R.plan hi
theorem Right.toPin (R:Right s) {x:Int} (hx:x∈cH s):kW s x=x:=by
 have hk:=R.keepIn (R.pinsIn x hx);have hp:=jr hk;have hi:(cD (dA s) x).toNat<(dA s).length:=by omega
 unfold kW;rw [kL hi];unfold ff;rw [Jf hk,if_pos (cu.2 hx)]
theorem Right.swept (R:Right s):Right (iG s):=by
 have hal:=R.al;obtain ⟨k1,k2,k3⟩:=R.slidOK;have hr:=R.roots;have hg:=R.given;refine ⟨?_,k1,yE (by show (0:Int)<=((dz s).length:Nat); omega) (by show (((dz s).length:Nat):Int)<=256; omega) (by show (s.2.1.map (ke s)).length<=32; rw [List.length_map]; exact hr.1) (fun v hv=>?_),R.pin,jv.2 ⟨by show (s.2.2.2.map (km s)).length<=16; rw [List.length_map]; exact hg.1,fun x hx=>?_⟩,fun x hx=>?_⟩
 ·show ∀ x∈dz s,am .u64 x;rw [R.slid];exact K2 R.w R.plan
 ·obtain ⟨u,hu,rfl⟩:=List.mem_map.1 hv;show -1<=ke s u/\ke s u<((dz s).length:Nat);rw [k2];unfold ke;split
  ·rename_i h0;have:=R.toIn (cj.2 (.inl ⟨hu,h0⟩));omega
  ·have:=hr.2 u hu;omega
 ·obtain ⟨t,ht,rfl⟩:=List.mem_map.1 hx;have h1:=gV.1 (hg.2 t ht);unfold km;split
  ·rename_i h2;have:=R.toIn (cj.2 (.inr (.inl ⟨t,ht,h2,rfl⟩)));refine gV.2 ⟨h1.1,h1.2.1,this.1,by simp only; omega,h1.2.2.2.2.1,fun e=>?_⟩;simp only at e;rw [e] at h2;cases h2
  ·exact hg.2 t ht
 ·show isB (ac (dz s)).1 x=true;rcases cj.1 hx with ⟨h,h0⟩ | ⟨y,h,h1,rfl⟩ | ⟨p,h,rfl⟩
  ·obtain ⟨u,hu,rfl⟩:=List.mem_map.1 (show x∈s.2.1.map (ke s) from h);unfold ke at h0 ⊢;split at h0
   ·rename_i h2;rw [if_pos h2];exact R.toB (cj.2 (.inl ⟨hu,h2⟩))
   ·omega
  ·obtain ⟨t,ht,rfl⟩:=List.mem_map.1 (show y∈s.2.2.2.map (km s) from h);unfold km at h1 ⊢;split at h1
   ·rename_i h2;rw [if_pos h2];exact R.toB (cj.2 (.inr (.inl ⟨t,ht,h2,rfl⟩)))
   ·rename_i h2;exact absurd h1 h2
  ·have hp:p.1∈cH s:=List.mem_map.2 ⟨p,h,rfl⟩;have:=R.toB (R.pinsIn _ hp);rw [R.toPin hp] at this;exact this
end
end
section
open Go
theorem GC:∀ (at_:Int) (l:List Int) (k:List au),spotsS at_ l=some k->∀ (A:List au) (s:au) (B:List au),k=A++s::B ->
  ∃ X W Y,l=X++(W++Y)/\(X.length:Int)=s.1 - at_/\(W.length:Int)=aa s.2/\(∀ Z,spotsS at_ (X++Z)=(spotsS s.1 Z).map (A++·))/\spotsS (s.1+aa s.2) Y=some B:=by
 intro at_ l k h
 induction at_,l using spotsS.induct generalizing k with
 | case1 at_ =>
  intro A s B e;simp only [spotsS,Option.some.injEq] at h;rw [<- h] at e;simp at e
 | case2 at_ v l hv ih =>
  intro A s B e;rw [cL hv.1 hv.2] at h;obtain ⟨r',hr,rfl⟩:=Option.map_eq_some_iff.1 h;have hl:=dU hv.1;have hle:=hv.2;obtain ⟨n,hn⟩:∃ n:Nat,(aa (aU v)).toNat=n+1:=⟨(aa (aU v)).toNat - 1,by omega⟩
  have hlen:(l.take n).length=n:=by
   rw [List.length_take];simp only [List.length_cons] at hle;omega
  cases A with
  | nil =>
   simp only [List.nil_append,List.cons.injEq] at e;obtain ⟨rfl,rfl⟩:=e;refine ⟨[],v::l.take n,(v::l).drop (aa (aU v)).toNat,?_,by simp,?_,fun Z=>?_,hr⟩
   ·rw [hn];simp
   ·simp only [List.length_cons,hlen];omega
   ·simp only [List.nil_append];cases spotsS at_ Z <;> rfl
  | cons t A =>
   simp only [List.cons_append,List.cons.injEq] at e;obtain ⟨rfl,rfl⟩:=e;obtain ⟨X,W,Y,e1,e2,e3,e4,e5⟩:=ih _ hr A s B rfl;refine ⟨v::l.take n++X,W,Y,?_,?_,e3,fun Z=>?_,e5⟩
   ·rw [List.append_assoc,<- e1,hn];simp
   ·simp only [List.length_append,List.length_cons,hlen];omega
   ·rw [List.append_assoc,gI hv.1 (by rw [hlen]; omega),e4];cases spotsS s.1 Z <;> rfl
 | case3 at_ v l hv =>
  rw [eH hv] at h;cases h
theorem GB {b:List Int} (h:(ac b).2=0):spotsS 0 b=some (ac b).1:=by
 unfold ac at h ⊢;split at h
 ·simp at h
 rename_i hl;rw [if_neg hl];cases e:spotsS 0 b with
 | none=>rw [e] at h; simp at h
 | some l=>rfl
theorem Cj {X V V' Y:List Int} (h:V.length=V'.length) {j:Nat} (hj:j<X.length\/X.length+V.length<=j):(X++(V++Y))[j]?=(X++(V'++Y))[j]?:=by
 rcases hj with hj | hj
 ·rw [List.getElem?_append_left hj,List.getElem?_append_left hj]
 ·rw [List.getElem?_append_right (by omega),List.getElem?_append_right (by omega),List.getElem?_append_right (by omega),List.getElem?_append_right (by omega),h]
theorem BK {a:List Int} (hw:∀ x∈a,am .u64 x) (hc:(ak a).2.2=0) {r:cT} {h:dZ} (hr:r∈aL false [] (ac a).1) (h0:af h=0) (hf:h.2.2.2=false) (hl:aa h<=r.2) :
  (∀ x∈fb a r h,am .u64 x)/\(ak (fb a r h)).2.2=0/\(fb a r h).length=a.length/\(∀ x,isB (ac a).1 x=true->isB (ac (fb a r h)).1 x=true)/\isB (ac (fb a r h)).1 r.1=true:=by
 obtain ⟨h1,h2,h3,h4,h5⟩:=uk hc;obtain ⟨hal,_,_,hsz,_⟩:=bi hc;rw [h5] at hr;obtain ⟨s,hs,hsf,er⟩:=lq hr;have hz:(ak (cE a).1).2.2=0:=by rw [h1]
 obtain ⟨_,_,k1,k2,_⟩:=bi hz;have hsp:(ac (cE a).1).1=bA (ac a).1:=by rw [h1] at k1; exact k1.symm
 obtain ⟨A,B,eAB⟩:=List.append_of_mem hs;have hS:spotsS 0 (cE a).1=some (A++s::B):=by rw [GB k2,hsp,eAB]
 obtain ⟨X,W,Y,e1,e2,e3,e4,e5⟩:=GC 0 _ _ hS A s B rfl;have hn:=aW h0;have hL:aa h=1+h.1+h.2.1:=rfl;have er1:r.1=s.1:=by rw [er]
 have er2:r.2=aa s.2:=by rw [er]
 have hsr:=cK s (a:=(cE a).1) (by rw [hsp]; exact hs)
 have hXY:X.length+(W.length+Y.length)=a.length:=by
  have:=congrArg List.length e1;rw [h4] at this;simpa using this.symm
 have hW:W=bO r.2:=by
  obtain ⟨X',Y',eW,hX',_⟩:=lR _ 0 h3 (by omega) hs;rw [if_pos hsf] at eW;rw [<- h2,e1] at eW;have hx:X.length=X'.length:=by omega
  obtain ⟨rfl,e⟩:=List.append_inj eW hx;have hl2:W.length=(bO (aa s.2)).length:=by rw [bG]; omega
  rw [er2];exact (List.append_inj e hl2).1
 obtain ⟨m,hm⟩:∃ m:Nat,aa h=(m:Int)+1:=⟨(aa h - 1).toNat,by omega⟩;obtain ⟨V,hV⟩:∃ V,V=(aB h::List.replicate m 0)++bO (r.2 - aa h):=⟨_,rfl⟩
 have hVl:V.length=W.length:=by
  rw [hV,hW];simp only [List.length_append,List.length_cons,List.length_replicate,bG];omega
 have hP:fb a r h=X++(V++Y):=by
  unfold fb;rw [e1,hW,er1]
  have hWc:bO r.2=aB (0,r.2 - 1,0,true)::(List.replicate m 0++List.replicate (r.2 - aa h).toNat 0):=by
   unfold bO;rw [if_pos (by omega),List.replicate_append_replicate];congr 2;omega
  rw [hWc];have hcut:X++(aB (0,r.2 - 1,0,true)::(List.replicate m 0++List.replicate (r.2 - aa h).toNat 0)++Y)=(X++aB (0,r.2 - 1,0,true)::List.replicate m 0)++(List.replicate (r.2 - aa h).toNat 0++Y):=by simp only [List.append_assoc,List.cons_append]
  have hem:aT ((X++aB (0,r.2 - 1,0,true)::List.replicate m 0)++(List.replicate (r.2 - aa h).toNat 0++Y)) (s.1+aa h) (r.2 - aa h)=(X++aB (0,r.2 - 1,0,true)::List.replicate m 0)++(bO (r.2 - aa h)++Y):=by
   by_cases hz:0<r.2 - aa h
   ·rw [ob (by simp only [List.length_append,List.length_cons,List.length_replicate]; omega) (by omega) hz (by simp),List.drop_left' (by simp)]
   ·have:r.2 - aa h=0:=by omega
    rw [this];simp [aT,bO]
  rw [hcut,hem,hV]
  have hset:((X++aB (0,r.2 - 1,0,true)::List.replicate m 0)++(bO (r.2 - aa h)++Y)).set s.1.toNat (aB h)=(X++aB h::List.replicate m 0)++(bO (r.2 - aa h)++Y):=by
   rw [List.append_assoc,List.cons_append,oA _ (by omega)];simp
  rw [hset];simp
 have hJw:∀ x∈(cE a).1,am .u64 x:=by
  intro x hx;rw [h2] at hx
  have tw:∀ k:List au,(∀ t∈k,t.2.2.2.2=true->aa t.2<=256)->∀ x∈gH a k,am .u64 x:=by
   intro k
   induction k with
   | nil=>intro _ x hx; cases hx
   | cons t k ih =>
    intro hk x hx;simp only [gH] at hx;rcases List.mem_append.1 hx with hx | hx
    ·split at hx
     ·rename_i ht;exact kN (hk t List.mem_cons_self ht) x hx
     ·exact hw x (List.mem_of_mem_drop (List.mem_of_mem_take hx))
    ·exact ih (fun t ht=>hk t (List.mem_cons_of_mem _ ht)) x hx
  exact tw _ (fun t ht hf=>by
   obtain ⟨_,_,_,_,_,q⟩:=lR _ 0 h3 (by omega) ht;have:=(cK t (a:=(cE a).1) (by rw [hsp]; exact ht)).1;omega) x hx
 have hhw:am .u64 (aB h):=by
  have hx:h.1<=255/\h.2.1<=255:=by omega
  unfold aB;rw [hf];simp only [am,Bool.false_eq_true,if_false];omega
 obtain ⟨F,hF⟩:∃ F,F=(if 0<r.2 - aa h then [aC (s.1+aa h) (r.2 - aa h)] else []):=⟨_,rfl⟩
 have hspots:ac (fb a r h)=(A++((s.1,h)::(F++B)),0):=by
  refine kG (by rw [hP]; simp only [List.length_append]; omega) ?_;obtain ⟨q1,q2⟩:=rQ h0;rw [hP,e4,hV,List.append_assoc,gI q2 (by rw [q1]; simp only [List.length_replicate]; omega),q1,gq (by omega),hF];by_cases hz:0<r.2 - aa h
  ·rw [if_pos hz,if_pos hz,show s.1+aa h+(r.2 - aa h)=s.1+aa s.2 by omega,e5];rfl
  ·rw [if_neg hz,if_neg hz,show s.1+aa h=s.1+aa s.2 by omega,e5];rfl
 have hB:∀ x,isB (A++s::B) x=true->isB (A++((s.1,h)::(F++B))) x=true:=by
  intro x hx;rw [<- fu,cu] at hx ⊢
  have app:∀ (K L:List au),aX (K++L)=aX K++aX L:=by
   intro K L
   induction K with
   | nil=>rfl
   | cons t K ih =>
    simp only [List.cons_append,aX,ih];split
    ·rfl
    ·rfl
  rw [app] at hx ⊢;simp only [aX,hsf,if_true,hf,Bool.false_eq_true,if_false] at hx ⊢;rcases List.mem_append.1 hx with hx | hx
  ·exact List.mem_append_left _ hx
  ·refine List.mem_append_right _ (List.mem_cons_of_mem _ ?_);rw [app];exact List.mem_append_right _ hx
 have hold:∀ x,isB (ac a).1 x=true->isB (A++s::B) x=true:=by
  intro x hx;rw [<- fu] at hx ⊢;rw [<- eAB,mG];exact hx
 have hnew:isB (A++((s.1,h)::(F++B))) s.1=true:=by
  rw [<- fu,cu];exact lC (t:=s.1) (h:=h) (List.mem_append_right _ List.mem_cons_self) hf
 have hlen:(fb a r h).length=a.length:=by
  rw [hP];simp only [List.length_append];omega
 refine ⟨fun x hx=>?_,mE hspots (fun t ht v hv=>?_),hlen,fun x hx=>by rw [hspots]; exact hB x (hold x hx),by rw [hspots,er1]; exact hnew⟩
 ·rw [hP,hV] at hx
  have hJ:∀ x,x∈X\/x∈Y->am .u64 x:=fun x hx=>hJw x (by
   rw [e1];rcases hx with hx | hx
   ·exact List.mem_append_left _ hx
   ·exact List.mem_append_right _ (List.mem_append_right _ hx))
  rcases List.mem_append.1 hx with hx | hx
  ·exact hJ x (.inl hx)
  rcases List.mem_append.1 hx with hx | hx
  ·rcases List.mem_append.1 hx with hx | hx
   ·rcases List.mem_cons.1 hx with rfl | hx
    ·exact hhw
    ·rw [List.eq_of_mem_replicate hx];simp only [am];omega
   ·exact kN (by omega) x hx
  ·exact hJ x (.inr hx)
 ·
  have hrefs:∀ t,t∈A++s::B->t≠s->aO (fb a r h) t=aO (cE a).1 t:=by
   intro t ht hne;have htJ:t∈(ac (cE a).1).1:=by rw [hsp,eAB]; exact ht
   have hsJ:s∈(ac (cE a).1).1:=by rw [hsp]; exact hs
   have ht2:=aW ((gr k2).2 t htJ).2;have hLt:aa t.2=1+t.2.1+t.2.2.1:=rfl;refine qg (cK t htJ).1 ht2.1 fun j j0 j1=>?_
   rw [hP,e1];refine Cj hVl ?_;rcases lY k2 htJ hsJ with e | e | e
   ·exact absurd e hne
   ·left; omega
   ·right; omega
  have old:∀ t,t∈A++s::B->t≠s->v∈aO (fb a r h) t->v=0\/1<=v/\isB (A++((s.1,h)::(F++B))) (v - 1)=true:=by
   intro t ht hne hv;rw [hrefs t ht hne] at hv;rcases lB hJw hz t (by rw [hsp,eAB]; exact ht) v hv with h | ⟨h1,h2⟩
   ·exact .inl h
   ·rw [hsp,eAB] at h2;exact .inr ⟨h1,hB _ h2⟩
  have hsort:=bV (cE a).1;rw [hsp,eAB] at hsort;obtain ⟨_,hs2,hs3⟩:=List.pairwise_append.1 hsort;rcases List.mem_append.1 ht with ht | ht
  ·exact old t (List.mem_append_left _ ht) (fun e=>by have:=hs3 t ht s List.mem_cons_self; rw [e] at this; omega) hv
  rcases List.mem_cons.1 ht with rfl | ht
  ·left;unfold aO at hv;rw [hP,hV] at hv;have hx:(X.length:Int)=s.1:=by omega
   have e6:(s.1+1+h.1).toNat=X.length+(1+h.1.toNat):=by omega
   have e7:(s.1+1).toNat=X.length+1:=by omega
   simp only at hv;rw [e6,e7,List.take_append,List.drop_append,List.drop_of_length_le (by rw [List.length_take]; omega),List.nil_append,List.take_of_length_le (by omega:X.length<=_),show X.length+1 - X.length=1 by omega,show X.length+(1+h.1.toNat) - X.length=h.1.toNat+1 by omega,List.append_assoc,List.cons_append,List.take_succ_cons,List.drop_succ_cons,List.drop_zero,List.take_append_of_le_length (by rw [List.length_replicate]; omega)] at hv;exact List.eq_of_mem_replicate (List.mem_of_mem_take hv)
  rcases List.mem_append.1 ht with ht | ht
  ·rw [hF] at ht;split at ht
   ·rw [List.mem_singleton.1 ht] at hv;unfold aO aC at hv;simp only [Int.add_zero] at hv;rw [List.drop_of_length_le (by rw [List.length_take]; omega)] at hv;cases hv
   ·cases ht
  ·exact old t (List.mem_append_right _ (List.mem_cons_of_mem _ ht)) (fun e=>by have:=(List.pairwise_cons.1 hs2).1 t ht; rw [e] at this; omega) hv
end
section
open Go
section
variable {s:aj}
theorem Right.arena2 (R:Right s) {b:List Int} (hw:∀ x∈b,am .u64 x) (hc:(ak b).2.2=0) (hl:b.length=s.1.length) (hb:∀ x,isB (ac s.1).1 x=true->isB (ac b).1 x=true):Right (b,s.2) :=
 ⟨hw,hc,by simp only; rw [hl]; exact R.root,R.pin,R.hand,fun x hx=>hb x (R.nam x hx)⟩
theorem Right.laid (R:Right s) {slot:Int} {h:dZ} (hh:fH h=0) (ht:(iD s slot h).2=true):Right (iD s slot h).1:=by
 obtain ⟨h0,hf⟩:=Lp hh;unfold iD gY at ht ⊢;split at ht
 ·simp at ht
 ·rename_i r hr;have hm:=List.mem_of_find?_eq_some hr;have hle:aa h<=r.2:=by simpa using List.find?_some hr
  obtain ⟨p1,p2,p3,p4,p5⟩:=BK R.w R.chk hm h0 hf hle;exact (R.arena2 p1 p2 p3 p4).setRoot (.inr p5)
theorem Right.make (R:Right s) {slot:Int} {h:dZ} (e:(a8 s slot h).2.2=0):Right (a8 s slot h).1:=by
 unfold a8 at e ⊢;split at e
 ·rename_i h1; simp only at e; exact absurd e h1
 rename_i h1;split at e
 ·rename_i h2; simp only at e; exact absurd e h2
 rename_i h2;rw [if_neg h1,if_neg h2];have hh:fH h=0:=by omega
 split at e
 ·rename_i h3;rw [if_pos h3];exact R.laid hh h3
 rename_i h3;rw [if_neg h3];split at e
 ·rename_i h4;rw [if_pos h4];exact R.swept.laid hh h4
 ·simp at e
theorem Hb (R:Right s) {a b c:Int} (e:(kh s a b c).2=0):Right (kh s a b c).1:=by
 unfold kh at e ⊢;split at e
 ·rename_i h; exact absurd e h
 rename_i h;rw [if_neg h];obtain ⟨_,O,b0,b1,c0,c1⟩:=yJ R.w (by omega:bv s a b c=0);refine R.setRoot ?_;have hin:=fi O.isb;obtain ⟨l1,l2,l3,l4,l5,l6⟩:=bW O.isb
 have hm:s.1.getD (ax s a+1+b).toNat 0∈bF s.1 (ax s a):=by
  unfold bF aO;rw [List.mem_iff_getElem?];refine ⟨b.toNat,?_⟩;rw [List.getElem?_drop,List.getElem?_take,if_pos (by simp only; omega),show (ax s a+1).toNat+b.toNat=(ax s a+1+b).toNat by omega];have hlt:(ax s a+1+b).toNat<s.1.length:=by omega
  simp [List.getD_eq_getElem?_getD,hlt]
 rcases lB R.w R.chk _ hin.1 _ hm with h | ⟨_,h⟩
 ·exact .inl (by omega)
 ·exact .inr h
theorem G6 (R:Right s) {a b c:Int} (e:(kc s a b c).2=0):Right (kc s a b c).1:=by
 unfold kc at e ⊢;split at e
 ·rename_i h; exact absurd e h
 rename_i h;rw [if_neg h];obtain ⟨_,O,b0,b1,c0,c1⟩:=yJ R.w (by omega:bv s a b c=0);refine R.setRef O b0 b1 ?_;have hr:=R.rootIn c0 c1;by_cases h0:0<=ax s c
 ·refine .inr ⟨by omega,?_⟩;rw [show ax s c+1 - 1=ax s c by omega];exact R.rootB (aH (0:Int) c0 c1) h0
 ·left;unfold ax at *;omega
theorem Hc (R:Right s) {a b v:Int} (hv:am .u64 v) (e:(jp s a b v).2=0):Right (jp s a b v).1:=by
 unfold jp at e ⊢;split at e
 ·rename_i h; exact absurd e h
 rename_i h;rw [if_neg h];obtain ⟨_,O,b0,b1,_⟩:=zK R.w (by omega:aN s a b=0);exact R.setBody O b0 b1 hv
theorem He (R:Right s) {a:Int} (e:(ix s a).2.2=0):Right (ix s a).1:=by
 unfold ix at e ⊢;split at e
 ·rename_i h; exact absurd e h
 rename_i h;rw [if_neg h];split at e
 ·rename_i h2; exact absurd e h2
 rename_i h2;rw [if_neg h2];obtain ⟨_,a0,a1,O⟩:=nJ R.w (by omega:bp s a=0);obtain ⟨p1,p2⟩:=MM (by omega:(gm s.2.2.1 (ax s a)).2.2=0);refine R.setPins p1 fun x hx=>?_
 rcases p2 x hx with h | ⟨y,hy,h⟩
 ·rw [h]; exact O.isb
 ·rw [<- h]; exact R.pinB hy
theorem Ap (R:Right s) {a:Int} (e:(cP s a).2=0):Right (cP s a).1:=by
 unfold cP at e ⊢;split at e
 ·rename_i h; exact absurd e h
 rename_i h;rw [if_neg h];split at e
 ·rename_i h2; exact absurd e h2
 rename_i h2;rw [if_neg h2];obtain ⟨p1,p2⟩:=LD (by omega:(dC s.2.2.1 a).2.2=0);refine R.setPins p1 fun x hx=>?_
 obtain ⟨y,hy,h⟩:=p2 x hx;rw [<- h];exact R.pinB hy
theorem Eb (R:Right s) {a:Int} (e:(fh s a).2.2=0):Right (fh s a).1:=by
 unfold fh at e ⊢;split at e
 ·rename_i h; exact absurd e h
 rename_i h;rw [if_neg h];split at e
 ·rename_i h2; exact absurd e h2
 rename_i h2;rw [if_neg h2];obtain ⟨_,a0,a1,O⟩:=nJ R.w (by omega:bp s a=0);have h2:(openF s.2.2.2 (ax s a)).2.2=0:=by omega
 have hb:=gB O.isb;rw [BM _ R.hand] at h2 ⊢;split at h2
 ·simp at h2
 rename_i h3;rw [if_neg h3];split at h2
 ·simp at h2
 rename_i h4;rw [if_neg h4];have hr:=eA ay s.2.2.2 0;have hi:=dX ay (0,false,0) s.2.2.2 0 (by omega) (Int.le_refl _);rw [Int.sub_zero] at hi;generalize ag ay 0 s.2.2.2=i at *;unfold ay at hi;simp only [Bool.and_eq_true,decide_eq_true_eq] at hi;have hg:=R.given;have hgd:=aH ((0,false,0):bb) (xs:=s.2.2.2) (i:=i) (by omega) (by omega);have hbad:=gV.1 (hg.2 _ hgd);refine R.setHands (jv.2 ⟨by simpa using hg.1,fun x hx=>?_⟩) fun x hx h1=>?_
 ·rcases List.mem_or_eq_of_mem_set hx with hx | rfl
  ·exact hg.2 x hx
  ·unfold ld;exact gV.2 ⟨by simp only; omega,by have:=hi.2; simp only; omega,by simp only; omega,by simp only; omega,(fun _=>by simp only; omega),fun e=>by cases e⟩
 ·rcases List.mem_or_eq_of_mem_set hx with hx | rfl
  ·exact R.handB hx h1
  ·exact O.isb
theorem Gv (R:Right s) {v a:Int} (e:(jl s v a).2=0):Right (jl s v a).1:=by
 unfold jl at e ⊢;split at e
 ·rename_i h; exact absurd e h
 rename_i h;rw [if_neg h];split at e
 ·rename_i h2; exact absurd e h2
 rename_i h2;rw [if_neg h2];refine R.setRoot (.inr ?_);unfold gQ at h2 ⊢;split at h2
 ·rename_i h3; exact absurd h3 h2
 rename_i h3;rw [if_neg h3];simp only;unfold ce at h3 ⊢;split at h3
 ·rename_i h4; exact absurd h4 h3
 rename_i h4;rw [if_neg h4];split at h3
 ·rename_i h5;rw [if_pos h5];simp only;exact R.handB (aH ((0,false,0):bb) (by omega) (by omega)) h5.2.1
 ·simp at h3
theorem D1 (R:Right s) {v:Int} (e:(fo s v).2=0):Right (fo s v).1:=by
 unfold fo at e ⊢;split at e
 ·rename_i h; exact absurd e h
 rename_i h;rw [if_neg h];split at e
 ·rename_i h2; exact absurd e h2
 rename_i h2;rw [if_neg h2];unfold closeF at h2 ⊢;split at h2
 ·rename_i h3; exact absurd h3 h2
 rename_i h3;rw [if_neg h3];simp only;have hg:=R.given;refine R.setHands (jv.2 ⟨by simpa using hg.1,fun x hx=>?_⟩) fun x hx h1=>?_
 ·rcases List.mem_or_eq_of_mem_set hx with hx | rfl
  ·exact hg.2 x hx
  ·by_cases hlt:(ce s.2.2.2 v).1.toNat<s.2.2.2.length
   ·have hgd:=List.getElem_mem hlt;have hbad:=gV.1 (hg.2 _ hgd);rw [List.getD_eq_getElem?_getD,List.getElem?_eq_getElem hlt];exact gV.2 ⟨hbad.1,hbad.2.1,Int.le_refl _,(show (0:Int)<=255 by decide),(fun e=>by cases e),fun _=>rfl⟩
   ·rw [List.getD_eq_getElem?_getD,List.getElem?_eq_none (by omega)];exact gV.2 ⟨Int.le_refl _,(show (0:Int)<=65535 by decide),Int.le_refl _,(show (0:Int)<=255 by decide),(fun e=>by cases e),fun _=>rfl⟩
 ·rcases List.mem_or_eq_of_mem_set hx with hx | rfl
  ·exact R.handB hx h1
  ·cases h1
theorem EO (R:Right s) {a:Int} (e:(eX s a).2=0):Right (eX s a).1:=by
 unfold eX at e ⊢;split at e
 ·rename_i h; exact absurd e h
 rename_i h;rw [if_neg h];exact R.setRoot (.inl rfl)
theorem ES (R:Right s) {k a b c v:Int} (hk:1<=k/\k<=13) (hv:am .u64 v) (e:(deed s k a b c v).2.2=0):Right (deed s k a b c v).1:=by
 have hk:k=1\/k=2\/k=3\/k=4\/k=5\/k=6\/k=7\/k=8\/k=9\/k=10\/k=11\/k=12\/k=13:=by omega
 rcases hk with rfl | rfl | rfl | rfl | rfl | rfl | rfl | rfl | rfl | rfl | rfl | rfl | rfl
 ·rw [xD] at e ⊢; exact R.make e
 ·rw [CM]; exact R.swept
 ·rw [CL] at e ⊢; exact Hb R e
 ·rw [CK] at e ⊢; exact G6 R e
 ·rw [xC] at e ⊢;split at e
  ·rename_i h; exact absurd e h
  rename_i h;rw [if_neg h];exact R
 ·rw [xB] at e ⊢; exact Hc R hv e
 ·rw [CJ] at e ⊢; exact He R e
 ·rw [CI] at e ⊢; exact Ap R e
 ·rw [CH] at e ⊢;split at e
  ·rename_i h; exact absurd e h
  rename_i h;rw [if_neg h];exact R
 ·rw [uR] at e ⊢; exact Eb R e
 ·rw [uQ] at e ⊢; exact Gv R e
 ·rw [uP] at e ⊢; exact D1 R e
 ·rw [uO] at e ⊢; exact EO R e
theorem oY {k a b c v:Int} (h:¬ ca k a b c v=true):1<=k/\k<=13:=by
 unfold ca at h;simp only [Bool.or_eq_true,decide_eq_true_eq,not_or] at h;omega
theorem EQ (R:Right s) {k a b c v:Int} (hv:am .u64 v) (e:(a7 s k a b c v).2.2=0):Right (a7 s k a b c v).1:=by
 unfold a7 at e ⊢;split at e
 ·simp at e
 rename_i h1;rw [if_neg h1];split at e
 ·rename_i h2; exact absurd e h2
 rename_i h2;rw [if_neg h2];exact ES R (oY h1) hv e
end
end
section
open Go
set_option maxRecDepth 100000
set_option maxHeartbeats 1000000
def AN:Spec:={ Ts:=[bj,bj],Rs:=[.dat bj,.dat bj],pre:=fun ((x,y):Int×Int)=>x=1/\y<=1000,F:=fun ((_,y):Int×Int)=>((0,y):Int×Int) }
def By:Prop :=
  ∀ (x:Int×Int),am .u64 x.1/\am .u64 x.2->x.1=1/\x.2<=1000->(0:Int)<=32/\32<(↑IntKind.u64.bits:Int)/\(0:Int)<=32/\32<(↑IntKind.u64.bits:Int)/\am .u64 ((↑(x.1.toNat &&& Int.toNat 4294967295):Int) * (↑(x.2.toNat &&& Int.toNat 4294967295):Int))/\am .u64 (x.1 / 2 ^ Int.toNat 32 * (↑(x.2.toNat &&& Int.toNat 4294967295):Int))/\(0:Int)<=32/\32<(↑IntKind.u64.bits:Int)/\am .u64 (x.1 / 2 ^ Int.toNat 32 * (↑(x.2.toNat &&& Int.toNat 4294967295):Int)+(↑(x.1.toNat &&& Int.toNat 4294967295):Int) * (↑(x.2.toNat &&& Int.toNat 4294967295):Int) / 2 ^ Int.toNat 32)/\(0:Int)<=32/\32<(↑IntKind.u64.bits:Int)/\am .u64 ((↑(x.1.toNat &&& Int.toNat 4294967295):Int) * (x.2 / 2 ^ Int.toNat 32))/\am .u64 ((↑((x.1 / 2 ^ Int.toNat 32 * (↑(x.2.toNat &&& Int.toNat 4294967295):Int)+(↑(x.1.toNat &&& Int.toNat 4294967295):Int) * (↑(x.2.toNat &&& Int.toNat 4294967295):Int) / 2 ^ Int.toNat 32).toNat &&& Int.toNat 4294967295):Int)+(↑(x.1.toNat &&& Int.toNat 4294967295):Int) * (x.2 / 2 ^ Int.toNat 32))/\am .u64 (x.1 / 2 ^ Int.toNat 32 * (x.2 / 2 ^ Int.toNat 32))/\am .u64 (x.1 / 2 ^ Int.toNat 32 * (x.2 / 2 ^ Int.toNat 32)+(x.1 / 2 ^ Int.toNat 32 * (↑(x.2.toNat &&& Int.toNat 4294967295):Int)+(↑(x.1.toNat &&& Int.toNat 4294967295):Int) * (↑(x.2.toNat &&& Int.toNat 4294967295):Int) / 2 ^ Int.toNat 32) / 2 ^ Int.toNat 32)/\(0:Int)<=32/\32<(↑IntKind.u64.bits:Int)/\am .u64 (x.1 / 2 ^ Int.toNat 32 * (x.2 / 2 ^ Int.toNat 32)+(x.1 / 2 ^ Int.toNat 32 * (↑(x.2.toNat &&& Int.toNat 4294967295):Int)+(↑(x.1.toNat &&& Int.toNat 4294967295):Int) * (↑(x.2.toNat &&& Int.toNat 4294967295):Int) / 2 ^ Int.toNat 32) / 2 ^ Int.toNat 32+((↑((x.1 / 2 ^ Int.toNat 32 * (↑(x.2.toNat &&& Int.toNat 4294967295):Int)+(↑(x.1.toNat &&& Int.toNat 4294967295):Int) * (↑(x.2.toNat &&& Int.toNat 4294967295):Int) / 2 ^ Int.toNat 32).toNat &&& Int.toNat 4294967295):Int)+(↑(x.1.toNat &&& Int.toNat 4294967295):Int) * (x.2 / 2 ^ Int.toNat 32)) / 2 ^ Int.toNat 32)/\am .u64 (x.1 * x.2)/\x.1 / 2 ^ Int.toNat 32 * (x.2 / 2 ^ Int.toNat 32)+(x.1 / 2 ^ Int.toNat 32 * (↑(x.2.toNat &&& Int.toNat 4294967295):Int)+(↑(x.1.toNat &&& Int.toNat 4294967295):Int) * (↑(x.2.toNat &&& Int.toNat 4294967295):Int) / 2 ^ Int.toNat 32) / 2 ^ Int.toNat 32+((↑((x.1 / 2 ^ Int.toNat 32 * (↑(x.2.toNat &&& Int.toNat 4294967295):Int)+(↑(x.1.toNat &&& Int.toNat 4294967295):Int) * (↑(x.2.toNat &&& Int.toNat 4294967295):Int) / 2 ^ Int.toNat 32).toNat &&& Int.toNat 4294967295):Int)+(↑(x.1.toNat &&& Int.toNat 4294967295):Int) * (x.2 / 2 ^ Int.toNat 32)) / 2 ^ Int.toNat (32:Int)=0/\x.1 * x.2=x.2/\True
theorem Gl:By:=by
 unfold By;intro ⟨x,y⟩ ⟨hx,hy⟩ ⟨h1,h2⟩;simp only [am] at hx hy h1 h2 ⊢;subst h1;have e1:(((1:Int).toNat &&& Int.toNat 4294967295:Nat):Int)=1:=by decide
 have e2:((y.toNat &&& Int.toNat 4294967295:Nat):Int)=y:=by
  have h:=mn hy.1 32;have h3:Int.toNat 4294967295=2 ^ 32 - 1:=by decide
  rw [h3,h];omega
 have e3:(1:Int) / 2 ^ Int.toNat 32=0:=by decide
 have e4:y / 2 ^ Int.toNat 32=0:=by
  have:(2:Int) ^ Int.toNat 32=4294967296:=by decide
  rw [this]; omega
 have e5:(0:Int) / 2 ^ Int.toNat 32=0:=by decide
 have e6:(((0:Int).toNat &&& Int.toNat 4294967295:Nat):Int)=0:=by decide
 simp only [e1,e2,e3,e4,Int.one_mul,Int.zero_mul,Int.mul_zero,Int.add_zero,e5,e6];have eb:((IntKind.u64.bits:Nat):Int)=64:=rfl;rw [eb];simp only [and_true];omega
theorem Jv:AN.ok Tryz.prog 201:=aD (ann:=co) ap Tryz.func201 (by kernel_rfl) Gl
def Md:Spec:=AN
def Jc:Prop :=
  ∀ (x:Int×Int),am .u64 x.1/\am .u64 x.2->x.1=1/\x.2<=1000->(false=true->False)/\(false=false->(x.1=1/\x.2<=1000)/\(0:Int)=0/\x.2=x.2/\True)
theorem KH:Jc:=by
 unfold Jc;intro ⟨x,y⟩ _ ⟨h1,h2⟩;exact ⟨fun h=>(by cases h),fun _=>⟨⟨h1,h2⟩,rfl,rfl,trivial⟩⟩
theorem Mr:Md.ok Tryz.prog 136:=aD (ann:=co) (ae Jv ap) Tryz.func136 (by kernel_rfl) KH
theorem yG {v n:Int} (h:0<n):List.take 1 [v]++List.drop (0+1) (List.replicate n.toNat 0)=List.replicate (1:Int).toNat v++List.replicate (n - 1).toNat 0:=by
 rw [List.drop_replicate,show n.toNat - (0+1)=(n - 1).toNat by omega];rfl
theorem Bk {v n k:Int} {row:List Int} (k0:0<=k) (kn:k<=n) (hrow:row=List.replicate k.toNat v++List.replicate (n - k).toNat 0) {m:Nat} (hm:m=min k.toNat (n - k).toNat) :
  row.take k.toNat++((row.take k.toNat).take m++row.drop (k.toNat+m))=List.replicate (k+m).toNat v++List.replicate (n - (k+m)).toNat 0:=by
 have h1:row.take k.toNat=List.replicate k.toNat v:=by
  rw [hrow,List.take_append_of_le_length (by simp),List.take_of_length_le (by simp)]
 have h2:row.drop (k.toNat+m)=List.replicate (n - (k+m)).toNat 0:=by
  rw [hrow,List.drop_append,List.drop_of_length_le (by simp),List.nil_append,List.drop_replicate,List.length_replicate];congr 1;omega
 rw [h1,h2,List.take_replicate,<- List.append_assoc,List.replicate_append_replicate];congr 2;omega
def E3:Nat->Option LoopGen
 | 8=>some { wr:=[7],rd:=[.dat 0 (.arr ty_I),.dat 1 ty_I],A:=fun ((xs,n):List Int×Int)=>{ cs:=[.own 7 3 ty_I,.dat 8 ty_I],inv:=fun ((row,k):List Int×Int)=>0<=k/\k<=n/\(0<n->0<k)/\row=List.replicate k.toNat (xs.getD 0 0)++List.replicate (n - k).toNat 0,mu:=fun ((_,k):List Int×Int)=>(n - k).toNat } }
 | _=>none
def DO:Spec:={ Ts:=[.arr ty_I,ty_I],Rs:=[.own 3 ty_I],pre:=fun ((xs,n):List Int×Int)=>xs.length=1/\0<=n/\n<=1000,F:=fun ((xs,n):List Int×Int)=>List.replicate n.toNat (xs.getD 0 0) }
def tG:Prop :=
  ∀ (x:List Int×Int),(fun (v1:type_of% (IntKind.i64.wrap (IntKind.u64.wrap x.2)))=>(x.1.length * 8<=aJ/\∀ (x_1:Int),x_1∈x.1->am .i64 x_1)/\am .i64 x.2->x.1.length=1/\0<=x.2/\x.2<=1000->(decide (x.2<0)=true->False)/\(decide (x.2<0)=false->(IntKind.u64.wrap (x.1.length:Int)=1/\IntKind.u64.wrap x.2<=1000)/\((decide ((0:Int)<0)||decide (9223372036854775807<IntKind.u64.wrap x.2))=true->False)/\((decide ((0:Int)<0)||decide (9223372036854775807<IntKind.u64.wrap x.2))=false->0<=IntKind.i64.wrap (IntKind.u64.wrap x.2)/\v1.toNat * 8<=aJ/\0+(List.replicate v1.toNat (0:Int)).length<=(List.replicate v1.toNat (0:Int)).length/\(0<=(↑(min x.1.length (List.replicate v1.toNat (0:Int)).length):Int)/\(↑(min x.1.length (List.replicate v1.toNat (0:Int)).length):Int)<=x.2/\(0<x.2->0<(↑(min x.1.length (List.replicate v1.toNat (0:Int)).length):Int))/\List.take 0 (List.replicate v1.toNat (0:Int))++(List.take (min x.1.length (List.replicate v1.toNat (0:Int)).length) x.1++List.drop (0+min x.1.length (List.replicate v1.toNat (0:Int)).length) (List.replicate v1.toNat (0:Int)))=List.replicate (↑(min x.1.length (List.replicate v1.toNat (0:Int)).length):Int).toNat (x.1.getD 0 0)++List.replicate (x.2 - (↑(min x.1.length (List.replicate v1.toNat (0:Int)).length):Int)).toNat (0:Int))/\∀ (x_1:List Int×Int),(fun (v0:type_of% (min (List.take x_1.2.toNat (List.drop 0 x_1.1)).length (x_1.1.length - x_1.2.toNat)))=>0<=x_1.2/\x_1.2<=x.2/\(0<x.2->0<x_1.2)/\x_1.1=List.replicate x_1.2.toNat (x.1.getD 0 0)++List.replicate (x.2 - x_1.2).toNat (0:Int)->(decide (x_1.2<(x_1.1.length:Int))=true->0<=x_1.2/\x_1.2<=(x_1.1.length:Int)/\0<=x_1.2/\x_1.2<=(x_1.1.length:Int)/\0+x_1.2.toNat<=x_1.1.length/\x_1.2.toNat+(x_1.1.length - x_1.2.toNat)<=x_1.1.length/\x_1.2=x_1.2/\am .i64 (x_1.2+(↑v0:Int))/\(0<=x_1.2+(↑v0:Int)/\x_1.2+(↑v0:Int)<=x.2/\(0<x.2->0<x_1.2+(↑v0:Int))/\List.take x_1.2.toNat x_1.1++(List.take v0 (List.take x_1.2.toNat (List.drop 0 x_1.1))++List.drop (x_1.2.toNat+min (List.take x_1.2.toNat (List.drop 0 x_1.1)).length (x_1.1.length - x_1.2.toNat)) x_1.1)=List.replicate (x_1.2+(↑v0:Int)).toNat (x.1.getD 0 0)++List.replicate (x.2 - (x_1.2+(↑v0:Int))).toNat (0:Int))/\(x.2 - (x_1.2+(↑v0:Int))).toNat<(x.2 - x_1.2).toNat)/\(decide (x_1.2<(x_1.1.length:Int))=false->x_1.1=List.replicate x.2.toNat (x.1.getD 0 0)/\True)) (min (List.take x_1.2.toNat (List.drop 0 x_1.1)).length (x_1.1.length - x_1.2.toNat))))) (IntKind.i64.wrap (IntKind.u64.wrap x.2))
theorem Ad:tG:=by
 unfold tG;intro ⟨xs,n⟩ _ ⟨h1,h2,h3⟩;simp only at h1 h2 h3 ⊢
 obtain ⟨v,rfl⟩:∃ v,xs=[v]:=by
  match xs,h1 with
  | [v],_=>exact ⟨v,rfl⟩
 have e1:IntKind.u64.wrap n=n:=fO h2 (by omega);have e2:IntKind.i64.wrap n=n:=m4 (by omega) (by omega);have e3:IntKind.u64.wrap (([v].length:Nat):Int)=1:=fO (by simp) (by simp);have e4:[v].getD 0 0=v:=rfl;rw [e1,e2,e3,e4];refine ⟨fun h=>absurd (of_decide_eq_true h) (by omega),fun _=>⟨⟨rfl,by omega⟩,fun h=>?_,fun _=>⟨h2,by unfold aJ; omega,by omega,?_,fun ⟨row,k⟩ ⟨k0,kn,kp,kr⟩=>⟨fun hlt=>?_,fun hge=>?_⟩⟩⟩⟩
 ·simp only [Bool.or_eq_true,decide_eq_true_eq] at h;omega
 ·by_cases hn:0<n
  ·have hm:min [v].length (List.replicate n.toNat (0:Int)).length=1:=by
    rw [List.length_replicate,List.length_singleton]; omega
   rw [hm];refine ⟨by omega,by omega,by omega,?_⟩;rw [List.take_zero,List.nil_append];exact yG hn
  ·have hz:n=0:=by omega
   subst hz;simp
 ·simp only at k0 kn kp kr hlt ⊢;have hl:(row.length:Int)=n:=by rw [kr]; simp; omega
  have hlt:=of_decide_eq_true hlt;have htl:(List.take k.toNat row).length=k.toNat:=by rw [List.length_take]; omega
  have hmin:min (List.take k.toNat row).length (row.length - k.toNat)=min k.toNat (n - k).toNat:=by rw [htl]; omega
  rw [List.drop_zero,hmin,Bk k0 kn kr rfl];simp only [am];exact ⟨by omega,by omega,by omega,by omega,by omega,by omega,by first | rfl | trivial,by omega,⟨by omega,by omega,by omega,by first | rfl | trivial⟩,by omega⟩
 ·simp only at k0 kn kp kr hge ⊢;have hl:(row.length:Int)=n:=by rw [kr]; simp; omega
  have hge:=of_decide_eq_false hge;have hk:k=n:=by omega
  refine ⟨?_,trivial⟩;rw [kr,hk];simp
theorem Ei:DO.ok Tryz.prog 57:=aD (ann:=E3) (ae Mr ap) Tryz.func57 (by kernel_rfl) Ad
def js (w:Int):List Int:=if 0<w then (List.replicate w.toNat 0).set 0 (aB (0,w - 1,0,true)) else List.replicate w.toNat 0
def ar (w r h:Int):aj×Int:=if w<0\/256<w then (([],[],[],[]),4) else if r<0\/32<r then (([],[],[],[]),4) else if h<0\/16<h then (([],[],[],[]),4) else ((js w,List.replicate r.toNat (-1),[],List.replicate h.toNat (0,false,0)),0)
def IN:Spec:={ Ts:=[ty_I,ty_I,ty_I],Rs:=[.dat aM,.dat ty_I],al:=true,pre:=fun _=>True,F:=fun ((w,r,h):Int×Int×Int)=>ar w r h }
def Br:Prop :=
  ∀ (x:Int×Int×Int),am .i64 x.1/\am .i64 x.2.1/\am .i64 x.2.2->True->True/\(decide ((o7 x.1).2≠0)=true->(([]:List Int),([]:List Int),([]:List (Int×Int)),([]:List (Int×Bool×Int)))=(ar x.1 x.2.1 x.2.2).1/\(o7 x.1).2=(ar x.1 x.2.1 x.2.2).2/\True)/\(decide ((o7 x.1).2≠0)=false->((decide (x.2.1<0)||decide (32<x.2.1))=true->(([]:List Int),([]:List Int),([]:List (Int×Int)),([]:List (Int×Bool×Int)))=(ar x.1 x.2.1 x.2.2).1/\4=(ar x.1 x.2.1 x.2.2).2/\True)/\((decide (x.2.1<0)||decide (32<x.2.1))=false->True/\(decide ((dM x.2.2).2≠0)=true->(([]:List Int),([]:List Int),([]:List (Int×Int)),([]:List (Int×Bool×Int)))=(ar x.1 x.2.1 x.2.2).1/\(dM x.2.2).2=(ar x.1 x.2.1 x.2.2).2/\True)/\(decide ((dM x.2.2).2≠0)=false->(decide (0<x.1)=true->am .i64 (x.1 - 1)/\True/\(0:Int)<=0/\0<(↑(o7 x.1).1.length:Int)/\Int.toNat 0<(o7 x.1).1.length/\([(-1)].length=1/\0<=x.2.1/\x.2.1<=1000)/\((o7 x.1).1.set (Int.toNat 0) (if af (0,x.1 - 1,0,true)=0 then aB (0,x.1 - 1,0,true) else (0:Int)),List.replicate x.2.1.toNat ([(-1)].getD 0 0),([]:List (Int×Int)),(dM x.2.2).1)=(ar x.1 x.2.1 x.2.2).1/\0=(ar x.1 x.2.1 x.2.2).2/\True)/\(decide (0<x.1)=false->([(-1)].length=1/\0<=x.2.1/\x.2.1<=1000)/\((o7 x.1).1,List.replicate x.2.1.toNat ([(-1)].getD 0 0),([]:List (Int×Int)),(dM x.2.2).1)=(ar x.1 x.2.1 x.2.2).1/\0=(ar x.1 x.2.1 x.2.2).2/\True))))
theorem Ge:Br:=by
 unfold Br;intro ⟨w,r,h⟩ _ _;simp only;have hF:ar w r h=if w<0\/256<w then (([],[],[],[]),4) else if r<0\/32<r then (([],[],[],[]),4) else if h<0\/16<h then (([],[],[],[]),4) else ((js w,List.replicate r.toNat (-1),[],List.replicate h.toNat (0,false,0)),0):=rfl
 have hW:o7 w=if w<0\/256<w then ([],4) else (List.replicate w.toNat 0,0):=rfl
 have hH:dM h=if h<0\/16<h then ([],4) else (List.replicate h.toNat (0,false,0),0):=rfl
 by_cases cw:w<0\/256<w
 ·rw [if_pos cw] at hW hF;rw [hW,hF];exact ⟨trivial,fun _=>⟨by first | rfl | trivial,by first | rfl | trivial,trivial⟩,fun hn=>by simp at hn⟩
 rw [if_neg cw] at hW hF;rw [hW];refine ⟨trivial,fun hn=>by simp at hn,fun _=>⟨fun hr=>?_,fun hr=>?_⟩⟩
 ·rw [hF,if_pos (by simpa using hr)];exact ⟨by first | rfl | trivial,by first | rfl | trivial,trivial⟩
 have hr:¬ (r<0\/32<r):=by simpa using hr
 rw [if_neg hr] at hF;by_cases ch:h<0\/16<h
 ·rw [if_pos ch] at hH hF;rw [hH,hF];exact ⟨trivial,fun _=>⟨by first | rfl | trivial,by first | rfl | trivial,trivial⟩,fun hn=>by simp at hn⟩
 rw [if_neg ch] at hH hF;rw [hH,hF];refine ⟨trivial,fun hn=>by simp at hn,fun _=>⟨fun h0=>?_,fun h0=>?_⟩⟩
 ·have h0:=of_decide_eq_true h0;have hhf:af (0,w - 1,0,true)=0:=by simp [af,aa]; omega
  rw [if_pos hhf];simp only [am,List.length_replicate];refine ⟨by omega,trivial,by omega,by omega,by simp; omega,⟨rfl,by omega,by omega⟩,?_,by first | rfl | trivial,trivial⟩;unfold js;rw [if_pos h0];rfl
 ·have h0:=of_decide_eq_false h0;refine ⟨⟨rfl,by omega,by omega⟩,?_,by first | rfl | trivial,trivial⟩;unfold js;rw [if_neg h0];rfl
theorem BP:IN.ok Tryz.prog 13:=aD (ann:=co) (ae Ed (ae En (ae iz (ae Ei ap)))) Tryz.func13 (by kernel_rfl) Ge
end
section
open Go
theorem Right.givenMap {s:aj} (R:Right s) {G:List Int} (H:Given G s.2.2.2):Given G (iG s).2.2.2:=by
 have hg:=R.swept.given;refine H.map (km s) (fun t=>?_) (fun t ht=>hg.2 _ (List.mem_map.2 ⟨t,ht,rfl⟩));unfold km;split
 ·exact ⟨rfl,rfl⟩
 ·exact ⟨rfl,rfl⟩
theorem ER {s:aj} (R:Right s) {G:List Int} (H:Given G s.2.2.2) {k a b c v:Int} (e:(a7 s k a b c v).2.2=0) :
  (k=10->(a7 s k a b c v).2.1 ∉ G/\Given (G++[(a7 s k a b c v).2.1]) (a7 s k a b c v).1.2.2.2)/\(k≠10->Given G (a7 s k a b c v).1.2.2.2):=by
 unfold a7 at e ⊢;split at e
 ·simp at e
 rename_i h1;rw [if_neg h1];split at e
 ·rename_i h2; exact absurd e h2
 rename_i h2;rw [if_neg h2];have hk:=oY h1;have hk:k=1\/k=2\/k=3\/k=4\/k=5\/k=6\/k=7\/k=8\/k=9\/k=10\/k=11\/k=12\/k=13:=by omega
 clear h1;rcases hk with rfl | rfl | rfl | rfl | rfl | rfl | rfl | rfl | rfl | rfl | rfl | rfl | rfl
 case inr.inr.inr.inr.inr.inr.inr.inr.inr.inl =>
  refine ⟨fun _=>?_,fun h=>absurd rfl h⟩;rw [uR] at e ⊢;unfold fh at e ⊢;split at e
  ·rename_i h; exact absurd e h
  rename_i h;rw [if_neg h];split at e
  ·rename_i h2; exact absurd e h2
  rename_i h2;rw [if_neg h2];exact H.openF rfl (by omega)
 all_goals refine ⟨(fun h=>absurd h (by decide)),fun _=>?_⟩
 ·rw [xD] at e ⊢;simp only at e ⊢;unfold a8 at e ⊢;split at e
  ·rename_i h1; exact absurd e h1
  rename_i h1;split at e
  ·rename_i h2; exact absurd e h2
  rename_i h2;rw [if_neg h1,if_neg h2];split at e
  ·rename_i h3;rw [if_pos h3];exact H
  rename_i h3;rw [if_neg h3];split at e
  ·rename_i h4;rw [if_pos h4];exact R.givenMap H
  ·simp at e
 ·rw [CM]; exact R.givenMap H
 ·rw [CL] at e ⊢;simp only at e ⊢;unfold kh at e ⊢;split at e
  ·rename_i h; exact absurd e h
  rename_i h;rw [if_neg h];exact H
 ·rw [CK] at e ⊢;simp only at e ⊢;unfold kc at e ⊢;split at e
  ·rename_i h; exact absurd e h
  rename_i h;rw [if_neg h];exact H
 ·rw [xC] at e ⊢;split at e
  ·rename_i h; exact absurd e h
  rename_i h;rw [if_neg h];exact H
 ·rw [xB] at e ⊢;simp only at e ⊢;unfold jp at e ⊢;split at e
  ·rename_i h; exact absurd e h
  rename_i h;rw [if_neg h];exact H
 ·rw [CJ] at e ⊢;unfold ix at e ⊢;split at e
  ·rename_i h; exact absurd e h
  rename_i h;rw [if_neg h];split at e
  ·rename_i h2; exact absurd e h2
  rename_i h2;rw [if_neg h2];exact H
 ·rw [CI] at e ⊢;simp only at e ⊢;unfold cP at e ⊢;split at e
  ·rename_i h; exact absurd e h
  rename_i h;rw [if_neg h];split at e
  ·rename_i h2; exact absurd e h2
  rename_i h2;rw [if_neg h2];exact H
 ·rw [CH] at e ⊢;split at e
  ·rename_i h; exact absurd e h
  rename_i h;rw [if_neg h];exact H
 ·rw [uQ] at e ⊢;simp only at e ⊢;unfold jl at e ⊢;split at e
  ·rename_i h; exact absurd e h
  rename_i h;rw [if_neg h];split at e
  ·rename_i h2; exact absurd e h2
  rename_i h2;rw [if_neg h2];exact H
 ·rw [uP] at e ⊢;simp only at e ⊢;unfold fo at e ⊢;split at e
  ·rename_i h; exact absurd e h
  rename_i h;rw [if_neg h];split at e
  ·rename_i h2; exact absurd e h2
  rename_i h2;rw [if_neg h2];exact H.closeF rfl (by omega)
 ·rw [uO] at e ⊢;simp only at e ⊢;unfold eX at e ⊢;split at e
  ·rename_i h; exact absurd e h
  rename_i h;rw [if_neg h];exact H
theorem HD {w r h:Int} (e:(ar w r h).2=0):Right (ar w r h).1/\Given [] (ar w r h).1.2.2.2:=by
 unfold ar at e ⊢;split at e
 ·simp at e
 rename_i h1;split at e
 ·simp at e
 rename_i h2;split at e
 ·simp at e
 rename_i h3;rw [if_neg h1,if_neg h2,if_neg h3]
 have hA:js w=bO w:=by
  unfold js bO;split
  ·obtain ⟨n,hn⟩:∃ n:Nat,w=(n:Int)+1:=⟨(w - 1).toNat,by omega⟩;subst hn;rw [show ((n:Int)+1).toNat=n+1 by omega,show ((n:Int)+1 - 1).toNat=n by omega];rfl
  ·rw [show w.toNat=0 by omega];rfl
 have hsp:ac (js w)=((if 0<w then [aC 0 w] else []),0):=by
  refine kG (by rw [hA,bG]; omega) ?_;have:=gq (at_:=0) (k:=w) (R:=[]) (by omega);rw [List.append_nil] at this;rw [hA,this];split
  ·rw [spotsS]; rfl
  ·rw [spotsS]
 have G:=Given.new h.toNat (by omega);refine ⟨⟨?_,mE hsp (fun s hs v hv=>?_),yE (by simp only; omega) ?_ (by simp only [List.length_replicate]; omega) (fun v hv=>?_),rfl,jv.2 ⟨G.len,G.ok⟩,fun x hx=>?_⟩,G⟩
 ·simp only;rw [hA];exact kN (by omega)
 ·split at hs
  ·rw [List.mem_singleton.1 hs] at hv;unfold aO aC at hv;simp only [Int.add_zero] at hv;rw [List.drop_of_length_le (by rw [List.length_take]; omega)] at hv;cases hv
  ·cases hs
 ·simp only;rw [hA,bG];omega
 ·rw [List.eq_of_mem_replicate hv];omega
 ·rcases cj.1 hx with ⟨h,h0⟩ | ⟨y,h,h1,_⟩ | ⟨p,h,_⟩
  ·rw [List.eq_of_mem_replicate h] at h0;omega
  ·rw [List.eq_of_mem_replicate h] at h1;cases h1
  ·cases h
end
section
open Go
def ai:List UInt8->List (List UInt8)
 | []=>[[]]
 | c::r=>if c=32 then []::ai r else match ai r with
  | []=>[[c]]
  | p::ps=>(c::p)::ps
theorem wx:∀ s,ai s≠[]
 | []=>by simp [ai]
 | c::r=>by
  unfold ai;split
  ·simp
  ·split <;> simp
theorem l7:∀ s:List UInt8,Lib.indexByte s 32=-1->ai s=[s]
 | [],_=>rfl
 | c::r,h=>by
  unfold Lib.indexByte at h
  have hc:c≠32:=by
   intro e;rw [if_pos (by simp [e])] at h;cases h
  have hr:Lib.indexByte r 32=-1:=by
   rw [if_neg (by simp [hc])] at h;split at h
   ·rename_i h1;simpa using h1
   ·have:=Lib.indexByte_ge r 32;omega
  unfold ai;rw [if_neg hc,l7 r hr]
theorem lZ:∀ (s:List UInt8) (i:Nat),Lib.indexByte s 32=i->ai s=s.take i::ai (s.drop (i+1))/\(s.drop (i+1)).count 32+1=s.count 32
 | [],i,h=>by
  simp only [Lib.indexByte] at h;omega
 | c::r,i,h=>by
  unfold Lib.indexByte at h;by_cases hc:c=32
  ·rw [if_pos (by simp [hc])] at h;obtain rfl:i=0:=by omega
   subst hc;rw [ai,if_pos rfl];simp
  ·rw [if_neg (by simp [hc])] at h;split at h
   ·omega
   ·rename_i hn;have hr:=Lib.indexByte_ge r 32;have hr':Lib.indexByte r 32≠-1:=by simpa using hn
    obtain ⟨j,hj⟩:=Int.eq_ofNat_of_zero_le (show 0<=Lib.indexByte r 32 by omega);obtain ⟨h1,h2⟩:=lZ r j hj;obtain rfl:i=j+1:=by omega
    refine ⟨?_,?_⟩
    ·rw [ai,if_neg hc,h1];simp
    ·rw [List.count_cons_of_ne hc];simpa using h2
theorem wy:∀ (k:Nat) (s:List UInt8),s.count 32=k->Lib.splitK [32] 0 k s=ai s
 | 0,s,h=>by
  have hi:Lib.indexByte s 32=-1:=by
   apply Classical.byContradiction;intro hn;have:=Lib.indexByte_ge s 32;obtain ⟨j,hj⟩:=Int.eq_ofNat_of_zero_le (show 0<=Lib.indexByte s 32 by omega);have:=(lZ s j hj).2;omega
  rw [l7 s hi];rfl
 | k+1,s,h=>by
  unfold Lib.splitK;rw [Lib.index_one];by_cases hi:Lib.indexByte s 32=-1
  ·rw [if_pos (by simp [hi]),l7 s hi]
  ·have:=Lib.indexByte_ge s 32;obtain ⟨j,hj⟩:=Int.eq_ofNat_of_zero_le (show 0<=Lib.indexByte s 32 by omega);obtain ⟨h1,h2⟩:=lZ s j hj;rw [if_neg (by simp [hi]),h1,hj];simp only [Int.toNat_natCast,Nat.add_zero,List.length_cons,List.length_nil,Nat.zero_add];rw [wy k _ (by omega)]
def fF (s:List UInt8):Int×Bool:=match Lib.atoiAll s with
 | .ok v=>(v,decide (-1000000000000000<v/\v<1000000000000000/\Lib.itoa v=s))
 | .range=>(Lib.atoiSat s,false)
 | _=>(0,false)
end
section
open Go Go.RowKit Go.Shelf
set_option maxHeartbeats 4000000
def vP:Go.Shelf.Ren:=⟨fun | 146=>185 | 221=>236 | 268=>258 | 138=>259 | 143=>260 | 195=>274 | 197=>275 | 218=>276 | 219=>277 | 260=>291 | 217=>292 | 225=>293 | 224=>294 | 267=>295 | 266=>301 | 314=>302 | n=>n,fun | 9=>9 | 31=>22 | 3=>3 | 4=>4 | 0=>0 | 105=>342 | 21=>21 | 5=>5 | 46=>182 | 119=>361 | 139=>364 | 138=>363 | 146=>283 | 51=>267 | n=>n,fun | 1=>2 | 3=>5 | 4=>6 | n=>n⟩
theorem HK:Go.Proofs.Lays.n146 Tryz.prog vP where
 mixed:=by kernel_rfl
 f138:=Tryz.func259.trans (congrArg some (by kernel_rfl))
 f143:=Tryz.func260.trans (congrArg some (by kernel_rfl))
 f146:=Tryz.func185.trans (congrArg some (by kernel_rfl))
 f195:=Tryz.func274.trans (congrArg some (by kernel_rfl))
 f197:=Tryz.func275.trans (congrArg some (by kernel_rfl))
 f217:=Tryz.func292.trans (congrArg some (by kernel_rfl))
 f218:=Tryz.func276.trans (congrArg some (by kernel_rfl))
 f219:=Tryz.func277.trans (congrArg some (by kernel_rfl))
 f221:=Tryz.func236.trans (congrArg some (by kernel_rfl))
 f224:=Tryz.func294.trans (congrArg some (by kernel_rfl))
 f225:=Tryz.func293.trans (congrArg some (by kernel_rfl))
 f260:=Tryz.func291.trans (congrArg some (by kernel_rfl))
 f266:=Tryz.func301.trans (congrArg some (by kernel_rfl))
 f267:=Tryz.func295.trans (congrArg some (by kernel_rfl))
 f268:=Tryz.func258.trans (congrArg some (by kernel_rfl))
 f314:=Tryz.func302.trans (congrArg some (by kernel_rfl))
 t0:=Tryz.underlying0
 a0:=Tryz.isAgg0
 z0:=Tryz.sizeOf0
 v0:=Tryz.zeroValue0
 t3:=Tryz.underlying3
 a3:=Tryz.isAgg3
 z3:=Tryz.sizeOf3
 v3:=Tryz.zeroValue3
 t4:=Tryz.underlying4
 a4:=Tryz.isAgg4
 z4:=Tryz.sizeOf4
 v4:=Tryz.zeroValue4
 t5:=Tryz.underlying5
 a5:=Tryz.isAgg5
 z5:=Tryz.sizeOf5
 v5:=Tryz.zeroValue5
 t9:=Tryz.underlying9
 a9:=Tryz.isAgg9
 z9:=Tryz.sizeOf9
 v9:=Tryz.zeroValue9
 t21:=Tryz.underlying21
 a21:=Tryz.isAgg21
 z21:=Tryz.sizeOf21
 v21:=Tryz.zeroValue21
 t31:=Tryz.underlying22
 a31:=Tryz.isAgg22
 z31:=Tryz.sizeOf22
 v31:=Tryz.zeroValue22
 t46:=Tryz.underlying182
 a46:=Tryz.isAgg182
 z46:=Tryz.sizeOf182
 v46:=Tryz.zeroValue182
 t51:=Tryz.underlying267
 a51:=Tryz.isAgg267
 z51:=Tryz.sizeOf267
 v51:=Tryz.zeroValue267
 t105:=Tryz.underlying342
 a105:=Tryz.isAgg342
 z105:=Tryz.sizeOf342
 v105:=Tryz.zeroValue342
 t119:=Tryz.underlying361
 a119:=Tryz.isAgg361
 z119:=Tryz.sizeOf361
 t138:=Tryz.underlying363
 a138:=Tryz.isAgg363
 z138:=Tryz.sizeOf363
 v138:=Tryz.zeroValue363
 t139:=Tryz.underlying364
 a139:=Tryz.isAgg364
 z139:=Tryz.sizeOf364
 v139:=Tryz.zeroValue364
 t146:=Tryz.underlying283
 a146:=Tryz.isAgg283
 z146:=Tryz.sizeOf283
 v146:=Tryz.zeroValue283
 g1:=by kernel_rfl
 g3:=by kernel_rfl
 g4:=by kernel_rfl
def y5:Go.Shelf.Ren:=⟨fun | 171=>110 | 243=>188 | 246=>243 | 283=>264 | 284=>265 | 285=>266 | 286=>267 | 129=>184 | 317=>283 | 318=>284 | 319=>285 | 320=>286 | 337=>299 | 338=>300 | n=>n,fun | 3=>3 | 9=>9 | 2=>2 | 4=>4 | 171=>336 | 0=>0 | 53=>45 | 37=>148 | 5=>5 | 173=>338 | 212=>353 | 51=>267 | 20=>20 | 213=>354 | 46=>182 | 232=>371 | 233=>372 | n=>n,fun | 17=>1 | 18=>7 | 19=>8 | n=>n⟩
theorem JJ:Go.Proofs.LaysM.n171 Tryz.prog y5 where
 mixed:=by kernel_rfl
 f129:=Tryz.func184.trans (congrArg some (by kernel_rfl))
 f171:=Tryz.func110.trans (congrArg some (by kernel_rfl))
 f243:=Tryz.func188.trans (congrArg some (by kernel_rfl))
 f246:=Tryz.func243.trans (congrArg some (by kernel_rfl))
 f283:=Tryz.func264.trans (congrArg some (by kernel_rfl))
 f284:=Tryz.func265.trans (congrArg some (by kernel_rfl))
 f285:=Tryz.func266.trans (congrArg some (by kernel_rfl))
 f286:=Tryz.func267.trans (congrArg some (by kernel_rfl))
 f317:=Tryz.func283.trans (congrArg some (by kernel_rfl))
 f318:=Tryz.func284.trans (congrArg some (by kernel_rfl))
 f319:=Tryz.func285.trans (congrArg some (by kernel_rfl))
 f320:=Tryz.func286.trans (congrArg some (by kernel_rfl))
 f337:=Tryz.func299.trans (congrArg some (by kernel_rfl))
 f338:=Tryz.func300.trans (congrArg some (by kernel_rfl))
 t0:=Tryz.underlying0
 a0:=Tryz.isAgg0
 z0:=Tryz.sizeOf0
 v0:=Tryz.zeroValue0
 t2:=Tryz.underlying2
 a2:=Tryz.isAgg2
 z2:=Tryz.sizeOf2
 v2:=Tryz.zeroValue2
 t3:=Tryz.underlying3
 a3:=Tryz.isAgg3
 z3:=Tryz.sizeOf3
 v3:=Tryz.zeroValue3
 t4:=Tryz.underlying4
 a4:=Tryz.isAgg4
 z4:=Tryz.sizeOf4
 v4:=Tryz.zeroValue4
 t5:=Tryz.underlying5
 a5:=Tryz.isAgg5
 z5:=Tryz.sizeOf5
 v5:=Tryz.zeroValue5
 t9:=Tryz.underlying9
 a9:=Tryz.isAgg9
 z9:=Tryz.sizeOf9
 v9:=Tryz.zeroValue9
 t20:=Tryz.underlying20
 a20:=Tryz.isAgg20
 z20:=Tryz.sizeOf20
 v20:=Tryz.zeroValue20
 t37:=Tryz.underlying148
 a37:=Tryz.isAgg148
 z37:=Tryz.sizeOf148
 v37:=Tryz.zeroValue148
 t46:=Tryz.underlying182
 a46:=Tryz.isAgg182
 z46:=Tryz.sizeOf182
 v46:=Tryz.zeroValue182
 t51:=Tryz.underlying267
 a51:=Tryz.isAgg267
 z51:=Tryz.sizeOf267
 v51:=Tryz.zeroValue267
 t53:=Tryz.underlying45
 a53:=Tryz.isAgg45
 z53:=Tryz.sizeOf45
 v53:=Tryz.zeroValue45
 t171:=Tryz.underlying336
 a171:=Tryz.isAgg336
 z171:=Tryz.sizeOf336
 v171:=Tryz.zeroValue336
 t173:=Tryz.underlying338
 a173:=Tryz.isAgg338
 z173:=Tryz.sizeOf338
 v173:=Tryz.zeroValue338
 t212:=Tryz.underlying353
 a212:=Tryz.isAgg353
 z212:=Tryz.sizeOf353
 v212:=Tryz.zeroValue353
 t213:=Tryz.underlying354
 a213:=Tryz.isAgg354
 z213:=Tryz.sizeOf354
 t232:=Tryz.underlying371
 a232:=Tryz.isAgg371
 z232:=Tryz.sizeOf371
 v232:=Tryz.zeroValue371
 t233:=Tryz.underlying372
 a233:=Tryz.isAgg372
 z233:=Tryz.sizeOf372
 v233:=Tryz.zeroValue372
 g17:=by kernel_rfl
 g18:=by kernel_rfl
 g19:=by kernel_rfl
 i0:=by kernel_rfl
 i2:=by kernel_rfl
 i3:=by kernel_rfl
 i4:=by kernel_rfl
 i5:=by kernel_rfl
 i9:=by kernel_rfl
 i20:=by kernel_rfl
 i37:=by kernel_rfl
 i46:=by kernel_rfl
 i51:=by kernel_rfl
 i53:=by kernel_rfl
 i171:=by kernel_rfl
 i173:=by kernel_rfl
 i212:=by kernel_rfl
 i232:=by kernel_rfl
 i233:=by kernel_rfl
 m17:=by kernel_rfl
 m18:=by kernel_rfl
 m19:=by kernel_rfl
def y6:Go.Shelf.Ren:=⟨fun | 172=>242 | 244=>262 | 245=>263 | 247=>278 | 279=>279 | 280=>280 | 281=>281 | 282=>282 | 287=>296 | 316=>297 | 171=>110 | 205=>298 | 321=>303 | 322=>304 | 243=>188 | 246=>243 | 283=>264 | 284=>265 | 285=>266 | 286=>267 | 129=>184 | 317=>283 | 318=>284 | 319=>285 | 320=>286 | 337=>299 | 338=>300 | n=>n,fun | 9=>9 | 3=>3 | 75=>314 | 76=>315 | 4=>4 | 5=>5 | 167=>345 | 37=>148 | 0=>0 | 85=>346 | 2=>2 | 168=>348 | 53=>45 | 175=>356 | 46=>182 | 210=>359 | 127=>367 | 145=>370 | 143=>368 | 21=>21 | 171=>336 | 173=>338 | 212=>353 | 51=>267 | 20=>20 | 213=>354 | 232=>371 | 233=>372 | 80=>373 | n=>n,fun | 15=>3 | 16=>4 | 17=>1 | 18=>7 | 19=>8 | n=>n⟩
theorem uf:Go.Proofs.LaysC.n172 Tryz.prog y6 where
 mixed:=by kernel_rfl
 f129:=Tryz.func184.trans (congrArg some (by kernel_rfl))
 f171:=Tryz.func110.trans (congrArg some (by kernel_rfl))
 f172:=Tryz.func242.trans (congrArg some (by kernel_rfl))
 f205:=Tryz.func298.trans (congrArg some (by kernel_rfl))
 f243:=Tryz.func188.trans (congrArg some (by kernel_rfl))
 f244:=Tryz.func262.trans (congrArg some (by kernel_rfl))
 f245:=Tryz.func263.trans (congrArg some (by kernel_rfl))
 f246:=Tryz.func243.trans (congrArg some (by kernel_rfl))
 f247:=Tryz.func278.trans (congrArg some (by kernel_rfl))
 f279:=Tryz.func279.trans (congrArg some (by kernel_rfl))
 f280:=Tryz.func280.trans (congrArg some (by kernel_rfl))
 f281:=Tryz.func281.trans (congrArg some (by kernel_rfl))
 f282:=Tryz.func282.trans (congrArg some (by kernel_rfl))
 f283:=Tryz.func264.trans (congrArg some (by kernel_rfl))
 f284:=Tryz.func265.trans (congrArg some (by kernel_rfl))
 f285:=Tryz.func266.trans (congrArg some (by kernel_rfl))
 f286:=Tryz.func267.trans (congrArg some (by kernel_rfl))
 f287:=Tryz.func296.trans (congrArg some (by kernel_rfl))
 f316:=Tryz.func297.trans (congrArg some (by kernel_rfl))
 f317:=Tryz.func283.trans (congrArg some (by kernel_rfl))
 f318:=Tryz.func284.trans (congrArg some (by kernel_rfl))
 f319:=Tryz.func285.trans (congrArg some (by kernel_rfl))
 f320:=Tryz.func286.trans (congrArg some (by kernel_rfl))
 f321:=Tryz.func303.trans (congrArg some (by kernel_rfl))
 f322:=Tryz.func304.trans (congrArg some (by kernel_rfl))
 f337:=Tryz.func299.trans (congrArg some (by kernel_rfl))
 f338:=Tryz.func300.trans (congrArg some (by kernel_rfl))
 t0:=Tryz.underlying0
 a0:=Tryz.isAgg0
 z0:=Tryz.sizeOf0
 v0:=Tryz.zeroValue0
 t2:=Tryz.underlying2
 a2:=Tryz.isAgg2
 z2:=Tryz.sizeOf2
 v2:=Tryz.zeroValue2
 t3:=Tryz.underlying3
 a3:=Tryz.isAgg3
 z3:=Tryz.sizeOf3
 v3:=Tryz.zeroValue3
 t4:=Tryz.underlying4
 a4:=Tryz.isAgg4
 z4:=Tryz.sizeOf4
 v4:=Tryz.zeroValue4
 t5:=Tryz.underlying5
 a5:=Tryz.isAgg5
 z5:=Tryz.sizeOf5
 v5:=Tryz.zeroValue5
 t9:=Tryz.underlying9
 a9:=Tryz.isAgg9
 z9:=Tryz.sizeOf9
 v9:=Tryz.zeroValue9
 t20:=Tryz.underlying20
 a20:=Tryz.isAgg20
 z20:=Tryz.sizeOf20
 v20:=Tryz.zeroValue20
 t21:=Tryz.underlying21
 a21:=Tryz.isAgg21
 z21:=Tryz.sizeOf21
 v21:=Tryz.zeroValue21
 t37:=Tryz.underlying148
 a37:=Tryz.isAgg148
 z37:=Tryz.sizeOf148
 v37:=Tryz.zeroValue148
 t46:=Tryz.underlying182
 a46:=Tryz.isAgg182
 z46:=Tryz.sizeOf182
 v46:=Tryz.zeroValue182
 t51:=Tryz.underlying267
 a51:=Tryz.isAgg267
 z51:=Tryz.sizeOf267
 v51:=Tryz.zeroValue267
 t53:=Tryz.underlying45
 a53:=Tryz.isAgg45
 z53:=Tryz.sizeOf45
 v53:=Tryz.zeroValue45
 t75:=Tryz.underlying314
 a75:=Tryz.isAgg314
 z75:=Tryz.sizeOf314
 v75:=Tryz.zeroValue314
 t76:=Tryz.underlying315
 a76:=Tryz.isAgg315
 z76:=Tryz.sizeOf315
 v76:=Tryz.zeroValue315
 t85:=Tryz.underlying346
 a85:=Tryz.isAgg346
 z85:=Tryz.sizeOf346
 v85:=Tryz.zeroValue346
 t127:=Tryz.underlying367
 a127:=Tryz.isAgg367
 z127:=Tryz.sizeOf367
 v127:=Tryz.zeroValue367
 t143:=Tryz.underlying368
 a143:=Tryz.isAgg368
 z143:=Tryz.sizeOf368
 v143:=Tryz.zeroValue368
 t145:=Tryz.underlying370
 a145:=Tryz.isAgg370
 z145:=Tryz.sizeOf370
 v145:=Tryz.zeroValue370
 t167:=Tryz.underlying345
 a167:=Tryz.isAgg345
 z167:=Tryz.sizeOf345
 v167:=Tryz.zeroValue345
 t168:=Tryz.underlying348
 a168:=Tryz.isAgg348
 z168:=Tryz.sizeOf348
 v168:=Tryz.zeroValue348
 t171:=Tryz.underlying336
 a171:=Tryz.isAgg336
 z171:=Tryz.sizeOf336
 v171:=Tryz.zeroValue336
 t173:=Tryz.underlying338
 a173:=Tryz.isAgg338
 z173:=Tryz.sizeOf338
 v173:=Tryz.zeroValue338
 t175:=Tryz.underlying356
 a175:=Tryz.isAgg356
 z175:=Tryz.sizeOf356
 v175:=Tryz.zeroValue356
 t210:=Tryz.underlying359
 a210:=Tryz.isAgg359
 z210:=Tryz.sizeOf359
 v210:=Tryz.zeroValue359
 t212:=Tryz.underlying353
 a212:=Tryz.isAgg353
 z212:=Tryz.sizeOf353
 v212:=Tryz.zeroValue353
 t213:=Tryz.underlying354
 a213:=Tryz.isAgg354
 z213:=Tryz.sizeOf354
 t232:=Tryz.underlying371
 a232:=Tryz.isAgg371
 z232:=Tryz.sizeOf371
 v232:=Tryz.zeroValue371
 t233:=Tryz.underlying372
 a233:=Tryz.isAgg372
 z233:=Tryz.sizeOf372
 v233:=Tryz.zeroValue372
 g15:=by kernel_rfl
 g16:=by kernel_rfl
 g17:=by kernel_rfl
 g18:=by kernel_rfl
 g19:=by kernel_rfl
 t80:=Tryz.underlying373
 a80:=Tryz.isAgg373
 z80:=Tryz.sizeOf373
 v80:=Tryz.zeroValue373
 i0:=by kernel_rfl
 i2:=by kernel_rfl
 i3:=by kernel_rfl
 i4:=by kernel_rfl
 i5:=by kernel_rfl
 i9:=by kernel_rfl
 i20:=by kernel_rfl
 i21:=by kernel_rfl
 i37:=by kernel_rfl
 i46:=by kernel_rfl
 i51:=by kernel_rfl
 i53:=by kernel_rfl
 i75:=by kernel_rfl
 i76:=by kernel_rfl
 i80:=by kernel_rfl
 i85:=by kernel_rfl
 i127:=by kernel_rfl
 i143:=by kernel_rfl
 i145:=by kernel_rfl
 i167:=by kernel_rfl
 i168:=by kernel_rfl
 i171:=by kernel_rfl
 i173:=by kernel_rfl
 i175:=by kernel_rfl
 i210:=by kernel_rfl
 i212:=by kernel_rfl
 i232:=by kernel_rfl
 i233:=by kernel_rfl
 m15:=by kernel_rfl
 m16:=by kernel_rfl
 m17:=by kernel_rfl
 m18:=by kernel_rfl
 m19:=by kernel_rfl
 c0:=by kernel_rfl
 c2:=by kernel_rfl
 c3:=by kernel_rfl
 c4:=by kernel_rfl
 c5:=by kernel_rfl
 c9:=by kernel_rfl
 c20:=by kernel_rfl
 c21:=by kernel_rfl
 c37:=by kernel_rfl
 c46:=by kernel_rfl
 c51:=by kernel_rfl
 c53:=by kernel_rfl
 c75:=by kernel_rfl
 c76:=by kernel_rfl
 c80:=by kernel_rfl
 c85:=by kernel_rfl
 c127:=by kernel_rfl
 c143:=by kernel_rfl
 c145:=by kernel_rfl
 c167:=by kernel_rfl
 c168:=by kernel_rfl
 c171:=by kernel_rfl
 c173:=by kernel_rfl
 c175:=by kernel_rfl
 c210:=by kernel_rfl
 c212:=by kernel_rfl
 c213:=by kernel_rfl
 c232:=by kernel_rfl
 c233:=by kernel_rfl
theorem Id {P:Program} {ρ:Ren} (L:Lays.n146 P ρ) (hi9:(P.info? (ρ.t 9)).map (fun i=>(i.zero,i.size,i.bytes))=some (some (.string ByteArray.empty),1,16)) (s:ByteArray) (w:World) (hs:s.size<4294967281) :
  Calls P (ρ.f 146) #[.string s,.string ⟨#[32]⟩] w fun e w' =>
   e=.returned (.slice (some ⟨w.heap.size,0,none⟩) (Lib.countB s ⟨#[32]⟩+1) (Lib.countB s ⟨#[32]⟩+1))/\w'=w.alloc (.cells ((Lib.splitB ⟨#[32]⟩ 0 (Lib.countB s ⟨#[32]⟩) s).map Value.string).toArray (ρ.t 9)):=by
 have h1:1<=(⟨#[32]⟩:ByteArray).size:=by decide
 have hle:=Lib.countB_le ⟨#[32]⟩ h1 s.size s (Nat.le_refl _);have hlen:=Lib.splitB_all ⟨#[32]⟩ h1 0 _ s rfl
 have hC:Calls P (ρ.f 138) #[.string s,.string ⟨#[32]⟩] w fun e w'=>e=.returned (.int .i64 (Lib.countB s ⟨#[32]⟩))/\w'=w :=
  (Any.strings_Count_one { L with } s 32 w).mono fun e w' ⟨he,hw⟩=>⟨by
   rw [he];show _=Ending.returned (Value.int .i64 ((Lib.count s.data.toList [32]:Nat):Int));rw [Lib.count_one];rfl,hw⟩
 have hI:∀ (x:ByteArray) (c:Array Value),x.size<=s.size->Calls P (ρ.f 143) #[.string x,.string ⟨#[32]⟩] (w.alloc (.cells c (ρ.t 9))) fun e w'=>e=.returned (.int .i64 (Lib.indexB x ⟨#[32]⟩))/\w'=w.alloc (.cells c (ρ.t 9)):=fun x c _ =>
  (Any.strings_Index_one { L with } x 32 _).mono fun e w' ⟨he,hw⟩=>⟨by
   rw [he];show _=Ending.returned (Value.int .i64 (Lib.index x.data.toList [32]));rw [Lib.index_one],hw⟩
 have c:=Any.strings_genSplit_core { L with } hi9 s ⟨#[32]⟩ 0 (-1) (Lib.countB s ⟨#[32]⟩+1) w hs h1 (Nat.zero_le _) hI hC (by decide) (by decide) (by rw [if_pos (by decide)]; omega);rw [Nat.add_sub_cancel,hlen] at c;have e2:Lib.cellsOf (Lib.splitB ⟨#[32]⟩ 0 (Lib.countB s ⟨#[32]⟩) s) (Lib.countB s ⟨#[32]⟩+1)=((Lib.splitB ⟨#[32]⟩ 0 (Lib.countB s ⟨#[32]⟩) s).map Value.string).toArray:=by rw [<- hlen]; exact Lib.cellsOf_full _
 rw [e2] at c;have t3:=L.t3; have t9:=L.t9; have t31:=L.t31;have a3:=L.a3; have a9:=L.a9; have a31:=L.a31;have z3:=L.z3; have v3:=L.v3; have z9:=L.z9; have v9:=L.v9; have z31:=L.z31; have v31:=L.v31;have e221:∀ args w,(callFunc (ρ.f 221) args).run P w=.ok (.enter (ρ.f 221) args) w:=enters_of L.f221 (by kernel_rfl) rfl
 go_enter L.f146,Body.n146_ntmps ρ
 go_wp2_with (go_at_fn (ρ.f 221); refine c.mono ?_; rintro e w' ⟨rfl,hw⟩; rw [hw])
 go_ret
 exact ⟨rfl,rfl⟩
theorem IK (s:ByteArray) (w:World) (hs:s.size<4294967281) :
  Calls Tryz.prog 185 #[.string s,.string ⟨#[32]⟩] w fun e w' =>
   e=.returned (.slice (some ⟨w.heap.size,0,none⟩) (Lib.countB s ⟨#[32]⟩+1) (Lib.countB s ⟨#[32]⟩+1))/\w'=w.alloc (.cells ((Lib.splitB ⟨#[32]⟩ 0 (Lib.countB s ⟨#[32]⟩) s).map Value.string).toArray 9) :=
 Id HK (by kernel_rfl) s w hs
theorem s7:∀ (s:List UInt8),∀ p∈ai s,p.length<=s.length
 | [],p,h=>by simp [ai] at h; simp [h]
 | c::r,p,h=>by
  have ih:=s7 r;unfold ai at h;split at h
  ·rcases List.mem_cons.1 h with rfl | h
   ·simp
   ·have:=ih p h;simp only [List.length_cons];omega
  ·split at h
   ·simp only [List.mem_singleton] at h;subst h;simp
   ·rename_i q ps e;rcases List.mem_cons.1 h with rfl | h
    ·have:=ih q (by rw [e]; simp);simp only [List.length_cons];omega
    ·have:=ih p (by rw [e]; simp [h]);simp only [List.length_cons];omega
theorem iS:∀ (s:List UInt8),(ai s).length=s.count 32+1
 | []=>rfl
 | c::r=>by
  have ih:=iS r;unfold ai;by_cases hc:c=32
  ·rw [if_pos hc,hc];simp [ih]
  ·rw [if_neg hc,List.count_cons_of_ne hc];cases e:ai r with
   | nil=>exact absurd e (wx r)
   | cons q ps =>
    rw [e] at ih;simpa using ih
theorem Fk {p:PH}:∀ {xs:List (List UInt8)},(∀ x∈xs,x.length<=aJ)->aK (Ty.str.holds p) xs (xs.map fun x=>Value.string ⟨x.toArray⟩)
 | [],_=>rfl
 | x::xs,h=>⟨[.string ⟨x.toArray⟩],xs.map fun x=>Value.string ⟨x.toArray⟩,rfl,⟨rfl,h x (by simp)⟩,Fk (fun y hy=>h y (by simp [hy]))⟩
def DN:Spec:={ Ts:=[.str,.str],Rs:=[.dat (.arr .str)],pre:=fun (x:List UInt8×List UInt8)=>x.2=[32]/\x.1.length<4294967281,F:=fun (x:List UInt8×List UInt8)=>ai x.1 }
theorem DF (s:List UInt8) (hlen:s.length<4294967281) (w:World):Calls Tryz.prog 185 #[.string ⟨s.toArray⟩,.string ⟨#[32]⟩] w fun e w' =>
  e=.returned (.slice (some ⟨w.heap.size,0,none⟩) (ai s).length (ai s).length)/\w'=w.alloc (.cells ((ai s).map fun x=>Value.string ⟨x.toArray⟩).toArray 9):=by
 have hsz:(⟨s.toArray⟩:ByteArray).size=s.length:=by show s.toArray.size=_; simp
 refine (IK ⟨s.toArray⟩ w (by rw [hsz]; exact hlen)).mono ?_;rintro e w' ⟨rfl,rfl⟩
 have hcnt:Lib.countB ⟨s.toArray⟩ ⟨#[32]⟩=s.count 32:=by
  show Lib.count s.toArray.toList [32]=_;rw [Lib.count_one]
 have hdat:(Lib.splitB ⟨#[32]⟩ 0 (s.count 32) ⟨s.toArray⟩).map (·.data.toList)=ai s:=by
  rw [Lib.splitB_data];exact wy _ s rfl
 have hval:(Lib.splitB ⟨#[32]⟩ 0 (s.count 32) ⟨s.toArray⟩).map Value.string=(ai s).map fun x=>Value.string ⟨x.toArray⟩:=by
  rw [<- hdat,List.map_map];rfl
 rw [hcnt,hval,iS s];exact ⟨rfl,rfl⟩
theorem Eh:DN.ok Tryz.prog 185:=by
 intro p w vs x hL hA hargs hpre
 have key:∀ s:List UInt8,s.length<4294967281->s.length<=aJ->Calls Tryz.prog 185 #[.string ⟨s.toArray⟩,.string ⟨#[32]⟩] w fun e w'=>∃ (rs:List Value) (q:PH),e=.returned (cm rs)/\Keep (fun _=>False) w w'/\(∀ b cs,q b=some cs->w.heap.size<=b)/\Agrees q w' /\
   iU w' w.heap.size q q [.dat (.arr .str)] (ai s) rs []:=by
  intro s hlen hb1;refine (DF s hlen w).mono ?_;rintro e w' ⟨rfl,rfl⟩;have hn:=iS s;have hcl:s.count 32<=s.length:=List.count_le_length;have hnew:=heap_alloc_new w (.cells ((ai s).map fun x=>Value.string ⟨x.toArray⟩).toArray 9);refine ⟨[.slice (some ⟨w.heap.size,0,none⟩) (ai s).length (ai s).length],fun b=>if b=w.heap.size then some (.cells ((ai s).map fun x=>Value.string ⟨x.toArray⟩).toArray) else none,rfl,⟨rfl,rfl,rfl,by simp,fun i hi _=>Below.heap_alloc w _ i hi⟩,fun b cs h=>?_,fun b cs h=>?_,?_⟩
  ·by_cases e:b=w.heap.size
   ·omega
   ·simp [e] at h
  ·by_cases e:b=w.heap.size
   ·subst e;simp only [if_true,Option.some.injEq] at h;subst h;exact ⟨_,_,hnew⟩
   ·simp [e] at h
  ·refine ⟨_,rfl,?_,fun b hb=>by cases hb⟩;show (Ty.arr .str).holds _ (ai s) [_];refine ⟨some ⟨w.heap.size,0,none⟩,(ai s).length,(ai s).map fun x=>Value.string ⟨x.toArray⟩,rfl,Nat.le_refl _,?_,Fk (fun x hx=>?_),fun _=>⟨w.heap.size,0,rfl,fun j u hu=>?_⟩⟩
   ·show (ai s).length * 16<=aJ;simp only [aJ];omega
   ·have:=s7 s x hx;omega
   ·simpa [PH.cell,Blk.get] using hu
 obtain ⟨v1,rest,rfl,h1,v2,rfl,h2⟩:=hargs;obtain ⟨h1,hb1⟩:[v1]=[Value.string ⟨(x.1:List UInt8).toArray⟩]/\(x.1:List UInt8).length<=aJ:=h1;obtain ⟨h2,_⟩:[v2]=[Value.string ⟨(x.2:List UInt8).toArray⟩]/\_:=h2;obtain rfl:=(List.cons.inj h1).1;obtain rfl:=(List.cons.inj h2).1;rw [show (x.2:List UInt8)=[32] from hpre.1];exact key x.1 hpre.2 hb1
def KS:Spec:={ Ts:=[ty_I],Rs:=[.dat .str],pre:=fun _=>True,F:=fun (n:Int)=>Lib.itoa n }
theorem KM {w : World} (h : Laid w) : Lib.TabIs Tryz.prog w "internal/strconv.uint64pow10" .u64 Lib.pow10Tab := by
 obtain ⟨t,fz,e⟩:fits w 1 0 (.agg ((List.range 20).map fun i=>Value.int .u64 ((10 ^ i:Nat):Int)).toArray):=h _ (List.mem_append_right _ (List.mem_cons_self));have hg : Tryz.prog.globalNamed "internal/strconv.uint64pow10" = some 1 := by kernel_rfl
 unfold Lib.TabIs World.var?;rw [hg];simp only [Option.bind_some,e];congr 1
theorem Cz {w:World} (h:Laid w) (g:Nat) (hg:g=3\/g=4):∃ ev,w.cell? ⟨g,0,none⟩=some ev/\(ev=.nilIface\/∃ te pe,ev=.iface te pe):=by
 have hm:(g,0,Value.nilIface)∈yh:=List.mem_append_right _ (by rcases hg with rfl | rfl <;> simp);obtain ⟨te,pe,e⟩:fits w g 0 .nilIface:=h _ hm;exact ⟨_,e,.inr ⟨te,pe,rfl⟩⟩
theorem EZ (w:World) (k:Nat) (os:Array Go.Obj):Below w.heap.size w (Sort.grow (w.drewN k) os) :=
 ⟨rfl,rfl,rfl,by simp,fun i hi=>by simp [Sort.grow,Array.getElem?_append,hi]⟩
theorem FR (n:Int) (hn:am .i64 n) (w:World) (h:Laid w):Calls Tryz.prog 110 #[.int .i64 n] w fun e w'=>e=.returned (.string ⟨(Lib.itoa n).toArray⟩)/\Below w.heap.size w w':=by
 simp only [am] at hn;refine (Any.strconv_Itoa JJ n (by omega) (by omega) w (KM h)).mono ?_;rintro e w' ⟨rfl,k,os,rfl⟩;exact ⟨rfl,EZ w k os⟩
theorem Ld:KS.ok Tryz.prog 110:=by
 intro p w vs (n:Int) hL hA hargs _;obtain ⟨val,rfl,hv⟩:=hargs;obtain ⟨e,hr⟩:[val]=[Value.int .i64 n]/\am .i64 n:=hv;obtain rfl:=(List.cons.inj e).1;refine (FR n hr w hL).mono ?_;rintro e w' ⟨rfl,hb⟩;refine ⟨[.string ⟨(Lib.itoa n).toArray⟩],fun _=>none,rfl,⟨hb.os,hb.tape,hb.output,hb.size,fun i hi _=>hb.block i hi⟩,fun _ _ h=>(by cases h),fun _ _ h=>(by cases h),?_⟩;have:=Lib.itoa_length_le n (by simp only [am] at hr; omega) (by simp only [am] at hr; omega);exact ⟨_,rfl,⟨rfl,by show (Lib.itoa n).length<=aJ; simp only [aJ]; omega⟩,fun b hb=>by cases hb⟩
abbrev KC (s:List UInt8) (w:World):Prop:=Calls Tryz.prog 187 #[.string ⟨s.toArray⟩] w fun e w'=>e=.returned (.tuple #[.int .i64 (fF s).1,.bool (fF s).2])/\Below w.heap.size w w'
theorem og {w w':World} (h:w'=w\/∃ t,w'=Lib.bytesWorld w 5 t):Below w.heap.size w w':=by
 rcases h with rfl | ⟨t,rfl⟩
 ·exact Below.refl _ _
 ·exact Lib.bytesWorld_below _ _ _
theorem Laid.below {w w':World} (h:Laid w) (hb:Below w.heap.size w w'):Laid w':=h.of_heap fun _ _ hlt=>hb.block _ hlt
theorem Mt (s:List UInt8) (hs:s.length<=aJ) (v:Int) (hv:Lib.atoiAll s=.ok v) (w:World) (h:Laid w):KC s w:=by
 have hA:=Any.strconv_Atoi_ok uf ⟨s.toArray⟩ (by show s.toArray.size<=_; simp only [aJ] at hs; simp; omega) v hv w;have hb:=Lib.atoiAll_bounds hv;have hF:fF s=(v,decide (-1000000000000000<v/\v<1000000000000000/\Lib.itoa v=s)):=by unfold fF; rw [hv]
 unfold KC;rw [hF];have hin:am .i64 v:=by simp only [am]; omega
 by_cases h1:-1000000000000000<v
 ·by_cases h2:v<1000000000000000
  ·have e1:decide (-1000000000000000<v)=true:=decide_eq_true h1;have e2:decide (v<1000000000000000)=true:=decide_eq_true h2
   go_enter Tryz.func187,Tryz.ntmps187
   go_wp2_with (go_at_call 242; refine hA.mono ?_; rintro e W1 ⟨rfl,hW⟩)
   have hb1:=og hW;have hI:=FR v hin W1 (h.below hb1);clear hW
   go_wp2_with (go_at_call 110; refine hI.mono ?_; rintro e W2 ⟨rfl,hb2⟩)
   go_ret2
   refine ⟨?_,hb1.trans (hb2.mono hb1.size)⟩
   have e3:(Lib.itoa v == s)=decide (-1000000000000000<v/\v<1000000000000000/\Lib.itoa v=s):=by
    apply Bool.eq_iff_iff.2;simp only [beq_iff_eq,decide_eq_true_eq];exact ⟨fun h=>⟨h1,h2,h⟩,fun h=>h.2.2⟩
   rw [e3];rfl
  ·have e1:decide (-1000000000000000<v)=true:=decide_eq_true h1;have e2:decide (v<1000000000000000)=false:=decide_eq_false h2
   go_enter Tryz.func187,Tryz.ntmps187
   go_wp2_with (go_at_call 242; refine hA.mono ?_; rintro e W1 ⟨rfl,hW⟩)
   have hb1:=og hW;clear hW
   go_wp2
   go_ret2
   refine ⟨?_,hb1⟩;rw [decide_eq_false (fun h=>absurd h.2.1 (by omega))];rfl
 ·have e1:decide (-1000000000000000<v)=false:=decide_eq_false h1
  go_enter Tryz.func187,Tryz.ntmps187
  go_wp2_with (go_at_call 242; refine hA.mono ?_; rintro e W1 ⟨rfl,hW⟩)
  have hb1:=og hW;clear hW
  go_wp2
  go_ret2
  refine ⟨?_,hb1⟩;rw [decide_eq_false (fun h=>absurd h.1 (by omega))];rfl
theorem FM (s:List UInt8) (z:Int) (w:World) (hA:Calls Tryz.prog 242 #[.string ⟨s.toArray⟩] w fun e w'=>∃ N t,e=.returned (.tuple #[.int .i64 z,.iface t (.pointer (some ⟨N,0,none⟩))])/\Below w.heap.size w w') :
  Calls Tryz.prog 187 #[.string ⟨s.toArray⟩] w fun e w'=>e=.returned (.tuple #[.int .i64 z,.bool false])/\Below w.heap.size w w':=by
 go_enter Tryz.func187,Tryz.ntmps187
 go_wp2_with (go_at_call 242; refine hA.mono ?_; rintro e W1 ⟨N,t,rfl,hb⟩)
 go_wp2
 go_ret2
 exact ⟨rfl,hb⟩
theorem Mu (s:List UInt8) (hs:s.length<=aJ) (w:World) (h:Laid w):KC s w:=by
 have hsz:(⟨s.toArray⟩:ByteArray).size=s.length:=by show s.toArray.size=_; simp
 have hlim:(⟨s.toArray⟩:ByteArray).size<=281474976710656:=by rw [hsz]; simp only [aJ] at hs; omega
 cases hv:Lib.atoiAll s
 ·exact Mt s hs _ hv w h
 ·obtain ⟨ev,hc,he⟩:=Cz h 3 (.inl rfl);have hF:fF s=(0,false):=by unfold fF; rw [hv]
  unfold KC;rw [hF];refine FM s 0 w ((Any.strconv_Atoi_syntax uf ⟨s.toArray⟩ hlim hv ev w hc he).mono ?_);rintro e w' ⟨N,rfl,_,_,hb⟩;exact ⟨N,_,rfl,hb⟩
 ·obtain ⟨ev,hc,he⟩:=Cz h 4 (.inr rfl);have hF:fF s=(Lib.atoiSat s,false):=by unfold fF; rw [hv]
  unfold KC;rw [hF];refine FM s _ w ((Any.strconv_Atoi_range uf ⟨s.toArray⟩ hlim hv ev w hc he).mono ?_);rintro e w' ⟨N,rfl,_,_,hb⟩;exact ⟨N,_,rfl,hb⟩
theorem Li (s:List UInt8):am .i64 (fF s).1:=by
 unfold fF;simp only [am];split
 ·rename_i v hv;have:=Lib.atoiAll_bounds hv;simp only;omega
 ·have:=Lib.atoiSat_bounds s;simp only;omega
 ·simp only;omega
def DQ:Spec:={ Ts:=[.str],Rs:=[.dat ty_I,.dat .bool],pre:=fun _=>True,F:=fun (s:List UInt8)=>fF s }
theorem Ek:DQ.ok Tryz.prog 187:=by
 intro p w vs (s:List UInt8) hL hA hargs _;obtain ⟨val,rfl,hv⟩:=hargs;obtain ⟨e,hr⟩:[val]=[Value.string ⟨s.toArray⟩]/\s.length<=aJ:=hv;obtain rfl:=(List.cons.inj e).1;refine (Mu s hr w hL).mono ?_;rintro e w' ⟨rfl,hb⟩;exact ⟨[.int .i64 (fF s).1,.bool (fF s).2],fun _=>none,rfl,⟨hb.os,hb.tape,hb.output,hb.size,fun i hi _=>hb.block i hi⟩,fun _ _ h=>(by cases h),fun _ _ h=>(by cases h),_,_,rfl,⟨rfl,Li s⟩,(fun b hb=>by cases hb),_,rfl,rfl,fun b hb=>by cases hb⟩
end
section
open Go
set_option maxRecDepth 100000
set_option maxHeartbeats 1000000
set_option maxHeartbeats 8000000
end
section
open Go
set_option maxRecDepth 100000
set_option maxHeartbeats 1000000
set_option maxHeartbeats 4000000
theorem fK {s:aj} {k a b c v:Int} {y:aj×Int×Int} (hb:ca k a b c v=false) (h1:aw s≠0->y=(aA,0,aw s)) (h2:aw s=0->y=deed s k a b c v):a7 s k a b c v=y:=by
 unfold a7;rw [if_neg (by rw [hb]; simp)];by_cases h:aw s≠0
 ·rw [if_pos h,h1 h]
 ·rw [if_neg h,h2 (by omega)]
theorem r7 {s:aj} (a:Int) (h:aw s≠0):bp s a=aw s:=by unfold bp; rw [if_pos h]
theorem A8 {s:aj} (a:Int) (h:aw s≠0):bC s a=aw s:=by unfold bC; rw [if_pos h]
theorem Nb (s:aj) (a b c v:Int):a7 s 1 a b c v=((a8 s a (b,c,v % 65536,false)).1,No (a8 s a (b,c,v % 65536,false)).2.1,(a8 s a (b,c,v % 65536,false)).2.2):=fK (by simp [ca]) (fun h=>by
 have e:=A8 a h;unfold a8;rw [if_pos (by omega),e];rfl) (fun h=>by rw [xD])
theorem Na (s:aj):a7 s 2 0 0 0 0=bx s:=fK (by rfl) (fun h=>by unfold bx; rw [if_pos h]) (fun h=>by rw [CM]; unfold bx; rw [if_neg (by omega)])
theorem M9 (s:aj) (a b c:Int):a7 s 3 a b c 0=((kh s a b c).1,0,(kh s a b c).2):=fK (by simp [ca]) (fun h=>by
 have e:bv s a b c=aw s:=by unfold bv; rw [if_pos (by rw [r7 a h]; exact h),r7 a h]
 unfold kh;rw [if_pos (by omega),e]) (fun h=>by rw [CL])
theorem M8 (s:aj) (a b c:Int):a7 s 4 a b c 0=((kc s a b c).1,0,(kc s a b c).2):=fK (by simp [ca]) (fun h=>by
 have e:bv s a b c=aw s:=by unfold bv; rw [if_pos (by rw [r7 a h]; exact h),r7 a h]
 unfold kc;rw [if_pos (by omega),e]) (fun h=>by rw [CK])
theorem M7 (s:aj) (a b:Int):a7 s 5 a b 0 0=(if aN s a b≠0 then (aA,0,aN s a b) else (s,s.1.getD (bE s (ax s a) b).toNat 0,0)):=fK (by simp [ca]) (fun h=>by
 have e:aN s a b=aw s:=by unfold aN; rw [if_pos (by rw [r7 a h]; exact h),r7 a h]
 rw [if_pos (by omega),e]) (fun h=>by rw [xC])
theorem M6 (s:aj) (a b v:Int):a7 s 6 a b 0 v=((jp s a b v).1,0,(jp s a b v).2):=fK (by simp [ca]) (fun h=>by
 have e:aN s a b=aw s:=by unfold aN; rw [if_pos (by rw [r7 a h]; exact h),r7 a h]
 unfold jp;rw [if_pos (by omega),e]) (fun h=>by rw [xB])
theorem M5 (s:aj) (a:Int):a7 s 7 a 0 0 0=ix s a:=fK (by simp [ca]) (fun h=>by unfold ix; rw [if_pos (by rw [r7 a h]; exact h),r7 a h]) (fun h=>by rw [CJ])
theorem M4 (s:aj) (a:Int):a7 s 8 a 0 0 0=((cP s a).1,0,(cP s a).2):=fK (by simp [ca]) (fun h=>by unfold cP; rw [if_pos h]) (fun h=>by rw [CI])
theorem M3 (s:aj) (a b:Int):a7 s 9 a b 0 0=(if cg s a b≠0 then (aA,0,cg s a b) else (s,s.1.getD (bE s a b).toNat 0,0)):=fK (by simp [ca]) (fun h=>by
 have e:cg s a b=aw s:=by unfold cg; rw [if_pos h]
 rw [if_pos (by omega),e]) (fun h=>by rw [CH])
theorem MI (s:aj) (a:Int):a7 s 10 a 0 0 0=fh s a:=fK (by simp [ca]) (fun h=>by unfold fh; rw [if_pos (by rw [r7 a h]; exact h),r7 a h]) (fun h=>by rw [uR])
theorem MH (s:aj) (a v:Int):a7 s 11 a 0 0 v=((jl s v a).1,0,(jl s v a).2):=fK (by simp [ca]) (fun h=>by unfold jl; rw [if_pos (by rw [A8 a h]; exact h),A8 a h]) (fun h=>by rw [uQ])
theorem MG (s:aj) (v:Int):a7 s 12 0 0 0 v=((fo s v).1,0,(fo s v).2):=fK (by simp [ca]) (fun h=>by unfold fo; rw [if_pos h]) (fun h=>by rw [uP])
theorem MF (s:aj) (a:Int):a7 s 13 a 0 0 0=((eX s a).1,0,(eX s a).2):=fK (by simp [ca]) (fun h=>by unfold eX; rw [if_pos (by rw [A8 a h]; exact h),A8 a h]) (fun h=>by rw [uO])
theorem Jg {s:aj} (hw:∀ x∈s.1,am .u64 x) (a:Int):IntKind.u64.wrap (ix s a).2.1=(ix s a).2.1:=by
 unfold ix;split
 ·rfl
 ·rename_i h;split
  ·rfl
  ·obtain ⟨R,_,_,O⟩:=nJ hw (by omega:bp s a=0);have:=O.x0;have:=O.r0;have:=O.b0;have:=O.fit;have:=R.al;exact fO (by simp only; omega) (by simp only; omega)
theorem zF {s:aj} (hw:∀ x∈s.1,am .u64 x):IntKind.u64.wrap (bx s).2.1=(bx s).2.1:=by
 unfold bx;split
 ·rfl
 ·have R:=gL hw (by omega:aw s=0);have hg:=Ff (aL false [] (ac (dz s)).1) (fun r hr=>by have:=R.gaps.2.1 r hr; omega);have hl:=R.gaps.2.2;have e:(cZ s).2=dF (aL false [] (ac (dz s)).1):=rfl;exact fO (by simp only; omega) (by simp only; omega)
end
section
open Go Go.RowKit
set_option maxHeartbeats 8000000
theorem EY {w:World} {a:Addr} {v:Value} (h:w.cell? a=some v) (o:Go.Obj):(w.alloc o).cell? a=some v:=by
 refine (((Below.refl w.heap.size w).alloc (Nat.le_refl _) o).cell (Nat.lt_of_not_le fun hn=>?_)).trans h;unfold World.cell? at h;rw [Array.getElem?_eq_none hn] at h;cases h
abbrev Nv (k a b c v:Int):Value:=.agg #[.int .i64 k,.int .i64 a,.int .i64 b,.int .i64 c,.int .u64 v]
abbrev Hf (k a b c v:Int):Go.Obj:=Go.Obj.cells #[.int .i64 k,.int .i64 a,.int .i64 b,.int .i64 c,.int .u64 v] 47
def dI (k a b c v:Int):Bool:=!ca k a b c v
abbrev gn (k a b c v:Int) (w:World):Prop:=Calls Tryz.prog 58 #[Nv k a b c v] w fun e w'=>e=.returned (.bool (dI k a b c v))/\Below w.heap.size w w'
theorem ic (w:World) (o o2:Go.Obj):Below w.heap.size w ((w.alloc o).alloc o2):=((Below.refl _ w).alloc (Nat.le_refl _) o).alloc (by simp) o2
theorem gl {x y:Bool} (h:x=y):Ending.returned (.bool x)=Ending.returned (.bool y):=by rw [h]
def formsB:List (List Bool):=[[false,false,false,false],[true,true,true,true],[false,false,false,false],[true,true,true,false],[true,true,true,false],[true,true,false,false],[true,true,false,true],[true,false,false,false],[true,false,false,false],[true,true,false,false],[true,false,false,false],[true,false,false,true],[false,false,false,true],[true,false,false,false]]
def formsZ:List (Nat×Bool):=List.zip (List.range 56) formsB.flatten
theorem kQ {w:World} (h:Laid w) (i j k l:Nat) (x y z u:Bool) (o:Go.Obj)
  (hm:(formsZ.contains (i,x)&&formsZ.contains (j,y)&&formsZ.contains (k,z)&&formsZ.contains (l,u))=true) :
  (w.alloc o).cell? ⟨0,i,none⟩=some (.bool x)/\(w.alloc o).cell? ⟨0,j,none⟩=some (.bool y)/\(w.alloc o).cell? ⟨0,k,none⟩=some (.bool z)/\(w.alloc o).cell? ⟨0,l,none⟩=some (.bool u):=by
 simp only [Bool.and_eq_true,List.contains_iff_mem] at hm
 have key:∀ n b,(n,b)∈formsZ->(w.alloc o).cell? ⟨0,n,none⟩=some (.bool b):=fun n b hb=>by
  have h1:w.cell? ⟨0,n,none⟩=some (.bool b):=h (0,n,.bool b) (by first | exact List.mem_map.2 ⟨(n,b),hb,rfl⟩ | exact List.mem_append_left _ (List.mem_map.2 ⟨(n,b),hb,rfl⟩));exact EY h1 o
 exact ⟨key _ _ hm.1.1.1,key _ _ hm.1.1.2,key _ _ hm.1.2,key _ _ hm.2⟩
theorem pQ (x:Int):x=0\/(x≠0/\(x == 0)=false):=by
 by_cases h:x=0
 ·exact .inl h
 ·exact .inr ⟨h,by simp [h]⟩
theorem I8 (k a b c v:Int) (w:World) (hk:k<1\/13<k):gn k a b c v w:=by
 by_cases h1:k<1
 ·have e1:decide (k<1)=true:=decide_eq_true h1
  go_enter Tryz.func58,Tryz.ntmps58
  go_wp2
  go_ret
  exact ⟨gl (by simp [dI,ca,e1]),(Below.refl _ w).alloc (Nat.le_refl _) _⟩
 ·have e1:decide (k<1)=false:=decide_eq_false h1;have e2:decide (k > 13)=true:=decide_eq_true (by omega);have e3:decide (13<k)=true:=e2
  go_enter Tryz.func58,Tryz.ntmps58
  go_wp2
  go_ret
  exact ⟨gl (by simp [dI,ca,e1,e3]),(Below.refl _ w).alloc (Nat.le_refl _) _⟩
theorem Mn (a b c v:Int) (w:World) (h:Laid w):gn 1 a b c v w:=by
 obtain ⟨e0,e1,e2,e3⟩:=kQ h 4 5 6 7 true true true true (Hf 1 a b c v) (by decide)
 all_goals (go_enter Tryz.func58,Tryz.ntmps58; go_wp2; go_ret; exact ⟨gl (by simp [dI,ca, *]),ic _ _ _⟩)
theorem Mm (a b c v:Int) (w:World) (h:Laid w):gn 2 a b c v w:=by
 obtain ⟨e0,e1,e2,e3⟩:=kQ h 8 9 10 11 false false false false (Hf 2 a b c v) (by decide);rcases pQ a with rfl | ⟨qa,sa⟩
 all_goals rcases pQ b with rfl | ⟨qb,sb⟩
 all_goals rcases pQ c with rfl | ⟨qc,sc⟩
 all_goals rcases pQ v with rfl | ⟨qv,sv⟩
 all_goals (go_enter Tryz.func58,Tryz.ntmps58; go_wp2; go_ret; exact ⟨gl (by simp [dI,ca, *]),ic _ _ _⟩)
theorem Ml (a b c v:Int) (w:World) (h:Laid w):gn 3 a b c v w:=by
 obtain ⟨e0,e1,e2,e3⟩:=kQ h 12 13 14 15 true true true false (Hf 3 a b c v) (by decide);rcases pQ v with rfl | ⟨qv,sv⟩
 all_goals (go_enter Tryz.func58,Tryz.ntmps58; go_wp2; go_ret; exact ⟨gl (by simp [dI,ca, *]),ic _ _ _⟩)
theorem Mk (a b c v:Int) (w:World) (h:Laid w):gn 4 a b c v w:=by
 obtain ⟨e0,e1,e2,e3⟩:=kQ h 16 17 18 19 true true true false (Hf 4 a b c v) (by decide);rcases pQ v with rfl | ⟨qv,sv⟩
 all_goals (go_enter Tryz.func58,Tryz.ntmps58; go_wp2; go_ret; exact ⟨gl (by simp [dI,ca, *]),ic _ _ _⟩)
theorem Mj (a b c v:Int) (w:World) (h:Laid w):gn 5 a b c v w:=by
 obtain ⟨e0,e1,e2,e3⟩:=kQ h 20 21 22 23 true true false false (Hf 5 a b c v) (by decide);rcases pQ c with rfl | ⟨qc,sc⟩
 all_goals rcases pQ v with rfl | ⟨qv,sv⟩
 all_goals (go_enter Tryz.func58,Tryz.ntmps58; go_wp2; go_ret; exact ⟨gl (by simp [dI,ca, *]),ic _ _ _⟩)
theorem Mi (a b c v:Int) (w:World) (h:Laid w):gn 6 a b c v w:=by
 obtain ⟨e0,e1,e2,e3⟩:=kQ h 24 25 26 27 true true false true (Hf 6 a b c v) (by decide);rcases pQ c with rfl | ⟨qc,sc⟩
 all_goals (go_enter Tryz.func58,Tryz.ntmps58; go_wp2; go_ret; exact ⟨gl (by simp [dI,ca, *]),ic _ _ _⟩)
theorem Mh (a b c v:Int) (w:World) (h:Laid w):gn 7 a b c v w:=by
 obtain ⟨e0,e1,e2,e3⟩:=kQ h 28 29 30 31 true false false false (Hf 7 a b c v) (by decide);rcases pQ b with rfl | ⟨qb,sb⟩
 all_goals rcases pQ c with rfl | ⟨qc,sc⟩
 all_goals rcases pQ v with rfl | ⟨qv,sv⟩
 all_goals (go_enter Tryz.func58,Tryz.ntmps58; go_wp2; go_ret; exact ⟨gl (by simp [dI,ca, *]),ic _ _ _⟩)
theorem Mg (a b c v:Int) (w:World) (h:Laid w):gn 8 a b c v w:=by
 obtain ⟨e0,e1,e2,e3⟩:=kQ h 32 33 34 35 true false false false (Hf 8 a b c v) (by decide);rcases pQ b with rfl | ⟨qb,sb⟩
 all_goals rcases pQ c with rfl | ⟨qc,sc⟩
 all_goals rcases pQ v with rfl | ⟨qv,sv⟩
 all_goals (go_enter Tryz.func58,Tryz.ntmps58; go_wp2; go_ret; exact ⟨gl (by simp [dI,ca, *]),ic _ _ _⟩)
theorem Mf (a b c v:Int) (w:World) (h:Laid w):gn 9 a b c v w:=by
 obtain ⟨e0,e1,e2,e3⟩:=kQ h 36 37 38 39 true true false false (Hf 9 a b c v) (by decide);rcases pQ c with rfl | ⟨qc,sc⟩
 all_goals rcases pQ v with rfl | ⟨qv,sv⟩
 all_goals (go_enter Tryz.func58,Tryz.ntmps58; go_wp2; go_ret; exact ⟨gl (by simp [dI,ca, *]),ic _ _ _⟩)
theorem K7 (a b c v:Int) (w:World) (h:Laid w):gn 10 a b c v w:=by
 obtain ⟨e0,e1,e2,e3⟩:=kQ h 40 41 42 43 true false false false (Hf 10 a b c v) (by decide);rcases pQ b with rfl | ⟨qb,sb⟩
 all_goals rcases pQ c with rfl | ⟨qc,sc⟩
 all_goals rcases pQ v with rfl | ⟨qv,sv⟩
 all_goals (go_enter Tryz.func58,Tryz.ntmps58; go_wp2; go_ret; exact ⟨gl (by simp [dI,ca, *]),ic _ _ _⟩)
theorem K6 (a b c v:Int) (w:World) (h:Laid w):gn 11 a b c v w:=by
 obtain ⟨e0,e1,e2,e3⟩:=kQ h 44 45 46 47 true false false true (Hf 11 a b c v) (by decide);rcases pQ b with rfl | ⟨qb,sb⟩
 all_goals rcases pQ c with rfl | ⟨qc,sc⟩
 all_goals (go_enter Tryz.func58,Tryz.ntmps58; go_wp2; go_ret; exact ⟨gl (by simp [dI,ca, *]),ic _ _ _⟩)
theorem K5 (a b c v:Int) (w:World) (h:Laid w):gn 12 a b c v w:=by
 obtain ⟨e0,e1,e2,e3⟩:=kQ h 48 49 50 51 false false false true (Hf 12 a b c v) (by decide);rcases pQ a with rfl | ⟨qa,sa⟩
 all_goals rcases pQ b with rfl | ⟨qb,sb⟩
 all_goals rcases pQ c with rfl | ⟨qc,sc⟩
 all_goals (go_enter Tryz.func58,Tryz.ntmps58; go_wp2; go_ret; exact ⟨gl (by simp [dI,ca, *]),ic _ _ _⟩)
theorem K4 (a b c v:Int) (w:World) (h:Laid w):gn 13 a b c v w:=by
 obtain ⟨e0,e1,e2,e3⟩:=kQ h 52 53 54 55 true false false false (Hf 13 a b c v) (by decide);rcases pQ b with rfl | ⟨qb,sb⟩
 all_goals rcases pQ c with rfl | ⟨qc,sc⟩
 all_goals rcases pQ v with rfl | ⟨qv,sv⟩
 all_goals (go_enter Tryz.func58,Tryz.ntmps58; go_wp2; go_ret; exact ⟨gl (by simp [dI,ca, *]),ic _ _ _⟩)
theorem D4 {k a b c v:Int} {w:World} (h:Laid w):gn k a b c v w:=by
 by_cases h1:k<1\/13<k
 ·exact I8 k a b c v w h1
 have:k=1\/k=2\/k=3\/k=4\/k=5\/k=6\/k=7\/k=8\/k=9\/k=10\/k=11\/k=12\/k=13:=by omega
 rcases this with rfl | rfl | rfl | rfl | rfl | rfl | rfl | rfl | rfl | rfl | rfl | rfl | rfl
 ·exact Mn a b c v w h
 ·exact Mm a b c v w h
 ·exact Ml a b c v w h
 ·exact Mk a b c v w h
 ·exact Mj a b c v w h
 ·exact Mi a b c v w h
 ·exact Mh a b c v w h
 ·exact Mg a b c v w h
 ·exact Mf a b c v w h
 ·exact K7 a b c v w h
 ·exact K6 a b c v w h
 ·exact K5 a b c v w h
 ·exact K4 a b c v w h
def IR:Spec:={ Ts:=[sS],Rs:=[.dat .bool],pre:=fun _=>True,F:=fun ((k,a,b,c,v):Int×Int×Int×Int×Int)=>dI k a b c v }
theorem Jq:IR.ok Tryz.prog 58:=by
 intro p w vs ⟨k,a,b,c,v⟩ hL hA hargs _;obtain ⟨val,rfl,hv⟩:=hargs;obtain ⟨cs,rfl,c1,c1',e1,⟨rfl,_⟩,c2,c2',rfl,⟨rfl,_⟩,c3,c3',rfl,⟨rfl,_⟩,c4,c4',rfl,⟨rfl,_⟩,rfl,_⟩:=hv
 have e:cs=#[.int .i64 k,.int .i64 a,.int .i64 b,.int .i64 c,.int .u64 v]:=by
  apply Array.toList_inj.1;simpa using e1
 subst e;refine (D4 (k:=k) (a:=a) (b:=b) (c:=c) (v:=v) hL).mono ?_;rintro e w' ⟨rfl,hb⟩;refine ⟨[.bool (dI k a b c v)],fun _=>none,rfl,⟨hb.os,hb.tape,hb.output,hb.size,fun i hi _=>hb.block i hi⟩,fun _ _ h=>(by cases h),fun _ _ h=>(by cases h),?_⟩;exact ⟨_,rfl,rfl,fun b hb=>by cases hb⟩
end
section
open Go
set_option maxRecDepth 100000
set_option maxHeartbeats 1000000
set_option maxHeartbeats 4000000
def LN:Nat->Option LoopGen
 | 3000081=>some eE
 | 8204000001=>some eE
 | _=>none
def eR (s:aj) (e:Int):aj×Int×Int:=(s,0,e)
def IT:Spec:={ Ts:=[aM,ty_I],Rs:=[.dat aM,.dat bj,.dat ty_I],al:=true,pre:=fun _=>True,F:=fun ((s,e):aj×Int)=>eR s e }
def Bw:Prop :=
  ∀ (x:(List Int×List Int×List (Int×Int)×List (Int×Bool×Int))×Int),(pO x.1)/\am .i64 x.2->True->x.1=(eR x.1 x.2).1/\0=(eR x.1 x.2).2.1/\x.2=(eR x.1 x.2).2.2/\True
theorem Gj:Bw:=by
 unfold Bw;intro ⟨s,e⟩ _ _;exact ⟨by first | exact trivial | rfl,by first | exact trivial | rfl,by first | exact trivial | rfl,trivial⟩
theorem Js:IT.ok Tryz.prog 61:=aD (ann:=co) ap Tryz.func61 (by kernel_rfl) Gj
def gb (s:aj) (n e:Int):aj×Int×Int:=(s,IntKind.u64.wrap n,e)
def DP:Spec:={ Ts:=[aM,ty_I,ty_I],Rs:=[.dat aM,.dat bj,.dat ty_I],al:=true,pre:=fun _=>True,F:=fun ((s,n,e):aj×Int×Int)=>gb s n e }
def tH:Prop :=
  ∀ (x:(List Int×List Int×List (Int×Int)×List (Int×Bool×Int))×Int×Int),(pO x.1)/\am .i64 x.2.1/\am .i64 x.2.2->True->x.1=(gb x.1 x.2.1 x.2.2).1/\IntKind.u64.wrap x.2.1=(gb x.1 x.2.1 x.2.2).2.1/\x.2.2=(gb x.1 x.2.1 x.2.2).2.2/\True
theorem Ae:tH:=by
 unfold tH;intro ⟨s,n,e⟩ _ _;exact ⟨by first | exact trivial | rfl,by first | exact trivial | rfl,by first | exact trivial | rfl,trivial⟩
theorem Ej:DP.ok Tryz.prog 59:=aD (ann:=co) ap Tryz.func59 (by kernel_rfl) Ae
def iP (s:aj) (v e:Int):aj×Int×Int:=if e≠0 then (aA,0,e) else (s,v,0)
def IU:Spec:={ Ts:=[aM,bj,ty_I],Rs:=[.dat aM,.dat bj,.dat ty_I],al:=true,pre:=fun _=>True,F:=fun ((s,v,e):aj×Int×Int)=>iP s v e }
def Bx:Prop :=
  ∀ (x:(List Int×List Int×List (Int×Int)×List (Int×Bool×Int))×Int×Int),(pO x.1)/\am .u64 x.2.1/\am .i64 x.2.2->True->(decide (x.2.2≠0)=true->(([]:List Int),([]:List Int),([]:List (Int×Int)),([]:List (Int×Bool×Int)))=(iP x.1 x.2.1 x.2.2).1/\0=(iP x.1 x.2.1 x.2.2).2.1/\x.2.2=(iP x.1 x.2.1 x.2.2).2.2/\True)/\(decide (x.2.2≠0)=false->∀ (_:Array Value),True/\True/\True/\x.1.2.1=x.1.2.1/\x.1.2.2.1=x.1.2.2.1/\x.1.2.2.1=x.1.2.2.1/\x.1.2.2.2=x.1.2.2.2/\x.1.2.2.2=x.1.2.2.2/\x.1.2.2.2=x.1.2.2.2/\True/\x.1=(iP x.1 x.2.1 x.2.2).1/\x.2.1=(iP x.1 x.2.1 x.2.2).2.1/\0=(iP x.1 x.2.1 x.2.2).2.2/\True)
theorem Gk:Bx:=by
 unfold Bx;intro ⟨s,v,e⟩ _ _;simp only;unfold iP;refine ⟨fun h=>?_,fun h=>?_⟩
 ·rw [if_pos (of_decide_eq_true h)];exact ⟨rfl,rfl,rfl,trivial⟩
 ·rw [if_neg (of_decide_eq_false h)];exact fun _=>⟨by first | exact trivial | rfl,by first | exact trivial | rfl,by first | exact trivial | rfl,by first | exact trivial | rfl,by first | exact trivial | rfl,by first | exact trivial | rfl,by first | exact trivial | rfl,by first | exact trivial | rfl,by first | exact trivial | rfl,by first | exact trivial | rfl,by first | exact trivial | rfl,by first | exact trivial | rfl,by first | exact trivial | rfl,trivial⟩
theorem Jt:IU.ok Tryz.prog 65:=aD (ann:=LN) (ae bI (ae ci (ae bZ (ae bJ ap)))) Tryz.func65 (by kernel_rfl) Gk
theorem FP (s:aj) (v e:Int):iP s (if e≠0 then 0 else v) e=if e≠0 then (aA,0,e) else (s,v,0):=by
 unfold iP;by_cases h:e≠0
 ·rw [if_pos h,if_pos h]
 ·rw [if_neg h,if_neg h,if_neg h]
theorem lG {α β γ:Type} {x y:α×β×γ} (h:x=y):x.1=y.1/\x.2.1=y.2.1/\x.2.2=y.2.2/\True:=by subst h; exact ⟨rfl,rfl,rfl,trivial⟩
def Mc:Spec:={ Ts:=[aM,sS],Rs:=[.dat aM,.dat bj,.dat ty_I],al:=true,pre:=fun _=>True,F:=fun ((s,k,a,b,c,v):aj×Int×Int×Int×Int×Int)=>a7 s k a b c v }
def Jb:Prop :=
  ∀ (x:(List Int×List Int×List (Int×Int)×List (Int×Bool×Int))×Int×Int×Int×Int×Int),(fun (v7:type_of% (fo x.1 x.2.2.2.2.2))=>(fun (v6:type_of% (ix x.1 x.2.2.1))=>(fun (v5:type_of% (jl x.1 x.2.2.2.2.2 x.2.2.1))=>(fun (v4:type_of% (jp x.1 x.2.2.1 x.2.2.2.1 x.2.2.2.2.2))=>(fun (v3:type_of% (kc x.1 x.2.2.1 x.2.2.2.1 x.2.2.2.2.1))=>(fun (v2:type_of% (kh x.1 x.2.2.1 x.2.2.2.1 x.2.2.2.2.1))=>(fun (v1:type_of% (a8 x.1 x.2.2.1 (x.2.2.2.1,x.2.2.2.2.1,IntKind.i64.wrap (x.2.2.2.2.2 % 65536),false)))=>(fun (v0:type_of% (a7 x.1 x.2.1 x.2.2.1 x.2.2.2.1 x.2.2.2.2.1 x.2.2.2.2.2))=>(pO x.1)/\am .i64 x.2.1/\am .i64 x.2.2.1/\am .i64 x.2.2.2.1/\am .i64 x.2.2.2.2.1/\am .u64 x.2.2.2.2.2->True->True/\((!dI x.2.1 x.2.2.1 x.2.2.2.1 x.2.2.2.2.1 x.2.2.2.2.2)=true->(([]:List Int),([]:List Int),([]:List (Int×Int)),([]:List (Int×Bool×Int)))=v0.1/\0=v0.2.1/\1=v0.2.2/\True)/\((!dI x.2.1 x.2.2.1 x.2.2.2.1 x.2.2.2.2.1 x.2.2.2.2.2)=false->(decide (x.2.1=1)=true->0<=x.2.2.2.2.2/\(0:Int)<65536/\True/\(v1.2.1=true->v1.1=v0.1/\1=v0.2.1/\v1.2.2=v0.2.2/\True)/\(v1.2.1=false->v1.1=v0.1/\0=v0.2.1/\v1.2.2=v0.2.2/\True))/\(decide (x.2.1=1)=false->(decide (x.2.1=2)=true->True/\True/\(gb (bx x.1).1 (bx x.1).2.1 (bx x.1).2.2).1=v0.1/\(gb (bx x.1).1 (bx x.1).2.1 (bx x.1).2.2).2.1=v0.2.1/\(gb (bx x.1).1 (bx x.1).2.1 (bx x.1).2.2).2.2=v0.2.2/\True)/\(decide (x.2.1=2)=false->(decide (x.2.1=3)=true->True/\True/\(eR v2.1 v2.2).1=v0.1/\(eR v2.1 v2.2).2.1=v0.2.1/\(eR v2.1 v2.2).2.2=v0.2.2/\True)/\(decide (x.2.1=3)=false->(decide (x.2.1=4)=true->True/\True/\(eR v3.1 v3.2).1=v0.1/\(eR v3.1 v3.2).2.1=v0.2.1/\(eR v3.1 v3.2).2.2=v0.2.2/\True)/\(decide (x.2.1=4)=false->(decide (x.2.1=5)=true->True/\True/\(iP x.1 (if aN x.1 x.2.2.1 x.2.2.2.1≠0 then (0:Int) else x.1.1.getD (bE x.1 (ax x.1 x.2.2.1) x.2.2.2.1).toNat 0) (aN x.1 x.2.2.1 x.2.2.2.1)).1=v0.1/\(iP x.1 (if aN x.1 x.2.2.1 x.2.2.2.1≠0 then (0:Int) else x.1.1.getD (bE x.1 (ax x.1 x.2.2.1) x.2.2.2.1).toNat 0) (aN x.1 x.2.2.1 x.2.2.2.1)).2.1=v0.2.1/\(iP x.1 (if aN x.1 x.2.2.1 x.2.2.2.1≠0 then (0:Int) else x.1.1.getD (bE x.1 (ax x.1 x.2.2.1) x.2.2.2.1).toNat 0) (aN x.1 x.2.2.1 x.2.2.2.1)).2.2=v0.2.2/\True)/\(decide (x.2.1=5)=false->(decide (x.2.1=6)=true->True/\True/\(eR v4.1 v4.2).1=v0.1/\(eR v4.1 v4.2).2.1=v0.2.1/\(eR v4.1 v4.2).2.2=v0.2.2/\True)/\(decide (x.2.1=6)=false->(decide (x.2.1=7)=true->True/\True/\(gb v6.1 v6.2.1 v6.2.2).1=v0.1/\(gb v6.1 v6.2.1 v6.2.2).2.1=v0.2.1/\(gb v6.1 v6.2.1 v6.2.2).2.2=v0.2.2/\True)/\(decide (x.2.1=7)=false->(decide (x.2.1=8)=true->True/\True/\(eR (cP x.1 x.2.2.1).1 (cP x.1 x.2.2.1).2).1=v0.1/\(eR (cP x.1 x.2.2.1).1 (cP x.1 x.2.2.1).2).2.1=v0.2.1/\(eR (cP x.1 x.2.2.1).1 (cP x.1 x.2.2.1).2).2.2=v0.2.2/\True)/\(decide (x.2.1=8)=false->(decide (x.2.1=9)=true->True/\True/\(iP x.1 (if cg x.1 x.2.2.1 x.2.2.2.1≠0 then (0:Int) else x.1.1.getD (bE x.1 x.2.2.1 x.2.2.2.1).toNat 0) (cg x.1 x.2.2.1 x.2.2.2.1)).1=v0.1/\(iP x.1 (if cg x.1 x.2.2.1 x.2.2.2.1≠0 then (0:Int) else x.1.1.getD (bE x.1 x.2.2.1 x.2.2.2.1).toNat 0) (cg x.1 x.2.2.1 x.2.2.2.1)).2.1=v0.2.1/\(iP x.1 (if cg x.1 x.2.2.1 x.2.2.2.1≠0 then (0:Int) else x.1.1.getD (bE x.1 x.2.2.1 x.2.2.2.1).toNat 0) (cg x.1 x.2.2.1 x.2.2.2.1)).2.2=v0.2.2/\True)/\(decide (x.2.1=9)=false->(decide (x.2.1=10)=true->True/\(fh x.1 x.2.2.1).1=v0.1/\(fh x.1 x.2.2.1).2.1=v0.2.1/\(fh x.1 x.2.2.1).2.2=v0.2.2/\True)/\(decide (x.2.1=10)=false->(decide (x.2.1=11)=true->True/\True/\(eR v5.1 v5.2).1=v0.1/\(eR v5.1 v5.2).2.1=v0.2.1/\(eR v5.1 v5.2).2.2=v0.2.2/\True)/\(decide (x.2.1=11)=false->(decide (x.2.1=12)=true->True/\True/\(eR v7.1 v7.2).1=v0.1/\(eR v7.1 v7.2).2.1=v0.2.1/\(eR v7.1 v7.2).2.2=v0.2.2/\True)/\(decide (x.2.1=12)=false->True/\True/\(eR (eX x.1 x.2.2.1).1 (eX x.1 x.2.2.1).2).1=v0.1/\(eR (eX x.1 x.2.2.1).1 (eX x.1 x.2.2.1).2).2.1=v0.2.1/\(eR (eX x.1 x.2.2.1).1 (eX x.1 x.2.2.1).2).2.2=v0.2.2/\True)))))))))))))) (a7 x.1 x.2.1 x.2.2.1 x.2.2.2.1 x.2.2.2.2.1 x.2.2.2.2.2)) (a8 x.1 x.2.2.1 (x.2.2.2.1,x.2.2.2.2.1,IntKind.i64.wrap (x.2.2.2.2.2 % 65536),false))) (kh x.1 x.2.2.1 x.2.2.2.1 x.2.2.2.2.1)) (kc x.1 x.2.2.1 x.2.2.2.1 x.2.2.2.2.1)) (jp x.1 x.2.2.1 x.2.2.2.1 x.2.2.2.2.2)) (jl x.1 x.2.2.2.2.2 x.2.2.1)) (ix x.1 x.2.2.1)) (fo x.1 x.2.2.2.2.2)
theorem KG:Jb:=by
 unfold Jb;intro ⟨s,k,a,b,c,v⟩ ⟨⟨⟨_,hw⟩,_⟩,_,_,_,_,hv⟩ _;simp only at hw hv ⊢;simp only [am] at hv;refine ⟨trivial,fun h=>?_,fun h=>?_⟩
 ·have hb:ca k a b c v=true:=by simpa [dI] using h
  have hD:a7 s k a b c v=(aA,0,1):=by unfold a7; rw [if_pos hb]
  rw [hD];exact ⟨rfl,rfl,rfl,trivial⟩
 have hb:ca k a b c v=false:=by simpa [dI] using h
 have hk:1<=k/\k<=13:=by
  unfold ca at hb;simp only [Bool.or_eq_false_iff,decide_eq_false_iff_not] at hb;omega
 refine ⟨fun q1=>?_,fun q1=>⟨fun q2=>?_,fun q2=>⟨fun q3=>?_,fun q3=>⟨fun q4=>?_,fun q4=>⟨fun q5=>?_,fun q5=>⟨fun q6=>?_,fun q6=>⟨fun q7=>?_,fun q7=>⟨fun q8=>?_,fun q8=>⟨fun q9=>?_,fun q9=>⟨fun q10=>?_,fun q10=>⟨fun q11=>?_,fun q11=>⟨fun q12=>?_,fun q12=>?_⟩⟩⟩⟩⟩⟩⟩⟩⟩⟩⟩⟩
 ·obtain rfl:=of_decide_eq_true q1;rw [Nb,m4 (by omega) (by omega)];refine ⟨by omega,by omega,trivial,fun q=>?_,fun q=>?_⟩
  ·exact ⟨rfl,by rw [q]; rfl,rfl,trivial⟩
  ·exact ⟨rfl,by rw [q]; rfl,rfl,trivial⟩
 ·obtain rfl:=of_decide_eq_true q2;obtain ⟨rfl,rfl,rfl,rfl⟩:a=0/\b=0/\c=0/\v=0:=by simpa [ca,and_assoc] using hb
  rw [Na];refine ⟨trivial,trivial,lG ?_⟩;unfold gb;rw [zF hw]
 ·obtain rfl:=of_decide_eq_true q3;obtain rfl:v=0:=by simpa [ca] using hb
  rw [M9];exact ⟨trivial,trivial,lG rfl⟩
 ·obtain rfl:=of_decide_eq_true q4;obtain rfl:v=0:=by simpa [ca] using hb
  rw [M8];exact ⟨trivial,trivial,lG rfl⟩
 ·obtain rfl:=of_decide_eq_true q5;obtain ⟨rfl,rfl⟩:c=0/\v=0:=by simpa [ca] using hb
  rw [M7];exact ⟨trivial,trivial,lG (FP ..)⟩
 ·obtain rfl:=of_decide_eq_true q6;obtain rfl:c=0:=by simpa [ca] using hb
  rw [M6];exact ⟨trivial,trivial,lG rfl⟩
 ·obtain rfl:=of_decide_eq_true q7;obtain ⟨rfl,rfl,rfl⟩:b=0/\c=0/\v=0:=by simpa [ca,and_assoc] using hb
  rw [M5];refine ⟨trivial,trivial,lG ?_⟩;unfold gb;rw [Jg hw]
 ·obtain rfl:=of_decide_eq_true q8;obtain ⟨rfl,rfl,rfl⟩:b=0/\c=0/\v=0:=by simpa [ca,and_assoc] using hb
  rw [M4];exact ⟨trivial,trivial,lG rfl⟩
 ·obtain rfl:=of_decide_eq_true q9;obtain ⟨rfl,rfl⟩:c=0/\v=0:=by simpa [ca] using hb
  rw [M3];exact ⟨trivial,trivial,lG (FP ..)⟩
 ·obtain rfl:=of_decide_eq_true q10;obtain ⟨rfl,rfl,rfl⟩:b=0/\c=0/\v=0:=by simpa [ca,and_assoc] using hb
  rw [MI];exact ⟨trivial,lG rfl⟩
 ·obtain rfl:=of_decide_eq_true q11;obtain ⟨rfl,rfl⟩:b=0/\c=0:=by simpa [ca] using hb
  rw [MH];exact ⟨trivial,trivial,lG rfl⟩
 ·obtain rfl:=of_decide_eq_true q12;obtain ⟨rfl,rfl,rfl⟩:a=0/\b=0/\c=0:=by simpa [ca,and_assoc] using hb
  rw [MG];exact ⟨trivial,trivial,lG rfl⟩
 ·have n1:=of_decide_eq_false q1;have n2:=of_decide_eq_false q2;have n3:=of_decide_eq_false q3;have n4:=of_decide_eq_false q4;have n5:=of_decide_eq_false q5;have n6:=of_decide_eq_false q6;have n7:=of_decide_eq_false q7;have n8:=of_decide_eq_false q8;have n9:=of_decide_eq_false q9;have n10:=of_decide_eq_false q10;have n11:=of_decide_eq_false q11;have n12:=of_decide_eq_false q12;obtain rfl:k=13:=by omega
  obtain ⟨rfl,rfl,rfl⟩:b=0/\c=0/\v=0:=by simpa [ca,and_assoc] using hb
  rw [MF];exact ⟨trivial,trivial,lG rfl⟩
theorem Ju:Mc.ok Tryz.prog 15:=aD (ann:=co) (ae Jq (ae Hm (ae nh (ae Ej (ae Hi (ae Js (ae Hh (ae Jn (ae Jt (ae Hj (ae Hk (ae BN (ae Hl (ae Ef (ae Hg (ae Ee (ae Eg ap))))))))))))))))) Tryz.func15 (by kernel_rfl) KG
end
section
open Go
set_option maxRecDepth 100000
set_option maxHeartbeats 1000000
end
section
open Go
def Nh (a:List Int) (x:Int):Int:=di (ac a).1 x
def wi (a:List Int):List Int->Int
 | []=>0
 | x::l=>Nh a x+wi a l
theorem My (a:List Int) (x:Int):1<=Nh a x/\Nh a x<=256:=MZ a x
theorem uM (a:List Int):∀ l:List Int,(l.length:Int)<=wi a l/\wi a l<=256 * l.length
 | []=>by simp [wi]
 | x::l=>by
  have:=uM a l;have:=My a x;simp only [wi,List.length_cons];omega
theorem CE (a:List Int):∀ l:List Int,wi a l=(l.map (Nh a)).sum
 | []=>rfl
 | x::l=>by simp [wi,CE a l]
structure Carr (a o:List Int):Prop where
 nodup:o.Nodup
 isB:∀ x∈o,isB (ac a).1 x=true
 refs:∀ x∈o,∀ v∈bF a x,v=0\/(1<=v/\v<=256/\v - 1∈o)
 head:∀ x∈o,aB (eG a x)=a.getD x.toNat 0
end
section
open Go
set_option maxRecDepth 100000
set_option maxHeartbeats 1000000
end
section
open Go
set_option maxRecDepth 100000
set_option maxHeartbeats 1000000
def lL (s:aj):List cT:=aL false [] (ac (dz s)).1
theorem Right.live {s:aj} (R:Right s):wi s.1 (bD s.1 (ii (cC s) 256))+gT s=s.1.length/\0<=gT s/\0<=wi s.1 (bD s.1 (ii (cC s) 256)):=by
 have h:=R.free;have e:wi s.1 (dA s)=((dA s).map (di (ac s.1).1)).sum:=CE s.1 (dA s);have h2:=uM s.1 (dA s);have h3:=R.gaps.2.1
 have h4:0<=gT s:=by
  unfold gT;generalize aL false [] (ac (dz s)).1=g at *
  have:∀ l:List cT,(∀ r∈l,0<=r.1/\1<=r.2/\r.2<=256)->0<=dF l:=fun l=>by
   induction l with
   | nil=>intro _; simp [dF]
   | cons r l ih =>
    intro hl;have:=ih fun x hx=>hl x (by simp [hx])
    have:=hl r (by simp);simp only [dF,List.map_cons,List.sum_cons] at *;omega
  exact this g h3
 rw [R.reached];omega
def jZ (s:aj):Int×List cT×Int:=if aw s≠0 then (0,[],aw s) else (gT s,lL s,0)
def AP:Spec:={ Ts:=[aM],Rs:=[.dat ty_I,.own 105 jm,.dat ty_I],pre:=fun _=>True,F:=jZ }
def rk:Prop :=
  ∀ (x:List Int×List Int×List (Int×Int)×List (Int×Bool×Int)),(pO x)->True->True/\(decide ((bx x).2.2≠0)=true->0=(jZ x).1/\([]:List (Int×Int))=(jZ x).2.1/\(bx x).2.2=(jZ x).2.2/\True)/\(decide ((bx x).2.2≠0)=false->True/\(bx x).2.1=(jZ x).1/\(an (bx x).1.1).1=(jZ x).2.1/\0=(jZ x).2.2/\True)
theorem xT:rk:=by
 unfold rk;intro s ⟨⟨_,hw⟩,_⟩ _;have hC:bx s=if aw s≠0 then (aA,0,aw s) else ((cZ s).1,(cZ s).2,0):=rfl
 have hF:jZ s=if aw s≠0 then (0,[],aw s) else (gT s,lL s,0):=rfl
 by_cases h0:aw s≠0
 ·rw [if_pos h0] at hC hF;rw [hC,hF];exact ⟨trivial,fun _=>⟨by trivial,by trivial,by trivial,trivial⟩,fun h=>absurd h0 (of_decide_eq_false h)⟩
 ·rw [if_neg h0] at hC hF;have R:=gL hw (by omega:aw s=0);have e:an (cZ s).1.1=(lL s,0):=R.gaps.1;rw [hC,hF];simp only;rw [e];exact ⟨trivial,fun h=>absurd rfl (of_decide_eq_true h),fun _=>⟨trivial,by trivial,by trivial,by trivial,trivial⟩⟩
theorem BV:AP.ok Tryz.prog 82:=aD (ann:=co) (ae nh (ae jS ap)) Tryz.func82 (by kernel_rfl) xT
def jV (s:aj):Int×Int:=if aw s≠0 then (0,aw s) else (s.1.length - gT s,0)
def AO:Spec:={ Ts:=[aM],Rs:=[.dat ty_I,.dat ty_I],pre:=fun _=>True,F:=jV }
def rj:Prop :=
  ∀ (x:List Int×List Int×List (Int×Int)×List (Int×Bool×Int)),(pO x)->True->True/\(decide ((jZ x).2.2≠0)=true->0=(jV x).1/\(jZ x).2.2=(jV x).2/\True)/\(decide ((jZ x).2.2≠0)=false->am .i64 ((x.1.length:Int) - (jZ x).1)/\(x.1.length:Int) - (jZ x).1=(jV x).1/\0=(jV x).2/\True)
theorem xS:rj:=by
 unfold rj;intro s ⟨⟨_,hw⟩,_⟩ _;have hL:jV s=if aw s≠0 then (0,aw s) else (s.1.length - gT s,0):=rfl
 have hF:jZ s=if aw s≠0 then (0,[],aw s) else (gT s,lL s,0):=rfl
 by_cases h0:aw s≠0
 ·rw [if_pos h0] at hL hF;rw [hL,hF];exact ⟨trivial,fun _=>⟨by trivial,by trivial,trivial⟩,fun h=>absurd h0 (of_decide_eq_false h)⟩
 ·rw [if_neg h0] at hL hF;have R:=gL hw (by omega:aw s=0);have hl:=R.live;have hal:=R.al;rw [hL,hF];simp only [am];exact ⟨trivial,fun h=>absurd rfl (of_decide_eq_true h),fun _=>⟨by omega,by trivial,by trivial,trivial⟩⟩
theorem BU:AO.ok Tryz.prog 22:=aD (ann:=co) (ae BV ap) Tryz.func22 (by kernel_rfl) xS
end
section
open Go
set_option maxRecDepth 100000
set_option maxHeartbeats 1000000
set_option maxHeartbeats 4000000
abbrev Nt:=Int×Int×Int×Int×Int
end
section
open Go
theorem Right.ok {s:aj} (R:Right s):aw s=0:=by
 unfold aw;rw [if_neg (by have:=R.chk; omega),if_neg (by have:=R.root; omega),if_neg (by have:=R.pin; omega),if_neg (by have:=R.hand; omega)];exact i7 R.chk R.nam
section
variable {a keep pinned long:List Int}
end
end
section
open Go
def Er (e:Int):Prop:=0<=e/\e<=12
theorem J8 (a:List Int):Er (ac a).2:=by
 unfold ac Er;split
 ·simp
 ·split <;> simp
theorem uI (a:List Int):Er (ak a).2.2:=by
 have h:=J8 a;unfold ak;split
 ·exact h
 ·split <;> simp [Er]
theorem Lt (r:List Int) (n:Int):Er (aF r n):=by
 unfold aF Er;split
 ·omega
 split
 ·omega
 split <;> omega
theorem uG:∀ (p:List bo) (q:Int),Er (cM q p)
 | [],_=>by simp [cM,Er]
 | x::p,q=>by
  unfold cM;split
  ·simp [Er]
  split
  ·simp [Er]
  ·exact uG p x.1
theorem FX (p:List bo):Er (bL p):=by
 unfold bL;split
 ·simp [Er]
 ·exact uG p _
theorem CA:∀ (h:List bb),Er (br h)
 | []=>by simp [br,Er]
 | s::h=>by
  unfold br;split
  ·unfold ee Er;split
   ·omega
   split <;> omega
  ·exact CA h
theorem uH (h:List bb):Er (aG h):=by
 unfold aG;split
 ·simp [Er]
 ·exact CA h
theorem Lz (a f:List Int):Er (aY a f):=by
 have h:=uI a;unfold aY;split
 ·exact h
 split <;> simp [Er]
theorem jy (s:aj):Er (aw s):=by
 unfold aw;split
 ·exact uI _
 split
 ·exact Lt _ _
 split
 ·exact FX _
 split
 ·exact uH _
 ·exact Lz _ _
theorem zy (s:aj) (k:Int):Er (bC s k):=by
 unfold bC;split
 ·exact jy s
 split <;> simp [Er]
theorem zz (s:aj) (k:Int):Er (bp s k):=by
 unfold bp;split
 ·exact jy s
 split <;> simp [Er]
theorem J9 (s:aj) (a b c:Int):Er (bv s a b c):=by
 unfold bv;split
 ·exact zz s a
 split
 ·simp [Er]
 split <;> simp [Er]
theorem FZ (s:aj) (a b:Int):Er (aN s a b):=by
 unfold aN;split
 ·exact zz s a
 split <;> simp [Er]
theorem Lu (s:aj) (a b:Int):Er (cg s a b):=by
 unfold cg;split
 ·exact jy s
 split
 ·simp [Er]
 split <;> simp [Er]
theorem Ly (h:dZ):Er (fH h):=by
 unfold fH;split
 ·unfold af Er;split
  ·omega
  split
  ·omega
  split <;> omega
 split <;> simp [Er]
theorem CB (p:List bo) (k:Int):Er (aE p k).2.2:=by
 unfold aE;split
 ·exact FX p
 split <;> simp [Er]
theorem MD (p:List bo) (k:Int):Er (gm p k).2.2:=by
 unfold gm;split
 ·exact CB p k
 split <;> simp [Er]
theorem LA (p:List bo) (k:Int):Er (dC p k).2.2:=by
 unfold dC;split
 ·exact CB p k
 split <;> simp [Er]
theorem Lv (h:List bb) (a:Int):Er (openF h a).2.2:=by
 unfold openF;split
 ·exact uH h
 split
 ·simp [Er]
 split <;> simp [Er]
theorem FY (h:List bb) (n:Int):Er (ce h n).2:=by
 unfold ce;split
 ·exact uH h
 split <;> simp [Er]
theorem Lx (h:List bb) (n:Int):Er (gQ h n).2:=by
 unfold gQ;split
 ·exact FY h n
 ·simp [Er]
theorem Ka (h:List bb) (n:Int):Er (closeF h n).2:=by
 unfold closeF;split
 ·exact FY h n
 ·simp [Er]
theorem Lw (s:aj) (k:Int) (h:dZ):Er (a8 s k h).2.2:=by
 unfold a8;split
 ·exact zy s k
 split
 ·exact Ly h
 split
 ·simp [Er]
 split <;> simp [Er]
theorem LC (s:aj) (k a b c v:Int) (hk:1<=k/\k<=13):Er (deed s k a b c v).2.2:=by
 have hk:k=1\/k=2\/k=3\/k=4\/k=5\/k=6\/k=7\/k=8\/k=9\/k=10\/k=11\/k=12\/k=13:=by omega
 have z:Er 0:=by simp [Er]
 rcases hk with rfl | rfl | rfl | rfl | rfl | rfl | rfl | rfl | rfl | rfl | rfl | rfl | rfl
 ·rw [xD]; exact Lw ..
 ·rw [CM]; exact z
 ·rw [CL]; unfold kh; split; exact J9 ..; exact z
 ·rw [CK]; unfold kc; split; exact J9 ..; exact z
 ·rw [xC]; split; exact FZ ..; exact z
 ·rw [xB]; unfold jp; split; exact FZ ..; exact z
 ·rw [CJ]; unfold ix; split; exact zz ..; split; exact MD ..; exact z
 ·rw [CI]; unfold cP; split; exact jy ..; split; exact LA ..; exact z
 ·rw [CH]; split; exact Lu ..; exact z
 ·rw [uR]; unfold fh; split; exact zz ..; split; exact Lv ..; exact z
 ·rw [uQ]; unfold jl; split; exact zy ..; split; exact Lx ..; exact z
 ·rw [uP]; unfold fo; split; exact jy ..; split; exact Ka ..; exact z
 ·rw [uO]; unfold eX; split; exact zy ..; exact z
theorem LB (s:aj) (k a b c v:Int):Er (a7 s k a b c v).2.2:=by
 unfold a7;split
 ·simp [Er]
 rename_i h;split
 ·exact jy s
 ·exact LC _ _ _ _ _ _ (oY h)
theorem EP {s:aj} {k a b c v:Int} (e:(a7 s k a b c v).2.2=0):(a7 s k a b c v).1.2.1.length=s.2.1.length:=by
 unfold a7 at e ⊢;split at e
 ·simp at e
 rename_i h1;rw [if_neg h1];split at e
 ·rename_i h2; exact absurd e h2
 rename_i h2;rw [if_neg h2];have hk:=oY h1;have hk:k=1\/k=2\/k=3\/k=4\/k=5\/k=6\/k=7\/k=8\/k=9\/k=10\/k=11\/k=12\/k=13:=by omega
 clear h1;rcases hk with rfl | rfl | rfl | rfl | rfl | rfl | rfl | rfl | rfl | rfl | rfl | rfl | rfl
 ·rw [xD] at e ⊢;simp only at e ⊢;unfold a8 iD iG at e ⊢
  repeat' split
  all_goals simp_all
 ·rw [CM]; simp [cZ,iG]
 ·rw [CL] at e ⊢;unfold kh at e ⊢
  repeat' split
  all_goals simp_all
 ·rw [CK] at e ⊢;unfold kc at e ⊢
  repeat' split
  all_goals simp_all
 ·rw [xC] at e ⊢
  repeat' split
  all_goals simp_all
 ·rw [xB] at e ⊢;unfold jp at e ⊢
  repeat' split
  all_goals simp_all
 ·rw [CJ] at e ⊢;unfold ix at e ⊢
  repeat' split
  all_goals simp_all
 ·rw [CI] at e ⊢;unfold cP at e ⊢
  repeat' split
  all_goals simp_all
 ·rw [CH] at e ⊢
  repeat' split
  all_goals simp_all
 ·rw [uR] at e ⊢;unfold fh at e ⊢
  repeat' split
  all_goals simp_all
 ·rw [uQ] at e ⊢;unfold jl at e ⊢
  repeat' split
  all_goals simp_all
 ·rw [uP] at e ⊢;unfold fo at e ⊢
  repeat' split
  all_goals simp_all
 ·rw [uO] at e ⊢;unfold eX at e ⊢
  repeat' split
  all_goals simp_all
theorem HC {w r h:Int} (e:(ar w r h).2=0):(ar w r h).1.2.1.length<=32:=by
 unfold ar at e ⊢
 repeat' split
 all_goals simp_all
end
end Go.Proofs.YtmfileeamnfpaaaGreatDoor
