import Derived.Test.YtglchojglcobjaaGreatDoorM3
import Derived.WalkKit
import Derived.ProofKit
import Derived.Deep.Slices
import Derived.SizedLaws
import GoSem.ClaimLeaving
import Derived.Test.YtglchojglcobjaaGreatDoorTie
import Derived.Test.YtglchojglcobjaaGreatDoorCards
import Derived.LaidMore
import Derived.OpenShut
import Derived.ChangeArms
namespace Go.Proofs.YtglchojglcobjaaGreatDoor
section
open Go
set_option maxRecDepth 100000
set_option maxHeartbeats 1000000
def zQ:Nat→Option LoopGen
 | 5000004=>some { rd:=[.box 1 aH],A:=fun (s:ap)=>{ cs:=[.own 9 3 ty_I,.own 10 3 ty_I],inv:=fun ((ra,ha):List Int×List Int)=>ra=List.replicate s.1.length 0∧ha=List.replicate 256 0,mu:=fun _=>0 } }
 | 6=>some { wr:=[9,10],rd:=[.box 1 aH],A:=fun (s:ap)=>{ cs:=[.own 9 3 ty_I,.own 10 3 ty_I,.dat 42 ty_I],inv:=fun ((ra,ha,i):List Int×List Int×Int)=>0≤i∧i≤(an s).length∧ra=b8 (List.replicate s.1.length 0) ((an s).take i.toNat) (kw s)∧ha=b8 (List.replicate 256 0) ((an s).take i.toNat) (kw s),mu:=fun ((_,_,i):List Int×List Int×Int)=>((an s).length - i).toNat } }
 | 15=>some { rd:=[.own 86 129 ft],A:=fun (g:List bW)=>{ cs:=[.dat 13 ty_I,.dat 88 ty_I],inv:=fun ((n,i):Int×Int)=>0≤i∧i≤g.length∧g.length≤256∧(∀ r∈g,0≤r.2∧r.2≤256)∧n=eo (g.take i.toNat)∧0≤n∧n≤256 * i,mu:=fun ((_,i):Int×Int)=>(g.length - i).toNat } }
 | _=>none
def yp:Spec:={ Ts:=[aH],Rs:=[.dat aH,.dat ty_I],al:=true,pre:=fun (s:ap)=>aG s=0,F:=dZ }
def og:Prop :=
  ∀ (x:List Int×List Int×List (Int×Int)×List (Int×Bool×Int)),((x.1.length * 8≤aA∧∀ (x_1:Int),x_1∈x.1→ak .u64 x_1)∧(x.2.1.length * 8≤aA∧∀ (x_1:Int),x_1∈x.2.1→ak .i64 x_1)∧(x.2.2.1.length * (8+8)≤aA∧∀ (x_1:Int×Int),x_1∈x.2.2.1→ak .i64 x_1.1∧ak .i64 x_1.2)∧x.2.2.2.length * (8+(8+8))≤aA∧∀ (x_1:Int×Bool×Int),x_1∈x.2.2.2→ak .i64 x_1.1∧True∧ak .i64 x_1.2.2)→aG x=0→(x.2.1.length≤32∧x.2.2.1.length≤16∧x.2.2.2.length≤16)∧True∧((an x).length+(List.map (fun (x:bk)=>x.1) x.2.2.1).length) * 8≤140737488355328∧True∧((((0≤(↑x.1.length:Int)∧(↑x.1.length:Int).toNat * 8≤aA∧((0:Int)≤256∧Int.toNat 256 * 8≤aA∧((List.replicate (↑x.1.length:Int).toNat (0:Int)=List.replicate x.1.length (0:Int)∧List.replicate (Int.toNat 256) (0:Int)=List.replicate 256 (0:Int))∧True)∧True)∧(((0:Int)≤256∧Int.toNat 256 * 8≤aA∧(List.replicate (↑x.1.length:Int).toNat (0:Int)=List.replicate x.1.length (0:Int)∧List.replicate (Int.toNat 256) (0:Int)=List.replicate 256 (0:Int))∧True)∧True)∧True)∧((0:Int)≤256∧Int.toNat 256 * 8≤aA∧(0≤(↑x.1.length:Int)∧(↑x.1.length:Int).toNat * 8≤aA∧((List.replicate (↑x.1.length:Int).toNat (0:Int)=List.replicate x.1.length (0:Int)∧List.replicate (Int.toNat 256) (0:Int)=List.replicate 256 (0:Int))∧True)∧True)∧True)∧True)∧((0:Int)≤256∧Int.toNat 256 * 8≤aA∧((0≤(↑x.1.length:Int)∧(↑x.1.length:Int).toNat * 8≤aA∧((List.replicate (↑x.1.length:Int).toNat (0:Int)=List.replicate x.1.length (0:Int)∧List.replicate (Int.toNat 256) (0:Int)=List.replicate 256 (0:Int))∧True)∧True)∧True)∧True)∧True)∧((0:Int)≤256∧Int.toNat 256 * 8≤aA∧(((0≤(↑x.1.length:Int)∧(↑x.1.length:Int).toNat * 8≤aA∧((List.replicate (↑x.1.length:Int).toNat (0:Int)=List.replicate x.1.length (0:Int)∧List.replicate (Int.toNat 256) (0:Int)=List.replicate 256 (0:Int))∧True)∧True)∧True)∧True)∧True)∧True)∧∀ (x_1:List Int×List Int),x_1.1=List.replicate x.1.length (0:Int)∧x_1.2=List.replicate 256 (0:Int)→((0:Int)≤0∧0≤(↑(an x).length:Int)∧x_1.1=b8 (List.replicate x.1.length (0:Int)) (List.take (Int.toNat 0) (an x)) (kw x)∧x_1.2=b8 (List.replicate 256 (0:Int)) (List.take (Int.toNat 0) (an x)) (kw x))∧∀ (x_2:List Int×List Int×Int),0≤x_2.2.2∧x_2.2.2≤(↑(an x).length:Int)∧x_2.1=b8 (List.replicate x.1.length (0:Int)) (List.take x_2.2.2.toNat (an x)) (kw x)∧x_2.2.1=b8 (List.replicate 256 (0:Int)) (List.take x_2.2.2.toNat (an x)) (kw x)→(decide (x_2.2.2<(↑(an x).length:Int))=true→0≤x_2.2.2∧x_2.2.2<(↑(an x).length:Int)∧x_2.2.2.toNat<(an x).length∧0≤x_2.2.2∧x_2.2.2<(↑(aw x.1 (an x) (List.map (fun (x:bk)=>x.1) x.2.2.1)).2.1.length:Int)∧0≤x_2.2.2∧x_2.2.2<(↑(aw x.1 (an x) (List.map (fun (x:bk)=>x.1) x.2.2.1)).2.1.length:Int)∧0≤(an x).getD x_2.2.2.toNat 0∧(an x).getD x_2.2.2.toNat 0<(↑x_2.1.length:Int)∧((an x).getD x_2.2.2.toNat 0).toNat<x_2.1.length∧(an x).getD x_2.2.2.toNat 0=(an x).getD x_2.2.2.toNat 0∧0≤(an x).getD x_2.2.2.toNat 0∧(an x).getD x_2.2.2.toNat 0<(↑x_2.2.1.length:Int)∧((an x).getD x_2.2.2.toNat 0).toNat<x_2.2.1.length∧ak .i64 (x_2.2.2+1)∧(0≤x_2.2.2+1∧x_2.2.2+1≤(↑(an x).length:Int)∧x_2.1.set ((an x).getD x_2.2.2.toNat 0).toNat ((aw x.1 (an x) (List.map (fun (x:bk)=>x.1) x.2.2.1)).2.1.getD x_2.2.2.toNat 0)=b8 (List.replicate x.1.length (0:Int)) (List.take (x_2.2.2+1).toNat (an x)) (kw x)∧x_2.2.1.set ((an x).getD x_2.2.2.toNat 0).toNat ((aw x.1 (an x) (List.map (fun (x:bk)=>x.1) x.2.2.1)).2.1.getD x_2.2.2.toNat 0)=b8 (List.replicate 256 (0:Int)) (List.take (x_2.2.2+1).toNat (an x)) (kw x))∧((↑(an x).length:Int) - (x_2.2.2+1)).toNat<((↑(an x).length:Int) - x_2.2.2).toNat)∧(decide (x_2.2.2<(↑(an x).length:Int))=false→True∧True∧True∧((0:Int)≤0∧0≤(↑(ax (aw x.1 (an x) (List.map (fun (x:bk)=>x.1) x.2.2.1)).1).1.length:Int)∧(ax (aw x.1 (an x) (List.map (fun (x:bk)=>x.1) x.2.2.1)).1).1.length≤256∧(∀ (r:bW),r∈(ax (aw x.1 (an x) (List.map (fun (x:bk)=>x.1) x.2.2.1)).1).1→0≤r.2∧r.2≤256)∧0=eo (List.take (Int.toNat 0) (ax (aw x.1 (an x) (List.map (fun (x:bk)=>x.1) x.2.2.1)).1).1)∧(0:Int)≤0∧(0:Int)≤256 * 0)∧∀ (x_3:Int×Int),0≤x_3.2∧x_3.2≤(↑(ax (aw x.1 (an x) (List.map (fun (x:bk)=>x.1) x.2.2.1)).1).1.length:Int)∧(ax (aw x.1 (an x) (List.map (fun (x:bk)=>x.1) x.2.2.1)).1).1.length≤256∧(∀ (r:bW),r∈(ax (aw x.1 (an x) (List.map (fun (x:bk)=>x.1) x.2.2.1)).1).1→0≤r.2∧r.2≤256)∧x_3.1=eo (List.take x_3.2.toNat (ax (aw x.1 (an x) (List.map (fun (x:bk)=>x.1) x.2.2.1)).1).1)∧0≤x_3.1∧x_3.1≤256 * x_3.2→(decide (x_3.2<(↑(ax (aw x.1 (an x) (List.map (fun (x:bk)=>x.1) x.2.2.1)).1).1.length:Int))=true→0≤x_3.2∧x_3.2<(↑(ax (aw x.1 (an x) (List.map (fun (x:bk)=>x.1) x.2.2.1)).1).1.length:Int)∧x_3.2.toNat<(ax (aw x.1 (an x) (List.map (fun (x:bk)=>x.1) x.2.2.1)).1).1.length∧ak .i64 (x_3.1+((ax (aw x.1 (an x) (List.map (fun (x:bk)=>x.1) x.2.2.1)).1).1.getD x_3.2.toNat (0,0)).2)∧ak .i64 (x_3.2+1)∧(0≤x_3.2+1∧x_3.2+1≤(↑(ax (aw x.1 (an x) (List.map (fun (x:bk)=>x.1) x.2.2.1)).1).1.length:Int)∧(ax (aw x.1 (an x) (List.map (fun (x:bk)=>x.1) x.2.2.1)).1).1.length≤256∧(∀ (r:bW),r∈(ax (aw x.1 (an x) (List.map (fun (x:bk)=>x.1) x.2.2.1)).1).1→0≤r.2∧r.2≤256)∧x_3.1+((ax (aw x.1 (an x) (List.map (fun (x:bk)=>x.1) x.2.2.1)).1).1.getD x_3.2.toNat (0,0)).2=eo (List.take (x_3.2+1).toNat (ax (aw x.1 (an x) (List.map (fun (x:bk)=>x.1) x.2.2.1)).1).1)∧0≤x_3.1+((ax (aw x.1 (an x) (List.map (fun (x:bk)=>x.1) x.2.2.1)).1).1.getD x_3.2.toNat (0,0)).2∧x_3.1+((ax (aw x.1 (an x) (List.map (fun (x:bk)=>x.1) x.2.2.1)).1).1.getD x_3.2.toNat (0,0)).2≤256 * (x_3.2+1))∧((↑(ax (aw x.1 (an x) (List.map (fun (x:bk)=>x.1) x.2.2.1)).1).1.length:Int) - (x_3.2+1)).toNat<((↑(ax (aw x.1 (an x) (List.map (fun (x:bk)=>x.1) x.2.2.1)).1).1.length:Int) - x_3.2).toNat)∧(decide (x_3.2<(↑(ax (aw x.1 (an x) (List.map (fun (x:bk)=>x.1) x.2.2.1)).1).1.length:Int))=false→((aw x.1 (an x) (List.map (fun (x:bk)=>x.1) x.2.2.1)).1,(bB x.2.1 (↑x.1.length:Int) x_2.1).1,x.2.2.1,(fU x.2.2.2 x_2.2.1).1)=(dZ x).1∧x_3.1=(dZ x).2∧True))
theorem uT:og:=by
 unfold og;intro s ⟨⟨hb,hw⟩,_⟩ hs;have R:=iq hw hs;have hcl:aw s.1 (an s) (List.map (fun (x:bk)=>x.1) s.2.2.1)=(cU s,(an s).map (kw s),0):=R.clean;obtain ⟨hgf,hgi,hgl⟩:=R.gaps;have hfl:=R.fromLen;have hsm:=R.small;have hal:=R.al;have hF:dZ s=(bc s,eo (aU false [] (aa (cU s)).1)):=rfl;have hfm:=fun x=>gD (s:=s) R.root (x:=x)
 have hsr:=R.swapRoots;have hsh:=R.swapHands;rw [hF,hcl];simp only;rw [hgf];simp only;generalize aU false [] (aa (cU s)).1=g at *;unfold aA at hb ⊢;refine ⟨hsm,trivial,by rw [List.length_map]; omega,trivial,?_,fun ⟨ra,ha⟩ ⟨q1,q2⟩=>?_⟩
 ·have e1:((s.1.length:Int)).toNat=s.1.length:=by omega
  have e2:Int.toNat 256=256:=rfl;have e3:(0:Int)≤(s.1.length:Int):=by omega
  simp only [e1,e2,e3,hb,true_and,and_true];omega
 simp only at q1 q2;subst q1 q2;refine ⟨⟨by omega,by omega,by simp [b8],by simp [b8]⟩,fun ⟨ra,ha,i⟩ ⟨i0,i1,i2,i3⟩=>⟨fun hlt=>?_,fun hge=>?_⟩⟩
 ·simp only at i0 i1 i2 i3 hlt ⊢;have hlt:=of_decide_eq_true hlt;have ht:=bt (0:Int) i0 hlt;have hx:=R.nameIn ((hfm _).1 (aI (0:Int) i0 hlt));have hm:(List.map (kw s) (an s)).getD i.toNat 0=kw s ((an s).getD i.toNat 0):=BZ i0 hlt;have l1:ra.length=s.1.length:=by rw [i2,d7,List.length_replicate]
  have l2:ha.length=256:=by rw [i3,d7,List.length_replicate]
  rw [hm,ht,jD,jD,← i2,← i3,l1,l2,List.length_map];generalize (an s).getD i.toNat 0=x at *;simp only [ak];exact ⟨i0,hlt,by omega,i0,hlt,i0,hlt,hx.1,hx.2,by omega,by first | trivial | rfl,hx.1,by omega,by omega,by omega,⟨by omega,by omega,by trivial,by trivial⟩,by omega⟩
 ·simp only at i0 i1 i2 i3 hge ⊢;have hge:=of_decide_eq_false hge;rw [bN hge] at i2 i3;refine ⟨trivial,trivial,trivial,⟨by omega,by omega,hgl,fun r hr=>by have:=hgi r hr; omega,by trivial,by omega,by omega⟩,fun ⟨n,j⟩ ⟨j0,j1,_,_,j2,j3,j4⟩=>⟨fun hlt=>?_,fun hge=>?_⟩⟩
  ·simp only at j0 j1 j2 j3 j4 hlt ⊢;have hlt:=of_decide_eq_true hlt;have hm:=hgi _ (aI ((0,0):bW) j0 hlt);rw [py j0 hlt,← j2];generalize (g.getD j.toNat (0,0)).2=y at *;simp only [ak];exact ⟨j0,hlt,by omega,by omega,by omega,⟨by omega,by omega,hgl,fun r hr=>by have:=hgi r hr; omega,by trivial,by omega,by omega⟩,by omega⟩
  ·simp only at j0 j1 j2 hge ⊢;rw [bN (of_decide_eq_false hge)] at j2;rw [i2,i3,hsr,hsh];exact ⟨rfl,j2,trivial⟩
theorem y3:yp.ok Tryz.prog 58:=aD (ann:=zQ) (ae pN (ae jH (ae BU (ae ch (ae rl (ae rp (ae rt aq))))))) Tryz.func58 (by kernel_rfl) uT
def ci (s:ap):ap×Int×Int:=if aG s≠0 then (aP,0,aG s) else ((dZ s).1,(dZ s).2,0)
def vu:Spec:={ Ts:=[aH],Rs:=[.dat aH,.dat ty_I,.dat ty_I],al:=true,pre:=fun _=>True,F:=ci }
def mH:Prop :=
  ∀ (x:List Int×List Int×List (Int×Int)×List (Int×Bool×Int)),((x.1.length * 8≤aA∧∀ (x_1:Int),x_1∈x.1→ak .u64 x_1)∧(x.2.1.length * 8≤aA∧∀ (x_1:Int),x_1∈x.2.1→ak .i64 x_1)∧(x.2.2.1.length * (8+8)≤aA∧∀ (x_1:Int×Int),x_1∈x.2.2.1→ak .i64 x_1.1∧ak .i64 x_1.2)∧x.2.2.2.length * (8+(8+8))≤aA∧∀ (x_1:Int×Bool×Int),x_1∈x.2.2.2→ak .i64 x_1.1∧True∧ak .i64 x_1.2.2)→True→True∧(decide (aG x≠0)=true→(([]:List Int),([]:List Int),([]:List (Int×Int)),([]:List (Int×Bool×Int)))=(ci x).1∧0=(ci x).2.1∧aG x=(ci x).2.2∧True)∧(decide (aG x≠0)=false→aG x=0∧(dZ x).1=(ci x).1∧(dZ x).2=(ci x).2.1∧0=(ci x).2.2∧True)
theorem sk:mH:=by
 unfold mH;intro s hx hs;refine ⟨trivial,fun h=>?_,fun h=>?_⟩
 ·unfold ci;rw [if_pos (of_decide_eq_true h)];exact ⟨by trivial,by trivial,by trivial,trivial⟩
 ·have h:=of_decide_eq_false h;unfold ci;rw [if_neg h];exact ⟨by omega,rfl,rfl,rfl,trivial⟩
theorem vL:vu.ok Tryz.prog 15:=aD (ann:=cp) (ae gk (ae y3 aq)) Tryz.func15 (by kernel_rfl) sk
def bL (s:ap) (k:Int):Int:=if aG s≠0 then aG s else if k<0∨(s.2.1.length:Int)≤k∨s.2.1.getD k.toNat 0<0 then 5 else 0
def az (s:ap) (k:Int):Int:=s.2.1.getD k.toNat 0
def bg (s:ap) (k:Int):Int×Obj×Int:=if bL s k≠0 then (0,ie,bL s k) else (az s k,(db s.1 (az s k)).1,0)
def CA:Nat→Option LoopGen
 | 4000006=>some fe
 | _=>none
def AE:Spec:={ Ts:=[aH,ty_I],Rs:=[.dat ty_I,.dat Dl,.dat ty_I],al:=true,pre:=fun _=>True,F:=fun ((s,k):ap×Int)=>bg s k }
def qF:Prop :=
  ∀ (x:(List Int×List Int×List (Int×Int)×List (Int×Bool×Int))×Int),((x.1.1.length * 8≤aA∧∀ (x_1:Int),x_1∈x.1.1→ak .u64 x_1)∧(x.1.2.1.length * 8≤aA∧∀ (x_1:Int),x_1∈x.1.2.1→ak .i64 x_1)∧(x.1.2.2.1.length * (8+8)≤aA∧∀ (x_1:Int×Int),x_1∈x.1.2.2.1→ak .i64 x_1.1∧ak .i64 x_1.2)∧x.1.2.2.2.length * (8+(8+8))≤aA∧∀ (x_1:Int×Bool×Int),x_1∈x.1.2.2.2→ak .i64 x_1.1∧True∧ak .i64 x_1.2.2)∧ak .i64 x.2→True→True∧(decide (aG x.1≠0)=true→0=(bg x.1 x.2).1∧(0,([]:List Int),([]:List Int),false)=(bg x.1 x.2).2.1∧aG x.1=(bg x.1 x.2).2.2∧True)∧(decide (aG x.1≠0)=false→((decide (x.2<0)||decide ((↑x.1.2.1.length:Int)≤x.2))=false→0≤x.2)∧((decide (x.2<0)||decide ((↑x.1.2.1.length:Int)≤x.2))=false→x.2<(↑x.1.2.1.length:Int))∧((decide (x.2<0)||decide ((↑x.1.2.1.length:Int)≤x.2)||decide (x.1.2.1.getD x.2.toNat (0:Int)<0))=true→0=(bg x.1 x.2).1∧(0,([]:List Int),([]:List Int),false)=(bg x.1 x.2).2.1∧5=(bg x.1 x.2).2.2∧True)∧((decide (x.2<0)||decide ((↑x.1.2.1.length:Int)≤x.2)||decide (x.1.2.1.getD x.2.toNat (0:Int)<0))=false→0≤x.2∧x.2<(↑x.1.2.1.length:Int)∧True∧x.1.1=x.1.1∧x.1.2.1=x.1.2.1∧x.2=x.2∧0≤x.2∧x.2<(↑x.1.2.1.length:Int)∧x.1.2.1.getD x.2.toNat 0=x.1.2.1.getD x.2.toNat 0∧x.1.2.1.getD x.2.toNat 0=x.1.2.1.getD x.2.toNat 0∧True∧(db x.1.1 (x.1.2.1.getD x.2.toNat 0)).1.1=(db x.1.1 (x.1.2.1.getD x.2.toNat 0)).1.1∧(db x.1.1 (x.1.2.1.getD x.2.toNat 0)).1.2.1=(db x.1.1 (x.1.2.1.getD x.2.toNat 0)).1.2.1∧(db x.1.1 (x.1.2.1.getD x.2.toNat 0)).1.2.2.1=(db x.1.1 (x.1.2.1.getD x.2.toNat 0)).1.2.2.1∧(db x.1.1 (x.1.2.1.getD x.2.toNat 0)).1.2.2.2=(db x.1.1 (x.1.2.1.getD x.2.toNat 0)).1.2.2.2∧(db x.1.1 (x.1.2.1.getD x.2.toNat 0)).2=(db x.1.1 (x.1.2.1.getD x.2.toNat 0)).2∧(db x.1.1 (x.1.2.1.getD x.2.toNat 0)).1.1=(db x.1.1 (x.1.2.1.getD x.2.toNat 0)).1.1∧(db x.1.1 (x.1.2.1.getD x.2.toNat 0)).1.2.1=(db x.1.1 (x.1.2.1.getD x.2.toNat 0)).1.2.1∧(db x.1.1 (x.1.2.1.getD x.2.toNat 0)).1.2.2.1=(db x.1.1 (x.1.2.1.getD x.2.toNat 0)).1.2.2.1∧(db x.1.1 (x.1.2.1.getD x.2.toNat 0)).1.2.2.2=(db x.1.1 (x.1.2.1.getD x.2.toNat 0)).1.2.2.2∧(db x.1.1 (x.1.2.1.getD x.2.toNat 0)).2=(db x.1.1 (x.1.2.1.getD x.2.toNat 0)).2∧(db x.1.1 (x.1.2.1.getD x.2.toNat 0)).1.1=(db x.1.1 (x.1.2.1.getD x.2.toNat 0)).1.1∧(db x.1.1 (x.1.2.1.getD x.2.toNat 0)).1.2.1=(db x.1.1 (x.1.2.1.getD x.2.toNat 0)).1.2.1∧(db x.1.1 (x.1.2.1.getD x.2.toNat 0)).1.2.2.1=(db x.1.1 (x.1.2.1.getD x.2.toNat 0)).1.2.2.1∧(db x.1.1 (x.1.2.1.getD x.2.toNat 0)).1.2.2.2=(db x.1.1 (x.1.2.1.getD x.2.toNat 0)).1.2.2.2∧(db x.1.1 (x.1.2.1.getD x.2.toNat 0)).2=(db x.1.1 (x.1.2.1.getD x.2.toNat 0)).2∧(db x.1.1 (x.1.2.1.getD x.2.toNat 0)).2=(db x.1.1 (x.1.2.1.getD x.2.toNat 0)).2∧0≤x.2∧x.2<(↑x.1.2.1.length:Int)∧(db x.1.1 (x.1.2.1.getD x.2.toNat 0)).1.1=(db x.1.1 (x.1.2.1.getD x.2.toNat 0)).1.1∧(db x.1.1 (x.1.2.1.getD x.2.toNat 0)).1.2.1=(db x.1.1 (x.1.2.1.getD x.2.toNat 0)).1.2.1∧(db x.1.1 (x.1.2.1.getD x.2.toNat 0)).1.2.2.1=(db x.1.1 (x.1.2.1.getD x.2.toNat 0)).1.2.2.1∧(db x.1.1 (x.1.2.1.getD x.2.toNat 0)).1.2.2.2=(db x.1.1 (x.1.2.1.getD x.2.toNat 0)).1.2.2.2∧(db x.1.1 (x.1.2.1.getD x.2.toNat 0)).2=(db x.1.1 (x.1.2.1.getD x.2.toNat 0)).2∧(db x.1.1 (x.1.2.1.getD x.2.toNat 0)).2=(db x.1.1 (x.1.2.1.getD x.2.toNat 0)).2∧x.1.2.1.getD x.2.toNat 0=(bg x.1 x.2).1∧(db x.1.1 (x.1.2.1.getD x.2.toNat 0)).1=(bg x.1 x.2).2.1∧(db x.1.1 (x.1.2.1.getD x.2.toNat 0)).2=(bg x.1 x.2).2.2∧True))
theorem xM:qF:=by
 unfold qF;intro ⟨s,k⟩ ⟨⟨⟨hb,hw⟩,_⟩,_⟩ _;simp only at hb hw ⊢;have hO:bg s k=if bL s k≠0 then (0,ie,bL s k) else (az s k,(db s.1 (az s k)).1,0):=rfl
 have hE:bL s k=if aG s≠0 then aG s else if k<0∨(s.2.1.length:Int)≤k∨s.2.1.getD k.toNat 0<0 then 5 else 0:=rfl
 refine ⟨trivial,fun h=>?_,fun h=>⟨fun h1=>?_,fun h1=>?_,fun h1=>?_,fun h1=>?_⟩⟩
 ·rw [if_pos (of_decide_eq_true h)] at hE;rw [hO,hE,if_pos (of_decide_eq_true h)];exact ⟨by trivial,by trivial,by trivial,trivial⟩
 ·simp at h1; omega
 ·simp at h1; omega
 ·rw [if_neg (of_decide_eq_false h),if_pos (by simpa [or_assoc,and_assoc] using h1)] at hE;rw [hO,hE,if_pos (by omega)];exact ⟨by trivial,by trivial,by trivial,trivial⟩
 ·have hs:aG s=0:=by simpa using of_decide_eq_false h
  have h1:¬ (k<0∨(s.2.1.length:Int)≤k∨s.2.1.getD k.toNat 0<0):=by simpa [or_assoc,and_assoc] using h1
  rw [if_neg (by omega),if_neg h1] at hE;have R:=iq hw hs;have O:=R.obj (R.rootNam (k:=k) (by omega) (by omega) (by omega));have hz:(db s.1 (s.2.1.getD k.toNat 0)).2=0:=by rw [O.at_]
  rw [hO,hE,if_neg (by omega),hz];simp only [and_true,true_and,az];omega
theorem jI:AE.ok Tryz.prog 61:=aD (ann:=CA) (ae gk (ae mm aq)) Tryz.func61 (by kernel_rfl) xM
theorem tP {s:ap} {k:Int} (hw:∀ x∈s.1,ak .u64 x) (h:bL s k=0):Right s∧0≤k∧k<s.2.1.length∧ObjAt s (az s k):=by
 unfold bL at h;split at h
 ·omega
 rename_i h0;split at h
 ·omega
 rename_i h1;have R:=iq hw (by omega:aG s=0);exact ⟨R,by omega,by omega,R.obj (R.rootNam (k:=k) (by omega) (by omega) (by omega))⟩
def bG (s:ap) (slot k other:Int):Int:=if bL s slot≠0 then bL s slot else if k<0∨(dp s.1 (az s slot)).1≤k then 4 else if other<0∨(s.2.1.length:Int)≤other then 5 else 0
def H1:Spec:={ Ts:=[aH,ty_I,ty_I,ty_I],Rs:=[.dat ty_I,.dat ty_I],pre:=fun _=>True,F:=fun ((s,slot,k,other):ap×Int×Int×Int)=>((if bG s slot k other≠0 then 0 else az s slot+1+k,bG s slot k other):Int×Int) }
def Bh:Prop :=
  ∀ (x:(List Int×List Int×List (Int×Int)×List (Int×Bool×Int))×Int×Int×Int),((x.1.1.length * 8≤aA∧∀ (x_1:Int),x_1∈x.1.1→ak .u64 x_1)∧(x.1.2.1.length * 8≤aA∧∀ (x_1:Int),x_1∈x.1.2.1→ak .i64 x_1)∧(x.1.2.2.1.length * (8+8)≤aA∧∀ (x_1:Int×Int),x_1∈x.1.2.2.1→ak .i64 x_1.1∧ak .i64 x_1.2)∧x.1.2.2.2.length * (8+(8+8))≤aA∧∀ (x_1:Int×Bool×Int),x_1∈x.1.2.2.2→ak .i64 x_1.1∧True∧ak .i64 x_1.2.2)∧ak .i64 x.2.1∧ak .i64 x.2.2.1∧ak .i64 x.2.2.2→True→True∧(decide ((bg x.1 x.2.1).2.2≠0)=true→((0:Int)=if bG x.1 x.2.1 x.2.2.1 x.2.2.2≠0 then (0:Int) else az x.1 x.2.1+1+x.2.2.1)∧(bg x.1 x.2.1).2.2=bG x.1 x.2.1 x.2.2.1 x.2.2.2∧True)∧(decide ((bg x.1 x.2.1).2.2≠0)=false→((decide (x.2.2.1<0)||decide ((↑(bg x.1 x.2.1).2.1.2.1.length:Int)≤x.2.2.1))=true→((0:Int)=if bG x.1 x.2.1 x.2.2.1 x.2.2.2≠0 then (0:Int) else az x.1 x.2.1+1+x.2.2.1)∧4=bG x.1 x.2.1 x.2.2.1 x.2.2.2∧True)∧((decide (x.2.2.1<0)||decide ((↑(bg x.1 x.2.1).2.1.2.1.length:Int)≤x.2.2.1))=false→((decide (x.2.2.2<0)||decide ((↑x.1.2.1.length:Int)≤x.2.2.2))=true→((0:Int)=if bG x.1 x.2.1 x.2.2.1 x.2.2.2≠0 then (0:Int) else az x.1 x.2.1+1+x.2.2.1)∧5=bG x.1 x.2.1 x.2.2.1 x.2.2.2∧True)∧((decide (x.2.2.2<0)||decide ((↑x.1.2.1.length:Int)≤x.2.2.2))=false→ak .i64 ((bg x.1 x.2.1).1+1)∧ak .i64 ((bg x.1 x.2.1).1+1+x.2.2.1)∧((bg x.1 x.2.1).1+1+x.2.2.1=if bG x.1 x.2.1 x.2.2.1 x.2.2.2≠0 then (0:Int) else az x.1 x.2.1+1+x.2.2.1)∧0=bG x.1 x.2.1 x.2.2.1 x.2.2.2∧True)))
theorem FJ:Bh:=by
 unfold Bh;intro ⟨s,slot,k,other⟩ ⟨⟨⟨hb,hw⟩,_⟩,_⟩ _;simp only at hb hw ⊢;have hR:bG s slot k other=if bL s slot≠0 then bL s slot else if k<0∨(dp s.1 (az s slot)).1≤k then 4 else if other<0∨(s.2.1.length:Int)≤other then 5 else 0:=rfl
 have hO:bg s slot=if bL s slot≠0 then (0,ie,bL s slot) else (az s slot,(db s.1 (az s slot)).1,0):=rfl
 by_cases h0:bL s slot≠0
 ·rw [if_pos h0] at hR hO;rw [hO,hR];simp only;refine ⟨trivial,fun _=>?_,fun h=>absurd h0 (of_decide_eq_false h)⟩;rw [if_pos h0];exact ⟨by trivial,by trivial,trivial⟩
 ·obtain ⟨R,_,_,O⟩:=tP hw (by omega:bL s slot=0);have hal:=R.al;rw [if_neg h0] at hR hO;rw [hO];simp only;rw [O.refs];have:=O.x0;have:=O.r0;have:=O.b0;have:=O.fit;refine ⟨trivial,fun h=>absurd rfl (of_decide_eq_true h),fun _=>⟨fun h1=>?_,fun h1=>⟨fun h2=>?_,fun h2=>?_⟩⟩⟩
  ·rw [if_pos (by simpa using h1)] at hR;rw [hR];exact ⟨by trivial,by trivial,trivial⟩
  ·have h1:¬ (k<0∨(dp s.1 (az s slot)).1≤k):=by simpa using h1
   rw [if_neg h1,if_pos (by simpa using h2)] at hR;rw [hR];exact ⟨by trivial,by trivial,trivial⟩
  ·have h1:¬ (k<0∨(dp s.1 (az s slot)).1≤k):=by simpa using h1
   have h2:¬ (other<0∨(s.2.1.length:Int)≤other):=by simpa using h2
   rw [if_neg h1,if_neg h2] at hR;rw [hR];simp only [ak];exact ⟨by omega,by omega,by simp,by trivial,trivial⟩
theorem BD:H1.ok Tryz.prog 59:=aD (ann:=cp) (ae jI aq) Tryz.func59 (by kernel_rfl) FJ
theorem It {s:ap} {slot k other:Int} (hw:∀ x∈s.1,ak .u64 x) (h:bG s slot k other=0):Right s∧ObjAt s (az s slot)∧0≤k∧k<(dp s.1 (az s slot)).1∧0≤other∧other<s.2.1.length:=by
 unfold bG at h;split at h
 ·omega
 rename_i h0;split at h
 ·omega
 split at h
 ·omega
 obtain ⟨R,_,_,O⟩:=tP hw (by omega:bL s slot=0);exact ⟨R,O,by omega,by omega,by omega,by omega⟩
def fO:Nat→Option LoopGen
 | 3000056=>some fe
 | 5704000001=>some fe
 | _=>none
def jS (s:ap) (slot k into:Int):ap×Int:=if bG s slot k into≠0 then (aP,bG s slot k into) else ((s.1,s.2.1.set into.toNat (s.1.getD (az s slot+1+k).toNat 0 - 1),s.2.2),0)
def Gc:Spec:={ Ts:=[aH,ty_I,ty_I,ty_I],Rs:=[.dat aH,.dat ty_I],al:=true,pre:=fun _=>True,F:=fun ((s,slot,k,into):ap×Int×Int×Int)=>jS s slot k into }
def wG:Prop :=
  ∀ (x:(List Int×List Int×List (Int×Int)×List (Int×Bool×Int))×Int×Int×Int),((x.1.1.length * 8≤aA∧∀ (x_1:Int),x_1∈x.1.1→ak .u64 x_1)∧(x.1.2.1.length * 8≤aA∧∀ (x_1:Int),x_1∈x.1.2.1→ak .i64 x_1)∧(x.1.2.2.1.length * (8+8)≤aA∧∀ (x_1:Int×Int),x_1∈x.1.2.2.1→ak .i64 x_1.1∧ak .i64 x_1.2)∧x.1.2.2.2.length * (8+(8+8))≤aA∧∀ (x_1:Int×Bool×Int),x_1∈x.1.2.2.2→ak .i64 x_1.1∧True∧ak .i64 x_1.2.2)∧ak .i64 x.2.1∧ak .i64 x.2.2.1∧ak .i64 x.2.2.2→True→True∧(decide (bG x.1 x.2.1 x.2.2.1 x.2.2.2≠0)=true→(([]:List Int),([]:List Int),([]:List (Int×Int)),([]:List (Int×Bool×Int)))=(jS x.1 x.2.1 x.2.2.1 x.2.2.2).1∧bG x.1 x.2.1 x.2.2.1 x.2.2.2=(jS x.1 x.2.1 x.2.2.1 x.2.2.2).2∧True)∧(decide (bG x.1 x.2.1 x.2.2.1 x.2.2.2≠0)=false→∀ (_:Array Value),True∧True∧True∧x.1.2.1=x.1.2.1∧x.1.2.2.1=x.1.2.2.1∧x.1.2.2.1=x.1.2.2.1∧x.1.2.2.2=x.1.2.2.2∧x.1.2.2.2=x.1.2.2.2∧x.1.2.2.2=x.1.2.2.2∧True∧(0≤if bG x.1 x.2.1 x.2.2.1 x.2.2.2≠0 then (0:Int) else az x.1 x.2.1+1+x.2.2.1)∧(if bG x.1 x.2.1 x.2.2.1 x.2.2.2≠0 then (0:Int) else az x.1 x.2.1+1+x.2.2.1)<(↑x.1.1.length:Int)∧(if bG x.1 x.2.1 x.2.2.1 x.2.2.2≠0 then (0:Int) else az x.1 x.2.1+1+x.2.2.1).toNat<x.1.1.length∧ak .i64 (IntKind.i64.wrap (x.1.1.getD (if bG x.1 x.2.1 x.2.2.1 x.2.2.2≠0 then (0:Int) else az x.1 x.2.1+1+x.2.2.1).toNat 0) - 1)∧0≤x.2.2.2∧x.2.2.2<(↑x.1.2.1.length:Int)∧x.2.2.2.toNat<x.1.2.1.length∧(x.1.1,x.1.2.1.set x.2.2.2.toNat (IntKind.i64.wrap (x.1.1.getD (if bG x.1 x.2.1 x.2.2.1 x.2.2.2≠0 then (0:Int) else az x.1 x.2.1+1+x.2.2.1).toNat 0) - 1),x.1.2.2)=(jS x.1 x.2.1 x.2.2.1 x.2.2.2).1∧0=(jS x.1 x.2.1 x.2.2.1 x.2.2.2).2∧True)
theorem CV:wG:=by
 unfold wG;intro ⟨s,slot,k,into⟩ ⟨⟨⟨hb,hw⟩,_⟩,_⟩ _;simp only at hb hw ⊢;have hF:jS s slot k into=if bG s slot k into≠0 then (aP,bG s slot k into) else ((s.1,s.2.1.set into.toNat (s.1.getD (az s slot+1+k).toNat 0 - 1),s.2.2),0):=rfl
 refine ⟨trivial,fun h=>?_,fun h tm=>⟨trivial,trivial,trivial,by trivial,by trivial,by trivial,by trivial,by trivial,by trivial,trivial,?_⟩⟩
 ·rw [hF,if_pos (of_decide_eq_true h)];exact ⟨by trivial,by trivial,trivial⟩
 ·have h0:=of_decide_eq_false h;obtain ⟨R,O,k0,k1,o0,o1⟩:=It hw (by omega:bG s slot k into=0);have hv:=R.refWord O.isb k0 k1;have:=O.x0;have:=O.b0;have:=O.fit;rw [hF,if_neg h0,if_neg h0];have hwr:IntKind.i64.wrap (s.1.getD (az s slot+1+k).toNat 0)=s.1.getD (az s slot+1+k).toNat 0:=jb (by omega) (by omega);rw [hwr];generalize s.1.getD (az s slot+1+k).toNat 0=v at *;simp only [ak];exact ⟨by omega,by omega,by omega,by omega,o0,o1,by omega,by trivial,by trivial,trivial⟩
theorem GO:Gc.ok Tryz.prog 17:=aD (ann:=fO) (ae BD (ae bX (ae cr (ae ch (ae bY aq))))) Tryz.func17 (by kernel_rfl) CV
def jQ (s:ap) (slot k other:Int):ap×Int:=if bG s slot k other≠0 then (aP,bG s slot k other) else ((s.1.set (az s slot+1+k).toNat (az s other+1),s.2),0)
def Gb:Spec:={ Ts:=[aH,ty_I,ty_I,ty_I],Rs:=[.dat aH,.dat ty_I],al:=true,pre:=fun _=>True,F:=fun ((s,slot,k,other):ap×Int×Int×Int)=>jQ s slot k other }
def wF:Prop :=
  ∀ (x:(List Int×List Int×List (Int×Int)×List (Int×Bool×Int))×Int×Int×Int),((x.1.1.length * 8≤aA∧∀ (x_1:Int),x_1∈x.1.1→ak .u64 x_1)∧(x.1.2.1.length * 8≤aA∧∀ (x_1:Int),x_1∈x.1.2.1→ak .i64 x_1)∧(x.1.2.2.1.length * (8+8)≤aA∧∀ (x_1:Int×Int),x_1∈x.1.2.2.1→ak .i64 x_1.1∧ak .i64 x_1.2)∧x.1.2.2.2.length * (8+(8+8))≤aA∧∀ (x_1:Int×Bool×Int),x_1∈x.1.2.2.2→ak .i64 x_1.1∧True∧ak .i64 x_1.2.2)∧ak .i64 x.2.1∧ak .i64 x.2.2.1∧ak .i64 x.2.2.2→True→True∧(decide (bG x.1 x.2.1 x.2.2.1 x.2.2.2≠0)=true→(([]:List Int),([]:List Int),([]:List (Int×Int)),([]:List (Int×Bool×Int)))=(jQ x.1 x.2.1 x.2.2.1 x.2.2.2).1∧bG x.1 x.2.1 x.2.2.1 x.2.2.2=(jQ x.1 x.2.1 x.2.2.1 x.2.2.2).2∧True)∧(decide (bG x.1 x.2.1 x.2.2.1 x.2.2.2≠0)=false→∀ (_:Array Value),True∧True∧True∧x.1.2.1=x.1.2.1∧x.1.2.2.1=x.1.2.2.1∧x.1.2.2.1=x.1.2.2.1∧x.1.2.2.2=x.1.2.2.2∧x.1.2.2.2=x.1.2.2.2∧x.1.2.2.2=x.1.2.2.2∧True∧0≤x.2.2.2∧x.2.2.2<(↑x.1.2.1.length:Int)∧x.2.2.2.toNat<x.1.2.1.length∧ak .i64 (x.1.2.1.getD x.2.2.2.toNat 0+1)∧(0≤if bG x.1 x.2.1 x.2.2.1 x.2.2.2≠0 then (0:Int) else az x.1 x.2.1+1+x.2.2.1)∧(if bG x.1 x.2.1 x.2.2.1 x.2.2.2≠0 then (0:Int) else az x.1 x.2.1+1+x.2.2.1)<(↑x.1.1.length:Int)∧(if bG x.1 x.2.1 x.2.2.1 x.2.2.2≠0 then (0:Int) else az x.1 x.2.1+1+x.2.2.1).toNat<x.1.1.length∧(x.1.1.set (if bG x.1 x.2.1 x.2.2.1 x.2.2.2≠0 then (0:Int) else az x.1 x.2.1+1+x.2.2.1).toNat (IntKind.u64.wrap (x.1.2.1.getD x.2.2.2.toNat 0+1)),x.1.2)=(jQ x.1 x.2.1 x.2.2.1 x.2.2.2).1∧0=(jQ x.1 x.2.1 x.2.2.1 x.2.2.2).2∧True)
theorem CU:wF:=by
 unfold wF;intro ⟨s,slot,k,other⟩ ⟨⟨⟨hb,hw⟩,_⟩,_⟩ _;simp only at hb hw ⊢;have hF:jQ s slot k other=if bG s slot k other≠0 then (aP,bG s slot k other) else ((s.1.set (az s slot+1+k).toNat (az s other+1),s.2),0):=rfl
 refine ⟨trivial,fun h=>?_,fun h tm=>⟨trivial,trivial,trivial,by trivial,by trivial,by trivial,by trivial,by trivial,by trivial,trivial,?_⟩⟩
 ·rw [hF,if_pos (of_decide_eq_true h)];exact ⟨by trivial,by trivial,trivial⟩
 ·have h0:=of_decide_eq_false h;obtain ⟨R,O,k0,k1,o0,o1⟩:=It hw (by omega:bG s slot k other=0);have hv:=R.rootIn o0 o1;have hal:=R.al;have:=O.x0;have:=O.b0;have:=O.fit;rw [hF,if_neg h0,if_neg h0];have hwr:IntKind.u64.wrap (s.2.1.getD other.toNat 0+1)=az s other+1:=fk (by omega) (by omega);rw [hwr];generalize s.2.1.getD other.toNat 0=v at *;simp only [ak];exact ⟨o0,o1,by omega,by omega,by omega,by omega,by omega,by trivial,by trivial,trivial⟩
theorem GN:Gb.ok Tryz.prog 18:=aD (ann:=fO) (ae BD (ae bX (ae cr (ae ch (ae bY aq))))) Tryz.func18 (by kernel_rfl) CU
def aZ (s:ap) (slot k:Int):Int:=if bL s slot≠0 then bL s slot else if k<0∨(dp s.1 (az s slot)).2.1≤k then 4 else 0
def b9 (s:ap) (at_ k:Int):Int:=at_+1+(dp s.1 at_).1+k
def Gi:Spec:={ Ts:=[aH,ty_I,ty_I],Rs:=[.dat ty_I,.dat ty_I],pre:=fun _=>True,F:=fun ((s,slot,k):ap×Int×Int)=>((if aZ s slot k≠0 then 0 else b9 s (az s slot) k,aZ s slot k):Int×Int) }
def wM:Prop :=
  ∀ (x:(List Int×List Int×List (Int×Int)×List (Int×Bool×Int))×Int×Int),((x.1.1.length * 8≤aA∧∀ (x_1:Int),x_1∈x.1.1→ak .u64 x_1)∧(x.1.2.1.length * 8≤aA∧∀ (x_1:Int),x_1∈x.1.2.1→ak .i64 x_1)∧(x.1.2.2.1.length * (8+8)≤aA∧∀ (x_1:Int×Int),x_1∈x.1.2.2.1→ak .i64 x_1.1∧ak .i64 x_1.2)∧x.1.2.2.2.length * (8+(8+8))≤aA∧∀ (x_1:Int×Bool×Int),x_1∈x.1.2.2.2→ak .i64 x_1.1∧True∧ak .i64 x_1.2.2)∧ak .i64 x.2.1∧ak .i64 x.2.2→True→True∧(decide ((bg x.1 x.2.1).2.2≠0)=true→((0:Int)=if aZ x.1 x.2.1 x.2.2≠0 then (0:Int) else b9 x.1 (az x.1 x.2.1) x.2.2)∧(bg x.1 x.2.1).2.2=aZ x.1 x.2.1 x.2.2∧True)∧(decide ((bg x.1 x.2.1).2.2≠0)=false→((decide (x.2.2<0)||decide ((↑(bg x.1 x.2.1).2.1.2.2.1.length:Int)≤x.2.2))=true→((0:Int)=if aZ x.1 x.2.1 x.2.2≠0 then (0:Int) else b9 x.1 (az x.1 x.2.1) x.2.2)∧4=aZ x.1 x.2.1 x.2.2∧True)∧((decide (x.2.2<0)||decide ((↑(bg x.1 x.2.1).2.1.2.2.1.length:Int)≤x.2.2))=false→ak .i64 ((bg x.1 x.2.1).1+1)∧ak .i64 ((bg x.1 x.2.1).1+1+(↑(bg x.1 x.2.1).2.1.2.1.length:Int))∧ak .i64 ((bg x.1 x.2.1).1+1+(↑(bg x.1 x.2.1).2.1.2.1.length:Int)+x.2.2)∧((bg x.1 x.2.1).1+1+(↑(bg x.1 x.2.1).2.1.2.1.length:Int)+x.2.2=if aZ x.1 x.2.1 x.2.2≠0 then (0:Int) else b9 x.1 (az x.1 x.2.1) x.2.2)∧0=aZ x.1 x.2.1 x.2.2∧True))
theorem C2:wM:=by
 unfold wM;intro ⟨s,slot,k⟩ ⟨⟨⟨hb,hw⟩,_⟩,_⟩ _;simp only at hb hw ⊢;have hR:aZ s slot k=if bL s slot≠0 then bL s slot else if k<0∨(dp s.1 (az s slot)).2.1≤k then 4 else 0:=rfl
 have hO:bg s slot=if bL s slot≠0 then (0,ie,bL s slot) else (az s slot,(db s.1 (az s slot)).1,0):=rfl
 by_cases h0:bL s slot≠0
 ·rw [if_pos h0] at hR hO;rw [hO,hR];simp only;refine ⟨trivial,fun _=>?_,fun h=>absurd h0 (of_decide_eq_false h)⟩;rw [if_pos h0];exact ⟨by trivial,by trivial,trivial⟩
 ·obtain ⟨R,_,_,O⟩:=tP hw (by omega:bL s slot=0);have hal:=R.al;rw [if_neg h0] at hR hO;rw [hO];simp only;rw [O.body,O.refs];have:=O.x0;have:=O.r0;have:=O.b0;have:=O.fit;refine ⟨trivial,fun h=>absurd rfl (of_decide_eq_true h),fun _=>⟨fun h1=>?_,fun h1=>?_⟩⟩
  ·rw [if_pos (by simpa using h1)] at hR;rw [hR];exact ⟨by trivial,by trivial,trivial⟩
  ·have h1:¬ (k<0∨(dp s.1 (az s slot)).2.1≤k):=by simpa using h1
   rw [if_neg h1] at hR;rw [hR];simp only [ak];exact ⟨by omega,by omega,by omega,by simp [b9],by trivial,trivial⟩
theorem xf:Gi.ok Tryz.prog 60:=aD (ann:=cp) (ae jI aq) Tryz.func60 (by kernel_rfl) C2
theorem Fz {s:ap} {slot k:Int} (hw:∀ x∈s.1,ak .u64 x) (h:aZ s slot k=0):Right s∧ObjAt s (az s slot)∧0≤k∧k<(dp s.1 (az s slot)).2.1∧0≤b9 s (az s slot) k∧b9 s (az s slot) k<s.1.length:=by
 unfold aZ at h;split at h
 ·omega
 rename_i h0;split at h
 ·omega
 obtain ⟨R,_,_,O⟩:=tP hw (by omega:bL s slot=0);have:=O.x0;have:=O.r0;have:=O.fit;unfold b9;exact ⟨R,O,by omega,by omega,by omega,by omega⟩
def H2:Spec:={ Ts:=[aH,ty_I,ty_I],Rs:=[.dat a8,.dat ty_I],pre:=fun _=>True,F:=fun ((s,slot,k):ap×Int×Int)=>((if aZ s slot k≠0 then 0 else s.1.getD (b9 s (az s slot) k).toNat 0,aZ s slot k):Int×Int) }
def Bi:Prop :=
  ∀ (x:(List Int×List Int×List (Int×Int)×List (Int×Bool×Int))×Int×Int),((x.1.1.length * 8≤aA∧∀ (x_1:Int),x_1∈x.1.1→ak .u64 x_1)∧(x.1.2.1.length * 8≤aA∧∀ (x_1:Int),x_1∈x.1.2.1→ak .i64 x_1)∧(x.1.2.2.1.length * (8+8)≤aA∧∀ (x_1:Int×Int),x_1∈x.1.2.2.1→ak .i64 x_1.1∧ak .i64 x_1.2)∧x.1.2.2.2.length * (8+(8+8))≤aA∧∀ (x_1:Int×Bool×Int),x_1∈x.1.2.2.2→ak .i64 x_1.1∧True∧ak .i64 x_1.2.2)∧ak .i64 x.2.1∧ak .i64 x.2.2→True→True∧(decide (aZ x.1 x.2.1 x.2.2≠0)=true→((0:Int)=if aZ x.1 x.2.1 x.2.2≠0 then (0:Int) else x.1.1.getD (b9 x.1 (az x.1 x.2.1) x.2.2).toNat 0)∧aZ x.1 x.2.1 x.2.2=aZ x.1 x.2.1 x.2.2∧True)∧(decide (aZ x.1 x.2.1 x.2.2≠0)=false→(0≤if aZ x.1 x.2.1 x.2.2≠0 then (0:Int) else b9 x.1 (az x.1 x.2.1) x.2.2)∧(if aZ x.1 x.2.1 x.2.2≠0 then (0:Int) else b9 x.1 (az x.1 x.2.1) x.2.2)<(↑x.1.1.length:Int)∧(x.1.1.getD (if aZ x.1 x.2.1 x.2.2≠0 then (0:Int) else b9 x.1 (az x.1 x.2.1) x.2.2).toNat (0:Int)=if aZ x.1 x.2.1 x.2.2≠0 then (0:Int) else x.1.1.getD (b9 x.1 (az x.1 x.2.1) x.2.2).toNat 0)∧0=aZ x.1 x.2.1 x.2.2∧True)
theorem FK:Bi:=by
 unfold Bi;intro ⟨s,slot,k⟩ ⟨⟨⟨hb,hw⟩,_⟩,_⟩ _;simp only at hb hw ⊢;refine ⟨trivial,fun h=>?_,fun h=>?_⟩
 ·rw [if_pos (of_decide_eq_true h)];exact ⟨by trivial,by trivial,trivial⟩
 ·have h0:=of_decide_eq_false h;obtain ⟨_,_,_,_,b0,b1⟩:=Fz hw (by omega:aZ s slot k=0);rw [if_neg h0];exact ⟨b0,b1,by rw [if_neg h0],by omega,trivial⟩
theorem IH:H2.ok Tryz.prog 19:=aD (ann:=cp) (ae xf aq) Tryz.func19 (by kernel_rfl) FK
def jT (s:ap) (slot k v:Int):ap×Int:=if aZ s slot k≠0 then (aP,aZ s slot k) else ((s.1.set (b9 s (az s slot) k).toNat v,s.2),0)
def Gd:Spec:={ Ts:=[aH,ty_I,ty_I,a8],Rs:=[.dat aH,.dat ty_I],al:=true,pre:=fun _=>True,F:=fun ((s,slot,k,v):ap×Int×Int×Int)=>jT s slot k v }
def wH:Prop :=
  ∀ (x:(List Int×List Int×List (Int×Int)×List (Int×Bool×Int))×Int×Int×Int),((x.1.1.length * 8≤aA∧∀ (x_1:Int),x_1∈x.1.1→ak .u64 x_1)∧(x.1.2.1.length * 8≤aA∧∀ (x_1:Int),x_1∈x.1.2.1→ak .i64 x_1)∧(x.1.2.2.1.length * (8+8)≤aA∧∀ (x_1:Int×Int),x_1∈x.1.2.2.1→ak .i64 x_1.1∧ak .i64 x_1.2)∧x.1.2.2.2.length * (8+(8+8))≤aA∧∀ (x_1:Int×Bool×Int),x_1∈x.1.2.2.2→ak .i64 x_1.1∧True∧ak .i64 x_1.2.2)∧ak .i64 x.2.1∧ak .i64 x.2.2.1∧ak .u64 x.2.2.2→True→True∧(decide (aZ x.1 x.2.1 x.2.2.1≠0)=true→(([]:List Int),([]:List Int),([]:List (Int×Int)),([]:List (Int×Bool×Int)))=(jT x.1 x.2.1 x.2.2.1 x.2.2.2).1∧aZ x.1 x.2.1 x.2.2.1=(jT x.1 x.2.1 x.2.2.1 x.2.2.2).2∧True)∧(decide (aZ x.1 x.2.1 x.2.2.1≠0)=false→∀ (_:Array Value),True∧True∧True∧x.1.2.1=x.1.2.1∧x.1.2.2.1=x.1.2.2.1∧x.1.2.2.1=x.1.2.2.1∧x.1.2.2.2=x.1.2.2.2∧x.1.2.2.2=x.1.2.2.2∧x.1.2.2.2=x.1.2.2.2∧True∧(0≤if aZ x.1 x.2.1 x.2.2.1≠0 then (0:Int) else b9 x.1 (az x.1 x.2.1) x.2.2.1)∧(if aZ x.1 x.2.1 x.2.2.1≠0 then (0:Int) else b9 x.1 (az x.1 x.2.1) x.2.2.1)<(↑x.1.1.length:Int)∧(if aZ x.1 x.2.1 x.2.2.1≠0 then (0:Int) else b9 x.1 (az x.1 x.2.1) x.2.2.1).toNat<x.1.1.length∧(x.1.1.set (if aZ x.1 x.2.1 x.2.2.1≠0 then (0:Int) else b9 x.1 (az x.1 x.2.1) x.2.2.1).toNat x.2.2.2,x.1.2)=(jT x.1 x.2.1 x.2.2.1 x.2.2.2).1∧0=(jT x.1 x.2.1 x.2.2.1 x.2.2.2).2∧True)
theorem CW:wH:=by
 unfold wH;intro ⟨s,slot,k,v⟩ ⟨⟨⟨hb,hw⟩,_⟩,_⟩ _;simp only at hb hw ⊢;have hF:jT s slot k v=if aZ s slot k≠0 then (aP,aZ s slot k) else ((s.1.set (b9 s (az s slot) k).toNat v,s.2),0):=rfl
 refine ⟨trivial,fun h=>?_,fun h tm=>⟨trivial,trivial,trivial,by trivial,by trivial,by trivial,by trivial,by trivial,by trivial,trivial,?_⟩⟩
 ·rw [hF,if_pos (of_decide_eq_true h)];exact ⟨by trivial,by trivial,trivial⟩
 ·have h0:=of_decide_eq_false h;obtain ⟨_,_,_,_,b0,b1⟩:=Fz hw (by omega:aZ s slot k=0);rw [hF,if_neg h0,if_neg h0];exact ⟨b0,b1,by omega,by trivial,by trivial,trivial⟩
theorem GP:Gd.ok Tryz.prog 21:=aD (ann:=fO) (ae xf (ae bX (ae cr (ae ch (ae bY aq))))) Tryz.func21 (by kernel_rfl) CW
def gH (s:ap) (slot:Int):ap×Int×Int:=if bL s slot≠0 then (aP,0,bL s slot) else if (hZ s.2.2.1 (az s slot)).2.2≠0 then (aP,0,(hZ s.2.2.1 (az s slot)).2.2) else ((s.1,s.2.1,(hZ s.2.2.1 (az s slot)).1,s.2.2.2),az s slot,0)
def Ge:Spec:={ Ts:=[aH,ty_I],Rs:=[.dat aH,.dat ty_I,.dat ty_I],al:=true,pre:=fun _=>True,F:=fun ((s,slot):ap×Int)=>gH s slot }
def wI:Prop :=
  ∀ (x:(List Int×List Int×List (Int×Int)×List (Int×Bool×Int))×Int),((x.1.1.length * 8≤aA∧∀ (x_1:Int),x_1∈x.1.1→ak .u64 x_1)∧(x.1.2.1.length * 8≤aA∧∀ (x_1:Int),x_1∈x.1.2.1→ak .i64 x_1)∧(x.1.2.2.1.length * (8+8)≤aA∧∀ (x_1:Int×Int),x_1∈x.1.2.2.1→ak .i64 x_1.1∧ak .i64 x_1.2)∧x.1.2.2.2.length * (8+(8+8))≤aA∧∀ (x_1:Int×Bool×Int),x_1∈x.1.2.2.2→ak .i64 x_1.1∧True∧ak .i64 x_1.2.2)∧ak .i64 x.2→True→True∧(decide ((bg x.1 x.2).2.2≠0)=true→(([]:List Int),([]:List Int),([]:List (Int×Int)),([]:List (Int×Bool×Int)))=(gH x.1 x.2).1∧0=(gH x.1 x.2).2.1∧(bg x.1 x.2).2.2=(gH x.1 x.2).2.2∧True)∧(decide ((bg x.1 x.2).2.2≠0)=false→True∧(decide ((hZ x.1.2.2.1 (bg x.1 x.2).1).2.2≠0)=true→(([]:List Int),([]:List Int),([]:List (Int×Int)),([]:List (Int×Bool×Int)))=(gH x.1 x.2).1∧0=(gH x.1 x.2).2.1∧(hZ x.1.2.2.1 (bg x.1 x.2).1).2.2=(gH x.1 x.2).2.2∧True)∧(decide ((hZ x.1.2.2.1 (bg x.1 x.2).1).2.2≠0)=false→∀ (_:Array Value),True∧True∧True∧x.1.2.1=x.1.2.1∧x.1.2.2.1=x.1.2.2.1∧x.1.2.2.1=x.1.2.2.1∧x.1.2.2.2=x.1.2.2.2∧x.1.2.2.2=x.1.2.2.2∧x.1.2.2.2=x.1.2.2.2∧True∧(x.1.1,x.1.2.1,(hZ x.1.2.2.1 (bg x.1 x.2).1).1,x.1.2.2.2)=(gH x.1 x.2).1∧(bg x.1 x.2).1=(gH x.1 x.2).2.1∧0=(gH x.1 x.2).2.2∧True))
theorem CX:wI:=by
 unfold wI;intro ⟨s,slot⟩ hx _;simp only at hx ⊢;have hF:gH s slot=if bL s slot≠0 then (aP,0,bL s slot) else if (hZ s.2.2.1 (az s slot)).2.2≠0 then (aP,0,(hZ s.2.2.1 (az s slot)).2.2) else ((s.1,s.2.1,(hZ s.2.2.1 (az s slot)).1,s.2.2.2),az s slot,0):=rfl
 have hO:bg s slot=if bL s slot≠0 then (0,ie,bL s slot) else (az s slot,(db s.1 (az s slot)).1,0):=rfl
 by_cases h0:bL s slot≠0
 ·rw [if_pos h0] at hF hO;rw [hO,hF];exact ⟨trivial,fun _=>⟨by trivial,by trivial,by trivial,trivial⟩,fun h=>absurd h0 (of_decide_eq_false h)⟩
 ·rw [if_neg h0] at hF hO;rw [hO,hF];simp only;refine ⟨trivial,fun h=>absurd rfl (of_decide_eq_true h),fun _=>⟨trivial,fun h=>?_,fun h tm=>⟨trivial,trivial,trivial,by trivial,by trivial,by trivial,by trivial,by trivial,by trivial,trivial,?_⟩⟩⟩
  ·rw [if_pos (of_decide_eq_true h)];exact ⟨by trivial,by trivial,by trivial,trivial⟩
  ·rw [if_neg (of_decide_eq_false h)];exact ⟨by trivial,by trivial,by trivial,trivial⟩
theorem GQ:Ge.ok Tryz.prog 22:=aD (ann:=fO) (ae jI (ae Lo (ae bX (ae cr (ae ch (ae bY aq)))))) Tryz.func22 (by kernel_rfl) CX
def dJ (s:ap) (at_:Int):ap×Int:=if aG s≠0 then (aP,aG s) else if (dY s.2.2.1 at_).2.2≠0 then (aP,(dY s.2.2.1 at_).2.2) else ((s.1,s.2.1,(dY s.2.2.1 at_).1,s.2.2.2),0)
def AC:Spec:={ Ts:=[aH,ty_I],Rs:=[.dat aH,.dat ty_I],al:=true,pre:=fun _=>True,F:=fun ((s,at_):ap×Int)=>dJ s at_ }
def qD:Prop :=
  ∀ (x:(List Int×List Int×List (Int×Int)×List (Int×Bool×Int))×Int),((x.1.1.length * 8≤aA∧∀ (x_1:Int),x_1∈x.1.1→ak .u64 x_1)∧(x.1.2.1.length * 8≤aA∧∀ (x_1:Int),x_1∈x.1.2.1→ak .i64 x_1)∧(x.1.2.2.1.length * (8+8)≤aA∧∀ (x_1:Int×Int),x_1∈x.1.2.2.1→ak .i64 x_1.1∧ak .i64 x_1.2)∧x.1.2.2.2.length * (8+(8+8))≤aA∧∀ (x_1:Int×Bool×Int),x_1∈x.1.2.2.2→ak .i64 x_1.1∧True∧ak .i64 x_1.2.2)∧ak .i64 x.2→True→True∧(decide (aG x.1≠0)=true→(([]:List Int),([]:List Int),([]:List (Int×Int)),([]:List (Int×Bool×Int)))=(dJ x.1 x.2).1∧aG x.1=(dJ x.1 x.2).2∧True)∧(decide (aG x.1≠0)=false→True∧(decide ((dY x.1.2.2.1 x.2).2.2≠0)=true→(([]:List Int),([]:List Int),([]:List (Int×Int)),([]:List (Int×Bool×Int)))=(dJ x.1 x.2).1∧(dY x.1.2.2.1 x.2).2.2=(dJ x.1 x.2).2∧True)∧(decide ((dY x.1.2.2.1 x.2).2.2≠0)=false→∀ (_:Array Value),True∧True∧True∧x.1.2.1=x.1.2.1∧x.1.2.2.1=x.1.2.2.1∧x.1.2.2.1=x.1.2.2.1∧x.1.2.2.2=x.1.2.2.2∧x.1.2.2.2=x.1.2.2.2∧x.1.2.2.2=x.1.2.2.2∧True∧(x.1.1,x.1.2.1,(dY x.1.2.2.1 x.2).1,x.1.2.2.2)=(dJ x.1 x.2).1∧0=(dJ x.1 x.2).2∧True))
theorem xK:qD:=by
 unfold qD;intro ⟨s,at_⟩ hx _;simp only at hx ⊢;have hF:dJ s at_=if aG s≠0 then (aP,aG s) else if (dY s.2.2.1 at_).2.2≠0 then (aP,(dY s.2.2.1 at_).2.2) else ((s.1,s.2.1,(dY s.2.2.1 at_).1,s.2.2.2),0):=rfl
 rw [hF];refine ⟨trivial,fun h=>?_,fun h=>⟨trivial,fun h1=>?_,fun h1 tm=>⟨trivial,trivial,trivial,by trivial,by trivial,by trivial,by trivial,by trivial,by trivial,trivial,?_⟩⟩⟩
 ·rw [if_pos (of_decide_eq_true h)];exact ⟨by trivial,by trivial,trivial⟩
 ·rw [if_neg (of_decide_eq_false h),if_pos (of_decide_eq_true h1)];exact ⟨by trivial,by trivial,trivial⟩
 ·rw [if_neg (of_decide_eq_false h),if_neg (of_decide_eq_false h1)];exact ⟨by trivial,by trivial,trivial⟩
theorem BC:AC.ok Tryz.prog 23:=aD (ann:=fO) (ae gk (ae Ks (ae bX (ae cr (ae ch (ae bY aq)))))) Tryz.func23 (by kernel_rfl) xK
def cB (s:ap) (at_ k:Int):Int:=if aG s≠0 then aG s else if cP (cH s) at_=false then 8 else if k<0∨(dp s.1 at_).2.1≤k then 4 else 0
def Gf:Spec:={ Ts:=[aH,ty_I,ty_I],Rs:=[.dat a8,.dat ty_I],pre:=fun _=>True,F:=fun ((s,at_,k):ap×Int×Int)=>((if cB s at_ k≠0 then 0 else s.1.getD (b9 s at_ k).toNat 0,cB s at_ k):Int×Int) }
def wJ:Prop :=
  ∀ (x:(List Int×List Int×List (Int×Int)×List (Int×Bool×Int))×Int×Int),((x.1.1.length * 8≤aA∧∀ (x_1:Int),x_1∈x.1.1→ak .u64 x_1)∧(x.1.2.1.length * 8≤aA∧∀ (x_1:Int),x_1∈x.1.2.1→ak .i64 x_1)∧(x.1.2.2.1.length * (8+8)≤aA∧∀ (x_1:Int×Int),x_1∈x.1.2.2.1→ak .i64 x_1.1∧ak .i64 x_1.2)∧x.1.2.2.2.length * (8+(8+8))≤aA∧∀ (x_1:Int×Bool×Int),x_1∈x.1.2.2.2→ak .i64 x_1.1∧True∧ak .i64 x_1.2.2)∧ak .i64 x.2.1∧ak .i64 x.2.2→True→True∧(decide (aG x.1≠0)=true→((0:Int)=if cB x.1 x.2.1 x.2.2≠0 then (0:Int) else x.1.1.getD (b9 x.1 x.2.1 x.2.2).toNat 0)∧aG x.1=cB x.1 x.2.1 x.2.2∧True)∧(decide (aG x.1≠0)=false→True∧True∧((!cP (List.map (fun (x:bk)=>x.1) x.1.2.2.1) x.2.1)=true→((0:Int)=if cB x.1 x.2.1 x.2.2≠0 then (0:Int) else x.1.1.getD (b9 x.1 x.2.1 x.2.2).toNat 0)∧8=cB x.1 x.2.1 x.2.2∧True)∧((!cP (List.map (fun (x:bk)=>x.1) x.1.2.2.1) x.2.1)=false→True∧((decide (x.2.2<0)||decide ((↑(db x.1.1 x.2.1).1.2.2.1.length:Int)≤x.2.2))=true→((0:Int)=if cB x.1 x.2.1 x.2.2≠0 then (0:Int) else x.1.1.getD (b9 x.1 x.2.1 x.2.2).toNat 0)∧4=cB x.1 x.2.1 x.2.2∧True)∧((decide (x.2.2<0)||decide ((↑(db x.1.1 x.2.1).1.2.2.1.length:Int)≤x.2.2))=false→0≤x.2.2∧x.2.2<(↑(db x.1.1 x.2.1).1.2.2.1.length:Int)∧((db x.1.1 x.2.1).1.2.2.1.getD x.2.2.toNat (0:Int)=if cB x.1 x.2.1 x.2.2≠0 then (0:Int) else x.1.1.getD (b9 x.1 x.2.1 x.2.2).toNat 0)∧0=cB x.1 x.2.1 x.2.2∧True)))
theorem CY:wJ:=by
 unfold wJ;intro ⟨s,at_,k⟩ ⟨⟨⟨hb,hw⟩,_⟩,_⟩ _;simp only at hb hw ⊢;have hP:cB s at_ k=if aG s≠0 then aG s else if cP (cH s) at_=false then 8 else if k<0∨(dp s.1 at_).2.1≤k then 4 else 0:=rfl
 have hpo:List.map (fun (x:bk)=>x.1) s.2.2.1=cH s:=rfl;rw [hpo];refine ⟨trivial,fun h=>?_,fun h=>⟨trivial,trivial,fun h1=>?_,fun h1=>⟨trivial,fun h2=>?_,fun h2=>?_⟩⟩⟩
 ·have h:=of_decide_eq_true h;rw [if_pos h] at hP;rw [hP,if_pos h];exact ⟨by trivial,by trivial,trivial⟩
 all_goals have h:=of_decide_eq_false h
 ·rw [if_neg h,if_pos (by simpa using h1)] at hP;rw [hP];exact ⟨by trivial,by trivial,trivial⟩
 all_goals
  have h1:cP (cH s) at_=true:=by simpa using h1
  have R:=iq hw (by omega:aG s=0);have O:=R.obj (R.pinsIn at_ (cG.1 h1));rw [if_neg h,if_neg (by rw [h1]; simp)] at hP;rw [O.body] at h2
 ·rw [if_pos (by simpa using h2)] at hP;rw [hP];exact ⟨by trivial,by trivial,trivial⟩
 ·have h2:¬ (k<0∨(dp s.1 at_).2.1≤k):=by simpa using h2
  have l:=cI O.isb;rw [if_neg h2] at hP;rw [hP,O.body];have hg:=xE (a:=s.1) (at_:=at_) (k:=k) (by omega) (by omega) l.2.1 O.x0 O.r0;have e:(db s.1 at_).1.2.2.1=ee s.1 at_:=by rw [O.at_]; rfl
  rw [e,← hg];exact ⟨by omega,by omega,by simp [b9],by trivial,trivial⟩
theorem GR:Gf.ok Tryz.prog 24:=aD (ann:=cp) (ae gk (ae jH (ae za (ae mm aq)))) Tryz.func24 (by kernel_rfl) CY
def gw (s:ap) (slot:Int):ap×Int×Int:=if bL s slot≠0 then (aP,0,bL s slot) else if (eb s.2.2.2 (az s slot)).2.2≠0 then (aP,0,(eb s.2.2.2 (az s slot)).2.2) else ((s.1,s.2.1,s.2.2.1,(eb s.2.2.2 (az s slot)).1),(eb s.2.2.2 (az s slot)).2.1,0)
def Dv:Spec:={ Ts:=[aH,ty_I],Rs:=[.dat aH,.dat a8,.dat ty_I],al:=true,pre:=fun _=>True,F:=fun ((s,slot):ap×Int)=>gw s slot }
def s9:Prop :=
  ∀ (x:(List Int×List Int×List (Int×Int)×List (Int×Bool×Int))×Int),((x.1.1.length * 8≤aA∧∀ (x_1:Int),x_1∈x.1.1→ak .u64 x_1)∧(x.1.2.1.length * 8≤aA∧∀ (x_1:Int),x_1∈x.1.2.1→ak .i64 x_1)∧(x.1.2.2.1.length * (8+8)≤aA∧∀ (x_1:Int×Int),x_1∈x.1.2.2.1→ak .i64 x_1.1∧ak .i64 x_1.2)∧x.1.2.2.2.length * (8+(8+8))≤aA∧∀ (x_1:Int×Bool×Int),x_1∈x.1.2.2.2→ak .i64 x_1.1∧True∧ak .i64 x_1.2.2)∧ak .i64 x.2→True→True∧(decide ((bg x.1 x.2).2.2≠0)=true→(([]:List Int),([]:List Int),([]:List (Int×Int)),([]:List (Int×Bool×Int)))=(gw x.1 x.2).1∧0=(gw x.1 x.2).2.1∧(bg x.1 x.2).2.2=(gw x.1 x.2).2.2∧True)∧(decide ((bg x.1 x.2).2.2≠0)=false→True∧(decide ((eb x.1.2.2.2 (bg x.1 x.2).1).2.2≠0)=true→(([]:List Int),([]:List Int),([]:List (Int×Int)),([]:List (Int×Bool×Int)))=(gw x.1 x.2).1∧0=(gw x.1 x.2).2.1∧(eb x.1.2.2.2 (bg x.1 x.2).1).2.2=(gw x.1 x.2).2.2∧True)∧(decide ((eb x.1.2.2.2 (bg x.1 x.2).1).2.2≠0)=false→∀ (_:Array Value),True∧True∧True∧x.1.2.1=x.1.2.1∧x.1.2.2.1=x.1.2.2.1∧x.1.2.2.1=x.1.2.2.1∧x.1.2.2.2=x.1.2.2.2∧x.1.2.2.2=x.1.2.2.2∧x.1.2.2.2=x.1.2.2.2∧True∧(x.1.1,x.1.2.1,x.1.2.2.1,(eb x.1.2.2.2 (bg x.1 x.2).1).1)=(gw x.1 x.2).1∧(eb x.1.2.2.2 (bg x.1 x.2).1).2.1=(gw x.1 x.2).2.1∧0=(gw x.1 x.2).2.2∧True))
theorem z7:s9:=by
 unfold s9;intro ⟨s,slot⟩ hx _;simp only at hx ⊢;have hF:gw s slot=if bL s slot≠0 then (aP,0,bL s slot) else if (eb s.2.2.2 (az s slot)).2.2≠0 then (aP,0,(eb s.2.2.2 (az s slot)).2.2) else ((s.1,s.2.1,s.2.2.1,(eb s.2.2.2 (az s slot)).1),(eb s.2.2.2 (az s slot)).2.1,0):=rfl
 have hO:bg s slot=if bL s slot≠0 then (0,ie,bL s slot) else (az s slot,(db s.1 (az s slot)).1,0):=rfl
 by_cases h0:bL s slot≠0
 ·rw [if_pos h0] at hF hO;rw [hO,hF];exact ⟨trivial,fun _=>⟨by trivial,by trivial,by trivial,trivial⟩,fun h=>absurd h0 (of_decide_eq_false h)⟩
 ·rw [if_neg h0] at hF hO;rw [hO,hF];simp only;refine ⟨trivial,fun h=>absurd rfl (of_decide_eq_true h),fun _=>⟨trivial,fun h=>?_,fun h tm=>⟨trivial,trivial,trivial,by trivial,by trivial,by trivial,by trivial,by trivial,by trivial,trivial,?_⟩⟩⟩
  ·rw [if_pos (of_decide_eq_true h)];exact ⟨by trivial,by trivial,by trivial,trivial⟩
  ·rw [if_neg (of_decide_eq_false h)];exact ⟨by trivial,by trivial,by trivial,trivial⟩
theorem DZ:Dv.ok Tryz.prog 25:=aD (ann:=fO) (ae jI (ae BQ (ae bX (ae cr (ae ch (ae bY aq)))))) Tryz.func25 (by kernel_rfl) z7
def bO (s:ap) (k:Int):Int:=if aG s≠0 then aG s else if k<0∨(s.2.1.length:Int)≤k then 5 else 0
def yo:Spec:={ Ts:=[aH,ty_I],Rs:=[.dat ty_I],pre:=fun _=>True,F:=fun ((s,k):ap×Int)=>bO s k }
def od:Prop :=
  ∀ (x:(List Int×List Int×List (Int×Int)×List (Int×Bool×Int))×Int),((x.1.1.length * 8≤aA∧∀ (x_1:Int),x_1∈x.1.1→ak .u64 x_1)∧(x.1.2.1.length * 8≤aA∧∀ (x_1:Int),x_1∈x.1.2.1→ak .i64 x_1)∧(x.1.2.2.1.length * (8+8)≤aA∧∀ (x_1:Int×Int),x_1∈x.1.2.2.1→ak .i64 x_1.1∧ak .i64 x_1.2)∧x.1.2.2.2.length * (8+(8+8))≤aA∧∀ (x_1:Int×Bool×Int),x_1∈x.1.2.2.2→ak .i64 x_1.1∧True∧ak .i64 x_1.2.2)∧ak .i64 x.2→True→True∧((decide (aG x.1=0)&&(decide (x.2<0)||decide ((↑x.1.2.1.length:Int)≤x.2)))=true→5=bO x.1 x.2∧True)∧((decide (aG x.1=0)&&(decide (x.2<0)||decide ((↑x.1.2.1.length:Int)≤x.2)))=false→aG x.1=bO x.1 x.2∧True)
theorem uS:od:=by
 unfold od;intro ⟨s,k⟩ hx _;simp only at hx ⊢;have hE:bO s k=if aG s≠0 then aG s else if k<0∨(s.2.1.length:Int)≤k then 5 else 0:=rfl
 rw [hE];refine ⟨trivial,fun h=>?_,fun h=>?_⟩
 ·simp only [Bool.and_eq_true,decide_eq_true_eq,Bool.or_eq_true] at h;rw [if_neg (by omega),if_pos h.2];exact ⟨rfl,trivial⟩
 ·simp only [Bool.and_eq_false_iff,decide_eq_false_iff_not,Bool.or_eq_false_iff] at h;by_cases h0:aG s≠0
  ·rw [if_pos h0];exact ⟨rfl,trivial⟩
  ·rw [if_neg h0,if_neg (by omega)];exact ⟨by omega,trivial⟩
theorem oK:yo.ok Tryz.prog 68:=aD (ann:=cp) (ae gk aq) Tryz.func68 (by kernel_rfl) uS
theorem EV {s:ap} {k:Int} (h:bO s k=0):0≤k∧k<s.2.1.length:=by
 unfold bO at h;split at h
 ·omega
 split at h
 ·omega
 omega
def iG (s:ap) (name slot:Int):ap×Int:=if bO s slot≠0 then (aP,bO s slot) else if (gz s.2.2.2 name).2≠0 then (aP,(gz s.2.2.2 name).2) else ((s.1,s.2.1.set slot.toNat (gz s.2.2.2 name).1,s.2.2),0)
def Ga:Spec:={ Ts:=[aH,a8,ty_I],Rs:=[.dat aH,.dat ty_I],al:=true,pre:=fun _=>True,F:=fun ((s,name,slot):ap×Int×Int)=>iG s name slot }
def wE:Prop :=
  ∀ (x:(List Int×List Int×List (Int×Int)×List (Int×Bool×Int))×Int×Int),((x.1.1.length * 8≤aA∧∀ (x_1:Int),x_1∈x.1.1→ak .u64 x_1)∧(x.1.2.1.length * 8≤aA∧∀ (x_1:Int),x_1∈x.1.2.1→ak .i64 x_1)∧(x.1.2.2.1.length * (8+8)≤aA∧∀ (x_1:Int×Int),x_1∈x.1.2.2.1→ak .i64 x_1.1∧ak .i64 x_1.2)∧x.1.2.2.2.length * (8+(8+8))≤aA∧∀ (x_1:Int×Bool×Int),x_1∈x.1.2.2.2→ak .i64 x_1.1∧True∧ak .i64 x_1.2.2)∧ak .u64 x.2.1∧ak .i64 x.2.2→True→True∧(decide (bO x.1 x.2.2≠0)=true→(([]:List Int),([]:List Int),([]:List (Int×Int)),([]:List (Int×Bool×Int)))=(iG x.1 x.2.1 x.2.2).1∧bO x.1 x.2.2=(iG x.1 x.2.1 x.2.2).2∧True)∧(decide (bO x.1 x.2.2≠0)=false→True∧(decide ((gz x.1.2.2.2 x.2.1).2≠0)=true→(([]:List Int),([]:List Int),([]:List (Int×Int)),([]:List (Int×Bool×Int)))=(iG x.1 x.2.1 x.2.2).1∧(gz x.1.2.2.2 x.2.1).2=(iG x.1 x.2.1 x.2.2).2∧True)∧(decide ((gz x.1.2.2.2 x.2.1).2≠0)=false→∀ (_:Array Value),True∧True∧True∧x.1.2.1=x.1.2.1∧x.1.2.2.1=x.1.2.2.1∧x.1.2.2.1=x.1.2.2.1∧x.1.2.2.2=x.1.2.2.2∧x.1.2.2.2=x.1.2.2.2∧x.1.2.2.2=x.1.2.2.2∧True∧0≤x.2.2∧x.2.2<(↑x.1.2.1.length:Int)∧x.2.2.toNat<x.1.2.1.length∧(x.1.1,x.1.2.1.set x.2.2.toNat (gz x.1.2.2.2 x.2.1).1,x.1.2.2)=(iG x.1 x.2.1 x.2.2).1∧0=(iG x.1 x.2.1 x.2.2).2∧True))
theorem CT:wE:=by
 unfold wE;intro ⟨s,name,slot⟩ hx _;simp only at hx ⊢;have hF:iG s name slot=if bO s slot≠0 then (aP,bO s slot) else if (gz s.2.2.2 name).2≠0 then (aP,(gz s.2.2.2 name).2) else ((s.1,s.2.1.set slot.toNat (gz s.2.2.2 name).1,s.2.2),0):=rfl
 rw [hF];refine ⟨trivial,fun h=>?_,fun h=>⟨trivial,fun h1=>?_,fun h1 tm=>⟨trivial,trivial,trivial,by trivial,by trivial,by trivial,by trivial,by trivial,by trivial,trivial,?_⟩⟩⟩
 ·rw [if_pos (of_decide_eq_true h)];exact ⟨by trivial,by trivial,trivial⟩
 ·rw [if_neg (of_decide_eq_false h),if_pos (of_decide_eq_true h1)];exact ⟨by trivial,by trivial,trivial⟩
 ·rw [if_neg (of_decide_eq_false h),if_neg (of_decide_eq_false h1)];have hs:=EV (by simpa using of_decide_eq_false h:bO s slot=0);exact ⟨hs.1,hs.2,by omega,by trivial,by trivial,trivial⟩
theorem GM:Ga.ok Tryz.prog 26:=aD (ann:=fO) (ae oK (ae BR (ae bX (ae cr (ae ch (ae bY aq)))))) Tryz.func26 (by kernel_rfl) CT
def fv (s:ap) (name:Int):ap×Int:=if aG s≠0 then (aP,aG s) else if (eC s.2.2.2 name).2≠0 then (aP,(eC s.2.2.2 name).2) else ((s.1,s.2.1,s.2.2.1,(eC s.2.2.2 name).1),0)
def Du:Spec:={ Ts:=[aH,a8],Rs:=[.dat aH,.dat ty_I],al:=true,pre:=fun _=>True,F:=fun ((s,name):ap×Int)=>fv s name }
def s8:Prop :=
  ∀ (x:(List Int×List Int×List (Int×Int)×List (Int×Bool×Int))×Int),((x.1.1.length * 8≤aA∧∀ (x_1:Int),x_1∈x.1.1→ak .u64 x_1)∧(x.1.2.1.length * 8≤aA∧∀ (x_1:Int),x_1∈x.1.2.1→ak .i64 x_1)∧(x.1.2.2.1.length * (8+8)≤aA∧∀ (x_1:Int×Int),x_1∈x.1.2.2.1→ak .i64 x_1.1∧ak .i64 x_1.2)∧x.1.2.2.2.length * (8+(8+8))≤aA∧∀ (x_1:Int×Bool×Int),x_1∈x.1.2.2.2→ak .i64 x_1.1∧True∧ak .i64 x_1.2.2)∧ak .u64 x.2→True→True∧(decide (aG x.1≠0)=true→(([]:List Int),([]:List Int),([]:List (Int×Int)),([]:List (Int×Bool×Int)))=(fv x.1 x.2).1∧aG x.1=(fv x.1 x.2).2∧True)∧(decide (aG x.1≠0)=false→True∧(decide ((eC x.1.2.2.2 x.2).2≠0)=true→(([]:List Int),([]:List Int),([]:List (Int×Int)),([]:List (Int×Bool×Int)))=(fv x.1 x.2).1∧(eC x.1.2.2.2 x.2).2=(fv x.1 x.2).2∧True)∧(decide ((eC x.1.2.2.2 x.2).2≠0)=false→∀ (_:Array Value),True∧True∧True∧x.1.2.1=x.1.2.1∧x.1.2.2.1=x.1.2.2.1∧x.1.2.2.1=x.1.2.2.1∧x.1.2.2.2=x.1.2.2.2∧x.1.2.2.2=x.1.2.2.2∧x.1.2.2.2=x.1.2.2.2∧True∧(x.1.1,x.1.2.1,x.1.2.2.1,(eC x.1.2.2.2 x.2).1)=(fv x.1 x.2).1∧0=(fv x.1 x.2).2∧True))
theorem z6:s8:=by
 unfold s8;intro ⟨s,name⟩ hx _;simp only at hx ⊢;have hF:fv s name=if aG s≠0 then (aP,aG s) else if (eC s.2.2.2 name).2≠0 then (aP,(eC s.2.2.2 name).2) else ((s.1,s.2.1,s.2.2.1,(eC s.2.2.2 name).1),0):=rfl
 rw [hF];refine ⟨trivial,fun h=>?_,fun h=>⟨trivial,fun h1=>?_,fun h1 tm=>⟨trivial,trivial,trivial,by trivial,by trivial,by trivial,by trivial,by trivial,by trivial,trivial,?_⟩⟩⟩
 ·rw [if_pos (of_decide_eq_true h)];exact ⟨by trivial,by trivial,trivial⟩
 ·rw [if_neg (of_decide_eq_false h),if_pos (of_decide_eq_true h1)];exact ⟨by trivial,by trivial,trivial⟩
 ·rw [if_neg (of_decide_eq_false h),if_neg (of_decide_eq_false h1)];exact ⟨by trivial,by trivial,trivial⟩
theorem DY:Du.ok Tryz.prog 27:=aD (ann:=fO) (ae gk (ae zb (ae bX (ae cr (ae ch (ae bY aq)))))) Tryz.func27 (by kernel_rfl) z6
def ga (s:ap) (slot:Int):ap×Int:=if bO s slot≠0 then (aP,bO s slot) else ((s.1,s.2.1.set slot.toNat (-1),s.2.2),0)
def Dw:Spec:={ Ts:=[aH,ty_I],Rs:=[.dat aH,.dat ty_I],al:=true,pre:=fun _=>True,F:=fun ((s,slot):ap×Int)=>ga s slot }
def ta:Prop :=
  ∀ (x:(List Int×List Int×List (Int×Int)×List (Int×Bool×Int))×Int),((x.1.1.length * 8≤aA∧∀ (x_1:Int),x_1∈x.1.1→ak .u64 x_1)∧(x.1.2.1.length * 8≤aA∧∀ (x_1:Int),x_1∈x.1.2.1→ak .i64 x_1)∧(x.1.2.2.1.length * (8+8)≤aA∧∀ (x_1:Int×Int),x_1∈x.1.2.2.1→ak .i64 x_1.1∧ak .i64 x_1.2)∧x.1.2.2.2.length * (8+(8+8))≤aA∧∀ (x_1:Int×Bool×Int),x_1∈x.1.2.2.2→ak .i64 x_1.1∧True∧ak .i64 x_1.2.2)∧ak .i64 x.2→True→True∧(decide (bO x.1 x.2≠0)=true→(([]:List Int),([]:List Int),([]:List (Int×Int)),([]:List (Int×Bool×Int)))=(ga x.1 x.2).1∧bO x.1 x.2=(ga x.1 x.2).2∧True)∧(decide (bO x.1 x.2≠0)=false→∀ (_:Array Value),True∧True∧True∧x.1.2.1=x.1.2.1∧x.1.2.2.1=x.1.2.2.1∧x.1.2.2.1=x.1.2.2.1∧x.1.2.2.2=x.1.2.2.2∧x.1.2.2.2=x.1.2.2.2∧x.1.2.2.2=x.1.2.2.2∧True∧0≤x.2∧x.2<(↑x.1.2.1.length:Int)∧x.2.toNat<x.1.2.1.length∧(x.1.1,x.1.2.1.set x.2.toNat (-1),x.1.2.2)=(ga x.1 x.2).1∧0=(ga x.1 x.2).2∧True)
theorem z8:ta:=by
 unfold ta;intro ⟨s,slot⟩ hx _;simp only at hx ⊢;have hF:ga s slot=if bO s slot≠0 then (aP,bO s slot) else ((s.1,s.2.1.set slot.toNat (-1),s.2.2),0):=rfl
 rw [hF];refine ⟨trivial,fun h=>?_,fun h tm=>⟨trivial,trivial,trivial,by trivial,by trivial,by trivial,by trivial,by trivial,by trivial,trivial,?_⟩⟩
 ·rw [if_pos (of_decide_eq_true h)];exact ⟨by trivial,by trivial,trivial⟩
 ·have hs:=EV (by simpa using of_decide_eq_false h:bO s slot=0);rw [if_neg (of_decide_eq_false h)];exact ⟨hs.1,hs.2,by omega,by trivial,by trivial,trivial⟩
theorem D0:Dw.ok Tryz.prog 28:=aD (ann:=fO) (ae oK (ae bX (ae cr (ae ch (ae bY aq))))) Tryz.func28 (by kernel_rfl) z8
def gO (h:du):Int:=if af h≠0 then af h else if h.2.2.2=true then 3 else 0
theorem KB {h:du} (hh:gO h=0):af h=0∧h.2.2.2=false:=by
 unfold gO at hh;split at hh
 ·omega
 split at hh
 ·omega
 rename_i h1 h2;exact ⟨by omega,by simpa using h2⟩
theorem ne {a:List Int} (hc:(au a).2.2=0) {h:du} (h0:af h=0) (hf:h.2.2.2=false):match (aU false [] (aa a).1).find? (fun r=>decide (ac h≤r.2)) with
  | none=>bM (aU false [] (aa a).1) (ac h)=(0,7)∧im a h=([],0,false)
  | some r=>∃ i,0≤i∧i<((aU false [] (aa a).1).length:Int)∧bM (aU false [] (aa a).1) (ac h)=(i,0)∧(aU false [] (aa a).1).getD i.toNat (0,0)=r∧ek (dm a).1 r.1 h=(yY a r h,0)∧im a h=(yY a r h,r.1,true):=by
 have hgi:=(o6 (b7 hc).2.2.2.1).1;have hz:=bj h0;have hL:ac h=1+h.1+h.2.1:=rfl;have hff:=Hk (n:=ac h) (l:=aU false [] (aa a).1) (by omega) (fun r hr=>by have:=hgi r hr; omega);have hfi:=xx (ac h) (aU false [] (aa a).1) 0;cases hfd:(aU false [] (aa a).1).find? (fun r=>decide (ac h≤r.2)) with
 | none =>
  rw [hfd] at hfi;simp only at hfi ⊢;rw [if_pos hfi] at hff;refine ⟨hff,?_⟩;unfold im;rw [hfd]
 | some r =>
  rw [hfd] at hfi;obtain ⟨i,i0,i1,i2,i3,i4⟩:=hfi;rw [if_neg i3,i4,Int.zero_add] at hff;have hr:=List.mem_of_find?_eq_some hfd;have hle:ac h≤r.2:=by simpa using List.find?_some hfd
  refine ⟨i,i0,i1,hff,i2,DX hc hr h0 hf hle,?_⟩;unfold im;rw [hfd]
def l9 (s:ap) (h:du):Prop:=(au s.1).2.2=0∧gO h=0
def Hz:Nat→Option LoopGen
 | 3000056=>some fe
 | 5704000001=>some fe
 | 3000057=>some fe
 | 5804000007=>some fe
 | 3000058=>some fe
 | 5905000004=>some { rd:=[.boxS 1 [.own 29 a8,.own 3 ty_I,.own 133 cz,.own 82 bC]],A:=fun (s:ap)=>{ cs:=[.own 9 3 ty_I,.own 10 3 ty_I],inv:=fun ((ra,ha):List Int×List Int)=>ra=List.replicate s.1.length 0∧ha=List.replicate 256 0,mu:=fun _=>0 } }
 | 5900000006=>some { wr:=[9,10],rd:=[.boxS 1 [.own 29 a8,.own 3 ty_I,.own 133 cz,.own 82 bC]],A:=fun (s:ap)=>{ cs:=[.own 9 3 ty_I,.own 10 3 ty_I,.dat 42 ty_I],inv:=fun ((ra,ha,i):List Int×List Int×Int)=>0≤i∧i≤(an s).length∧ra=b8 (List.replicate s.1.length 0) ((an s).take i.toNat) (kw s)∧ha=b8 (List.replicate 256 0) ((an s).take i.toNat) (kw s),mu:=fun ((_,_,i):List Int×List Int×Int)=>((an s).length - i).toNat } }
 | 5900000015=>some { rd:=[.own 86 129 ft],A:=fun (g:List bW)=>{ cs:=[.dat 13 ty_I,.dat 88 ty_I],inv:=fun ((n,i):Int×Int)=>0≤i∧i≤g.length∧g.length≤256∧(∀ r∈g,0≤r.2∧r.2≤256)∧n=eo (g.take i.toNat)∧0≤n∧n≤256 * i,mu:=fun ((_,i):Int×Int)=>(g.length - i).toNat } }
 | _=>none
def jl (s:ap) (slot:Int) (h:du):ap×Bool:=((((im s.1 h).1,s.2.1.set slot.toNat (im s.1 h).2.1,s.2.2):ap),(im s.1 h).2.2)
def bK (s:ap) (slot:Int) (h:du):ap×Bool×Int :=
 if bO s slot≠0 then (aP,false,bO s slot) else if gO h≠0 then (aP,false,gO h) else
 if (jl s slot h).2=true then ((jl s slot h).1,false,0) else if (jl (bc s) slot h).2=true then ((jl (bc s) slot h).1,true,0) else (aP,false,7)
def Gg:Spec:={ Ts:=[aH,ty_I,de],Rs:=[.dat aH,.dat .bool,.dat ty_I],al:=true,pre:=fun _=>True,F:=fun ((s,slot,h):ap×Int×du)=>bK s slot h }
def wK:Prop :=
  ∀ (x:(List Int×List Int×List (Int×Int)×List (Int×Bool×Int))×Int×Int×Int×Int×Bool),((x.1.1.length * 8≤aA∧∀ (x_1:Int),x_1∈x.1.1→ak .u64 x_1)∧(x.1.2.1.length * 8≤aA∧∀ (x_1:Int),x_1∈x.1.2.1→ak .i64 x_1)∧(x.1.2.2.1.length * (8+8)≤aA∧∀ (x_1:Int×Int),x_1∈x.1.2.2.1→ak .i64 x_1.1∧ak .i64 x_1.2)∧x.1.2.2.2.length * (8+(8+8))≤aA∧∀ (x_1:Int×Bool×Int),x_1∈x.1.2.2.2→ak .i64 x_1.1∧True∧ak .i64 x_1.2.2)∧ak .i64 x.2.1∧ak .i64 x.2.2.1∧ak .i64 x.2.2.2.1∧ak .i64 x.2.2.2.2.1∧True→True→True∧(decide (aG x.1≠0)=true→(([]:List Int),([]:List Int),([]:List (Int×Int)),([]:List (Int×Bool×Int)))=(bK x.1 x.2.1 x.2.2).1∧false=(bK x.1 x.2.1 x.2.2).2.1∧aG x.1=(bK x.1 x.2.1 x.2.2).2.2∧True)∧(decide (aG x.1≠0)=false→((decide (x.2.1<0)||decide ((↑x.1.2.1.length:Int)≤x.2.1))=true→(([]:List Int),([]:List Int),([]:List (Int×Int)),([]:List (Int×Bool×Int)))=(bK x.1 x.2.1 x.2.2).1∧false=(bK x.1 x.2.1 x.2.2).2.1∧5=(bK x.1 x.2.1 x.2.2).2.2∧True)∧((decide (x.2.1<0)||decide ((↑x.1.2.1.length:Int)≤x.2.1))=false→True∧(decide (af x.2.2≠0)=true→(([]:List Int),([]:List Int),([]:List (Int×Int)),([]:List (Int×Bool×Int)))=(bK x.1 x.2.1 x.2.2).1∧false=(bK x.1 x.2.1 x.2.2).2.1∧af x.2.2=(bK x.1 x.2.1 x.2.2).2.2∧True)∧(decide (af x.2.2≠0)=false→(x.2.2.2.2.2=true→(([]:List Int),([]:List Int),([]:List (Int×Int)),([]:List (Int×Bool×Int)))=(bK x.1 x.2.1 x.2.2).1∧false=(bK x.1 x.2.1 x.2.2).2.1∧3=(bK x.1 x.2.1 x.2.2).2.2∧True)∧(x.2.2.2.2.2=false→∀ (_:Array Value),True∧True∧True∧x.1.2.1=x.1.2.1∧x.1.2.2.1=x.1.2.2.1∧x.1.2.2.1=x.1.2.2.1∧x.1.2.2.2=x.1.2.2.2∧x.1.2.2.2=x.1.2.2.2∧x.1.2.2.2=x.1.2.2.2∧True∧∀ (_:Array Value),True∧True∧True∧(decide ((bM (ax x.1.1).1 (if af x.2.2=0 then ac x.2.2 else (0:Int))).2≠0)=true→((!false)=true→∀ (_:Array Value),(x.1.2.1.length≤32∧x.1.2.2.1.length≤16∧x.1.2.2.2.length≤16)∧True∧((an x.1).length+(List.map (fun (x:bk)=>x.1) x.1.2.2.1).length) * 8≤140737488355328∧True∧((((0≤(↑x.1.1.length:Int)∧(↑x.1.1.length:Int).toNat * 8≤aA∧((0:Int)≤256∧Int.toNat 256 * 8≤aA∧((List.replicate (↑x.1.1.length:Int).toNat (0:Int)=List.replicate x.1.1.length (0:Int)∧List.replicate (Int.toNat 256) (0:Int)=List.replicate 256 (0:Int))∧True)∧True)∧(((0:Int)≤256∧Int.toNat 256 * 8≤aA∧(List.replicate (↑x.1.1.length:Int).toNat (0:Int)=List.replicate x.1.1.length (0:Int)∧List.replicate (Int.toNat 256) (0:Int)=List.replicate 256 (0:Int))∧True)∧True)∧True)∧((0:Int)≤256∧Int.toNat 256 * 8≤aA∧(0≤(↑x.1.1.length:Int)∧(↑x.1.1.length:Int).toNat * 8≤aA∧((List.replicate (↑x.1.1.length:Int).toNat (0:Int)=List.replicate x.1.1.length (0:Int)∧List.replicate (Int.toNat 256) (0:Int)=List.replicate 256 (0:Int))∧True)∧True)∧True)∧True)∧((0:Int)≤256∧Int.toNat 256 * 8≤aA∧((0≤(↑x.1.1.length:Int)∧(↑x.1.1.length:Int).toNat * 8≤aA∧((List.replicate (↑x.1.1.length:Int).toNat (0:Int)=List.replicate x.1.1.length (0:Int)∧List.replicate (Int.toNat 256) (0:Int)=List.replicate 256 (0:Int))∧True)∧True)∧True)∧True)∧True)∧((0:Int)≤256∧Int.toNat 256 * 8≤aA∧(((0≤(↑x.1.1.length:Int)∧(↑x.1.1.length:Int).toNat * 8≤aA∧((List.replicate (↑x.1.1.length:Int).toNat (0:Int)=List.replicate x.1.1.length (0:Int)∧List.replicate (Int.toNat 256) (0:Int)=List.replicate 256 (0:Int))∧True)∧True)∧True)∧True)∧True)∧True)∧∀ (x_1:List Int×List Int),x_1.1=List.replicate x.1.1.length (0:Int)∧x_1.2=List.replicate 256 (0:Int)→((0:Int)≤0∧0≤(↑(an x.1).length:Int)∧x_1.1=b8 (List.replicate x.1.1.length (0:Int)) (List.take (Int.toNat 0) (an x.1)) (kw x.1)∧x_1.2=b8 (List.replicate 256 (0:Int)) (List.take (Int.toNat 0) (an x.1)) (kw x.1))∧∀ (x_2:List Int×List Int×Int),0≤x_2.2.2∧x_2.2.2≤(↑(an x.1).length:Int)∧x_2.1=b8 (List.replicate x.1.1.length (0:Int)) (List.take x_2.2.2.toNat (an x.1)) (kw x.1)∧x_2.2.1=b8 (List.replicate 256 (0:Int)) (List.take x_2.2.2.toNat (an x.1)) (kw x.1)→(decide (x_2.2.2<(↑(an x.1).length:Int))=true→0≤x_2.2.2∧x_2.2.2<(↑(an x.1).length:Int)∧x_2.2.2.toNat<(an x.1).length∧0≤x_2.2.2∧x_2.2.2<(↑(aw x.1.1 (an x.1) (List.map (fun (x:bk)=>x.1) x.1.2.2.1)).2.1.length:Int)∧0≤x_2.2.2∧x_2.2.2<(↑(aw x.1.1 (an x.1) (List.map (fun (x:bk)=>x.1) x.1.2.2.1)).2.1.length:Int)∧0≤(an x.1).getD x_2.2.2.toNat 0∧(an x.1).getD x_2.2.2.toNat 0<(↑x_2.1.length:Int)∧((an x.1).getD x_2.2.2.toNat 0).toNat<x_2.1.length∧(an x.1).getD x_2.2.2.toNat 0=(an x.1).getD x_2.2.2.toNat 0∧0≤(an x.1).getD x_2.2.2.toNat 0∧(an x.1).getD x_2.2.2.toNat 0<(↑x_2.2.1.length:Int)∧((an x.1).getD x_2.2.2.toNat 0).toNat<x_2.2.1.length∧ak .i64 (x_2.2.2+1)∧(0≤x_2.2.2+1∧x_2.2.2+1≤(↑(an x.1).length:Int)∧x_2.1.set ((an x.1).getD x_2.2.2.toNat 0).toNat ((aw x.1.1 (an x.1) (List.map (fun (x:bk)=>x.1) x.1.2.2.1)).2.1.getD x_2.2.2.toNat 0)=b8 (List.replicate x.1.1.length (0:Int)) (List.take (x_2.2.2+1).toNat (an x.1)) (kw x.1)∧x_2.2.1.set ((an x.1).getD x_2.2.2.toNat 0).toNat ((aw x.1.1 (an x.1) (List.map (fun (x:bk)=>x.1) x.1.2.2.1)).2.1.getD x_2.2.2.toNat 0)=b8 (List.replicate 256 (0:Int)) (List.take (x_2.2.2+1).toNat (an x.1)) (kw x.1))∧((↑(an x.1).length:Int) - (x_2.2.2+1)).toNat<((↑(an x.1).length:Int) - x_2.2.2).toNat)∧(decide (x_2.2.2<(↑(an x.1).length:Int))=false→True∧True∧True∧((0:Int)≤0∧0≤(↑(ax (aw x.1.1 (an x.1) (List.map (fun (x:bk)=>x.1) x.1.2.2.1)).1).1.length:Int)∧(ax (aw x.1.1 (an x.1) (List.map (fun (x:bk)=>x.1) x.1.2.2.1)).1).1.length≤256∧(∀ (r:bW),r∈(ax (aw x.1.1 (an x.1) (List.map (fun (x:bk)=>x.1) x.1.2.2.1)).1).1→0≤r.2∧r.2≤256)∧0=eo (List.take (Int.toNat 0) (ax (aw x.1.1 (an x.1) (List.map (fun (x:bk)=>x.1) x.1.2.2.1)).1).1)∧(0:Int)≤0∧(0:Int)≤256 * 0)∧∀ (x_3:Int×Int),0≤x_3.2∧x_3.2≤(↑(ax (aw x.1.1 (an x.1) (List.map (fun (x:bk)=>x.1) x.1.2.2.1)).1).1.length:Int)∧(ax (aw x.1.1 (an x.1) (List.map (fun (x:bk)=>x.1) x.1.2.2.1)).1).1.length≤256∧(∀ (r:bW),r∈(ax (aw x.1.1 (an x.1) (List.map (fun (x:bk)=>x.1) x.1.2.2.1)).1).1→0≤r.2∧r.2≤256)∧x_3.1=eo (List.take x_3.2.toNat (ax (aw x.1.1 (an x.1) (List.map (fun (x:bk)=>x.1) x.1.2.2.1)).1).1)∧0≤x_3.1∧x_3.1≤256 * x_3.2→(decide (x_3.2<(↑(ax (aw x.1.1 (an x.1) (List.map (fun (x:bk)=>x.1) x.1.2.2.1)).1).1.length:Int))=true→0≤x_3.2∧x_3.2<(↑(ax (aw x.1.1 (an x.1) (List.map (fun (x:bk)=>x.1) x.1.2.2.1)).1).1.length:Int)∧x_3.2.toNat<(ax (aw x.1.1 (an x.1) (List.map (fun (x:bk)=>x.1) x.1.2.2.1)).1).1.length∧ak .i64 (x_3.1+((ax (aw x.1.1 (an x.1) (List.map (fun (x:bk)=>x.1) x.1.2.2.1)).1).1.getD x_3.2.toNat (0,0)).2)∧ak .i64 (x_3.2+1)∧(0≤x_3.2+1∧x_3.2+1≤(↑(ax (aw x.1.1 (an x.1) (List.map (fun (x:bk)=>x.1) x.1.2.2.1)).1).1.length:Int)∧(ax (aw x.1.1 (an x.1) (List.map (fun (x:bk)=>x.1) x.1.2.2.1)).1).1.length≤256∧(∀ (r:bW),r∈(ax (aw x.1.1 (an x.1) (List.map (fun (x:bk)=>x.1) x.1.2.2.1)).1).1→0≤r.2∧r.2≤256)∧x_3.1+((ax (aw x.1.1 (an x.1) (List.map (fun (x:bk)=>x.1) x.1.2.2.1)).1).1.getD x_3.2.toNat (0,0)).2=eo (List.take (x_3.2+1).toNat (ax (aw x.1.1 (an x.1) (List.map (fun (x:bk)=>x.1) x.1.2.2.1)).1).1)∧0≤x_3.1+((ax (aw x.1.1 (an x.1) (List.map (fun (x:bk)=>x.1) x.1.2.2.1)).1).1.getD x_3.2.toNat (0,0)).2∧x_3.1+((ax (aw x.1.1 (an x.1) (List.map (fun (x:bk)=>x.1) x.1.2.2.1)).1).1.getD x_3.2.toNat (0,0)).2≤256 * (x_3.2+1))∧((↑(ax (aw x.1.1 (an x.1) (List.map (fun (x:bk)=>x.1) x.1.2.2.1)).1).1.length:Int) - (x_3.2+1)).toNat<((↑(ax (aw x.1.1 (an x.1) (List.map (fun (x:bk)=>x.1) x.1.2.2.1)).1).1.length:Int) - x_3.2).toNat)∧(decide (x_3.2<(↑(ax (aw x.1.1 (an x.1) (List.map (fun (x:bk)=>x.1) x.1.2.2.1)).1).1.length:Int))=false→∀ (_:Array Value),True∧True∧True∧(decide ((bM (ax (aw x.1.1 (an x.1) (List.map (fun (x:bk)=>x.1) x.1.2.2.1)).1).1 (if af x.2.2=0 then ac x.2.2 else (0:Int))).2≠0)=true→((!false)=true→(([]:List Int),([]:List Int),([]:List (Int×Int)),([]:List (Int×Bool×Int)))=(bK x.1 x.2.1 x.2.2).1∧false=(bK x.1 x.2.1 x.2.2).2.1∧7=(bK x.1 x.2.1 x.2.2).2.2∧True)∧((!false)=false→0≤x.2.1∧x.2.1<(↑(bB x.1.2.1 (↑x.1.1.length:Int) x_2.1).1.length:Int)∧x.2.1.toNat<(bB x.1.2.1 (↑x.1.1.length:Int) x_2.1).1.length∧(([]:List Int),(bB x.1.2.1 (↑x.1.1.length:Int) x_2.1).1.set x.2.1.toNat 0,x.1.2.2.1,(fU x.1.2.2.2 x_2.2.1).1)=(bK x.1 x.2.1 x.2.2).1∧(!false)=(bK x.1 x.2.1 x.2.2).2.1∧0=(bK x.1 x.2.1 x.2.2).2.2∧True))∧(decide ((bM (ax (aw x.1.1 (an x.1) (List.map (fun (x:bk)=>x.1) x.1.2.2.1)).1).1 (if af x.2.2=0 then ac x.2.2 else (0:Int))).2≠0)=false→True∧0≤(bM (ax (aw x.1.1 (an x.1) (List.map (fun (x:bk)=>x.1) x.1.2.2.1)).1).1 (if af x.2.2=0 then ac x.2.2 else (0:Int))).1∧(bM (ax (aw x.1.1 (an x.1) (List.map (fun (x:bk)=>x.1) x.1.2.2.1)).1).1 (if af x.2.2=0 then ac x.2.2 else (0:Int))).1<(↑(ax (aw x.1.1 (an x.1) (List.map (fun (x:bk)=>x.1) x.1.2.2.1)).1).1.length:Int)∧(bM (ax (aw x.1.1 (an x.1) (List.map (fun (x:bk)=>x.1) x.1.2.2.1)).1).1 (if af x.2.2=0 then ac x.2.2 else (0:Int))).1.toNat<(ax (aw x.1.1 (an x.1) (List.map (fun (x:bk)=>x.1) x.1.2.2.1)).1).1.length∧True∧(ek (dm (aw x.1.1 (an x.1) (List.map (fun (x:bk)=>x.1) x.1.2.2.1)).1).1 ((ax (aw x.1.1 (an x.1) (List.map (fun (x:bk)=>x.1) x.1.2.2.1)).1).1.getD (bM (ax (aw x.1.1 (an x.1) (List.map (fun (x:bk)=>x.1) x.1.2.2.1)).1).1 (if af x.2.2=0 then ac x.2.2 else (0:Int))).1.toNat (0,0)).1 x.2.2).2=(ek (dm (aw x.1.1 (an x.1) (List.map (fun (x:bk)=>x.1) x.1.2.2.1)).1).1 ((ax (aw x.1.1 (an x.1) (List.map (fun (x:bk)=>x.1) x.1.2.2.1)).1).1.getD (bM (ax (aw x.1.1 (an x.1) (List.map (fun (x:bk)=>x.1) x.1.2.2.1)).1).1 (if af x.2.2=0 then ac x.2.2 else (0:Int))).1.toNat (0,0)).1 x.2.2).2∧0≤(bM (ax (aw x.1.1 (an x.1) (List.map (fun (x:bk)=>x.1) x.1.2.2.1)).1).1 (if af x.2.2=0 then ac x.2.2 else (0:Int))).1∧(bM (ax (aw x.1.1 (an x.1) (List.map (fun (x:bk)=>x.1) x.1.2.2.1)).1).1 (if af x.2.2=0 then ac x.2.2 else (0:Int))).1<(↑(ax (aw x.1.1 (an x.1) (List.map (fun (x:bk)=>x.1) x.1.2.2.1)).1).1.length:Int)∧(bM (ax (aw x.1.1 (an x.1) (List.map (fun (x:bk)=>x.1) x.1.2.2.1)).1).1 (if af x.2.2=0 then ac x.2.2 else (0:Int))).1.toNat<(ax (aw x.1.1 (an x.1) (List.map (fun (x:bk)=>x.1) x.1.2.2.1)).1).1.length∧((!true)=true→(([]:List Int),([]:List Int),([]:List (Int×Int)),([]:List (Int×Bool×Int)))=(bK x.1 x.2.1 x.2.2).1∧false=(bK x.1 x.2.1 x.2.2).2.1∧7=(bK x.1 x.2.1 x.2.2).2.2∧True)∧((!true)=false→0≤x.2.1∧x.2.1<(↑(bB x.1.2.1 (↑x.1.1.length:Int) x_2.1).1.length:Int)∧x.2.1.toNat<(bB x.1.2.1 (↑x.1.1.length:Int) x_2.1).1.length∧((ek (dm (aw x.1.1 (an x.1) (List.map (fun (x:bk)=>x.1) x.1.2.2.1)).1).1 ((ax (aw x.1.1 (an x.1) (List.map (fun (x:bk)=>x.1) x.1.2.2.1)).1).1.getD (bM (ax (aw x.1.1 (an x.1) (List.map (fun (x:bk)=>x.1) x.1.2.2.1)).1).1 (if af x.2.2=0 then ac x.2.2 else (0:Int))).1.toNat (0,0)).1 x.2.2).1,(bB x.1.2.1 (↑x.1.1.length:Int) x_2.1).1.set x.2.1.toNat ((ax (aw x.1.1 (an x.1) (List.map (fun (x:bk)=>x.1) x.1.2.2.1)).1).1.getD (bM (ax (aw x.1.1 (an x.1) (List.map (fun (x:bk)=>x.1) x.1.2.2.1)).1).1 (if af x.2.2=0 then ac x.2.2 else (0:Int))).1.toNat (0,0)).1,x.1.2.2.1,(fU x.1.2.2.2 x_2.2.1).1)=(bK x.1 x.2.1 x.2.2).1∧(!false)=(bK x.1 x.2.1 x.2.2).2.1∧0=(bK x.1 x.2.1 x.2.2).2.2∧True)))))∧((!false)=false→0≤x.2.1∧x.2.1<(↑x.1.2.1.length:Int)∧x.2.1.toNat<x.1.2.1.length∧(([]:List Int),x.1.2.1.set x.2.1.toNat 0,x.1.2.2)=(bK x.1 x.2.1 x.2.2).1∧(!false)=(bK x.1 x.2.1 x.2.2).2.1∧0=(bK x.1 x.2.1 x.2.2).2.2∧True))∧(decide ((bM (ax x.1.1).1 (if af x.2.2=0 then ac x.2.2 else (0:Int))).2≠0)=false→True∧0≤(bM (ax x.1.1).1 (if af x.2.2=0 then ac x.2.2 else (0:Int))).1∧(bM (ax x.1.1).1 (if af x.2.2=0 then ac x.2.2 else (0:Int))).1<(↑(ax x.1.1).1.length:Int)∧(bM (ax x.1.1).1 (if af x.2.2=0 then ac x.2.2 else (0:Int))).1.toNat<(ax x.1.1).1.length∧True∧(ek (dm x.1.1).1 ((ax x.1.1).1.getD (bM (ax x.1.1).1 (if af x.2.2=0 then ac x.2.2 else (0:Int))).1.toNat (0,0)).1 x.2.2).2=(ek (dm x.1.1).1 ((ax x.1.1).1.getD (bM (ax x.1.1).1 (if af x.2.2=0 then ac x.2.2 else (0:Int))).1.toNat (0,0)).1 x.2.2).2∧0≤(bM (ax x.1.1).1 (if af x.2.2=0 then ac x.2.2 else (0:Int))).1∧(bM (ax x.1.1).1 (if af x.2.2=0 then ac x.2.2 else (0:Int))).1<(↑(ax x.1.1).1.length:Int)∧(bM (ax x.1.1).1 (if af x.2.2=0 then ac x.2.2 else (0:Int))).1.toNat<(ax x.1.1).1.length∧((!true)=true→∀ (_:Array Value),(x.1.2.1.length≤32∧x.1.2.2.1.length≤16∧x.1.2.2.2.length≤16)∧True∧((an x.1).length+(List.map (fun (x:bk)=>x.1) x.1.2.2.1).length) * 8≤140737488355328∧True∧((((0≤(↑x.1.1.length:Int)∧(↑x.1.1.length:Int).toNat * 8≤aA∧((0:Int)≤256∧Int.toNat 256 * 8≤aA∧((List.replicate (↑x.1.1.length:Int).toNat (0:Int)=List.replicate x.1.1.length (0:Int)∧List.replicate (Int.toNat 256) (0:Int)=List.replicate 256 (0:Int))∧True)∧True)∧(((0:Int)≤256∧Int.toNat 256 * 8≤aA∧(List.replicate (↑x.1.1.length:Int).toNat (0:Int)=List.replicate x.1.1.length (0:Int)∧List.replicate (Int.toNat 256) (0:Int)=List.replicate 256 (0:Int))∧True)∧True)∧True)∧((0:Int)≤256∧Int.toNat 256 * 8≤aA∧(0≤(↑x.1.1.length:Int)∧(↑x.1.1.length:Int).toNat * 8≤aA∧((List.replicate (↑x.1.1.length:Int).toNat (0:Int)=List.replicate x.1.1.length (0:Int)∧List.replicate (Int.toNat 256) (0:Int)=List.replicate 256 (0:Int))∧True)∧True)∧True)∧True)∧((0:Int)≤256∧Int.toNat 256 * 8≤aA∧((0≤(↑x.1.1.length:Int)∧(↑x.1.1.length:Int).toNat * 8≤aA∧((List.replicate (↑x.1.1.length:Int).toNat (0:Int)=List.replicate x.1.1.length (0:Int)∧List.replicate (Int.toNat 256) (0:Int)=List.replicate 256 (0:Int))∧True)∧True)∧True)∧True)∧True)∧((0:Int)≤256∧Int.toNat 256 * 8≤aA∧(((0≤(↑x.1.1.length:Int)∧(↑x.1.1.length:Int).toNat * 8≤aA∧((List.replicate (↑x.1.1.length:Int).toNat (0:Int)=List.replicate x.1.1.length (0:Int)∧List.replicate (Int.toNat 256) (0:Int)=List.replicate 256 (0:Int))∧True)∧True)∧True)∧True)∧True)∧True)∧∀ (x_1:List Int×List Int),x_1.1=List.replicate x.1.1.length (0:Int)∧x_1.2=List.replicate 256 (0:Int)→((0:Int)≤0∧0≤(↑(an x.1).length:Int)∧x_1.1=b8 (List.replicate x.1.1.length (0:Int)) (List.take (Int.toNat 0) (an x.1)) (kw x.1)∧x_1.2=b8 (List.replicate 256 (0:Int)) (List.take (Int.toNat 0) (an x.1)) (kw x.1))∧∀ (x_2:List Int×List Int×Int),0≤x_2.2.2∧x_2.2.2≤(↑(an x.1).length:Int)∧x_2.1=b8 (List.replicate x.1.1.length (0:Int)) (List.take x_2.2.2.toNat (an x.1)) (kw x.1)∧x_2.2.1=b8 (List.replicate 256 (0:Int)) (List.take x_2.2.2.toNat (an x.1)) (kw x.1)→(decide (x_2.2.2<(↑(an x.1).length:Int))=true→0≤x_2.2.2∧x_2.2.2<(↑(an x.1).length:Int)∧x_2.2.2.toNat<(an x.1).length∧0≤x_2.2.2∧x_2.2.2<(↑(aw x.1.1 (an x.1) (List.map (fun (x:bk)=>x.1) x.1.2.2.1)).2.1.length:Int)∧0≤x_2.2.2∧x_2.2.2<(↑(aw x.1.1 (an x.1) (List.map (fun (x:bk)=>x.1) x.1.2.2.1)).2.1.length:Int)∧0≤(an x.1).getD x_2.2.2.toNat 0∧(an x.1).getD x_2.2.2.toNat 0<(↑x_2.1.length:Int)∧((an x.1).getD x_2.2.2.toNat 0).toNat<x_2.1.length∧(an x.1).getD x_2.2.2.toNat 0=(an x.1).getD x_2.2.2.toNat 0∧0≤(an x.1).getD x_2.2.2.toNat 0∧(an x.1).getD x_2.2.2.toNat 0<(↑x_2.2.1.length:Int)∧((an x.1).getD x_2.2.2.toNat 0).toNat<x_2.2.1.length∧ak .i64 (x_2.2.2+1)∧(0≤x_2.2.2+1∧x_2.2.2+1≤(↑(an x.1).length:Int)∧x_2.1.set ((an x.1).getD x_2.2.2.toNat 0).toNat ((aw x.1.1 (an x.1) (List.map (fun (x:bk)=>x.1) x.1.2.2.1)).2.1.getD x_2.2.2.toNat 0)=b8 (List.replicate x.1.1.length (0:Int)) (List.take (x_2.2.2+1).toNat (an x.1)) (kw x.1)∧x_2.2.1.set ((an x.1).getD x_2.2.2.toNat 0).toNat ((aw x.1.1 (an x.1) (List.map (fun (x:bk)=>x.1) x.1.2.2.1)).2.1.getD x_2.2.2.toNat 0)=b8 (List.replicate 256 (0:Int)) (List.take (x_2.2.2+1).toNat (an x.1)) (kw x.1))∧((↑(an x.1).length:Int) - (x_2.2.2+1)).toNat<((↑(an x.1).length:Int) - x_2.2.2).toNat)∧(decide (x_2.2.2<(↑(an x.1).length:Int))=false→True∧True∧True∧((0:Int)≤0∧0≤(↑(ax (aw x.1.1 (an x.1) (List.map (fun (x:bk)=>x.1) x.1.2.2.1)).1).1.length:Int)∧(ax (aw x.1.1 (an x.1) (List.map (fun (x:bk)=>x.1) x.1.2.2.1)).1).1.length≤256∧(∀ (r:bW),r∈(ax (aw x.1.1 (an x.1) (List.map (fun (x:bk)=>x.1) x.1.2.2.1)).1).1→0≤r.2∧r.2≤256)∧0=eo (List.take (Int.toNat 0) (ax (aw x.1.1 (an x.1) (List.map (fun (x:bk)=>x.1) x.1.2.2.1)).1).1)∧(0:Int)≤0∧(0:Int)≤256 * 0)∧∀ (x_3:Int×Int),0≤x_3.2∧x_3.2≤(↑(ax (aw x.1.1 (an x.1) (List.map (fun (x:bk)=>x.1) x.1.2.2.1)).1).1.length:Int)∧(ax (aw x.1.1 (an x.1) (List.map (fun (x:bk)=>x.1) x.1.2.2.1)).1).1.length≤256∧(∀ (r:bW),r∈(ax (aw x.1.1 (an x.1) (List.map (fun (x:bk)=>x.1) x.1.2.2.1)).1).1→0≤r.2∧r.2≤256)∧x_3.1=eo (List.take x_3.2.toNat (ax (aw x.1.1 (an x.1) (List.map (fun (x:bk)=>x.1) x.1.2.2.1)).1).1)∧0≤x_3.1∧x_3.1≤256 * x_3.2→(decide (x_3.2<(↑(ax (aw x.1.1 (an x.1) (List.map (fun (x:bk)=>x.1) x.1.2.2.1)).1).1.length:Int))=true→0≤x_3.2∧x_3.2<(↑(ax (aw x.1.1 (an x.1) (List.map (fun (x:bk)=>x.1) x.1.2.2.1)).1).1.length:Int)∧x_3.2.toNat<(ax (aw x.1.1 (an x.1) (List.map (fun (x:bk)=>x.1) x.1.2.2.1)).1).1.length∧ak .i64 (x_3.1+((ax (aw x.1.1 (an x.1) (List.map (fun (x:bk)=>x.1) x.1.2.2.1)).1).1.getD x_3.2.toNat (0,0)).2)∧ak .i64 (x_3.2+1)∧(0≤x_3.2+1∧x_3.2+1≤(↑(ax (aw x.1.1 (an x.1) (List.map (fun (x:bk)=>x.1) x.1.2.2.1)).1).1.length:Int)∧(ax (aw x.1.1 (an x.1) (List.map (fun (x:bk)=>x.1) x.1.2.2.1)).1).1.length≤256∧(∀ (r:bW),r∈(ax (aw x.1.1 (an x.1) (List.map (fun (x:bk)=>x.1) x.1.2.2.1)).1).1→0≤r.2∧r.2≤256)∧x_3.1+((ax (aw x.1.1 (an x.1) (List.map (fun (x:bk)=>x.1) x.1.2.2.1)).1).1.getD x_3.2.toNat (0,0)).2=eo (List.take (x_3.2+1).toNat (ax (aw x.1.1 (an x.1) (List.map (fun (x:bk)=>x.1) x.1.2.2.1)).1).1)∧0≤x_3.1+((ax (aw x.1.1 (an x.1) (List.map (fun (x:bk)=>x.1) x.1.2.2.1)).1).1.getD x_3.2.toNat (0,0)).2∧x_3.1+((ax (aw x.1.1 (an x.1) (List.map (fun (x:bk)=>x.1) x.1.2.2.1)).1).1.getD x_3.2.toNat (0,0)).2≤256 * (x_3.2+1))∧((↑(ax (aw x.1.1 (an x.1) (List.map (fun (x:bk)=>x.1) x.1.2.2.1)).1).1.length:Int) - (x_3.2+1)).toNat<((↑(ax (aw x.1.1 (an x.1) (List.map (fun (x:bk)=>x.1) x.1.2.2.1)).1).1.length:Int) - x_3.2).toNat)∧(decide (x_3.2<(↑(ax (aw x.1.1 (an x.1) (List.map (fun (x:bk)=>x.1) x.1.2.2.1)).1).1.length:Int))=false→∀ (_:Array Value),True∧True∧True∧(decide ((bM (ax (aw x.1.1 (an x.1) (List.map (fun (x:bk)=>x.1) x.1.2.2.1)).1).1 (if af x.2.2=0 then ac x.2.2 else (0:Int))).2≠0)=true→((!false)=true→(([]:List Int),([]:List Int),([]:List (Int×Int)),([]:List (Int×Bool×Int)))=(bK x.1 x.2.1 x.2.2).1∧false=(bK x.1 x.2.1 x.2.2).2.1∧7=(bK x.1 x.2.1 x.2.2).2.2∧True)∧((!false)=false→0≤x.2.1∧x.2.1<(↑(bB x.1.2.1 (↑x.1.1.length:Int) x_2.1).1.length:Int)∧x.2.1.toNat<(bB x.1.2.1 (↑x.1.1.length:Int) x_2.1).1.length∧(([]:List Int),(bB x.1.2.1 (↑x.1.1.length:Int) x_2.1).1.set x.2.1.toNat 0,x.1.2.2.1,(fU x.1.2.2.2 x_2.2.1).1)=(bK x.1 x.2.1 x.2.2).1∧(!true)=(bK x.1 x.2.1 x.2.2).2.1∧0=(bK x.1 x.2.1 x.2.2).2.2∧True))∧(decide ((bM (ax (aw x.1.1 (an x.1) (List.map (fun (x:bk)=>x.1) x.1.2.2.1)).1).1 (if af x.2.2=0 then ac x.2.2 else (0:Int))).2≠0)=false→True∧0≤(bM (ax (aw x.1.1 (an x.1) (List.map (fun (x:bk)=>x.1) x.1.2.2.1)).1).1 (if af x.2.2=0 then ac x.2.2 else (0:Int))).1∧(bM (ax (aw x.1.1 (an x.1) (List.map (fun (x:bk)=>x.1) x.1.2.2.1)).1).1 (if af x.2.2=0 then ac x.2.2 else (0:Int))).1<(↑(ax (aw x.1.1 (an x.1) (List.map (fun (x:bk)=>x.1) x.1.2.2.1)).1).1.length:Int)∧(bM (ax (aw x.1.1 (an x.1) (List.map (fun (x:bk)=>x.1) x.1.2.2.1)).1).1 (if af x.2.2=0 then ac x.2.2 else (0:Int))).1.toNat<(ax (aw x.1.1 (an x.1) (List.map (fun (x:bk)=>x.1) x.1.2.2.1)).1).1.length∧True∧(ek (dm (aw x.1.1 (an x.1) (List.map (fun (x:bk)=>x.1) x.1.2.2.1)).1).1 ((ax (aw x.1.1 (an x.1) (List.map (fun (x:bk)=>x.1) x.1.2.2.1)).1).1.getD (bM (ax (aw x.1.1 (an x.1) (List.map (fun (x:bk)=>x.1) x.1.2.2.1)).1).1 (if af x.2.2=0 then ac x.2.2 else (0:Int))).1.toNat (0,0)).1 x.2.2).2=(ek (dm (aw x.1.1 (an x.1) (List.map (fun (x:bk)=>x.1) x.1.2.2.1)).1).1 ((ax (aw x.1.1 (an x.1) (List.map (fun (x:bk)=>x.1) x.1.2.2.1)).1).1.getD (bM (ax (aw x.1.1 (an x.1) (List.map (fun (x:bk)=>x.1) x.1.2.2.1)).1).1 (if af x.2.2=0 then ac x.2.2 else (0:Int))).1.toNat (0,0)).1 x.2.2).2∧0≤(bM (ax (aw x.1.1 (an x.1) (List.map (fun (x:bk)=>x.1) x.1.2.2.1)).1).1 (if af x.2.2=0 then ac x.2.2 else (0:Int))).1∧(bM (ax (aw x.1.1 (an x.1) (List.map (fun (x:bk)=>x.1) x.1.2.2.1)).1).1 (if af x.2.2=0 then ac x.2.2 else (0:Int))).1<(↑(ax (aw x.1.1 (an x.1) (List.map (fun (x:bk)=>x.1) x.1.2.2.1)).1).1.length:Int)∧(bM (ax (aw x.1.1 (an x.1) (List.map (fun (x:bk)=>x.1) x.1.2.2.1)).1).1 (if af x.2.2=0 then ac x.2.2 else (0:Int))).1.toNat<(ax (aw x.1.1 (an x.1) (List.map (fun (x:bk)=>x.1) x.1.2.2.1)).1).1.length∧((!true)=true→(([]:List Int),([]:List Int),([]:List (Int×Int)),([]:List (Int×Bool×Int)))=(bK x.1 x.2.1 x.2.2).1∧false=(bK x.1 x.2.1 x.2.2).2.1∧7=(bK x.1 x.2.1 x.2.2).2.2∧True)∧((!true)=false→0≤x.2.1∧x.2.1<(↑(bB x.1.2.1 (↑x.1.1.length:Int) x_2.1).1.length:Int)∧x.2.1.toNat<(bB x.1.2.1 (↑x.1.1.length:Int) x_2.1).1.length∧((ek (dm (aw x.1.1 (an x.1) (List.map (fun (x:bk)=>x.1) x.1.2.2.1)).1).1 ((ax (aw x.1.1 (an x.1) (List.map (fun (x:bk)=>x.1) x.1.2.2.1)).1).1.getD (bM (ax (aw x.1.1 (an x.1) (List.map (fun (x:bk)=>x.1) x.1.2.2.1)).1).1 (if af x.2.2=0 then ac x.2.2 else (0:Int))).1.toNat (0,0)).1 x.2.2).1,(bB x.1.2.1 (↑x.1.1.length:Int) x_2.1).1.set x.2.1.toNat ((ax (aw x.1.1 (an x.1) (List.map (fun (x:bk)=>x.1) x.1.2.2.1)).1).1.getD (bM (ax (aw x.1.1 (an x.1) (List.map (fun (x:bk)=>x.1) x.1.2.2.1)).1).1 (if af x.2.2=0 then ac x.2.2 else (0:Int))).1.toNat (0,0)).1,x.1.2.2.1,(fU x.1.2.2.2 x_2.2.1).1)=(bK x.1 x.2.1 x.2.2).1∧(!true)=(bK x.1 x.2.1 x.2.2).2.1∧0=(bK x.1 x.2.1 x.2.2).2.2∧True)))))∧((!true)=false→0≤x.2.1∧x.2.1<(↑x.1.2.1.length:Int)∧x.2.1.toNat<x.1.2.1.length∧((ek (dm x.1.1).1 ((ax x.1.1).1.getD (bM (ax x.1.1).1 (if af x.2.2=0 then ac x.2.2 else (0:Int))).1.toNat (0,0)).1 x.2.2).1,x.1.2.1.set x.2.1.toNat ((ax x.1.1).1.getD (bM (ax x.1.1).1 (if af x.2.2=0 then ac x.2.2 else (0:Int))).1.toNat (0,0)).1,x.1.2.2)=(bK x.1 x.2.1 x.2.2).1∧(!true)=(bK x.1 x.2.1 x.2.2).2.1∧0=(bK x.1 x.2.1 x.2.2).2.2∧True))))))
theorem CZ:wK:=by
 unfold wK;intro ⟨s,slot,h⟩ ⟨⟨⟨hb,hw⟩,_⟩,_⟩ _;simp only at hb hw ⊢
 have hM:bK s slot h=if bO s slot≠0 then (aP,false,bO s slot) else if gO h≠0 then (aP,false,gO h) else
  if (im s.1 h).2.2=true then (((im s.1 h).1,s.2.1.set slot.toNat (im s.1 h).2.1,s.2.2),false,0) else
  if (im (cU s) h).2.2=true then (((im (cU s) h).1,(s.2.1.map (fj s)).set slot.toNat (im (cU s) h).2.1,s.2.2.1,s.2.2.2.map (g8 s)),true,0) else (aP,false,7):=rfl
 have hE:bO s slot=if aG s≠0 then aG s else if slot<0∨(s.2.1.length:Int)≤slot then 5 else 0:=rfl
 have hH:gO h=if af h≠0 then af h else if h.2.2.2=true then 3 else 0:=rfl
 refine ⟨trivial,fun h0=>?_,fun h0=>⟨fun h1=>?_,fun h1=>⟨trivial,fun h2=>?_,fun h2=>⟨fun h3=>?_,fun h3 tm=>⟨trivial,trivial,trivial,by trivial,by trivial,by trivial,by trivial,by trivial,by trivial,trivial,fun tm2=>⟨trivial,trivial,trivial,?_,?_⟩⟩⟩⟩⟩⟩
 ·have h0:=of_decide_eq_true h0;rw [if_pos h0] at hE;rw [hM,hE,if_pos h0];exact ⟨by trivial,by trivial,by trivial,trivial⟩
 all_goals have h0:=of_decide_eq_false h0
 all_goals rw [if_neg h0] at hE
 ·rw [if_pos (by simpa using h1)] at hE;rw [hM,hE,if_pos (by omega)];exact ⟨by trivial,by trivial,by trivial,trivial⟩
 all_goals have h1:¬ (slot<0∨(s.2.1.length:Int)≤slot):=by simpa using h1
 all_goals rw [if_neg h1] at hE
 all_goals rw [hE,if_neg (by omega)] at hM
 ·have h2:=of_decide_eq_true h2;rw [if_pos h2] at hH;rw [hM,hH,if_pos h2];exact ⟨by trivial,by trivial,by trivial,trivial⟩
 all_goals have h2:af h=0:=by simpa using of_decide_eq_false h2
 ·rw [if_neg (by omega),if_pos h3] at hH;rw [hM,hH,if_pos (by omega)];exact ⟨by trivial,by trivial,by trivial,trivial⟩
 all_goals
  rw [if_neg (by omega),if_neg (by rw [h3]; simp)] at hH;rw [hH,if_neg (by omega)] at hM;rw [hM,if_pos h2];have R:=iq hw (by omega:aG s=0);have hcl:aw s.1 (an s) (List.map (fun (x:bk)=>x.1) s.2.2.1)=(cU s,(an s).map (kw s),0):=R.clean;obtain ⟨hgf,hgi,hgl⟩:=R.gaps;have hfl:=R.fromLen;have hsm:=R.small;have hal:=R.al;have hfm:=fun x=>gD (s:=s) R.root (x:=x)
  have hsr:=R.swapRoots;have hsh:=R.swapHands;have hg1:ax s.1=(aU false [] (aa s.1).1,0):=by unfold ax; rw [if_neg (by have:=R.chk; omega)]
  have T1:=ne R.chk h2 h3;have T2:=ne R.slidOK.1 h2 h3;rw [hg1];simp only;cases hfd:(aU false [] (aa s.1).1).find? (fun r=>decide (ac h≤r.2)) with
  | none=>?_
  | some r=>?_
  all_goals rw [hfd] at T1
  all_goals simp only at T1
 ·obtain ⟨t1,t2⟩:=T1;rw [t1,t2];simp only;refine fun _=>⟨fun _ tm=>?_,fun hx=>by cases hx⟩
  rw [if_neg (by simp),hcl];simp only;rw [hgf];simp only;generalize aU false [] (aa (cU s)).1=g at *;unfold aA at hb ⊢;refine ⟨hsm,trivial,by rw [List.length_map]; omega,trivial,?_,fun ⟨ra,ha⟩ ⟨q1,q2⟩=>?_⟩
  ·have e1:((s.1.length:Int)).toNat=s.1.length:=by omega
   have e2:Int.toNat 256=256:=rfl;have e3:(0:Int)≤(s.1.length:Int):=by omega
   simp only [e1,e2,e3,hb,true_and,and_true];omega
  simp only at q1 q2;subst q1 q2;refine ⟨⟨by omega,by omega,by simp [b8],by simp [b8]⟩,fun ⟨ra,ha,i⟩ ⟨i0,i1,i2,i3⟩=>⟨fun hlt=>?_,fun hge=>?_⟩⟩
  ·simp only at i0 i1 i2 i3 hlt ⊢;have hlt:=of_decide_eq_true hlt;have ht:=bt (0:Int) i0 hlt;have hx:=R.nameIn ((hfm _).1 (aI (0:Int) i0 hlt));have hm:(List.map (kw s) (an s)).getD i.toNat 0=kw s ((an s).getD i.toNat 0):=BZ i0 hlt;have l1:ra.length=s.1.length:=by rw [i2,d7,List.length_replicate]
   have l2:ha.length=256:=by rw [i3,d7,List.length_replicate]
   rw [hm,ht,jD,jD,← i2,← i3,l1,l2,List.length_map];generalize (an s).getD i.toNat 0=x at *;simp only [ak];exact ⟨i0,hlt,by omega,i0,hlt,i0,hlt,hx.1,hx.2,by omega,by first | trivial | rfl,hx.1,by omega,by omega,by omega,⟨by omega,by omega,by trivial,by trivial⟩,by omega⟩
  ·simp only at i0 i1 i2 i3 hge ⊢;have hge:=of_decide_eq_false hge;rw [bN hge] at i2 i3;refine ⟨trivial,trivial,trivial,⟨by omega,by omega,hgl,fun r hr=>by have:=hgi r hr; omega,by trivial,by omega,by omega⟩,fun ⟨n,j⟩ ⟨j0,j1,_,_,j2,j3,j4⟩=>⟨fun hlt=>?_,fun hge tm=>⟨trivial,trivial,trivial,?_⟩⟩⟩
   ·simp only at j0 j1 j2 j3 j4 hlt ⊢;have hlt:=of_decide_eq_true hlt;have hm:=hgi _ (aI ((0,0):bW) j0 hlt);rw [py j0 hlt,← j2];generalize (g.getD j.toNat (0,0)).2=y at *;simp only [ak];exact ⟨j0,hlt,by omega,by omega,by omega,⟨by omega,by omega,hgl,fun r hr=>by have:=hgi r hr; omega,by trivial,by omega,by omega⟩,by omega⟩
   ·rw [i2,i3,hsr,hsh];simp only;cases hfd2:g.find? (fun r=>decide (ac h≤r.2)) with
    | none =>
     rw [hfd2] at T2;simp only at T2;obtain ⟨u1,u2⟩:=T2;rw [u1,u2];exact ⟨fun _=>⟨fun _=>⟨by trivial,by trivial,by trivial,trivial⟩,fun hx=>by cases hx⟩,fun hx=>by simp at hx⟩
    | some r =>
     rw [hfd2] at T2;simp only at T2;obtain ⟨k,k0,k1,u1,u2,u3,u4⟩:=T2;rw [u1,u4];simp only;rw [u2,u3];refine ⟨fun hx=>by simp at hx,fun _=>⟨trivial,k0,k1,by omega,trivial,by trivial,k0,k1,by omega,fun hx=>(by cases hx),fun _=>⟨by omega,by rw [List.length_map]; omega,by rw [List.length_map]; omega,by trivial,by trivial,by trivial,trivial⟩⟩⟩
 ·obtain ⟨i,i0,i1,t1,t2,t3,t4⟩:=T1;rw [t1];exact fun hx=>by simp at hx
 ·obtain ⟨t1,t2⟩:=T1;rw [t1];exact fun hx=>by simp at hx
 ·obtain ⟨i,i0,i1,t1,t2,t3,t4⟩:=T1;rw [t1,t4];simp only;rw [t2,t3];exact fun _=>⟨trivial,i0,i1,by omega,trivial,by trivial,i0,i1,by omega,fun hx=>(by cases hx),fun _=>⟨by omega,by omega,by omega,by trivial,by trivial,by trivial,trivial⟩⟩
theorem GS:Gg.ok Tryz.prog 13:=aD (ann:=Hz) (ae gk (ae iM (ae iL (ae rt (ae IT (ae D7 (ae D6 (ae pN (ae jH (ae BU (ae bX (ae cr (ae ch (ae bY (ae rl (ae rp aq)))))))))))))))) Tryz.func13 (by kernel_rfl) CZ
end
section
open Go
set_option maxRecDepth 100000
set_option maxHeartbeats 1000000
def HB:Nat→Option LoopGen
 | 3000011=>some fe
 | 1204000001=>some fe
 | 3=>some { rd:=[.dat 14 (.arr cz)],A:=fun (p:List bk)=>{ cs:=[.own 3 3 ty_I,.dat 16 ty_I],inv:=fun ((o,i):List Int×Int)=>0≤i∧i≤p.length∧o=(p.take i.toNat).map (·.1),mu:=fun ((_,i):List Int×Int)=>(p.length - i).toNat } }
 | 12=>some { rd:=[.box 1 aH],A:=fun (s:ap)=>{ cs:=[.boxS 8 [.own 29 a8,.own 3 ty_I,.own 133 cz,.own 82 bC],.dat 50 ty_I],inv:=fun ((b,i):ap×Int)=>0≤i∧i≤s.2.1.length∧b=(cU s,(s.2.1.take i.toNat).map (fj s)++s.2.1.drop i.toNat,s.2.2),mu:=fun ((_,i):ap×Int)=>(s.2.1.length - i).toNat } }
 | 18=>some { rd:=[.box 1 aH],A:=fun (s:ap)=>{ cs:=[.boxS 8 [.own 29 a8,.own 3 ty_I,.own 133 cz,.own 82 bC],.dat 71 ty_I],inv:=fun ((b,i):ap×Int)=>0≤i∧i≤s.2.2.2.length∧b=(cU s,s.2.1.map (fj s),s.2.2.1,(s.2.2.2.take i.toNat).map (g8 s)++s.2.2.2.drop i.toNat),mu:=fun ((_,i):ap×Int)=>(s.2.2.2.length - i).toNat } }
 | _=>none
def Gm:Spec:={ Ts:=[aH],Rs:=[.dat aH],al:=true,pre:=fun (s:ap)=>aG s=0,F:=bc }
def wQ:Prop :=
  ∀ (x:List Int×List Int×List (Int×Int)×List (Int×Bool×Int)),((x.1.length * 8≤aA∧∀ (x_1:Int),x_1∈x.1→ak .u64 x_1)∧(x.2.1.length * 8≤aA∧∀ (x_1:Int),x_1∈x.2.1→ak .i64 x_1)∧(x.2.2.1.length * (8+8)≤aA∧∀ (x_1:Int×Int),x_1∈x.2.2.1→ak .i64 x_1.1∧ak .i64 x_1.2)∧x.2.2.2.length * (8+(8+8))≤aA∧∀ (x_1:Int×Bool×Int),x_1∈x.2.2.2→ak .i64 x_1.1∧True∧ak .i64 x_1.2.2)→aG x=0→((0:Int)≤0∧0≤(↑x.2.2.1.length:Int)∧([]:List Int)=List.map (fun (x:bk)=>x.1) (List.take (Int.toNat 0) x.2.2.1))∧∀ (x_1:List Int×Int),0≤x_1.2∧x_1.2≤(↑x.2.2.1.length:Int)∧x_1.1=List.map (fun (x:bk)=>x.1) (List.take x_1.2.toNat x.2.2.1)→(decide (x_1.2<(↑x.2.2.1.length:Int))=true→0≤x_1.2∧x_1.2<(↑x.2.2.1.length:Int)∧(x_1.1.length+[(x.2.2.1.getD x_1.2.toNat (0,0)).1].length) * 8≤aA∧ak .i64 (x_1.2+1)∧(0≤x_1.2+1∧x_1.2+1≤(↑x.2.2.1.length:Int)∧x_1.1++[(x.2.2.1.getD x_1.2.toNat (0,0)).1]=List.map (fun (x:bk)=>x.1) (List.take (x_1.2+1).toNat x.2.2.1))∧((↑x.2.2.1.length:Int) - (x_1.2+1)).toNat<((↑x.2.2.1.length:Int) - x_1.2).toNat)∧(decide (x_1.2<(↑x.2.2.1.length:Int))=false→(x.2.1.length≤32∧x.2.2.1.length≤16∧x.2.2.2.length≤16)∧(bb x.1 (bf (bp x) 256)=0∧((bf (bp x) 256).length+256) * 8≤140737488355328)∧dD (be x.1 (bf (bp x) 256)) (List.map (aE (aa x.1).1) (be x.1 (bf (bp x) 256)))∧∀ (_:Array Value),True∧x.2.1.length * 8≤aA∧x.2.2.1.length * (8+8)≤aA∧x.2.1=x.2.1∧x.2.2.1=x.2.2.1∧x.2.2.1=x.2.2.1∧x.2.2.2=x.2.2.2∧x.2.2.2=x.2.2.2∧x.2.2.2=x.2.2.2∧x.2.2.2.length * (8+(8+8))≤aA∧(am x.1 (be x.1 (bf (bp x) 256)) x_1.1).2=0∧((0:Int)≤0∧0≤(↑x.2.1.length:Int)∧((kg x.1 (be x.1 (bf (bp x) 256)) x_1.1).1,x.2)=(cU x,List.map (fj x) (List.take (Int.toNat 0) x.2.1)++List.drop (Int.toNat 0) x.2.1,x.2.2))∧∀ (x_2:(List Int×List Int×List (Int×Int)×List (Int×Bool×Int))×Int),0≤x_2.2∧x_2.2≤(↑x.2.1.length:Int)∧x_2.1=(cU x,List.map (fj x) (List.take x_2.2.toNat x.2.1)++List.drop x_2.2.toNat x.2.1,x.2.2)→(decide (x_2.2<(↑x.2.1.length:Int))=true→0≤x_2.2∧x_2.2<(↑x.2.1.length:Int)∧(decide (0≤x.2.1.getD x_2.2.toNat 0)=true→True∧0≤bF (be x.1 (bf (bp x) 256)) (x.2.1.getD x_2.2.toNat 0)∧bF (be x.1 (bf (bp x) 256)) (x.2.1.getD x_2.2.toNat 0)<(↑(ar (be x.1 (bf (bp x) 256)) (List.map (aE (aa x.1).1) (be x.1 (bf (bp x) 256))) x_1.1).length:Int)∧(bF (be x.1 (bf (bp x) 256)) (x.2.1.getD x_2.2.toNat 0)).toNat<(ar (be x.1 (bf (bp x) 256)) (List.map (aE (aa x.1).1) (be x.1 (bf (bp x) 256))) x_1.1).length∧0≤x_2.2∧x_2.2<(↑x_2.1.2.1.length:Int)∧x_2.2.toNat<x_2.1.2.1.length∧ak .i64 (x_2.2+1)∧(0≤x_2.2+1∧x_2.2+1≤(↑x.2.1.length:Int)∧(x_2.1.1,x_2.1.2.1.set x_2.2.toNat ((ar (be x.1 (bf (bp x) 256)) (List.map (aE (aa x.1).1) (be x.1 (bf (bp x) 256))) x_1.1).getD (bF (be x.1 (bf (bp x) 256)) (x.2.1.getD x_2.2.toNat 0)).toNat 0),x_2.1.2.2)=(cU x,List.map (fj x) (List.take (x_2.2+1).toNat x.2.1)++List.drop (x_2.2+1).toNat x.2.1,x.2.2))∧((↑x.2.1.length:Int) - (x_2.2+1)).toNat<((↑x.2.1.length:Int) - x_2.2).toNat)∧(decide (0≤x.2.1.getD x_2.2.toNat 0)=false→ak .i64 (x_2.2+1)∧(0≤x_2.2+1∧x_2.2+1≤(↑x.2.1.length:Int)∧x_2.1=(cU x,List.map (fj x) (List.take (x_2.2+1).toNat x.2.1)++List.drop (x_2.2+1).toNat x.2.1,x.2.2))∧((↑x.2.1.length:Int) - (x_2.2+1)).toNat<((↑x.2.1.length:Int) - x_2.2).toNat))∧(decide (x_2.2<(↑x.2.1.length:Int))=false→((0:Int)≤0∧0≤(↑x.2.2.2.length:Int)∧x_2.1=(cU x,List.map (fj x) x.2.1,x.2.2.1,List.map (g8 x) (List.take (Int.toNat 0) x.2.2.2)++List.drop (Int.toNat 0) x.2.2.2))∧∀ (x_3:(List Int×List Int×List (Int×Int)×List (Int×Bool×Int))×Int),0≤x_3.2∧x_3.2≤(↑x.2.2.2.length:Int)∧x_3.1=(cU x,List.map (fj x) x.2.1,x.2.2.1,List.map (g8 x) (List.take x_3.2.toNat x.2.2.2)++List.drop x_3.2.toNat x.2.2.2)→(decide (x_3.2<(↑x.2.2.2.length:Int))=true→0≤x_3.2∧x_3.2<(↑x.2.2.2.length:Int)∧((x.2.2.2.getD x_3.2.toNat (0,false,0)).2.1=true→True∧0≤bF (be x.1 (bf (bp x) 256)) (x.2.2.2.getD x_3.2.toNat (0,false,0)).2.2∧bF (be x.1 (bf (bp x) 256)) (x.2.2.2.getD x_3.2.toNat (0,false,0)).2.2<(↑(ar (be x.1 (bf (bp x) 256)) (List.map (aE (aa x.1).1) (be x.1 (bf (bp x) 256))) x_1.1).length:Int)∧(bF (be x.1 (bf (bp x) 256)) (x.2.2.2.getD x_3.2.toNat (0,false,0)).2.2).toNat<(ar (be x.1 (bf (bp x) 256)) (List.map (aE (aa x.1).1) (be x.1 (bf (bp x) 256))) x_1.1).length∧0≤x_3.2∧x_3.2<(↑x_3.1.2.2.2.length:Int)∧x_3.2.toNat<x_3.1.2.2.2.length∧ak .i64 (x_3.2+1)∧(0≤x_3.2+1∧x_3.2+1≤(↑x.2.2.2.length:Int)∧(x_3.1.1,x_3.1.2.1,x_3.1.2.2.1,x_3.1.2.2.2.set x_3.2.toNat ((x_3.1.2.2.2.getD x_3.2.toNat (0,false,0)).1,(x_3.1.2.2.2.getD x_3.2.toNat (0,false,0)).2.1,(ar (be x.1 (bf (bp x) 256)) (List.map (aE (aa x.1).1) (be x.1 (bf (bp x) 256))) x_1.1).getD (bF (be x.1 (bf (bp x) 256)) (x.2.2.2.getD x_3.2.toNat (0,false,0)).2.2).toNat 0))=(cU x,List.map (fj x) x.2.1,x.2.2.1,List.map (g8 x) (List.take (x_3.2+1).toNat x.2.2.2)++List.drop (x_3.2+1).toNat x.2.2.2))∧((↑x.2.2.2.length:Int) - (x_3.2+1)).toNat<((↑x.2.2.2.length:Int) - x_3.2).toNat)∧((x.2.2.2.getD x_3.2.toNat (0,false,0)).2.1=false→ak .i64 (x_3.2+1)∧(0≤x_3.2+1∧x_3.2+1≤(↑x.2.2.2.length:Int)∧x_3.1=(cU x,List.map (fj x) x.2.1,x.2.2.1,List.map (g8 x) (List.take (x_3.2+1).toNat x.2.2.2)++List.drop (x_3.2+1).toNat x.2.2.2))∧((↑x.2.2.2.length:Int) - (x_3.2+1)).toNat<((↑x.2.2.2.length:Int) - x_3.2).toNat))∧(decide (x_3.2<(↑x.2.2.2.length:Int))=false→x_3.1=bc x∧True)))
theorem C6:wQ:=by
 unfold wQ;intro s ⟨⟨hb,hw⟩,⟨hb2,_⟩,⟨hb3,_⟩,hb4,_⟩ hs;have R:=iq hw hs;have hre:=R.reached;have hfo:=R.fromOK;have hsm:=R.small;have hlg:=R.longs;have hpl:=R.plan;have hsl:(kg s.1 (ev s) (cH s)).1=cU s:=rfl;have hto:∀ x,(ar (ev s) (lH s) (cH s)).getD (bF (ev s) x).toNat 0=kw s x:=fun _=>rfl
 have hkl:(ar (ev s) (lH s) (cH s)).length=(ev s).length:=by simp [ar]
 have hpi:=fun {x} (hx:x∈bp s)=>oJ (R.keepIn hx)
 have hln:List.map (aE (aa s.1).1) (ev s)=lH s:=rfl;have hpo:List.map (fun (x:bk)=>x.1) s.2.2.1=cH s:=rfl
 have hrl:(bf (bp s) 256).length≤256:=by
  have:=zJ (bp s);exact this
 unfold aA at hb hb2 hb3 hb4 ⊢;refine ⟨⟨by omega,by omega,by simp⟩,fun ⟨o,i⟩ ⟨i0,i1,i2⟩=>⟨fun hlt=>?_,fun hge=>?_⟩⟩
 ·simp only at i0 i1 i2 hlt ⊢;have hlt:=of_decide_eq_true hlt;have ht:=bt ((0,0):bk) i0 hlt;have hl:o.length=i.toNat:=by rw [i2]; simp; omega
  rw [ht,List.map_append,← i2];simp only [ak,List.length_singleton];exact ⟨i0,hlt,by omega,by omega,⟨by omega,by omega,by trivial⟩,by omega⟩
 simp only at i0 i1 i2 hge ⊢;rw [bN (of_decide_eq_false hge),hpo] at i2;subst i2;rw [hre,hln,hlg,hsl];simp only [hto,hkl];refine ⟨hsm,⟨hfo,by omega⟩,hpl.pre,fun tm=>⟨trivial,by omega,by omega,by trivial,by trivial,by trivial,by trivial,by trivial,by trivial,by omega,trivial,⟨by omega,by omega,by simp⟩,fun ⟨b,i⟩ ⟨i0,i1,i2⟩=>⟨fun hlt=>?_,fun hge=>?_⟩⟩⟩
 ·simp only at i0 i1 i2 hlt ⊢;have hlt2:=of_decide_eq_true hlt;have hil:i.toNat<s.2.1.length:=by omega
  subst i2;simp only [ak];rw [km,show (i+1).toNat=i.toNat+1 by omega];refine ⟨i0,hlt2,fun h0=>?_,fun h0=>?_⟩
  ·have h0:=of_decide_eq_true h0;have hp:=hpi (R.rootNam i0 hlt2 h0);have e:kw s (s.2.1.getD i.toNat 0)=fj s (s.2.1.getD i.toNat 0):=by unfold fj; rw [if_pos h0]
   rw [e,mt _ _ _ _ hil];exact ⟨trivial,by omega,by omega,by omega,by omega,by omega,by omega,by omega,⟨by omega,by omega,by trivial⟩,by omega⟩
  ·have h0:=of_decide_eq_false h0;rw [nw (fj s) s.2.1 0 i.toNat hil (by unfold fj; rw [if_neg h0])];exact ⟨by omega,⟨by omega,by omega,by trivial⟩,by omega⟩
 simp only at i0 i1 i2 hge ⊢;have hge:=of_decide_eq_false hge;have hil:s.2.1.length≤i.toNat:=by omega
 rw [List.take_of_length_le hil,List.drop_of_length_le hil,List.append_nil] at i2;subst i2;refine ⟨⟨by omega,by omega,by simp⟩,fun ⟨b,j⟩ ⟨j0,j1,j2⟩=>⟨fun hlt=>?_,fun hge=>?_⟩⟩
 ·simp only at j0 j1 j2 hlt ⊢;have hlt2:=of_decide_eq_true hlt;have hjl:j.toNat<s.2.2.2.length:=by omega
  subst j2;simp only [ak];rw [km,pQ _ _ _ _ hjl,show (j+1).toNat=j.toNat+1 by omega];refine ⟨j0,hlt2,fun h0=>?_,fun h0=>?_⟩
  ·have hp:=hpi (R.handNam j0 hlt2 h0);have e:((s.2.2.2.getD j.toNat (0,false,0)).1,(s.2.2.2.getD j.toNat (0,false,0)).2.1,kw s (s.2.2.2.getD j.toNat (0,false,0)).2.2)=g8 s (s.2.2.2.getD j.toNat (0,false,0)):=by unfold g8; rw [if_pos h0]
   rw [e,mt _ _ _ _ hjl];exact ⟨trivial,by omega,by omega,by omega,by omega,by omega,by omega,by omega,⟨by omega,by omega,by trivial⟩,by omega⟩
  ·rw [nw (g8 s) s.2.2.2 (0,false,0) j.toNat hjl (by unfold g8; rw [if_neg (by rw [h0]; simp)])];exact ⟨by omega,⟨by omega,by omega,by trivial⟩,by omega⟩
 ·simp only at j0 j1 j2 hge ⊢;have hge:=of_decide_eq_false hge;have hjl:s.2.2.2.length≤j.toNat:=by omega
  rw [List.take_of_length_le hjl,List.drop_of_length_le hjl,List.append_nil] at j2;exact ⟨j2,trivial⟩
theorem GW:Gm.ok Tryz.prog 34:=aD (ann:=HB) (ae mS (ae BI (ae nr (ae ir (ae IM (ae pO aq)))))) Tryz.func34 (by kernel_rfl) C6
def wo:Nat→Option LoopGen
 | 3=>some { rd:=[.own 7 129 ft],A:=fun (g:List bW)=>{ cs:=[.dat 3 ty_I,.dat 9 ty_I],inv:=fun ((n,i):Int×Int)=>0≤i∧i≤g.length∧g.length≤256∧(∀ r∈g,0≤r.2∧r.2≤256)∧n=eo (g.take i.toNat)∧0≤n∧n≤256 * i,mu:=fun ((_,i):Int×Int)=>(g.length - i).toNat } }
 | _=>none
def vB:Spec:={ Ts:=[.arr a8],Rs:=[.dat ty_I],pre:=fun (a:List Int)=>(aa a).2=0,F:=fun (a:List Int)=>eo (aU false [] (aa a).1) }
def mM:Prop :=
  ∀ (x:List Int),(x.length * 8≤aA∧∀ (x_1:Int),x_1∈x→ak .u64 x_1)→(aa x).2=0→x.length≤256∧((0:Int)≤0∧0≤(↑(aM x).length:Int)∧(aM x).length≤256∧(∀ (r:bW),r∈aM x→0≤r.2∧r.2≤256)∧0=eo (List.take (Int.toNat 0) (aM x))∧(0:Int)≤0∧(0:Int)≤256 * 0)∧∀ (x_1:Int×Int),0≤x_1.2∧x_1.2≤(↑(aM x).length:Int)∧(aM x).length≤256∧(∀ (r:bW),r∈aM x→0≤r.2∧r.2≤256)∧x_1.1=eo (List.take x_1.2.toNat (aM x))∧0≤x_1.1∧x_1.1≤256 * x_1.2→(decide (x_1.2<(↑(aM x).length:Int))=true→0≤x_1.2∧x_1.2<(↑(aM x).length:Int)∧x_1.2.toNat<(aM x).length∧ak .i64 (x_1.1+((aM x).getD x_1.2.toNat (0,0)).2)∧ak .i64 (x_1.2+1)∧(0≤x_1.2+1∧x_1.2+1≤(↑(aM x).length:Int)∧(aM x).length≤256∧(∀ (r:bW),r∈aM x→0≤r.2∧r.2≤256)∧x_1.1+((aM x).getD x_1.2.toNat (0,0)).2=eo (List.take (x_1.2+1).toNat (aM x))∧0≤x_1.1+((aM x).getD x_1.2.toNat (0,0)).2∧x_1.1+((aM x).getD x_1.2.toNat (0,0)).2≤256 * (x_1.2+1))∧((↑(aM x).length:Int) - (x_1.2+1)).toNat<((↑(aM x).length:Int) - x_1.2).toNat)∧(decide (x_1.2<(↑(aM x).length:Int))=false→x_1.1=eo (aU false ([]:List bW) (aa x).1)∧True)
theorem su:mM:=by
 unfold mM;intro a hx hs;have hg:=xr hs;obtain ⟨g1,g2⟩:=o6 hs;obtain ⟨hal,_⟩:=gU hs;rw [hg];have hgi:∀ r∈aU false [] (aa a).1,0≤r.2∧r.2≤256:=fun r hr=>by have:=g1 r hr; omega
 generalize aU false [] (aa a).1=g at *;refine ⟨hal,⟨by omega,by omega,g2,hgi,by trivial,by omega,by omega⟩,fun ⟨n,j⟩ ⟨j0,j1,_,_,j2,j3,j4⟩=>⟨fun hlt=>?_,fun hge=>?_⟩⟩
 ·simp only at j0 j1 j2 j3 j4 hlt ⊢;have hlt:=of_decide_eq_true hlt;have hm:=hgi _ (aI ((0,0):bW) j0 hlt);rw [py j0 hlt,← j2];generalize (g.getD j.toNat (0,0)).2=y at *;simp only [ak];exact ⟨j0,hlt,by omega,by omega,by omega,⟨by omega,by omega,g2,hgi,by trivial,by omega,by omega⟩,by omega⟩
 ·simp only at j0 j1 j2 hge ⊢;rw [bN (of_decide_eq_false hge)] at j2;exact ⟨j2,trivial⟩
theorem vO:vB.ok Tryz.prog 35:=aD (ann:=wo) (ae tL aq) Tryz.func35 (by kernel_rfl) su
theorem KE {p:bW→Bool} {l:List bW} {i:Int} (h0:0≤i) (h1:i<l.length) (h2:∀ x∈l.take i.toNat,p x=false) (h3:p (l.getD i.toNat (0,0))=true):l.find? p=some (l.getD i.toNat (0,0)):=by
 have e:l=l.take i.toNat++(l.getD i.toNat (0,0)::l.drop (i+1).toNat):=by
  rw [← aW ((0,0):bW) h0 h1,List.take_append_drop]
 have hn:(l.take i.toNat).find? p=none:=List.find?_eq_none.2 fun x hx=>by rw [h2 x hx]; simp
 have:(l.take i.toNat++(l.getD i.toNat (0,0)::l.drop (i+1).toNat)).find? p=some (l.getD i.toNat (0,0)):=by
  rw [List.find?_append,hn,List.find?_cons_of_pos h3];rfl
 rwa [← e] at this
def cu (s:ap) (slot:Int) (h:du):ap×Bool:=if (im s.1 h).2.2=true then ((jl s slot h).1,true) else (aP,false)
def EH:Nat→Option LoopGen
 | 3000011=>some fe
 | 1204000001=>some fe
 | 3=>some { rd:=[.own 18 129 ft,.dat 8 ty_I],A:=fun ((g,n):List bW×Int)=>{ cs:=[.dat 20 ty_I,.box 6 aH],inv:=fun ((i,_):Int×ap)=>0≤i∧i≤g.length∧(∀ r∈g.take i.toNat,r.2<n),mu:=fun ((i,_):Int×ap)=>(g.length - i).toNat } }
 | 8=>some { rd:=[.own 32 129 ft,.box 3 aH],A:=fun ((g,s):List bW×ap)=>{ cs:=[.boxS 11 [.own 29 a8,.own 3 ty_I,.own 133 cz,.own 82 bC],.dat 34 ty_I],inv:=fun ((b,i):ap×Int)=>0≤i∧i≤g.length∧b=((g.take i.toNat).foldl (fun a r=>aR a r.1 r.2) s.1,s.2)∧b.1.length=s.1.length,mu:=fun ((_,i):ap×Int)=>(g.length - i).toNat } }
 | _=>none
def Dz:Spec:={ Ts:=[aH,ty_I,de],Rs:=[.dat aH,.dat .bool],al:=true,pre:=fun ((s,slot,h):ap×Int×du)=>l9 s h∧0≤slot∧slot<s.2.1.length,F:=fun ((s,slot,h):ap×Int×du)=>cu s slot h }
def te:Prop :=
  ∀ (x:(List Int×List Int×List (Int×Int)×List (Int×Bool×Int))×Int×Int×Int×Int×Bool),((x.1.1.length * 8≤aA∧∀ (x_1:Int),x_1∈x.1.1→ak .u64 x_1)∧(x.1.2.1.length * 8≤aA∧∀ (x_1:Int),x_1∈x.1.2.1→ak .i64 x_1)∧(x.1.2.2.1.length * (8+8)≤aA∧∀ (x_1:Int×Int),x_1∈x.1.2.2.1→ak .i64 x_1.1∧ak .i64 x_1.2)∧x.1.2.2.2.length * (8+(8+8))≤aA∧∀ (x_1:Int×Bool×Int),x_1∈x.1.2.2.2→ak .i64 x_1.1∧True∧ak .i64 x_1.2.2)∧ak .i64 x.2.1∧ak .i64 x.2.2.1∧ak .i64 x.2.2.2.1∧ak .i64 x.2.2.2.2.1∧True→l9 x.1 x.2.2∧0≤x.2.1∧x.2.1<(↑x.1.2.1.length:Int)→(ak .i64 (1+x.2.2.1)∧ak .i64 (1+x.2.2.1+x.2.2.2.1))∧x.1.1.length≤256∧((0:Int)≤0∧0≤(↑(aM x.1.1).length:Int)∧∀ (r:bW),r∈List.take (Int.toNat 0) (aM x.1.1)→r.2<ac x.2.2)∧∀ (x_1:Int×List Int×List Int×List (Int×Int)×List (Int×Bool×Int)),(0≤x_1.1∧x_1.1≤(↑(aM x.1.1).length:Int)∧∀ (r:bW),r∈List.take x_1.1.toNat (aM x.1.1)→r.2<ac x.2.2)→(decide (x_1.1<(↑(aM x.1.1).length:Int))=true→0≤x_1.1∧x_1.1<(↑(aM x.1.1).length:Int)∧x_1.1.toNat<(aM x.1.1).length∧(decide (((aM x.1.1).getD x_1.1.toNat (0,0)).2<ac x.2.2)=true→ak .i64 (x_1.1+1)∧(0≤x_1.1+1∧x_1.1+1≤(↑(aM x.1.1).length:Int)∧∀ (r:bW),r∈List.take (x_1.1+1).toNat (aM x.1.1)→r.2<ac x.2.2)∧((↑(aM x.1.1).length:Int) - (x_1.1+1)).toNat<((↑(aM x.1.1).length:Int) - x_1.1).toNat)∧(decide (((aM x.1.1).getD x_1.1.toNat (0,0)).2<ac x.2.2)=false→∀ (_:Array Value),True∧x.1.2.1.length * 8≤aA∧x.1.2.2.1.length * (8+8)≤aA∧x.1.2.1=x.1.2.1∧x.1.2.2.1=x.1.2.2.1∧x.1.2.2.1=x.1.2.2.1∧x.1.2.2.2=x.1.2.2.2∧x.1.2.2.2=x.1.2.2.2∧x.1.2.2.2=x.1.2.2.2∧x.1.2.2.2.length * (8+(8+8))≤aA∧x.1.1.length≤256∧((0:Int)≤0∧0≤(↑(aM x.1.1).length:Int)∧x.1=(List.foldl (fun (a:List Int) (r:bW)=>aR a r.1 r.2) x.1.1 (List.take (Int.toNat 0) (aM x.1.1)),x.1.2)∧x.1.1.length=x.1.1.length)∧∀ (x_2:(List Int×List Int×List (Int×Int)×List (Int×Bool×Int))×Int),0≤x_2.2∧x_2.2≤(↑(aM x.1.1).length:Int)∧x_2.1=(List.foldl (fun (a:List Int) (r:bW)=>aR a r.1 r.2) x.1.1 (List.take x_2.2.toNat (aM x.1.1)),x.1.2)∧x_2.1.1.length=x.1.1.length→(decide (x_2.2<(↑(aM x.1.1).length:Int))=true→0≤x_2.2∧x_2.2<(↑(aM x.1.1).length:Int)∧x_2.2.toNat<(aM x.1.1).length∧dy x_2.1.1 ((aM x.1.1).getD x_2.2.toNat (0,0)).1 ((aM x.1.1).getD x_2.2.toNat (0,0)).2∧ak .i64 (x_2.2+1)∧(0≤x_2.2+1∧x_2.2+1≤(↑(aM x.1.1).length:Int)∧(aR x_2.1.1 ((aM x.1.1).getD x_2.2.toNat (0,0)).1 ((aM x.1.1).getD x_2.2.toNat (0,0)).2,x_2.1.2)=(List.foldl (fun (a:List Int) (r:bW)=>aR a r.1 r.2) x.1.1 (List.take (x_2.2+1).toNat (aM x.1.1)),x.1.2)∧(aR x_2.1.1 ((aM x.1.1).getD x_2.2.toNat (0,0)).1 ((aM x.1.1).getD x_2.2.toNat (0,0)).2).length=x.1.1.length)∧((↑(aM x.1.1).length:Int) - (x_2.2+1)).toNat<((↑(aM x.1.1).length:Int) - x_2.2).toNat)∧(decide (x_2.2<(↑(aM x.1.1).length:Int))=false→ak .i64 (((aM x.1.1).getD x_1.1.toNat (0,0)).1+ac x.2.2)∧ak .i64 (((aM x.1.1).getD x_1.1.toNat (0,0)).2 - ac x.2.2)∧dy x_2.1.1 (((aM x.1.1).getD x_1.1.toNat (0,0)).1+ac x.2.2) (((aM x.1.1).getD x_1.1.toNat (0,0)).2 - ac x.2.2)∧af x.2.2=0∧0≤((aM x.1.1).getD x_1.1.toNat (0,0)).1∧((aM x.1.1).getD x_1.1.toNat (0,0)).1<(↑(aR x_2.1.1 (((aM x.1.1).getD x_1.1.toNat (0,0)).1+ac x.2.2) (((aM x.1.1).getD x_1.1.toNat (0,0)).2 - ac x.2.2)).length:Int)∧((aM x.1.1).getD x_1.1.toNat (0,0)).1.toNat<(aR x_2.1.1 (((aM x.1.1).getD x_1.1.toNat (0,0)).1+ac x.2.2) (((aM x.1.1).getD x_1.1.toNat (0,0)).2 - ac x.2.2)).length∧0≤x.2.1∧x.2.1<(↑x_2.1.2.1.length:Int)∧x.2.1.toNat<x_2.1.2.1.length∧((aR x_2.1.1 (((aM x.1.1).getD x_1.1.toNat (0,0)).1+ac x.2.2) (((aM x.1.1).getD x_1.1.toNat (0,0)).2 - ac x.2.2)).set ((aM x.1.1).getD x_1.1.toNat (0,0)).1.toNat (a6 x.2.2),x_2.1.2.1.set x.2.1.toNat ((aM x.1.1).getD x_1.1.toNat (0,0)).1,x_2.1.2.2)=(cu x.1 x.2.1 x.2.2).1∧true=(cu x.1 x.2.1 x.2.2).2∧True)))∧(decide (x_1.1<(↑(aM x.1.1).length:Int))=false→(([]:List Int),([]:List Int),([]:List (Int×Int)),([]:List (Int×Bool×Int)))=(cu x.1 x.2.1 x.2.2).1∧false=(cu x.1 x.2.1 x.2.2).2∧True)
theorem Ac:te:=by
 unfold te;intro ⟨s,slot,h⟩ ⟨⟨⟨hb,hw⟩,⟨hb2,_⟩,⟨hb3,_⟩,hb4,_⟩,_⟩ ⟨⟨hc,hh⟩,s0,s1⟩;simp only at hb hw hb2 hb3 hb4 hc hh s0 s1 ⊢;obtain ⟨h2,h3⟩:=KB hh;have hz:=bj h2;have hL:ac h=1+h.1+h.2.1:=rfl;have hsp:=(b7 hc).2.2.2.1;have hal:=(b7 hc).1;obtain ⟨g1,g2⟩:=o6 hsp;have hJ:(dm s.1).1=(aU false [] (aa s.1).1).foldl (fun a r=>aR a r.1 r.2) s.1:=by unfold dm; rw [if_neg (by omega)]
 have T1:=ne hc h2 h3;have hLd:cu s slot h=if (im s.1 h).2.2=true then (((im s.1 h).1,s.2.1.set slot.toNat (im s.1 h).2.1,s.2.2),true) else (aP,false):=rfl
 rw [xr hsp];generalize aU false [] (aa s.1).1=g at *;unfold aA at hb hb2 hb3 hb4 ⊢;refine ⟨by simp only [ak]; omega,hal,⟨by omega,by omega,by simp⟩,fun ⟨i,b⟩ ⟨i0,i1,i2⟩=>⟨fun hlt=>?_,fun hge=>?_⟩⟩
 ·simp only at i0 i1 i2 hlt ⊢;have hlt:=of_decide_eq_true hlt;have ht:=bt ((0,0):bW) i0 hlt;have hm:=aI ((0,0):bW) i0 hlt;have hgr:=g1 _ hm;refine ⟨i0,hlt,by omega,fun hc1=>?_,fun hc1 tm=>?_⟩
  ·have hc1:=of_decide_eq_true hc1;simp only [ak];refine ⟨by omega,⟨by omega,by omega,fun r hr=>?_⟩,by omega⟩;rw [ht] at hr;rcases List.mem_append.1 hr with hr | hr
   ·exact i2 r hr
   ·rw [List.mem_singleton.1 hr]; exact hc1
  ·have hc1:=of_decide_eq_false hc1;have hfd:=KE (p:=fun r:bW=>decide (ac h≤r.2)) i0 hlt (fun x hx=>by have:=i2 x hx; simp; omega) (by simp only [decide_eq_true_eq]; omega);rw [hfd] at T1;simp only at T1;obtain ⟨_,_,_,_,_,_,t4⟩:=T1;rw [t4,if_pos rfl] at hLd;rw [hLd];generalize g.getD i.toNat (0,0)=r at *;refine ⟨trivial,by omega,by omega,by trivial,by trivial,by trivial,by trivial,by trivial,by trivial,by omega,hal,⟨by omega,by omega,by simp,by trivial⟩,fun ⟨b,j⟩ ⟨j0,j1,j2,j3⟩=>⟨fun hlt=>?_,fun hge=>?_⟩⟩
   ·simp only at j0 j1 j2 j3 hlt ⊢;have hlt:=of_decide_eq_true hlt;have ht:=bt ((0,0):bW) j0 hlt;have hgr:=g1 _ (aI ((0,0):bW) j0 hlt);have hlp:dy b.1 (g.getD j.toNat (0,0)).1 (g.getD j.toNat (0,0)).2:=⟨by omega,by omega,by omega,by omega⟩;rw [ht,List.foldl_append,iC hlp];simp only [List.foldl_cons,List.foldl_nil,ak];have e1:b.1=List.foldl (fun a r=>aR a r.1 r.2) s.1 (List.take j.toNat g):=by rw [j2]
    have e2:b.2=s.2:=by rw [j2]
    rw [← e1,← e2];exact ⟨j0,hlt,by omega,hlp,by omega,⟨by omega,by omega,by trivial,j3⟩,by omega⟩
   ·simp only at j0 j1 j2 j3 hge ⊢;rw [bN (of_decide_eq_false hge),← hJ] at j2;subst j2;simp only at j3 ⊢;have hlp:dy (dm s.1).1 (r.1+ac h) (r.2 - ac h):=⟨by omega,by omega,by omega,by omega⟩;rw [iC hlp,j3];simp only [ak];exact ⟨by omega,by omega,hlp,h2,by omega,by omega,by omega,s0,s1,by omega,by trivial,by trivial,trivial⟩
 ·simp only at i0 i1 i2 hge ⊢;rw [bN (of_decide_eq_false hge)] at i2;have hfd:g.find? (fun r:bW=>decide (ac h≤r.2))=none:=List.find?_eq_none.2 fun x hx=>by have:=i2 x hx; simp; omega
  rw [hfd] at T1;simp only at T1;rw [T1.2] at hLd;rw [hLd];exact ⟨by trivial,by trivial,trivial⟩
theorem D1:Dz.ok Tryz.prog 33:=aD (ann:=EH) (ae gJ (ae tL (ae ir (ae BJ (ae kH aq))))) Tryz.func33 (by kernel_rfl) Ac
end
section
open Go
set_option maxRecDepth 100000
set_option maxHeartbeats 1000000
def ei (a:List Int) (x r to:Int):List Int×Int:=if isB (aa a).1 x=false then ([],5) else if r<0∨(dp a x).1≤r∨(to≠-1∧isB (aa a).1 to=false) then ([],4) else (a.set (x+1+r).toNat (to+1),0)
def CD:Nat→Option LoopGen
 | 10=>some { rd:=[.dat 0 (.arr a8),.dat 1 ty_I,.dat 2 ty_I,.dat 54 ty_I],wr:=[14],A:=fun ((a,x,r,n):List Int×Int×Int×Int)=>{ cs:=[.own 14 29 a8,.dat 55 ty_I],inv:=fun ((w,i):List Int×Int)=>0≤i∧i≤n∧n≤256∧0≤x∧0≤r∧x+1+r<a.length∧a.length≤256∧w=a.set (x+1+r).toNat i,mu:=fun ((_,i):List Int×Int)=>(n - i).toNat } }
 | _=>none
def AJ:Spec:={ Ts:=[.arr a8,ty_I,ty_I,ty_I],Rs:=[.own 29 a8,.dat ty_I],pre:=fun ((a,_):List Int×Int×Int×Int)=>(au a).2.2=0,F:=fun ((a,x,r,to):List Int×Int×Int×Int)=>ei a x r to }
def qJ:Prop :=
  ∀ (x:List Int×Int×Int×Int),(x.1.length * 8≤aA∧∀ (x_1:Int),x_1∈x.1→ak .u64 x_1)∧ak .i64 x.2.1∧ak .i64 x.2.2.1∧ak .i64 x.2.2.2→(au x.1).2.2=0→True∧((!(aj x.2.1 (aa x.1).1).2)=true→([]:List Int)=(ei x.1 x.2.1 x.2.2.1 x.2.2.2).1∧5=(ei x.1 x.2.1 x.2.2.1 x.2.2.2).2∧True)∧((!(aj x.2.1 (aa x.1).1).2)=false→True∧((decide (x.2.2.1<0)||decide ((aj x.2.1 (aa x.1).1).1.1≤x.2.2.1)||decide (x.2.2.2≠(-1))&&!(aj x.2.2.2 (aa x.1).1).2)=true→([]:List Int)=(ei x.1 x.2.1 x.2.2.1 x.2.2.2).1∧4=(ei x.1 x.2.1 x.2.2.1 x.2.2.2).2∧True)∧((decide (x.2.2.1<0)||decide ((aj x.2.1 (aa x.1).1).1.1≤x.2.2.1)||decide (x.2.2.2≠(-1))&&!(aj x.2.2.2 (aa x.1).1).2)=false→True∧ak .i64 (x.2.1+1)∧ak .i64 (x.2.1+1+x.2.2.1)∧0≤x.2.1+1+x.2.2.1∧x.2.1+1+x.2.2.1<(↑x.1.length:Int)∧(x.2.1+1+x.2.2.1).toNat<x.1.length∧ak .i64 (x.2.2.2+1)∧((0:Int)≤0∧0≤x.2.2.2+1∧x.2.2.2+1≤256∧0≤x.2.1∧0≤x.2.2.1∧x.2.1+1+x.2.2.1<(↑x.1.length:Int)∧x.1.length≤256∧x.1.set (x.2.1+1+x.2.2.1).toNat 0=x.1.set (x.2.1+1+x.2.2.1).toNat 0)∧∀ (x_1:List Int×Int),0≤x_1.2∧x_1.2≤x.2.2.2+1∧x.2.2.2+1≤256∧0≤x.2.1∧0≤x.2.2.1∧x.2.1+1+x.2.2.1<(↑x.1.length:Int)∧x.1.length≤256∧x_1.1=x.1.set (x.2.1+1+x.2.2.1).toNat x_1.2→(decide (x_1.2<x.2.2.2+1)=true→ak .i64 (x.2.1+1)∧ak .i64 (x.2.1+1+x.2.2.1)∧0≤x.2.1+1+x.2.2.1∧x.2.1+1+x.2.2.1<(↑x_1.1.length:Int)∧(x.2.1+1+x.2.2.1).toNat<x_1.1.length∧ak .u64 (x_1.1.getD (x.2.1+1+x.2.2.1).toNat 0+1)∧0≤x.2.1+1+x.2.2.1∧x.2.1+1+x.2.2.1<(↑x_1.1.length:Int)∧(x.2.1+1+x.2.2.1).toNat<x_1.1.length∧ak .i64 (x_1.2+1)∧(0≤x_1.2+1∧x_1.2+1≤x.2.2.2+1∧x.2.2.2+1≤256∧0≤x.2.1∧0≤x.2.2.1∧x.2.1+1+x.2.2.1<(↑x.1.length:Int)∧x.1.length≤256∧x_1.1.set (x.2.1+1+x.2.2.1).toNat (x_1.1.getD (x.2.1+1+x.2.2.1).toNat 0+1)=x.1.set (x.2.1+1+x.2.2.1).toNat (x_1.2+1))∧(x.2.2.2+1 - (x_1.2+1)).toNat<(x.2.2.2+1 - x_1.2).toNat)∧(decide (x_1.2<x.2.2.2+1)=false→x_1.1=(ei x.1 x.2.1 x.2.2.1 x.2.2.2).1∧0=(ei x.1 x.2.1 x.2.2.1 x.2.2.2).2∧True)))
theorem xQ:qJ:=by
 unfold qJ;intro ⟨a,x,r,to⟩ ⟨⟨hb,hw⟩,hx,hr,ht⟩ hc;simp only at hb hw hx hr ht hc ⊢;have e:∀ y,(aj y (aa a).1).2=isB (aa a).1 y:=fun _=>rfl
 have e2:(aj x (aa a).1).1=dp a x:=rfl;simp only [e,e2];have hF:ei a x r to=if isB (aa a).1 x=false then ([],5) else if r<0∨(dp a x).1≤r∨(to≠-1∧isB (aa a).1 to=false) then ([],4) else (a.set (x+1+r).toNat (to+1),0):=rfl
 rw [hF];refine ⟨trivial,fun h=>?_,fun h=>⟨trivial,fun h2=>?_,fun h2=>?_⟩⟩
 ·rw [if_pos (by simpa using h)];exact ⟨rfl,rfl,trivial⟩
 ·have h:isB (aa a).1 x=true:=by simpa using h
  rw [if_neg (by rw [h]; simp),if_pos (by simpa [or_assoc] using h2)];exact ⟨rfl,rfl,trivial⟩
 have h:isB (aa a).1 x=true:=by simpa using h
 have h2:¬ (r<0∨(dp a x).1≤r∨(to≠-1∧isB (aa a).1 to=false)):=by
  intro h3;have:(decide (r<0)||decide ((dp a x).1≤r)||decide (to≠-1)&&!isB (aa a).1 to)=true:=by simpa [or_assoc] using h3
  rw [this] at h2;cases h2
 rw [if_neg (by rw [h]; simp),if_neg h2];obtain ⟨k1,k2,k3,k4,k5,k6⟩:=cI h;have hal:=(t8 h).2.2.2.2
 have hto:-1≤to∧to≤255:=by
  by_cases h3:to=-1
  ·omega
  ·have h4:isB (aa a).1 to=true:=by
    cases h5:isB (aa a).1 to
    ·exact absurd (.inr (.inr ⟨h3,h5⟩)) h2
    ·rfl
   have:=gB h4;omega
 have hr0:0≤r∧r<(dp a x).1:=by omega
 have hkl:(x+1+r).toNat<a.length:=by omega
 simp only [ak];refine ⟨trivial,by omega,by omega,by omega,by omega,hkl,by omega,⟨by omega,by omega,by omega,by omega,by omega,by omega,hal,by first | trivial | rfl⟩,fun ⟨w,i⟩ ⟨i0,i1,i2,i3,i4,i5,i6,i7⟩=>⟨fun hlt=>?_,fun hge=>?_⟩⟩
 ·simp only at i0 i1 i2 i3 i4 i5 i6 i7 hlt ⊢;have hlt:=of_decide_eq_true hlt;have hwl:w.length=a.length:=by rw [i7]; simp
  have hwg:w.getD (x+1+r).toNat 0=i:=by rw [i7,List.getD_eq_getElem?_getD]; simp [hkl]
  rw [hwg];refine ⟨by omega,by omega,by omega,by omega,by omega,by omega,by omega,by omega,by omega,by omega,⟨by omega,by omega,by omega,by omega,by omega,by omega,hal,?_⟩,by omega⟩;rw [i7,List.set_set]
 ·simp only at i0 i1 i2 i3 i4 i5 i6 i7 hge ⊢;have hge:=of_decide_eq_false hge;rw [i7,show i=to+1 by omega];exact ⟨by first | trivial | rfl,by first | trivial | rfl,trivial⟩
theorem BG:AJ.ok Tryz.prog 37:=aD (ann:=CD) (ae gX (ae ir aq)) Tryz.func37 (by kernel_rfl) xQ
theorem mY (n:Int):∀ (l:List bU) (k:Int),0≤k→k+l.length≤65536→(∀ s∈l,0≤s.1) →
  bn n k l=if k≤n % 65536∧n % 65536<k+l.length∧(l.getD (n % 65536 - k).toNat (0,false,0)).2.1=true∧cw (n % 65536) (l.getD (n % 65536 - k).toNat (0,false,0))=n then n % 65536 else -1
 | [],k,_,_,_=>by
  simp only [bn,List.length_nil];rw [if_neg (by omega)]
 | s::l,k,h0,h1,h2=>by
  have ih:=mY n l (k+1) (by omega) (by simp only [List.length_cons] at h1; omega) (fun t ht=>h2 t (by simp [ht]));have hs:=h2 s (by simp);simp only [List.length_cons] at *;simp only [bn,ih];by_cases hk:n % 65536=k
  ·rw [hk];simp only [Int.sub_self,Int.toNat_zero,List.getD_cons_zero];by_cases hc:s.2.1=true∧cw k s=n
   ·rw [if_pos hc,if_pos ⟨by omega,by omega,hc⟩]
   ·rw [if_neg hc,if_neg (by omega),if_neg (by intro h; exact hc h.2.2)]
  ·have hc:¬ (s.2.1=true∧cw k s=n):=by
    rintro ⟨_,h⟩;unfold cw at h;omega
   rw [if_neg hc];by_cases hlt:k≤n % 65536
   ·rw [show (n % 65536 - k).toNat=(n % 65536 - (k+1)).toNat+1 by omega,List.getD_cons_succ];congr 1;simp only [eq_iff_iff];constructor
    ·rintro ⟨_,q2,q3⟩; exact ⟨by omega,by omega,q3⟩
    ·rintro ⟨_,q2,q3⟩; exact ⟨by omega,by omega,q3⟩
   ·rw [if_neg (by omega),if_neg (by omega)]
theorem B5 {h:List bU} {n:Int} (hf:aN h=0):((cd h n).2=0∧bn n 0 h=(cd h n).1∧0≤(cd h n).1∧(cd h n).1<h.length)∨(cd h n=(0,9)∧bn n 0 h=-1):=by
 obtain ⟨z1,z2⟩:=gC hf;have h1:=mY n h 0 (by omega) (by omega) (fun s hs=>(z2 s hs).1);simp only [Int.sub_zero,Int.zero_add] at h1;unfold cd;rw [if_neg (by omega),h1];by_cases hc:n % 65536<h.length∧(h.getD (n % 65536).toNat (0,false,0)).2.1=true∧cw (n % 65536) (h.getD (n % 65536).toNat (0,false,0))=n
 ·left;rw [if_pos hc,if_pos ⟨by omega,hc⟩];exact ⟨rfl,rfl,by simp only; omega,hc.1⟩
 ·right;rw [if_neg hc,if_neg (fun q=>hc q.2)];exact ⟨rfl,rfl⟩
theorem ID {h:List bU} (at_:Int) (hf:aN h=0) :
  eb h at_=if at_<0∨255<at_ then ([],0,4) else if ai aL 0 h<0 then ([],0,7) else (h.set (ai aL 0 h).toNat (np h (ai aL 0 h) at_),cw (ai aL 0 h) (np h (ai aL 0 h) at_),0):=by
 unfold eb;rw [if_neg (by omega)];by_cases ht:at_<0∨255<at_
 ·rw [if_pos ht,if_pos (by unfold eG; grind)]
 ·rw [if_neg ht,if_neg (by unfold eG; grind)]
abbrev As:Ty:=.pair ty_I (.pair ty_I (.pair ty_I (.pair ty_I a8)))
def ca (k a b c v:Int):Bool:=decide (k<1)||decide (13<k)||!(decide (k≠2)&&decide (k≠12))&&decide (a≠0)||!(decide (k=1)||decide (3≤k)&&decide (k≤6)||decide (k=9))&&decide (b≠0)||!(decide (k=1)||decide (k=3)||decide (k=4))&&decide (c≠0)||!(decide (k=1)||decide (k=6)||decide (k=11)||decide (k=12))&&decide (v≠0)
def L5 (b:Bool):Int:=if b=true then 1 else 0
def gb (s:ap) (k a b c v:Int):ap×Int×Int :=
 if k=1 then ((bK s a (b,c,v % 65536,false)).1,L5 (bK s a (b,c,v % 65536,false)).2.1,(bK s a (b,c,v % 65536,false)).2.2)
 else if k=2 then ((dZ s).1,(dZ s).2,0)
 else if k=3 then ((jS s a b c).1,0,(jS s a b c).2)
 else if k=4 then ((jQ s a b c).1,0,(jQ s a b c).2)
 else if k=5 then (if aZ s a b≠0 then (aP,0,aZ s a b) else (s,s.1.getD (b9 s (az s a) b).toNat 0,0))
 else if k=6 then ((jT s a b v).1,0,(jT s a b v).2)
 else if k=7 then gH s a
 else if k=8 then ((dJ s a).1,0,(dJ s a).2)
 else if k=9 then (if cB s a b≠0 then (aP,0,cB s a b) else (s,s.1.getD (b9 s a b).toNat 0,0))
 else if k=10 then gw s a
 else if k=11 then ((iG s v a).1,0,(iG s v a).2)
 else if k=12 then ((fv s v).1,0,(fv s v).2)
 else ((ga s a).1,0,(ga s a).2)
def aB (s:ap) (k a b c v:Int):ap×Int×Int:=if ca k a b c v=true then (aP,0,1) else if aG s≠0 then (aP,0,aG s) else gb s k a b c v
def dx (k:Int):Bool:=decide (k=3)||decide (k=4)||decide (k=5)||decide (k=6)||decide (k=7)||decide (k=10)
def fu (k:Int):Bool:=decide (k=1)||decide (k=11)||decide (k=13)
theorem JB (s:ap) (a b c v:Int):gb s 1 a b c v=((bK s a (b,c,v % 65536,false)).1,L5 (bK s a (b,c,v % 65536,false)).2.1,(bK s a (b,c,v % 65536,false)).2.2):=if_pos rfl
theorem K0 (s:ap) (a b c v:Int):gb s 2 a b c v=((dZ s).1,(dZ s).2,0):=by unfold gb; rw [if_neg (by omega),if_pos rfl]
theorem JA (s:ap) (a b c v:Int):gb s 3 a b c v=((jS s a b c).1,0,(jS s a b c).2):=by
 unfold gb
 iterate 2 rw [if_neg (by omega)]
 rw [if_pos rfl]
theorem Jz (s:ap) (a b c v:Int):gb s 4 a b c v=((jQ s a b c).1,0,(jQ s a b c).2):=by
 unfold gb
 iterate 3 rw [if_neg (by omega)]
 rw [if_pos rfl]
theorem Jy (s:ap) (a b c v:Int):gb s 5 a b c v=(if aZ s a b≠0 then (aP,0,aZ s a b) else (s,s.1.getD (b9 s (az s a) b).toNat 0,0)):=by
 unfold gb
 iterate 4 rw [if_neg (by omega)]
 rw [if_pos rfl]
theorem Jx (s:ap) (a b c v:Int):gb s 6 a b c v=((jT s a b v).1,0,(jT s a b v).2):=by
 unfold gb
 iterate 5 rw [if_neg (by omega)]
 rw [if_pos rfl]
theorem Jw (s:ap) (a b c v:Int):gb s 7 a b c v=gH s a:=by
 unfold gb
 iterate 6 rw [if_neg (by omega)]
 rw [if_pos rfl]
theorem KZ (s:ap) (a b c v:Int):gb s 8 a b c v=((dJ s a).1,0,(dJ s a).2):=by
 unfold gb
 iterate 7 rw [if_neg (by omega)]
 rw [if_pos rfl]
theorem KY (s:ap) (a b c v:Int):gb s 9 a b c v=(if cB s a b≠0 then (aP,0,cB s a b) else (s,s.1.getD (b9 s a b).toNat 0,0)):=by
 unfold gb
 iterate 8 rw [if_neg (by omega)]
 rw [if_pos rfl]
theorem Ex (s:ap) (a b c v:Int):gb s 10 a b c v=gw s a:=by
 unfold gb
 iterate 9 rw [if_neg (by omega)]
 rw [if_pos rfl]
theorem zG (s:ap) (a b c v:Int):gb s 11 a b c v=((iG s v a).1,0,(iG s v a).2):=by
 unfold gb
 iterate 10 rw [if_neg (by omega)]
 rw [if_pos rfl]
theorem Ew (s:ap) (a b c v:Int):gb s 12 a b c v=((fv s v).1,0,(fv s v).2):=by
 unfold gb
 iterate 11 rw [if_neg (by omega)]
 rw [if_pos rfl]
theorem Ev (s:ap) (a b c v:Int):gb s 13 a b c v=((ga s a).1,0,(ga s a).2):=by
 unfold gb
 iterate 12 rw [if_neg (by omega)]
theorem LY {s:ap} {a:Int} (h0:aG s=0) (h:a<0∨(s.2.1.length:Int)≤a∨s.2.1.getD a.toNat 0<0):bL s a=5:=by
 unfold bL;rw [if_neg (by omega),if_pos h]
theorem Ku {s:ap} {a:Int} (h0:aG s=0) (h:0≤a) (h1:a<s.2.1.length) (h2:0≤az s a):bL s a=0:=by
 unfold az at h2;unfold bL;rw [if_neg (by omega),if_neg (by omega)]
theorem LH {s:ap} {a:Int} (h0:aG s=0) (h:a<0∨(s.2.1.length:Int)≤a):bO s a=5:=by
 unfold bO;rw [if_neg (by omega),if_pos h]
theorem Im {s:ap} {a:Int} (h0:aG s=0) (h:0≤a) (h1:a<s.2.1.length):bO s a=0:=by
 unfold bO;rw [if_neg (by omega),if_neg (by omega)]
theorem yT {s:ap} {k a b c:Int} (v:Int) (hk:k=3∨k=4) (h:bG s a b c≠0):gb s k a b c v=(aP,0,bG s a b c):=by
 rcases hk with rfl | rfl
 ·rw [JA]; unfold jS; rw [if_pos h]
 ·rw [Jz]; unfold jQ; rw [if_pos h]
theorem Cx {s:ap} {k a b:Int} (c v:Int) (hk:k=5∨k=6) (h:aZ s a b≠0):gb s k a b c v=(aP,0,aZ s a b):=by
 rcases hk with rfl | rfl
 ·rw [Jy,if_pos h]
 ·rw [Jx]; unfold jT; rw [if_pos h]
theorem GG {k:Int} (h:dx k=true):(k=3∨k=4)∨(k=5∨k=6)∨k=7∨k=10:=by
 unfold dx at h;simp only [Bool.or_eq_true,decide_eq_true_eq] at h;omega
theorem Il {k:Int} (h:fu k=true):k=1∨k=11∨k=13:=by
 unfold fu at h;simp only [Bool.or_eq_true,decide_eq_true_eq] at h;omega
theorem Hu {s:ap} {k a:Int} (b c v:Int) (h0:aG s=0) (hr:dx k=true) (h:a<0∨(s.2.1.length:Int)≤a∨s.2.1.getD a.toNat 0<0):gb s k a b c v=(aP,0,5):=by
 have e:=LY h0 h;have hR:bG s a b c=5:=by unfold bG; rw [if_pos (by omega)]; exact e
 have hB:aZ s a b=5:=by unfold aZ; rw [if_pos (by omega)]; exact e
 rcases GG hr with hk | hk | rfl | rfl
 ·rw [yT v hk (by omega),hR]
 ·rw [Cx c v hk (by omega),hB]
 ·rw [Jw]; unfold gH; rw [if_pos (by omega),e]
 ·rw [Ex]; unfold gw; rw [if_pos (by omega),e]
theorem Ht {s:ap} {k a:Int} (b c v:Int) (h0:aG s=0) (hr:fu k=true) (h:a<0∨(s.2.1.length:Int)≤a):gb s k a b c v=(aP,0,5):=by
 have e:=LH h0 h;rcases Il hr with rfl | rfl | rfl
 ·rw [JB]; unfold bK; rw [if_pos (by omega),e]; rfl
 ·rw [zG]; unfold iG; rw [if_pos (by omega),e]
 ·rw [Ev]; unfold ga; rw [if_pos (by omega),e]
theorem yk:∀ (l:List bW),(∀ r∈l,0≤r.2∧r.2≤256)→0≤eo l∧eo l≤256 * (l.length:Int)
 | [],_=>by simp [eo]
 | r::l,h=>by
  have ih:=yk l fun x hx=>h x (List.mem_cons_of_mem _ hx)
  have h1:=h r List.mem_cons_self;have e:eo (r::l)=r.2+eo l:=by simp [eo]
  rw [e,List.length_cons];omega
theorem IX {s:ap} (R:Right s) {x b:Int} (O:ObjAt s x) (b0:0≤b) (b1:b<(dp s.1 x).1):((aK s.1 x (aj x (aa s.1).1).1).length:Int)=(dp s.1 x).1∧(aK s.1 x (aj x (aa s.1).1).1).getD b.toNat 0=s.1.getD (x+1+b).toNat 0 - 1:=by
 have hv:=R.refWord O.isb b0 b1;have e:(aj x (aa s.1).1).1=dp s.1 x:=rfl;have h1:=O.x0;have h2:=O.b0;have h3:=O.fit;rw [e];unfold aK;refine ⟨by simp; omega,?_⟩;have hlt:(x+1+b).toNat<s.1.length:=by omega
 have hg:s.1[(x+1+b).toNat]?=some (s.1.getD (x+1+b).toNat 0):=by rw [List.getD_eq_getElem?_getD,List.getElem?_eq_getElem hlt]; rfl
 rw [List.getD_eq_getElem?_getD,List.getElem?_map,List.getElem?_drop,List.getElem?_take,if_pos (by omega),show (x+1).toNat+b.toNat=(x+1+b).toNat by omega,hg];generalize s.1.getD (x+1+b).toNat 0=w at *;simp only [Option.map_some,Option.getD_some,nameOf];rw [if_neg (by omega)]
theorem CO {s:ap} (R:Right s) {x b c:Int} (O:ObjAt s x) (b0:0≤b) (b1:b<(dp s.1 x).1) (c0:0≤c) (c1:c<s.2.1.length):(ei s.1 x b (az s c)).1=s.1.set (x+1+b).toNat (az s c+1):=by
 unfold ei;rw [if_neg (by rw [O.isb]; simp),if_neg];rintro (h | h | ⟨h1,h2⟩)
 ·omega
 ·omega
 ·have h3:=R.rootIn c0 c1;unfold az at h1 h2;rw [(R.obj (R.rootNam c0 c1 (by omega))).isb] at h2;cases h2
theorem IA {s:ap} (R:Right s) {a:Int}:cP (cH s) a=false ↔ bJ s.2.2.1 a=0:=by
 obtain ⟨_,h6,h7⟩:=mh R.pin;have e:cP (cH s) a=lL s.2.2.1 a:=rfl;rw [e,uc h6];unfold bJ;cases h:aT s.2.2.1 a with
 | none=>simp
 | some v =>
  have:=(h7 _ (kl h)).2.2.1;simp only at this;simp only [Option.isSome_some,Option.getD_some];constructor
  ·intro h; cases h
  ·intro h; omega
end
section
open Go
set_option maxRecDepth 100000
set_option maxHeartbeats 1000000
set_option maxHeartbeats 8000000
def JQ:Nat→Option LoopGen
 | 3000011=>some fe
 | 1204000001=>some fe
 | 3000029=>some fe
 | 3000030=>some fe
 | 1000018=>some { rd:=[.dat 155 ty_I],A:=fun (k:Int)=>{ cs:=[.dat 156 .bool],inv:=fun (b:Bool)=>b=dx k,mu:=fun _=>0 } }
 | 1000028=>some { rd:=[.dat 155 ty_I],A:=fun (k:Int)=>{ cs:=[.dat 195 .bool],inv:=fun (b:Bool)=>b=fu k,mu:=fun _=>0 } }
 | 1000023=>some { rd:=[.box 2 aH,.box 3 As],A:=fun ((s,k,a,_):ap×Int×Int×Int×Int×Int)=>{ cs:=[.dat 16 ty_I,.box 17 de,.box 4 aH],inv:=fun ((x,h,_):Int×du×ap)=>(dx k=true→0≤a∧a<s.2.1.length∧0≤az s a∧x=az s a∧h=dp s.1 x)∧(fu k=true→0≤a∧a<s.2.1.length),mu:=fun _=>0 } }
 | 1000049=>some { rd:=[.dat 210 ty_I],A:=fun (k:Int)=>{ cs:=[.dat 267 .bool],inv:=fun (b:Bool)=>b=(decide (k=3)||decide (k=4)),mu:=fun _=>0 } }
 | 1000059=>some { rd:=[.dat 210 ty_I],A:=fun (k:Int)=>{ cs:=[.dat 328 .bool],inv:=fun (b:Bool)=>b=(decide (k=5)||decide (k=6)),mu:=fun _=>0 } }
 | 1000100=>some { rd:=[.dat 210 ty_I],A:=fun (k:Int)=>{ cs:=[.dat 535 .bool],inv:=fun (b:Bool)=>b=(decide (k=11)||decide (k=12)),mu:=fun _=>0 } }
 | 92=>some { rd:=[.box 2 aH],A:=fun (s:ap)=>{ cs:=[.dat 499 ty_I,.boxS 10 [.own 29 a8,.own 3 ty_I,.own 133 cz,.own 82 bC],.box 4 aH],inv:=fun ((i,b,_):Int×ap×ap)=>0≤i∧i≤s.2.2.2.length∧b=s∧ai aL i (s.2.2.2.drop i.toNat)=ai aL 0 s.2.2.2,mu:=fun ((i,_):Int×ap×ap)=>(s.2.2.2.length - i).toNat } }
 | _=>none
def Ib:Spec:={ Ts:=[aH,As],Rs:=[.dat aH,.dat a8,.dat ty_I],al:=true,pre:=fun _=>True,F:=fun ((s,k,a,b,c,v):ap×Int×Int×Int×Int×Int)=>aB s k a b c v }
def Bq:Prop :=
  ∀ (x:(List Int×List Int×List (Int×Int)×List (Int×Bool×Int))×Int×Int×Int×Int×Int),((x.1.1.length * 8≤aA∧∀ (x_1:Int),x_1∈x.1.1→ak .u64 x_1)∧(x.1.2.1.length * 8≤aA∧∀ (x_1:Int),x_1∈x.1.2.1→ak .i64 x_1)∧(x.1.2.2.1.length * (8+8)≤aA∧∀ (x_1:Int×Int),x_1∈x.1.2.2.1→ak .i64 x_1.1∧ak .i64 x_1.2)∧x.1.2.2.2.length * (8+(8+8))≤aA∧∀ (x_1:Int×Bool×Int),x_1∈x.1.2.2.2→ak .i64 x_1.1∧True∧ak .i64 x_1.2.2)∧ak .i64 x.2.1∧ak .i64 x.2.2.1∧ak .i64 x.2.2.2.1∧ak .i64 x.2.2.2.2.1∧ak .u64 x.2.2.2.2.2→True→∀ (_:Array Value),True∧x.1.2.1.length * 8≤aA∧x.1.2.2.1.length * (8+8)≤aA∧x.1.2.1=x.1.2.1∧x.1.2.2.1=x.1.2.2.1∧x.1.2.2.1=x.1.2.2.1∧x.1.2.2.2=x.1.2.2.2∧x.1.2.2.2=x.1.2.2.2∧x.1.2.2.2=x.1.2.2.2∧x.1.2.2.2.length * (8+(8+8))≤aA∧((decide (x.2.1<1)||decide (13<x.2.1)||!(decide (x.2.1≠2)&&decide (x.2.1≠12))&&decide (x.2.2.1≠0)||!(decide (x.2.1=1)||decide (3≤x.2.1)&&decide (x.2.1≤6)||decide (x.2.1=9))&&decide (x.2.2.2.1≠0)||!(decide (x.2.1=1)||decide (x.2.1=3)||decide (x.2.1=4))&&decide (x.2.2.2.2.1≠0)||!(decide (x.2.1=1)||decide (x.2.1=6)||decide (x.2.1=11)||decide (x.2.1=12))&&decide (x.2.2.2.2.2≠0))=true→∀ (_:Array Value),(([]:List Int),([]:List Int),([]:List (Int×Int)),([]:List (Int×Bool×Int)))=(aB x.1 x.2.1 x.2.2.1 x.2.2.2.1 x.2.2.2.2.1 x.2.2.2.2.2).1∧0=(aB x.1 x.2.1 x.2.2.1 x.2.2.2.1 x.2.2.2.2.1 x.2.2.2.2.2).2.1∧1=(aB x.1 x.2.1 x.2.2.1 x.2.2.2.1 x.2.2.2.2.1 x.2.2.2.2.2).2.2∧True)∧((decide (x.2.1<1)||decide (13<x.2.1)||!(decide (x.2.1≠2)&&decide (x.2.1≠12))&&decide (x.2.2.1≠0)||!(decide (x.2.1=1)||decide (3≤x.2.1)&&decide (x.2.1≤6)||decide (x.2.1=9))&&decide (x.2.2.2.1≠0)||!(decide (x.2.1=1)||decide (x.2.1=3)||decide (x.2.1=4))&&decide (x.2.2.2.2.1≠0)||!(decide (x.2.1=1)||decide (x.2.1=6)||decide (x.2.1=11)||decide (x.2.1=12))&&decide (x.2.2.2.2.2≠0))=false→True∧(decide (aG x.1≠0)=true→∀ (_:Array Value),(([]:List Int),([]:List Int),([]:List (Int×Int)),([]:List (Int×Bool×Int)))=(aB x.1 x.2.1 x.2.2.1 x.2.2.2.1 x.2.2.2.2.1 x.2.2.2.2.2).1∧0=(aB x.1 x.2.1 x.2.2.1 x.2.2.2.1 x.2.2.2.2.1 x.2.2.2.2.2).2.1∧aG x.1=(aB x.1 x.2.1 x.2.2.1 x.2.2.2.1 x.2.2.2.2.1 x.2.2.2.2.2).2.2∧True)∧(decide (aG x.1≠0)=false→((decide (x.2.1=3)=true→decide (x.2.1=3)=dx x.2.1)∧(decide (x.2.1=3)=false→(decide (x.2.1=4)=true→decide (x.2.1=4)=dx x.2.1)∧(decide (x.2.1=4)=false→(decide (x.2.1=5)=true→decide (x.2.1=5)=dx x.2.1)∧(decide (x.2.1=5)=false→(decide (x.2.1=6)=true→decide (x.2.1=6)=dx x.2.1)∧(decide (x.2.1=6)=false→(decide (x.2.1=7)=true→decide (x.2.1=7)=dx x.2.1)∧(decide (x.2.1=7)=false→decide (x.2.1=10)=dx x.2.1))))))∧∀ (x_1:Bool),x_1=dx x.2.1→((x_1=true→∀ (_:Array Value),((!(decide (0≤x.2.2.1)&&decide (x.2.2.1<(↑x.1.2.1.length:Int))))=false→0≤x.2.2.1)∧((!(decide (0≤x.2.2.1)&&decide (x.2.2.1<(↑x.1.2.1.length:Int))))=false→x.2.2.1<(↑x.1.2.1.length:Int))∧((!(decide (0≤x.2.2.1)&&decide (x.2.2.1<(↑x.1.2.1.length:Int)))||decide (x.1.2.1.getD x.2.2.1.toNat (0:Int)<0))=true→∀ (_:Array Value),(([]:List Int),([]:List Int),([]:List (Int×Int)),([]:List (Int×Bool×Int)))=(aB x.1 x.2.1 x.2.2.1 x.2.2.2.1 x.2.2.2.2.1 x.2.2.2.2.2).1∧0=(aB x.1 x.2.1 x.2.2.1 x.2.2.2.1 x.2.2.2.2.1 x.2.2.2.2.2).2.1∧5=(aB x.1 x.2.1 x.2.2.1 x.2.2.2.1 x.2.2.2.2.1 x.2.2.2.2.2).2.2∧True)∧((!(decide (0≤x.2.2.1)&&decide (x.2.2.1<(↑x.1.2.1.length:Int)))||decide (x.1.2.1.getD x.2.2.1.toNat (0:Int)<0))=false→0≤x.2.2.1∧x.2.2.1<(↑x.1.2.1.length:Int)∧True∧(dx x.2.1=true→0≤x.2.2.1∧x.2.2.1<(↑x.1.2.1.length:Int)∧0≤az x.1 x.2.2.1∧x.1.2.1.getD x.2.2.1.toNat 0=az x.1 x.2.2.1∧(aj (x.1.2.1.getD x.2.2.1.toNat 0) (aa x.1.1).1).1=dp x.1.1 (x.1.2.1.getD x.2.2.1.toNat 0))∧(fu x.2.1=true→0≤x.2.2.1∧x.2.2.1<(↑x.1.2.1.length:Int))))∧(x_1=false→((decide (x.2.1=1)=true→decide (x.2.1=1)=fu x.2.1)∧(decide (x.2.1=1)=false→(decide (x.2.1=11)=true→decide (x.2.1=11)=fu x.2.1)∧(decide (x.2.1=11)=false→decide (x.2.1=13)=fu x.2.1)))∧∀ (x_2:Bool),x_2=fu x.2.1→(x_2=true→∀ (_:Array Value),((!(decide (0≤x.2.2.1)&&decide (x.2.2.1<(↑x.1.2.1.length:Int))))=true→∀ (_:Array Value),(([]:List Int),([]:List Int),([]:List (Int×Int)),([]:List (Int×Bool×Int)))=(aB x.1 x.2.1 x.2.2.1 x.2.2.2.1 x.2.2.2.2.1 x.2.2.2.2.2).1∧0=(aB x.1 x.2.1 x.2.2.1 x.2.2.2.1 x.2.2.2.2.1 x.2.2.2.2.2).2.1∧5=(aB x.1 x.2.1 x.2.2.1 x.2.2.2.1 x.2.2.2.2.1 x.2.2.2.2.2).2.2∧True)∧((!(decide (0≤x.2.2.1)&&decide (x.2.2.1<(↑x.1.2.1.length:Int))))=false→(dx x.2.1=true→0≤x.2.2.1∧x.2.2.1<(↑x.1.2.1.length:Int)∧0≤az x.1 x.2.2.1∧0=az x.1 x.2.2.1∧(0,0,0,false)=dp x.1.1 0)∧(fu x.2.1=true→0≤x.2.2.1∧x.2.2.1<(↑x.1.2.1.length:Int))))∧(x_2=false→(dx x.2.1=true→0≤x.2.2.1∧x.2.2.1<(↑x.1.2.1.length:Int)∧0≤az x.1 x.2.2.1∧0=az x.1 x.2.2.1∧(0,0,0,false)=dp x.1.1 0)∧(fu x.2.1=true→0≤x.2.2.1∧x.2.2.1<(↑x.1.2.1.length:Int)))))∧∀ (x_2:Int×(Int×Int×Int×Bool)×List Int×List Int×List (Int×Int)×List (Int×Bool×Int)),(dx x.2.1=true→0≤x.2.2.1∧x.2.2.1<(↑x.1.2.1.length:Int)∧0≤az x.1 x.2.2.1∧x_2.1=az x.1 x.2.2.1∧x_2.2.1=dp x.1.1 x_2.1)∧(fu x.2.1=true→0≤x.2.2.1∧x.2.2.1<(↑x.1.2.1.length:Int))→(decide (x.2.1=1)=true→0≤x.2.2.2.2.2∧(0:Int)<65536∧True∧(decide (af (x.2.2.2.1,x.2.2.2.2.1,IntKind.i64.wrap (x.2.2.2.2.2 % 65536),false)≠0)=true→∀ (_:Array Value),(([]:List Int),([]:List Int),([]:List (Int×Int)),([]:List (Int×Bool×Int)))=(aB x.1 x.2.1 x.2.2.1 x.2.2.2.1 x.2.2.2.2.1 x.2.2.2.2.2).1∧0=(aB x.1 x.2.1 x.2.2.1 x.2.2.2.1 x.2.2.2.2.1 x.2.2.2.2.2).2.1∧af (x.2.2.2.1,x.2.2.2.2.1,IntKind.i64.wrap (x.2.2.2.2.2 % 65536),false)=(aB x.1 x.2.1 x.2.2.1 x.2.2.2.1 x.2.2.2.2.1 x.2.2.2.2.2).2.2∧True)∧(decide (af (x.2.2.2.1,x.2.2.2.2.1,IntKind.i64.wrap (x.2.2.2.2.2 % 65536),false)≠0)=false→(l9 x.1 (x.2.2.2.1,x.2.2.2.2.1,IntKind.i64.wrap (x.2.2.2.2.2 % 65536),false)∧0≤x.2.2.1∧x.2.2.1<(↑x.1.2.1.length:Int))∧((cu x.1 x.2.2.1 (x.2.2.2.1,x.2.2.2.2.1,IntKind.i64.wrap (x.2.2.2.2.2 % 65536),false)).2=true→(cu x.1 x.2.2.1 (x.2.2.2.1,x.2.2.2.2.1,IntKind.i64.wrap (x.2.2.2.2.2 % 65536),false)).1=(aB x.1 x.2.1 x.2.2.1 x.2.2.2.1 x.2.2.2.2.1 x.2.2.2.2.2).1∧0=(aB x.1 x.2.1 x.2.2.1 x.2.2.2.1 x.2.2.2.2.1 x.2.2.2.2.2).2.1∧0=(aB x.1 x.2.1 x.2.2.1 x.2.2.2.1 x.2.2.2.2.1 x.2.2.2.2.2).2.2∧True)∧((cu x.1 x.2.2.1 (x.2.2.2.1,x.2.2.2.2.1,IntKind.i64.wrap (x.2.2.2.2.2 % 65536),false)).2=false→aG x.1=0∧(l9 (bc x.1) (x.2.2.2.1,x.2.2.2.2.1,IntKind.i64.wrap (x.2.2.2.2.2 % 65536),false)∧0≤x.2.2.1∧x.2.2.1<(↑(bc x.1).2.1.length:Int))∧x.1.1=x.1.1∧x.1.2.1=x.1.2.1∧x.1.2.2.1=x.1.2.2.1∧x.1.2.2.2=x.1.2.2.2∧aG x.1=0∧(bc x.1).1=(bc x.1).1∧(bc x.1).2.1=(bc x.1).2.1∧(bc x.1).2.2.1=(bc x.1).2.2.1∧(bc x.1).2.2.2=(bc x.1).2.2.2∧x.2.2.1=x.2.2.1∧x.2.2.2.1=x.2.2.2.1∧x.2.2.2.2.1=x.2.2.2.2.1∧IntKind.i64.wrap (x.2.2.2.2.2 % 65536)=IntKind.i64.wrap (x.2.2.2.2.2 % 65536)∧false=false∧(l9 (bc x.1) (x.2.2.2.1,x.2.2.2.2.1,IntKind.i64.wrap (x.2.2.2.2.2 % 65536),false)∧0≤x.2.2.1∧x.2.2.1<(↑(bc x.1).2.1.length:Int))∧(cu (bc x.1) x.2.2.1 (x.2.2.2.1,x.2.2.2.2.1,IntKind.i64.wrap (x.2.2.2.2.2 % 65536),false)).1.1=(cu (bc x.1) x.2.2.1 (x.2.2.2.1,x.2.2.2.2.1,IntKind.i64.wrap (x.2.2.2.2.2 % 65536),false)).1.1∧(cu (bc x.1) x.2.2.1 (x.2.2.2.1,x.2.2.2.2.1,IntKind.i64.wrap (x.2.2.2.2.2 % 65536),false)).1.2.1=(cu (bc x.1) x.2.2.1 (x.2.2.2.1,x.2.2.2.2.1,IntKind.i64.wrap (x.2.2.2.2.2 % 65536),false)).1.2.1∧(cu (bc x.1) x.2.2.1 (x.2.2.2.1,x.2.2.2.2.1,IntKind.i64.wrap (x.2.2.2.2.2 % 65536),false)).1.2.2.1=(cu (bc x.1) x.2.2.1 (x.2.2.2.1,x.2.2.2.2.1,IntKind.i64.wrap (x.2.2.2.2.2 % 65536),false)).1.2.2.1∧(cu (bc x.1) x.2.2.1 (x.2.2.2.1,x.2.2.2.2.1,IntKind.i64.wrap (x.2.2.2.2.2 % 65536),false)).1.2.2.2=(cu (bc x.1) x.2.2.1 (x.2.2.2.1,x.2.2.2.2.1,IntKind.i64.wrap (x.2.2.2.2.2 % 65536),false)).1.2.2.2∧(cu (bc x.1) x.2.2.1 (x.2.2.2.1,x.2.2.2.2.1,IntKind.i64.wrap (x.2.2.2.2.2 % 65536),false)).2=(cu (bc x.1) x.2.2.1 (x.2.2.2.1,x.2.2.2.2.1,IntKind.i64.wrap (x.2.2.2.2.2 % 65536),false)).2∧(cu (bc x.1) x.2.2.1 (x.2.2.2.1,x.2.2.2.2.1,IntKind.i64.wrap (x.2.2.2.2.2 % 65536),false)).1.1=(cu (bc x.1) x.2.2.1 (x.2.2.2.1,x.2.2.2.2.1,IntKind.i64.wrap (x.2.2.2.2.2 % 65536),false)).1.1∧(cu (bc x.1) x.2.2.1 (x.2.2.2.1,x.2.2.2.2.1,IntKind.i64.wrap (x.2.2.2.2.2 % 65536),false)).1.2.1=(cu (bc x.1) x.2.2.1 (x.2.2.2.1,x.2.2.2.2.1,IntKind.i64.wrap (x.2.2.2.2.2 % 65536),false)).1.2.1∧(cu (bc x.1) x.2.2.1 (x.2.2.2.1,x.2.2.2.2.1,IntKind.i64.wrap (x.2.2.2.2.2 % 65536),false)).1.2.2.1=(cu (bc x.1) x.2.2.1 (x.2.2.2.1,x.2.2.2.2.1,IntKind.i64.wrap (x.2.2.2.2.2 % 65536),false)).1.2.2.1∧(cu (bc x.1) x.2.2.1 (x.2.2.2.1,x.2.2.2.2.1,IntKind.i64.wrap (x.2.2.2.2.2 % 65536),false)).1.2.2.2=(cu (bc x.1) x.2.2.1 (x.2.2.2.1,x.2.2.2.2.1,IntKind.i64.wrap (x.2.2.2.2.2 % 65536),false)).1.2.2.2∧(cu (bc x.1) x.2.2.1 (x.2.2.2.1,x.2.2.2.2.1,IntKind.i64.wrap (x.2.2.2.2.2 % 65536),false)).2=(cu (bc x.1) x.2.2.1 (x.2.2.2.1,x.2.2.2.2.1,IntKind.i64.wrap (x.2.2.2.2.2 % 65536),false)).2∧(cu (bc x.1) x.2.2.1 (x.2.2.2.1,x.2.2.2.2.1,IntKind.i64.wrap (x.2.2.2.2.2 % 65536),false)).1.1=(cu (bc x.1) x.2.2.1 (x.2.2.2.1,x.2.2.2.2.1,IntKind.i64.wrap (x.2.2.2.2.2 % 65536),false)).1.1∧(cu (bc x.1) x.2.2.1 (x.2.2.2.1,x.2.2.2.2.1,IntKind.i64.wrap (x.2.2.2.2.2 % 65536),false)).1.2.1=(cu (bc x.1) x.2.2.1 (x.2.2.2.1,x.2.2.2.2.1,IntKind.i64.wrap (x.2.2.2.2.2 % 65536),false)).1.2.1∧(cu (bc x.1) x.2.2.1 (x.2.2.2.1,x.2.2.2.2.1,IntKind.i64.wrap (x.2.2.2.2.2 % 65536),false)).1.2.2.1=(cu (bc x.1) x.2.2.1 (x.2.2.2.1,x.2.2.2.2.1,IntKind.i64.wrap (x.2.2.2.2.2 % 65536),false)).1.2.2.1∧(cu (bc x.1) x.2.2.1 (x.2.2.2.1,x.2.2.2.2.1,IntKind.i64.wrap (x.2.2.2.2.2 % 65536),false)).1.2.2.2=(cu (bc x.1) x.2.2.1 (x.2.2.2.1,x.2.2.2.2.1,IntKind.i64.wrap (x.2.2.2.2.2 % 65536),false)).1.2.2.2∧(cu (bc x.1) x.2.2.1 (x.2.2.2.1,x.2.2.2.2.1,IntKind.i64.wrap (x.2.2.2.2.2 % 65536),false)).2=(cu (bc x.1) x.2.2.1 (x.2.2.2.1,x.2.2.2.2.1,IntKind.i64.wrap (x.2.2.2.2.2 % 65536),false)).2∧(cu (bc x.1) x.2.2.1 (x.2.2.2.1,x.2.2.2.2.1,IntKind.i64.wrap (x.2.2.2.2.2 % 65536),false)).2=(cu (bc x.1) x.2.2.1 (x.2.2.2.1,x.2.2.2.2.1,IntKind.i64.wrap (x.2.2.2.2.2 % 65536),false)).2∧((cu (bc x.1) x.2.2.1 (x.2.2.2.1,x.2.2.2.2.1,IntKind.i64.wrap (x.2.2.2.2.2 % 65536),false)).2=true→(cu (bc x.1) x.2.2.1 (x.2.2.2.1,x.2.2.2.2.1,IntKind.i64.wrap (x.2.2.2.2.2 % 65536),false)).1=(aB x.1 x.2.1 x.2.2.1 x.2.2.2.1 x.2.2.2.2.1 x.2.2.2.2.2).1∧1=(aB x.1 x.2.1 x.2.2.1 x.2.2.2.1 x.2.2.2.2.1 x.2.2.2.2.2).2.1∧0=(aB x.1 x.2.1 x.2.2.1 x.2.2.2.1 x.2.2.2.2.1 x.2.2.2.2.2).2.2∧True)∧((cu (bc x.1) x.2.2.1 (x.2.2.2.1,x.2.2.2.2.1,IntKind.i64.wrap (x.2.2.2.2.2 % 65536),false)).2=false→∀ (_:Array Value),(([]:List Int),([]:List Int),([]:List (Int×Int)),([]:List (Int×Bool×Int)))=(aB x.1 x.2.1 x.2.2.1 x.2.2.2.1 x.2.2.2.2.1 x.2.2.2.2.2).1∧0=(aB x.1 x.2.1 x.2.2.1 x.2.2.2.1 x.2.2.2.2.1 x.2.2.2.2.2).2.1∧7=(aB x.1 x.2.1 x.2.2.1 x.2.2.2.1 x.2.2.2.2.1 x.2.2.2.2.2).2.2∧True))))∧(decide (x.2.1=1)=false→(decide (x.2.1=2)=true→aG x.1=0∧(aa (bc x.1).1).2=0∧IntKind.u64.wrap (eo (aU false ([]:List bW) (aa (bc x.1).1).1))=IntKind.u64.wrap (eo (aU false ([]:List bW) (aa (bc x.1).1).1))∧bc x.1=(aB x.1 x.2.1 x.2.2.1 x.2.2.2.1 x.2.2.2.2.1 x.2.2.2.2.2).1∧IntKind.u64.wrap (eo (aU false ([]:List bW) (aa (bc x.1).1).1))=(aB x.1 x.2.1 x.2.2.1 x.2.2.2.1 x.2.2.2.2.1 x.2.2.2.2.2).2.1∧0=(aB x.1 x.2.1 x.2.2.1 x.2.2.2.1 x.2.2.2.2.1 x.2.2.2.2.2).2.2∧True)∧(decide (x.2.1=2)=false→((decide (x.2.1=3)=true→decide (x.2.1=3)=(decide (x.2.1=3)||decide (x.2.1=4)))∧(decide (x.2.1=3)=false→decide (x.2.1=4)=(decide (x.2.1=3)||decide (x.2.1=4))))∧∀ (x_3:Bool),x_3=(decide (x.2.1=3)||decide (x.2.1=4))→(x_3=true→((decide (x.2.2.2.1<0)||decide (x_2.2.1.1≤x.2.2.2.1))=true→∀ (_:Array Value),(([]:List Int),([]:List Int),([]:List (Int×Int)),([]:List (Int×Bool×Int)))=(aB x.1 x.2.1 x.2.2.1 x.2.2.2.1 x.2.2.2.2.1 x.2.2.2.2.2).1∧0=(aB x.1 x.2.1 x.2.2.1 x.2.2.2.1 x.2.2.2.2.1 x.2.2.2.2.2).2.1∧4=(aB x.1 x.2.1 x.2.2.1 x.2.2.2.1 x.2.2.2.2.1 x.2.2.2.2.2).2.2∧True)∧((decide (x.2.2.2.1<0)||decide (x_2.2.1.1≤x.2.2.2.1))=false→∀ (_:Array Value),((!(decide (0≤x.2.2.2.2.1)&&decide (x.2.2.2.2.1<(↑x.1.2.1.length:Int))))=true→∀ (_:Array Value),(([]:List Int),([]:List Int),([]:List (Int×Int)),([]:List (Int×Bool×Int)))=(aB x.1 x.2.1 x.2.2.1 x.2.2.2.1 x.2.2.2.2.1 x.2.2.2.2.2).1∧0=(aB x.1 x.2.1 x.2.2.1 x.2.2.2.1 x.2.2.2.2.1 x.2.2.2.2.2).2.1∧5=(aB x.1 x.2.1 x.2.2.1 x.2.2.2.1 x.2.2.2.2.1 x.2.2.2.2.2).2.2∧True)∧((!(decide (0≤x.2.2.2.2.1)&&decide (x.2.2.2.2.1<(↑x.1.2.1.length:Int))))=false→(decide (x.2.1=3)=true→True∧0≤x.2.2.2.1∧x.2.2.2.1<(↑(aK x.1.1 x_2.1 (aj x_2.1 (aa x.1.1).1).1).length:Int)∧0≤x.2.2.2.2.1∧x.2.2.2.2.1<(↑x.1.2.1.length:Int)∧x.2.2.2.2.1.toNat<x.1.2.1.length∧(x.1.1,x.1.2.1.set x.2.2.2.2.1.toNat ((aK x.1.1 x_2.1 (aj x_2.1 (aa x.1.1).1).1).getD x.2.2.2.1.toNat 0),x.1.2.2)=(aB x.1 x.2.1 x.2.2.1 x.2.2.2.1 x.2.2.2.2.1 x.2.2.2.2.2).1∧0=(aB x.1 x.2.1 x.2.2.1 x.2.2.2.1 x.2.2.2.2.1 x.2.2.2.2.2).2.1∧0=(aB x.1 x.2.1 x.2.2.1 x.2.2.2.1 x.2.2.2.2.1 x.2.2.2.2.2).2.2∧True)∧(decide (x.2.1=3)=false→0≤x.2.2.2.2.1∧x.2.2.2.2.1<(↑x.1.2.1.length:Int)∧(au x.1.1).2.2=0∧(ei x.1.1 x_2.1 x.2.2.2.1 (x.1.2.1.getD x.2.2.2.2.1.toNat 0)).2=(ei x.1.1 x_2.1 x.2.2.2.1 (x.1.2.1.getD x.2.2.2.2.1.toNat 0)).2∧((ei x.1.1 x_2.1 x.2.2.2.1 (x.1.2.1.getD x.2.2.2.2.1.toNat 0)).1,x.1.2)=(aB x.1 x.2.1 x.2.2.1 x.2.2.2.1 x.2.2.2.2.1 x.2.2.2.2.2).1∧0=(aB x.1 x.2.1 x.2.2.1 x.2.2.2.1 x.2.2.2.2.1 x.2.2.2.2.2).2.1∧0=(aB x.1 x.2.1 x.2.2.1 x.2.2.2.1 x.2.2.2.2.1 x.2.2.2.2.2).2.2∧True))))∧(x_3=false→((decide (x.2.1=5)=true→decide (x.2.1=5)=(decide (x.2.1=5)||decide (x.2.1=6)))∧(decide (x.2.1=5)=false→decide (x.2.1=6)=(decide (x.2.1=5)||decide (x.2.1=6))))∧∀ (x_4:Bool),x_4=(decide (x.2.1=5)||decide (x.2.1=6))→(x_4=true→((decide (x.2.2.2.1<0)||decide (x_2.2.1.2.1≤x.2.2.2.1))=true→∀ (_:Array Value),(([]:List Int),([]:List Int),([]:List (Int×Int)),([]:List (Int×Bool×Int)))=(aB x.1 x.2.1 x.2.2.1 x.2.2.2.1 x.2.2.2.2.1 x.2.2.2.2.2).1∧0=(aB x.1 x.2.1 x.2.2.1 x.2.2.2.1 x.2.2.2.2.1 x.2.2.2.2.2).2.1∧4=(aB x.1 x.2.1 x.2.2.1 x.2.2.2.1 x.2.2.2.2.1 x.2.2.2.2.2).2.2∧True)∧((decide (x.2.2.2.1<0)||decide (x_2.2.1.2.1≤x.2.2.2.1))=false→ak .i64 (x_2.1+1)∧ak .i64 (x_2.1+1+x_2.2.1.1)∧ak .i64 (x_2.1+1+x_2.2.1.1+x.2.2.2.1)∧(decide (x.2.1=5)=true→0≤x_2.1+1+x_2.2.1.1+x.2.2.2.1∧x_2.1+1+x_2.2.1.1+x.2.2.2.1<(↑x.1.1.length:Int)∧x.1.1=x.1.1∧x_2.1+1+x_2.2.1.1+x.2.2.2.1=x_2.1+1+x_2.2.1.1+x.2.2.2.1∧0≤x_2.1+1+x_2.2.1.1+x.2.2.2.1∧x_2.1+1+x_2.2.1.1+x.2.2.2.1<(↑x.1.1.length:Int)∧x.1.1.getD (x_2.1+1+x_2.2.1.1+x.2.2.2.1).toNat 0=x.1.1.getD (x_2.1+1+x_2.2.1.1+x.2.2.2.1).toNat 0∧x.1.1.getD (x_2.1+1+x_2.2.1.1+x.2.2.2.1).toNat 0=x.1.1.getD (x_2.1+1+x_2.2.1.1+x.2.2.2.1).toNat 0∧x.1=(aB x.1 x.2.1 x.2.2.1 x.2.2.2.1 x.2.2.2.2.1 x.2.2.2.2.2).1∧x.1.1.getD (x_2.1+1+x_2.2.1.1+x.2.2.2.1).toNat 0=(aB x.1 x.2.1 x.2.2.1 x.2.2.2.1 x.2.2.2.2.1 x.2.2.2.2.2).2.1∧0=(aB x.1 x.2.1 x.2.2.1 x.2.2.2.1 x.2.2.2.2.1 x.2.2.2.2.2).2.2∧True)∧(decide (x.2.1=5)=false→0≤x_2.1+1+x_2.2.1.1+x.2.2.2.1∧x_2.1+1+x_2.2.1.1+x.2.2.2.1<(↑x.1.1.length:Int)∧(x_2.1+1+x_2.2.1.1+x.2.2.2.1).toNat<x.1.1.length∧(x.1.1.set (x_2.1+1+x_2.2.1.1+x.2.2.2.1).toNat x.2.2.2.2.2,x.1.2)=(aB x.1 x.2.1 x.2.2.1 x.2.2.2.1 x.2.2.2.2.1 x.2.2.2.2.2).1∧0=(aB x.1 x.2.1 x.2.2.1 x.2.2.2.1 x.2.2.2.2.1 x.2.2.2.2.2).2.1∧0=(aB x.1 x.2.1 x.2.2.1 x.2.2.2.1 x.2.2.2.2.1 x.2.2.2.2.2).2.2∧True)))∧(x_4=false→(decide (x.2.1=7)=true→True∧((decide ((aT (cR ([]:List bk) x.1.2.2.1) x_2.1).getD (0:Int)=1000000)||decide ((aT (cR ([]:List bk) x.1.2.2.1) x_2.1).getD (0:Int)=0)&&decide ((↑x.1.2.2.1.length:Int)=16))=true→∀ (_:Array Value),(([]:List Int),([]:List Int),([]:List (Int×Int)),([]:List (Int×Bool×Int)))=(aB x.1 x.2.1 x.2.2.1 x.2.2.2.1 x.2.2.2.2.1 x.2.2.2.2.2).1∧0=(aB x.1 x.2.1 x.2.2.1 x.2.2.2.1 x.2.2.2.2.1 x.2.2.2.2.2).2.1∧7=(aB x.1 x.2.1 x.2.2.1 x.2.2.2.1 x.2.2.2.2.1 x.2.2.2.2.2).2.2∧True)∧((decide ((aT (cR ([]:List bk) x.1.2.2.1) x_2.1).getD (0:Int)=1000000)||decide ((aT (cR ([]:List bk) x.1.2.2.1) x_2.1).getD (0:Int)=0)&&decide ((↑x.1.2.2.1.length:Int)=16))=false→ak .i64 ((aT (cR ([]:List bk) x.1.2.2.1) x_2.1).getD 0+1)∧True∧(x.1.1,x.1.2.1,ic (ef (cR ([]:List bk) x.1.2.2.1) x_2.1 ((aT (cR ([]:List bk) x.1.2.2.1) x_2.1).getD 0+1)),x.1.2.2.2)=(aB x.1 x.2.1 x.2.2.1 x.2.2.2.1 x.2.2.2.2.1 x.2.2.2.2.2).1∧IntKind.u64.wrap x_2.1=(aB x.1 x.2.1 x.2.2.1 x.2.2.2.1 x.2.2.2.2.1 x.2.2.2.2.2).2.1∧0=(aB x.1 x.2.1 x.2.2.1 x.2.2.2.1 x.2.2.2.2.1 x.2.2.2.2.2).2.2∧True))∧(decide (x.2.1=7)=false→(decide (x.2.1=8)=true→True∧((decide (x.2.2.1<0)||decide (255<x.2.2.1))=true→∀ (_:Array Value),(([]:List Int),([]:List Int),([]:List (Int×Int)),([]:List (Int×Bool×Int)))=(aB x.1 x.2.1 x.2.2.1 x.2.2.2.1 x.2.2.2.2.1 x.2.2.2.2.2).1∧0=(aB x.1 x.2.1 x.2.2.1 x.2.2.2.1 x.2.2.2.2.1 x.2.2.2.2.2).2.1∧4=(aB x.1 x.2.1 x.2.2.1 x.2.2.2.1 x.2.2.2.2.1 x.2.2.2.2.2).2.2∧True)∧((decide (x.2.2.1<0)||decide (255<x.2.2.1))=false→(decide ((aT (cR ([]:List bk) x.1.2.2.1) x.2.2.1).getD (0:Int)=0)=true→∀ (_:Array Value),(([]:List Int),([]:List Int),([]:List (Int×Int)),([]:List (Int×Bool×Int)))=(aB x.1 x.2.1 x.2.2.1 x.2.2.2.1 x.2.2.2.2.1 x.2.2.2.2.2).1∧0=(aB x.1 x.2.1 x.2.2.1 x.2.2.2.1 x.2.2.2.2.1 x.2.2.2.2.2).2.1∧5=(aB x.1 x.2.1 x.2.2.1 x.2.2.2.1 x.2.2.2.2.1 x.2.2.2.2.2).2.2∧True)∧(decide ((aT (cR ([]:List bk) x.1.2.2.1) x.2.2.1).getD (0:Int)=0)=false→ak .i64 ((aT (cR ([]:List bk) x.1.2.2.1) x.2.2.1).getD 0 - 1)∧True∧(x.1.1,x.1.2.1,ic (ef (cR ([]:List bk) x.1.2.2.1) x.2.2.1 ((aT (cR ([]:List bk) x.1.2.2.1) x.2.2.1).getD 0 - 1)),x.1.2.2.2)=(aB x.1 x.2.1 x.2.2.1 x.2.2.2.1 x.2.2.2.2.1 x.2.2.2.2.2).1∧0=(aB x.1 x.2.1 x.2.2.1 x.2.2.2.1 x.2.2.2.2.1 x.2.2.2.2.2).2.1∧0=(aB x.1 x.2.1 x.2.2.1 x.2.2.2.1 x.2.2.2.2.1 x.2.2.2.2.2).2.2∧True)))∧(decide (x.2.1=8)=false→(decide (x.2.1=9)=true→True∧(decide ((aT (cR ([]:List bk) x.1.2.2.1) x.2.2.1).getD (0:Int)=0)=true→∀ (_:Array Value),(([]:List Int),([]:List Int),([]:List (Int×Int)),([]:List (Int×Bool×Int)))=(aB x.1 x.2.1 x.2.2.1 x.2.2.2.1 x.2.2.2.2.1 x.2.2.2.2.2).1∧0=(aB x.1 x.2.1 x.2.2.1 x.2.2.2.1 x.2.2.2.2.1 x.2.2.2.2.2).2.1∧8=(aB x.1 x.2.1 x.2.2.1 x.2.2.2.1 x.2.2.2.2.1 x.2.2.2.2.2).2.2∧True)∧(decide ((aT (cR ([]:List bk) x.1.2.2.1) x.2.2.1).getD (0:Int)=0)=false→True∧((decide (x.2.2.2.1<0)||decide ((aj x.2.2.1 (aa x.1.1).1).1.2.1≤x.2.2.2.1))=true→∀ (_:Array Value),(([]:List Int),([]:List Int),([]:List (Int×Int)),([]:List (Int×Bool×Int)))=(aB x.1 x.2.1 x.2.2.1 x.2.2.2.1 x.2.2.2.2.1 x.2.2.2.2.2).1∧0=(aB x.1 x.2.1 x.2.2.1 x.2.2.2.1 x.2.2.2.2.1 x.2.2.2.2.2).2.1∧4=(aB x.1 x.2.1 x.2.2.1 x.2.2.2.1 x.2.2.2.2.1 x.2.2.2.2.2).2.2∧True)∧((decide (x.2.2.2.1<0)||decide ((aj x.2.2.1 (aa x.1.1).1).1.2.1≤x.2.2.2.1))=false→ak .i64 (x.2.2.1+1)∧ak .i64 (x.2.2.1+1+(aj x.2.2.1 (aa x.1.1).1).1.1)∧ak .i64 (x.2.2.1+1+(aj x.2.2.1 (aa x.1.1).1).1.1+x.2.2.2.1)∧0≤x.2.2.1+1+(aj x.2.2.1 (aa x.1.1).1).1.1+x.2.2.2.1∧x.2.2.1+1+(aj x.2.2.1 (aa x.1.1).1).1.1+x.2.2.2.1<(↑x.1.1.length:Int)∧x.1.1=x.1.1∧x.2.2.1=x.2.2.1∧ak .i64 (x.2.2.1+1)∧x.2.2.1+1=x.2.2.1+1∧(aj x.2.2.1 (aa x.1.1).1).1.1=(aj x.2.2.1 (aa x.1.1).1).1.1∧ak .i64 (x.2.2.1+1+(aj x.2.2.1 (aa x.1.1).1).1.1)∧x.2.2.1+1+(aj x.2.2.1 (aa x.1.1).1).1.1=x.2.2.1+1+(aj x.2.2.1 (aa x.1.1).1).1.1∧x.2.2.2.1=x.2.2.2.1∧ak .i64 (x.2.2.1+1+(aj x.2.2.1 (aa x.1.1).1).1.1+x.2.2.2.1)∧x.2.2.1+1+(aj x.2.2.1 (aa x.1.1).1).1.1+x.2.2.2.1=x.2.2.1+1+(aj x.2.2.1 (aa x.1.1).1).1.1+x.2.2.2.1∧0≤x.2.2.1+1+(aj x.2.2.1 (aa x.1.1).1).1.1+x.2.2.2.1∧x.2.2.1+1+(aj x.2.2.1 (aa x.1.1).1).1.1+x.2.2.2.1<(↑x.1.1.length:Int)∧x.1.1.getD (x.2.2.1+1+(aj x.2.2.1 (aa x.1.1).1).1.1+x.2.2.2.1).toNat 0=x.1.1.getD (x.2.2.1+1+(aj x.2.2.1 (aa x.1.1).1).1.1+x.2.2.2.1).toNat 0∧x.1.1.getD (x.2.2.1+1+(aj x.2.2.1 (aa x.1.1).1).1.1+x.2.2.2.1).toNat 0=x.1.1.getD (x.2.2.1+1+(aj x.2.2.1 (aa x.1.1).1).1.1+x.2.2.2.1).toNat 0∧x.1=(aB x.1 x.2.1 x.2.2.1 x.2.2.2.1 x.2.2.2.2.1 x.2.2.2.2.2).1∧x.1.1.getD (x.2.2.1+1+(aj x.2.2.1 (aa x.1.1).1).1.1+x.2.2.2.1).toNat 0=(aB x.1 x.2.1 x.2.2.1 x.2.2.2.1 x.2.2.2.2.1 x.2.2.2.2.2).2.1∧0=(aB x.1 x.2.1 x.2.2.1 x.2.2.2.1 x.2.2.2.2.1 x.2.2.2.2.2).2.2∧True)))∧(decide (x.2.1=9)=false→(decide (x.2.1=10)=true→((0:Int)≤0∧0≤(↑x.1.2.2.2.length:Int)∧x.1=x.1∧ai aL 0 (List.drop (Int.toNat 0) x.1.2.2.2)=ai aL 0 x.1.2.2.2)∧∀ (x_5:Int×(List Int×List Int×List (Int×Int)×List (Int×Bool×Int))×List Int×List Int×List (Int×Int)×List (Int×Bool×Int)),0≤x_5.1∧x_5.1≤(↑x.1.2.2.2.length:Int)∧x_5.2.1=x.1∧ai aL x_5.1 (List.drop x_5.1.toNat x.1.2.2.2)=ai aL 0 x.1.2.2.2→(decide (x_5.1<(↑x.1.2.2.2.length:Int))=true→0≤x_5.1∧x_5.1<(↑x.1.2.2.2.length:Int)∧((!(x.1.2.2.2.getD x_5.1.toNat (0,false,0)).2.1&&decide ((x.1.2.2.2.getD x_5.1.toNat (0,false,0)).1<65535))=true→ak .i64 ((x.1.2.2.2.getD x_5.1.toNat (0,false,0)).1+1)∧0≤x_5.1∧x_5.1<(↑x_5.2.1.2.2.2.length:Int)∧x_5.1.toNat<x_5.2.1.2.2.2.length∧0≤x_5.1∧x_5.1<(↑(x_5.2.1.2.2.2.set x_5.1.toNat ((x.1.2.2.2.getD x_5.1.toNat (0,false,0)).1+1,true,x_2.1)).length:Int)∧x_5.1.toNat<(x_5.2.1.2.2.2.set x_5.1.toNat ((x.1.2.2.2.getD x_5.1.toNat (0,false,0)).1+1,true,x_2.1)).length∧(0≤x_5.1∧x_5.1<65536∧0≤((x_5.2.1.2.2.2.set x_5.1.toNat ((x.1.2.2.2.getD x_5.1.toNat (0,false,0)).1+1,true,x_2.1)).getD x_5.1.toNat (0,false,0)).1∧((x_5.2.1.2.2.2.set x_5.1.toNat ((x.1.2.2.2.getD x_5.1.toNat (0,false,0)).1+1,true,x_2.1)).getD x_5.1.toNat (0,false,0)).1≤65535)∧(x_5.2.1.1,x_5.2.1.2.1,x_5.2.1.2.2.1,x_5.2.1.2.2.2.set x_5.1.toNat ((x.1.2.2.2.getD x_5.1.toNat (0,false,0)).1+1,true,x_2.1))=(aB x.1 x.2.1 x.2.2.1 x.2.2.2.1 x.2.2.2.2.1 x.2.2.2.2.2).1∧cw x_5.1 ((x_5.2.1.2.2.2.set x_5.1.toNat ((x.1.2.2.2.getD x_5.1.toNat (0,false,0)).1+1,true,x_2.1)).getD x_5.1.toNat (0,false,0))=(aB x.1 x.2.1 x.2.2.1 x.2.2.2.1 x.2.2.2.2.1 x.2.2.2.2.2).2.1∧0=(aB x.1 x.2.1 x.2.2.1 x.2.2.2.1 x.2.2.2.2.1 x.2.2.2.2.2).2.2∧True)∧((!(x.1.2.2.2.getD x_5.1.toNat (0,false,0)).2.1&&decide ((x.1.2.2.2.getD x_5.1.toNat (0,false,0)).1<65535))=false→ak .i64 (x_5.1+1)∧(0≤x_5.1+1∧x_5.1+1≤(↑x.1.2.2.2.length:Int)∧x_5.2.1=x.1∧ai aL (x_5.1+1) (List.drop (x_5.1+1).toNat x.1.2.2.2)=ai aL 0 x.1.2.2.2)∧((↑x.1.2.2.2.length:Int) - (x_5.1+1)).toNat<((↑x.1.2.2.2.length:Int) - x_5.1).toNat))∧(decide (x_5.1<(↑x.1.2.2.2.length:Int))=false→∀ (_:Array Value),(([]:List Int),([]:List Int),([]:List (Int×Int)),([]:List (Int×Bool×Int)))=(aB x.1 x.2.1 x.2.2.1 x.2.2.2.1 x.2.2.2.2.1 x.2.2.2.2.2).1∧0=(aB x.1 x.2.1 x.2.2.1 x.2.2.2.1 x.2.2.2.2.1 x.2.2.2.2.2).2.1∧7=(aB x.1 x.2.1 x.2.2.1 x.2.2.2.1 x.2.2.2.2.1 x.2.2.2.2.2).2.2∧True))∧(decide (x.2.1=10)=false→((decide (x.2.1=11)=true→decide (x.2.1=11)=(decide (x.2.1=11)||decide (x.2.1=12)))∧(decide (x.2.1=11)=false→decide (x.2.1=12)=(decide (x.2.1=11)||decide (x.2.1=12))))∧∀ (x_5:Bool),x_5=(decide (x.2.1=11)||decide (x.2.1=12))→(x_5=true→aN x.1.2.2.2=0∧(decide (bn x.2.2.2.2.2 0 x.1.2.2.2<0)=true→∀ (_:Array Value),(([]:List Int),([]:List Int),([]:List (Int×Int)),([]:List (Int×Bool×Int)))=(aB x.1 x.2.1 x.2.2.1 x.2.2.2.1 x.2.2.2.2.1 x.2.2.2.2.2).1∧0=(aB x.1 x.2.1 x.2.2.1 x.2.2.2.1 x.2.2.2.2.1 x.2.2.2.2.2).2.1∧9=(aB x.1 x.2.1 x.2.2.1 x.2.2.2.1 x.2.2.2.2.1 x.2.2.2.2.2).2.2∧True)∧(decide (bn x.2.2.2.2.2 0 x.1.2.2.2<0)=false→(decide (x.2.1=11)=true→0≤bn x.2.2.2.2.2 0 x.1.2.2.2∧bn x.2.2.2.2.2 0 x.1.2.2.2<(↑x.1.2.2.2.length:Int)∧0≤x.2.2.1∧x.2.2.1<(↑x.1.2.1.length:Int)∧x.2.2.1.toNat<x.1.2.1.length∧(x.1.1,x.1.2.1.set x.2.2.1.toNat (x.1.2.2.2.getD (bn x.2.2.2.2.2 0 x.1.2.2.2).toNat (0,false,0)).2.2,x.1.2.2)=(aB x.1 x.2.1 x.2.2.1 x.2.2.2.1 x.2.2.2.2.1 x.2.2.2.2.2).1∧0=(aB x.1 x.2.1 x.2.2.1 x.2.2.2.1 x.2.2.2.2.1 x.2.2.2.2.2).2.1∧0=(aB x.1 x.2.1 x.2.2.1 x.2.2.2.1 x.2.2.2.2.1 x.2.2.2.2.2).2.2∧True)∧(decide (x.2.1=11)=false→0≤bn x.2.2.2.2.2 0 x.1.2.2.2∧bn x.2.2.2.2.2 0 x.1.2.2.2<(↑x.1.2.2.2.length:Int)∧0≤bn x.2.2.2.2.2 0 x.1.2.2.2∧bn x.2.2.2.2.2 0 x.1.2.2.2<(↑x.1.2.2.2.length:Int)∧(bn x.2.2.2.2.2 0 x.1.2.2.2).toNat<x.1.2.2.2.length∧(x.1.1,x.1.2.1,x.1.2.2.1,x.1.2.2.2.set (bn x.2.2.2.2.2 0 x.1.2.2.2).toNat ((x.1.2.2.2.getD (bn x.2.2.2.2.2 0 x.1.2.2.2).toNat (0,false,0)).1,false,0))=(aB x.1 x.2.1 x.2.2.1 x.2.2.2.1 x.2.2.2.2.1 x.2.2.2.2.2).1∧0=(aB x.1 x.2.1 x.2.2.1 x.2.2.2.1 x.2.2.2.2.1 x.2.2.2.2.2).2.1∧0=(aB x.1 x.2.1 x.2.2.1 x.2.2.2.1 x.2.2.2.2.1 x.2.2.2.2.2).2.2∧True)))∧(x_5=false→0≤x.2.2.1∧x.2.2.1<(↑x.1.2.1.length:Int)∧x.2.2.1.toNat<x.1.2.1.length∧(x.1.1,x.1.2.1.set x.2.2.1.toNat (-1),x.1.2.2)=(aB x.1 x.2.1 x.2.2.1 x.2.2.2.1 x.2.2.2.2.1 x.2.2.2.2.2).1∧0=(aB x.1 x.2.1 x.2.2.1 x.2.2.2.1 x.2.2.2.2.1 x.2.2.2.2.2).2.1∧0=(aB x.1 x.2.1 x.2.2.1 x.2.2.2.1 x.2.2.2.2.1 x.2.2.2.2.2).2.2∧True)))))))))))
theorem FS:Bq:=by
 unfold Bq;intro ⟨s,k,a,b,c,v⟩ ⟨⟨⟨hb,hw⟩,⟨hb2,_⟩,⟨hb3,_⟩,hb4,_⟩,_,ha,_,_,hv⟩ _;simp only at hb hw hb2 hb3 hb4 ha hv ⊢;simp only [ak] at ha hv;have hD:aB s k a b c v=if ca k a b c v=true then (aP,0,1) else if aG s≠0 then (aP,0,aG s) else gb s k a b c v:=rfl
 refine fun tm=>⟨trivial,hb2,hb3,by first | exact trivial | rfl,by first | exact trivial | rfl,by first | exact trivial | rfl,by first | exact trivial | rfl,by first | exact trivial | rfl,by first | exact trivial | rfl,hb4,fun h=>?_,fun h=>⟨trivial,fun h1=>?_,fun h1=>?_⟩⟩
 ·have h:ca k a b c v=true:=h;rw [hD,if_pos h];exact fun _=>⟨by first | exact trivial | rfl,by first | exact trivial | rfl,by first | exact trivial | rfl,trivial⟩
 ·have h:ca k a b c v=false:=h;rw [hD,if_neg (by rw [h]; simp),if_pos (of_decide_eq_true h1)];exact fun _=>⟨by first | exact trivial | rfl,by first | exact trivial | rfl,by first | exact trivial | rfl,trivial⟩
 have h:ca k a b c v=false:=h;have h0:aG s=0:=by simpa using of_decide_eq_false h1
 rw [if_neg (by rw [h]; simp),if_neg (by omega)] at hD
 have hk13:1≤k∧k≤13:=by
  unfold ca at h;simp only [Bool.or_eq_false_iff,decide_eq_false_iff_not] at h;omega
 have R:=iq hw h0;have hal:=R.al;have hsm:=R.small;rw [hD];refine ⟨⟨fun q=>by unfold dx; simp [q],fun q3=>⟨fun q=>by unfold dx; simp [q],fun q4=>⟨fun q=>by unfold dx; simp [q],fun q5=>⟨fun q=>by unfold dx; simp [q],fun q6=>⟨fun q=>by unfold dx; simp [q],fun q7=>by unfold dx; simp [q3,q4,q5,q6,q7]⟩⟩⟩⟩⟩,fun x1 e1=>⟨⟨fun hr tm=>⟨fun q=>?_,fun q=>?_,fun q=>?_,fun q=>?_⟩,fun hr=>⟨⟨fun q=>by unfold fu; simp [q],fun q1=>⟨fun q=>by unfold fu; simp [q],fun q2=>by unfold fu; simp [q1,q2]⟩⟩,fun x2 e2=>⟨fun hs tm=>⟨fun q=>?_,fun q=>?_⟩,fun hs=>⟨fun hx=>?_,fun hx=>?_⟩⟩⟩⟩,fun ⟨x,hd,st⟩ ⟨hi1,hi2⟩=>?_⟩⟩
 ·have q:0≤a∧a<s.2.1.length:=by simpa using q
  exact q.1
 ·have q:0≤a∧a<s.2.1.length:=by simpa using q
  exact q.2
 ·have hr:dx k=true:=by rw [← e1]; exact hr
  have q:a<0∨(s.2.1.length:Int)≤a∨s.2.1.getD a.toNat 0<0:=by
   simp only [Bool.or_eq_true,Bool.not_eq_true',Bool.and_eq_false_iff,decide_eq_false_iff_not,decide_eq_true_eq] at q;omega
  rw [Hu b c v h0 hr q];exact fun _=>⟨by first | exact trivial | rfl,by first | exact trivial | rfl,by first | exact trivial | rfl,trivial⟩
 ·have q:(0≤a∧a<s.2.1.length)∧¬ s.2.1.getD a.toNat 0<0:=by
   simp only [Bool.or_eq_false_iff,Bool.not_eq_false',Bool.and_eq_true,decide_eq_false_iff_not,decide_eq_true_eq] at q;exact q
  exact ⟨by omega,by omega,trivial,fun _=>⟨by omega,by omega,by unfold az; omega,rfl,rfl⟩,fun _=>⟨by omega,by omega⟩⟩
 ·have hs:fu k=true:=by rw [← e2]; exact hs
  have q:a<0∨(s.2.1.length:Int)≤a:=by
   simp only [Bool.not_eq_true',Bool.and_eq_false_iff,decide_eq_false_iff_not] at q;omega
  rw [Ht b c v h0 hs q];exact fun _=>⟨by first | exact trivial | rfl,by first | exact trivial | rfl,by first | exact trivial | rfl,trivial⟩
 ·have q:0≤a∧a<s.2.1.length:=by simpa using q
  exact ⟨fun hx=>absurd hx (by rw [← e1,hr]; simp),fun _=>⟨q.1,q.2⟩⟩
 ·exact absurd hx (by rw [← e1,hr]; simp)
 ·exact absurd hx (by rw [← e2,hs]; simp)
 simp only at hi1 hi2 ⊢;clear hb hb2 hb3 hb4 h1 tm hD h;refine ⟨fun k1=>?_,fun k1=>⟨fun k2=>?_,fun k2=>⟨⟨fun q=>by simp [q],fun q=>by simp [q]⟩,fun x3 e3=>⟨fun k34=>?_,fun k34=>⟨⟨fun q=>by simp [q],fun q=>by simp [q]⟩,fun x4 e4=>⟨fun k56=>?_,fun k56=>⟨fun k7=>?_,fun k7=>⟨fun k8=>?_,fun k8=>⟨fun k9=>?_,fun k9=>⟨fun k10=>?_,fun k10=>⟨⟨fun q=>by simp [q],fun q=>by simp [q]⟩,fun x5 e5=>⟨fun k11=>?_,fun k11=>?_⟩⟩⟩⟩⟩⟩⟩⟩⟩⟩⟩⟩
 ·have k1:=of_decide_eq_true k1;subst k1;obtain ⟨a0,a1⟩:=hi2 rfl;have hwr:IntKind.i64.wrap (v % 65536)=v % 65536:=jb (by omega) (by omega);have hS:=Im h0 a0 a1;simp only [hwr,JB]
  have hM:bK s a (b,c,v % 65536,false)=if bO s a≠0 then (aP,false,bO s a) else if gO (b,c,v % 65536,false)≠0 then (aP,false,gO (b,c,v % 65536,false)) else
   if (jl s a (b,c,v % 65536,false)).2=true then ((jl s a (b,c,v % 65536,false)).1,false,0) else if (jl (bc s) a (b,c,v % 65536,false)).2=true then ((jl (bc s) a (b,c,v % 65536,false)).1,true,0) else (aP,false,7):=rfl
  have hH:gO (b,c,v % 65536,false)=if af (b,c,v % 65536,false)≠0 then af (b,c,v % 65536,false) else if false=true then 3 else 0:=rfl
  have hL:∀ t,cu t a (b,c,v % 65536,false)=if (jl t a (b,c,v % 65536,false)).2=true then ((jl t a (b,c,v % 65536,false)).1,true) else (aP,false):=fun _=>rfl
  have hsl:(bc s).2.1.length=s.2.1.length:=List.length_map ..;generalize (b,c,v % 65536,false)=hh at *;rw [if_neg (by omega)] at hM;refine ⟨by omega,by omega,trivial,fun q=>?_,fun q=>?_⟩
  ·have q:=of_decide_eq_true q;rw [if_pos q] at hH;rw [hM,if_pos (by omega),hH];exact fun _=>⟨by first | exact trivial | rfl,by first | exact trivial | rfl,by first | exact trivial | rfl,trivial⟩
  have q:=of_decide_eq_false q;rw [if_neg q,if_neg (by simp)] at hH;rw [if_neg (by omega)] at hM;refine ⟨⟨⟨R.chk,hH⟩,a0,a1⟩,fun q1=>?_,fun q1=>?_⟩
  ·have hs1:(jl s a hh).2=true:=by
    rw [hL] at q1;split at q1
    ·assumption
    ·cases q1
   rw [hM,if_pos hs1,hL,if_pos hs1];exact ⟨by first | exact trivial | rfl,by first | exact trivial | rfl,by first | exact trivial | rfl,trivial⟩
  have hs1:¬ (jl s a hh).2=true:=by
   rw [hL] at q1;split at q1
   ·cases q1
   ·assumption
  rw [if_neg hs1] at hM;have hpre:l9 (bc s) hh∧0≤a∧a<((bc s).2.1.length:Int):=⟨⟨R.slidOK.1,hH⟩,a0,by omega⟩;refine ⟨h0,hpre,by first | exact trivial | rfl,by first | exact trivial | rfl,by first | exact trivial | rfl,by first | exact trivial | rfl,h0,by first | exact trivial | rfl,by first | exact trivial | rfl,by first | exact trivial | rfl,by first | exact trivial | rfl,by first | exact trivial | rfl,by first | exact trivial | rfl,by first | exact trivial | rfl,by first | exact trivial | rfl,by first | exact trivial | rfl,hpre,by first | exact trivial | rfl,by first | exact trivial | rfl,by first | exact trivial | rfl,by first | exact trivial | rfl,by first | exact trivial | rfl,by first | exact trivial | rfl,by first | exact trivial | rfl,by first | exact trivial | rfl,by first | exact trivial | rfl,by first | exact trivial | rfl,by first | exact trivial | rfl,by first | exact trivial | rfl,by first | exact trivial | rfl,by first | exact trivial | rfl,by first | exact trivial | rfl,by first | exact trivial | rfl,fun q2=>?_,fun q2=>?_⟩
  ·have hs2:(jl (bc s) a hh).2=true:=by
    rw [hL] at q2;split at q2
    ·assumption
    ·cases q2
   rw [hM,if_pos hs2,hL,if_pos hs2];exact ⟨by first | exact trivial | rfl,by first | exact trivial | rfl,by first | exact trivial | rfl,trivial⟩
  ·have hs2:¬ (jl (bc s) a hh).2=true:=by
    rw [hL] at q2;split at q2
    ·cases q2
    ·assumption
   rw [hM,if_neg hs2];exact fun _=>⟨by first | exact trivial | rfl,by first | exact trivial | rfl,by first | exact trivial | rfl,trivial⟩
 ·have k2:=of_decide_eq_true k2;subst k2;have hz:=(b7 R.slidOK.1).2.2.2.1;have hg:=yk (aU false [] (aa (cU s)).1) (fun r hr=>by have:=R.gaps.2.1 r hr; omega);have hl:=R.gaps.2.2;have e:(bc s).1=cU s:=rfl;have hC:dZ s=(bc s,eo (aU false [] (aa (cU s)).1)):=rfl;rw [K0,hC,e,fk (by omega) (by omega)];exact ⟨h0,hz,by first | exact trivial | rfl,by first | exact trivial | rfl,by first | exact trivial | rfl,by first | exact trivial | rfl,trivial⟩
 ·have hk:k=3∨k=4:=by
   rw [e3] at k34;simpa using k34
  obtain ⟨a0,a1,a2,ex,eh⟩:=hi1 (by rcases hk with rfl | rfl <;> rfl);subst ex;subst eh;have O:ObjAt s (az s a):=R.obj (R.rootNam a0 a1 a2);have e0:=Ku h0 a0 a1 a2
  have hR:bG s a b c=if b<0∨(dp s.1 (az s a)).1≤b then 4 else if c<0∨(s.2.1.length:Int)≤c then 5 else 0:=by
   unfold bG;rw [if_neg (by omega)]
  refine ⟨fun q=>?_,fun q tm=>⟨fun q2=>?_,fun q2=>?_⟩⟩
  ·have q:b<0∨(dp s.1 (az s a)).1≤b:=by simpa using q
   rw [if_pos q] at hR;rw [yT v hk (by omega),hR];exact fun _=>⟨by first | exact trivial | rfl,by first | exact trivial | rfl,by first | exact trivial | rfl,trivial⟩
  all_goals have q:¬ (b<0∨(dp s.1 (az s a)).1≤b):=by simpa using q
  all_goals rw [if_neg q] at hR
  ·have q2:c<0∨(s.2.1.length:Int)≤c:=by
    simp only [Bool.not_eq_true',Bool.and_eq_false_iff,decide_eq_false_iff_not] at q2;omega
   rw [if_pos q2] at hR;rw [yT v hk (by omega),hR];exact fun _=>⟨by first | exact trivial | rfl,by first | exact trivial | rfl,by first | exact trivial | rfl,trivial⟩
  have q5:0≤c∧c<s.2.1.length:=by simpa using q2
  rw [if_neg (by omega)] at hR;refine ⟨fun k3=>?_,fun k3=>?_⟩
  ·have k3:=of_decide_eq_true k3;subst k3;obtain ⟨n1,n2⟩:=IX R O (b:=b) (by omega) (by omega);rw [JA,n2];unfold jS;rw [if_neg (by omega)];exact ⟨trivial,by omega,by omega,q5.1,q5.2,by omega,by first | exact trivial | rfl,by first | exact trivial | rfl,by first | exact trivial | rfl,trivial⟩
  ·have k4:k=4:=by
    have:=of_decide_eq_false k3;omega
   subst k4;have hwt:=CO R O (b:=b) (c:=c) (by omega) (by omega) q5.1 q5.2;rw [Jz];unfold jQ;rw [if_neg (by omega),← hwt];exact ⟨q5.1,q5.2,R.chk,by first | exact trivial | rfl,by first | exact trivial | rfl,by first | exact trivial | rfl,by first | exact trivial | rfl,trivial⟩
 ·have hk:k=5∨k=6:=by
   rw [e4] at k56;simpa using k56
  obtain ⟨a0,a1,a2,ex,eh⟩:=hi1 (by rcases hk with rfl | rfl <;> rfl);subst ex;subst eh;have O:ObjAt s (az s a):=R.obj (R.rootNam a0 a1 a2);have e0:=Ku h0 a0 a1 a2
  have hB:aZ s a b=if b<0∨(dp s.1 (az s a)).2.1≤b then 4 else 0:=by
   unfold aZ;rw [if_neg (by omega)]
  have:=O.x0;have:=O.r0;have:=O.fit;refine ⟨fun q=>?_,fun q=>?_⟩
  ·have q:b<0∨(dp s.1 (az s a)).2.1≤b:=by simpa using q
   rw [if_pos q] at hB;rw [Cx c v hk (by omega),hB];exact fun _=>⟨by first | exact trivial | rfl,by first | exact trivial | rfl,by first | exact trivial | rfl,trivial⟩
  have q:¬ (b<0∨(dp s.1 (az s a)).2.1≤b):=by simpa using q
  rw [if_neg q] at hB;simp only [ak];refine ⟨by omega,by omega,by omega,fun k5=>?_,fun k5=>?_⟩
  ·have k5:=of_decide_eq_true k5;subst k5;rw [Jy,if_neg (by omega)];exact ⟨by omega,by omega,by first | exact trivial | rfl,by first | exact trivial | rfl,by omega,by omega,by first | exact trivial | rfl,by first | exact trivial | rfl,by first | exact trivial | rfl,by first | exact trivial | rfl,by first | exact trivial | rfl,trivial⟩
  ·have k6:k=6:=by
    have:=of_decide_eq_false k5;omega
   subst k6;rw [Jx];unfold jT;rw [if_neg (by omega)];exact ⟨by omega,by omega,by omega,by first | exact trivial | rfl,by first | exact trivial | rfl,by first | exact trivial | rfl,trivial⟩
 ·have k7:=of_decide_eq_true k7;subst k7;obtain ⟨a0,a1,a2,ex,eh⟩:=hi1 rfl;subst ex;have O:ObjAt s (az s a):=R.obj (R.rootNam a0 a1 a2);have e0:=Ku h0 a0 a1 a2;have:=O.x0;have:=O.r0;have:=O.b0;have:=O.fit;obtain ⟨_,p1,p2,p3,p4,p5,_⟩:=BB R.pin (k:=az s a) (by omega) (by omega);have em:(aT s.2.2.1 (az s a)).getD 0=bJ s.2.2.1 (az s a):=rfl;rw [p1,em,Jw];unfold gH;rw [if_neg (by omega)];refine ⟨trivial,fun q=>?_,fun q=>?_⟩
  ·have q:bJ s.2.2.1 (az s a)=1000000∨(bJ s.2.2.1 (az s a)=0∧s.2.2.1.length=16):=by
    simp only [Bool.or_eq_true,Bool.and_eq_true,decide_eq_true_eq] at q;omega
   rw [p4 q,if_pos (by simp)];exact fun _=>⟨by first | exact trivial | rfl,by first | exact trivial | rfl,by first | exact trivial | rfl,trivial⟩
  ·have q:¬ (bJ s.2.2.1 (az s a)=1000000∨(bJ s.2.2.1 (az s a)=0∧s.2.2.1.length=16)):=by
    intro q1
    have:(decide (bJ s.2.2.1 (az s a)=1000000)||decide (bJ s.2.2.1 (az s a)=0)&&decide ((s.2.2.1.length:Int)=16))=true:=by
     simp only [Bool.or_eq_true,Bool.and_eq_true,decide_eq_true_eq];omega
    rw [this] at q;cases q
   rw [p5 q,if_neg (by simp),fk (by omega) (by omega)];simp only [ak];exact ⟨by omega,trivial,by first | exact trivial | rfl,by first | exact trivial | rfl,by first | exact trivial | rfl,trivial⟩
 ·have k8:=of_decide_eq_true k8;subst k8;rw [KZ];unfold dJ;rw [if_neg (by omega)];refine ⟨trivial,fun q=>?_,fun q=>?_⟩
  ·have q:a<0∨255<a:=by simpa using q
   have hF:ay s.2.2.1 a=(0,false,4):=by
    unfold ay;rw [if_neg (by have:=R.pin; omega),if_pos (by simp; omega)]
   have hd4:dY s.2.2.1 a=([],0,4):=by
    unfold dY;rw [if_pos (by rw [hF]; simp),hF]
   rw [hd4,if_pos (by simp)];exact fun _=>⟨by first | exact trivial | rfl,by first | exact trivial | rfl,by first | exact trivial | rfl,trivial⟩
  have q:¬ (a<0∨255<a):=by simpa using q
  obtain ⟨_,p1,p2,p3,_,_,p6,p7⟩:=BB R.pin (k:=a) (by omega) (by omega);have em:(aT s.2.2.1 a).getD 0=bJ s.2.2.1 a:=rfl;rw [p1,em];refine ⟨fun q1=>?_,fun q1=>?_⟩
  ·rw [p6 (of_decide_eq_true q1),if_pos (by simp)];exact fun _=>⟨by first | exact trivial | rfl,by first | exact trivial | rfl,by first | exact trivial | rfl,trivial⟩
  ·rw [p7 (of_decide_eq_false q1),if_neg (by simp)];simp only [ak];exact ⟨by omega,trivial,by first | exact trivial | rfl,by first | exact trivial | rfl,by first | exact trivial | rfl,trivial⟩
 ·have k9:=of_decide_eq_true k9;subst k9;have p1:cR [] s.2.2.1=s.2.2.1:=rf (mh R.pin).2.1;have em:(aT s.2.2.1 a).getD 0=bJ s.2.2.1 a:=rfl;have eh:(aj a (aa s.1).1).1=dp s.1 a:=rfl;have hP:cB s a b=if aG s≠0 then aG s else if cP (cH s) a=false then 8 else if b<0∨(dp s.1 a).2.1≤b then 4 else 0:=rfl
  rw [if_neg (by omega)] at hP;rw [p1,em,eh,KY];refine ⟨trivial,fun q=>?_,fun q=>⟨trivial,fun q1=>?_,fun q1=>?_⟩⟩
  ·rw [if_pos (IA R |>.2 (of_decide_eq_true q))] at hP;rw [hP,if_pos (by omega)];exact fun _=>⟨by first | exact trivial | rfl,by first | exact trivial | rfl,by first | exact trivial | rfl,trivial⟩
  all_goals have hin:¬ cP (cH s) a=false:=fun hx=>of_decide_eq_false q (IA R |>.1 hx)
  all_goals rw [if_neg hin] at hP
  ·have q1:b<0∨(dp s.1 a).2.1≤b:=by simpa using q1
   rw [if_pos q1] at hP;rw [hP,if_pos (by omega)];exact fun _=>⟨by first | exact trivial | rfl,by first | exact trivial | rfl,by first | exact trivial | rfl,trivial⟩
  ·have q1:¬ (b<0∨(dp s.1 a).2.1≤b):=by simpa using q1
   rw [if_neg q1] at hP;have O:ObjAt s a:=R.obj (R.pinsIn a (cG.1 (by simpa using hin)));have:=O.x0;have:=O.r0;have:=O.fit;rw [hP,if_neg (by omega)];simp only [ak];exact ⟨by omega,by omega,by omega,by omega,by omega,by first | exact trivial | rfl,by first | exact trivial | rfl,by omega,by first | exact trivial | rfl,by first | exact trivial | rfl,by omega,by first | exact trivial | rfl,by first | exact trivial | rfl,by omega,by first | exact trivial | rfl,by omega,by omega,by first | exact trivial | rfl,by first | exact trivial | rfl,by first | exact trivial | rfl,by first | exact trivial | rfl,by first | exact trivial | rfl,trivial⟩
 ·have k10:=of_decide_eq_true k10;subst k10;obtain ⟨a0,a1,a2,ex,eh⟩:=hi1 rfl;subst ex;have O:ObjAt s (az s a):=R.obj (R.rootNam a0 a1 a2);have e0:=Ku h0 a0 a1 a2;have:=O.x0;have:=O.r0;have:=O.b0;have:=O.fit;have hO:=ID (az s a) R.hand;rw [if_neg (by omega)] at hO;rw [Ex];unfold gw;rw [if_neg (by omega)];have hhd:=(gC R.hand).2;refine ⟨⟨by omega,by omega,by first | exact trivial | rfl,by first | exact trivial | rfl⟩,fun ⟨i,bx,st2⟩ ⟨i0,i1,i2,i3⟩=>⟨fun hlt=>?_,fun hge=>?_⟩⟩
  ·simp only at i0 i1 i2 i3 hlt ⊢;subst i2;have hlt:=of_decide_eq_true hlt;have hm:=hhd _ (aI ((0,false,0):bU) i0 hlt);have hil:i.toNat<bx.2.2.2.length:=by omega
   have hgs:∀ y:bU,(bx.2.2.2.set i.toNat y).getD i.toNat (0,false,0)=y:=fun y=>by simp [hil]
   rw [aW ((0,false,0):bU) i0 hlt] at i3;simp only [ai] at i3;simp only [hgs,List.length_set,ak];refine ⟨i0,hlt,fun q=>?_,fun q=>?_⟩
   ·have q':aL (bx.2.2.2.getD i.toNat (0,false,0))=true:=q;rw [if_pos q'] at i3;rw [← i3,if_neg (by omega)] at hO;simp only [Bool.and_eq_true,decide_eq_true_eq] at q;rw [hO,if_neg (by simp)];exact ⟨by omega,i0,by omega,by omega,i0,by omega,by omega,⟨i0,by omega,by omega,by omega⟩,rfl,rfl,rfl,trivial⟩
   ·have q':aL (bx.2.2.2.getD i.toNat (0,false,0))=false:=q;rw [if_neg (by rw [q']; simp)] at i3;exact ⟨by omega,⟨by omega,by omega,by first | exact trivial | rfl,i3⟩,by omega⟩
  ·simp only at i0 i1 i2 i3 hge ⊢;rw [br (of_decide_eq_false hge)] at i3;simp only [ai] at i3;rw [if_pos (by omega)] at hO;rw [hO,if_pos (by simp)];exact fun _=>⟨by first | exact trivial | rfl,by first | exact trivial | rfl,by first | exact trivial | rfl,trivial⟩
 ·have hk:k=11∨k=12:=by
   rw [e5] at k11;simpa using k11
  have hsl:k=11→bO s a=0:=fun h11=>by
   obtain ⟨a0,a1⟩:=hi2 (by subst h11; rfl);exact Im h0 a0 a1
  have hsr:k=11→0≤a∧a<s.2.1.length:=fun h11=>hi2 (by subst h11; rfl)
  rcases B5 (n:=v) R.hand with ⟨f1,f2,f3,f4⟩ | ⟨f1,f2⟩
  ·rw [f2];refine ⟨R.hand,fun q=>?_,fun q=>⟨fun h11=>?_,fun h11=>?_⟩⟩
   ·have:=of_decide_eq_true q;omega
   ·have h11:=of_decide_eq_true h11
    have hL:gz s.2.2.2 v=((s.2.2.2.getD (cd s.2.2.2 v).1.toNat (0,false,0)).2.2,0):=by
     unfold gz;rw [if_neg (by omega)]
    have h1:=hsl h11;have h2:=hsr h11;subst h11;rw [zG];unfold iG;rw [if_neg (by omega),hL,if_neg (by simp)];exact ⟨f3,f4,h2.1,h2.2,by omega,by first | exact trivial | rfl,by first | exact trivial | rfl,by first | exact trivial | rfl,trivial⟩
   ·have h12:k=12:=by
     have:=of_decide_eq_false h11;omega
    have hL:eC s.2.2.2 v=(s.2.2.2.set (cd s.2.2.2 v).1.toNat ((s.2.2.2.getD (cd s.2.2.2 v).1.toNat (0,false,0)).1,false,0),0):=by
     unfold eC;rw [if_neg (by omega)]
    subst h12;rw [Ew];unfold fv;rw [if_neg (by omega),hL,if_neg (by simp)];exact ⟨f3,f4,f3,f4,by omega,by first | exact trivial | rfl,by first | exact trivial | rfl,by first | exact trivial | rfl,trivial⟩
  ·rw [f2];refine ⟨R.hand,fun _=>?_,fun q=>?_⟩
   ·rcases hk with h11 | h12
    ·have hL:gz s.2.2.2 v=(0,9):=by
      unfold gz;rw [f1];rfl
     have h1:=hsl h11;subst h11;rw [zG];unfold iG;rw [if_neg (by omega),hL,if_pos (by simp)];exact fun _=>⟨by first | exact trivial | rfl,by first | exact trivial | rfl,by first | exact trivial | rfl,trivial⟩
    ·have hL:eC s.2.2.2 v=([],9):=by
      unfold eC;rw [f1];rfl
     subst h12;rw [Ew];unfold fv;rw [if_neg (by omega),hL,if_pos (by simp)];exact fun _=>⟨by first | exact trivial | rfl,by first | exact trivial | rfl,by first | exact trivial | rfl,trivial⟩
   ·simp at q
 ·have h3:¬ k=3∧¬ k=4:=by
   rw [e3] at k34;simpa using k34
  have h5:¬ k=5∧¬ k=6:=by
   rw [e4] at k56;simpa using k56
  have h11:¬ k=11∧¬ k=12:=by
   rw [e5] at k11;simpa using k11
  have k1:=of_decide_eq_false k1;have k2:=of_decide_eq_false k2;have k7:=of_decide_eq_false k7;have k8:=of_decide_eq_false k8;have k9:=of_decide_eq_false k9;have k10:=of_decide_eq_false k10;have hk:k=13:=by omega
  subst hk;obtain ⟨a0,a1⟩:=hi2 rfl;have hS:=Im h0 a0 a1;rw [Ev];unfold ga;rw [if_neg (by omega)];exact ⟨a0,a1,by omega,by first | exact trivial | rfl,by first | exact trivial | rfl,by first | exact trivial | rfl,trivial⟩
theorem IP:Ib.ok Tryz.prog 6:=aD (ann:=JQ) (ae ir (ae tI (ae gX (ae mT (ae D1 (ae GW (ae vO (ae mo (ae BG (ae GZ (ae D2 (ae G4 (ae oL aq))))))))))))) Tryz.func6 (by kernel_rfl) FS
end
section
open Go
set_option maxRecDepth 100000
set_option maxHeartbeats 1000000
set_option maxHeartbeats 4000000
def At (x:ap) (w e:Int) (y:ap×Int×Int):Bool:=decide (x=y.1)&&decide (w=y.2.1)&&decide (e=y.2.2)
def J6:Spec:={ Ts:=[aH,a8,ty_I,aH,a8,ty_I],Rs:=[.dat .bool],pre:=fun _=>True,F:=fun ((s,v,e,x,w,f):ap×Int×Int×ap×Int×Int)=>At s v e (x,w,f) }
def EZ:Prop :=
  ∀ (x:(List Int×List Int×List (Int×Int)×List (Int×Bool×Int))×Int×Int×(List Int×List Int×List (Int×Int)×List (Int×Bool×Int))×Int×Int),((x.1.1.length * 8≤aA∧∀ (x_1:Int),x_1∈x.1.1→ak .u64 x_1)∧(x.1.2.1.length * 8≤aA∧∀ (x_1:Int),x_1∈x.1.2.1→ak .i64 x_1)∧(x.1.2.2.1.length * (8+8)≤aA∧∀ (x_1:Int×Int),x_1∈x.1.2.2.1→ak .i64 x_1.1∧ak .i64 x_1.2)∧x.1.2.2.2.length * (8+(8+8))≤aA∧∀ (x_1:Int×Bool×Int),x_1∈x.1.2.2.2→ak .i64 x_1.1∧True∧ak .i64 x_1.2.2)∧ak .u64 x.2.1∧ak .i64 x.2.2.1∧((x.2.2.2.1.1.length * 8≤aA∧∀ (x_1:Int),x_1∈x.2.2.2.1.1→ak .u64 x_1)∧(x.2.2.2.1.2.1.length * 8≤aA∧∀ (x_1:Int),x_1∈x.2.2.2.1.2.1→ak .i64 x_1)∧(x.2.2.2.1.2.2.1.length * (8+8)≤aA∧∀ (x_1:Int×Int),x_1∈x.2.2.2.1.2.2.1→ak .i64 x_1.1∧ak .i64 x_1.2)∧x.2.2.2.1.2.2.2.length * (8+(8+8))≤aA∧∀ (x_1:Int×Bool×Int),x_1∈x.2.2.2.1.2.2.2→ak .i64 x_1.1∧True∧ak .i64 x_1.2.2)∧ak .u64 x.2.2.2.2.1∧ak .i64 x.2.2.2.2.2→True→True∧(decide (x.1=x.2.2.2.1)&&decide (x.2.1=x.2.2.2.2.1)&&decide (x.2.2.1=x.2.2.2.2.2))=At x.1 x.2.1 x.2.2.1 x.2.2.2∧True
theorem HJ:EZ:=by
 unfold EZ;intro ⟨s,v,e,x,w,f⟩ _ _;exact ⟨trivial,rfl,trivial⟩
theorem Ko:J6.ok Tryz.prog 7:=aD (ann:=cp) (ae vN aq) Tryz.func7 (by kernel_rfl) HJ
theorem F1 (y:ap×Int×Int):At y.1 y.2.1 y.2.2 y=true:=by simp [At]
theorem fM {s:ap} {k a b c v:Int} {y:ap×Int×Int} (hb:ca k a b c v=false) (h1:aG s≠0→y=(aP,0,aG s)) (h2:aG s=0→y=gb s k a b c v):aB s k a b c v=y:=by
 unfold aB;rw [if_neg (by rw [hb]; simp)];by_cases h:aG s≠0
 ·rw [if_pos h,h1 h]
 ·rw [if_neg h,h2 (by omega)]
theorem rP {s:ap} (a:Int) (h:aG s≠0):bL s a=aG s:=by unfold bL; rw [if_pos h]
theorem A4 {s:ap} (a:Int) (h:aG s≠0):bO s a=aG s:=by unfold bO; rw [if_pos h]
theorem LU (s:ap) (a b c v:Int):aB s 1 a b c v=((bK s a (b,c,v % 65536,false)).1,L5 (bK s a (b,c,v % 65536,false)).2.1,(bK s a (b,c,v % 65536,false)).2.2):=fM (by simp [ca]) (fun h=>by
 have e:=A4 a h;unfold bK;rw [if_pos (by omega),e];rfl) (fun h=>by rw [JB])
theorem LT (s:ap):aB s 2 0 0 0 0=ci s:=fM (by rfl) (fun h=>by unfold ci; rw [if_pos h]) (fun h=>by rw [K0]; unfold ci; rw [if_neg (by omega)])
theorem LS (s:ap) (a b c:Int):aB s 3 a b c 0=((jS s a b c).1,0,(jS s a b c).2):=fM (by simp [ca]) (fun h=>by
 have e:bG s a b c=aG s:=by unfold bG; rw [if_pos (by rw [rP a h]; exact h),rP a h]
 unfold jS;rw [if_pos (by omega),e]) (fun h=>by rw [JA])
theorem LR (s:ap) (a b c:Int):aB s 4 a b c 0=((jQ s a b c).1,0,(jQ s a b c).2):=fM (by simp [ca]) (fun h=>by
 have e:bG s a b c=aG s:=by unfold bG; rw [if_pos (by rw [rP a h]; exact h),rP a h]
 unfold jQ;rw [if_pos (by omega),e]) (fun h=>by rw [Jz])
theorem LQ (s:ap) (a b:Int):aB s 5 a b 0 0=(if aZ s a b≠0 then (aP,0,aZ s a b) else (s,s.1.getD (b9 s (az s a) b).toNat 0,0)):=fM (by simp [ca]) (fun h=>by
 have e:aZ s a b=aG s:=by unfold aZ; rw [if_pos (by rw [rP a h]; exact h),rP a h]
 rw [if_pos (by omega),e]) (fun h=>by rw [Jy])
theorem LP (s:ap) (a b v:Int):aB s 6 a b 0 v=((jT s a b v).1,0,(jT s a b v).2):=fM (by simp [ca]) (fun h=>by
 have e:aZ s a b=aG s:=by unfold aZ; rw [if_pos (by rw [rP a h]; exact h),rP a h]
 unfold jT;rw [if_pos (by omega),e]) (fun h=>by rw [Jx])
theorem LO (s:ap) (a:Int):aB s 7 a 0 0 0=gH s a:=fM (by simp [ca]) (fun h=>by unfold gH; rw [if_pos (by rw [rP a h]; exact h),rP a h]) (fun h=>by rw [Jw])
theorem LN (s:ap) (a:Int):aB s 8 a 0 0 0=((dJ s a).1,0,(dJ s a).2):=fM (by simp [ca]) (fun h=>by unfold dJ; rw [if_pos h]) (fun h=>by rw [KZ])
theorem LM (s:ap) (a b:Int):aB s 9 a b 0 0=(if cB s a b≠0 then (aP,0,cB s a b) else (s,s.1.getD (b9 s a b).toNat 0,0)):=fM (by simp [ca]) (fun h=>by
 have e:cB s a b=aG s:=by unfold cB; rw [if_pos h]
 rw [if_pos (by omega),e]) (fun h=>by rw [KY])
theorem LA (s:ap) (a:Int):aB s 10 a 0 0 0=gw s a:=fM (by simp [ca]) (fun h=>by unfold gw; rw [if_pos (by rw [rP a h]; exact h),rP a h]) (fun h=>by rw [Ex])
theorem Lz (s:ap) (a v:Int):aB s 11 a 0 0 v=((iG s v a).1,0,(iG s v a).2):=fM (by simp [ca]) (fun h=>by unfold iG; rw [if_pos (by rw [A4 a h]; exact h),A4 a h]) (fun h=>by rw [zG])
theorem Ly (s:ap) (v:Int):aB s 12 0 0 0 v=((fv s v).1,0,(fv s v).2):=fM (by simp [ca]) (fun h=>by unfold fv; rw [if_pos h]) (fun h=>by rw [Ew])
theorem Lx (s:ap) (a:Int):aB s 13 a 0 0 0=((ga s a).1,0,(ga s a).2):=fM (by simp [ca]) (fun h=>by unfold ga; rw [if_pos (by rw [A4 a h]; exact h),A4 a h]) (fun h=>by rw [Ev])
theorem Iz {s:ap} (hw:∀ x∈s.1,ak .u64 x) (a:Int):IntKind.u64.wrap (gH s a).2.1=(gH s a).2.1:=by
 unfold gH;split
 ·rfl
 ·rename_i h;split
  ·rfl
  ·obtain ⟨R,_,_,O⟩:=tP hw (by omega:bL s a=0);have:=O.x0;have:=O.r0;have:=O.b0;have:=O.fit;have:=R.al;exact fk (by simp only; omega) (by simp only; omega)
theorem zH {s:ap} (hw:∀ x∈s.1,ak .u64 x):IntKind.u64.wrap (ci s).2.1=(ci s).2.1:=by
 unfold ci;split
 ·rfl
 ·have R:=iq hw (by omega:aG s=0);have hg:=yk (aU false [] (aa (cU s)).1) (fun r hr=>by have:=R.gaps.2.1 r hr; omega);have hl:=R.gaps.2.2;have e:(dZ s).2=eo (aU false [] (aa (cU s)).1):=rfl;exact fk (by simp only; omega) (by simp only; omega)
end
section
open Go Go.RowKit
set_option maxHeartbeats 8000000
theorem EC {w:World} {a:Addr} {v:Value} (h:w.cell? a=some v) (o:Go.Obj):(w.alloc o).cell? a=some v:=by
 refine (((Below.refl w.heap.size w).alloc (Nat.le_refl _) o).cell (Nat.lt_of_not_le fun hn=>?_)).trans h;unfold World.cell? at h;rw [Array.getElem?_eq_none hn] at h;cases h
abbrev L7 (k a b c v:Int):Value:=.agg #[.int .i64 k,.int .i64 a,.int .i64 b,.int .i64 c,.int .u64 v]
abbrev GL (k a b c v:Int):Go.Obj:=Go.Obj.cells #[.int .i64 k,.int .i64 a,.int .i64 b,.int .i64 c,.int .u64 v] 31
def dK (k a b c v:Int):Bool:=!ca k a b c v
abbrev gq (k a b c v:Int) (w:World):Prop:=Calls Tryz.prog 12 #[L7 k a b c v] w fun e w'=>e=.returned (.bool (dK k a b c v))∧Below w.heap.size w w'
theorem hY (w:World) (o o2:Go.Obj):Below w.heap.size w ((w.alloc o).alloc o2):=((Below.refl _ w).alloc (Nat.le_refl _) o).alloc (by simp) o2
theorem gp {x y:Bool} (h:x=y):Ending.returned (.bool x)=Ending.returned (.bool y):=by rw [h]
def formsB:List (List Bool):=[[false,false,false,false],[true,true,true,true],[false,false,false,false],[true,true,true,false],[true,true,true,false],[true,true,false,false],[true,true,false,true],[true,false,false,false],[true,false,false,false],[true,true,false,false],[true,false,false,false],[true,false,false,true],[false,false,false,true],[true,false,false,false]]
def formsZ:List (Nat×Bool):=List.zip (List.range 56) formsB.flatten
theorem kp {w:World} (h:Laid w) (i j k l:Nat) (x y z u:Bool) (o:Go.Obj)
  (hm:(formsZ.contains (i,x)&&formsZ.contains (j,y)&&formsZ.contains (k,z)&&formsZ.contains (l,u))=true) :
  (w.alloc o).cell? ⟨0,i,none⟩=some (.bool x)∧(w.alloc o).cell? ⟨0,j,none⟩=some (.bool y)∧(w.alloc o).cell? ⟨0,k,none⟩=some (.bool z)∧(w.alloc o).cell? ⟨0,l,none⟩=some (.bool u):=by
 simp only [Bool.and_eq_true,List.contains_iff_mem] at hm;have key:∀ n b,(n,b)∈formsZ→(w.alloc o).cell? ⟨0,n,none⟩=some (.bool b):=fun n b hb=>EC (h (0,n,.bool b) (List.mem_map.2 ⟨(n,b),hb,rfl⟩)) o
 exact ⟨key _ _ hm.1.1.1,key _ _ hm.1.1.2,key _ _ hm.1.2,key _ _ hm.2⟩
theorem pu (x:Int):x=0∨(x≠0∧(x == 0)=false):=by
 by_cases h:x=0
 ·exact .inl h
 ·exact .inr ⟨h,by simp [h]⟩
theorem Iq (k a b c v:Int) (w:World) (hk:k<1∨13<k):gq k a b c v w:=by
 by_cases h1:k<1
 ·have e1:decide (k<1)=true:=decide_eq_true h1
  go_enter Tryz.func12,Tryz.ntmps12
  go_wp2
  go_ret
  exact ⟨gp (by simp [dK,ca,e1]),(Below.refl _ w).alloc (Nat.le_refl _) _⟩
 ·have e1:decide (k<1)=false:=decide_eq_false h1;have e2:decide (k > 13)=true:=decide_eq_true (by omega);have e3:decide (13<k)=true:=e2
  go_enter Tryz.func12,Tryz.ntmps12
  go_wp2
  go_ret
  exact ⟨gp (by simp [dK,ca,e1,e3]),(Below.refl _ w).alloc (Nat.le_refl _) _⟩
theorem Li (a b c v:Int) (w:World) (h:Laid w):gq 1 a b c v w:=by
 obtain ⟨e0,e1,e2,e3⟩:=kp h 4 5 6 7 true true true true (GL 1 a b c v) (by decide)
 all_goals (go_enter Tryz.func12,Tryz.ntmps12; go_wp2; go_ret; exact ⟨gp (by simp [dK,ca, *]),hY _ _ _⟩)
theorem Lh (a b c v:Int) (w:World) (h:Laid w):gq 2 a b c v w:=by
 obtain ⟨e0,e1,e2,e3⟩:=kp h 8 9 10 11 false false false false (GL 2 a b c v) (by decide);rcases pu a with rfl | ⟨qa,sa⟩
 all_goals rcases pu b with rfl | ⟨qb,sb⟩
 all_goals rcases pu c with rfl | ⟨qc,sc⟩
 all_goals rcases pu v with rfl | ⟨qv,sv⟩
 all_goals (go_enter Tryz.func12,Tryz.ntmps12; go_wp2; go_ret; exact ⟨gp (by simp [dK,ca, *]),hY _ _ _⟩)
theorem Lg (a b c v:Int) (w:World) (h:Laid w):gq 3 a b c v w:=by
 obtain ⟨e0,e1,e2,e3⟩:=kp h 12 13 14 15 true true true false (GL 3 a b c v) (by decide);rcases pu v with rfl | ⟨qv,sv⟩
 all_goals (go_enter Tryz.func12,Tryz.ntmps12; go_wp2; go_ret; exact ⟨gp (by simp [dK,ca, *]),hY _ _ _⟩)
theorem Lf (a b c v:Int) (w:World) (h:Laid w):gq 4 a b c v w:=by
 obtain ⟨e0,e1,e2,e3⟩:=kp h 16 17 18 19 true true true false (GL 4 a b c v) (by decide);rcases pu v with rfl | ⟨qv,sv⟩
 all_goals (go_enter Tryz.func12,Tryz.ntmps12; go_wp2; go_ret; exact ⟨gp (by simp [dK,ca, *]),hY _ _ _⟩)
theorem Le (a b c v:Int) (w:World) (h:Laid w):gq 5 a b c v w:=by
 obtain ⟨e0,e1,e2,e3⟩:=kp h 20 21 22 23 true true false false (GL 5 a b c v) (by decide);rcases pu c with rfl | ⟨qc,sc⟩
 all_goals rcases pu v with rfl | ⟨qv,sv⟩
 all_goals (go_enter Tryz.func12,Tryz.ntmps12; go_wp2; go_ret; exact ⟨gp (by simp [dK,ca, *]),hY _ _ _⟩)
theorem Ld (a b c v:Int) (w:World) (h:Laid w):gq 6 a b c v w:=by
 obtain ⟨e0,e1,e2,e3⟩:=kp h 24 25 26 27 true true false true (GL 6 a b c v) (by decide);rcases pu c with rfl | ⟨qc,sc⟩
 all_goals (go_enter Tryz.func12,Tryz.ntmps12; go_wp2; go_ret; exact ⟨gp (by simp [dK,ca, *]),hY _ _ _⟩)
theorem Lc (a b c v:Int) (w:World) (h:Laid w):gq 7 a b c v w:=by
 obtain ⟨e0,e1,e2,e3⟩:=kp h 28 29 30 31 true false false false (GL 7 a b c v) (by decide);rcases pu b with rfl | ⟨qb,sb⟩
 all_goals rcases pu c with rfl | ⟨qc,sc⟩
 all_goals rcases pu v with rfl | ⟨qv,sv⟩
 all_goals (go_enter Tryz.func12,Tryz.ntmps12; go_wp2; go_ret; exact ⟨gp (by simp [dK,ca, *]),hY _ _ _⟩)
theorem Lb (a b c v:Int) (w:World) (h:Laid w):gq 8 a b c v w:=by
 obtain ⟨e0,e1,e2,e3⟩:=kp h 32 33 34 35 true false false false (GL 8 a b c v) (by decide);rcases pu b with rfl | ⟨qb,sb⟩
 all_goals rcases pu c with rfl | ⟨qc,sc⟩
 all_goals rcases pu v with rfl | ⟨qv,sv⟩
 all_goals (go_enter Tryz.func12,Tryz.ntmps12; go_wp2; go_ret; exact ⟨gp (by simp [dK,ca, *]),hY _ _ _⟩)
theorem La (a b c v:Int) (w:World) (h:Laid w):gq 9 a b c v w:=by
 obtain ⟨e0,e1,e2,e3⟩:=kp h 36 37 38 39 true true false false (GL 9 a b c v) (by decide);rcases pu c with rfl | ⟨qc,sc⟩
 all_goals rcases pu v with rfl | ⟨qv,sv⟩
 all_goals (go_enter Tryz.func12,Tryz.ntmps12; go_wp2; go_ret; exact ⟨gp (by simp [dK,ca, *]),hY _ _ _⟩)
theorem Kk (a b c v:Int) (w:World) (h:Laid w):gq 10 a b c v w:=by
 obtain ⟨e0,e1,e2,e3⟩:=kp h 40 41 42 43 true false false false (GL 10 a b c v) (by decide);rcases pu b with rfl | ⟨qb,sb⟩
 all_goals rcases pu c with rfl | ⟨qc,sc⟩
 all_goals rcases pu v with rfl | ⟨qv,sv⟩
 all_goals (go_enter Tryz.func12,Tryz.ntmps12; go_wp2; go_ret; exact ⟨gp (by simp [dK,ca, *]),hY _ _ _⟩)
theorem Kj (a b c v:Int) (w:World) (h:Laid w):gq 11 a b c v w:=by
 obtain ⟨e0,e1,e2,e3⟩:=kp h 44 45 46 47 true false false true (GL 11 a b c v) (by decide);rcases pu b with rfl | ⟨qb,sb⟩
 all_goals rcases pu c with rfl | ⟨qc,sc⟩
 all_goals (go_enter Tryz.func12,Tryz.ntmps12; go_wp2; go_ret; exact ⟨gp (by simp [dK,ca, *]),hY _ _ _⟩)
theorem Ki (a b c v:Int) (w:World) (h:Laid w):gq 12 a b c v w:=by
 obtain ⟨e0,e1,e2,e3⟩:=kp h 48 49 50 51 false false false true (GL 12 a b c v) (by decide);rcases pu a with rfl | ⟨qa,sa⟩
 all_goals rcases pu b with rfl | ⟨qb,sb⟩
 all_goals rcases pu c with rfl | ⟨qc,sc⟩
 all_goals (go_enter Tryz.func12,Tryz.ntmps12; go_wp2; go_ret; exact ⟨gp (by simp [dK,ca, *]),hY _ _ _⟩)
theorem Kh (a b c v:Int) (w:World) (h:Laid w):gq 13 a b c v w:=by
 obtain ⟨e0,e1,e2,e3⟩:=kp h 52 53 54 55 true false false false (GL 13 a b c v) (by decide);rcases pu b with rfl | ⟨qb,sb⟩
 all_goals rcases pu c with rfl | ⟨qc,sc⟩
 all_goals rcases pu v with rfl | ⟨qv,sv⟩
 all_goals (go_enter Tryz.func12,Tryz.ntmps12; go_wp2; go_ret; exact ⟨gp (by simp [dK,ca, *]),hY _ _ _⟩)
theorem DR {k a b c v:Int} {w:World} (h:Laid w):gq k a b c v w:=by
 by_cases h1:k<1∨13<k
 ·exact Iq k a b c v w h1
 have:k=1∨k=2∨k=3∨k=4∨k=5∨k=6∨k=7∨k=8∨k=9∨k=10∨k=11∨k=12∨k=13:=by omega
 rcases this with rfl | rfl | rfl | rfl | rfl | rfl | rfl | rfl | rfl | rfl | rfl | rfl | rfl
 ·exact Li a b c v w h
 ·exact Lh a b c v w h
 ·exact Lg a b c v w h
 ·exact Lf a b c v w h
 ·exact Le a b c v w h
 ·exact Ld a b c v w h
 ·exact Lc a b c v w h
 ·exact Lb a b c v w h
 ·exact La a b c v w h
 ·exact Kk a b c v w h
 ·exact Kj a b c v w h
 ·exact Ki a b c v w h
 ·exact Kh a b c v w h
def H5:Spec:={ Ts:=[As],Rs:=[.dat .bool],pre:=fun _=>True,F:=fun ((k,a,b,c,v):Int×Int×Int×Int×Int)=>dK k a b c v }
theorem IK:H5.ok Tryz.prog 12:=by
 intro p w vs ⟨k,a,b,c,v⟩ hL hA hargs _;obtain ⟨val,rfl,hv⟩:=hargs;obtain ⟨cs,rfl,c1,c1',e1,⟨rfl,_⟩,c2,c2',rfl,⟨rfl,_⟩,c3,c3',rfl,⟨rfl,_⟩,c4,c4',rfl,⟨rfl,_⟩,rfl,_⟩:=hv
 have e:cs=#[.int .i64 k,.int .i64 a,.int .i64 b,.int .i64 c,.int .u64 v]:=by
  apply Array.toList_inj.1;simpa using e1
 subst e;refine (DR (k:=k) (a:=a) (b:=b) (c:=c) (v:=v) hL).mono ?_;rintro e w' ⟨rfl,hb⟩;refine ⟨[.bool (dK k a b c v)],fun _=>none,rfl,⟨hb.os,hb.tape,hb.output,hb.size,fun i hi _=>hb.block i hi⟩,fun _ _ h=>(by cases h),fun _ _ h=>(by cases h),?_⟩;exact ⟨_,rfl,rfl,fun b hb=>by cases hb⟩
end
section
open Go
set_option maxRecDepth 100000
set_option maxHeartbeats 1000000
set_option maxHeartbeats 4000000
def KO:Nat→Option LoopGen
 | 3000043=>some fe
 | 4404000001=>some fe
 | _=>none
def eZ (s:ap) (e:Int):ap×Int×Int:=(s,0,e)
def Ic:Spec:={ Ts:=[aH,ty_I],Rs:=[.dat aH,.dat a8,.dat ty_I],al:=true,pre:=fun _=>True,F:=fun ((s,e):ap×Int)=>eZ s e }
def Br:Prop :=
  ∀ (x:(List Int×List Int×List (Int×Int)×List (Int×Bool×Int))×Int),((x.1.1.length * 8≤aA∧∀ (x_1:Int),x_1∈x.1.1→ak .u64 x_1)∧(x.1.2.1.length * 8≤aA∧∀ (x_1:Int),x_1∈x.1.2.1→ak .i64 x_1)∧(x.1.2.2.1.length * (8+8)≤aA∧∀ (x_1:Int×Int),x_1∈x.1.2.2.1→ak .i64 x_1.1∧ak .i64 x_1.2)∧x.1.2.2.2.length * (8+(8+8))≤aA∧∀ (x_1:Int×Bool×Int),x_1∈x.1.2.2.2→ak .i64 x_1.1∧True∧ak .i64 x_1.2.2)∧ak .i64 x.2→True→x.1=(eZ x.1 x.2).1∧0=(eZ x.1 x.2).2.1∧x.2=(eZ x.1 x.2).2.2∧True
theorem FT:Br:=by
 unfold Br;intro ⟨s,e⟩ _ _;exact ⟨by first | exact trivial | rfl,by first | exact trivial | rfl,by first | exact trivial | rfl,trivial⟩
theorem IQ:Ic.ok Tryz.prog 16:=aD (ann:=cp) aq Tryz.func16 (by kernel_rfl) FT
def gg (s:ap) (n e:Int):ap×Int×Int:=(s,IntKind.u64.wrap n,e)
def DF:Spec:={ Ts:=[aH,ty_I,ty_I],Rs:=[.dat aH,.dat a8,.dat ty_I],al:=true,pre:=fun _=>True,F:=fun ((s,n,e):ap×Int×Int)=>gg s n e }
def tk:Prop :=
  ∀ (x:(List Int×List Int×List (Int×Int)×List (Int×Bool×Int))×Int×Int),((x.1.1.length * 8≤aA∧∀ (x_1:Int),x_1∈x.1.1→ak .u64 x_1)∧(x.1.2.1.length * 8≤aA∧∀ (x_1:Int),x_1∈x.1.2.1→ak .i64 x_1)∧(x.1.2.2.1.length * (8+8)≤aA∧∀ (x_1:Int×Int),x_1∈x.1.2.2.1→ak .i64 x_1.1∧ak .i64 x_1.2)∧x.1.2.2.2.length * (8+(8+8))≤aA∧∀ (x_1:Int×Bool×Int),x_1∈x.1.2.2.2→ak .i64 x_1.1∧True∧ak .i64 x_1.2.2)∧ak .i64 x.2.1∧ak .i64 x.2.2→True→x.1=(gg x.1 x.2.1 x.2.2).1∧IntKind.u64.wrap x.2.1=(gg x.1 x.2.1 x.2.2).2.1∧x.2.2=(gg x.1 x.2.1 x.2.2).2.2∧True
theorem Ai:tk:=by
 unfold tk;intro ⟨s,n,e⟩ _ _;exact ⟨by first | exact trivial | rfl,by first | exact trivial | rfl,by first | exact trivial | rfl,trivial⟩
theorem D3:DF.ok Tryz.prog 14:=aD (ann:=cp) aq Tryz.func14 (by kernel_rfl) Ai
def iF (s:ap) (v e:Int):ap×Int×Int:=if e≠0 then (aP,0,e) else (s,v,0)
def Id:Spec:={ Ts:=[aH,a8,ty_I],Rs:=[.dat aH,.dat a8,.dat ty_I],al:=true,pre:=fun _=>True,F:=fun ((s,v,e):ap×Int×Int)=>iF s v e }
def Bs:Prop :=
  ∀ (x:(List Int×List Int×List (Int×Int)×List (Int×Bool×Int))×Int×Int),((x.1.1.length * 8≤aA∧∀ (x_1:Int),x_1∈x.1.1→ak .u64 x_1)∧(x.1.2.1.length * 8≤aA∧∀ (x_1:Int),x_1∈x.1.2.1→ak .i64 x_1)∧(x.1.2.2.1.length * (8+8)≤aA∧∀ (x_1:Int×Int),x_1∈x.1.2.2.1→ak .i64 x_1.1∧ak .i64 x_1.2)∧x.1.2.2.2.length * (8+(8+8))≤aA∧∀ (x_1:Int×Bool×Int),x_1∈x.1.2.2.2→ak .i64 x_1.1∧True∧ak .i64 x_1.2.2)∧ak .u64 x.2.1∧ak .i64 x.2.2→True→(decide (x.2.2≠0)=true→(([]:List Int),([]:List Int),([]:List (Int×Int)),([]:List (Int×Bool×Int)))=(iF x.1 x.2.1 x.2.2).1∧0=(iF x.1 x.2.1 x.2.2).2.1∧x.2.2=(iF x.1 x.2.1 x.2.2).2.2∧True)∧(decide (x.2.2≠0)=false→∀ (_:Array Value),True∧True∧True∧x.1.2.1=x.1.2.1∧x.1.2.2.1=x.1.2.2.1∧x.1.2.2.1=x.1.2.2.1∧x.1.2.2.2=x.1.2.2.2∧x.1.2.2.2=x.1.2.2.2∧x.1.2.2.2=x.1.2.2.2∧True∧x.1=(iF x.1 x.2.1 x.2.2).1∧x.2.1=(iF x.1 x.2.1 x.2.2).2.1∧0=(iF x.1 x.2.1 x.2.2).2.2∧True)
theorem FU:Bs:=by
 unfold Bs;intro ⟨s,v,e⟩ _ _;simp only;unfold iF;refine ⟨fun h=>?_,fun h=>?_⟩
 ·rw [if_pos (of_decide_eq_true h)];exact ⟨rfl,rfl,rfl,trivial⟩
 ·rw [if_neg (of_decide_eq_false h)];exact fun _=>⟨by first | exact trivial | rfl,by first | exact trivial | rfl,by first | exact trivial | rfl,by first | exact trivial | rfl,by first | exact trivial | rfl,by first | exact trivial | rfl,by first | exact trivial | rfl,by first | exact trivial | rfl,by first | exact trivial | rfl,by first | exact trivial | rfl,by first | exact trivial | rfl,by first | exact trivial | rfl,by first | exact trivial | rfl,trivial⟩
theorem IR:Id.ok Tryz.prog 20:=aD (ann:=KO) (ae bX (ae cr (ae ch (ae bY aq)))) Tryz.func20 (by kernel_rfl) FU
theorem Fl (s:ap) (v e:Int):iF s (if e≠0 then 0 else v) e=if e≠0 then (aP,0,e) else (s,v,0):=by
 unfold iF;by_cases h:e≠0
 ·rw [if_pos h,if_pos h]
 ·rw [if_neg h,if_neg h,if_neg h]
theorem kV {α β γ:Type} {x y:α×β×γ} (h:x=y):x.1=y.1∧x.2.1=y.2.1∧x.2.2=y.2.2∧True:=by subst h; exact ⟨rfl,rfl,rfl,trivial⟩
def K8:Spec:={ Ts:=[aH,As],Rs:=[.dat aH,.dat a8,.dat ty_I],al:=true,pre:=fun _=>True,F:=fun ((s,k,a,b,c,v):ap×Int×Int×Int×Int×Int)=>aB s k a b c v }
def Iw:Prop :=
  ∀ (x:(List Int×List Int×List (Int×Int)×List (Int×Bool×Int))×Int×Int×Int×Int×Int),((x.1.1.length * 8≤aA∧∀ (x_1:Int),x_1∈x.1.1→ak .u64 x_1)∧(x.1.2.1.length * 8≤aA∧∀ (x_1:Int),x_1∈x.1.2.1→ak .i64 x_1)∧(x.1.2.2.1.length * (8+8)≤aA∧∀ (x_1:Int×Int),x_1∈x.1.2.2.1→ak .i64 x_1.1∧ak .i64 x_1.2)∧x.1.2.2.2.length * (8+(8+8))≤aA∧∀ (x_1:Int×Bool×Int),x_1∈x.1.2.2.2→ak .i64 x_1.1∧True∧ak .i64 x_1.2.2)∧ak .i64 x.2.1∧ak .i64 x.2.2.1∧ak .i64 x.2.2.2.1∧ak .i64 x.2.2.2.2.1∧ak .u64 x.2.2.2.2.2→True→True∧((!dK x.2.1 x.2.2.1 x.2.2.2.1 x.2.2.2.2.1 x.2.2.2.2.2)=true→(([]:List Int),([]:List Int),([]:List (Int×Int)),([]:List (Int×Bool×Int)))=(aB x.1 x.2.1 x.2.2.1 x.2.2.2.1 x.2.2.2.2.1 x.2.2.2.2.2).1∧0=(aB x.1 x.2.1 x.2.2.1 x.2.2.2.1 x.2.2.2.2.1 x.2.2.2.2.2).2.1∧1=(aB x.1 x.2.1 x.2.2.1 x.2.2.2.1 x.2.2.2.2.1 x.2.2.2.2.2).2.2∧True)∧((!dK x.2.1 x.2.2.1 x.2.2.2.1 x.2.2.2.2.1 x.2.2.2.2.2)=false→(decide (x.2.1=1)=true→0≤x.2.2.2.2.2∧(0:Int)<65536∧True∧((bK x.1 x.2.2.1 (x.2.2.2.1,x.2.2.2.2.1,IntKind.i64.wrap (x.2.2.2.2.2 % 65536),false)).2.1=true→(bK x.1 x.2.2.1 (x.2.2.2.1,x.2.2.2.2.1,IntKind.i64.wrap (x.2.2.2.2.2 % 65536),false)).1=(aB x.1 x.2.1 x.2.2.1 x.2.2.2.1 x.2.2.2.2.1 x.2.2.2.2.2).1∧1=(aB x.1 x.2.1 x.2.2.1 x.2.2.2.1 x.2.2.2.2.1 x.2.2.2.2.2).2.1∧(bK x.1 x.2.2.1 (x.2.2.2.1,x.2.2.2.2.1,IntKind.i64.wrap (x.2.2.2.2.2 % 65536),false)).2.2=(aB x.1 x.2.1 x.2.2.1 x.2.2.2.1 x.2.2.2.2.1 x.2.2.2.2.2).2.2∧True)∧((bK x.1 x.2.2.1 (x.2.2.2.1,x.2.2.2.2.1,IntKind.i64.wrap (x.2.2.2.2.2 % 65536),false)).2.1=false→(bK x.1 x.2.2.1 (x.2.2.2.1,x.2.2.2.2.1,IntKind.i64.wrap (x.2.2.2.2.2 % 65536),false)).1=(aB x.1 x.2.1 x.2.2.1 x.2.2.2.1 x.2.2.2.2.1 x.2.2.2.2.2).1∧0=(aB x.1 x.2.1 x.2.2.1 x.2.2.2.1 x.2.2.2.2.1 x.2.2.2.2.2).2.1∧(bK x.1 x.2.2.1 (x.2.2.2.1,x.2.2.2.2.1,IntKind.i64.wrap (x.2.2.2.2.2 % 65536),false)).2.2=(aB x.1 x.2.1 x.2.2.1 x.2.2.2.1 x.2.2.2.2.1 x.2.2.2.2.2).2.2∧True))∧(decide (x.2.1=1)=false→(decide (x.2.1=2)=true→True∧True∧(gg (ci x.1).1 (ci x.1).2.1 (ci x.1).2.2).1=(aB x.1 x.2.1 x.2.2.1 x.2.2.2.1 x.2.2.2.2.1 x.2.2.2.2.2).1∧(gg (ci x.1).1 (ci x.1).2.1 (ci x.1).2.2).2.1=(aB x.1 x.2.1 x.2.2.1 x.2.2.2.1 x.2.2.2.2.1 x.2.2.2.2.2).2.1∧(gg (ci x.1).1 (ci x.1).2.1 (ci x.1).2.2).2.2=(aB x.1 x.2.1 x.2.2.1 x.2.2.2.1 x.2.2.2.2.1 x.2.2.2.2.2).2.2∧True)∧(decide (x.2.1=2)=false→(decide (x.2.1=3)=true→True∧True∧(eZ (jS x.1 x.2.2.1 x.2.2.2.1 x.2.2.2.2.1).1 (jS x.1 x.2.2.1 x.2.2.2.1 x.2.2.2.2.1).2).1=(aB x.1 x.2.1 x.2.2.1 x.2.2.2.1 x.2.2.2.2.1 x.2.2.2.2.2).1∧(eZ (jS x.1 x.2.2.1 x.2.2.2.1 x.2.2.2.2.1).1 (jS x.1 x.2.2.1 x.2.2.2.1 x.2.2.2.2.1).2).2.1=(aB x.1 x.2.1 x.2.2.1 x.2.2.2.1 x.2.2.2.2.1 x.2.2.2.2.2).2.1∧(eZ (jS x.1 x.2.2.1 x.2.2.2.1 x.2.2.2.2.1).1 (jS x.1 x.2.2.1 x.2.2.2.1 x.2.2.2.2.1).2).2.2=(aB x.1 x.2.1 x.2.2.1 x.2.2.2.1 x.2.2.2.2.1 x.2.2.2.2.2).2.2∧True)∧(decide (x.2.1=3)=false→(decide (x.2.1=4)=true→True∧True∧(eZ (jQ x.1 x.2.2.1 x.2.2.2.1 x.2.2.2.2.1).1 (jQ x.1 x.2.2.1 x.2.2.2.1 x.2.2.2.2.1).2).1=(aB x.1 x.2.1 x.2.2.1 x.2.2.2.1 x.2.2.2.2.1 x.2.2.2.2.2).1∧(eZ (jQ x.1 x.2.2.1 x.2.2.2.1 x.2.2.2.2.1).1 (jQ x.1 x.2.2.1 x.2.2.2.1 x.2.2.2.2.1).2).2.1=(aB x.1 x.2.1 x.2.2.1 x.2.2.2.1 x.2.2.2.2.1 x.2.2.2.2.2).2.1∧(eZ (jQ x.1 x.2.2.1 x.2.2.2.1 x.2.2.2.2.1).1 (jQ x.1 x.2.2.1 x.2.2.2.1 x.2.2.2.2.1).2).2.2=(aB x.1 x.2.1 x.2.2.1 x.2.2.2.1 x.2.2.2.2.1 x.2.2.2.2.2).2.2∧True)∧(decide (x.2.1=4)=false→(decide (x.2.1=5)=true→True∧True∧(iF x.1 (if aZ x.1 x.2.2.1 x.2.2.2.1≠0 then (0:Int) else x.1.1.getD (b9 x.1 (az x.1 x.2.2.1) x.2.2.2.1).toNat 0) (aZ x.1 x.2.2.1 x.2.2.2.1)).1=(aB x.1 x.2.1 x.2.2.1 x.2.2.2.1 x.2.2.2.2.1 x.2.2.2.2.2).1∧(iF x.1 (if aZ x.1 x.2.2.1 x.2.2.2.1≠0 then (0:Int) else x.1.1.getD (b9 x.1 (az x.1 x.2.2.1) x.2.2.2.1).toNat 0) (aZ x.1 x.2.2.1 x.2.2.2.1)).2.1=(aB x.1 x.2.1 x.2.2.1 x.2.2.2.1 x.2.2.2.2.1 x.2.2.2.2.2).2.1∧(iF x.1 (if aZ x.1 x.2.2.1 x.2.2.2.1≠0 then (0:Int) else x.1.1.getD (b9 x.1 (az x.1 x.2.2.1) x.2.2.2.1).toNat 0) (aZ x.1 x.2.2.1 x.2.2.2.1)).2.2=(aB x.1 x.2.1 x.2.2.1 x.2.2.2.1 x.2.2.2.2.1 x.2.2.2.2.2).2.2∧True)∧(decide (x.2.1=5)=false→(decide (x.2.1=6)=true→True∧True∧(eZ (jT x.1 x.2.2.1 x.2.2.2.1 x.2.2.2.2.2).1 (jT x.1 x.2.2.1 x.2.2.2.1 x.2.2.2.2.2).2).1=(aB x.1 x.2.1 x.2.2.1 x.2.2.2.1 x.2.2.2.2.1 x.2.2.2.2.2).1∧(eZ (jT x.1 x.2.2.1 x.2.2.2.1 x.2.2.2.2.2).1 (jT x.1 x.2.2.1 x.2.2.2.1 x.2.2.2.2.2).2).2.1=(aB x.1 x.2.1 x.2.2.1 x.2.2.2.1 x.2.2.2.2.1 x.2.2.2.2.2).2.1∧(eZ (jT x.1 x.2.2.1 x.2.2.2.1 x.2.2.2.2.2).1 (jT x.1 x.2.2.1 x.2.2.2.1 x.2.2.2.2.2).2).2.2=(aB x.1 x.2.1 x.2.2.1 x.2.2.2.1 x.2.2.2.2.1 x.2.2.2.2.2).2.2∧True)∧(decide (x.2.1=6)=false→(decide (x.2.1=7)=true→True∧True∧(gg (gH x.1 x.2.2.1).1 (gH x.1 x.2.2.1).2.1 (gH x.1 x.2.2.1).2.2).1=(aB x.1 x.2.1 x.2.2.1 x.2.2.2.1 x.2.2.2.2.1 x.2.2.2.2.2).1∧(gg (gH x.1 x.2.2.1).1 (gH x.1 x.2.2.1).2.1 (gH x.1 x.2.2.1).2.2).2.1=(aB x.1 x.2.1 x.2.2.1 x.2.2.2.1 x.2.2.2.2.1 x.2.2.2.2.2).2.1∧(gg (gH x.1 x.2.2.1).1 (gH x.1 x.2.2.1).2.1 (gH x.1 x.2.2.1).2.2).2.2=(aB x.1 x.2.1 x.2.2.1 x.2.2.2.1 x.2.2.2.2.1 x.2.2.2.2.2).2.2∧True)∧(decide (x.2.1=7)=false→(decide (x.2.1=8)=true→True∧True∧(eZ (dJ x.1 x.2.2.1).1 (dJ x.1 x.2.2.1).2).1=(aB x.1 x.2.1 x.2.2.1 x.2.2.2.1 x.2.2.2.2.1 x.2.2.2.2.2).1∧(eZ (dJ x.1 x.2.2.1).1 (dJ x.1 x.2.2.1).2).2.1=(aB x.1 x.2.1 x.2.2.1 x.2.2.2.1 x.2.2.2.2.1 x.2.2.2.2.2).2.1∧(eZ (dJ x.1 x.2.2.1).1 (dJ x.1 x.2.2.1).2).2.2=(aB x.1 x.2.1 x.2.2.1 x.2.2.2.1 x.2.2.2.2.1 x.2.2.2.2.2).2.2∧True)∧(decide (x.2.1=8)=false→(decide (x.2.1=9)=true→True∧True∧(iF x.1 (if cB x.1 x.2.2.1 x.2.2.2.1≠0 then (0:Int) else x.1.1.getD (b9 x.1 x.2.2.1 x.2.2.2.1).toNat 0) (cB x.1 x.2.2.1 x.2.2.2.1)).1=(aB x.1 x.2.1 x.2.2.1 x.2.2.2.1 x.2.2.2.2.1 x.2.2.2.2.2).1∧(iF x.1 (if cB x.1 x.2.2.1 x.2.2.2.1≠0 then (0:Int) else x.1.1.getD (b9 x.1 x.2.2.1 x.2.2.2.1).toNat 0) (cB x.1 x.2.2.1 x.2.2.2.1)).2.1=(aB x.1 x.2.1 x.2.2.1 x.2.2.2.1 x.2.2.2.2.1 x.2.2.2.2.2).2.1∧(iF x.1 (if cB x.1 x.2.2.1 x.2.2.2.1≠0 then (0:Int) else x.1.1.getD (b9 x.1 x.2.2.1 x.2.2.2.1).toNat 0) (cB x.1 x.2.2.1 x.2.2.2.1)).2.2=(aB x.1 x.2.1 x.2.2.1 x.2.2.2.1 x.2.2.2.2.1 x.2.2.2.2.2).2.2∧True)∧(decide (x.2.1=9)=false→(decide (x.2.1=10)=true→True∧(gw x.1 x.2.2.1).1=(aB x.1 x.2.1 x.2.2.1 x.2.2.2.1 x.2.2.2.2.1 x.2.2.2.2.2).1∧(gw x.1 x.2.2.1).2.1=(aB x.1 x.2.1 x.2.2.1 x.2.2.2.1 x.2.2.2.2.1 x.2.2.2.2.2).2.1∧(gw x.1 x.2.2.1).2.2=(aB x.1 x.2.1 x.2.2.1 x.2.2.2.1 x.2.2.2.2.1 x.2.2.2.2.2).2.2∧True)∧(decide (x.2.1=10)=false→(decide (x.2.1=11)=true→True∧True∧(eZ (iG x.1 x.2.2.2.2.2 x.2.2.1).1 (iG x.1 x.2.2.2.2.2 x.2.2.1).2).1=(aB x.1 x.2.1 x.2.2.1 x.2.2.2.1 x.2.2.2.2.1 x.2.2.2.2.2).1∧(eZ (iG x.1 x.2.2.2.2.2 x.2.2.1).1 (iG x.1 x.2.2.2.2.2 x.2.2.1).2).2.1=(aB x.1 x.2.1 x.2.2.1 x.2.2.2.1 x.2.2.2.2.1 x.2.2.2.2.2).2.1∧(eZ (iG x.1 x.2.2.2.2.2 x.2.2.1).1 (iG x.1 x.2.2.2.2.2 x.2.2.1).2).2.2=(aB x.1 x.2.1 x.2.2.1 x.2.2.2.1 x.2.2.2.2.1 x.2.2.2.2.2).2.2∧True)∧(decide (x.2.1=11)=false→(decide (x.2.1=12)=true→True∧True∧(eZ (fv x.1 x.2.2.2.2.2).1 (fv x.1 x.2.2.2.2.2).2).1=(aB x.1 x.2.1 x.2.2.1 x.2.2.2.1 x.2.2.2.2.1 x.2.2.2.2.2).1∧(eZ (fv x.1 x.2.2.2.2.2).1 (fv x.1 x.2.2.2.2.2).2).2.1=(aB x.1 x.2.1 x.2.2.1 x.2.2.2.1 x.2.2.2.2.1 x.2.2.2.2.2).2.1∧(eZ (fv x.1 x.2.2.2.2.2).1 (fv x.1 x.2.2.2.2.2).2).2.2=(aB x.1 x.2.1 x.2.2.1 x.2.2.2.1 x.2.2.2.2.1 x.2.2.2.2.2).2.2∧True)∧(decide (x.2.1=12)=false→True∧True∧(eZ (ga x.1 x.2.2.1).1 (ga x.1 x.2.2.1).2).1=(aB x.1 x.2.1 x.2.2.1 x.2.2.2.1 x.2.2.2.2.1 x.2.2.2.2.2).1∧(eZ (ga x.1 x.2.2.1).1 (ga x.1 x.2.2.1).2).2.1=(aB x.1 x.2.1 x.2.2.1 x.2.2.2.1 x.2.2.2.2.1 x.2.2.2.2.2).2.1∧(eZ (ga x.1 x.2.2.1).1 (ga x.1 x.2.2.1).2).2.2=(aB x.1 x.2.1 x.2.2.1 x.2.2.2.1 x.2.2.2.2.1 x.2.2.2.2.2).2.2∧True)))))))))))))
theorem J0:Iw:=by
 unfold Iw;intro ⟨s,k,a,b,c,v⟩ ⟨⟨⟨_,hw⟩,_⟩,_,_,_,_,hv⟩ _;simp only at hw hv ⊢;simp only [ak] at hv;refine ⟨trivial,fun h=>?_,fun h=>?_⟩
 ·have hb:ca k a b c v=true:=by simpa [dK] using h
  have hD:aB s k a b c v=(aP,0,1):=by unfold aB; rw [if_pos hb]
  rw [hD];exact ⟨rfl,rfl,rfl,trivial⟩
 have hb:ca k a b c v=false:=by simpa [dK] using h
 have hk:1≤k∧k≤13:=by
  unfold ca at hb;simp only [Bool.or_eq_false_iff,decide_eq_false_iff_not] at hb;omega
 refine ⟨fun q1=>?_,fun q1=>⟨fun q2=>?_,fun q2=>⟨fun q3=>?_,fun q3=>⟨fun q4=>?_,fun q4=>⟨fun q5=>?_,fun q5=>⟨fun q6=>?_,fun q6=>⟨fun q7=>?_,fun q7=>⟨fun q8=>?_,fun q8=>⟨fun q9=>?_,fun q9=>⟨fun q10=>?_,fun q10=>⟨fun q11=>?_,fun q11=>⟨fun q12=>?_,fun q12=>?_⟩⟩⟩⟩⟩⟩⟩⟩⟩⟩⟩⟩
 ·obtain rfl:=of_decide_eq_true q1;rw [LU,jb (by omega) (by omega)];refine ⟨by omega,by omega,trivial,fun q=>?_,fun q=>?_⟩
  ·exact ⟨rfl,by rw [q]; rfl,rfl,trivial⟩
  ·exact ⟨rfl,by rw [q]; rfl,rfl,trivial⟩
 ·obtain rfl:=of_decide_eq_true q2;obtain ⟨rfl,rfl,rfl,rfl⟩:a=0∧b=0∧c=0∧v=0:=by simpa [ca,and_assoc] using hb
  rw [LT];refine ⟨trivial,trivial,kV ?_⟩;unfold gg;rw [zH hw]
 ·obtain rfl:=of_decide_eq_true q3;obtain rfl:v=0:=by simpa [ca] using hb
  rw [LS];exact ⟨trivial,trivial,kV rfl⟩
 ·obtain rfl:=of_decide_eq_true q4;obtain rfl:v=0:=by simpa [ca] using hb
  rw [LR];exact ⟨trivial,trivial,kV rfl⟩
 ·obtain rfl:=of_decide_eq_true q5;obtain ⟨rfl,rfl⟩:c=0∧v=0:=by simpa [ca] using hb
  rw [LQ];exact ⟨trivial,trivial,kV (Fl ..)⟩
 ·obtain rfl:=of_decide_eq_true q6;obtain rfl:c=0:=by simpa [ca] using hb
  rw [LP];exact ⟨trivial,trivial,kV rfl⟩
 ·obtain rfl:=of_decide_eq_true q7;obtain ⟨rfl,rfl,rfl⟩:b=0∧c=0∧v=0:=by simpa [ca,and_assoc] using hb
  rw [LO];refine ⟨trivial,trivial,kV ?_⟩;unfold gg;rw [Iz hw]
 ·obtain rfl:=of_decide_eq_true q8;obtain ⟨rfl,rfl,rfl⟩:b=0∧c=0∧v=0:=by simpa [ca,and_assoc] using hb
  rw [LN];exact ⟨trivial,trivial,kV rfl⟩
 ·obtain rfl:=of_decide_eq_true q9;obtain ⟨rfl,rfl⟩:c=0∧v=0:=by simpa [ca] using hb
  rw [LM];exact ⟨trivial,trivial,kV (Fl ..)⟩
 ·obtain rfl:=of_decide_eq_true q10;obtain ⟨rfl,rfl,rfl⟩:b=0∧c=0∧v=0:=by simpa [ca,and_assoc] using hb
  rw [LA];exact ⟨trivial,kV rfl⟩
 ·obtain rfl:=of_decide_eq_true q11;obtain ⟨rfl,rfl⟩:b=0∧c=0:=by simpa [ca] using hb
  rw [Lz];exact ⟨trivial,trivial,kV rfl⟩
 ·obtain rfl:=of_decide_eq_true q12;obtain ⟨rfl,rfl,rfl⟩:a=0∧b=0∧c=0:=by simpa [ca,and_assoc] using hb
  rw [Ly];exact ⟨trivial,trivial,kV rfl⟩
 ·have n1:=of_decide_eq_false q1;have n2:=of_decide_eq_false q2;have n3:=of_decide_eq_false q3;have n4:=of_decide_eq_false q4;have n5:=of_decide_eq_false q5;have n6:=of_decide_eq_false q6;have n7:=of_decide_eq_false q7;have n8:=of_decide_eq_false q8;have n9:=of_decide_eq_false q9;have n10:=of_decide_eq_false q10;have n11:=of_decide_eq_false q11;have n12:=of_decide_eq_false q12;obtain rfl:k=13:=by omega
  obtain ⟨rfl,rfl,rfl⟩:b=0∧c=0∧v=0:=by simpa [ca,and_assoc] using hb
  rw [Lx];exact ⟨trivial,trivial,kV rfl⟩
theorem Ln:K8.ok Tryz.prog 5:=aD (ann:=cp) (ae IK (ae GS (ae vL (ae D3 (ae GO (ae IQ (ae GN (ae IH (ae IR (ae GP (ae GQ (ae BC (ae GR (ae DZ (ae GM (ae DY (ae D0 aq))))))))))))))))) Tryz.func5 (by kernel_rfl) J0
def sL:Spec:=If [aH,As]
def lA:Prop :=
  ∀ (x:(List Int×List Int×List (Int×Int)×List (Int×Bool×Int))×Int×Int×Int×Int×Int),((x.1.1.length * 8≤aA∧∀ (x_1:Int),x_1∈x.1.1→ak .u64 x_1)∧(x.1.2.1.length * 8≤aA∧∀ (x_1:Int),x_1∈x.1.2.1→ak .i64 x_1)∧(x.1.2.2.1.length * (8+8)≤aA∧∀ (x_1:Int×Int),x_1∈x.1.2.2.1→ak .i64 x_1.1∧ak .i64 x_1.2)∧x.1.2.2.2.length * (8+(8+8))≤aA∧∀ (x_1:Int×Bool×Int),x_1∈x.1.2.2.2→ak .i64 x_1.1∧True∧ak .i64 x_1.2.2)∧ak .i64 x.2.1∧ak .i64 x.2.2.1∧ak .i64 x.2.2.2.1∧ak .i64 x.2.2.2.2.1∧ak .u64 x.2.2.2.2.2→((x.1.1.length * 8≤140737488351232∧∀ (x_1:Int),x_1∈x.1.1→fI a8 x_1)∧(x.1.2.1.length * 8≤140737488351232∧∀ (x_1:Int),x_1∈x.1.2.1→fI ty_I x_1)∧(x.1.2.2.1.length * (8+8)≤140737488351232∧∀ (x_1:Int×Int),x_1∈x.1.2.2.1→fI cz x_1)∧x.1.2.2.2.length * (8+(8+8))≤140737488351232∧∀ (x_1:Int×Bool×Int),x_1∈x.1.2.2.2→fI bC x_1)∧True∧True∧True∧True∧True→True∧True∧True∧At (aB x.1 x.2.1 x.2.2.1 x.2.2.2.1 x.2.2.2.2.1 x.2.2.2.2.2).1 (aB x.1 x.2.1 x.2.2.1 x.2.2.2.1 x.2.2.2.2.1 x.2.2.2.2.2).2.1 (aB x.1 x.2.1 x.2.2.1 x.2.2.2.1 x.2.2.2.2.1 x.2.2.2.2.2).2.2 (aB x.1 x.2.1 x.2.2.1 x.2.2.2.1 x.2.2.2.2.1 x.2.2.2.2.2)=true∧True
theorem rN:lA:=by
 unfold lA;intro ⟨s,k,a,b,c,v⟩ _ _;exact ⟨trivial,trivial,trivial,F1 _,trivial⟩
theorem tM:sL.ok Tryz.prog 3:=aD (ann:=cp) (ae Ln (ae IP (ae Ko aq))) Tryz.func3 (by kernel_rfl) rN
end
section
open Go Go.ChangeShapes Go.WideShapes Go.ChangeAt Go.RowKit Go.Deep
def uj (P:Program) (g:Ty→TypeId→Bool):List Field→Ty→Nat→Bool
 | [],_,_=>false
 | [f],T,off=>Nat.beq f.offset off&&Nat.beq (P.cellsOf f.type) T.size&&g T f.type
 | f::f2::fs,T,off=>match T with
  | .pair A B=>Nat.beq f.offset off&&Nat.beq (P.cellsOf f.type) A.size&&g A f.type&&uj P g (f2::fs) B (off+A.size)
  | _=>false
def En (P:Program):Nat→Ty→TypeId→Bool
 | 0,_,_=>false
 | n+1,T,t=>match P.underlying t,T with
  | some (.int k),.int k'=>if k=k' then true else false
  | some .bool,.bool=>true
  | some .string,.str=>true
  | some (.slice e),.arr T=>Nat.beq (P.cellsOf e) T.size&&Nat.ble T.bytes (P.bytesOf e)&&En P n T e
  | some (.struct fs),.pair A B=>Nat.beq (P.cellsOf t) (Ty.pair A B).size&&uj P (En P n) fs.toList (.pair A B) 0
  | _,_=>false
section
variable {H:Type} {enc:TypeId×Value→H} {P:Program} {w:World}
theorem K2 {k:IntKind} {n:Int} (h:(Lit.int k n).wf=true):ak k n:=by
 simp only [Lit.wf,Bool.and_eq_true,decide_eq_true_eq] at h;cases k <;> simp [ak,IntKind.min,IntKind.max,IntKind.signed,IntKind.bits] at h ⊢ <;> omega
theorem xB {a:Addr} {v:Value} (h:w.cell? a=some v):a.spot=none∧(full w).cell a.block a.off=some v:=by
 unfold World.cell? at h;split at h
 ·rename_i c t z hb;split at h
  ·cases h
  ·rename_i hs;refine ⟨by cases hsp:a.spot <;> simp_all,?_⟩;simp [PH.cell,full,hb,h,Blk.get]
 ·cases h
theorem JF (d:DataW H):1≤Rows.uptoBulk d:=by
 cases d with
 | lit l=>cases l <;> simp [Rows.uptoBulk]
 | nil=>simp [Rows.uptoBulk]
 | ptr d=>simp [Rows.uptoBulk]
 | slice elems spare=>simp [Rows.uptoBulk]
 | agg parts=>simp [Rows.uptoBulk]
 | iface t d=>simp [Rows.uptoBulk]
 | map entries=>simp [Rows.uptoBulk]
 | held h=>simp [Rows.uptoBulk]
theorem xD {d:DataW H} {l:List (DataW H)} (h:d∈l):Rows.uptoBulk d≤Rows.uptoBulkAll l:=by
 induction l with
 | nil=>cases h
 | cons x r ih =>
  simp only [Rows.uptoBulkAll];cases List.mem_cons.1 h with
  | inl e=>subst e; omega
  | inr e=>have:=ih e; omega
theorem Cw (l:List (DataW H)):l.length≤Rows.uptoBulkAll l:=by
 induction l with
 | nil=>simp [Rows.uptoBulkAll]
 | cons x r ih=>have:=JF x; simp only [Rows.uptoBulkAll,List.length_cons]; omega
def K1 (enc:TypeId×Value→H) (P:Program) (w:World) (g:Ty→TypeId→Bool):Prop :=
 ∀ (T:Ty) (t:TypeId) (fuel:Nat) (cs:List Value) (d:DataW H) (ps:List MemPlace),g T t=true→DataW.trod enc P w 0 (fun _=>true) true fuel t cs=some (d,ps) →
  (∀ n∈d.weights P t,n≤reachBytes)→∃ x:T.den,T.holds (full w) x cs∧fI T x∧∀ B,Rows.uptoBulk d≤B→gG B T x
theorem Ff {g:Ty→TypeId→Bool} (hg:K1 enc P w g) {all:List Field} {cs:List Value} {xs:List (DataW H×List MemPlace)} {n:Nat}
  (hat:∀ (i:Nat) (f:Field),all[i]?=some f→DataW.trod enc P w 0 (fun _=>true) true n f.type ((cs.drop f.offset).take (P.cellsOf f.type))=xs[i]?)
  (hlen:xs.length=all.length) (hw:∀ m∈DataW.weightsEach P (all.map (·.type)) (xs.map (·.1)),m≤reachBytes) :
  ∀ (fs:List Field) (T:Ty) (off:Nat) (k:Nat),uj P g fs T off=true→(∀ i,fs[i]?=all[k+i]?)→cs.length=off+T.size→∃ x:T.den,T.holds (full w) x (cs.drop off)∧fI T x∧∀ B,(∀ y∈xs,Rows.uptoBulk y.1≤B)→gG B T x
 | [],_,_,_,h,_,_=>by cases h
 | [f],T,off,k,h,hk,hc=>by
  simp only [uj,Bool.and_eq_true] at h;obtain ⟨⟨h1,h2⟩,h3⟩:=h;have h1:=Nat.eq_of_beq_eq_true h1;have h2:=Nat.eq_of_beq_eq_true h2;have e0:all[k]?=some f:=by have:=hk 0; simpa using this.symm
  have hkl:k<all.length:=by
   rcases Nat.lt_or_ge k all.length with h | h
   ·exact h
   ·rw [List.getElem?_eq_none h] at e0; cases e0
  have hx:xs[k]?=some (xs[k]'(by omega)):=List.getElem?_eq_getElem (by omega);have ht:=hat k f e0;rw [hx,h1,h2] at ht;have:=hg T f.type n _ (xs[k]'(by omega)).1 (xs[k]'(by omega)).2 h3 ht (fun m hm=>hw m (DataW.weights_mem_each (j:=k) (by simp [e0]) (by simp [hx]) m hm));rw [List.take_of_length_le (by simp; omega)] at this;obtain ⟨x,h5,h6,h7⟩:=this;exact ⟨x,h5,h6,fun B hB=>h7 B (hB _ (List.getElem_mem (by omega)))⟩
 | f::f2::fs,T,off,k,h,hk,hc=>by
  cases T with
  | pair A B =>
   simp only [uj,Bool.and_eq_true] at h;obtain ⟨⟨⟨h1,h2⟩,h3⟩,h4⟩:=h;have h1:=Nat.eq_of_beq_eq_true h1;have h2:=Nat.eq_of_beq_eq_true h2;have e0:all[k]?=some f:=by have:=hk 0; simpa using this.symm
   have hkl:k<all.length:=by
    rcases Nat.lt_or_ge k all.length with h | h
    ·exact h
    ·rw [List.getElem?_eq_none h] at e0; cases e0
   have hx:xs[k]?=some (xs[k]'(by omega)):=List.getElem?_eq_getElem (by omega);have ht:=hat k f e0;rw [hx,h1,h2] at ht;obtain ⟨x,hx1,hx2,hx3⟩:=hg A f.type n _ (xs[k]'(by omega)).1 (xs[k]'(by omega)).2 h3 ht (fun m hm=>hw m (DataW.weights_mem_each (j:=k) (by simp [e0]) (by simp [hx]) m hm));obtain ⟨y,hy1,hy2,hy3⟩:=Ff hg hat hlen hw (f2::fs) B (off+A.size) (k+1) h4 (fun i=>by have:=hk (i+1); simp only [List.getElem?_cons_succ] at this; rw [this]; congr 1; omega) (by simp only [Ty.size] at hc; omega);refine ⟨(x,y),⟨_,_,?_,hx1,hy1⟩,⟨hx2,hy2⟩,fun B hB=>⟨hx3 B (hB _ (List.getElem_mem (by omega))),hy3 B hB⟩⟩;rw [← List.drop_drop,List.take_append_drop]
  | _=>cases h
theorem IE {T:Ty} {a:Addr} {n:Nat} {bd:Nat→Nat} (hat:∀ i,i<n→∃ cs,w.cells? 0 (a.add (i * T.size)) T.size=some cs∧∃ x:T.den,T.holds (full w) x cs∧fI T x∧∀ B,bd i≤B→gG B T x) :
  ∃ (xs:List T.den) (l:List Value),xs.length=n∧aX (Ty.holds T (full w)) xs l∧(∀ j u,l[j]?=some u→w.cell? (a.add j)=some u)∧∀ x∈xs,fI T x∧∀ B,(∀ i,i<n→bd i≤B)→gG B T x:=by
 induction n with
 | zero=>exact ⟨[],[],rfl,rfl,fun j u h=>by simp at h,fun x h=>by cases h⟩
 | succ n ih =>
  obtain ⟨xs,l,h1,h2,h3,h4⟩:=ih (fun i hi=>hat i (by omega));obtain ⟨cs,hc,x,hx,hxr,hxs⟩:=hat n (by omega);obtain ⟨_,hl,hcell⟩:=World.cells?_some hc;have hll:l.length=n * T.size:=by rw [cY (fun x cs h=>Ty.holds_length T x cs h) xs l h2,h1]
  refine ⟨xs++[x],l++cs,by simp [h1],cE _ _ _ _ h2 ⟨cs,[],by simp,hx,rfl⟩,fun j u hj=>?_,fun y hy=>?_⟩;rotate_left
  ·rcases List.mem_append.1 hy with hy | hy
   ·exact ⟨(h4 y hy).1,fun B hB=>(h4 y hy).2 B (fun i hi=>hB i (by omega))⟩
   ·rw [List.mem_singleton.1 hy]; exact ⟨hxr,fun B hB=>hxs B (hB n (by omega))⟩
  rcases Nat.lt_or_ge j l.length with hjl | hjl
  ·rw [List.getElem?_append_left hjl] at hj;exact h3 j u hj
  ·rw [List.getElem?_append_right hjl] at hj
   have hjc:j - l.length<T.size:=by
    rcases Nat.lt_or_ge (j - l.length) cs.length with h | h
    ·omega
    ·rw [List.getElem?_eq_none h] at hj; cases hj
   have:=hcell (j - l.length) hjc;rw [hj,Go.Deep.add_add] at this;rw [← this];congr 2;omega
theorem LJ (n:Nat):K1 enc P w (En P n):=by
 induction n with
 | zero=>intro T t fuel cs d ps h; cases h
 | succ n ih =>
  intro T t fuel cs d ps h ht hw;unfold En at h;split at h
  ·rename_i k k' hu;split at h
   ·rename_i hk;subst hk;obtain ⟨m,rfl,_,hwf⟩:=DataW.trod_int hu ht;exact ⟨m,⟨rfl,K2 hwf⟩,trivial,fun _ _=>trivial⟩
   ·cases h
  ·rename_i hu;obtain ⟨b,rfl,_⟩:=DataW.trod_bool hu ht;exact ⟨b,rfl,trivial,fun _ _=>trivial⟩
  ·rename_i hu;obtain ⟨s,rfl,hx,_⟩:=DataW.trod_string hu ht;injection hx with hx _
   subst hx;have:=hw s.data.toList.length (by simp [DataW.weights]);have e:reachBytes=140737488351232:=rfl;refine ⟨s.data.toList,⟨rfl,?_⟩,?_,fun B hB=>?_⟩
   ·unfold aA;omega
   ·show s.data.toList.length≤140737488351232;omega
   ·simp only [Rows.uptoBulk] at hB;show s.data.toList.length≤B;omega
  ·rename_i e T hu;simp only [Bool.and_eq_true] at h;obtain ⟨⟨h1,h2⟩,h3⟩:=h;have h1:=Nat.eq_of_beq_eq_true h1;have h2:=Nat.le_of_ble_eq_true h2;rcases open_slice hu ht with ⟨rfl,_⟩ | ⟨a,len,cap,m,n',D,Pl,rfl,_,hl,hm,hmm,hx,hi⟩
   ·exact ⟨[],⟨none,0,[],rfl,by simp,by simp,rfl,fun h=>absurd rfl h⟩,⟨by show 0 * _≤_; simp,fun x h=>by cases h⟩,fun B _=>⟨Nat.zero_le B,fun x h=>by cases h⟩⟩
   ·simp only [if_true] at hmm;injection hx with hx _
    subst hx;have hsz:(len+(m - len)) * P.bytesOf e≤reachBytes:=hw _ (by simp [DataW.weights,hu])
    have hweach:∀ (l:List (DataW H)) (d:DataW H),d∈l→∀ q∈d.weights P e,q∈DataW.weightsAll P e l:=by
     intro l
     induction l with
     | nil=>intro d hd; cases hd
     | cons y l ih2 =>
      intro d hd q hq;simp only [DataW.weightsAll,List.mem_append];rcases List.mem_cons.1 hd with rfl | hd
      ·exact .inl hq
      ·exact .inr (ih2 d hd q hq)
    obtain ⟨xs,l,k1,k2,k3,k4⟩:=IE (w:=w) (T:=T) (a:=a) (n:=len) (bd:=fun i=>Rows.uptoBulk (D i)) (fun i hil=>by
     obtain ⟨cs',hc,ht'⟩:=hi i (by omega);rw [h1] at hc;refine ⟨cs',hc,ih T e n' cs' (D i) (Pl i) h3 ht' (fun q hq=>hw q ?_)⟩;simp only [DataW.weights,hu,List.mem_cons,List.mem_append];exact .inr (.inl (hweach _ (D i) (by simp only [List.mem_map,List.mem_range]; exact ⟨i,hil,rfl⟩) q hq)))
    refine ⟨xs,⟨some a,cap,l,by rw [k1],by omega,?_,k2,fun hne=>?_⟩,⟨?_,fun x hx=>(k4 x hx).1⟩,fun B hB=>⟨?_,fun x hx=>(k4 x hx).2 B (fun i hi=>?_)⟩⟩;rotate_left 3
    ·have hB2:=hB;simp only [Rows.uptoBulk] at hB2;refine Nat.le_trans ?_ (Nat.le_trans (Cw _) (Nat.le_trans (Nat.le_trans (Nat.le_add_right _ _) (Nat.le_add_right _ _)) hB2));show xs.length≤_;rw [k1];simp
    ·have hB2:=hB;simp only [Rows.uptoBulk] at hB2;refine Nat.le_trans (xD ?_) (Nat.le_trans (Nat.le_trans (Nat.le_add_right _ _) (Nat.le_add_right _ _)) hB2);simp only [List.mem_map,List.mem_range];exact ⟨i,hi,rfl⟩
    rotate_left 2
    ·have h5:len * T.bytes≤(len+(m - len)) * P.bytesOf e:=Nat.mul_le_mul (by omega) h2;have e:reachBytes=140737488351232:=rfl;show xs.length * _≤_;rw [k1];omega
    ·have h5:len * T.bytes≤(len+(m - len)) * P.bytesOf e:=Nat.mul_le_mul (by omega) h2;have e:reachBytes=140737488351232:=rfl;rw [k1];unfold aA;omega
    ·have hpos:=Ty.size_pos T
     have hlp:0<l.length:=by
      rw [cY (fun x cs h=>Ty.holds_length T x cs h) xs l k2];have:0<xs.length:=List.length_pos_iff.2 hne;exact Nat.mul_pos this hpos
     have hsp:a.spot=none:=(xB (k3 0 _ (List.getElem?_eq_getElem hlp))).1
     refine ⟨a.block,a.off,by cases a; simp_all,fun j u hj=>by
      have h9:=(xB (k3 j u hj)).2;by_cases hj0:j=0 <;> simp only [Addr.add,hj0,if_true,if_false,Nat.add_zero] at h9 ⊢ <;> exact h9⟩
  ·rename_i fs A B hu;simp only [Bool.and_eq_true] at h;obtain ⟨h1,h2⟩:=h;have h1:=Nat.eq_of_beq_eq_true h1;obtain ⟨xs,n',_,hx,hlen,hxl,hat⟩:=DataW.trod_struct hu ht;injection hx with hx _
   subst hx;have:=Ff ih (all:=fs.toList) (cs:=cs) (xs:=xs) (n:=n') (fun i f hf=>hat i f (by simpa using hf)) (by simp [hxl]) (fun m hm=>hw m (by simpa [DataW.weights,hu] using hm)) fs.toList (.pair A B) 0 0 h2 (fun i=>by simp) (by omega);obtain ⟨x,h5,h6,h7⟩:=this;refine ⟨x,by simpa using h5,h6,fun C hC=>h7 C fun y hy=>Nat.le_trans (xD (List.mem_map.2 ⟨y,hy,rfl⟩)) ?_⟩;simp only [Rows.uptoBulk] at hC;exact Nat.le_trans (Nat.le_succ _) hC
  ·cases h
def o9 (P:Program):List Ty→List TypeId→Bool
 | [],[]=>true
 | T::Ts,t::ts=>En P 9 T t&&o9 P Ts ts
 | _,_=>false
theorem IC {base:Nat} {n:Nat} {T:Ty} {t:TypeId} {v:Value} {x:T.den} (hf:En P n T t=true) (hv:Value.okWide P w .any base t v) (hx:T.holds (full w) x v.cells.toList):T.vholds (full w) x v:=by
 cases n with
 | zero=>cases hf
 | succ n =>
  unfold En at hf;split at hf
  ·rename_i k k' hu
   have:v.cells=#[v]:=by
    cases v <;> first | rfl | simp [Value.okWide,hu,Cell.okWide,Cell.ok] at hv
   rw [this] at hx;exact hx
  ·rename_i hu
   have:v.cells=#[v]:=by
    cases v <;> first | rfl | simp [Value.okWide,hu,Cell.okWide,Cell.ok] at hv
   rw [this] at hx;exact hx
  ·rename_i hu
   have:v.cells=#[v]:=by
    cases v <;> first | rfl | simp [Value.okWide,hu,Cell.okWide,Cell.ok] at hv
   rw [this] at hx;exact hx
  ·rename_i e T hu
   have:v.cells=#[v]:=by
    cases v <;> first | rfl | simp [Value.okWide,hu,Cell.okWide,Cell.ok] at hv
   rw [this] at hx;exact hx
  ·rename_i fs A B hu;obtain ⟨cs,rfl,_⟩:=okWide_struct hu hv;exact ⟨cs,rfl,hx⟩
  ·cases hf
theorem xc {base:Nat}:∀ (Ts:List Ty) (ts:List TypeId) (vs:List Value) (ds:List (DataW H)) (p:List MemPlace),o9 P Ts ts=true→DataW.TrodAll enc P w 0 (fun _=>true) true ts vs ds p →
  (∀ (j:Nat) t v,ts[j]?=some t→vs[j]?=some v→Value.okWide P w .any base t v)→(∀ m∈DataW.weightsEach P ts ds,m≤reachBytes)→∃ x:ia Ts,dC (full w) Ts x vs∧lp Ts x∧∀ B,Rows.uptoBulkAll ds≤B→pA B Ts x
 | [],[],vs,ds,p,_,hA,_,_=>by
  cases vs with
  | nil=>exact ⟨(),rfl,trivial,fun _ _=>trivial⟩
  | cons v vs=>cases ds <;> exact hA.elim
 | [],t::ts,_,_,_,h,_,_,_=>by cases h
 | T::Ts,[],_,_,_,h,_,_,_=>by cases h
 | T::Ts,t::ts,[],ds,p,h,hA,hv,hw=>by cases ds <;> exact hA.elim
 | T::Ts,t::ts,v::vs,[],p,h,hA,hv,hw=>hA.elim
 | T::Ts,t::ts,v::vs,d::ds,p,h,hA,hv,hw=>by
  simp only [o9,Bool.and_eq_true] at h;obtain ⟨p1,p2,⟨fuel,h1⟩,h2,_⟩:=hA;obtain ⟨x,hx,hxr,hxs⟩:=LJ 9 T t fuel _ d p1 h.1 h1 (fun m hm=>hw m (by simp only [DataW.weightsEach,List.mem_append]; exact .inl hm));have hxv:=IC h.1 (hv 0 t v rfl rfl) hx;obtain ⟨y,hy,hyr,hys⟩:=xc Ts ts vs ds p2 h.2 h2 (fun j t v a b=>hv (j+1) t v (by simpa using a) (by simpa using b)) (fun m hm=>hw m (by simp only [DataW.weightsEach,List.mem_append]; exact .inr hm));cases Ts with
  | nil =>
   simp only [dC] at hy;subst hy;exact ⟨x,⟨v,rfl,hxv⟩,hxr,fun B hB=>hxs B (by simp only [Rows.uptoBulkAll] at hB; omega)⟩
  | cons U Ts=>exact ⟨(x,y),⟨v,vs,rfl,hxv,hy⟩,⟨hxr,hyr⟩,fun B hB=>⟨hxs B (by simp only [Rows.uptoBulkAll] at hB; omega),hys B (by simp only [Rows.uptoBulkAll] at hB; omega)⟩⟩
theorem ll:∀ {ts:List TypeId} {vs:List Value} {ds:List (DataW H)} {p:List MemPlace} {b:Nat} {sp:Nat→Bool} {hd:Bool},DataW.TrodAll enc P w b sp hd ts vs ds p→ds.length=ts.length
 | [],[],[],_,_,_,_,_=>rfl
 | [],[],_::_,_,_,_,_,h=>h.elim
 | [],_::_,[],_,_,_,_,h=>h.elim
 | [],_::_,_::_,_,_,_,_,h=>h.elim
 | _::_,[],[],_,_,_,_,h=>h.elim
 | _::_,[],_::_,_,_,_,_,h=>h.elim
 | _::_,_::_,[],_,_,_,_,h=>h.elim
 | _::ts,_::vs,_::ds,_,_,_,_,h=>by
  obtain ⟨p,q,_,h2,_⟩:=h;simp [ll h2]
theorem wu (hl:laidOutB P=true) {W W':World} {sp:Nat→Bool}:∀ {ts:List TypeId} {vs:List Value} {ds:List (DataW H)} {p:List MemPlace},(ts.all fun t=>P.readableRec t&&Nat.blt t P.types.size)=true →
  DataW.TrodAll enc P W 0 (fun _=>true) true ts vs ds p→(∀ x∈p,W.sameAt W' x)→(∀ x∈p,sp x.block=true)→DataW.TrodAll enc P W' 0 sp true ts vs ds p
 | [],[],[],_,_,h,_,_=>h
 | [],[],_::_,_,_,h,_,_=>h.elim
 | [],_::_,[],_,_,h,_,_=>h.elim
 | [],_::_,_::_,_,_,h,_,_=>h.elim
 | _::_,[],[],_,_,h,_,_=>h.elim
 | _::_,[],_::_,_,_,h,_,_=>h.elim
 | _::_,_::_,[],_,_,h,_,_=>h.elim
 | t::ts,v::vs,d::ds,_,hr,h,hs,hsp=>by
  simp only [List.all_cons,Bool.and_eq_true] at hr;obtain ⟨p,q,h1,h2,rfl⟩:=h;refine ⟨p,q,WideElems.Trod_stays hl hr.1.1 (by simpa using hr.1.2) h1 (fun x hx=>hs x (by simp [hx])) (fun x hx=>hsp x (by simp [hx])),wu hl hr.2 h2 (fun x hx=>hs x (by simp [hx])) (fun x hx=>hsp x (by simp [hx])),rfl⟩
theorem vH {f:Func} {s:ChangeSpec} {apart fresh handsOn again:Bool} {W W':World} {args:Array Value} {v:Value} {ds gs:List (DataW H)} {before pa pv:List MemPlace}
  (hW:DataW.Whole enc P f.params.toList s.vars apart W args.toList ds gs before)
  (hres:∀ (b:Nat) (sp:Nat→Bool) (hd:Bool),DataW.TrodAll enc P W' b sp hd f.resultTypes.toList (v.resultList f.resultTypes.size) (s.fn H (ds++gs)).results [])
  (hargs:∀ sp:Nat→Bool,(∀ p∈before,sp p.block=true)→DataW.TrodAll enc P W' 0 sp true f.params.toList args.toList (s.fn H (ds++gs)).args pa)
  (hvars:∀ sp:Nat→Bool,(∀ p∈before,sp p.block=true)→DataW.TrodVars enc P W' sp s.vars (s.fn H (ds++gs)).vars pv)
  (hps:before=pa++pv) (hb:Below W.heap.size W W')
  (hok:∀ (j:Nat) (t:TypeId) (r:Value),f.resultTypes[j]?=some t→(v.resultList f.resultTypes.size)[j]?=some r→Value.okWide P W' .any 0 t r) :
  s.post enc P f apart fresh handsOn again W args v W':=by
 have hlt:∀ p∈before,p.block<W.heap.size:=fun p hp=>hW.lt p hp
 have hold:∀ p∈before,(fun b=>decide (b<W.heap.size)) p.block=true:=fun p hp=>by simpa using hlt p hp
 refine ⟨ds,gs,before,[],pa,pv,hW,hres _ _ _,hargs _ hold,hvars _ hold,World.keptBut_mono (fun p hp=>⟨hp,?_⟩) (hb.frame (·∈before)),fun _=>?_⟩
 ·rw [hps,List.mem_append] at hp;exact Or.inr hp
 ·obtain ⟨_,_,_,_,_,hz,hn⟩:=hW;refine ⟨hok,_,_,([]++pa)++pv,⟨[]++pa,pv,trodAll_append (hargs _ (fun _ _=>rfl)) (hres _ _ _),hvars _ (fun _ _=>rfl),rfl,?_,?_⟩,?_⟩
  ·intro b off hp;have hin:MemPlace.cell b off∈before:=by rw [hps]; simpa using hp
   rw [hb.frozen (hlt _ hin)];exact hz b off hin
  ·intro ha;have:=hn ha;rw [hps] at this;simpa using this
  ·intro p hp _;rw [hps];simpa using hp
theorem vR {Ts:List Ty} {pre:ia Ts→Prop} {f:FuncId} {fn:Func} {r:ChangeSpec} {apart fresh handsOn again:Bool} {tb:TypeId} (hok:Spec.ok { Ts:=Ts,Rs:=[.dat .bool],pre:=pre,F:=fun _=>(true:Bool) } P f)
  (hl:laidOutB P=true) (hfit:o9 P Ts fn.params.toList=true) (hrec:(fn.params.toList.all fun t=>P.readableRec t&&Nat.blt t P.types.size)=true)
  (hres:fn.resultTypes=#[tb]) (htb:P.underlying tb=some .bool) (hvars:r.vars=[]) (hfn:∀ ds:List (DataW H),ds.length=fn.params.size→r.fn H ds={ results:=[.lit (.bool true)],args:=ds })
  {W:World} {base:Nat} {args:Array Value} {ds gs:List (DataW H)} {before:List MemPlace} (hval:∀ (j:Nat) t v,fn.params[j]?=some t→args[j]?=some v→Value.okWide P W .any base t v)
  (hW:DataW.Whole enc P fn.params.toList r.vars apart W args.toList ds gs before)
  (hwt:(DataW.weightsEach P (fn.params.toList++r.plain.varTypes P) (ds++gs)).all (·≤reachBytes)=true) (hLd:Laid W) (hpre:∀ x,lp Ts x→(∀ B,Rows.uptoBulkAll (ds++gs)≤B→pA B Ts x)→pre x) :
  Calls P f args W fun e W'=>∃ v,e=.returned v∧r.post enc P fn apart fresh handsOn again W args v W':=by
 have hW':=hW;obtain ⟨p,q,hA,hV,rfl,hfz,hnd⟩:=hW;rw [hvars] at hV;obtain ⟨rfl,rfl⟩:=trodVars_none hV
 have hwt':∀ m∈DataW.weightsEach P fn.params.toList ds,m≤reachBytes:=by
  have e:r.plain.varTypes P=[]:=by simp [ChangeSpec.plain,DataSpec.varTypes,hvars]
  rw [e,List.append_nil,List.append_nil] at hwt;intro m hm;simpa using List.all_eq_true.1 hwt m hm
 obtain ⟨x,hx,hxr,hxs⟩:=xc Ts fn.params.toList args.toList ds p hfit hA (fun j t v a b=>hval j t v (by simpa using a) (by simpa using b)) hwt';have hcall:=hok (full W) W args.toList x hLd (lN W) hx (hpre x hxr (by simpa using hxs));simp only [Array.toArray_toList] at hcall;refine hcall.mono fun e W' ⟨rs,qq,he,hk,_,_,hr⟩=>?_
 subst he;have hb:Below W.heap.size W W':=⟨hk.os,hk.tape,hk.output,hk.size,fun i hi=>hk.block i hi (fun h=>h)⟩;obtain ⟨v,rfl,hv,_⟩:=hr
 have hv:v=.bool true:=by
  have h2:[v]=[.bool true]:=hv;exact (List.cons.inj h2).1
 subst hv;have hd:=ll hA
 have e1:r.fn H (ds++[])={ results:=[.lit (.bool true)],args:=ds }:=by
  rw [List.append_nil]; exact hfn ds (by simpa using hd)
 refine ⟨_,rfl,vH (pa:=p) (pv:=[]) hW' (fun b sp hd=>?_) (fun sp hsp=>?_) (fun sp _=>?_) rfl hb (fun j t v hj hv=>?_)⟩
 ·rw [e1,hres];exact trodAll_mk1 ⟨1,by simp [dc,DataW.trod,htb,Value.cells]⟩
 ·rw [e1];exact wu hl hrec hA (fun y hy=>hb.same (hW'.lt y (by simpa using hy))) (fun y hy=>hsp y (by simpa using hy))
 ·rw [e1,hvars];rfl
 ·rw [hres] at hj hv
  have:j=0:=by
   rcases j with _ | j
   ·rfl
   ·simp at hj
  subst this;simp at hj;subst hj;have:v=.bool true:=by simpa [Value.resultList,dc] using hv.symm
  subst this;simp [Value.okWide,htb,Cell.okWide,Cell.ok]
theorem zj {Ts:List Ty} {f:FuncId} {fn:Func} {r:ChangeSpec} {apart fresh handsOn again:Bool} {tb:TypeId} (hok:(If Ts).ok P f)
  (hl:laidOutB P=true) (hfit:o9 P Ts fn.params.toList=true) (hrec:(fn.params.toList.all fun t=>P.readableRec t&&Nat.blt t P.types.size)=true)
  (hres:fn.resultTypes=#[tb]) (htb:P.underlying tb=some .bool) (hvars:r.vars=[]) (hfn:∀ ds:List (DataW H),ds.length=fn.params.size→r.fn H ds={ results:=[.lit (.bool true)],args:=ds })
  {W:World} {base:Nat} {args:Array Value} {ds gs:List (DataW H)} {before:List MemPlace} (hval:∀ (j:Nat) t v,fn.params[j]?=some t→args[j]?=some v→Value.okWide P W .any base t v)
  (hW:DataW.Whole enc P fn.params.toList r.vars apart W args.toList ds gs before)
  (hwt:(DataW.weightsEach P (fn.params.toList++r.plain.varTypes P) (ds++gs)).all (·≤reachBytes)=true) (hLd:Laid W) :
  Calls P f args W fun e W'=>∃ v,e=.returned v∧r.post enc P fn apart fresh handsOn again W args v W' :=
 vR (pre:=lp Ts) hok hl hfit hrec hres htb hvars hfn hval hW hwt hLd fun _ h _=>h
end
end
section
open Go Go.ChangeShapes Go.WideShapes Go.ChangeAt Go.RowKit
abbrev xk : List (String × DataW Unit) := [("cairnfield/play.forms", Rows.laid_cairnfield_play_forms)]
theorem Ju (os:Os) (args:Array Value):laidMetH Tryz.prog xk ((World.doorLaid Tryz.prog 400 os).forCall (fun _ _=>0) ⟨#[],args,[]⟩).memory :=
 laidMetH_of_parts3 (fuel:=8) (laidMet_of_run' 8 (by kernel_rfl) (by kernel_rfl)) (by kernel_rfl) (by kernel_rfl)
theorem JG {H:Type} {enc:TypeId×Value→H} {P:Program} {w:World} {base:Nat} {sp:Nat→Bool} {held:Bool} {fuel:Nat} {t e:TypeId} {n:Nat} {cs:List Value} {bs:List Bool} {p:List MemPlace}
  (ht:P.underlying t=some (.array n e)) (he:P.underlying e=some .bool) (hce:P.cellsOf e=1) (hct:P.cellsOf t=n)
  (h:DataW.trod enc P w base sp held fuel t cs=some (.agg (bs.map fun b=>.lit (.bool b)),p)):cs=bs.map Value.bool:=by
 obtain ⟨xs,m,rfl,hx,hl,hn,hel⟩:=DataW.trod_array ht h
 have hxs:xs.map (·.1)=bs.map fun b=>(DataW.lit (.bool b):DataW H):=by
  have:=congrArg Prod.fst hx;simpa using this.symm
 have hbl:bs.length=n:=by
  have:=congrArg List.length hxs;simp at this;omega
 apply List.ext_getElem?;intro i;by_cases hi:i<n
 ·have h1:=hel i hi;rw [hce,Nat.mul_one,List.getElem?_eq_getElem (by omega)] at h1;obtain ⟨b,hb,he1⟩:=DataW.trod_bool he h1
  have h2:cs[i]?=some (.bool b):=by
   have:=congrArg (·[0]?) hb;simpa [List.getElem?_take,List.getElem?_drop] using this
  have h3:(xs.map (·.1))[i]?=some (DataW.lit (.bool b):DataW H):=by
   rw [List.getElem?_map,List.getElem?_eq_getElem (by omega),he1];rfl
  rw [hxs] at h3;simp only [List.getElem?_map,Option.map_eq_some_iff,DataW.lit.injEq,Lit.bool.injEq] at h3;obtain ⟨b',hb',rfl⟩:=h3;simp [h2,hb']
 ·rw [List.getElem?_eq_none (by omega),List.getElem?_eq_none (by simp; omega)]
theorem Hx {H:Type} {enc:TypeId×Value→H} {P:Program} {w:World} {base:Nat} {sp:Nat→Bool} {held:Bool} {fuel:Nat} {t u e:TypeId} {n k:Nat} {cs:List Value} {bss:List (List Bool)} {p:List MemPlace}
  (ht:P.underlying t=some (.array n u)) (hu:P.underlying u=some (.array k e)) (he:P.underlying e=some .bool) (hce:P.cellsOf e=1) (hcu:P.cellsOf u=k)
  (h:DataW.trod enc P w base sp held fuel t cs=some (.agg (bss.map fun bs=>.agg (bs.map fun b=>.lit (.bool b))),p)) (i:Nat) (bs:List Bool) (hi:bss[i]?=some bs):(cs.drop (i * k)).take k=bs.map Value.bool:=by
 obtain ⟨xs,m,rfl,hx,hl,hn,hel⟩:=DataW.trod_array ht h
 have hxs:xs.map (·.1)=bss.map fun bs=>(DataW.agg (bs.map fun b=>.lit (.bool b)):DataW H):=by
  have:=congrArg Prod.fst hx;simpa using this.symm
 have hbl:bss.length=n:=by
  have:=congrArg List.length hxs;simp at this;omega
 have hin:i<n:=by
  have:=(List.getElem?_eq_some_iff.1 hi).1;omega
 have h1:=hel i hin;rw [hcu,List.getElem?_eq_getElem (by omega)] at h1
 have h3:(xs[i]'(by omega)).1=DataW.agg (bs.map fun b=>.lit (.bool b)):=by
  have:(xs.map (·.1))[i]?=some (xs[i]'(by omega)).1:=by rw [List.getElem?_map,List.getElem?_eq_getElem (by omega)]; rfl
  rw [hxs,List.getElem?_map,hi] at this;simpa using this.symm
 exact JG (p:=(xs[i]'(by omega)).2) hu he hce hcu (h1.trans (by rw [← h3]))
theorem Dp:∀ t∈H0,t.1=0∧∃ i j bs b,t.2.1=4 * i+j∧j<4∧formsB[i]?=some bs∧bs[j]?=some b∧t.2.2=.bool b:=by
 intro t ht;obtain ⟨x,hx,rfl⟩:=List.mem_map.1 ht
 have key:∀ x∈List.zip (List.range 56) formsB.flatten,∃ bs b,formsB[x.1 / 4]?=some bs∧bs[x.1 % 4]?=some b∧x.2=b:=by
  intro x hx;have hall:((List.zip (List.range 56) formsB.flatten).all fun x=>decide ((formsB[x.1 / 4]?.bind fun bs=>bs[x.1 % 4]?)=some x.2))=true:=by decide +kernel
  have:=of_decide_eq_true (List.all_eq_true.1 hall x hx);obtain ⟨bs,h1,h2⟩:=Option.bind_eq_some_iff.1 this;exact ⟨bs,x.2,h1,h2,rfl⟩
 obtain ⟨bs,b,h1,h2,h3⟩:=key x hx;exact ⟨rfl,x.1 / 4,x.1 % 4,bs,b,(by simp only; omega),Nat.mod_lt _ (by omega),h1,h2,by rw [h3]⟩
theorem Kx {W:World} (h:laidMetH Tryz.prog xk W):Laid W:=by
 rw [MakeChecks.laidMetH_plain _ _ _ (by kernel_rfl)] at h;obtain ⟨ps,⟨g0,t0,cs0,f0,p0,q0,hg0,ht0,hv0,hd0,_,_⟩,_,_⟩:=h;have hg : Tryz.prog.globalNamed "cairnfield/play.forms" = some 0 := by kernel_rfl
 have htt:(Tryz.prog.globals[0]?).map (·.type)=some 97:=by kernel_rfl
 obtain rfl:=Option.some.inj (hg.symm.trans hg0);obtain rfl:=Option.some.inj (htt.symm.trans ht0);intro t ht;obtain ⟨e0,i,j,bs,b,e1,hj,hb1,hb2,e2⟩:=Dp t ht;have hk:=Hx (u:=96) (e:=4) (n:=14) (k:=4) (bss:=formsB) Tryz.underlying97 Tryz.underlying96 Tryz.underlying4 (by kernel_rfl) (by kernel_rfl) hd0 i bs hb1;have hc:=World.var?_cell hg hv0 (4 * i+j);rw [e0,e1,e2,hc];have h4:=congrArg (·[j]?) hk;simp only [List.getElem?_take,List.getElem?_drop,List.getElem?_map,hb2,hj,if_true,Option.map_some] at h4;rw [← Array.getElem?_toList,show 4 * i+j=i * 4+j by omega];exact h4
end
section
open Go Go.ChangeShapes Go.WideShapes Go.ChangeAt Go.RowKit
set_option maxRecDepth 100000
set_option maxHeartbeats 1000000
theorem playDoes_lifted (os:Os) (started:os.Started) (H:Type) (enc:TypeId×Value→H) :
  ReturnsInHanded {} Tryz.checked os 3 .any (fun w args=>(Rows.playDoesSpec.pre enc Tryz.prog Tryz.f3 Rows.playDoesRow.domain false w args∧laidMetH Tryz.prog Rows.playDoesRow.laid w)∧sizedMet enc Tryz.prog Tryz.f3 (OpenSpec.ofChange Rows.playDoesSpec) false w args) (Rows.playDoesSpec.post enc Tryz.prog Tryz.f3 false true false false):=by
 refine returnsInHanded_of_change_and (C:=Tryz.checked) (X:=fun w _=>laidMetH Tryz.prog Rows.playDoesRow.laid w) (fun _ _ _ hh h=>h.of_heap hh) (by kernel_rfl) started (by kernel_rfl) Tryz.func3
  (ChangeSpec.witness_shaped (enc:=enc) (C:=Tryz.checked) (os:=os) (X:=fun w _=>laidMetH Tryz.prog Rows.playDoesRow.laid w) false (World.doorLaid Tryz.prog 400 os) #[.agg #[.slice none 0 0,.slice none 0 0,.slice none 0 0,.slice none 0 0],.agg #[.int .i64 0,.int .i64 0,.int .i64 0,.int .i64 0,.int .u64 0]] 8 rfl (World.shaped_of_RefB (by kernel_rfl) (by kernel_rfl)) (by kernel_rfl) (by kernel_rfl) (by kernel_rfl) (Ju os _)) ?_
 intro W base args ds gs before hval hW _ hwt hL _;refine zj (P:=Tryz.prog) (fn:=Tryz.f3) (r:=Rows.playDoesSpec) (tb:=4) @tM (by kernel_rfl) (by kernel_rfl) (by kernel_rfl) (by kernel_rfl) Tryz.underlying4 rfl ?_ hval hW hwt (Kx hL);intro ds hd;have hd2:ds.length=2:=hd.trans (by kernel_rfl)
 match ds,hd2 with
 | [_,_],_=>rfl
theorem playDoes_row:Rows.PlayDoesSaid :=
 OpenClaim.holds_of_wide 3 Tryz.f3 rfl rfl rfl rfl rfl rfl rfl ⟨rfl,rfl,rfl,rfl,rfl⟩ rfl rfl rfl rfl rfl (by kernel_rfl) Tryz.func3 (by kernel_rfl)
  (of_decide_eq_true (by kernel_rfl)) (by unfold Func.isWrapper; first | (rw [if_pos (by decide +kernel)]; kernel_rfl) | (rw [if_neg (by decide +kernel)]; exact ⟨rfl,rfl⟩))
  (fun os started H enc _=>playDoes_lifted os started H enc)
theorem playDoes_holds:Rows.PlayDoesCardSaid :=
 Claim7.holds_tied_plain_at .later [] [.data] true (true, "9f915c2d9785d52cfaaf3fd4bd686d44ca5681a2feeeb930bcc5827446efc12d") false
  playDoes_row (fun _ h=>by cases h) (by kernel_rfl) (fun _ h=>by cases h) playDoes_row_tie rfl ⟨rfl,rfl⟩ (by kernel_rfl) rfl
  (fun f fn hf hfn=>by
   obtain rfl:f=3:=Option.some.inj ((show Tryz.prog.funcNamed Rows.playDoesRow.func=some 3 by kernel_rfl).symm.trans hf) |>.symm;obtain rfl:fn=Tryz.f3:=(Option.some.inj (Tryz.func3.symm.trans hfn)).symm
   exact ⟨by kernel_rfl,fun j t ht=>by
    have hm:t∈Tryz.f3.params:=Array.mem_of_getElem? ht;have hall:(Tryz.f3.params.toList.all fun u=>!Tryz.prog.wantsStandIn u)=true:=by kernel_rfl
    exact (show Tryz.prog.wantsStandIn t=false by simpa using List.all_eq_true.1 hall t (by simpa using hm))⟩)
  (by kernel_rfl)
end
end Go.Proofs.YtglchojglcobjaaGreatDoor
