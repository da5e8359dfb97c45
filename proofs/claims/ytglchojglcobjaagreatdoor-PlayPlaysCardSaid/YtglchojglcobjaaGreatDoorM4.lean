import Derived.Test.YtglchojglcobjaaGreatDoorM3
import Derived.WalkKit
namespace Go.Proofs.YtglchojglcobjaaGreatDoor
section
open Go
set_option maxRecDepth 100000
set_option maxHeartbeats 1000000
def Ad:Nat→Option LoopGen
 | 5000004=>some { rd:=[.box 1 aE],A:=fun (s:an)=>{ cs:=[.own 9 3 ty_I,.own 10 3 ty_I],inv:=fun ((ra,ha):List Int×List Int)=>ra=List.replicate s.1.length 0∧ha=List.replicate 256 0,mu:=fun _=>0 } }
 | 6=>some { wr:=[9,10],rd:=[.box 1 aE],A:=fun (s:an)=>{ cs:=[.own 9 3 ty_I,.own 10 3 ty_I,.dat 42 ty_I],inv:=fun ((ra,ha,i):List Int×List Int×Int)=>0≤i∧i≤(ap s).length∧ra=b9 (List.replicate s.1.length 0) ((ap s).take i.toNat) (kC s)∧ha=b9 (List.replicate 256 0) ((ap s).take i.toNat) (kC s),mu:=fun ((_,_,i):List Int×List Int×Int)=>((ap s).length - i).toNat } }
 | 15=>some { rd:=[.own 86 129 fw],A:=fun (g:List bY)=>{ cs:=[.dat 13 ty_I,.dat 88 ty_I],inv:=fun ((n,i):Int×Int)=>0≤i∧i≤g.length∧g.length≤256∧(∀ r∈g,0≤r.2∧r.2≤256)∧n=ep (g.take i.toNat)∧0≤n∧n≤256 * i,mu:=fun ((_,i):Int×Int)=>(g.length - i).toNat } }
 | _=>none
def yF:Spec:={ Ts:=[aE],Rs:=[.dat aE,.dat ty_I],al:=true,pre:=fun (s:an)=>aC s=0,F:=d5 }
def ov:Prop :=
  ∀ (x:List Int×List Int×List (Int×Int)×List (Int×Bool×Int)),((x.1.length * 8≤aA∧∀ (x_1:Int),x_1∈x.1→ak .u64 x_1)∧(x.2.1.length * 8≤aA∧∀ (x_1:Int),x_1∈x.2.1→ak .i64 x_1)∧(x.2.2.1.length * (8+8)≤aA∧∀ (x_1:Int×Int),x_1∈x.2.2.1→ak .i64 x_1.1∧ak .i64 x_1.2)∧x.2.2.2.length * (8+(8+8))≤aA∧∀ (x_1:Int×Bool×Int),x_1∈x.2.2.2→ak .i64 x_1.1∧True∧ak .i64 x_1.2.2)→aC x=0→(x.2.1.length≤32∧x.2.2.1.length≤16∧x.2.2.2.length≤16)∧True∧((ap x).length+(List.map (fun (x:bk)=>x.1) x.2.2.1).length) * 8≤140737488355328∧True∧((((0≤(↑x.1.length:Int)∧(↑x.1.length:Int).toNat * 8≤aA∧((0:Int)≤256∧Int.toNat 256 * 8≤aA∧((List.replicate (↑x.1.length:Int).toNat (0:Int)=List.replicate x.1.length (0:Int)∧List.replicate (Int.toNat 256) (0:Int)=List.replicate 256 (0:Int))∧True)∧True)∧(((0:Int)≤256∧Int.toNat 256 * 8≤aA∧(List.replicate (↑x.1.length:Int).toNat (0:Int)=List.replicate x.1.length (0:Int)∧List.replicate (Int.toNat 256) (0:Int)=List.replicate 256 (0:Int))∧True)∧True)∧True)∧((0:Int)≤256∧Int.toNat 256 * 8≤aA∧(0≤(↑x.1.length:Int)∧(↑x.1.length:Int).toNat * 8≤aA∧((List.replicate (↑x.1.length:Int).toNat (0:Int)=List.replicate x.1.length (0:Int)∧List.replicate (Int.toNat 256) (0:Int)=List.replicate 256 (0:Int))∧True)∧True)∧True)∧True)∧((0:Int)≤256∧Int.toNat 256 * 8≤aA∧((0≤(↑x.1.length:Int)∧(↑x.1.length:Int).toNat * 8≤aA∧((List.replicate (↑x.1.length:Int).toNat (0:Int)=List.replicate x.1.length (0:Int)∧List.replicate (Int.toNat 256) (0:Int)=List.replicate 256 (0:Int))∧True)∧True)∧True)∧True)∧True)∧((0:Int)≤256∧Int.toNat 256 * 8≤aA∧(((0≤(↑x.1.length:Int)∧(↑x.1.length:Int).toNat * 8≤aA∧((List.replicate (↑x.1.length:Int).toNat (0:Int)=List.replicate x.1.length (0:Int)∧List.replicate (Int.toNat 256) (0:Int)=List.replicate 256 (0:Int))∧True)∧True)∧True)∧True)∧True)∧True)∧∀ (x_1:List Int×List Int),x_1.1=List.replicate x.1.length (0:Int)∧x_1.2=List.replicate 256 (0:Int)→((0:Int)≤0∧0≤(↑(ap x).length:Int)∧x_1.1=b9 (List.replicate x.1.length (0:Int)) (List.take (Int.toNat 0) (ap x)) (kC x)∧x_1.2=b9 (List.replicate 256 (0:Int)) (List.take (Int.toNat 0) (ap x)) (kC x))∧∀ (x_2:List Int×List Int×Int),0≤x_2.2.2∧x_2.2.2≤(↑(ap x).length:Int)∧x_2.1=b9 (List.replicate x.1.length (0:Int)) (List.take x_2.2.2.toNat (ap x)) (kC x)∧x_2.2.1=b9 (List.replicate 256 (0:Int)) (List.take x_2.2.2.toNat (ap x)) (kC x)→(decide (x_2.2.2<(↑(ap x).length:Int))=true→0≤x_2.2.2∧x_2.2.2<(↑(ap x).length:Int)∧x_2.2.2.toNat<(ap x).length∧0≤x_2.2.2∧x_2.2.2<(↑(aw x.1 (ap x) (List.map (fun (x:bk)=>x.1) x.2.2.1)).2.1.length:Int)∧0≤x_2.2.2∧x_2.2.2<(↑(aw x.1 (ap x) (List.map (fun (x:bk)=>x.1) x.2.2.1)).2.1.length:Int)∧0≤(ap x).getD x_2.2.2.toNat 0∧(ap x).getD x_2.2.2.toNat 0<(↑x_2.1.length:Int)∧((ap x).getD x_2.2.2.toNat 0).toNat<x_2.1.length∧(ap x).getD x_2.2.2.toNat 0=(ap x).getD x_2.2.2.toNat 0∧0≤(ap x).getD x_2.2.2.toNat 0∧(ap x).getD x_2.2.2.toNat 0<(↑x_2.2.1.length:Int)∧((ap x).getD x_2.2.2.toNat 0).toNat<x_2.2.1.length∧ak .i64 (x_2.2.2+1)∧(0≤x_2.2.2+1∧x_2.2.2+1≤(↑(ap x).length:Int)∧x_2.1.set ((ap x).getD x_2.2.2.toNat 0).toNat ((aw x.1 (ap x) (List.map (fun (x:bk)=>x.1) x.2.2.1)).2.1.getD x_2.2.2.toNat 0)=b9 (List.replicate x.1.length (0:Int)) (List.take (x_2.2.2+1).toNat (ap x)) (kC x)∧x_2.2.1.set ((ap x).getD x_2.2.2.toNat 0).toNat ((aw x.1 (ap x) (List.map (fun (x:bk)=>x.1) x.2.2.1)).2.1.getD x_2.2.2.toNat 0)=b9 (List.replicate 256 (0:Int)) (List.take (x_2.2.2+1).toNat (ap x)) (kC x))∧((↑(ap x).length:Int) - (x_2.2.2+1)).toNat<((↑(ap x).length:Int) - x_2.2.2).toNat)∧(decide (x_2.2.2<(↑(ap x).length:Int))=false→True∧True∧True∧((0:Int)≤0∧0≤(↑(ay (aw x.1 (ap x) (List.map (fun (x:bk)=>x.1) x.2.2.1)).1).1.length:Int)∧(ay (aw x.1 (ap x) (List.map (fun (x:bk)=>x.1) x.2.2.1)).1).1.length≤256∧(∀ (r:bY),r∈(ay (aw x.1 (ap x) (List.map (fun (x:bk)=>x.1) x.2.2.1)).1).1→0≤r.2∧r.2≤256)∧0=ep (List.take (Int.toNat 0) (ay (aw x.1 (ap x) (List.map (fun (x:bk)=>x.1) x.2.2.1)).1).1)∧(0:Int)≤0∧(0:Int)≤256 * 0)∧∀ (x_3:Int×Int),0≤x_3.2∧x_3.2≤(↑(ay (aw x.1 (ap x) (List.map (fun (x:bk)=>x.1) x.2.2.1)).1).1.length:Int)∧(ay (aw x.1 (ap x) (List.map (fun (x:bk)=>x.1) x.2.2.1)).1).1.length≤256∧(∀ (r:bY),r∈(ay (aw x.1 (ap x) (List.map (fun (x:bk)=>x.1) x.2.2.1)).1).1→0≤r.2∧r.2≤256)∧x_3.1=ep (List.take x_3.2.toNat (ay (aw x.1 (ap x) (List.map (fun (x:bk)=>x.1) x.2.2.1)).1).1)∧0≤x_3.1∧x_3.1≤256 * x_3.2→(decide (x_3.2<(↑(ay (aw x.1 (ap x) (List.map (fun (x:bk)=>x.1) x.2.2.1)).1).1.length:Int))=true→0≤x_3.2∧x_3.2<(↑(ay (aw x.1 (ap x) (List.map (fun (x:bk)=>x.1) x.2.2.1)).1).1.length:Int)∧x_3.2.toNat<(ay (aw x.1 (ap x) (List.map (fun (x:bk)=>x.1) x.2.2.1)).1).1.length∧ak .i64 (x_3.1+((ay (aw x.1 (ap x) (List.map (fun (x:bk)=>x.1) x.2.2.1)).1).1.getD x_3.2.toNat (0,0)).2)∧ak .i64 (x_3.2+1)∧(0≤x_3.2+1∧x_3.2+1≤(↑(ay (aw x.1 (ap x) (List.map (fun (x:bk)=>x.1) x.2.2.1)).1).1.length:Int)∧(ay (aw x.1 (ap x) (List.map (fun (x:bk)=>x.1) x.2.2.1)).1).1.length≤256∧(∀ (r:bY),r∈(ay (aw x.1 (ap x) (List.map (fun (x:bk)=>x.1) x.2.2.1)).1).1→0≤r.2∧r.2≤256)∧x_3.1+((ay (aw x.1 (ap x) (List.map (fun (x:bk)=>x.1) x.2.2.1)).1).1.getD x_3.2.toNat (0,0)).2=ep (List.take (x_3.2+1).toNat (ay (aw x.1 (ap x) (List.map (fun (x:bk)=>x.1) x.2.2.1)).1).1)∧0≤x_3.1+((ay (aw x.1 (ap x) (List.map (fun (x:bk)=>x.1) x.2.2.1)).1).1.getD x_3.2.toNat (0,0)).2∧x_3.1+((ay (aw x.1 (ap x) (List.map (fun (x:bk)=>x.1) x.2.2.1)).1).1.getD x_3.2.toNat (0,0)).2≤256 * (x_3.2+1))∧((↑(ay (aw x.1 (ap x) (List.map (fun (x:bk)=>x.1) x.2.2.1)).1).1.length:Int) - (x_3.2+1)).toNat<((↑(ay (aw x.1 (ap x) (List.map (fun (x:bk)=>x.1) x.2.2.1)).1).1.length:Int) - x_3.2).toNat)∧(decide (x_3.2<(↑(ay (aw x.1 (ap x) (List.map (fun (x:bk)=>x.1) x.2.2.1)).1).1.length:Int))=false→((aw x.1 (ap x) (List.map (fun (x:bk)=>x.1) x.2.2.1)).1,(bB x.2.1 (↑x.1.length:Int) x_2.1).1,x.2.2.1,(fX x.2.2.2 x_2.2.1).1)=(d5 x).1∧x_3.1=(d5 x).2∧True))
theorem u9:ov:=by
 unfold ov;intro s ⟨⟨hb,hw⟩,_⟩ hs;have R:=iv hw hs;have hcl:aw s.1 (ap s) (List.map (fun (x:bk)=>x.1) s.2.2.1)=(cU s,(ap s).map (kC s),0):=R.clean;obtain ⟨hgf,hgi,hgl⟩:=R.gaps;have hfl:=R.fromLen;have hsm:=R.small;have hal:=R.al;have hF:d5 s=(bc s,ep (aU false [] (aa (cU s)).1)):=rfl;have hfm:=fun x=>gG (s:=s) R.root (x:=x)
 have hsr:=R.swapRoots;have hsh:=R.swapHands;rw [hF,hcl];simp only;rw [hgf];simp only;generalize aU false [] (aa (cU s)).1=g at *;unfold aA at hb ⊢;refine ⟨hsm,trivial,by rw [List.length_map]; omega,trivial,?_,fun ⟨ra,ha⟩ ⟨q1,q2⟩=>?_⟩
 ·have e1:((s.1.length:Int)).toNat=s.1.length:=by omega
  have e2:Int.toNat 256=256:=rfl;have e3:(0:Int)≤(s.1.length:Int):=by omega
  simp only [e1,e2,e3,hb,true_and,and_true];omega
 simp only at q1 q2;subst q1 q2;refine ⟨⟨by omega,by omega,by simp [b9],by simp [b9]⟩,fun ⟨ra,ha,i⟩ ⟨i0,i1,i2,i3⟩=>⟨fun hlt=>?_,fun hge=>?_⟩⟩
 ·simp only at i0 i1 i2 i3 hlt ⊢;have hlt:=of_decide_eq_true hlt;have ht:=bo (0:Int) i0 hlt;have hx:=R.nameIn ((hfm _).1 (aI (0:Int) i0 hlt));have hm:(List.map (kC s) (ap s)).getD i.toNat 0=kC s ((ap s).getD i.toNat 0):=Cf i0 hlt;have l1:ra.length=s.1.length:=by rw [i2,d8,List.length_replicate]
  have l2:ha.length=256:=by rw [i3,d8,List.length_replicate]
  rw [hm,ht,jH,jH,← i2,← i3,l1,l2,List.length_map];generalize (ap s).getD i.toNat 0=x at *;simp only [ak];exact ⟨i0,hlt,by omega,i0,hlt,i0,hlt,hx.1,hx.2,by omega,by first | trivial | rfl,hx.1,by omega,by omega,by omega,⟨by omega,by omega,by trivial,by trivial⟩,by omega⟩
 ·simp only at i0 i1 i2 i3 hge ⊢;have hge:=of_decide_eq_false hge;rw [bF hge] at i2 i3;refine ⟨trivial,trivial,trivial,⟨by omega,by omega,hgl,fun r hr=>by have:=hgi r hr; omega,by trivial,by omega,by omega⟩,fun ⟨n,j⟩ ⟨j0,j1,_,_,j2,j3,j4⟩=>⟨fun hlt=>?_,fun hge=>?_⟩⟩
  ·simp only at j0 j1 j2 j3 j4 hlt ⊢;have hlt:=of_decide_eq_true hlt;have hm:=hgi _ (aI ((0,0):bY) j0 hlt);rw [pJ j0 hlt,← j2];generalize (g.getD j.toNat (0,0)).2=y at *;simp only [ak];exact ⟨j0,hlt,by omega,by omega,by omega,⟨by omega,by omega,hgl,fun r hr=>by have:=hgi r hr; omega,by trivial,by omega,by omega⟩,by omega⟩
  ·simp only at j0 j1 j2 hge ⊢;rw [bF (of_decide_eq_false hge)] at j2;rw [i2,i3,hsr,hsh];exact ⟨rfl,j2,trivial⟩
theorem zi:yF.ok Tryz.prog 58:=aF (ann:=Ad) (ae pY (ae jL (ae Ca (ae b8 (ae rz (ae rD (ae rG aq))))))) Tryz.func58 (by kernel_rfl) u9
def cj (s:an):an×Int×Int:=if aC s≠0 then (aK,0,aC s) else ((d5 s).1,(d5 s).2,0)
def vI:Spec:={ Ts:=[aE],Rs:=[.dat aE,.dat ty_I,.dat ty_I],al:=true,pre:=fun _=>True,F:=cj }
def mN:Prop :=
  ∀ (x:List Int×List Int×List (Int×Int)×List (Int×Bool×Int)),((x.1.length * 8≤aA∧∀ (x_1:Int),x_1∈x.1→ak .u64 x_1)∧(x.2.1.length * 8≤aA∧∀ (x_1:Int),x_1∈x.2.1→ak .i64 x_1)∧(x.2.2.1.length * (8+8)≤aA∧∀ (x_1:Int×Int),x_1∈x.2.2.1→ak .i64 x_1.1∧ak .i64 x_1.2)∧x.2.2.2.length * (8+(8+8))≤aA∧∀ (x_1:Int×Bool×Int),x_1∈x.2.2.2→ak .i64 x_1.1∧True∧ak .i64 x_1.2.2)→True→True∧(decide (aC x≠0)=true→(([]:List Int),([]:List Int),([]:List (Int×Int)),([]:List (Int×Bool×Int)))=(cj x).1∧0=(cj x).2.1∧aC x=(cj x).2.2∧True)∧(decide (aC x≠0)=false→aC x=0∧(d5 x).1=(cj x).1∧(d5 x).2=(cj x).2.1∧0=(cj x).2.2∧True)
theorem sE:mN:=by
 unfold mN;intro s hx hs;refine ⟨trivial,fun h=>?_,fun h=>?_⟩
 ·unfold cj;rw [if_pos (of_decide_eq_true h)];exact ⟨by trivial,by trivial,by trivial,trivial⟩
 ·have h:=of_decide_eq_false h;unfold cj;rw [if_neg h];exact ⟨by omega,rfl,rfl,rfl,trivial⟩
theorem vX:vI.ok Tryz.prog 15:=aF (ann:=cw) (ae fD (ae zi aq)) Tryz.func15 (by kernel_rfl) sE
def bM (s:an) (k:Int):Int:=if aC s≠0 then aC s else if k<0∨(s.2.1.length:Int)≤k∨s.2.1.getD k.toNat 0<0 then 5 else 0
def aB (s:an) (k:Int):Int:=s.2.1.getD k.toNat 0
def bg (s:an) (k:Int):Int×Obj×Int:=if bM s k≠0 then (0,ik,bM s k) else (aB s k,(db s.1 (aB s k)).1,0)
def CQ:Nat→Option LoopGen
 | 4000006=>some eM
 | _=>none
def AS:Spec:={ Ts:=[aE,ty_I],Rs:=[.dat ty_I,.dat DB,.dat ty_I],al:=true,pre:=fun _=>True,F:=fun ((s,k):an×Int)=>bg s k }
def qQ:Prop :=
  ∀ (x:(List Int×List Int×List (Int×Int)×List (Int×Bool×Int))×Int),((x.1.1.length * 8≤aA∧∀ (x_1:Int),x_1∈x.1.1→ak .u64 x_1)∧(x.1.2.1.length * 8≤aA∧∀ (x_1:Int),x_1∈x.1.2.1→ak .i64 x_1)∧(x.1.2.2.1.length * (8+8)≤aA∧∀ (x_1:Int×Int),x_1∈x.1.2.2.1→ak .i64 x_1.1∧ak .i64 x_1.2)∧x.1.2.2.2.length * (8+(8+8))≤aA∧∀ (x_1:Int×Bool×Int),x_1∈x.1.2.2.2→ak .i64 x_1.1∧True∧ak .i64 x_1.2.2)∧ak .i64 x.2→True→True∧(decide (aC x.1≠0)=true→0=(bg x.1 x.2).1∧(0,([]:List Int),([]:List Int),false)=(bg x.1 x.2).2.1∧aC x.1=(bg x.1 x.2).2.2∧True)∧(decide (aC x.1≠0)=false→((decide (x.2<0)||decide ((↑x.1.2.1.length:Int)≤x.2))=false→0≤x.2)∧((decide (x.2<0)||decide ((↑x.1.2.1.length:Int)≤x.2))=false→x.2<(↑x.1.2.1.length:Int))∧((decide (x.2<0)||decide ((↑x.1.2.1.length:Int)≤x.2)||decide (x.1.2.1.getD x.2.toNat (0:Int)<0))=true→0=(bg x.1 x.2).1∧(0,([]:List Int),([]:List Int),false)=(bg x.1 x.2).2.1∧5=(bg x.1 x.2).2.2∧True)∧((decide (x.2<0)||decide ((↑x.1.2.1.length:Int)≤x.2)||decide (x.1.2.1.getD x.2.toNat (0:Int)<0))=false→0≤x.2∧x.2<(↑x.1.2.1.length:Int)∧True∧x.1.1=x.1.1∧x.1.2.1=x.1.2.1∧x.2=x.2∧0≤x.2∧x.2<(↑x.1.2.1.length:Int)∧x.1.2.1.getD x.2.toNat 0=x.1.2.1.getD x.2.toNat 0∧x.1.2.1.getD x.2.toNat 0=x.1.2.1.getD x.2.toNat 0∧True∧(db x.1.1 (x.1.2.1.getD x.2.toNat 0)).1.1=(db x.1.1 (x.1.2.1.getD x.2.toNat 0)).1.1∧(db x.1.1 (x.1.2.1.getD x.2.toNat 0)).1.2.1=(db x.1.1 (x.1.2.1.getD x.2.toNat 0)).1.2.1∧(db x.1.1 (x.1.2.1.getD x.2.toNat 0)).1.2.2.1=(db x.1.1 (x.1.2.1.getD x.2.toNat 0)).1.2.2.1∧(db x.1.1 (x.1.2.1.getD x.2.toNat 0)).1.2.2.2=(db x.1.1 (x.1.2.1.getD x.2.toNat 0)).1.2.2.2∧(db x.1.1 (x.1.2.1.getD x.2.toNat 0)).2=(db x.1.1 (x.1.2.1.getD x.2.toNat 0)).2∧(db x.1.1 (x.1.2.1.getD x.2.toNat 0)).1.1=(db x.1.1 (x.1.2.1.getD x.2.toNat 0)).1.1∧(db x.1.1 (x.1.2.1.getD x.2.toNat 0)).1.2.1=(db x.1.1 (x.1.2.1.getD x.2.toNat 0)).1.2.1∧(db x.1.1 (x.1.2.1.getD x.2.toNat 0)).1.2.2.1=(db x.1.1 (x.1.2.1.getD x.2.toNat 0)).1.2.2.1∧(db x.1.1 (x.1.2.1.getD x.2.toNat 0)).1.2.2.2=(db x.1.1 (x.1.2.1.getD x.2.toNat 0)).1.2.2.2∧(db x.1.1 (x.1.2.1.getD x.2.toNat 0)).2=(db x.1.1 (x.1.2.1.getD x.2.toNat 0)).2∧(db x.1.1 (x.1.2.1.getD x.2.toNat 0)).1.1=(db x.1.1 (x.1.2.1.getD x.2.toNat 0)).1.1∧(db x.1.1 (x.1.2.1.getD x.2.toNat 0)).1.2.1=(db x.1.1 (x.1.2.1.getD x.2.toNat 0)).1.2.1∧(db x.1.1 (x.1.2.1.getD x.2.toNat 0)).1.2.2.1=(db x.1.1 (x.1.2.1.getD x.2.toNat 0)).1.2.2.1∧(db x.1.1 (x.1.2.1.getD x.2.toNat 0)).1.2.2.2=(db x.1.1 (x.1.2.1.getD x.2.toNat 0)).1.2.2.2∧(db x.1.1 (x.1.2.1.getD x.2.toNat 0)).2=(db x.1.1 (x.1.2.1.getD x.2.toNat 0)).2∧(db x.1.1 (x.1.2.1.getD x.2.toNat 0)).2=(db x.1.1 (x.1.2.1.getD x.2.toNat 0)).2∧0≤x.2∧x.2<(↑x.1.2.1.length:Int)∧(db x.1.1 (x.1.2.1.getD x.2.toNat 0)).1.1=(db x.1.1 (x.1.2.1.getD x.2.toNat 0)).1.1∧(db x.1.1 (x.1.2.1.getD x.2.toNat 0)).1.2.1=(db x.1.1 (x.1.2.1.getD x.2.toNat 0)).1.2.1∧(db x.1.1 (x.1.2.1.getD x.2.toNat 0)).1.2.2.1=(db x.1.1 (x.1.2.1.getD x.2.toNat 0)).1.2.2.1∧(db x.1.1 (x.1.2.1.getD x.2.toNat 0)).1.2.2.2=(db x.1.1 (x.1.2.1.getD x.2.toNat 0)).1.2.2.2∧(db x.1.1 (x.1.2.1.getD x.2.toNat 0)).2=(db x.1.1 (x.1.2.1.getD x.2.toNat 0)).2∧(db x.1.1 (x.1.2.1.getD x.2.toNat 0)).2=(db x.1.1 (x.1.2.1.getD x.2.toNat 0)).2∧x.1.2.1.getD x.2.toNat 0=(bg x.1 x.2).1∧(db x.1.1 (x.1.2.1.getD x.2.toNat 0)).1=(bg x.1 x.2).2.1∧(db x.1.1 (x.1.2.1.getD x.2.toNat 0)).2=(bg x.1 x.2).2.2∧True))
theorem xZ:qQ:=by
 unfold qQ;intro ⟨s,k⟩ ⟨⟨⟨hb,hw⟩,_⟩,_⟩ _;simp only at hb hw ⊢;have hO:bg s k=if bM s k≠0 then (0,ik,bM s k) else (aB s k,(db s.1 (aB s k)).1,0):=rfl
 have hE:bM s k=if aC s≠0 then aC s else if k<0∨(s.2.1.length:Int)≤k∨s.2.1.getD k.toNat 0<0 then 5 else 0:=rfl
 refine ⟨trivial,fun h=>?_,fun h=>⟨fun h1=>?_,fun h1=>?_,fun h1=>?_,fun h1=>?_⟩⟩
 ·rw [if_pos (of_decide_eq_true h)] at hE;rw [hO,hE,if_pos (of_decide_eq_true h)];exact ⟨by trivial,by trivial,by trivial,trivial⟩
 ·simp at h1; omega
 ·simp at h1; omega
 ·rw [if_neg (of_decide_eq_false h),if_pos (by simpa [or_assoc,and_assoc] using h1)] at hE;rw [hO,hE,if_pos (by omega)];exact ⟨by trivial,by trivial,by trivial,trivial⟩
 ·have hs:aC s=0:=by simpa using of_decide_eq_false h
  have h1:¬ (k<0∨(s.2.1.length:Int)≤k∨s.2.1.getD k.toNat 0<0):=by simpa [or_assoc,and_assoc] using h1
  rw [if_neg (by omega),if_neg h1] at hE;have R:=iv hw hs;have O:=R.obj (R.rootNam (k:=k) (by omega) (by omega) (by omega));have hz:(db s.1 (s.2.1.getD k.toNat 0)).2=0:=by rw [O.at_]
  rw [hO,hE,if_neg (by omega),hz];simp only [and_true,true_and,aB];omega
theorem jM:AS.ok Tryz.prog 61:=aF (ann:=CQ) (ae fD (ae mv aq)) Tryz.func61 (by kernel_rfl) xZ
theorem t6 {s:an} {k:Int} (hw:∀ x∈s.1,ak .u64 x) (h:bM s k=0):Right s∧0≤k∧k<s.2.1.length∧ObjAt s (aB s k):=by
 unfold bM at h;split at h
 ·omega
 rename_i h0;split at h
 ·omega
 rename_i h1;have R:=iv hw (by omega:aC s=0);exact ⟨R,by omega,by omega,R.obj (R.rootNam (k:=k) (by omega) (by omega) (by omega))⟩
def bH (s:an) (slot k other:Int):Int:=if bM s slot≠0 then bM s slot else if k<0∨(dp s.1 (aB s slot)).1≤k then 4 else if other<0∨(s.2.1.length:Int)≤other then 5 else 0
def Ik:Spec:={ Ts:=[aE,ty_I,ty_I,ty_I],Rs:=[.dat ty_I,.dat ty_I],pre:=fun _=>True,F:=fun ((s,slot,k,other):an×Int×Int×Int)=>((if bH s slot k other≠0 then 0 else aB s slot+1+k,bH s slot k other):Int×Int) }
def Bv:Prop :=
  ∀ (x:(List Int×List Int×List (Int×Int)×List (Int×Bool×Int))×Int×Int×Int),((x.1.1.length * 8≤aA∧∀ (x_1:Int),x_1∈x.1.1→ak .u64 x_1)∧(x.1.2.1.length * 8≤aA∧∀ (x_1:Int),x_1∈x.1.2.1→ak .i64 x_1)∧(x.1.2.2.1.length * (8+8)≤aA∧∀ (x_1:Int×Int),x_1∈x.1.2.2.1→ak .i64 x_1.1∧ak .i64 x_1.2)∧x.1.2.2.2.length * (8+(8+8))≤aA∧∀ (x_1:Int×Bool×Int),x_1∈x.1.2.2.2→ak .i64 x_1.1∧True∧ak .i64 x_1.2.2)∧ak .i64 x.2.1∧ak .i64 x.2.2.1∧ak .i64 x.2.2.2→True→True∧(decide ((bg x.1 x.2.1).2.2≠0)=true→((0:Int)=if bH x.1 x.2.1 x.2.2.1 x.2.2.2≠0 then (0:Int) else aB x.1 x.2.1+1+x.2.2.1)∧(bg x.1 x.2.1).2.2=bH x.1 x.2.1 x.2.2.1 x.2.2.2∧True)∧(decide ((bg x.1 x.2.1).2.2≠0)=false→((decide (x.2.2.1<0)||decide ((↑(bg x.1 x.2.1).2.1.2.1.length:Int)≤x.2.2.1))=true→((0:Int)=if bH x.1 x.2.1 x.2.2.1 x.2.2.2≠0 then (0:Int) else aB x.1 x.2.1+1+x.2.2.1)∧4=bH x.1 x.2.1 x.2.2.1 x.2.2.2∧True)∧((decide (x.2.2.1<0)||decide ((↑(bg x.1 x.2.1).2.1.2.1.length:Int)≤x.2.2.1))=false→((decide (x.2.2.2<0)||decide ((↑x.1.2.1.length:Int)≤x.2.2.2))=true→((0:Int)=if bH x.1 x.2.1 x.2.2.1 x.2.2.2≠0 then (0:Int) else aB x.1 x.2.1+1+x.2.2.1)∧5=bH x.1 x.2.1 x.2.2.1 x.2.2.2∧True)∧((decide (x.2.2.2<0)||decide ((↑x.1.2.1.length:Int)≤x.2.2.2))=false→ak .i64 ((bg x.1 x.2.1).1+1)∧ak .i64 ((bg x.1 x.2.1).1+1+x.2.2.1)∧((bg x.1 x.2.1).1+1+x.2.2.1=if bH x.1 x.2.1 x.2.2.1 x.2.2.2≠0 then (0:Int) else aB x.1 x.2.1+1+x.2.2.1)∧0=bH x.1 x.2.1 x.2.2.1 x.2.2.2∧True)))
theorem F0:Bv:=by
 unfold Bv;intro ⟨s,slot,k,other⟩ ⟨⟨⟨hb,hw⟩,_⟩,_⟩ _;simp only at hb hw ⊢;have hR:bH s slot k other=if bM s slot≠0 then bM s slot else if k<0∨(dp s.1 (aB s slot)).1≤k then 4 else if other<0∨(s.2.1.length:Int)≤other then 5 else 0:=rfl
 have hO:bg s slot=if bM s slot≠0 then (0,ik,bM s slot) else (aB s slot,(db s.1 (aB s slot)).1,0):=rfl
 by_cases h0:bM s slot≠0
 ·rw [if_pos h0] at hR hO;rw [hO,hR];simp only;refine ⟨trivial,fun _=>?_,fun h=>absurd h0 (of_decide_eq_false h)⟩;rw [if_pos h0];exact ⟨by trivial,by trivial,trivial⟩
 ·obtain ⟨R,_,_,O⟩:=t6 hw (by omega:bM s slot=0);have hal:=R.al;rw [if_neg h0] at hR hO;rw [hO];simp only;rw [O.refs];have:=O.x0;have:=O.r0;have:=O.b0;have:=O.fit;refine ⟨trivial,fun h=>absurd rfl (of_decide_eq_true h),fun _=>⟨fun h1=>?_,fun h1=>⟨fun h2=>?_,fun h2=>?_⟩⟩⟩
  ·rw [if_pos (by simpa using h1)] at hR;rw [hR];exact ⟨by trivial,by trivial,trivial⟩
  ·have h1:¬ (k<0∨(dp s.1 (aB s slot)).1≤k):=by simpa using h1
   rw [if_neg h1,if_pos (by simpa using h2)] at hR;rw [hR];exact ⟨by trivial,by trivial,trivial⟩
  ·have h1:¬ (k<0∨(dp s.1 (aB s slot)).1≤k):=by simpa using h1
   have h2:¬ (other<0∨(s.2.1.length:Int)≤other):=by simpa using h2
   rw [if_neg h1,if_neg h2] at hR;rw [hR];simp only [ak];exact ⟨by omega,by omega,by simp,by trivial,trivial⟩
theorem BU:Ik.ok Tryz.prog 59:=aF (ann:=cw) (ae jM aq) Tryz.func59 (by kernel_rfl) F0
theorem IN {s:an} {slot k other:Int} (hw:∀ x∈s.1,ak .u64 x) (h:bH s slot k other=0):Right s∧ObjAt s (aB s slot)∧0≤k∧k<(dp s.1 (aB s slot)).1∧0≤other∧other<s.2.1.length:=by
 unfold bH at h;split at h
 ·omega
 rename_i h0;split at h
 ·omega
 split at h
 ·omega
 obtain ⟨R,_,_,O⟩:=t6 hw (by omega:bM s slot=0);exact ⟨R,O,by omega,by omega,by omega,by omega⟩
def fR:Nat→Option LoopGen
 | 3000056=>some eM
 | 5704000001=>some eM
 | _=>none
def jW (s:an) (slot k into:Int):an×Int:=if bH s slot k into≠0 then (aK,bH s slot k into) else ((s.1,s.2.1.set into.toNat (s.1.getD (aB s slot+1+k).toNat 0 - 1),s.2.2),0)
def Gu:Spec:={ Ts:=[aE,ty_I,ty_I,ty_I],Rs:=[.dat aE,.dat ty_I],al:=true,pre:=fun _=>True,F:=fun ((s,slot,k,into):an×Int×Int×Int)=>jW s slot k into }
def wS:Prop :=
  ∀ (x:(List Int×List Int×List (Int×Int)×List (Int×Bool×Int))×Int×Int×Int),((x.1.1.length * 8≤aA∧∀ (x_1:Int),x_1∈x.1.1→ak .u64 x_1)∧(x.1.2.1.length * 8≤aA∧∀ (x_1:Int),x_1∈x.1.2.1→ak .i64 x_1)∧(x.1.2.2.1.length * (8+8)≤aA∧∀ (x_1:Int×Int),x_1∈x.1.2.2.1→ak .i64 x_1.1∧ak .i64 x_1.2)∧x.1.2.2.2.length * (8+(8+8))≤aA∧∀ (x_1:Int×Bool×Int),x_1∈x.1.2.2.2→ak .i64 x_1.1∧True∧ak .i64 x_1.2.2)∧ak .i64 x.2.1∧ak .i64 x.2.2.1∧ak .i64 x.2.2.2→True→True∧(decide (bH x.1 x.2.1 x.2.2.1 x.2.2.2≠0)=true→(([]:List Int),([]:List Int),([]:List (Int×Int)),([]:List (Int×Bool×Int)))=(jW x.1 x.2.1 x.2.2.1 x.2.2.2).1∧bH x.1 x.2.1 x.2.2.1 x.2.2.2=(jW x.1 x.2.1 x.2.2.1 x.2.2.2).2∧True)∧(decide (bH x.1 x.2.1 x.2.2.1 x.2.2.2≠0)=false→∀ (_:Array Value),True∧True∧True∧x.1.2.1=x.1.2.1∧x.1.2.2.1=x.1.2.2.1∧x.1.2.2.1=x.1.2.2.1∧x.1.2.2.2=x.1.2.2.2∧x.1.2.2.2=x.1.2.2.2∧x.1.2.2.2=x.1.2.2.2∧True∧(0≤if bH x.1 x.2.1 x.2.2.1 x.2.2.2≠0 then (0:Int) else aB x.1 x.2.1+1+x.2.2.1)∧(if bH x.1 x.2.1 x.2.2.1 x.2.2.2≠0 then (0:Int) else aB x.1 x.2.1+1+x.2.2.1)<(↑x.1.1.length:Int)∧(if bH x.1 x.2.1 x.2.2.1 x.2.2.2≠0 then (0:Int) else aB x.1 x.2.1+1+x.2.2.1).toNat<x.1.1.length∧ak .i64 (IntKind.i64.wrap (x.1.1.getD (if bH x.1 x.2.1 x.2.2.1 x.2.2.2≠0 then (0:Int) else aB x.1 x.2.1+1+x.2.2.1).toNat 0) - 1)∧0≤x.2.2.2∧x.2.2.2<(↑x.1.2.1.length:Int)∧x.2.2.2.toNat<x.1.2.1.length∧(x.1.1,x.1.2.1.set x.2.2.2.toNat (IntKind.i64.wrap (x.1.1.getD (if bH x.1 x.2.1 x.2.2.1 x.2.2.2≠0 then (0:Int) else aB x.1 x.2.1+1+x.2.2.1).toNat 0) - 1),x.1.2.2)=(jW x.1 x.2.1 x.2.2.1 x.2.2.2).1∧0=(jW x.1 x.2.1 x.2.2.1 x.2.2.2).2∧True)
theorem Dc:wS:=by
 unfold wS;intro ⟨s,slot,k,into⟩ ⟨⟨⟨hb,hw⟩,_⟩,_⟩ _;simp only at hb hw ⊢;have hF:jW s slot k into=if bH s slot k into≠0 then (aK,bH s slot k into) else ((s.1,s.2.1.set into.toNat (s.1.getD (aB s slot+1+k).toNat 0 - 1),s.2.2),0):=rfl
 refine ⟨trivial,fun h=>?_,fun h tm=>⟨trivial,trivial,trivial,by trivial,by trivial,by trivial,by trivial,by trivial,by trivial,trivial,?_⟩⟩
 ·rw [hF,if_pos (of_decide_eq_true h)];exact ⟨by trivial,by trivial,trivial⟩
 ·have h0:=of_decide_eq_false h;obtain ⟨R,O,k0,k1,o0,o1⟩:=IN hw (by omega:bH s slot k into=0);have hv:=R.refWord O.isb k0 k1;have:=O.x0;have:=O.b0;have:=O.fit;rw [hF,if_neg h0,if_neg h0];have hwr:IntKind.i64.wrap (s.1.getD (aB s slot+1+k).toNat 0)=s.1.getD (aB s slot+1+k).toNat 0:=je (by omega) (by omega);rw [hwr];generalize s.1.getD (aB s slot+1+k).toNat 0=v at *;simp only [ak];exact ⟨by omega,by omega,by omega,by omega,o0,o1,by omega,by trivial,by trivial,trivial⟩
theorem G7:Gu.ok Tryz.prog 17:=aF (ann:=fR) (ae BU (ae bT (ae ci (ae b8 (ae bU aq))))) Tryz.func17 (by kernel_rfl) Dc
def jU (s:an) (slot k other:Int):an×Int:=if bH s slot k other≠0 then (aK,bH s slot k other) else ((s.1.set (aB s slot+1+k).toNat (aB s other+1),s.2),0)
def Gt:Spec:={ Ts:=[aE,ty_I,ty_I,ty_I],Rs:=[.dat aE,.dat ty_I],al:=true,pre:=fun _=>True,F:=fun ((s,slot,k,other):an×Int×Int×Int)=>jU s slot k other }
def wR:Prop :=
  ∀ (x:(List Int×List Int×List (Int×Int)×List (Int×Bool×Int))×Int×Int×Int),((x.1.1.length * 8≤aA∧∀ (x_1:Int),x_1∈x.1.1→ak .u64 x_1)∧(x.1.2.1.length * 8≤aA∧∀ (x_1:Int),x_1∈x.1.2.1→ak .i64 x_1)∧(x.1.2.2.1.length * (8+8)≤aA∧∀ (x_1:Int×Int),x_1∈x.1.2.2.1→ak .i64 x_1.1∧ak .i64 x_1.2)∧x.1.2.2.2.length * (8+(8+8))≤aA∧∀ (x_1:Int×Bool×Int),x_1∈x.1.2.2.2→ak .i64 x_1.1∧True∧ak .i64 x_1.2.2)∧ak .i64 x.2.1∧ak .i64 x.2.2.1∧ak .i64 x.2.2.2→True→True∧(decide (bH x.1 x.2.1 x.2.2.1 x.2.2.2≠0)=true→(([]:List Int),([]:List Int),([]:List (Int×Int)),([]:List (Int×Bool×Int)))=(jU x.1 x.2.1 x.2.2.1 x.2.2.2).1∧bH x.1 x.2.1 x.2.2.1 x.2.2.2=(jU x.1 x.2.1 x.2.2.1 x.2.2.2).2∧True)∧(decide (bH x.1 x.2.1 x.2.2.1 x.2.2.2≠0)=false→∀ (_:Array Value),True∧True∧True∧x.1.2.1=x.1.2.1∧x.1.2.2.1=x.1.2.2.1∧x.1.2.2.1=x.1.2.2.1∧x.1.2.2.2=x.1.2.2.2∧x.1.2.2.2=x.1.2.2.2∧x.1.2.2.2=x.1.2.2.2∧True∧0≤x.2.2.2∧x.2.2.2<(↑x.1.2.1.length:Int)∧x.2.2.2.toNat<x.1.2.1.length∧ak .i64 (x.1.2.1.getD x.2.2.2.toNat 0+1)∧(0≤if bH x.1 x.2.1 x.2.2.1 x.2.2.2≠0 then (0:Int) else aB x.1 x.2.1+1+x.2.2.1)∧(if bH x.1 x.2.1 x.2.2.1 x.2.2.2≠0 then (0:Int) else aB x.1 x.2.1+1+x.2.2.1)<(↑x.1.1.length:Int)∧(if bH x.1 x.2.1 x.2.2.1 x.2.2.2≠0 then (0:Int) else aB x.1 x.2.1+1+x.2.2.1).toNat<x.1.1.length∧(x.1.1.set (if bH x.1 x.2.1 x.2.2.1 x.2.2.2≠0 then (0:Int) else aB x.1 x.2.1+1+x.2.2.1).toNat (IntKind.u64.wrap (x.1.2.1.getD x.2.2.2.toNat 0+1)),x.1.2)=(jU x.1 x.2.1 x.2.2.1 x.2.2.2).1∧0=(jU x.1 x.2.1 x.2.2.1 x.2.2.2).2∧True)
theorem Db:wR:=by
 unfold wR;intro ⟨s,slot,k,other⟩ ⟨⟨⟨hb,hw⟩,_⟩,_⟩ _;simp only at hb hw ⊢;have hF:jU s slot k other=if bH s slot k other≠0 then (aK,bH s slot k other) else ((s.1.set (aB s slot+1+k).toNat (aB s other+1),s.2),0):=rfl
 refine ⟨trivial,fun h=>?_,fun h tm=>⟨trivial,trivial,trivial,by trivial,by trivial,by trivial,by trivial,by trivial,by trivial,trivial,?_⟩⟩
 ·rw [hF,if_pos (of_decide_eq_true h)];exact ⟨by trivial,by trivial,trivial⟩
 ·have h0:=of_decide_eq_false h;obtain ⟨R,O,k0,k1,o0,o1⟩:=IN hw (by omega:bH s slot k other=0);have hv:=R.rootIn o0 o1;have hal:=R.al;have:=O.x0;have:=O.b0;have:=O.fit;rw [hF,if_neg h0,if_neg h0];have hwr:IntKind.u64.wrap (s.2.1.getD other.toNat 0+1)=aB s other+1:=fm (by omega) (by omega);rw [hwr];generalize s.2.1.getD other.toNat 0=v at *;simp only [ak];exact ⟨o0,o1,by omega,by omega,by omega,by omega,by omega,by trivial,by trivial,trivial⟩
theorem G6:Gt.ok Tryz.prog 18:=aF (ann:=fR) (ae BU (ae bT (ae ci (ae b8 (ae bU aq))))) Tryz.func18 (by kernel_rfl) Db
def aZ (s:an) (slot k:Int):Int:=if bM s slot≠0 then bM s slot else if k<0∨(dp s.1 (aB s slot)).2.1≤k then 4 else 0
def ca (s:an) (at_ k:Int):Int:=at_+1+(dp s.1 at_).1+k
def GA:Spec:={ Ts:=[aE,ty_I,ty_I],Rs:=[.dat ty_I,.dat ty_I],pre:=fun _=>True,F:=fun ((s,slot,k):an×Int×Int)=>((if aZ s slot k≠0 then 0 else ca s (aB s slot) k,aZ s slot k):Int×Int) }
def wY:Prop :=
  ∀ (x:(List Int×List Int×List (Int×Int)×List (Int×Bool×Int))×Int×Int),((x.1.1.length * 8≤aA∧∀ (x_1:Int),x_1∈x.1.1→ak .u64 x_1)∧(x.1.2.1.length * 8≤aA∧∀ (x_1:Int),x_1∈x.1.2.1→ak .i64 x_1)∧(x.1.2.2.1.length * (8+8)≤aA∧∀ (x_1:Int×Int),x_1∈x.1.2.2.1→ak .i64 x_1.1∧ak .i64 x_1.2)∧x.1.2.2.2.length * (8+(8+8))≤aA∧∀ (x_1:Int×Bool×Int),x_1∈x.1.2.2.2→ak .i64 x_1.1∧True∧ak .i64 x_1.2.2)∧ak .i64 x.2.1∧ak .i64 x.2.2→True→True∧(decide ((bg x.1 x.2.1).2.2≠0)=true→((0:Int)=if aZ x.1 x.2.1 x.2.2≠0 then (0:Int) else ca x.1 (aB x.1 x.2.1) x.2.2)∧(bg x.1 x.2.1).2.2=aZ x.1 x.2.1 x.2.2∧True)∧(decide ((bg x.1 x.2.1).2.2≠0)=false→((decide (x.2.2<0)||decide ((↑(bg x.1 x.2.1).2.1.2.2.1.length:Int)≤x.2.2))=true→((0:Int)=if aZ x.1 x.2.1 x.2.2≠0 then (0:Int) else ca x.1 (aB x.1 x.2.1) x.2.2)∧4=aZ x.1 x.2.1 x.2.2∧True)∧((decide (x.2.2<0)||decide ((↑(bg x.1 x.2.1).2.1.2.2.1.length:Int)≤x.2.2))=false→ak .i64 ((bg x.1 x.2.1).1+1)∧ak .i64 ((bg x.1 x.2.1).1+1+(↑(bg x.1 x.2.1).2.1.2.1.length:Int))∧ak .i64 ((bg x.1 x.2.1).1+1+(↑(bg x.1 x.2.1).2.1.2.1.length:Int)+x.2.2)∧((bg x.1 x.2.1).1+1+(↑(bg x.1 x.2.1).2.1.2.1.length:Int)+x.2.2=if aZ x.1 x.2.1 x.2.2≠0 then (0:Int) else ca x.1 (aB x.1 x.2.1) x.2.2)∧0=aZ x.1 x.2.1 x.2.2∧True))
theorem Di:wY:=by
 unfold wY;intro ⟨s,slot,k⟩ ⟨⟨⟨hb,hw⟩,_⟩,_⟩ _;simp only at hb hw ⊢;have hR:aZ s slot k=if bM s slot≠0 then bM s slot else if k<0∨(dp s.1 (aB s slot)).2.1≤k then 4 else 0:=rfl
 have hO:bg s slot=if bM s slot≠0 then (0,ik,bM s slot) else (aB s slot,(db s.1 (aB s slot)).1,0):=rfl
 by_cases h0:bM s slot≠0
 ·rw [if_pos h0] at hR hO;rw [hO,hR];simp only;refine ⟨trivial,fun _=>?_,fun h=>absurd h0 (of_decide_eq_false h)⟩;rw [if_pos h0];exact ⟨by trivial,by trivial,trivial⟩
 ·obtain ⟨R,_,_,O⟩:=t6 hw (by omega:bM s slot=0);have hal:=R.al;rw [if_neg h0] at hR hO;rw [hO];simp only;rw [O.body,O.refs];have:=O.x0;have:=O.r0;have:=O.b0;have:=O.fit;refine ⟨trivial,fun h=>absurd rfl (of_decide_eq_true h),fun _=>⟨fun h1=>?_,fun h1=>?_⟩⟩
  ·rw [if_pos (by simpa using h1)] at hR;rw [hR];exact ⟨by trivial,by trivial,trivial⟩
  ·have h1:¬ (k<0∨(dp s.1 (aB s slot)).2.1≤k):=by simpa using h1
   rw [if_neg h1] at hR;rw [hR];simp only [ak];exact ⟨by omega,by omega,by omega,by simp [ca],by trivial,trivial⟩
theorem xr:GA.ok Tryz.prog 60:=aF (ann:=cw) (ae jM aq) Tryz.func60 (by kernel_rfl) Di
theorem FP {s:an} {slot k:Int} (hw:∀ x∈s.1,ak .u64 x) (h:aZ s slot k=0):Right s∧ObjAt s (aB s slot)∧0≤k∧k<(dp s.1 (aB s slot)).2.1∧0≤ca s (aB s slot) k∧ca s (aB s slot) k<s.1.length:=by
 unfold aZ at h;split at h
 ·omega
 rename_i h0;split at h
 ·omega
 obtain ⟨R,_,_,O⟩:=t6 hw (by omega:bM s slot=0);have:=O.x0;have:=O.r0;have:=O.fit;unfold ca;exact ⟨R,O,by omega,by omega,by omega,by omega⟩
def Il:Spec:={ Ts:=[aE,ty_I,ty_I],Rs:=[.dat bb,.dat ty_I],pre:=fun _=>True,F:=fun ((s,slot,k):an×Int×Int)=>((if aZ s slot k≠0 then 0 else s.1.getD (ca s (aB s slot) k).toNat 0,aZ s slot k):Int×Int) }
def Bw:Prop :=
  ∀ (x:(List Int×List Int×List (Int×Int)×List (Int×Bool×Int))×Int×Int),((x.1.1.length * 8≤aA∧∀ (x_1:Int),x_1∈x.1.1→ak .u64 x_1)∧(x.1.2.1.length * 8≤aA∧∀ (x_1:Int),x_1∈x.1.2.1→ak .i64 x_1)∧(x.1.2.2.1.length * (8+8)≤aA∧∀ (x_1:Int×Int),x_1∈x.1.2.2.1→ak .i64 x_1.1∧ak .i64 x_1.2)∧x.1.2.2.2.length * (8+(8+8))≤aA∧∀ (x_1:Int×Bool×Int),x_1∈x.1.2.2.2→ak .i64 x_1.1∧True∧ak .i64 x_1.2.2)∧ak .i64 x.2.1∧ak .i64 x.2.2→True→True∧(decide (aZ x.1 x.2.1 x.2.2≠0)=true→((0:Int)=if aZ x.1 x.2.1 x.2.2≠0 then (0:Int) else x.1.1.getD (ca x.1 (aB x.1 x.2.1) x.2.2).toNat 0)∧aZ x.1 x.2.1 x.2.2=aZ x.1 x.2.1 x.2.2∧True)∧(decide (aZ x.1 x.2.1 x.2.2≠0)=false→(0≤if aZ x.1 x.2.1 x.2.2≠0 then (0:Int) else ca x.1 (aB x.1 x.2.1) x.2.2)∧(if aZ x.1 x.2.1 x.2.2≠0 then (0:Int) else ca x.1 (aB x.1 x.2.1) x.2.2)<(↑x.1.1.length:Int)∧(x.1.1.getD (if aZ x.1 x.2.1 x.2.2≠0 then (0:Int) else ca x.1 (aB x.1 x.2.1) x.2.2).toNat (0:Int)=if aZ x.1 x.2.1 x.2.2≠0 then (0:Int) else x.1.1.getD (ca x.1 (aB x.1 x.2.1) x.2.2).toNat 0)∧0=aZ x.1 x.2.1 x.2.2∧True)
theorem F1:Bw:=by
 unfold Bw;intro ⟨s,slot,k⟩ ⟨⟨⟨hb,hw⟩,_⟩,_⟩ _;simp only at hb hw ⊢;refine ⟨trivial,fun h=>?_,fun h=>?_⟩
 ·rw [if_pos (of_decide_eq_true h)];exact ⟨by trivial,by trivial,trivial⟩
 ·have h0:=of_decide_eq_false h;obtain ⟨_,_,_,_,b0,b1⟩:=FP hw (by omega:aZ s slot k=0);rw [if_neg h0];exact ⟨b0,b1,by rw [if_neg h0],by omega,trivial⟩
theorem I1:Il.ok Tryz.prog 19:=aF (ann:=cw) (ae xr aq) Tryz.func19 (by kernel_rfl) F1
def jX (s:an) (slot k v:Int):an×Int:=if aZ s slot k≠0 then (aK,aZ s slot k) else ((s.1.set (ca s (aB s slot) k).toNat v,s.2),0)
def Gv:Spec:={ Ts:=[aE,ty_I,ty_I,bb],Rs:=[.dat aE,.dat ty_I],al:=true,pre:=fun _=>True,F:=fun ((s,slot,k,v):an×Int×Int×Int)=>jX s slot k v }
def wT:Prop :=
  ∀ (x:(List Int×List Int×List (Int×Int)×List (Int×Bool×Int))×Int×Int×Int),((x.1.1.length * 8≤aA∧∀ (x_1:Int),x_1∈x.1.1→ak .u64 x_1)∧(x.1.2.1.length * 8≤aA∧∀ (x_1:Int),x_1∈x.1.2.1→ak .i64 x_1)∧(x.1.2.2.1.length * (8+8)≤aA∧∀ (x_1:Int×Int),x_1∈x.1.2.2.1→ak .i64 x_1.1∧ak .i64 x_1.2)∧x.1.2.2.2.length * (8+(8+8))≤aA∧∀ (x_1:Int×Bool×Int),x_1∈x.1.2.2.2→ak .i64 x_1.1∧True∧ak .i64 x_1.2.2)∧ak .i64 x.2.1∧ak .i64 x.2.2.1∧ak .u64 x.2.2.2→True→True∧(decide (aZ x.1 x.2.1 x.2.2.1≠0)=true→(([]:List Int),([]:List Int),([]:List (Int×Int)),([]:List (Int×Bool×Int)))=(jX x.1 x.2.1 x.2.2.1 x.2.2.2).1∧aZ x.1 x.2.1 x.2.2.1=(jX x.1 x.2.1 x.2.2.1 x.2.2.2).2∧True)∧(decide (aZ x.1 x.2.1 x.2.2.1≠0)=false→∀ (_:Array Value),True∧True∧True∧x.1.2.1=x.1.2.1∧x.1.2.2.1=x.1.2.2.1∧x.1.2.2.1=x.1.2.2.1∧x.1.2.2.2=x.1.2.2.2∧x.1.2.2.2=x.1.2.2.2∧x.1.2.2.2=x.1.2.2.2∧True∧(0≤if aZ x.1 x.2.1 x.2.2.1≠0 then (0:Int) else ca x.1 (aB x.1 x.2.1) x.2.2.1)∧(if aZ x.1 x.2.1 x.2.2.1≠0 then (0:Int) else ca x.1 (aB x.1 x.2.1) x.2.2.1)<(↑x.1.1.length:Int)∧(if aZ x.1 x.2.1 x.2.2.1≠0 then (0:Int) else ca x.1 (aB x.1 x.2.1) x.2.2.1).toNat<x.1.1.length∧(x.1.1.set (if aZ x.1 x.2.1 x.2.2.1≠0 then (0:Int) else ca x.1 (aB x.1 x.2.1) x.2.2.1).toNat x.2.2.2,x.1.2)=(jX x.1 x.2.1 x.2.2.1 x.2.2.2).1∧0=(jX x.1 x.2.1 x.2.2.1 x.2.2.2).2∧True)
theorem Dd:wT:=by
 unfold wT;intro ⟨s,slot,k,v⟩ ⟨⟨⟨hb,hw⟩,_⟩,_⟩ _;simp only at hb hw ⊢;have hF:jX s slot k v=if aZ s slot k≠0 then (aK,aZ s slot k) else ((s.1.set (ca s (aB s slot) k).toNat v,s.2),0):=rfl
 refine ⟨trivial,fun h=>?_,fun h tm=>⟨trivial,trivial,trivial,by trivial,by trivial,by trivial,by trivial,by trivial,by trivial,trivial,?_⟩⟩
 ·rw [hF,if_pos (of_decide_eq_true h)];exact ⟨by trivial,by trivial,trivial⟩
 ·have h0:=of_decide_eq_false h;obtain ⟨_,_,_,_,b0,b1⟩:=FP hw (by omega:aZ s slot k=0);rw [hF,if_neg h0,if_neg h0];exact ⟨b0,b1,by omega,by trivial,by trivial,trivial⟩
theorem G8:Gv.ok Tryz.prog 21:=aF (ann:=fR) (ae xr (ae bT (ae ci (ae b8 (ae bU aq))))) Tryz.func21 (by kernel_rfl) Dd
def gL (s:an) (slot:Int):an×Int×Int:=if bM s slot≠0 then (aK,0,bM s slot) else if (ie s.2.2.1 (aB s slot)).2.2≠0 then (aK,0,(ie s.2.2.1 (aB s slot)).2.2) else ((s.1,s.2.1,(ie s.2.2.1 (aB s slot)).1,s.2.2.2),aB s slot,0)
def Gw:Spec:={ Ts:=[aE,ty_I],Rs:=[.dat aE,.dat ty_I,.dat ty_I],al:=true,pre:=fun _=>True,F:=fun ((s,slot):an×Int)=>gL s slot }
def wU:Prop :=
  ∀ (x:(List Int×List Int×List (Int×Int)×List (Int×Bool×Int))×Int),((x.1.1.length * 8≤aA∧∀ (x_1:Int),x_1∈x.1.1→ak .u64 x_1)∧(x.1.2.1.length * 8≤aA∧∀ (x_1:Int),x_1∈x.1.2.1→ak .i64 x_1)∧(x.1.2.2.1.length * (8+8)≤aA∧∀ (x_1:Int×Int),x_1∈x.1.2.2.1→ak .i64 x_1.1∧ak .i64 x_1.2)∧x.1.2.2.2.length * (8+(8+8))≤aA∧∀ (x_1:Int×Bool×Int),x_1∈x.1.2.2.2→ak .i64 x_1.1∧True∧ak .i64 x_1.2.2)∧ak .i64 x.2→True→True∧(decide ((bg x.1 x.2).2.2≠0)=true→(([]:List Int),([]:List Int),([]:List (Int×Int)),([]:List (Int×Bool×Int)))=(gL x.1 x.2).1∧0=(gL x.1 x.2).2.1∧(bg x.1 x.2).2.2=(gL x.1 x.2).2.2∧True)∧(decide ((bg x.1 x.2).2.2≠0)=false→True∧(decide ((ie x.1.2.2.1 (bg x.1 x.2).1).2.2≠0)=true→(([]:List Int),([]:List Int),([]:List (Int×Int)),([]:List (Int×Bool×Int)))=(gL x.1 x.2).1∧0=(gL x.1 x.2).2.1∧(ie x.1.2.2.1 (bg x.1 x.2).1).2.2=(gL x.1 x.2).2.2∧True)∧(decide ((ie x.1.2.2.1 (bg x.1 x.2).1).2.2≠0)=false→∀ (_:Array Value),True∧True∧True∧x.1.2.1=x.1.2.1∧x.1.2.2.1=x.1.2.2.1∧x.1.2.2.1=x.1.2.2.1∧x.1.2.2.2=x.1.2.2.2∧x.1.2.2.2=x.1.2.2.2∧x.1.2.2.2=x.1.2.2.2∧True∧(x.1.1,x.1.2.1,(ie x.1.2.2.1 (bg x.1 x.2).1).1,x.1.2.2.2)=(gL x.1 x.2).1∧(bg x.1 x.2).1=(gL x.1 x.2).2.1∧0=(gL x.1 x.2).2.2∧True))
theorem De:wU:=by
 unfold wU;intro ⟨s,slot⟩ hx _;simp only at hx ⊢;have hF:gL s slot=if bM s slot≠0 then (aK,0,bM s slot) else if (ie s.2.2.1 (aB s slot)).2.2≠0 then (aK,0,(ie s.2.2.1 (aB s slot)).2.2) else ((s.1,s.2.1,(ie s.2.2.1 (aB s slot)).1,s.2.2.2),aB s slot,0):=rfl
 have hO:bg s slot=if bM s slot≠0 then (0,ik,bM s slot) else (aB s slot,(db s.1 (aB s slot)).1,0):=rfl
 by_cases h0:bM s slot≠0
 ·rw [if_pos h0] at hF hO;rw [hO,hF];exact ⟨trivial,fun _=>⟨by trivial,by trivial,by trivial,trivial⟩,fun h=>absurd h0 (of_decide_eq_false h)⟩
 ·rw [if_neg h0] at hF hO;rw [hO,hF];simp only;refine ⟨trivial,fun h=>absurd rfl (of_decide_eq_true h),fun _=>⟨trivial,fun h=>?_,fun h tm=>⟨trivial,trivial,trivial,by trivial,by trivial,by trivial,by trivial,by trivial,by trivial,trivial,?_⟩⟩⟩
  ·rw [if_pos (of_decide_eq_true h)];exact ⟨by trivial,by trivial,by trivial,trivial⟩
  ·rw [if_neg (of_decide_eq_false h)];exact ⟨by trivial,by trivial,by trivial,trivial⟩
theorem G9:Gw.ok Tryz.prog 22:=aF (ann:=fR) (ae jM (ae LL (ae bT (ae ci (ae b8 (ae bU aq)))))) Tryz.func22 (by kernel_rfl) De
def dJ (s:an) (at_:Int):an×Int:=if aC s≠0 then (aK,aC s) else if (dZ s.2.2.1 at_).2.2≠0 then (aK,(dZ s.2.2.1 at_).2.2) else ((s.1,s.2.1,(dZ s.2.2.1 at_).1,s.2.2.2),0)
def AQ:Spec:={ Ts:=[aE,ty_I],Rs:=[.dat aE,.dat ty_I],al:=true,pre:=fun _=>True,F:=fun ((s,at_):an×Int)=>dJ s at_ }
def qO:Prop :=
  ∀ (x:(List Int×List Int×List (Int×Int)×List (Int×Bool×Int))×Int),((x.1.1.length * 8≤aA∧∀ (x_1:Int),x_1∈x.1.1→ak .u64 x_1)∧(x.1.2.1.length * 8≤aA∧∀ (x_1:Int),x_1∈x.1.2.1→ak .i64 x_1)∧(x.1.2.2.1.length * (8+8)≤aA∧∀ (x_1:Int×Int),x_1∈x.1.2.2.1→ak .i64 x_1.1∧ak .i64 x_1.2)∧x.1.2.2.2.length * (8+(8+8))≤aA∧∀ (x_1:Int×Bool×Int),x_1∈x.1.2.2.2→ak .i64 x_1.1∧True∧ak .i64 x_1.2.2)∧ak .i64 x.2→True→True∧(decide (aC x.1≠0)=true→(([]:List Int),([]:List Int),([]:List (Int×Int)),([]:List (Int×Bool×Int)))=(dJ x.1 x.2).1∧aC x.1=(dJ x.1 x.2).2∧True)∧(decide (aC x.1≠0)=false→True∧(decide ((dZ x.1.2.2.1 x.2).2.2≠0)=true→(([]:List Int),([]:List Int),([]:List (Int×Int)),([]:List (Int×Bool×Int)))=(dJ x.1 x.2).1∧(dZ x.1.2.2.1 x.2).2.2=(dJ x.1 x.2).2∧True)∧(decide ((dZ x.1.2.2.1 x.2).2.2≠0)=false→∀ (_:Array Value),True∧True∧True∧x.1.2.1=x.1.2.1∧x.1.2.2.1=x.1.2.2.1∧x.1.2.2.1=x.1.2.2.1∧x.1.2.2.2=x.1.2.2.2∧x.1.2.2.2=x.1.2.2.2∧x.1.2.2.2=x.1.2.2.2∧True∧(x.1.1,x.1.2.1,(dZ x.1.2.2.1 x.2).1,x.1.2.2.2)=(dJ x.1 x.2).1∧0=(dJ x.1 x.2).2∧True))
theorem xX:qO:=by
 unfold qO;intro ⟨s,at_⟩ hx _;simp only at hx ⊢;have hF:dJ s at_=if aC s≠0 then (aK,aC s) else if (dZ s.2.2.1 at_).2.2≠0 then (aK,(dZ s.2.2.1 at_).2.2) else ((s.1,s.2.1,(dZ s.2.2.1 at_).1,s.2.2.2),0):=rfl
 rw [hF];refine ⟨trivial,fun h=>?_,fun h=>⟨trivial,fun h1=>?_,fun h1 tm=>⟨trivial,trivial,trivial,by trivial,by trivial,by trivial,by trivial,by trivial,by trivial,trivial,?_⟩⟩⟩
 ·rw [if_pos (of_decide_eq_true h)];exact ⟨by trivial,by trivial,trivial⟩
 ·rw [if_neg (of_decide_eq_false h),if_pos (of_decide_eq_true h1)];exact ⟨by trivial,by trivial,trivial⟩
 ·rw [if_neg (of_decide_eq_false h),if_neg (of_decide_eq_false h1)];exact ⟨by trivial,by trivial,trivial⟩
theorem BT:AQ.ok Tryz.prog 23:=aF (ann:=fR) (ae fD (ae KO (ae bT (ae ci (ae b8 (ae bU aq)))))) Tryz.func23 (by kernel_rfl) xX
def cB (s:an) (at_ k:Int):Int:=if aC s≠0 then aC s else if cP (cH s) at_=false then 8 else if k<0∨(dp s.1 at_).2.1≤k then 4 else 0
def Gx:Spec:={ Ts:=[aE,ty_I,ty_I],Rs:=[.dat bb,.dat ty_I],pre:=fun _=>True,F:=fun ((s,at_,k):an×Int×Int)=>((if cB s at_ k≠0 then 0 else s.1.getD (ca s at_ k).toNat 0,cB s at_ k):Int×Int) }
def wV:Prop :=
  ∀ (x:(List Int×List Int×List (Int×Int)×List (Int×Bool×Int))×Int×Int),((x.1.1.length * 8≤aA∧∀ (x_1:Int),x_1∈x.1.1→ak .u64 x_1)∧(x.1.2.1.length * 8≤aA∧∀ (x_1:Int),x_1∈x.1.2.1→ak .i64 x_1)∧(x.1.2.2.1.length * (8+8)≤aA∧∀ (x_1:Int×Int),x_1∈x.1.2.2.1→ak .i64 x_1.1∧ak .i64 x_1.2)∧x.1.2.2.2.length * (8+(8+8))≤aA∧∀ (x_1:Int×Bool×Int),x_1∈x.1.2.2.2→ak .i64 x_1.1∧True∧ak .i64 x_1.2.2)∧ak .i64 x.2.1∧ak .i64 x.2.2→True→True∧(decide (aC x.1≠0)=true→((0:Int)=if cB x.1 x.2.1 x.2.2≠0 then (0:Int) else x.1.1.getD (ca x.1 x.2.1 x.2.2).toNat 0)∧aC x.1=cB x.1 x.2.1 x.2.2∧True)∧(decide (aC x.1≠0)=false→True∧True∧((!cP (List.map (fun (x:bk)=>x.1) x.1.2.2.1) x.2.1)=true→((0:Int)=if cB x.1 x.2.1 x.2.2≠0 then (0:Int) else x.1.1.getD (ca x.1 x.2.1 x.2.2).toNat 0)∧8=cB x.1 x.2.1 x.2.2∧True)∧((!cP (List.map (fun (x:bk)=>x.1) x.1.2.2.1) x.2.1)=false→True∧((decide (x.2.2<0)||decide ((↑(db x.1.1 x.2.1).1.2.2.1.length:Int)≤x.2.2))=true→((0:Int)=if cB x.1 x.2.1 x.2.2≠0 then (0:Int) else x.1.1.getD (ca x.1 x.2.1 x.2.2).toNat 0)∧4=cB x.1 x.2.1 x.2.2∧True)∧((decide (x.2.2<0)||decide ((↑(db x.1.1 x.2.1).1.2.2.1.length:Int)≤x.2.2))=false→0≤x.2.2∧x.2.2<(↑(db x.1.1 x.2.1).1.2.2.1.length:Int)∧((db x.1.1 x.2.1).1.2.2.1.getD x.2.2.toNat (0:Int)=if cB x.1 x.2.1 x.2.2≠0 then (0:Int) else x.1.1.getD (ca x.1 x.2.1 x.2.2).toNat 0)∧0=cB x.1 x.2.1 x.2.2∧True)))
theorem Df:wV:=by
 unfold wV;intro ⟨s,at_,k⟩ ⟨⟨⟨hb,hw⟩,_⟩,_⟩ _;simp only at hb hw ⊢;have hP:cB s at_ k=if aC s≠0 then aC s else if cP (cH s) at_=false then 8 else if k<0∨(dp s.1 at_).2.1≤k then 4 else 0:=rfl
 have hpo:List.map (fun (x:bk)=>x.1) s.2.2.1=cH s:=rfl;rw [hpo];refine ⟨trivial,fun h=>?_,fun h=>⟨trivial,trivial,fun h1=>?_,fun h1=>⟨trivial,fun h2=>?_,fun h2=>?_⟩⟩⟩
 ·have h:=of_decide_eq_true h;rw [if_pos h] at hP;rw [hP,if_pos h];exact ⟨by trivial,by trivial,trivial⟩
 all_goals have h:=of_decide_eq_false h
 ·rw [if_neg h,if_pos (by simpa using h1)] at hP;rw [hP];exact ⟨by trivial,by trivial,trivial⟩
 all_goals
  have h1:cP (cH s) at_=true:=by simpa using h1
  have R:=iv hw (by omega:aC s=0);have O:=R.obj (R.pinsIn at_ (cG.1 h1));rw [if_neg h,if_neg (by rw [h1]; simp)] at hP;rw [O.body] at h2
 ·rw [if_pos (by simpa using h2)] at hP;rw [hP];exact ⟨by trivial,by trivial,trivial⟩
 ·have h2:¬ (k<0∨(dp s.1 at_).2.1≤k):=by simpa using h2
  have l:=cI O.isb;rw [if_neg h2] at hP;rw [hP,O.body];have hg:=xQ (a:=s.1) (at_:=at_) (k:=k) (by omega) (by omega) l.2.1 O.x0 O.r0;have e:(db s.1 at_).1.2.2.1=ef s.1 at_:=by rw [O.at_]; rfl
  rw [e,← hg];exact ⟨by omega,by omega,by simp [ca],by trivial,trivial⟩
theorem Ha:Gx.ok Tryz.prog 24:=aF (ann:=cw) (ae fD (ae jL (ae zr (ae mv aq)))) Tryz.func24 (by kernel_rfl) Df
def gy (s:an) (slot:Int):an×Int×Int:=if bM s slot≠0 then (aK,0,bM s slot) else if (ed s.2.2.2 (aB s slot)).2.2≠0 then (aK,0,(ed s.2.2.2 (aB s slot)).2.2) else ((s.1,s.2.1,s.2.2.1,(ed s.2.2.2 (aB s slot)).1),(ed s.2.2.2 (aB s slot)).2.1,0)
def DL:Spec:={ Ts:=[aE,ty_I],Rs:=[.dat aE,.dat bb,.dat ty_I],al:=true,pre:=fun _=>True,F:=fun ((s,slot):an×Int)=>gy s slot }
def tq:Prop :=
  ∀ (x:(List Int×List Int×List (Int×Int)×List (Int×Bool×Int))×Int),((x.1.1.length * 8≤aA∧∀ (x_1:Int),x_1∈x.1.1→ak .u64 x_1)∧(x.1.2.1.length * 8≤aA∧∀ (x_1:Int),x_1∈x.1.2.1→ak .i64 x_1)∧(x.1.2.2.1.length * (8+8)≤aA∧∀ (x_1:Int×Int),x_1∈x.1.2.2.1→ak .i64 x_1.1∧ak .i64 x_1.2)∧x.1.2.2.2.length * (8+(8+8))≤aA∧∀ (x_1:Int×Bool×Int),x_1∈x.1.2.2.2→ak .i64 x_1.1∧True∧ak .i64 x_1.2.2)∧ak .i64 x.2→True→True∧(decide ((bg x.1 x.2).2.2≠0)=true→(([]:List Int),([]:List Int),([]:List (Int×Int)),([]:List (Int×Bool×Int)))=(gy x.1 x.2).1∧0=(gy x.1 x.2).2.1∧(bg x.1 x.2).2.2=(gy x.1 x.2).2.2∧True)∧(decide ((bg x.1 x.2).2.2≠0)=false→True∧(decide ((ed x.1.2.2.2 (bg x.1 x.2).1).2.2≠0)=true→(([]:List Int),([]:List Int),([]:List (Int×Int)),([]:List (Int×Bool×Int)))=(gy x.1 x.2).1∧0=(gy x.1 x.2).2.1∧(ed x.1.2.2.2 (bg x.1 x.2).1).2.2=(gy x.1 x.2).2.2∧True)∧(decide ((ed x.1.2.2.2 (bg x.1 x.2).1).2.2≠0)=false→∀ (_:Array Value),True∧True∧True∧x.1.2.1=x.1.2.1∧x.1.2.2.1=x.1.2.2.1∧x.1.2.2.1=x.1.2.2.1∧x.1.2.2.2=x.1.2.2.2∧x.1.2.2.2=x.1.2.2.2∧x.1.2.2.2=x.1.2.2.2∧True∧(x.1.1,x.1.2.1,x.1.2.2.1,(ed x.1.2.2.2 (bg x.1 x.2).1).1)=(gy x.1 x.2).1∧(ed x.1.2.2.2 (bg x.1 x.2).1).2.1=(gy x.1 x.2).2.1∧0=(gy x.1 x.2).2.2∧True))
theorem Ao:tq:=by
 unfold tq;intro ⟨s,slot⟩ hx _;simp only at hx ⊢;have hF:gy s slot=if bM s slot≠0 then (aK,0,bM s slot) else if (ed s.2.2.2 (aB s slot)).2.2≠0 then (aK,0,(ed s.2.2.2 (aB s slot)).2.2) else ((s.1,s.2.1,s.2.2.1,(ed s.2.2.2 (aB s slot)).1),(ed s.2.2.2 (aB s slot)).2.1,0):=rfl
 have hO:bg s slot=if bM s slot≠0 then (0,ik,bM s slot) else (aB s slot,(db s.1 (aB s slot)).1,0):=rfl
 by_cases h0:bM s slot≠0
 ·rw [if_pos h0] at hF hO;rw [hO,hF];exact ⟨trivial,fun _=>⟨by trivial,by trivial,by trivial,trivial⟩,fun h=>absurd h0 (of_decide_eq_false h)⟩
 ·rw [if_neg h0] at hF hO;rw [hO,hF];simp only;refine ⟨trivial,fun h=>absurd rfl (of_decide_eq_true h),fun _=>⟨trivial,fun h=>?_,fun h tm=>⟨trivial,trivial,trivial,by trivial,by trivial,by trivial,by trivial,by trivial,by trivial,trivial,?_⟩⟩⟩
  ·rw [if_pos (of_decide_eq_true h)];exact ⟨by trivial,by trivial,by trivial,trivial⟩
  ·rw [if_neg (of_decide_eq_false h)];exact ⟨by trivial,by trivial,by trivial,trivial⟩
theorem Ef:DL.ok Tryz.prog 25:=aF (ann:=fR) (ae jM (ae B6 (ae bT (ae ci (ae b8 (ae bU aq)))))) Tryz.func25 (by kernel_rfl) Ao
def bO (s:an) (k:Int):Int:=if aC s≠0 then aC s else if k<0∨(s.2.1.length:Int)≤k then 5 else 0
def yE:Spec:={ Ts:=[aE,ty_I],Rs:=[.dat ty_I],pre:=fun _=>True,F:=fun ((s,k):an×Int)=>bO s k }
def ou:Prop :=
  ∀ (x:(List Int×List Int×List (Int×Int)×List (Int×Bool×Int))×Int),((x.1.1.length * 8≤aA∧∀ (x_1:Int),x_1∈x.1.1→ak .u64 x_1)∧(x.1.2.1.length * 8≤aA∧∀ (x_1:Int),x_1∈x.1.2.1→ak .i64 x_1)∧(x.1.2.2.1.length * (8+8)≤aA∧∀ (x_1:Int×Int),x_1∈x.1.2.2.1→ak .i64 x_1.1∧ak .i64 x_1.2)∧x.1.2.2.2.length * (8+(8+8))≤aA∧∀ (x_1:Int×Bool×Int),x_1∈x.1.2.2.2→ak .i64 x_1.1∧True∧ak .i64 x_1.2.2)∧ak .i64 x.2→True→True∧((decide (aC x.1=0)&&(decide (x.2<0)||decide ((↑x.1.2.1.length:Int)≤x.2)))=true→5=bO x.1 x.2∧True)∧((decide (aC x.1=0)&&(decide (x.2<0)||decide ((↑x.1.2.1.length:Int)≤x.2)))=false→aC x.1=bO x.1 x.2∧True)
theorem u7:ou:=by
 unfold ou;intro ⟨s,k⟩ hx _;simp only at hx ⊢;have hE:bO s k=if aC s≠0 then aC s else if k<0∨(s.2.1.length:Int)≤k then 5 else 0:=rfl
 rw [hE];refine ⟨trivial,fun h=>?_,fun h=>?_⟩
 ·simp only [Bool.and_eq_true,decide_eq_true_eq,Bool.or_eq_true] at h;rw [if_neg (by omega),if_pos h.2];exact ⟨rfl,trivial⟩
 ·simp only [Bool.and_eq_false_iff,decide_eq_false_iff_not,Bool.or_eq_false_iff] at h;by_cases h0:aC s≠0
  ·rw [if_pos h0];exact ⟨rfl,trivial⟩
  ·rw [if_neg h0,if_neg (by omega)];exact ⟨by omega,trivial⟩
theorem oS:yE.ok Tryz.prog 68:=aF (ann:=cw) (ae fD aq) Tryz.func68 (by kernel_rfl) u7
theorem Fb {s:an} {k:Int} (h:bO s k=0):0≤k∧k<s.2.1.length:=by
 unfold bO at h;split at h
 ·omega
 split at h
 ·omega
 omega
def iJ (s:an) (name slot:Int):an×Int:=if bO s slot≠0 then (aK,bO s slot) else if (gC s.2.2.2 name).2≠0 then (aK,(gC s.2.2.2 name).2) else ((s.1,s.2.1.set slot.toNat (gC s.2.2.2 name).1,s.2.2),0)
def Gs:Spec:={ Ts:=[aE,bb,ty_I],Rs:=[.dat aE,.dat ty_I],al:=true,pre:=fun _=>True,F:=fun ((s,name,slot):an×Int×Int)=>iJ s name slot }
def wQ:Prop :=
  ∀ (x:(List Int×List Int×List (Int×Int)×List (Int×Bool×Int))×Int×Int),((x.1.1.length * 8≤aA∧∀ (x_1:Int),x_1∈x.1.1→ak .u64 x_1)∧(x.1.2.1.length * 8≤aA∧∀ (x_1:Int),x_1∈x.1.2.1→ak .i64 x_1)∧(x.1.2.2.1.length * (8+8)≤aA∧∀ (x_1:Int×Int),x_1∈x.1.2.2.1→ak .i64 x_1.1∧ak .i64 x_1.2)∧x.1.2.2.2.length * (8+(8+8))≤aA∧∀ (x_1:Int×Bool×Int),x_1∈x.1.2.2.2→ak .i64 x_1.1∧True∧ak .i64 x_1.2.2)∧ak .u64 x.2.1∧ak .i64 x.2.2→True→True∧(decide (bO x.1 x.2.2≠0)=true→(([]:List Int),([]:List Int),([]:List (Int×Int)),([]:List (Int×Bool×Int)))=(iJ x.1 x.2.1 x.2.2).1∧bO x.1 x.2.2=(iJ x.1 x.2.1 x.2.2).2∧True)∧(decide (bO x.1 x.2.2≠0)=false→True∧(decide ((gC x.1.2.2.2 x.2.1).2≠0)=true→(([]:List Int),([]:List Int),([]:List (Int×Int)),([]:List (Int×Bool×Int)))=(iJ x.1 x.2.1 x.2.2).1∧(gC x.1.2.2.2 x.2.1).2=(iJ x.1 x.2.1 x.2.2).2∧True)∧(decide ((gC x.1.2.2.2 x.2.1).2≠0)=false→∀ (_:Array Value),True∧True∧True∧x.1.2.1=x.1.2.1∧x.1.2.2.1=x.1.2.2.1∧x.1.2.2.1=x.1.2.2.1∧x.1.2.2.2=x.1.2.2.2∧x.1.2.2.2=x.1.2.2.2∧x.1.2.2.2=x.1.2.2.2∧True∧0≤x.2.2∧x.2.2<(↑x.1.2.1.length:Int)∧x.2.2.toNat<x.1.2.1.length∧(x.1.1,x.1.2.1.set x.2.2.toNat (gC x.1.2.2.2 x.2.1).1,x.1.2.2)=(iJ x.1 x.2.1 x.2.2).1∧0=(iJ x.1 x.2.1 x.2.2).2∧True))
theorem Da:wQ:=by
 unfold wQ;intro ⟨s,name,slot⟩ hx _;simp only at hx ⊢;have hF:iJ s name slot=if bO s slot≠0 then (aK,bO s slot) else if (gC s.2.2.2 name).2≠0 then (aK,(gC s.2.2.2 name).2) else ((s.1,s.2.1.set slot.toNat (gC s.2.2.2 name).1,s.2.2),0):=rfl
 rw [hF];refine ⟨trivial,fun h=>?_,fun h=>⟨trivial,fun h1=>?_,fun h1 tm=>⟨trivial,trivial,trivial,by trivial,by trivial,by trivial,by trivial,by trivial,by trivial,trivial,?_⟩⟩⟩
 ·rw [if_pos (of_decide_eq_true h)];exact ⟨by trivial,by trivial,trivial⟩
 ·rw [if_neg (of_decide_eq_false h),if_pos (of_decide_eq_true h1)];exact ⟨by trivial,by trivial,trivial⟩
 ·rw [if_neg (of_decide_eq_false h),if_neg (of_decide_eq_false h1)];have hs:=Fb (by simpa using of_decide_eq_false h:bO s slot=0);exact ⟨hs.1,hs.2,by omega,by trivial,by trivial,trivial⟩
theorem G5:Gs.ok Tryz.prog 26:=aF (ann:=fR) (ae oS (ae B7 (ae bT (ae ci (ae b8 (ae bU aq)))))) Tryz.func26 (by kernel_rfl) Da
def fy (s:an) (name:Int):an×Int:=if aC s≠0 then (aK,aC s) else if (eD s.2.2.2 name).2≠0 then (aK,(eD s.2.2.2 name).2) else ((s.1,s.2.1,s.2.2.1,(eD s.2.2.2 name).1),0)
def DK:Spec:={ Ts:=[aE,bb],Rs:=[.dat aE,.dat ty_I],al:=true,pre:=fun _=>True,F:=fun ((s,name):an×Int)=>fy s name }
def tp:Prop :=
  ∀ (x:(List Int×List Int×List (Int×Int)×List (Int×Bool×Int))×Int),((x.1.1.length * 8≤aA∧∀ (x_1:Int),x_1∈x.1.1→ak .u64 x_1)∧(x.1.2.1.length * 8≤aA∧∀ (x_1:Int),x_1∈x.1.2.1→ak .i64 x_1)∧(x.1.2.2.1.length * (8+8)≤aA∧∀ (x_1:Int×Int),x_1∈x.1.2.2.1→ak .i64 x_1.1∧ak .i64 x_1.2)∧x.1.2.2.2.length * (8+(8+8))≤aA∧∀ (x_1:Int×Bool×Int),x_1∈x.1.2.2.2→ak .i64 x_1.1∧True∧ak .i64 x_1.2.2)∧ak .u64 x.2→True→True∧(decide (aC x.1≠0)=true→(([]:List Int),([]:List Int),([]:List (Int×Int)),([]:List (Int×Bool×Int)))=(fy x.1 x.2).1∧aC x.1=(fy x.1 x.2).2∧True)∧(decide (aC x.1≠0)=false→True∧(decide ((eD x.1.2.2.2 x.2).2≠0)=true→(([]:List Int),([]:List Int),([]:List (Int×Int)),([]:List (Int×Bool×Int)))=(fy x.1 x.2).1∧(eD x.1.2.2.2 x.2).2=(fy x.1 x.2).2∧True)∧(decide ((eD x.1.2.2.2 x.2).2≠0)=false→∀ (_:Array Value),True∧True∧True∧x.1.2.1=x.1.2.1∧x.1.2.2.1=x.1.2.2.1∧x.1.2.2.1=x.1.2.2.1∧x.1.2.2.2=x.1.2.2.2∧x.1.2.2.2=x.1.2.2.2∧x.1.2.2.2=x.1.2.2.2∧True∧(x.1.1,x.1.2.1,x.1.2.2.1,(eD x.1.2.2.2 x.2).1)=(fy x.1 x.2).1∧0=(fy x.1 x.2).2∧True))
theorem An:tp:=by
 unfold tp;intro ⟨s,name⟩ hx _;simp only at hx ⊢;have hF:fy s name=if aC s≠0 then (aK,aC s) else if (eD s.2.2.2 name).2≠0 then (aK,(eD s.2.2.2 name).2) else ((s.1,s.2.1,s.2.2.1,(eD s.2.2.2 name).1),0):=rfl
 rw [hF];refine ⟨trivial,fun h=>?_,fun h=>⟨trivial,fun h1=>?_,fun h1 tm=>⟨trivial,trivial,trivial,by trivial,by trivial,by trivial,by trivial,by trivial,by trivial,trivial,?_⟩⟩⟩
 ·rw [if_pos (of_decide_eq_true h)];exact ⟨by trivial,by trivial,trivial⟩
 ·rw [if_neg (of_decide_eq_false h),if_pos (of_decide_eq_true h1)];exact ⟨by trivial,by trivial,trivial⟩
 ·rw [if_neg (of_decide_eq_false h),if_neg (of_decide_eq_false h1)];exact ⟨by trivial,by trivial,trivial⟩
theorem Ee:DK.ok Tryz.prog 27:=aF (ann:=fR) (ae fD (ae zt (ae bT (ae ci (ae b8 (ae bU aq)))))) Tryz.func27 (by kernel_rfl) An
def ge (s:an) (slot:Int):an×Int:=if bO s slot≠0 then (aK,bO s slot) else ((s.1,s.2.1.set slot.toNat (-1),s.2.2),0)
def DM:Spec:={ Ts:=[aE,ty_I],Rs:=[.dat aE,.dat ty_I],al:=true,pre:=fun _=>True,F:=fun ((s,slot):an×Int)=>ge s slot }
def tr:Prop :=
  ∀ (x:(List Int×List Int×List (Int×Int)×List (Int×Bool×Int))×Int),((x.1.1.length * 8≤aA∧∀ (x_1:Int),x_1∈x.1.1→ak .u64 x_1)∧(x.1.2.1.length * 8≤aA∧∀ (x_1:Int),x_1∈x.1.2.1→ak .i64 x_1)∧(x.1.2.2.1.length * (8+8)≤aA∧∀ (x_1:Int×Int),x_1∈x.1.2.2.1→ak .i64 x_1.1∧ak .i64 x_1.2)∧x.1.2.2.2.length * (8+(8+8))≤aA∧∀ (x_1:Int×Bool×Int),x_1∈x.1.2.2.2→ak .i64 x_1.1∧True∧ak .i64 x_1.2.2)∧ak .i64 x.2→True→True∧(decide (bO x.1 x.2≠0)=true→(([]:List Int),([]:List Int),([]:List (Int×Int)),([]:List (Int×Bool×Int)))=(ge x.1 x.2).1∧bO x.1 x.2=(ge x.1 x.2).2∧True)∧(decide (bO x.1 x.2≠0)=false→∀ (_:Array Value),True∧True∧True∧x.1.2.1=x.1.2.1∧x.1.2.2.1=x.1.2.2.1∧x.1.2.2.1=x.1.2.2.1∧x.1.2.2.2=x.1.2.2.2∧x.1.2.2.2=x.1.2.2.2∧x.1.2.2.2=x.1.2.2.2∧True∧0≤x.2∧x.2<(↑x.1.2.1.length:Int)∧x.2.toNat<x.1.2.1.length∧(x.1.1,x.1.2.1.set x.2.toNat (-1),x.1.2.2)=(ge x.1 x.2).1∧0=(ge x.1 x.2).2∧True)
theorem Ap:tr:=by
 unfold tr;intro ⟨s,slot⟩ hx _;simp only at hx ⊢;have hF:ge s slot=if bO s slot≠0 then (aK,bO s slot) else ((s.1,s.2.1.set slot.toNat (-1),s.2.2),0):=rfl
 rw [hF];refine ⟨trivial,fun h=>?_,fun h tm=>⟨trivial,trivial,trivial,by trivial,by trivial,by trivial,by trivial,by trivial,by trivial,trivial,?_⟩⟩
 ·rw [if_pos (of_decide_eq_true h)];exact ⟨by trivial,by trivial,trivial⟩
 ·have hs:=Fb (by simpa using of_decide_eq_false h:bO s slot=0);rw [if_neg (of_decide_eq_false h)];exact ⟨hs.1,hs.2,by omega,by trivial,by trivial,trivial⟩
theorem Eg:DM.ok Tryz.prog 28:=aF (ann:=fR) (ae oS (ae bT (ae ci (ae b8 (ae bU aq))))) Tryz.func28 (by kernel_rfl) Ap
def gS (h:du):Int:=if af h≠0 then af h else if h.2.2.2=true then 3 else 0
theorem KX {h:du} (hh:gS h=0):af h=0∧h.2.2.2=false:=by
 unfold gS at hh;split at hh
 ·omega
 split at hh
 ·omega
 rename_i h1 h2;exact ⟨by omega,by simpa using h2⟩
theorem nk {a:List Int} (hc:(au a).2.2=0) {h:du} (h0:af h=0) (hf:h.2.2.2=false):match (aU false [] (aa a).1).find? (fun r=>decide (ac h≤r.2)) with
  | none=>bN (aU false [] (aa a).1) (ac h)=(0,7)∧ir a h=([],0,false)
  | some r=>∃ i,0≤i∧i<((aU false [] (aa a).1).length:Int)∧bN (aU false [] (aa a).1) (ac h)=(i,0)∧(aU false [] (aa a).1).getD i.toNat (0,0)=r∧eo (dm a).1 r.1 h=(zf a r h,0)∧ir a h=(zf a r h,r.1,true):=by
 have hgi:=(pf (b7 hc).2.2.2.1).1;have hz:=bj h0;have hL:ac h=1+h.1+h.2.1:=rfl;have hff:=HD (n:=ac h) (l:=aU false [] (aa a).1) (by omega) (fun r hr=>by have:=hgi r hr; omega);have hfi:=xJ (ac h) (aU false [] (aa a).1) 0;cases hfd:(aU false [] (aa a).1).find? (fun r=>decide (ac h≤r.2)) with
 | none =>
  rw [hfd] at hfi;simp only at hfi ⊢;rw [if_pos hfi] at hff;refine ⟨hff,?_⟩;unfold ir;rw [hfd]
 | some r =>
  rw [hfd] at hfi;obtain ⟨i,i0,i1,i2,i3,i4⟩:=hfi;rw [if_neg i3,i4,Int.zero_add] at hff;have hr:=List.mem_of_find?_eq_some hfd;have hle:ac h≤r.2:=by simpa using List.find?_some hfd
  refine ⟨i,i0,i1,hff,i2,Ed hc hr h0 hf hle,?_⟩;unfold ir;rw [hfd]
def mg (s:an) (h:du):Prop:=(au s.1).2.2=0∧gS h=0
def HS:Nat→Option LoopGen
 | 3000056=>some eM
 | 5704000001=>some eM
 | 3000057=>some eM
 | 5804000007=>some eM
 | 3000058=>some eM
 | 5905000004=>some { rd:=[.boxS 1 [.own 29 bb,.own 3 ty_I,.own 133 cz,.own 82 bC]],A:=fun (s:an)=>{ cs:=[.own 9 3 ty_I,.own 10 3 ty_I],inv:=fun ((ra,ha):List Int×List Int)=>ra=List.replicate s.1.length 0∧ha=List.replicate 256 0,mu:=fun _=>0 } }
 | 5900000006=>some { wr:=[9,10],rd:=[.boxS 1 [.own 29 bb,.own 3 ty_I,.own 133 cz,.own 82 bC]],A:=fun (s:an)=>{ cs:=[.own 9 3 ty_I,.own 10 3 ty_I,.dat 42 ty_I],inv:=fun ((ra,ha,i):List Int×List Int×Int)=>0≤i∧i≤(ap s).length∧ra=b9 (List.replicate s.1.length 0) ((ap s).take i.toNat) (kC s)∧ha=b9 (List.replicate 256 0) ((ap s).take i.toNat) (kC s),mu:=fun ((_,_,i):List Int×List Int×Int)=>((ap s).length - i).toNat } }
 | 5900000015=>some { rd:=[.own 86 129 fw],A:=fun (g:List bY)=>{ cs:=[.dat 13 ty_I,.dat 88 ty_I],inv:=fun ((n,i):Int×Int)=>0≤i∧i≤g.length∧g.length≤256∧(∀ r∈g,0≤r.2∧r.2≤256)∧n=ep (g.take i.toNat)∧0≤n∧n≤256 * i,mu:=fun ((_,i):Int×Int)=>(g.length - i).toNat } }
 | _=>none
def jp (s:an) (slot:Int) (h:du):an×Bool:=((((ir s.1 h).1,s.2.1.set slot.toNat (ir s.1 h).2.1,s.2.2):an),(ir s.1 h).2.2)
def bL (s:an) (slot:Int) (h:du):an×Bool×Int :=
 if bO s slot≠0 then (aK,false,bO s slot) else if gS h≠0 then (aK,false,gS h) else
 if (jp s slot h).2=true then ((jp s slot h).1,false,0) else if (jp (bc s) slot h).2=true then ((jp (bc s) slot h).1,true,0) else (aK,false,7)
def Gy:Spec:={ Ts:=[aE,ty_I,de],Rs:=[.dat aE,.dat .bool,.dat ty_I],al:=true,pre:=fun _=>True,F:=fun ((s,slot,h):an×Int×du)=>bL s slot h }
def wW:Prop :=
  ∀ (x:(List Int×List Int×List (Int×Int)×List (Int×Bool×Int))×Int×Int×Int×Int×Bool),((x.1.1.length * 8≤aA∧∀ (x_1:Int),x_1∈x.1.1→ak .u64 x_1)∧(x.1.2.1.length * 8≤aA∧∀ (x_1:Int),x_1∈x.1.2.1→ak .i64 x_1)∧(x.1.2.2.1.length * (8+8)≤aA∧∀ (x_1:Int×Int),x_1∈x.1.2.2.1→ak .i64 x_1.1∧ak .i64 x_1.2)∧x.1.2.2.2.length * (8+(8+8))≤aA∧∀ (x_1:Int×Bool×Int),x_1∈x.1.2.2.2→ak .i64 x_1.1∧True∧ak .i64 x_1.2.2)∧ak .i64 x.2.1∧ak .i64 x.2.2.1∧ak .i64 x.2.2.2.1∧ak .i64 x.2.2.2.2.1∧True→True→True∧(decide (aC x.1≠0)=true→(([]:List Int),([]:List Int),([]:List (Int×Int)),([]:List (Int×Bool×Int)))=(bL x.1 x.2.1 x.2.2).1∧false=(bL x.1 x.2.1 x.2.2).2.1∧aC x.1=(bL x.1 x.2.1 x.2.2).2.2∧True)∧(decide (aC x.1≠0)=false→((decide (x.2.1<0)||decide ((↑x.1.2.1.length:Int)≤x.2.1))=true→(([]:List Int),([]:List Int),([]:List (Int×Int)),([]:List (Int×Bool×Int)))=(bL x.1 x.2.1 x.2.2).1∧false=(bL x.1 x.2.1 x.2.2).2.1∧5=(bL x.1 x.2.1 x.2.2).2.2∧True)∧((decide (x.2.1<0)||decide ((↑x.1.2.1.length:Int)≤x.2.1))=false→True∧(decide (af x.2.2≠0)=true→(([]:List Int),([]:List Int),([]:List (Int×Int)),([]:List (Int×Bool×Int)))=(bL x.1 x.2.1 x.2.2).1∧false=(bL x.1 x.2.1 x.2.2).2.1∧af x.2.2=(bL x.1 x.2.1 x.2.2).2.2∧True)∧(decide (af x.2.2≠0)=false→(x.2.2.2.2.2=true→(([]:List Int),([]:List Int),([]:List (Int×Int)),([]:List (Int×Bool×Int)))=(bL x.1 x.2.1 x.2.2).1∧false=(bL x.1 x.2.1 x.2.2).2.1∧3=(bL x.1 x.2.1 x.2.2).2.2∧True)∧(x.2.2.2.2.2=false→∀ (_:Array Value),True∧True∧True∧x.1.2.1=x.1.2.1∧x.1.2.2.1=x.1.2.2.1∧x.1.2.2.1=x.1.2.2.1∧x.1.2.2.2=x.1.2.2.2∧x.1.2.2.2=x.1.2.2.2∧x.1.2.2.2=x.1.2.2.2∧True∧∀ (_:Array Value),True∧True∧True∧(decide ((bN (ay x.1.1).1 (if af x.2.2=0 then ac x.2.2 else (0:Int))).2≠0)=true→((!false)=true→∀ (_:Array Value),(x.1.2.1.length≤32∧x.1.2.2.1.length≤16∧x.1.2.2.2.length≤16)∧True∧((ap x.1).length+(List.map (fun (x:bk)=>x.1) x.1.2.2.1).length) * 8≤140737488355328∧True∧((((0≤(↑x.1.1.length:Int)∧(↑x.1.1.length:Int).toNat * 8≤aA∧((0:Int)≤256∧Int.toNat 256 * 8≤aA∧((List.replicate (↑x.1.1.length:Int).toNat (0:Int)=List.replicate x.1.1.length (0:Int)∧List.replicate (Int.toNat 256) (0:Int)=List.replicate 256 (0:Int))∧True)∧True)∧(((0:Int)≤256∧Int.toNat 256 * 8≤aA∧(List.replicate (↑x.1.1.length:Int).toNat (0:Int)=List.replicate x.1.1.length (0:Int)∧List.replicate (Int.toNat 256) (0:Int)=List.replicate 256 (0:Int))∧True)∧True)∧True)∧((0:Int)≤256∧Int.toNat 256 * 8≤aA∧(0≤(↑x.1.1.length:Int)∧(↑x.1.1.length:Int).toNat * 8≤aA∧((List.replicate (↑x.1.1.length:Int).toNat (0:Int)=List.replicate x.1.1.length (0:Int)∧List.replicate (Int.toNat 256) (0:Int)=List.replicate 256 (0:Int))∧True)∧True)∧True)∧True)∧((0:Int)≤256∧Int.toNat 256 * 8≤aA∧((0≤(↑x.1.1.length:Int)∧(↑x.1.1.length:Int).toNat * 8≤aA∧((List.replicate (↑x.1.1.length:Int).toNat (0:Int)=List.replicate x.1.1.length (0:Int)∧List.replicate (Int.toNat 256) (0:Int)=List.replicate 256 (0:Int))∧True)∧True)∧True)∧True)∧True)∧((0:Int)≤256∧Int.toNat 256 * 8≤aA∧(((0≤(↑x.1.1.length:Int)∧(↑x.1.1.length:Int).toNat * 8≤aA∧((List.replicate (↑x.1.1.length:Int).toNat (0:Int)=List.replicate x.1.1.length (0:Int)∧List.replicate (Int.toNat 256) (0:Int)=List.replicate 256 (0:Int))∧True)∧True)∧True)∧True)∧True)∧True)∧∀ (x_1:List Int×List Int),x_1.1=List.replicate x.1.1.length (0:Int)∧x_1.2=List.replicate 256 (0:Int)→((0:Int)≤0∧0≤(↑(ap x.1).length:Int)∧x_1.1=b9 (List.replicate x.1.1.length (0:Int)) (List.take (Int.toNat 0) (ap x.1)) (kC x.1)∧x_1.2=b9 (List.replicate 256 (0:Int)) (List.take (Int.toNat 0) (ap x.1)) (kC x.1))∧∀ (x_2:List Int×List Int×Int),0≤x_2.2.2∧x_2.2.2≤(↑(ap x.1).length:Int)∧x_2.1=b9 (List.replicate x.1.1.length (0:Int)) (List.take x_2.2.2.toNat (ap x.1)) (kC x.1)∧x_2.2.1=b9 (List.replicate 256 (0:Int)) (List.take x_2.2.2.toNat (ap x.1)) (kC x.1)→(decide (x_2.2.2<(↑(ap x.1).length:Int))=true→0≤x_2.2.2∧x_2.2.2<(↑(ap x.1).length:Int)∧x_2.2.2.toNat<(ap x.1).length∧0≤x_2.2.2∧x_2.2.2<(↑(aw x.1.1 (ap x.1) (List.map (fun (x:bk)=>x.1) x.1.2.2.1)).2.1.length:Int)∧0≤x_2.2.2∧x_2.2.2<(↑(aw x.1.1 (ap x.1) (List.map (fun (x:bk)=>x.1) x.1.2.2.1)).2.1.length:Int)∧0≤(ap x.1).getD x_2.2.2.toNat 0∧(ap x.1).getD x_2.2.2.toNat 0<(↑x_2.1.length:Int)∧((ap x.1).getD x_2.2.2.toNat 0).toNat<x_2.1.length∧(ap x.1).getD x_2.2.2.toNat 0=(ap x.1).getD x_2.2.2.toNat 0∧0≤(ap x.1).getD x_2.2.2.toNat 0∧(ap x.1).getD x_2.2.2.toNat 0<(↑x_2.2.1.length:Int)∧((ap x.1).getD x_2.2.2.toNat 0).toNat<x_2.2.1.length∧ak .i64 (x_2.2.2+1)∧(0≤x_2.2.2+1∧x_2.2.2+1≤(↑(ap x.1).length:Int)∧x_2.1.set ((ap x.1).getD x_2.2.2.toNat 0).toNat ((aw x.1.1 (ap x.1) (List.map (fun (x:bk)=>x.1) x.1.2.2.1)).2.1.getD x_2.2.2.toNat 0)=b9 (List.replicate x.1.1.length (0:Int)) (List.take (x_2.2.2+1).toNat (ap x.1)) (kC x.1)∧x_2.2.1.set ((ap x.1).getD x_2.2.2.toNat 0).toNat ((aw x.1.1 (ap x.1) (List.map (fun (x:bk)=>x.1) x.1.2.2.1)).2.1.getD x_2.2.2.toNat 0)=b9 (List.replicate 256 (0:Int)) (List.take (x_2.2.2+1).toNat (ap x.1)) (kC x.1))∧((↑(ap x.1).length:Int) - (x_2.2.2+1)).toNat<((↑(ap x.1).length:Int) - x_2.2.2).toNat)∧(decide (x_2.2.2<(↑(ap x.1).length:Int))=false→True∧True∧True∧((0:Int)≤0∧0≤(↑(ay (aw x.1.1 (ap x.1) (List.map (fun (x:bk)=>x.1) x.1.2.2.1)).1).1.length:Int)∧(ay (aw x.1.1 (ap x.1) (List.map (fun (x:bk)=>x.1) x.1.2.2.1)).1).1.length≤256∧(∀ (r:bY),r∈(ay (aw x.1.1 (ap x.1) (List.map (fun (x:bk)=>x.1) x.1.2.2.1)).1).1→0≤r.2∧r.2≤256)∧0=ep (List.take (Int.toNat 0) (ay (aw x.1.1 (ap x.1) (List.map (fun (x:bk)=>x.1) x.1.2.2.1)).1).1)∧(0:Int)≤0∧(0:Int)≤256 * 0)∧∀ (x_3:Int×Int),0≤x_3.2∧x_3.2≤(↑(ay (aw x.1.1 (ap x.1) (List.map (fun (x:bk)=>x.1) x.1.2.2.1)).1).1.length:Int)∧(ay (aw x.1.1 (ap x.1) (List.map (fun (x:bk)=>x.1) x.1.2.2.1)).1).1.length≤256∧(∀ (r:bY),r∈(ay (aw x.1.1 (ap x.1) (List.map (fun (x:bk)=>x.1) x.1.2.2.1)).1).1→0≤r.2∧r.2≤256)∧x_3.1=ep (List.take x_3.2.toNat (ay (aw x.1.1 (ap x.1) (List.map (fun (x:bk)=>x.1) x.1.2.2.1)).1).1)∧0≤x_3.1∧x_3.1≤256 * x_3.2→(decide (x_3.2<(↑(ay (aw x.1.1 (ap x.1) (List.map (fun (x:bk)=>x.1) x.1.2.2.1)).1).1.length:Int))=true→0≤x_3.2∧x_3.2<(↑(ay (aw x.1.1 (ap x.1) (List.map (fun (x:bk)=>x.1) x.1.2.2.1)).1).1.length:Int)∧x_3.2.toNat<(ay (aw x.1.1 (ap x.1) (List.map (fun (x:bk)=>x.1) x.1.2.2.1)).1).1.length∧ak .i64 (x_3.1+((ay (aw x.1.1 (ap x.1) (List.map (fun (x:bk)=>x.1) x.1.2.2.1)).1).1.getD x_3.2.toNat (0,0)).2)∧ak .i64 (x_3.2+1)∧(0≤x_3.2+1∧x_3.2+1≤(↑(ay (aw x.1.1 (ap x.1) (List.map (fun (x:bk)=>x.1) x.1.2.2.1)).1).1.length:Int)∧(ay (aw x.1.1 (ap x.1) (List.map (fun (x:bk)=>x.1) x.1.2.2.1)).1).1.length≤256∧(∀ (r:bY),r∈(ay (aw x.1.1 (ap x.1) (List.map (fun (x:bk)=>x.1) x.1.2.2.1)).1).1→0≤r.2∧r.2≤256)∧x_3.1+((ay (aw x.1.1 (ap x.1) (List.map (fun (x:bk)=>x.1) x.1.2.2.1)).1).1.getD x_3.2.toNat (0,0)).2=ep (List.take (x_3.2+1).toNat (ay (aw x.1.1 (ap x.1) (List.map (fun (x:bk)=>x.1) x.1.2.2.1)).1).1)∧0≤x_3.1+((ay (aw x.1.1 (ap x.1) (List.map (fun (x:bk)=>x.1) x.1.2.2.1)).1).1.getD x_3.2.toNat (0,0)).2∧x_3.1+((ay (aw x.1.1 (ap x.1) (List.map (fun (x:bk)=>x.1) x.1.2.2.1)).1).1.getD x_3.2.toNat (0,0)).2≤256 * (x_3.2+1))∧((↑(ay (aw x.1.1 (ap x.1) (List.map (fun (x:bk)=>x.1) x.1.2.2.1)).1).1.length:Int) - (x_3.2+1)).toNat<((↑(ay (aw x.1.1 (ap x.1) (List.map (fun (x:bk)=>x.1) x.1.2.2.1)).1).1.length:Int) - x_3.2).toNat)∧(decide (x_3.2<(↑(ay (aw x.1.1 (ap x.1) (List.map (fun (x:bk)=>x.1) x.1.2.2.1)).1).1.length:Int))=false→∀ (_:Array Value),True∧True∧True∧(decide ((bN (ay (aw x.1.1 (ap x.1) (List.map (fun (x:bk)=>x.1) x.1.2.2.1)).1).1 (if af x.2.2=0 then ac x.2.2 else (0:Int))).2≠0)=true→((!false)=true→(([]:List Int),([]:List Int),([]:List (Int×Int)),([]:List (Int×Bool×Int)))=(bL x.1 x.2.1 x.2.2).1∧false=(bL x.1 x.2.1 x.2.2).2.1∧7=(bL x.1 x.2.1 x.2.2).2.2∧True)∧((!false)=false→0≤x.2.1∧x.2.1<(↑(bB x.1.2.1 (↑x.1.1.length:Int) x_2.1).1.length:Int)∧x.2.1.toNat<(bB x.1.2.1 (↑x.1.1.length:Int) x_2.1).1.length∧(([]:List Int),(bB x.1.2.1 (↑x.1.1.length:Int) x_2.1).1.set x.2.1.toNat 0,x.1.2.2.1,(fX x.1.2.2.2 x_2.2.1).1)=(bL x.1 x.2.1 x.2.2).1∧(!false)=(bL x.1 x.2.1 x.2.2).2.1∧0=(bL x.1 x.2.1 x.2.2).2.2∧True))∧(decide ((bN (ay (aw x.1.1 (ap x.1) (List.map (fun (x:bk)=>x.1) x.1.2.2.1)).1).1 (if af x.2.2=0 then ac x.2.2 else (0:Int))).2≠0)=false→True∧0≤(bN (ay (aw x.1.1 (ap x.1) (List.map (fun (x:bk)=>x.1) x.1.2.2.1)).1).1 (if af x.2.2=0 then ac x.2.2 else (0:Int))).1∧(bN (ay (aw x.1.1 (ap x.1) (List.map (fun (x:bk)=>x.1) x.1.2.2.1)).1).1 (if af x.2.2=0 then ac x.2.2 else (0:Int))).1<(↑(ay (aw x.1.1 (ap x.1) (List.map (fun (x:bk)=>x.1) x.1.2.2.1)).1).1.length:Int)∧(bN (ay (aw x.1.1 (ap x.1) (List.map (fun (x:bk)=>x.1) x.1.2.2.1)).1).1 (if af x.2.2=0 then ac x.2.2 else (0:Int))).1.toNat<(ay (aw x.1.1 (ap x.1) (List.map (fun (x:bk)=>x.1) x.1.2.2.1)).1).1.length∧True∧(eo (dm (aw x.1.1 (ap x.1) (List.map (fun (x:bk)=>x.1) x.1.2.2.1)).1).1 ((ay (aw x.1.1 (ap x.1) (List.map (fun (x:bk)=>x.1) x.1.2.2.1)).1).1.getD (bN (ay (aw x.1.1 (ap x.1) (List.map (fun (x:bk)=>x.1) x.1.2.2.1)).1).1 (if af x.2.2=0 then ac x.2.2 else (0:Int))).1.toNat (0,0)).1 x.2.2).2=(eo (dm (aw x.1.1 (ap x.1) (List.map (fun (x:bk)=>x.1) x.1.2.2.1)).1).1 ((ay (aw x.1.1 (ap x.1) (List.map (fun (x:bk)=>x.1) x.1.2.2.1)).1).1.getD (bN (ay (aw x.1.1 (ap x.1) (List.map (fun (x:bk)=>x.1) x.1.2.2.1)).1).1 (if af x.2.2=0 then ac x.2.2 else (0:Int))).1.toNat (0,0)).1 x.2.2).2∧0≤(bN (ay (aw x.1.1 (ap x.1) (List.map (fun (x:bk)=>x.1) x.1.2.2.1)).1).1 (if af x.2.2=0 then ac x.2.2 else (0:Int))).1∧(bN (ay (aw x.1.1 (ap x.1) (List.map (fun (x:bk)=>x.1) x.1.2.2.1)).1).1 (if af x.2.2=0 then ac x.2.2 else (0:Int))).1<(↑(ay (aw x.1.1 (ap x.1) (List.map (fun (x:bk)=>x.1) x.1.2.2.1)).1).1.length:Int)∧(bN (ay (aw x.1.1 (ap x.1) (List.map (fun (x:bk)=>x.1) x.1.2.2.1)).1).1 (if af x.2.2=0 then ac x.2.2 else (0:Int))).1.toNat<(ay (aw x.1.1 (ap x.1) (List.map (fun (x:bk)=>x.1) x.1.2.2.1)).1).1.length∧((!true)=true→(([]:List Int),([]:List Int),([]:List (Int×Int)),([]:List (Int×Bool×Int)))=(bL x.1 x.2.1 x.2.2).1∧false=(bL x.1 x.2.1 x.2.2).2.1∧7=(bL x.1 x.2.1 x.2.2).2.2∧True)∧((!true)=false→0≤x.2.1∧x.2.1<(↑(bB x.1.2.1 (↑x.1.1.length:Int) x_2.1).1.length:Int)∧x.2.1.toNat<(bB x.1.2.1 (↑x.1.1.length:Int) x_2.1).1.length∧((eo (dm (aw x.1.1 (ap x.1) (List.map (fun (x:bk)=>x.1) x.1.2.2.1)).1).1 ((ay (aw x.1.1 (ap x.1) (List.map (fun (x:bk)=>x.1) x.1.2.2.1)).1).1.getD (bN (ay (aw x.1.1 (ap x.1) (List.map (fun (x:bk)=>x.1) x.1.2.2.1)).1).1 (if af x.2.2=0 then ac x.2.2 else (0:Int))).1.toNat (0,0)).1 x.2.2).1,(bB x.1.2.1 (↑x.1.1.length:Int) x_2.1).1.set x.2.1.toNat ((ay (aw x.1.1 (ap x.1) (List.map (fun (x:bk)=>x.1) x.1.2.2.1)).1).1.getD (bN (ay (aw x.1.1 (ap x.1) (List.map (fun (x:bk)=>x.1) x.1.2.2.1)).1).1 (if af x.2.2=0 then ac x.2.2 else (0:Int))).1.toNat (0,0)).1,x.1.2.2.1,(fX x.1.2.2.2 x_2.2.1).1)=(bL x.1 x.2.1 x.2.2).1∧(!false)=(bL x.1 x.2.1 x.2.2).2.1∧0=(bL x.1 x.2.1 x.2.2).2.2∧True)))))∧((!false)=false→0≤x.2.1∧x.2.1<(↑x.1.2.1.length:Int)∧x.2.1.toNat<x.1.2.1.length∧(([]:List Int),x.1.2.1.set x.2.1.toNat 0,x.1.2.2)=(bL x.1 x.2.1 x.2.2).1∧(!false)=(bL x.1 x.2.1 x.2.2).2.1∧0=(bL x.1 x.2.1 x.2.2).2.2∧True))∧(decide ((bN (ay x.1.1).1 (if af x.2.2=0 then ac x.2.2 else (0:Int))).2≠0)=false→True∧0≤(bN (ay x.1.1).1 (if af x.2.2=0 then ac x.2.2 else (0:Int))).1∧(bN (ay x.1.1).1 (if af x.2.2=0 then ac x.2.2 else (0:Int))).1<(↑(ay x.1.1).1.length:Int)∧(bN (ay x.1.1).1 (if af x.2.2=0 then ac x.2.2 else (0:Int))).1.toNat<(ay x.1.1).1.length∧True∧(eo (dm x.1.1).1 ((ay x.1.1).1.getD (bN (ay x.1.1).1 (if af x.2.2=0 then ac x.2.2 else (0:Int))).1.toNat (0,0)).1 x.2.2).2=(eo (dm x.1.1).1 ((ay x.1.1).1.getD (bN (ay x.1.1).1 (if af x.2.2=0 then ac x.2.2 else (0:Int))).1.toNat (0,0)).1 x.2.2).2∧0≤(bN (ay x.1.1).1 (if af x.2.2=0 then ac x.2.2 else (0:Int))).1∧(bN (ay x.1.1).1 (if af x.2.2=0 then ac x.2.2 else (0:Int))).1<(↑(ay x.1.1).1.length:Int)∧(bN (ay x.1.1).1 (if af x.2.2=0 then ac x.2.2 else (0:Int))).1.toNat<(ay x.1.1).1.length∧((!true)=true→∀ (_:Array Value),(x.1.2.1.length≤32∧x.1.2.2.1.length≤16∧x.1.2.2.2.length≤16)∧True∧((ap x.1).length+(List.map (fun (x:bk)=>x.1) x.1.2.2.1).length) * 8≤140737488355328∧True∧((((0≤(↑x.1.1.length:Int)∧(↑x.1.1.length:Int).toNat * 8≤aA∧((0:Int)≤256∧Int.toNat 256 * 8≤aA∧((List.replicate (↑x.1.1.length:Int).toNat (0:Int)=List.replicate x.1.1.length (0:Int)∧List.replicate (Int.toNat 256) (0:Int)=List.replicate 256 (0:Int))∧True)∧True)∧(((0:Int)≤256∧Int.toNat 256 * 8≤aA∧(List.replicate (↑x.1.1.length:Int).toNat (0:Int)=List.replicate x.1.1.length (0:Int)∧List.replicate (Int.toNat 256) (0:Int)=List.replicate 256 (0:Int))∧True)∧True)∧True)∧((0:Int)≤256∧Int.toNat 256 * 8≤aA∧(0≤(↑x.1.1.length:Int)∧(↑x.1.1.length:Int).toNat * 8≤aA∧((List.replicate (↑x.1.1.length:Int).toNat (0:Int)=List.replicate x.1.1.length (0:Int)∧List.replicate (Int.toNat 256) (0:Int)=List.replicate 256 (0:Int))∧True)∧True)∧True)∧True)∧((0:Int)≤256∧Int.toNat 256 * 8≤aA∧((0≤(↑x.1.1.length:Int)∧(↑x.1.1.length:Int).toNat * 8≤aA∧((List.replicate (↑x.1.1.length:Int).toNat (0:Int)=List.replicate x.1.1.length (0:Int)∧List.replicate (Int.toNat 256) (0:Int)=List.replicate 256 (0:Int))∧True)∧True)∧True)∧True)∧True)∧((0:Int)≤256∧Int.toNat 256 * 8≤aA∧(((0≤(↑x.1.1.length:Int)∧(↑x.1.1.length:Int).toNat * 8≤aA∧((List.replicate (↑x.1.1.length:Int).toNat (0:Int)=List.replicate x.1.1.length (0:Int)∧List.replicate (Int.toNat 256) (0:Int)=List.replicate 256 (0:Int))∧True)∧True)∧True)∧True)∧True)∧True)∧∀ (x_1:List Int×List Int),x_1.1=List.replicate x.1.1.length (0:Int)∧x_1.2=List.replicate 256 (0:Int)→((0:Int)≤0∧0≤(↑(ap x.1).length:Int)∧x_1.1=b9 (List.replicate x.1.1.length (0:Int)) (List.take (Int.toNat 0) (ap x.1)) (kC x.1)∧x_1.2=b9 (List.replicate 256 (0:Int)) (List.take (Int.toNat 0) (ap x.1)) (kC x.1))∧∀ (x_2:List Int×List Int×Int),0≤x_2.2.2∧x_2.2.2≤(↑(ap x.1).length:Int)∧x_2.1=b9 (List.replicate x.1.1.length (0:Int)) (List.take x_2.2.2.toNat (ap x.1)) (kC x.1)∧x_2.2.1=b9 (List.replicate 256 (0:Int)) (List.take x_2.2.2.toNat (ap x.1)) (kC x.1)→(decide (x_2.2.2<(↑(ap x.1).length:Int))=true→0≤x_2.2.2∧x_2.2.2<(↑(ap x.1).length:Int)∧x_2.2.2.toNat<(ap x.1).length∧0≤x_2.2.2∧x_2.2.2<(↑(aw x.1.1 (ap x.1) (List.map (fun (x:bk)=>x.1) x.1.2.2.1)).2.1.length:Int)∧0≤x_2.2.2∧x_2.2.2<(↑(aw x.1.1 (ap x.1) (List.map (fun (x:bk)=>x.1) x.1.2.2.1)).2.1.length:Int)∧0≤(ap x.1).getD x_2.2.2.toNat 0∧(ap x.1).getD x_2.2.2.toNat 0<(↑x_2.1.length:Int)∧((ap x.1).getD x_2.2.2.toNat 0).toNat<x_2.1.length∧(ap x.1).getD x_2.2.2.toNat 0=(ap x.1).getD x_2.2.2.toNat 0∧0≤(ap x.1).getD x_2.2.2.toNat 0∧(ap x.1).getD x_2.2.2.toNat 0<(↑x_2.2.1.length:Int)∧((ap x.1).getD x_2.2.2.toNat 0).toNat<x_2.2.1.length∧ak .i64 (x_2.2.2+1)∧(0≤x_2.2.2+1∧x_2.2.2+1≤(↑(ap x.1).length:Int)∧x_2.1.set ((ap x.1).getD x_2.2.2.toNat 0).toNat ((aw x.1.1 (ap x.1) (List.map (fun (x:bk)=>x.1) x.1.2.2.1)).2.1.getD x_2.2.2.toNat 0)=b9 (List.replicate x.1.1.length (0:Int)) (List.take (x_2.2.2+1).toNat (ap x.1)) (kC x.1)∧x_2.2.1.set ((ap x.1).getD x_2.2.2.toNat 0).toNat ((aw x.1.1 (ap x.1) (List.map (fun (x:bk)=>x.1) x.1.2.2.1)).2.1.getD x_2.2.2.toNat 0)=b9 (List.replicate 256 (0:Int)) (List.take (x_2.2.2+1).toNat (ap x.1)) (kC x.1))∧((↑(ap x.1).length:Int) - (x_2.2.2+1)).toNat<((↑(ap x.1).length:Int) - x_2.2.2).toNat)∧(decide (x_2.2.2<(↑(ap x.1).length:Int))=false→True∧True∧True∧((0:Int)≤0∧0≤(↑(ay (aw x.1.1 (ap x.1) (List.map (fun (x:bk)=>x.1) x.1.2.2.1)).1).1.length:Int)∧(ay (aw x.1.1 (ap x.1) (List.map (fun (x:bk)=>x.1) x.1.2.2.1)).1).1.length≤256∧(∀ (r:bY),r∈(ay (aw x.1.1 (ap x.1) (List.map (fun (x:bk)=>x.1) x.1.2.2.1)).1).1→0≤r.2∧r.2≤256)∧0=ep (List.take (Int.toNat 0) (ay (aw x.1.1 (ap x.1) (List.map (fun (x:bk)=>x.1) x.1.2.2.1)).1).1)∧(0:Int)≤0∧(0:Int)≤256 * 0)∧∀ (x_3:Int×Int),0≤x_3.2∧x_3.2≤(↑(ay (aw x.1.1 (ap x.1) (List.map (fun (x:bk)=>x.1) x.1.2.2.1)).1).1.length:Int)∧(ay (aw x.1.1 (ap x.1) (List.map (fun (x:bk)=>x.1) x.1.2.2.1)).1).1.length≤256∧(∀ (r:bY),r∈(ay (aw x.1.1 (ap x.1) (List.map (fun (x:bk)=>x.1) x.1.2.2.1)).1).1→0≤r.2∧r.2≤256)∧x_3.1=ep (List.take x_3.2.toNat (ay (aw x.1.1 (ap x.1) (List.map (fun (x:bk)=>x.1) x.1.2.2.1)).1).1)∧0≤x_3.1∧x_3.1≤256 * x_3.2→(decide (x_3.2<(↑(ay (aw x.1.1 (ap x.1) (List.map (fun (x:bk)=>x.1) x.1.2.2.1)).1).1.length:Int))=true→0≤x_3.2∧x_3.2<(↑(ay (aw x.1.1 (ap x.1) (List.map (fun (x:bk)=>x.1) x.1.2.2.1)).1).1.length:Int)∧x_3.2.toNat<(ay (aw x.1.1 (ap x.1) (List.map (fun (x:bk)=>x.1) x.1.2.2.1)).1).1.length∧ak .i64 (x_3.1+((ay (aw x.1.1 (ap x.1) (List.map (fun (x:bk)=>x.1) x.1.2.2.1)).1).1.getD x_3.2.toNat (0,0)).2)∧ak .i64 (x_3.2+1)∧(0≤x_3.2+1∧x_3.2+1≤(↑(ay (aw x.1.1 (ap x.1) (List.map (fun (x:bk)=>x.1) x.1.2.2.1)).1).1.length:Int)∧(ay (aw x.1.1 (ap x.1) (List.map (fun (x:bk)=>x.1) x.1.2.2.1)).1).1.length≤256∧(∀ (r:bY),r∈(ay (aw x.1.1 (ap x.1) (List.map (fun (x:bk)=>x.1) x.1.2.2.1)).1).1→0≤r.2∧r.2≤256)∧x_3.1+((ay (aw x.1.1 (ap x.1) (List.map (fun (x:bk)=>x.1) x.1.2.2.1)).1).1.getD x_3.2.toNat (0,0)).2=ep (List.take (x_3.2+1).toNat (ay (aw x.1.1 (ap x.1) (List.map (fun (x:bk)=>x.1) x.1.2.2.1)).1).1)∧0≤x_3.1+((ay (aw x.1.1 (ap x.1) (List.map (fun (x:bk)=>x.1) x.1.2.2.1)).1).1.getD x_3.2.toNat (0,0)).2∧x_3.1+((ay (aw x.1.1 (ap x.1) (List.map (fun (x:bk)=>x.1) x.1.2.2.1)).1).1.getD x_3.2.toNat (0,0)).2≤256 * (x_3.2+1))∧((↑(ay (aw x.1.1 (ap x.1) (List.map (fun (x:bk)=>x.1) x.1.2.2.1)).1).1.length:Int) - (x_3.2+1)).toNat<((↑(ay (aw x.1.1 (ap x.1) (List.map (fun (x:bk)=>x.1) x.1.2.2.1)).1).1.length:Int) - x_3.2).toNat)∧(decide (x_3.2<(↑(ay (aw x.1.1 (ap x.1) (List.map (fun (x:bk)=>x.1) x.1.2.2.1)).1).1.length:Int))=false→∀ (_:Array Value),True∧True∧True∧(decide ((bN (ay (aw x.1.1 (ap x.1) (List.map (fun (x:bk)=>x.1) x.1.2.2.1)).1).1 (if af x.2.2=0 then ac x.2.2 else (0:Int))).2≠0)=true→((!false)=true→(([]:List Int),([]:List Int),([]:List (Int×Int)),([]:List (Int×Bool×Int)))=(bL x.1 x.2.1 x.2.2).1∧false=(bL x.1 x.2.1 x.2.2).2.1∧7=(bL x.1 x.2.1 x.2.2).2.2∧True)∧((!false)=false→0≤x.2.1∧x.2.1<(↑(bB x.1.2.1 (↑x.1.1.length:Int) x_2.1).1.length:Int)∧x.2.1.toNat<(bB x.1.2.1 (↑x.1.1.length:Int) x_2.1).1.length∧(([]:List Int),(bB x.1.2.1 (↑x.1.1.length:Int) x_2.1).1.set x.2.1.toNat 0,x.1.2.2.1,(fX x.1.2.2.2 x_2.2.1).1)=(bL x.1 x.2.1 x.2.2).1∧(!true)=(bL x.1 x.2.1 x.2.2).2.1∧0=(bL x.1 x.2.1 x.2.2).2.2∧True))∧(decide ((bN (ay (aw x.1.1 (ap x.1) (List.map (fun (x:bk)=>x.1) x.1.2.2.1)).1).1 (if af x.2.2=0 then ac x.2.2 else (0:Int))).2≠0)=false→True∧0≤(bN (ay (aw x.1.1 (ap x.1) (List.map (fun (x:bk)=>x.1) x.1.2.2.1)).1).1 (if af x.2.2=0 then ac x.2.2 else (0:Int))).1∧(bN (ay (aw x.1.1 (ap x.1) (List.map (fun (x:bk)=>x.1) x.1.2.2.1)).1).1 (if af x.2.2=0 then ac x.2.2 else (0:Int))).1<(↑(ay (aw x.1.1 (ap x.1) (List.map (fun (x:bk)=>x.1) x.1.2.2.1)).1).1.length:Int)∧(bN (ay (aw x.1.1 (ap x.1) (List.map (fun (x:bk)=>x.1) x.1.2.2.1)).1).1 (if af x.2.2=0 then ac x.2.2 else (0:Int))).1.toNat<(ay (aw x.1.1 (ap x.1) (List.map (fun (x:bk)=>x.1) x.1.2.2.1)).1).1.length∧True∧(eo (dm (aw x.1.1 (ap x.1) (List.map (fun (x:bk)=>x.1) x.1.2.2.1)).1).1 ((ay (aw x.1.1 (ap x.1) (List.map (fun (x:bk)=>x.1) x.1.2.2.1)).1).1.getD (bN (ay (aw x.1.1 (ap x.1) (List.map (fun (x:bk)=>x.1) x.1.2.2.1)).1).1 (if af x.2.2=0 then ac x.2.2 else (0:Int))).1.toNat (0,0)).1 x.2.2).2=(eo (dm (aw x.1.1 (ap x.1) (List.map (fun (x:bk)=>x.1) x.1.2.2.1)).1).1 ((ay (aw x.1.1 (ap x.1) (List.map (fun (x:bk)=>x.1) x.1.2.2.1)).1).1.getD (bN (ay (aw x.1.1 (ap x.1) (List.map (fun (x:bk)=>x.1) x.1.2.2.1)).1).1 (if af x.2.2=0 then ac x.2.2 else (0:Int))).1.toNat (0,0)).1 x.2.2).2∧0≤(bN (ay (aw x.1.1 (ap x.1) (List.map (fun (x:bk)=>x.1) x.1.2.2.1)).1).1 (if af x.2.2=0 then ac x.2.2 else (0:Int))).1∧(bN (ay (aw x.1.1 (ap x.1) (List.map (fun (x:bk)=>x.1) x.1.2.2.1)).1).1 (if af x.2.2=0 then ac x.2.2 else (0:Int))).1<(↑(ay (aw x.1.1 (ap x.1) (List.map (fun (x:bk)=>x.1) x.1.2.2.1)).1).1.length:Int)∧(bN (ay (aw x.1.1 (ap x.1) (List.map (fun (x:bk)=>x.1) x.1.2.2.1)).1).1 (if af x.2.2=0 then ac x.2.2 else (0:Int))).1.toNat<(ay (aw x.1.1 (ap x.1) (List.map (fun (x:bk)=>x.1) x.1.2.2.1)).1).1.length∧((!true)=true→(([]:List Int),([]:List Int),([]:List (Int×Int)),([]:List (Int×Bool×Int)))=(bL x.1 x.2.1 x.2.2).1∧false=(bL x.1 x.2.1 x.2.2).2.1∧7=(bL x.1 x.2.1 x.2.2).2.2∧True)∧((!true)=false→0≤x.2.1∧x.2.1<(↑(bB x.1.2.1 (↑x.1.1.length:Int) x_2.1).1.length:Int)∧x.2.1.toNat<(bB x.1.2.1 (↑x.1.1.length:Int) x_2.1).1.length∧((eo (dm (aw x.1.1 (ap x.1) (List.map (fun (x:bk)=>x.1) x.1.2.2.1)).1).1 ((ay (aw x.1.1 (ap x.1) (List.map (fun (x:bk)=>x.1) x.1.2.2.1)).1).1.getD (bN (ay (aw x.1.1 (ap x.1) (List.map (fun (x:bk)=>x.1) x.1.2.2.1)).1).1 (if af x.2.2=0 then ac x.2.2 else (0:Int))).1.toNat (0,0)).1 x.2.2).1,(bB x.1.2.1 (↑x.1.1.length:Int) x_2.1).1.set x.2.1.toNat ((ay (aw x.1.1 (ap x.1) (List.map (fun (x:bk)=>x.1) x.1.2.2.1)).1).1.getD (bN (ay (aw x.1.1 (ap x.1) (List.map (fun (x:bk)=>x.1) x.1.2.2.1)).1).1 (if af x.2.2=0 then ac x.2.2 else (0:Int))).1.toNat (0,0)).1,x.1.2.2.1,(fX x.1.2.2.2 x_2.2.1).1)=(bL x.1 x.2.1 x.2.2).1∧(!true)=(bL x.1 x.2.1 x.2.2).2.1∧0=(bL x.1 x.2.1 x.2.2).2.2∧True)))))∧((!true)=false→0≤x.2.1∧x.2.1<(↑x.1.2.1.length:Int)∧x.2.1.toNat<x.1.2.1.length∧((eo (dm x.1.1).1 ((ay x.1.1).1.getD (bN (ay x.1.1).1 (if af x.2.2=0 then ac x.2.2 else (0:Int))).1.toNat (0,0)).1 x.2.2).1,x.1.2.1.set x.2.1.toNat ((ay x.1.1).1.getD (bN (ay x.1.1).1 (if af x.2.2=0 then ac x.2.2 else (0:Int))).1.toNat (0,0)).1,x.1.2.2)=(bL x.1 x.2.1 x.2.2).1∧(!true)=(bL x.1 x.2.1 x.2.2).2.1∧0=(bL x.1 x.2.1 x.2.2).2.2∧True))))))
theorem Dg:wW:=by
 unfold wW;intro ⟨s,slot,h⟩ ⟨⟨⟨hb,hw⟩,_⟩,_⟩ _;simp only at hb hw ⊢
 have hM:bL s slot h=if bO s slot≠0 then (aK,false,bO s slot) else if gS h≠0 then (aK,false,gS h) else
  if (ir s.1 h).2.2=true then (((ir s.1 h).1,s.2.1.set slot.toNat (ir s.1 h).2.1,s.2.2),false,0) else
  if (ir (cU s) h).2.2=true then (((ir (cU s) h).1,(s.2.1.map (fl s)).set slot.toNat (ir (cU s) h).2.1,s.2.2.1,s.2.2.2.map (ia s)),true,0) else (aK,false,7):=rfl
 have hE:bO s slot=if aC s≠0 then aC s else if slot<0∨(s.2.1.length:Int)≤slot then 5 else 0:=rfl
 have hH:gS h=if af h≠0 then af h else if h.2.2.2=true then 3 else 0:=rfl
 refine ⟨trivial,fun h0=>?_,fun h0=>⟨fun h1=>?_,fun h1=>⟨trivial,fun h2=>?_,fun h2=>⟨fun h3=>?_,fun h3 tm=>⟨trivial,trivial,trivial,by trivial,by trivial,by trivial,by trivial,by trivial,by trivial,trivial,fun tm2=>⟨trivial,trivial,trivial,?_,?_⟩⟩⟩⟩⟩⟩
 ·have h0:=of_decide_eq_true h0;rw [if_pos h0] at hE;rw [hM,hE,if_pos h0];exact ⟨by trivial,by trivial,by trivial,trivial⟩
 all_goals have h0:=of_decide_eq_false h0
 all_goals rw [if_neg h0] at hE
 ·rw [if_pos (by simpa using h1)] at hE;rw [hM,hE,if_pos (by omega)];exact ⟨by trivial,by trivial,by trivial,trivial⟩
 all_goals have h1:¬ (slot<0∨(s.2.1.length:Int)≤slot):=by simpa using h1
 all_goals rw [if_neg h1] at hE
 all_goals rw [hE,if_neg (by omega)] at hM
 ·have h2:=of_decide_eq_true h2;rw [if_pos h2] at hH;rw [hM,hH,if_pos h2];exact ⟨by trivial,by trivial,by trivial,trivial⟩
 all_goals have h2:af h=0:=by simpa using of_decide_eq_false h2
 ·rw [if_neg (by omega),if_pos h3] at hH;rw [hM,hH,if_pos (by omega)];exact ⟨by trivial,by trivial,by trivial,trivial⟩
 all_goals
  rw [if_neg (by omega),if_neg (by rw [h3]; simp)] at hH;rw [hH,if_neg (by omega)] at hM;rw [hM,if_pos h2];have R:=iv hw (by omega:aC s=0);have hcl:aw s.1 (ap s) (List.map (fun (x:bk)=>x.1) s.2.2.1)=(cU s,(ap s).map (kC s),0):=R.clean;obtain ⟨hgf,hgi,hgl⟩:=R.gaps;have hfl:=R.fromLen;have hsm:=R.small;have hal:=R.al;have hfm:=fun x=>gG (s:=s) R.root (x:=x)
  have hsr:=R.swapRoots;have hsh:=R.swapHands;have hg1:ay s.1=(aU false [] (aa s.1).1,0):=by unfold ay; rw [if_neg (by have:=R.chk; omega)]
  have T1:=nk R.chk h2 h3;have T2:=nk R.slidOK.1 h2 h3;rw [hg1];simp only;cases hfd:(aU false [] (aa s.1).1).find? (fun r=>decide (ac h≤r.2)) with
  | none=>?_
  | some r=>?_
  all_goals rw [hfd] at T1
  all_goals simp only at T1
 ·obtain ⟨t1,t2⟩:=T1;rw [t1,t2];simp only;refine fun _=>⟨fun _ tm=>?_,fun hx=>by cases hx⟩
  rw [if_neg (by simp),hcl];simp only;rw [hgf];simp only;generalize aU false [] (aa (cU s)).1=g at *;unfold aA at hb ⊢;refine ⟨hsm,trivial,by rw [List.length_map]; omega,trivial,?_,fun ⟨ra,ha⟩ ⟨q1,q2⟩=>?_⟩
  ·have e1:((s.1.length:Int)).toNat=s.1.length:=by omega
   have e2:Int.toNat 256=256:=rfl;have e3:(0:Int)≤(s.1.length:Int):=by omega
   simp only [e1,e2,e3,hb,true_and,and_true];omega
  simp only at q1 q2;subst q1 q2;refine ⟨⟨by omega,by omega,by simp [b9],by simp [b9]⟩,fun ⟨ra,ha,i⟩ ⟨i0,i1,i2,i3⟩=>⟨fun hlt=>?_,fun hge=>?_⟩⟩
  ·simp only at i0 i1 i2 i3 hlt ⊢;have hlt:=of_decide_eq_true hlt;have ht:=bo (0:Int) i0 hlt;have hx:=R.nameIn ((hfm _).1 (aI (0:Int) i0 hlt));have hm:(List.map (kC s) (ap s)).getD i.toNat 0=kC s ((ap s).getD i.toNat 0):=Cf i0 hlt;have l1:ra.length=s.1.length:=by rw [i2,d8,List.length_replicate]
   have l2:ha.length=256:=by rw [i3,d8,List.length_replicate]
   rw [hm,ht,jH,jH,← i2,← i3,l1,l2,List.length_map];generalize (ap s).getD i.toNat 0=x at *;simp only [ak];exact ⟨i0,hlt,by omega,i0,hlt,i0,hlt,hx.1,hx.2,by omega,by first | trivial | rfl,hx.1,by omega,by omega,by omega,⟨by omega,by omega,by trivial,by trivial⟩,by omega⟩
  ·simp only at i0 i1 i2 i3 hge ⊢;have hge:=of_decide_eq_false hge;rw [bF hge] at i2 i3;refine ⟨trivial,trivial,trivial,⟨by omega,by omega,hgl,fun r hr=>by have:=hgi r hr; omega,by trivial,by omega,by omega⟩,fun ⟨n,j⟩ ⟨j0,j1,_,_,j2,j3,j4⟩=>⟨fun hlt=>?_,fun hge tm=>⟨trivial,trivial,trivial,?_⟩⟩⟩
   ·simp only at j0 j1 j2 j3 j4 hlt ⊢;have hlt:=of_decide_eq_true hlt;have hm:=hgi _ (aI ((0,0):bY) j0 hlt);rw [pJ j0 hlt,← j2];generalize (g.getD j.toNat (0,0)).2=y at *;simp only [ak];exact ⟨j0,hlt,by omega,by omega,by omega,⟨by omega,by omega,hgl,fun r hr=>by have:=hgi r hr; omega,by trivial,by omega,by omega⟩,by omega⟩
   ·rw [i2,i3,hsr,hsh];simp only;cases hfd2:g.find? (fun r=>decide (ac h≤r.2)) with
    | none =>
     rw [hfd2] at T2;simp only at T2;obtain ⟨u1,u2⟩:=T2;rw [u1,u2];exact ⟨fun _=>⟨fun _=>⟨by trivial,by trivial,by trivial,trivial⟩,fun hx=>by cases hx⟩,fun hx=>by simp at hx⟩
    | some r =>
     rw [hfd2] at T2;simp only at T2;obtain ⟨k,k0,k1,u1,u2,u3,u4⟩:=T2;rw [u1,u4];simp only;rw [u2,u3];refine ⟨fun hx=>by simp at hx,fun _=>⟨trivial,k0,k1,by omega,trivial,by trivial,k0,k1,by omega,fun hx=>(by cases hx),fun _=>⟨by omega,by rw [List.length_map]; omega,by rw [List.length_map]; omega,by trivial,by trivial,by trivial,trivial⟩⟩⟩
 ·obtain ⟨i,i0,i1,t1,t2,t3,t4⟩:=T1;rw [t1];exact fun hx=>by simp at hx
 ·obtain ⟨t1,t2⟩:=T1;rw [t1];exact fun hx=>by simp at hx
 ·obtain ⟨i,i0,i1,t1,t2,t3,t4⟩:=T1;rw [t1,t4];simp only;rw [t2,t3];exact fun _=>⟨trivial,i0,i1,by omega,trivial,by trivial,i0,i1,by omega,fun hx=>(by cases hx),fun _=>⟨by omega,by omega,by omega,by trivial,by trivial,by trivial,trivial⟩⟩
theorem Hb:Gy.ok Tryz.prog 13:=aF (ann:=HS) (ae fD (ae iP (ae iO (ae rG (ae Je (ae En (ae Em (ae pY (ae jL (ae Ca (ae bT (ae ci (ae b8 (ae bU (ae rz (ae rD aq)))))))))))))))) Tryz.func13 (by kernel_rfl) Dg
end
section
open Go
set_option maxRecDepth 100000
set_option maxHeartbeats 1000000
def HU:Nat→Option LoopGen
 | 3000011=>some eM
 | 1204000001=>some eM
 | 3=>some { rd:=[.dat 14 (.arr cz)],A:=fun (p:List bk)=>{ cs:=[.own 3 3 ty_I,.dat 16 ty_I],inv:=fun ((o,i):List Int×Int)=>0≤i∧i≤p.length∧o=(p.take i.toNat).map (·.1),mu:=fun ((_,i):List Int×Int)=>(p.length - i).toNat } }
 | 12=>some { rd:=[.box 1 aE],A:=fun (s:an)=>{ cs:=[.boxS 8 [.own 29 bb,.own 3 ty_I,.own 133 cz,.own 82 bC],.dat 50 ty_I],inv:=fun ((b,i):an×Int)=>0≤i∧i≤s.2.1.length∧b=(cU s,(s.2.1.take i.toNat).map (fl s)++s.2.1.drop i.toNat,s.2.2),mu:=fun ((_,i):an×Int)=>(s.2.1.length - i).toNat } }
 | 18=>some { rd:=[.box 1 aE],A:=fun (s:an)=>{ cs:=[.boxS 8 [.own 29 bb,.own 3 ty_I,.own 133 cz,.own 82 bC],.dat 71 ty_I],inv:=fun ((b,i):an×Int)=>0≤i∧i≤s.2.2.2.length∧b=(cU s,s.2.1.map (fl s),s.2.2.1,(s.2.2.2.take i.toNat).map (ia s)++s.2.2.2.drop i.toNat),mu:=fun ((_,i):an×Int)=>(s.2.2.2.length - i).toNat } }
 | _=>none
def GE:Spec:={ Ts:=[aE],Rs:=[.dat aE],al:=true,pre:=fun (s:an)=>aC s=0,F:=bc }
def w6:Prop :=
  ∀ (x:List Int×List Int×List (Int×Int)×List (Int×Bool×Int)),((x.1.length * 8≤aA∧∀ (x_1:Int),x_1∈x.1→ak .u64 x_1)∧(x.2.1.length * 8≤aA∧∀ (x_1:Int),x_1∈x.2.1→ak .i64 x_1)∧(x.2.2.1.length * (8+8)≤aA∧∀ (x_1:Int×Int),x_1∈x.2.2.1→ak .i64 x_1.1∧ak .i64 x_1.2)∧x.2.2.2.length * (8+(8+8))≤aA∧∀ (x_1:Int×Bool×Int),x_1∈x.2.2.2→ak .i64 x_1.1∧True∧ak .i64 x_1.2.2)→aC x=0→((0:Int)≤0∧0≤(↑x.2.2.1.length:Int)∧([]:List Int)=List.map (fun (x:bk)=>x.1) (List.take (Int.toNat 0) x.2.2.1))∧∀ (x_1:List Int×Int),0≤x_1.2∧x_1.2≤(↑x.2.2.1.length:Int)∧x_1.1=List.map (fun (x:bk)=>x.1) (List.take x_1.2.toNat x.2.2.1)→(decide (x_1.2<(↑x.2.2.1.length:Int))=true→0≤x_1.2∧x_1.2<(↑x.2.2.1.length:Int)∧(x_1.1.length+[(x.2.2.1.getD x_1.2.toNat (0,0)).1].length) * 8≤aA∧ak .i64 (x_1.2+1)∧(0≤x_1.2+1∧x_1.2+1≤(↑x.2.2.1.length:Int)∧x_1.1++[(x.2.2.1.getD x_1.2.toNat (0,0)).1]=List.map (fun (x:bk)=>x.1) (List.take (x_1.2+1).toNat x.2.2.1))∧((↑x.2.2.1.length:Int) - (x_1.2+1)).toNat<((↑x.2.2.1.length:Int) - x_1.2).toNat)∧(decide (x_1.2<(↑x.2.2.1.length:Int))=false→(x.2.1.length≤32∧x.2.2.1.length≤16∧x.2.2.2.length≤16)∧(ba x.1 (bf (bq x) 256)=0∧((bf (bq x) 256).length+256) * 8≤140737488355328)∧dD (be x.1 (bf (bq x) 256)) (List.map (aG (aa x.1).1) (be x.1 (bf (bq x) 256)))∧∀ (_:Array Value),True∧x.2.1.length * 8≤aA∧x.2.2.1.length * (8+8)≤aA∧x.2.1=x.2.1∧x.2.2.1=x.2.2.1∧x.2.2.1=x.2.2.1∧x.2.2.2=x.2.2.2∧x.2.2.2=x.2.2.2∧x.2.2.2=x.2.2.2∧x.2.2.2.length * (8+(8+8))≤aA∧(am x.1 (be x.1 (bf (bq x) 256)) x_1.1).2=0∧((0:Int)≤0∧0≤(↑x.2.1.length:Int)∧((kl x.1 (be x.1 (bf (bq x) 256)) x_1.1).1,x.2)=(cU x,List.map (fl x) (List.take (Int.toNat 0) x.2.1)++List.drop (Int.toNat 0) x.2.1,x.2.2))∧∀ (x_2:(List Int×List Int×List (Int×Int)×List (Int×Bool×Int))×Int),0≤x_2.2∧x_2.2≤(↑x.2.1.length:Int)∧x_2.1=(cU x,List.map (fl x) (List.take x_2.2.toNat x.2.1)++List.drop x_2.2.toNat x.2.1,x.2.2)→(decide (x_2.2<(↑x.2.1.length:Int))=true→0≤x_2.2∧x_2.2<(↑x.2.1.length:Int)∧(decide (0≤x.2.1.getD x_2.2.toNat 0)=true→True∧0≤bG (be x.1 (bf (bq x) 256)) (x.2.1.getD x_2.2.toNat 0)∧bG (be x.1 (bf (bq x) 256)) (x.2.1.getD x_2.2.toNat 0)<(↑(ar (be x.1 (bf (bq x) 256)) (List.map (aG (aa x.1).1) (be x.1 (bf (bq x) 256))) x_1.1).length:Int)∧(bG (be x.1 (bf (bq x) 256)) (x.2.1.getD x_2.2.toNat 0)).toNat<(ar (be x.1 (bf (bq x) 256)) (List.map (aG (aa x.1).1) (be x.1 (bf (bq x) 256))) x_1.1).length∧0≤x_2.2∧x_2.2<(↑x_2.1.2.1.length:Int)∧x_2.2.toNat<x_2.1.2.1.length∧ak .i64 (x_2.2+1)∧(0≤x_2.2+1∧x_2.2+1≤(↑x.2.1.length:Int)∧(x_2.1.1,x_2.1.2.1.set x_2.2.toNat ((ar (be x.1 (bf (bq x) 256)) (List.map (aG (aa x.1).1) (be x.1 (bf (bq x) 256))) x_1.1).getD (bG (be x.1 (bf (bq x) 256)) (x.2.1.getD x_2.2.toNat 0)).toNat 0),x_2.1.2.2)=(cU x,List.map (fl x) (List.take (x_2.2+1).toNat x.2.1)++List.drop (x_2.2+1).toNat x.2.1,x.2.2))∧((↑x.2.1.length:Int) - (x_2.2+1)).toNat<((↑x.2.1.length:Int) - x_2.2).toNat)∧(decide (0≤x.2.1.getD x_2.2.toNat 0)=false→ak .i64 (x_2.2+1)∧(0≤x_2.2+1∧x_2.2+1≤(↑x.2.1.length:Int)∧x_2.1=(cU x,List.map (fl x) (List.take (x_2.2+1).toNat x.2.1)++List.drop (x_2.2+1).toNat x.2.1,x.2.2))∧((↑x.2.1.length:Int) - (x_2.2+1)).toNat<((↑x.2.1.length:Int) - x_2.2).toNat))∧(decide (x_2.2<(↑x.2.1.length:Int))=false→((0:Int)≤0∧0≤(↑x.2.2.2.length:Int)∧x_2.1=(cU x,List.map (fl x) x.2.1,x.2.2.1,List.map (ia x) (List.take (Int.toNat 0) x.2.2.2)++List.drop (Int.toNat 0) x.2.2.2))∧∀ (x_3:(List Int×List Int×List (Int×Int)×List (Int×Bool×Int))×Int),0≤x_3.2∧x_3.2≤(↑x.2.2.2.length:Int)∧x_3.1=(cU x,List.map (fl x) x.2.1,x.2.2.1,List.map (ia x) (List.take x_3.2.toNat x.2.2.2)++List.drop x_3.2.toNat x.2.2.2)→(decide (x_3.2<(↑x.2.2.2.length:Int))=true→0≤x_3.2∧x_3.2<(↑x.2.2.2.length:Int)∧((x.2.2.2.getD x_3.2.toNat (0,false,0)).2.1=true→True∧0≤bG (be x.1 (bf (bq x) 256)) (x.2.2.2.getD x_3.2.toNat (0,false,0)).2.2∧bG (be x.1 (bf (bq x) 256)) (x.2.2.2.getD x_3.2.toNat (0,false,0)).2.2<(↑(ar (be x.1 (bf (bq x) 256)) (List.map (aG (aa x.1).1) (be x.1 (bf (bq x) 256))) x_1.1).length:Int)∧(bG (be x.1 (bf (bq x) 256)) (x.2.2.2.getD x_3.2.toNat (0,false,0)).2.2).toNat<(ar (be x.1 (bf (bq x) 256)) (List.map (aG (aa x.1).1) (be x.1 (bf (bq x) 256))) x_1.1).length∧0≤x_3.2∧x_3.2<(↑x_3.1.2.2.2.length:Int)∧x_3.2.toNat<x_3.1.2.2.2.length∧ak .i64 (x_3.2+1)∧(0≤x_3.2+1∧x_3.2+1≤(↑x.2.2.2.length:Int)∧(x_3.1.1,x_3.1.2.1,x_3.1.2.2.1,x_3.1.2.2.2.set x_3.2.toNat ((x_3.1.2.2.2.getD x_3.2.toNat (0,false,0)).1,(x_3.1.2.2.2.getD x_3.2.toNat (0,false,0)).2.1,(ar (be x.1 (bf (bq x) 256)) (List.map (aG (aa x.1).1) (be x.1 (bf (bq x) 256))) x_1.1).getD (bG (be x.1 (bf (bq x) 256)) (x.2.2.2.getD x_3.2.toNat (0,false,0)).2.2).toNat 0))=(cU x,List.map (fl x) x.2.1,x.2.2.1,List.map (ia x) (List.take (x_3.2+1).toNat x.2.2.2)++List.drop (x_3.2+1).toNat x.2.2.2))∧((↑x.2.2.2.length:Int) - (x_3.2+1)).toNat<((↑x.2.2.2.length:Int) - x_3.2).toNat)∧((x.2.2.2.getD x_3.2.toNat (0,false,0)).2.1=false→ak .i64 (x_3.2+1)∧(0≤x_3.2+1∧x_3.2+1≤(↑x.2.2.2.length:Int)∧x_3.1=(cU x,List.map (fl x) x.2.1,x.2.2.1,List.map (ia x) (List.take (x_3.2+1).toNat x.2.2.2)++List.drop (x_3.2+1).toNat x.2.2.2))∧((↑x.2.2.2.length:Int) - (x_3.2+1)).toNat<((↑x.2.2.2.length:Int) - x_3.2).toNat))∧(decide (x_3.2<(↑x.2.2.2.length:Int))=false→x_3.1=bc x∧True)))
theorem Dm:w6:=by
 unfold w6;intro s ⟨⟨hb,hw⟩,⟨hb2,_⟩,⟨hb3,_⟩,hb4,_⟩ hs;have R:=iv hw hs;have hre:=R.reached;have hfo:=R.fromOK;have hsm:=R.small;have hlg:=R.longs;have hpl:=R.plan;have hsl:(kl s.1 (ew s) (cH s)).1=cU s:=rfl;have hto:∀ x,(ar (ew s) (lN s) (cH s)).getD (bG (ew s) x).toNat 0=kC s x:=fun _=>rfl
 have hkl:(ar (ew s) (lN s) (cH s)).length=(ew s).length:=by simp [ar]
 have hpi:=fun {x} (hx:x∈bq s)=>oR (R.keepIn hx)
 have hln:List.map (aG (aa s.1).1) (ew s)=lN s:=rfl;have hpo:List.map (fun (x:bk)=>x.1) s.2.2.1=cH s:=rfl
 have hrl:(bf (bq s) 256).length≤256:=by
  have:=zZ (bq s);exact this
 unfold aA at hb hb2 hb3 hb4 ⊢;refine ⟨⟨by omega,by omega,by simp⟩,fun ⟨o,i⟩ ⟨i0,i1,i2⟩=>⟨fun hlt=>?_,fun hge=>?_⟩⟩
 ·simp only at i0 i1 i2 hlt ⊢;have hlt:=of_decide_eq_true hlt;have ht:=bo ((0,0):bk) i0 hlt;have hl:o.length=i.toNat:=by rw [i2]; simp; omega
  rw [ht,List.map_append,← i2];simp only [ak,List.length_singleton];exact ⟨i0,hlt,by omega,by omega,⟨by omega,by omega,by trivial⟩,by omega⟩
 simp only at i0 i1 i2 hge ⊢;rw [bF (of_decide_eq_false hge),hpo] at i2;subst i2;rw [hre,hln,hlg,hsl];simp only [hto,hkl];refine ⟨hsm,⟨hfo,by omega⟩,hpl.pre,fun tm=>⟨trivial,by omega,by omega,by trivial,by trivial,by trivial,by trivial,by trivial,by trivial,by omega,trivial,⟨by omega,by omega,by simp⟩,fun ⟨b,i⟩ ⟨i0,i1,i2⟩=>⟨fun hlt=>?_,fun hge=>?_⟩⟩⟩
 ·simp only at i0 i1 i2 hlt ⊢;have hlt2:=of_decide_eq_true hlt;have hil:i.toNat<s.2.1.length:=by omega
  subst i2;simp only [ak];rw [kr,show (i+1).toNat=i.toNat+1 by omega];refine ⟨i0,hlt2,fun h0=>?_,fun h0=>?_⟩
  ·have h0:=of_decide_eq_true h0;have hp:=hpi (R.rootNam i0 hlt2 h0);have e:kC s (s.2.1.getD i.toNat 0)=fl s (s.2.1.getD i.toNat 0):=by unfold fl; rw [if_pos h0]
   rw [e,mB _ _ _ _ hil];exact ⟨trivial,by omega,by omega,by omega,by omega,by omega,by omega,by omega,⟨by omega,by omega,by trivial⟩,by omega⟩
  ·have h0:=of_decide_eq_false h0;rw [nE (fl s) s.2.1 0 i.toNat hil (by unfold fl; rw [if_neg h0])];exact ⟨by omega,⟨by omega,by omega,by trivial⟩,by omega⟩
 simp only at i0 i1 i2 hge ⊢;have hge:=of_decide_eq_false hge;have hil:s.2.1.length≤i.toNat:=by omega
 rw [List.take_of_length_le hil,List.drop_of_length_le hil,List.append_nil] at i2;subst i2;refine ⟨⟨by omega,by omega,by simp⟩,fun ⟨b,j⟩ ⟨j0,j1,j2⟩=>⟨fun hlt=>?_,fun hge=>?_⟩⟩
 ·simp only at j0 j1 j2 hlt ⊢;have hlt2:=of_decide_eq_true hlt;have hjl:j.toNat<s.2.2.2.length:=by omega
  subst j2;simp only [ak];rw [kr,p9 _ _ _ _ hjl,show (j+1).toNat=j.toNat+1 by omega];refine ⟨j0,hlt2,fun h0=>?_,fun h0=>?_⟩
  ·have hp:=hpi (R.handNam j0 hlt2 h0);have e:((s.2.2.2.getD j.toNat (0,false,0)).1,(s.2.2.2.getD j.toNat (0,false,0)).2.1,kC s (s.2.2.2.getD j.toNat (0,false,0)).2.2)=ia s (s.2.2.2.getD j.toNat (0,false,0)):=by unfold ia; rw [if_pos h0]
   rw [e,mB _ _ _ _ hjl];exact ⟨trivial,by omega,by omega,by omega,by omega,by omega,by omega,by omega,⟨by omega,by omega,by trivial⟩,by omega⟩
  ·rw [nE (ia s) s.2.2.2 (0,false,0) j.toNat hjl (by unfold ia; rw [if_neg (by rw [h0]; simp)])];exact ⟨by omega,⟨by omega,by omega,by trivial⟩,by omega⟩
 ·simp only at j0 j1 j2 hge ⊢;have hge:=of_decide_eq_false hge;have hjl:s.2.2.2.length≤j.toNat:=by omega
  rw [List.take_of_length_le hjl,List.drop_of_length_le hjl,List.append_nil] at j2;exact ⟨j2,trivial⟩
theorem Hf:GE.ok Tryz.prog 34:=aF (ann:=HU) (ae mY (ae BY (ae nA (ae gA (ae I6 (ae pZ aq)))))) Tryz.func34 (by kernel_rfl) Dm
def wC:Nat→Option LoopGen
 | 3=>some { rd:=[.own 7 129 fw],A:=fun (g:List bY)=>{ cs:=[.dat 3 ty_I,.dat 9 ty_I],inv:=fun ((n,i):Int×Int)=>0≤i∧i≤g.length∧g.length≤256∧(∀ r∈g,0≤r.2∧r.2≤256)∧n=ep (g.take i.toNat)∧0≤n∧n≤256 * i,mu:=fun ((_,i):Int×Int)=>(g.length - i).toNat } }
 | _=>none
def vN:Spec:={ Ts:=[.arr bb],Rs:=[.dat ty_I],pre:=fun (a:List Int)=>(aa a).2=0,F:=fun (a:List Int)=>ep (aU false [] (aa a).1) }
def mS:Prop :=
  ∀ (x:List Int),(x.length * 8≤aA∧∀ (x_1:Int),x_1∈x→ak .u64 x_1)→(aa x).2=0→x.length≤256∧((0:Int)≤0∧0≤(↑(aN x).length:Int)∧(aN x).length≤256∧(∀ (r:bY),r∈aN x→0≤r.2∧r.2≤256)∧0=ep (List.take (Int.toNat 0) (aN x))∧(0:Int)≤0∧(0:Int)≤256 * 0)∧∀ (x_1:Int×Int),0≤x_1.2∧x_1.2≤(↑(aN x).length:Int)∧(aN x).length≤256∧(∀ (r:bY),r∈aN x→0≤r.2∧r.2≤256)∧x_1.1=ep (List.take x_1.2.toNat (aN x))∧0≤x_1.1∧x_1.1≤256 * x_1.2→(decide (x_1.2<(↑(aN x).length:Int))=true→0≤x_1.2∧x_1.2<(↑(aN x).length:Int)∧x_1.2.toNat<(aN x).length∧ak .i64 (x_1.1+((aN x).getD x_1.2.toNat (0,0)).2)∧ak .i64 (x_1.2+1)∧(0≤x_1.2+1∧x_1.2+1≤(↑(aN x).length:Int)∧(aN x).length≤256∧(∀ (r:bY),r∈aN x→0≤r.2∧r.2≤256)∧x_1.1+((aN x).getD x_1.2.toNat (0,0)).2=ep (List.take (x_1.2+1).toNat (aN x))∧0≤x_1.1+((aN x).getD x_1.2.toNat (0,0)).2∧x_1.1+((aN x).getD x_1.2.toNat (0,0)).2≤256 * (x_1.2+1))∧((↑(aN x).length:Int) - (x_1.2+1)).toNat<((↑(aN x).length:Int) - x_1.2).toNat)∧(decide (x_1.2<(↑(aN x).length:Int))=false→x_1.1=ep (aU false ([]:List bY) (aa x).1)∧True)
theorem sJ:mS:=by
 unfold mS;intro a hx hs;have hg:=xE hs;obtain ⟨g1,g2⟩:=pf hs;obtain ⟨hal,_⟩:=gY hs;rw [hg];have hgi:∀ r∈aU false [] (aa a).1,0≤r.2∧r.2≤256:=fun r hr=>by have:=g1 r hr; omega
 generalize aU false [] (aa a).1=g at *;refine ⟨hal,⟨by omega,by omega,g2,hgi,by trivial,by omega,by omega⟩,fun ⟨n,j⟩ ⟨j0,j1,_,_,j2,j3,j4⟩=>⟨fun hlt=>?_,fun hge=>?_⟩⟩
 ·simp only at j0 j1 j2 j3 j4 hlt ⊢;have hlt:=of_decide_eq_true hlt;have hm:=hgi _ (aI ((0,0):bY) j0 hlt);rw [pJ j0 hlt,← j2];generalize (g.getD j.toNat (0,0)).2=y at *;simp only [ak];exact ⟨j0,hlt,by omega,by omega,by omega,⟨by omega,by omega,g2,hgi,by trivial,by omega,by omega⟩,by omega⟩
 ·simp only at j0 j1 j2 hge ⊢;rw [bF (of_decide_eq_false hge)] at j2;exact ⟨j2,trivial⟩
theorem v6:vN.ok Tryz.prog 35:=aF (ann:=wC) (ae tX aq) Tryz.func35 (by kernel_rfl) sJ
theorem K0 {p:bY→Bool} {l:List bY} {i:Int} (h0:0≤i) (h1:i<l.length) (h2:∀ x∈l.take i.toNat,p x=false) (h3:p (l.getD i.toNat (0,0))=true):l.find? p=some (l.getD i.toNat (0,0)):=by
 have e:l=l.take i.toNat++(l.getD i.toNat (0,0)::l.drop (i+1).toNat):=by
  rw [← aW ((0,0):bY) h0 h1,List.take_append_drop]
 have hn:(l.take i.toNat).find? p=none:=List.find?_eq_none.2 fun x hx=>by rw [h2 x hx]; simp
 have:(l.take i.toNat++(l.getD i.toNat (0,0)::l.drop (i+1).toNat)).find? p=some (l.getD i.toNat (0,0)):=by
  rw [List.find?_append,hn,List.find?_cons_of_pos h3];rfl
 rwa [← e] at this
def cr (s:an) (slot:Int) (h:du):an×Bool:=if (ir s.1 h).2.2=true then ((jp s slot h).1,true) else (aK,false)
def EX:Nat→Option LoopGen
 | 3000011=>some eM
 | 1204000001=>some eM
 | 3=>some { rd:=[.own 18 129 fw,.dat 8 ty_I],A:=fun ((g,n):List bY×Int)=>{ cs:=[.dat 20 ty_I,.box 6 aE],inv:=fun ((i,_):Int×an)=>0≤i∧i≤g.length∧(∀ r∈g.take i.toNat,r.2<n),mu:=fun ((i,_):Int×an)=>(g.length - i).toNat } }
 | 8=>some { rd:=[.own 32 129 fw,.box 3 aE],A:=fun ((g,s):List bY×an)=>{ cs:=[.boxS 11 [.own 29 bb,.own 3 ty_I,.own 133 cz,.own 82 bC],.dat 34 ty_I],inv:=fun ((b,i):an×Int)=>0≤i∧i≤g.length∧b=((g.take i.toNat).foldl (fun a r=>aR a r.1 r.2) s.1,s.2)∧b.1.length=s.1.length,mu:=fun ((_,i):an×Int)=>(g.length - i).toNat } }
 | _=>none
def DP:Spec:={ Ts:=[aE,ty_I,de],Rs:=[.dat aE,.dat .bool],al:=true,pre:=fun ((s,slot,h):an×Int×du)=>mg s h∧0≤slot∧slot<s.2.1.length,F:=fun ((s,slot,h):an×Int×du)=>cr s slot h }
def tv:Prop :=
  ∀ (x:(List Int×List Int×List (Int×Int)×List (Int×Bool×Int))×Int×Int×Int×Int×Bool),((x.1.1.length * 8≤aA∧∀ (x_1:Int),x_1∈x.1.1→ak .u64 x_1)∧(x.1.2.1.length * 8≤aA∧∀ (x_1:Int),x_1∈x.1.2.1→ak .i64 x_1)∧(x.1.2.2.1.length * (8+8)≤aA∧∀ (x_1:Int×Int),x_1∈x.1.2.2.1→ak .i64 x_1.1∧ak .i64 x_1.2)∧x.1.2.2.2.length * (8+(8+8))≤aA∧∀ (x_1:Int×Bool×Int),x_1∈x.1.2.2.2→ak .i64 x_1.1∧True∧ak .i64 x_1.2.2)∧ak .i64 x.2.1∧ak .i64 x.2.2.1∧ak .i64 x.2.2.2.1∧ak .i64 x.2.2.2.2.1∧True→mg x.1 x.2.2∧0≤x.2.1∧x.2.1<(↑x.1.2.1.length:Int)→(ak .i64 (1+x.2.2.1)∧ak .i64 (1+x.2.2.1+x.2.2.2.1))∧x.1.1.length≤256∧((0:Int)≤0∧0≤(↑(aN x.1.1).length:Int)∧∀ (r:bY),r∈List.take (Int.toNat 0) (aN x.1.1)→r.2<ac x.2.2)∧∀ (x_1:Int×List Int×List Int×List (Int×Int)×List (Int×Bool×Int)),(0≤x_1.1∧x_1.1≤(↑(aN x.1.1).length:Int)∧∀ (r:bY),r∈List.take x_1.1.toNat (aN x.1.1)→r.2<ac x.2.2)→(decide (x_1.1<(↑(aN x.1.1).length:Int))=true→0≤x_1.1∧x_1.1<(↑(aN x.1.1).length:Int)∧x_1.1.toNat<(aN x.1.1).length∧(decide (((aN x.1.1).getD x_1.1.toNat (0,0)).2<ac x.2.2)=true→ak .i64 (x_1.1+1)∧(0≤x_1.1+1∧x_1.1+1≤(↑(aN x.1.1).length:Int)∧∀ (r:bY),r∈List.take (x_1.1+1).toNat (aN x.1.1)→r.2<ac x.2.2)∧((↑(aN x.1.1).length:Int) - (x_1.1+1)).toNat<((↑(aN x.1.1).length:Int) - x_1.1).toNat)∧(decide (((aN x.1.1).getD x_1.1.toNat (0,0)).2<ac x.2.2)=false→∀ (_:Array Value),True∧x.1.2.1.length * 8≤aA∧x.1.2.2.1.length * (8+8)≤aA∧x.1.2.1=x.1.2.1∧x.1.2.2.1=x.1.2.2.1∧x.1.2.2.1=x.1.2.2.1∧x.1.2.2.2=x.1.2.2.2∧x.1.2.2.2=x.1.2.2.2∧x.1.2.2.2=x.1.2.2.2∧x.1.2.2.2.length * (8+(8+8))≤aA∧x.1.1.length≤256∧((0:Int)≤0∧0≤(↑(aN x.1.1).length:Int)∧x.1=(List.foldl (fun (a:List Int) (r:bY)=>aR a r.1 r.2) x.1.1 (List.take (Int.toNat 0) (aN x.1.1)),x.1.2)∧x.1.1.length=x.1.1.length)∧∀ (x_2:(List Int×List Int×List (Int×Int)×List (Int×Bool×Int))×Int),0≤x_2.2∧x_2.2≤(↑(aN x.1.1).length:Int)∧x_2.1=(List.foldl (fun (a:List Int) (r:bY)=>aR a r.1 r.2) x.1.1 (List.take x_2.2.toNat (aN x.1.1)),x.1.2)∧x_2.1.1.length=x.1.1.length→(decide (x_2.2<(↑(aN x.1.1).length:Int))=true→0≤x_2.2∧x_2.2<(↑(aN x.1.1).length:Int)∧x_2.2.toNat<(aN x.1.1).length∧dy x_2.1.1 ((aN x.1.1).getD x_2.2.toNat (0,0)).1 ((aN x.1.1).getD x_2.2.toNat (0,0)).2∧ak .i64 (x_2.2+1)∧(0≤x_2.2+1∧x_2.2+1≤(↑(aN x.1.1).length:Int)∧(aR x_2.1.1 ((aN x.1.1).getD x_2.2.toNat (0,0)).1 ((aN x.1.1).getD x_2.2.toNat (0,0)).2,x_2.1.2)=(List.foldl (fun (a:List Int) (r:bY)=>aR a r.1 r.2) x.1.1 (List.take (x_2.2+1).toNat (aN x.1.1)),x.1.2)∧(aR x_2.1.1 ((aN x.1.1).getD x_2.2.toNat (0,0)).1 ((aN x.1.1).getD x_2.2.toNat (0,0)).2).length=x.1.1.length)∧((↑(aN x.1.1).length:Int) - (x_2.2+1)).toNat<((↑(aN x.1.1).length:Int) - x_2.2).toNat)∧(decide (x_2.2<(↑(aN x.1.1).length:Int))=false→ak .i64 (((aN x.1.1).getD x_1.1.toNat (0,0)).1+ac x.2.2)∧ak .i64 (((aN x.1.1).getD x_1.1.toNat (0,0)).2 - ac x.2.2)∧dy x_2.1.1 (((aN x.1.1).getD x_1.1.toNat (0,0)).1+ac x.2.2) (((aN x.1.1).getD x_1.1.toNat (0,0)).2 - ac x.2.2)∧af x.2.2=0∧0≤((aN x.1.1).getD x_1.1.toNat (0,0)).1∧((aN x.1.1).getD x_1.1.toNat (0,0)).1<(↑(aR x_2.1.1 (((aN x.1.1).getD x_1.1.toNat (0,0)).1+ac x.2.2) (((aN x.1.1).getD x_1.1.toNat (0,0)).2 - ac x.2.2)).length:Int)∧((aN x.1.1).getD x_1.1.toNat (0,0)).1.toNat<(aR x_2.1.1 (((aN x.1.1).getD x_1.1.toNat (0,0)).1+ac x.2.2) (((aN x.1.1).getD x_1.1.toNat (0,0)).2 - ac x.2.2)).length∧0≤x.2.1∧x.2.1<(↑x_2.1.2.1.length:Int)∧x.2.1.toNat<x_2.1.2.1.length∧((aR x_2.1.1 (((aN x.1.1).getD x_1.1.toNat (0,0)).1+ac x.2.2) (((aN x.1.1).getD x_1.1.toNat (0,0)).2 - ac x.2.2)).set ((aN x.1.1).getD x_1.1.toNat (0,0)).1.toNat (a6 x.2.2),x_2.1.2.1.set x.2.1.toNat ((aN x.1.1).getD x_1.1.toNat (0,0)).1,x_2.1.2.2)=(cr x.1 x.2.1 x.2.2).1∧true=(cr x.1 x.2.1 x.2.2).2∧True)))∧(decide (x_1.1<(↑(aN x.1.1).length:Int))=false→(([]:List Int),([]:List Int),([]:List (Int×Int)),([]:List (Int×Bool×Int)))=(cr x.1 x.2.1 x.2.2).1∧false=(cr x.1 x.2.1 x.2.2).2∧True)
theorem As:tv:=by
 unfold tv;intro ⟨s,slot,h⟩ ⟨⟨⟨hb,hw⟩,⟨hb2,_⟩,⟨hb3,_⟩,hb4,_⟩,_⟩ ⟨⟨hc,hh⟩,s0,s1⟩;simp only at hb hw hb2 hb3 hb4 hc hh s0 s1 ⊢;obtain ⟨h2,h3⟩:=KX hh;have hz:=bj h2;have hL:ac h=1+h.1+h.2.1:=rfl;have hsp:=(b7 hc).2.2.2.1;have hal:=(b7 hc).1;obtain ⟨g1,g2⟩:=pf hsp;have hJ:(dm s.1).1=(aU false [] (aa s.1).1).foldl (fun a r=>aR a r.1 r.2) s.1:=by unfold dm; rw [if_neg (by omega)]
 have T1:=nk hc h2 h3;have hLd:cr s slot h=if (ir s.1 h).2.2=true then (((ir s.1 h).1,s.2.1.set slot.toNat (ir s.1 h).2.1,s.2.2),true) else (aK,false):=rfl
 rw [xE hsp];generalize aU false [] (aa s.1).1=g at *;unfold aA at hb hb2 hb3 hb4 ⊢;refine ⟨by simp only [ak]; omega,hal,⟨by omega,by omega,by simp⟩,fun ⟨i,b⟩ ⟨i0,i1,i2⟩=>⟨fun hlt=>?_,fun hge=>?_⟩⟩
 ·simp only at i0 i1 i2 hlt ⊢;have hlt:=of_decide_eq_true hlt;have ht:=bo ((0,0):bY) i0 hlt;have hm:=aI ((0,0):bY) i0 hlt;have hgr:=g1 _ hm;refine ⟨i0,hlt,by omega,fun hc1=>?_,fun hc1 tm=>?_⟩
  ·have hc1:=of_decide_eq_true hc1;simp only [ak];refine ⟨by omega,⟨by omega,by omega,fun r hr=>?_⟩,by omega⟩;rw [ht] at hr;rcases List.mem_append.1 hr with hr | hr
   ·exact i2 r hr
   ·rw [List.mem_singleton.1 hr]; exact hc1
  ·have hc1:=of_decide_eq_false hc1;have hfd:=K0 (p:=fun r:bY=>decide (ac h≤r.2)) i0 hlt (fun x hx=>by have:=i2 x hx; simp; omega) (by simp only [decide_eq_true_eq]; omega);rw [hfd] at T1;simp only at T1;obtain ⟨_,_,_,_,_,_,t4⟩:=T1;rw [t4,if_pos rfl] at hLd;rw [hLd];generalize g.getD i.toNat (0,0)=r at *;refine ⟨trivial,by omega,by omega,by trivial,by trivial,by trivial,by trivial,by trivial,by trivial,by omega,hal,⟨by omega,by omega,by simp,by trivial⟩,fun ⟨b,j⟩ ⟨j0,j1,j2,j3⟩=>⟨fun hlt=>?_,fun hge=>?_⟩⟩
   ·simp only at j0 j1 j2 j3 hlt ⊢;have hlt:=of_decide_eq_true hlt;have ht:=bo ((0,0):bY) j0 hlt;have hgr:=g1 _ (aI ((0,0):bY) j0 hlt);have hlp:dy b.1 (g.getD j.toNat (0,0)).1 (g.getD j.toNat (0,0)).2:=⟨by omega,by omega,by omega,by omega⟩;rw [ht,List.foldl_append,iF hlp];simp only [List.foldl_cons,List.foldl_nil,ak];have e1:b.1=List.foldl (fun a r=>aR a r.1 r.2) s.1 (List.take j.toNat g):=by rw [j2]
    have e2:b.2=s.2:=by rw [j2]
    rw [← e1,← e2];exact ⟨j0,hlt,by omega,hlp,by omega,⟨by omega,by omega,by trivial,j3⟩,by omega⟩
   ·simp only at j0 j1 j2 j3 hge ⊢;rw [bF (of_decide_eq_false hge),← hJ] at j2;subst j2;simp only at j3 ⊢;have hlp:dy (dm s.1).1 (r.1+ac h) (r.2 - ac h):=⟨by omega,by omega,by omega,by omega⟩;rw [iF hlp,j3];simp only [ak];exact ⟨by omega,by omega,hlp,h2,by omega,by omega,by omega,s0,s1,by omega,by trivial,by trivial,trivial⟩
 ·simp only at i0 i1 i2 hge ⊢;rw [bF (of_decide_eq_false hge)] at i2;have hfd:g.find? (fun r:bY=>decide (ac h≤r.2))=none:=List.find?_eq_none.2 fun x hx=>by have:=i2 x hx; simp; omega
  rw [hfd] at T1;simp only at T1;rw [T1.2] at hLd;rw [hLd];exact ⟨by trivial,by trivial,trivial⟩
theorem Eh:DP.ok Tryz.prog 33:=aF (ann:=EX) (ae gN (ae tX (ae gA (ae BZ (ae kL aq))))) Tryz.func33 (by kernel_rfl) As
end
section
open Go
set_option maxRecDepth 100000
set_option maxHeartbeats 1000000
def ek (a:List Int) (x r to:Int):List Int×Int:=if isB (aa a).1 x=false then ([],5) else if r<0∨(dp a x).1≤r∨(to≠-1∧isB (aa a).1 to=false) then ([],4) else (a.set (x+1+r).toNat (to+1),0)
def CT:Nat→Option LoopGen
 | 10=>some { rd:=[.dat 0 (.arr bb),.dat 1 ty_I,.dat 2 ty_I,.dat 54 ty_I],wr:=[14],A:=fun ((a,x,r,n):List Int×Int×Int×Int)=>{ cs:=[.own 14 29 bb,.dat 55 ty_I],inv:=fun ((w,i):List Int×Int)=>0≤i∧i≤n∧n≤256∧0≤x∧0≤r∧x+1+r<a.length∧a.length≤256∧w=a.set (x+1+r).toNat i,mu:=fun ((_,i):List Int×Int)=>(n - i).toNat } }
 | _=>none
def AY:Spec:={ Ts:=[.arr bb,ty_I,ty_I,ty_I],Rs:=[.own 29 bb,.dat ty_I],pre:=fun ((a,_):List Int×Int×Int×Int)=>(au a).2.2=0,F:=fun ((a,x,r,to):List Int×Int×Int×Int)=>ek a x r to }
def qU:Prop :=
  ∀ (x:List Int×Int×Int×Int),(x.1.length * 8≤aA∧∀ (x_1:Int),x_1∈x.1→ak .u64 x_1)∧ak .i64 x.2.1∧ak .i64 x.2.2.1∧ak .i64 x.2.2.2→(au x.1).2.2=0→True∧((!(aj x.2.1 (aa x.1).1).2)=true→([]:List Int)=(ek x.1 x.2.1 x.2.2.1 x.2.2.2).1∧5=(ek x.1 x.2.1 x.2.2.1 x.2.2.2).2∧True)∧((!(aj x.2.1 (aa x.1).1).2)=false→True∧((decide (x.2.2.1<0)||decide ((aj x.2.1 (aa x.1).1).1.1≤x.2.2.1)||decide (x.2.2.2≠(-1))&&!(aj x.2.2.2 (aa x.1).1).2)=true→([]:List Int)=(ek x.1 x.2.1 x.2.2.1 x.2.2.2).1∧4=(ek x.1 x.2.1 x.2.2.1 x.2.2.2).2∧True)∧((decide (x.2.2.1<0)||decide ((aj x.2.1 (aa x.1).1).1.1≤x.2.2.1)||decide (x.2.2.2≠(-1))&&!(aj x.2.2.2 (aa x.1).1).2)=false→True∧ak .i64 (x.2.1+1)∧ak .i64 (x.2.1+1+x.2.2.1)∧0≤x.2.1+1+x.2.2.1∧x.2.1+1+x.2.2.1<(↑x.1.length:Int)∧(x.2.1+1+x.2.2.1).toNat<x.1.length∧ak .i64 (x.2.2.2+1)∧((0:Int)≤0∧0≤x.2.2.2+1∧x.2.2.2+1≤256∧0≤x.2.1∧0≤x.2.2.1∧x.2.1+1+x.2.2.1<(↑x.1.length:Int)∧x.1.length≤256∧x.1.set (x.2.1+1+x.2.2.1).toNat 0=x.1.set (x.2.1+1+x.2.2.1).toNat 0)∧∀ (x_1:List Int×Int),0≤x_1.2∧x_1.2≤x.2.2.2+1∧x.2.2.2+1≤256∧0≤x.2.1∧0≤x.2.2.1∧x.2.1+1+x.2.2.1<(↑x.1.length:Int)∧x.1.length≤256∧x_1.1=x.1.set (x.2.1+1+x.2.2.1).toNat x_1.2→(decide (x_1.2<x.2.2.2+1)=true→ak .i64 (x.2.1+1)∧ak .i64 (x.2.1+1+x.2.2.1)∧0≤x.2.1+1+x.2.2.1∧x.2.1+1+x.2.2.1<(↑x_1.1.length:Int)∧(x.2.1+1+x.2.2.1).toNat<x_1.1.length∧ak .u64 (x_1.1.getD (x.2.1+1+x.2.2.1).toNat 0+1)∧0≤x.2.1+1+x.2.2.1∧x.2.1+1+x.2.2.1<(↑x_1.1.length:Int)∧(x.2.1+1+x.2.2.1).toNat<x_1.1.length∧ak .i64 (x_1.2+1)∧(0≤x_1.2+1∧x_1.2+1≤x.2.2.2+1∧x.2.2.2+1≤256∧0≤x.2.1∧0≤x.2.2.1∧x.2.1+1+x.2.2.1<(↑x.1.length:Int)∧x.1.length≤256∧x_1.1.set (x.2.1+1+x.2.2.1).toNat (x_1.1.getD (x.2.1+1+x.2.2.1).toNat 0+1)=x.1.set (x.2.1+1+x.2.2.1).toNat (x_1.2+1))∧(x.2.2.2+1 - (x_1.2+1)).toNat<(x.2.2.2+1 - x_1.2).toNat)∧(decide (x_1.2<x.2.2.2+1)=false→x_1.1=(ek x.1 x.2.1 x.2.2.1 x.2.2.2).1∧0=(ek x.1 x.2.1 x.2.2.1 x.2.2.2).2∧True)))
theorem x9:qU:=by
 unfold qU;intro ⟨a,x,r,to⟩ ⟨⟨hb,hw⟩,hx,hr,ht⟩ hc;simp only at hb hw hx hr ht hc ⊢;have e:∀ y,(aj y (aa a).1).2=isB (aa a).1 y:=fun _=>rfl
 have e2:(aj x (aa a).1).1=dp a x:=rfl;simp only [e,e2];have hF:ek a x r to=if isB (aa a).1 x=false then ([],5) else if r<0∨(dp a x).1≤r∨(to≠-1∧isB (aa a).1 to=false) then ([],4) else (a.set (x+1+r).toNat (to+1),0):=rfl
 rw [hF];refine ⟨trivial,fun h=>?_,fun h=>⟨trivial,fun h2=>?_,fun h2=>?_⟩⟩
 ·rw [if_pos (by simpa using h)];exact ⟨rfl,rfl,trivial⟩
 ·have h:isB (aa a).1 x=true:=by simpa using h
  rw [if_neg (by rw [h]; simp),if_pos (by simpa [or_assoc] using h2)];exact ⟨rfl,rfl,trivial⟩
 have h:isB (aa a).1 x=true:=by simpa using h
 have h2:¬ (r<0∨(dp a x).1≤r∨(to≠-1∧isB (aa a).1 to=false)):=by
  intro h3;have:(decide (r<0)||decide ((dp a x).1≤r)||decide (to≠-1)&&!isB (aa a).1 to)=true:=by simpa [or_assoc] using h3
  rw [this] at h2;cases h2
 rw [if_neg (by rw [h]; simp),if_neg h2];obtain ⟨k1,k2,k3,k4,k5,k6⟩:=cI h;have hal:=(uk h).2.2.2.2
 have hto:-1≤to∧to≤255:=by
  by_cases h3:to=-1
  ·omega
  ·have h4:isB (aa a).1 to=true:=by
    cases h5:isB (aa a).1 to
    ·exact absurd (.inr (.inr ⟨h3,h5⟩)) h2
    ·rfl
   have:=gE h4;omega
 have hr0:0≤r∧r<(dp a x).1:=by omega
 have hkl:(x+1+r).toNat<a.length:=by omega
 simp only [ak];refine ⟨trivial,by omega,by omega,by omega,by omega,hkl,by omega,⟨by omega,by omega,by omega,by omega,by omega,by omega,hal,by first | trivial | rfl⟩,fun ⟨w,i⟩ ⟨i0,i1,i2,i3,i4,i5,i6,i7⟩=>⟨fun hlt=>?_,fun hge=>?_⟩⟩
 ·simp only at i0 i1 i2 i3 i4 i5 i6 i7 hlt ⊢;have hlt:=of_decide_eq_true hlt;have hwl:w.length=a.length:=by rw [i7]; simp
  have hwg:w.getD (x+1+r).toNat 0=i:=by rw [i7,List.getD_eq_getElem?_getD]; simp [hkl]
  rw [hwg];refine ⟨by omega,by omega,by omega,by omega,by omega,by omega,by omega,by omega,by omega,by omega,⟨by omega,by omega,by omega,by omega,by omega,by omega,hal,?_⟩,by omega⟩;rw [i7,List.set_set]
 ·simp only at i0 i1 i2 i3 i4 i5 i6 i7 hge ⊢;have hge:=of_decide_eq_false hge;rw [i7,show i=to+1 by omega];exact ⟨by first | trivial | rfl,by first | trivial | rfl,trivial⟩
theorem BW:AY.ok Tryz.prog 37:=aF (ann:=CT) (ae g8 (ae gA aq)) Tryz.func37 (by kernel_rfl) x9
theorem m8 (n:Int):∀ (l:List bW) (k:Int),0≤k→k+l.length≤65536→(∀ s∈l,0≤s.1) →
  bn n k l=if k≤n % 65536∧n % 65536<k+l.length∧(l.getD (n % 65536 - k).toNat (0,false,0)).2.1=true∧cu (n % 65536) (l.getD (n % 65536 - k).toNat (0,false,0))=n then n % 65536 else -1
 | [],k,_,_,_=>by
  simp only [bn,List.length_nil];rw [if_neg (by omega)]
 | s::l,k,h0,h1,h2=>by
  have ih:=m8 n l (k+1) (by omega) (by simp only [List.length_cons] at h1; omega) (fun t ht=>h2 t (by simp [ht]));have hs:=h2 s (by simp);simp only [List.length_cons] at *;simp only [bn,ih];by_cases hk:n % 65536=k
  ·rw [hk];simp only [Int.sub_self,Int.toNat_zero,List.getD_cons_zero];by_cases hc:s.2.1=true∧cu k s=n
   ·rw [if_pos hc,if_pos ⟨by omega,by omega,hc⟩]
   ·rw [if_neg hc,if_neg (by omega),if_neg (by intro h; exact hc h.2.2)]
  ·have hc:¬ (s.2.1=true∧cu k s=n):=by
    rintro ⟨_,h⟩;unfold cu at h;omega
   rw [if_neg hc];by_cases hlt:k≤n % 65536
   ·rw [show (n % 65536 - k).toNat=(n % 65536 - (k+1)).toNat+1 by omega,List.getD_cons_succ];congr 1;simp only [eq_iff_iff];constructor
    ·rintro ⟨_,q2,q3⟩; exact ⟨by omega,by omega,q3⟩
    ·rintro ⟨_,q2,q3⟩; exact ⟨by omega,by omega,q3⟩
   ·rw [if_neg (by omega),if_neg (by omega)]
theorem Cl {h:List bW} {n:Int} (hf:aO h=0):((ce h n).2=0∧bn n 0 h=(ce h n).1∧0≤(ce h n).1∧(ce h n).1<h.length)∨(ce h n=(0,9)∧bn n 0 h=-1):=by
 obtain ⟨z1,z2⟩:=gF hf;have h1:=m8 n h 0 (by omega) (by omega) (fun s hs=>(z2 s hs).1);simp only [Int.sub_zero,Int.zero_add] at h1;unfold ce;rw [if_neg (by omega),h1];by_cases hc:n % 65536<h.length∧(h.getD (n % 65536).toNat (0,false,0)).2.1=true∧cu (n % 65536) (h.getD (n % 65536).toNat (0,false,0))=n
 ·left;rw [if_pos hc,if_pos ⟨by omega,hc⟩];exact ⟨rfl,rfl,by simp only; omega,hc.1⟩
 ·right;rw [if_neg hc,if_neg (fun q=>hc q.2)];exact ⟨rfl,rfl⟩
theorem IX {h:List bW} (at_:Int) (hf:aO h=0) :
  ed h at_=if at_<0∨255<at_ then ([],0,4) else if ai aM 0 h<0 then ([],0,7) else (h.set (ai aM 0 h).toNat (ny h (ai aM 0 h) at_),cu (ai aM 0 h) (ny h (ai aM 0 h) at_),0):=by
 unfold ed;rw [if_neg (by omega)];by_cases ht:at_<0∨255<at_
 ·rw [if_pos ht,if_pos (by unfold eH; grind)]
 ·rw [if_neg ht,if_neg (by unfold eH; grind)]
abbrev lr:Ty:=.pair ty_I (.pair ty_I (.pair ty_I (.pair ty_I bb)))
def cd (k a b c v:Int):Bool:=decide (k<1)||decide (13<k)||!(decide (k≠2)&&decide (k≠12))&&decide (a≠0)||!(decide (k=1)||decide (3≤k)&&decide (k≤6)||decide (k=9))&&decide (b≠0)||!(decide (k=1)||decide (k=3)||decide (k=4))&&decide (c≠0)||!(decide (k=1)||decide (k=6)||decide (k=11)||decide (k=12))&&decide (v≠0)
def Mr (b:Bool):Int:=if b=true then 1 else 0
def gf (s:an) (k a b c v:Int):an×Int×Int :=
 if k=1 then ((bL s a (b,c,v % 65536,false)).1,Mr (bL s a (b,c,v % 65536,false)).2.1,(bL s a (b,c,v % 65536,false)).2.2)
 else if k=2 then ((d5 s).1,(d5 s).2,0)
 else if k=3 then ((jW s a b c).1,0,(jW s a b c).2)
 else if k=4 then ((jU s a b c).1,0,(jU s a b c).2)
 else if k=5 then (if aZ s a b≠0 then (aK,0,aZ s a b) else (s,s.1.getD (ca s (aB s a) b).toNat 0,0))
 else if k=6 then ((jX s a b v).1,0,(jX s a b v).2)
 else if k=7 then gL s a
 else if k=8 then ((dJ s a).1,0,(dJ s a).2)
 else if k=9 then (if cB s a b≠0 then (aK,0,cB s a b) else (s,s.1.getD (ca s a b).toNat 0,0))
 else if k=10 then gy s a
 else if k=11 then ((iJ s v a).1,0,(iJ s v a).2)
 else if k=12 then ((fy s v).1,0,(fy s v).2)
 else ((ge s a).1,0,(ge s a).2)
def ax (s:an) (k a b c v:Int):an×Int×Int:=if cd k a b c v=true then (aK,0,1) else if aC s≠0 then (aK,0,aC s) else gf s k a b c v
def dx (k:Int):Bool:=decide (k=3)||decide (k=4)||decide (k=5)||decide (k=6)||decide (k=7)||decide (k=10)
def fx (k:Int):Bool:=decide (k=1)||decide (k=11)||decide (k=13)
theorem JW (s:an) (a b c v:Int):gf s 1 a b c v=((bL s a (b,c,v % 65536,false)).1,Mr (bL s a (b,c,v % 65536,false)).2.1,(bL s a (b,c,v % 65536,false)).2.2):=if_pos rfl
theorem Lm (s:an) (a b c v:Int):gf s 2 a b c v=((d5 s).1,(d5 s).2,0):=by unfold gf; rw [if_neg (by omega),if_pos rfl]
theorem JV (s:an) (a b c v:Int):gf s 3 a b c v=((jW s a b c).1,0,(jW s a b c).2):=by
 unfold gf
 iterate 2 rw [if_neg (by omega)]
 rw [if_pos rfl]
theorem JU (s:an) (a b c v:Int):gf s 4 a b c v=((jU s a b c).1,0,(jU s a b c).2):=by
 unfold gf
 iterate 3 rw [if_neg (by omega)]
 rw [if_pos rfl]
theorem JT (s:an) (a b c v:Int):gf s 5 a b c v=(if aZ s a b≠0 then (aK,0,aZ s a b) else (s,s.1.getD (ca s (aB s a) b).toNat 0,0)):=by
 unfold gf
 iterate 4 rw [if_neg (by omega)]
 rw [if_pos rfl]
theorem JS (s:an) (a b c v:Int):gf s 6 a b c v=((jX s a b v).1,0,(jX s a b v).2):=by
 unfold gf
 iterate 5 rw [if_neg (by omega)]
 rw [if_pos rfl]
theorem JR (s:an) (a b c v:Int):gf s 7 a b c v=gL s a:=by
 unfold gf
 iterate 6 rw [if_neg (by omega)]
 rw [if_pos rfl]
theorem Ll (s:an) (a b c v:Int):gf s 8 a b c v=((dJ s a).1,0,(dJ s a).2):=by
 unfold gf
 iterate 7 rw [if_neg (by omega)]
 rw [if_pos rfl]
theorem Lk (s:an) (a b c v:Int):gf s 9 a b c v=(if cB s a b≠0 then (aK,0,cB s a b) else (s,s.1.getD (ca s a b).toNat 0,0)):=by
 unfold gf
 iterate 8 rw [if_neg (by omega)]
 rw [if_pos rfl]
theorem EN (s:an) (a b c v:Int):gf s 10 a b c v=gy s a:=by
 unfold gf
 iterate 9 rw [if_neg (by omega)]
 rw [if_pos rfl]
theorem zW (s:an) (a b c v:Int):gf s 11 a b c v=((iJ s v a).1,0,(iJ s v a).2):=by
 unfold gf
 iterate 10 rw [if_neg (by omega)]
 rw [if_pos rfl]
theorem EM (s:an) (a b c v:Int):gf s 12 a b c v=((fy s v).1,0,(fy s v).2):=by
 unfold gf
 iterate 11 rw [if_neg (by omega)]
 rw [if_pos rfl]
theorem EL (s:an) (a b c v:Int):gf s 13 a b c v=((ge s a).1,0,(ge s a).2):=by
 unfold gf
 iterate 12 rw [if_neg (by omega)]
theorem Mn {s:an} {a:Int} (h0:aC s=0) (h:a<0∨(s.2.1.length:Int)≤a∨s.2.1.getD a.toNat 0<0):bM s a=5:=by
 unfold bM;rw [if_neg (by omega),if_pos h]
theorem KQ {s:an} {a:Int} (h0:aC s=0) (h:0≤a) (h1:a<s.2.1.length) (h2:0≤aB s a):bM s a=0:=by
 unfold aB at h2;unfold bM;rw [if_neg (by omega),if_neg (by omega)]
theorem L6 {s:an} {a:Int} (h0:aC s=0) (h:a<0∨(s.2.1.length:Int)≤a):bO s a=5:=by
 unfold bO;rw [if_neg (by omega),if_pos h]
theorem IH {s:an} {a:Int} (h0:aC s=0) (h:0≤a) (h1:a<s.2.1.length):bO s a=0:=by
 unfold bO;rw [if_neg (by omega),if_neg (by omega)]
theorem za {s:an} {k a b c:Int} (v:Int) (hk:k=3∨k=4) (h:bH s a b c≠0):gf s k a b c v=(aK,0,bH s a b c):=by
 rcases hk with rfl | rfl
 ·rw [JV]; unfold jW; rw [if_pos h]
 ·rw [JU]; unfold jU; rw [if_pos h]
theorem CN {s:an} {k a b:Int} (c v:Int) (hk:k=5∨k=6) (h:aZ s a b≠0):gf s k a b c v=(aK,0,aZ s a b):=by
 rcases hk with rfl | rfl
 ·rw [JT,if_pos h]
 ·rw [JS]; unfold jX; rw [if_pos h]
theorem GY {k:Int} (h:dx k=true):(k=3∨k=4)∨(k=5∨k=6)∨k=7∨k=10:=by
 unfold dx at h;simp only [Bool.or_eq_true,decide_eq_true_eq] at h;omega
theorem IG {k:Int} (h:fx k=true):k=1∨k=11∨k=13:=by
 unfold fx at h;simp only [Bool.or_eq_true,decide_eq_true_eq] at h;omega
theorem HN {s:an} {k a:Int} (b c v:Int) (h0:aC s=0) (hr:dx k=true) (h:a<0∨(s.2.1.length:Int)≤a∨s.2.1.getD a.toNat 0<0):gf s k a b c v=(aK,0,5):=by
 have e:=Mn h0 h;have hR:bH s a b c=5:=by unfold bH; rw [if_pos (by omega)]; exact e
 have hB:aZ s a b=5:=by unfold aZ; rw [if_pos (by omega)]; exact e
 rcases GY hr with hk | hk | rfl | rfl
 ·rw [za v hk (by omega),hR]
 ·rw [CN c v hk (by omega),hB]
 ·rw [JR]; unfold gL; rw [if_pos (by omega),e]
 ·rw [EN]; unfold gy; rw [if_pos (by omega),e]
theorem HM {s:an} {k a:Int} (b c v:Int) (h0:aC s=0) (hr:fx k=true) (h:a<0∨(s.2.1.length:Int)≤a):gf s k a b c v=(aK,0,5):=by
 have e:=L6 h0 h;rcases IG hr with rfl | rfl | rfl
 ·rw [JW]; unfold bL; rw [if_pos (by omega),e]; rfl
 ·rw [zW]; unfold iJ; rw [if_pos (by omega),e]
 ·rw [EL]; unfold ge; rw [if_pos (by omega),e]
theorem yA:∀ (l:List bY),(∀ r∈l,0≤r.2∧r.2≤256)→0≤ep l∧ep l≤256 * (l.length:Int)
 | [],_=>by simp [ep]
 | r::l,h=>by
  have ih:=yA l fun x hx=>h x (List.mem_cons_of_mem _ hx)
  have h1:=h r List.mem_cons_self;have e:ep (r::l)=r.2+ep l:=by simp [ep]
  rw [e,List.length_cons];omega
theorem Ji {s:an} (R:Right s) {x b:Int} (O:ObjAt s x) (b0:0≤b) (b1:b<(dp s.1 x).1):((aL s.1 x (aj x (aa s.1).1).1).length:Int)=(dp s.1 x).1∧(aL s.1 x (aj x (aa s.1).1).1).getD b.toNat 0=s.1.getD (x+1+b).toNat 0 - 1:=by
 have hv:=R.refWord O.isb b0 b1;have e:(aj x (aa s.1).1).1=dp s.1 x:=rfl;have h1:=O.x0;have h2:=O.b0;have h3:=O.fit;rw [e];unfold aL;refine ⟨by simp; omega,?_⟩;have hlt:(x+1+b).toNat<s.1.length:=by omega
 have hg:s.1[(x+1+b).toNat]?=some (s.1.getD (x+1+b).toNat 0):=by rw [List.getD_eq_getElem?_getD,List.getElem?_eq_getElem hlt]; rfl
 rw [List.getD_eq_getElem?_getD,List.getElem?_map,List.getElem?_drop,List.getElem?_take,if_pos (by omega),show (x+1).toNat+b.toNat=(x+1+b).toNat by omega,hg];generalize s.1.getD (x+1+b).toNat 0=w at *;simp only [Option.map_some,Option.getD_some,nameOf];rw [if_neg (by omega)]
theorem C5 {s:an} (R:Right s) {x b c:Int} (O:ObjAt s x) (b0:0≤b) (b1:b<(dp s.1 x).1) (c0:0≤c) (c1:c<s.2.1.length):(ek s.1 x b (aB s c)).1=s.1.set (x+1+b).toNat (aB s c+1):=by
 unfold ek;rw [if_neg (by rw [O.isb]; simp),if_neg];rintro (h | h | ⟨h1,h2⟩)
 ·omega
 ·omega
 ·have h3:=R.rootIn c0 c1;unfold aB at h1 h2;rw [(R.obj (R.rootNam c0 c1 (by omega))).isb] at h2;cases h2
theorem IU {s:an} (R:Right s) {a:Int}:cP (cH s) a=false ↔ bK s.2.2.1 a=0:=by
 obtain ⟨_,h6,h7⟩:=mo R.pin;have e:cP (cH s) a=lR s.2.2.1 a:=rfl;rw [e,un h6];unfold bK;cases h:aT s.2.2.1 a with
 | none=>simp
 | some v =>
  have:=(h7 _ (kq h)).2.2.1;simp only at this;simp only [Option.isSome_some,Option.getD_some];constructor
  ·intro h; cases h
  ·intro h; omega
end
section
open Go
set_option maxRecDepth 100000
set_option maxHeartbeats 1000000
set_option maxHeartbeats 8000000
def Kb:Nat→Option LoopGen
 | 3000011=>some eM
 | 1204000001=>some eM
 | 3000029=>some eM
 | 3000030=>some eM
 | 1000018=>some { rd:=[.dat 155 ty_I],A:=fun (k:Int)=>{ cs:=[.dat 156 .bool],inv:=fun (b:Bool)=>b=dx k,mu:=fun _=>0 } }
 | 1000028=>some { rd:=[.dat 155 ty_I],A:=fun (k:Int)=>{ cs:=[.dat 195 .bool],inv:=fun (b:Bool)=>b=fx k,mu:=fun _=>0 } }
 | 1000023=>some { rd:=[.box 2 aE,.box 3 lr],A:=fun ((s,k,a,_):an×Int×Int×Int×Int×Int)=>{ cs:=[.dat 16 ty_I,.box 17 de,.box 4 aE],inv:=fun ((x,h,_):Int×du×an)=>(dx k=true→0≤a∧a<s.2.1.length∧0≤aB s a∧x=aB s a∧h=dp s.1 x)∧(fx k=true→0≤a∧a<s.2.1.length),mu:=fun _=>0 } }
 | 1000049=>some { rd:=[.dat 210 ty_I],A:=fun (k:Int)=>{ cs:=[.dat 267 .bool],inv:=fun (b:Bool)=>b=(decide (k=3)||decide (k=4)),mu:=fun _=>0 } }
 | 1000059=>some { rd:=[.dat 210 ty_I],A:=fun (k:Int)=>{ cs:=[.dat 328 .bool],inv:=fun (b:Bool)=>b=(decide (k=5)||decide (k=6)),mu:=fun _=>0 } }
 | 1000100=>some { rd:=[.dat 210 ty_I],A:=fun (k:Int)=>{ cs:=[.dat 535 .bool],inv:=fun (b:Bool)=>b=(decide (k=11)||decide (k=12)),mu:=fun _=>0 } }
 | 92=>some { rd:=[.box 2 aE],A:=fun (s:an)=>{ cs:=[.dat 499 ty_I,.boxS 10 [.own 29 bb,.own 3 ty_I,.own 133 cz,.own 82 bC],.box 4 aE],inv:=fun ((i,b,_):Int×an×an)=>0≤i∧i≤s.2.2.2.length∧b=s∧ai aM i (s.2.2.2.drop i.toNat)=ai aM 0 s.2.2.2,mu:=fun ((i,_):Int×an×an)=>(s.2.2.2.length - i).toNat } }
 | _=>none
def Iv:Spec:={ Ts:=[aE,lr],Rs:=[.dat aE,.dat bb,.dat ty_I],al:=true,pre:=fun _=>True,F:=fun ((s,k,a,b,c,v):an×Int×Int×Int×Int×Int)=>ax s k a b c v }
def BE:Prop :=
  ∀ (x:(List Int×List Int×List (Int×Int)×List (Int×Bool×Int))×Int×Int×Int×Int×Int),((x.1.1.length * 8≤aA∧∀ (x_1:Int),x_1∈x.1.1→ak .u64 x_1)∧(x.1.2.1.length * 8≤aA∧∀ (x_1:Int),x_1∈x.1.2.1→ak .i64 x_1)∧(x.1.2.2.1.length * (8+8)≤aA∧∀ (x_1:Int×Int),x_1∈x.1.2.2.1→ak .i64 x_1.1∧ak .i64 x_1.2)∧x.1.2.2.2.length * (8+(8+8))≤aA∧∀ (x_1:Int×Bool×Int),x_1∈x.1.2.2.2→ak .i64 x_1.1∧True∧ak .i64 x_1.2.2)∧ak .i64 x.2.1∧ak .i64 x.2.2.1∧ak .i64 x.2.2.2.1∧ak .i64 x.2.2.2.2.1∧ak .u64 x.2.2.2.2.2→True→∀ (_:Array Value),True∧x.1.2.1.length * 8≤aA∧x.1.2.2.1.length * (8+8)≤aA∧x.1.2.1=x.1.2.1∧x.1.2.2.1=x.1.2.2.1∧x.1.2.2.1=x.1.2.2.1∧x.1.2.2.2=x.1.2.2.2∧x.1.2.2.2=x.1.2.2.2∧x.1.2.2.2=x.1.2.2.2∧x.1.2.2.2.length * (8+(8+8))≤aA∧((decide (x.2.1<1)||decide (13<x.2.1)||!(decide (x.2.1≠2)&&decide (x.2.1≠12))&&decide (x.2.2.1≠0)||!(decide (x.2.1=1)||decide (3≤x.2.1)&&decide (x.2.1≤6)||decide (x.2.1=9))&&decide (x.2.2.2.1≠0)||!(decide (x.2.1=1)||decide (x.2.1=3)||decide (x.2.1=4))&&decide (x.2.2.2.2.1≠0)||!(decide (x.2.1=1)||decide (x.2.1=6)||decide (x.2.1=11)||decide (x.2.1=12))&&decide (x.2.2.2.2.2≠0))=true→∀ (_:Array Value),(([]:List Int),([]:List Int),([]:List (Int×Int)),([]:List (Int×Bool×Int)))=(ax x.1 x.2.1 x.2.2.1 x.2.2.2.1 x.2.2.2.2.1 x.2.2.2.2.2).1∧0=(ax x.1 x.2.1 x.2.2.1 x.2.2.2.1 x.2.2.2.2.1 x.2.2.2.2.2).2.1∧1=(ax x.1 x.2.1 x.2.2.1 x.2.2.2.1 x.2.2.2.2.1 x.2.2.2.2.2).2.2∧True)∧((decide (x.2.1<1)||decide (13<x.2.1)||!(decide (x.2.1≠2)&&decide (x.2.1≠12))&&decide (x.2.2.1≠0)||!(decide (x.2.1=1)||decide (3≤x.2.1)&&decide (x.2.1≤6)||decide (x.2.1=9))&&decide (x.2.2.2.1≠0)||!(decide (x.2.1=1)||decide (x.2.1=3)||decide (x.2.1=4))&&decide (x.2.2.2.2.1≠0)||!(decide (x.2.1=1)||decide (x.2.1=6)||decide (x.2.1=11)||decide (x.2.1=12))&&decide (x.2.2.2.2.2≠0))=false→True∧(decide (aC x.1≠0)=true→∀ (_:Array Value),(([]:List Int),([]:List Int),([]:List (Int×Int)),([]:List (Int×Bool×Int)))=(ax x.1 x.2.1 x.2.2.1 x.2.2.2.1 x.2.2.2.2.1 x.2.2.2.2.2).1∧0=(ax x.1 x.2.1 x.2.2.1 x.2.2.2.1 x.2.2.2.2.1 x.2.2.2.2.2).2.1∧aC x.1=(ax x.1 x.2.1 x.2.2.1 x.2.2.2.1 x.2.2.2.2.1 x.2.2.2.2.2).2.2∧True)∧(decide (aC x.1≠0)=false→((decide (x.2.1=3)=true→decide (x.2.1=3)=dx x.2.1)∧(decide (x.2.1=3)=false→(decide (x.2.1=4)=true→decide (x.2.1=4)=dx x.2.1)∧(decide (x.2.1=4)=false→(decide (x.2.1=5)=true→decide (x.2.1=5)=dx x.2.1)∧(decide (x.2.1=5)=false→(decide (x.2.1=6)=true→decide (x.2.1=6)=dx x.2.1)∧(decide (x.2.1=6)=false→(decide (x.2.1=7)=true→decide (x.2.1=7)=dx x.2.1)∧(decide (x.2.1=7)=false→decide (x.2.1=10)=dx x.2.1))))))∧∀ (x_1:Bool),x_1=dx x.2.1→((x_1=true→∀ (_:Array Value),((!(decide (0≤x.2.2.1)&&decide (x.2.2.1<(↑x.1.2.1.length:Int))))=false→0≤x.2.2.1)∧((!(decide (0≤x.2.2.1)&&decide (x.2.2.1<(↑x.1.2.1.length:Int))))=false→x.2.2.1<(↑x.1.2.1.length:Int))∧((!(decide (0≤x.2.2.1)&&decide (x.2.2.1<(↑x.1.2.1.length:Int)))||decide (x.1.2.1.getD x.2.2.1.toNat (0:Int)<0))=true→∀ (_:Array Value),(([]:List Int),([]:List Int),([]:List (Int×Int)),([]:List (Int×Bool×Int)))=(ax x.1 x.2.1 x.2.2.1 x.2.2.2.1 x.2.2.2.2.1 x.2.2.2.2.2).1∧0=(ax x.1 x.2.1 x.2.2.1 x.2.2.2.1 x.2.2.2.2.1 x.2.2.2.2.2).2.1∧5=(ax x.1 x.2.1 x.2.2.1 x.2.2.2.1 x.2.2.2.2.1 x.2.2.2.2.2).2.2∧True)∧((!(decide (0≤x.2.2.1)&&decide (x.2.2.1<(↑x.1.2.1.length:Int)))||decide (x.1.2.1.getD x.2.2.1.toNat (0:Int)<0))=false→0≤x.2.2.1∧x.2.2.1<(↑x.1.2.1.length:Int)∧True∧(dx x.2.1=true→0≤x.2.2.1∧x.2.2.1<(↑x.1.2.1.length:Int)∧0≤aB x.1 x.2.2.1∧x.1.2.1.getD x.2.2.1.toNat 0=aB x.1 x.2.2.1∧(aj (x.1.2.1.getD x.2.2.1.toNat 0) (aa x.1.1).1).1=dp x.1.1 (x.1.2.1.getD x.2.2.1.toNat 0))∧(fx x.2.1=true→0≤x.2.2.1∧x.2.2.1<(↑x.1.2.1.length:Int))))∧(x_1=false→((decide (x.2.1=1)=true→decide (x.2.1=1)=fx x.2.1)∧(decide (x.2.1=1)=false→(decide (x.2.1=11)=true→decide (x.2.1=11)=fx x.2.1)∧(decide (x.2.1=11)=false→decide (x.2.1=13)=fx x.2.1)))∧∀ (x_2:Bool),x_2=fx x.2.1→(x_2=true→∀ (_:Array Value),((!(decide (0≤x.2.2.1)&&decide (x.2.2.1<(↑x.1.2.1.length:Int))))=true→∀ (_:Array Value),(([]:List Int),([]:List Int),([]:List (Int×Int)),([]:List (Int×Bool×Int)))=(ax x.1 x.2.1 x.2.2.1 x.2.2.2.1 x.2.2.2.2.1 x.2.2.2.2.2).1∧0=(ax x.1 x.2.1 x.2.2.1 x.2.2.2.1 x.2.2.2.2.1 x.2.2.2.2.2).2.1∧5=(ax x.1 x.2.1 x.2.2.1 x.2.2.2.1 x.2.2.2.2.1 x.2.2.2.2.2).2.2∧True)∧((!(decide (0≤x.2.2.1)&&decide (x.2.2.1<(↑x.1.2.1.length:Int))))=false→(dx x.2.1=true→0≤x.2.2.1∧x.2.2.1<(↑x.1.2.1.length:Int)∧0≤aB x.1 x.2.2.1∧0=aB x.1 x.2.2.1∧(0,0,0,false)=dp x.1.1 0)∧(fx x.2.1=true→0≤x.2.2.1∧x.2.2.1<(↑x.1.2.1.length:Int))))∧(x_2=false→(dx x.2.1=true→0≤x.2.2.1∧x.2.2.1<(↑x.1.2.1.length:Int)∧0≤aB x.1 x.2.2.1∧0=aB x.1 x.2.2.1∧(0,0,0,false)=dp x.1.1 0)∧(fx x.2.1=true→0≤x.2.2.1∧x.2.2.1<(↑x.1.2.1.length:Int)))))∧∀ (x_2:Int×(Int×Int×Int×Bool)×List Int×List Int×List (Int×Int)×List (Int×Bool×Int)),(dx x.2.1=true→0≤x.2.2.1∧x.2.2.1<(↑x.1.2.1.length:Int)∧0≤aB x.1 x.2.2.1∧x_2.1=aB x.1 x.2.2.1∧x_2.2.1=dp x.1.1 x_2.1)∧(fx x.2.1=true→0≤x.2.2.1∧x.2.2.1<(↑x.1.2.1.length:Int))→(decide (x.2.1=1)=true→0≤x.2.2.2.2.2∧(0:Int)<65536∧True∧(decide (af (x.2.2.2.1,x.2.2.2.2.1,IntKind.i64.wrap (x.2.2.2.2.2 % 65536),false)≠0)=true→∀ (_:Array Value),(([]:List Int),([]:List Int),([]:List (Int×Int)),([]:List (Int×Bool×Int)))=(ax x.1 x.2.1 x.2.2.1 x.2.2.2.1 x.2.2.2.2.1 x.2.2.2.2.2).1∧0=(ax x.1 x.2.1 x.2.2.1 x.2.2.2.1 x.2.2.2.2.1 x.2.2.2.2.2).2.1∧af (x.2.2.2.1,x.2.2.2.2.1,IntKind.i64.wrap (x.2.2.2.2.2 % 65536),false)=(ax x.1 x.2.1 x.2.2.1 x.2.2.2.1 x.2.2.2.2.1 x.2.2.2.2.2).2.2∧True)∧(decide (af (x.2.2.2.1,x.2.2.2.2.1,IntKind.i64.wrap (x.2.2.2.2.2 % 65536),false)≠0)=false→(mg x.1 (x.2.2.2.1,x.2.2.2.2.1,IntKind.i64.wrap (x.2.2.2.2.2 % 65536),false)∧0≤x.2.2.1∧x.2.2.1<(↑x.1.2.1.length:Int))∧((cr x.1 x.2.2.1 (x.2.2.2.1,x.2.2.2.2.1,IntKind.i64.wrap (x.2.2.2.2.2 % 65536),false)).2=true→(cr x.1 x.2.2.1 (x.2.2.2.1,x.2.2.2.2.1,IntKind.i64.wrap (x.2.2.2.2.2 % 65536),false)).1=(ax x.1 x.2.1 x.2.2.1 x.2.2.2.1 x.2.2.2.2.1 x.2.2.2.2.2).1∧0=(ax x.1 x.2.1 x.2.2.1 x.2.2.2.1 x.2.2.2.2.1 x.2.2.2.2.2).2.1∧0=(ax x.1 x.2.1 x.2.2.1 x.2.2.2.1 x.2.2.2.2.1 x.2.2.2.2.2).2.2∧True)∧((cr x.1 x.2.2.1 (x.2.2.2.1,x.2.2.2.2.1,IntKind.i64.wrap (x.2.2.2.2.2 % 65536),false)).2=false→aC x.1=0∧(mg (bc x.1) (x.2.2.2.1,x.2.2.2.2.1,IntKind.i64.wrap (x.2.2.2.2.2 % 65536),false)∧0≤x.2.2.1∧x.2.2.1<(↑(bc x.1).2.1.length:Int))∧x.1.1=x.1.1∧x.1.2.1=x.1.2.1∧x.1.2.2.1=x.1.2.2.1∧x.1.2.2.2=x.1.2.2.2∧aC x.1=0∧(bc x.1).1=(bc x.1).1∧(bc x.1).2.1=(bc x.1).2.1∧(bc x.1).2.2.1=(bc x.1).2.2.1∧(bc x.1).2.2.2=(bc x.1).2.2.2∧x.2.2.1=x.2.2.1∧x.2.2.2.1=x.2.2.2.1∧x.2.2.2.2.1=x.2.2.2.2.1∧IntKind.i64.wrap (x.2.2.2.2.2 % 65536)=IntKind.i64.wrap (x.2.2.2.2.2 % 65536)∧false=false∧(mg (bc x.1) (x.2.2.2.1,x.2.2.2.2.1,IntKind.i64.wrap (x.2.2.2.2.2 % 65536),false)∧0≤x.2.2.1∧x.2.2.1<(↑(bc x.1).2.1.length:Int))∧(cr (bc x.1) x.2.2.1 (x.2.2.2.1,x.2.2.2.2.1,IntKind.i64.wrap (x.2.2.2.2.2 % 65536),false)).1.1=(cr (bc x.1) x.2.2.1 (x.2.2.2.1,x.2.2.2.2.1,IntKind.i64.wrap (x.2.2.2.2.2 % 65536),false)).1.1∧(cr (bc x.1) x.2.2.1 (x.2.2.2.1,x.2.2.2.2.1,IntKind.i64.wrap (x.2.2.2.2.2 % 65536),false)).1.2.1=(cr (bc x.1) x.2.2.1 (x.2.2.2.1,x.2.2.2.2.1,IntKind.i64.wrap (x.2.2.2.2.2 % 65536),false)).1.2.1∧(cr (bc x.1) x.2.2.1 (x.2.2.2.1,x.2.2.2.2.1,IntKind.i64.wrap (x.2.2.2.2.2 % 65536),false)).1.2.2.1=(cr (bc x.1) x.2.2.1 (x.2.2.2.1,x.2.2.2.2.1,IntKind.i64.wrap (x.2.2.2.2.2 % 65536),false)).1.2.2.1∧(cr (bc x.1) x.2.2.1 (x.2.2.2.1,x.2.2.2.2.1,IntKind.i64.wrap (x.2.2.2.2.2 % 65536),false)).1.2.2.2=(cr (bc x.1) x.2.2.1 (x.2.2.2.1,x.2.2.2.2.1,IntKind.i64.wrap (x.2.2.2.2.2 % 65536),false)).1.2.2.2∧(cr (bc x.1) x.2.2.1 (x.2.2.2.1,x.2.2.2.2.1,IntKind.i64.wrap (x.2.2.2.2.2 % 65536),false)).2=(cr (bc x.1) x.2.2.1 (x.2.2.2.1,x.2.2.2.2.1,IntKind.i64.wrap (x.2.2.2.2.2 % 65536),false)).2∧(cr (bc x.1) x.2.2.1 (x.2.2.2.1,x.2.2.2.2.1,IntKind.i64.wrap (x.2.2.2.2.2 % 65536),false)).1.1=(cr (bc x.1) x.2.2.1 (x.2.2.2.1,x.2.2.2.2.1,IntKind.i64.wrap (x.2.2.2.2.2 % 65536),false)).1.1∧(cr (bc x.1) x.2.2.1 (x.2.2.2.1,x.2.2.2.2.1,IntKind.i64.wrap (x.2.2.2.2.2 % 65536),false)).1.2.1=(cr (bc x.1) x.2.2.1 (x.2.2.2.1,x.2.2.2.2.1,IntKind.i64.wrap (x.2.2.2.2.2 % 65536),false)).1.2.1∧(cr (bc x.1) x.2.2.1 (x.2.2.2.1,x.2.2.2.2.1,IntKind.i64.wrap (x.2.2.2.2.2 % 65536),false)).1.2.2.1=(cr (bc x.1) x.2.2.1 (x.2.2.2.1,x.2.2.2.2.1,IntKind.i64.wrap (x.2.2.2.2.2 % 65536),false)).1.2.2.1∧(cr (bc x.1) x.2.2.1 (x.2.2.2.1,x.2.2.2.2.1,IntKind.i64.wrap (x.2.2.2.2.2 % 65536),false)).1.2.2.2=(cr (bc x.1) x.2.2.1 (x.2.2.2.1,x.2.2.2.2.1,IntKind.i64.wrap (x.2.2.2.2.2 % 65536),false)).1.2.2.2∧(cr (bc x.1) x.2.2.1 (x.2.2.2.1,x.2.2.2.2.1,IntKind.i64.wrap (x.2.2.2.2.2 % 65536),false)).2=(cr (bc x.1) x.2.2.1 (x.2.2.2.1,x.2.2.2.2.1,IntKind.i64.wrap (x.2.2.2.2.2 % 65536),false)).2∧(cr (bc x.1) x.2.2.1 (x.2.2.2.1,x.2.2.2.2.1,IntKind.i64.wrap (x.2.2.2.2.2 % 65536),false)).1.1=(cr (bc x.1) x.2.2.1 (x.2.2.2.1,x.2.2.2.2.1,IntKind.i64.wrap (x.2.2.2.2.2 % 65536),false)).1.1∧(cr (bc x.1) x.2.2.1 (x.2.2.2.1,x.2.2.2.2.1,IntKind.i64.wrap (x.2.2.2.2.2 % 65536),false)).1.2.1=(cr (bc x.1) x.2.2.1 (x.2.2.2.1,x.2.2.2.2.1,IntKind.i64.wrap (x.2.2.2.2.2 % 65536),false)).1.2.1∧(cr (bc x.1) x.2.2.1 (x.2.2.2.1,x.2.2.2.2.1,IntKind.i64.wrap (x.2.2.2.2.2 % 65536),false)).1.2.2.1=(cr (bc x.1) x.2.2.1 (x.2.2.2.1,x.2.2.2.2.1,IntKind.i64.wrap (x.2.2.2.2.2 % 65536),false)).1.2.2.1∧(cr (bc x.1) x.2.2.1 (x.2.2.2.1,x.2.2.2.2.1,IntKind.i64.wrap (x.2.2.2.2.2 % 65536),false)).1.2.2.2=(cr (bc x.1) x.2.2.1 (x.2.2.2.1,x.2.2.2.2.1,IntKind.i64.wrap (x.2.2.2.2.2 % 65536),false)).1.2.2.2∧(cr (bc x.1) x.2.2.1 (x.2.2.2.1,x.2.2.2.2.1,IntKind.i64.wrap (x.2.2.2.2.2 % 65536),false)).2=(cr (bc x.1) x.2.2.1 (x.2.2.2.1,x.2.2.2.2.1,IntKind.i64.wrap (x.2.2.2.2.2 % 65536),false)).2∧(cr (bc x.1) x.2.2.1 (x.2.2.2.1,x.2.2.2.2.1,IntKind.i64.wrap (x.2.2.2.2.2 % 65536),false)).2=(cr (bc x.1) x.2.2.1 (x.2.2.2.1,x.2.2.2.2.1,IntKind.i64.wrap (x.2.2.2.2.2 % 65536),false)).2∧((cr (bc x.1) x.2.2.1 (x.2.2.2.1,x.2.2.2.2.1,IntKind.i64.wrap (x.2.2.2.2.2 % 65536),false)).2=true→(cr (bc x.1) x.2.2.1 (x.2.2.2.1,x.2.2.2.2.1,IntKind.i64.wrap (x.2.2.2.2.2 % 65536),false)).1=(ax x.1 x.2.1 x.2.2.1 x.2.2.2.1 x.2.2.2.2.1 x.2.2.2.2.2).1∧1=(ax x.1 x.2.1 x.2.2.1 x.2.2.2.1 x.2.2.2.2.1 x.2.2.2.2.2).2.1∧0=(ax x.1 x.2.1 x.2.2.1 x.2.2.2.1 x.2.2.2.2.1 x.2.2.2.2.2).2.2∧True)∧((cr (bc x.1) x.2.2.1 (x.2.2.2.1,x.2.2.2.2.1,IntKind.i64.wrap (x.2.2.2.2.2 % 65536),false)).2=false→∀ (_:Array Value),(([]:List Int),([]:List Int),([]:List (Int×Int)),([]:List (Int×Bool×Int)))=(ax x.1 x.2.1 x.2.2.1 x.2.2.2.1 x.2.2.2.2.1 x.2.2.2.2.2).1∧0=(ax x.1 x.2.1 x.2.2.1 x.2.2.2.1 x.2.2.2.2.1 x.2.2.2.2.2).2.1∧7=(ax x.1 x.2.1 x.2.2.1 x.2.2.2.1 x.2.2.2.2.1 x.2.2.2.2.2).2.2∧True))))∧(decide (x.2.1=1)=false→(decide (x.2.1=2)=true→aC x.1=0∧(aa (bc x.1).1).2=0∧IntKind.u64.wrap (ep (aU false ([]:List bY) (aa (bc x.1).1).1))=IntKind.u64.wrap (ep (aU false ([]:List bY) (aa (bc x.1).1).1))∧bc x.1=(ax x.1 x.2.1 x.2.2.1 x.2.2.2.1 x.2.2.2.2.1 x.2.2.2.2.2).1∧IntKind.u64.wrap (ep (aU false ([]:List bY) (aa (bc x.1).1).1))=(ax x.1 x.2.1 x.2.2.1 x.2.2.2.1 x.2.2.2.2.1 x.2.2.2.2.2).2.1∧0=(ax x.1 x.2.1 x.2.2.1 x.2.2.2.1 x.2.2.2.2.1 x.2.2.2.2.2).2.2∧True)∧(decide (x.2.1=2)=false→((decide (x.2.1=3)=true→decide (x.2.1=3)=(decide (x.2.1=3)||decide (x.2.1=4)))∧(decide (x.2.1=3)=false→decide (x.2.1=4)=(decide (x.2.1=3)||decide (x.2.1=4))))∧∀ (x_3:Bool),x_3=(decide (x.2.1=3)||decide (x.2.1=4))→(x_3=true→((decide (x.2.2.2.1<0)||decide (x_2.2.1.1≤x.2.2.2.1))=true→∀ (_:Array Value),(([]:List Int),([]:List Int),([]:List (Int×Int)),([]:List (Int×Bool×Int)))=(ax x.1 x.2.1 x.2.2.1 x.2.2.2.1 x.2.2.2.2.1 x.2.2.2.2.2).1∧0=(ax x.1 x.2.1 x.2.2.1 x.2.2.2.1 x.2.2.2.2.1 x.2.2.2.2.2).2.1∧4=(ax x.1 x.2.1 x.2.2.1 x.2.2.2.1 x.2.2.2.2.1 x.2.2.2.2.2).2.2∧True)∧((decide (x.2.2.2.1<0)||decide (x_2.2.1.1≤x.2.2.2.1))=false→∀ (_:Array Value),((!(decide (0≤x.2.2.2.2.1)&&decide (x.2.2.2.2.1<(↑x.1.2.1.length:Int))))=true→∀ (_:Array Value),(([]:List Int),([]:List Int),([]:List (Int×Int)),([]:List (Int×Bool×Int)))=(ax x.1 x.2.1 x.2.2.1 x.2.2.2.1 x.2.2.2.2.1 x.2.2.2.2.2).1∧0=(ax x.1 x.2.1 x.2.2.1 x.2.2.2.1 x.2.2.2.2.1 x.2.2.2.2.2).2.1∧5=(ax x.1 x.2.1 x.2.2.1 x.2.2.2.1 x.2.2.2.2.1 x.2.2.2.2.2).2.2∧True)∧((!(decide (0≤x.2.2.2.2.1)&&decide (x.2.2.2.2.1<(↑x.1.2.1.length:Int))))=false→(decide (x.2.1=3)=true→True∧0≤x.2.2.2.1∧x.2.2.2.1<(↑(aL x.1.1 x_2.1 (aj x_2.1 (aa x.1.1).1).1).length:Int)∧0≤x.2.2.2.2.1∧x.2.2.2.2.1<(↑x.1.2.1.length:Int)∧x.2.2.2.2.1.toNat<x.1.2.1.length∧(x.1.1,x.1.2.1.set x.2.2.2.2.1.toNat ((aL x.1.1 x_2.1 (aj x_2.1 (aa x.1.1).1).1).getD x.2.2.2.1.toNat 0),x.1.2.2)=(ax x.1 x.2.1 x.2.2.1 x.2.2.2.1 x.2.2.2.2.1 x.2.2.2.2.2).1∧0=(ax x.1 x.2.1 x.2.2.1 x.2.2.2.1 x.2.2.2.2.1 x.2.2.2.2.2).2.1∧0=(ax x.1 x.2.1 x.2.2.1 x.2.2.2.1 x.2.2.2.2.1 x.2.2.2.2.2).2.2∧True)∧(decide (x.2.1=3)=false→0≤x.2.2.2.2.1∧x.2.2.2.2.1<(↑x.1.2.1.length:Int)∧(au x.1.1).2.2=0∧(ek x.1.1 x_2.1 x.2.2.2.1 (x.1.2.1.getD x.2.2.2.2.1.toNat 0)).2=(ek x.1.1 x_2.1 x.2.2.2.1 (x.1.2.1.getD x.2.2.2.2.1.toNat 0)).2∧((ek x.1.1 x_2.1 x.2.2.2.1 (x.1.2.1.getD x.2.2.2.2.1.toNat 0)).1,x.1.2)=(ax x.1 x.2.1 x.2.2.1 x.2.2.2.1 x.2.2.2.2.1 x.2.2.2.2.2).1∧0=(ax x.1 x.2.1 x.2.2.1 x.2.2.2.1 x.2.2.2.2.1 x.2.2.2.2.2).2.1∧0=(ax x.1 x.2.1 x.2.2.1 x.2.2.2.1 x.2.2.2.2.1 x.2.2.2.2.2).2.2∧True))))∧(x_3=false→((decide (x.2.1=5)=true→decide (x.2.1=5)=(decide (x.2.1=5)||decide (x.2.1=6)))∧(decide (x.2.1=5)=false→decide (x.2.1=6)=(decide (x.2.1=5)||decide (x.2.1=6))))∧∀ (x_4:Bool),x_4=(decide (x.2.1=5)||decide (x.2.1=6))→(x_4=true→((decide (x.2.2.2.1<0)||decide (x_2.2.1.2.1≤x.2.2.2.1))=true→∀ (_:Array Value),(([]:List Int),([]:List Int),([]:List (Int×Int)),([]:List (Int×Bool×Int)))=(ax x.1 x.2.1 x.2.2.1 x.2.2.2.1 x.2.2.2.2.1 x.2.2.2.2.2).1∧0=(ax x.1 x.2.1 x.2.2.1 x.2.2.2.1 x.2.2.2.2.1 x.2.2.2.2.2).2.1∧4=(ax x.1 x.2.1 x.2.2.1 x.2.2.2.1 x.2.2.2.2.1 x.2.2.2.2.2).2.2∧True)∧((decide (x.2.2.2.1<0)||decide (x_2.2.1.2.1≤x.2.2.2.1))=false→ak .i64 (x_2.1+1)∧ak .i64 (x_2.1+1+x_2.2.1.1)∧ak .i64 (x_2.1+1+x_2.2.1.1+x.2.2.2.1)∧(decide (x.2.1=5)=true→0≤x_2.1+1+x_2.2.1.1+x.2.2.2.1∧x_2.1+1+x_2.2.1.1+x.2.2.2.1<(↑x.1.1.length:Int)∧x.1.1=x.1.1∧x_2.1+1+x_2.2.1.1+x.2.2.2.1=x_2.1+1+x_2.2.1.1+x.2.2.2.1∧0≤x_2.1+1+x_2.2.1.1+x.2.2.2.1∧x_2.1+1+x_2.2.1.1+x.2.2.2.1<(↑x.1.1.length:Int)∧x.1.1.getD (x_2.1+1+x_2.2.1.1+x.2.2.2.1).toNat 0=x.1.1.getD (x_2.1+1+x_2.2.1.1+x.2.2.2.1).toNat 0∧x.1.1.getD (x_2.1+1+x_2.2.1.1+x.2.2.2.1).toNat 0=x.1.1.getD (x_2.1+1+x_2.2.1.1+x.2.2.2.1).toNat 0∧x.1=(ax x.1 x.2.1 x.2.2.1 x.2.2.2.1 x.2.2.2.2.1 x.2.2.2.2.2).1∧x.1.1.getD (x_2.1+1+x_2.2.1.1+x.2.2.2.1).toNat 0=(ax x.1 x.2.1 x.2.2.1 x.2.2.2.1 x.2.2.2.2.1 x.2.2.2.2.2).2.1∧0=(ax x.1 x.2.1 x.2.2.1 x.2.2.2.1 x.2.2.2.2.1 x.2.2.2.2.2).2.2∧True)∧(decide (x.2.1=5)=false→0≤x_2.1+1+x_2.2.1.1+x.2.2.2.1∧x_2.1+1+x_2.2.1.1+x.2.2.2.1<(↑x.1.1.length:Int)∧(x_2.1+1+x_2.2.1.1+x.2.2.2.1).toNat<x.1.1.length∧(x.1.1.set (x_2.1+1+x_2.2.1.1+x.2.2.2.1).toNat x.2.2.2.2.2,x.1.2)=(ax x.1 x.2.1 x.2.2.1 x.2.2.2.1 x.2.2.2.2.1 x.2.2.2.2.2).1∧0=(ax x.1 x.2.1 x.2.2.1 x.2.2.2.1 x.2.2.2.2.1 x.2.2.2.2.2).2.1∧0=(ax x.1 x.2.1 x.2.2.1 x.2.2.2.1 x.2.2.2.2.1 x.2.2.2.2.2).2.2∧True)))∧(x_4=false→(decide (x.2.1=7)=true→True∧((decide ((aT (cR ([]:List bk) x.1.2.2.1) x_2.1).getD (0:Int)=1000000)||decide ((aT (cR ([]:List bk) x.1.2.2.1) x_2.1).getD (0:Int)=0)&&decide ((↑x.1.2.2.1.length:Int)=16))=true→∀ (_:Array Value),(([]:List Int),([]:List Int),([]:List (Int×Int)),([]:List (Int×Bool×Int)))=(ax x.1 x.2.1 x.2.2.1 x.2.2.2.1 x.2.2.2.2.1 x.2.2.2.2.2).1∧0=(ax x.1 x.2.1 x.2.2.1 x.2.2.2.1 x.2.2.2.2.1 x.2.2.2.2.2).2.1∧7=(ax x.1 x.2.1 x.2.2.1 x.2.2.2.1 x.2.2.2.2.1 x.2.2.2.2.2).2.2∧True)∧((decide ((aT (cR ([]:List bk) x.1.2.2.1) x_2.1).getD (0:Int)=1000000)||decide ((aT (cR ([]:List bk) x.1.2.2.1) x_2.1).getD (0:Int)=0)&&decide ((↑x.1.2.2.1.length:Int)=16))=false→ak .i64 ((aT (cR ([]:List bk) x.1.2.2.1) x_2.1).getD 0+1)∧True∧(x.1.1,x.1.2.1,ij (eg (cR ([]:List bk) x.1.2.2.1) x_2.1 ((aT (cR ([]:List bk) x.1.2.2.1) x_2.1).getD 0+1)),x.1.2.2.2)=(ax x.1 x.2.1 x.2.2.1 x.2.2.2.1 x.2.2.2.2.1 x.2.2.2.2.2).1∧IntKind.u64.wrap x_2.1=(ax x.1 x.2.1 x.2.2.1 x.2.2.2.1 x.2.2.2.2.1 x.2.2.2.2.2).2.1∧0=(ax x.1 x.2.1 x.2.2.1 x.2.2.2.1 x.2.2.2.2.1 x.2.2.2.2.2).2.2∧True))∧(decide (x.2.1=7)=false→(decide (x.2.1=8)=true→True∧((decide (x.2.2.1<0)||decide (255<x.2.2.1))=true→∀ (_:Array Value),(([]:List Int),([]:List Int),([]:List (Int×Int)),([]:List (Int×Bool×Int)))=(ax x.1 x.2.1 x.2.2.1 x.2.2.2.1 x.2.2.2.2.1 x.2.2.2.2.2).1∧0=(ax x.1 x.2.1 x.2.2.1 x.2.2.2.1 x.2.2.2.2.1 x.2.2.2.2.2).2.1∧4=(ax x.1 x.2.1 x.2.2.1 x.2.2.2.1 x.2.2.2.2.1 x.2.2.2.2.2).2.2∧True)∧((decide (x.2.2.1<0)||decide (255<x.2.2.1))=false→(decide ((aT (cR ([]:List bk) x.1.2.2.1) x.2.2.1).getD (0:Int)=0)=true→∀ (_:Array Value),(([]:List Int),([]:List Int),([]:List (Int×Int)),([]:List (Int×Bool×Int)))=(ax x.1 x.2.1 x.2.2.1 x.2.2.2.1 x.2.2.2.2.1 x.2.2.2.2.2).1∧0=(ax x.1 x.2.1 x.2.2.1 x.2.2.2.1 x.2.2.2.2.1 x.2.2.2.2.2).2.1∧5=(ax x.1 x.2.1 x.2.2.1 x.2.2.2.1 x.2.2.2.2.1 x.2.2.2.2.2).2.2∧True)∧(decide ((aT (cR ([]:List bk) x.1.2.2.1) x.2.2.1).getD (0:Int)=0)=false→ak .i64 ((aT (cR ([]:List bk) x.1.2.2.1) x.2.2.1).getD 0 - 1)∧True∧(x.1.1,x.1.2.1,ij (eg (cR ([]:List bk) x.1.2.2.1) x.2.2.1 ((aT (cR ([]:List bk) x.1.2.2.1) x.2.2.1).getD 0 - 1)),x.1.2.2.2)=(ax x.1 x.2.1 x.2.2.1 x.2.2.2.1 x.2.2.2.2.1 x.2.2.2.2.2).1∧0=(ax x.1 x.2.1 x.2.2.1 x.2.2.2.1 x.2.2.2.2.1 x.2.2.2.2.2).2.1∧0=(ax x.1 x.2.1 x.2.2.1 x.2.2.2.1 x.2.2.2.2.1 x.2.2.2.2.2).2.2∧True)))∧(decide (x.2.1=8)=false→(decide (x.2.1=9)=true→True∧(decide ((aT (cR ([]:List bk) x.1.2.2.1) x.2.2.1).getD (0:Int)=0)=true→∀ (_:Array Value),(([]:List Int),([]:List Int),([]:List (Int×Int)),([]:List (Int×Bool×Int)))=(ax x.1 x.2.1 x.2.2.1 x.2.2.2.1 x.2.2.2.2.1 x.2.2.2.2.2).1∧0=(ax x.1 x.2.1 x.2.2.1 x.2.2.2.1 x.2.2.2.2.1 x.2.2.2.2.2).2.1∧8=(ax x.1 x.2.1 x.2.2.1 x.2.2.2.1 x.2.2.2.2.1 x.2.2.2.2.2).2.2∧True)∧(decide ((aT (cR ([]:List bk) x.1.2.2.1) x.2.2.1).getD (0:Int)=0)=false→True∧((decide (x.2.2.2.1<0)||decide ((aj x.2.2.1 (aa x.1.1).1).1.2.1≤x.2.2.2.1))=true→∀ (_:Array Value),(([]:List Int),([]:List Int),([]:List (Int×Int)),([]:List (Int×Bool×Int)))=(ax x.1 x.2.1 x.2.2.1 x.2.2.2.1 x.2.2.2.2.1 x.2.2.2.2.2).1∧0=(ax x.1 x.2.1 x.2.2.1 x.2.2.2.1 x.2.2.2.2.1 x.2.2.2.2.2).2.1∧4=(ax x.1 x.2.1 x.2.2.1 x.2.2.2.1 x.2.2.2.2.1 x.2.2.2.2.2).2.2∧True)∧((decide (x.2.2.2.1<0)||decide ((aj x.2.2.1 (aa x.1.1).1).1.2.1≤x.2.2.2.1))=false→ak .i64 (x.2.2.1+1)∧ak .i64 (x.2.2.1+1+(aj x.2.2.1 (aa x.1.1).1).1.1)∧ak .i64 (x.2.2.1+1+(aj x.2.2.1 (aa x.1.1).1).1.1+x.2.2.2.1)∧0≤x.2.2.1+1+(aj x.2.2.1 (aa x.1.1).1).1.1+x.2.2.2.1∧x.2.2.1+1+(aj x.2.2.1 (aa x.1.1).1).1.1+x.2.2.2.1<(↑x.1.1.length:Int)∧x.1.1=x.1.1∧x.2.2.1=x.2.2.1∧ak .i64 (x.2.2.1+1)∧x.2.2.1+1=x.2.2.1+1∧(aj x.2.2.1 (aa x.1.1).1).1.1=(aj x.2.2.1 (aa x.1.1).1).1.1∧ak .i64 (x.2.2.1+1+(aj x.2.2.1 (aa x.1.1).1).1.1)∧x.2.2.1+1+(aj x.2.2.1 (aa x.1.1).1).1.1=x.2.2.1+1+(aj x.2.2.1 (aa x.1.1).1).1.1∧x.2.2.2.1=x.2.2.2.1∧ak .i64 (x.2.2.1+1+(aj x.2.2.1 (aa x.1.1).1).1.1+x.2.2.2.1)∧x.2.2.1+1+(aj x.2.2.1 (aa x.1.1).1).1.1+x.2.2.2.1=x.2.2.1+1+(aj x.2.2.1 (aa x.1.1).1).1.1+x.2.2.2.1∧0≤x.2.2.1+1+(aj x.2.2.1 (aa x.1.1).1).1.1+x.2.2.2.1∧x.2.2.1+1+(aj x.2.2.1 (aa x.1.1).1).1.1+x.2.2.2.1<(↑x.1.1.length:Int)∧x.1.1.getD (x.2.2.1+1+(aj x.2.2.1 (aa x.1.1).1).1.1+x.2.2.2.1).toNat 0=x.1.1.getD (x.2.2.1+1+(aj x.2.2.1 (aa x.1.1).1).1.1+x.2.2.2.1).toNat 0∧x.1.1.getD (x.2.2.1+1+(aj x.2.2.1 (aa x.1.1).1).1.1+x.2.2.2.1).toNat 0=x.1.1.getD (x.2.2.1+1+(aj x.2.2.1 (aa x.1.1).1).1.1+x.2.2.2.1).toNat 0∧x.1=(ax x.1 x.2.1 x.2.2.1 x.2.2.2.1 x.2.2.2.2.1 x.2.2.2.2.2).1∧x.1.1.getD (x.2.2.1+1+(aj x.2.2.1 (aa x.1.1).1).1.1+x.2.2.2.1).toNat 0=(ax x.1 x.2.1 x.2.2.1 x.2.2.2.1 x.2.2.2.2.1 x.2.2.2.2.2).2.1∧0=(ax x.1 x.2.1 x.2.2.1 x.2.2.2.1 x.2.2.2.2.1 x.2.2.2.2.2).2.2∧True)))∧(decide (x.2.1=9)=false→(decide (x.2.1=10)=true→((0:Int)≤0∧0≤(↑x.1.2.2.2.length:Int)∧x.1=x.1∧ai aM 0 (List.drop (Int.toNat 0) x.1.2.2.2)=ai aM 0 x.1.2.2.2)∧∀ (x_5:Int×(List Int×List Int×List (Int×Int)×List (Int×Bool×Int))×List Int×List Int×List (Int×Int)×List (Int×Bool×Int)),0≤x_5.1∧x_5.1≤(↑x.1.2.2.2.length:Int)∧x_5.2.1=x.1∧ai aM x_5.1 (List.drop x_5.1.toNat x.1.2.2.2)=ai aM 0 x.1.2.2.2→(decide (x_5.1<(↑x.1.2.2.2.length:Int))=true→0≤x_5.1∧x_5.1<(↑x.1.2.2.2.length:Int)∧((!(x.1.2.2.2.getD x_5.1.toNat (0,false,0)).2.1&&decide ((x.1.2.2.2.getD x_5.1.toNat (0,false,0)).1<65535))=true→ak .i64 ((x.1.2.2.2.getD x_5.1.toNat (0,false,0)).1+1)∧0≤x_5.1∧x_5.1<(↑x_5.2.1.2.2.2.length:Int)∧x_5.1.toNat<x_5.2.1.2.2.2.length∧0≤x_5.1∧x_5.1<(↑(x_5.2.1.2.2.2.set x_5.1.toNat ((x.1.2.2.2.getD x_5.1.toNat (0,false,0)).1+1,true,x_2.1)).length:Int)∧x_5.1.toNat<(x_5.2.1.2.2.2.set x_5.1.toNat ((x.1.2.2.2.getD x_5.1.toNat (0,false,0)).1+1,true,x_2.1)).length∧(0≤x_5.1∧x_5.1<65536∧0≤((x_5.2.1.2.2.2.set x_5.1.toNat ((x.1.2.2.2.getD x_5.1.toNat (0,false,0)).1+1,true,x_2.1)).getD x_5.1.toNat (0,false,0)).1∧((x_5.2.1.2.2.2.set x_5.1.toNat ((x.1.2.2.2.getD x_5.1.toNat (0,false,0)).1+1,true,x_2.1)).getD x_5.1.toNat (0,false,0)).1≤65535)∧(x_5.2.1.1,x_5.2.1.2.1,x_5.2.1.2.2.1,x_5.2.1.2.2.2.set x_5.1.toNat ((x.1.2.2.2.getD x_5.1.toNat (0,false,0)).1+1,true,x_2.1))=(ax x.1 x.2.1 x.2.2.1 x.2.2.2.1 x.2.2.2.2.1 x.2.2.2.2.2).1∧cu x_5.1 ((x_5.2.1.2.2.2.set x_5.1.toNat ((x.1.2.2.2.getD x_5.1.toNat (0,false,0)).1+1,true,x_2.1)).getD x_5.1.toNat (0,false,0))=(ax x.1 x.2.1 x.2.2.1 x.2.2.2.1 x.2.2.2.2.1 x.2.2.2.2.2).2.1∧0=(ax x.1 x.2.1 x.2.2.1 x.2.2.2.1 x.2.2.2.2.1 x.2.2.2.2.2).2.2∧True)∧((!(x.1.2.2.2.getD x_5.1.toNat (0,false,0)).2.1&&decide ((x.1.2.2.2.getD x_5.1.toNat (0,false,0)).1<65535))=false→ak .i64 (x_5.1+1)∧(0≤x_5.1+1∧x_5.1+1≤(↑x.1.2.2.2.length:Int)∧x_5.2.1=x.1∧ai aM (x_5.1+1) (List.drop (x_5.1+1).toNat x.1.2.2.2)=ai aM 0 x.1.2.2.2)∧((↑x.1.2.2.2.length:Int) - (x_5.1+1)).toNat<((↑x.1.2.2.2.length:Int) - x_5.1).toNat))∧(decide (x_5.1<(↑x.1.2.2.2.length:Int))=false→∀ (_:Array Value),(([]:List Int),([]:List Int),([]:List (Int×Int)),([]:List (Int×Bool×Int)))=(ax x.1 x.2.1 x.2.2.1 x.2.2.2.1 x.2.2.2.2.1 x.2.2.2.2.2).1∧0=(ax x.1 x.2.1 x.2.2.1 x.2.2.2.1 x.2.2.2.2.1 x.2.2.2.2.2).2.1∧7=(ax x.1 x.2.1 x.2.2.1 x.2.2.2.1 x.2.2.2.2.1 x.2.2.2.2.2).2.2∧True))∧(decide (x.2.1=10)=false→((decide (x.2.1=11)=true→decide (x.2.1=11)=(decide (x.2.1=11)||decide (x.2.1=12)))∧(decide (x.2.1=11)=false→decide (x.2.1=12)=(decide (x.2.1=11)||decide (x.2.1=12))))∧∀ (x_5:Bool),x_5=(decide (x.2.1=11)||decide (x.2.1=12))→(x_5=true→aO x.1.2.2.2=0∧(decide (bn x.2.2.2.2.2 0 x.1.2.2.2<0)=true→∀ (_:Array Value),(([]:List Int),([]:List Int),([]:List (Int×Int)),([]:List (Int×Bool×Int)))=(ax x.1 x.2.1 x.2.2.1 x.2.2.2.1 x.2.2.2.2.1 x.2.2.2.2.2).1∧0=(ax x.1 x.2.1 x.2.2.1 x.2.2.2.1 x.2.2.2.2.1 x.2.2.2.2.2).2.1∧9=(ax x.1 x.2.1 x.2.2.1 x.2.2.2.1 x.2.2.2.2.1 x.2.2.2.2.2).2.2∧True)∧(decide (bn x.2.2.2.2.2 0 x.1.2.2.2<0)=false→(decide (x.2.1=11)=true→0≤bn x.2.2.2.2.2 0 x.1.2.2.2∧bn x.2.2.2.2.2 0 x.1.2.2.2<(↑x.1.2.2.2.length:Int)∧0≤x.2.2.1∧x.2.2.1<(↑x.1.2.1.length:Int)∧x.2.2.1.toNat<x.1.2.1.length∧(x.1.1,x.1.2.1.set x.2.2.1.toNat (x.1.2.2.2.getD (bn x.2.2.2.2.2 0 x.1.2.2.2).toNat (0,false,0)).2.2,x.1.2.2)=(ax x.1 x.2.1 x.2.2.1 x.2.2.2.1 x.2.2.2.2.1 x.2.2.2.2.2).1∧0=(ax x.1 x.2.1 x.2.2.1 x.2.2.2.1 x.2.2.2.2.1 x.2.2.2.2.2).2.1∧0=(ax x.1 x.2.1 x.2.2.1 x.2.2.2.1 x.2.2.2.2.1 x.2.2.2.2.2).2.2∧True)∧(decide (x.2.1=11)=false→0≤bn x.2.2.2.2.2 0 x.1.2.2.2∧bn x.2.2.2.2.2 0 x.1.2.2.2<(↑x.1.2.2.2.length:Int)∧0≤bn x.2.2.2.2.2 0 x.1.2.2.2∧bn x.2.2.2.2.2 0 x.1.2.2.2<(↑x.1.2.2.2.length:Int)∧(bn x.2.2.2.2.2 0 x.1.2.2.2).toNat<x.1.2.2.2.length∧(x.1.1,x.1.2.1,x.1.2.2.1,x.1.2.2.2.set (bn x.2.2.2.2.2 0 x.1.2.2.2).toNat ((x.1.2.2.2.getD (bn x.2.2.2.2.2 0 x.1.2.2.2).toNat (0,false,0)).1,false,0))=(ax x.1 x.2.1 x.2.2.1 x.2.2.2.1 x.2.2.2.2.1 x.2.2.2.2.2).1∧0=(ax x.1 x.2.1 x.2.2.1 x.2.2.2.1 x.2.2.2.2.1 x.2.2.2.2.2).2.1∧0=(ax x.1 x.2.1 x.2.2.1 x.2.2.2.1 x.2.2.2.2.1 x.2.2.2.2.2).2.2∧True)))∧(x_5=false→0≤x.2.2.1∧x.2.2.1<(↑x.1.2.1.length:Int)∧x.2.2.1.toNat<x.1.2.1.length∧(x.1.1,x.1.2.1.set x.2.2.1.toNat (-1),x.1.2.2)=(ax x.1 x.2.1 x.2.2.1 x.2.2.2.1 x.2.2.2.2.1 x.2.2.2.2.2).1∧0=(ax x.1 x.2.1 x.2.2.1 x.2.2.2.1 x.2.2.2.2.1 x.2.2.2.2.2).2.1∧0=(ax x.1 x.2.1 x.2.2.1 x.2.2.2.1 x.2.2.2.2.1 x.2.2.2.2.2).2.2∧True)))))))))))
theorem F9:BE:=by
 unfold BE;intro ⟨s,k,a,b,c,v⟩ ⟨⟨⟨hb,hw⟩,⟨hb2,_⟩,⟨hb3,_⟩,hb4,_⟩,_,ha,_,_,hv⟩ _;simp only at hb hw hb2 hb3 hb4 ha hv ⊢;simp only [ak] at ha hv;have hD:ax s k a b c v=if cd k a b c v=true then (aK,0,1) else if aC s≠0 then (aK,0,aC s) else gf s k a b c v:=rfl
 refine fun tm=>⟨trivial,hb2,hb3,by first | exact trivial | rfl,by first | exact trivial | rfl,by first | exact trivial | rfl,by first | exact trivial | rfl,by first | exact trivial | rfl,by first | exact trivial | rfl,hb4,fun h=>?_,fun h=>⟨trivial,fun h1=>?_,fun h1=>?_⟩⟩
 ·have h:cd k a b c v=true:=h;rw [hD,if_pos h];exact fun _=>⟨by first | exact trivial | rfl,by first | exact trivial | rfl,by first | exact trivial | rfl,trivial⟩
 ·have h:cd k a b c v=false:=h;rw [hD,if_neg (by rw [h]; simp),if_pos (of_decide_eq_true h1)];exact fun _=>⟨by first | exact trivial | rfl,by first | exact trivial | rfl,by first | exact trivial | rfl,trivial⟩
 have h:cd k a b c v=false:=h;have h0:aC s=0:=by simpa using of_decide_eq_false h1
 rw [if_neg (by rw [h]; simp),if_neg (by omega)] at hD
 have hk13:1≤k∧k≤13:=by
  unfold cd at h;simp only [Bool.or_eq_false_iff,decide_eq_false_iff_not] at h;omega
 have R:=iv hw h0;have hal:=R.al;have hsm:=R.small;rw [hD];refine ⟨⟨fun q=>by unfold dx; simp [q],fun q3=>⟨fun q=>by unfold dx; simp [q],fun q4=>⟨fun q=>by unfold dx; simp [q],fun q5=>⟨fun q=>by unfold dx; simp [q],fun q6=>⟨fun q=>by unfold dx; simp [q],fun q7=>by unfold dx; simp [q3,q4,q5,q6,q7]⟩⟩⟩⟩⟩,fun x1 e1=>⟨⟨fun hr tm=>⟨fun q=>?_,fun q=>?_,fun q=>?_,fun q=>?_⟩,fun hr=>⟨⟨fun q=>by unfold fx; simp [q],fun q1=>⟨fun q=>by unfold fx; simp [q],fun q2=>by unfold fx; simp [q1,q2]⟩⟩,fun x2 e2=>⟨fun hs tm=>⟨fun q=>?_,fun q=>?_⟩,fun hs=>⟨fun hx=>?_,fun hx=>?_⟩⟩⟩⟩,fun ⟨x,hd,st⟩ ⟨hi1,hi2⟩=>?_⟩⟩
 ·have q:0≤a∧a<s.2.1.length:=by simpa using q
  exact q.1
 ·have q:0≤a∧a<s.2.1.length:=by simpa using q
  exact q.2
 ·have hr:dx k=true:=by rw [← e1]; exact hr
  have q:a<0∨(s.2.1.length:Int)≤a∨s.2.1.getD a.toNat 0<0:=by
   simp only [Bool.or_eq_true,Bool.not_eq_true',Bool.and_eq_false_iff,decide_eq_false_iff_not,decide_eq_true_eq] at q;omega
  rw [HN b c v h0 hr q];exact fun _=>⟨by first | exact trivial | rfl,by first | exact trivial | rfl,by first | exact trivial | rfl,trivial⟩
 ·have q:(0≤a∧a<s.2.1.length)∧¬ s.2.1.getD a.toNat 0<0:=by
   simp only [Bool.or_eq_false_iff,Bool.not_eq_false',Bool.and_eq_true,decide_eq_false_iff_not,decide_eq_true_eq] at q;exact q
  exact ⟨by omega,by omega,trivial,fun _=>⟨by omega,by omega,by unfold aB; omega,rfl,rfl⟩,fun _=>⟨by omega,by omega⟩⟩
 ·have hs:fx k=true:=by rw [← e2]; exact hs
  have q:a<0∨(s.2.1.length:Int)≤a:=by
   simp only [Bool.not_eq_true',Bool.and_eq_false_iff,decide_eq_false_iff_not] at q;omega
  rw [HM b c v h0 hs q];exact fun _=>⟨by first | exact trivial | rfl,by first | exact trivial | rfl,by first | exact trivial | rfl,trivial⟩
 ·have q:0≤a∧a<s.2.1.length:=by simpa using q
  exact ⟨fun hx=>absurd hx (by rw [← e1,hr]; simp),fun _=>⟨q.1,q.2⟩⟩
 ·exact absurd hx (by rw [← e1,hr]; simp)
 ·exact absurd hx (by rw [← e2,hs]; simp)
 simp only at hi1 hi2 ⊢;clear hb hb2 hb3 hb4 h1 tm hD h;refine ⟨fun k1=>?_,fun k1=>⟨fun k2=>?_,fun k2=>⟨⟨fun q=>by simp [q],fun q=>by simp [q]⟩,fun x3 e3=>⟨fun k34=>?_,fun k34=>⟨⟨fun q=>by simp [q],fun q=>by simp [q]⟩,fun x4 e4=>⟨fun k56=>?_,fun k56=>⟨fun k7=>?_,fun k7=>⟨fun k8=>?_,fun k8=>⟨fun k9=>?_,fun k9=>⟨fun k10=>?_,fun k10=>⟨⟨fun q=>by simp [q],fun q=>by simp [q]⟩,fun x5 e5=>⟨fun k11=>?_,fun k11=>?_⟩⟩⟩⟩⟩⟩⟩⟩⟩⟩⟩⟩
 ·have k1:=of_decide_eq_true k1;subst k1;obtain ⟨a0,a1⟩:=hi2 rfl;have hwr:IntKind.i64.wrap (v % 65536)=v % 65536:=je (by omega) (by omega);have hS:=IH h0 a0 a1;simp only [hwr,JW]
  have hM:bL s a (b,c,v % 65536,false)=if bO s a≠0 then (aK,false,bO s a) else if gS (b,c,v % 65536,false)≠0 then (aK,false,gS (b,c,v % 65536,false)) else
   if (jp s a (b,c,v % 65536,false)).2=true then ((jp s a (b,c,v % 65536,false)).1,false,0) else if (jp (bc s) a (b,c,v % 65536,false)).2=true then ((jp (bc s) a (b,c,v % 65536,false)).1,true,0) else (aK,false,7):=rfl
  have hH:gS (b,c,v % 65536,false)=if af (b,c,v % 65536,false)≠0 then af (b,c,v % 65536,false) else if false=true then 3 else 0:=rfl
  have hL:∀ t,cr t a (b,c,v % 65536,false)=if (jp t a (b,c,v % 65536,false)).2=true then ((jp t a (b,c,v % 65536,false)).1,true) else (aK,false):=fun _=>rfl
  have hsl:(bc s).2.1.length=s.2.1.length:=List.length_map ..;generalize (b,c,v % 65536,false)=hh at *;rw [if_neg (by omega)] at hM;refine ⟨by omega,by omega,trivial,fun q=>?_,fun q=>?_⟩
  ·have q:=of_decide_eq_true q;rw [if_pos q] at hH;rw [hM,if_pos (by omega),hH];exact fun _=>⟨by first | exact trivial | rfl,by first | exact trivial | rfl,by first | exact trivial | rfl,trivial⟩
  have q:=of_decide_eq_false q;rw [if_neg q,if_neg (by simp)] at hH;rw [if_neg (by omega)] at hM;refine ⟨⟨⟨R.chk,hH⟩,a0,a1⟩,fun q1=>?_,fun q1=>?_⟩
  ·have hs1:(jp s a hh).2=true:=by
    rw [hL] at q1;split at q1
    ·assumption
    ·cases q1
   rw [hM,if_pos hs1,hL,if_pos hs1];exact ⟨by first | exact trivial | rfl,by first | exact trivial | rfl,by first | exact trivial | rfl,trivial⟩
  have hs1:¬ (jp s a hh).2=true:=by
   rw [hL] at q1;split at q1
   ·cases q1
   ·assumption
  rw [if_neg hs1] at hM;have hpre:mg (bc s) hh∧0≤a∧a<((bc s).2.1.length:Int):=⟨⟨R.slidOK.1,hH⟩,a0,by omega⟩;refine ⟨h0,hpre,by first | exact trivial | rfl,by first | exact trivial | rfl,by first | exact trivial | rfl,by first | exact trivial | rfl,h0,by first | exact trivial | rfl,by first | exact trivial | rfl,by first | exact trivial | rfl,by first | exact trivial | rfl,by first | exact trivial | rfl,by first | exact trivial | rfl,by first | exact trivial | rfl,by first | exact trivial | rfl,by first | exact trivial | rfl,hpre,by first | exact trivial | rfl,by first | exact trivial | rfl,by first | exact trivial | rfl,by first | exact trivial | rfl,by first | exact trivial | rfl,by first | exact trivial | rfl,by first | exact trivial | rfl,by first | exact trivial | rfl,by first | exact trivial | rfl,by first | exact trivial | rfl,by first | exact trivial | rfl,by first | exact trivial | rfl,by first | exact trivial | rfl,by first | exact trivial | rfl,by first | exact trivial | rfl,by first | exact trivial | rfl,fun q2=>?_,fun q2=>?_⟩
  ·have hs2:(jp (bc s) a hh).2=true:=by
    rw [hL] at q2;split at q2
    ·assumption
    ·cases q2
   rw [hM,if_pos hs2,hL,if_pos hs2];exact ⟨by first | exact trivial | rfl,by first | exact trivial | rfl,by first | exact trivial | rfl,trivial⟩
  ·have hs2:¬ (jp (bc s) a hh).2=true:=by
    rw [hL] at q2;split at q2
    ·cases q2
    ·assumption
   rw [hM,if_neg hs2];exact fun _=>⟨by first | exact trivial | rfl,by first | exact trivial | rfl,by first | exact trivial | rfl,trivial⟩
 ·have k2:=of_decide_eq_true k2;subst k2;have hz:=(b7 R.slidOK.1).2.2.2.1;have hg:=yA (aU false [] (aa (cU s)).1) (fun r hr=>by have:=R.gaps.2.1 r hr; omega);have hl:=R.gaps.2.2;have e:(bc s).1=cU s:=rfl;have hC:d5 s=(bc s,ep (aU false [] (aa (cU s)).1)):=rfl;rw [Lm,hC,e,fm (by omega) (by omega)];exact ⟨h0,hz,by first | exact trivial | rfl,by first | exact trivial | rfl,by first | exact trivial | rfl,by first | exact trivial | rfl,trivial⟩
 ·have hk:k=3∨k=4:=by
   rw [e3] at k34;simpa using k34
  obtain ⟨a0,a1,a2,ex,eh⟩:=hi1 (by rcases hk with rfl | rfl <;> rfl);subst ex;subst eh;have O:ObjAt s (aB s a):=R.obj (R.rootNam a0 a1 a2);have e0:=KQ h0 a0 a1 a2
  have hR:bH s a b c=if b<0∨(dp s.1 (aB s a)).1≤b then 4 else if c<0∨(s.2.1.length:Int)≤c then 5 else 0:=by
   unfold bH;rw [if_neg (by omega)]
  refine ⟨fun q=>?_,fun q tm=>⟨fun q2=>?_,fun q2=>?_⟩⟩
  ·have q:b<0∨(dp s.1 (aB s a)).1≤b:=by simpa using q
   rw [if_pos q] at hR;rw [za v hk (by omega),hR];exact fun _=>⟨by first | exact trivial | rfl,by first | exact trivial | rfl,by first | exact trivial | rfl,trivial⟩
  all_goals have q:¬ (b<0∨(dp s.1 (aB s a)).1≤b):=by simpa using q
  all_goals rw [if_neg q] at hR
  ·have q2:c<0∨(s.2.1.length:Int)≤c:=by
    simp only [Bool.not_eq_true',Bool.and_eq_false_iff,decide_eq_false_iff_not] at q2;omega
   rw [if_pos q2] at hR;rw [za v hk (by omega),hR];exact fun _=>⟨by first | exact trivial | rfl,by first | exact trivial | rfl,by first | exact trivial | rfl,trivial⟩
  have q5:0≤c∧c<s.2.1.length:=by simpa using q2
  rw [if_neg (by omega)] at hR;refine ⟨fun k3=>?_,fun k3=>?_⟩
  ·have k3:=of_decide_eq_true k3;subst k3;obtain ⟨n1,n2⟩:=Ji R O (b:=b) (by omega) (by omega);rw [JV,n2];unfold jW;rw [if_neg (by omega)];exact ⟨trivial,by omega,by omega,q5.1,q5.2,by omega,by first | exact trivial | rfl,by first | exact trivial | rfl,by first | exact trivial | rfl,trivial⟩
  ·have k4:k=4:=by
    have:=of_decide_eq_false k3;omega
   subst k4;have hwt:=C5 R O (b:=b) (c:=c) (by omega) (by omega) q5.1 q5.2;rw [JU];unfold jU;rw [if_neg (by omega),← hwt];exact ⟨q5.1,q5.2,R.chk,by first | exact trivial | rfl,by first | exact trivial | rfl,by first | exact trivial | rfl,by first | exact trivial | rfl,trivial⟩
 ·have hk:k=5∨k=6:=by
   rw [e4] at k56;simpa using k56
  obtain ⟨a0,a1,a2,ex,eh⟩:=hi1 (by rcases hk with rfl | rfl <;> rfl);subst ex;subst eh;have O:ObjAt s (aB s a):=R.obj (R.rootNam a0 a1 a2);have e0:=KQ h0 a0 a1 a2
  have hB:aZ s a b=if b<0∨(dp s.1 (aB s a)).2.1≤b then 4 else 0:=by
   unfold aZ;rw [if_neg (by omega)]
  have:=O.x0;have:=O.r0;have:=O.fit;refine ⟨fun q=>?_,fun q=>?_⟩
  ·have q:b<0∨(dp s.1 (aB s a)).2.1≤b:=by simpa using q
   rw [if_pos q] at hB;rw [CN c v hk (by omega),hB];exact fun _=>⟨by first | exact trivial | rfl,by first | exact trivial | rfl,by first | exact trivial | rfl,trivial⟩
  have q:¬ (b<0∨(dp s.1 (aB s a)).2.1≤b):=by simpa using q
  rw [if_neg q] at hB;simp only [ak];refine ⟨by omega,by omega,by omega,fun k5=>?_,fun k5=>?_⟩
  ·have k5:=of_decide_eq_true k5;subst k5;rw [JT,if_neg (by omega)];exact ⟨by omega,by omega,by first | exact trivial | rfl,by first | exact trivial | rfl,by omega,by omega,by first | exact trivial | rfl,by first | exact trivial | rfl,by first | exact trivial | rfl,by first | exact trivial | rfl,by first | exact trivial | rfl,trivial⟩
  ·have k6:k=6:=by
    have:=of_decide_eq_false k5;omega
   subst k6;rw [JS];unfold jX;rw [if_neg (by omega)];exact ⟨by omega,by omega,by omega,by first | exact trivial | rfl,by first | exact trivial | rfl,by first | exact trivial | rfl,trivial⟩
 ·have k7:=of_decide_eq_true k7;subst k7;obtain ⟨a0,a1,a2,ex,eh⟩:=hi1 rfl;subst ex;have O:ObjAt s (aB s a):=R.obj (R.rootNam a0 a1 a2);have e0:=KQ h0 a0 a1 a2;have:=O.x0;have:=O.r0;have:=O.b0;have:=O.fit;obtain ⟨_,p1,p2,p3,p4,p5,_⟩:=BS R.pin (k:=aB s a) (by omega) (by omega);have em:(aT s.2.2.1 (aB s a)).getD 0=bK s.2.2.1 (aB s a):=rfl;rw [p1,em,JR];unfold gL;rw [if_neg (by omega)];refine ⟨trivial,fun q=>?_,fun q=>?_⟩
  ·have q:bK s.2.2.1 (aB s a)=1000000∨(bK s.2.2.1 (aB s a)=0∧s.2.2.1.length=16):=by
    simp only [Bool.or_eq_true,Bool.and_eq_true,decide_eq_true_eq] at q;omega
   rw [p4 q,if_pos (by simp)];exact fun _=>⟨by first | exact trivial | rfl,by first | exact trivial | rfl,by first | exact trivial | rfl,trivial⟩
  ·have q:¬ (bK s.2.2.1 (aB s a)=1000000∨(bK s.2.2.1 (aB s a)=0∧s.2.2.1.length=16)):=by
    intro q1
    have:(decide (bK s.2.2.1 (aB s a)=1000000)||decide (bK s.2.2.1 (aB s a)=0)&&decide ((s.2.2.1.length:Int)=16))=true:=by
     simp only [Bool.or_eq_true,Bool.and_eq_true,decide_eq_true_eq];omega
    rw [this] at q;cases q
   rw [p5 q,if_neg (by simp),fm (by omega) (by omega)];simp only [ak];exact ⟨by omega,trivial,by first | exact trivial | rfl,by first | exact trivial | rfl,by first | exact trivial | rfl,trivial⟩
 ·have k8:=of_decide_eq_true k8;subst k8;rw [Ll];unfold dJ;rw [if_neg (by omega)];refine ⟨trivial,fun q=>?_,fun q=>?_⟩
  ·have q:a<0∨255<a:=by simpa using q
   have hF:az s.2.2.1 a=(0,false,4):=by
    unfold az;rw [if_neg (by have:=R.pin; omega),if_pos (by simp; omega)]
   have hd4:dZ s.2.2.1 a=([],0,4):=by
    unfold dZ;rw [if_pos (by rw [hF]; simp),hF]
   rw [hd4,if_pos (by simp)];exact fun _=>⟨by first | exact trivial | rfl,by first | exact trivial | rfl,by first | exact trivial | rfl,trivial⟩
  have q:¬ (a<0∨255<a):=by simpa using q
  obtain ⟨_,p1,p2,p3,_,_,p6,p7⟩:=BS R.pin (k:=a) (by omega) (by omega);have em:(aT s.2.2.1 a).getD 0=bK s.2.2.1 a:=rfl;rw [p1,em];refine ⟨fun q1=>?_,fun q1=>?_⟩
  ·rw [p6 (of_decide_eq_true q1),if_pos (by simp)];exact fun _=>⟨by first | exact trivial | rfl,by first | exact trivial | rfl,by first | exact trivial | rfl,trivial⟩
  ·rw [p7 (of_decide_eq_false q1),if_neg (by simp)];simp only [ak];exact ⟨by omega,trivial,by first | exact trivial | rfl,by first | exact trivial | rfl,by first | exact trivial | rfl,trivial⟩
 ·have k9:=of_decide_eq_true k9;subst k9;have p1:cR [] s.2.2.1=s.2.2.1:=rq (mo R.pin).2.1;have em:(aT s.2.2.1 a).getD 0=bK s.2.2.1 a:=rfl;have eh:(aj a (aa s.1).1).1=dp s.1 a:=rfl;have hP:cB s a b=if aC s≠0 then aC s else if cP (cH s) a=false then 8 else if b<0∨(dp s.1 a).2.1≤b then 4 else 0:=rfl
  rw [if_neg (by omega)] at hP;rw [p1,em,eh,Lk];refine ⟨trivial,fun q=>?_,fun q=>⟨trivial,fun q1=>?_,fun q1=>?_⟩⟩
  ·rw [if_pos (IU R |>.2 (of_decide_eq_true q))] at hP;rw [hP,if_pos (by omega)];exact fun _=>⟨by first | exact trivial | rfl,by first | exact trivial | rfl,by first | exact trivial | rfl,trivial⟩
  all_goals have hin:¬ cP (cH s) a=false:=fun hx=>of_decide_eq_false q (IU R |>.1 hx)
  all_goals rw [if_neg hin] at hP
  ·have q1:b<0∨(dp s.1 a).2.1≤b:=by simpa using q1
   rw [if_pos q1] at hP;rw [hP,if_pos (by omega)];exact fun _=>⟨by first | exact trivial | rfl,by first | exact trivial | rfl,by first | exact trivial | rfl,trivial⟩
  ·have q1:¬ (b<0∨(dp s.1 a).2.1≤b):=by simpa using q1
   rw [if_neg q1] at hP;have O:ObjAt s a:=R.obj (R.pinsIn a (cG.1 (by simpa using hin)));have:=O.x0;have:=O.r0;have:=O.fit;rw [hP,if_neg (by omega)];simp only [ak];exact ⟨by omega,by omega,by omega,by omega,by omega,by first | exact trivial | rfl,by first | exact trivial | rfl,by omega,by first | exact trivial | rfl,by first | exact trivial | rfl,by omega,by first | exact trivial | rfl,by first | exact trivial | rfl,by omega,by first | exact trivial | rfl,by omega,by omega,by first | exact trivial | rfl,by first | exact trivial | rfl,by first | exact trivial | rfl,by first | exact trivial | rfl,by first | exact trivial | rfl,trivial⟩
 ·have k10:=of_decide_eq_true k10;subst k10;obtain ⟨a0,a1,a2,ex,eh⟩:=hi1 rfl;subst ex;have O:ObjAt s (aB s a):=R.obj (R.rootNam a0 a1 a2);have e0:=KQ h0 a0 a1 a2;have:=O.x0;have:=O.r0;have:=O.b0;have:=O.fit;have hO:=IX (aB s a) R.hand;rw [if_neg (by omega)] at hO;rw [EN];unfold gy;rw [if_neg (by omega)];have hhd:=(gF R.hand).2;refine ⟨⟨by omega,by omega,by first | exact trivial | rfl,by first | exact trivial | rfl⟩,fun ⟨i,bx,st2⟩ ⟨i0,i1,i2,i3⟩=>⟨fun hlt=>?_,fun hge=>?_⟩⟩
  ·simp only at i0 i1 i2 i3 hlt ⊢;subst i2;have hlt:=of_decide_eq_true hlt;have hm:=hhd _ (aI ((0,false,0):bW) i0 hlt);have hil:i.toNat<bx.2.2.2.length:=by omega
   have hgs:∀ y:bW,(bx.2.2.2.set i.toNat y).getD i.toNat (0,false,0)=y:=fun y=>by simp [hil]
   rw [aW ((0,false,0):bW) i0 hlt] at i3;simp only [ai] at i3;simp only [hgs,List.length_set,ak];refine ⟨i0,hlt,fun q=>?_,fun q=>?_⟩
   ·have q':aM (bx.2.2.2.getD i.toNat (0,false,0))=true:=q;rw [if_pos q'] at i3;rw [← i3,if_neg (by omega)] at hO;simp only [Bool.and_eq_true,decide_eq_true_eq] at q;rw [hO,if_neg (by simp)];exact ⟨by omega,i0,by omega,by omega,i0,by omega,by omega,⟨i0,by omega,by omega,by omega⟩,rfl,rfl,rfl,trivial⟩
   ·have q':aM (bx.2.2.2.getD i.toNat (0,false,0))=false:=q;rw [if_neg (by rw [q']; simp)] at i3;exact ⟨by omega,⟨by omega,by omega,by first | exact trivial | rfl,i3⟩,by omega⟩
  ·simp only at i0 i1 i2 i3 hge ⊢;rw [bt (of_decide_eq_false hge)] at i3;simp only [ai] at i3;rw [if_pos (by omega)] at hO;rw [hO,if_pos (by simp)];exact fun _=>⟨by first | exact trivial | rfl,by first | exact trivial | rfl,by first | exact trivial | rfl,trivial⟩
 ·have hk:k=11∨k=12:=by
   rw [e5] at k11;simpa using k11
  have hsl:k=11→bO s a=0:=fun h11=>by
   obtain ⟨a0,a1⟩:=hi2 (by subst h11; rfl);exact IH h0 a0 a1
  have hsr:k=11→0≤a∧a<s.2.1.length:=fun h11=>hi2 (by subst h11; rfl)
  rcases Cl (n:=v) R.hand with ⟨f1,f2,f3,f4⟩ | ⟨f1,f2⟩
  ·rw [f2];refine ⟨R.hand,fun q=>?_,fun q=>⟨fun h11=>?_,fun h11=>?_⟩⟩
   ·have:=of_decide_eq_true q;omega
   ·have h11:=of_decide_eq_true h11
    have hL:gC s.2.2.2 v=((s.2.2.2.getD (ce s.2.2.2 v).1.toNat (0,false,0)).2.2,0):=by
     unfold gC;rw [if_neg (by omega)]
    have h1:=hsl h11;have h2:=hsr h11;subst h11;rw [zW];unfold iJ;rw [if_neg (by omega),hL,if_neg (by simp)];exact ⟨f3,f4,h2.1,h2.2,by omega,by first | exact trivial | rfl,by first | exact trivial | rfl,by first | exact trivial | rfl,trivial⟩
   ·have h12:k=12:=by
     have:=of_decide_eq_false h11;omega
    have hL:eD s.2.2.2 v=(s.2.2.2.set (ce s.2.2.2 v).1.toNat ((s.2.2.2.getD (ce s.2.2.2 v).1.toNat (0,false,0)).1,false,0),0):=by
     unfold eD;rw [if_neg (by omega)]
    subst h12;rw [EM];unfold fy;rw [if_neg (by omega),hL,if_neg (by simp)];exact ⟨f3,f4,f3,f4,by omega,by first | exact trivial | rfl,by first | exact trivial | rfl,by first | exact trivial | rfl,trivial⟩
  ·rw [f2];refine ⟨R.hand,fun _=>?_,fun q=>?_⟩
   ·rcases hk with h11 | h12
    ·have hL:gC s.2.2.2 v=(0,9):=by
      unfold gC;rw [f1];rfl
     have h1:=hsl h11;subst h11;rw [zW];unfold iJ;rw [if_neg (by omega),hL,if_pos (by simp)];exact fun _=>⟨by first | exact trivial | rfl,by first | exact trivial | rfl,by first | exact trivial | rfl,trivial⟩
    ·have hL:eD s.2.2.2 v=([],9):=by
      unfold eD;rw [f1];rfl
     subst h12;rw [EM];unfold fy;rw [if_neg (by omega),hL,if_pos (by simp)];exact fun _=>⟨by first | exact trivial | rfl,by first | exact trivial | rfl,by first | exact trivial | rfl,trivial⟩
   ·simp at q
 ·have h3:¬ k=3∧¬ k=4:=by
   rw [e3] at k34;simpa using k34
  have h5:¬ k=5∧¬ k=6:=by
   rw [e4] at k56;simpa using k56
  have h11:¬ k=11∧¬ k=12:=by
   rw [e5] at k11;simpa using k11
  have k1:=of_decide_eq_false k1;have k2:=of_decide_eq_false k2;have k7:=of_decide_eq_false k7;have k8:=of_decide_eq_false k8;have k9:=of_decide_eq_false k9;have k10:=of_decide_eq_false k10;have hk:k=13:=by omega
  subst hk;obtain ⟨a0,a1⟩:=hi2 rfl;have hS:=IH h0 a0 a1;rw [EL];unfold ge;rw [if_neg (by omega)];exact ⟨a0,a1,by omega,by first | exact trivial | rfl,by first | exact trivial | rfl,by first | exact trivial | rfl,trivial⟩
theorem I9:Iv.ok Tryz.prog 6:=aF (ann:=Kb) (ae gA (ae lI (ae g8 (ae mZ (ae Eh (ae Hf (ae v6 (ae my (ae BW (ae Hi (ae Ei (ae Hn (ae oT aq))))))))))))) Tryz.func6 (by kernel_rfl) F9
end
section
open Go
set_option maxRecDepth 100000
set_option maxHeartbeats 1000000
set_option maxHeartbeats 4000000
theorem fP {s:an} {k a b c v:Int} {y:an×Int×Int} (hb:cd k a b c v=false) (h1:aC s≠0→y=(aK,0,aC s)) (h2:aC s=0→y=gf s k a b c v):ax s k a b c v=y:=by
 unfold ax;rw [if_neg (by rw [hb]; simp)];by_cases h:aC s≠0
 ·rw [if_pos h,h1 h]
 ·rw [if_neg h,h2 (by omega)]
theorem r7 {s:an} (a:Int) (h:aC s≠0):bM s a=aC s:=by unfold bM; rw [if_pos h]
theorem Bi {s:an} (a:Int) (h:aC s≠0):bO s a=aC s:=by unfold bO; rw [if_pos h]
theorem Mj (s:an) (a b c v:Int):ax s 1 a b c v=((bL s a (b,c,v % 65536,false)).1,Mr (bL s a (b,c,v % 65536,false)).2.1,(bL s a (b,c,v % 65536,false)).2.2):=fP (by simp [cd]) (fun h=>by
 have e:=Bi a h;unfold bL;rw [if_pos (by omega),e];rfl) (fun h=>by rw [JW])
theorem Mi (s:an):ax s 2 0 0 0 0=cj s:=fP (by rfl) (fun h=>by unfold cj; rw [if_pos h]) (fun h=>by rw [Lm]; unfold cj; rw [if_neg (by omega)])
theorem Mh (s:an) (a b c:Int):ax s 3 a b c 0=((jW s a b c).1,0,(jW s a b c).2):=fP (by simp [cd]) (fun h=>by
 have e:bH s a b c=aC s:=by unfold bH; rw [if_pos (by rw [r7 a h]; exact h),r7 a h]
 unfold jW;rw [if_pos (by omega),e]) (fun h=>by rw [JV])
theorem Mg (s:an) (a b c:Int):ax s 4 a b c 0=((jU s a b c).1,0,(jU s a b c).2):=fP (by simp [cd]) (fun h=>by
 have e:bH s a b c=aC s:=by unfold bH; rw [if_pos (by rw [r7 a h]; exact h),r7 a h]
 unfold jU;rw [if_pos (by omega),e]) (fun h=>by rw [JU])
theorem Mf (s:an) (a b:Int):ax s 5 a b 0 0=(if aZ s a b≠0 then (aK,0,aZ s a b) else (s,s.1.getD (ca s (aB s a) b).toNat 0,0)):=fP (by simp [cd]) (fun h=>by
 have e:aZ s a b=aC s:=by unfold aZ; rw [if_pos (by rw [r7 a h]; exact h),r7 a h]
 rw [if_pos (by omega),e]) (fun h=>by rw [JT])
theorem Me (s:an) (a b v:Int):ax s 6 a b 0 v=((jX s a b v).1,0,(jX s a b v).2):=fP (by simp [cd]) (fun h=>by
 have e:aZ s a b=aC s:=by unfold aZ; rw [if_pos (by rw [r7 a h]; exact h),r7 a h]
 unfold jX;rw [if_pos (by omega),e]) (fun h=>by rw [JS])
theorem Md (s:an) (a:Int):ax s 7 a 0 0 0=gL s a:=fP (by simp [cd]) (fun h=>by unfold gL; rw [if_pos (by rw [r7 a h]; exact h),r7 a h]) (fun h=>by rw [JR])
theorem Mc (s:an) (a:Int):ax s 8 a 0 0 0=((dJ s a).1,0,(dJ s a).2):=fP (by simp [cd]) (fun h=>by unfold dJ; rw [if_pos h]) (fun h=>by rw [Ll])
theorem Mb (s:an) (a b:Int):ax s 9 a b 0 0=(if cB s a b≠0 then (aK,0,cB s a b) else (s,s.1.getD (ca s a b).toNat 0,0)):=fP (by simp [cd]) (fun h=>by
 have e:cB s a b=aC s:=by unfold cB; rw [if_pos h]
 rw [if_pos (by omega),e]) (fun h=>by rw [Lk])
theorem LX (s:an) (a:Int):ax s 10 a 0 0 0=gy s a:=fP (by simp [cd]) (fun h=>by unfold gy; rw [if_pos (by rw [r7 a h]; exact h),r7 a h]) (fun h=>by rw [EN])
theorem LW (s:an) (a v:Int):ax s 11 a 0 0 v=((iJ s v a).1,0,(iJ s v a).2):=fP (by simp [cd]) (fun h=>by unfold iJ; rw [if_pos (by rw [Bi a h]; exact h),Bi a h]) (fun h=>by rw [zW])
theorem LV (s:an) (v:Int):ax s 12 0 0 0 v=((fy s v).1,0,(fy s v).2):=fP (by simp [cd]) (fun h=>by unfold fy; rw [if_pos h]) (fun h=>by rw [EM])
theorem LU (s:an) (a:Int):ax s 13 a 0 0 0=((ge s a).1,0,(ge s a).2):=fP (by simp [cd]) (fun h=>by unfold ge; rw [if_pos (by rw [Bi a h]; exact h),Bi a h]) (fun h=>by rw [EL])
theorem IT {s:an} (hw:∀ x∈s.1,ak .u64 x) (a:Int):IntKind.u64.wrap (gL s a).2.1=(gL s a).2.1:=by
 unfold gL;split
 ·rfl
 ·rename_i h;split
  ·rfl
  ·obtain ⟨R,_,_,O⟩:=t6 hw (by omega:bM s a=0);have:=O.x0;have:=O.r0;have:=O.b0;have:=O.fit;have:=R.al;exact fm (by simp only; omega) (by simp only; omega)
theorem zX {s:an} (hw:∀ x∈s.1,ak .u64 x):IntKind.u64.wrap (cj s).2.1=(cj s).2.1:=by
 unfold cj;split
 ·rfl
 ·have R:=iv hw (by omega:aC s=0);have hg:=yA (aU false [] (aa (cU s)).1) (fun r hr=>by have:=R.gaps.2.1 r hr; omega);have hl:=R.gaps.2.2;have e:(d5 s).2=ep (aU false [] (aa (cU s)).1):=rfl;exact fm (by simp only; omega) (by simp only; omega)
end
section
open Go Go.RowKit
set_option maxHeartbeats 8000000
theorem ES {w:World} {a:Addr} {v:Value} (h:w.cell? a=some v) (o:Go.Obj):(w.alloc o).cell? a=some v:=by
 refine (((Below.refl w.heap.size w).alloc (Nat.le_refl _) o).cell (Nat.lt_of_not_le fun hn=>?_)).trans h;unfold World.cell? at h;rw [Array.getElem?_eq_none hn] at h;cases h
abbrev Mt (k a b c v:Int):Value:=.agg #[.int .i64 k,.int .i64 a,.int .i64 b,.int .i64 c,.int .u64 v]
abbrev G4 (k a b c v:Int):Go.Obj:=Go.Obj.cells #[.int .i64 k,.int .i64 a,.int .i64 b,.int .i64 c,.int .u64 v] 31
def dK (k a b c v:Int):Bool:=!cd k a b c v
abbrev gt (k a b c v:Int) (w:World):Prop:=Calls Tryz.prog 12 #[Mt k a b c v] w fun e w'=>e=.returned (.bool (dK k a b c v))∧Below w.heap.size w w'
theorem ic (w:World) (o o2:Go.Obj):Below w.heap.size w ((w.alloc o).alloc o2):=((Below.refl _ w).alloc (Nat.le_refl _) o).alloc (by simp) o2
theorem gr {x y:Bool} (h:x=y):Ending.returned (.bool x)=Ending.returned (.bool y):=by rw [h]
def formsB:List (List Bool):=[[false,false,false,false],[true,true,true,true],[false,false,false,false],[true,true,true,false],[true,true,true,false],[true,true,false,false],[true,true,false,true],[true,false,false,false],[true,false,false,false],[true,true,false,false],[true,false,false,false],[true,false,false,true],[false,false,false,true],[true,false,false,false]]
def formsZ:List (Nat×Bool):=List.zip (List.range 56) formsB.flatten
theorem kv {w:World} (h:Laid w) (i j k l:Nat) (x y z u:Bool) (o:Go.Obj)
  (hm:(formsZ.contains (i,x)&&formsZ.contains (j,y)&&formsZ.contains (k,z)&&formsZ.contains (l,u))=true) :
  (w.alloc o).cell? ⟨0,i,none⟩=some (.bool x)∧(w.alloc o).cell? ⟨0,j,none⟩=some (.bool y)∧(w.alloc o).cell? ⟨0,k,none⟩=some (.bool z)∧(w.alloc o).cell? ⟨0,l,none⟩=some (.bool u):=by
 simp only [Bool.and_eq_true,List.contains_iff_mem] at hm;have key:∀ n b,(n,b)∈formsZ→(w.alloc o).cell? ⟨0,n,none⟩=some (.bool b):=fun n b hb=>ES (h (0,n,.bool b) (List.mem_map.2 ⟨(n,b),hb,rfl⟩)) o
 exact ⟨key _ _ hm.1.1.1,key _ _ hm.1.1.2,key _ _ hm.1.2,key _ _ hm.2⟩
theorem pE (x:Int):x=0∨(x≠0∧(x == 0)=false):=by
 by_cases h:x=0
 ·exact .inl h
 ·exact .inr ⟨h,by simp [h]⟩
theorem IK (k a b c v:Int) (w:World) (hk:k<1∨13<k):gt k a b c v w:=by
 by_cases h1:k<1
 ·have e1:decide (k<1)=true:=decide_eq_true h1
  go_enter Tryz.func12,Tryz.ntmps12
  go_wp2
  go_ret
  exact ⟨gr (by simp [dK,cd,e1]),(Below.refl _ w).alloc (Nat.le_refl _) _⟩
 ·have e1:decide (k<1)=false:=decide_eq_false h1;have e2:decide (k > 13)=true:=decide_eq_true (by omega);have e3:decide (13<k)=true:=e2
  go_enter Tryz.func12,Tryz.ntmps12
  go_wp2
  go_ret
  exact ⟨gr (by simp [dK,cd,e1,e3]),(Below.refl _ w).alloc (Nat.le_refl _) _⟩
theorem LF (a b c v:Int) (w:World) (h:Laid w):gt 1 a b c v w:=by
 obtain ⟨e0,e1,e2,e3⟩:=kv h 4 5 6 7 true true true true (G4 1 a b c v) (by decide)
 all_goals (go_enter Tryz.func12,Tryz.ntmps12; go_wp2; go_ret; exact ⟨gr (by simp [dK,cd, *]),ic _ _ _⟩)
theorem LD (a b c v:Int) (w:World) (h:Laid w):gt 2 a b c v w:=by
 obtain ⟨e0,e1,e2,e3⟩:=kv h 8 9 10 11 false false false false (G4 2 a b c v) (by decide);rcases pE a with rfl | ⟨qa,sa⟩
 all_goals rcases pE b with rfl | ⟨qb,sb⟩
 all_goals rcases pE c with rfl | ⟨qc,sc⟩
 all_goals rcases pE v with rfl | ⟨qv,sv⟩
 all_goals (go_enter Tryz.func12,Tryz.ntmps12; go_wp2; go_ret; exact ⟨gr (by simp [dK,cd, *]),ic _ _ _⟩)
theorem LC (a b c v:Int) (w:World) (h:Laid w):gt 3 a b c v w:=by
 obtain ⟨e0,e1,e2,e3⟩:=kv h 12 13 14 15 true true true false (G4 3 a b c v) (by decide);rcases pE v with rfl | ⟨qv,sv⟩
 all_goals (go_enter Tryz.func12,Tryz.ntmps12; go_wp2; go_ret; exact ⟨gr (by simp [dK,cd, *]),ic _ _ _⟩)
theorem LB (a b c v:Int) (w:World) (h:Laid w):gt 4 a b c v w:=by
 obtain ⟨e0,e1,e2,e3⟩:=kv h 16 17 18 19 true true true false (G4 4 a b c v) (by decide);rcases pE v with rfl | ⟨qv,sv⟩
 all_goals (go_enter Tryz.func12,Tryz.ntmps12; go_wp2; go_ret; exact ⟨gr (by simp [dK,cd, *]),ic _ _ _⟩)
theorem LA (a b c v:Int) (w:World) (h:Laid w):gt 5 a b c v w:=by
 obtain ⟨e0,e1,e2,e3⟩:=kv h 20 21 22 23 true true false false (G4 5 a b c v) (by decide);rcases pE c with rfl | ⟨qc,sc⟩
 all_goals rcases pE v with rfl | ⟨qv,sv⟩
 all_goals (go_enter Tryz.func12,Tryz.ntmps12; go_wp2; go_ret; exact ⟨gr (by simp [dK,cd, *]),ic _ _ _⟩)
theorem Lz (a b c v:Int) (w:World) (h:Laid w):gt 6 a b c v w:=by
 obtain ⟨e0,e1,e2,e3⟩:=kv h 24 25 26 27 true true false true (G4 6 a b c v) (by decide);rcases pE c with rfl | ⟨qc,sc⟩
 all_goals (go_enter Tryz.func12,Tryz.ntmps12; go_wp2; go_ret; exact ⟨gr (by simp [dK,cd, *]),ic _ _ _⟩)
theorem Ly (a b c v:Int) (w:World) (h:Laid w):gt 7 a b c v w:=by
 obtain ⟨e0,e1,e2,e3⟩:=kv h 28 29 30 31 true false false false (G4 7 a b c v) (by decide);rcases pE b with rfl | ⟨qb,sb⟩
 all_goals rcases pE c with rfl | ⟨qc,sc⟩
 all_goals rcases pE v with rfl | ⟨qv,sv⟩
 all_goals (go_enter Tryz.func12,Tryz.ntmps12; go_wp2; go_ret; exact ⟨gr (by simp [dK,cd, *]),ic _ _ _⟩)
theorem Lx (a b c v:Int) (w:World) (h:Laid w):gt 8 a b c v w:=by
 obtain ⟨e0,e1,e2,e3⟩:=kv h 32 33 34 35 true false false false (G4 8 a b c v) (by decide);rcases pE b with rfl | ⟨qb,sb⟩
 all_goals rcases pE c with rfl | ⟨qc,sc⟩
 all_goals rcases pE v with rfl | ⟨qv,sv⟩
 all_goals (go_enter Tryz.func12,Tryz.ntmps12; go_wp2; go_ret; exact ⟨gr (by simp [dK,cd, *]),ic _ _ _⟩)
theorem Lw (a b c v:Int) (w:World) (h:Laid w):gt 9 a b c v w:=by
 obtain ⟨e0,e1,e2,e3⟩:=kv h 36 37 38 39 true true false false (G4 9 a b c v) (by decide);rcases pE c with rfl | ⟨qc,sc⟩
 all_goals rcases pE v with rfl | ⟨qv,sv⟩
 all_goals (go_enter Tryz.func12,Tryz.ntmps12; go_wp2; go_ret; exact ⟨gr (by simp [dK,cd, *]),ic _ _ _⟩)
theorem KG (a b c v:Int) (w:World) (h:Laid w):gt 10 a b c v w:=by
 obtain ⟨e0,e1,e2,e3⟩:=kv h 40 41 42 43 true false false false (G4 10 a b c v) (by decide);rcases pE b with rfl | ⟨qb,sb⟩
 all_goals rcases pE c with rfl | ⟨qc,sc⟩
 all_goals rcases pE v with rfl | ⟨qv,sv⟩
 all_goals (go_enter Tryz.func12,Tryz.ntmps12; go_wp2; go_ret; exact ⟨gr (by simp [dK,cd, *]),ic _ _ _⟩)
theorem KF (a b c v:Int) (w:World) (h:Laid w):gt 11 a b c v w:=by
 obtain ⟨e0,e1,e2,e3⟩:=kv h 44 45 46 47 true false false true (G4 11 a b c v) (by decide);rcases pE b with rfl | ⟨qb,sb⟩
 all_goals rcases pE c with rfl | ⟨qc,sc⟩
 all_goals (go_enter Tryz.func12,Tryz.ntmps12; go_wp2; go_ret; exact ⟨gr (by simp [dK,cd, *]),ic _ _ _⟩)
theorem KE (a b c v:Int) (w:World) (h:Laid w):gt 12 a b c v w:=by
 obtain ⟨e0,e1,e2,e3⟩:=kv h 48 49 50 51 false false false true (G4 12 a b c v) (by decide);rcases pE a with rfl | ⟨qa,sa⟩
 all_goals rcases pE b with rfl | ⟨qb,sb⟩
 all_goals rcases pE c with rfl | ⟨qc,sc⟩
 all_goals (go_enter Tryz.func12,Tryz.ntmps12; go_wp2; go_ret; exact ⟨gr (by simp [dK,cd, *]),ic _ _ _⟩)
theorem KD (a b c v:Int) (w:World) (h:Laid w):gt 13 a b c v w:=by
 obtain ⟨e0,e1,e2,e3⟩:=kv h 52 53 54 55 true false false false (G4 13 a b c v) (by decide);rcases pE b with rfl | ⟨qb,sb⟩
 all_goals rcases pE c with rfl | ⟨qc,sc⟩
 all_goals rcases pE v with rfl | ⟨qv,sv⟩
 all_goals (go_enter Tryz.func12,Tryz.ntmps12; go_wp2; go_ret; exact ⟨gr (by simp [dK,cd, *]),ic _ _ _⟩)
theorem D7 {k a b c v:Int} {w:World} (h:Laid w):gt k a b c v w:=by
 by_cases h1:k<1∨13<k
 ·exact IK k a b c v w h1
 have:k=1∨k=2∨k=3∨k=4∨k=5∨k=6∨k=7∨k=8∨k=9∨k=10∨k=11∨k=12∨k=13:=by omega
 rcases this with rfl | rfl | rfl | rfl | rfl | rfl | rfl | rfl | rfl | rfl | rfl | rfl | rfl
 ·exact LF a b c v w h
 ·exact LD a b c v w h
 ·exact LC a b c v w h
 ·exact LB a b c v w h
 ·exact LA a b c v w h
 ·exact Lz a b c v w h
 ·exact Ly a b c v w h
 ·exact Lx a b c v w h
 ·exact Lw a b c v w h
 ·exact KG a b c v w h
 ·exact KF a b c v w h
 ·exact KE a b c v w h
 ·exact KD a b c v w h
def Ip:Spec:={ Ts:=[lr],Rs:=[.dat .bool],pre:=fun _=>True,F:=fun ((k,a,b,c,v):Int×Int×Int×Int×Int)=>dK k a b c v }
theorem I4:Ip.ok Tryz.prog 12:=by
 intro p w vs ⟨k,a,b,c,v⟩ hL hA hargs _;obtain ⟨val,rfl,hv⟩:=hargs;obtain ⟨cs,rfl,c1,c1',e1,⟨rfl,_⟩,c2,c2',rfl,⟨rfl,_⟩,c3,c3',rfl,⟨rfl,_⟩,c4,c4',rfl,⟨rfl,_⟩,rfl,_⟩:=hv
 have e:cs=#[.int .i64 k,.int .i64 a,.int .i64 b,.int .i64 c,.int .u64 v]:=by
  apply Array.toList_inj.1;simpa using e1
 subst e;refine (D7 (k:=k) (a:=a) (b:=b) (c:=c) (v:=v) hL).mono ?_;rintro e w' ⟨rfl,hb⟩;refine ⟨[.bool (dK k a b c v)],fun _=>none,rfl,⟨hb.os,hb.tape,hb.output,hb.size,fun i hi _=>hb.block i hi⟩,fun _ _ h=>(by cases h),fun _ _ h=>(by cases h),?_⟩;exact ⟨_,rfl,rfl,fun b hb=>by cases hb⟩
end
section
open Go
set_option maxRecDepth 100000
set_option maxHeartbeats 1000000
set_option maxHeartbeats 4000000
def La:Nat→Option LoopGen
 | 3000043=>some eM
 | 4404000001=>some eM
 | _=>none
def fc (s:an) (e:Int):an×Int×Int:=(s,0,e)
def Ix:Spec:={ Ts:=[aE,ty_I],Rs:=[.dat aE,.dat bb,.dat ty_I],al:=true,pre:=fun _=>True,F:=fun ((s,e):an×Int)=>fc s e }
def BH:Prop :=
  ∀ (x:(List Int×List Int×List (Int×Int)×List (Int×Bool×Int))×Int),((x.1.1.length * 8≤aA∧∀ (x_1:Int),x_1∈x.1.1→ak .u64 x_1)∧(x.1.2.1.length * 8≤aA∧∀ (x_1:Int),x_1∈x.1.2.1→ak .i64 x_1)∧(x.1.2.2.1.length * (8+8)≤aA∧∀ (x_1:Int×Int),x_1∈x.1.2.2.1→ak .i64 x_1.1∧ak .i64 x_1.2)∧x.1.2.2.2.length * (8+(8+8))≤aA∧∀ (x_1:Int×Bool×Int),x_1∈x.1.2.2.2→ak .i64 x_1.1∧True∧ak .i64 x_1.2.2)∧ak .i64 x.2→True→x.1=(fc x.1 x.2).1∧0=(fc x.1 x.2).2.1∧x.2=(fc x.1 x.2).2.2∧True
theorem Gb:BH:=by
 unfold BH;intro ⟨s,e⟩ _ _;exact ⟨by first | exact trivial | rfl,by first | exact trivial | rfl,by first | exact trivial | rfl,trivial⟩
theorem Jb:Ix.ok Tryz.prog 16:=aF (ann:=cw) aq Tryz.func16 (by kernel_rfl) Gb
def gj (s:an) (n e:Int):an×Int×Int:=(s,IntKind.u64.wrap n,e)
def DV:Spec:={ Ts:=[aE,ty_I,ty_I],Rs:=[.dat aE,.dat bb,.dat ty_I],al:=true,pre:=fun _=>True,F:=fun ((s,n,e):an×Int×Int)=>gj s n e }
def tE:Prop :=
  ∀ (x:(List Int×List Int×List (Int×Int)×List (Int×Bool×Int))×Int×Int),((x.1.1.length * 8≤aA∧∀ (x_1:Int),x_1∈x.1.1→ak .u64 x_1)∧(x.1.2.1.length * 8≤aA∧∀ (x_1:Int),x_1∈x.1.2.1→ak .i64 x_1)∧(x.1.2.2.1.length * (8+8)≤aA∧∀ (x_1:Int×Int),x_1∈x.1.2.2.1→ak .i64 x_1.1∧ak .i64 x_1.2)∧x.1.2.2.2.length * (8+(8+8))≤aA∧∀ (x_1:Int×Bool×Int),x_1∈x.1.2.2.2→ak .i64 x_1.1∧True∧ak .i64 x_1.2.2)∧ak .i64 x.2.1∧ak .i64 x.2.2→True→x.1=(gj x.1 x.2.1 x.2.2).1∧IntKind.u64.wrap x.2.1=(gj x.1 x.2.1 x.2.2).2.1∧x.2.2=(gj x.1 x.2.1 x.2.2).2.2∧True
theorem Ay:tE:=by
 unfold tE;intro ⟨s,n,e⟩ _ _;exact ⟨by first | exact trivial | rfl,by first | exact trivial | rfl,by first | exact trivial | rfl,trivial⟩
theorem Ej:DV.ok Tryz.prog 14:=aF (ann:=cw) aq Tryz.func14 (by kernel_rfl) Ay
def iI (s:an) (v e:Int):an×Int×Int:=if e≠0 then (aK,0,e) else (s,v,0)
def Iy:Spec:={ Ts:=[aE,bb,ty_I],Rs:=[.dat aE,.dat bb,.dat ty_I],al:=true,pre:=fun _=>True,F:=fun ((s,v,e):an×Int×Int)=>iI s v e }
def BI:Prop :=
  ∀ (x:(List Int×List Int×List (Int×Int)×List (Int×Bool×Int))×Int×Int),((x.1.1.length * 8≤aA∧∀ (x_1:Int),x_1∈x.1.1→ak .u64 x_1)∧(x.1.2.1.length * 8≤aA∧∀ (x_1:Int),x_1∈x.1.2.1→ak .i64 x_1)∧(x.1.2.2.1.length * (8+8)≤aA∧∀ (x_1:Int×Int),x_1∈x.1.2.2.1→ak .i64 x_1.1∧ak .i64 x_1.2)∧x.1.2.2.2.length * (8+(8+8))≤aA∧∀ (x_1:Int×Bool×Int),x_1∈x.1.2.2.2→ak .i64 x_1.1∧True∧ak .i64 x_1.2.2)∧ak .u64 x.2.1∧ak .i64 x.2.2→True→(decide (x.2.2≠0)=true→(([]:List Int),([]:List Int),([]:List (Int×Int)),([]:List (Int×Bool×Int)))=(iI x.1 x.2.1 x.2.2).1∧0=(iI x.1 x.2.1 x.2.2).2.1∧x.2.2=(iI x.1 x.2.1 x.2.2).2.2∧True)∧(decide (x.2.2≠0)=false→∀ (_:Array Value),True∧True∧True∧x.1.2.1=x.1.2.1∧x.1.2.2.1=x.1.2.2.1∧x.1.2.2.1=x.1.2.2.1∧x.1.2.2.2=x.1.2.2.2∧x.1.2.2.2=x.1.2.2.2∧x.1.2.2.2=x.1.2.2.2∧True∧x.1=(iI x.1 x.2.1 x.2.2).1∧x.2.1=(iI x.1 x.2.1 x.2.2).2.1∧0=(iI x.1 x.2.1 x.2.2).2.2∧True)
theorem Gc:BI:=by
 unfold BI;intro ⟨s,v,e⟩ _ _;simp only;unfold iI;refine ⟨fun h=>?_,fun h=>?_⟩
 ·rw [if_pos (of_decide_eq_true h)];exact ⟨rfl,rfl,rfl,trivial⟩
 ·rw [if_neg (of_decide_eq_false h)];exact fun _=>⟨by first | exact trivial | rfl,by first | exact trivial | rfl,by first | exact trivial | rfl,by first | exact trivial | rfl,by first | exact trivial | rfl,by first | exact trivial | rfl,by first | exact trivial | rfl,by first | exact trivial | rfl,by first | exact trivial | rfl,by first | exact trivial | rfl,by first | exact trivial | rfl,by first | exact trivial | rfl,by first | exact trivial | rfl,trivial⟩
theorem Jc:Iy.ok Tryz.prog 20:=aF (ann:=La) (ae bT (ae ci (ae b8 (ae bU aq)))) Tryz.func20 (by kernel_rfl) Gc
theorem FC (s:an) (v e:Int):iI s (if e≠0 then 0 else v) e=if e≠0 then (aK,0,e) else (s,v,0):=by
 unfold iI;by_cases h:e≠0
 ·rw [if_pos h,if_pos h]
 ·rw [if_neg h,if_neg h,if_neg h]
theorem kZ {α β γ:Type} {x y:α×β×γ} (h:x=y):x.1=y.1∧x.2.1=y.2.1∧x.2.2=y.2.2∧True:=by subst h; exact ⟨rfl,rfl,rfl,trivial⟩
def Lu:Spec:={ Ts:=[aE,lr],Rs:=[.dat aE,.dat bb,.dat ty_I],al:=true,pre:=fun _=>True,F:=fun ((s,k,a,b,c,v):an×Int×Int×Int×Int×Int)=>ax s k a b c v }
def IQ:Prop :=
  ∀ (x:(List Int×List Int×List (Int×Int)×List (Int×Bool×Int))×Int×Int×Int×Int×Int),((x.1.1.length * 8≤aA∧∀ (x_1:Int),x_1∈x.1.1→ak .u64 x_1)∧(x.1.2.1.length * 8≤aA∧∀ (x_1:Int),x_1∈x.1.2.1→ak .i64 x_1)∧(x.1.2.2.1.length * (8+8)≤aA∧∀ (x_1:Int×Int),x_1∈x.1.2.2.1→ak .i64 x_1.1∧ak .i64 x_1.2)∧x.1.2.2.2.length * (8+(8+8))≤aA∧∀ (x_1:Int×Bool×Int),x_1∈x.1.2.2.2→ak .i64 x_1.1∧True∧ak .i64 x_1.2.2)∧ak .i64 x.2.1∧ak .i64 x.2.2.1∧ak .i64 x.2.2.2.1∧ak .i64 x.2.2.2.2.1∧ak .u64 x.2.2.2.2.2→True→True∧((!dK x.2.1 x.2.2.1 x.2.2.2.1 x.2.2.2.2.1 x.2.2.2.2.2)=true→(([]:List Int),([]:List Int),([]:List (Int×Int)),([]:List (Int×Bool×Int)))=(ax x.1 x.2.1 x.2.2.1 x.2.2.2.1 x.2.2.2.2.1 x.2.2.2.2.2).1∧0=(ax x.1 x.2.1 x.2.2.1 x.2.2.2.1 x.2.2.2.2.1 x.2.2.2.2.2).2.1∧1=(ax x.1 x.2.1 x.2.2.1 x.2.2.2.1 x.2.2.2.2.1 x.2.2.2.2.2).2.2∧True)∧((!dK x.2.1 x.2.2.1 x.2.2.2.1 x.2.2.2.2.1 x.2.2.2.2.2)=false→(decide (x.2.1=1)=true→0≤x.2.2.2.2.2∧(0:Int)<65536∧True∧((bL x.1 x.2.2.1 (x.2.2.2.1,x.2.2.2.2.1,IntKind.i64.wrap (x.2.2.2.2.2 % 65536),false)).2.1=true→(bL x.1 x.2.2.1 (x.2.2.2.1,x.2.2.2.2.1,IntKind.i64.wrap (x.2.2.2.2.2 % 65536),false)).1=(ax x.1 x.2.1 x.2.2.1 x.2.2.2.1 x.2.2.2.2.1 x.2.2.2.2.2).1∧1=(ax x.1 x.2.1 x.2.2.1 x.2.2.2.1 x.2.2.2.2.1 x.2.2.2.2.2).2.1∧(bL x.1 x.2.2.1 (x.2.2.2.1,x.2.2.2.2.1,IntKind.i64.wrap (x.2.2.2.2.2 % 65536),false)).2.2=(ax x.1 x.2.1 x.2.2.1 x.2.2.2.1 x.2.2.2.2.1 x.2.2.2.2.2).2.2∧True)∧((bL x.1 x.2.2.1 (x.2.2.2.1,x.2.2.2.2.1,IntKind.i64.wrap (x.2.2.2.2.2 % 65536),false)).2.1=false→(bL x.1 x.2.2.1 (x.2.2.2.1,x.2.2.2.2.1,IntKind.i64.wrap (x.2.2.2.2.2 % 65536),false)).1=(ax x.1 x.2.1 x.2.2.1 x.2.2.2.1 x.2.2.2.2.1 x.2.2.2.2.2).1∧0=(ax x.1 x.2.1 x.2.2.1 x.2.2.2.1 x.2.2.2.2.1 x.2.2.2.2.2).2.1∧(bL x.1 x.2.2.1 (x.2.2.2.1,x.2.2.2.2.1,IntKind.i64.wrap (x.2.2.2.2.2 % 65536),false)).2.2=(ax x.1 x.2.1 x.2.2.1 x.2.2.2.1 x.2.2.2.2.1 x.2.2.2.2.2).2.2∧True))∧(decide (x.2.1=1)=false→(decide (x.2.1=2)=true→True∧True∧(gj (cj x.1).1 (cj x.1).2.1 (cj x.1).2.2).1=(ax x.1 x.2.1 x.2.2.1 x.2.2.2.1 x.2.2.2.2.1 x.2.2.2.2.2).1∧(gj (cj x.1).1 (cj x.1).2.1 (cj x.1).2.2).2.1=(ax x.1 x.2.1 x.2.2.1 x.2.2.2.1 x.2.2.2.2.1 x.2.2.2.2.2).2.1∧(gj (cj x.1).1 (cj x.1).2.1 (cj x.1).2.2).2.2=(ax x.1 x.2.1 x.2.2.1 x.2.2.2.1 x.2.2.2.2.1 x.2.2.2.2.2).2.2∧True)∧(decide (x.2.1=2)=false→(decide (x.2.1=3)=true→True∧True∧(fc (jW x.1 x.2.2.1 x.2.2.2.1 x.2.2.2.2.1).1 (jW x.1 x.2.2.1 x.2.2.2.1 x.2.2.2.2.1).2).1=(ax x.1 x.2.1 x.2.2.1 x.2.2.2.1 x.2.2.2.2.1 x.2.2.2.2.2).1∧(fc (jW x.1 x.2.2.1 x.2.2.2.1 x.2.2.2.2.1).1 (jW x.1 x.2.2.1 x.2.2.2.1 x.2.2.2.2.1).2).2.1=(ax x.1 x.2.1 x.2.2.1 x.2.2.2.1 x.2.2.2.2.1 x.2.2.2.2.2).2.1∧(fc (jW x.1 x.2.2.1 x.2.2.2.1 x.2.2.2.2.1).1 (jW x.1 x.2.2.1 x.2.2.2.1 x.2.2.2.2.1).2).2.2=(ax x.1 x.2.1 x.2.2.1 x.2.2.2.1 x.2.2.2.2.1 x.2.2.2.2.2).2.2∧True)∧(decide (x.2.1=3)=false→(decide (x.2.1=4)=true→True∧True∧(fc (jU x.1 x.2.2.1 x.2.2.2.1 x.2.2.2.2.1).1 (jU x.1 x.2.2.1 x.2.2.2.1 x.2.2.2.2.1).2).1=(ax x.1 x.2.1 x.2.2.1 x.2.2.2.1 x.2.2.2.2.1 x.2.2.2.2.2).1∧(fc (jU x.1 x.2.2.1 x.2.2.2.1 x.2.2.2.2.1).1 (jU x.1 x.2.2.1 x.2.2.2.1 x.2.2.2.2.1).2).2.1=(ax x.1 x.2.1 x.2.2.1 x.2.2.2.1 x.2.2.2.2.1 x.2.2.2.2.2).2.1∧(fc (jU x.1 x.2.2.1 x.2.2.2.1 x.2.2.2.2.1).1 (jU x.1 x.2.2.1 x.2.2.2.1 x.2.2.2.2.1).2).2.2=(ax x.1 x.2.1 x.2.2.1 x.2.2.2.1 x.2.2.2.2.1 x.2.2.2.2.2).2.2∧True)∧(decide (x.2.1=4)=false→(decide (x.2.1=5)=true→True∧True∧(iI x.1 (if aZ x.1 x.2.2.1 x.2.2.2.1≠0 then (0:Int) else x.1.1.getD (ca x.1 (aB x.1 x.2.2.1) x.2.2.2.1).toNat 0) (aZ x.1 x.2.2.1 x.2.2.2.1)).1=(ax x.1 x.2.1 x.2.2.1 x.2.2.2.1 x.2.2.2.2.1 x.2.2.2.2.2).1∧(iI x.1 (if aZ x.1 x.2.2.1 x.2.2.2.1≠0 then (0:Int) else x.1.1.getD (ca x.1 (aB x.1 x.2.2.1) x.2.2.2.1).toNat 0) (aZ x.1 x.2.2.1 x.2.2.2.1)).2.1=(ax x.1 x.2.1 x.2.2.1 x.2.2.2.1 x.2.2.2.2.1 x.2.2.2.2.2).2.1∧(iI x.1 (if aZ x.1 x.2.2.1 x.2.2.2.1≠0 then (0:Int) else x.1.1.getD (ca x.1 (aB x.1 x.2.2.1) x.2.2.2.1).toNat 0) (aZ x.1 x.2.2.1 x.2.2.2.1)).2.2=(ax x.1 x.2.1 x.2.2.1 x.2.2.2.1 x.2.2.2.2.1 x.2.2.2.2.2).2.2∧True)∧(decide (x.2.1=5)=false→(decide (x.2.1=6)=true→True∧True∧(fc (jX x.1 x.2.2.1 x.2.2.2.1 x.2.2.2.2.2).1 (jX x.1 x.2.2.1 x.2.2.2.1 x.2.2.2.2.2).2).1=(ax x.1 x.2.1 x.2.2.1 x.2.2.2.1 x.2.2.2.2.1 x.2.2.2.2.2).1∧(fc (jX x.1 x.2.2.1 x.2.2.2.1 x.2.2.2.2.2).1 (jX x.1 x.2.2.1 x.2.2.2.1 x.2.2.2.2.2).2).2.1=(ax x.1 x.2.1 x.2.2.1 x.2.2.2.1 x.2.2.2.2.1 x.2.2.2.2.2).2.1∧(fc (jX x.1 x.2.2.1 x.2.2.2.1 x.2.2.2.2.2).1 (jX x.1 x.2.2.1 x.2.2.2.1 x.2.2.2.2.2).2).2.2=(ax x.1 x.2.1 x.2.2.1 x.2.2.2.1 x.2.2.2.2.1 x.2.2.2.2.2).2.2∧True)∧(decide (x.2.1=6)=false→(decide (x.2.1=7)=true→True∧True∧(gj (gL x.1 x.2.2.1).1 (gL x.1 x.2.2.1).2.1 (gL x.1 x.2.2.1).2.2).1=(ax x.1 x.2.1 x.2.2.1 x.2.2.2.1 x.2.2.2.2.1 x.2.2.2.2.2).1∧(gj (gL x.1 x.2.2.1).1 (gL x.1 x.2.2.1).2.1 (gL x.1 x.2.2.1).2.2).2.1=(ax x.1 x.2.1 x.2.2.1 x.2.2.2.1 x.2.2.2.2.1 x.2.2.2.2.2).2.1∧(gj (gL x.1 x.2.2.1).1 (gL x.1 x.2.2.1).2.1 (gL x.1 x.2.2.1).2.2).2.2=(ax x.1 x.2.1 x.2.2.1 x.2.2.2.1 x.2.2.2.2.1 x.2.2.2.2.2).2.2∧True)∧(decide (x.2.1=7)=false→(decide (x.2.1=8)=true→True∧True∧(fc (dJ x.1 x.2.2.1).1 (dJ x.1 x.2.2.1).2).1=(ax x.1 x.2.1 x.2.2.1 x.2.2.2.1 x.2.2.2.2.1 x.2.2.2.2.2).1∧(fc (dJ x.1 x.2.2.1).1 (dJ x.1 x.2.2.1).2).2.1=(ax x.1 x.2.1 x.2.2.1 x.2.2.2.1 x.2.2.2.2.1 x.2.2.2.2.2).2.1∧(fc (dJ x.1 x.2.2.1).1 (dJ x.1 x.2.2.1).2).2.2=(ax x.1 x.2.1 x.2.2.1 x.2.2.2.1 x.2.2.2.2.1 x.2.2.2.2.2).2.2∧True)∧(decide (x.2.1=8)=false→(decide (x.2.1=9)=true→True∧True∧(iI x.1 (if cB x.1 x.2.2.1 x.2.2.2.1≠0 then (0:Int) else x.1.1.getD (ca x.1 x.2.2.1 x.2.2.2.1).toNat 0) (cB x.1 x.2.2.1 x.2.2.2.1)).1=(ax x.1 x.2.1 x.2.2.1 x.2.2.2.1 x.2.2.2.2.1 x.2.2.2.2.2).1∧(iI x.1 (if cB x.1 x.2.2.1 x.2.2.2.1≠0 then (0:Int) else x.1.1.getD (ca x.1 x.2.2.1 x.2.2.2.1).toNat 0) (cB x.1 x.2.2.1 x.2.2.2.1)).2.1=(ax x.1 x.2.1 x.2.2.1 x.2.2.2.1 x.2.2.2.2.1 x.2.2.2.2.2).2.1∧(iI x.1 (if cB x.1 x.2.2.1 x.2.2.2.1≠0 then (0:Int) else x.1.1.getD (ca x.1 x.2.2.1 x.2.2.2.1).toNat 0) (cB x.1 x.2.2.1 x.2.2.2.1)).2.2=(ax x.1 x.2.1 x.2.2.1 x.2.2.2.1 x.2.2.2.2.1 x.2.2.2.2.2).2.2∧True)∧(decide (x.2.1=9)=false→(decide (x.2.1=10)=true→True∧(gy x.1 x.2.2.1).1=(ax x.1 x.2.1 x.2.2.1 x.2.2.2.1 x.2.2.2.2.1 x.2.2.2.2.2).1∧(gy x.1 x.2.2.1).2.1=(ax x.1 x.2.1 x.2.2.1 x.2.2.2.1 x.2.2.2.2.1 x.2.2.2.2.2).2.1∧(gy x.1 x.2.2.1).2.2=(ax x.1 x.2.1 x.2.2.1 x.2.2.2.1 x.2.2.2.2.1 x.2.2.2.2.2).2.2∧True)∧(decide (x.2.1=10)=false→(decide (x.2.1=11)=true→True∧True∧(fc (iJ x.1 x.2.2.2.2.2 x.2.2.1).1 (iJ x.1 x.2.2.2.2.2 x.2.2.1).2).1=(ax x.1 x.2.1 x.2.2.1 x.2.2.2.1 x.2.2.2.2.1 x.2.2.2.2.2).1∧(fc (iJ x.1 x.2.2.2.2.2 x.2.2.1).1 (iJ x.1 x.2.2.2.2.2 x.2.2.1).2).2.1=(ax x.1 x.2.1 x.2.2.1 x.2.2.2.1 x.2.2.2.2.1 x.2.2.2.2.2).2.1∧(fc (iJ x.1 x.2.2.2.2.2 x.2.2.1).1 (iJ x.1 x.2.2.2.2.2 x.2.2.1).2).2.2=(ax x.1 x.2.1 x.2.2.1 x.2.2.2.1 x.2.2.2.2.1 x.2.2.2.2.2).2.2∧True)∧(decide (x.2.1=11)=false→(decide (x.2.1=12)=true→True∧True∧(fc (fy x.1 x.2.2.2.2.2).1 (fy x.1 x.2.2.2.2.2).2).1=(ax x.1 x.2.1 x.2.2.1 x.2.2.2.1 x.2.2.2.2.1 x.2.2.2.2.2).1∧(fc (fy x.1 x.2.2.2.2.2).1 (fy x.1 x.2.2.2.2.2).2).2.1=(ax x.1 x.2.1 x.2.2.1 x.2.2.2.1 x.2.2.2.2.1 x.2.2.2.2.2).2.1∧(fc (fy x.1 x.2.2.2.2.2).1 (fy x.1 x.2.2.2.2.2).2).2.2=(ax x.1 x.2.1 x.2.2.1 x.2.2.2.1 x.2.2.2.2.1 x.2.2.2.2.2).2.2∧True)∧(decide (x.2.1=12)=false→True∧True∧(fc (ge x.1 x.2.2.1).1 (ge x.1 x.2.2.1).2).1=(ax x.1 x.2.1 x.2.2.1 x.2.2.2.1 x.2.2.2.2.1 x.2.2.2.2.2).1∧(fc (ge x.1 x.2.2.1).1 (ge x.1 x.2.2.1).2).2.1=(ax x.1 x.2.1 x.2.2.1 x.2.2.2.1 x.2.2.2.2.1 x.2.2.2.2.2).2.1∧(fc (ge x.1 x.2.2.1).1 (ge x.1 x.2.2.1).2).2.2=(ax x.1 x.2.1 x.2.2.1 x.2.2.2.1 x.2.2.2.2.1 x.2.2.2.2.2).2.2∧True)))))))))))))
theorem Km:IQ:=by
 unfold IQ;intro ⟨s,k,a,b,c,v⟩ ⟨⟨⟨_,hw⟩,_⟩,_,_,_,_,hv⟩ _;simp only at hw hv ⊢;simp only [ak] at hv;refine ⟨trivial,fun h=>?_,fun h=>?_⟩
 ·have hb:cd k a b c v=true:=by simpa [dK] using h
  have hD:ax s k a b c v=(aK,0,1):=by unfold ax; rw [if_pos hb]
  rw [hD];exact ⟨rfl,rfl,rfl,trivial⟩
 have hb:cd k a b c v=false:=by simpa [dK] using h
 have hk:1≤k∧k≤13:=by
  unfold cd at hb;simp only [Bool.or_eq_false_iff,decide_eq_false_iff_not] at hb;omega
 refine ⟨fun q1=>?_,fun q1=>⟨fun q2=>?_,fun q2=>⟨fun q3=>?_,fun q3=>⟨fun q4=>?_,fun q4=>⟨fun q5=>?_,fun q5=>⟨fun q6=>?_,fun q6=>⟨fun q7=>?_,fun q7=>⟨fun q8=>?_,fun q8=>⟨fun q9=>?_,fun q9=>⟨fun q10=>?_,fun q10=>⟨fun q11=>?_,fun q11=>⟨fun q12=>?_,fun q12=>?_⟩⟩⟩⟩⟩⟩⟩⟩⟩⟩⟩⟩
 ·obtain rfl:=of_decide_eq_true q1;rw [Mj,je (by omega) (by omega)];refine ⟨by omega,by omega,trivial,fun q=>?_,fun q=>?_⟩
  ·exact ⟨rfl,by rw [q]; rfl,rfl,trivial⟩
  ·exact ⟨rfl,by rw [q]; rfl,rfl,trivial⟩
 ·obtain rfl:=of_decide_eq_true q2;obtain ⟨rfl,rfl,rfl,rfl⟩:a=0∧b=0∧c=0∧v=0:=by simpa [cd,and_assoc] using hb
  rw [Mi];refine ⟨trivial,trivial,kZ ?_⟩;unfold gj;rw [zX hw]
 ·obtain rfl:=of_decide_eq_true q3;obtain rfl:v=0:=by simpa [cd] using hb
  rw [Mh];exact ⟨trivial,trivial,kZ rfl⟩
 ·obtain rfl:=of_decide_eq_true q4;obtain rfl:v=0:=by simpa [cd] using hb
  rw [Mg];exact ⟨trivial,trivial,kZ rfl⟩
 ·obtain rfl:=of_decide_eq_true q5;obtain ⟨rfl,rfl⟩:c=0∧v=0:=by simpa [cd] using hb
  rw [Mf];exact ⟨trivial,trivial,kZ (FC ..)⟩
 ·obtain rfl:=of_decide_eq_true q6;obtain rfl:c=0:=by simpa [cd] using hb
  rw [Me];exact ⟨trivial,trivial,kZ rfl⟩
 ·obtain rfl:=of_decide_eq_true q7;obtain ⟨rfl,rfl,rfl⟩:b=0∧c=0∧v=0:=by simpa [cd,and_assoc] using hb
  rw [Md];refine ⟨trivial,trivial,kZ ?_⟩;unfold gj;rw [IT hw]
 ·obtain rfl:=of_decide_eq_true q8;obtain ⟨rfl,rfl,rfl⟩:b=0∧c=0∧v=0:=by simpa [cd,and_assoc] using hb
  rw [Mc];exact ⟨trivial,trivial,kZ rfl⟩
 ·obtain rfl:=of_decide_eq_true q9;obtain ⟨rfl,rfl⟩:c=0∧v=0:=by simpa [cd] using hb
  rw [Mb];exact ⟨trivial,trivial,kZ (FC ..)⟩
 ·obtain rfl:=of_decide_eq_true q10;obtain ⟨rfl,rfl,rfl⟩:b=0∧c=0∧v=0:=by simpa [cd,and_assoc] using hb
  rw [LX];exact ⟨trivial,kZ rfl⟩
 ·obtain rfl:=of_decide_eq_true q11;obtain ⟨rfl,rfl⟩:b=0∧c=0:=by simpa [cd] using hb
  rw [LW];exact ⟨trivial,trivial,kZ rfl⟩
 ·obtain rfl:=of_decide_eq_true q12;obtain ⟨rfl,rfl,rfl⟩:a=0∧b=0∧c=0:=by simpa [cd,and_assoc] using hb
  rw [LV];exact ⟨trivial,trivial,kZ rfl⟩
 ·have n1:=of_decide_eq_false q1;have n2:=of_decide_eq_false q2;have n3:=of_decide_eq_false q3;have n4:=of_decide_eq_false q4;have n5:=of_decide_eq_false q5;have n6:=of_decide_eq_false q6;have n7:=of_decide_eq_false q7;have n8:=of_decide_eq_false q8;have n9:=of_decide_eq_false q9;have n10:=of_decide_eq_false q10;have n11:=of_decide_eq_false q11;have n12:=of_decide_eq_false q12;obtain rfl:k=13:=by omega
  obtain ⟨rfl,rfl,rfl⟩:b=0∧c=0∧v=0:=by simpa [cd,and_assoc] using hb
  rw [LU];exact ⟨trivial,trivial,kZ rfl⟩
theorem LK:Lu.ok Tryz.prog 5:=aF (ann:=cw) (ae I4 (ae Hb (ae vX (ae Ej (ae G7 (ae Jb (ae G6 (ae I1 (ae Jc (ae G8 (ae G9 (ae BT (ae Ha (ae Ef (ae G5 (ae Ee (ae Eg aq))))))))))))))))) Tryz.func5 (by kernel_rfl) Km
end
section
open Go
set_option maxRecDepth 100000
set_option maxHeartbeats 1000000
set_option maxHeartbeats 4000000
abbrev xS:=Int×Int×Int×Int×Int
abbrev yy:Ty:=.pair ty_I bb
abbrev pD:=Int×Int
theorem GT {α:Type} {P:List α→Prop} (h0:P []) (h1:∀ l x,P l→P (l++[x])) (l:List α):P l:=by
 have h:∀ k:List α,P k.reverse:=fun k=>by
  induction k with
  | nil=>exact h0
  | cons x k ih=>rw [List.reverse_cons]; exact h1 _ _ ih
 have:=h l.reverse
 rwa [List.reverse_reverse] at this
def jl (p:an×List pD) (o:xS):an×List pD :=
 (if (ax p.1 o.1 o.2.1 o.2.2.1 o.2.2.2.1 o.2.2.2.2).2.2=0 then (ax p.1 o.1 o.2.1 o.2.2.1 o.2.2.2.1 o.2.2.2.2).1 else p.1,
  p.2++[((ax p.1 o.1 o.2.1 o.2.2.1 o.2.2.2.1 o.2.2.2.2).2.2,(ax p.1 o.1 o.2.1 o.2.2.1 o.2.2.2.1 o.2.2.2.2).2.1)])
def dQ (s:an) (l:List xS):an×List pD:=l.foldl jl (s,[])
def gK (s:an) (l:List xS):Int:=if aC s≠0 then aC s else if 200<l.length then 2 else 0
def fb (s:an) (l:List xS):an×List pD×Int:=if gK s l≠0 then (aK,[],gK s l) else ((dQ s l).1,(dQ s l).2,0)
def FU:Nat→Option LoopGen
 | 4000001=>some eM
 | _=>none
def Kt:Spec:={ Ts:=[aE],Rs:=[.dat aE],al:=true,pre:=fun _=>True,F:=fun (s:an)=>s }
def Fg:Prop :=
  ∀ (x:List Int×List Int×List (Int×Int)×List (Int×Bool×Int)),((x.1.length * (8:Nat)≤aA∧∀ (x_1:Int),x_1∈x.1→ak IntKind.u64 x_1)∧(x.2.1.length * (8:Nat)≤aA∧∀ (x_1:Int),x_1∈x.2.1→ak IntKind.i64 x_1)∧(x.2.2.1.length * ((8:Nat)+(8:Nat))≤aA∧∀ (x_1:Int×Int),x_1∈x.2.2.1→ak IntKind.i64 x_1.1∧ak IntKind.i64 x_1.2)∧x.2.2.2.length * ((8:Nat)+((8:Nat)+(8:Nat)))≤aA∧∀ (x_1:Int×Bool×Int),x_1∈x.2.2.2→ak IntKind.i64 x_1.1∧True∧ak IntKind.i64 x_1.2.2)→True→True∧True∧True∧x.2.1=x.2.1∧x.2.2.1=x.2.2.1∧x.2.2.1=x.2.2.1∧x.2.2.2=x.2.2.2∧x.2.2.2=x.2.2.2∧x.2.2.2=x.2.2.2∧True∧x=x∧True
theorem H3:Fg:=by
 unfold Fg;intro s _ _;simp
theorem KK:Kt.ok Tryz.prog 43:=aF (ann:=FU) (ae bT (ae ci (ae b8 (ae bU aq)))) Tryz.func43 (by kernel_rfl) H3
def yL:Spec:={ Ts:=[aE],Rs:=[.dat aE],al:=true,pre:=fun _=>True,F:=fun (s:an)=>s }
def oD:Prop :=
  ∀ (x:List Int×List Int×List (Int×Int)×List (Int×Bool×Int)),((x.1.length * (8:Nat)≤aA∧∀ (x_1:Int),x_1∈x.1→ak IntKind.u64 x_1)∧(x.2.1.length * (8:Nat)≤aA∧∀ (x_1:Int),x_1∈x.2.1→ak IntKind.i64 x_1)∧(x.2.2.1.length * ((8:Nat)+(8:Nat))≤aA∧∀ (x_1:Int×Int),x_1∈x.2.2.1→ak IntKind.i64 x_1.1∧ak IntKind.i64 x_1.2)∧x.2.2.2.length * ((8:Nat)+((8:Nat)+(8:Nat)))≤aA∧∀ (x_1:Int×Bool×Int),x_1∈x.2.2.2→ak IntKind.i64 x_1.1∧True∧ak IntKind.i64 x_1.2.2)→True→True∧x.2.1.length * (8:Nat)≤aA∧x.2.2.1.length * ((8:Nat)+(8:Nat))≤aA∧x.2.1=x.2.1∧x.2.2.1=x.2.2.1∧x.2.2.1=x.2.2.1∧x.2.2.2=x.2.2.2∧x.2.2.2=x.2.2.2∧x.2.2.2=x.2.2.2∧x.2.2.2.length * ((8:Nat)+((8:Nat)+(8:Nat)))≤aA∧x=x∧True
theorem vj:oD:=by
 unfold oD;intro s ⟨_,⟨h2,_⟩,⟨h3,_⟩,h4,_⟩ _;exact ⟨trivial,h2,h3,by first | trivial | rfl,by first | trivial | rfl,by first | trivial | rfl,by first | trivial | rfl,by first | trivial | rfl,by first | trivial | rfl,h4,by first | trivial | rfl,trivial⟩
theorem zo:yL.ok Tryz.prog 11:=aF (ann:=FU) (ae gA aq) Tryz.func11 (by kernel_rfl) vj
theorem nu (s:an) (l:List xS) (o:xS):dQ s (l++[o])=jl (dQ s l) o:=by simp [dQ]
theorem pV (s:an):∀ (l:List xS),(dQ s l).2.length=l.length:=by
 have key:∀ (l:List xS) (p:an×List pD),(l.foldl jl p).2.length=p.2.length+l.length:=by
  intro l
  induction l with
  | nil=>intro p; simp
  | cons o l ih =>
   intro p;rw [List.foldl_cons,ih];simp [jl];omega
 intro l;have:=key l (s,[]);simpa [dQ] using this
theorem G3 (s:an):∀ (l:List xS) (i:Nat),i<l.length→(dQ s l).2.getD i (0,0)=(dQ s (l.take (i+1))).2.getD i (0,0):=by
 have key:∀ (l k:List xS),∃ r,(dQ s (l++k)).2=(dQ s l).2++r:=by
  intro l k
  induction k using GT with
  | h0=>exact ⟨[],by simp⟩
  | h1 k o ih =>
   obtain ⟨r,hr⟩:=ih;rw [← List.append_assoc,nu];simp only [jl];rw [hr,List.append_assoc];exact ⟨_,rfl⟩
 intro l i hi;obtain ⟨r,hr⟩:=key (l.take (i+1)) (l.drop (i+1));rw [List.take_append_drop] at hr;have hlen:i<(dQ s (l.take (i+1))).2.length:=by rw [pV,List.length_take]; omega
 rw [hr,List.getD_eq_getElem?_getD,List.getD_eq_getElem?_getD,List.getElem?_append_left hlen]
theorem BQ (s:an) (l:List xS):((decide (aC s=0)&&decide ((200:Int)<l.length))=true→2=gK s l)∧((decide (aC s=0)&&decide ((200:Int)<l.length))=false→aC s=gK s l):=by
 unfold gK;simp only [Bool.and_eq_true,decide_eq_true_eq,Bool.and_eq_false_iff,decide_eq_false_iff_not];refine ⟨fun h=>?_,fun h=>?_⟩
 ·rw [if_neg (by omega),if_pos (by omega)]
 ·by_cases h0:aC s≠0
  ·rw [if_pos h0]
  ·rw [if_neg h0,if_neg (by omega)];omega
theorem rr {s:an} {l:List xS} (h:gK s l=0):aC s=0∧l.length≤200:=by
 unfold gK at h;split at h
 ·omega
 ·split at h <;> omega
def Kc:Nat→Option LoopGen
 | 1000003=>some { rd:=[.dat 0 aE,.dat 1 (.arr lr)],A:=fun ((s,l):an×List xS)=>{ cs:=[.dat 7 ty_I],inv:=fun (e:Int)=>e=gK s l,mu:=fun _=>0 } }
 | 9=>some { rd:=[.dat 0 aE,.dat 29 (.arr lr)],A:=fun ((s,l):an×List xS)=>{ cs:=[.box 2 aE,.own 8 45 yy,.dat 31 ty_I],inv:=fun ((x,o,i):an×List pD×Int)=>0≤i∧i≤l.length∧l.length≤200∧o.length=i.toNat∧(x,o)=dQ s (l.take i.toNat),mu:=fun ((_,_,i):an×List pD×Int)=>(l.length - i).toNat } }
 | _=>none
def Iw:Spec:={ Ts:=[aE,.arr lr],Rs:=[.dat aE,.dat (.arr yy),.dat ty_I],al:=true,pre:=fun _=>True,F:=fun ((s,l):an×List xS)=>fb s l }
def BG:Prop :=
  ∀ (x:(List Int×List Int×List (Int×Int)×List (Int×Bool×Int))×List (Int×Int×Int×Int×Int)),(((x.1.1.length * (8:Nat)≤aA∧∀ (x_1:Int),x_1∈x.1.1→ak IntKind.u64 x_1)∧(x.1.2.1.length * (8:Nat)≤aA∧∀ (x_1:Int),x_1∈x.1.2.1→ak IntKind.i64 x_1)∧(x.1.2.2.1.length * ((8:Nat)+(8:Nat))≤aA∧∀ (x_1:Int×Int),x_1∈x.1.2.2.1→ak IntKind.i64 x_1.1∧ak IntKind.i64 x_1.2)∧x.1.2.2.2.length * ((8:Nat)+((8:Nat)+(8:Nat)))≤aA∧∀ (x_1:Int×Bool×Int),x_1∈x.1.2.2.2→ak IntKind.i64 x_1.1∧True∧ak IntKind.i64 x_1.2.2)∧x.2.length * ((8:Nat)+((8:Nat)+((8:Nat)+((8:Nat)+(8:Nat)))))≤aA∧∀ (x_1:Int×Int×Int×Int×Int),x_1∈x.2→ak IntKind.i64 x_1.1∧ak IntKind.i64 x_1.2.1∧ak IntKind.i64 x_1.2.2.1∧ak IntKind.i64 x_1.2.2.2.1∧ak IntKind.u64 x_1.2.2.2.2)→True→True∧(((decide (aC x.1=(0:Int))&&decide ((200:Int)<(↑x.2.length:Int)))=true→(2:Int)=gK x.1 x.2)∧((decide (aC x.1=(0:Int))&&decide ((200:Int)<(↑x.2.length:Int)))=false→aC x.1=gK x.1 x.2))∧∀ (x_1:Int),x_1=gK x.1 x.2→(decide (x_1≠(0:Int))=true→(([]:List Int),([]:List Int),([]:List (Int×Int)),([]:List (Int×Bool×Int)))=(fb x.1 x.2).1∧([]:List (Int×Int))=(fb x.1 x.2).2.1∧x_1=(fb x.1 x.2).2.2∧True)∧(decide (x_1≠(0:Int))=false→True∧((0:Int)≤(0:Int)∧(0:Int)≤(↑x.2.length:Int)∧x.2.length≤(200:Nat)∧(0:Nat)=Int.toNat (0:Int)∧(x.1,([]:List (Int×Int)))=dQ x.1 (List.take (Int.toNat (0:Int)) x.2))∧∀ (x_2:(List Int×List Int×List (Int×Int)×List (Int×Bool×Int))×List (Int×Int)×Int),(0:Int)≤x_2.2.2∧x_2.2.2≤(↑x.2.length:Int)∧x.2.length≤(200:Nat)∧x_2.2.1.length=x_2.2.2.toNat∧(x_2.1,x_2.2.1)=dQ x.1 (List.take x_2.2.2.toNat x.2)→(decide (x_2.2.2<(↑x.2.length:Int))=true→(0:Int)≤x_2.2.2∧x_2.2.2<(↑x.2.length:Int)∧True∧(decide ((ax x_2.1 (x.2.getD x_2.2.2.toNat ((0:Int),(0:Int),(0:Int),(0:Int),(0:Int))).1 (x.2.getD x_2.2.2.toNat ((0:Int),(0:Int),(0:Int),(0:Int),(0:Int))).2.1 (x.2.getD x_2.2.2.toNat ((0:Int),(0:Int),(0:Int),(0:Int),(0:Int))).2.2.1 (x.2.getD x_2.2.2.toNat ((0:Int),(0:Int),(0:Int),(0:Int),(0:Int))).2.2.2.1 (x.2.getD x_2.2.2.toNat ((0:Int),(0:Int),(0:Int),(0:Int),(0:Int))).2.2.2.2).2.2=(0:Int))=true→(x_2.2.1.length+[((ax x_2.1 (x.2.getD x_2.2.2.toNat ((0:Int),(0:Int),(0:Int),(0:Int),(0:Int))).1 (x.2.getD x_2.2.2.toNat ((0:Int),(0:Int),(0:Int),(0:Int),(0:Int))).2.1 (x.2.getD x_2.2.2.toNat ((0:Int),(0:Int),(0:Int),(0:Int),(0:Int))).2.2.1 (x.2.getD x_2.2.2.toNat ((0:Int),(0:Int),(0:Int),(0:Int),(0:Int))).2.2.2.1 (x.2.getD x_2.2.2.toNat ((0:Int),(0:Int),(0:Int),(0:Int),(0:Int))).2.2.2.2).2.2,(ax x_2.1 (x.2.getD x_2.2.2.toNat ((0:Int),(0:Int),(0:Int),(0:Int),(0:Int))).1 (x.2.getD x_2.2.2.toNat ((0:Int),(0:Int),(0:Int),(0:Int),(0:Int))).2.1 (x.2.getD x_2.2.2.toNat ((0:Int),(0:Int),(0:Int),(0:Int),(0:Int))).2.2.1 (x.2.getD x_2.2.2.toNat ((0:Int),(0:Int),(0:Int),(0:Int),(0:Int))).2.2.2.1 (x.2.getD x_2.2.2.toNat ((0:Int),(0:Int),(0:Int),(0:Int),(0:Int))).2.2.2.2).2.1)].length) * ((8:Nat)+(8:Nat))≤aA∧ak IntKind.i64 (x_2.2.2+(1:Int))∧((0:Int)≤x_2.2.2+(1:Int)∧x_2.2.2+(1:Int)≤(↑x.2.length:Int)∧x.2.length≤(200:Nat)∧(x_2.2.1++[((ax x_2.1 (x.2.getD x_2.2.2.toNat ((0:Int),(0:Int),(0:Int),(0:Int),(0:Int))).1 (x.2.getD x_2.2.2.toNat ((0:Int),(0:Int),(0:Int),(0:Int),(0:Int))).2.1 (x.2.getD x_2.2.2.toNat ((0:Int),(0:Int),(0:Int),(0:Int),(0:Int))).2.2.1 (x.2.getD x_2.2.2.toNat ((0:Int),(0:Int),(0:Int),(0:Int),(0:Int))).2.2.2.1 (x.2.getD x_2.2.2.toNat ((0:Int),(0:Int),(0:Int),(0:Int),(0:Int))).2.2.2.2).2.2,(ax x_2.1 (x.2.getD x_2.2.2.toNat ((0:Int),(0:Int),(0:Int),(0:Int),(0:Int))).1 (x.2.getD x_2.2.2.toNat ((0:Int),(0:Int),(0:Int),(0:Int),(0:Int))).2.1 (x.2.getD x_2.2.2.toNat ((0:Int),(0:Int),(0:Int),(0:Int),(0:Int))).2.2.1 (x.2.getD x_2.2.2.toNat ((0:Int),(0:Int),(0:Int),(0:Int),(0:Int))).2.2.2.1 (x.2.getD x_2.2.2.toNat ((0:Int),(0:Int),(0:Int),(0:Int),(0:Int))).2.2.2.2).2.1)]).length=(x_2.2.2+(1:Int)).toNat∧((ax x_2.1 (x.2.getD x_2.2.2.toNat ((0:Int),(0:Int),(0:Int),(0:Int),(0:Int))).1 (x.2.getD x_2.2.2.toNat ((0:Int),(0:Int),(0:Int),(0:Int),(0:Int))).2.1 (x.2.getD x_2.2.2.toNat ((0:Int),(0:Int),(0:Int),(0:Int),(0:Int))).2.2.1 (x.2.getD x_2.2.2.toNat ((0:Int),(0:Int),(0:Int),(0:Int),(0:Int))).2.2.2.1 (x.2.getD x_2.2.2.toNat ((0:Int),(0:Int),(0:Int),(0:Int),(0:Int))).2.2.2.2).1,x_2.2.1++[((ax x_2.1 (x.2.getD x_2.2.2.toNat ((0:Int),(0:Int),(0:Int),(0:Int),(0:Int))).1 (x.2.getD x_2.2.2.toNat ((0:Int),(0:Int),(0:Int),(0:Int),(0:Int))).2.1 (x.2.getD x_2.2.2.toNat ((0:Int),(0:Int),(0:Int),(0:Int),(0:Int))).2.2.1 (x.2.getD x_2.2.2.toNat ((0:Int),(0:Int),(0:Int),(0:Int),(0:Int))).2.2.2.1 (x.2.getD x_2.2.2.toNat ((0:Int),(0:Int),(0:Int),(0:Int),(0:Int))).2.2.2.2).2.2,(ax x_2.1 (x.2.getD x_2.2.2.toNat ((0:Int),(0:Int),(0:Int),(0:Int),(0:Int))).1 (x.2.getD x_2.2.2.toNat ((0:Int),(0:Int),(0:Int),(0:Int),(0:Int))).2.1 (x.2.getD x_2.2.2.toNat ((0:Int),(0:Int),(0:Int),(0:Int),(0:Int))).2.2.1 (x.2.getD x_2.2.2.toNat ((0:Int),(0:Int),(0:Int),(0:Int),(0:Int))).2.2.2.1 (x.2.getD x_2.2.2.toNat ((0:Int),(0:Int),(0:Int),(0:Int),(0:Int))).2.2.2.2).2.1)])=dQ x.1 (List.take (x_2.2.2+(1:Int)).toNat x.2))∧((↑x.2.length:Int) - (x_2.2.2+(1:Int))).toNat<((↑x.2.length:Int) - x_2.2.2).toNat)∧(decide ((ax x_2.1 (x.2.getD x_2.2.2.toNat ((0:Int),(0:Int),(0:Int),(0:Int),(0:Int))).1 (x.2.getD x_2.2.2.toNat ((0:Int),(0:Int),(0:Int),(0:Int),(0:Int))).2.1 (x.2.getD x_2.2.2.toNat ((0:Int),(0:Int),(0:Int),(0:Int),(0:Int))).2.2.1 (x.2.getD x_2.2.2.toNat ((0:Int),(0:Int),(0:Int),(0:Int),(0:Int))).2.2.2.1 (x.2.getD x_2.2.2.toNat ((0:Int),(0:Int),(0:Int),(0:Int),(0:Int))).2.2.2.2).2.2=(0:Int))=false→(x_2.2.1.length+[((ax x_2.1 (x.2.getD x_2.2.2.toNat ((0:Int),(0:Int),(0:Int),(0:Int),(0:Int))).1 (x.2.getD x_2.2.2.toNat ((0:Int),(0:Int),(0:Int),(0:Int),(0:Int))).2.1 (x.2.getD x_2.2.2.toNat ((0:Int),(0:Int),(0:Int),(0:Int),(0:Int))).2.2.1 (x.2.getD x_2.2.2.toNat ((0:Int),(0:Int),(0:Int),(0:Int),(0:Int))).2.2.2.1 (x.2.getD x_2.2.2.toNat ((0:Int),(0:Int),(0:Int),(0:Int),(0:Int))).2.2.2.2).2.2,(ax x_2.1 (x.2.getD x_2.2.2.toNat ((0:Int),(0:Int),(0:Int),(0:Int),(0:Int))).1 (x.2.getD x_2.2.2.toNat ((0:Int),(0:Int),(0:Int),(0:Int),(0:Int))).2.1 (x.2.getD x_2.2.2.toNat ((0:Int),(0:Int),(0:Int),(0:Int),(0:Int))).2.2.1 (x.2.getD x_2.2.2.toNat ((0:Int),(0:Int),(0:Int),(0:Int),(0:Int))).2.2.2.1 (x.2.getD x_2.2.2.toNat ((0:Int),(0:Int),(0:Int),(0:Int),(0:Int))).2.2.2.2).2.1)].length) * ((8:Nat)+(8:Nat))≤aA∧ak IntKind.i64 (x_2.2.2+(1:Int))∧((0:Int)≤x_2.2.2+(1:Int)∧x_2.2.2+(1:Int)≤(↑x.2.length:Int)∧x.2.length≤(200:Nat)∧(x_2.2.1++[((ax x_2.1 (x.2.getD x_2.2.2.toNat ((0:Int),(0:Int),(0:Int),(0:Int),(0:Int))).1 (x.2.getD x_2.2.2.toNat ((0:Int),(0:Int),(0:Int),(0:Int),(0:Int))).2.1 (x.2.getD x_2.2.2.toNat ((0:Int),(0:Int),(0:Int),(0:Int),(0:Int))).2.2.1 (x.2.getD x_2.2.2.toNat ((0:Int),(0:Int),(0:Int),(0:Int),(0:Int))).2.2.2.1 (x.2.getD x_2.2.2.toNat ((0:Int),(0:Int),(0:Int),(0:Int),(0:Int))).2.2.2.2).2.2,(ax x_2.1 (x.2.getD x_2.2.2.toNat ((0:Int),(0:Int),(0:Int),(0:Int),(0:Int))).1 (x.2.getD x_2.2.2.toNat ((0:Int),(0:Int),(0:Int),(0:Int),(0:Int))).2.1 (x.2.getD x_2.2.2.toNat ((0:Int),(0:Int),(0:Int),(0:Int),(0:Int))).2.2.1 (x.2.getD x_2.2.2.toNat ((0:Int),(0:Int),(0:Int),(0:Int),(0:Int))).2.2.2.1 (x.2.getD x_2.2.2.toNat ((0:Int),(0:Int),(0:Int),(0:Int),(0:Int))).2.2.2.2).2.1)]).length=(x_2.2.2+(1:Int)).toNat∧(x_2.1,x_2.2.1++[((ax x_2.1 (x.2.getD x_2.2.2.toNat ((0:Int),(0:Int),(0:Int),(0:Int),(0:Int))).1 (x.2.getD x_2.2.2.toNat ((0:Int),(0:Int),(0:Int),(0:Int),(0:Int))).2.1 (x.2.getD x_2.2.2.toNat ((0:Int),(0:Int),(0:Int),(0:Int),(0:Int))).2.2.1 (x.2.getD x_2.2.2.toNat ((0:Int),(0:Int),(0:Int),(0:Int),(0:Int))).2.2.2.1 (x.2.getD x_2.2.2.toNat ((0:Int),(0:Int),(0:Int),(0:Int),(0:Int))).2.2.2.2).2.2,(ax x_2.1 (x.2.getD x_2.2.2.toNat ((0:Int),(0:Int),(0:Int),(0:Int),(0:Int))).1 (x.2.getD x_2.2.2.toNat ((0:Int),(0:Int),(0:Int),(0:Int),(0:Int))).2.1 (x.2.getD x_2.2.2.toNat ((0:Int),(0:Int),(0:Int),(0:Int),(0:Int))).2.2.1 (x.2.getD x_2.2.2.toNat ((0:Int),(0:Int),(0:Int),(0:Int),(0:Int))).2.2.2.1 (x.2.getD x_2.2.2.toNat ((0:Int),(0:Int),(0:Int),(0:Int),(0:Int))).2.2.2.2).2.1)])=dQ x.1 (List.take (x_2.2.2+(1:Int)).toNat x.2))∧((↑x.2.length:Int) - (x_2.2.2+(1:Int))).toNat<((↑x.2.length:Int) - x_2.2.2).toNat))∧(decide (x_2.2.2<(↑x.2.length:Int))=false→x_2.1=(fb x.1 x.2).1∧x_2.2.1=(fb x.1 x.2).2.1∧(0:Int)=(fb x.1 x.2).2.2∧True))
theorem Ga:BG:=by
 unfold BG;intro ⟨s,l⟩ _ _;simp only;have hF:fb s l=if gK s l≠0 then (aK,[],gK s l) else ((dQ s l).1,(dQ s l).2,0):=rfl
 refine ⟨trivial,BQ s l,fun e he=>⟨fun h=>?_,fun h=>⟨trivial,⟨by omega,by omega,?_,rfl,rfl⟩,fun ⟨x,o,i⟩ ⟨i0,i1,i2,i3,i4⟩=>⟨fun hlt=>?_,fun hge=>?_⟩⟩⟩⟩
 ·have h:=of_decide_eq_true h;rw [hF,if_pos (by rw [← he]; exact h),he];exact ⟨rfl,rfl,rfl,trivial⟩
 ·have h:=of_decide_eq_false h;exact (rr (by rw [← he]; simpa using h)).2
 ·simp only at i0 i1 i2 i3 i4 hlt ⊢;have hlt:=of_decide_eq_true hlt;rw [bo ((0,0,0,0,0):xS) i0 hlt,nu,← i4];generalize l.getD i.toNat (0,0,0,0,0)=r at *;unfold jl;simp only;generalize ax x r.1 r.2.1 r.2.2.1 r.2.2.2.1 r.2.2.2.2=y at *;unfold aA;simp only [ak,List.length_append,List.length_cons,List.length_nil];refine ⟨i0,hlt,trivial,fun hc=>⟨by omega,by omega,⟨by omega,by omega,i2,by omega,?_⟩,by omega⟩,fun hc=>⟨by omega,by omega,⟨by omega,by omega,i2,by omega,?_⟩,by omega⟩⟩
  ·rw [if_pos (of_decide_eq_true hc)]
  ·rw [if_neg (of_decide_eq_false hc)]
 ·simp only at i4 hge ⊢;rw [bF (of_decide_eq_false hge)] at i4;have h:=of_decide_eq_false h;rw [hF,if_neg (by rw [← he]; exact h),← i4];exact ⟨rfl,rfl,rfl,trivial⟩
theorem Ja:Iw.ok Tryz.prog 8:=aF (ann:=Kc) (ae fD (ae KK (ae LK aq))) Tryz.func8 (by kernel_rfl) Ga
def sm:Nat→Option LoopGen
 | 1000004=>some { rd:=[.box 2 aE,.dat 1 (.arr lr)],A:=fun ((s,l):an×List xS)=>{ cs:=[.dat 8 ty_I],inv:=fun (e:Int)=>e=gK s l,mu:=fun _=>0 } }
 | 13=>some { rd:=[.dat 0 aE,.dat 60 (.arr lr),.dat 6 (.arr yy)],A:=fun ((s,l,t):an×List xS×List pD)=>{ cs:=[.box 9 aE,.dat 62 ty_I],inv:=fun ((x,i):an×Int)=>0≤i∧i≤l.length∧x=(dQ s (l.take i.toNat)).1,mu:=fun ((_,i):an×Int)=>(l.length - i).toNat } }
 | _=>none
def rZ:Spec:=IA [aE,.arr lr]
def li:Prop :=
  ∀ (x:(List Int×List Int×List (Int×Int)×List (Int×Bool×Int))×List (Int×Int×Int×Int×Int)),(((x.1.1.length * (8:Nat)≤aA∧∀ (x_1:Int),x_1∈x.1.1→ak IntKind.u64 x_1)∧(x.1.2.1.length * (8:Nat)≤aA∧∀ (x_1:Int),x_1∈x.1.2.1→ak IntKind.i64 x_1)∧(x.1.2.2.1.length * ((8:Nat)+(8:Nat))≤aA∧∀ (x_1:Int×Int),x_1∈x.1.2.2.1→ak IntKind.i64 x_1.1∧ak IntKind.i64 x_1.2)∧x.1.2.2.2.length * ((8:Nat)+((8:Nat)+(8:Nat)))≤aA∧∀ (x_1:Int×Bool×Int),x_1∈x.1.2.2.2→ak IntKind.i64 x_1.1∧True∧ak IntKind.i64 x_1.2.2)∧x.2.length * ((8:Nat)+((8:Nat)+((8:Nat)+((8:Nat)+(8:Nat)))))≤aA∧∀ (x_1:Int×Int×Int×Int×Int),x_1∈x.2→ak IntKind.i64 x_1.1∧ak IntKind.i64 x_1.2.1∧ak IntKind.i64 x_1.2.2.1∧ak IntKind.i64 x_1.2.2.2.1∧ak IntKind.u64 x_1.2.2.2.2)→(((x.1.1.length * (8:Nat)≤(140737488351232:Nat)∧∀ (x_1:Int),x_1∈x.1.1→fo bb x_1)∧(x.1.2.1.length * (8:Nat)≤(140737488351232:Nat)∧∀ (x_1:Int),x_1∈x.1.2.1→fo ty_I x_1)∧(x.1.2.2.1.length * ((8:Nat)+(8:Nat))≤(140737488351232:Nat)∧∀ (x_1:Int×Int),x_1∈x.1.2.2.1→fo cz x_1)∧x.1.2.2.2.length * ((8:Nat)+((8:Nat)+(8:Nat)))≤(140737488351232:Nat)∧∀ (x_1:Int×Bool×Int),x_1∈x.1.2.2.2→fo bC x_1)∧x.2.length * ((8:Nat)+((8:Nat)+((8:Nat)+((8:Nat)+(8:Nat)))))≤(140737488351232:Nat)∧∀ (x_1:Int×Int×Int×Int×Int),x_1∈x.2→fo lr x_1)→True∧True∧(((decide (aC x.1=(0:Int))&&decide ((200:Int)<(↑x.2.length:Int)))=true→(2:Int)=gK x.1 x.2)∧((decide (aC x.1=(0:Int))&&decide ((200:Int)<(↑x.2.length:Int)))=false→aC x.1=gK x.1 x.2))∧∀ (x_1:Int),x_1=gK x.1 x.2→(decide (x_1≠(0:Int))=true→True∧(decide ((fb x.1 x.2).1=(([]:List Int),([]:List Int),([]:List (Int×Int)),([]:List (Int×Bool×Int))))&&decide ((↑(fb x.1 x.2).2.1.length:Int)=(0:Int))&&decide ((fb x.1 x.2).2.2=x_1))=true∧True)∧(decide (x_1≠(0:Int))=false→(decide ((40:Int)<(↑x.2.length:Int))=true→true=true∧True)∧(decide ((40:Int)<(↑x.2.length:Int))=false→((decide ((fb x.1 x.2).2.2≠(0:Int))||decide ((↑(fb x.1 x.2).2.1.length:Int)≠(↑x.2.length:Int)))=true→false=true∧True)∧((decide ((fb x.1 x.2).2.2≠(0:Int))||decide ((↑(fb x.1 x.2).2.1.length:Int)≠(↑x.2.length:Int)))=false→True∧((0:Int)≤(0:Int)∧(0:Int)≤(↑x.2.length:Int)∧x.1=(dQ x.1 (List.take (Int.toNat (0:Int)) x.2)).1)∧∀ (x_2:(List Int×List Int×List (Int×Int)×List (Int×Bool×Int))×Int),(0:Int)≤x_2.2∧x_2.2≤(↑x.2.length:Int)∧x_2.1=(dQ x.1 (List.take x_2.2.toNat x.2)).1→(decide (x_2.2<(↑x.2.length:Int))=true→(0:Int)≤x_2.2∧x_2.2<(↑x.2.length:Int)∧True∧(0:Int)≤x_2.2∧x_2.2<(↑(fb x.1 x.2).2.1.length:Int)∧(decide (((fb x.1 x.2).2.1.getD x_2.2.toNat ((0:Int),(0:Int))).1≠(ax x_2.1 (x.2.getD x_2.2.toNat ((0:Int),(0:Int),(0:Int),(0:Int),(0:Int))).1 (x.2.getD x_2.2.toNat ((0:Int),(0:Int),(0:Int),(0:Int),(0:Int))).2.1 (x.2.getD x_2.2.toNat ((0:Int),(0:Int),(0:Int),(0:Int),(0:Int))).2.2.1 (x.2.getD x_2.2.toNat ((0:Int),(0:Int),(0:Int),(0:Int),(0:Int))).2.2.2.1 (x.2.getD x_2.2.toNat ((0:Int),(0:Int),(0:Int),(0:Int),(0:Int))).2.2.2.2).2.2)=false→(0:Int)≤x_2.2)∧(decide (((fb x.1 x.2).2.1.getD x_2.2.toNat ((0:Int),(0:Int))).1≠(ax x_2.1 (x.2.getD x_2.2.toNat ((0:Int),(0:Int),(0:Int),(0:Int),(0:Int))).1 (x.2.getD x_2.2.toNat ((0:Int),(0:Int),(0:Int),(0:Int),(0:Int))).2.1 (x.2.getD x_2.2.toNat ((0:Int),(0:Int),(0:Int),(0:Int),(0:Int))).2.2.1 (x.2.getD x_2.2.toNat ((0:Int),(0:Int),(0:Int),(0:Int),(0:Int))).2.2.2.1 (x.2.getD x_2.2.toNat ((0:Int),(0:Int),(0:Int),(0:Int),(0:Int))).2.2.2.2).2.2)=false→x_2.2<(↑(fb x.1 x.2).2.1.length:Int))∧((decide (((fb x.1 x.2).2.1.getD x_2.2.toNat ((0:Int),(0:Int))).1≠(ax x_2.1 (x.2.getD x_2.2.toNat ((0:Int),(0:Int),(0:Int),(0:Int),(0:Int))).1 (x.2.getD x_2.2.toNat ((0:Int),(0:Int),(0:Int),(0:Int),(0:Int))).2.1 (x.2.getD x_2.2.toNat ((0:Int),(0:Int),(0:Int),(0:Int),(0:Int))).2.2.1 (x.2.getD x_2.2.toNat ((0:Int),(0:Int),(0:Int),(0:Int),(0:Int))).2.2.2.1 (x.2.getD x_2.2.toNat ((0:Int),(0:Int),(0:Int),(0:Int),(0:Int))).2.2.2.2).2.2)||decide (((fb x.1 x.2).2.1.getD x_2.2.toNat ((0:Int),(0:Int))).2≠(ax x_2.1 (x.2.getD x_2.2.toNat ((0:Int),(0:Int),(0:Int),(0:Int),(0:Int))).1 (x.2.getD x_2.2.toNat ((0:Int),(0:Int),(0:Int),(0:Int),(0:Int))).2.1 (x.2.getD x_2.2.toNat ((0:Int),(0:Int),(0:Int),(0:Int),(0:Int))).2.2.1 (x.2.getD x_2.2.toNat ((0:Int),(0:Int),(0:Int),(0:Int),(0:Int))).2.2.2.1 (x.2.getD x_2.2.toNat ((0:Int),(0:Int),(0:Int),(0:Int),(0:Int))).2.2.2.2).2.1))=true→false=true∧True)∧((decide (((fb x.1 x.2).2.1.getD x_2.2.toNat ((0:Int),(0:Int))).1≠(ax x_2.1 (x.2.getD x_2.2.toNat ((0:Int),(0:Int),(0:Int),(0:Int),(0:Int))).1 (x.2.getD x_2.2.toNat ((0:Int),(0:Int),(0:Int),(0:Int),(0:Int))).2.1 (x.2.getD x_2.2.toNat ((0:Int),(0:Int),(0:Int),(0:Int),(0:Int))).2.2.1 (x.2.getD x_2.2.toNat ((0:Int),(0:Int),(0:Int),(0:Int),(0:Int))).2.2.2.1 (x.2.getD x_2.2.toNat ((0:Int),(0:Int),(0:Int),(0:Int),(0:Int))).2.2.2.2).2.2)||decide (((fb x.1 x.2).2.1.getD x_2.2.toNat ((0:Int),(0:Int))).2≠(ax x_2.1 (x.2.getD x_2.2.toNat ((0:Int),(0:Int),(0:Int),(0:Int),(0:Int))).1 (x.2.getD x_2.2.toNat ((0:Int),(0:Int),(0:Int),(0:Int),(0:Int))).2.1 (x.2.getD x_2.2.toNat ((0:Int),(0:Int),(0:Int),(0:Int),(0:Int))).2.2.1 (x.2.getD x_2.2.toNat ((0:Int),(0:Int),(0:Int),(0:Int),(0:Int))).2.2.2.1 (x.2.getD x_2.2.toNat ((0:Int),(0:Int),(0:Int),(0:Int),(0:Int))).2.2.2.2).2.1))=false→(decide ((ax x_2.1 (x.2.getD x_2.2.toNat ((0:Int),(0:Int),(0:Int),(0:Int),(0:Int))).1 (x.2.getD x_2.2.toNat ((0:Int),(0:Int),(0:Int),(0:Int),(0:Int))).2.1 (x.2.getD x_2.2.toNat ((0:Int),(0:Int),(0:Int),(0:Int),(0:Int))).2.2.1 (x.2.getD x_2.2.toNat ((0:Int),(0:Int),(0:Int),(0:Int),(0:Int))).2.2.2.1 (x.2.getD x_2.2.toNat ((0:Int),(0:Int),(0:Int),(0:Int),(0:Int))).2.2.2.2).2.2=(0:Int))=true→ak IntKind.i64 (x_2.2+(1:Int))∧((0:Int)≤x_2.2+(1:Int)∧x_2.2+(1:Int)≤(↑x.2.length:Int)∧(ax x_2.1 (x.2.getD x_2.2.toNat ((0:Int),(0:Int),(0:Int),(0:Int),(0:Int))).1 (x.2.getD x_2.2.toNat ((0:Int),(0:Int),(0:Int),(0:Int),(0:Int))).2.1 (x.2.getD x_2.2.toNat ((0:Int),(0:Int),(0:Int),(0:Int),(0:Int))).2.2.1 (x.2.getD x_2.2.toNat ((0:Int),(0:Int),(0:Int),(0:Int),(0:Int))).2.2.2.1 (x.2.getD x_2.2.toNat ((0:Int),(0:Int),(0:Int),(0:Int),(0:Int))).2.2.2.2).1=(dQ x.1 (List.take (x_2.2+(1:Int)).toNat x.2)).1)∧((↑x.2.length:Int) - (x_2.2+(1:Int))).toNat<((↑x.2.length:Int) - x_2.2).toNat)∧(decide ((ax x_2.1 (x.2.getD x_2.2.toNat ((0:Int),(0:Int),(0:Int),(0:Int),(0:Int))).1 (x.2.getD x_2.2.toNat ((0:Int),(0:Int),(0:Int),(0:Int),(0:Int))).2.1 (x.2.getD x_2.2.toNat ((0:Int),(0:Int),(0:Int),(0:Int),(0:Int))).2.2.1 (x.2.getD x_2.2.toNat ((0:Int),(0:Int),(0:Int),(0:Int),(0:Int))).2.2.2.1 (x.2.getD x_2.2.toNat ((0:Int),(0:Int),(0:Int),(0:Int),(0:Int))).2.2.2.2).2.2=(0:Int))=false→ak IntKind.i64 (x_2.2+(1:Int))∧((0:Int)≤x_2.2+(1:Int)∧x_2.2+(1:Int)≤(↑x.2.length:Int)∧x_2.1=(dQ x.1 (List.take (x_2.2+(1:Int)).toNat x.2)).1)∧((↑x.2.length:Int) - (x_2.2+(1:Int))).toNat<((↑x.2.length:Int) - x_2.2).toNat)))∧(decide (x_2.2<(↑x.2.length:Int))=false→True∧decide ((fb x.1 x.2).1=x_2.1)=true∧True))))
theorem pG:li:=by
 unfold li;intro ⟨s,l⟩ _ _;simp only;have hF:fb s l=if gK s l≠0 then (aK,[],gK s l) else ((dQ s l).1,(dQ s l).2,0):=rfl
 have hlen:=pV s l;refine ⟨trivial,trivial,BQ s l,fun e he=>⟨fun h=>?_,fun h=>⟨fun _=>⟨by first | trivial | rfl,trivial⟩,fun _=>?_⟩⟩⟩
 ·have h:=of_decide_eq_true h;rw [hF,if_pos (by rw [← he]; exact h),he];simp [aK]
 have h:=of_decide_eq_false h;have h200:=(rr (s:=s) (l:=l) (by rw [← he]; simpa using h)).2;rw [hF,if_neg (by rw [← he]; exact h)];simp only;refine ⟨fun hc=>?_,fun _=>⟨trivial,⟨by omega,by omega,rfl⟩,fun ⟨x,i⟩ ⟨i0,i1,i2⟩=>⟨fun hlt=>?_,fun hge=>?_⟩⟩⟩
 ·rw [hlen] at hc;simp at hc
 ·simp only at i0 i1 i2 hlt ⊢;have hlt:=of_decide_eq_true hlt;have hg:=G3 s l i.toNat (by omega)
  have ht:l.take (i.toNat+1)=l.take i.toNat++[l.getD i.toNat (0,0,0,0,0)]:=by
   rw [← bo ((0,0,0,0,0):xS) i0 hlt];congr 1;omega
  have hpl:=pV s (l.take i.toNat);rw [List.length_take] at hpl;rw [hg,bo ((0,0,0,0,0):xS) i0 hlt,ht,nu,i2];generalize l.getD i.toNat (0,0,0,0,0)=r at *;unfold jl;simp only
  have hgd:∀ z:pD,((dQ s (l.take i.toNat)).2++[z]).getD i.toNat (0,0)=z:=fun z=>by
   rw [List.getD_eq_getElem?_getD,List.getElem?_append_right (by omega)];have:i.toNat - (dQ s (l.take i.toNat)).2.length=0:=by omega
   rw [this];rfl
  rw [hgd];generalize ax (dQ s (l.take i.toNat)).1 r.1 r.2.1 r.2.2.1 r.2.2.2.1 r.2.2.2.2=y at *;simp only [ak];refine ⟨i0,hlt,trivial,i0,by omega,fun _=>i0,fun _=>by omega,fun hc=>?_,fun _=>⟨fun hc=>⟨by omega,⟨by omega,by omega,?_⟩,by omega⟩,fun hc=>⟨by omega,⟨by omega,by omega,?_⟩,by omega⟩⟩⟩
  ·simp at hc
  ·rw [if_pos (of_decide_eq_true hc)]
  ·rw [if_neg (of_decide_eq_false hc)]
 ·simp only at i2 hge ⊢;rw [bF (of_decide_eq_false hge)] at i2;exact ⟨trivial,by rw [i2]; simp,trivial⟩
theorem r6:rZ.ok Tryz.prog 4:=aF (ann:=sm) (ae Ja (ae lI (ae vZ (ae zo (ae I9 aq))))) Tryz.func4 (by kernel_rfl) pG
end
end Go.Proofs.YtglchojglcobjaaGreatDoor
