
import Derived.Test.YtglchojglcobjaaGreatStorePure
namespace Go.Proofs.YtglchojglcobjaaGreat
open Go
set_option maxRecDepth 100000
set_option maxHeartbeats 1000000
def yi:Nat→Option LoopGen
 | 5000004=>some { rd:=[.box 1 bu],A:=fun (s:aq)=>{ cs:=[.own 9 3 ty_I,.own 10 3 ty_I],inv:=fun ((ra,ha):List Int×List Int)=>ra=List.replicate s.1.length 0∧ha=List.replicate 256 0,mu:=fun _=>0 } }
 | 6=>some { wr:=[9,10],rd:=[.box 1 bu],A:=fun (s:aq)=>{ cs:=[.own 9 3 ty_I,.own 10 3 ty_I,.dat 42 ty_I],inv:=fun ((ra,ha,i):List Int×List Int×Int)=>0≤i∧i≤(am s).length∧ra=bP (List.replicate s.1.length 0) ((am s).take i.toNat) (jG s)∧ha=bP (List.replicate 256 0) ((am s).take i.toNat) (jG s),mu:=fun ((_,_,i):List Int×List Int×Int)=>((am s).length - i).toNat } }
 | 15=>some { rd:=[.own 86 42 eP],A:=fun (g:List bK)=>{ cs:=[.dat 13 ty_I,.dat 88 ty_I],inv:=fun ((n,i):Int×Int)=>0≤i∧i≤g.length∧g.length≤256∧(∀ r∈g,0≤r.2∧r.2≤256)∧n=dS (g.take i.toNat)∧0≤n∧n≤256 * i,mu:=fun ((_,i):Int×Int)=>(g.length - i).toNat } }
 | _=>none
def wQ:Spec:={ Ts:=[bu],Rs:=[.dat bu,.dat ty_I],al:=true,pre:=fun (s:aq)=>aO s=0,F:=dJ }
def ny:Prop :=
  ∀ (x:List Int×List Int×List (Int×Int)×List (Int×Bool×Int)),((x.1.length * (8:Nat)≤az∧∀ (x_1:Int),x_1∈x.1→ak IntKind.u64 x_1)∧(x.2.1.length * (8:Nat)≤az∧∀ (x_1:Int),x_1∈x.2.1→ak IntKind.i64 x_1)∧(x.2.2.1.length * ((8:Nat)+(8:Nat))≤az∧∀ (x_1:Int×Int),x_1∈x.2.2.1→ak IntKind.i64 x_1.1∧ak IntKind.i64 x_1.2)∧x.2.2.2.length * ((8:Nat)+((8:Nat)+(8:Nat)))≤az∧∀ (x_1:Int×Bool×Int),x_1∈x.2.2.2→ak IntKind.i64 x_1.1∧True∧ak IntKind.i64 x_1.2.2)→aO x=(0:Int)→(x.2.1.length≤(32:Nat)∧x.2.2.1.length≤(16:Nat)∧x.2.2.2.length≤(16:Nat))∧True∧((am x).length+(List.map (fun (x:bh)=>x.1) x.2.2.1).length) * (8:Nat)≤(140737488355328:Nat)∧True∧((((((0:Int)≤(↑x.1.length:Int)∧(↑x.1.length:Int).toNat * (8:Nat)≤az∧((0:Int)≤(256:Int)∧Int.toNat (256:Int) * (8:Nat)≤az∧((List.replicate (↑x.1.length:Int).toNat (0:Int)=List.replicate x.1.length (0:Int)∧List.replicate (Int.toNat (256:Int)) (0:Int)=List.replicate (256:Nat) (0:Int))∧True)∧True)∧(((0:Int)≤(256:Int)∧Int.toNat (256:Int) * (8:Nat)≤az∧(List.replicate (↑x.1.length:Int).toNat (0:Int)=List.replicate x.1.length (0:Int)∧List.replicate (Int.toNat (256:Int)) (0:Int)=List.replicate (256:Nat) (0:Int))∧True)∧True)∧True)∧((0:Int)≤(256:Int)∧Int.toNat (256:Int) * (8:Nat)≤az∧((0:Int)≤(↑x.1.length:Int)∧(↑x.1.length:Int).toNat * (8:Nat)≤az∧((List.replicate (↑x.1.length:Int).toNat (0:Int)=List.replicate x.1.length (0:Int)∧List.replicate (Int.toNat (256:Int)) (0:Int)=List.replicate (256:Nat) (0:Int))∧True)∧True)∧True)∧True)∧((0:Int)≤(256:Int)∧Int.toNat (256:Int) * (8:Nat)≤az∧(((0:Int)≤(↑x.1.length:Int)∧(↑x.1.length:Int).toNat * (8:Nat)≤az∧((List.replicate (↑x.1.length:Int).toNat (0:Int)=List.replicate x.1.length (0:Int)∧List.replicate (Int.toNat (256:Int)) (0:Int)=List.replicate (256:Nat) (0:Int))∧True)∧True)∧True)∧True)∧True)∧((0:Int)≤(256:Int)∧Int.toNat (256:Int) * (8:Nat)≤az∧((((0:Int)≤(↑x.1.length:Int)∧(↑x.1.length:Int).toNat * (8:Nat)≤az∧((List.replicate (↑x.1.length:Int).toNat (0:Int)=List.replicate x.1.length (0:Int)∧List.replicate (Int.toNat (256:Int)) (0:Int)=List.replicate (256:Nat) (0:Int))∧True)∧True)∧True)∧True)∧True)∧True)∧((0:Int)≤(256:Int)∧Int.toNat (256:Int) * (8:Nat)≤az∧(((((0:Int)≤(↑x.1.length:Int)∧(↑x.1.length:Int).toNat * (8:Nat)≤az∧((List.replicate (↑x.1.length:Int).toNat (0:Int)=List.replicate x.1.length (0:Int)∧List.replicate (Int.toNat (256:Int)) (0:Int)=List.replicate (256:Nat) (0:Int))∧True)∧True)∧True)∧True)∧True)∧True)∧True)∧∀ (x_1:List Int×List Int),x_1.1=List.replicate x.1.length (0:Int)∧x_1.2=List.replicate (256:Nat) (0:Int)→((0:Int)≤(0:Int)∧(0:Int)≤(↑(am x).length:Int)∧x_1.1=bP (List.replicate x.1.length (0:Int)) (List.take (Int.toNat (0:Int)) (am x)) (jG x)∧x_1.2=bP (List.replicate (256:Nat) (0:Int)) (List.take (Int.toNat (0:Int)) (am x)) (jG x))∧∀ (x_2:List Int×List Int×Int),(0:Int)≤x_2.2.2∧x_2.2.2≤(↑(am x).length:Int)∧x_2.1=bP (List.replicate x.1.length (0:Int)) (List.take x_2.2.2.toNat (am x)) (jG x)∧x_2.2.1=bP (List.replicate (256:Nat) (0:Int)) (List.take x_2.2.2.toNat (am x)) (jG x)→(decide (x_2.2.2<(↑(am x).length:Int))=true→(0:Int)≤x_2.2.2∧x_2.2.2<(↑(am x).length:Int)∧x_2.2.2.toNat<(am x).length∧(0:Int)≤x_2.2.2∧x_2.2.2<(↑(ar x.1 (am x) (List.map (fun (x:bh)=>x.1) x.2.2.1)).2.1.length:Int)∧(0:Int)≤x_2.2.2∧x_2.2.2<(↑(ar x.1 (am x) (List.map (fun (x:bh)=>x.1) x.2.2.1)).2.1.length:Int)∧(0:Int)≤(am x).getD x_2.2.2.toNat (0:Int)∧(am x).getD x_2.2.2.toNat (0:Int)<(↑x_2.1.length:Int)∧((am x).getD x_2.2.2.toNat (0:Int)).toNat<x_2.1.length∧(0:Int)≤(am x).getD x_2.2.2.toNat (0:Int)∧(am x).getD x_2.2.2.toNat (0:Int)<(↑x_2.2.1.length:Int)∧((am x).getD x_2.2.2.toNat (0:Int)).toNat<x_2.2.1.length∧ak IntKind.i64 (x_2.2.2+(1:Int))∧((0:Int)≤x_2.2.2+(1:Int)∧x_2.2.2+(1:Int)≤(↑(am x).length:Int)∧x_2.1.set ((am x).getD x_2.2.2.toNat (0:Int)).toNat ((ar x.1 (am x) (List.map (fun (x:bh)=>x.1) x.2.2.1)).2.1.getD x_2.2.2.toNat (0:Int))=bP (List.replicate x.1.length (0:Int)) (List.take (x_2.2.2+(1:Int)).toNat (am x)) (jG x)∧x_2.2.1.set ((am x).getD x_2.2.2.toNat (0:Int)).toNat ((ar x.1 (am x) (List.map (fun (x:bh)=>x.1) x.2.2.1)).2.1.getD x_2.2.2.toNat (0:Int))=bP (List.replicate (256:Nat) (0:Int)) (List.take (x_2.2.2+(1:Int)).toNat (am x)) (jG x))∧((↑(am x).length:Int) - (x_2.2.2+(1:Int))).toNat<((↑(am x).length:Int) - x_2.2.2).toNat)∧(decide (x_2.2.2<(↑(am x).length:Int))=false→True∧True∧True∧((0:Int)≤(0:Int)∧(0:Int)≤(↑(au (ar x.1 (am x) (List.map (fun (x:bh)=>x.1) x.2.2.1)).1).1.length:Int)∧(au (ar x.1 (am x) (List.map (fun (x:bh)=>x.1) x.2.2.1)).1).1.length≤(256:Nat)∧(∀ (r:bK),r∈(au (ar x.1 (am x) (List.map (fun (x:bh)=>x.1) x.2.2.1)).1).1→(0:Int)≤r.2∧r.2≤(256:Int))∧(0:Int)=dS (List.take (Int.toNat (0:Int)) (au (ar x.1 (am x) (List.map (fun (x:bh)=>x.1) x.2.2.1)).1).1)∧(0:Int)≤(0:Int)∧(0:Int)≤(256:Int) * (0:Int))∧∀ (x_3:Int×Int),(0:Int)≤x_3.2∧x_3.2≤(↑(au (ar x.1 (am x) (List.map (fun (x:bh)=>x.1) x.2.2.1)).1).1.length:Int)∧(au (ar x.1 (am x) (List.map (fun (x:bh)=>x.1) x.2.2.1)).1).1.length≤(256:Nat)∧(∀ (r:bK),r∈(au (ar x.1 (am x) (List.map (fun (x:bh)=>x.1) x.2.2.1)).1).1→(0:Int)≤r.2∧r.2≤(256:Int))∧x_3.1=dS (List.take x_3.2.toNat (au (ar x.1 (am x) (List.map (fun (x:bh)=>x.1) x.2.2.1)).1).1)∧(0:Int)≤x_3.1∧x_3.1≤(256:Int) * x_3.2→(decide (x_3.2<(↑(au (ar x.1 (am x) (List.map (fun (x:bh)=>x.1) x.2.2.1)).1).1.length:Int))=true→(0:Int)≤x_3.2∧x_3.2<(↑(au (ar x.1 (am x) (List.map (fun (x:bh)=>x.1) x.2.2.1)).1).1.length:Int)∧x_3.2.toNat<(au (ar x.1 (am x) (List.map (fun (x:bh)=>x.1) x.2.2.1)).1).1.length∧ak IntKind.i64 (x_3.1+((au (ar x.1 (am x) (List.map (fun (x:bh)=>x.1) x.2.2.1)).1).1.getD x_3.2.toNat ((0:Int),(0:Int))).2)∧ak IntKind.i64 (x_3.2+(1:Int))∧((0:Int)≤x_3.2+(1:Int)∧x_3.2+(1:Int)≤(↑(au (ar x.1 (am x) (List.map (fun (x:bh)=>x.1) x.2.2.1)).1).1.length:Int)∧(au (ar x.1 (am x) (List.map (fun (x:bh)=>x.1) x.2.2.1)).1).1.length≤(256:Nat)∧(∀ (r:bK),r∈(au (ar x.1 (am x) (List.map (fun (x:bh)=>x.1) x.2.2.1)).1).1→(0:Int)≤r.2∧r.2≤(256:Int))∧x_3.1+((au (ar x.1 (am x) (List.map (fun (x:bh)=>x.1) x.2.2.1)).1).1.getD x_3.2.toNat ((0:Int),(0:Int))).2=dS (List.take (x_3.2+(1:Int)).toNat (au (ar x.1 (am x) (List.map (fun (x:bh)=>x.1) x.2.2.1)).1).1)∧(0:Int)≤x_3.1+((au (ar x.1 (am x) (List.map (fun (x:bh)=>x.1) x.2.2.1)).1).1.getD x_3.2.toNat ((0:Int),(0:Int))).2∧x_3.1+((au (ar x.1 (am x) (List.map (fun (x:bh)=>x.1) x.2.2.1)).1).1.getD x_3.2.toNat ((0:Int),(0:Int))).2≤(256:Int) * (x_3.2+(1:Int)))∧((↑(au (ar x.1 (am x) (List.map (fun (x:bh)=>x.1) x.2.2.1)).1).1.length:Int) - (x_3.2+(1:Int))).toNat<((↑(au (ar x.1 (am x) (List.map (fun (x:bh)=>x.1) x.2.2.1)).1).1.length:Int) - x_3.2).toNat)∧(decide (x_3.2<(↑(au (ar x.1 (am x) (List.map (fun (x:bh)=>x.1) x.2.2.1)).1).1.length:Int))=false→((ar x.1 (am x) (List.map (fun (x:bh)=>x.1) x.2.2.1)).1,(bw x.2.1 (↑x.1.length:Int) x_2.1).1,x.2.2.1,(ft x.2.2.2 x_2.2.1).1)=(dJ x).1∧x_3.1=(dJ x).2∧True))
theorem tD:ny:=by
 unfold ny
 intro s ⟨⟨hb,hw⟩,_⟩ hs
 have R:=ky hw hs
 have hcl:ar s.1 (am s) (List.map (fun (x:bh)=>x.1) s.2.2.1)=(cC s,(am s).map (jG s),0):=R.clean
 obtain ⟨hgf,hgi,hgl⟩:=R.gaps
 have hfl:=R.fromLen
 have hsm:=R.small
 have hal:=R.al
 have hF:dJ s=(aT s,dS (aL false [] (aa (cC s)).1)):=rfl
 have hfm:=fun x=>fV (s:=s) R.root (x:=x)
 have hsr:=R.swapRoots
 have hsh:=R.swapHands
 rw [hF,hcl]
 simp only
 rw [hgf]
 simp only
 generalize aL false [] (aa (cC s)).1=g at *
 unfold az at hb ⊢
 refine ⟨hsm,trivial,by rw [List.length_map]; omega,trivial,?_,fun ⟨ra,ha⟩ ⟨q1,q2⟩=>?_⟩
 ·have e1:((s.1.length:Int)).toNat=s.1.length:=by omega
  have e2:Int.toNat 256=256:=rfl
  have e3:(0:Int)≤(s.1.length:Int):=by omega
  simp only [e1,e2,e3,hb,true_and,and_true]
  omega
 simp only at q1 q2
 subst q1 q2
 refine ⟨⟨by omega,by omega,by simp [bP],by simp [bP]⟩,fun ⟨ra,ha,i⟩ ⟨i0,i1,i2,i3⟩=>⟨fun hlt=>?_,fun hge=>?_⟩⟩
 ·simp only at i0 i1 i2 i3 hlt ⊢
  have hlt:=of_decide_eq_true hlt
  have ht:=bj (0:Int) i0 hlt
  have hx:=R.nameIn ((hfm _).1 (aD (0:Int) i0 hlt))
  have hm:(List.map (jG s) (am s)).getD i.toNat 0=jG s ((am s).getD i.toNat 0):=Ab i0 hlt
  have l1:ra.length=s.1.length:=by rw [i2,dL,List.length_replicate]
  have l2:ha.length=256:=by rw [i3,dL,List.length_replicate]
  rw [hm,ht,iV,iV,← i2,← i3,l1,l2,List.length_map]
  generalize (am s).getD i.toNat 0=x at *
  simp only [ak]
  exact ⟨i0,hlt,by omega,i0,hlt,i0,hlt,hx.1,hx.2,by omega,hx.1,by omega,by omega,by omega,⟨by omega,by omega,by trivial,by trivial⟩,by omega⟩
 ·simp only at i0 i1 i2 i3 hge ⊢
  have hge:=of_decide_eq_false hge
  rw [bE hge] at i2 i3
  refine ⟨trivial,trivial,trivial,⟨by omega,by omega,hgl,fun r hr=>by have:=hgi r hr; omega,by trivial,by omega,by omega⟩,fun ⟨n,j⟩ ⟨j0,j1,_,_,j2,j3,j4⟩=>⟨fun hlt=>?_,fun hge=>?_⟩⟩
  ·simp only at j0 j1 j2 j3 j4 hlt ⊢
   have hlt:=of_decide_eq_true hlt
   have hm:=hgi _ (aD ((0,0):bK) j0 hlt)
   rw [oK j0 hlt,← j2]
   generalize (g.getD j.toNat (0,0)).2=y at *
   simp only [ak]
   exact ⟨j0,hlt,by omega,by omega,by omega,⟨by omega,by omega,hgl,fun r hr=>by have:=hgi r hr; omega,by trivial,by omega,by omega⟩,by omega⟩
  ·simp only at j0 j1 j2 hge ⊢
   rw [bE (of_decide_eq_false hge)] at j2
   rw [i2,i3,hsr,hsh]
   exact ⟨rfl,j2,trivial⟩
theorem xv:wQ.ok Tryz.prog 58:=aI (ann:=yi) (ae oX (ae kE (ae zY (ae nX (ae qh (ae qj (ae qk ap))))))) Tryz.func58 (by kernel_rfl) tD
def bV (s:aq):aq×Int×Int:=if aO s≠0 then (aV,0,aO s) else ((dJ s).1,(dJ s).2,0)
def t8:Spec:={ Ts:=[bu],Rs:=[.dat bu,.dat ty_I,.dat ty_I],al:=true,pre:=fun _=>True,F:=bV }
def lT:Prop :=
  ∀ (x:List Int×List Int×List (Int×Int)×List (Int×Bool×Int)),((x.1.length * 8≤az∧∀ (x_1:Int),x_1∈x.1→ak IntKind.u64 x_1)∧(x.2.1.length * 8≤az∧∀ (x_1:Int),x_1∈x.2.1→ak IntKind.i64 x_1)∧(x.2.2.1.length * (8+8)≤az∧∀ (x_1:Int×Int),x_1∈x.2.2.1→ak IntKind.i64 x_1.1∧ak IntKind.i64 x_1.2)∧x.2.2.2.length * (8+(8+8))≤az∧∀ (x_1:Int×Bool×Int),x_1∈x.2.2.2→ak IntKind.i64 x_1.1∧True∧ak IntKind.i64 x_1.2.2)→True→True∧(decide (aO x≠0)=true→(([]:List Int),([]:List Int),([]:List (Int×Int)),([]:List (Int×Bool×Int)))=(bV x).1∧0=(bV x).2.1∧aO x=(bV x).2.2∧True)∧(decide (aO x≠0)=false→aO x=0∧(dJ x).1=(bV x).1∧(dJ x).2=(bV x).2.1∧0=(bV x).2.2∧True)
theorem re:lT:=by
 unfold lT
 intro s hx hs
 refine ⟨trivial,fun h=>?_,fun h=>?_⟩
 ·unfold bV
  rw [if_pos (of_decide_eq_true h)]
  exact ⟨by trivial,by trivial,by trivial,trivial⟩
 ·have h:=of_decide_eq_false h
  unfold bV
  rw [if_neg h]
  exact ⟨by omega,rfl,rfl,rfl,trivial⟩
theorem un:t8.ok Tryz.prog 17:=aI (ann:=cT) (ae sj (ae xv ap)) Tryz.func17 (by kernel_rfl) re
def gS (s:aq) (k:Int):Int:=if aO s≠0 then aO s else if k<0∨(s.2.1.length:Int)≤k∨s.2.1.getD k.toNat 0<0 then 5 else 0
def bq (s:aq) (k:Int):Int:=s.2.1.getD k.toNat 0
def jg (s:aq) (slot k other:Int):Int:=if gS s slot≠0 then gS s slot else if k<0∨(dD s.1 (bq s slot)).1≤k then 4 else if other<0∨(s.2.1.length:Int)≤other then 5 else 0
def D8 (s:aq) (slot k into:Int):aq×Int:=if jg s slot k into≠0 then (aV,jg s slot k into) else ((s.1,s.2.1.set into.toNat (s.1.getD (bq s slot+1+k).toNat 0 - 1),s.2.2),0)
def DZ (s:aq) (slot k other:Int):aq×Int:=if jg s slot k other≠0 then (aV,jg s slot k other) else ((s.1.set (bq s slot+1+k).toNat (bq s other+1),s.2),0)
def fH (s:aq) (slot k:Int):Int:=if gS s slot≠0 then gS s slot else if k<0∨(dD s.1 (bq s slot)).2.1≤k then 4 else 0
def tl (s:aq) (at_ k:Int):Int:=at_+1+(dD s.1 at_).1+k
def D9 (s:aq) (slot k v:Int):aq×Int:=if fH s slot k≠0 then (aV,fH s slot k) else ((s.1.set (tl s (bq s slot) k).toNat v,s.2),0)
def G6 (s:aq) (slot:Int):aq×Int×Int:=if gS s slot≠0 then (aV,0,gS s slot) else if (EW s.2.2.1 (bq s slot)).2.2≠0 then (aV,0,(EW s.2.2.1 (bq s slot)).2.2) else ((s.1,s.2.1,(EW s.2.2.1 (bq s slot)).1,s.2.2.2),bq s slot,0)
def rq (s:aq) (at_:Int):aq×Int:=if aO s≠0 then (aV,aO s) else if (qx s.2.2.1 at_).2.2≠0 then (aV,(qx s.2.2.1 at_).2.2) else ((s.1,s.2.1,(qx s.2.2.1 at_).1,s.2.2.2),0)
def nS (s:aq) (at_ k:Int):Int:=if aO s≠0 then aO s else if cD (cu s) at_=false then 8 else if k<0∨(dD s.1 at_).2.1≤k then 4 else 0
def CX (s:aq) (slot:Int):aq×Int×Int:=if gS s slot≠0 then (aV,0,gS s slot) else if (vG s.2.2.2 (bq s slot)).2.2≠0 then (aV,0,(vG s.2.2.2 (bq s slot)).2.2) else ((s.1,s.2.1,s.2.2.1,(vG s.2.2.2 (bq s slot)).1),(vG s.2.2.2 (bq s slot)).2.1,0)
def cP (s:aq) (k:Int):Int:=if aO s≠0 then aO s else if k<0∨(s.2.1.length:Int)≤k then 5 else 0
def Bi (s:aq) (name slot:Int):aq×Int:=if cP s slot≠0 then (aV,cP s slot) else if (sD s.2.2.2 name).2≠0 then (aV,(sD s.2.2.2 name).2) else ((s.1,s.2.1.set slot.toNat (sD s.2.2.2 name).1,s.2.2),0)
def uZ (s:aq) (name:Int):aq×Int:=if aO s≠0 then (aV,aO s) else if (m7 s.2.2.2 name).2≠0 then (aV,(m7 s.2.2.2 name).2) else ((s.1,s.2.1,s.2.2.1,(m7 s.2.2.2 name).1),0)
def wc (s:aq) (slot:Int):aq×Int:=if cP s slot≠0 then (aV,cP s slot) else ((s.1,s.2.1.set slot.toNat (-1),s.2.2),0)
def eI (h:da):Int:=if ac h≠0 then ac h else if h.2.2.2=true then 3 else 0
theorem Hh {h:da} (hh:eI h=0):ac h=0∧h.2.2.2=false:=by
 unfold eI at hh
 split at hh
 ·omega
 split at hh
 ·omega
 rename_i h1 h2
 exact ⟨by omega,by simpa using h2⟩
theorem mB {a:List Int} (hc:(ao a).2.2=0) {h:da} (h0:ac h=0) (hf:h.2.2.2=false):match (aL false [] (aa a).1).find? (fun r=>decide (ab h≤r.2)) with
  | none=>bD (aL false [] (aa a).1) (ab h)=(0,7)∧gG a h=([],0,false)
  | some r=>∃ i,0≤i∧i<((aL false [] (aa a).1).length:Int)∧bD (aL false [] (aa a).1) (ab h)=(i,0)∧(aL false [] (aa a).1).getD i.toNat (0,0)=r∧dR (c7 a).1 r.1 h=(xq a r h,0)∧gG a h=(xq a r h,r.1,true):=by
 have hgi:=(oa (bO hc).2.2.2.1).1
 have hz:=a8 h0
 have hL:ab h=1+h.1+h.2.1:=rfl
 have hff:=Ey (n:=ab h) (l:=aL false [] (aa a).1) (by omega) (fun r hr=>by have:=hgi r hr; omega)
 have hfi:=v7 (ab h) (aL false [] (aa a).1) 0
 cases hfd:(aL false [] (aa a).1).find? (fun r=>decide (ab h≤r.2)) with
 | none =>
  rw [hfd] at hfi
  simp only at hfi ⊢
  rw [if_pos hfi] at hff
  refine ⟨hff,?_⟩
  unfold gG
  rw [hfd]
 | some r =>
  rw [hfd] at hfi
  obtain ⟨i,i0,i1,i2,i3,i4⟩:=hfi
  rw [if_neg i3,i4,Int.zero_add] at hff
  have hr:=List.mem_of_find?_eq_some hfd
  have hle:ab h≤r.2:=by simpa using List.find?_some hfd
  refine ⟨i,i0,i1,hff,i2,BQ hc hr h0 hf hle,?_⟩
  unfold gG
  rw [hfd]
def lr (s:aq) (h:da):Prop:=(ao s.1).2.2=0∧eI h=0
def EM:Nat→Option LoopGen
 | 3000056=>some gi
 | 5704000001=>some gi
 | 3000057=>some gi
 | 5804000007=>some gi
 | 3000058=>some gi
 | 5905000004=>some { rd:=[.boxS 1 [.own 50 be,.own 3 ty_I,.own 89 cW,.own 87 b7]],A:=fun (s:aq)=>{ cs:=[.own 9 3 ty_I,.own 10 3 ty_I],inv:=fun ((ra,ha):List Int×List Int)=>ra=List.replicate s.1.length 0∧ha=List.replicate 256 0,mu:=fun _=>0 } }
 | 5900000006=>some { wr:=[9,10],rd:=[.boxS 1 [.own 50 be,.own 3 ty_I,.own 89 cW,.own 87 b7]],A:=fun (s:aq)=>{ cs:=[.own 9 3 ty_I,.own 10 3 ty_I,.dat 42 ty_I],inv:=fun ((ra,ha,i):List Int×List Int×Int)=>0≤i∧i≤(am s).length∧ra=bP (List.replicate s.1.length 0) ((am s).take i.toNat) (jG s)∧ha=bP (List.replicate 256 0) ((am s).take i.toNat) (jG s),mu:=fun ((_,_,i):List Int×List Int×Int)=>((am s).length - i).toNat } }
 | 5900000015=>some { rd:=[.own 86 42 eP],A:=fun (g:List bK)=>{ cs:=[.dat 13 ty_I,.dat 88 ty_I],inv:=fun ((n,i):Int×Int)=>0≤i∧i≤g.length∧g.length≤256∧(∀ r∈g,0≤r.2∧r.2≤256)∧n=dS (g.take i.toNat)∧0≤n∧n≤256 * i,mu:=fun ((_,i):Int×Int)=>(g.length - i).toNat } }
 | _=>none
def gg (s:aq) (slot:Int) (h:da):aq×Bool:=((((gG s.1 h).1,s.2.1.set slot.toNat (gG s.1 h).2.1,s.2.2):aq),(gG s.1 h).2.2)
def ba (s:aq) (slot:Int) (h:da):aq×Bool×Int :=
 if cP s slot≠0 then (aV,false,cP s slot) else if eI h≠0 then (aV,false,eI h) else
 if (gg s slot h).2=true then ((gg s slot h).1,false,0) else if (gg (aT s) slot h).2=true then ((gg (aT s) slot h).1,true,0) else (aV,false,7)
def DG:Spec:={ Ts:=[bu,ty_I,cN],Rs:=[.dat bu,.dat .bool,.dat ty_I],al:=true,pre:=fun _=>True,F:=fun ((s,slot,h):aq×Int×da)=>ba s slot h }
def ve:Prop :=
  ∀ (x:(List Int×List Int×List (Int×Int)×List (Int×Bool×Int))×Int×Int×Int×Int×Bool),((x.1.1.length * (8:Nat)≤az∧∀ (x_1:Int),x_1∈x.1.1→ak IntKind.u64 x_1)∧(x.1.2.1.length * (8:Nat)≤az∧∀ (x_1:Int),x_1∈x.1.2.1→ak IntKind.i64 x_1)∧(x.1.2.2.1.length * ((8:Nat)+(8:Nat))≤az∧∀ (x_1:Int×Int),x_1∈x.1.2.2.1→ak IntKind.i64 x_1.1∧ak IntKind.i64 x_1.2)∧x.1.2.2.2.length * ((8:Nat)+((8:Nat)+(8:Nat)))≤az∧∀ (x_1:Int×Bool×Int),x_1∈x.1.2.2.2→ak IntKind.i64 x_1.1∧True∧ak IntKind.i64 x_1.2.2)∧ak IntKind.i64 x.2.1∧ak IntKind.i64 x.2.2.1∧ak IntKind.i64 x.2.2.2.1∧ak IntKind.i64 x.2.2.2.2.1∧True→True→True∧(decide (aO x.1≠(0:Int))=true→(([]:List Int),([]:List Int),([]:List (Int×Int)),([]:List (Int×Bool×Int)))=(ba x.1 x.2.1 x.2.2).1∧false=(ba x.1 x.2.1 x.2.2).2.1∧aO x.1=(ba x.1 x.2.1 x.2.2).2.2∧True)∧(decide (aO x.1≠(0:Int))=false→((decide (x.2.1<(0:Int))||decide ((↑x.1.2.1.length:Int)≤x.2.1))=true→(([]:List Int),([]:List Int),([]:List (Int×Int)),([]:List (Int×Bool×Int)))=(ba x.1 x.2.1 x.2.2).1∧false=(ba x.1 x.2.1 x.2.2).2.1∧(5:Int)=(ba x.1 x.2.1 x.2.2).2.2∧True)∧((decide (x.2.1<(0:Int))||decide ((↑x.1.2.1.length:Int)≤x.2.1))=false→True∧(decide (ac x.2.2≠(0:Int))=true→(([]:List Int),([]:List Int),([]:List (Int×Int)),([]:List (Int×Bool×Int)))=(ba x.1 x.2.1 x.2.2).1∧false=(ba x.1 x.2.1 x.2.2).2.1∧ac x.2.2=(ba x.1 x.2.1 x.2.2).2.2∧True)∧(decide (ac x.2.2≠(0:Int))=false→(x.2.2.2.2.2=true→(([]:List Int),([]:List Int),([]:List (Int×Int)),([]:List (Int×Bool×Int)))=(ba x.1 x.2.1 x.2.2).1∧false=(ba x.1 x.2.1 x.2.2).2.1∧(3:Int)=(ba x.1 x.2.1 x.2.2).2.2∧True)∧(x.2.2.2.2.2=false→∀ (_:Array Value),True∧True∧True∧x.1.2.1=x.1.2.1∧x.1.2.2.1=x.1.2.2.1∧x.1.2.2.1=x.1.2.2.1∧x.1.2.2.2=x.1.2.2.2∧x.1.2.2.2=x.1.2.2.2∧x.1.2.2.2=x.1.2.2.2∧True∧∀ (_:Array Value),True∧True∧True∧(decide ((bD (au x.1.1).1 (if ac x.2.2=(0:Int) then ab x.2.2 else (0:Int))).2≠(0:Int))=true→((!false)=true→∀ (_:Array Value),(x.1.2.1.length≤(32:Nat)∧x.1.2.2.1.length≤(16:Nat)∧x.1.2.2.2.length≤(16:Nat))∧True∧((am x.1).length+(List.map (fun (x:bh)=>x.1) x.1.2.2.1).length) * (8:Nat)≤(140737488355328:Nat)∧True∧((((((0:Int)≤(↑x.1.1.length:Int)∧(↑x.1.1.length:Int).toNat * (8:Nat)≤az∧((0:Int)≤(256:Int)∧Int.toNat (256:Int) * (8:Nat)≤az∧((List.replicate (↑x.1.1.length:Int).toNat (0:Int)=List.replicate x.1.1.length (0:Int)∧List.replicate (Int.toNat (256:Int)) (0:Int)=List.replicate (256:Nat) (0:Int))∧True)∧True)∧(((0:Int)≤(256:Int)∧Int.toNat (256:Int) * (8:Nat)≤az∧(List.replicate (↑x.1.1.length:Int).toNat (0:Int)=List.replicate x.1.1.length (0:Int)∧List.replicate (Int.toNat (256:Int)) (0:Int)=List.replicate (256:Nat) (0:Int))∧True)∧True)∧True)∧((0:Int)≤(256:Int)∧Int.toNat (256:Int) * (8:Nat)≤az∧((0:Int)≤(↑x.1.1.length:Int)∧(↑x.1.1.length:Int).toNat * (8:Nat)≤az∧((List.replicate (↑x.1.1.length:Int).toNat (0:Int)=List.replicate x.1.1.length (0:Int)∧List.replicate (Int.toNat (256:Int)) (0:Int)=List.replicate (256:Nat) (0:Int))∧True)∧True)∧True)∧True)∧((0:Int)≤(256:Int)∧Int.toNat (256:Int) * (8:Nat)≤az∧(((0:Int)≤(↑x.1.1.length:Int)∧(↑x.1.1.length:Int).toNat * (8:Nat)≤az∧((List.replicate (↑x.1.1.length:Int).toNat (0:Int)=List.replicate x.1.1.length (0:Int)∧List.replicate (Int.toNat (256:Int)) (0:Int)=List.replicate (256:Nat) (0:Int))∧True)∧True)∧True)∧True)∧True)∧((0:Int)≤(256:Int)∧Int.toNat (256:Int) * (8:Nat)≤az∧((((0:Int)≤(↑x.1.1.length:Int)∧(↑x.1.1.length:Int).toNat * (8:Nat)≤az∧((List.replicate (↑x.1.1.length:Int).toNat (0:Int)=List.replicate x.1.1.length (0:Int)∧List.replicate (Int.toNat (256:Int)) (0:Int)=List.replicate (256:Nat) (0:Int))∧True)∧True)∧True)∧True)∧True)∧True)∧((0:Int)≤(256:Int)∧Int.toNat (256:Int) * (8:Nat)≤az∧(((((0:Int)≤(↑x.1.1.length:Int)∧(↑x.1.1.length:Int).toNat * (8:Nat)≤az∧((List.replicate (↑x.1.1.length:Int).toNat (0:Int)=List.replicate x.1.1.length (0:Int)∧List.replicate (Int.toNat (256:Int)) (0:Int)=List.replicate (256:Nat) (0:Int))∧True)∧True)∧True)∧True)∧True)∧True)∧True)∧∀ (x_1:List Int×List Int),x_1.1=List.replicate x.1.1.length (0:Int)∧x_1.2=List.replicate (256:Nat) (0:Int)→((0:Int)≤(0:Int)∧(0:Int)≤(↑(am x.1).length:Int)∧x_1.1=bP (List.replicate x.1.1.length (0:Int)) (List.take (Int.toNat (0:Int)) (am x.1)) (jG x.1)∧x_1.2=bP (List.replicate (256:Nat) (0:Int)) (List.take (Int.toNat (0:Int)) (am x.1)) (jG x.1))∧∀ (x_2:List Int×List Int×Int),(0:Int)≤x_2.2.2∧x_2.2.2≤(↑(am x.1).length:Int)∧x_2.1=bP (List.replicate x.1.1.length (0:Int)) (List.take x_2.2.2.toNat (am x.1)) (jG x.1)∧x_2.2.1=bP (List.replicate (256:Nat) (0:Int)) (List.take x_2.2.2.toNat (am x.1)) (jG x.1)→(decide (x_2.2.2<(↑(am x.1).length:Int))=true→(0:Int)≤x_2.2.2∧x_2.2.2<(↑(am x.1).length:Int)∧x_2.2.2.toNat<(am x.1).length∧(0:Int)≤x_2.2.2∧x_2.2.2<(↑(ar x.1.1 (am x.1) (List.map (fun (x:bh)=>x.1) x.1.2.2.1)).2.1.length:Int)∧(0:Int)≤x_2.2.2∧x_2.2.2<(↑(ar x.1.1 (am x.1) (List.map (fun (x:bh)=>x.1) x.1.2.2.1)).2.1.length:Int)∧(0:Int)≤(am x.1).getD x_2.2.2.toNat (0:Int)∧(am x.1).getD x_2.2.2.toNat (0:Int)<(↑x_2.1.length:Int)∧((am x.1).getD x_2.2.2.toNat (0:Int)).toNat<x_2.1.length∧(0:Int)≤(am x.1).getD x_2.2.2.toNat (0:Int)∧(am x.1).getD x_2.2.2.toNat (0:Int)<(↑x_2.2.1.length:Int)∧((am x.1).getD x_2.2.2.toNat (0:Int)).toNat<x_2.2.1.length∧ak IntKind.i64 (x_2.2.2+(1:Int))∧((0:Int)≤x_2.2.2+(1:Int)∧x_2.2.2+(1:Int)≤(↑(am x.1).length:Int)∧x_2.1.set ((am x.1).getD x_2.2.2.toNat (0:Int)).toNat ((ar x.1.1 (am x.1) (List.map (fun (x:bh)=>x.1) x.1.2.2.1)).2.1.getD x_2.2.2.toNat (0:Int))=bP (List.replicate x.1.1.length (0:Int)) (List.take (x_2.2.2+(1:Int)).toNat (am x.1)) (jG x.1)∧x_2.2.1.set ((am x.1).getD x_2.2.2.toNat (0:Int)).toNat ((ar x.1.1 (am x.1) (List.map (fun (x:bh)=>x.1) x.1.2.2.1)).2.1.getD x_2.2.2.toNat (0:Int))=bP (List.replicate (256:Nat) (0:Int)) (List.take (x_2.2.2+(1:Int)).toNat (am x.1)) (jG x.1))∧((↑(am x.1).length:Int) - (x_2.2.2+(1:Int))).toNat<((↑(am x.1).length:Int) - x_2.2.2).toNat)∧(decide (x_2.2.2<(↑(am x.1).length:Int))=false→True∧True∧True∧((0:Int)≤(0:Int)∧(0:Int)≤(↑(au (ar x.1.1 (am x.1) (List.map (fun (x:bh)=>x.1) x.1.2.2.1)).1).1.length:Int)∧(au (ar x.1.1 (am x.1) (List.map (fun (x:bh)=>x.1) x.1.2.2.1)).1).1.length≤(256:Nat)∧(∀ (r:bK),r∈(au (ar x.1.1 (am x.1) (List.map (fun (x:bh)=>x.1) x.1.2.2.1)).1).1→(0:Int)≤r.2∧r.2≤(256:Int))∧(0:Int)=dS (List.take (Int.toNat (0:Int)) (au (ar x.1.1 (am x.1) (List.map (fun (x:bh)=>x.1) x.1.2.2.1)).1).1)∧(0:Int)≤(0:Int)∧(0:Int)≤(256:Int) * (0:Int))∧∀ (x_3:Int×Int),(0:Int)≤x_3.2∧x_3.2≤(↑(au (ar x.1.1 (am x.1) (List.map (fun (x:bh)=>x.1) x.1.2.2.1)).1).1.length:Int)∧(au (ar x.1.1 (am x.1) (List.map (fun (x:bh)=>x.1) x.1.2.2.1)).1).1.length≤(256:Nat)∧(∀ (r:bK),r∈(au (ar x.1.1 (am x.1) (List.map (fun (x:bh)=>x.1) x.1.2.2.1)).1).1→(0:Int)≤r.2∧r.2≤(256:Int))∧x_3.1=dS (List.take x_3.2.toNat (au (ar x.1.1 (am x.1) (List.map (fun (x:bh)=>x.1) x.1.2.2.1)).1).1)∧(0:Int)≤x_3.1∧x_3.1≤(256:Int) * x_3.2→(decide (x_3.2<(↑(au (ar x.1.1 (am x.1) (List.map (fun (x:bh)=>x.1) x.1.2.2.1)).1).1.length:Int))=true→(0:Int)≤x_3.2∧x_3.2<(↑(au (ar x.1.1 (am x.1) (List.map (fun (x:bh)=>x.1) x.1.2.2.1)).1).1.length:Int)∧x_3.2.toNat<(au (ar x.1.1 (am x.1) (List.map (fun (x:bh)=>x.1) x.1.2.2.1)).1).1.length∧ak IntKind.i64 (x_3.1+((au (ar x.1.1 (am x.1) (List.map (fun (x:bh)=>x.1) x.1.2.2.1)).1).1.getD x_3.2.toNat ((0:Int),(0:Int))).2)∧ak IntKind.i64 (x_3.2+(1:Int))∧((0:Int)≤x_3.2+(1:Int)∧x_3.2+(1:Int)≤(↑(au (ar x.1.1 (am x.1) (List.map (fun (x:bh)=>x.1) x.1.2.2.1)).1).1.length:Int)∧(au (ar x.1.1 (am x.1) (List.map (fun (x:bh)=>x.1) x.1.2.2.1)).1).1.length≤(256:Nat)∧(∀ (r:bK),r∈(au (ar x.1.1 (am x.1) (List.map (fun (x:bh)=>x.1) x.1.2.2.1)).1).1→(0:Int)≤r.2∧r.2≤(256:Int))∧x_3.1+((au (ar x.1.1 (am x.1) (List.map (fun (x:bh)=>x.1) x.1.2.2.1)).1).1.getD x_3.2.toNat ((0:Int),(0:Int))).2=dS (List.take (x_3.2+(1:Int)).toNat (au (ar x.1.1 (am x.1) (List.map (fun (x:bh)=>x.1) x.1.2.2.1)).1).1)∧(0:Int)≤x_3.1+((au (ar x.1.1 (am x.1) (List.map (fun (x:bh)=>x.1) x.1.2.2.1)).1).1.getD x_3.2.toNat ((0:Int),(0:Int))).2∧x_3.1+((au (ar x.1.1 (am x.1) (List.map (fun (x:bh)=>x.1) x.1.2.2.1)).1).1.getD x_3.2.toNat ((0:Int),(0:Int))).2≤(256:Int) * (x_3.2+(1:Int)))∧((↑(au (ar x.1.1 (am x.1) (List.map (fun (x:bh)=>x.1) x.1.2.2.1)).1).1.length:Int) - (x_3.2+(1:Int))).toNat<((↑(au (ar x.1.1 (am x.1) (List.map (fun (x:bh)=>x.1) x.1.2.2.1)).1).1.length:Int) - x_3.2).toNat)∧(decide (x_3.2<(↑(au (ar x.1.1 (am x.1) (List.map (fun (x:bh)=>x.1) x.1.2.2.1)).1).1.length:Int))=false→∀ (_:Array Value),True∧True∧True∧(decide ((bD (au (ar x.1.1 (am x.1) (List.map (fun (x:bh)=>x.1) x.1.2.2.1)).1).1 (if ac x.2.2=(0:Int) then ab x.2.2 else (0:Int))).2≠(0:Int))=true→((!false)=true→(([]:List Int),([]:List Int),([]:List (Int×Int)),([]:List (Int×Bool×Int)))=(ba x.1 x.2.1 x.2.2).1∧false=(ba x.1 x.2.1 x.2.2).2.1∧(7:Int)=(ba x.1 x.2.1 x.2.2).2.2∧True)∧((!false)=false→(0:Int)≤x.2.1∧x.2.1<(↑(bw x.1.2.1 (↑x.1.1.length:Int) x_2.1).1.length:Int)∧x.2.1.toNat<(bw x.1.2.1 (↑x.1.1.length:Int) x_2.1).1.length∧(([]:List Int),(bw x.1.2.1 (↑x.1.1.length:Int) x_2.1).1.set x.2.1.toNat (0:Int),x.1.2.2.1,(ft x.1.2.2.2 x_2.2.1).1)=(ba x.1 x.2.1 x.2.2).1∧(!false)=(ba x.1 x.2.1 x.2.2).2.1∧(0:Int)=(ba x.1 x.2.1 x.2.2).2.2∧True))∧(decide ((bD (au (ar x.1.1 (am x.1) (List.map (fun (x:bh)=>x.1) x.1.2.2.1)).1).1 (if ac x.2.2=(0:Int) then ab x.2.2 else (0:Int))).2≠(0:Int))=false→True∧(0:Int)≤(bD (au (ar x.1.1 (am x.1) (List.map (fun (x:bh)=>x.1) x.1.2.2.1)).1).1 (if ac x.2.2=(0:Int) then ab x.2.2 else (0:Int))).1∧(bD (au (ar x.1.1 (am x.1) (List.map (fun (x:bh)=>x.1) x.1.2.2.1)).1).1 (if ac x.2.2=(0:Int) then ab x.2.2 else (0:Int))).1<(↑(au (ar x.1.1 (am x.1) (List.map (fun (x:bh)=>x.1) x.1.2.2.1)).1).1.length:Int)∧(bD (au (ar x.1.1 (am x.1) (List.map (fun (x:bh)=>x.1) x.1.2.2.1)).1).1 (if ac x.2.2=(0:Int) then ab x.2.2 else (0:Int))).1.toNat<(au (ar x.1.1 (am x.1) (List.map (fun (x:bh)=>x.1) x.1.2.2.1)).1).1.length∧True∧(dR (c7 (ar x.1.1 (am x.1) (List.map (fun (x:bh)=>x.1) x.1.2.2.1)).1).1 ((au (ar x.1.1 (am x.1) (List.map (fun (x:bh)=>x.1) x.1.2.2.1)).1).1.getD (bD (au (ar x.1.1 (am x.1) (List.map (fun (x:bh)=>x.1) x.1.2.2.1)).1).1 (if ac x.2.2=(0:Int) then ab x.2.2 else (0:Int))).1.toNat ((0:Int),(0:Int))).1 x.2.2).2=(dR (c7 (ar x.1.1 (am x.1) (List.map (fun (x:bh)=>x.1) x.1.2.2.1)).1).1 ((au (ar x.1.1 (am x.1) (List.map (fun (x:bh)=>x.1) x.1.2.2.1)).1).1.getD (bD (au (ar x.1.1 (am x.1) (List.map (fun (x:bh)=>x.1) x.1.2.2.1)).1).1 (if ac x.2.2=(0:Int) then ab x.2.2 else (0:Int))).1.toNat ((0:Int),(0:Int))).1 x.2.2).2∧(0:Int)≤(bD (au (ar x.1.1 (am x.1) (List.map (fun (x:bh)=>x.1) x.1.2.2.1)).1).1 (if ac x.2.2=(0:Int) then ab x.2.2 else (0:Int))).1∧(bD (au (ar x.1.1 (am x.1) (List.map (fun (x:bh)=>x.1) x.1.2.2.1)).1).1 (if ac x.2.2=(0:Int) then ab x.2.2 else (0:Int))).1<(↑(au (ar x.1.1 (am x.1) (List.map (fun (x:bh)=>x.1) x.1.2.2.1)).1).1.length:Int)∧(bD (au (ar x.1.1 (am x.1) (List.map (fun (x:bh)=>x.1) x.1.2.2.1)).1).1 (if ac x.2.2=(0:Int) then ab x.2.2 else (0:Int))).1.toNat<(au (ar x.1.1 (am x.1) (List.map (fun (x:bh)=>x.1) x.1.2.2.1)).1).1.length∧((!true)=true→(([]:List Int),([]:List Int),([]:List (Int×Int)),([]:List (Int×Bool×Int)))=(ba x.1 x.2.1 x.2.2).1∧false=(ba x.1 x.2.1 x.2.2).2.1∧(7:Int)=(ba x.1 x.2.1 x.2.2).2.2∧True)∧((!true)=false→(0:Int)≤x.2.1∧x.2.1<(↑(bw x.1.2.1 (↑x.1.1.length:Int) x_2.1).1.length:Int)∧x.2.1.toNat<(bw x.1.2.1 (↑x.1.1.length:Int) x_2.1).1.length∧((dR (c7 (ar x.1.1 (am x.1) (List.map (fun (x:bh)=>x.1) x.1.2.2.1)).1).1 ((au (ar x.1.1 (am x.1) (List.map (fun (x:bh)=>x.1) x.1.2.2.1)).1).1.getD (bD (au (ar x.1.1 (am x.1) (List.map (fun (x:bh)=>x.1) x.1.2.2.1)).1).1 (if ac x.2.2=(0:Int) then ab x.2.2 else (0:Int))).1.toNat ((0:Int),(0:Int))).1 x.2.2).1,(bw x.1.2.1 (↑x.1.1.length:Int) x_2.1).1.set x.2.1.toNat ((au (ar x.1.1 (am x.1) (List.map (fun (x:bh)=>x.1) x.1.2.2.1)).1).1.getD (bD (au (ar x.1.1 (am x.1) (List.map (fun (x:bh)=>x.1) x.1.2.2.1)).1).1 (if ac x.2.2=(0:Int) then ab x.2.2 else (0:Int))).1.toNat ((0:Int),(0:Int))).1,x.1.2.2.1,(ft x.1.2.2.2 x_2.2.1).1)=(ba x.1 x.2.1 x.2.2).1∧(!false)=(ba x.1 x.2.1 x.2.2).2.1∧(0:Int)=(ba x.1 x.2.1 x.2.2).2.2∧True)))))∧((!false)=false→(0:Int)≤x.2.1∧x.2.1<(↑x.1.2.1.length:Int)∧x.2.1.toNat<x.1.2.1.length∧(([]:List Int),x.1.2.1.set x.2.1.toNat (0:Int),x.1.2.2)=(ba x.1 x.2.1 x.2.2).1∧(!false)=(ba x.1 x.2.1 x.2.2).2.1∧(0:Int)=(ba x.1 x.2.1 x.2.2).2.2∧True))∧(decide ((bD (au x.1.1).1 (if ac x.2.2=(0:Int) then ab x.2.2 else (0:Int))).2≠(0:Int))=false→True∧(0:Int)≤(bD (au x.1.1).1 (if ac x.2.2=(0:Int) then ab x.2.2 else (0:Int))).1∧(bD (au x.1.1).1 (if ac x.2.2=(0:Int) then ab x.2.2 else (0:Int))).1<(↑(au x.1.1).1.length:Int)∧(bD (au x.1.1).1 (if ac x.2.2=(0:Int) then ab x.2.2 else (0:Int))).1.toNat<(au x.1.1).1.length∧True∧(dR (c7 x.1.1).1 ((au x.1.1).1.getD (bD (au x.1.1).1 (if ac x.2.2=(0:Int) then ab x.2.2 else (0:Int))).1.toNat ((0:Int),(0:Int))).1 x.2.2).2=(dR (c7 x.1.1).1 ((au x.1.1).1.getD (bD (au x.1.1).1 (if ac x.2.2=(0:Int) then ab x.2.2 else (0:Int))).1.toNat ((0:Int),(0:Int))).1 x.2.2).2∧(0:Int)≤(bD (au x.1.1).1 (if ac x.2.2=(0:Int) then ab x.2.2 else (0:Int))).1∧(bD (au x.1.1).1 (if ac x.2.2=(0:Int) then ab x.2.2 else (0:Int))).1<(↑(au x.1.1).1.length:Int)∧(bD (au x.1.1).1 (if ac x.2.2=(0:Int) then ab x.2.2 else (0:Int))).1.toNat<(au x.1.1).1.length∧((!true)=true→∀ (_:Array Value),(x.1.2.1.length≤(32:Nat)∧x.1.2.2.1.length≤(16:Nat)∧x.1.2.2.2.length≤(16:Nat))∧True∧((am x.1).length+(List.map (fun (x:bh)=>x.1) x.1.2.2.1).length) * (8:Nat)≤(140737488355328:Nat)∧True∧((((((0:Int)≤(↑x.1.1.length:Int)∧(↑x.1.1.length:Int).toNat * (8:Nat)≤az∧((0:Int)≤(256:Int)∧Int.toNat (256:Int) * (8:Nat)≤az∧((List.replicate (↑x.1.1.length:Int).toNat (0:Int)=List.replicate x.1.1.length (0:Int)∧List.replicate (Int.toNat (256:Int)) (0:Int)=List.replicate (256:Nat) (0:Int))∧True)∧True)∧(((0:Int)≤(256:Int)∧Int.toNat (256:Int) * (8:Nat)≤az∧(List.replicate (↑x.1.1.length:Int).toNat (0:Int)=List.replicate x.1.1.length (0:Int)∧List.replicate (Int.toNat (256:Int)) (0:Int)=List.replicate (256:Nat) (0:Int))∧True)∧True)∧True)∧((0:Int)≤(256:Int)∧Int.toNat (256:Int) * (8:Nat)≤az∧((0:Int)≤(↑x.1.1.length:Int)∧(↑x.1.1.length:Int).toNat * (8:Nat)≤az∧((List.replicate (↑x.1.1.length:Int).toNat (0:Int)=List.replicate x.1.1.length (0:Int)∧List.replicate (Int.toNat (256:Int)) (0:Int)=List.replicate (256:Nat) (0:Int))∧True)∧True)∧True)∧True)∧((0:Int)≤(256:Int)∧Int.toNat (256:Int) * (8:Nat)≤az∧(((0:Int)≤(↑x.1.1.length:Int)∧(↑x.1.1.length:Int).toNat * (8:Nat)≤az∧((List.replicate (↑x.1.1.length:Int).toNat (0:Int)=List.replicate x.1.1.length (0:Int)∧List.replicate (Int.toNat (256:Int)) (0:Int)=List.replicate (256:Nat) (0:Int))∧True)∧True)∧True)∧True)∧True)∧((0:Int)≤(256:Int)∧Int.toNat (256:Int) * (8:Nat)≤az∧((((0:Int)≤(↑x.1.1.length:Int)∧(↑x.1.1.length:Int).toNat * (8:Nat)≤az∧((List.replicate (↑x.1.1.length:Int).toNat (0:Int)=List.replicate x.1.1.length (0:Int)∧List.replicate (Int.toNat (256:Int)) (0:Int)=List.replicate (256:Nat) (0:Int))∧True)∧True)∧True)∧True)∧True)∧True)∧((0:Int)≤(256:Int)∧Int.toNat (256:Int) * (8:Nat)≤az∧(((((0:Int)≤(↑x.1.1.length:Int)∧(↑x.1.1.length:Int).toNat * (8:Nat)≤az∧((List.replicate (↑x.1.1.length:Int).toNat (0:Int)=List.replicate x.1.1.length (0:Int)∧List.replicate (Int.toNat (256:Int)) (0:Int)=List.replicate (256:Nat) (0:Int))∧True)∧True)∧True)∧True)∧True)∧True)∧True)∧∀ (x_1:List Int×List Int),x_1.1=List.replicate x.1.1.length (0:Int)∧x_1.2=List.replicate (256:Nat) (0:Int)→((0:Int)≤(0:Int)∧(0:Int)≤(↑(am x.1).length:Int)∧x_1.1=bP (List.replicate x.1.1.length (0:Int)) (List.take (Int.toNat (0:Int)) (am x.1)) (jG x.1)∧x_1.2=bP (List.replicate (256:Nat) (0:Int)) (List.take (Int.toNat (0:Int)) (am x.1)) (jG x.1))∧∀ (x_2:List Int×List Int×Int),(0:Int)≤x_2.2.2∧x_2.2.2≤(↑(am x.1).length:Int)∧x_2.1=bP (List.replicate x.1.1.length (0:Int)) (List.take x_2.2.2.toNat (am x.1)) (jG x.1)∧x_2.2.1=bP (List.replicate (256:Nat) (0:Int)) (List.take x_2.2.2.toNat (am x.1)) (jG x.1)→(decide (x_2.2.2<(↑(am x.1).length:Int))=true→(0:Int)≤x_2.2.2∧x_2.2.2<(↑(am x.1).length:Int)∧x_2.2.2.toNat<(am x.1).length∧(0:Int)≤x_2.2.2∧x_2.2.2<(↑(ar x.1.1 (am x.1) (List.map (fun (x:bh)=>x.1) x.1.2.2.1)).2.1.length:Int)∧(0:Int)≤x_2.2.2∧x_2.2.2<(↑(ar x.1.1 (am x.1) (List.map (fun (x:bh)=>x.1) x.1.2.2.1)).2.1.length:Int)∧(0:Int)≤(am x.1).getD x_2.2.2.toNat (0:Int)∧(am x.1).getD x_2.2.2.toNat (0:Int)<(↑x_2.1.length:Int)∧((am x.1).getD x_2.2.2.toNat (0:Int)).toNat<x_2.1.length∧(0:Int)≤(am x.1).getD x_2.2.2.toNat (0:Int)∧(am x.1).getD x_2.2.2.toNat (0:Int)<(↑x_2.2.1.length:Int)∧((am x.1).getD x_2.2.2.toNat (0:Int)).toNat<x_2.2.1.length∧ak IntKind.i64 (x_2.2.2+(1:Int))∧((0:Int)≤x_2.2.2+(1:Int)∧x_2.2.2+(1:Int)≤(↑(am x.1).length:Int)∧x_2.1.set ((am x.1).getD x_2.2.2.toNat (0:Int)).toNat ((ar x.1.1 (am x.1) (List.map (fun (x:bh)=>x.1) x.1.2.2.1)).2.1.getD x_2.2.2.toNat (0:Int))=bP (List.replicate x.1.1.length (0:Int)) (List.take (x_2.2.2+(1:Int)).toNat (am x.1)) (jG x.1)∧x_2.2.1.set ((am x.1).getD x_2.2.2.toNat (0:Int)).toNat ((ar x.1.1 (am x.1) (List.map (fun (x:bh)=>x.1) x.1.2.2.1)).2.1.getD x_2.2.2.toNat (0:Int))=bP (List.replicate (256:Nat) (0:Int)) (List.take (x_2.2.2+(1:Int)).toNat (am x.1)) (jG x.1))∧((↑(am x.1).length:Int) - (x_2.2.2+(1:Int))).toNat<((↑(am x.1).length:Int) - x_2.2.2).toNat)∧(decide (x_2.2.2<(↑(am x.1).length:Int))=false→True∧True∧True∧((0:Int)≤(0:Int)∧(0:Int)≤(↑(au (ar x.1.1 (am x.1) (List.map (fun (x:bh)=>x.1) x.1.2.2.1)).1).1.length:Int)∧(au (ar x.1.1 (am x.1) (List.map (fun (x:bh)=>x.1) x.1.2.2.1)).1).1.length≤(256:Nat)∧(∀ (r:bK),r∈(au (ar x.1.1 (am x.1) (List.map (fun (x:bh)=>x.1) x.1.2.2.1)).1).1→(0:Int)≤r.2∧r.2≤(256:Int))∧(0:Int)=dS (List.take (Int.toNat (0:Int)) (au (ar x.1.1 (am x.1) (List.map (fun (x:bh)=>x.1) x.1.2.2.1)).1).1)∧(0:Int)≤(0:Int)∧(0:Int)≤(256:Int) * (0:Int))∧∀ (x_3:Int×Int),(0:Int)≤x_3.2∧x_3.2≤(↑(au (ar x.1.1 (am x.1) (List.map (fun (x:bh)=>x.1) x.1.2.2.1)).1).1.length:Int)∧(au (ar x.1.1 (am x.1) (List.map (fun (x:bh)=>x.1) x.1.2.2.1)).1).1.length≤(256:Nat)∧(∀ (r:bK),r∈(au (ar x.1.1 (am x.1) (List.map (fun (x:bh)=>x.1) x.1.2.2.1)).1).1→(0:Int)≤r.2∧r.2≤(256:Int))∧x_3.1=dS (List.take x_3.2.toNat (au (ar x.1.1 (am x.1) (List.map (fun (x:bh)=>x.1) x.1.2.2.1)).1).1)∧(0:Int)≤x_3.1∧x_3.1≤(256:Int) * x_3.2→(decide (x_3.2<(↑(au (ar x.1.1 (am x.1) (List.map (fun (x:bh)=>x.1) x.1.2.2.1)).1).1.length:Int))=true→(0:Int)≤x_3.2∧x_3.2<(↑(au (ar x.1.1 (am x.1) (List.map (fun (x:bh)=>x.1) x.1.2.2.1)).1).1.length:Int)∧x_3.2.toNat<(au (ar x.1.1 (am x.1) (List.map (fun (x:bh)=>x.1) x.1.2.2.1)).1).1.length∧ak IntKind.i64 (x_3.1+((au (ar x.1.1 (am x.1) (List.map (fun (x:bh)=>x.1) x.1.2.2.1)).1).1.getD x_3.2.toNat ((0:Int),(0:Int))).2)∧ak IntKind.i64 (x_3.2+(1:Int))∧((0:Int)≤x_3.2+(1:Int)∧x_3.2+(1:Int)≤(↑(au (ar x.1.1 (am x.1) (List.map (fun (x:bh)=>x.1) x.1.2.2.1)).1).1.length:Int)∧(au (ar x.1.1 (am x.1) (List.map (fun (x:bh)=>x.1) x.1.2.2.1)).1).1.length≤(256:Nat)∧(∀ (r:bK),r∈(au (ar x.1.1 (am x.1) (List.map (fun (x:bh)=>x.1) x.1.2.2.1)).1).1→(0:Int)≤r.2∧r.2≤(256:Int))∧x_3.1+((au (ar x.1.1 (am x.1) (List.map (fun (x:bh)=>x.1) x.1.2.2.1)).1).1.getD x_3.2.toNat ((0:Int),(0:Int))).2=dS (List.take (x_3.2+(1:Int)).toNat (au (ar x.1.1 (am x.1) (List.map (fun (x:bh)=>x.1) x.1.2.2.1)).1).1)∧(0:Int)≤x_3.1+((au (ar x.1.1 (am x.1) (List.map (fun (x:bh)=>x.1) x.1.2.2.1)).1).1.getD x_3.2.toNat ((0:Int),(0:Int))).2∧x_3.1+((au (ar x.1.1 (am x.1) (List.map (fun (x:bh)=>x.1) x.1.2.2.1)).1).1.getD x_3.2.toNat ((0:Int),(0:Int))).2≤(256:Int) * (x_3.2+(1:Int)))∧((↑(au (ar x.1.1 (am x.1) (List.map (fun (x:bh)=>x.1) x.1.2.2.1)).1).1.length:Int) - (x_3.2+(1:Int))).toNat<((↑(au (ar x.1.1 (am x.1) (List.map (fun (x:bh)=>x.1) x.1.2.2.1)).1).1.length:Int) - x_3.2).toNat)∧(decide (x_3.2<(↑(au (ar x.1.1 (am x.1) (List.map (fun (x:bh)=>x.1) x.1.2.2.1)).1).1.length:Int))=false→∀ (_:Array Value),True∧True∧True∧(decide ((bD (au (ar x.1.1 (am x.1) (List.map (fun (x:bh)=>x.1) x.1.2.2.1)).1).1 (if ac x.2.2=(0:Int) then ab x.2.2 else (0:Int))).2≠(0:Int))=true→((!false)=true→(([]:List Int),([]:List Int),([]:List (Int×Int)),([]:List (Int×Bool×Int)))=(ba x.1 x.2.1 x.2.2).1∧false=(ba x.1 x.2.1 x.2.2).2.1∧(7:Int)=(ba x.1 x.2.1 x.2.2).2.2∧True)∧((!false)=false→(0:Int)≤x.2.1∧x.2.1<(↑(bw x.1.2.1 (↑x.1.1.length:Int) x_2.1).1.length:Int)∧x.2.1.toNat<(bw x.1.2.1 (↑x.1.1.length:Int) x_2.1).1.length∧(([]:List Int),(bw x.1.2.1 (↑x.1.1.length:Int) x_2.1).1.set x.2.1.toNat (0:Int),x.1.2.2.1,(ft x.1.2.2.2 x_2.2.1).1)=(ba x.1 x.2.1 x.2.2).1∧(!true)=(ba x.1 x.2.1 x.2.2).2.1∧(0:Int)=(ba x.1 x.2.1 x.2.2).2.2∧True))∧(decide ((bD (au (ar x.1.1 (am x.1) (List.map (fun (x:bh)=>x.1) x.1.2.2.1)).1).1 (if ac x.2.2=(0:Int) then ab x.2.2 else (0:Int))).2≠(0:Int))=false→True∧(0:Int)≤(bD (au (ar x.1.1 (am x.1) (List.map (fun (x:bh)=>x.1) x.1.2.2.1)).1).1 (if ac x.2.2=(0:Int) then ab x.2.2 else (0:Int))).1∧(bD (au (ar x.1.1 (am x.1) (List.map (fun (x:bh)=>x.1) x.1.2.2.1)).1).1 (if ac x.2.2=(0:Int) then ab x.2.2 else (0:Int))).1<(↑(au (ar x.1.1 (am x.1) (List.map (fun (x:bh)=>x.1) x.1.2.2.1)).1).1.length:Int)∧(bD (au (ar x.1.1 (am x.1) (List.map (fun (x:bh)=>x.1) x.1.2.2.1)).1).1 (if ac x.2.2=(0:Int) then ab x.2.2 else (0:Int))).1.toNat<(au (ar x.1.1 (am x.1) (List.map (fun (x:bh)=>x.1) x.1.2.2.1)).1).1.length∧True∧(dR (c7 (ar x.1.1 (am x.1) (List.map (fun (x:bh)=>x.1) x.1.2.2.1)).1).1 ((au (ar x.1.1 (am x.1) (List.map (fun (x:bh)=>x.1) x.1.2.2.1)).1).1.getD (bD (au (ar x.1.1 (am x.1) (List.map (fun (x:bh)=>x.1) x.1.2.2.1)).1).1 (if ac x.2.2=(0:Int) then ab x.2.2 else (0:Int))).1.toNat ((0:Int),(0:Int))).1 x.2.2).2=(dR (c7 (ar x.1.1 (am x.1) (List.map (fun (x:bh)=>x.1) x.1.2.2.1)).1).1 ((au (ar x.1.1 (am x.1) (List.map (fun (x:bh)=>x.1) x.1.2.2.1)).1).1.getD (bD (au (ar x.1.1 (am x.1) (List.map (fun (x:bh)=>x.1) x.1.2.2.1)).1).1 (if ac x.2.2=(0:Int) then ab x.2.2 else (0:Int))).1.toNat ((0:Int),(0:Int))).1 x.2.2).2∧(0:Int)≤(bD (au (ar x.1.1 (am x.1) (List.map (fun (x:bh)=>x.1) x.1.2.2.1)).1).1 (if ac x.2.2=(0:Int) then ab x.2.2 else (0:Int))).1∧(bD (au (ar x.1.1 (am x.1) (List.map (fun (x:bh)=>x.1) x.1.2.2.1)).1).1 (if ac x.2.2=(0:Int) then ab x.2.2 else (0:Int))).1<(↑(au (ar x.1.1 (am x.1) (List.map (fun (x:bh)=>x.1) x.1.2.2.1)).1).1.length:Int)∧(bD (au (ar x.1.1 (am x.1) (List.map (fun (x:bh)=>x.1) x.1.2.2.1)).1).1 (if ac x.2.2=(0:Int) then ab x.2.2 else (0:Int))).1.toNat<(au (ar x.1.1 (am x.1) (List.map (fun (x:bh)=>x.1) x.1.2.2.1)).1).1.length∧((!true)=true→(([]:List Int),([]:List Int),([]:List (Int×Int)),([]:List (Int×Bool×Int)))=(ba x.1 x.2.1 x.2.2).1∧false=(ba x.1 x.2.1 x.2.2).2.1∧(7:Int)=(ba x.1 x.2.1 x.2.2).2.2∧True)∧((!true)=false→(0:Int)≤x.2.1∧x.2.1<(↑(bw x.1.2.1 (↑x.1.1.length:Int) x_2.1).1.length:Int)∧x.2.1.toNat<(bw x.1.2.1 (↑x.1.1.length:Int) x_2.1).1.length∧((dR (c7 (ar x.1.1 (am x.1) (List.map (fun (x:bh)=>x.1) x.1.2.2.1)).1).1 ((au (ar x.1.1 (am x.1) (List.map (fun (x:bh)=>x.1) x.1.2.2.1)).1).1.getD (bD (au (ar x.1.1 (am x.1) (List.map (fun (x:bh)=>x.1) x.1.2.2.1)).1).1 (if ac x.2.2=(0:Int) then ab x.2.2 else (0:Int))).1.toNat ((0:Int),(0:Int))).1 x.2.2).1,(bw x.1.2.1 (↑x.1.1.length:Int) x_2.1).1.set x.2.1.toNat ((au (ar x.1.1 (am x.1) (List.map (fun (x:bh)=>x.1) x.1.2.2.1)).1).1.getD (bD (au (ar x.1.1 (am x.1) (List.map (fun (x:bh)=>x.1) x.1.2.2.1)).1).1 (if ac x.2.2=(0:Int) then ab x.2.2 else (0:Int))).1.toNat ((0:Int),(0:Int))).1,x.1.2.2.1,(ft x.1.2.2.2 x_2.2.1).1)=(ba x.1 x.2.1 x.2.2).1∧(!true)=(ba x.1 x.2.1 x.2.2).2.1∧(0:Int)=(ba x.1 x.2.1 x.2.2).2.2∧True)))))∧((!true)=false→(0:Int)≤x.2.1∧x.2.1<(↑x.1.2.1.length:Int)∧x.2.1.toNat<x.1.2.1.length∧((dR (c7 x.1.1).1 ((au x.1.1).1.getD (bD (au x.1.1).1 (if ac x.2.2=(0:Int) then ab x.2.2 else (0:Int))).1.toNat ((0:Int),(0:Int))).1 x.2.2).1,x.1.2.1.set x.2.1.toNat ((au x.1.1).1.getD (bD (au x.1.1).1 (if ac x.2.2=(0:Int) then ab x.2.2 else (0:Int))).1.toNat ((0:Int),(0:Int))).1,x.1.2.2)=(ba x.1 x.2.1 x.2.2).1∧(!true)=(ba x.1 x.2.1 x.2.2).2.1∧(0:Int)=(ba x.1 x.2.1 x.2.2).2.2∧True))))))
theorem A1:ve:=by
 unfold ve
 intro ⟨s,slot,h⟩ ⟨⟨⟨hb,hw⟩,_⟩,_⟩ _
 simp only at hb hw ⊢
 have hM:ba s slot h=if cP s slot≠0 then (aV,false,cP s slot) else if eI h≠0 then (aV,false,eI h) else
  if (gG s.1 h).2.2=true then (((gG s.1 h).1,s.2.1.set slot.toNat (gG s.1 h).2.1,s.2.2),false,0) else
  if (gG (cC s) h).2.2=true then (((gG (cC s) h).1,(s.2.1.map (eG s)).set slot.toNat (gG (cC s) h).2.1,s.2.2.1,s.2.2.2.map (gw s)),true,0) else (aV,false,7):=rfl
 have hE:cP s slot=if aO s≠0 then aO s else if slot<0∨(s.2.1.length:Int)≤slot then 5 else 0:=rfl
 have hH:eI h=if ac h≠0 then ac h else if h.2.2.2=true then 3 else 0:=rfl
 refine ⟨trivial,fun h0=>?_,fun h0=>⟨fun h1=>?_,fun h1=>⟨trivial,fun h2=>?_,fun h2=>⟨fun h3=>?_,fun h3 tm=>⟨trivial,trivial,trivial,by trivial,by trivial,by trivial,by trivial,by trivial,by trivial,trivial,fun tm2=>⟨trivial,trivial,trivial,?_,?_⟩⟩⟩⟩⟩⟩
 ·have h0:=of_decide_eq_true h0
  rw [if_pos h0] at hE
  rw [hM,hE,if_pos h0]
  exact ⟨by trivial,by trivial,by trivial,trivial⟩
 all_goals have h0:=of_decide_eq_false h0
 all_goals rw [if_neg h0] at hE
 ·rw [if_pos (by simpa using h1)] at hE
  rw [hM,hE,if_pos (by omega)]
  exact ⟨by trivial,by trivial,by trivial,trivial⟩
 all_goals have h1:¬ (slot<0∨(s.2.1.length:Int)≤slot):=by simpa using h1
 all_goals rw [if_neg h1] at hE
 all_goals rw [hE,if_neg (by omega)] at hM
 ·have h2:=of_decide_eq_true h2
  rw [if_pos h2] at hH
  rw [hM,hH,if_pos h2]
  exact ⟨by trivial,by trivial,by trivial,trivial⟩
 all_goals have h2:ac h=0:=by simpa using of_decide_eq_false h2
 ·rw [if_neg (by omega),if_pos h3] at hH
  rw [hM,hH,if_pos (by omega)]
  exact ⟨by trivial,by trivial,by trivial,trivial⟩
 all_goals
  rw [if_neg (by omega),if_neg (by rw [h3]; simp)] at hH
  rw [hH,if_neg (by omega)] at hM
  rw [hM,if_pos h2]
  have R:=ky hw (by omega:aO s=0)
  have hcl:ar s.1 (am s) (List.map (fun (x:bh)=>x.1) s.2.2.1)=(cC s,(am s).map (jG s),0):=R.clean
  obtain ⟨hgf,hgi,hgl⟩:=R.gaps
  have hfl:=R.fromLen
  have hsm:=R.small
  have hal:=R.al
  have hfm:=fun x=>fV (s:=s) R.root (x:=x)
  have hsr:=R.swapRoots
  have hsh:=R.swapHands
  have hg1:au s.1=(aL false [] (aa s.1).1,0):=by unfold au; rw [if_neg (by have:=R.chk; omega)]
  have T1:=mB R.chk h2 h3
  have T2:=mB R.slidOK.1 h2 h3
  rw [hg1]
  simp only
  cases hfd:(aL false [] (aa s.1).1).find? (fun r=>decide (ab h≤r.2)) with
  | none=>?_
  | some r=>?_
  all_goals rw [hfd] at T1
  all_goals simp only at T1
 ·obtain ⟨t1,t2⟩:=T1
  rw [t1,t2]
  simp only
  refine fun _=>⟨fun _ tm=>?_,fun hx=>by cases hx⟩
  rw [if_neg (by simp),hcl]
  simp only
  rw [hgf]
  simp only
  generalize aL false [] (aa (cC s)).1=g at *
  unfold az at hb ⊢
  refine ⟨hsm,trivial,by rw [List.length_map]; omega,trivial,?_,fun ⟨ra,ha⟩ ⟨q1,q2⟩=>?_⟩
  ·have e1:((s.1.length:Int)).toNat=s.1.length:=by omega
   have e2:Int.toNat 256=256:=rfl
   have e3:(0:Int)≤(s.1.length:Int):=by omega
   simp only [e1,e2,e3,hb,true_and,and_true]
   omega
  simp only at q1 q2
  subst q1 q2
  refine ⟨⟨by omega,by omega,by simp [bP],by simp [bP]⟩,fun ⟨ra,ha,i⟩ ⟨i0,i1,i2,i3⟩=>⟨fun hlt=>?_,fun hge=>?_⟩⟩
  ·simp only at i0 i1 i2 i3 hlt ⊢
   have hlt:=of_decide_eq_true hlt
   have ht:=bj (0:Int) i0 hlt
   have hx:=R.nameIn ((hfm _).1 (aD (0:Int) i0 hlt))
   have hm:(List.map (jG s) (am s)).getD i.toNat 0=jG s ((am s).getD i.toNat 0):=Ab i0 hlt
   have l1:ra.length=s.1.length:=by rw [i2,dL,List.length_replicate]
   have l2:ha.length=256:=by rw [i3,dL,List.length_replicate]
   rw [hm,ht,iV,iV,← i2,← i3,l1,l2,List.length_map]
   generalize (am s).getD i.toNat 0=x at *
   simp only [ak]
   exact ⟨i0,hlt,by omega,i0,hlt,i0,hlt,hx.1,hx.2,by omega,hx.1,by omega,by omega,by omega,⟨by omega,by omega,by trivial,by trivial⟩,by omega⟩
  ·simp only at i0 i1 i2 i3 hge ⊢
   have hge:=of_decide_eq_false hge
   rw [bE hge] at i2 i3
   refine ⟨trivial,trivial,trivial,⟨by omega,by omega,hgl,fun r hr=>by have:=hgi r hr; omega,by trivial,by omega,by omega⟩,fun ⟨n,j⟩ ⟨j0,j1,_,_,j2,j3,j4⟩=>⟨fun hlt=>?_,fun hge tm=>⟨trivial,trivial,trivial,?_⟩⟩⟩
   ·simp only at j0 j1 j2 j3 j4 hlt ⊢
    have hlt:=of_decide_eq_true hlt
    have hm:=hgi _ (aD ((0,0):bK) j0 hlt)
    rw [oK j0 hlt,← j2]
    generalize (g.getD j.toNat (0,0)).2=y at *
    simp only [ak]
    exact ⟨j0,hlt,by omega,by omega,by omega,⟨by omega,by omega,hgl,fun r hr=>by have:=hgi r hr; omega,by trivial,by omega,by omega⟩,by omega⟩
   ·rw [i2,i3,hsr,hsh]
    simp only
    cases hfd2:g.find? (fun r=>decide (ab h≤r.2)) with
    | none =>
     rw [hfd2] at T2
     simp only at T2
     obtain ⟨u1,u2⟩:=T2
     rw [u1,u2]
     exact ⟨fun _=>⟨fun _=>⟨by trivial,by trivial,by trivial,trivial⟩,fun hx=>by cases hx⟩,fun hx=>by simp at hx⟩
    | some r =>
     rw [hfd2] at T2
     simp only at T2
     obtain ⟨k,k0,k1,u1,u2,u3,u4⟩:=T2
     rw [u1,u4]
     simp only
     rw [u2,u3]
     refine ⟨fun hx=>by simp at hx,fun _=>⟨trivial,k0,k1,by omega,trivial,by trivial,k0,k1,by omega,fun hx=>(by cases hx),fun _=>⟨by omega,by rw [List.length_map]; omega,by rw [List.length_map]; omega,by trivial,by trivial,by trivial,trivial⟩⟩⟩
 ·obtain ⟨i,i0,i1,t1,t2,t3,t4⟩:=T1
  rw [t1]
  exact fun hx=>by simp at hx
 ·obtain ⟨t1,t2⟩:=T1
  rw [t1]
  exact fun hx=>by simp at hx
 ·obtain ⟨i,i0,i1,t1,t2,t3,t4⟩:=T1
  rw [t1,t4]
  simp only
  rw [t2,t3]
  exact fun _=>⟨trivial,i0,i1,by omega,trivial,by trivial,i0,i1,by omega,fun hx=>(by cases hx),fun _=>⟨by omega,by omega,by omega,by trivial,by trivial,by trivial,trivial⟩⟩
theorem Eb:DG.ok Tryz.prog 16:=aI (ann:=EM) (ae sj (ae ia (ae hZ (ae qk (ae FO (ae BW (ae BV (ae oX (ae kE (ae zY (ae gB (ae jP (ae nX (ae mg (ae qh (ae qj ap)))))))))))))))) Tryz.func16 (by kernel_rfl) A1
end Go.Proofs.YtglchojglcobjaaGreat
