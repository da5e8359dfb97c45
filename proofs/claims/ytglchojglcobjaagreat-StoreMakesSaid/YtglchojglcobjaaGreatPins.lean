
import Derived.Test.YtglchojglcobjaaGreatRowPin
namespace Go.Proofs.YtglchojglcobjaaGreat
open Go
set_option maxRecDepth 100000
set_option maxHeartbeats 1000000
theorem tw {p:List bh} {i:Int} (h0:0≤i) (h:i<p.length):cj (ahead p i) (p.drop i.toNat)=if iK (p.getD i.toNat (0,0))=true then 4 else if (p.getD i.toNat (0,0)).1≤ahead p i then 3 else cj (ahead p (i+1)) (p.drop (i+1).toNat):=by
 rw [aS ((0,0):bh) h0 h]
 have e:ahead p (i+1)=(p.getD i.toNat (0,0)).1:=by
  unfold ahead
  rw [if_pos (by omega),show (i+1 - 1)=i by omega]
 rw [e]
 rfl
def y3:Spec:={ Ts:=[ty_I],Rs:=[.dat .bool],pre:=fun _=>True,F:=fun (v:Int)=>decide (0≤v)&&decide (v<256) }
def pS:Prop :=
  ∀ (x:Int),ak IntKind.i64 x→True→(decide (0≤x)&&decide (x<256))=(decide (0≤x)&&decide (x<256))∧True
theorem wy:pS:=by
 unfold pS
 intro v _ _
 simp
theorem zR:y3.ok Tryz.prog 127:=aI (ann:=cT) ap Tryz.func127 (by kernel_rfl) wy
def qE:Nat→Option LoopGen
 | 4=>some { rd:=[.dat 8 (.arr cW)],A:=fun (p:List bh)=>{ cs:=[.dat 10 ty_I],inv:=fun (i:Int)=>0≤i∧i≤p.length∧cj (ahead p i) (p.drop i.toNat)=cj (-1) p,mu:=fun (i:Int)=>(p.length - i).toNat } }
 | _=>none
def y4:Spec:={ Ts:=[.arr cW],Rs:=[.dat ty_I],pre:=fun _=>True,F:=fun (p:List bh)=>bT p }
def pT:Prop :=
  ∀ (x:List (Int×Int)),(x.length * (8+8)≤az∧∀ (x_1:Int×Int),x_1∈x→ak IntKind.i64 x_1.1∧ak IntKind.i64 x_1.2)→True→(decide (16<(↑x.length:Int))=true→2=bT x∧True)∧(decide (16<(↑x.length:Int))=false→((0:Int)≤0∧0≤(↑x.length:Int)∧cj (ahead x 0) (List.drop (Int.toNat 0) x)=cj (-1) x)∧∀ (x_1:Int),0≤x_1∧x_1≤(↑x.length:Int)∧cj (ahead x x_1) (List.drop x_1.toNat x)=cj (-1) x→(decide (x_1<(↑x.length:Int))=true→0≤x_1∧x_1<(↑x.length:Int)∧True∧((!(decide (0≤(x.getD x_1.toNat (0,0)).1)&&decide ((x.getD x_1.toNat (0,0)).1<256))||decide ((x.getD x_1.toNat (0,0)).2<1)||decide (1000000<(x.getD x_1.toNat (0,0)).2))=true→4=bT x∧True)∧((!(decide (0≤(x.getD x_1.toNat (0,0)).1)&&decide ((x.getD x_1.toNat (0,0)).1<256))||decide ((x.getD x_1.toNat (0,0)).2<1)||decide (1000000<(x.getD x_1.toNat (0,0)).2))=false→(decide (0<x_1)=true→ak IntKind.i64 (x_1 - 1))∧(decide (0<x_1)=true→0≤x_1 - 1)∧(decide (0<x_1)=true→x_1 - 1<(↑x.length:Int))∧((decide (0<x_1)&&decide ((x.getD x_1.toNat (0,0)).1≤(x.getD (x_1 - 1).toNat (0,0)).1))=true→3=bT x∧True)∧((decide (0<x_1)&&decide ((x.getD x_1.toNat (0,0)).1≤(x.getD (x_1 - 1).toNat (0,0)).1))=false→ak IntKind.i64 (x_1+1)∧(0≤x_1+1∧x_1+1≤(↑x.length:Int)∧cj (ahead x (x_1+1)) (List.drop (x_1+1).toNat x)=cj (-1) x)∧((↑x.length:Int) - (x_1+1)).toNat<((↑x.length:Int) - x_1).toNat)))∧(decide (x_1<(↑x.length:Int))=false→0=bT x∧True))
theorem wz:pT:=by
 unfold pT
 intro p ⟨hb,_⟩ _
 unfold az at hb
 have hF:bT p=if 16<p.length then 2 else cj (-1) p:=rfl
 refine ⟨fun h=>?_,fun h=>?_⟩
 ·rw [hF,if_pos (by have:=of_decide_eq_true h; omega)]
  exact ⟨rfl,trivial⟩
 have hl:¬ 16<p.length:=by have:=of_decide_eq_false h; omega
 rw [hF,if_neg hl]
 refine ⟨⟨by omega,by omega,rfl⟩,fun i ⟨i0,i1,i2⟩=>⟨fun hlt=>?_,fun hge=>?_⟩⟩
 ·have hlt:=of_decide_eq_true hlt
  rw [tw i0 hlt] at i2
  have hp:0<i→ahead p i=(p.getD (i - 1).toNat (0,0)).1:=fun h=>if_pos h
  have hn:¬ 0<i→ahead p i=-1:=fun h=>if_neg h
  generalize p.getD i.toNat (0,0)=x at *
  generalize p.getD (i - 1).toNat (0,0)=y at *
  generalize ahead p i=q at *
  have hbad:(!(decide (0≤x.1)&&decide (x.1<256))||decide (x.2<1)||decide (1000000<x.2))=iK x:=by
   unfold iK
   grind
  rw [hbad]
  refine ⟨i0,hlt,trivial,fun hc=>?_,fun hc=>⟨fun _=>by simp only [ak]; omega,fun h=>by have:=of_decide_eq_true h; omega,fun _=>by omega,fun h2=>?_,fun h2=>⟨by simp only [ak]; omega,⟨by omega,by omega,?_⟩,by omega⟩⟩⟩
  ·rw [if_pos hc] at i2
   exact ⟨i2,trivial⟩
  ·rw [if_neg (by rw [hc]; simp)] at i2
   simp only [Bool.and_eq_true,decide_eq_true_eq] at h2
   rw [if_pos (by rw [hp h2.1]; exact h2.2)] at i2
   exact ⟨i2,trivial⟩
  ·rw [if_neg (by rw [hc]; simp)] at i2
   have hx:0≤x.1:=by
    simp only [iK,Bool.or_eq_false_iff,decide_eq_false_iff_not] at hc
    omega
   rw [if_neg] at i2
   ·exact i2
   ·intro h3
    by_cases h4:0<i
    ·rw [hp h4] at h3
     have:(decide (0<i)&&decide (x.1≤y.1))=true:=by simp [h4,h3]
     rw [this] at h2
     cases h2
    ·rw [hn h4] at h3
     omega
 ·rw [bn (of_decide_eq_false hge)] at i2
  exact ⟨i2,trivial⟩
theorem zS:y4.ok Tryz.prog 92:=aI (ann:=qE) (ae zR ap) Tryz.func92 (by kernel_rfl) wz
def w5:Spec:={ Ts:=[.arr cW],Rs:=[.dat ty_I],pre:=fun _=>True,F:=fun (p:List bh)=>bT p }
def nJ:Prop :=
  ∀ (x:List (Int×Int)),(x.length * (8+8)≤az∧∀ (x_1:Int×Int),x_1∈x→ak IntKind.i64 x_1.1∧ak IntKind.i64 x_1.2)→True→(decide (16<(↑x.length:Int))=true→2=bT x∧True)∧(decide (16<(↑x.length:Int))=false→((0:Int)≤0∧0≤(↑x.length:Int)∧cj (ahead x 0) (List.drop (Int.toNat 0) x)=cj (-1) x)∧∀ (x_1:Int),0≤x_1∧x_1≤(↑x.length:Int)∧cj (ahead x x_1) (List.drop x_1.toNat x)=cj (-1) x→(decide (x_1<(↑x.length:Int))=true→0≤x_1∧x_1<(↑x.length:Int)∧((decide ((x.getD x_1.toNat (0,0)).1<0)||decide (255<(x.getD x_1.toNat (0,0)).1)||decide ((x.getD x_1.toNat (0,0)).2<1)||decide (1000000<(x.getD x_1.toNat (0,0)).2))=true→4=bT x∧True)∧((decide ((x.getD x_1.toNat (0,0)).1<0)||decide (255<(x.getD x_1.toNat (0,0)).1)||decide ((x.getD x_1.toNat (0,0)).2<1)||decide (1000000<(x.getD x_1.toNat (0,0)).2))=false→(decide (0<x_1)=true→ak IntKind.i64 (x_1 - 1))∧(decide (0<x_1)=true→0≤x_1 - 1)∧(decide (0<x_1)=true→x_1 - 1<(↑x.length:Int))∧((decide (0<x_1)&&decide ((x.getD x_1.toNat (0,0)).1≤(x.getD (x_1 - 1).toNat (0,0)).1))=true→3=bT x∧True)∧((decide (0<x_1)&&decide ((x.getD x_1.toNat (0,0)).1≤(x.getD (x_1 - 1).toNat (0,0)).1))=false→ak IntKind.i64 (x_1+1)∧(0≤x_1+1∧x_1+1≤(↑x.length:Int)∧cj (ahead x (x_1+1)) (List.drop (x_1+1).toNat x)=cj (-1) x)∧((↑x.length:Int) - (x_1+1)).toNat<((↑x.length:Int) - x_1).toNat)))∧(decide (x_1<(↑x.length:Int))=false→0=bT x∧True))
theorem tO:nJ:=by
 unfold nJ
 intro p ⟨hb,_⟩ _
 unfold az at hb
 have hF:bT p=if 16<p.length then 2 else cj (-1) p:=rfl
 refine ⟨fun h=>?_,fun h=>?_⟩
 ·rw [hF,if_pos (by have:=of_decide_eq_true h; omega)]
  exact ⟨rfl,trivial⟩
 have hl:¬ 16<p.length:=by have:=of_decide_eq_false h; omega
 rw [hF,if_neg hl]
 refine ⟨⟨by omega,by omega,rfl⟩,fun i ⟨i0,i1,i2⟩=>⟨fun hlt=>?_,fun hge=>?_⟩⟩
 ·have hlt:=of_decide_eq_true hlt
  rw [tw i0 hlt] at i2
  have hp:0<i→ahead p i=(p.getD (i - 1).toNat (0,0)).1:=fun h=>if_pos h
  have hn:¬ 0<i→ahead p i=-1:=fun h=>if_neg h
  generalize p.getD i.toNat (0,0)=x at *
  generalize p.getD (i - 1).toNat (0,0)=y at *
  generalize ahead p i=q at *
  have hbad:(decide (x.1<0)||decide (255<x.1)||decide (x.2<1)||decide (1000000<x.2))=iK x:=by
   unfold iK
   grind
  rw [hbad]
  refine ⟨i0,hlt,fun hc=>?_,fun hc=>⟨fun _=>by simp only [ak]; omega,fun h=>by have:=of_decide_eq_true h; omega,fun _=>by omega,fun h2=>?_,fun h2=>⟨by simp only [ak]; omega,⟨by omega,by omega,?_⟩,by omega⟩⟩⟩
  ·rw [if_pos hc] at i2
   exact ⟨i2,trivial⟩
  ·rw [if_neg (by rw [hc]; simp)] at i2
   simp only [Bool.and_eq_true,decide_eq_true_eq] at h2
   rw [if_pos (by rw [hp h2.1]; exact h2.2)] at i2
   exact ⟨i2,trivial⟩
  ·rw [if_neg (by rw [hc]; simp)] at i2
   have hx:0≤x.1:=by
    simp only [iK,Bool.or_eq_false_iff,decide_eq_false_iff_not] at hc
    omega
   rw [if_neg] at i2
   ·exact i2
   ·intro h3
    by_cases h4:0<i
    ·rw [hp h4] at h3
     have:(decide (0<i)&&decide (x.1≤y.1))=true:=by simp [h4,h3]
     rw [this] at h2
     cases h2
    ·rw [hn h4] at h3
     omega
 ·rw [bn (of_decide_eq_false hge)] at i2
  exact ⟨i2,trivial⟩
theorem xB:w5.ok Tryz.prog 38:=aI (ann:=qE) ap Tryz.func38 (by kernel_rfl) tO
def gY (p:List bh) (k:Int):Int×Bool×Int:=if bT p≠0 then (0,false,bT p) else if (decide (0≤k)&&decide (k<256))=false then (0,false,4) else (mR p k,qL p k,0)
theorem Gf {p:List bh} {k:Int} (h:(gY p k).2.2=0):bT p=0∧0≤k∧k≤255∧gY p k=(mR p k,qL p k,0):=by
 unfold gY at h ⊢
 split at h
 ·rename_i h1; exact absurd h h1
 ·rename_i h1
  split at h
  ·cases h
  ·rename_i h2
   rw [if_neg h1,if_neg h2]
   have h2:(decide (0≤k)&&decide (k<256))=true:=by simpa using h2
   simp only [Bool.and_eq_true,decide_eq_true_eq] at h2
   exact ⟨by omega,h2.1,by omega,rfl⟩
theorem Ce {p:List bh} {k:Int} (h:(gY p k).2.2=0):∃ A B:List bh,gY p k=((A.length:Int),qL p k,0)∧mR p k=A.length∧p.length≤16∧(∀ x∈A,x.1<k)∧(∀ x∈B,k<x.1) ∧
  ((qL p k=false∧bL p k=0∧p=A++B)∨(qL p k=true∧1≤bL p k∧bL p k≤1000000∧p=A++(k,bL p k)::B)):=by
 obtain ⟨h1,h2,h3,h4⟩:=Gf h
 obtain ⟨h5,h6,h7⟩:=nR h1
 obtain ⟨A,B,a1,a2,a3,a4⟩:=Eo h6 k
 refine ⟨A,B,by rw [h4,a3],a3,h5,a1,a2,?_⟩
 rcases a4 with ⟨b1,b2⟩ | ⟨v,b1,b2⟩
 ·refine .inl ⟨?_,?_,b2⟩
  ·rw [sN h6,b1]; rfl
  ·unfold bL; rw [b1]; rfl
 ·have hm:bL p k=v:=by unfold bL; rw [b1]; rfl
  have hv:=h7 (k,v) (by rw [b2]; simp)
  refine .inr ⟨?_,?_,?_,by rw [hm]; exact b2⟩
  ·rw [sN h6,b1]; rfl
  ·rw [hm]; exact hv.2.2.1
  ·rw [hm]; exact hv.2.2.2
theorem Fs {A B:List bh} {x:bh} (y:bh):(A++x::B).set ((A.length:Int)).toNat y=A++y::B:=by simp
theorem HZ {A B:List bh} (x:bh):H0 (A++B) [x] (A.length:Int)=A++x::B:=by simp [H0]
theorem H5 {A B:List bh} {x:bh}:H6 (A++x::B) (A.length:Int) ((A.length:Int)+1)=A++B:=by
 unfold H6
 rw [show ((A.length:Int)+1).toNat=A.length+1 by omega]
 simp
def w9:Spec:={ Ts:=[.arr cW],Rs:=[.own 89 cW],pre:=fun _=>True,F:=fun (x:List bh)=>x }
def nO:Prop :=
  ∀ (x:List (Int×Int)),(x.length * (8+8)≤az∧∀ (x_1:Int×Int),x_1∈x→ak IntKind.i64 x_1.1∧ak IntKind.i64 x_1.2)→True→(x=([]:List (Int×Int))→([]:List (Int×Int))=x∧True)∧(True→(0+x.length) * (8+8)≤az∧([]:List (Int×Int))++x=x∧True)
theorem tT:nO:=by
 unfold nO
 intro x ⟨hb,_⟩ _
 simp [hb]
theorem nX:w9.ok Tryz.prog 98:=aI (ann:=cT) ap Tryz.func98 (by kernel_rfl) tT
def EW (p:List bh) (k:Int):List bh×Int×Int :=
 if (gY p k).2.2≠0 then ([],0,(gY p k).2.2) else if bL p k=1000000∨(qL p k=false∧p.length=16) then ([],0,7)
 else ((if qL p k=true then p.set (mR p k).toNat (k,bL p k+1) else H0 p [(k,1)] (mR p k)),bL p k+1,0)
def qx (p:List bh) (k:Int):List bh×Int×Int :=
 if (gY p k).2.2≠0 then ([],0,(gY p k).2.2) else if qL p k=false then ([],0,5)
 else ((if bL p k=1 then H6 p (mR p k) (mR p k+1) else p.set (mR p k).toNat (k,bL p k - 1)),bL p k - 1,0)
def ET:Nat→Option LoopGen
 | 3=>some { rd:=[.dat 7 (.arr cW)],A:=fun (p:List bh)=>{ cs:=[.map 6 .i64 ty_I,.dat 9 ty_I],inv:=fun ((m,i):List (Int×Int)×Int)=>0≤i∧i≤p.length∧m=cr [] (p.take i.toNat),mu:=fun ((_,i):List (Int×Int)×Int)=>(p.length - i).toNat } }
 | _=>none
def DR:Spec:={ Ts:=[.arr cW],Rs:=[.map .i64 ty_I],pre:=fun _=>True,F:=fun (p:List bh)=>cr [] p }
def vr:Prop :=
  ∀ (x:List (Int×Int)),(x.length * (8+8)≤az∧∀ (x_1:Int×Int),x_1∈x→ak IntKind.i64 x_1.1∧ak IntKind.i64 x_1.2)→True→((0:Int)≤0∧0≤(↑x.length:Int)∧([]:List (Int×Int))=cr ([]:List bh) (List.take (Int.toNat 0) x))∧∀ (x_1:List (Int×Int)×Int),0≤x_1.2∧x_1.2≤(↑x.length:Int)∧x_1.1=cr ([]:List bh) (List.take x_1.2.toNat x)→(decide (x_1.2<(↑x.length:Int))=true→0≤x_1.2∧x_1.2<(↑x.length:Int)∧ak IntKind.i64 (x_1.2+1)∧(0≤x_1.2+1∧x_1.2+1≤(↑x.length:Int)∧dP x_1.1 (x.getD x_1.2.toNat (0,0)).1 (x.getD x_1.2.toNat (0,0)).2=cr ([]:List bh) (List.take (x_1.2+1).toNat x))∧((↑x.length:Int) - (x_1.2+1)).toNat<((↑x.length:Int) - x_1.2).toNat)∧(decide (x_1.2<(↑x.length:Int))=false→x_1.1=cr ([]:List bh) x∧True)
theorem Bc:vr:=by
 unfold vr
 intro p ⟨hb,_⟩ _
 unfold az at hb
 refine ⟨⟨by omega,by omega,by first | trivial | rfl⟩,fun ⟨m,i⟩ ⟨i0,i1,i2⟩=>⟨fun hlt=>?_,fun hge=>?_⟩⟩
 ·simp only at i0 i1 i2 hlt ⊢
  have hlt:=of_decide_eq_true hlt
  have hs:=bj ((0,0):bh) i0 hlt
  simp only [ak]
  refine ⟨i0,hlt,by omega,⟨by omega,by omega,?_⟩,by omega⟩
  rw [hs,i2]
  unfold cr
  rw [List.foldl_append]
  rfl
 ·simp only at i0 i1 i2 hge ⊢
  rw [bE (of_decide_eq_false hge)] at i2
  exact ⟨i2,trivial⟩
theorem Ei:DR.ok Tryz.prog 64:=aI (ann:=ET) ap Tryz.func64 (by kernel_rfl) Bc
def Cy:Nat→Option LoopGen
 | 3=>some { rd:=[.dat 0 (.map .i64 ty_I)],A:=fun (m:List (Int×Int))=>{ cs:=[.own 3 89 cW,.dat 5 ty_I],inv:=fun ((out,i):List bh×Int)=>0≤i∧i≤256∧out=jw m i.toNat∧out.length≤i.toNat,mu:=fun ((_,i):List bh×Int)=>(256 - i).toNat } }
 | _=>none
def By:Spec:={ Ts:=[.map .i64 ty_I],Rs:=[.own 89 cW],pre:=fun _=>True,F:=fun (m:List (Int×Int))=>gA m }
def rZ:Prop :=
  ∀ (x:List (Int×Int)),(∀ (x_1:Int×Int),x_1∈x→ak IntKind.i64 x_1.1∧ak IntKind.i64 x_1.2)→True→((0:Int)≤0∧(0:Int)≤256∧([]:List (Int×Int))=jw x (Int.toNat 0)∧0≤Int.toNat 0)∧∀ (x_1:List (Int×Int)×Int),0≤x_1.2∧x_1.2≤256∧x_1.1=jw x x_1.2.toNat∧x_1.1.length≤x_1.2.toNat→(decide (x_1.2<256)=true→(decide (0<(aK x x_1.2).getD 0)=true→(x_1.1.length+[(x_1.2,(aK x x_1.2).getD 0)].length) * (8+8)≤az∧ak IntKind.i64 (x_1.2+1)∧(0≤x_1.2+1∧x_1.2+1≤256∧x_1.1++[(x_1.2,(aK x x_1.2).getD 0)]=jw x (x_1.2+1).toNat∧(x_1.1++[(x_1.2,(aK x x_1.2).getD 0)]).length≤(x_1.2+1).toNat)∧(256 - (x_1.2+1)).toNat<(256 - x_1.2).toNat)∧(decide (0<(aK x x_1.2).getD 0)=false→ak IntKind.i64 (x_1.2+1)∧(0≤x_1.2+1∧x_1.2+1≤256∧x_1.1=jw x (x_1.2+1).toNat∧x_1.1.length≤(x_1.2+1).toNat)∧(256 - (x_1.2+1)).toNat<(256 - x_1.2).toNat))∧(decide (x_1.2<256)=false→x_1.1=gA x∧True)
theorem yA:rZ:=by
 unfold rZ
 intro m hm _
 refine ⟨⟨by omega,by omega,rfl,by simp⟩,fun ⟨out,i⟩ ⟨i0,i1,i2,i3⟩=>⟨fun hlt=>?_,fun hge=>?_⟩⟩
 ·simp only at i0 i1 i2 i3 hlt ⊢
  have hlt:=of_decide_eq_true hlt
  obtain ⟨n,rfl⟩:∃ n:Nat,i=n:=⟨i.toNat,by omega⟩
  rw [show ((n:Int)+1).toNat=n+1 by omega,mI]
  simp only [Int.toNat_natCast] at i2 i3
  have e:∀ b,(aK m (n:Int)).getD 0=b→bL m n=b:=fun b h=>h
  generalize (aK m (n:Int)).getD 0=v at *
  have e:=e v rfl
  simp only [ak]
  refine ⟨fun hc=>⟨by simp only [List.length_cons,List.length_nil]; unfold az; omega,by omega,⟨by omega,by omega,?_,by simp; omega⟩,by omega⟩,fun hc=>⟨by omega,⟨by omega,by omega,?_,by omega⟩,by omega⟩⟩
  ·have hc:=of_decide_eq_true hc
   unfold qc
   rw [e,if_pos hc,i2]
  ·have hc:=of_decide_eq_false hc
   unfold qc
   rw [e,if_neg hc,List.append_nil,i2]
 ·simp only at i0 i1 i2 i3 hge ⊢
  have hge:=of_decide_eq_false hge
  have:i=256:=by omega
  subst this
  exact ⟨i2,trivial⟩
theorem BT:By.ok Tryz.prog 65:=aI (ann:=Cy) ap Tryz.func65 (by kernel_rfl) yA
def AI:Nat→Option LoopGen
 | 4=>some { rd:=[.dat 0 (.arr cW),.dat 1 (.arr cW)],A:=fun ((a,b):List bh×List bh)=>{ cs:=[.dat 13 ty_I],inv:=fun (i:Int)=>a.length=b.length∧0≤i∧i≤a.length∧a.take i.toNat=b.take i.toNat,mu:=fun (i:Int)=>(a.length - i).toNat } }
 | _=>none
def yT:Spec:={ Ts:=[.arr cW,.arr cW],Rs:=[.dat .bool],pre:=fun _=>True,F:=fun (x:List bh×List bh)=>decide (x.1=x.2) }
theorem HR (a b:bh):(!(decide (a.1=b.1)&&decide (a.2=b.2)))=decide (a≠b):=by
 obtain ⟨a1,a2⟩:=a
 obtain ⟨b1,b2⟩:=b
 apply Bool.eq_iff_iff.2
 simp only [Bool.not_eq_true',Bool.and_eq_false_iff,decide_eq_true_eq,decide_eq_false_iff_not,ne_eq,Prod.mk.injEq]
 grind
def pK:Prop :=
  ∀ (x:List (Int×Int)×List (Int×Int)),((x.1.length * (8+8)≤az∧∀ (x_1:Int×Int),x_1∈x.1→ak IntKind.i64 x_1.1∧ak IntKind.i64 x_1.2)∧x.2.length * (8+8)≤az∧∀ (x_1:Int×Int),x_1∈x.2→ak IntKind.i64 x_1.1∧ak IntKind.i64 x_1.2)→True→(decide ((↑x.1.length:Int)≠(↑x.2.length:Int))=true→false=decide (x.1=x.2)∧True)∧(decide ((↑x.1.length:Int)≠(↑x.2.length:Int))=false→(x.1.length=x.2.length∧(0:Int)≤0∧0≤(↑x.1.length:Int)∧List.take (Int.toNat 0) x.1=List.take (Int.toNat 0) x.2)∧∀ (x_1:Int),x.1.length=x.2.length∧0≤x_1∧x_1≤(↑x.1.length:Int)∧List.take x_1.toNat x.1=List.take x_1.toNat x.2→(decide (x_1<(↑x.1.length:Int))=true→0≤x_1∧x_1<(↑x.1.length:Int)∧0≤x_1∧x_1<(↑x.2.length:Int)∧((!(decide ((x.1.getD x_1.toNat (0,0)).1=(x.2.getD x_1.toNat (0,0)).1)&&decide ((x.1.getD x_1.toNat (0,0)).2=(x.2.getD x_1.toNat (0,0)).2)))=true→false=decide (x.1=x.2)∧True)∧((!(decide ((x.1.getD x_1.toNat (0,0)).1=(x.2.getD x_1.toNat (0,0)).1)&&decide ((x.1.getD x_1.toNat (0,0)).2=(x.2.getD x_1.toNat (0,0)).2)))=false→ak IntKind.i64 (x_1+1)∧(x.1.length=x.2.length∧0≤x_1+1∧x_1+1≤(↑x.1.length:Int)∧List.take (x_1+1).toNat x.1=List.take (x_1+1).toNat x.2)∧((↑x.1.length:Int) - (x_1+1)).toNat<((↑x.1.length:Int) - x_1).toNat))∧(decide (x_1<(↑x.1.length:Int))=false→true=decide (x.1=x.2)∧True))
theorem wo:pK:=by
 unfold pK
 intro x hw _
 refine ⟨fun h=>?_,fun h=>?_⟩
 ·have h:x.1.length≠x.2.length:=by have:=of_decide_eq_true h; omega
  have:x.1≠x.2:=fun e=>h (by rw [e])
  simp [this]
 have hl:x.1.length=x.2.length:=by have:=of_decide_eq_false h; omega
 refine ⟨⟨hl,by omega,by omega,by simp⟩,fun i ⟨_,h0,h1,ht⟩=>⟨fun hlt=>?_,fun hge=>?_⟩⟩
 ·have hlt:i<x.1.length:=by simpa using hlt
  rw [HR]
  refine ⟨h0,hlt,h0,by omega,fun hne=>?_,fun he=>?_⟩
  ·have hne:x.1.getD i.toNat (0,0)≠x.2.getD i.toNat (0,0):=by simpa using hne
   have:x.1≠x.2:=fun e=>hne (by rw [e])
   simp [this]
  ·have he:x.1.getD i.toNat (0,0)=x.2.getD i.toNat (0,0):=by simpa using he
   have hb:=hw.1.1
   unfold az at hb
   refine ⟨by simp only [ak]; omega,⟨hl,by omega,by omega,?_⟩,by omega⟩
   rw [show (i+1).toNat=i.toNat+1 by omega]
   exact lq hl (by omega) ht he
 ·have hge:¬ i<x.1.length:=by simpa using hge
  have hi:i.toNat=x.1.length:=by omega
  rw [hi,List.take_of_length_le (Nat.le_refl _),List.take_of_length_le (by omega)] at ht
  simp [ht]
theorem zK:yT.ok Tryz.prog 70:=aI (ann:=AI) ap Tryz.func70 (by kernel_rfl) wo
theorem zJ {p:List bh} {k:Int} (h0:bT p=0) (hk:0≤k) (hk2:k≤255):(gY p k).2.2=0∧cr [] p=p∧0≤bL p k∧bL p k≤1000000 ∧
  (bL p k=1000000∨(bL p k=0∧p.length=16)→EW p k=([],0,7)) ∧
  (¬ (bL p k=1000000∨(bL p k=0∧p.length=16))→EW p k=(gA (dP p k (bL p k+1)),bL p k+1,0)) ∧
  (bL p k=0→qx p k=([],0,5))∧(bL p k≠0→qx p k=(gA (dP p k (bL p k - 1)),bL p k - 1,0)):=by
 have hF:gY p k=(mR p k,qL p k,0):=by
  unfold gY
  rw [if_neg (by omega),if_neg (by simp; omega)]
 have hz:(gY p k).2.2=0:=by rw [hF]
 obtain ⟨h5,h6,h7⟩:=nR h0
 obtain ⟨A,B,e,e2,hl,hA,hB,h1⟩:=Ce hz
 refine ⟨hz,qa h6,?_⟩
 unfold EW qx
 have hz':¬ ((gY p k).2.2≠0):=by omega
 rw [if_neg hz',if_neg hz',e2]
 rcases h1 with ⟨h1,h2,h3⟩ | ⟨h1,h2,h2',h3⟩
 ·rw [h1,h2,if_pos rfl]
  have hAB:(A++B).Pairwise (fun x y=>x.1<y.1):=by rw [← h3]; exact h6
  have hab:=List.pairwise_append.1 hAB
  refine ⟨by omega,by omega,fun h=>?_,fun h=>?_,fun _=>rfl,fun h=>absurd rfl h⟩
  ·rw [if_pos (h.imp id fun h=>⟨rfl,h.2⟩)]
  ·rw [if_neg (fun h4=>h (h4.imp id fun h4=>⟨rfl,h4.2⟩)),if_neg (by simp),h3,HZ]
   have:gA (dP (A++B) k (0+1))=A++(k,1)::B:=by
    refine mJ ?_ (fun x hx=>?_) (fun j _ _=>?_)
    ·refine List.pairwise_append.2 ⟨hab.1,List.pairwise_cons.2 ⟨hB,hab.2.1⟩,fun x hx y hy=>?_⟩
     rcases List.mem_cons.1 hy with rfl | hy
     ·exact hA x hx
     ·exact hab.2.2 x hx y hy
    ·rcases List.mem_append.1 hx with hx | hx
     ·have:=h7 x (by rw [h3]; simp [hx]); omega
     ·rcases List.mem_cons.1 hx with rfl | hx
      ·simp only; omega
      ·have:=h7 x (by rw [h3]; simp [hx]); omega
    ·rw [sC,n0 hA]
     rfl
   rw [this]
 ·rw [h1,if_neg (show ¬ ((true:Bool)=false) by simp)]
  generalize hv:bL p k=v at *
  have hAB:(A++(k,v)::B).Pairwise (fun x y=>x.1<y.1):=by rw [← h3]; exact h6
  have hab:=List.pairwise_append.1 hAB
  have hcb:=List.pairwise_cons.1 hab.2.1
  have mid:∀ u,1≤u→gA (dP p k u)=A++(k,u)::B:=fun u hu=>by
   refine mJ ?_ (fun x hx=>?_) (fun j _ _=>?_)
   ·refine List.pairwise_append.2 ⟨hab.1,List.pairwise_cons.2 ⟨hB,hcb.2⟩,fun x hx y hy=>?_⟩
    rcases List.mem_cons.1 hy with rfl | hy
    ·exact hA x hx
    ·exact hab.2.2 x hx y (by simp [hy])
   ·rcases List.mem_append.1 hx with hx | hx
    ·have:=h7 x (by rw [h3]; simp [hx]); omega
    ·rcases List.mem_cons.1 hx with rfl | hx
     ·simp only; omega
     ·have:=h7 x (by rw [h3]; simp [hx]); omega
   ·rw [sC,h3,n0 hA,n0 hA]
    split <;> rfl
  refine ⟨by omega,by omega,fun h=>?_,fun h=>?_,fun h=>by omega,fun _=>?_⟩
  ·have h:v=1000000:=by rcases h with h | h <;> omega
   rw [if_pos (.inl h)]
  ·have hno:¬ (v=1000000∨(true=false∧p.length=16)):=by
    rintro (h4 | h4)
    ·exact h (.inl h4)
    ·exact absurd h4.1 (by simp)
   rw [if_neg hno,if_pos rfl,mid (v+1) (by omega),h3,Fs]
  ·by_cases h:v=1
   ·rw [if_pos h,h3,H5,← h3]
    have:gA (dP p k (v - 1))=A++B:=by
     refine mJ ?_ (fun x hx=>?_) (fun j _ _=>?_)
     ·exact List.pairwise_append.2 ⟨hab.1,hcb.2,fun x hx y hy=>hab.2.2 x hx y (by simp [hy])⟩
     ·rcases List.mem_append.1 hx with hx | hx
      ·have:=h7 x (by rw [h3]; simp [hx]); omega
      ·have:=h7 x (by rw [h3]; simp [hx]); omega
     ·rw [sC,h3,n0 hA]
      split
      ·rename_i hj
       subst hj
       rw [FT hA hB]
       omega
      ·rfl
    rw [this]
   ·rw [if_neg h,mid (v - 1) (by omega),h3,Fs]
end Go.Proofs.YtglchojglcobjaaGreat
