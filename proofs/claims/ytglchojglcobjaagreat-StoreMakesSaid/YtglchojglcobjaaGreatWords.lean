
import Derived.Test.YtglchojglcobjaaGreatWord
namespace Go.Proofs.YtglchojglcobjaaGreat
open Go
set_option maxRecDepth 100000
set_option maxHeartbeats 1000000
def uh:Spec:={ Ts:=[.arr be],Rs:=[.own 50 be],pre:=fun _=>True,F:=fun (x:List Int)=>x }
def l8:Prop :=
  ∀ (x:List Int),(x.length * 8≤az∧∀ (x_1:Int),x_1∈x→ak IntKind.u64 x_1)→True→(x=([]:List Int)→([]:List Int)=x∧True)∧(True→(0+x.length) * 8≤az∧([]:List Int)++x=x∧True)
theorem rm:l8:=by
 unfold l8
 intro x ⟨hb,_⟩ _
 simp [hb]
theorem gB:uh.ok Tryz.prog 96:=aI (ann:=cT) ap Tryz.func96 (by kernel_rfl) rm
def yV:Spec:={ Ts:=[.arr be],Rs:=[.own 50 be],pre:=fun _=>True,F:=fun (x:List Int)=>x }
def pM:Prop :=
  ∀ (x:List Int),(x.length * 8≤az∧∀ (x_1:Int),x_1∈x→ak IntKind.u64 x_1)→True→x.length * 8≤az∧x=x∧True
theorem ws:pM:=by
 unfold pM
 intro x ⟨hb,_⟩ _
 simp [hb]
theorem gJ:yV.ok Tryz.prog 86:=aI (ann:=cT) ap Tryz.func86 (by kernel_rfl) ws
def jr (L at_ n:Int):Bool:=decide (0≤n)&&decide (0≤at_)&&decide (at_≤L)&&decide (n≤L - at_)
theorem yM (L:Nat) (n k:Int):dT L n [k]=if 256<L then 2 else if jr L k n=true then 0 else 4:=by
 simp only [dT,cR,jr,List.any_cons,List.any_nil]
 grind
theorem lN (L k n:Int):jr L k n=true ↔ 0≤n∧0≤k∧k≤L∧n≤L - k:=by
 simp [jr,and_assoc]
def kc (a:List Int) (t:Nat) (ys:List Int) (k:Nat):List Int:=a.take t++(ys.take k++a.drop (t+k))
def dj (a:List Int) (at_ n v:Int) (k:Int):List Int:=kc a at_.toNat (List.replicate n.toNat v) k.toNat
theorem BO (a:List Int) (t:Nat) (ys:List Int):kc a t ys 0=a:=by simp [kc]
theorem xn (a:List Int) (t:Nat) (ys:List Int) (k:Nat) (h:t+ys.length≤a.length) (hk:k≤ys.length):(kc a t ys k).length=a.length:=by
 simp [kc]; omega
theorem Ea (a:List Int) (t:Nat) (ys:List Int) (k:Nat) (v:Int) (h:t+ys.length≤a.length) (hk:k<ys.length) (hv:ys.getD k 0=v):(kc a t ys k).set (t+k) v=kc a t ys (k+1):=by
 have hv:v=ys[k]:=by rw [← hv]; simp [hk]
 subst hv
 unfold kc
 have l1:(a.take t).length=t:=by simp; omega
 have l2:(ys.take k).length=k:=by simp; omega
 rw [List.set_append_right _ _ (by omega),l1,List.set_append_right _ _ (by omega),l2,show t+k - t - k=0 by omega,List.drop_eq_getElem_cons (show t+k<a.length by omega),List.set_cons_zero,
  List.take_succ_eq_append_getElem hk,show t+(k+1)=t+k+1 by omega,List.append_assoc]
 rfl
theorem mU (a:List Int) (at_ n v:Int):dj a at_ n v 0=a:=BO _ _ _
theorem sU (a:List Int) (at_ n v k:Int) (h0:0≤at_) (h1:at_+n≤a.length) (k0:0≤k) (k1:k<n):(dj a at_ n v k).set (at_+k).toNat v=dj a at_ n v (k+1):=by
 unfold dj
 rw [show (at_+k).toNat=at_.toNat+k.toNat by omega,show (k+1).toNat=k.toNat+1 by omega]
 exact Ea _ _ _ _ _ (by simp; omega) (by simp; omega) (by simp [show k.toNat<n.toNat by omega])
theorem dH (a:List Int) (at_ n v k:Int) (h0:0≤at_) (h1:at_+n≤a.length) (k0:0≤k) (k1:k≤n):(dj a at_ n v k).length=a.length :=
 xn _ _ _ _ (by simp; omega) (by simp; omega)
def gl (a:List Int) (at_ n v:Int):List Int×Int:=if dT a.length n [at_]=0 then (dj a at_ n v n,0) else ([],dT a.length n [at_])
def AG:Nat→Option LoopGen
 | 6=>some { rd:=[.dat 0 (.arr be),.dat 1 ty_I,.dat 2 ty_I,.dat 3 be],wr:=[11],A:=fun ((a,at_,n,v):List Int×Int×Int×Int)=>{ cs:=[.own 11 50 be,.dat 24 ty_I],inv:=fun ((out,k):List Int×Int)=>0≤k∧k≤n∧0≤at_∧at_+n≤a.length∧a.length≤256∧out=dj a at_ n v k,mu:=fun ((_,k):List Int×Int)=>(n - k).toNat } }
 | _=>none
def yP:Spec:={ Ts:=[.arr be,ty_I,ty_I,be],Rs:=[.own 50 be,.dat ty_I],pre:=fun _=>True,F:=fun ((a,at_,n,v):List Int×Int×Int×Int)=>gl a at_ n v }
def pH:Prop :=
  ∀ (x:List Int×Int×Int×Int),(x.1.length * 8≤az∧∀ (x_1:Int),x_1∈x.1→ak IntKind.u64 x_1)∧ak IntKind.i64 x.2.1∧ak IntKind.i64 x.2.2.1∧ak IntKind.u64 x.2.2.2→True→True∧(decide (dT x.1.length x.2.2.1 [x.2.1]≠0)=true→([]:List Int)=(gl x.1 x.2.1 x.2.2.1 x.2.2.2).1∧dT x.1.length x.2.2.1 [x.2.1]=(gl x.1 x.2.1 x.2.2.1 x.2.2.2).2∧True)∧(decide (dT x.1.length x.2.2.1 [x.2.1]≠0)=false→True∧((0:Int)≤0∧0≤x.2.2.1∧0≤x.2.1∧x.2.1+x.2.2.1≤(↑x.1.length:Int)∧x.1.length≤256∧x.1=dj x.1 x.2.1 x.2.2.1 x.2.2.2 0)∧∀ (x_1:List Int×Int),0≤x_1.2∧x_1.2≤x.2.2.1∧0≤x.2.1∧x.2.1+x.2.2.1≤(↑x.1.length:Int)∧x.1.length≤256∧x_1.1=dj x.1 x.2.1 x.2.2.1 x.2.2.2 x_1.2→(decide (x_1.2<x.2.2.1)=true→ak IntKind.i64 (x.2.1+x_1.2)∧0≤x.2.1+x_1.2∧x.2.1+x_1.2<(↑x_1.1.length:Int)∧(x.2.1+x_1.2).toNat<x_1.1.length∧ak IntKind.i64 (x_1.2+1)∧(0≤x_1.2+1∧x_1.2+1≤x.2.2.1∧0≤x.2.1∧x.2.1+x.2.2.1≤(↑x.1.length:Int)∧x.1.length≤256∧x_1.1.set (x.2.1+x_1.2).toNat x.2.2.2=dj x.1 x.2.1 x.2.2.1 x.2.2.2 (x_1.2+1))∧(x.2.2.1 - (x_1.2+1)).toNat<(x.2.2.1 - x_1.2).toNat)∧(decide (x_1.2<x.2.2.1)=false→x_1.1=(gl x.1 x.2.1 x.2.2.1 x.2.2.2).1∧0=(gl x.1 x.2.1 x.2.2.1 x.2.2.2).2∧True))
theorem wl:pH:=by
 unfold pH
 intro ⟨a,at_,n,v⟩ ⟨⟨ha,_⟩,h1,h2,_⟩ _
 simp only [gl,yM] at *
 by_cases cl:256<a.length
 ·simp [cl]
 by_cases ok:jr a.length at_ n=true
 ·obtain ⟨o1,o2,o3,o4⟩:=(lN _ _ _).1 ok
  simp only [cl,ok,if_true,if_false]
  refine ⟨trivial,fun h=>by simp at h,fun _=>⟨trivial,⟨by omega,o1,o2,by omega,by omega,(mU _ _ _ _).symm⟩,fun ⟨out,k⟩ ⟨k0,k1,_,q1,q2,q3⟩=>⟨fun hk=>?_,fun hk=>?_⟩⟩⟩
  ·have hk:k<n:=by simpa using hk
   simp only at *
   have hl:out.length=a.length:=by rw [q3]; exact dH _ _ _ _ _ o2 q1 k0 k1
   refine ⟨by simp only [ak]; omega,by omega,by omega,by omega,by simp only [ak]; omega,⟨by omega,by omega,o2,q1,q2,?_⟩,by omega⟩
   rw [q3]
   exact sU _ _ _ _ _ o2 q1 k0 hk
  ·have hk:¬ k<n:=by simpa using hk
   simp only at *
   have:k=n:=by omega
   subst this
   simp [q3]
 ·simp [cl,ok]
theorem kD:yP.ok Tryz.prog 137:=aI (ann:=AG) (ae xu (ae gB ap)) Tryz.func137 (by kernel_rfl) wl
end Go.Proofs.YtglchojglcobjaaGreat
