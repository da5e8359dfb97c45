
import Derived.Test.YtcnoiiohmpgckaaWord
namespace Go.Proofs.Ytcnoiiohmpgckaa
open Go
set_option maxRecDepth 100000
set_option maxHeartbeats 1000000
def nJ:Spec:={ Ts:=[.arr bB],Rs:=[.own 76 bB],pre:=fun _=>True,F:=fun (x:List Int)=>x }
def g8:Prop :=
  ∀ (x:List Int),(x.length * 8≤aC∧∀ (x_1:Int),x_1∈x→ai .u64 x_1)→True→(x=([]:List Int)→([]:List Int)=x∧True)∧(True→(0+x.length) * 8≤aC∧([]:List Int)++x=x∧True)
theorem lS:g8:=by
 unfold g8
 intro x ⟨hb,_⟩ _
 simp [hb]
theorem g9:nJ.ok Try.prog 101:=aQ (ann:=fE) ar Try.func101 (by kernel_rfl) lS
def rm:Spec:={ Ts:=[.arr bB],Rs:=[.own 76 bB],pre:=fun _=>True,F:=fun (x:List Int)=>x }
def kM:Prop :=
  ∀ (x:List Int),(x.length * 8≤aC∧∀ (x_1:Int),x_1∈x→ai .u64 x_1)→True→x.length * 8≤aC∧x=x∧True
theorem pq:kM:=by
 unfold kM
 intro x ⟨hb,_⟩ _
 simp [hb]
theorem kU:rm.ok Try.prog 54:=aQ (ann:=fE) ar Try.func54 (by kernel_rfl) pq
def fq (L at_ n:Int):Bool:=decide (0≤n)&&decide (0≤at_)&&decide (at_≤L)&&decide (n≤L - at_)
theorem rc (L:Nat) (n k:Int):cj L n [k]=if 256<L then 2 else if fq L k n=true then 0 else 4:=by
 simp only [cj,bF,fq,List.any_cons,List.any_nil]
 grind
theorem gU (L k n:Int):fq L k n=true ↔ 0≤n∧0≤k∧k≤L∧n≤L - k:=by
 simp [fq,and_assoc]
def ji (a:List Int) (t:Nat) (ys:List Int) (k:Nat):List Int:=a.take t++(ys.take k++a.drop (t+k))
def dL (a:List Int) (at_ n v:Int) (k:Int):List Int:=ji a at_.toNat (List.replicate n.toNat v) k.toNat
theorem tc (a:List Int) (t:Nat) (ys:List Int):ji a t ys 0=a:=by simp [ji]
theorem qa (a:List Int) (t:Nat) (ys:List Int) (k:Nat) (h:t+ys.length≤a.length) (hk:k≤ys.length):(ji a t ys k).length=a.length:=by
 simp [ji]; omega
theorem uT (a:List Int) (t:Nat) (ys:List Int) (k:Nat) (v:Int) (h:t+ys.length≤a.length) (hk:k<ys.length) (hv:ys.getD k 0=v):(ji a t ys k).set (t+k) v=ji a t ys (k+1):=by
 have hv:v=ys[k]:=by rw [← hv]; simp [hk]
 subst hv
 unfold ji
 have l1:(a.take t).length=t:=by simp; omega
 have l2:(ys.take k).length=k:=by simp; omega
 rw [List.set_append_right _ _ (by omega),l1,List.set_append_right _ _ (by omega),l2,show t+k - t - k=0 by omega,List.drop_eq_getElem_cons (show t+k<a.length by omega),List.set_cons_zero,
  List.take_succ_eq_append_getElem hk,show t+(k+1)=t+k+1 by omega,List.append_assoc]
 rfl
theorem ix (a:List Int) (at_ n v:Int):dL a at_ n v 0=a:=tc _ _ _
theorem mQ (a:List Int) (at_ n v k:Int) (h0:0≤at_) (h1:at_+n≤a.length) (k0:0≤k) (k1:k<n):(dL a at_ n v k).set (at_+k).toNat v=dL a at_ n v (k+1):=by
 unfold dL
 rw [show (at_+k).toNat=at_.toNat+k.toNat by omega,show (k+1).toNat=k.toNat+1 by omega]
 exact uT _ _ _ _ _ (by simp; omega) (by simp; omega) (by simp [show k.toNat<n.toNat by omega])
theorem de (a:List Int) (at_ n v k:Int) (h0:0≤at_) (h1:at_+n≤a.length) (k0:0≤k) (k1:k≤n):(dL a at_ n v k).length=a.length :=
 qa _ _ _ _ (by simp; omega) (by simp; omega)
def gx (a:List Int) (at_ n v:Int):List Int×Int:=if cj a.length n [at_]=0 then (dL a at_ n v n,0) else ([],cj a.length n [at_])
def sD:Nat→Option LoopGen
 | 6=>some { rd:=[.dat 0 (.arr bB),.dat 1 ty_I,.dat 2 ty_I,.dat 3 bB],wr:=[11],A:=fun ((a,at_,n,v):List Int×Int×Int×Int)=>{ cs:=[.own 11 76 bB,.dat 24 ty_I],inv:=fun ((out,k):List Int×Int)=>0≤k∧k≤n∧0≤at_∧at_+n≤a.length∧a.length≤256∧out=dL a at_ n v k,mu:=fun ((_,k):List Int×Int)=>(n - k).toNat } }
 | _=>none
def rj:Spec:={ Ts:=[.arr bB,ty_I,ty_I,bB],Rs:=[.own 76 bB,.dat ty_I],pre:=fun _=>True,F:=fun ((a,at_,n,v):List Int×Int×Int×Int)=>gx a at_ n v }
def kK:Prop :=
  ∀ (x:List Int×Int×Int×Int),(x.1.length * 8≤aC∧∀ (x_1:Int),x_1∈x.1→ai .u64 x_1)∧ai .i64 x.2.1∧ai .i64 x.2.2.1∧ai .u64 x.2.2.2→True→True∧(decide (cj x.1.length x.2.2.1 [x.2.1]≠0)=true→([]:List Int)=(gx x.1 x.2.1 x.2.2.1 x.2.2.2).1∧cj x.1.length x.2.2.1 [x.2.1]=(gx x.1 x.2.1 x.2.2.1 x.2.2.2).2∧True)∧(decide (cj x.1.length x.2.2.1 [x.2.1]≠0)=false→True∧((0:Int)≤0∧0≤x.2.2.1∧0≤x.2.1∧x.2.1+x.2.2.1≤(↑x.1.length:Int)∧x.1.length≤256∧x.1=dL x.1 x.2.1 x.2.2.1 x.2.2.2 0)∧∀ (x_1:List Int×Int),0≤x_1.2∧x_1.2≤x.2.2.1∧0≤x.2.1∧x.2.1+x.2.2.1≤(↑x.1.length:Int)∧x.1.length≤256∧x_1.1=dL x.1 x.2.1 x.2.2.1 x.2.2.2 x_1.2→(decide (x_1.2<x.2.2.1)=true→ai .i64 (x.2.1+x_1.2)∧0≤x.2.1+x_1.2∧x.2.1+x_1.2<(↑x_1.1.length:Int)∧(x.2.1+x_1.2).toNat<x_1.1.length∧ai .i64 (x_1.2+1)∧(0≤x_1.2+1∧x_1.2+1≤x.2.2.1∧0≤x.2.1∧x.2.1+x.2.2.1≤(↑x.1.length:Int)∧x.1.length≤256∧x_1.1.set (x.2.1+x_1.2).toNat x.2.2.2=dL x.1 x.2.1 x.2.2.1 x.2.2.2 (x_1.2+1))∧(x.2.2.1 - (x_1.2+1)).toNat<(x.2.2.1 - x_1.2).toNat)∧(decide (x_1.2<x.2.2.1)=false→x_1.1=(gx x.1 x.2.1 x.2.2.1 x.2.2.2).1∧0=(gx x.1 x.2.1 x.2.2.1 x.2.2.2).2∧True))
theorem po:kK:=by
 unfold kK
 intro ⟨a,at_,n,v⟩ ⟨⟨ha,_⟩,h1,h2,_⟩ _
 simp only [gx,rc] at *
 by_cases cl:256<a.length
 ·simp [cl]
 by_cases ok:fq a.length at_ n=true
 ·obtain ⟨o1,o2,o3,o4⟩:=(gU _ _ _).1 ok
  simp only [cl,ok,if_true,if_false]
  refine ⟨trivial,fun h=>by simp at h,fun _=>⟨trivial,⟨by omega,o1,o2,by omega,by omega,(ix _ _ _ _).symm⟩,fun ⟨out,k⟩ ⟨k0,k1,_,q1,q2,q3⟩=>⟨fun hk=>?_,fun hk=>?_⟩⟩⟩
  ·have hk:k<n:=by simpa using hk
   simp only at *
   have hl:out.length=a.length:=by rw [q3]; exact de _ _ _ _ _ o2 q1 k0 k1
   refine ⟨by simp only [ai]; omega,by omega,by omega,by omega,by simp only [ai]; omega,⟨by omega,by omega,o2,q1,q2,?_⟩,by omega⟩
   rw [q3]
   exact mQ _ _ _ _ _ o2 q1 k0 hk
  ·have hk:¬ k<n:=by simpa using hk
   simp only at *
   have:k=n:=by omega
   subst this
   simp [q3]
 ·simp [cl,ok]
theorem rN:rj.ok Try.prog 121:=aQ (ann:=sD) (af qe (af g9 ar)) Try.func121 (by kernel_rfl) po
end Go.Proofs.Ytcnoiiohmpgckaa
