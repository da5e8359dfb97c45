
import Derived.Test.YtglchojglcobjaaGreatWord
namespace Go.Proofs.YtglchojglcobjaaGreat
open Go
set_option maxRecDepth 100000
set_option maxHeartbeats 1000000
def sp_cloneWords:Spec:={ Ts:=[.arr ty_W],Rs:=[.own 50 ty_W],pre:=fun _=>True,F:=fun (x:List Int)=>x }
def pv_cloneWords:Prop :=
  ∀ (x:List Int),(x.length * (8:Nat)≤big∧∀ (x_1:Int),x_1∈x→InR IntKind.u64 x_1)→True→(x=([]:List Int)→([]:List Int)=x∧True)∧(True→((0:Nat)+x.length) * (8:Nat)≤big∧([]:List Int)++x=x∧True)
theorem vcp_cloneWords:pv_cloneWords:=by
 unfold pv_cloneWords
 intro x ⟨hb,_⟩ _
 simp [hb]
theorem e_cloneWords:pv_cloneWords=(fnVC Tryz.prog (tbl []) an_0 Tryz.f96 sp_cloneWords):=by kernel_rfl
theorem vc_cloneWords:fnVC Tryz.prog (tbl []) an_0 Tryz.f96 sp_cloneWords:=@Eq.mp _ _ @e_cloneWords @vcp_cloneWords
theorem ok_cloneWords:sp_cloneWords.ok Tryz.prog 96:=fn_sound (P:=Tryz.prog) (ss:=tbl []) (ann:=an_0) (f:=96) (fn:=Tryz.f96) (s:=sp_cloneWords) tbl_nil Tryz.func96 @vc_cloneWords
def sp_refClone:Spec:={ Ts:=[.arr ty_W],Rs:=[.own 50 ty_W],pre:=fun _=>True,F:=fun (x:List Int)=>x }
def pv_refClone:Prop :=
  ∀ (x:List Int),(x.length * (8:Nat)≤big∧∀ (x_1:Int),x_1∈x→InR IntKind.u64 x_1)→True→x.length * (8:Nat)≤big∧x=x∧True
theorem vcp_refClone:pv_refClone:=by
 unfold pv_refClone
 intro x ⟨hb,_⟩ _
 simp [hb]
theorem e_refClone:pv_refClone=(fnVC Tryz.prog (tbl []) an_0 Tryz.f86 sp_refClone):=by kernel_rfl
theorem vc_refClone:fnVC Tryz.prog (tbl []) an_0 Tryz.f86 sp_refClone:=@Eq.mp _ _ @e_refClone @vcp_refClone
theorem ok_refClone:sp_refClone.ok Tryz.prog 86:=fn_sound (P:=Tryz.prog) (ss:=tbl []) (ann:=an_0) (f:=86) (fn:=Tryz.f86) (s:=sp_refClone) tbl_nil Tryz.func86 @vc_refClone
def putAt (a:List Int) (t:Nat) (ys:List Int) (k:Nat):List Int:=a.take t++(ys.take k++a.drop (t+k))
def fillL (a:List Int) (at_ n v:Int) (k:Int):List Int:=putAt a at_.toNat (List.replicate n.toNat v) k.toNat
theorem putAt_zero (a:List Int) (t:Nat) (ys:List Int):putAt a t ys 0=a:=by simp [putAt]
theorem putAt_length (a:List Int) (t:Nat) (ys:List Int) (k:Nat) (h:t+ys.length≤a.length) (hk:k≤ys.length):(putAt a t ys k).length=a.length:=by
 simp [putAt]; omega
theorem putAt_set (a:List Int) (t:Nat) (ys:List Int) (k:Nat) (v:Int) (h:t+ys.length≤a.length) (hk:k<ys.length) (hv:ys.getD k 0=v):(putAt a t ys k).set (t+k) v=putAt a t ys (k+1):=by
 have hv:v=ys[k]:=by rw [← hv]; simp [hk]
 subst hv
 unfold putAt
 have l1:(a.take t).length=t:=by simp; omega
 have l2:(ys.take k).length=k:=by simp; omega
 rw [List.set_append_right _ _ (by omega),l1,List.set_append_right _ _ (by omega),l2,show t+k - t - k=0 by omega,List.drop_eq_getElem_cons (show t+k<a.length by omega),List.set_cons_zero,
  List.take_succ_eq_append_getElem hk,show t+(k+1)=t+k+1 by omega,List.append_assoc]
 rfl
theorem fillL_zero (a:List Int) (at_ n v:Int):fillL a at_ n v 0=a:=putAt_zero _ _ _
theorem fillL_step (a:List Int) (at_ n v k:Int) (h0:0≤at_) (h1:at_+n≤a.length) (k0:0≤k) (k1:k<n):(fillL a at_ n v k).set (at_+k).toNat v=fillL a at_ n v (k+1):=by
 unfold fillL
 rw [show (at_+k).toNat=at_.toNat+k.toNat by omega,show (k+1).toNat=k.toNat+1 by omega]
 exact putAt_set _ _ _ _ _ (by simp; omega) (by simp; omega) (by simp [show k.toNat<n.toNat by omega])
theorem fillL_length (a:List Int) (at_ n v k:Int) (h0:0≤at_) (h1:at_+n≤a.length) (k0:0≤k) (k1:k≤n):(fillL a at_ n v k).length=a.length :=
 putAt_length _ _ _ _ (by simp; omega) (by simp; omega)
end Go.Proofs.YtglchojglcobjaaGreat
