
import Derived.Test.YtglchojglcobjaaGreatRDeeds
namespace Go.Proofs.YtglchojglcobjaaGreat
open Go
set_option maxRecDepth 100000
set_option maxHeartbeats 1000000
set_option maxHeartbeats 4000000
def toldB (x:StoreD) (w e:Int) (y:StoreD×Int×Int):Bool:=decide (x=y.1)&&decide (w=y.2.1)&&decide (e=y.2.2)
def sp_told:Spec:={ Ts:=[ty_Store,ty_W,ty_I,ty_Store,ty_W,ty_I],Rs:=[.dat .bool],pre:=fun _=>True,F:=fun ((s,v,e,x,w,f):StoreD×Int×Int×StoreD×Int×Int)=>toldB s v e (x,w,f) }
def pv_told:Prop :=
  ∀ (x:(List Int×List Int×List (Int×Int)×List (Int×Bool×Int))×Int×Int×(List Int×List Int×List (Int×Int)×List (Int×Bool×Int))×Int×Int),((x.1.1.length * (8:Nat)≤big∧∀ (x_1:Int),x_1∈x.1.1→InR IntKind.u64 x_1)∧(x.1.2.1.length * (8:Nat)≤big∧∀ (x_1:Int),x_1∈x.1.2.1→InR IntKind.i64 x_1)∧(x.1.2.2.1.length * ((8:Nat)+(8:Nat))≤big∧∀ (x_1:Int×Int),x_1∈x.1.2.2.1→InR IntKind.i64 x_1.1∧InR IntKind.i64 x_1.2)∧x.1.2.2.2.length * ((8:Nat)+((8:Nat)+(8:Nat)))≤big∧∀ (x_1:Int×Bool×Int),x_1∈x.1.2.2.2→InR IntKind.i64 x_1.1∧True∧InR IntKind.i64 x_1.2.2)∧InR IntKind.u64 x.2.1∧InR IntKind.i64 x.2.2.1∧((x.2.2.2.1.1.length * (8:Nat)≤big∧∀ (x_1:Int),x_1∈x.2.2.2.1.1→InR IntKind.u64 x_1)∧(x.2.2.2.1.2.1.length * (8:Nat)≤big∧∀ (x_1:Int),x_1∈x.2.2.2.1.2.1→InR IntKind.i64 x_1)∧(x.2.2.2.1.2.2.1.length * ((8:Nat)+(8:Nat))≤big∧∀ (x_1:Int×Int),x_1∈x.2.2.2.1.2.2.1→InR IntKind.i64 x_1.1∧InR IntKind.i64 x_1.2)∧x.2.2.2.1.2.2.2.length * ((8:Nat)+((8:Nat)+(8:Nat)))≤big∧∀ (x_1:Int×Bool×Int),x_1∈x.2.2.2.1.2.2.2→InR IntKind.i64 x_1.1∧True∧InR IntKind.i64 x_1.2.2)∧InR IntKind.u64 x.2.2.2.2.1∧InR IntKind.i64 x.2.2.2.2.2→True→True∧(decide (x.1=x.2.2.2.1)&&decide (x.2.1=x.2.2.2.2.1)&&decide (x.2.2.1=x.2.2.2.2.2))=toldB x.1 x.2.1 x.2.2.1 x.2.2.2∧True
theorem vcp_told:pv_told:=by
 unfold pv_told
 intro ⟨s,v,e,x,w,f⟩ _ _
 exact ⟨trivial,rfl,trivial⟩
theorem e_told:pv_told=(fnVC Tryz.prog (tbl [(21,sp_rSameStore)]) an_0 Tryz.f19 sp_told):=by kernel_rfl
theorem vc_told:fnVC Tryz.prog (tbl [(21,sp_rSameStore)]) an_0 Tryz.f19 sp_told:=@Eq.mp _ _ @e_told @vcp_told
theorem ok_told:sp_told.ok Tryz.prog 19:=fn_sound (P:=Tryz.prog) (ss:=tbl [(21,sp_rSameStore)]) (ann:=an_0) (f:=19) (fn:=Tryz.f19) (s:=sp_told) (tbl_cons ok_rSameStore tbl_nil) Tryz.func19 @vc_told
def sp_isDone:Spec:={ Ts:=[ty_Op,ty_Store,ty_W,ty_I,.ref ty_Store],Rs:=[.dat .bool],pre:=fun _=>True,F:=fun (((k,a,b,c,v),x,w,e,s):(Int×Int×Int×Int×Int)×StoreD×Int×Int×StoreD)=>toldB x w e (doneF s k a b c v) }
def pv_isDone:Prop :=
  ∀ (x:(Int×Int×Int×Int×Int)×(List Int×List Int×List (Int×Int)×List (Int×Bool×Int))×Int×Int×List Int×List Int×List (Int×Int)×List (Int×Bool×Int)),((InR IntKind.i64 x.1.1∧InR IntKind.i64 x.1.2.1∧InR IntKind.i64 x.1.2.2.1∧InR IntKind.i64 x.1.2.2.2.1∧InR IntKind.u64 x.1.2.2.2.2)∧((x.2.1.1.length * (8:Nat)≤big∧∀ (x_1:Int),x_1∈x.2.1.1→InR IntKind.u64 x_1)∧(x.2.1.2.1.length * (8:Nat)≤big∧∀ (x_1:Int),x_1∈x.2.1.2.1→InR IntKind.i64 x_1)∧(x.2.1.2.2.1.length * ((8:Nat)+(8:Nat))≤big∧∀ (x_1:Int×Int),x_1∈x.2.1.2.2.1→InR IntKind.i64 x_1.1∧InR IntKind.i64 x_1.2)∧x.2.1.2.2.2.length * ((8:Nat)+((8:Nat)+(8:Nat)))≤big∧∀ (x_1:Int×Bool×Int),x_1∈x.2.1.2.2.2→InR IntKind.i64 x_1.1∧True∧InR IntKind.i64 x_1.2.2)∧InR IntKind.u64 x.2.2.1∧InR IntKind.i64 x.2.2.2.1∧(x.2.2.2.2.1.length * (8:Nat)≤big∧∀ (x_1:Int),x_1∈x.2.2.2.2.1→InR IntKind.u64 x_1)∧(x.2.2.2.2.2.1.length * (8:Nat)≤big∧∀ (x_1:Int),x_1∈x.2.2.2.2.2.1→InR IntKind.i64 x_1)∧(x.2.2.2.2.2.2.1.length * ((8:Nat)+(8:Nat))≤big∧∀ (x_1:Int×Int),x_1∈x.2.2.2.2.2.2.1→InR IntKind.i64 x_1.1∧InR IntKind.i64 x_1.2)∧x.2.2.2.2.2.2.2.length * ((8:Nat)+((8:Nat)+(8:Nat)))≤big∧∀ (x_1:Int×Bool×Int),x_1∈x.2.2.2.2.2.2.2→InR IntKind.i64 x_1.1∧True∧InR IntKind.i64 x_1.2.2)→True→True∧True∧toldB x.2.1 x.2.2.1 x.2.2.2.1 (doneF x.2.2.2.2 x.1.1 x.1.2.1 x.1.2.2.1 x.1.2.2.2.1 x.1.2.2.2.2)=toldB x.2.1 x.2.2.1 x.2.2.2.1 (doneF x.2.2.2.2 x.1.1 x.1.2.1 x.1.2.2.1 x.1.2.2.2.1 x.1.2.2.2.2)∧True
theorem vcp_isDone:pv_isDone:=by
 unfold pv_isDone
 intro ⟨⟨k,a,b,c,v⟩,x,w,e,s⟩ _ _
 exact ⟨trivial,trivial,rfl,trivial⟩
theorem e_isDone:pv_isDone=(fnVC Tryz.prog (tbl [(18,sp_rDone),(19,sp_told)]) an_0 Tryz.f22 sp_isDone):=by kernel_rfl
theorem vc_isDone:fnVC Tryz.prog (tbl [(18,sp_rDone),(19,sp_told)]) an_0 Tryz.f22 sp_isDone:=@Eq.mp _ _ @e_isDone @vcp_isDone
theorem ok_isDone:sp_isDone.ok Tryz.prog 22:=fn_sound (P:=Tryz.prog) (ss:=tbl [(18,sp_rDone),(19,sp_told)]) (ann:=an_0) (f:=22) (fn:=Tryz.f22) (s:=sp_isDone) (tbl_cons ok_rDone (tbl_cons ok_told tbl_nil)) Tryz.func22 @vc_isDone
theorem told_self (y:StoreD×Int×Int):toldB y.1 y.2.1 y.2.2 y=true:=by simp [toldB]
theorem done_of {s:StoreD} {k a b c v:Int} {y:StoreD×Int×Int} (hb:opBad k a b c v=false) (h1:storeF s≠0→y=(nilStore,0,storeF s)) (h2:storeF s=0→y=deed s k a b c v):doneF s k a b c v=y:=by
 unfold doneF
 rw [if_neg (by rw [hb]; simp)]
 by_cases h:storeF s≠0
 ·rw [if_pos h,h1 h]
 ·rw [if_neg h,h2 (by omega)]
theorem objS {s:StoreD} (a:Int) (h:storeF s≠0):objErr s a=storeF s:=by unfold objErr; rw [if_pos h]
theorem slotS {s:StoreD} (a:Int) (h:storeF s≠0):slotErr s a=storeF s:=by unfold slotErr; rw [if_pos h]
theorem done3 (s:StoreD) (a b c:Int):doneF s 3 a b c 0=((refF s a b c).1,0,(refF s a b c).2):=done_of (by simp [opBad]) (fun h=>by
 have e:refErr s a b c=storeF s:=by unfold refErr; rw [if_pos (by rw [objS a h]; exact h),objS a h]
 unfold refF
 rw [if_pos (by omega),e]) (fun h=>by rw [deed3])
theorem done4 (s:StoreD) (a b c:Int):doneF s 4 a b c 0=((setF s a b c).1,0,(setF s a b c).2):=done_of (by simp [opBad]) (fun h=>by
 have e:refErr s a b c=storeF s:=by unfold refErr; rw [if_pos (by rw [objS a h]; exact h),objS a h]
 unfold setF
 rw [if_pos (by omega),e]) (fun h=>by rw [deed4])
theorem done5 (s:StoreD) (a b:Int):doneF s 5 a b 0 0=(if bodyErr s a b≠0 then (nilStore,0,bodyErr s a b) else (s,s.1.getD (bodyAt s (rootAt s a) b).toNat 0,0)):=done_of (by simp [opBad]) (fun h=>by
 have e:bodyErr s a b=storeF s:=by unfold bodyErr; rw [if_pos (by rw [objS a h]; exact h),objS a h]
 rw [if_pos (by omega),e]) (fun h=>by rw [deed5])
theorem done6 (s:StoreD) (a b v:Int):doneF s 6 a b 0 v=((putF s a b v).1,0,(putF s a b v).2):=done_of (by simp [opBad]) (fun h=>by
 have e:bodyErr s a b=storeF s:=by unfold bodyErr; rw [if_pos (by rw [objS a h]; exact h),objS a h]
 unfold putF
 rw [if_pos (by omega),e]) (fun h=>by rw [deed6])
theorem done7 (s:StoreD) (a:Int):doneF s 7 a 0 0 0=pinF s a:=done_of (by simp [opBad]) (fun h=>by unfold pinF; rw [if_pos (by rw [objS a h]; exact h),objS a h]) (fun h=>by rw [deed7])
theorem done8 (s:StoreD) (a:Int):doneF s 8 a 0 0 0=((unpinF s a).1,0,(unpinF s a).2):=done_of (by simp [opBad]) (fun h=>by unfold unpinF; rw [if_pos h]) (fun h=>by rw [deed8])
theorem done9 (s:StoreD) (a b:Int):doneF s 9 a b 0 0=(if peekErr s a b≠0 then (nilStore,0,peekErr s a b) else (s,s.1.getD (bodyAt s a b).toNat 0,0)):=done_of (by simp [opBad]) (fun h=>by
 have e:peekErr s a b=storeF s:=by unfold peekErr; rw [if_pos h]
 rw [if_pos (by omega),e]) (fun h=>by rw [deed9])
theorem done10 (s:StoreD) (a:Int):doneF s 10 a 0 0 0=openT s a:=done_of (by simp [opBad]) (fun h=>by unfold openT; rw [if_pos (by rw [objS a h]; exact h),objS a h]) (fun h=>by rw [deed10])
theorem done11 (s:StoreD) (a v:Int):doneF s 11 a 0 0 v=((useF s v a).1,0,(useF s v a).2):=done_of (by simp [opBad]) (fun h=>by unfold useF; rw [if_pos (by rw [slotS a h]; exact h),slotS a h]) (fun h=>by rw [deed11])
theorem done12 (s:StoreD) (v:Int):doneF s 12 0 0 0 v=((shutF s v).1,0,(shutF s v).2):=done_of (by simp [opBad]) (fun h=>by unfold shutF; rw [if_pos h]) (fun h=>by rw [deed12])
theorem done13 (s:StoreD) (a:Int):doneF s 13 a 0 0 0=((dropT s a).1,0,(dropT s a).2):=done_of (by simp [opBad]) (fun h=>by unfold dropT; rw [if_pos (by rw [slotS a h]; exact h),slotS a h]) (fun h=>by rw [deed13])
theorem pin_wrap {s:StoreD} (hw:∀ x∈s.1,InR .u64 x) (a:Int):IntKind.u64.wrap (pinF s a).2.1=(pinF s a).2.1:=by
 unfold pinF
 split
 ·rfl
 ·rename_i h
  split
  ·rfl
  ·obtain ⟨R,_,_,O⟩:=obj_ok hw (by omega:objErr s a=0)
   have:=O.x0
   have:=O.r0
   have:=O.b0
   have:=O.fit
   have:=R.al
   exact wrapU (by simp only; omega) (by simp only; omega)
def an_lawStoreTells:Nat→Option LoopGen
 | _=>none
def sp_lawStoreTells:Spec:=sp_law [ty_Store,ty_I,ty_I,ty_I,ty_W]
def pv_lawStoreTells:Prop :=
  ∀ (x:(List Int×List Int×List (Int×Int)×List (Int×Bool×Int))×Int×Int×Int×Int),((x.1.1.length * (8:Nat)≤big∧∀ (x_1:Int),x_1∈x.1.1→InR IntKind.u64 x_1)∧(x.1.2.1.length * (8:Nat)≤big∧∀ (x_1:Int),x_1∈x.1.2.1→InR IntKind.i64 x_1)∧(x.1.2.2.1.length * ((8:Nat)+(8:Nat))≤big∧∀ (x_1:Int×Int),x_1∈x.1.2.2.1→InR IntKind.i64 x_1.1∧InR IntKind.i64 x_1.2)∧x.1.2.2.2.length * ((8:Nat)+((8:Nat)+(8:Nat)))≤big∧∀ (x_1:Int×Bool×Int),x_1∈x.1.2.2.2→InR IntKind.i64 x_1.1∧True∧InR IntKind.i64 x_1.2.2)∧InR IntKind.i64 x.2.1∧InR IntKind.i64 x.2.2.1∧InR IntKind.i64 x.2.2.2.1∧InR IntKind.u64 x.2.2.2.2→((x.1.1.length * (8:Nat)≤(140737488351232:Nat)∧∀ (x_1:Int),x_1∈x.1.1→sp_room ty_W x_1)∧(x.1.2.1.length * (8:Nat)≤(140737488351232:Nat)∧∀ (x_1:Int),x_1∈x.1.2.1→sp_room ty_I x_1)∧(x.1.2.2.1.length * ((8:Nat)+(8:Nat))≤(140737488351232:Nat)∧∀ (x_1:Int×Int),x_1∈x.1.2.2.1→sp_room ty_Pin x_1)∧x.1.2.2.2.length * ((8:Nat)+((8:Nat)+(8:Nat)))≤(140737488351232:Nat)∧∀ (x_1:Int×Bool×Int),x_1∈x.1.2.2.2→sp_room ty_Slot x_1)∧True∧True∧True∧True→True∧True∧True∧(toldB (refF x.1 x.2.1 x.2.2.1 x.2.2.2.1).1 (0:Int) (refF x.1 x.2.1 x.2.2.1 x.2.2.2.1).2 (doneF x.1 (3:Int) x.2.1 x.2.2.1 x.2.2.2.1 (0:Int))=true→True)∧True∧((toldB (refF x.1 x.2.1 x.2.2.1 x.2.2.2.1).1 (0:Int) (refF x.1 x.2.1 x.2.2.1 x.2.2.2.1).2 (doneF x.1 (3:Int) x.2.1 x.2.2.1 x.2.2.2.1 (0:Int))&&toldB (setF x.1 x.2.1 x.2.2.1 x.2.2.2.1).1 (0:Int) (setF x.1 x.2.1 x.2.2.1 x.2.2.2.1).2 (doneF x.1 (4:Int) x.2.1 x.2.2.1 x.2.2.2.1 (0:Int)))=true→True)∧True∧((toldB (refF x.1 x.2.1 x.2.2.1 x.2.2.2.1).1 (0:Int) (refF x.1 x.2.1 x.2.2.1 x.2.2.2.1).2 (doneF x.1 (3:Int) x.2.1 x.2.2.1 x.2.2.2.1 (0:Int))&&toldB (setF x.1 x.2.1 x.2.2.1 x.2.2.2.1).1 (0:Int) (setF x.1 x.2.1 x.2.2.1 x.2.2.2.1).2 (doneF x.1 (4:Int) x.2.1 x.2.2.1 x.2.2.2.1 (0:Int))&&toldB (putF x.1 x.2.1 x.2.2.1 x.2.2.2.2).1 (0:Int) (putF x.1 x.2.1 x.2.2.1 x.2.2.2.2).2 (doneF x.1 (6:Int) x.2.1 x.2.2.1 (0:Int) x.2.2.2.2))=true→True)∧True∧((toldB (refF x.1 x.2.1 x.2.2.1 x.2.2.2.1).1 (0:Int) (refF x.1 x.2.1 x.2.2.1 x.2.2.2.1).2 (doneF x.1 (3:Int) x.2.1 x.2.2.1 x.2.2.2.1 (0:Int))&&toldB (setF x.1 x.2.1 x.2.2.1 x.2.2.2.1).1 (0:Int) (setF x.1 x.2.1 x.2.2.1 x.2.2.2.1).2 (doneF x.1 (4:Int) x.2.1 x.2.2.1 x.2.2.2.1 (0:Int))&&toldB (putF x.1 x.2.1 x.2.2.1 x.2.2.2.2).1 (0:Int) (putF x.1 x.2.1 x.2.2.1 x.2.2.2.2).2 (doneF x.1 (6:Int) x.2.1 x.2.2.1 (0:Int) x.2.2.2.2)&&toldB (pinF x.1 x.2.1).1 (IntKind.u64.wrap (pinF x.1 x.2.1).2.1) (pinF x.1 x.2.1).2.2 (doneF x.1 (7:Int) x.2.1 (0:Int) (0:Int) (0:Int)))=true→True)∧True∧((toldB (refF x.1 x.2.1 x.2.2.1 x.2.2.2.1).1 (0:Int) (refF x.1 x.2.1 x.2.2.1 x.2.2.2.1).2 (doneF x.1 (3:Int) x.2.1 x.2.2.1 x.2.2.2.1 (0:Int))&&toldB (setF x.1 x.2.1 x.2.2.1 x.2.2.2.1).1 (0:Int) (setF x.1 x.2.1 x.2.2.1 x.2.2.2.1).2 (doneF x.1 (4:Int) x.2.1 x.2.2.1 x.2.2.2.1 (0:Int))&&toldB (putF x.1 x.2.1 x.2.2.1 x.2.2.2.2).1 (0:Int) (putF x.1 x.2.1 x.2.2.1 x.2.2.2.2).2 (doneF x.1 (6:Int) x.2.1 x.2.2.1 (0:Int) x.2.2.2.2)&&toldB (pinF x.1 x.2.1).1 (IntKind.u64.wrap (pinF x.1 x.2.1).2.1) (pinF x.1 x.2.1).2.2 (doneF x.1 (7:Int) x.2.1 (0:Int) (0:Int) (0:Int))&&toldB (unpinF x.1 x.2.1).1 (0:Int) (unpinF x.1 x.2.1).2 (doneF x.1 (8:Int) x.2.1 (0:Int) (0:Int) (0:Int)))=true→True)∧True∧((toldB (refF x.1 x.2.1 x.2.2.1 x.2.2.2.1).1 (0:Int) (refF x.1 x.2.1 x.2.2.1 x.2.2.2.1).2 (doneF x.1 (3:Int) x.2.1 x.2.2.1 x.2.2.2.1 (0:Int))&&toldB (setF x.1 x.2.1 x.2.2.1 x.2.2.2.1).1 (0:Int) (setF x.1 x.2.1 x.2.2.1 x.2.2.2.1).2 (doneF x.1 (4:Int) x.2.1 x.2.2.1 x.2.2.2.1 (0:Int))&&toldB (putF x.1 x.2.1 x.2.2.1 x.2.2.2.2).1 (0:Int) (putF x.1 x.2.1 x.2.2.1 x.2.2.2.2).2 (doneF x.1 (6:Int) x.2.1 x.2.2.1 (0:Int) x.2.2.2.2)&&toldB (pinF x.1 x.2.1).1 (IntKind.u64.wrap (pinF x.1 x.2.1).2.1) (pinF x.1 x.2.1).2.2 (doneF x.1 (7:Int) x.2.1 (0:Int) (0:Int) (0:Int))&&toldB (unpinF x.1 x.2.1).1 (0:Int) (unpinF x.1 x.2.1).2 (doneF x.1 (8:Int) x.2.1 (0:Int) (0:Int) (0:Int))&&toldB (openT x.1 x.2.1).1 (openT x.1 x.2.1).2.1 (openT x.1 x.2.1).2.2 (doneF x.1 (10:Int) x.2.1 (0:Int) (0:Int) (0:Int)))=true→True)∧True∧((toldB (refF x.1 x.2.1 x.2.2.1 x.2.2.2.1).1 (0:Int) (refF x.1 x.2.1 x.2.2.1 x.2.2.2.1).2 (doneF x.1 (3:Int) x.2.1 x.2.2.1 x.2.2.2.1 (0:Int))&&toldB (setF x.1 x.2.1 x.2.2.1 x.2.2.2.1).1 (0:Int) (setF x.1 x.2.1 x.2.2.1 x.2.2.2.1).2 (doneF x.1 (4:Int) x.2.1 x.2.2.1 x.2.2.2.1 (0:Int))&&toldB (putF x.1 x.2.1 x.2.2.1 x.2.2.2.2).1 (0:Int) (putF x.1 x.2.1 x.2.2.1 x.2.2.2.2).2 (doneF x.1 (6:Int) x.2.1 x.2.2.1 (0:Int) x.2.2.2.2)&&toldB (pinF x.1 x.2.1).1 (IntKind.u64.wrap (pinF x.1 x.2.1).2.1) (pinF x.1 x.2.1).2.2 (doneF x.1 (7:Int) x.2.1 (0:Int) (0:Int) (0:Int))&&toldB (unpinF x.1 x.2.1).1 (0:Int) (unpinF x.1 x.2.1).2 (doneF x.1 (8:Int) x.2.1 (0:Int) (0:Int) (0:Int))&&toldB (openT x.1 x.2.1).1 (openT x.1 x.2.1).2.1 (openT x.1 x.2.1).2.2 (doneF x.1 (10:Int) x.2.1 (0:Int) (0:Int) (0:Int))&&toldB (useF x.1 x.2.2.2.2 x.2.1).1 (0:Int) (useF x.1 x.2.2.2.2 x.2.1).2 (doneF x.1 (11:Int) x.2.1 (0:Int) (0:Int) x.2.2.2.2))=true→True)∧True∧((toldB (refF x.1 x.2.1 x.2.2.1 x.2.2.2.1).1 (0:Int) (refF x.1 x.2.1 x.2.2.1 x.2.2.2.1).2 (doneF x.1 (3:Int) x.2.1 x.2.2.1 x.2.2.2.1 (0:Int))&&toldB (setF x.1 x.2.1 x.2.2.1 x.2.2.2.1).1 (0:Int) (setF x.1 x.2.1 x.2.2.1 x.2.2.2.1).2 (doneF x.1 (4:Int) x.2.1 x.2.2.1 x.2.2.2.1 (0:Int))&&toldB (putF x.1 x.2.1 x.2.2.1 x.2.2.2.2).1 (0:Int) (putF x.1 x.2.1 x.2.2.1 x.2.2.2.2).2 (doneF x.1 (6:Int) x.2.1 x.2.2.1 (0:Int) x.2.2.2.2)&&toldB (pinF x.1 x.2.1).1 (IntKind.u64.wrap (pinF x.1 x.2.1).2.1) (pinF x.1 x.2.1).2.2 (doneF x.1 (7:Int) x.2.1 (0:Int) (0:Int) (0:Int))&&toldB (unpinF x.1 x.2.1).1 (0:Int) (unpinF x.1 x.2.1).2 (doneF x.1 (8:Int) x.2.1 (0:Int) (0:Int) (0:Int))&&toldB (openT x.1 x.2.1).1 (openT x.1 x.2.1).2.1 (openT x.1 x.2.1).2.2 (doneF x.1 (10:Int) x.2.1 (0:Int) (0:Int) (0:Int))&&toldB (useF x.1 x.2.2.2.2 x.2.1).1 (0:Int) (useF x.1 x.2.2.2.2 x.2.1).2 (doneF x.1 (11:Int) x.2.1 (0:Int) (0:Int) x.2.2.2.2)&&toldB (shutF x.1 x.2.2.2.2).1 (0:Int) (shutF x.1 x.2.2.2.2).2 (doneF x.1 (12:Int) (0:Int) (0:Int) (0:Int) x.2.2.2.2))=true→True)∧True∧True∧True∧True∧(toldB (refF x.1 x.2.1 x.2.2.1 x.2.2.2.1).1 (0:Int) (refF x.1 x.2.1 x.2.2.1 x.2.2.2.1).2 (doneF x.1 (3:Int) x.2.1 x.2.2.1 x.2.2.2.1 (0:Int))&&toldB (setF x.1 x.2.1 x.2.2.1 x.2.2.2.1).1 (0:Int) (setF x.1 x.2.1 x.2.2.1 x.2.2.2.1).2 (doneF x.1 (4:Int) x.2.1 x.2.2.1 x.2.2.2.1 (0:Int))&&toldB (putF x.1 x.2.1 x.2.2.1 x.2.2.2.2).1 (0:Int) (putF x.1 x.2.1 x.2.2.1 x.2.2.2.2).2 (doneF x.1 (6:Int) x.2.1 x.2.2.1 (0:Int) x.2.2.2.2)&&toldB (pinF x.1 x.2.1).1 (IntKind.u64.wrap (pinF x.1 x.2.1).2.1) (pinF x.1 x.2.1).2.2 (doneF x.1 (7:Int) x.2.1 (0:Int) (0:Int) (0:Int))&&toldB (unpinF x.1 x.2.1).1 (0:Int) (unpinF x.1 x.2.1).2 (doneF x.1 (8:Int) x.2.1 (0:Int) (0:Int) (0:Int))&&toldB (openT x.1 x.2.1).1 (openT x.1 x.2.1).2.1 (openT x.1 x.2.1).2.2 (doneF x.1 (10:Int) x.2.1 (0:Int) (0:Int) (0:Int))&&toldB (useF x.1 x.2.2.2.2 x.2.1).1 (0:Int) (useF x.1 x.2.2.2.2 x.2.1).2 (doneF x.1 (11:Int) x.2.1 (0:Int) (0:Int) x.2.2.2.2)&&toldB (shutF x.1 x.2.2.2.2).1 (0:Int) (shutF x.1 x.2.2.2.2).2 (doneF x.1 (12:Int) (0:Int) (0:Int) (0:Int) x.2.2.2.2)&&toldB (dropT x.1 x.2.1).1 (0:Int) (dropT x.1 x.2.1).2 (doneF x.1 (13:Int) x.2.1 (0:Int) (0:Int) (0:Int))&&decide ((if bodyErr x.1 x.2.1 x.2.2.1≠(0:Int) then (0:Int) else x.1.1.getD (bodyAt x.1 (rootAt x.1 x.2.1) x.2.2.1).toNat (0:Int))=(doneF x.1 (5:Int) x.2.1 x.2.2.1 (0:Int) (0:Int)).2.1)&&decide (bodyErr x.1 x.2.1 x.2.2.1=(doneF x.1 (5:Int) x.2.1 x.2.2.1 (0:Int) (0:Int)).2.2)&&decide ((if peekErr x.1 x.2.1 x.2.2.1≠(0:Int) then (0:Int) else x.1.1.getD (bodyAt x.1 x.2.1 x.2.2.1).toNat (0:Int))=(doneF x.1 (9:Int) x.2.1 x.2.2.1 (0:Int) (0:Int)).2.1)&&decide (peekErr x.1 x.2.1 x.2.2.1=(doneF x.1 (9:Int) x.2.1 x.2.2.1 (0:Int) (0:Int)).2.2))=true∧True
theorem vcp_lawStoreTells:pv_lawStoreTells:=by
 unfold pv_lawStoreTells
 intro ⟨s,a,b,c,v⟩ ⟨⟨⟨_,hw⟩,_⟩,_⟩ _
 simp only at hw ⊢
 have t3:toldB (refF s a b c).1 0 (refF s a b c).2 (doneF s 3 a b c 0)=true:=by rw [done3]; exact told_self ((refF s a b c).1,0,(refF s a b c).2)
 have t4:toldB (setF s a b c).1 0 (setF s a b c).2 (doneF s 4 a b c 0)=true:=by rw [done4]; exact told_self ((setF s a b c).1,0,(setF s a b c).2)
 have t6:toldB (putF s a b v).1 0 (putF s a b v).2 (doneF s 6 a b 0 v)=true:=by rw [done6]; exact told_self ((putF s a b v).1,0,(putF s a b v).2)
 have t7:toldB (pinF s a).1 (IntKind.u64.wrap (pinF s a).2.1) (pinF s a).2.2 (doneF s 7 a 0 0 0)=true:=by rw [done7,pin_wrap hw]; exact told_self _
 have t8:toldB (unpinF s a).1 0 (unpinF s a).2 (doneF s 8 a 0 0 0)=true:=by rw [done8]; exact told_self ((unpinF s a).1,0,(unpinF s a).2)
 have t10:toldB (openT s a).1 (openT s a).2.1 (openT s a).2.2 (doneF s 10 a 0 0 0)=true:=by rw [done10]; exact told_self _
 have t11:toldB (useF s v a).1 0 (useF s v a).2 (doneF s 11 a 0 0 v)=true:=by rw [done11]; exact told_self ((useF s v a).1,0,(useF s v a).2)
 have t12:toldB (shutF s v).1 0 (shutF s v).2 (doneF s 12 0 0 0 v)=true:=by rw [done12]; exact told_self ((shutF s v).1,0,(shutF s v).2)
 have t13:toldB (dropT s a).1 0 (dropT s a).2 (doneF s 13 a 0 0 0)=true:=by rw [done13]; exact told_self ((dropT s a).1,0,(dropT s a).2)
 have g1:decide ((if bodyErr s a b≠0 then 0 else s.1.getD (bodyAt s (rootAt s a) b).toNat 0)=(doneF s 5 a b 0 0).2.1)=true:=decide_eq_true (by rw [done5]; split <;> rfl)
 have g2:decide (bodyErr s a b=(doneF s 5 a b 0 0).2.2)=true:=decide_eq_true (by
  rw [done5]
  by_cases h:bodyErr s a b≠0
  ·rw [if_pos h]
  ·rw [if_neg h]
   simp only
   omega)
 have g3:decide ((if peekErr s a b≠0 then 0 else s.1.getD (bodyAt s a b).toNat 0)=(doneF s 9 a b 0 0).2.1)=true:=decide_eq_true (by rw [done9]; split <;> rfl)
 have g4:decide (peekErr s a b=(doneF s 9 a b 0 0).2.2)=true:=decide_eq_true (by
  rw [done9]
  by_cases h:peekErr s a b≠0
  ·rw [if_pos h]
  ·rw [if_neg h]
   simp only
   omega)
 rw [t3,t4,t6,t7,t8,t10,t11,t12,t13,g1,g2,g3,g4]
 exact ⟨trivial,trivial,trivial,fun _=>trivial,trivial,fun _=>trivial,trivial,fun _=>trivial,trivial,fun _=>trivial,trivial,fun _=>trivial,trivial,fun _=>trivial,trivial,fun _=>trivial,trivial,fun _=>trivial,trivial,trivial,trivial,trivial,rfl,trivial⟩
theorem e_lawStoreTells:pv_lawStoreTells=(fnVC Tryz.prog (tbl [(22,sp_isDone),(18,sp_rDone),(23,sp_stRefC),(24,sp_stSetC),(25,sp_stPutC),(26,sp_stPinC),(27,sp_stUnpinC),(28,sp_stOpenC),(29,sp_stUseC),(30,sp_stShutC),(31,sp_stDropC),(32,sp_stGet),(33,sp_stPeek)]) an_lawStoreTells Tryz.f5 sp_lawStoreTells):=by kernel_rfl
theorem vc_lawStoreTells:fnVC Tryz.prog (tbl [(22,sp_isDone),(18,sp_rDone),(23,sp_stRefC),(24,sp_stSetC),(25,sp_stPutC),(26,sp_stPinC),(27,sp_stUnpinC),(28,sp_stOpenC),(29,sp_stUseC),(30,sp_stShutC),(31,sp_stDropC),(32,sp_stGet),(33,sp_stPeek)]) an_lawStoreTells Tryz.f5 sp_lawStoreTells:=@Eq.mp _ _ @e_lawStoreTells @vcp_lawStoreTells
theorem ok_lawStoreTells:sp_lawStoreTells.ok Tryz.prog 5:=fn_sound (P:=Tryz.prog) (ss:=tbl [(22,sp_isDone),(18,sp_rDone),(23,sp_stRefC),(24,sp_stSetC),(25,sp_stPutC),(26,sp_stPinC),(27,sp_stUnpinC),(28,sp_stOpenC),(29,sp_stUseC),(30,sp_stShutC),(31,sp_stDropC),(32,sp_stGet),(33,sp_stPeek)]) (ann:=an_lawStoreTells) (f:=5) (fn:=Tryz.f5) (s:=sp_lawStoreTells) (tbl_cons ok_isDone (tbl_cons ok_rDone (tbl_cons ok_stRefC (tbl_cons ok_stSetC (tbl_cons ok_stPutC (tbl_cons ok_stPinC (tbl_cons ok_stUnpinC (tbl_cons ok_stOpenC (tbl_cons ok_stUseC (tbl_cons ok_stShutC (tbl_cons ok_stDropC (tbl_cons ok_stGet (tbl_cons ok_stPeek tbl_nil))))))))))))) Tryz.func5 @vc_lawStoreTells
end Go.Proofs.YtglchojglcobjaaGreat
