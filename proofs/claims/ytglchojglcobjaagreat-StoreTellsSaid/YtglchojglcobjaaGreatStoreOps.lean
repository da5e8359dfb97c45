
import Derived.Test.YtglchojglcobjaaGreatStorePure
namespace Go.Proofs.YtglchojglcobjaaGreat
open Go
set_option maxRecDepth 100000
set_option maxHeartbeats 1000000
def objErr (s:StoreD) (k:Int):Int:=if storeF s≠0 then storeF s else if k<0∨(s.2.1.length:Int)≤k∨s.2.1.getD k.toNat 0<0 then 5 else 0
def rootAt (s:StoreD) (k:Int):Int:=s.2.1.getD k.toNat 0
def objectT (s:StoreD) (k:Int):Int×Obj×Int:=if objErr s k≠0 then (0,objNone,objErr s k) else (rootAt s k,(atF s.1 (rootAt s k)).1,0)
def an_stObject:Nat→Option LoopGen
 | 4000006=>some an_in
 | _=>none
def sp_stObject:Spec:={ Ts:=[ty_Store,ty_I],Rs:=[.dat ty_I,.dat ty_Obj,.dat ty_I],al:=true,pre:=fun _=>True,F:=fun ((s,k):StoreD×Int)=>objectT s k }
def pv_stObject:Prop :=
  ∀ (x:(List Int×List Int×List (Int×Int)×List (Int×Bool×Int))×Int),((x.1.1.length * (8:Nat)≤big∧∀ (x_1:Int),x_1∈x.1.1→InR IntKind.u64 x_1)∧(x.1.2.1.length * (8:Nat)≤big∧∀ (x_1:Int),x_1∈x.1.2.1→InR IntKind.i64 x_1)∧(x.1.2.2.1.length * ((8:Nat)+(8:Nat))≤big∧∀ (x_1:Int×Int),x_1∈x.1.2.2.1→InR IntKind.i64 x_1.1∧InR IntKind.i64 x_1.2)∧x.1.2.2.2.length * ((8:Nat)+((8:Nat)+(8:Nat)))≤big∧∀ (x_1:Int×Bool×Int),x_1∈x.1.2.2.2→InR IntKind.i64 x_1.1∧True∧InR IntKind.i64 x_1.2.2)∧InR IntKind.i64 x.2→True→True∧(decide (storeF x.1≠(0:Int))=true→(0:Int)=(objectT x.1 x.2).1∧((0:Int),([]:List Int),([]:List Int),false)=(objectT x.1 x.2).2.1∧storeF x.1=(objectT x.1 x.2).2.2∧True)∧(decide (storeF x.1≠(0:Int))=false→((decide (x.2<(0:Int))||decide ((↑x.1.2.1.length:Int)≤x.2))=false→(0:Int)≤x.2)∧((decide (x.2<(0:Int))||decide ((↑x.1.2.1.length:Int)≤x.2))=false→x.2<(↑x.1.2.1.length:Int))∧((decide (x.2<(0:Int))||decide ((↑x.1.2.1.length:Int)≤x.2)||decide (x.1.2.1.getD x.2.toNat (0:Int)<(0:Int)))=true→(0:Int)=(objectT x.1 x.2).1∧((0:Int),([]:List Int),([]:List Int),false)=(objectT x.1 x.2).2.1∧(5:Int)=(objectT x.1 x.2).2.2∧True)∧((decide (x.2<(0:Int))||decide ((↑x.1.2.1.length:Int)≤x.2)||decide (x.1.2.1.getD x.2.toNat (0:Int)<(0:Int)))=false→(0:Int)≤x.2∧x.2<(↑x.1.2.1.length:Int)∧True∧x.1.1=x.1.1∧x.1.2.1=x.1.2.1∧x.2=x.2∧(0:Int)≤x.2∧x.2<(↑x.1.2.1.length:Int)∧x.1.2.1.getD x.2.toNat (0:Int)=x.1.2.1.getD x.2.toNat (0:Int)∧x.1.2.1.getD x.2.toNat (0:Int)=x.1.2.1.getD x.2.toNat (0:Int)∧True∧(atF x.1.1 (x.1.2.1.getD x.2.toNat (0:Int))).1.1=(atF x.1.1 (x.1.2.1.getD x.2.toNat (0:Int))).1.1∧(atF x.1.1 (x.1.2.1.getD x.2.toNat (0:Int))).1.2.1=(atF x.1.1 (x.1.2.1.getD x.2.toNat (0:Int))).1.2.1∧(atF x.1.1 (x.1.2.1.getD x.2.toNat (0:Int))).1.2.2.1=(atF x.1.1 (x.1.2.1.getD x.2.toNat (0:Int))).1.2.2.1∧(atF x.1.1 (x.1.2.1.getD x.2.toNat (0:Int))).1.2.2.2=(atF x.1.1 (x.1.2.1.getD x.2.toNat (0:Int))).1.2.2.2∧(atF x.1.1 (x.1.2.1.getD x.2.toNat (0:Int))).2=(atF x.1.1 (x.1.2.1.getD x.2.toNat (0:Int))).2∧(atF x.1.1 (x.1.2.1.getD x.2.toNat (0:Int))).1.1=(atF x.1.1 (x.1.2.1.getD x.2.toNat (0:Int))).1.1∧(atF x.1.1 (x.1.2.1.getD x.2.toNat (0:Int))).1.2.1=(atF x.1.1 (x.1.2.1.getD x.2.toNat (0:Int))).1.2.1∧(atF x.1.1 (x.1.2.1.getD x.2.toNat (0:Int))).1.2.2.1=(atF x.1.1 (x.1.2.1.getD x.2.toNat (0:Int))).1.2.2.1∧(atF x.1.1 (x.1.2.1.getD x.2.toNat (0:Int))).1.2.2.2=(atF x.1.1 (x.1.2.1.getD x.2.toNat (0:Int))).1.2.2.2∧(atF x.1.1 (x.1.2.1.getD x.2.toNat (0:Int))).2=(atF x.1.1 (x.1.2.1.getD x.2.toNat (0:Int))).2∧(atF x.1.1 (x.1.2.1.getD x.2.toNat (0:Int))).1.1=(atF x.1.1 (x.1.2.1.getD x.2.toNat (0:Int))).1.1∧(atF x.1.1 (x.1.2.1.getD x.2.toNat (0:Int))).1.2.1=(atF x.1.1 (x.1.2.1.getD x.2.toNat (0:Int))).1.2.1∧(atF x.1.1 (x.1.2.1.getD x.2.toNat (0:Int))).1.2.2.1=(atF x.1.1 (x.1.2.1.getD x.2.toNat (0:Int))).1.2.2.1∧(atF x.1.1 (x.1.2.1.getD x.2.toNat (0:Int))).1.2.2.2=(atF x.1.1 (x.1.2.1.getD x.2.toNat (0:Int))).1.2.2.2∧(atF x.1.1 (x.1.2.1.getD x.2.toNat (0:Int))).2=(atF x.1.1 (x.1.2.1.getD x.2.toNat (0:Int))).2∧(atF x.1.1 (x.1.2.1.getD x.2.toNat (0:Int))).2=(atF x.1.1 (x.1.2.1.getD x.2.toNat (0:Int))).2∧(0:Int)≤x.2∧x.2<(↑x.1.2.1.length:Int)∧x.1.2.1.getD x.2.toNat (0:Int)=(objectT x.1 x.2).1∧(atF x.1.1 (x.1.2.1.getD x.2.toNat (0:Int))).1=(objectT x.1 x.2).2.1∧(atF x.1.1 (x.1.2.1.getD x.2.toNat (0:Int))).2=(objectT x.1 x.2).2.2∧True))
theorem vcp_stObject:pv_stObject:=by
 unfold pv_stObject
 intro ⟨s,k⟩ ⟨⟨⟨hb,hw⟩,_⟩,_⟩ _
 simp only at hb hw ⊢
 have hO:objectT s k=if objErr s k≠0 then (0,objNone,objErr s k) else (rootAt s k,(atF s.1 (rootAt s k)).1,0):=rfl
 have hE:objErr s k=if storeF s≠0 then storeF s else if k<0∨(s.2.1.length:Int)≤k∨s.2.1.getD k.toNat 0<0 then 5 else 0:=rfl
 refine ⟨trivial,fun h=>?_,fun h=>⟨fun h1=>?_,fun h1=>?_,fun h1=>?_,fun h1=>?_⟩⟩
 ·rw [if_pos (of_decide_eq_true h)] at hE
  rw [hO,hE,if_pos (of_decide_eq_true h)]
  exact ⟨by trivial,by trivial,by trivial,trivial⟩
 ·simp at h1; omega
 ·simp at h1; omega
 ·rw [if_neg (of_decide_eq_false h),if_pos (by simpa [or_assoc,and_assoc] using h1)] at hE
  rw [hO,hE,if_pos (by omega)]
  exact ⟨by trivial,by trivial,by trivial,trivial⟩
 ·have hs:storeF s=0:=by simpa using of_decide_eq_false h
  have h1:¬ (k<0∨(s.2.1.length:Int)≤k∨s.2.1.getD k.toNat 0<0):=by simpa [or_assoc,and_assoc] using h1
  rw [if_neg (by omega),if_neg h1] at hE
  have R:=right_of hw hs
  have O:=R.obj (R.rootNam (k:=k) (by omega) (by omega) (by omega))
  have hz:(atF s.1 (s.2.1.getD k.toNat 0)).2=0:=by rw [O.at_]
  rw [hO,hE,if_neg (by omega),hz]
  simp only [and_true,true_and,rootAt]
  omega
theorem e_stObject:pv_stObject=(fnVC Tryz.prog (tbl [(54,sp_stCheck),(83,sp_walkAt)]) an_stObject Tryz.f74 sp_stObject):=by kernel_rfl
theorem vc_stObject:fnVC Tryz.prog (tbl [(54,sp_stCheck),(83,sp_walkAt)]) an_stObject Tryz.f74 sp_stObject:=@Eq.mp _ _ @e_stObject @vcp_stObject
theorem ok_stObject:sp_stObject.ok Tryz.prog 74:=fn_sound (P:=Tryz.prog) (ss:=tbl [(54,sp_stCheck),(83,sp_walkAt)]) (ann:=an_stObject) (f:=74) (fn:=Tryz.f74) (s:=sp_stObject) (tbl_cons ok_stCheck (tbl_cons ok_walkAt tbl_nil)) Tryz.func74 @vc_stObject
theorem obj_ok {s:StoreD} {k:Int} (hw:∀ x∈s.1,InR .u64 x) (h:objErr s k=0):Right s∧0≤k∧k<s.2.1.length∧ObjAt s (rootAt s k):=by
 unfold objErr at h
 split at h
 ·omega
 rename_i h0
 split at h
 ·omega
 rename_i h1
 have R:=right_of hw (by omega:storeF s=0)
 exact ⟨R,by omega,by omega,R.obj (R.rootNam (k:=k) (by omega) (by omega) (by omega))⟩
def refErr (s:StoreD) (slot k other:Int):Int:=if objErr s slot≠0 then objErr s slot else if k<0∨(hdA s.1 (rootAt s slot)).1≤k then 4 else if other<0∨(s.2.1.length:Int)≤other then 5 else 0
def sp_stRef:Spec:={ Ts:=[ty_Store,ty_I,ty_I,ty_I],Rs:=[.dat ty_I,.dat ty_I],pre:=fun _=>True,F:=fun ((s,slot,k,other):StoreD×Int×Int×Int)=>((if refErr s slot k other≠0 then 0 else rootAt s slot+1+k,refErr s slot k other):Int×Int) }
def pv_stRef:Prop :=
  ∀ (x:(List Int×List Int×List (Int×Int)×List (Int×Bool×Int))×Int×Int×Int),((x.1.1.length * (8:Nat)≤big∧∀ (x_1:Int),x_1∈x.1.1→InR IntKind.u64 x_1)∧(x.1.2.1.length * (8:Nat)≤big∧∀ (x_1:Int),x_1∈x.1.2.1→InR IntKind.i64 x_1)∧(x.1.2.2.1.length * ((8:Nat)+(8:Nat))≤big∧∀ (x_1:Int×Int),x_1∈x.1.2.2.1→InR IntKind.i64 x_1.1∧InR IntKind.i64 x_1.2)∧x.1.2.2.2.length * ((8:Nat)+((8:Nat)+(8:Nat)))≤big∧∀ (x_1:Int×Bool×Int),x_1∈x.1.2.2.2→InR IntKind.i64 x_1.1∧True∧InR IntKind.i64 x_1.2.2)∧InR IntKind.i64 x.2.1∧InR IntKind.i64 x.2.2.1∧InR IntKind.i64 x.2.2.2→True→True∧(decide ((objectT x.1 x.2.1).2.2≠(0:Int))=true→((0:Int)=if refErr x.1 x.2.1 x.2.2.1 x.2.2.2≠(0:Int) then (0:Int) else rootAt x.1 x.2.1+(1:Int)+x.2.2.1)∧(objectT x.1 x.2.1).2.2=refErr x.1 x.2.1 x.2.2.1 x.2.2.2∧True)∧(decide ((objectT x.1 x.2.1).2.2≠(0:Int))=false→((decide (x.2.2.1<(0:Int))||decide ((↑(objectT x.1 x.2.1).2.1.2.1.length:Int)≤x.2.2.1))=true→((0:Int)=if refErr x.1 x.2.1 x.2.2.1 x.2.2.2≠(0:Int) then (0:Int) else rootAt x.1 x.2.1+(1:Int)+x.2.2.1)∧(4:Int)=refErr x.1 x.2.1 x.2.2.1 x.2.2.2∧True)∧((decide (x.2.2.1<(0:Int))||decide ((↑(objectT x.1 x.2.1).2.1.2.1.length:Int)≤x.2.2.1))=false→((decide (x.2.2.2<(0:Int))||decide ((↑x.1.2.1.length:Int)≤x.2.2.2))=true→((0:Int)=if refErr x.1 x.2.1 x.2.2.1 x.2.2.2≠(0:Int) then (0:Int) else rootAt x.1 x.2.1+(1:Int)+x.2.2.1)∧(5:Int)=refErr x.1 x.2.1 x.2.2.1 x.2.2.2∧True)∧((decide (x.2.2.2<(0:Int))||decide ((↑x.1.2.1.length:Int)≤x.2.2.2))=false→InR IntKind.i64 ((objectT x.1 x.2.1).1+(1:Int))∧InR IntKind.i64 ((objectT x.1 x.2.1).1+(1:Int)+x.2.2.1)∧((objectT x.1 x.2.1).1+(1:Int)+x.2.2.1=if refErr x.1 x.2.1 x.2.2.1 x.2.2.2≠(0:Int) then (0:Int) else rootAt x.1 x.2.1+(1:Int)+x.2.2.1)∧(0:Int)=refErr x.1 x.2.1 x.2.2.1 x.2.2.2∧True)))
theorem vcp_stRef:pv_stRef:=by
 unfold pv_stRef
 intro ⟨s,slot,k,other⟩ ⟨⟨⟨hb,hw⟩,_⟩,_⟩ _
 simp only at hb hw ⊢
 have hR:refErr s slot k other=if objErr s slot≠0 then objErr s slot else if k<0∨(hdA s.1 (rootAt s slot)).1≤k then 4 else if other<0∨(s.2.1.length:Int)≤other then 5 else 0:=rfl
 have hO:objectT s slot=if objErr s slot≠0 then (0,objNone,objErr s slot) else (rootAt s slot,(atF s.1 (rootAt s slot)).1,0):=rfl
 by_cases h0:objErr s slot≠0
 ·rw [if_pos h0] at hR hO
  rw [hO,hR]
  simp only
  refine ⟨trivial,fun _=>?_,fun h=>absurd h0 (of_decide_eq_false h)⟩
  rw [if_pos h0]
  exact ⟨by trivial,by trivial,trivial⟩
 ·obtain ⟨R,_,_,O⟩:=obj_ok hw (by omega:objErr s slot=0)
  have hal:=R.al
  rw [if_neg h0] at hR hO
  rw [hO]
  simp only
  rw [O.refs]
  have:=O.x0
  have:=O.r0
  have:=O.b0
  have:=O.fit
  refine ⟨trivial,fun h=>absurd rfl (of_decide_eq_true h),fun _=>⟨fun h1=>?_,fun h1=>⟨fun h2=>?_,fun h2=>?_⟩⟩⟩
  ·rw [if_pos (by simpa using h1)] at hR
   rw [hR]
   exact ⟨by trivial,by trivial,trivial⟩
  ·have h1:¬ (k<0∨(hdA s.1 (rootAt s slot)).1≤k):=by simpa using h1
   rw [if_neg h1,if_pos (by simpa using h2)] at hR
   rw [hR]
   exact ⟨by trivial,by trivial,trivial⟩
  ·have h1:¬ (k<0∨(hdA s.1 (rootAt s slot)).1≤k):=by simpa using h1
   have h2:¬ (other<0∨(s.2.1.length:Int)≤other):=by simpa using h2
   rw [if_neg h1,if_neg h2] at hR
   rw [hR]
   simp only [InR]
   exact ⟨by omega,by omega,by simp,by trivial,trivial⟩
theorem e_stRef:pv_stRef=(fnVC Tryz.prog (tbl [(74,sp_stObject)]) an_0 Tryz.f72 sp_stRef):=by kernel_rfl
theorem vc_stRef:fnVC Tryz.prog (tbl [(74,sp_stObject)]) an_0 Tryz.f72 sp_stRef:=@Eq.mp _ _ @e_stRef @vcp_stRef
theorem ok_stRef:sp_stRef.ok Tryz.prog 72:=fn_sound (P:=Tryz.prog) (ss:=tbl [(74,sp_stObject)]) (ann:=an_0) (f:=72) (fn:=Tryz.f72) (s:=sp_stRef) (tbl_cons ok_stObject tbl_nil) Tryz.func72 @vc_stRef
theorem ref_ok {s:StoreD} {slot k other:Int} (hw:∀ x∈s.1,InR .u64 x) (h:refErr s slot k other=0):Right s∧ObjAt s (rootAt s slot)∧0≤k∧k<(hdA s.1 (rootAt s slot)).1∧0≤other∧other<s.2.1.length:=by
 unfold refErr at h
 split at h
 ·omega
 rename_i h0
 split at h
 ·omega
 split at h
 ·omega
 obtain ⟨R,_,_,O⟩:=obj_ok hw (by omega:objErr s slot=0)
 exact ⟨R,O,by omega,by omega,by omega,by omega⟩
def an_copied:Nat→Option LoopGen
 | 3000056=>some an_in
 | 5704000001=>some an_in
 | _=>none
def refF (s:StoreD) (slot k into:Int):StoreD×Int:=if refErr s slot k into≠0 then (nilStore,refErr s slot k into) else ((s.1,s.2.1.set into.toNat (s.1.getD (rootAt s slot+1+k).toNat 0 - 1),s.2.2),0)
def sp_stRefC:Spec:={ Ts:=[ty_Store,ty_I,ty_I,ty_I],Rs:=[.dat ty_Store,.dat ty_I],al:=true,pre:=fun _=>True,F:=fun ((s,slot,k,into):StoreD×Int×Int×Int)=>refF s slot k into }
def pv_stRefC:Prop :=
  ∀ (x:(List Int×List Int×List (Int×Int)×List (Int×Bool×Int))×Int×Int×Int),((x.1.1.length * (8:Nat)≤big∧∀ (x_1:Int),x_1∈x.1.1→InR IntKind.u64 x_1)∧(x.1.2.1.length * (8:Nat)≤big∧∀ (x_1:Int),x_1∈x.1.2.1→InR IntKind.i64 x_1)∧(x.1.2.2.1.length * ((8:Nat)+(8:Nat))≤big∧∀ (x_1:Int×Int),x_1∈x.1.2.2.1→InR IntKind.i64 x_1.1∧InR IntKind.i64 x_1.2)∧x.1.2.2.2.length * ((8:Nat)+((8:Nat)+(8:Nat)))≤big∧∀ (x_1:Int×Bool×Int),x_1∈x.1.2.2.2→InR IntKind.i64 x_1.1∧True∧InR IntKind.i64 x_1.2.2)∧InR IntKind.i64 x.2.1∧InR IntKind.i64 x.2.2.1∧InR IntKind.i64 x.2.2.2→True→True∧(decide (refErr x.1 x.2.1 x.2.2.1 x.2.2.2≠(0:Int))=true→(([]:List Int),([]:List Int),([]:List (Int×Int)),([]:List (Int×Bool×Int)))=(refF x.1 x.2.1 x.2.2.1 x.2.2.2).1∧refErr x.1 x.2.1 x.2.2.1 x.2.2.2=(refF x.1 x.2.1 x.2.2.1 x.2.2.2).2∧True)∧(decide (refErr x.1 x.2.1 x.2.2.1 x.2.2.2≠(0:Int))=false→∀ (_:Array Value),True∧True∧True∧x.1.2.1=x.1.2.1∧x.1.2.2.1=x.1.2.2.1∧x.1.2.2.1=x.1.2.2.1∧x.1.2.2.2=x.1.2.2.2∧x.1.2.2.2=x.1.2.2.2∧x.1.2.2.2=x.1.2.2.2∧True∧((0:Int)≤if refErr x.1 x.2.1 x.2.2.1 x.2.2.2≠(0:Int) then (0:Int) else rootAt x.1 x.2.1+(1:Int)+x.2.2.1)∧(if refErr x.1 x.2.1 x.2.2.1 x.2.2.2≠(0:Int) then (0:Int) else rootAt x.1 x.2.1+(1:Int)+x.2.2.1)<(↑x.1.1.length:Int)∧(if refErr x.1 x.2.1 x.2.2.1 x.2.2.2≠(0:Int) then (0:Int) else rootAt x.1 x.2.1+(1:Int)+x.2.2.1).toNat<x.1.1.length∧InR IntKind.i64 (IntKind.i64.wrap (x.1.1.getD (if refErr x.1 x.2.1 x.2.2.1 x.2.2.2≠(0:Int) then (0:Int) else rootAt x.1 x.2.1+(1:Int)+x.2.2.1).toNat (0:Int)) - (1:Int))∧(0:Int)≤x.2.2.2∧x.2.2.2<(↑x.1.2.1.length:Int)∧x.2.2.2.toNat<x.1.2.1.length∧(x.1.1,x.1.2.1.set x.2.2.2.toNat (IntKind.i64.wrap (x.1.1.getD (if refErr x.1 x.2.1 x.2.2.1 x.2.2.2≠(0:Int) then (0:Int) else rootAt x.1 x.2.1+(1:Int)+x.2.2.1).toNat (0:Int)) - (1:Int)),x.1.2.2)=(refF x.1 x.2.1 x.2.2.1 x.2.2.2).1∧(0:Int)=(refF x.1 x.2.1 x.2.2.1 x.2.2.2).2∧True)
theorem vcp_stRefC:pv_stRefC:=by
 unfold pv_stRefC
 intro ⟨s,slot,k,into⟩ ⟨⟨⟨hb,hw⟩,_⟩,_⟩ _
 simp only at hb hw ⊢
 have hF:refF s slot k into=if refErr s slot k into≠0 then (nilStore,refErr s slot k into) else ((s.1,s.2.1.set into.toNat (s.1.getD (rootAt s slot+1+k).toNat 0 - 1),s.2.2),0):=rfl
 refine ⟨trivial,fun h=>?_,fun h tm=>⟨trivial,trivial,trivial,by trivial,by trivial,by trivial,by trivial,by trivial,by trivial,trivial,?_⟩⟩
 ·rw [hF,if_pos (of_decide_eq_true h)]
  exact ⟨by trivial,by trivial,trivial⟩
 ·have h0:=of_decide_eq_false h
  obtain ⟨R,O,k0,k1,o0,o1⟩:=ref_ok hw (by omega:refErr s slot k into=0)
  have hv:=R.refWord O.isb k0 k1
  have:=O.x0
  have:=O.b0
  have:=O.fit
  rw [hF,if_neg h0,if_neg h0]
  have hwr:IntKind.i64.wrap (s.1.getD (rootAt s slot+1+k).toNat 0)=s.1.getD (rootAt s slot+1+k).toNat 0:=wrapI (by omega) (by omega)
  rw [hwr]
  generalize s.1.getD (rootAt s slot+1+k).toNat 0=v at *
  simp only [InR]
  exact ⟨by omega,by omega,by omega,by omega,o0,o1,by omega,by trivial,by trivial,trivial⟩
theorem e_stRefC:pv_stRefC=(fnVC Tryz.prog (tbl [(72,sp_stRef),(96,sp_cloneWords),(97,sp_cloneInts),(98,sp_clonePins),(99,sp_cloneHands)]) an_copied Tryz.f23 sp_stRefC):=by kernel_rfl
theorem vc_stRefC:fnVC Tryz.prog (tbl [(72,sp_stRef),(96,sp_cloneWords),(97,sp_cloneInts),(98,sp_clonePins),(99,sp_cloneHands)]) an_copied Tryz.f23 sp_stRefC:=@Eq.mp _ _ @e_stRefC @vcp_stRefC
theorem ok_stRefC:sp_stRefC.ok Tryz.prog 23:=fn_sound (P:=Tryz.prog) (ss:=tbl [(72,sp_stRef),(96,sp_cloneWords),(97,sp_cloneInts),(98,sp_clonePins),(99,sp_cloneHands)]) (ann:=an_copied) (f:=23) (fn:=Tryz.f23) (s:=sp_stRefC) (tbl_cons ok_stRef (tbl_cons ok_cloneWords (tbl_cons ok_cloneInts (tbl_cons ok_clonePins (tbl_cons ok_cloneHands tbl_nil))))) Tryz.func23 @vc_stRefC
def setF (s:StoreD) (slot k other:Int):StoreD×Int:=if refErr s slot k other≠0 then (nilStore,refErr s slot k other) else ((s.1.set (rootAt s slot+1+k).toNat (rootAt s other+1),s.2),0)
def sp_stSetC:Spec:={ Ts:=[ty_Store,ty_I,ty_I,ty_I],Rs:=[.dat ty_Store,.dat ty_I],al:=true,pre:=fun _=>True,F:=fun ((s,slot,k,other):StoreD×Int×Int×Int)=>setF s slot k other }
def pv_stSetC:Prop :=
  ∀ (x:(List Int×List Int×List (Int×Int)×List (Int×Bool×Int))×Int×Int×Int),((x.1.1.length * (8:Nat)≤big∧∀ (x_1:Int),x_1∈x.1.1→InR IntKind.u64 x_1)∧(x.1.2.1.length * (8:Nat)≤big∧∀ (x_1:Int),x_1∈x.1.2.1→InR IntKind.i64 x_1)∧(x.1.2.2.1.length * ((8:Nat)+(8:Nat))≤big∧∀ (x_1:Int×Int),x_1∈x.1.2.2.1→InR IntKind.i64 x_1.1∧InR IntKind.i64 x_1.2)∧x.1.2.2.2.length * ((8:Nat)+((8:Nat)+(8:Nat)))≤big∧∀ (x_1:Int×Bool×Int),x_1∈x.1.2.2.2→InR IntKind.i64 x_1.1∧True∧InR IntKind.i64 x_1.2.2)∧InR IntKind.i64 x.2.1∧InR IntKind.i64 x.2.2.1∧InR IntKind.i64 x.2.2.2→True→True∧(decide (refErr x.1 x.2.1 x.2.2.1 x.2.2.2≠(0:Int))=true→(([]:List Int),([]:List Int),([]:List (Int×Int)),([]:List (Int×Bool×Int)))=(setF x.1 x.2.1 x.2.2.1 x.2.2.2).1∧refErr x.1 x.2.1 x.2.2.1 x.2.2.2=(setF x.1 x.2.1 x.2.2.1 x.2.2.2).2∧True)∧(decide (refErr x.1 x.2.1 x.2.2.1 x.2.2.2≠(0:Int))=false→∀ (_:Array Value),True∧True∧True∧x.1.2.1=x.1.2.1∧x.1.2.2.1=x.1.2.2.1∧x.1.2.2.1=x.1.2.2.1∧x.1.2.2.2=x.1.2.2.2∧x.1.2.2.2=x.1.2.2.2∧x.1.2.2.2=x.1.2.2.2∧True∧(0:Int)≤x.2.2.2∧x.2.2.2<(↑x.1.2.1.length:Int)∧x.2.2.2.toNat<x.1.2.1.length∧InR IntKind.i64 (x.1.2.1.getD x.2.2.2.toNat (0:Int)+(1:Int))∧((0:Int)≤if refErr x.1 x.2.1 x.2.2.1 x.2.2.2≠(0:Int) then (0:Int) else rootAt x.1 x.2.1+(1:Int)+x.2.2.1)∧(if refErr x.1 x.2.1 x.2.2.1 x.2.2.2≠(0:Int) then (0:Int) else rootAt x.1 x.2.1+(1:Int)+x.2.2.1)<(↑x.1.1.length:Int)∧(if refErr x.1 x.2.1 x.2.2.1 x.2.2.2≠(0:Int) then (0:Int) else rootAt x.1 x.2.1+(1:Int)+x.2.2.1).toNat<x.1.1.length∧(x.1.1.set (if refErr x.1 x.2.1 x.2.2.1 x.2.2.2≠(0:Int) then (0:Int) else rootAt x.1 x.2.1+(1:Int)+x.2.2.1).toNat (IntKind.u64.wrap (x.1.2.1.getD x.2.2.2.toNat (0:Int)+(1:Int))),x.1.2)=(setF x.1 x.2.1 x.2.2.1 x.2.2.2).1∧(0:Int)=(setF x.1 x.2.1 x.2.2.1 x.2.2.2).2∧True)
theorem vcp_stSetC:pv_stSetC:=by
 unfold pv_stSetC
 intro ⟨s,slot,k,other⟩ ⟨⟨⟨hb,hw⟩,_⟩,_⟩ _
 simp only at hb hw ⊢
 have hF:setF s slot k other=if refErr s slot k other≠0 then (nilStore,refErr s slot k other) else ((s.1.set (rootAt s slot+1+k).toNat (rootAt s other+1),s.2),0):=rfl
 refine ⟨trivial,fun h=>?_,fun h tm=>⟨trivial,trivial,trivial,by trivial,by trivial,by trivial,by trivial,by trivial,by trivial,trivial,?_⟩⟩
 ·rw [hF,if_pos (of_decide_eq_true h)]
  exact ⟨by trivial,by trivial,trivial⟩
 ·have h0:=of_decide_eq_false h
  obtain ⟨R,O,k0,k1,o0,o1⟩:=ref_ok hw (by omega:refErr s slot k other=0)
  have hv:=R.rootIn o0 o1
  have hal:=R.al
  have:=O.x0
  have:=O.b0
  have:=O.fit
  rw [hF,if_neg h0,if_neg h0]
  have hwr:IntKind.u64.wrap (s.2.1.getD other.toNat 0+1)=rootAt s other+1:=wrapU (by omega) (by omega)
  rw [hwr]
  generalize s.2.1.getD other.toNat 0=v at *
  simp only [InR]
  exact ⟨o0,o1,by omega,by omega,by omega,by omega,by omega,by trivial,by trivial,trivial⟩
theorem e_stSetC:pv_stSetC=(fnVC Tryz.prog (tbl [(72,sp_stRef),(96,sp_cloneWords),(97,sp_cloneInts),(98,sp_clonePins),(99,sp_cloneHands)]) an_copied Tryz.f24 sp_stSetC):=by kernel_rfl
theorem vc_stSetC:fnVC Tryz.prog (tbl [(72,sp_stRef),(96,sp_cloneWords),(97,sp_cloneInts),(98,sp_clonePins),(99,sp_cloneHands)]) an_copied Tryz.f24 sp_stSetC:=@Eq.mp _ _ @e_stSetC @vcp_stSetC
theorem ok_stSetC:sp_stSetC.ok Tryz.prog 24:=fn_sound (P:=Tryz.prog) (ss:=tbl [(72,sp_stRef),(96,sp_cloneWords),(97,sp_cloneInts),(98,sp_clonePins),(99,sp_cloneHands)]) (ann:=an_copied) (f:=24) (fn:=Tryz.f24) (s:=sp_stSetC) (tbl_cons ok_stRef (tbl_cons ok_cloneWords (tbl_cons ok_cloneInts (tbl_cons ok_clonePins (tbl_cons ok_cloneHands tbl_nil))))) Tryz.func24 @vc_stSetC
def bodyErr (s:StoreD) (slot k:Int):Int:=if objErr s slot≠0 then objErr s slot else if k<0∨(hdA s.1 (rootAt s slot)).2.1≤k then 4 else 0
def bodyAt (s:StoreD) (at_ k:Int):Int:=at_+1+(hdA s.1 at_).1+k
def sp_stBody:Spec:={ Ts:=[ty_Store,ty_I,ty_I],Rs:=[.dat ty_I,.dat ty_I],pre:=fun _=>True,F:=fun ((s,slot,k):StoreD×Int×Int)=>((if bodyErr s slot k≠0 then 0 else bodyAt s (rootAt s slot) k,bodyErr s slot k):Int×Int) }
def pv_stBody:Prop :=
  ∀ (x:(List Int×List Int×List (Int×Int)×List (Int×Bool×Int))×Int×Int),((x.1.1.length * (8:Nat)≤big∧∀ (x_1:Int),x_1∈x.1.1→InR IntKind.u64 x_1)∧(x.1.2.1.length * (8:Nat)≤big∧∀ (x_1:Int),x_1∈x.1.2.1→InR IntKind.i64 x_1)∧(x.1.2.2.1.length * ((8:Nat)+(8:Nat))≤big∧∀ (x_1:Int×Int),x_1∈x.1.2.2.1→InR IntKind.i64 x_1.1∧InR IntKind.i64 x_1.2)∧x.1.2.2.2.length * ((8:Nat)+((8:Nat)+(8:Nat)))≤big∧∀ (x_1:Int×Bool×Int),x_1∈x.1.2.2.2→InR IntKind.i64 x_1.1∧True∧InR IntKind.i64 x_1.2.2)∧InR IntKind.i64 x.2.1∧InR IntKind.i64 x.2.2→True→True∧(decide ((objectT x.1 x.2.1).2.2≠(0:Int))=true→((0:Int)=if bodyErr x.1 x.2.1 x.2.2≠(0:Int) then (0:Int) else bodyAt x.1 (rootAt x.1 x.2.1) x.2.2)∧(objectT x.1 x.2.1).2.2=bodyErr x.1 x.2.1 x.2.2∧True)∧(decide ((objectT x.1 x.2.1).2.2≠(0:Int))=false→((decide (x.2.2<(0:Int))||decide ((↑(objectT x.1 x.2.1).2.1.2.2.1.length:Int)≤x.2.2))=true→((0:Int)=if bodyErr x.1 x.2.1 x.2.2≠(0:Int) then (0:Int) else bodyAt x.1 (rootAt x.1 x.2.1) x.2.2)∧(4:Int)=bodyErr x.1 x.2.1 x.2.2∧True)∧((decide (x.2.2<(0:Int))||decide ((↑(objectT x.1 x.2.1).2.1.2.2.1.length:Int)≤x.2.2))=false→InR IntKind.i64 ((objectT x.1 x.2.1).1+(1:Int))∧InR IntKind.i64 ((objectT x.1 x.2.1).1+(1:Int)+(↑(objectT x.1 x.2.1).2.1.2.1.length:Int))∧InR IntKind.i64 ((objectT x.1 x.2.1).1+(1:Int)+(↑(objectT x.1 x.2.1).2.1.2.1.length:Int)+x.2.2)∧((objectT x.1 x.2.1).1+(1:Int)+(↑(objectT x.1 x.2.1).2.1.2.1.length:Int)+x.2.2=if bodyErr x.1 x.2.1 x.2.2≠(0:Int) then (0:Int) else bodyAt x.1 (rootAt x.1 x.2.1) x.2.2)∧(0:Int)=bodyErr x.1 x.2.1 x.2.2∧True))
theorem vcp_stBody:pv_stBody:=by
 unfold pv_stBody
 intro ⟨s,slot,k⟩ ⟨⟨⟨hb,hw⟩,_⟩,_⟩ _
 simp only at hb hw ⊢
 have hR:bodyErr s slot k=if objErr s slot≠0 then objErr s slot else if k<0∨(hdA s.1 (rootAt s slot)).2.1≤k then 4 else 0:=rfl
 have hO:objectT s slot=if objErr s slot≠0 then (0,objNone,objErr s slot) else (rootAt s slot,(atF s.1 (rootAt s slot)).1,0):=rfl
 by_cases h0:objErr s slot≠0
 ·rw [if_pos h0] at hR hO
  rw [hO,hR]
  simp only
  refine ⟨trivial,fun _=>?_,fun h=>absurd h0 (of_decide_eq_false h)⟩
  rw [if_pos h0]
  exact ⟨by trivial,by trivial,trivial⟩
 ·obtain ⟨R,_,_,O⟩:=obj_ok hw (by omega:objErr s slot=0)
  have hal:=R.al
  rw [if_neg h0] at hR hO
  rw [hO]
  simp only
  rw [O.body,O.refs]
  have:=O.x0
  have:=O.r0
  have:=O.b0
  have:=O.fit
  refine ⟨trivial,fun h=>absurd rfl (of_decide_eq_true h),fun _=>⟨fun h1=>?_,fun h1=>?_⟩⟩
  ·rw [if_pos (by simpa using h1)] at hR
   rw [hR]
   exact ⟨by trivial,by trivial,trivial⟩
  ·have h1:¬ (k<0∨(hdA s.1 (rootAt s slot)).2.1≤k):=by simpa using h1
   rw [if_neg h1] at hR
   rw [hR]
   simp only [InR]
   exact ⟨by omega,by omega,by omega,by simp [bodyAt],by trivial,trivial⟩
theorem e_stBody:pv_stBody=(fnVC Tryz.prog (tbl [(74,sp_stObject)]) an_0 Tryz.f73 sp_stBody):=by kernel_rfl
theorem vc_stBody:fnVC Tryz.prog (tbl [(74,sp_stObject)]) an_0 Tryz.f73 sp_stBody:=@Eq.mp _ _ @e_stBody @vcp_stBody
theorem ok_stBody:sp_stBody.ok Tryz.prog 73:=fn_sound (P:=Tryz.prog) (ss:=tbl [(74,sp_stObject)]) (ann:=an_0) (f:=73) (fn:=Tryz.f73) (s:=sp_stBody) (tbl_cons ok_stObject tbl_nil) Tryz.func73 @vc_stBody
theorem body_ok {s:StoreD} {slot k:Int} (hw:∀ x∈s.1,InR .u64 x) (h:bodyErr s slot k=0):Right s∧ObjAt s (rootAt s slot)∧0≤k∧k<(hdA s.1 (rootAt s slot)).2.1∧0≤bodyAt s (rootAt s slot) k∧bodyAt s (rootAt s slot) k<s.1.length:=by
 unfold bodyErr at h
 split at h
 ·omega
 rename_i h0
 split at h
 ·omega
 obtain ⟨R,_,_,O⟩:=obj_ok hw (by omega:objErr s slot=0)
 have:=O.x0
 have:=O.r0
 have:=O.fit
 unfold bodyAt
 exact ⟨R,O,by omega,by omega,by omega,by omega⟩
def sp_stGet:Spec:={ Ts:=[ty_Store,ty_I,ty_I],Rs:=[.dat ty_W,.dat ty_I],pre:=fun _=>True,F:=fun ((s,slot,k):StoreD×Int×Int)=>((if bodyErr s slot k≠0 then 0 else s.1.getD (bodyAt s (rootAt s slot) k).toNat 0,bodyErr s slot k):Int×Int) }
def pv_stGet:Prop :=
  ∀ (x:(List Int×List Int×List (Int×Int)×List (Int×Bool×Int))×Int×Int),((x.1.1.length * (8:Nat)≤big∧∀ (x_1:Int),x_1∈x.1.1→InR IntKind.u64 x_1)∧(x.1.2.1.length * (8:Nat)≤big∧∀ (x_1:Int),x_1∈x.1.2.1→InR IntKind.i64 x_1)∧(x.1.2.2.1.length * ((8:Nat)+(8:Nat))≤big∧∀ (x_1:Int×Int),x_1∈x.1.2.2.1→InR IntKind.i64 x_1.1∧InR IntKind.i64 x_1.2)∧x.1.2.2.2.length * ((8:Nat)+((8:Nat)+(8:Nat)))≤big∧∀ (x_1:Int×Bool×Int),x_1∈x.1.2.2.2→InR IntKind.i64 x_1.1∧True∧InR IntKind.i64 x_1.2.2)∧InR IntKind.i64 x.2.1∧InR IntKind.i64 x.2.2→True→True∧(decide (bodyErr x.1 x.2.1 x.2.2≠(0:Int))=true→((0:Int)=if bodyErr x.1 x.2.1 x.2.2≠(0:Int) then (0:Int) else x.1.1.getD (bodyAt x.1 (rootAt x.1 x.2.1) x.2.2).toNat (0:Int))∧bodyErr x.1 x.2.1 x.2.2=bodyErr x.1 x.2.1 x.2.2∧True)∧(decide (bodyErr x.1 x.2.1 x.2.2≠(0:Int))=false→((0:Int)≤if bodyErr x.1 x.2.1 x.2.2≠(0:Int) then (0:Int) else bodyAt x.1 (rootAt x.1 x.2.1) x.2.2)∧(if bodyErr x.1 x.2.1 x.2.2≠(0:Int) then (0:Int) else bodyAt x.1 (rootAt x.1 x.2.1) x.2.2)<(↑x.1.1.length:Int)∧(x.1.1.getD (if bodyErr x.1 x.2.1 x.2.2≠(0:Int) then (0:Int) else bodyAt x.1 (rootAt x.1 x.2.1) x.2.2).toNat (0:Int)=if bodyErr x.1 x.2.1 x.2.2≠(0:Int) then (0:Int) else x.1.1.getD (bodyAt x.1 (rootAt x.1 x.2.1) x.2.2).toNat (0:Int))∧(0:Int)=bodyErr x.1 x.2.1 x.2.2∧True)
theorem vcp_stGet:pv_stGet:=by
 unfold pv_stGet
 intro ⟨s,slot,k⟩ ⟨⟨⟨hb,hw⟩,_⟩,_⟩ _
 simp only at hb hw ⊢
 refine ⟨trivial,fun h=>?_,fun h=>?_⟩
 ·rw [if_pos (of_decide_eq_true h)]
  exact ⟨by trivial,by trivial,trivial⟩
 ·have h0:=of_decide_eq_false h
  obtain ⟨_,_,_,_,b0,b1⟩:=body_ok hw (by omega:bodyErr s slot k=0)
  rw [if_neg h0]
  exact ⟨b0,b1,by rw [if_neg h0],by omega,trivial⟩
theorem e_stGet:pv_stGet=(fnVC Tryz.prog (tbl [(73,sp_stBody)]) an_0 Tryz.f32 sp_stGet):=by kernel_rfl
theorem vc_stGet:fnVC Tryz.prog (tbl [(73,sp_stBody)]) an_0 Tryz.f32 sp_stGet:=@Eq.mp _ _ @e_stGet @vcp_stGet
theorem ok_stGet:sp_stGet.ok Tryz.prog 32:=fn_sound (P:=Tryz.prog) (ss:=tbl [(73,sp_stBody)]) (ann:=an_0) (f:=32) (fn:=Tryz.f32) (s:=sp_stGet) (tbl_cons ok_stBody tbl_nil) Tryz.func32 @vc_stGet
def putF (s:StoreD) (slot k v:Int):StoreD×Int:=if bodyErr s slot k≠0 then (nilStore,bodyErr s slot k) else ((s.1.set (bodyAt s (rootAt s slot) k).toNat v,s.2),0)
def sp_stPutC:Spec:={ Ts:=[ty_Store,ty_I,ty_I,ty_W],Rs:=[.dat ty_Store,.dat ty_I],al:=true,pre:=fun _=>True,F:=fun ((s,slot,k,v):StoreD×Int×Int×Int)=>putF s slot k v }
def pv_stPutC:Prop :=
  ∀ (x:(List Int×List Int×List (Int×Int)×List (Int×Bool×Int))×Int×Int×Int),((x.1.1.length * (8:Nat)≤big∧∀ (x_1:Int),x_1∈x.1.1→InR IntKind.u64 x_1)∧(x.1.2.1.length * (8:Nat)≤big∧∀ (x_1:Int),x_1∈x.1.2.1→InR IntKind.i64 x_1)∧(x.1.2.2.1.length * ((8:Nat)+(8:Nat))≤big∧∀ (x_1:Int×Int),x_1∈x.1.2.2.1→InR IntKind.i64 x_1.1∧InR IntKind.i64 x_1.2)∧x.1.2.2.2.length * ((8:Nat)+((8:Nat)+(8:Nat)))≤big∧∀ (x_1:Int×Bool×Int),x_1∈x.1.2.2.2→InR IntKind.i64 x_1.1∧True∧InR IntKind.i64 x_1.2.2)∧InR IntKind.i64 x.2.1∧InR IntKind.i64 x.2.2.1∧InR IntKind.u64 x.2.2.2→True→True∧(decide (bodyErr x.1 x.2.1 x.2.2.1≠(0:Int))=true→(([]:List Int),([]:List Int),([]:List (Int×Int)),([]:List (Int×Bool×Int)))=(putF x.1 x.2.1 x.2.2.1 x.2.2.2).1∧bodyErr x.1 x.2.1 x.2.2.1=(putF x.1 x.2.1 x.2.2.1 x.2.2.2).2∧True)∧(decide (bodyErr x.1 x.2.1 x.2.2.1≠(0:Int))=false→∀ (_:Array Value),True∧True∧True∧x.1.2.1=x.1.2.1∧x.1.2.2.1=x.1.2.2.1∧x.1.2.2.1=x.1.2.2.1∧x.1.2.2.2=x.1.2.2.2∧x.1.2.2.2=x.1.2.2.2∧x.1.2.2.2=x.1.2.2.2∧True∧((0:Int)≤if bodyErr x.1 x.2.1 x.2.2.1≠(0:Int) then (0:Int) else bodyAt x.1 (rootAt x.1 x.2.1) x.2.2.1)∧(if bodyErr x.1 x.2.1 x.2.2.1≠(0:Int) then (0:Int) else bodyAt x.1 (rootAt x.1 x.2.1) x.2.2.1)<(↑x.1.1.length:Int)∧(if bodyErr x.1 x.2.1 x.2.2.1≠(0:Int) then (0:Int) else bodyAt x.1 (rootAt x.1 x.2.1) x.2.2.1).toNat<x.1.1.length∧(x.1.1.set (if bodyErr x.1 x.2.1 x.2.2.1≠(0:Int) then (0:Int) else bodyAt x.1 (rootAt x.1 x.2.1) x.2.2.1).toNat x.2.2.2,x.1.2)=(putF x.1 x.2.1 x.2.2.1 x.2.2.2).1∧(0:Int)=(putF x.1 x.2.1 x.2.2.1 x.2.2.2).2∧True)
theorem vcp_stPutC:pv_stPutC:=by
 unfold pv_stPutC
 intro ⟨s,slot,k,v⟩ ⟨⟨⟨hb,hw⟩,_⟩,_⟩ _
 simp only at hb hw ⊢
 have hF:putF s slot k v=if bodyErr s slot k≠0 then (nilStore,bodyErr s slot k) else ((s.1.set (bodyAt s (rootAt s slot) k).toNat v,s.2),0):=rfl
 refine ⟨trivial,fun h=>?_,fun h tm=>⟨trivial,trivial,trivial,by trivial,by trivial,by trivial,by trivial,by trivial,by trivial,trivial,?_⟩⟩
 ·rw [hF,if_pos (of_decide_eq_true h)]
  exact ⟨by trivial,by trivial,trivial⟩
 ·have h0:=of_decide_eq_false h
  obtain ⟨_,_,_,_,b0,b1⟩:=body_ok hw (by omega:bodyErr s slot k=0)
  rw [hF,if_neg h0,if_neg h0]
  exact ⟨b0,b1,by omega,by trivial,by trivial,trivial⟩
theorem e_stPutC:pv_stPutC=(fnVC Tryz.prog (tbl [(73,sp_stBody),(96,sp_cloneWords),(97,sp_cloneInts),(98,sp_clonePins),(99,sp_cloneHands)]) an_copied Tryz.f25 sp_stPutC):=by kernel_rfl
theorem vc_stPutC:fnVC Tryz.prog (tbl [(73,sp_stBody),(96,sp_cloneWords),(97,sp_cloneInts),(98,sp_clonePins),(99,sp_cloneHands)]) an_copied Tryz.f25 sp_stPutC:=@Eq.mp _ _ @e_stPutC @vcp_stPutC
theorem ok_stPutC:sp_stPutC.ok Tryz.prog 25:=fn_sound (P:=Tryz.prog) (ss:=tbl [(73,sp_stBody),(96,sp_cloneWords),(97,sp_cloneInts),(98,sp_clonePins),(99,sp_cloneHands)]) (ann:=an_copied) (f:=25) (fn:=Tryz.f25) (s:=sp_stPutC) (tbl_cons ok_stBody (tbl_cons ok_cloneWords (tbl_cons ok_cloneInts (tbl_cons ok_clonePins (tbl_cons ok_cloneHands tbl_nil))))) Tryz.func25 @vc_stPutC
def pinF (s:StoreD) (slot:Int):StoreD×Int×Int:=if objErr s slot≠0 then (nilStore,0,objErr s slot) else if (addP s.2.2.1 (rootAt s slot)).2.2≠0 then (nilStore,0,(addP s.2.2.1 (rootAt s slot)).2.2) else ((s.1,s.2.1,(addP s.2.2.1 (rootAt s slot)).1,s.2.2.2),rootAt s slot,0)
def sp_stPinC:Spec:={ Ts:=[ty_Store,ty_I],Rs:=[.dat ty_Store,.dat ty_I,.dat ty_I],al:=true,pre:=fun _=>True,F:=fun ((s,slot):StoreD×Int)=>pinF s slot }
def pv_stPinC:Prop :=
  ∀ (x:(List Int×List Int×List (Int×Int)×List (Int×Bool×Int))×Int),((x.1.1.length * (8:Nat)≤big∧∀ (x_1:Int),x_1∈x.1.1→InR IntKind.u64 x_1)∧(x.1.2.1.length * (8:Nat)≤big∧∀ (x_1:Int),x_1∈x.1.2.1→InR IntKind.i64 x_1)∧(x.1.2.2.1.length * ((8:Nat)+(8:Nat))≤big∧∀ (x_1:Int×Int),x_1∈x.1.2.2.1→InR IntKind.i64 x_1.1∧InR IntKind.i64 x_1.2)∧x.1.2.2.2.length * ((8:Nat)+((8:Nat)+(8:Nat)))≤big∧∀ (x_1:Int×Bool×Int),x_1∈x.1.2.2.2→InR IntKind.i64 x_1.1∧True∧InR IntKind.i64 x_1.2.2)∧InR IntKind.i64 x.2→True→True∧(decide ((objectT x.1 x.2).2.2≠(0:Int))=true→(([]:List Int),([]:List Int),([]:List (Int×Int)),([]:List (Int×Bool×Int)))=(pinF x.1 x.2).1∧(0:Int)=(pinF x.1 x.2).2.1∧(objectT x.1 x.2).2.2=(pinF x.1 x.2).2.2∧True)∧(decide ((objectT x.1 x.2).2.2≠(0:Int))=false→True∧(decide ((addP x.1.2.2.1 (objectT x.1 x.2).1).2.2≠(0:Int))=true→(([]:List Int),([]:List Int),([]:List (Int×Int)),([]:List (Int×Bool×Int)))=(pinF x.1 x.2).1∧(0:Int)=(pinF x.1 x.2).2.1∧(addP x.1.2.2.1 (objectT x.1 x.2).1).2.2=(pinF x.1 x.2).2.2∧True)∧(decide ((addP x.1.2.2.1 (objectT x.1 x.2).1).2.2≠(0:Int))=false→∀ (_:Array Value),True∧True∧True∧x.1.2.1=x.1.2.1∧x.1.2.2.1=x.1.2.2.1∧x.1.2.2.1=x.1.2.2.1∧x.1.2.2.2=x.1.2.2.2∧x.1.2.2.2=x.1.2.2.2∧x.1.2.2.2=x.1.2.2.2∧True∧(x.1.1,x.1.2.1,(addP x.1.2.2.1 (objectT x.1 x.2).1).1,x.1.2.2.2)=(pinF x.1 x.2).1∧(objectT x.1 x.2).1=(pinF x.1 x.2).2.1∧(0:Int)=(pinF x.1 x.2).2.2∧True))
theorem vcp_stPinC:pv_stPinC:=by
 unfold pv_stPinC
 intro ⟨s,slot⟩ hx _
 simp only at hx ⊢
 have hF:pinF s slot=if objErr s slot≠0 then (nilStore,0,objErr s slot) else if (addP s.2.2.1 (rootAt s slot)).2.2≠0 then (nilStore,0,(addP s.2.2.1 (rootAt s slot)).2.2) else ((s.1,s.2.1,(addP s.2.2.1 (rootAt s slot)).1,s.2.2.2),rootAt s slot,0):=rfl
 have hO:objectT s slot=if objErr s slot≠0 then (0,objNone,objErr s slot) else (rootAt s slot,(atF s.1 (rootAt s slot)).1,0):=rfl
 by_cases h0:objErr s slot≠0
 ·rw [if_pos h0] at hF hO
  rw [hO,hF]
  exact ⟨trivial,fun _=>⟨by trivial,by trivial,by trivial,trivial⟩,fun h=>absurd h0 (of_decide_eq_false h)⟩
 ·rw [if_neg h0] at hF hO
  rw [hO,hF]
  simp only
  refine ⟨trivial,fun h=>absurd rfl (of_decide_eq_true h),fun _=>⟨trivial,fun h=>?_,fun h tm=>⟨trivial,trivial,trivial,by trivial,by trivial,by trivial,by trivial,by trivial,by trivial,trivial,?_⟩⟩⟩
  ·rw [if_pos (of_decide_eq_true h)]
   exact ⟨by trivial,by trivial,by trivial,trivial⟩
  ·rw [if_neg (of_decide_eq_false h)]
   exact ⟨by trivial,by trivial,by trivial,trivial⟩
theorem e_stPinC:pv_stPinC=(fnVC Tryz.prog (tbl [(74,sp_stObject),(75,sp_add),(96,sp_cloneWords),(97,sp_cloneInts),(98,sp_clonePins),(99,sp_cloneHands)]) an_copied Tryz.f26 sp_stPinC):=by kernel_rfl
theorem vc_stPinC:fnVC Tryz.prog (tbl [(74,sp_stObject),(75,sp_add),(96,sp_cloneWords),(97,sp_cloneInts),(98,sp_clonePins),(99,sp_cloneHands)]) an_copied Tryz.f26 sp_stPinC:=@Eq.mp _ _ @e_stPinC @vcp_stPinC
theorem ok_stPinC:sp_stPinC.ok Tryz.prog 26:=fn_sound (P:=Tryz.prog) (ss:=tbl [(74,sp_stObject),(75,sp_add),(96,sp_cloneWords),(97,sp_cloneInts),(98,sp_clonePins),(99,sp_cloneHands)]) (ann:=an_copied) (f:=26) (fn:=Tryz.f26) (s:=sp_stPinC) (tbl_cons ok_stObject (tbl_cons ok_add (tbl_cons ok_cloneWords (tbl_cons ok_cloneInts (tbl_cons ok_clonePins (tbl_cons ok_cloneHands tbl_nil)))))) Tryz.func26 @vc_stPinC
def unpinF (s:StoreD) (at_:Int):StoreD×Int:=if storeF s≠0 then (nilStore,storeF s) else if (dropP s.2.2.1 at_).2.2≠0 then (nilStore,(dropP s.2.2.1 at_).2.2) else ((s.1,s.2.1,(dropP s.2.2.1 at_).1,s.2.2.2),0)
def sp_stUnpinC:Spec:={ Ts:=[ty_Store,ty_I],Rs:=[.dat ty_Store,.dat ty_I],al:=true,pre:=fun _=>True,F:=fun ((s,at_):StoreD×Int)=>unpinF s at_ }
def pv_stUnpinC:Prop :=
  ∀ (x:(List Int×List Int×List (Int×Int)×List (Int×Bool×Int))×Int),((x.1.1.length * (8:Nat)≤big∧∀ (x_1:Int),x_1∈x.1.1→InR IntKind.u64 x_1)∧(x.1.2.1.length * (8:Nat)≤big∧∀ (x_1:Int),x_1∈x.1.2.1→InR IntKind.i64 x_1)∧(x.1.2.2.1.length * ((8:Nat)+(8:Nat))≤big∧∀ (x_1:Int×Int),x_1∈x.1.2.2.1→InR IntKind.i64 x_1.1∧InR IntKind.i64 x_1.2)∧x.1.2.2.2.length * ((8:Nat)+((8:Nat)+(8:Nat)))≤big∧∀ (x_1:Int×Bool×Int),x_1∈x.1.2.2.2→InR IntKind.i64 x_1.1∧True∧InR IntKind.i64 x_1.2.2)∧InR IntKind.i64 x.2→True→True∧(decide (storeF x.1≠(0:Int))=true→(([]:List Int),([]:List Int),([]:List (Int×Int)),([]:List (Int×Bool×Int)))=(unpinF x.1 x.2).1∧storeF x.1=(unpinF x.1 x.2).2∧True)∧(decide (storeF x.1≠(0:Int))=false→True∧(decide ((dropP x.1.2.2.1 x.2).2.2≠(0:Int))=true→(([]:List Int),([]:List Int),([]:List (Int×Int)),([]:List (Int×Bool×Int)))=(unpinF x.1 x.2).1∧(dropP x.1.2.2.1 x.2).2.2=(unpinF x.1 x.2).2∧True)∧(decide ((dropP x.1.2.2.1 x.2).2.2≠(0:Int))=false→∀ (_:Array Value),True∧True∧True∧x.1.2.1=x.1.2.1∧x.1.2.2.1=x.1.2.2.1∧x.1.2.2.1=x.1.2.2.1∧x.1.2.2.2=x.1.2.2.2∧x.1.2.2.2=x.1.2.2.2∧x.1.2.2.2=x.1.2.2.2∧True∧(x.1.1,x.1.2.1,(dropP x.1.2.2.1 x.2).1,x.1.2.2.2)=(unpinF x.1 x.2).1∧(0:Int)=(unpinF x.1 x.2).2∧True))
theorem vcp_stUnpinC:pv_stUnpinC:=by
 unfold pv_stUnpinC
 intro ⟨s,at_⟩ hx _
 simp only at hx ⊢
 have hF:unpinF s at_=if storeF s≠0 then (nilStore,storeF s) else if (dropP s.2.2.1 at_).2.2≠0 then (nilStore,(dropP s.2.2.1 at_).2.2) else ((s.1,s.2.1,(dropP s.2.2.1 at_).1,s.2.2.2),0):=rfl
 rw [hF]
 refine ⟨trivial,fun h=>?_,fun h=>⟨trivial,fun h1=>?_,fun h1 tm=>⟨trivial,trivial,trivial,by trivial,by trivial,by trivial,by trivial,by trivial,by trivial,trivial,?_⟩⟩⟩
 ·rw [if_pos (of_decide_eq_true h)]
  exact ⟨by trivial,by trivial,trivial⟩
 ·rw [if_neg (of_decide_eq_false h),if_pos (of_decide_eq_true h1)]
  exact ⟨by trivial,by trivial,trivial⟩
 ·rw [if_neg (of_decide_eq_false h),if_neg (of_decide_eq_false h1)]
  exact ⟨by trivial,by trivial,trivial⟩
theorem e_stUnpinC:pv_stUnpinC=(fnVC Tryz.prog (tbl [(54,sp_stCheck),(76,sp_drop),(96,sp_cloneWords),(97,sp_cloneInts),(98,sp_clonePins),(99,sp_cloneHands)]) an_copied Tryz.f27 sp_stUnpinC):=by kernel_rfl
theorem vc_stUnpinC:fnVC Tryz.prog (tbl [(54,sp_stCheck),(76,sp_drop),(96,sp_cloneWords),(97,sp_cloneInts),(98,sp_clonePins),(99,sp_cloneHands)]) an_copied Tryz.f27 sp_stUnpinC:=@Eq.mp _ _ @e_stUnpinC @vcp_stUnpinC
theorem ok_stUnpinC:sp_stUnpinC.ok Tryz.prog 27:=fn_sound (P:=Tryz.prog) (ss:=tbl [(54,sp_stCheck),(76,sp_drop),(96,sp_cloneWords),(97,sp_cloneInts),(98,sp_clonePins),(99,sp_cloneHands)]) (ann:=an_copied) (f:=27) (fn:=Tryz.f27) (s:=sp_stUnpinC) (tbl_cons ok_stCheck (tbl_cons ok_drop (tbl_cons ok_cloneWords (tbl_cons ok_cloneInts (tbl_cons ok_clonePins (tbl_cons ok_cloneHands tbl_nil)))))) Tryz.func27 @vc_stUnpinC
def peekErr (s:StoreD) (at_ k:Int):Int:=if storeF s≠0 then storeF s else if inL (pinsOf s) at_=false then 8 else if k<0∨(hdA s.1 at_).2.1≤k then 4 else 0
def sp_stPeek:Spec:={ Ts:=[ty_Store,ty_I,ty_I],Rs:=[.dat ty_W,.dat ty_I],pre:=fun _=>True,F:=fun ((s,at_,k):StoreD×Int×Int)=>((if peekErr s at_ k≠0 then 0 else s.1.getD (bodyAt s at_ k).toNat 0,peekErr s at_ k):Int×Int) }
def pv_stPeek:Prop :=
  ∀ (x:(List Int×List Int×List (Int×Int)×List (Int×Bool×Int))×Int×Int),((x.1.1.length * (8:Nat)≤big∧∀ (x_1:Int),x_1∈x.1.1→InR IntKind.u64 x_1)∧(x.1.2.1.length * (8:Nat)≤big∧∀ (x_1:Int),x_1∈x.1.2.1→InR IntKind.i64 x_1)∧(x.1.2.2.1.length * ((8:Nat)+(8:Nat))≤big∧∀ (x_1:Int×Int),x_1∈x.1.2.2.1→InR IntKind.i64 x_1.1∧InR IntKind.i64 x_1.2)∧x.1.2.2.2.length * ((8:Nat)+((8:Nat)+(8:Nat)))≤big∧∀ (x_1:Int×Bool×Int),x_1∈x.1.2.2.2→InR IntKind.i64 x_1.1∧True∧InR IntKind.i64 x_1.2.2)∧InR IntKind.i64 x.2.1∧InR IntKind.i64 x.2.2→True→True∧(decide (storeF x.1≠(0:Int))=true→((0:Int)=if peekErr x.1 x.2.1 x.2.2≠(0:Int) then (0:Int) else x.1.1.getD (bodyAt x.1 x.2.1 x.2.2).toNat (0:Int))∧storeF x.1=peekErr x.1 x.2.1 x.2.2∧True)∧(decide (storeF x.1≠(0:Int))=false→True∧True∧((!inL (List.map (fun (x:Pin)=>x.1) x.1.2.2.1) x.2.1)=true→((0:Int)=if peekErr x.1 x.2.1 x.2.2≠(0:Int) then (0:Int) else x.1.1.getD (bodyAt x.1 x.2.1 x.2.2).toNat (0:Int))∧(8:Int)=peekErr x.1 x.2.1 x.2.2∧True)∧((!inL (List.map (fun (x:Pin)=>x.1) x.1.2.2.1) x.2.1)=false→True∧((decide (x.2.2<(0:Int))||decide ((↑(atF x.1.1 x.2.1).1.2.2.1.length:Int)≤x.2.2))=true→((0:Int)=if peekErr x.1 x.2.1 x.2.2≠(0:Int) then (0:Int) else x.1.1.getD (bodyAt x.1 x.2.1 x.2.2).toNat (0:Int))∧(4:Int)=peekErr x.1 x.2.1 x.2.2∧True)∧((decide (x.2.2<(0:Int))||decide ((↑(atF x.1.1 x.2.1).1.2.2.1.length:Int)≤x.2.2))=false→(0:Int)≤x.2.2∧x.2.2<(↑(atF x.1.1 x.2.1).1.2.2.1.length:Int)∧((atF x.1.1 x.2.1).1.2.2.1.getD x.2.2.toNat (0:Int)=if peekErr x.1 x.2.1 x.2.2≠(0:Int) then (0:Int) else x.1.1.getD (bodyAt x.1 x.2.1 x.2.2).toNat (0:Int))∧(0:Int)=peekErr x.1 x.2.1 x.2.2∧True)))
theorem vcp_stPeek:pv_stPeek:=by
 unfold pv_stPeek
 intro ⟨s,at_,k⟩ ⟨⟨⟨hb,hw⟩,_⟩,_⟩ _
 simp only at hb hw ⊢
 have hP:peekErr s at_ k=if storeF s≠0 then storeF s else if inL (pinsOf s) at_=false then 8 else if k<0∨(hdA s.1 at_).2.1≤k then 4 else 0:=rfl
 have hpo:List.map (fun (x:Pin)=>x.1) s.2.2.1=pinsOf s:=rfl
 rw [hpo]
 refine ⟨trivial,fun h=>?_,fun h=>⟨trivial,trivial,fun h1=>?_,fun h1=>⟨trivial,fun h2=>?_,fun h2=>?_⟩⟩⟩
 ·have h:=of_decide_eq_true h
  rw [if_pos h] at hP
  rw [hP,if_pos h]
  exact ⟨by trivial,by trivial,trivial⟩
 all_goals have h:=of_decide_eq_false h
 ·rw [if_neg h,if_pos (by simpa using h1)] at hP
  rw [hP]
  exact ⟨by trivial,by trivial,trivial⟩
 all_goals
  have h1:inL (pinsOf s) at_=true:=by simpa using h1
  have R:=right_of hw (by omega:storeF s=0)
  have O:=R.obj (R.pinsIn at_ (inL_iff.1 h1))
  rw [if_neg h,if_neg (by rw [h1]; simp)] at hP
  rw [O.body] at h2
 ·rw [if_pos (by simpa using h2)] at hP
  rw [hP]
  exact ⟨by trivial,by trivial,trivial⟩
 ·have h2:¬ (k<0∨(hdA s.1 at_).2.1≤k):=by simpa using h2
  have l:=objA_length O.isb
  rw [if_neg h2] at hP
  rw [hP,O.body]
  have hg:=bodyA_get (a:=s.1) (at_:=at_) (k:=k) (by omega) (by omega) l.2.1 O.x0 O.r0
  have e:(atF s.1 at_).1.2.2.1=bodyA s.1 at_:=by rw [O.at_]; rfl
  rw [e,← hg]
  exact ⟨by omega,by omega,by simp [bodyAt],by trivial,trivial⟩
theorem e_stPeek:pv_stPeek=(fnVC Tryz.prog (tbl [(54,sp_stCheck),(82,sp_stPinned),(81,sp_hasI),(83,sp_walkAt)]) an_0 Tryz.f33 sp_stPeek):=by kernel_rfl
theorem vc_stPeek:fnVC Tryz.prog (tbl [(54,sp_stCheck),(82,sp_stPinned),(81,sp_hasI),(83,sp_walkAt)]) an_0 Tryz.f33 sp_stPeek:=@Eq.mp _ _ @e_stPeek @vcp_stPeek
theorem ok_stPeek:sp_stPeek.ok Tryz.prog 33:=fn_sound (P:=Tryz.prog) (ss:=tbl [(54,sp_stCheck),(82,sp_stPinned),(81,sp_hasI),(83,sp_walkAt)]) (ann:=an_0) (f:=33) (fn:=Tryz.f33) (s:=sp_stPeek) (tbl_cons ok_stCheck (tbl_cons ok_stPinned (tbl_cons ok_hasI (tbl_cons ok_walkAt tbl_nil)))) Tryz.func33 @vc_stPeek
def openT (s:StoreD) (slot:Int):StoreD×Int×Int:=if objErr s slot≠0 then (nilStore,0,objErr s slot) else if (openF s.2.2.2 (rootAt s slot)).2.2≠0 then (nilStore,0,(openF s.2.2.2 (rootAt s slot)).2.2) else ((s.1,s.2.1,s.2.2.1,(openF s.2.2.2 (rootAt s slot)).1),(openF s.2.2.2 (rootAt s slot)).2.1,0)
def sp_stOpenC:Spec:={ Ts:=[ty_Store,ty_I],Rs:=[.dat ty_Store,.dat ty_W,.dat ty_I],al:=true,pre:=fun _=>True,F:=fun ((s,slot):StoreD×Int)=>openT s slot }
def pv_stOpenC:Prop :=
  ∀ (x:(List Int×List Int×List (Int×Int)×List (Int×Bool×Int))×Int),((x.1.1.length * (8:Nat)≤big∧∀ (x_1:Int),x_1∈x.1.1→InR IntKind.u64 x_1)∧(x.1.2.1.length * (8:Nat)≤big∧∀ (x_1:Int),x_1∈x.1.2.1→InR IntKind.i64 x_1)∧(x.1.2.2.1.length * ((8:Nat)+(8:Nat))≤big∧∀ (x_1:Int×Int),x_1∈x.1.2.2.1→InR IntKind.i64 x_1.1∧InR IntKind.i64 x_1.2)∧x.1.2.2.2.length * ((8:Nat)+((8:Nat)+(8:Nat)))≤big∧∀ (x_1:Int×Bool×Int),x_1∈x.1.2.2.2→InR IntKind.i64 x_1.1∧True∧InR IntKind.i64 x_1.2.2)∧InR IntKind.i64 x.2→True→True∧(decide ((objectT x.1 x.2).2.2≠(0:Int))=true→(([]:List Int),([]:List Int),([]:List (Int×Int)),([]:List (Int×Bool×Int)))=(openT x.1 x.2).1∧(0:Int)=(openT x.1 x.2).2.1∧(objectT x.1 x.2).2.2=(openT x.1 x.2).2.2∧True)∧(decide ((objectT x.1 x.2).2.2≠(0:Int))=false→True∧(decide ((openF x.1.2.2.2 (objectT x.1 x.2).1).2.2≠(0:Int))=true→(([]:List Int),([]:List Int),([]:List (Int×Int)),([]:List (Int×Bool×Int)))=(openT x.1 x.2).1∧(0:Int)=(openT x.1 x.2).2.1∧(openF x.1.2.2.2 (objectT x.1 x.2).1).2.2=(openT x.1 x.2).2.2∧True)∧(decide ((openF x.1.2.2.2 (objectT x.1 x.2).1).2.2≠(0:Int))=false→∀ (_:Array Value),True∧True∧True∧x.1.2.1=x.1.2.1∧x.1.2.2.1=x.1.2.2.1∧x.1.2.2.1=x.1.2.2.1∧x.1.2.2.2=x.1.2.2.2∧x.1.2.2.2=x.1.2.2.2∧x.1.2.2.2=x.1.2.2.2∧True∧(x.1.1,x.1.2.1,x.1.2.2.1,(openF x.1.2.2.2 (objectT x.1 x.2).1).1)=(openT x.1 x.2).1∧(openF x.1.2.2.2 (objectT x.1 x.2).1).2.1=(openT x.1 x.2).2.1∧(0:Int)=(openT x.1 x.2).2.2∧True))
theorem vcp_stOpenC:pv_stOpenC:=by
 unfold pv_stOpenC
 intro ⟨s,slot⟩ hx _
 simp only at hx ⊢
 have hF:openT s slot=if objErr s slot≠0 then (nilStore,0,objErr s slot) else if (openF s.2.2.2 (rootAt s slot)).2.2≠0 then (nilStore,0,(openF s.2.2.2 (rootAt s slot)).2.2) else ((s.1,s.2.1,s.2.2.1,(openF s.2.2.2 (rootAt s slot)).1),(openF s.2.2.2 (rootAt s slot)).2.1,0):=rfl
 have hO:objectT s slot=if objErr s slot≠0 then (0,objNone,objErr s slot) else (rootAt s slot,(atF s.1 (rootAt s slot)).1,0):=rfl
 by_cases h0:objErr s slot≠0
 ·rw [if_pos h0] at hF hO
  rw [hO,hF]
  exact ⟨trivial,fun _=>⟨by trivial,by trivial,by trivial,trivial⟩,fun h=>absurd h0 (of_decide_eq_false h)⟩
 ·rw [if_neg h0] at hF hO
  rw [hO,hF]
  simp only
  refine ⟨trivial,fun h=>absurd rfl (of_decide_eq_true h),fun _=>⟨trivial,fun h=>?_,fun h tm=>⟨trivial,trivial,trivial,by trivial,by trivial,by trivial,by trivial,by trivial,by trivial,trivial,?_⟩⟩⟩
  ·rw [if_pos (of_decide_eq_true h)]
   exact ⟨by trivial,by trivial,by trivial,trivial⟩
  ·rw [if_neg (of_decide_eq_false h)]
   exact ⟨by trivial,by trivial,by trivial,trivial⟩
theorem e_stOpenC:pv_stOpenC=(fnVC Tryz.prog (tbl [(74,sp_stObject),(77,sp_handOpen),(96,sp_cloneWords),(97,sp_cloneInts),(98,sp_clonePins),(99,sp_cloneHands)]) an_copied Tryz.f28 sp_stOpenC):=by kernel_rfl
theorem vc_stOpenC:fnVC Tryz.prog (tbl [(74,sp_stObject),(77,sp_handOpen),(96,sp_cloneWords),(97,sp_cloneInts),(98,sp_clonePins),(99,sp_cloneHands)]) an_copied Tryz.f28 sp_stOpenC:=@Eq.mp _ _ @e_stOpenC @vcp_stOpenC
theorem ok_stOpenC:sp_stOpenC.ok Tryz.prog 28:=fn_sound (P:=Tryz.prog) (ss:=tbl [(74,sp_stObject),(77,sp_handOpen),(96,sp_cloneWords),(97,sp_cloneInts),(98,sp_clonePins),(99,sp_cloneHands)]) (ann:=an_copied) (f:=28) (fn:=Tryz.f28) (s:=sp_stOpenC) (tbl_cons ok_stObject (tbl_cons ok_handOpen (tbl_cons ok_cloneWords (tbl_cons ok_cloneInts (tbl_cons ok_clonePins (tbl_cons ok_cloneHands tbl_nil)))))) Tryz.func28 @vc_stOpenC
def slotErr (s:StoreD) (k:Int):Int:=if storeF s≠0 then storeF s else if k<0∨(s.2.1.length:Int)≤k then 5 else 0
def sp_stSlotted:Spec:={ Ts:=[ty_Store,ty_I],Rs:=[.dat ty_I],pre:=fun _=>True,F:=fun ((s,k):StoreD×Int)=>slotErr s k }
def pv_stSlotted:Prop :=
  ∀ (x:(List Int×List Int×List (Int×Int)×List (Int×Bool×Int))×Int),((x.1.1.length * (8:Nat)≤big∧∀ (x_1:Int),x_1∈x.1.1→InR IntKind.u64 x_1)∧(x.1.2.1.length * (8:Nat)≤big∧∀ (x_1:Int),x_1∈x.1.2.1→InR IntKind.i64 x_1)∧(x.1.2.2.1.length * ((8:Nat)+(8:Nat))≤big∧∀ (x_1:Int×Int),x_1∈x.1.2.2.1→InR IntKind.i64 x_1.1∧InR IntKind.i64 x_1.2)∧x.1.2.2.2.length * ((8:Nat)+((8:Nat)+(8:Nat)))≤big∧∀ (x_1:Int×Bool×Int),x_1∈x.1.2.2.2→InR IntKind.i64 x_1.1∧True∧InR IntKind.i64 x_1.2.2)∧InR IntKind.i64 x.2→True→True∧((decide (storeF x.1=(0:Int))&&(decide (x.2<(0:Int))||decide ((↑x.1.2.1.length:Int)≤x.2)))=true→(5:Int)=slotErr x.1 x.2∧True)∧((decide (storeF x.1=(0:Int))&&(decide (x.2<(0:Int))||decide ((↑x.1.2.1.length:Int)≤x.2)))=false→storeF x.1=slotErr x.1 x.2∧True)
theorem vcp_stSlotted:pv_stSlotted:=by
 unfold pv_stSlotted
 intro ⟨s,k⟩ hx _
 simp only at hx ⊢
 have hE:slotErr s k=if storeF s≠0 then storeF s else if k<0∨(s.2.1.length:Int)≤k then 5 else 0:=rfl
 rw [hE]
 refine ⟨trivial,fun h=>?_,fun h=>?_⟩
 ·simp only [Bool.and_eq_true,decide_eq_true_eq,Bool.or_eq_true] at h
  rw [if_neg (by omega),if_pos h.2]
  exact ⟨rfl,trivial⟩
 ·simp only [Bool.and_eq_false_iff,decide_eq_false_iff_not,Bool.or_eq_false_iff] at h
  by_cases h0:storeF s≠0
  ·rw [if_pos h0]
   exact ⟨rfl,trivial⟩
  ·rw [if_neg h0,if_neg (by omega)]
   exact ⟨by omega,trivial⟩
theorem e_stSlotted:pv_stSlotted=(fnVC Tryz.prog (tbl [(54,sp_stCheck)]) an_0 Tryz.f78 sp_stSlotted):=by kernel_rfl
theorem vc_stSlotted:fnVC Tryz.prog (tbl [(54,sp_stCheck)]) an_0 Tryz.f78 sp_stSlotted:=@Eq.mp _ _ @e_stSlotted @vcp_stSlotted
theorem ok_stSlotted:sp_stSlotted.ok Tryz.prog 78:=fn_sound (P:=Tryz.prog) (ss:=tbl [(54,sp_stCheck)]) (ann:=an_0) (f:=78) (fn:=Tryz.f78) (s:=sp_stSlotted) (tbl_cons ok_stCheck tbl_nil) Tryz.func78 @vc_stSlotted
theorem slot_ok {s:StoreD} {k:Int} (h:slotErr s k=0):0≤k∧k<s.2.1.length:=by
 unfold slotErr at h
 split at h
 ·omega
 split at h
 ·omega
 omega
def useF (s:StoreD) (name slot:Int):StoreD×Int:=if slotErr s slot≠0 then (nilStore,slotErr s slot) else if (lookF s.2.2.2 name).2≠0 then (nilStore,(lookF s.2.2.2 name).2) else ((s.1,s.2.1.set slot.toNat (lookF s.2.2.2 name).1,s.2.2),0)
def sp_stUseC:Spec:={ Ts:=[ty_Store,ty_W,ty_I],Rs:=[.dat ty_Store,.dat ty_I],al:=true,pre:=fun _=>True,F:=fun ((s,name,slot):StoreD×Int×Int)=>useF s name slot }
def pv_stUseC:Prop :=
  ∀ (x:(List Int×List Int×List (Int×Int)×List (Int×Bool×Int))×Int×Int),((x.1.1.length * (8:Nat)≤big∧∀ (x_1:Int),x_1∈x.1.1→InR IntKind.u64 x_1)∧(x.1.2.1.length * (8:Nat)≤big∧∀ (x_1:Int),x_1∈x.1.2.1→InR IntKind.i64 x_1)∧(x.1.2.2.1.length * ((8:Nat)+(8:Nat))≤big∧∀ (x_1:Int×Int),x_1∈x.1.2.2.1→InR IntKind.i64 x_1.1∧InR IntKind.i64 x_1.2)∧x.1.2.2.2.length * ((8:Nat)+((8:Nat)+(8:Nat)))≤big∧∀ (x_1:Int×Bool×Int),x_1∈x.1.2.2.2→InR IntKind.i64 x_1.1∧True∧InR IntKind.i64 x_1.2.2)∧InR IntKind.u64 x.2.1∧InR IntKind.i64 x.2.2→True→True∧(decide (slotErr x.1 x.2.2≠(0:Int))=true→(([]:List Int),([]:List Int),([]:List (Int×Int)),([]:List (Int×Bool×Int)))=(useF x.1 x.2.1 x.2.2).1∧slotErr x.1 x.2.2=(useF x.1 x.2.1 x.2.2).2∧True)∧(decide (slotErr x.1 x.2.2≠(0:Int))=false→True∧(decide ((lookF x.1.2.2.2 x.2.1).2≠(0:Int))=true→(([]:List Int),([]:List Int),([]:List (Int×Int)),([]:List (Int×Bool×Int)))=(useF x.1 x.2.1 x.2.2).1∧(lookF x.1.2.2.2 x.2.1).2=(useF x.1 x.2.1 x.2.2).2∧True)∧(decide ((lookF x.1.2.2.2 x.2.1).2≠(0:Int))=false→∀ (_:Array Value),True∧True∧True∧x.1.2.1=x.1.2.1∧x.1.2.2.1=x.1.2.2.1∧x.1.2.2.1=x.1.2.2.1∧x.1.2.2.2=x.1.2.2.2∧x.1.2.2.2=x.1.2.2.2∧x.1.2.2.2=x.1.2.2.2∧True∧(0:Int)≤x.2.2∧x.2.2<(↑x.1.2.1.length:Int)∧x.2.2.toNat<x.1.2.1.length∧(x.1.1,x.1.2.1.set x.2.2.toNat (lookF x.1.2.2.2 x.2.1).1,x.1.2.2)=(useF x.1 x.2.1 x.2.2).1∧(0:Int)=(useF x.1 x.2.1 x.2.2).2∧True))
theorem vcp_stUseC:pv_stUseC:=by
 unfold pv_stUseC
 intro ⟨s,name,slot⟩ hx _
 simp only at hx ⊢
 have hF:useF s name slot=if slotErr s slot≠0 then (nilStore,slotErr s slot) else if (lookF s.2.2.2 name).2≠0 then (nilStore,(lookF s.2.2.2 name).2) else ((s.1,s.2.1.set slot.toNat (lookF s.2.2.2 name).1,s.2.2),0):=rfl
 rw [hF]
 refine ⟨trivial,fun h=>?_,fun h=>⟨trivial,fun h1=>?_,fun h1 tm=>⟨trivial,trivial,trivial,by trivial,by trivial,by trivial,by trivial,by trivial,by trivial,trivial,?_⟩⟩⟩
 ·rw [if_pos (of_decide_eq_true h)]
  exact ⟨by trivial,by trivial,trivial⟩
 ·rw [if_neg (of_decide_eq_false h),if_pos (of_decide_eq_true h1)]
  exact ⟨by trivial,by trivial,trivial⟩
 ·rw [if_neg (of_decide_eq_false h),if_neg (of_decide_eq_false h1)]
  have hs:=slot_ok (by simpa using of_decide_eq_false h:slotErr s slot=0)
  exact ⟨hs.1,hs.2,by omega,by trivial,by trivial,trivial⟩
theorem e_stUseC:pv_stUseC=(fnVC Tryz.prog (tbl [(78,sp_stSlotted),(79,sp_handLook),(96,sp_cloneWords),(97,sp_cloneInts),(98,sp_clonePins),(99,sp_cloneHands)]) an_copied Tryz.f29 sp_stUseC):=by kernel_rfl
theorem vc_stUseC:fnVC Tryz.prog (tbl [(78,sp_stSlotted),(79,sp_handLook),(96,sp_cloneWords),(97,sp_cloneInts),(98,sp_clonePins),(99,sp_cloneHands)]) an_copied Tryz.f29 sp_stUseC:=@Eq.mp _ _ @e_stUseC @vcp_stUseC
theorem ok_stUseC:sp_stUseC.ok Tryz.prog 29:=fn_sound (P:=Tryz.prog) (ss:=tbl [(78,sp_stSlotted),(79,sp_handLook),(96,sp_cloneWords),(97,sp_cloneInts),(98,sp_clonePins),(99,sp_cloneHands)]) (ann:=an_copied) (f:=29) (fn:=Tryz.f29) (s:=sp_stUseC) (tbl_cons ok_stSlotted (tbl_cons ok_handLook (tbl_cons ok_cloneWords (tbl_cons ok_cloneInts (tbl_cons ok_clonePins (tbl_cons ok_cloneHands tbl_nil)))))) Tryz.func29 @vc_stUseC
def shutF (s:StoreD) (name:Int):StoreD×Int:=if storeF s≠0 then (nilStore,storeF s) else if (closeF s.2.2.2 name).2≠0 then (nilStore,(closeF s.2.2.2 name).2) else ((s.1,s.2.1,s.2.2.1,(closeF s.2.2.2 name).1),0)
def sp_stShutC:Spec:={ Ts:=[ty_Store,ty_W],Rs:=[.dat ty_Store,.dat ty_I],al:=true,pre:=fun _=>True,F:=fun ((s,name):StoreD×Int)=>shutF s name }
def pv_stShutC:Prop :=
  ∀ (x:(List Int×List Int×List (Int×Int)×List (Int×Bool×Int))×Int),((x.1.1.length * (8:Nat)≤big∧∀ (x_1:Int),x_1∈x.1.1→InR IntKind.u64 x_1)∧(x.1.2.1.length * (8:Nat)≤big∧∀ (x_1:Int),x_1∈x.1.2.1→InR IntKind.i64 x_1)∧(x.1.2.2.1.length * ((8:Nat)+(8:Nat))≤big∧∀ (x_1:Int×Int),x_1∈x.1.2.2.1→InR IntKind.i64 x_1.1∧InR IntKind.i64 x_1.2)∧x.1.2.2.2.length * ((8:Nat)+((8:Nat)+(8:Nat)))≤big∧∀ (x_1:Int×Bool×Int),x_1∈x.1.2.2.2→InR IntKind.i64 x_1.1∧True∧InR IntKind.i64 x_1.2.2)∧InR IntKind.u64 x.2→True→True∧(decide (storeF x.1≠(0:Int))=true→(([]:List Int),([]:List Int),([]:List (Int×Int)),([]:List (Int×Bool×Int)))=(shutF x.1 x.2).1∧storeF x.1=(shutF x.1 x.2).2∧True)∧(decide (storeF x.1≠(0:Int))=false→True∧(decide ((closeF x.1.2.2.2 x.2).2≠(0:Int))=true→(([]:List Int),([]:List Int),([]:List (Int×Int)),([]:List (Int×Bool×Int)))=(shutF x.1 x.2).1∧(closeF x.1.2.2.2 x.2).2=(shutF x.1 x.2).2∧True)∧(decide ((closeF x.1.2.2.2 x.2).2≠(0:Int))=false→∀ (_:Array Value),True∧True∧True∧x.1.2.1=x.1.2.1∧x.1.2.2.1=x.1.2.2.1∧x.1.2.2.1=x.1.2.2.1∧x.1.2.2.2=x.1.2.2.2∧x.1.2.2.2=x.1.2.2.2∧x.1.2.2.2=x.1.2.2.2∧True∧(x.1.1,x.1.2.1,x.1.2.2.1,(closeF x.1.2.2.2 x.2).1)=(shutF x.1 x.2).1∧(0:Int)=(shutF x.1 x.2).2∧True))
theorem vcp_stShutC:pv_stShutC:=by
 unfold pv_stShutC
 intro ⟨s,name⟩ hx _
 simp only at hx ⊢
 have hF:shutF s name=if storeF s≠0 then (nilStore,storeF s) else if (closeF s.2.2.2 name).2≠0 then (nilStore,(closeF s.2.2.2 name).2) else ((s.1,s.2.1,s.2.2.1,(closeF s.2.2.2 name).1),0):=rfl
 rw [hF]
 refine ⟨trivial,fun h=>?_,fun h=>⟨trivial,fun h1=>?_,fun h1 tm=>⟨trivial,trivial,trivial,by trivial,by trivial,by trivial,by trivial,by trivial,by trivial,trivial,?_⟩⟩⟩
 ·rw [if_pos (of_decide_eq_true h)]
  exact ⟨by trivial,by trivial,trivial⟩
 ·rw [if_neg (of_decide_eq_false h),if_pos (of_decide_eq_true h1)]
  exact ⟨by trivial,by trivial,trivial⟩
 ·rw [if_neg (of_decide_eq_false h),if_neg (of_decide_eq_false h1)]
  exact ⟨by trivial,by trivial,trivial⟩
theorem e_stShutC:pv_stShutC=(fnVC Tryz.prog (tbl [(54,sp_stCheck),(80,sp_handClose),(96,sp_cloneWords),(97,sp_cloneInts),(98,sp_clonePins),(99,sp_cloneHands)]) an_copied Tryz.f30 sp_stShutC):=by kernel_rfl
theorem vc_stShutC:fnVC Tryz.prog (tbl [(54,sp_stCheck),(80,sp_handClose),(96,sp_cloneWords),(97,sp_cloneInts),(98,sp_clonePins),(99,sp_cloneHands)]) an_copied Tryz.f30 sp_stShutC:=@Eq.mp _ _ @e_stShutC @vcp_stShutC
theorem ok_stShutC:sp_stShutC.ok Tryz.prog 30:=fn_sound (P:=Tryz.prog) (ss:=tbl [(54,sp_stCheck),(80,sp_handClose),(96,sp_cloneWords),(97,sp_cloneInts),(98,sp_clonePins),(99,sp_cloneHands)]) (ann:=an_copied) (f:=30) (fn:=Tryz.f30) (s:=sp_stShutC) (tbl_cons ok_stCheck (tbl_cons ok_handClose (tbl_cons ok_cloneWords (tbl_cons ok_cloneInts (tbl_cons ok_clonePins (tbl_cons ok_cloneHands tbl_nil)))))) Tryz.func30 @vc_stShutC
def dropT (s:StoreD) (slot:Int):StoreD×Int:=if slotErr s slot≠0 then (nilStore,slotErr s slot) else ((s.1,s.2.1.set slot.toNat (-1),s.2.2),0)
def sp_stDropC:Spec:={ Ts:=[ty_Store,ty_I],Rs:=[.dat ty_Store,.dat ty_I],al:=true,pre:=fun _=>True,F:=fun ((s,slot):StoreD×Int)=>dropT s slot }
def pv_stDropC:Prop :=
  ∀ (x:(List Int×List Int×List (Int×Int)×List (Int×Bool×Int))×Int),((x.1.1.length * (8:Nat)≤big∧∀ (x_1:Int),x_1∈x.1.1→InR IntKind.u64 x_1)∧(x.1.2.1.length * (8:Nat)≤big∧∀ (x_1:Int),x_1∈x.1.2.1→InR IntKind.i64 x_1)∧(x.1.2.2.1.length * ((8:Nat)+(8:Nat))≤big∧∀ (x_1:Int×Int),x_1∈x.1.2.2.1→InR IntKind.i64 x_1.1∧InR IntKind.i64 x_1.2)∧x.1.2.2.2.length * ((8:Nat)+((8:Nat)+(8:Nat)))≤big∧∀ (x_1:Int×Bool×Int),x_1∈x.1.2.2.2→InR IntKind.i64 x_1.1∧True∧InR IntKind.i64 x_1.2.2)∧InR IntKind.i64 x.2→True→True∧(decide (slotErr x.1 x.2≠(0:Int))=true→(([]:List Int),([]:List Int),([]:List (Int×Int)),([]:List (Int×Bool×Int)))=(dropT x.1 x.2).1∧slotErr x.1 x.2=(dropT x.1 x.2).2∧True)∧(decide (slotErr x.1 x.2≠(0:Int))=false→∀ (_:Array Value),True∧True∧True∧x.1.2.1=x.1.2.1∧x.1.2.2.1=x.1.2.2.1∧x.1.2.2.1=x.1.2.2.1∧x.1.2.2.2=x.1.2.2.2∧x.1.2.2.2=x.1.2.2.2∧x.1.2.2.2=x.1.2.2.2∧True∧(0:Int)≤x.2∧x.2<(↑x.1.2.1.length:Int)∧x.2.toNat<x.1.2.1.length∧(x.1.1,x.1.2.1.set x.2.toNat (-1:Int),x.1.2.2)=(dropT x.1 x.2).1∧(0:Int)=(dropT x.1 x.2).2∧True)
theorem vcp_stDropC:pv_stDropC:=by
 unfold pv_stDropC
 intro ⟨s,slot⟩ hx _
 simp only at hx ⊢
 have hF:dropT s slot=if slotErr s slot≠0 then (nilStore,slotErr s slot) else ((s.1,s.2.1.set slot.toNat (-1),s.2.2),0):=rfl
 rw [hF]
 refine ⟨trivial,fun h=>?_,fun h tm=>⟨trivial,trivial,trivial,by trivial,by trivial,by trivial,by trivial,by trivial,by trivial,trivial,?_⟩⟩
 ·rw [if_pos (of_decide_eq_true h)]
  exact ⟨by trivial,by trivial,trivial⟩
 ·have hs:=slot_ok (by simpa using of_decide_eq_false h:slotErr s slot=0)
  rw [if_neg (of_decide_eq_false h)]
  exact ⟨hs.1,hs.2,by omega,by trivial,by trivial,trivial⟩
theorem e_stDropC:pv_stDropC=(fnVC Tryz.prog (tbl [(78,sp_stSlotted),(96,sp_cloneWords),(97,sp_cloneInts),(98,sp_clonePins),(99,sp_cloneHands)]) an_copied Tryz.f31 sp_stDropC):=by kernel_rfl
theorem vc_stDropC:fnVC Tryz.prog (tbl [(78,sp_stSlotted),(96,sp_cloneWords),(97,sp_cloneInts),(98,sp_clonePins),(99,sp_cloneHands)]) an_copied Tryz.f31 sp_stDropC:=@Eq.mp _ _ @e_stDropC @vcp_stDropC
theorem ok_stDropC:sp_stDropC.ok Tryz.prog 31:=fn_sound (P:=Tryz.prog) (ss:=tbl [(78,sp_stSlotted),(96,sp_cloneWords),(97,sp_cloneInts),(98,sp_clonePins),(99,sp_cloneHands)]) (ann:=an_copied) (f:=31) (fn:=Tryz.f31) (s:=sp_stDropC) (tbl_cons ok_stSlotted (tbl_cons ok_cloneWords (tbl_cons ok_cloneInts (tbl_cons ok_clonePins (tbl_cons ok_cloneHands tbl_nil))))) Tryz.func31 @vc_stDropC
def headErr (h:Head):Int:=if headFault h≠0 then headFault h else if h.2.2.2=true then 3 else 0
theorem head_ok {h:Head} (hh:headErr h=0):headFault h=0∧h.2.2.2=false:=by
 unfold headErr at hh
 split at hh
 ·omega
 split at hh
 ·omega
 rename_i h1 h2
 exact ⟨by omega,by simpa using h2⟩
theorem take_first {a:List Int} (hc:(checkF a).2.2=0) {h:Head} (h0:headFault h=0) (hf:h.2.2.2=false):match (gapsL false [] (spotsF a).1).find? (fun r=>decide (headLong h≤r.2)) with
  | none=>firstF (gapsL false [] (spotsF a).1) (headLong h)=(0,7)∧takeT a h=([],0,false)
  | some r=>∃ i,0≤i∧i<((gapsL false [] (spotsF a).1).length:Int)∧firstF (gapsL false [] (spotsF a).1) (headLong h)=(i,0)∧(gapsL false [] (spotsF a).1).getD i.toNat (0,0)=r∧takeF (joinF a).1 r.1 h=(placeW a r h,0)∧takeT a h=(placeW a r h,r.1,true):=by
 have hgi:=(gaps_in (checkF_in hc).2.2.2.1).1
 have hz:=headFault_zero h0
 have hL:headLong h=1+h.1+h.2.1:=rfl
 have hff:=fits_good (n:=headLong h) (l:=gapsL false [] (spotsF a).1) (by omega) (fun r hr=>by have:=hgi r hr; omega)
 have hfi:=fits_find (headLong h) (gapsL false [] (spotsF a).1) 0
 cases hfd:(gapsL false [] (spotsF a).1).find? (fun r=>decide (headLong h≤r.2)) with
 | none =>
  rw [hfd] at hfi
  simp only at hfi ⊢
  rw [if_pos hfi] at hff
  refine ⟨hff,?_⟩
  unfold takeT
  rw [hfd]
 | some r =>
  rw [hfd] at hfi
  obtain ⟨i,i0,i1,i2,i3,i4⟩:=hfi
  rw [if_neg i3,i4,Int.zero_add] at hff
  have hr:=List.mem_of_find?_eq_some hfd
  have hle:headLong h≤r.2:=by simpa using List.find?_some hfd
  refine ⟨i,i0,i1,hff,i2,place_take hc hr h0 hf hle,?_⟩
  unfold takeT
  rw [hfd]
def takePre (s:StoreD) (h:Head):Prop:=(checkF s.1).2.2=0∧headErr h=0
def laidS (s:StoreD) (slot:Int) (h:Head):StoreD×Bool:=((((takeT s.1 h).1,s.2.1.set slot.toNat (takeT s.1 h).2.1,s.2.2):StoreD),(takeT s.1 h).2.2)
def makeF (s:StoreD) (slot:Int) (h:Head):StoreD×Bool×Int :=
 if slotErr s slot≠0 then (nilStore,false,slotErr s slot) else if headErr h≠0 then (nilStore,false,headErr h) else
 if (laidS s slot h).2=true then ((laidS s slot h).1,false,0) else if (laidS (sweptS s) slot h).2=true then ((laidS (sweptS s) slot h).1,true,0) else (nilStore,false,7)
end Go.Proofs.YtglchojglcobjaaGreat
