
import Derived.Test.YtglchojglcobjaaGreatWords
import Derived.Test.YtglchojglcobjaaGreatFinds
namespace Go.Proofs.YtglchojglcobjaaGreat
open Go
set_option maxRecDepth 100000
set_option maxHeartbeats 1000000
abbrev ty_Slot:Ty:=.pair ty_I (.pair .bool ty_I)
abbrev Slot:=Int×Bool×Int
def sp_idxSlot:Spec:={ Ts:=[.arr ty_Slot,.fn ty_Slot .bool],Rs:=[.dat ty_I],pre:=fun ((l,g):List Slot×(Slot→Prop)×(Slot→Bool))=>∀ s∈l,g.1 s,F:=fun ((l,g):List Slot×(Slot→Prop)×(Slot→Bool))=>findFrom g.2 0 l }
def an_idxSlot:Nat→Option LoopGen
 | 2=>some { rd:=[.dat 0 (.arr ty_Slot),.dat 1 (.fn ty_Slot .bool)],A:=fun ((l,g):List Slot×(Slot→Prop)×(Slot→Bool))=>{ cs:=[.dat 8 ty_I],inv:=fun (i:Int)=>0≤i∧i≤l.length∧findFrom g.2 i (l.drop i.toNat)=findFrom g.2 0 l,mu:=fun (i:Int)=>(l.length - i).toNat } }
 | _=>none
def pv_idxSlot:Prop :=
  ∀ (x:List (Int×Bool×Int)×(Int×Bool×Int→Prop)×(Int×Bool×Int→Bool)),(x.1.length * ((8:Nat)+((8:Nat)+(8:Nat)))≤big∧∀ (x_1:Int×Bool×Int),x_1∈x.1→InR IntKind.i64 x_1.1∧True∧InR IntKind.i64 x_1.2.2)∧True→(∀ (s:Slot),s∈x.1→x.2.1 s)→((0:Int)≤(0:Int)∧(0:Int)≤(↑x.1.length:Int)∧findFrom x.2.2 (0:Int) (List.drop (Int.toNat (0:Int)) x.1)=findFrom x.2.2 (0:Int) x.1)∧∀ (x_1:Int),(0:Int)≤x_1∧x_1≤(↑x.1.length:Int)∧findFrom x.2.2 x_1 (List.drop x_1.toNat x.1)=findFrom x.2.2 (0:Int) x.1→(decide (x_1<(↑x.1.length:Int))=true→(0:Int)≤x_1∧x_1<(↑x.1.length:Int)∧x.2.1 (x.1.getD x_1.toNat ((0:Int),false,(0:Int)))∧(x.2.2 (x.1.getD x_1.toNat ((0:Int),false,(0:Int)))=true→x_1=findFrom x.2.2 (0:Int) x.1∧True)∧(x.2.2 (x.1.getD x_1.toNat ((0:Int),false,(0:Int)))=false→InR IntKind.i64 (x_1+(1:Int))∧((0:Int)≤x_1+(1:Int)∧x_1+(1:Int)≤(↑x.1.length:Int)∧findFrom x.2.2 (x_1+(1:Int)) (List.drop (x_1+(1:Int)).toNat x.1)=findFrom x.2.2 (0:Int) x.1)∧((↑x.1.length:Int) - (x_1+(1:Int))).toNat<((↑x.1.length:Int) - x_1).toNat))∧(decide (x_1<(↑x.1.length:Int))=false→(-1:Int)=findFrom x.2.2 (0:Int) x.1∧True)
theorem vcp_idxSlot:pv_idxSlot:=by
 unfold pv_idxSlot
 intro ⟨l,g⟩ ⟨⟨hl,_⟩,_⟩ hp
 unfold big at *
 refine ⟨⟨by omega,by omega,by simp⟩,fun i ⟨h0,h1,h2⟩=>⟨fun hlt=>?_,fun hge=>?_⟩⟩
 ·have hlt:i<(l.length:Int):=by simpa using hlt
  have e:=drop_cons ((0,false,0):Slot) h0 hlt
  have hm:=hp _ (getD_mem ((0,false,0):Slot) h0 hlt)
  simp only at *
  rw [e] at h2
  simp only [findFrom] at h2
  refine ⟨h0,hlt,hm,fun hc=>?_,fun hc=>?_⟩
  ·rw [if_pos hc] at h2
   exact ⟨h2,trivial⟩
  ·rw [if_neg (by rw [hc]; simp)] at h2
   exact ⟨by simp only [InR]; omega,⟨by omega,by omega,h2⟩,by omega⟩
 ·rw [drop_end (by simpa using hge)] at h2
  exact ⟨h2,trivial⟩
theorem e_idxSlot:pv_idxSlot=(fnVC Tryz.prog (tbl []) an_idxSlot Tryz.f112 sp_idxSlot):=by kernel_rfl
theorem vc_idxSlot:fnVC Tryz.prog (tbl []) an_idxSlot Tryz.f112 sp_idxSlot:=@Eq.mp _ _ @e_idxSlot @vcp_idxSlot
theorem ok_idxSlot:sp_idxSlot.ok Tryz.prog 112:=fn_sound (P:=Tryz.prog) (ss:=tbl []) (ann:=an_idxSlot) (f:=112) (fn:=Tryz.f112) (s:=sp_idxSlot) tbl_nil Tryz.func112 @vc_idxSlot
def sp_cloneHands:Spec:={ Ts:=[.arr ty_Slot],Rs:=[.own 87 ty_Slot],pre:=fun _=>True,F:=fun (x:List Slot)=>x }
def pv_cloneHands:Prop :=
  ∀ (x:List (Int×Bool×Int)),(x.length * ((8:Nat)+((8:Nat)+(8:Nat)))≤big∧∀ (x_1:Int×Bool×Int),x_1∈x→InR IntKind.i64 x_1.1∧True∧InR IntKind.i64 x_1.2.2)→True→(x=([]:List (Int×Bool×Int))→([]:List (Int×Bool×Int))=x∧True)∧(True→((0:Nat)+x.length) * ((8:Nat)+((8:Nat)+(8:Nat)))≤big∧([]:List (Int×Bool×Int))++x=x∧True)
theorem vcp_cloneHands:pv_cloneHands:=by
 unfold pv_cloneHands
 intro x ⟨hb,_⟩ _
 simp [hb]
theorem e_cloneHands:pv_cloneHands=(fnVC Tryz.prog (tbl []) an_0 Tryz.f99 sp_cloneHands):=by kernel_rfl
theorem vc_cloneHands:fnVC Tryz.prog (tbl []) an_0 Tryz.f99 sp_cloneHands:=@Eq.mp _ _ @e_cloneHands @vcp_cloneHands
theorem ok_cloneHands:sp_cloneHands.ok Tryz.prog 99:=fn_sound (P:=Tryz.prog) (ss:=tbl []) (ann:=an_0) (f:=99) (fn:=Tryz.f99) (s:=sp_cloneHands) tbl_nil Tryz.func99 @vc_cloneHands
def there (v:Int):Bool:=decide (0≤v)&&decide (v<256)
def sp_handThere:Spec:={ Ts:=[ty_I],Rs:=[.dat .bool],pre:=fun _=>True,F:=there }
def pv_handThere:Prop :=
  ∀ (x:Int),InR IntKind.i64 x→True→(decide ((0:Int)≤x)&&decide (x<(256:Int)))=there x∧True
theorem vcp_handThere:pv_handThere:=by
 unfold pv_handThere
 intro v _ _
 simp [there]
theorem e_handThere:pv_handThere=(fnVC Tryz.prog (tbl []) an_0 Tryz.f111 sp_handThere):=by kernel_rfl
theorem vc_handThere:fnVC Tryz.prog (tbl []) an_0 Tryz.f111 sp_handThere:=@Eq.mp _ _ @e_handThere @vcp_handThere
theorem ok_handThere:sp_handThere.ok Tryz.prog 111:=fn_sound (P:=Tryz.prog) (ss:=tbl []) (ann:=an_0) (f:=111) (fn:=Tryz.f111) (s:=sp_handThere) tbl_nil Tryz.func111 @vc_handThere
def freeSlot (s:Slot):Bool:=!s.2.1&&decide (s.1<65535)
def sp_freeSlot:Spec:={ Ts:=[ty_Slot],Rs:=[.dat .bool],pre:=fun _=>True,F:=freeSlot }
def pv_freeSlot:Prop :=
  ∀ (x:Int×Bool×Int),InR IntKind.i64 x.1∧True∧InR IntKind.i64 x.2.2→True→(!x.2.1&&decide (x.1<(65535:Int)))=freeSlot x∧True
theorem vcp_freeSlot:pv_freeSlot:=by
 unfold pv_freeSlot
 intro s _ _
 simp [freeSlot]
theorem e_freeSlot:pv_freeSlot=(fnVC Tryz.prog (tbl []) an_0 Tryz.f113 sp_freeSlot):=by kernel_rfl
theorem vc_freeSlot:fnVC Tryz.prog (tbl []) an_0 Tryz.f113 sp_freeSlot:=@Eq.mp _ _ @e_freeSlot @vcp_freeSlot
theorem ok_freeSlot:sp_freeSlot.ok Tryz.prog 113:=fn_sound (P:=Tryz.prog) (ss:=tbl []) (ann:=an_0) (f:=113) (fn:=Tryz.f113) (s:=sp_freeSlot) tbl_nil Tryz.func113 @vc_freeSlot
def slotBad (s:Slot):Int:=if s.1<0∨65535<s.1∨s.2.2<0∨255<s.2.2 then 4 else if (s.2.1=true∧s.1=0)∨(s.2.1=false∧s.2.2≠0) then 3 else 0
def slotsFault:List Slot→Int
 | []=>0
 | s::l=>if slotBad s≠0 then slotBad s else slotsFault l
def handsF (h:List Slot):Int:=if 16<h.length then 2 else slotsFault h
def sp_handCheck:Spec:={ Ts:=[.arr ty_Slot],Rs:=[.dat ty_I],pre:=fun _=>True,F:=handsF }
def an_handCheck:Nat→Option LoopGen
 | 4=>some { rd:=[.dat 8 (.arr ty_Slot)],A:=fun (h:List Slot)=>{ cs:=[.dat 10 ty_I],inv:=fun (i:Int)=>0≤i∧i≤h.length∧h.length≤16∧slotsFault (h.drop i.toNat)=slotsFault h,mu:=fun (i:Int)=>(h.length - i).toNat } }
 | _=>none
def pv_handCheck:Prop :=
  ∀ (x:List (Int×Bool×Int)),(x.length * ((8:Nat)+((8:Nat)+(8:Nat)))≤big∧∀ (x_1:Int×Bool×Int),x_1∈x→InR IntKind.i64 x_1.1∧True∧InR IntKind.i64 x_1.2.2)→True→(decide ((16:Int)<(↑x.length:Int))=true→(2:Int)=handsF x∧True)∧(decide ((16:Int)<(↑x.length:Int))=false→((0:Int)≤(0:Int)∧(0:Int)≤(↑x.length:Int)∧x.length≤(16:Nat)∧slotsFault (List.drop (Int.toNat (0:Int)) x)=slotsFault x)∧∀ (x_1:Int),(0:Int)≤x_1∧x_1≤(↑x.length:Int)∧x.length≤(16:Nat)∧slotsFault (List.drop x_1.toNat x)=slotsFault x→(decide (x_1<(↑x.length:Int))=true→(0:Int)≤x_1∧x_1<(↑x.length:Int)∧((decide ((x.getD x_1.toNat ((0:Int),false,(0:Int))).1<(0:Int))||decide ((65535:Int)<(x.getD x_1.toNat ((0:Int),false,(0:Int))).1))=false→True)∧((decide ((x.getD x_1.toNat ((0:Int),false,(0:Int))).1<(0:Int))||decide ((65535:Int)<(x.getD x_1.toNat ((0:Int),false,(0:Int))).1)||!there (x.getD x_1.toNat ((0:Int),false,(0:Int))).2.2)=true→(4:Int)=handsF x∧True)∧((decide ((x.getD x_1.toNat ((0:Int),false,(0:Int))).1<(0:Int))||decide ((65535:Int)<(x.getD x_1.toNat ((0:Int),false,(0:Int))).1)||!there (x.getD x_1.toNat ((0:Int),false,(0:Int))).2.2)=false→(((x.getD x_1.toNat ((0:Int),false,(0:Int))).2.1&&decide ((x.getD x_1.toNat ((0:Int),false,(0:Int))).1=(0:Int))||!(x.getD x_1.toNat ((0:Int),false,(0:Int))).2.1&&decide ((x.getD x_1.toNat ((0:Int),false,(0:Int))).2.2≠(0:Int)))=true→(3:Int)=handsF x∧True)∧(((x.getD x_1.toNat ((0:Int),false,(0:Int))).2.1&&decide ((x.getD x_1.toNat ((0:Int),false,(0:Int))).1=(0:Int))||!(x.getD x_1.toNat ((0:Int),false,(0:Int))).2.1&&decide ((x.getD x_1.toNat ((0:Int),false,(0:Int))).2.2≠(0:Int)))=false→InR IntKind.i64 (x_1+(1:Int))∧((0:Int)≤x_1+(1:Int)∧x_1+(1:Int)≤(↑x.length:Int)∧x.length≤(16:Nat)∧slotsFault (List.drop (x_1+(1:Int)).toNat x)=slotsFault x)∧((↑x.length:Int) - (x_1+(1:Int))).toNat<((↑x.length:Int) - x_1).toNat)))∧(decide (x_1<(↑x.length:Int))=false→(0:Int)=handsF x∧True))
theorem vcp_handCheck:pv_handCheck:=by
 unfold pv_handCheck
 intro h ⟨hb,hw⟩ _
 unfold big at *
 refine ⟨fun hl=>?_,fun hl=>⟨⟨by omega,by omega,by have:=of_decide_eq_false hl; omega,by simp⟩,fun i ⟨h0,h1,h2,h3⟩=>⟨fun hlt=>?_,fun hge=>?_⟩⟩⟩
 ·have:=of_decide_eq_true hl
  unfold handsF
  rw [if_pos (by omega)]
  exact ⟨rfl,trivial⟩
 ·have hlt:i<(h.length:Int):=by simpa using hlt
  have e:=drop_cons ((0,false,0):Slot) h0 hlt
  have hF:handsF h=slotsFault h:=by unfold handsF; rw [if_neg (by omega)]
  rw [hF,← h3,e]
  simp only [slotsFault,slotBad,there,InR]
  generalize h.getD i.toNat (0,false,0)=s at *
  obtain ⟨g,o,a⟩:=s
  simp only
  cases o <;> grind
 ·have hF:handsF h=slotsFault h:=by unfold handsF; rw [if_neg (by omega)]
  rw [drop_end (by simpa using hge)] at h3
  rw [hF,← h3]
  exact ⟨rfl,trivial⟩
theorem e_handCheck:pv_handCheck=(fnVC Tryz.prog (tbl [(111,sp_handThere)]) an_handCheck Tryz.f93 sp_handCheck):=by kernel_rfl
theorem vc_handCheck:fnVC Tryz.prog (tbl [(111,sp_handThere)]) an_handCheck Tryz.f93 sp_handCheck:=@Eq.mp _ _ @e_handCheck @vcp_handCheck
theorem ok_handCheck:sp_handCheck.ok Tryz.prog 93:=fn_sound (P:=Tryz.prog) (ss:=tbl [(111,sp_handThere)]) (ann:=an_handCheck) (f:=93) (fn:=Tryz.f93) (s:=sp_handCheck) (tbl_cons ok_handThere tbl_nil) Tryz.func93 @vc_handCheck
def sp_handsFault:Spec:=sp_handCheck
def pv_handsFault:Prop :=
  ∀ (x:List (Int×Bool×Int)),(x.length * ((8:Nat)+((8:Nat)+(8:Nat)))≤big∧∀ (x_1:Int×Bool×Int),x_1∈x→InR IntKind.i64 x_1.1∧True∧InR IntKind.i64 x_1.2.2)→True→(decide ((16:Int)<(↑x.length:Int))=true→(2:Int)=handsF x∧True)∧(decide ((16:Int)<(↑x.length:Int))=false→((0:Int)≤(0:Int)∧(0:Int)≤(↑x.length:Int)∧x.length≤(16:Nat)∧slotsFault (List.drop (Int.toNat (0:Int)) x)=slotsFault x)∧∀ (x_1:Int),(0:Int)≤x_1∧x_1≤(↑x.length:Int)∧x.length≤(16:Nat)∧slotsFault (List.drop x_1.toNat x)=slotsFault x→(decide (x_1<(↑x.length:Int))=true→(0:Int)≤x_1∧x_1<(↑x.length:Int)∧((decide ((x.getD x_1.toNat ((0:Int),false,(0:Int))).1<(0:Int))||decide ((65535:Int)<(x.getD x_1.toNat ((0:Int),false,(0:Int))).1)||decide ((x.getD x_1.toNat ((0:Int),false,(0:Int))).2.2<(0:Int))||decide ((255:Int)<(x.getD x_1.toNat ((0:Int),false,(0:Int))).2.2))=true→(4:Int)=handsF x∧True)∧((decide ((x.getD x_1.toNat ((0:Int),false,(0:Int))).1<(0:Int))||decide ((65535:Int)<(x.getD x_1.toNat ((0:Int),false,(0:Int))).1)||decide ((x.getD x_1.toNat ((0:Int),false,(0:Int))).2.2<(0:Int))||decide ((255:Int)<(x.getD x_1.toNat ((0:Int),false,(0:Int))).2.2))=false→(((x.getD x_1.toNat ((0:Int),false,(0:Int))).2.1&&decide ((x.getD x_1.toNat ((0:Int),false,(0:Int))).1=(0:Int))||!(x.getD x_1.toNat ((0:Int),false,(0:Int))).2.1&&decide ((x.getD x_1.toNat ((0:Int),false,(0:Int))).2.2≠(0:Int)))=true→(3:Int)=handsF x∧True)∧(((x.getD x_1.toNat ((0:Int),false,(0:Int))).2.1&&decide ((x.getD x_1.toNat ((0:Int),false,(0:Int))).1=(0:Int))||!(x.getD x_1.toNat ((0:Int),false,(0:Int))).2.1&&decide ((x.getD x_1.toNat ((0:Int),false,(0:Int))).2.2≠(0:Int)))=false→InR IntKind.i64 (x_1+(1:Int))∧((0:Int)≤x_1+(1:Int)∧x_1+(1:Int)≤(↑x.length:Int)∧x.length≤(16:Nat)∧slotsFault (List.drop (x_1+(1:Int)).toNat x)=slotsFault x)∧((↑x.length:Int) - (x_1+(1:Int))).toNat<((↑x.length:Int) - x_1).toNat)))∧(decide (x_1<(↑x.length:Int))=false→(0:Int)=handsF x∧True))
theorem vcp_handsFault:pv_handsFault:=by
 unfold pv_handsFault
 intro h ⟨hb,hw⟩ _
 unfold big at *
 refine ⟨fun hl=>?_,fun hl=>⟨⟨by omega,by omega,by have:=of_decide_eq_false hl; omega,by simp⟩,fun i ⟨h0,h1,h2,h3⟩=>⟨fun hlt=>?_,fun hge=>?_⟩⟩⟩
 ·have:=of_decide_eq_true hl
  unfold handsF
  rw [if_pos (by omega)]
  exact ⟨rfl,trivial⟩
 ·have hlt:i<(h.length:Int):=by simpa using hlt
  have e:=drop_cons ((0,false,0):Slot) h0 hlt
  have hF:handsF h=slotsFault h:=by unfold handsF; rw [if_neg (by omega)]
  rw [hF,← h3,e]
  simp only [slotsFault,slotBad,there,InR]
  generalize h.getD i.toNat (0,false,0)=s at *
  obtain ⟨g,o,a⟩:=s
  simp only
  cases o <;> grind
 ·have hF:handsF h=slotsFault h:=by unfold handsF; rw [if_neg (by omega)]
  rw [drop_end (by simpa using hge)] at h3
  rw [hF,← h3]
  exact ⟨rfl,trivial⟩
theorem e_handsFault:pv_handsFault=(fnVC Tryz.prog (tbl []) an_handCheck Tryz.f39 sp_handsFault):=by kernel_rfl
theorem vc_handsFault:fnVC Tryz.prog (tbl []) an_handCheck Tryz.f39 sp_handsFault:=@Eq.mp _ _ @e_handsFault @vcp_handsFault
theorem ok_handsFault:sp_handsFault.ok Tryz.prog 39:=fn_sound (P:=Tryz.prog) (ss:=tbl []) (ann:=an_handCheck) (f:=39) (fn:=Tryz.f39) (s:=sp_handsFault) tbl_nil Tryz.func39 @vc_handsFault
def handName (i:Int) (s:Slot):Int:=i+65536 * s.1
def sp_handName:Spec:={ Ts:=[ty_I,ty_Slot],Rs:=[.dat ty_W],pre:=fun ((i,s):Int×Slot)=>0≤i∧i<65536∧0≤s.1∧s.1≤65535,F:=fun ((i,s):Int×Slot)=>handName i s }
def pv_handName:Prop :=
  ∀ (x:Int×Int×Bool×Int),InR IntKind.i64 x.1∧InR IntKind.i64 x.2.1∧True∧InR IntKind.i64 x.2.2.2→(0:Int)≤x.1∧x.1<(65536:Int)∧(0:Int)≤x.2.1∧x.2.1≤(65535:Int)→(0:Int)≤(16:Int)∧(16:Int)<(↑IntKind.u64.bits:Int)∧(↑((IntKind.u64.wrap x.1).toNat ||| (IntKind.u64.wrap (IntKind.u64.wrap x.2.1 * (2:Int) ^ Int.toNat (16:Int))).toNat):Int)=handName x.1 x.2∧True
theorem vcp_handName:pv_handName:=by
 unfold pv_handName
 intro ⟨i,s⟩ _ ⟨h0,h1,h2,h3⟩
 simp only at *
 refine ⟨by omega,by rw [bitsU]; omega,?_,trivial⟩
 have e:(2:Int) ^ Int.toNat 16=65536:=rfl
 have e3:(2:Int) ^ 16=65536:=rfl
 have k:=lor_add (a:=i) (b:=s.1) (i:=16) h0 h2 (by rw [e3]; omega)
 rw [e3] at k
 rw [wrapU (n:=i) (by omega) (by omega),wrapU (n:=s.1) h2 (by omega),e,wrapU (n:=s.1 * 65536) (by omega) (by omega),k]
 simp only [handName]
 omega
theorem e_handName:pv_handName=(fnVC Tryz.prog (tbl []) an_0 Tryz.f114 sp_handName):=by kernel_rfl
theorem vc_handName:fnVC Tryz.prog (tbl []) an_0 Tryz.f114 sp_handName:=@Eq.mp _ _ @e_handName @vcp_handName
theorem ok_handName:sp_handName.ok Tryz.prog 114:=fn_sound (P:=Tryz.prog) (ss:=tbl []) (ann:=an_0) (f:=114) (fn:=Tryz.f114) (s:=sp_handName) tbl_nil Tryz.func114 @vc_handName
def sp_rHandName:Spec:=sp_handName
def pv_rHandName:Prop :=
  ∀ (x:Int×Int×Bool×Int),InR IntKind.i64 x.1∧InR IntKind.i64 x.2.1∧True∧InR IntKind.i64 x.2.2.2→(0:Int)≤x.1∧x.1<(65536:Int)∧(0:Int)≤x.2.1∧x.2.1≤(65535:Int)→InR IntKind.u64 ((65536:Int) * IntKind.u64.wrap x.2.1)∧InR IntKind.u64 (IntKind.u64.wrap x.1+(65536:Int) * IntKind.u64.wrap x.2.1)∧IntKind.u64.wrap x.1+(65536:Int) * IntKind.u64.wrap x.2.1=handName x.1 x.2∧True
theorem vcp_rHandName:pv_rHandName:=by
 unfold pv_rHandName
 intro ⟨i,s⟩ _ ⟨h0,h1,h2,h3⟩
 simp only at *
 rw [wrapU (n:=i) (by omega) (by omega),wrapU (n:=s.1) h2 (by omega)]
 simp only [handName,InR]
 repeat' apply And.intro
 all_goals first | exact trivial | omega
theorem e_rHandName:pv_rHandName=(fnVC Tryz.prog (tbl []) an_0 Tryz.f66 sp_rHandName):=by kernel_rfl
theorem vc_rHandName:fnVC Tryz.prog (tbl []) an_0 Tryz.f66 sp_rHandName:=@Eq.mp _ _ @e_rHandName @vcp_rHandName
theorem ok_rHandName:sp_rHandName.ok Tryz.prog 66:=fn_sound (P:=Tryz.prog) (ss:=tbl []) (ann:=an_0) (f:=66) (fn:=Tryz.f66) (s:=sp_rHandName) tbl_nil Tryz.func66 @vc_rHandName
theorem slotsFault_zero:∀ {h:List Slot},slotsFault h=0→∀ s∈h,slotBad s=0
 | [],_=>by simp
 | x::l,h=>by
  simp only [slotsFault] at h
  split at h
  ·omega
  ·intro s hs
   rcases List.mem_cons.1 hs with rfl | hs
   ·omega
   ·exact slotsFault_zero h s hs
theorem handsF_zero {h:List Slot} (hf:handsF h=0):h.length≤16∧∀ s∈h,0≤s.1∧s.1≤65535∧0≤s.2.2∧s.2.2≤255:=by
 unfold handsF at hf
 split at hf
 ·omega
 ·refine ⟨by omega,fun s hs=>?_⟩
  have:=slotsFault_zero hf s hs
  unfold slotBad at this
  split at this <;> omega
def findF (h:List Slot) (n:Int):Int×Int :=
 if handsF h≠0 then (0,handsF h) else if n % 65536<h.length∧(h.getD (n % 65536).toNat (0,false,0)).2.1=true∧handName (n % 65536) (h.getD (n % 65536).toNat (0,false,0))=n then (n % 65536,0) else (0,9)
def sp_handFind:Spec:={ Ts:=[.arr ty_Slot,ty_W],Rs:=[.dat ty_I,.dat ty_I],pre:=fun _=>True,F:=fun ((h,n):List Slot×Int)=>findF h n }
def pv_handFind:Prop :=
  ∀ (x:List (Int×Bool×Int)×Int),(x.1.length * ((8:Nat)+((8:Nat)+(8:Nat)))≤big∧∀ (x_1:Int×Bool×Int),x_1∈x.1→InR IntKind.i64 x_1.1∧True∧InR IntKind.i64 x_1.2.2)∧InR IntKind.u64 x.2→True→True∧(decide (handsF x.1≠(0:Int))=true→(0:Int)=(findF x.1 x.2).1∧handsF x.1=(findF x.1 x.2).2∧True)∧(decide (handsF x.1≠(0:Int))=false→(decide (IntKind.u64.wrap (↑x.1.length:Int)≤(↑(x.2.toNat &&& Int.toNat (65535:Int)):Int))=false→(0:Int)≤(↑(x.2.toNat &&& Int.toNat (65535:Int)):Int))∧(decide (IntKind.u64.wrap (↑x.1.length:Int)≤(↑(x.2.toNat &&& Int.toNat (65535:Int)):Int))=false→(↑(x.2.toNat &&& Int.toNat (65535:Int)):Int)<(↑x.1.length:Int))∧((decide (IntKind.u64.wrap (↑x.1.length:Int)≤(↑(x.2.toNat &&& Int.toNat (65535:Int)):Int))||!(x.1.getD (↑(x.2.toNat &&& Int.toNat (65535:Int)):Int).toNat ((0:Int),false,(0:Int))).2.1)=false→(0:Int)≤(↑(x.2.toNat &&& Int.toNat (65535:Int)):Int))∧((decide (IntKind.u64.wrap (↑x.1.length:Int)≤(↑(x.2.toNat &&& Int.toNat (65535:Int)):Int))||!(x.1.getD (↑(x.2.toNat &&& Int.toNat (65535:Int)):Int).toNat ((0:Int),false,(0:Int))).2.1)=false→(↑(x.2.toNat &&& Int.toNat (65535:Int)):Int)<(↑x.1.length:Int))∧((decide (IntKind.u64.wrap (↑x.1.length:Int)≤(↑(x.2.toNat &&& Int.toNat (65535:Int)):Int))||!(x.1.getD (↑(x.2.toNat &&& Int.toNat (65535:Int)):Int).toNat ((0:Int),false,(0:Int))).2.1)=false→(0:Int)≤IntKind.i64.wrap (↑(x.2.toNat &&& Int.toNat (65535:Int)):Int)∧IntKind.i64.wrap (↑(x.2.toNat &&& Int.toNat (65535:Int)):Int)<(65536:Int)∧(0:Int)≤(x.1.getD (↑(x.2.toNat &&& Int.toNat (65535:Int)):Int).toNat ((0:Int),false,(0:Int))).1∧(x.1.getD (↑(x.2.toNat &&& Int.toNat (65535:Int)):Int).toNat ((0:Int),false,(0:Int))).1≤(65535:Int))∧((decide (IntKind.u64.wrap (↑x.1.length:Int)≤(↑(x.2.toNat &&& Int.toNat (65535:Int)):Int))||!(x.1.getD (↑(x.2.toNat &&& Int.toNat (65535:Int)):Int).toNat ((0:Int),false,(0:Int))).2.1||decide (handName (IntKind.i64.wrap (↑(x.2.toNat &&& Int.toNat (65535:Int)):Int)) (x.1.getD (↑(x.2.toNat &&& Int.toNat (65535:Int)):Int).toNat ((0:Int),false,(0:Int)))≠x.2))=true→(0:Int)=(findF x.1 x.2).1∧(9:Int)=(findF x.1 x.2).2∧True)∧((decide (IntKind.u64.wrap (↑x.1.length:Int)≤(↑(x.2.toNat &&& Int.toNat (65535:Int)):Int))||!(x.1.getD (↑(x.2.toNat &&& Int.toNat (65535:Int)):Int).toNat ((0:Int),false,(0:Int))).2.1||decide (handName (IntKind.i64.wrap (↑(x.2.toNat &&& Int.toNat (65535:Int)):Int)) (x.1.getD (↑(x.2.toNat &&& Int.toNat (65535:Int)):Int).toNat ((0:Int),false,(0:Int)))≠x.2))=false→IntKind.i64.wrap (↑(x.2.toNat &&& Int.toNat (65535:Int)):Int)=(findF x.1 x.2).1∧(0:Int)=(findF x.1 x.2).2∧True))
theorem vcp_handFind:pv_handFind:=by
 unfold pv_handFind
 intro ⟨h,n⟩ ⟨⟨hb,hw⟩,hn⟩ _
 simp only [InR] at hn
 have hand:((n.toNat &&& Int.toNat 65535:Nat):Int)=n % 65536:=by
  have:=land_mod hn.1 16
  simpa using this
 simp only at *
 rw [hand]
 have h0:0≤n % 65536:=by omega
 have h1:n % 65536<65536:=by omega
 rw [wrapI (n:=n % 65536) (by omega) (by omega)]
 have hl:IntKind.u64.wrap (h.length:Int)=h.length:=wrapU (by omega) (by unfold big at hb; omega)
 rw [hl]
 simp only [findF]
 refine ⟨trivial,fun hf=>by grind,fun hf=>?_⟩
 have hf:handsF h=0:=by simpa using hf
 obtain ⟨z1,z2⟩:=handsF_zero hf
 have hm:n % 65536<h.length→0≤(h.getD (n % 65536).toNat (0,false,0)).1∧(h.getD (n % 65536).toNat (0,false,0)).1≤65535:=fun hlt=>by
  have:=z2 _ (getD_mem (0,false,0) h0 hlt)
  omega
 generalize h.getD (n % 65536).toNat (0,false,0)=s at *
 generalize n % 65536=i at *
 simp only [hf,handName]
 obtain ⟨g,o,a⟩:=s
 cases o <;> simp only at * <;> grind
theorem e_handFind:pv_handFind=(fnVC Tryz.prog (tbl [(93,sp_handCheck),(114,sp_handName)]) an_0 Tryz.f115 sp_handFind):=by kernel_rfl
theorem vc_handFind:fnVC Tryz.prog (tbl [(93,sp_handCheck),(114,sp_handName)]) an_0 Tryz.f115 sp_handFind:=@Eq.mp _ _ @e_handFind @vcp_handFind
theorem ok_handFind:sp_handFind.ok Tryz.prog 115:=fn_sound (P:=Tryz.prog) (ss:=tbl [(93,sp_handCheck),(114,sp_handName)]) (ann:=an_0) (f:=115) (fn:=Tryz.f115) (s:=sp_handFind) (tbl_cons ok_handCheck (tbl_cons ok_handName tbl_nil)) Tryz.func115 @vc_handFind
def lookF (h:List Slot) (n:Int):Int×Int:=if (findF h n).2≠0 then (0,(findF h n).2) else ((h.getD (findF h n).1.toNat (0,false,0)).2.2,0)
def sp_handLook:Spec:={ Ts:=[.arr ty_Slot,ty_W],Rs:=[.dat ty_I,.dat ty_I],pre:=fun _=>True,F:=fun ((h,n):List Slot×Int)=>lookF h n }
def pv_handLook:Prop :=
  ∀ (x:List (Int×Bool×Int)×Int),(x.1.length * ((8:Nat)+((8:Nat)+(8:Nat)))≤big∧∀ (x_1:Int×Bool×Int),x_1∈x.1→InR IntKind.i64 x_1.1∧True∧InR IntKind.i64 x_1.2.2)∧InR IntKind.u64 x.2→True→True∧(decide ((findF x.1 x.2).2≠(0:Int))=true→(0:Int)=(lookF x.1 x.2).1∧(findF x.1 x.2).2=(lookF x.1 x.2).2∧True)∧(decide ((findF x.1 x.2).2≠(0:Int))=false→(0:Int)≤(findF x.1 x.2).1∧(findF x.1 x.2).1<(↑x.1.length:Int)∧(x.1.getD (findF x.1 x.2).1.toNat ((0:Int),false,(0:Int))).2.2=(lookF x.1 x.2).1∧(0:Int)=(lookF x.1 x.2).2∧True)
theorem vcp_handLook:pv_handLook:=by
 unfold pv_handLook
 intro ⟨h,n⟩ ⟨_,hn⟩ _
 simp only [InR] at hn
 have hr:(findF h n).2=0→0≤(findF h n).1∧(findF h n).1<h.length:=by
  unfold findF
  grind
 simp only [lookF] at *
 generalize findF h n=f at *
 grind
theorem e_handLook:pv_handLook=(fnVC Tryz.prog (tbl [(115,sp_handFind)]) an_0 Tryz.f79 sp_handLook):=by kernel_rfl
theorem vc_handLook:fnVC Tryz.prog (tbl [(115,sp_handFind)]) an_0 Tryz.f79 sp_handLook:=@Eq.mp _ _ @e_handLook @vcp_handLook
theorem ok_handLook:sp_handLook.ok Tryz.prog 79:=fn_sound (P:=Tryz.prog) (ss:=tbl [(115,sp_handFind)]) (ann:=an_0) (f:=79) (fn:=Tryz.f79) (s:=sp_handLook) (tbl_cons ok_handFind tbl_nil) Tryz.func79 @vc_handLook
def closeF (h:List Slot) (n:Int):List Slot×Int:=if (findF h n).2≠0 then ([],(findF h n).2) else (h.set (findF h n).1.toNat ((h.getD (findF h n).1.toNat (0,false,0)).1,false,0),0)
def sp_handClose:Spec:={ Ts:=[.arr ty_Slot,ty_W],Rs:=[.own 87 ty_Slot,.dat ty_I],pre:=fun _=>True,F:=fun ((h,n):List Slot×Int)=>closeF h n }
def pv_handClose:Prop :=
  ∀ (x:List (Int×Bool×Int)×Int),(x.1.length * ((8:Nat)+((8:Nat)+(8:Nat)))≤big∧∀ (x_1:Int×Bool×Int),x_1∈x.1→InR IntKind.i64 x_1.1∧True∧InR IntKind.i64 x_1.2.2)∧InR IntKind.u64 x.2→True→True∧(decide ((findF x.1 x.2).2≠(0:Int))=true→([]:List (Int×Bool×Int))=(closeF x.1 x.2).1∧(findF x.1 x.2).2=(closeF x.1 x.2).2∧True)∧(decide ((findF x.1 x.2).2≠(0:Int))=false→True∧(0:Int)≤(findF x.1 x.2).1∧(findF x.1 x.2).1<(↑x.1.length:Int)∧(0:Int)≤(findF x.1 x.2).1∧(findF x.1 x.2).1<(↑x.1.length:Int)∧(findF x.1 x.2).1.toNat<x.1.length∧x.1.set (findF x.1 x.2).1.toNat ((x.1.getD (findF x.1 x.2).1.toNat ((0:Int),false,(0:Int))).1,false,(0:Int))=(closeF x.1 x.2).1∧(0:Int)=(closeF x.1 x.2).2∧True)
theorem vcp_handClose:pv_handClose:=by
 unfold pv_handClose
 intro ⟨h,n⟩ ⟨_,hn⟩ _
 simp only [InR] at hn
 have hr:(findF h n).2=0→0≤(findF h n).1∧(findF h n).1<h.length:=by
  unfold findF
  grind
 simp only [closeF] at *
 generalize findF h n=f at *
 grind
theorem e_handClose:pv_handClose=(fnVC Tryz.prog (tbl [(115,sp_handFind),(99,sp_cloneHands)]) an_0 Tryz.f80 sp_handClose):=by kernel_rfl
theorem vc_handClose:fnVC Tryz.prog (tbl [(115,sp_handFind),(99,sp_cloneHands)]) an_0 Tryz.f80 sp_handClose:=@Eq.mp _ _ @e_handClose @vcp_handClose
theorem ok_handClose:sp_handClose.ok Tryz.prog 80:=fn_sound (P:=Tryz.prog) (ss:=tbl [(115,sp_handFind),(99,sp_cloneHands)]) (ann:=an_0) (f:=80) (fn:=Tryz.f80) (s:=sp_handClose) (tbl_cons ok_handFind (tbl_cons ok_cloneHands tbl_nil)) Tryz.func80 @vc_handClose
def opened (h:List Slot) (i at_:Int):Slot:=((h.getD i.toNat (0,false,0)).1+1,true,at_)
def openF (h:List Slot) (at_:Int):List Slot×Int×Int :=
 if handsF h≠0 then ([],0,handsF h) else if there at_=false then ([],0,4) else if findFrom freeSlot 0 h<0 then ([],0,7)
 else (h.set (findFrom freeSlot 0 h).toNat (opened h (findFrom freeSlot 0 h) at_),handName (findFrom freeSlot 0 h) (opened h (findFrom freeSlot 0 h) at_),0)
def an_handOpen:Nat→Option LoopGen
 | 1000003=>some { rd:=[.dat 0 (.arr ty_Slot),.dat 1 ty_I],A:=fun ((h,at_):List Slot×Int)=>{ cs:=[.dat 7 ty_I],inv:=fun (e:Int)=>e=if handsF h≠0 then handsF h else if there at_=false then 4 else 0,mu:=fun _=>0 } }
 | _=>none
def sp_handOpen:Spec:={ Ts:=[.arr ty_Slot,ty_I],Rs:=[.own 87 ty_Slot,.dat ty_W,.dat ty_I],pre:=fun _=>True,F:=fun ((h,at_):List Slot×Int)=>openF h at_ }
def pv_handOpen:Prop :=
  ∀ (x:List (Int×Bool×Int)×Int),(x.1.length * ((8:Nat)+((8:Nat)+(8:Nat)))≤big∧∀ (x_1:Int×Bool×Int),x_1∈x.1→InR IntKind.i64 x_1.1∧True∧InR IntKind.i64 x_1.2.2)∧InR IntKind.i64 x.2→True→True∧(decide (handsF x.1=(0:Int))=true→True)∧(((decide (handsF x.1=(0:Int))&&!there x.2)=true→(4:Int)=if handsF x.1≠(0:Int) then handsF x.1 else if there x.2=false then (4:Int) else (0:Int))∧((decide (handsF x.1=(0:Int))&&!there x.2)=false→handsF x.1=if handsF x.1≠(0:Int) then handsF x.1 else if there x.2=false then (4:Int) else (0:Int)))∧∀ (x_1:Int),(x_1=if handsF x.1≠(0:Int) then handsF x.1 else if there x.2=false then (4:Int) else (0:Int))→(decide (x_1≠(0:Int))=true→([]:List (Int×Bool×Int))=(openF x.1 x.2).1∧(0:Int)=(openF x.1 x.2).2.1∧x_1=(openF x.1 x.2).2.2∧True)∧(decide (x_1≠(0:Int))=false→(∀ (s:Slot),s∈x.1→(fun (_:Int×Bool×Int)=>True,fun (x:Int×Bool×Int)=>freeSlot x).1 s)∧(decide (findFrom (fun (x:Int×Bool×Int)=>freeSlot x) (0:Int) x.1<(0:Int))=true→([]:List (Int×Bool×Int))=(openF x.1 x.2).1∧(0:Int)=(openF x.1 x.2).2.1∧(7:Int)=(openF x.1 x.2).2.2∧True)∧(decide (findFrom (fun (x:Int×Bool×Int)=>freeSlot x) (0:Int) x.1<(0:Int))=false→True∧(0:Int)≤findFrom (fun (x:Int×Bool×Int)=>freeSlot x) (0:Int) x.1∧findFrom (fun (x:Int×Bool×Int)=>freeSlot x) (0:Int) x.1<(↑x.1.length:Int)∧InR IntKind.i64 ((x.1.getD (findFrom (fun (x:Int×Bool×Int)=>freeSlot x) (0:Int) x.1).toNat ((0:Int),false,(0:Int))).1+(1:Int))∧(0:Int)≤findFrom (fun (x:Int×Bool×Int)=>freeSlot x) (0:Int) x.1∧findFrom (fun (x:Int×Bool×Int)=>freeSlot x) (0:Int) x.1<(↑x.1.length:Int)∧(findFrom (fun (x:Int×Bool×Int)=>freeSlot x) (0:Int) x.1).toNat<x.1.length∧(0:Int)≤findFrom (fun (x:Int×Bool×Int)=>freeSlot x) (0:Int) x.1∧findFrom (fun (x:Int×Bool×Int)=>freeSlot x) (0:Int) x.1<(↑(x.1.set (findFrom (fun (x:Int×Bool×Int)=>freeSlot x) (0:Int) x.1).toNat ((x.1.getD (findFrom (fun (x:Int×Bool×Int)=>freeSlot x) (0:Int) x.1).toNat ((0:Int),false,(0:Int))).1+(1:Int),true,x.2)).length:Int)∧(findFrom (fun (x:Int×Bool×Int)=>freeSlot x) (0:Int) x.1).toNat<(x.1.set (findFrom (fun (x:Int×Bool×Int)=>freeSlot x) (0:Int) x.1).toNat ((x.1.getD (findFrom (fun (x:Int×Bool×Int)=>freeSlot x) (0:Int) x.1).toNat ((0:Int),false,(0:Int))).1+(1:Int),true,x.2)).length∧((0:Int)≤findFrom (fun (x:Int×Bool×Int)=>freeSlot x) (0:Int) x.1∧findFrom (fun (x:Int×Bool×Int)=>freeSlot x) (0:Int) x.1<(65536:Int)∧(0:Int)≤((x.1.set (findFrom (fun (x:Int×Bool×Int)=>freeSlot x) (0:Int) x.1).toNat ((x.1.getD (findFrom (fun (x:Int×Bool×Int)=>freeSlot x) (0:Int) x.1).toNat ((0:Int),false,(0:Int))).1+(1:Int),true,x.2)).getD (findFrom (fun (x:Int×Bool×Int)=>freeSlot x) (0:Int) x.1).toNat ((0:Int),false,(0:Int))).1∧((x.1.set (findFrom (fun (x:Int×Bool×Int)=>freeSlot x) (0:Int) x.1).toNat ((x.1.getD (findFrom (fun (x:Int×Bool×Int)=>freeSlot x) (0:Int) x.1).toNat ((0:Int),false,(0:Int))).1+(1:Int),true,x.2)).getD (findFrom (fun (x:Int×Bool×Int)=>freeSlot x) (0:Int) x.1).toNat ((0:Int),false,(0:Int))).1≤(65535:Int))∧x.1.set (findFrom (fun (x:Int×Bool×Int)=>freeSlot x) (0:Int) x.1).toNat ((x.1.getD (findFrom (fun (x:Int×Bool×Int)=>freeSlot x) (0:Int) x.1).toNat ((0:Int),false,(0:Int))).1+(1:Int),true,x.2)=(openF x.1 x.2).1∧handName (findFrom (fun (x:Int×Bool×Int)=>freeSlot x) (0:Int) x.1) ((x.1.set (findFrom (fun (x:Int×Bool×Int)=>freeSlot x) (0:Int) x.1).toNat ((x.1.getD (findFrom (fun (x:Int×Bool×Int)=>freeSlot x) (0:Int) x.1).toNat ((0:Int),false,(0:Int))).1+(1:Int),true,x.2)).getD (findFrom (fun (x:Int×Bool×Int)=>freeSlot x) (0:Int) x.1).toNat ((0:Int),false,(0:Int)))=(openF x.1 x.2).2.1∧(0:Int)=(openF x.1 x.2).2.2∧True))
theorem vcp_handOpen:pv_handOpen:=by
 unfold pv_handOpen
 intro ⟨h,at_⟩ ⟨⟨_,hw⟩,ha⟩ _
 simp only at *
 refine ⟨trivial,fun _=>trivial,⟨fun hc=>by grind,fun hc=>by grind⟩,fun e he=>⟨fun hz=>by unfold openF; grind,fun hz=>?_⟩⟩
 have hz:e=0:=by simpa using hz
 have hf:handsF h=0:=by grind
 have ht:there at_=true:=by grind
 obtain ⟨z1,z2⟩:=handsF_zero hf
 have hO:openF h at_=if findFrom freeSlot 0 h<0 then ([],0,7) else (h.set (findFrom freeSlot 0 h).toNat (opened h (findFrom freeSlot 0 h) at_),handName (findFrom freeSlot 0 h) (opened h (findFrom freeSlot 0 h) at_),0):=by
  unfold openF
  simp [hf,ht]
 rw [hO]
 have hk:=findFrom_lt freeSlot ((0,false,0):Slot) h 0 (by omega)
 have hr:=findFrom_range freeSlot h 0
 have hg:=fun q=>findFrom_is freeSlot ((0,false,0):Slot) h 0 q (by omega)
 generalize findFrom freeSlot 0 h=i at *
 refine ⟨fun _ _=>trivial,fun hi=>by rw [if_pos (of_decide_eq_true hi)]; exact ⟨rfl,rfl,rfl,trivial⟩,fun hi=>?_⟩
 have hi:0≤i:=by have:=of_decide_eq_false hi; omega
 have hlt:i<h.length:=by omega
 have hgi:=hg hi
 have hm:=z2 _ (getD_mem ((0,false,0):Slot) hi hlt)
 simp only [Int.sub_zero] at hgi
 rw [if_neg (by omega)]
 have hgs:∀ v:Slot,(h.set i.toNat v).getD i.toNat (0,false,0)=v:=fun v=>by simp [show i.toNat<h.length by omega]
 simp only [hgs,List.length_set,opened]
 unfold freeSlot at hgi
 generalize h.getD i.toNat (0,false,0)=s at *
 simp only [Bool.and_eq_true,decide_eq_true_eq] at hgi
 refine ⟨trivial,by omega,by omega,by simp only [InR]; omega,by omega,by omega,by omega,by omega,by omega,by omega,⟨by omega,by omega,by omega,by omega⟩,by simp⟩
theorem e_handOpen:pv_handOpen=(fnVC Tryz.prog (tbl [(93,sp_handCheck),(111,sp_handThere),(112,sp_idxSlot),(99,sp_cloneHands),(114,sp_handName),(113,sp_freeSlot)]) an_handOpen Tryz.f77 sp_handOpen):=by kernel_rfl
theorem vc_handOpen:fnVC Tryz.prog (tbl [(93,sp_handCheck),(111,sp_handThere),(112,sp_idxSlot),(99,sp_cloneHands),(114,sp_handName),(113,sp_freeSlot)]) an_handOpen Tryz.f77 sp_handOpen:=@Eq.mp _ _ @e_handOpen @vcp_handOpen
theorem ok_handOpen:sp_handOpen.ok Tryz.prog 77:=fn_sound (P:=Tryz.prog) (ss:=tbl [(93,sp_handCheck),(111,sp_handThere),(112,sp_idxSlot),(99,sp_cloneHands),(114,sp_handName),(113,sp_freeSlot)]) (ann:=an_handOpen) (f:=77) (fn:=Tryz.f77) (s:=sp_handOpen) (tbl_cons ok_handCheck (tbl_cons ok_handThere (tbl_cons ok_idxSlot (tbl_cons ok_cloneHands (tbl_cons ok_handName (tbl_cons ok_freeSlot tbl_nil)))))) Tryz.func77 @vc_handOpen
theorem mapTo_len {α:Type} (f:α→α) (h:List α) (i:Nat):((h.take i).map f++h.drop i).length=h.length:=by simp; omega
theorem mapTo_get {α:Type} (f:α→α) (h:List α) (d:α) (i:Nat) (hi:i<h.length):((h.take i).map f++h.drop i).getD i d=h.getD i d:=by
 simp only [List.getD_eq_getElem?_getD]
 rw [List.getElem?_append_right (by simp; omega)]
 simp [show min i h.length=i by omega]
theorem mapTo_set {α:Type} (f:α→α) (h:List α) (d:α) (i:Nat) (hi:i<h.length):((h.take i).map f++h.drop i).set i (f (h.getD i d))=(h.take (i+1)).map f++h.drop (i+1):=by
 have l1:((h.take i).map f).length=i:=by simp; omega
 rw [List.set_append_right _ _ (by omega),l1,Nat.sub_self,List.drop_eq_getElem_cons hi,List.set_cons_zero,List.take_succ_eq_append_getElem hi,List.map_append,List.append_assoc]
 simp [hi]
theorem mapTo_keep {α:Type} (f:α→α) (h:List α) (d:α) (i:Nat) (hi:i<h.length) (hf:f (h.getD i d)=h.getD i d):(h.take i).map f++h.drop i=(h.take (i+1)).map f++h.drop (i+1):=by
 rw [← mapTo_set f h d i hi,hf]
 apply List.ext_getElem?
 intro j
 rw [List.getElem?_set]
 split
 ·rename_i e
  subst e
  have:=mapTo_get f h d i hi
  rw [if_pos (by rw [mapTo_len]; exact hi)]
  simp only [List.getD_eq_getElem?_getD] at this
  have hl:i<((h.take i).map f++h.drop i).length:=by rw [mapTo_len]; exact hi
  rw [List.getElem?_eq_getElem hl] at this ⊢
  simp only [Option.getD_some] at this
  rw [this]
  simp [hi]
 ·rfl
def sp_sameHands:Spec:={ Ts:=[.arr ty_Slot,.arr ty_Slot],Rs:=[.dat .bool],pre:=fun _=>True,F:=fun (x:List Slot×List Slot)=>decide (x.1=x.2) }
def an_sameHands:Nat→Option LoopGen
 | 4=>some { rd:=[.dat 0 (.arr ty_Slot),.dat 1 (.arr ty_Slot)],A:=fun (g:List Slot×List Slot)=>{ cs:=[.dat 13 ty_I],inv:=fun (i:Int)=>g.1.length=g.2.length∧0≤i∧i≤g.1.length∧g.1.take i.toNat=g.2.take i.toNat,mu:=fun (i:Int)=>(g.1.length - i).toNat } }
 | _=>none
def pv_sameHands:Prop :=
  ∀ (x:List (Int×Bool×Int)×List (Int×Bool×Int)),((x.1.length * ((8:Nat)+((8:Nat)+(8:Nat)))≤big∧∀ (x_1:Int×Bool×Int),x_1∈x.1→InR IntKind.i64 x_1.1∧True∧InR IntKind.i64 x_1.2.2)∧x.2.length * ((8:Nat)+((8:Nat)+(8:Nat)))≤big∧∀ (x_1:Int×Bool×Int),x_1∈x.2→InR IntKind.i64 x_1.1∧True∧InR IntKind.i64 x_1.2.2)→True→(decide ((↑x.1.length:Int)≠(↑x.2.length:Int))=true→false=decide (x.1=x.2)∧True)∧(decide ((↑x.1.length:Int)≠(↑x.2.length:Int))=false→(x.1.length=x.2.length∧(0:Int)≤(0:Int)∧(0:Int)≤(↑x.1.length:Int)∧List.take (Int.toNat (0:Int)) x.1=List.take (Int.toNat (0:Int)) x.2)∧∀ (x_1:Int),x.1.length=x.2.length∧(0:Int)≤x_1∧x_1≤(↑x.1.length:Int)∧List.take x_1.toNat x.1=List.take x_1.toNat x.2→(decide (x_1<(↑x.1.length:Int))=true→(0:Int)≤x_1∧x_1<(↑x.1.length:Int)∧(0:Int)≤x_1∧x_1<(↑x.2.length:Int)∧((!(decide ((x.1.getD x_1.toNat ((0:Int),false,(0:Int))).1=(x.2.getD x_1.toNat ((0:Int),false,(0:Int))).1)&&((x.1.getD x_1.toNat ((0:Int),false,(0:Int))).2.1 == (x.2.getD x_1.toNat ((0:Int),false,(0:Int))).2.1&&decide ((x.1.getD x_1.toNat ((0:Int),false,(0:Int))).2.2=(x.2.getD x_1.toNat ((0:Int),false,(0:Int))).2.2))))=true→false=decide (x.1=x.2)∧True)∧((!(decide ((x.1.getD x_1.toNat ((0:Int),false,(0:Int))).1=(x.2.getD x_1.toNat ((0:Int),false,(0:Int))).1)&&((x.1.getD x_1.toNat ((0:Int),false,(0:Int))).2.1 == (x.2.getD x_1.toNat ((0:Int),false,(0:Int))).2.1&&decide ((x.1.getD x_1.toNat ((0:Int),false,(0:Int))).2.2=(x.2.getD x_1.toNat ((0:Int),false,(0:Int))).2.2))))=false→InR IntKind.i64 (x_1+(1:Int))∧(x.1.length=x.2.length∧(0:Int)≤x_1+(1:Int)∧x_1+(1:Int)≤(↑x.1.length:Int)∧List.take (x_1+(1:Int)).toNat x.1=List.take (x_1+(1:Int)).toNat x.2)∧((↑x.1.length:Int) - (x_1+(1:Int))).toNat<((↑x.1.length:Int) - x_1).toNat))∧(decide (x_1<(↑x.1.length:Int))=false→true=decide (x.1=x.2)∧True))
theorem vcp_sameHands:pv_sameHands:=by
 unfold pv_sameHands
 intro ⟨a,b⟩ ⟨⟨hb,_⟩,_⟩ _
 unfold big at hb
 simp only at *
 refine ⟨fun h=>?_,fun h=>?_⟩
 ·have h:a.length≠b.length:=by have:=of_decide_eq_true h; omega
  have:a≠b:=fun e=>h (by rw [e])
  simp [this]
 have hl:a.length=b.length:=by have:=of_decide_eq_false h; omega
 refine ⟨⟨hl,by omega,by omega,by simp⟩,fun i ⟨_,h0,h1,ht⟩=>⟨fun hlt=>?_,fun hge=>?_⟩⟩
 ·have hlt:i<a.length:=by simpa using hlt
  have key:∀ s t:Slot,(!(decide (s.1=t.1)&&(s.2.1 == t.2.1&&decide (s.2.2=t.2.2))))=decide (s≠t):=by
   rintro ⟨s1,s2,s3⟩ ⟨t1,t2,t3⟩
   simp only [ne_eq,Prod.mk.injEq]
   by_cases e1:s1=t1 <;> by_cases e2:s2=t2 <;> by_cases e3:s3=t3 <;> simp [e1,e2,e3]
  simp only [key]
  refine ⟨h0,hlt,h0,by omega,fun hne=>?_,fun he=>?_⟩
  ·have hne:a.getD i.toNat (0,false,0)≠b.getD i.toNat (0,false,0):=of_decide_eq_true hne
   have:a≠b:=fun e=>hne (by rw [e])
   simp [this]
  ·have he:a.getD i.toNat (0,false,0)=b.getD i.toNat (0,false,0):=Classical.not_not.1 (of_decide_eq_false he)
   refine ⟨by simp only [InR]; omega,⟨hl,by omega,by omega,?_⟩,by omega⟩
   rw [show (i+1).toNat=i.toNat+1 by omega]
   exact take_step hl (by omega) ht he
 ·have hge:¬ i<a.length:=by simpa using hge
  have hi:i.toNat=a.length:=by omega
  rw [hi,List.take_of_length_le (Nat.le_refl _),List.take_of_length_le (by omega)] at ht
  simp [ht]
theorem e_sameHands:pv_sameHands=(fnVC Tryz.prog (tbl []) an_sameHands Tryz.f71 sp_sameHands):=by kernel_rfl
theorem vc_sameHands:fnVC Tryz.prog (tbl []) an_sameHands Tryz.f71 sp_sameHands:=@Eq.mp _ _ @e_sameHands @vcp_sameHands
theorem ok_sameHands:sp_sameHands.ok Tryz.prog 71:=fn_sound (P:=Tryz.prog) (ss:=tbl []) (ann:=an_sameHands) (f:=71) (fn:=Tryz.f71) (s:=sp_sameHands) tbl_nil Tryz.func71 @vc_sameHands
def handOfFrom (n:Int):Int→List Slot→Int
 | _,[]=>-1
 | k,s::l=>if s.2.1=true∧handName k s=n then k else handOfFrom n (k+1) l
def sp_handOf:Spec:={ Ts:=[.arr ty_Slot,ty_W],Rs:=[.dat ty_I],pre:=fun ((h,_):List Slot×Int)=>handsF h=0,F:=fun ((h,n):List Slot×Int)=>handOfFrom n 0 h }
def an_handOf:Nat→Option LoopGen
 | 2=>some { rd:=[.dat 7 (.arr ty_Slot),.dat 1 ty_W],A:=fun ((h,n):List Slot×Int)=>{ cs:=[.dat 9 ty_I],inv:=fun (i:Int)=>0≤i∧i≤h.length∧handsF h=0∧handOfFrom n i (h.drop i.toNat)=handOfFrom n 0 h,mu:=fun (i:Int)=>(h.length - i).toNat } }
 | _=>none
def pv_handOf:Prop :=
  ∀ (x:List (Int×Bool×Int)×Int),(x.1.length * ((8:Nat)+((8:Nat)+(8:Nat)))≤big∧∀ (x_1:Int×Bool×Int),x_1∈x.1→InR IntKind.i64 x_1.1∧True∧InR IntKind.i64 x_1.2.2)∧InR IntKind.u64 x.2→handsF x.1=(0:Int)→((0:Int)≤(0:Int)∧(0:Int)≤(↑x.1.length:Int)∧handsF x.1=(0:Int)∧handOfFrom x.2 (0:Int) (List.drop (Int.toNat (0:Int)) x.1)=handOfFrom x.2 (0:Int) x.1)∧∀ (x_1:Int),(0:Int)≤x_1∧x_1≤(↑x.1.length:Int)∧handsF x.1=(0:Int)∧handOfFrom x.2 x_1 (List.drop x_1.toNat x.1)=handOfFrom x.2 (0:Int) x.1→(decide (x_1<(↑x.1.length:Int))=true→(0:Int)≤x_1∧x_1<(↑x.1.length:Int)∧((x.1.getD x_1.toNat ((0:Int),false,(0:Int))).2.1=true→(0:Int)≤x_1∧x_1<(65536:Int)∧(0:Int)≤(x.1.getD x_1.toNat ((0:Int),false,(0:Int))).1∧(x.1.getD x_1.toNat ((0:Int),false,(0:Int))).1≤(65535:Int))∧(((x.1.getD x_1.toNat ((0:Int),false,(0:Int))).2.1&&decide (handName x_1 (x.1.getD x_1.toNat ((0:Int),false,(0:Int)))=x.2))=true→x_1=handOfFrom x.2 (0:Int) x.1∧True)∧(((x.1.getD x_1.toNat ((0:Int),false,(0:Int))).2.1&&decide (handName x_1 (x.1.getD x_1.toNat ((0:Int),false,(0:Int)))=x.2))=false→InR IntKind.i64 (x_1+(1:Int))∧((0:Int)≤x_1+(1:Int)∧x_1+(1:Int)≤(↑x.1.length:Int)∧handsF x.1=(0:Int)∧handOfFrom x.2 (x_1+(1:Int)) (List.drop (x_1+(1:Int)).toNat x.1)=handOfFrom x.2 (0:Int) x.1)∧((↑x.1.length:Int) - (x_1+(1:Int))).toNat<((↑x.1.length:Int) - x_1).toNat))∧(decide (x_1<(↑x.1.length:Int))=false→(-1:Int)=handOfFrom x.2 (0:Int) x.1∧True)
theorem vcp_handOf:pv_handOf:=by
 unfold pv_handOf
 intro ⟨h,n⟩ ⟨⟨_,_⟩,_⟩ hf
 simp only at *
 obtain ⟨z1,z2⟩:=handsF_zero hf
 refine ⟨⟨by omega,by omega,hf,by simp⟩,fun i ⟨h0,h1,_,h3⟩=>⟨fun hlt=>?_,fun hge=>?_⟩⟩
 ·have hlt:i<(h.length:Int):=by simpa using hlt
  have hm:=z2 _ (getD_mem ((0,false,0):Slot) h0 hlt)
  rw [drop_cons ((0,false,0):Slot) h0 hlt] at h3
  simp only [handOfFrom] at h3
  generalize h.getD i.toNat (0,false,0)=s at *
  refine ⟨h0,hlt,fun _=>⟨h0,by omega,hm.1,by omega⟩,fun hc=>?_,fun hc=>⟨by simp only [InR]; omega,⟨by omega,by omega,hf,?_⟩,by omega⟩⟩
  ·rw [if_pos (by simpa using hc)] at h3
   exact ⟨h3,trivial⟩
  ·rw [if_neg (by simpa using hc)] at h3
   exact h3
 ·have hge:¬ i<(h.length:Int):=by simpa using hge
  rw [drop_end hge] at h3
  exact ⟨h3,trivial⟩
theorem e_handOf:pv_handOf=(fnVC Tryz.prog (tbl [(66,sp_rHandName)]) an_handOf Tryz.f67 sp_handOf):=by kernel_rfl
theorem vc_handOf:fnVC Tryz.prog (tbl [(66,sp_rHandName)]) an_handOf Tryz.f67 sp_handOf:=@Eq.mp _ _ @e_handOf @vcp_handOf
theorem ok_handOf:sp_handOf.ok Tryz.prog 67:=fn_sound (P:=Tryz.prog) (ss:=tbl [(66,sp_rHandName)]) (ann:=an_handOf) (f:=67) (fn:=Tryz.f67) (s:=sp_handOf) (tbl_cons ok_rHandName tbl_nil) Tryz.func67 @vc_handOf
end Go.Proofs.YtglchojglcobjaaGreat
