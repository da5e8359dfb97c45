
import Derived.Test.YtglchojglcobjaaGreatStoreOps
namespace Go.Proofs.YtglchojglcobjaaGreat
open Go
set_option maxRecDepth 100000
set_option maxHeartbeats 1000000
def an_rSwept:Nat→Option LoopGen
 | 3000051=>some an_in
 | 5204000001=>some an_in
 | 3=>some { rd:=[.dat 14 (.arr ty_Pin)],A:=fun (p:List Pin)=>{ cs:=[.own 3 3 ty_I,.dat 16 ty_I],inv:=fun ((o,i):List Int×Int)=>0≤i∧i≤p.length∧o=(p.take i.toNat).map (·.1),mu:=fun ((_,i):List Int×Int)=>(p.length - i).toNat } }
 | 12=>some { rd:=[.box 1 ty_Store],A:=fun (s:StoreD)=>{ cs:=[.boxS 8 [.own 50 ty_W,.own 3 ty_I,.own 89 ty_Pin,.own 87 ty_Slot],.dat 50 ty_I],inv:=fun ((b,i):StoreD×Int)=>0≤i∧i≤s.2.1.length∧b=(slidA s,(s.2.1.take i.toNat).map (rootTo s)++s.2.1.drop i.toNat,s.2.2),mu:=fun ((_,i):StoreD×Int)=>(s.2.1.length - i).toNat } }
 | 18=>some { rd:=[.box 1 ty_Store],A:=fun (s:StoreD)=>{ cs:=[.boxS 8 [.own 50 ty_W,.own 3 ty_I,.own 89 ty_Pin,.own 87 ty_Slot],.dat 71 ty_I],inv:=fun ((b,i):StoreD×Int)=>0≤i∧i≤s.2.2.2.length∧b=(slidA s,s.2.1.map (rootTo s),s.2.2.1,(s.2.2.2.take i.toNat).map (handTo s)++s.2.2.2.drop i.toNat),mu:=fun ((_,i):StoreD×Int)=>(s.2.2.2.length - i).toNat } }
 | _=>none
def sp_rSwept:Spec:={ Ts:=[ty_Store],Rs:=[.dat ty_Store],al:=true,pre:=fun (s:StoreD)=>storeF s=0,F:=sweptS }
def pv_rSwept:Prop :=
  ∀ (x:List Int×List Int×List (Int×Int)×List (Int×Bool×Int)),((x.1.length * (8:Nat)≤big∧∀ (x_1:Int),x_1∈x.1→InR IntKind.u64 x_1)∧(x.2.1.length * (8:Nat)≤big∧∀ (x_1:Int),x_1∈x.2.1→InR IntKind.i64 x_1)∧(x.2.2.1.length * ((8:Nat)+(8:Nat))≤big∧∀ (x_1:Int×Int),x_1∈x.2.2.1→InR IntKind.i64 x_1.1∧InR IntKind.i64 x_1.2)∧x.2.2.2.length * ((8:Nat)+((8:Nat)+(8:Nat)))≤big∧∀ (x_1:Int×Bool×Int),x_1∈x.2.2.2→InR IntKind.i64 x_1.1∧True∧InR IntKind.i64 x_1.2.2)→storeF x=(0:Int)→((0:Int)≤(0:Int)∧(0:Int)≤(↑x.2.2.1.length:Int)∧([]:List Int)=List.map (fun (x:Pin)=>x.1) (List.take (Int.toNat (0:Int)) x.2.2.1))∧∀ (x_1:List Int×Int),(0:Int)≤x_1.2∧x_1.2≤(↑x.2.2.1.length:Int)∧x_1.1=List.map (fun (x:Pin)=>x.1) (List.take x_1.2.toNat x.2.2.1)→(decide (x_1.2<(↑x.2.2.1.length:Int))=true→(0:Int)≤x_1.2∧x_1.2<(↑x.2.2.1.length:Int)∧(x_1.1.length+[(x.2.2.1.getD x_1.2.toNat ((0:Int),(0:Int))).1].length) * (8:Nat)≤big∧InR IntKind.i64 (x_1.2+(1:Int))∧((0:Int)≤x_1.2+(1:Int)∧x_1.2+(1:Int)≤(↑x.2.2.1.length:Int)∧x_1.1++[(x.2.2.1.getD x_1.2.toNat ((0:Int),(0:Int))).1]=List.map (fun (x:Pin)=>x.1) (List.take (x_1.2+(1:Int)).toNat x.2.2.1))∧((↑x.2.2.1.length:Int) - (x_1.2+(1:Int))).toNat<((↑x.2.2.1.length:Int) - x_1.2).toNat)∧(decide (x_1.2<(↑x.2.2.1.length:Int))=false→(x.2.1.length≤(32:Nat)∧x.2.2.1.length≤(16:Nat)∧x.2.2.2.length≤(16:Nat))∧(fromFault x.1 (risingL (namesS x) (256:Nat))=(0:Int)∧((risingL (namesS x) (256:Nat)).length+(256:Nat)) * (8:Nat)≤(140737488355328:Nat))∧planPre (reachL x.1 (risingL (namesS x) (256:Nat))) (List.map (lgOf (spotsF x.1).1) (reachL x.1 (risingL (namesS x) (256:Nat))))∧∀ (_:Array Value),True∧x.2.1.length * (8:Nat)≤big∧x.2.2.1.length * ((8:Nat)+(8:Nat))≤big∧x.2.1=x.2.1∧x.2.2.1=x.2.2.1∧x.2.2.1=x.2.2.1∧x.2.2.2=x.2.2.2∧x.2.2.2=x.2.2.2∧x.2.2.2=x.2.2.2∧x.2.2.2.length * ((8:Nat)+((8:Nat)+(8:Nat)))≤big∧(longsF x.1 (reachL x.1 (risingL (namesS x) (256:Nat))) x_1.1).2=(0:Int)∧((0:Int)≤(0:Int)∧(0:Int)≤(↑x.2.1.length:Int)∧((slidR x.1 (reachL x.1 (risingL (namesS x) (256:Nat))) x_1.1).1,x.2)=(slidA x,List.map (rootTo x) (List.take (Int.toNat (0:Int)) x.2.1)++List.drop (Int.toNat (0:Int)) x.2.1,x.2.2))∧∀ (x_2:(List Int×List Int×List (Int×Int)×List (Int×Bool×Int))×Int),(0:Int)≤x_2.2∧x_2.2≤(↑x.2.1.length:Int)∧x_2.1=(slidA x,List.map (rootTo x) (List.take x_2.2.toNat x.2.1)++List.drop x_2.2.toNat x.2.1,x.2.2)→(decide (x_2.2<(↑x.2.1.length:Int))=true→(0:Int)≤x_2.2∧x_2.2<(↑x.2.1.length:Int)∧(decide ((0:Int)≤x.2.1.getD x_2.2.toNat (0:Int))=true→True∧(0:Int)≤place (reachL x.1 (risingL (namesS x) (256:Nat))) (x.2.1.getD x_2.2.toNat (0:Int))∧place (reachL x.1 (risingL (namesS x) (256:Nat))) (x.2.1.getD x_2.2.toNat (0:Int))<(↑(planS (reachL x.1 (risingL (namesS x) (256:Nat))) (List.map (lgOf (spotsF x.1).1) (reachL x.1 (risingL (namesS x) (256:Nat)))) x_1.1).length:Int)∧(place (reachL x.1 (risingL (namesS x) (256:Nat))) (x.2.1.getD x_2.2.toNat (0:Int))).toNat<(planS (reachL x.1 (risingL (namesS x) (256:Nat))) (List.map (lgOf (spotsF x.1).1) (reachL x.1 (risingL (namesS x) (256:Nat)))) x_1.1).length∧(0:Int)≤x_2.2∧x_2.2<(↑x_2.1.2.1.length:Int)∧x_2.2.toNat<x_2.1.2.1.length∧InR IntKind.i64 (x_2.2+(1:Int))∧((0:Int)≤x_2.2+(1:Int)∧x_2.2+(1:Int)≤(↑x.2.1.length:Int)∧(x_2.1.1,x_2.1.2.1.set x_2.2.toNat ((planS (reachL x.1 (risingL (namesS x) (256:Nat))) (List.map (lgOf (spotsF x.1).1) (reachL x.1 (risingL (namesS x) (256:Nat)))) x_1.1).getD (place (reachL x.1 (risingL (namesS x) (256:Nat))) (x.2.1.getD x_2.2.toNat (0:Int))).toNat (0:Int)),x_2.1.2.2)=(slidA x,List.map (rootTo x) (List.take (x_2.2+(1:Int)).toNat x.2.1)++List.drop (x_2.2+(1:Int)).toNat x.2.1,x.2.2))∧((↑x.2.1.length:Int) - (x_2.2+(1:Int))).toNat<((↑x.2.1.length:Int) - x_2.2).toNat)∧(decide ((0:Int)≤x.2.1.getD x_2.2.toNat (0:Int))=false→InR IntKind.i64 (x_2.2+(1:Int))∧((0:Int)≤x_2.2+(1:Int)∧x_2.2+(1:Int)≤(↑x.2.1.length:Int)∧x_2.1=(slidA x,List.map (rootTo x) (List.take (x_2.2+(1:Int)).toNat x.2.1)++List.drop (x_2.2+(1:Int)).toNat x.2.1,x.2.2))∧((↑x.2.1.length:Int) - (x_2.2+(1:Int))).toNat<((↑x.2.1.length:Int) - x_2.2).toNat))∧(decide (x_2.2<(↑x.2.1.length:Int))=false→((0:Int)≤(0:Int)∧(0:Int)≤(↑x.2.2.2.length:Int)∧x_2.1=(slidA x,List.map (rootTo x) x.2.1,x.2.2.1,List.map (handTo x) (List.take (Int.toNat (0:Int)) x.2.2.2)++List.drop (Int.toNat (0:Int)) x.2.2.2))∧∀ (x_3:(List Int×List Int×List (Int×Int)×List (Int×Bool×Int))×Int),(0:Int)≤x_3.2∧x_3.2≤(↑x.2.2.2.length:Int)∧x_3.1=(slidA x,List.map (rootTo x) x.2.1,x.2.2.1,List.map (handTo x) (List.take x_3.2.toNat x.2.2.2)++List.drop x_3.2.toNat x.2.2.2)→(decide (x_3.2<(↑x.2.2.2.length:Int))=true→(0:Int)≤x_3.2∧x_3.2<(↑x.2.2.2.length:Int)∧((x.2.2.2.getD x_3.2.toNat ((0:Int),false,(0:Int))).2.1=true→True∧(0:Int)≤place (reachL x.1 (risingL (namesS x) (256:Nat))) (x.2.2.2.getD x_3.2.toNat ((0:Int),false,(0:Int))).2.2∧place (reachL x.1 (risingL (namesS x) (256:Nat))) (x.2.2.2.getD x_3.2.toNat ((0:Int),false,(0:Int))).2.2<(↑(planS (reachL x.1 (risingL (namesS x) (256:Nat))) (List.map (lgOf (spotsF x.1).1) (reachL x.1 (risingL (namesS x) (256:Nat)))) x_1.1).length:Int)∧(place (reachL x.1 (risingL (namesS x) (256:Nat))) (x.2.2.2.getD x_3.2.toNat ((0:Int),false,(0:Int))).2.2).toNat<(planS (reachL x.1 (risingL (namesS x) (256:Nat))) (List.map (lgOf (spotsF x.1).1) (reachL x.1 (risingL (namesS x) (256:Nat)))) x_1.1).length∧(0:Int)≤x_3.2∧x_3.2<(↑x_3.1.2.2.2.length:Int)∧x_3.2.toNat<x_3.1.2.2.2.length∧InR IntKind.i64 (x_3.2+(1:Int))∧((0:Int)≤x_3.2+(1:Int)∧x_3.2+(1:Int)≤(↑x.2.2.2.length:Int)∧(x_3.1.1,x_3.1.2.1,x_3.1.2.2.1,x_3.1.2.2.2.set x_3.2.toNat ((x_3.1.2.2.2.getD x_3.2.toNat ((0:Int),false,(0:Int))).1,(x_3.1.2.2.2.getD x_3.2.toNat ((0:Int),false,(0:Int))).2.1,(planS (reachL x.1 (risingL (namesS x) (256:Nat))) (List.map (lgOf (spotsF x.1).1) (reachL x.1 (risingL (namesS x) (256:Nat)))) x_1.1).getD (place (reachL x.1 (risingL (namesS x) (256:Nat))) (x.2.2.2.getD x_3.2.toNat ((0:Int),false,(0:Int))).2.2).toNat (0:Int)))=(slidA x,List.map (rootTo x) x.2.1,x.2.2.1,List.map (handTo x) (List.take (x_3.2+(1:Int)).toNat x.2.2.2)++List.drop (x_3.2+(1:Int)).toNat x.2.2.2))∧((↑x.2.2.2.length:Int) - (x_3.2+(1:Int))).toNat<((↑x.2.2.2.length:Int) - x_3.2).toNat)∧((x.2.2.2.getD x_3.2.toNat ((0:Int),false,(0:Int))).2.1=false→InR IntKind.i64 (x_3.2+(1:Int))∧((0:Int)≤x_3.2+(1:Int)∧x_3.2+(1:Int)≤(↑x.2.2.2.length:Int)∧x_3.1=(slidA x,List.map (rootTo x) x.2.1,x.2.2.1,List.map (handTo x) (List.take (x_3.2+(1:Int)).toNat x.2.2.2)++List.drop (x_3.2+(1:Int)).toNat x.2.2.2))∧((↑x.2.2.2.length:Int) - (x_3.2+(1:Int))).toNat<((↑x.2.2.2.length:Int) - x_3.2).toNat))∧(decide (x_3.2<(↑x.2.2.2.length:Int))=false→x_3.1=sweptS x∧True)))
theorem vcp_rSwept:pv_rSwept:=by
 unfold pv_rSwept
 intro s ⟨⟨hb,hw⟩,⟨hb2,_⟩,⟨hb3,_⟩,hb4,_⟩ hs
 have R:=right_of hw hs
 have hre:=R.reached
 have hfo:=R.fromOK
 have hsm:=R.small
 have hlg:=R.longs
 have hpl:=R.plan
 have hsl:(slidR s.1 (keepS s) (pinsOf s)).1=slidA s:=rfl
 have hto:∀ x,(planS (keepS s) (longS s) (pinsOf s)).getD (place (keepS s) x).toNat 0=toT s x:=fun _=>rfl
 have hkl:(planS (keepS s) (longS s) (pinsOf s)).length=(keepS s).length:=by simp [planS]
 have hpi:=fun {x} (hx:x∈namesS s)=>place_in (R.keepIn hx)
 have hln:List.map (lgOf (spotsF s.1).1) (keepS s)=longS s:=rfl
 have hpo:List.map (fun (x:Pin)=>x.1) s.2.2.1=pinsOf s:=rfl
 have hrl:(risingL (namesS s) 256).length≤256:=by
  have:=cnt_le (namesS s)
  exact this
 unfold big at hb hb2 hb3 hb4 ⊢
 refine ⟨⟨by omega,by omega,by simp⟩,fun ⟨o,i⟩ ⟨i0,i1,i2⟩=>⟨fun hlt=>?_,fun hge=>?_⟩⟩
 ·simp only at i0 i1 i2 hlt ⊢
  have hlt:=of_decide_eq_true hlt
  have ht:=take_snoc ((0,0):Pin) i0 hlt
  have hl:o.length=i.toNat:=by rw [i2]; simp; omega
  rw [ht,List.map_append,← i2]
  simp only [InR,List.length_singleton]
  exact ⟨i0,hlt,by omega,by omega,⟨by omega,by omega,by trivial⟩,by omega⟩
 simp only at i0 i1 i2 hge ⊢
 rw [take_end (of_decide_eq_false hge),hpo] at i2
 subst i2
 rw [hre,hln,hlg,hsl]
 simp only [hto,hkl]
 refine ⟨hsm,⟨hfo,by omega⟩,hpl.pre,fun tm=>⟨trivial,by omega,by omega,by trivial,by trivial,by trivial,by trivial,by trivial,by trivial,by omega,trivial,⟨by omega,by omega,by simp⟩,fun ⟨b,i⟩ ⟨i0,i1,i2⟩=>⟨fun hlt=>?_,fun hge=>?_⟩⟩⟩
 ·simp only at i0 i1 i2 hlt ⊢
  have hlt2:=of_decide_eq_true hlt
  have hil:i.toNat<s.2.1.length:=by omega
  subst i2
  simp only [InR]
  rw [mapTo_len,show (i+1).toNat=i.toNat+1 by omega]
  refine ⟨i0,hlt2,fun h0=>?_,fun h0=>?_⟩
  ·have h0:=of_decide_eq_true h0
   have hp:=hpi (R.rootNam i0 hlt2 h0)
   have e:toT s (s.2.1.getD i.toNat 0)=rootTo s (s.2.1.getD i.toNat 0):=by unfold rootTo; rw [if_pos h0]
   rw [e,mapTo_set _ _ _ _ hil]
   exact ⟨trivial,by omega,by omega,by omega,by omega,by omega,by omega,by omega,⟨by omega,by omega,by trivial⟩,by omega⟩
  ·have h0:=of_decide_eq_false h0
   rw [mapTo_keep (rootTo s) s.2.1 0 i.toNat hil (by unfold rootTo; rw [if_neg h0])]
   exact ⟨by omega,⟨by omega,by omega,by trivial⟩,by omega⟩
 simp only at i0 i1 i2 hge ⊢
 have hge:=of_decide_eq_false hge
 have hil:s.2.1.length≤i.toNat:=by omega
 rw [List.take_of_length_le hil,List.drop_of_length_le hil,List.append_nil] at i2
 subst i2
 refine ⟨⟨by omega,by omega,by simp⟩,fun ⟨b,j⟩ ⟨j0,j1,j2⟩=>⟨fun hlt=>?_,fun hge=>?_⟩⟩
 ·simp only at j0 j1 j2 hlt ⊢
  have hlt2:=of_decide_eq_true hlt
  have hjl:j.toNat<s.2.2.2.length:=by omega
  subst j2
  simp only [InR]
  rw [mapTo_len,mapTo_get _ _ _ _ hjl,show (j+1).toNat=j.toNat+1 by omega]
  refine ⟨j0,hlt2,fun h0=>?_,fun h0=>?_⟩
  ·have hp:=hpi (R.handNam j0 hlt2 h0)
   have e:((s.2.2.2.getD j.toNat (0,false,0)).1,(s.2.2.2.getD j.toNat (0,false,0)).2.1,toT s (s.2.2.2.getD j.toNat (0,false,0)).2.2)=handTo s (s.2.2.2.getD j.toNat (0,false,0)):=by unfold handTo; rw [if_pos h0]
   rw [e,mapTo_set _ _ _ _ hjl]
   exact ⟨trivial,by omega,by omega,by omega,by omega,by omega,by omega,by omega,⟨by omega,by omega,by trivial⟩,by omega⟩
  ·rw [mapTo_keep (handTo s) s.2.2.2 (0,false,0) j.toNat hjl (by unfold handTo; rw [if_neg (by rw [h0]; simp)])]
   exact ⟨by omega,⟨by omega,by omega,by trivial⟩,by omega⟩
 ·simp only at j0 j1 j2 hge ⊢
  have hge:=of_decide_eq_false hge
  have hjl:s.2.2.2.length≤j.toNat:=by omega
  rw [List.take_of_length_le hjl,List.drop_of_length_le hjl,List.append_nil] at j2
  exact ⟨j2,trivial⟩
theorem e_rSwept:pv_rSwept=(fnVC Tryz.prog (tbl [(13,sp_rStoreFrom),(12,sp_rReached),(50,sp_planned),(86,sp_refClone),(52,sp_rSlid),(53,sp_rPlace)]) an_rSwept Tryz.f15 sp_rSwept):=by kernel_rfl
theorem vc_rSwept:fnVC Tryz.prog (tbl [(13,sp_rStoreFrom),(12,sp_rReached),(50,sp_planned),(86,sp_refClone),(52,sp_rSlid),(53,sp_rPlace)]) an_rSwept Tryz.f15 sp_rSwept:=@Eq.mp _ _ @e_rSwept @vcp_rSwept
theorem ok_rSwept:sp_rSwept.ok Tryz.prog 15:=fn_sound (P:=Tryz.prog) (ss:=tbl [(13,sp_rStoreFrom),(12,sp_rReached),(50,sp_planned),(86,sp_refClone),(52,sp_rSlid),(53,sp_rPlace)]) (ann:=an_rSwept) (f:=15) (fn:=Tryz.f15) (s:=sp_rSwept) (tbl_cons ok_rStoreFrom (tbl_cons ok_rReached (tbl_cons ok_planned (tbl_cons ok_refClone (tbl_cons ok_rSlid (tbl_cons ok_rPlace tbl_nil)))))) Tryz.func15 @vc_rSwept
def an_rFreeWords:Nat→Option LoopGen
 | 3=>some { rd:=[.own 7 42 ty_Gap],A:=fun (g:List Gap)=>{ cs:=[.dat 3 ty_I,.dat 9 ty_I],inv:=fun ((n,i):Int×Int)=>0≤i∧i≤g.length∧g.length≤256∧(∀ r∈g,0≤r.2∧r.2≤256)∧n=sumG (g.take i.toNat)∧0≤n∧n≤256 * i,mu:=fun ((_,i):Int×Int)=>(g.length - i).toNat } }
 | _=>none
def sp_rFreeWords:Spec:={ Ts:=[.arr ty_W],Rs:=[.dat ty_I],pre:=fun (a:List Int)=>(spotsF a).2=0,F:=fun (a:List Int)=>sumG (gapsL false [] (spotsF a).1) }
def pv_rFreeWords:Prop :=
  ∀ (x:List Int),(x.length * (8:Nat)≤big∧∀ (x_1:Int),x_1∈x→InR IntKind.u64 x_1)→(spotsF x).2=(0:Int)→x.length≤(256:Nat)∧((0:Int)≤(0:Int)∧(0:Int)≤(↑(gapsOfL x).length:Int)∧(gapsOfL x).length≤(256:Nat)∧(∀ (r:Gap),r∈gapsOfL x→(0:Int)≤r.2∧r.2≤(256:Int))∧(0:Int)=sumG (List.take (Int.toNat (0:Int)) (gapsOfL x))∧(0:Int)≤(0:Int)∧(0:Int)≤(256:Int) * (0:Int))∧∀ (x_1:Int×Int),(0:Int)≤x_1.2∧x_1.2≤(↑(gapsOfL x).length:Int)∧(gapsOfL x).length≤(256:Nat)∧(∀ (r:Gap),r∈gapsOfL x→(0:Int)≤r.2∧r.2≤(256:Int))∧x_1.1=sumG (List.take x_1.2.toNat (gapsOfL x))∧(0:Int)≤x_1.1∧x_1.1≤(256:Int) * x_1.2→(decide (x_1.2<(↑(gapsOfL x).length:Int))=true→(0:Int)≤x_1.2∧x_1.2<(↑(gapsOfL x).length:Int)∧x_1.2.toNat<(gapsOfL x).length∧InR IntKind.i64 (x_1.1+((gapsOfL x).getD x_1.2.toNat ((0:Int),(0:Int))).2)∧InR IntKind.i64 (x_1.2+(1:Int))∧((0:Int)≤x_1.2+(1:Int)∧x_1.2+(1:Int)≤(↑(gapsOfL x).length:Int)∧(gapsOfL x).length≤(256:Nat)∧(∀ (r:Gap),r∈gapsOfL x→(0:Int)≤r.2∧r.2≤(256:Int))∧x_1.1+((gapsOfL x).getD x_1.2.toNat ((0:Int),(0:Int))).2=sumG (List.take (x_1.2+(1:Int)).toNat (gapsOfL x))∧(0:Int)≤x_1.1+((gapsOfL x).getD x_1.2.toNat ((0:Int),(0:Int))).2∧x_1.1+((gapsOfL x).getD x_1.2.toNat ((0:Int),(0:Int))).2≤(256:Int) * (x_1.2+(1:Int)))∧((↑(gapsOfL x).length:Int) - (x_1.2+(1:Int))).toNat<((↑(gapsOfL x).length:Int) - x_1.2).toNat)∧(decide (x_1.2<(↑(gapsOfL x).length:Int))=false→x_1.1=sumG (gapsL false ([]:List Gap) (spotsF x).1)∧True)
theorem vcp_rFreeWords:pv_rFreeWords:=by
 unfold pv_rFreeWords
 intro a hx hs
 have hg:=gaps_same hs
 obtain ⟨g1,g2⟩:=gaps_in hs
 obtain ⟨hal,_⟩:=spotsF_in hs
 rw [hg]
 have hgi:∀ r∈gapsL false [] (spotsF a).1,0≤r.2∧r.2≤256:=fun r hr=>by have:=g1 r hr; omega
 generalize gapsL false [] (spotsF a).1=g at *
 refine ⟨hal,⟨by omega,by omega,g2,hgi,by trivial,by omega,by omega⟩,fun ⟨n,j⟩ ⟨j0,j1,_,_,j2,j3,j4⟩=>⟨fun hlt=>?_,fun hge=>?_⟩⟩
 ·simp only at j0 j1 j2 j3 j4 hlt ⊢
  have hlt:=of_decide_eq_true hlt
  have hm:=hgi _ (getD_mem ((0,0):Gap) j0 hlt)
  rw [sumG_take j0 hlt,← j2]
  generalize (g.getD j.toNat (0,0)).2=y at *
  simp only [InR]
  exact ⟨j0,hlt,by omega,by omega,by omega,⟨by omega,by omega,g2,hgi,by trivial,by omega,by omega⟩,by omega⟩
 ·simp only at j0 j1 j2 hge ⊢
  rw [take_end (of_decide_eq_false hge)] at j2
  exact ⟨j2,trivial⟩
theorem e_rFreeWords:pv_rFreeWords=(fnVC Tryz.prog (tbl [(14,sp_rGapsOf)]) an_rFreeWords Tryz.f62 sp_rFreeWords):=by kernel_rfl
theorem vc_rFreeWords:fnVC Tryz.prog (tbl [(14,sp_rGapsOf)]) an_rFreeWords Tryz.f62 sp_rFreeWords:=@Eq.mp _ _ @e_rFreeWords @vcp_rFreeWords
theorem ok_rFreeWords:sp_rFreeWords.ok Tryz.prog 62:=fn_sound (P:=Tryz.prog) (ss:=tbl [(14,sp_rGapsOf)]) (ann:=an_rFreeWords) (f:=62) (fn:=Tryz.f62) (s:=sp_rFreeWords) (tbl_cons ok_rGapsOf tbl_nil) Tryz.func62 @vc_rFreeWords
theorem find_at {p:Gap→Bool} {l:List Gap} {i:Int} (h0:0≤i) (h1:i<l.length) (h2:∀ x∈l.take i.toNat,p x=false) (h3:p (l.getD i.toNat (0,0))=true):l.find? p=some (l.getD i.toNat (0,0)):=by
 have e:l=l.take i.toNat++(l.getD i.toNat (0,0)::l.drop (i+1).toNat):=by
  rw [← drop_cons ((0,0):Gap) h0 h1,List.take_append_drop]
 have hn:(l.take i.toNat).find? p=none:=List.find?_eq_none.2 fun x hx=>by rw [h2 x hx]; simp
 have:(l.take i.toNat++(l.getD i.toNat (0,0)::l.drop (i+1).toNat)).find? p=some (l.getD i.toNat (0,0)):=by
  rw [List.find?_append,hn,List.find?_cons_of_pos h3]
  rfl
 rwa [← e] at this
def laidF (s:StoreD) (slot:Int) (h:Head):StoreD×Bool:=if (takeT s.1 h).2.2=true then ((laidS s slot h).1,true) else (nilStore,false)
def an_rPlaced:Nat→Option LoopGen
 | 3000051=>some an_in
 | 5204000001=>some an_in
 | 3=>some { rd:=[.own 18 42 ty_Gap,.dat 8 ty_I],A:=fun ((g,n):List Gap×Int)=>{ cs:=[.dat 20 ty_I,.box 6 ty_Store],inv:=fun ((i,_):Int×StoreD)=>0≤i∧i≤g.length∧(∀ r∈g.take i.toNat,r.2<n),mu:=fun ((i,_):Int×StoreD)=>(g.length - i).toNat } }
 | 8=>some { rd:=[.own 32 42 ty_Gap,.box 3 ty_Store],A:=fun ((g,s):List Gap×StoreD)=>{ cs:=[.boxS 11 [.own 50 ty_W,.own 3 ty_I,.own 89 ty_Pin,.own 87 ty_Slot],.dat 34 ty_I],inv:=fun ((b,i):StoreD×Int)=>0≤i∧i≤g.length∧b=((g.take i.toNat).foldl (fun a r=>emptiedL a r.1 r.2) s.1,s.2)∧b.1.length=s.1.length,mu:=fun ((_,i):StoreD×Int)=>(g.length - i).toNat } }
 | _=>none
def sp_rPlaced:Spec:={ Ts:=[ty_Store,ty_I,ty_Head],Rs:=[.dat ty_Store,.dat .bool],al:=true,pre:=fun ((s,slot,h):StoreD×Int×Head)=>takePre s h∧0≤slot∧slot<s.2.1.length,F:=fun ((s,slot,h):StoreD×Int×Head)=>laidF s slot h }
def pv_rPlaced:Prop :=
  ∀ (x:(List Int×List Int×List (Int×Int)×List (Int×Bool×Int))×Int×Int×Int×Int×Bool),((x.1.1.length * (8:Nat)≤big∧∀ (x_1:Int),x_1∈x.1.1→InR IntKind.u64 x_1)∧(x.1.2.1.length * (8:Nat)≤big∧∀ (x_1:Int),x_1∈x.1.2.1→InR IntKind.i64 x_1)∧(x.1.2.2.1.length * ((8:Nat)+(8:Nat))≤big∧∀ (x_1:Int×Int),x_1∈x.1.2.2.1→InR IntKind.i64 x_1.1∧InR IntKind.i64 x_1.2)∧x.1.2.2.2.length * ((8:Nat)+((8:Nat)+(8:Nat)))≤big∧∀ (x_1:Int×Bool×Int),x_1∈x.1.2.2.2→InR IntKind.i64 x_1.1∧True∧InR IntKind.i64 x_1.2.2)∧InR IntKind.i64 x.2.1∧InR IntKind.i64 x.2.2.1∧InR IntKind.i64 x.2.2.2.1∧InR IntKind.i64 x.2.2.2.2.1∧True→takePre x.1 x.2.2∧(0:Int)≤x.2.1∧x.2.1<(↑x.1.2.1.length:Int)→(InR IntKind.i64 ((1:Int)+x.2.2.1)∧InR IntKind.i64 ((1:Int)+x.2.2.1+x.2.2.2.1))∧x.1.1.length≤(256:Nat)∧((0:Int)≤(0:Int)∧(0:Int)≤(↑(gapsOfL x.1.1).length:Int)∧∀ (r:Gap),r∈List.take (Int.toNat (0:Int)) (gapsOfL x.1.1)→r.2<headLong x.2.2)∧∀ (x_1:Int×List Int×List Int×List (Int×Int)×List (Int×Bool×Int)),((0:Int)≤x_1.1∧x_1.1≤(↑(gapsOfL x.1.1).length:Int)∧∀ (r:Gap),r∈List.take x_1.1.toNat (gapsOfL x.1.1)→r.2<headLong x.2.2)→(decide (x_1.1<(↑(gapsOfL x.1.1).length:Int))=true→(0:Int)≤x_1.1∧x_1.1<(↑(gapsOfL x.1.1).length:Int)∧x_1.1.toNat<(gapsOfL x.1.1).length∧(decide (((gapsOfL x.1.1).getD x_1.1.toNat ((0:Int),(0:Int))).2<headLong x.2.2)=true→InR IntKind.i64 (x_1.1+(1:Int))∧((0:Int)≤x_1.1+(1:Int)∧x_1.1+(1:Int)≤(↑(gapsOfL x.1.1).length:Int)∧∀ (r:Gap),r∈List.take (x_1.1+(1:Int)).toNat (gapsOfL x.1.1)→r.2<headLong x.2.2)∧((↑(gapsOfL x.1.1).length:Int) - (x_1.1+(1:Int))).toNat<((↑(gapsOfL x.1.1).length:Int) - x_1.1).toNat)∧(decide (((gapsOfL x.1.1).getD x_1.1.toNat ((0:Int),(0:Int))).2<headLong x.2.2)=false→∀ (_:Array Value),True∧x.1.2.1.length * (8:Nat)≤big∧x.1.2.2.1.length * ((8:Nat)+(8:Nat))≤big∧x.1.2.1=x.1.2.1∧x.1.2.2.1=x.1.2.2.1∧x.1.2.2.1=x.1.2.2.1∧x.1.2.2.2=x.1.2.2.2∧x.1.2.2.2=x.1.2.2.2∧x.1.2.2.2=x.1.2.2.2∧x.1.2.2.2.length * ((8:Nat)+((8:Nat)+(8:Nat)))≤big∧x.1.1.length≤(256:Nat)∧((0:Int)≤(0:Int)∧(0:Int)≤(↑(gapsOfL x.1.1).length:Int)∧x.1=(List.foldl (fun (a:List Int) (r:Gap)=>emptiedL a r.1 r.2) x.1.1 (List.take (Int.toNat (0:Int)) (gapsOfL x.1.1)),x.1.2)∧x.1.1.length=x.1.1.length)∧∀ (x_2:(List Int×List Int×List (Int×Int)×List (Int×Bool×Int))×Int),(0:Int)≤x_2.2∧x_2.2≤(↑(gapsOfL x.1.1).length:Int)∧x_2.1=(List.foldl (fun (a:List Int) (r:Gap)=>emptiedL a r.1 r.2) x.1.1 (List.take x_2.2.toNat (gapsOfL x.1.1)),x.1.2)∧x_2.1.1.length=x.1.1.length→(decide (x_2.2<(↑(gapsOfL x.1.1).length:Int))=true→(0:Int)≤x_2.2∧x_2.2<(↑(gapsOfL x.1.1).length:Int)∧x_2.2.toNat<(gapsOfL x.1.1).length∧layPre x_2.1.1 ((gapsOfL x.1.1).getD x_2.2.toNat ((0:Int),(0:Int))).1 ((gapsOfL x.1.1).getD x_2.2.toNat ((0:Int),(0:Int))).2∧InR IntKind.i64 (x_2.2+(1:Int))∧((0:Int)≤x_2.2+(1:Int)∧x_2.2+(1:Int)≤(↑(gapsOfL x.1.1).length:Int)∧(emptiedL x_2.1.1 ((gapsOfL x.1.1).getD x_2.2.toNat ((0:Int),(0:Int))).1 ((gapsOfL x.1.1).getD x_2.2.toNat ((0:Int),(0:Int))).2,x_2.1.2)=(List.foldl (fun (a:List Int) (r:Gap)=>emptiedL a r.1 r.2) x.1.1 (List.take (x_2.2+(1:Int)).toNat (gapsOfL x.1.1)),x.1.2)∧(emptiedL x_2.1.1 ((gapsOfL x.1.1).getD x_2.2.toNat ((0:Int),(0:Int))).1 ((gapsOfL x.1.1).getD x_2.2.toNat ((0:Int),(0:Int))).2).length=x.1.1.length)∧((↑(gapsOfL x.1.1).length:Int) - (x_2.2+(1:Int))).toNat<((↑(gapsOfL x.1.1).length:Int) - x_2.2).toNat)∧(decide (x_2.2<(↑(gapsOfL x.1.1).length:Int))=false→InR IntKind.i64 (((gapsOfL x.1.1).getD x_1.1.toNat ((0:Int),(0:Int))).1+headLong x.2.2)∧InR IntKind.i64 (((gapsOfL x.1.1).getD x_1.1.toNat ((0:Int),(0:Int))).2 - headLong x.2.2)∧layPre x_2.1.1 (((gapsOfL x.1.1).getD x_1.1.toNat ((0:Int),(0:Int))).1+headLong x.2.2) (((gapsOfL x.1.1).getD x_1.1.toNat ((0:Int),(0:Int))).2 - headLong x.2.2)∧headFault x.2.2=(0:Int)∧(0:Int)≤((gapsOfL x.1.1).getD x_1.1.toNat ((0:Int),(0:Int))).1∧((gapsOfL x.1.1).getD x_1.1.toNat ((0:Int),(0:Int))).1<(↑(emptiedL x_2.1.1 (((gapsOfL x.1.1).getD x_1.1.toNat ((0:Int),(0:Int))).1+headLong x.2.2) (((gapsOfL x.1.1).getD x_1.1.toNat ((0:Int),(0:Int))).2 - headLong x.2.2)).length:Int)∧((gapsOfL x.1.1).getD x_1.1.toNat ((0:Int),(0:Int))).1.toNat<(emptiedL x_2.1.1 (((gapsOfL x.1.1).getD x_1.1.toNat ((0:Int),(0:Int))).1+headLong x.2.2) (((gapsOfL x.1.1).getD x_1.1.toNat ((0:Int),(0:Int))).2 - headLong x.2.2)).length∧(0:Int)≤x.2.1∧x.2.1<(↑x_2.1.2.1.length:Int)∧x.2.1.toNat<x_2.1.2.1.length∧((emptiedL x_2.1.1 (((gapsOfL x.1.1).getD x_1.1.toNat ((0:Int),(0:Int))).1+headLong x.2.2) (((gapsOfL x.1.1).getD x_1.1.toNat ((0:Int),(0:Int))).2 - headLong x.2.2)).set ((gapsOfL x.1.1).getD x_1.1.toNat ((0:Int),(0:Int))).1.toNat (headWord x.2.2),x_2.1.2.1.set x.2.1.toNat ((gapsOfL x.1.1).getD x_1.1.toNat ((0:Int),(0:Int))).1,x_2.1.2.2)=(laidF x.1 x.2.1 x.2.2).1∧true=(laidF x.1 x.2.1 x.2.2).2∧True)))∧(decide (x_1.1<(↑(gapsOfL x.1.1).length:Int))=false→(([]:List Int),([]:List Int),([]:List (Int×Int)),([]:List (Int×Bool×Int)))=(laidF x.1 x.2.1 x.2.2).1∧false=(laidF x.1 x.2.1 x.2.2).2∧True)
theorem vcp_rPlaced:pv_rPlaced:=by
 unfold pv_rPlaced
 intro ⟨s,slot,h⟩ ⟨⟨⟨hb,hw⟩,⟨hb2,_⟩,⟨hb3,_⟩,hb4,_⟩,_⟩ ⟨⟨hc,hh⟩,s0,s1⟩
 simp only at hb hw hb2 hb3 hb4 hc hh s0 s1 ⊢
 obtain ⟨h2,h3⟩:=head_ok hh
 have hz:=headFault_zero h2
 have hL:headLong h=1+h.1+h.2.1:=rfl
 have hsp:=(checkF_in hc).2.2.2.1
 have hal:=(checkF_in hc).1
 obtain ⟨g1,g2⟩:=gaps_in hsp
 have hJ:(joinF s.1).1=(gapsL false [] (spotsF s.1).1).foldl (fun a r=>emptiedL a r.1 r.2) s.1:=by unfold joinF; rw [if_neg (by omega)]
 have T1:=take_first hc h2 h3
 have hLd:laidF s slot h=if (takeT s.1 h).2.2=true then (((takeT s.1 h).1,s.2.1.set slot.toNat (takeT s.1 h).2.1,s.2.2),true) else (nilStore,false):=rfl
 rw [gaps_same hsp]
 generalize gapsL false [] (spotsF s.1).1=g at *
 unfold big at hb hb2 hb3 hb4 ⊢
 refine ⟨by simp only [InR]; omega,hal,⟨by omega,by omega,by simp⟩,fun ⟨i,b⟩ ⟨i0,i1,i2⟩=>⟨fun hlt=>?_,fun hge=>?_⟩⟩
 ·simp only at i0 i1 i2 hlt ⊢
  have hlt:=of_decide_eq_true hlt
  have ht:=take_snoc ((0,0):Gap) i0 hlt
  have hm:=getD_mem ((0,0):Gap) i0 hlt
  have hgr:=g1 _ hm
  refine ⟨i0,hlt,by omega,fun hc1=>?_,fun hc1 tm=>?_⟩
  ·have hc1:=of_decide_eq_true hc1
   simp only [InR]
   refine ⟨by omega,⟨by omega,by omega,fun r hr=>?_⟩,by omega⟩
   rw [ht] at hr
   rcases List.mem_append.1 hr with hr | hr
   ·exact i2 r hr
   ·rw [List.mem_singleton.1 hr]; exact hc1
  ·have hc1:=of_decide_eq_false hc1
   have hfd:=find_at (p:=fun r:Gap=>decide (headLong h≤r.2)) i0 hlt (fun x hx=>by have:=i2 x hx; simp; omega) (by simp only [decide_eq_true_eq]; omega)
   rw [hfd] at T1
   simp only at T1
   obtain ⟨_,_,_,_,_,_,t4⟩:=T1
   rw [t4,if_pos rfl] at hLd
   rw [hLd]
   generalize g.getD i.toNat (0,0)=r at *
   refine ⟨trivial,by omega,by omega,by trivial,by trivial,by trivial,by trivial,by trivial,by trivial,by omega,hal,⟨by omega,by omega,by simp,by trivial⟩,fun ⟨b,j⟩ ⟨j0,j1,j2,j3⟩=>⟨fun hlt=>?_,fun hge=>?_⟩⟩
   ·simp only at j0 j1 j2 j3 hlt ⊢
    have hlt:=of_decide_eq_true hlt
    have ht:=take_snoc ((0,0):Gap) j0 hlt
    have hgr:=g1 _ (getD_mem ((0,0):Gap) j0 hlt)
    have hlp:layPre b.1 (g.getD j.toNat (0,0)).1 (g.getD j.toNat (0,0)).2:=⟨by omega,by omega,by omega,by omega⟩
    rw [ht,List.foldl_append,emptiedL_length hlp]
    simp only [List.foldl_cons,List.foldl_nil,InR]
    have e1:b.1=List.foldl (fun a r=>emptiedL a r.1 r.2) s.1 (List.take j.toNat g):=by rw [j2]
    have e2:b.2=s.2:=by rw [j2]
    rw [← e1,← e2]
    exact ⟨j0,hlt,by omega,hlp,by omega,⟨by omega,by omega,by trivial,j3⟩,by omega⟩
   ·simp only at j0 j1 j2 j3 hge ⊢
    rw [take_end (of_decide_eq_false hge),← hJ] at j2
    subst j2
    simp only at j3 ⊢
    have hlp:layPre (joinF s.1).1 (r.1+headLong h) (r.2 - headLong h):=⟨by omega,by omega,by omega,by omega⟩
    rw [emptiedL_length hlp,j3]
    simp only [InR]
    exact ⟨by omega,by omega,hlp,h2,by omega,by omega,by omega,s0,s1,by omega,by trivial,by trivial,trivial⟩
 ·simp only at i0 i1 i2 hge ⊢
  rw [take_end (of_decide_eq_false hge)] at i2
  have hfd:g.find? (fun r:Gap=>decide (headLong h≤r.2))=none:=List.find?_eq_none.2 fun x hx=>by have:=i2 x hx; simp; omega
  rw [hfd] at T1
  simp only at T1
  rw [T1.2] at hLd
  rw [hLd]
  exact ⟨by trivial,by trivial,trivial⟩
theorem e_rPlaced:pv_rPlaced=(fnVC Tryz.prog (tbl [(42,sp_rHeadLong),(14,sp_rGapsOf),(86,sp_refClone),(107,sp_rEmptied),(87,sp_rHeadWord)]) an_rPlaced Tryz.f61 sp_rPlaced):=by kernel_rfl
theorem vc_rPlaced:fnVC Tryz.prog (tbl [(42,sp_rHeadLong),(14,sp_rGapsOf),(86,sp_refClone),(107,sp_rEmptied),(87,sp_rHeadWord)]) an_rPlaced Tryz.f61 sp_rPlaced:=@Eq.mp _ _ @e_rPlaced @vcp_rPlaced
theorem ok_rPlaced:sp_rPlaced.ok Tryz.prog 61:=fn_sound (P:=Tryz.prog) (ss:=tbl [(42,sp_rHeadLong),(14,sp_rGapsOf),(86,sp_refClone),(107,sp_rEmptied),(87,sp_rHeadWord)]) (ann:=an_rPlaced) (f:=61) (fn:=Tryz.f61) (s:=sp_rPlaced) (tbl_cons ok_rHeadLong (tbl_cons ok_rGapsOf (tbl_cons ok_refClone (tbl_cons ok_rEmptied (tbl_cons ok_rHeadWord tbl_nil))))) Tryz.func61 @vc_rPlaced
end Go.Proofs.YtglchojglcobjaaGreat
