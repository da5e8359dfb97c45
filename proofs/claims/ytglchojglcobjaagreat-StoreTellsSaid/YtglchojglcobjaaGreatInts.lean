
import Derived.Test.YtglchojglcobjaaGreatFinds
import Derived.Test.YtglchojglcobjaaGreatSlices
namespace Go.Proofs.YtglchojglcobjaaGreat
open Go
set_option maxRecDepth 100000
set_option maxHeartbeats 1000000
def an_in:LoopGen:={ rd:=[],A:=fun _=>{ cs:=[],inv:=fun _=>True,mu:=fun _=>0 } }
def place (l:List Int) (n:Int):Int:=findFrom (fun x=>decide (x=n)) 0 l
def an_rPlace:Nat→Option LoopGen
 | 2=>some { rd:=[.dat 7 (.arr ty_I),.dat 1 ty_I],A:=fun ((l,n):List Int×Int)=>{ cs:=[.dat 9 ty_I],inv:=fun (i:Int)=>0≤i∧i≤l.length∧findFrom (fun x=>decide (x=n)) i (l.drop i.toNat)=place l n,mu:=fun (i:Int)=>(l.length - i).toNat } }
 | _=>none
def sp_rPlace:Spec:={ Ts:=[.arr ty_I,ty_I],Rs:=[.dat ty_I],pre:=fun _=>True,F:=fun ((l,n):List Int×Int)=>place l n }
def pv_rPlace:Prop :=
  ∀ (x:List Int×Int),(x.1.length * (8:Nat)≤big∧∀ (x_1:Int),x_1∈x.1→InR IntKind.i64 x_1)∧InR IntKind.i64 x.2→True→((0:Int)≤(0:Int)∧(0:Int)≤(↑x.1.length:Int)∧findFrom (fun (x_1:Int)=>decide (x_1=x.2)) (0:Int) (List.drop (Int.toNat (0:Int)) x.1)=place x.1 x.2)∧∀ (x_1:Int),(0:Int)≤x_1∧x_1≤(↑x.1.length:Int)∧findFrom (fun (x_2:Int)=>decide (x_2=x.2)) x_1 (List.drop x_1.toNat x.1)=place x.1 x.2→(decide (x_1<(↑x.1.length:Int))=true→(0:Int)≤x_1∧x_1<(↑x.1.length:Int)∧(decide (x.1.getD x_1.toNat (0:Int)=x.2)=true→x_1=place x.1 x.2∧True)∧(decide (x.1.getD x_1.toNat (0:Int)=x.2)=false→InR IntKind.i64 (x_1+(1:Int))∧((0:Int)≤x_1+(1:Int)∧x_1+(1:Int)≤(↑x.1.length:Int)∧findFrom (fun (x_2:Int)=>decide (x_2=x.2)) (x_1+(1:Int)) (List.drop (x_1+(1:Int)).toNat x.1)=place x.1 x.2)∧((↑x.1.length:Int) - (x_1+(1:Int))).toNat<((↑x.1.length:Int) - x_1).toNat))∧(decide (x_1<(↑x.1.length:Int))=false→(-1:Int)=place x.1 x.2∧True)
theorem vcp_rPlace:pv_rPlace:=by
 unfold pv_rPlace
 intro ⟨l,n⟩ ⟨⟨hb,_⟩,_⟩ _
 unfold big at hb
 refine ⟨⟨by omega,by omega,rfl⟩,fun i ⟨h0,h1,h2⟩=>⟨fun hlt=>?_,fun hge=>?_⟩⟩
 ·have hlt:i<(l.length:Int):=by simpa using hlt
  simp only at *
  rw [drop_cons (0:Int) h0 hlt] at h2
  simp only [findFrom] at h2
  simp only [InR]
  refine ⟨h0,hlt,fun hc=>?_,fun hc=>?_⟩
  ·rw [if_pos hc] at h2
   exact ⟨h2,trivial⟩
  ·rw [if_neg (by rw [hc]; simp)] at h2
   exact ⟨by omega,⟨by omega,by omega,h2⟩,by omega⟩
 ·rw [drop_end (by simpa using hge)] at h2
  exact ⟨h2,trivial⟩
theorem e_rPlace:pv_rPlace=(fnVC Tryz.prog (tbl []) an_rPlace Tryz.f53 sp_rPlace):=by kernel_rfl
theorem vc_rPlace:fnVC Tryz.prog (tbl []) an_rPlace Tryz.f53 sp_rPlace:=@Eq.mp _ _ @e_rPlace @vcp_rPlace
theorem ok_rPlace:sp_rPlace.ok Tryz.prog 53:=fn_sound (P:=Tryz.prog) (ss:=tbl []) (ann:=an_rPlace) (f:=53) (fn:=Tryz.f53) (s:=sp_rPlace) tbl_nil Tryz.func53 @vc_rPlace
def inL (l:List Int) (n:Int):Bool:=l.any fun x=>decide (x=n)
def sp_rIn:Spec:={ Ts:=[.arr ty_I,ty_I],Rs:=[.dat .bool],pre:=fun _=>True,F:=fun ((l,n):List Int×Int)=>inL l n }
def pv_rIn:Prop :=
  ∀ (x:List Int×Int),(x.1.length * (8:Nat)≤big∧∀ (x_1:Int),x_1∈x.1→InR IntKind.i64 x_1)∧InR IntKind.i64 x.2→True→True∧decide ((0:Int)≤place x.1 x.2)=inL x.1 x.2∧True
theorem vcp_rIn:pv_rIn:=by
 unfold pv_rIn
 intro ⟨l,n⟩ _ _
 exact ⟨trivial,findFrom_any _ l 0 (by omega),trivial⟩
theorem e_rIn:pv_rIn=(fnVC Tryz.prog (tbl [(53,sp_rPlace)]) an_0 Tryz.f44 sp_rIn):=by kernel_rfl
theorem vc_rIn:fnVC Tryz.prog (tbl [(53,sp_rPlace)]) an_0 Tryz.f44 sp_rIn:=@Eq.mp _ _ @e_rIn @vcp_rIn
theorem ok_rIn:sp_rIn.ok Tryz.prog 44:=fn_sound (P:=Tryz.prog) (ss:=tbl [(53,sp_rPlace)]) (ann:=an_0) (f:=44) (fn:=Tryz.f44) (s:=sp_rIn) (tbl_cons ok_rPlace tbl_nil) Tryz.func44 @vc_rIn
def sp_idxI:Spec:={ Ts:=[.arr ty_I,ty_I],Rs:=[.dat ty_I],pre:=fun _=>True,F:=fun ((l,v):List Int×Int)=>place l v }
def an_idxI:Nat→Option LoopGen
 | 2=>some { rd:=[.dat 0 (.arr ty_I),.dat 1 ty_I],A:=fun ((l,v):List Int×Int)=>{ cs:=[.dat 8 ty_I],inv:=fun (i:Int)=>0≤i∧i≤l.length∧findFrom (fun x=>decide (x=v)) i (l.drop i.toNat)=place l v,mu:=fun (i:Int)=>(l.length - i).toNat } }
 | _=>none
def pv_idxI:Prop :=
  ∀ (x:List Int×Int),(x.1.length * (8:Nat)≤big∧∀ (x_1:Int),x_1∈x.1→InR IntKind.i64 x_1)∧InR IntKind.i64 x.2→True→((0:Int)≤(0:Int)∧(0:Int)≤(↑x.1.length:Int)∧findFrom (fun (x_1:Int)=>decide (x_1=x.2)) (0:Int) (List.drop (Int.toNat (0:Int)) x.1)=place x.1 x.2)∧∀ (x_1:Int),(0:Int)≤x_1∧x_1≤(↑x.1.length:Int)∧findFrom (fun (x_2:Int)=>decide (x_2=x.2)) x_1 (List.drop x_1.toNat x.1)=place x.1 x.2→(decide (x_1<(↑x.1.length:Int))=true→(0:Int)≤x_1∧x_1<(↑x.1.length:Int)∧(decide (x.2=x.1.getD x_1.toNat (0:Int))=true→x_1=place x.1 x.2∧True)∧(decide (x.2=x.1.getD x_1.toNat (0:Int))=false→InR IntKind.i64 (x_1+(1:Int))∧((0:Int)≤x_1+(1:Int)∧x_1+(1:Int)≤(↑x.1.length:Int)∧findFrom (fun (x_2:Int)=>decide (x_2=x.2)) (x_1+(1:Int)) (List.drop (x_1+(1:Int)).toNat x.1)=place x.1 x.2)∧((↑x.1.length:Int) - (x_1+(1:Int))).toNat<((↑x.1.length:Int) - x_1).toNat))∧(decide (x_1<(↑x.1.length:Int))=false→(-1:Int)=place x.1 x.2∧True)
theorem vcp_idxI:pv_idxI:=by
 unfold pv_idxI
 intro ⟨l,n⟩ ⟨⟨hb,_⟩,_⟩ _
 unfold big at hb
 refine ⟨⟨by omega,by omega,rfl⟩,fun i ⟨h0,h1,h2⟩=>⟨fun hlt=>?_,fun hge=>?_⟩⟩
 ·have hlt:i<(l.length:Int):=by simpa using hlt
  simp only at *
  rw [drop_cons (0:Int) h0 hlt] at h2
  simp only [findFrom] at h2
  simp only [InR]
  refine ⟨h0,hlt,fun hc=>?_,fun hc=>?_⟩
  ·rw [if_pos (decide_eq_true (of_decide_eq_true hc).symm)] at h2
   exact ⟨h2,trivial⟩
  ·rw [if_neg (fun e=>of_decide_eq_false hc (of_decide_eq_true e).symm)] at h2
   exact ⟨by omega,⟨by omega,by omega,h2⟩,by omega⟩
 ·rw [drop_end (by simpa using hge)] at h2
  exact ⟨h2,trivial⟩
theorem e_idxI:pv_idxI=(fnVC Tryz.prog (tbl []) an_idxI Tryz.f116 sp_idxI):=by kernel_rfl
theorem vc_idxI:fnVC Tryz.prog (tbl []) an_idxI Tryz.f116 sp_idxI:=@Eq.mp _ _ @e_idxI @vcp_idxI
theorem ok_idxI:sp_idxI.ok Tryz.prog 116:=fn_sound (P:=Tryz.prog) (ss:=tbl []) (ann:=an_idxI) (f:=116) (fn:=Tryz.f116) (s:=sp_idxI) tbl_nil Tryz.func116 @vc_idxI
def sp_hasI:Spec:={ Ts:=[.arr ty_I,ty_I],Rs:=[.dat .bool],pre:=fun _=>True,F:=fun ((l,v):List Int×Int)=>inL l v }
def pv_hasI:Prop :=
  ∀ (x:List Int×Int),(x.1.length * (8:Nat)≤big∧∀ (x_1:Int),x_1∈x.1→InR IntKind.i64 x_1)∧InR IntKind.i64 x.2→True→True∧decide ((0:Int)≤place x.1 x.2)=inL x.1 x.2∧True
theorem vcp_hasI:pv_hasI:=by
 unfold pv_hasI
 intro ⟨l,v⟩ _ _
 exact ⟨trivial,findFrom_any _ l 0 (by omega),trivial⟩
theorem e_hasI:pv_hasI=(fnVC Tryz.prog (tbl [(116,sp_idxI)]) an_0 Tryz.f81 sp_hasI):=by kernel_rfl
theorem vc_hasI:fnVC Tryz.prog (tbl [(116,sp_idxI)]) an_0 Tryz.f81 sp_hasI:=@Eq.mp _ _ @e_hasI @vcp_hasI
theorem ok_hasI:sp_hasI.ok Tryz.prog 81:=fn_sound (P:=Tryz.prog) (ss:=tbl [(116,sp_idxI)]) (ann:=an_0) (f:=81) (fn:=Tryz.f81) (s:=sp_hasI) (tbl_cons ok_idxI tbl_nil) Tryz.func81 @vc_hasI
def sp_idxIF:Spec:={ Ts:=[.arr ty_I,.fn ty_I .bool],Rs:=[.dat ty_I],pre:=fun ((l,g):List Int×(Int→Prop)×(Int→Bool))=>∀ s∈l,g.1 s,F:=fun ((l,g):List Int×(Int→Prop)×(Int→Bool))=>findFrom g.2 0 l }
def an_idxIF:Nat→Option LoopGen
 | 2=>some { rd:=[.dat 0 (.arr ty_I),.dat 1 (.fn ty_I .bool)],A:=fun ((l,g):List Int×(Int→Prop)×(Int→Bool))=>{ cs:=[.dat 8 ty_I],inv:=fun (i:Int)=>0≤i∧i≤l.length∧findFrom g.2 i (l.drop i.toNat)=findFrom g.2 0 l,mu:=fun (i:Int)=>(l.length - i).toNat } }
 | _=>none
def pv_idxIF:Prop :=
  ∀ (x:List Int×(Int→Prop)×(Int→Bool)),(x.1.length * (8:Nat)≤big∧∀ (x_1:Int),x_1∈x.1→InR IntKind.i64 x_1)∧True→(∀ (s:Int),s∈x.1→x.2.1 s)→((0:Int)≤(0:Int)∧(0:Int)≤(↑x.1.length:Int)∧findFrom x.2.2 (0:Int) (List.drop (Int.toNat (0:Int)) x.1)=findFrom x.2.2 (0:Int) x.1)∧∀ (x_1:Int),(0:Int)≤x_1∧x_1≤(↑x.1.length:Int)∧findFrom x.2.2 x_1 (List.drop x_1.toNat x.1)=findFrom x.2.2 (0:Int) x.1→(decide (x_1<(↑x.1.length:Int))=true→(0:Int)≤x_1∧x_1<(↑x.1.length:Int)∧x.2.1 (x.1.getD x_1.toNat (0:Int))∧(x.2.2 (x.1.getD x_1.toNat (0:Int))=true→x_1=findFrom x.2.2 (0:Int) x.1∧True)∧(x.2.2 (x.1.getD x_1.toNat (0:Int))=false→InR IntKind.i64 (x_1+(1:Int))∧((0:Int)≤x_1+(1:Int)∧x_1+(1:Int)≤(↑x.1.length:Int)∧findFrom x.2.2 (x_1+(1:Int)) (List.drop (x_1+(1:Int)).toNat x.1)=findFrom x.2.2 (0:Int) x.1)∧((↑x.1.length:Int) - (x_1+(1:Int))).toNat<((↑x.1.length:Int) - x_1).toNat))∧(decide (x_1<(↑x.1.length:Int))=false→(-1:Int)=findFrom x.2.2 (0:Int) x.1∧True)
theorem vcp_idxIF:pv_idxIF:=by
 unfold pv_idxIF
 intro ⟨l,g⟩ ⟨⟨hl,_⟩,_⟩ hp
 unfold big at *
 refine ⟨⟨by omega,by omega,by simp⟩,fun i ⟨h0,h1,h2⟩=>⟨fun hlt=>?_,fun hge=>?_⟩⟩
 ·have hlt:i<(l.length:Int):=by simpa using hlt
  have e:=drop_cons (0:Int) h0 hlt
  have hm:=hp _ (getD_mem (0:Int) h0 hlt)
  simp only at *
  rw [e] at h2
  simp only [findFrom] at h2
  refine ⟨h0,hlt,hm,fun hc=>?_,fun hc=>?_⟩
  ·rw [if_pos hc] at h2
   exact ⟨h2,trivial⟩
  ·rw [if_neg (by rw [hc]; simp)] at h2
   exact ⟨by simp only [InR]; omega,⟨by omega,by omega,h2⟩,by omega⟩
 ·rw [drop_end (by simpa using hge)] at h2
  exact ⟨h2,trivial⟩
theorem e_idxIF:pv_idxIF=(fnVC Tryz.prog (tbl []) an_idxIF Tryz.f150 sp_idxIF):=by kernel_rfl
theorem vc_idxIF:fnVC Tryz.prog (tbl []) an_idxIF Tryz.f150 sp_idxIF:=@Eq.mp _ _ @e_idxIF @vcp_idxIF
theorem ok_idxIF:sp_idxIF.ok Tryz.prog 150:=fn_sound (P:=Tryz.prog) (ss:=tbl []) (ann:=an_idxIF) (f:=150) (fn:=Tryz.f150) (s:=sp_idxIF) tbl_nil Tryz.func150 @vc_idxIF
def sp_anyI:Spec:={ Ts:=[.arr ty_I,.fn ty_I .bool],Rs:=[.dat .bool],pre:=fun ((l,g):List Int×(Int→Prop)×(Int→Bool))=>∀ s∈l,g.1 s,F:=fun ((l,g):List Int×(Int→Prop)×(Int→Bool))=>l.any g.2 }
def pv_anyI:Prop :=
  ∀ (x:List Int×(Int→Prop)×(Int→Bool)),(x.1.length * (8:Nat)≤big∧∀ (x_1:Int),x_1∈x.1→InR IntKind.i64 x_1)∧True→(∀ (s:Int),s∈x.1→x.2.1 s)→(∀ (s:Int),s∈x.1→x.2.1 s)∧decide ((0:Int)≤findFrom x.2.2 (0:Int) x.1)=x.1.any x.2.2∧True
theorem vcp_anyI:pv_anyI:=by
 unfold pv_anyI
 intro ⟨l,g⟩ _ hp
 exact ⟨hp,findFrom_any _ l 0 (by omega),trivial⟩
theorem e_anyI:pv_anyI=(fnVC Tryz.prog (tbl [(150,sp_idxIF)]) an_0 Tryz.f124 sp_anyI):=by kernel_rfl
theorem vc_anyI:fnVC Tryz.prog (tbl [(150,sp_idxIF)]) an_0 Tryz.f124 sp_anyI:=@Eq.mp _ _ @e_anyI @vcp_anyI
theorem ok_anyI:sp_anyI.ok Tryz.prog 124:=fn_sound (P:=Tryz.prog) (ss:=tbl [(150,sp_idxIF)]) (ann:=an_0) (f:=124) (fn:=Tryz.f124) (s:=sp_anyI) (tbl_cons ok_idxIF tbl_nil) Tryz.func124 @vc_anyI
def risesL:List Int→Bool
 | x::y::l=>decide (x<y)&&risesL (y::l)
 | _=>true
end Go.Proofs.YtglchojglcobjaaGreat
