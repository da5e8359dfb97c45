
import Derived.Test.YtglchojglcobjaaGreatRowPin
namespace Go.Proofs.YtglchojglcobjaaGreat
open Go
set_option maxRecDepth 100000
set_option maxHeartbeats 1000000
theorem ahead_scan {p:List Pin} {i:Int} (h0:0≤i) (h:i<p.length):pinScan (ahead p i) (p.drop i.toNat)=if badPin (p.getD i.toNat (0,0))=true then 4 else if (p.getD i.toNat (0,0)).1≤ahead p i then 3 else pinScan (ahead p (i+1)) (p.drop (i+1).toNat):=by
 rw [drop_cons ((0,0):Pin) h0 h]
 have e:ahead p (i+1)=(p.getD i.toNat (0,0)).1:=by
  unfold ahead
  rw [if_pos (by omega),show (i+1 - 1)=i by omega]
 rw [e]
 rfl
def sp_pinThere:Spec:={ Ts:=[ty_I],Rs:=[.dat .bool],pre:=fun _=>True,F:=fun (v:Int)=>decide (0≤v)&&decide (v<256) }
def pv_pinThere:Prop :=
  ∀ (x:Int),InR IntKind.i64 x→True→(decide ((0:Int)≤x)&&decide (x<(256:Int)))=(decide ((0:Int)≤x)&&decide (x<(256:Int)))∧True
theorem vcp_pinThere:pv_pinThere:=by
 unfold pv_pinThere
 intro v _ _
 simp
theorem e_pinThere:pv_pinThere=(fnVC Tryz.prog (tbl []) an_0 Tryz.f127 sp_pinThere):=by kernel_rfl
theorem vc_pinThere:fnVC Tryz.prog (tbl []) an_0 Tryz.f127 sp_pinThere:=@Eq.mp _ _ @e_pinThere @vcp_pinThere
theorem ok_pinThere:sp_pinThere.ok Tryz.prog 127:=fn_sound (P:=Tryz.prog) (ss:=tbl []) (ann:=an_0) (f:=127) (fn:=Tryz.f127) (s:=sp_pinThere) tbl_nil Tryz.func127 @vc_pinThere
def an_pinCheck:Nat→Option LoopGen
 | 4=>some { rd:=[.dat 8 (.arr ty_Pin)],A:=fun (p:List Pin)=>{ cs:=[.dat 10 ty_I],inv:=fun (i:Int)=>0≤i∧i≤p.length∧pinScan (ahead p i) (p.drop i.toNat)=pinScan (-1) p,mu:=fun (i:Int)=>(p.length - i).toNat } }
 | _=>none
def sp_pinCheck:Spec:={ Ts:=[.arr ty_Pin],Rs:=[.dat ty_I],pre:=fun _=>True,F:=fun (p:List Pin)=>pinsF p }
def pv_pinCheck:Prop :=
  ∀ (x:List (Int×Int)),(x.length * ((8:Nat)+(8:Nat))≤big∧∀ (x_1:Int×Int),x_1∈x→InR IntKind.i64 x_1.1∧InR IntKind.i64 x_1.2)→True→(decide ((16:Int)<(↑x.length:Int))=true→(2:Int)=pinsF x∧True)∧(decide ((16:Int)<(↑x.length:Int))=false→((0:Int)≤(0:Int)∧(0:Int)≤(↑x.length:Int)∧pinScan (ahead x (0:Int)) (List.drop (Int.toNat (0:Int)) x)=pinScan (-1:Int) x)∧∀ (x_1:Int),(0:Int)≤x_1∧x_1≤(↑x.length:Int)∧pinScan (ahead x x_1) (List.drop x_1.toNat x)=pinScan (-1:Int) x→(decide (x_1<(↑x.length:Int))=true→(0:Int)≤x_1∧x_1<(↑x.length:Int)∧True∧((!(decide ((0:Int)≤(x.getD x_1.toNat ((0:Int),(0:Int))).1)&&decide ((x.getD x_1.toNat ((0:Int),(0:Int))).1<(256:Int)))||decide ((x.getD x_1.toNat ((0:Int),(0:Int))).2<(1:Int))||decide ((1000000:Int)<(x.getD x_1.toNat ((0:Int),(0:Int))).2))=true→(4:Int)=pinsF x∧True)∧((!(decide ((0:Int)≤(x.getD x_1.toNat ((0:Int),(0:Int))).1)&&decide ((x.getD x_1.toNat ((0:Int),(0:Int))).1<(256:Int)))||decide ((x.getD x_1.toNat ((0:Int),(0:Int))).2<(1:Int))||decide ((1000000:Int)<(x.getD x_1.toNat ((0:Int),(0:Int))).2))=false→(decide ((0:Int)<x_1)=true→InR IntKind.i64 (x_1 - (1:Int)))∧(decide ((0:Int)<x_1)=true→(0:Int)≤x_1 - (1:Int))∧(decide ((0:Int)<x_1)=true→x_1 - (1:Int)<(↑x.length:Int))∧((decide ((0:Int)<x_1)&&decide ((x.getD x_1.toNat ((0:Int),(0:Int))).1≤(x.getD (x_1 - (1:Int)).toNat ((0:Int),(0:Int))).1))=true→(3:Int)=pinsF x∧True)∧((decide ((0:Int)<x_1)&&decide ((x.getD x_1.toNat ((0:Int),(0:Int))).1≤(x.getD (x_1 - (1:Int)).toNat ((0:Int),(0:Int))).1))=false→InR IntKind.i64 (x_1+(1:Int))∧((0:Int)≤x_1+(1:Int)∧x_1+(1:Int)≤(↑x.length:Int)∧pinScan (ahead x (x_1+(1:Int))) (List.drop (x_1+(1:Int)).toNat x)=pinScan (-1:Int) x)∧((↑x.length:Int) - (x_1+(1:Int))).toNat<((↑x.length:Int) - x_1).toNat)))∧(decide (x_1<(↑x.length:Int))=false→(0:Int)=pinsF x∧True))
theorem vcp_pinCheck:pv_pinCheck:=by
 unfold pv_pinCheck
 intro p ⟨hb,_⟩ _
 unfold big at hb
 have hF:pinsF p=if 16<p.length then 2 else pinScan (-1) p:=rfl
 refine ⟨fun h=>?_,fun h=>?_⟩
 ·rw [hF,if_pos (by have:=of_decide_eq_true h; omega)]
  exact ⟨rfl,trivial⟩
 have hl:¬ 16<p.length:=by have:=of_decide_eq_false h; omega
 rw [hF,if_neg hl]
 refine ⟨⟨by omega,by omega,rfl⟩,fun i ⟨i0,i1,i2⟩=>⟨fun hlt=>?_,fun hge=>?_⟩⟩
 ·have hlt:=of_decide_eq_true hlt
  rw [ahead_scan i0 hlt] at i2
  have hp:0<i→ahead p i=(p.getD (i - 1).toNat (0,0)).1:=fun h=>if_pos h
  have hn:¬ 0<i→ahead p i=-1:=fun h=>if_neg h
  generalize p.getD i.toNat (0,0)=x at *
  generalize p.getD (i - 1).toNat (0,0)=y at *
  generalize ahead p i=q at *
  have hbad:(!(decide (0≤x.1)&&decide (x.1<256))||decide (x.2<1)||decide (1000000<x.2))=badPin x:=by
   unfold badPin
   grind
  rw [hbad]
  refine ⟨i0,hlt,trivial,fun hc=>?_,fun hc=>⟨fun _=>by simp only [InR]; omega,fun h=>by have:=of_decide_eq_true h; omega,fun _=>by omega,fun h2=>?_,fun h2=>⟨by simp only [InR]; omega,⟨by omega,by omega,?_⟩,by omega⟩⟩⟩
  ·rw [if_pos hc] at i2
   exact ⟨i2,trivial⟩
  ·rw [if_neg (by rw [hc]; simp)] at i2
   simp only [Bool.and_eq_true,decide_eq_true_eq] at h2
   rw [if_pos (by rw [hp h2.1]; exact h2.2)] at i2
   exact ⟨i2,trivial⟩
  ·rw [if_neg (by rw [hc]; simp)] at i2
   have hx:0≤x.1:=by
    simp only [badPin,Bool.or_eq_false_iff,decide_eq_false_iff_not] at hc
    omega
   rw [if_neg] at i2
   ·exact i2
   ·intro h3
    by_cases h4:0<i
    ·rw [hp h4] at h3
     have:(decide (0<i)&&decide (x.1≤y.1))=true:=by simp [h4,h3]
     rw [this] at h2
     cases h2
    ·rw [hn h4] at h3
     omega
 ·rw [drop_end (of_decide_eq_false hge)] at i2
  exact ⟨i2,trivial⟩
theorem e_pinCheck:pv_pinCheck=(fnVC Tryz.prog (tbl [(127,sp_pinThere)]) an_pinCheck Tryz.f92 sp_pinCheck):=by kernel_rfl
theorem vc_pinCheck:fnVC Tryz.prog (tbl [(127,sp_pinThere)]) an_pinCheck Tryz.f92 sp_pinCheck:=@Eq.mp _ _ @e_pinCheck @vcp_pinCheck
theorem ok_pinCheck:sp_pinCheck.ok Tryz.prog 92:=fn_sound (P:=Tryz.prog) (ss:=tbl [(127,sp_pinThere)]) (ann:=an_pinCheck) (f:=92) (fn:=Tryz.f92) (s:=sp_pinCheck) (tbl_cons ok_pinThere tbl_nil) Tryz.func92 @vc_pinCheck
def sp_pinsFault:Spec:={ Ts:=[.arr ty_Pin],Rs:=[.dat ty_I],pre:=fun _=>True,F:=fun (p:List Pin)=>pinsF p }
def pv_pinsFault:Prop :=
  ∀ (x:List (Int×Int)),(x.length * ((8:Nat)+(8:Nat))≤big∧∀ (x_1:Int×Int),x_1∈x→InR IntKind.i64 x_1.1∧InR IntKind.i64 x_1.2)→True→(decide ((16:Int)<(↑x.length:Int))=true→(2:Int)=pinsF x∧True)∧(decide ((16:Int)<(↑x.length:Int))=false→((0:Int)≤(0:Int)∧(0:Int)≤(↑x.length:Int)∧pinScan (ahead x (0:Int)) (List.drop (Int.toNat (0:Int)) x)=pinScan (-1:Int) x)∧∀ (x_1:Int),(0:Int)≤x_1∧x_1≤(↑x.length:Int)∧pinScan (ahead x x_1) (List.drop x_1.toNat x)=pinScan (-1:Int) x→(decide (x_1<(↑x.length:Int))=true→(0:Int)≤x_1∧x_1<(↑x.length:Int)∧((decide ((x.getD x_1.toNat ((0:Int),(0:Int))).1<(0:Int))||decide ((255:Int)<(x.getD x_1.toNat ((0:Int),(0:Int))).1)||decide ((x.getD x_1.toNat ((0:Int),(0:Int))).2<(1:Int))||decide ((1000000:Int)<(x.getD x_1.toNat ((0:Int),(0:Int))).2))=true→(4:Int)=pinsF x∧True)∧((decide ((x.getD x_1.toNat ((0:Int),(0:Int))).1<(0:Int))||decide ((255:Int)<(x.getD x_1.toNat ((0:Int),(0:Int))).1)||decide ((x.getD x_1.toNat ((0:Int),(0:Int))).2<(1:Int))||decide ((1000000:Int)<(x.getD x_1.toNat ((0:Int),(0:Int))).2))=false→(decide ((0:Int)<x_1)=true→InR IntKind.i64 (x_1 - (1:Int)))∧(decide ((0:Int)<x_1)=true→(0:Int)≤x_1 - (1:Int))∧(decide ((0:Int)<x_1)=true→x_1 - (1:Int)<(↑x.length:Int))∧((decide ((0:Int)<x_1)&&decide ((x.getD x_1.toNat ((0:Int),(0:Int))).1≤(x.getD (x_1 - (1:Int)).toNat ((0:Int),(0:Int))).1))=true→(3:Int)=pinsF x∧True)∧((decide ((0:Int)<x_1)&&decide ((x.getD x_1.toNat ((0:Int),(0:Int))).1≤(x.getD (x_1 - (1:Int)).toNat ((0:Int),(0:Int))).1))=false→InR IntKind.i64 (x_1+(1:Int))∧((0:Int)≤x_1+(1:Int)∧x_1+(1:Int)≤(↑x.length:Int)∧pinScan (ahead x (x_1+(1:Int))) (List.drop (x_1+(1:Int)).toNat x)=pinScan (-1:Int) x)∧((↑x.length:Int) - (x_1+(1:Int))).toNat<((↑x.length:Int) - x_1).toNat)))∧(decide (x_1<(↑x.length:Int))=false→(0:Int)=pinsF x∧True))
theorem vcp_pinsFault:pv_pinsFault:=by
 unfold pv_pinsFault
 intro p ⟨hb,_⟩ _
 unfold big at hb
 have hF:pinsF p=if 16<p.length then 2 else pinScan (-1) p:=rfl
 refine ⟨fun h=>?_,fun h=>?_⟩
 ·rw [hF,if_pos (by have:=of_decide_eq_true h; omega)]
  exact ⟨rfl,trivial⟩
 have hl:¬ 16<p.length:=by have:=of_decide_eq_false h; omega
 rw [hF,if_neg hl]
 refine ⟨⟨by omega,by omega,rfl⟩,fun i ⟨i0,i1,i2⟩=>⟨fun hlt=>?_,fun hge=>?_⟩⟩
 ·have hlt:=of_decide_eq_true hlt
  rw [ahead_scan i0 hlt] at i2
  have hp:0<i→ahead p i=(p.getD (i - 1).toNat (0,0)).1:=fun h=>if_pos h
  have hn:¬ 0<i→ahead p i=-1:=fun h=>if_neg h
  generalize p.getD i.toNat (0,0)=x at *
  generalize p.getD (i - 1).toNat (0,0)=y at *
  generalize ahead p i=q at *
  have hbad:(decide (x.1<0)||decide (255<x.1)||decide (x.2<1)||decide (1000000<x.2))=badPin x:=by
   unfold badPin
   grind
  rw [hbad]
  refine ⟨i0,hlt,fun hc=>?_,fun hc=>⟨fun _=>by simp only [InR]; omega,fun h=>by have:=of_decide_eq_true h; omega,fun _=>by omega,fun h2=>?_,fun h2=>⟨by simp only [InR]; omega,⟨by omega,by omega,?_⟩,by omega⟩⟩⟩
  ·rw [if_pos hc] at i2
   exact ⟨i2,trivial⟩
  ·rw [if_neg (by rw [hc]; simp)] at i2
   simp only [Bool.and_eq_true,decide_eq_true_eq] at h2
   rw [if_pos (by rw [hp h2.1]; exact h2.2)] at i2
   exact ⟨i2,trivial⟩
  ·rw [if_neg (by rw [hc]; simp)] at i2
   have hx:0≤x.1:=by
    simp only [badPin,Bool.or_eq_false_iff,decide_eq_false_iff_not] at hc
    omega
   rw [if_neg] at i2
   ·exact i2
   ·intro h3
    by_cases h4:0<i
    ·rw [hp h4] at h3
     have:(decide (0<i)&&decide (x.1≤y.1))=true:=by simp [h4,h3]
     rw [this] at h2
     cases h2
    ·rw [hn h4] at h3
     omega
 ·rw [drop_end (of_decide_eq_false hge)] at i2
  exact ⟨i2,trivial⟩
theorem e_pinsFault:pv_pinsFault=(fnVC Tryz.prog (tbl []) an_pinCheck Tryz.f38 sp_pinsFault):=by kernel_rfl
theorem vc_pinsFault:fnVC Tryz.prog (tbl []) an_pinCheck Tryz.f38 sp_pinsFault:=@Eq.mp _ _ @e_pinsFault @vcp_pinsFault
theorem ok_pinsFault:sp_pinsFault.ok Tryz.prog 38:=fn_sound (P:=Tryz.prog) (ss:=tbl []) (ann:=an_pinCheck) (f:=38) (fn:=Tryz.f38) (s:=sp_pinsFault) tbl_nil Tryz.func38 @vc_pinsFault
def cmpL (x y:Int):Int:=if x<y then -1 else if y<x then 1 else 0
def sp_cmpI:Spec:={ Ts:=[ty_I,ty_I],Rs:=[.dat ty_I],pre:=fun _=>True,F:=fun ((x,y):Int×Int)=>cmpL x y }
def pv_cmpI:Prop :=
  ∀ (x:Int×Int),InR IntKind.i64 x.1∧InR IntKind.i64 x.2→True→True∧True∧(false=true→(false=true→(0:Int)=cmpL x.1 x.2∧True)∧(false=false→(-1:Int)=cmpL x.1 x.2∧True))∧(false=false→(false=true→(1:Int)=cmpL x.1 x.2∧True)∧(false=false→(decide (x.1<x.2)=true→(-1:Int)=cmpL x.1 x.2∧True)∧(decide (x.1<x.2)=false→(decide (x.2<x.1)=true→(1:Int)=cmpL x.1 x.2∧True)∧(decide (x.2<x.1)=false→(0:Int)=cmpL x.1 x.2∧True))))
theorem vcp_cmpI:pv_cmpI:=by
 unfold pv_cmpI
 intro ⟨x,y⟩ _ _
 simp only [cmpL]
 grind
theorem e_cmpI:pv_cmpI=(fnVC Tryz.prog (tbl [(163,sp_isNaN2)]) an_0 Tryz.f144 sp_cmpI):=by kernel_rfl
theorem vc_cmpI:fnVC Tryz.prog (tbl [(163,sp_isNaN2)]) an_0 Tryz.f144 sp_cmpI:=@Eq.mp _ _ @e_cmpI @vcp_cmpI
theorem ok_cmpI:sp_cmpI.ok Tryz.prog 144:=fn_sound (P:=Tryz.prog) (ss:=tbl [(163,sp_isNaN2)]) (ann:=an_0) (f:=144) (fn:=Tryz.f144) (s:=sp_cmpI) (tbl_cons ok_isNaN2 tbl_nil) Tryz.func144 @vc_cmpI
def sp_findC:Spec:={ Ts:=[ty_Pin,ty_I],Rs:=[.dat ty_I],pre:=fun _=>True,F:=fun ((x,y):Pin×Int)=>cmpL x.1 y }
def pv_findC:Prop :=
  ∀ (x:(Int×Int)×Int),(InR IntKind.i64 x.1.1∧InR IntKind.i64 x.1.2)∧InR IntKind.i64 x.2→True→True∧cmpL x.1.1 x.2=cmpL x.1.1 x.2∧True
theorem vcp_findC:pv_findC:=by
 unfold pv_findC
 intro ⟨x,y⟩ _ _
 exact ⟨trivial,rfl,trivial⟩
theorem e_findC:pv_findC=(fnVC Tryz.prog (tbl [(144,sp_cmpI)]) an_0 Tryz.f143 sp_findC):=by kernel_rfl
theorem vc_findC:fnVC Tryz.prog (tbl [(144,sp_cmpI)]) an_0 Tryz.f143 sp_findC:=@Eq.mp _ _ @e_findC @vcp_findC
theorem ok_findC:sp_findC.ok Tryz.prog 143:=fn_sound (P:=Tryz.prog) (ss:=tbl [(144,sp_cmpI)]) (ann:=an_0) (f:=143) (fn:=Tryz.f143) (s:=sp_findC) (tbl_cons ok_cmpI tbl_nil) Tryz.func143 @vc_findC
theorem cmpL_lt (x y:Int):decide (cmpL x y<0)=decide (x<y):=by
 unfold cmpL
 grind
theorem cmpL_eq (x y:Int):decide (cmpL x y=0)=decide (x=y):=by
 unfold cmpL
 grind
def findP (p:List Pin) (k:Int):Int×Bool×Int:=if pinsF p≠0 then (0,false,pinsF p) else if (decide (0≤k)&&decide (k<256))=false then (0,false,4) else (lowP p k,hasP p k,0)
def an_find:Nat→Option LoopGen
 | 3000142=>some an_in
 | 14300000003=>some { rd:=[.dat 0 (.arr ty_Pin),.dat 1 ty_I],A:=fun ((p,x):List Pin×Int)=>{ cs:=[.dat 9 ty_I,.dat 10 ty_I],inv:=fun ((lo,hi):Int×Int)=>0≤lo∧lo≤hi∧hi≤p.length∧(∀ j:Nat,(j:Int)<lo→(p.map Prod.fst).getD j 0<x)∧(∀ j:Nat,hi≤j→j<p.length→x≤(p.map Prod.fst).getD j 0),mu:=fun ((lo,hi):Int×Int)=>(hi - lo).toNat } }
 | _=>none
def sp_find:Spec:={ Ts:=[.arr ty_Pin,ty_I],Rs:=[.dat ty_I,.dat .bool,.dat ty_I],pre:=fun _=>True,F:=fun ((p,k):List Pin×Int)=>findP p k }
def pv_find:Prop :=
  ∀ (x:List (Int×Int)×Int),(x.1.length * ((8:Nat)+(8:Nat))≤big∧∀ (x_1:Int×Int),x_1∈x.1→InR IntKind.i64 x_1.1∧InR IntKind.i64 x_1.2)∧InR IntKind.i64 x.2→True→True∧(decide (pinsF x.1=(0:Int))=true→True)∧((decide (pinsF x.1=(0:Int))&&!(decide ((0:Int)≤x.2)&&decide (x.2<(256:Int))))=true→(decide ((4:Int)≠(0:Int))=true→(0:Int)=(findP x.1 x.2).1∧false=(findP x.1 x.2).2.1∧(4:Int)=(findP x.1 x.2).2.2∧True)∧(decide ((4:Int)≠(0:Int))=false→∀ (_:Array Value),((0:Int)≤(0:Int)∧(0:Int)≤(↑x.1.length:Int)∧(↑x.1.length:Int)≤(↑x.1.length:Int)∧(∀ (j:Nat),(↑j:Int)<(0:Int)→(List.map Prod.fst x.1).getD j (0:Int)<x.2)∧∀ (j:Nat),(↑x.1.length:Int)≤(↑j:Int)→j<x.1.length→x.2≤(List.map Prod.fst x.1).getD j (0:Int))∧∀ (x_1:Int×Int),((0:Int)≤x_1.1∧x_1.1≤x_1.2∧x_1.2≤(↑x.1.length:Int)∧(∀ (j:Nat),(↑j:Int)<x_1.1→(List.map Prod.fst x.1).getD j (0:Int)<x.2)∧∀ (j:Nat),x_1.2≤(↑j:Int)→j<x.1.length→x.2≤(List.map Prod.fst x.1).getD j (0:Int))→(decide (x_1.1<x_1.2)=true→InR IntKind.i64 (x_1.1+x_1.2)∧(0:Int)≤(1:Int)∧(1:Int)<(↑IntKind.u64.bits:Int)∧(0:Int)≤IntKind.i64.wrap (IntKind.u64.wrap (x_1.1+x_1.2) / (2:Int) ^ Int.toNat (1:Int))∧IntKind.i64.wrap (IntKind.u64.wrap (x_1.1+x_1.2) / (2:Int) ^ Int.toNat (1:Int))<(↑x.1.length:Int)∧True∧(decide (cmpL (x.1.getD (IntKind.i64.wrap (IntKind.u64.wrap (x_1.1+x_1.2) / (2:Int) ^ Int.toNat (1:Int))).toNat ((0:Int),(0:Int))).1 x.2<(0:Int))=true→InR IntKind.i64 (IntKind.i64.wrap (IntKind.u64.wrap (x_1.1+x_1.2) / (2:Int) ^ Int.toNat (1:Int))+(1:Int))∧((0:Int)≤IntKind.i64.wrap (IntKind.u64.wrap (x_1.1+x_1.2) / (2:Int) ^ Int.toNat (1:Int))+(1:Int)∧IntKind.i64.wrap (IntKind.u64.wrap (x_1.1+x_1.2) / (2:Int) ^ Int.toNat (1:Int))+(1:Int)≤x_1.2∧x_1.2≤(↑x.1.length:Int)∧(∀ (j:Nat),(↑j:Int)<IntKind.i64.wrap (IntKind.u64.wrap (x_1.1+x_1.2) / (2:Int) ^ Int.toNat (1:Int))+(1:Int)→(List.map Prod.fst x.1).getD j (0:Int)<x.2)∧∀ (j:Nat),x_1.2≤(↑j:Int)→j<x.1.length→x.2≤(List.map Prod.fst x.1).getD j (0:Int))∧(x_1.2 - (IntKind.i64.wrap (IntKind.u64.wrap (x_1.1+x_1.2) / (2:Int) ^ Int.toNat (1:Int))+(1:Int))).toNat<(x_1.2 - x_1.1).toNat)∧(decide (cmpL (x.1.getD (IntKind.i64.wrap (IntKind.u64.wrap (x_1.1+x_1.2) / (2:Int) ^ Int.toNat (1:Int))).toNat ((0:Int),(0:Int))).1 x.2<(0:Int))=false→((0:Int)≤x_1.1∧x_1.1≤IntKind.i64.wrap (IntKind.u64.wrap (x_1.1+x_1.2) / (2:Int) ^ Int.toNat (1:Int))∧IntKind.i64.wrap (IntKind.u64.wrap (x_1.1+x_1.2) / (2:Int) ^ Int.toNat (1:Int))≤(↑x.1.length:Int)∧(∀ (j:Nat),(↑j:Int)<x_1.1→(List.map Prod.fst x.1).getD j (0:Int)<x.2)∧∀ (j:Nat),IntKind.i64.wrap (IntKind.u64.wrap (x_1.1+x_1.2) / (2:Int) ^ Int.toNat (1:Int))≤(↑j:Int)→j<x.1.length→x.2≤(List.map Prod.fst x.1).getD j (0:Int))∧(IntKind.i64.wrap (IntKind.u64.wrap (x_1.1+x_1.2) / (2:Int) ^ Int.toNat (1:Int)) - x_1.1).toNat<(x_1.2 - x_1.1).toNat))∧(decide (x_1.1<x_1.2)=false→(decide (x_1.1<(↑x.1.length:Int))=true→(0:Int)≤x_1.1)∧(decide (x_1.1<(↑x.1.length:Int))=true→x_1.1<(↑x.1.length:Int))∧(decide (x_1.1<(↑x.1.length:Int))=true→True)∧x_1.1=(findP x.1 x.2).1∧(decide (x_1.1<(↑x.1.length:Int))&&decide (cmpL (x.1.getD x_1.1.toNat ((0:Int),(0:Int))).1 x.2=(0:Int)))=(findP x.1 x.2).2.1∧(0:Int)=(findP x.1 x.2).2.2∧True)))∧((decide (pinsF x.1=(0:Int))&&!(decide ((0:Int)≤x.2)&&decide (x.2<(256:Int))))=false→(decide (pinsF x.1≠(0:Int))=true→(0:Int)=(findP x.1 x.2).1∧false=(findP x.1 x.2).2.1∧pinsF x.1=(findP x.1 x.2).2.2∧True)∧(decide (pinsF x.1≠(0:Int))=false→∀ (_:Array Value),((0:Int)≤(0:Int)∧(0:Int)≤(↑x.1.length:Int)∧(↑x.1.length:Int)≤(↑x.1.length:Int)∧(∀ (j:Nat),(↑j:Int)<(0:Int)→(List.map Prod.fst x.1).getD j (0:Int)<x.2)∧∀ (j:Nat),(↑x.1.length:Int)≤(↑j:Int)→j<x.1.length→x.2≤(List.map Prod.fst x.1).getD j (0:Int))∧∀ (x_1:Int×Int),((0:Int)≤x_1.1∧x_1.1≤x_1.2∧x_1.2≤(↑x.1.length:Int)∧(∀ (j:Nat),(↑j:Int)<x_1.1→(List.map Prod.fst x.1).getD j (0:Int)<x.2)∧∀ (j:Nat),x_1.2≤(↑j:Int)→j<x.1.length→x.2≤(List.map Prod.fst x.1).getD j (0:Int))→(decide (x_1.1<x_1.2)=true→InR IntKind.i64 (x_1.1+x_1.2)∧(0:Int)≤(1:Int)∧(1:Int)<(↑IntKind.u64.bits:Int)∧(0:Int)≤IntKind.i64.wrap (IntKind.u64.wrap (x_1.1+x_1.2) / (2:Int) ^ Int.toNat (1:Int))∧IntKind.i64.wrap (IntKind.u64.wrap (x_1.1+x_1.2) / (2:Int) ^ Int.toNat (1:Int))<(↑x.1.length:Int)∧True∧(decide (cmpL (x.1.getD (IntKind.i64.wrap (IntKind.u64.wrap (x_1.1+x_1.2) / (2:Int) ^ Int.toNat (1:Int))).toNat ((0:Int),(0:Int))).1 x.2<(0:Int))=true→InR IntKind.i64 (IntKind.i64.wrap (IntKind.u64.wrap (x_1.1+x_1.2) / (2:Int) ^ Int.toNat (1:Int))+(1:Int))∧((0:Int)≤IntKind.i64.wrap (IntKind.u64.wrap (x_1.1+x_1.2) / (2:Int) ^ Int.toNat (1:Int))+(1:Int)∧IntKind.i64.wrap (IntKind.u64.wrap (x_1.1+x_1.2) / (2:Int) ^ Int.toNat (1:Int))+(1:Int)≤x_1.2∧x_1.2≤(↑x.1.length:Int)∧(∀ (j:Nat),(↑j:Int)<IntKind.i64.wrap (IntKind.u64.wrap (x_1.1+x_1.2) / (2:Int) ^ Int.toNat (1:Int))+(1:Int)→(List.map Prod.fst x.1).getD j (0:Int)<x.2)∧∀ (j:Nat),x_1.2≤(↑j:Int)→j<x.1.length→x.2≤(List.map Prod.fst x.1).getD j (0:Int))∧(x_1.2 - (IntKind.i64.wrap (IntKind.u64.wrap (x_1.1+x_1.2) / (2:Int) ^ Int.toNat (1:Int))+(1:Int))).toNat<(x_1.2 - x_1.1).toNat)∧(decide (cmpL (x.1.getD (IntKind.i64.wrap (IntKind.u64.wrap (x_1.1+x_1.2) / (2:Int) ^ Int.toNat (1:Int))).toNat ((0:Int),(0:Int))).1 x.2<(0:Int))=false→((0:Int)≤x_1.1∧x_1.1≤IntKind.i64.wrap (IntKind.u64.wrap (x_1.1+x_1.2) / (2:Int) ^ Int.toNat (1:Int))∧IntKind.i64.wrap (IntKind.u64.wrap (x_1.1+x_1.2) / (2:Int) ^ Int.toNat (1:Int))≤(↑x.1.length:Int)∧(∀ (j:Nat),(↑j:Int)<x_1.1→(List.map Prod.fst x.1).getD j (0:Int)<x.2)∧∀ (j:Nat),IntKind.i64.wrap (IntKind.u64.wrap (x_1.1+x_1.2) / (2:Int) ^ Int.toNat (1:Int))≤(↑j:Int)→j<x.1.length→x.2≤(List.map Prod.fst x.1).getD j (0:Int))∧(IntKind.i64.wrap (IntKind.u64.wrap (x_1.1+x_1.2) / (2:Int) ^ Int.toNat (1:Int)) - x_1.1).toNat<(x_1.2 - x_1.1).toNat))∧(decide (x_1.1<x_1.2)=false→(decide (x_1.1<(↑x.1.length:Int))=true→(0:Int)≤x_1.1)∧(decide (x_1.1<(↑x.1.length:Int))=true→x_1.1<(↑x.1.length:Int))∧(decide (x_1.1<(↑x.1.length:Int))=true→True)∧x_1.1=(findP x.1 x.2).1∧(decide (x_1.1<(↑x.1.length:Int))&&decide (cmpL (x.1.getD x_1.1.toNat ((0:Int),(0:Int))).1 x.2=(0:Int)))=(findP x.1 x.2).2.1∧(0:Int)=(findP x.1 x.2).2.2∧True)))
theorem vcp_find:pv_find:=by
 unfold pv_find
 intro ⟨p,k⟩ ⟨⟨hb,_⟩,hk⟩ _
 unfold big at hb
 simp only at hb hk ⊢
 have hF:findP p k=if pinsF p≠0 then (0,false,pinsF p) else if (decide (0≤k)&&decide (k<256))=false then (0,false,4) else (lowP p k,hasP p k,0):=rfl
 rw [hF]
 refine ⟨trivial,fun _=>trivial,fun h=>⟨fun _=>?_,fun h4=>absurd h4 (by decide)⟩,fun h=>⟨fun h1=>?_,fun h1 tm=>?_⟩⟩
 ·simp only [Bool.and_eq_true,decide_eq_true_eq,Bool.not_eq_true'] at h
  rw [if_neg (by omega),if_pos h.2]
  refine ⟨?_,?_,?_,trivial⟩ <;> first | trivial | rfl
 ·rw [if_pos (of_decide_eq_true h1)]
  refine ⟨?_,?_,?_,trivial⟩ <;> first | trivial | rfl
 have h0:pinsF p=0:=by simpa using of_decide_eq_false h1
 have hth:(decide (0≤k)&&decide (k<256))=true:=by
  rw [decide_eq_true h0,Bool.true_and,Bool.not_eq_false'] at h
  exact h
 rw [if_neg (by omega),if_neg (by rw [hth]; simp)]
 obtain ⟨_,hp,_⟩:=pins_ok h0
 have hs:(p.map Prod.fst).Pairwise (·≤·):=List.pairwise_map.2 (hp.imp fun h=>Int.le_of_lt h)
 have hll:(p.map Prod.fst).length=p.length:=List.length_map _
 simp only [cmpL_lt,cmpL_eq,← fst_getD]
 obtain ⟨l,hl⟩:∃ l,l=p.map Prod.fst:=⟨_,rfl⟩
 have hlo:lowP p k=lowI l k:=by rw [hl]; rfl
 have hha:hasP p k=inL l k:=by rw [hl]; rfl
 rw [hlo,hha]
 rw [← hl] at hs hll ⊢
 rw [← hll] at hb ⊢
 refine ⟨⟨by omega,by omega,by omega,fun j hj=>by omega,fun j h2 h3=>by omega⟩,fun ⟨lo,hi⟩ ⟨q1,q2,q3,q4,q5⟩=>⟨fun hlt=>?_,fun hge=>?_⟩⟩
 ·simp only at q1 q2 q3 q4 q5 hlt ⊢
  have hlt:=of_decide_eq_true hlt
  have hm:IntKind.i64.wrap (IntKind.u64.wrap (lo+hi) / 2 ^ Int.toNat 1)=(lo+hi) / 2:=by
   rw [wrapU (by omega) (by omega),show (2:Int) ^ Int.toNat 1=2 from rfl,wrapI (by omega) (by omega)]
  simp only [hm]
  have hm1:lo≤(lo+hi) / 2∧(lo+hi) / 2<hi:=by omega
  generalize (lo+hi) / 2=m at *
  simp only [InR]
  refine ⟨by omega,by omega,by decide,by omega,by omega,trivial,fun hc=>⟨by omega,⟨by omega,by omega,by omega,fun j hj=>?_,q5⟩,by omega⟩,fun hc=>⟨⟨by omega,by omega,by omega,q4,fun j h1 h2=>?_⟩,by omega⟩⟩
  ·have hc:=of_decide_eq_true hc
   have:=sorted_getD hs (i:=j) (j:=m.toNat) (by omega) (by omega)
   omega
  ·have hc:=of_decide_eq_false hc
   have:=sorted_getD hs (i:=m.toNat) (j:=j) (by omega) (by omega)
   omega
 ·simp only at q1 q2 q3 q4 q5 hge ⊢
  have hge:=of_decide_eq_false hge
  have he:hi=lo:=by omega
  subst he
  obtain ⟨n,rfl⟩:∃ n:Nat,hi=n:=⟨hi.toNat,by omega⟩
  have h1:∀ j:Nat,j<n→l.getD j 0<k:=fun j hj=>q4 j (by omega)
  have h2:∀ j:Nat,n≤j→j<l.length→k≤l.getD j 0:=fun j h1 h2=>q5 j (by omega) h2
  rw [low_is (by omega) h1 h2,low_in hs h1 h2]
  refine ⟨fun _=>by omega,fun h=>of_decide_eq_true h,fun _=>trivial,by first | trivial | rfl,?_,by first | trivial | rfl,trivial⟩
  simp
theorem e_find:pv_find=(fnVC Tryz.prog (tbl [(92,sp_pinCheck),(127,sp_pinThere),(143,sp_findC)]) an_find Tryz.f108 sp_find):=by kernel_rfl
theorem vc_find:fnVC Tryz.prog (tbl [(92,sp_pinCheck),(127,sp_pinThere),(143,sp_findC)]) an_find Tryz.f108 sp_find:=@Eq.mp _ _ @e_find @vcp_find
theorem ok_find:sp_find.ok Tryz.prog 108:=fn_sound (P:=Tryz.prog) (ss:=tbl [(92,sp_pinCheck),(127,sp_pinThere),(143,sp_findC)]) (ann:=an_find) (f:=108) (fn:=Tryz.f108) (s:=sp_find) (tbl_cons ok_pinCheck (tbl_cons ok_pinThere (tbl_cons ok_findC tbl_nil))) Tryz.func108 @vc_find
theorem findP_ok {p:List Pin} {k:Int} (h:(findP p k).2.2=0):pinsF p=0∧0≤k∧k≤255∧findP p k=(lowP p k,hasP p k,0):=by
 unfold findP at h ⊢
 split at h
 ·rename_i h1; exact absurd h h1
 ·rename_i h1
  split at h
  ·cases h
  ·rename_i h2
   rw [if_neg h1,if_neg h2]
   have h2:(decide (0≤k)&&decide (k<256))=true:=by simpa using h2
   simp only [Bool.and_eq_true,decide_eq_true_eq] at h2
   exact ⟨by omega,h2.1,by omega,rfl⟩
theorem find_parts {p:List Pin} {k:Int} (h:(findP p k).2.2=0):∃ A B:List Pin,findP p k=((A.length:Int),hasP p k,0)∧lowP p k=A.length∧p.length≤16∧(∀ x∈A,x.1<k)∧(∀ x∈B,k<x.1) ∧
  ((hasP p k=false∧manyP p k=0∧p=A++B)∨(hasP p k=true∧1≤manyP p k∧manyP p k≤1000000∧p=A++(k,manyP p k)::B)):=by
 obtain ⟨h1,h2,h3,h4⟩:=findP_ok h
 obtain ⟨h5,h6,h7⟩:=pins_ok h1
 obtain ⟨A,B,a1,a2,a3,a4⟩:=low_parts h6 k
 refine ⟨A,B,by rw [h4,a3],a3,h5,a1,a2,?_⟩
 rcases a4 with ⟨b1,b2⟩ | ⟨v,b1,b2⟩
 ·refine .inl ⟨?_,?_,b2⟩
  ·rw [hasP_get h6,b1]; rfl
  ·unfold manyP; rw [b1]; rfl
 ·have hm:manyP p k=v:=by unfold manyP; rw [b1]; rfl
  have hv:=h7 (k,v) (by rw [b2]; simp)
  refine .inr ⟨?_,?_,?_,by rw [hm]; exact b2⟩
  ·rw [hasP_get h6,b1]; rfl
  ·rw [hm]; exact hv.2.2.1
  ·rw [hm]; exact hv.2.2.2
theorem get_at {A B:List Pin} {x:Pin}:(A++x::B).getD ((A.length:Int)).toNat (0,0)=x:=by simp
theorem set_at {A B:List Pin} {x:Pin} (y:Pin):(A++x::B).set ((A.length:Int)).toNat y=A++y::B:=by simp
theorem ins_at {A B:List Pin} (x:Pin):insG (A++B) [x] (A.length:Int)=A++x::B:=by simp [insG]
theorem cut_at {A B:List Pin} {x:Pin}:cutG (A++x::B) (A.length:Int) ((A.length:Int)+1)=A++B:=by
 unfold cutG
 rw [show ((A.length:Int)+1).toNat=A.length+1 by omega]
 simp
def sp_clonePins:Spec:={ Ts:=[.arr ty_Pin],Rs:=[.own 89 ty_Pin],pre:=fun _=>True,F:=fun (x:List Pin)=>x }
def pv_clonePins:Prop :=
  ∀ (x:List (Int×Int)),(x.length * ((8:Nat)+(8:Nat))≤big∧∀ (x_1:Int×Int),x_1∈x→InR IntKind.i64 x_1.1∧InR IntKind.i64 x_1.2)→True→(x=([]:List (Int×Int))→([]:List (Int×Int))=x∧True)∧(True→((0:Nat)+x.length) * ((8:Nat)+(8:Nat))≤big∧([]:List (Int×Int))++x=x∧True)
theorem vcp_clonePins:pv_clonePins:=by
 unfold pv_clonePins
 intro x ⟨hb,_⟩ _
 simp [hb]
theorem e_clonePins:pv_clonePins=(fnVC Tryz.prog (tbl []) an_0 Tryz.f98 sp_clonePins):=by kernel_rfl
theorem vc_clonePins:fnVC Tryz.prog (tbl []) an_0 Tryz.f98 sp_clonePins:=@Eq.mp _ _ @e_clonePins @vcp_clonePins
theorem ok_clonePins:sp_clonePins.ok Tryz.prog 98:=fn_sound (P:=Tryz.prog) (ss:=tbl []) (ann:=an_0) (f:=98) (fn:=Tryz.f98) (s:=sp_clonePins) tbl_nil Tryz.func98 @vc_clonePins
def addP (p:List Pin) (k:Int):List Pin×Int×Int :=
 if (findP p k).2.2≠0 then ([],0,(findP p k).2.2) else if manyP p k=1000000∨(hasP p k=false∧p.length=16) then ([],0,7)
 else ((if hasP p k=true then p.set (lowP p k).toNat (k,manyP p k+1) else insG p [(k,1)] (lowP p k)),manyP p k+1,0)
def sp_add:Spec:={ Ts:=[.arr ty_Pin,ty_I],Rs:=[.own 89 ty_Pin,.dat ty_I,.dat ty_I],pre:=fun _=>True,F:=fun ((p,k):List Pin×Int)=>addP p k }
def pv_add:Prop :=
  ∀ (x:List (Int×Int)×Int),(x.1.length * ((8:Nat)+(8:Nat))≤big∧∀ (x_1:Int×Int),x_1∈x.1→InR IntKind.i64 x_1.1∧InR IntKind.i64 x_1.2)∧InR IntKind.i64 x.2→True→True∧(decide ((findP x.1 x.2).2.2≠(0:Int))=true→([]:List (Int×Int))=(addP x.1 x.2).1∧(0:Int)=(addP x.1 x.2).2.1∧(findP x.1 x.2).2.2=(addP x.1 x.2).2.2∧True)∧(decide ((findP x.1 x.2).2.2≠(0:Int))=false→((findP x.1 x.2).2.1=true→(0:Int)≤(findP x.1 x.2).1)∧((findP x.1 x.2).2.1=true→(findP x.1 x.2).1<(↑x.1.length:Int))∧(((findP x.1 x.2).2.1&&decide ((x.1.getD (findP x.1 x.2).1.toNat ((0:Int),(0:Int))).2=(1000000:Int))||!(findP x.1 x.2).2.1&&decide ((↑x.1.length:Int)=(16:Int)))=true→([]:List (Int×Int))=(addP x.1 x.2).1∧(0:Int)=(addP x.1 x.2).2.1∧(7:Int)=(addP x.1 x.2).2.2∧True)∧(((findP x.1 x.2).2.1&&decide ((x.1.getD (findP x.1 x.2).1.toNat ((0:Int),(0:Int))).2=(1000000:Int))||!(findP x.1 x.2).2.1&&decide ((↑x.1.length:Int)=(16:Int)))=false→True∧((!(findP x.1 x.2).2.1)=true→((0:Nat)<[(x.2,(0:Int))].length∧(0:Int)≤(findP x.1 x.2).1∧(findP x.1 x.2).1≤(↑x.1.length:Int)∧(x.1.length+[(x.2,(0:Int))].length) * ((8:Nat)+(8:Nat))≤big)∧(0:Int)≤(findP x.1 x.2).1∧(findP x.1 x.2).1<(↑(insG x.1 [(x.2,(0:Int))] (findP x.1 x.2).1).length:Int)∧(findP x.1 x.2).1.toNat<(insG x.1 [(x.2,(0:Int))] (findP x.1 x.2).1).length∧InR IntKind.i64 (((insG x.1 [(x.2,(0:Int))] (findP x.1 x.2).1).getD (findP x.1 x.2).1.toNat ((0:Int),(0:Int))).2+(1:Int))∧(0:Int)≤(findP x.1 x.2).1∧(findP x.1 x.2).1<(↑(insG x.1 [(x.2,(0:Int))] (findP x.1 x.2).1).length:Int)∧(findP x.1 x.2).1.toNat<(insG x.1 [(x.2,(0:Int))] (findP x.1 x.2).1).length∧(0:Int)≤(findP x.1 x.2).1∧(findP x.1 x.2).1<(↑((insG x.1 [(x.2,(0:Int))] (findP x.1 x.2).1).set (findP x.1 x.2).1.toNat (((insG x.1 [(x.2,(0:Int))] (findP x.1 x.2).1).getD (findP x.1 x.2).1.toNat ((0:Int),(0:Int))).1,((insG x.1 [(x.2,(0:Int))] (findP x.1 x.2).1).getD (findP x.1 x.2).1.toNat ((0:Int),(0:Int))).2+(1:Int))).length:Int)∧(findP x.1 x.2).1.toNat<((insG x.1 [(x.2,(0:Int))] (findP x.1 x.2).1).set (findP x.1 x.2).1.toNat (((insG x.1 [(x.2,(0:Int))] (findP x.1 x.2).1).getD (findP x.1 x.2).1.toNat ((0:Int),(0:Int))).1,((insG x.1 [(x.2,(0:Int))] (findP x.1 x.2).1).getD (findP x.1 x.2).1.toNat ((0:Int),(0:Int))).2+(1:Int))).length∧(insG x.1 [(x.2,(0:Int))] (findP x.1 x.2).1).set (findP x.1 x.2).1.toNat (((insG x.1 [(x.2,(0:Int))] (findP x.1 x.2).1).getD (findP x.1 x.2).1.toNat ((0:Int),(0:Int))).1,((insG x.1 [(x.2,(0:Int))] (findP x.1 x.2).1).getD (findP x.1 x.2).1.toNat ((0:Int),(0:Int))).2+(1:Int))=(addP x.1 x.2).1∧(((insG x.1 [(x.2,(0:Int))] (findP x.1 x.2).1).set (findP x.1 x.2).1.toNat (((insG x.1 [(x.2,(0:Int))] (findP x.1 x.2).1).getD (findP x.1 x.2).1.toNat ((0:Int),(0:Int))).1,((insG x.1 [(x.2,(0:Int))] (findP x.1 x.2).1).getD (findP x.1 x.2).1.toNat ((0:Int),(0:Int))).2+(1:Int))).getD (findP x.1 x.2).1.toNat ((0:Int),(0:Int))).2=(addP x.1 x.2).2.1∧(0:Int)=(addP x.1 x.2).2.2∧True)∧((!(findP x.1 x.2).2.1)=false→(0:Int)≤(findP x.1 x.2).1∧(findP x.1 x.2).1<(↑x.1.length:Int)∧(findP x.1 x.2).1.toNat<x.1.length∧InR IntKind.i64 ((x.1.getD (findP x.1 x.2).1.toNat ((0:Int),(0:Int))).2+(1:Int))∧(0:Int)≤(findP x.1 x.2).1∧(findP x.1 x.2).1<(↑x.1.length:Int)∧(findP x.1 x.2).1.toNat<x.1.length∧(0:Int)≤(findP x.1 x.2).1∧(findP x.1 x.2).1<(↑(x.1.set (findP x.1 x.2).1.toNat ((x.1.getD (findP x.1 x.2).1.toNat ((0:Int),(0:Int))).1,(x.1.getD (findP x.1 x.2).1.toNat ((0:Int),(0:Int))).2+(1:Int))).length:Int)∧(findP x.1 x.2).1.toNat<(x.1.set (findP x.1 x.2).1.toNat ((x.1.getD (findP x.1 x.2).1.toNat ((0:Int),(0:Int))).1,(x.1.getD (findP x.1 x.2).1.toNat ((0:Int),(0:Int))).2+(1:Int))).length∧x.1.set (findP x.1 x.2).1.toNat ((x.1.getD (findP x.1 x.2).1.toNat ((0:Int),(0:Int))).1,(x.1.getD (findP x.1 x.2).1.toNat ((0:Int),(0:Int))).2+(1:Int))=(addP x.1 x.2).1∧((x.1.set (findP x.1 x.2).1.toNat ((x.1.getD (findP x.1 x.2).1.toNat ((0:Int),(0:Int))).1,(x.1.getD (findP x.1 x.2).1.toNat ((0:Int),(0:Int))).2+(1:Int))).getD (findP x.1 x.2).1.toNat ((0:Int),(0:Int))).2=(addP x.1 x.2).2.1∧(0:Int)=(addP x.1 x.2).2.2∧True)))
theorem vcp_add:pv_add:=by
 unfold pv_add
 intro ⟨p,k⟩ ⟨⟨hb,_⟩,_⟩ _
 unfold big at hb
 simp only at hb ⊢
 have hF:addP p k=if (findP p k).2.2≠0 then ([],0,(findP p k).2.2) else if manyP p k=1000000∨(hasP p k=false∧p.length=16) then ([],0,7)
  else ((if hasP p k=true then p.set (lowP p k).toNat (k,manyP p k+1) else insG p [(k,1)] (lowP p k)),manyP p k+1,0):=rfl
 rw [hF]
 refine ⟨trivial,fun h=>?_,fun h=>?_⟩
 ·rw [if_pos (of_decide_eq_true h)]
  exact ⟨by first | trivial | rfl,by first | trivial | rfl,by first | trivial | rfl,trivial⟩
 have h0:(findP p k).2.2=0:=by simpa using of_decide_eq_false h
 rw [if_neg (by omega)]
 obtain ⟨A,B,e,e2,hl,_,_,h1⟩:=find_parts h0
 rw [e,e2]
 simp only
 rcases h1 with ⟨h1,h2,h3⟩ | ⟨h1,h2,h2',h3⟩
 ·rw [h1,h2]
  subst h3
  refine ⟨(fun h=>by cases h),(fun h=>by cases h),fun h=>?_,fun h=>⟨trivial,fun _=>?_,(fun h=>by cases h)⟩⟩
  ·have h:(A++B).length=16:=by
    have:(((A++B).length:Nat):Int)=16:=by simpa using h
    omega
   rw [if_pos (.inr ⟨rfl,h⟩)]
   exact ⟨by first | trivial | rfl,by first | trivial | rfl,by first | trivial | rfl,trivial⟩
  ·have h:¬ (A++B).length=16:=by
    intro h4
    simp only [Bool.not_false,Bool.true_and,Bool.false_and,Bool.false_or,decide_eq_false_iff_not] at h
    exact h (by omega)
   have hno:¬ ((0:Int)=1000000∨(false=false∧(A++B).length=16)):=by
    rintro (h4 | h4)
    ·omega
    ·exact h h4.2
   rw [if_neg hno,if_neg (by simp),ins_at,ins_at,get_at,set_at,get_at]
   simp only [InR,List.length_append,List.length_cons,List.length_nil] at *
   unfold big
   refine ⟨⟨by omega,by omega,by omega,by omega⟩,by omega,by omega,by omega,by omega,by omega,by omega,by omega,by omega,by omega,by omega,?_,?_,trivial,trivial⟩ <;> first | trivial | rfl
 ·rw [h1]
  generalize manyP p k=v at *
  subst h3
  rw [get_at]
  refine ⟨fun _=>by omega,fun _=>by simp; omega,fun h=>?_,fun h=>⟨trivial,(fun h=>by cases h),fun _=>?_⟩⟩
  ·have h:v=1000000:=by simpa using h
   rw [if_pos (.inl h)]
   exact ⟨by first | trivial | rfl,by first | trivial | rfl,by first | trivial | rfl,trivial⟩
  ·have h:v≠1000000:=by simpa using h
   have hno:¬ (v=1000000∨(true=false∧(A++(k,v)::B).length=16)):=by
    rintro (h4 | h4)
    ·exact h h4
    ·exact absurd h4.1 (by simp)
   rw [if_neg hno,if_pos rfl,set_at,get_at]
   simp only [InR,List.length_append,List.length_cons,List.length_nil] at *
   refine ⟨by omega,by omega,by omega,by omega,by omega,by omega,by omega,by omega,by omega,by omega,?_,?_,trivial,trivial⟩ <;> first | trivial | rfl
theorem e_add:pv_add=(fnVC Tryz.prog (tbl [(108,sp_find),(98,sp_clonePins)] [(109,sp_insPin)]) an_0 Tryz.f75 sp_add):=by kernel_rfl
theorem vc_add:fnVC Tryz.prog (tbl [(108,sp_find),(98,sp_clonePins)] [(109,sp_insPin)]) an_0 Tryz.f75 sp_add:=@Eq.mp _ _ @e_add @vcp_add
theorem ok_add:sp_add.ok Tryz.prog 75:=fn_sound (P:=Tryz.prog) (ss:=tbl [(108,sp_find),(98,sp_clonePins)] [(109,sp_insPin)]) (ann:=an_0) (f:=75) (fn:=Tryz.f75) (s:=sp_add) (tbl_cons ok_find (tbl_cons ok_clonePins (tbl_row ok_insPin tbl_nil))) Tryz.func75 @vc_add
def dropP (p:List Pin) (k:Int):List Pin×Int×Int :=
 if (findP p k).2.2≠0 then ([],0,(findP p k).2.2) else if hasP p k=false then ([],0,5)
 else ((if manyP p k=1 then cutG p (lowP p k) (lowP p k+1) else p.set (lowP p k).toNat (k,manyP p k - 1)),manyP p k - 1,0)
def sp_drop:Spec:={ Ts:=[.arr ty_Pin,ty_I],Rs:=[.own 89 ty_Pin,.dat ty_I,.dat ty_I],pre:=fun _=>True,F:=fun ((p,k):List Pin×Int)=>dropP p k }
def pv_drop:Prop :=
  ∀ (x:List (Int×Int)×Int),(x.1.length * ((8:Nat)+(8:Nat))≤big∧∀ (x_1:Int×Int),x_1∈x.1→InR IntKind.i64 x_1.1∧InR IntKind.i64 x_1.2)∧InR IntKind.i64 x.2→True→True∧(decide ((findP x.1 x.2).2.2≠(0:Int))=true→([]:List (Int×Int))=(dropP x.1 x.2).1∧(0:Int)=(dropP x.1 x.2).2.1∧(findP x.1 x.2).2.2=(dropP x.1 x.2).2.2∧True)∧(decide ((findP x.1 x.2).2.2≠(0:Int))=false→((!(findP x.1 x.2).2.1)=true→([]:List (Int×Int))=(dropP x.1 x.2).1∧(0:Int)=(dropP x.1 x.2).2.1∧(5:Int)=(dropP x.1 x.2).2.2∧True)∧((!(findP x.1 x.2).2.1)=false→True∧(0:Int)≤(findP x.1 x.2).1∧(findP x.1 x.2).1<(↑x.1.length:Int)∧(findP x.1 x.2).1.toNat<x.1.length∧InR IntKind.i64 ((x.1.getD (findP x.1 x.2).1.toNat ((0:Int),(0:Int))).2 - (1:Int))∧(0:Int)≤(findP x.1 x.2).1∧(findP x.1 x.2).1<(↑x.1.length:Int)∧(findP x.1 x.2).1.toNat<x.1.length∧(0:Int)≤(findP x.1 x.2).1∧(findP x.1 x.2).1<(↑(x.1.set (findP x.1 x.2).1.toNat ((x.1.getD (findP x.1 x.2).1.toNat ((0:Int),(0:Int))).1,(x.1.getD (findP x.1 x.2).1.toNat ((0:Int),(0:Int))).2 - (1:Int))).length:Int)∧(findP x.1 x.2).1.toNat<(x.1.set (findP x.1 x.2).1.toNat ((x.1.getD (findP x.1 x.2).1.toNat ((0:Int),(0:Int))).1,(x.1.getD (findP x.1 x.2).1.toNat ((0:Int),(0:Int))).2 - (1:Int))).length∧(decide (((x.1.set (findP x.1 x.2).1.toNat ((x.1.getD (findP x.1 x.2).1.toNat ((0:Int),(0:Int))).1,(x.1.getD (findP x.1 x.2).1.toNat ((0:Int),(0:Int))).2 - (1:Int))).getD (findP x.1 x.2).1.toNat ((0:Int),(0:Int))).2=(0:Int))=true→InR IntKind.i64 ((findP x.1 x.2).1+(1:Int))∧((0:Int)≤(findP x.1 x.2).1∧(findP x.1 x.2).1<(findP x.1 x.2).1+(1:Int)∧(findP x.1 x.2).1+(1:Int)≤(↑(x.1.set (findP x.1 x.2).1.toNat ((x.1.getD (findP x.1 x.2).1.toNat ((0:Int),(0:Int))).1,(x.1.getD (findP x.1 x.2).1.toNat ((0:Int),(0:Int))).2 - (1:Int))).length:Int))∧cutG (x.1.set (findP x.1 x.2).1.toNat ((x.1.getD (findP x.1 x.2).1.toNat ((0:Int),(0:Int))).1,(x.1.getD (findP x.1 x.2).1.toNat ((0:Int),(0:Int))).2 - (1:Int))) (findP x.1 x.2).1 ((findP x.1 x.2).1+(1:Int))=(dropP x.1 x.2).1∧((x.1.set (findP x.1 x.2).1.toNat ((x.1.getD (findP x.1 x.2).1.toNat ((0:Int),(0:Int))).1,(x.1.getD (findP x.1 x.2).1.toNat ((0:Int),(0:Int))).2 - (1:Int))).getD (findP x.1 x.2).1.toNat ((0:Int),(0:Int))).2=(dropP x.1 x.2).2.1∧(0:Int)=(dropP x.1 x.2).2.2∧True)∧(decide (((x.1.set (findP x.1 x.2).1.toNat ((x.1.getD (findP x.1 x.2).1.toNat ((0:Int),(0:Int))).1,(x.1.getD (findP x.1 x.2).1.toNat ((0:Int),(0:Int))).2 - (1:Int))).getD (findP x.1 x.2).1.toNat ((0:Int),(0:Int))).2=(0:Int))=false→x.1.set (findP x.1 x.2).1.toNat ((x.1.getD (findP x.1 x.2).1.toNat ((0:Int),(0:Int))).1,(x.1.getD (findP x.1 x.2).1.toNat ((0:Int),(0:Int))).2 - (1:Int))=(dropP x.1 x.2).1∧((x.1.set (findP x.1 x.2).1.toNat ((x.1.getD (findP x.1 x.2).1.toNat ((0:Int),(0:Int))).1,(x.1.getD (findP x.1 x.2).1.toNat ((0:Int),(0:Int))).2 - (1:Int))).getD (findP x.1 x.2).1.toNat ((0:Int),(0:Int))).2=(dropP x.1 x.2).2.1∧(0:Int)=(dropP x.1 x.2).2.2∧True)))
theorem vcp_drop:pv_drop:=by
 unfold pv_drop
 intro ⟨p,k⟩ ⟨⟨hb,_⟩,_⟩ _
 unfold big at hb
 simp only at hb ⊢
 have hF:dropP p k=if (findP p k).2.2≠0 then ([],0,(findP p k).2.2) else if hasP p k=false then ([],0,5)
  else ((if manyP p k=1 then cutG p (lowP p k) (lowP p k+1) else p.set (lowP p k).toNat (k,manyP p k - 1)),manyP p k - 1,0):=rfl
 rw [hF]
 refine ⟨trivial,fun h=>?_,fun h=>?_⟩
 ·rw [if_pos (of_decide_eq_true h)]
  exact ⟨by first | trivial | rfl,by first | trivial | rfl,by first | trivial | rfl,trivial⟩
 have h0:(findP p k).2.2=0:=by simpa using of_decide_eq_false h
 rw [if_neg (by omega)]
 obtain ⟨A,B,e,e2,hl,_,_,h1⟩:=find_parts h0
 rw [e,e2]
 simp only
 rcases h1 with ⟨h1,h2,h3⟩ | ⟨h1,h2,h2',h3⟩
 ·rw [h1,if_pos rfl]
  exact ⟨fun _=>⟨by first | trivial | rfl,by first | trivial | rfl,by first | trivial | rfl,trivial⟩,fun h=>by cases h⟩
 ·rw [h1,if_neg (by simp)]
  generalize manyP p k=v at *
  subst h3
  rw [get_at,set_at,get_at,cut_at,cut_at]
  simp only [InR,List.length_append,List.length_cons,List.length_nil] at *
  refine ⟨(fun h=>by cases h),fun _=>⟨trivial,by omega,by omega,by omega,by omega,by omega,by omega,by omega,by omega,by omega,by omega,fun h=>?_,fun h=>?_⟩⟩
  ·have h:v - 1=0:=of_decide_eq_true h
   rw [if_pos (by omega)]
   exact ⟨by omega,⟨by omega,by omega,by omega⟩,by first | trivial | rfl,by first | trivial | rfl,by first | trivial | rfl,trivial⟩
  ·have h:¬ v - 1=0:=of_decide_eq_false h
   rw [if_neg (by omega)]
   exact ⟨by first | trivial | rfl,by first | trivial | rfl,by first | trivial | rfl,trivial⟩
theorem e_drop:pv_drop=(fnVC Tryz.prog (tbl [(108,sp_find),(98,sp_clonePins)] [(110,sp_delPin)]) an_0 Tryz.f76 sp_drop):=by kernel_rfl
theorem vc_drop:fnVC Tryz.prog (tbl [(108,sp_find),(98,sp_clonePins)] [(110,sp_delPin)]) an_0 Tryz.f76 sp_drop:=@Eq.mp _ _ @e_drop @vcp_drop
theorem ok_drop:sp_drop.ok Tryz.prog 76:=fn_sound (P:=Tryz.prog) (ss:=tbl [(108,sp_find),(98,sp_clonePins)] [(110,sp_delPin)]) (ann:=an_0) (f:=76) (fn:=Tryz.f76) (s:=sp_drop) (tbl_cons ok_find (tbl_cons ok_clonePins (tbl_row ok_delPin tbl_nil))) Tryz.func76 @vc_drop
def an_pinned:Nat→Option LoopGen
 | 3=>some { rd:=[.dat 7 (.arr ty_Pin)],A:=fun (p:List Pin)=>{ cs:=[.map 6 .i64 ty_I,.dat 9 ty_I],inv:=fun ((m,i):List (Int×Int)×Int)=>0≤i∧i≤p.length∧m=putAll [] (p.take i.toNat),mu:=fun ((_,i):List (Int×Int)×Int)=>(p.length - i).toNat } }
 | _=>none
def sp_pinned:Spec:={ Ts:=[.arr ty_Pin],Rs:=[.map .i64 ty_I],pre:=fun _=>True,F:=fun (p:List Pin)=>putAll [] p }
def pv_pinned:Prop :=
  ∀ (x:List (Int×Int)),(x.length * ((8:Nat)+(8:Nat))≤big∧∀ (x_1:Int×Int),x_1∈x→InR IntKind.i64 x_1.1∧InR IntKind.i64 x_1.2)→True→((0:Int)≤(0:Int)∧(0:Int)≤(↑x.length:Int)∧([]:List (Int×Int))=putAll ([]:List Pin) (List.take (Int.toNat (0:Int)) x))∧∀ (x_1:List (Int×Int)×Int),(0:Int)≤x_1.2∧x_1.2≤(↑x.length:Int)∧x_1.1=putAll ([]:List Pin) (List.take x_1.2.toNat x)→(decide (x_1.2<(↑x.length:Int))=true→(0:Int)≤x_1.2∧x_1.2<(↑x.length:Int)∧InR IntKind.i64 (x_1.2+(1:Int))∧((0:Int)≤x_1.2+(1:Int)∧x_1.2+(1:Int)≤(↑x.length:Int)∧mput x_1.1 (x.getD x_1.2.toNat ((0:Int),(0:Int))).1 (x.getD x_1.2.toNat ((0:Int),(0:Int))).2=putAll ([]:List Pin) (List.take (x_1.2+(1:Int)).toNat x))∧((↑x.length:Int) - (x_1.2+(1:Int))).toNat<((↑x.length:Int) - x_1.2).toNat)∧(decide (x_1.2<(↑x.length:Int))=false→x_1.1=putAll ([]:List Pin) x∧True)
theorem vcp_pinned:pv_pinned:=by
 unfold pv_pinned
 intro p ⟨hb,_⟩ _
 unfold big at hb
 refine ⟨⟨by omega,by omega,by first | trivial | rfl⟩,fun ⟨m,i⟩ ⟨i0,i1,i2⟩=>⟨fun hlt=>?_,fun hge=>?_⟩⟩
 ·simp only at i0 i1 i2 hlt ⊢
  have hlt:=of_decide_eq_true hlt
  have hs:=take_snoc ((0,0):Pin) i0 hlt
  simp only [InR]
  refine ⟨i0,hlt,by omega,⟨by omega,by omega,?_⟩,by omega⟩
  rw [hs,i2]
  unfold putAll
  rw [List.foldl_append]
  rfl
 ·simp only at i0 i1 i2 hge ⊢
  rw [take_end (of_decide_eq_false hge)] at i2
  exact ⟨i2,trivial⟩
theorem e_pinned:pv_pinned=(fnVC Tryz.prog (tbl []) an_pinned Tryz.f64 sp_pinned):=by kernel_rfl
theorem vc_pinned:fnVC Tryz.prog (tbl []) an_pinned Tryz.f64 sp_pinned:=@Eq.mp _ _ @e_pinned @vcp_pinned
theorem ok_pinned:sp_pinned.ok Tryz.prog 64:=fn_sound (P:=Tryz.prog) (ss:=tbl []) (ann:=an_pinned) (f:=64) (fn:=Tryz.f64) (s:=sp_pinned) tbl_nil Tryz.func64 @vc_pinned
def an_pinList:Nat→Option LoopGen
 | 3=>some { rd:=[.dat 0 (.map .i64 ty_I)],A:=fun (m:List (Int×Int))=>{ cs:=[.own 3 89 ty_Pin,.dat 5 ty_I],inv:=fun ((out,i):List Pin×Int)=>0≤i∧i≤256∧out=pinUp m i.toNat∧out.length≤i.toNat,mu:=fun ((_,i):List Pin×Int)=>(256 - i).toNat } }
 | _=>none
def sp_pinList:Spec:={ Ts:=[.map .i64 ty_I],Rs:=[.own 89 ty_Pin],pre:=fun _=>True,F:=fun (m:List (Int×Int))=>pinList m }
def pv_pinList:Prop :=
  ∀ (x:List (Int×Int)),(∀ (x_1:Int×Int),x_1∈x→InR IntKind.i64 x_1.1∧InR IntKind.i64 x_1.2)→True→((0:Int)≤(0:Int)∧(0:Int)≤(256:Int)∧([]:List (Int×Int))=pinUp x (Int.toNat (0:Int))∧(0:Nat)≤Int.toNat (0:Int))∧∀ (x_1:List (Int×Int)×Int),(0:Int)≤x_1.2∧x_1.2≤(256:Int)∧x_1.1=pinUp x x_1.2.toNat∧x_1.1.length≤x_1.2.toNat→(decide (x_1.2<(256:Int))=true→(decide ((0:Int)<(mget x x_1.2).getD (0:Int))=true→(x_1.1.length+[(x_1.2,(mget x x_1.2).getD (0:Int))].length) * ((8:Nat)+(8:Nat))≤big∧InR IntKind.i64 (x_1.2+(1:Int))∧((0:Int)≤x_1.2+(1:Int)∧x_1.2+(1:Int)≤(256:Int)∧x_1.1++[(x_1.2,(mget x x_1.2).getD (0:Int))]=pinUp x (x_1.2+(1:Int)).toNat∧(x_1.1++[(x_1.2,(mget x x_1.2).getD (0:Int))]).length≤(x_1.2+(1:Int)).toNat)∧((256:Int) - (x_1.2+(1:Int))).toNat<((256:Int) - x_1.2).toNat)∧(decide ((0:Int)<(mget x x_1.2).getD (0:Int))=false→InR IntKind.i64 (x_1.2+(1:Int))∧((0:Int)≤x_1.2+(1:Int)∧x_1.2+(1:Int)≤(256:Int)∧x_1.1=pinUp x (x_1.2+(1:Int)).toNat∧x_1.1.length≤(x_1.2+(1:Int)).toNat)∧((256:Int) - (x_1.2+(1:Int))).toNat<((256:Int) - x_1.2).toNat))∧(decide (x_1.2<(256:Int))=false→x_1.1=pinList x∧True)
theorem vcp_pinList:pv_pinList:=by
 unfold pv_pinList
 intro m hm _
 refine ⟨⟨by omega,by omega,rfl,by simp⟩,fun ⟨out,i⟩ ⟨i0,i1,i2,i3⟩=>⟨fun hlt=>?_,fun hge=>?_⟩⟩
 ·simp only at i0 i1 i2 i3 hlt ⊢
  have hlt:=of_decide_eq_true hlt
  obtain ⟨n,rfl⟩:∃ n:Nat,i=n:=⟨i.toNat,by omega⟩
  rw [show ((n:Int)+1).toNat=n+1 by omega,pinUp_succ]
  simp only [Int.toNat_natCast] at i2 i3
  have e:∀ b,(mget m (n:Int)).getD 0=b→manyP m n=b:=fun b h=>h
  generalize (mget m (n:Int)).getD 0=v at *
  have e:=e v rfl
  simp only [InR]
  refine ⟨fun hc=>⟨by simp only [List.length_cons,List.length_nil]; unfold big; omega,by omega,⟨by omega,by omega,?_,by simp; omega⟩,by omega⟩,fun hc=>⟨by omega,⟨by omega,by omega,?_,by omega⟩,by omega⟩⟩
  ·have hc:=of_decide_eq_true hc
   unfold pinAt
   rw [e,if_pos hc,i2]
  ·have hc:=of_decide_eq_false hc
   unfold pinAt
   rw [e,if_neg hc,List.append_nil,i2]
 ·simp only at i0 i1 i2 i3 hge ⊢
  have hge:=of_decide_eq_false hge
  have:i=256:=by omega
  subst this
  exact ⟨i2,trivial⟩
theorem e_pinList:pv_pinList=(fnVC Tryz.prog (tbl []) an_pinList Tryz.f65 sp_pinList):=by kernel_rfl
theorem vc_pinList:fnVC Tryz.prog (tbl []) an_pinList Tryz.f65 sp_pinList:=@Eq.mp _ _ @e_pinList @vcp_pinList
theorem ok_pinList:sp_pinList.ok Tryz.prog 65:=fn_sound (P:=Tryz.prog) (ss:=tbl []) (ann:=an_pinList) (f:=65) (fn:=Tryz.f65) (s:=sp_pinList) tbl_nil Tryz.func65 @vc_pinList
def an_samePins:Nat→Option LoopGen
 | 4=>some { rd:=[.dat 0 (.arr ty_Pin),.dat 1 (.arr ty_Pin)],A:=fun ((a,b):List Pin×List Pin)=>{ cs:=[.dat 13 ty_I],inv:=fun (i:Int)=>a.length=b.length∧0≤i∧i≤a.length∧a.take i.toNat=b.take i.toNat,mu:=fun (i:Int)=>(a.length - i).toNat } }
 | _=>none
def sp_samePins:Spec:={ Ts:=[.arr ty_Pin,.arr ty_Pin],Rs:=[.dat .bool],pre:=fun _=>True,F:=fun (x:List Pin×List Pin)=>decide (x.1=x.2) }
theorem pin_ne (a b:Pin):(!(decide (a.1=b.1)&&decide (a.2=b.2)))=decide (a≠b):=by
 obtain ⟨a1,a2⟩:=a
 obtain ⟨b1,b2⟩:=b
 apply Bool.eq_iff_iff.2
 simp only [Bool.not_eq_true',Bool.and_eq_false_iff,decide_eq_true_eq,decide_eq_false_iff_not,ne_eq,Prod.mk.injEq]
 grind
def pv_samePins:Prop :=
  ∀ (x:List (Int×Int)×List (Int×Int)),((x.1.length * ((8:Nat)+(8:Nat))≤big∧∀ (x_1:Int×Int),x_1∈x.1→InR IntKind.i64 x_1.1∧InR IntKind.i64 x_1.2)∧x.2.length * ((8:Nat)+(8:Nat))≤big∧∀ (x_1:Int×Int),x_1∈x.2→InR IntKind.i64 x_1.1∧InR IntKind.i64 x_1.2)→True→(decide ((↑x.1.length:Int)≠(↑x.2.length:Int))=true→false=decide (x.1=x.2)∧True)∧(decide ((↑x.1.length:Int)≠(↑x.2.length:Int))=false→(x.1.length=x.2.length∧(0:Int)≤(0:Int)∧(0:Int)≤(↑x.1.length:Int)∧List.take (Int.toNat (0:Int)) x.1=List.take (Int.toNat (0:Int)) x.2)∧∀ (x_1:Int),x.1.length=x.2.length∧(0:Int)≤x_1∧x_1≤(↑x.1.length:Int)∧List.take x_1.toNat x.1=List.take x_1.toNat x.2→(decide (x_1<(↑x.1.length:Int))=true→(0:Int)≤x_1∧x_1<(↑x.1.length:Int)∧(0:Int)≤x_1∧x_1<(↑x.2.length:Int)∧((!(decide ((x.1.getD x_1.toNat ((0:Int),(0:Int))).1=(x.2.getD x_1.toNat ((0:Int),(0:Int))).1)&&decide ((x.1.getD x_1.toNat ((0:Int),(0:Int))).2=(x.2.getD x_1.toNat ((0:Int),(0:Int))).2)))=true→false=decide (x.1=x.2)∧True)∧((!(decide ((x.1.getD x_1.toNat ((0:Int),(0:Int))).1=(x.2.getD x_1.toNat ((0:Int),(0:Int))).1)&&decide ((x.1.getD x_1.toNat ((0:Int),(0:Int))).2=(x.2.getD x_1.toNat ((0:Int),(0:Int))).2)))=false→InR IntKind.i64 (x_1+(1:Int))∧(x.1.length=x.2.length∧(0:Int)≤x_1+(1:Int)∧x_1+(1:Int)≤(↑x.1.length:Int)∧List.take (x_1+(1:Int)).toNat x.1=List.take (x_1+(1:Int)).toNat x.2)∧((↑x.1.length:Int) - (x_1+(1:Int))).toNat<((↑x.1.length:Int) - x_1).toNat))∧(decide (x_1<(↑x.1.length:Int))=false→true=decide (x.1=x.2)∧True))
theorem vcp_samePins:pv_samePins:=by
 unfold pv_samePins
 intro x hw _
 refine ⟨fun h=>?_,fun h=>?_⟩
 ·have h:x.1.length≠x.2.length:=by have:=of_decide_eq_true h; omega
  have:x.1≠x.2:=fun e=>h (by rw [e])
  simp [this]
 have hl:x.1.length=x.2.length:=by have:=of_decide_eq_false h; omega
 refine ⟨⟨hl,by omega,by omega,by simp⟩,fun i ⟨_,h0,h1,ht⟩=>⟨fun hlt=>?_,fun hge=>?_⟩⟩
 ·have hlt:i<x.1.length:=by simpa using hlt
  rw [pin_ne]
  refine ⟨h0,hlt,h0,by omega,fun hne=>?_,fun he=>?_⟩
  ·have hne:x.1.getD i.toNat (0,0)≠x.2.getD i.toNat (0,0):=by simpa using hne
   have:x.1≠x.2:=fun e=>hne (by rw [e])
   simp [this]
  ·have he:x.1.getD i.toNat (0,0)=x.2.getD i.toNat (0,0):=by simpa using he
   have hb:=hw.1.1
   unfold big at hb
   refine ⟨by simp only [InR]; omega,⟨hl,by omega,by omega,?_⟩,by omega⟩
   rw [show (i+1).toNat=i.toNat+1 by omega]
   exact take_step hl (by omega) ht he
 ·have hge:¬ i<x.1.length:=by simpa using hge
  have hi:i.toNat=x.1.length:=by omega
  rw [hi,List.take_of_length_le (Nat.le_refl _),List.take_of_length_le (by omega)] at ht
  simp [ht]
theorem e_samePins:pv_samePins=(fnVC Tryz.prog (tbl []) an_samePins Tryz.f70 sp_samePins):=by kernel_rfl
theorem vc_samePins:fnVC Tryz.prog (tbl []) an_samePins Tryz.f70 sp_samePins:=@Eq.mp _ _ @e_samePins @vcp_samePins
theorem ok_samePins:sp_samePins.ok Tryz.prog 70:=fn_sound (P:=Tryz.prog) (ss:=tbl []) (ann:=an_samePins) (f:=70) (fn:=Tryz.f70) (s:=sp_samePins) tbl_nil Tryz.func70 @vc_samePins
theorem pins_law {p:List Pin} {k:Int} (h0:pinsF p=0) (hk:0≤k) (hk2:k≤255):(findP p k).2.2=0∧putAll [] p=p∧0≤manyP p k∧manyP p k≤1000000 ∧
  (manyP p k=1000000∨(manyP p k=0∧p.length=16)→addP p k=([],0,7)) ∧
  (¬ (manyP p k=1000000∨(manyP p k=0∧p.length=16))→addP p k=(pinList (mput p k (manyP p k+1)),manyP p k+1,0)) ∧
  (manyP p k=0→dropP p k=([],0,5))∧(manyP p k≠0→dropP p k=(pinList (mput p k (manyP p k - 1)),manyP p k - 1,0)):=by
 have hF:findP p k=(lowP p k,hasP p k,0):=by
  unfold findP
  rw [if_neg (by omega),if_neg (by simp; omega)]
 have hz:(findP p k).2.2=0:=by rw [hF]
 obtain ⟨h5,h6,h7⟩:=pins_ok h0
 obtain ⟨A,B,e,e2,hl,hA,hB,h1⟩:=find_parts hz
 refine ⟨hz,putAll_self h6,?_⟩
 unfold addP dropP
 have hz':¬ ((findP p k).2.2≠0):=by omega
 rw [if_neg hz',if_neg hz',e2]
 rcases h1 with ⟨h1,h2,h3⟩ | ⟨h1,h2,h2',h3⟩
 ·rw [h1,h2,if_pos rfl]
  have hAB:(A++B).Pairwise (fun x y=>x.1<y.1):=by rw [← h3]; exact h6
  have hab:=List.pairwise_append.1 hAB
  refine ⟨by omega,by omega,fun h=>?_,fun h=>?_,fun _=>rfl,fun h=>absurd rfl h⟩
  ·rw [if_pos (h.imp id fun h=>⟨rfl,h.2⟩)]
  ·rw [if_neg (fun h4=>h (h4.imp id fun h4=>⟨rfl,h4.2⟩)),if_neg (by simp),h3,ins_at]
   have:pinList (mput (A++B) k (0+1))=A++(k,1)::B:=by
    refine pinList_is ?_ (fun x hx=>?_) (fun j _ _=>?_)
    ·refine List.pairwise_append.2 ⟨hab.1,List.pairwise_cons.2 ⟨hB,hab.2.1⟩,fun x hx y hy=>?_⟩
     rcases List.mem_cons.1 hy with rfl | hy
     ·exact hA x hx
     ·exact hab.2.2 x hx y hy
    ·rcases List.mem_append.1 hx with hx | hx
     ·have:=h7 x (by rw [h3]; simp [hx]); omega
     ·rcases List.mem_cons.1 hx with rfl | hx
      ·simp only; omega
      ·have:=h7 x (by rw [h3]; simp [hx]); omega
    ·rw [many_put,many_mid hA]
     rfl
   rw [this]
 ·rw [h1,if_neg (show ¬ ((true:Bool)=false) by simp)]
  generalize hv:manyP p k=v at *
  have hAB:(A++(k,v)::B).Pairwise (fun x y=>x.1<y.1):=by rw [← h3]; exact h6
  have hab:=List.pairwise_append.1 hAB
  have hcb:=List.pairwise_cons.1 hab.2.1
  have mid:∀ u,1≤u→pinList (mput p k u)=A++(k,u)::B:=fun u hu=>by
   refine pinList_is ?_ (fun x hx=>?_) (fun j _ _=>?_)
   ·refine List.pairwise_append.2 ⟨hab.1,List.pairwise_cons.2 ⟨hB,hcb.2⟩,fun x hx y hy=>?_⟩
    rcases List.mem_cons.1 hy with rfl | hy
    ·exact hA x hx
    ·exact hab.2.2 x hx y (by simp [hy])
   ·rcases List.mem_append.1 hx with hx | hx
    ·have:=h7 x (by rw [h3]; simp [hx]); omega
    ·rcases List.mem_cons.1 hx with rfl | hx
     ·simp only; omega
     ·have:=h7 x (by rw [h3]; simp [hx]); omega
   ·rw [many_put,h3,many_mid hA,many_mid hA]
    split <;> rfl
  refine ⟨by omega,by omega,fun h=>?_,fun h=>?_,fun h=>by omega,fun _=>?_⟩
  ·have h:v=1000000:=by rcases h with h | h <;> omega
   rw [if_pos (.inl h)]
  ·have hno:¬ (v=1000000∨(true=false∧p.length=16)):=by
    rintro (h4 | h4)
    ·exact h (.inl h4)
    ·exact absurd h4.1 (by simp)
   rw [if_neg hno,if_pos rfl,mid (v+1) (by omega),h3,set_at]
  ·by_cases h:v=1
   ·rw [if_pos h,h3,cut_at,← h3]
    have:pinList (mput p k (v - 1))=A++B:=by
     refine pinList_is ?_ (fun x hx=>?_) (fun j _ _=>?_)
     ·exact List.pairwise_append.2 ⟨hab.1,hcb.2,fun x hx y hy=>hab.2.2 x hx y (by simp [hy])⟩
     ·rcases List.mem_append.1 hx with hx | hx
      ·have:=h7 x (by rw [h3]; simp [hx]); omega
      ·have:=h7 x (by rw [h3]; simp [hx]); omega
     ·rw [many_put,h3,many_mid hA]
      split
      ·rename_i hj
       subst hj
       rw [many_out hA hB]
       omega
      ·rfl
    rw [this]
   ·rw [if_neg h,mid (v - 1) (by omega),h3,set_at]
end Go.Proofs.YtglchojglcobjaaGreat
