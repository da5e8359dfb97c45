
import Derived.Test.YtglchojglcobjaaGreatWords
import Derived.Test.YtglchojglcobjaaGreatFinds
namespace Go.Proofs.YtglchojglcobjaaGreat
open Go
set_option maxRecDepth 100000
set_option maxHeartbeats 1000000
abbrev b7:Ty:=.pair ty_I (.pair .bool ty_I)
abbrev cg:=Int×Bool×Int
def DT:Spec:={ Ts:=[.arr ty_I,.fn ty_I .bool],Rs:=[.dat ty_I],pre:=fun ((l,g):List Int×(Int→Prop)×(Int→Bool))=>∀ s∈l,g.1 s,F:=fun ((l,g):List Int×(Int→Prop)×(Int→Bool))=>aj g.2 0 l }
def EU:Nat→Option LoopGen
 | 2=>some { rd:=[.dat 0 (.arr ty_I),.dat 1 (.fn ty_I .bool)],A:=fun ((l,g):List Int×(Int→Prop)×(Int→Bool))=>{ cs:=[.dat 8 ty_I],inv:=fun (i:Int)=>0≤i∧i≤l.length∧aj g.2 i (l.drop i.toNat)=aj g.2 0 l,mu:=fun (i:Int)=>(l.length - i).toNat } }
 | _=>none
def vu:Prop :=
  ∀ (x:List Int×(Int→Prop)×(Int→Bool)),(x.1.length * 8≤az∧∀ (x_1:Int),x_1∈x.1→ak IntKind.i64 x_1)∧True→(∀ (s:Int),s∈x.1→x.2.1 s)→((0:Int)≤0∧0≤(↑x.1.length:Int)∧aj x.2.2 0 (List.drop (Int.toNat 0) x.1)=aj x.2.2 0 x.1)∧∀ (x_1:Int),0≤x_1∧x_1≤(↑x.1.length:Int)∧aj x.2.2 x_1 (List.drop x_1.toNat x.1)=aj x.2.2 0 x.1→(decide (x_1<(↑x.1.length:Int))=true→0≤x_1∧x_1<(↑x.1.length:Int)∧x.2.1 (x.1.getD x_1.toNat 0)∧(x.2.2 (x.1.getD x_1.toNat 0)=true→x_1=aj x.2.2 0 x.1∧True)∧(x.2.2 (x.1.getD x_1.toNat 0)=false→ak IntKind.i64 (x_1+1)∧(0≤x_1+1∧x_1+1≤(↑x.1.length:Int)∧aj x.2.2 (x_1+1) (List.drop (x_1+1).toNat x.1)=aj x.2.2 0 x.1)∧((↑x.1.length:Int) - (x_1+1)).toNat<((↑x.1.length:Int) - x_1).toNat))∧(decide (x_1<(↑x.1.length:Int))=false→(-1)=aj x.2.2 0 x.1∧True)
theorem Be:vu:=by
 unfold vu
 intro ⟨l,g⟩ ⟨⟨hl,_⟩,_⟩ hp
 unfold az at *
 refine ⟨⟨by omega,by omega,by simp⟩,fun i ⟨h0,h1,h2⟩=>⟨fun hlt=>?_,fun hge=>?_⟩⟩
 ·have hlt:i<(l.length:Int):=by simpa using hlt
  have e:=aS (0:Int) h0 hlt
  have hm:=hp _ (aD (0:Int) h0 hlt)
  simp only at *
  rw [e] at h2
  simp only [aj] at h2
  refine ⟨h0,hlt,hm,fun hc=>?_,fun hc=>?_⟩
  ·rw [if_pos hc] at h2
   exact ⟨h2,trivial⟩
  ·rw [if_neg (by rw [hc]; simp)] at h2
   exact ⟨by simp only [ak]; omega,⟨by omega,by omega,h2⟩,by omega⟩
 ·rw [bn (by simpa using hge)] at h2
  exact ⟨h2,trivial⟩
theorem Ek:DT.ok Tryz.prog 150:=aI (ann:=EU) ap Tryz.func150 (by kernel_rfl) Be
def DW:Spec:={ Ts:=[.arr ty_I,.fn ty_I .bool],Rs:=[.dat .bool],pre:=fun ((l,g):List Int×(Int→Prop)×(Int→Bool))=>∀ s∈l,g.1 s,F:=fun ((l,g):List Int×(Int→Prop)×(Int→Bool))=>l.any g.2 }
def vz:Prop :=
  ∀ (x:List Int×(Int→Prop)×(Int→Bool)),(x.1.length * 8≤az∧∀ (x_1:Int),x_1∈x.1→ak IntKind.i64 x_1)∧True→(∀ (s:Int),s∈x.1→x.2.1 s)→(∀ (s:Int),s∈x.1→x.2.1 s)∧decide (0≤aj x.2.2 0 x.1)=x.1.any x.2.2∧True
theorem Bh:vz:=by
 unfold vz
 intro ⟨l,g⟩ _ hp
 exact ⟨hp,cF g.2 l 0 (by omega),trivial⟩
theorem En:DW.ok Tryz.prog 124:=aI (ann:=cT) (ae Ek ap) Tryz.func124 (by kernel_rfl) Bh
def ui:Spec:={ Ts:=[.arr b7],Rs:=[.own 87 b7],pre:=fun _=>True,F:=fun (x:List cg)=>x }
def l9:Prop :=
  ∀ (x:List (Int×Bool×Int)),(x.length * (8+(8+8))≤az∧∀ (x_1:Int×Bool×Int),x_1∈x→ak IntKind.i64 x_1.1∧True∧ak IntKind.i64 x_1.2.2)→True→(x=([]:List (Int×Bool×Int))→([]:List (Int×Bool×Int))=x∧True)∧(True→(0+x.length) * (8+(8+8))≤az∧([]:List (Int×Bool×Int))++x=x∧True)
theorem rn:l9:=by
 unfold l9
 intro x ⟨hb,_⟩ _
 simp [hb]
theorem mg:ui.ok Tryz.prog 99:=aI (ann:=cT) ap Tryz.func99 (by kernel_rfl) rn
def fX (v:Int):Bool:=decide (0≤v)&&decide (v<256)
def w8:Spec:={ Ts:=[ty_I],Rs:=[.dat .bool],pre:=fun _=>True,F:=fX }
def nM:Prop :=
  ∀ (x:Int),ak IntKind.i64 x→True→(decide (0≤x)&&decide (x<256))=fX x∧True
theorem tR:nM:=by
 unfold nM
 intro v _ _
 simp [fX]
theorem nV:w8.ok Tryz.prog 111:=aI (ann:=cT) ap Tryz.func111 (by kernel_rfl) tR
def y5:Spec:={ Ts:=[ty_I],Rs:=[.dat .bool],pre:=fun _=>True,F:=fun (v:Int)=>!fX v }
def pU:Prop :=
  ∀ (x:Int),ak IntKind.i64 x→True→True∧(!fX x)=!fX x∧True
theorem wA:pU:=by
 unfold pU
 intro v _ _
 simp
theorem zT:y5.ok Tryz.prog 141:=aI (ann:=cT) (ae nV ap) Tryz.func141 (by kernel_rfl) wA
def ci (s:cg):Bool:=!s.2.1&&decide (s.1<65535)
def iU (s:cg):Int:=if s.1<0∨65535<s.1∨s.2.2<0∨255<s.2.2 then 4 else if (s.2.1=true∧s.1=0)∨(s.2.1=false∧s.2.2≠0) then 3 else 0
def bo:List cg→Int
 | []=>0
 | s::l=>if iU s≠0 then iU s else bo l
def aN (h:List cg):Int:=if 16<h.length then 2 else bo h
def nh:Spec:={ Ts:=[.arr b7],Rs:=[.dat ty_I],pre:=fun _=>True,F:=aN }
def oG:Nat→Option LoopGen
 | 4=>some { rd:=[.dat 8 (.arr b7)],A:=fun (h:List cg)=>{ cs:=[.dat 10 ty_I],inv:=fun (i:Int)=>0≤i∧i≤h.length∧h.length≤16∧bo (h.drop i.toNat)=bo h,mu:=fun (i:Int)=>(h.length - i).toNat } }
 | _=>none
def nN:Prop :=
  ∀ (x:List (Int×Bool×Int)),(x.length * (8+(8+8))≤az∧∀ (x_1:Int×Bool×Int),x_1∈x→ak IntKind.i64 x_1.1∧True∧ak IntKind.i64 x_1.2.2)→True→(decide (16<(↑x.length:Int))=true→2=aN x∧True)∧(decide (16<(↑x.length:Int))=false→((0:Int)≤0∧0≤(↑x.length:Int)∧x.length≤16∧bo (List.drop (Int.toNat 0) x)=bo x)∧∀ (x_1:Int),0≤x_1∧x_1≤(↑x.length:Int)∧x.length≤16∧bo (List.drop x_1.toNat x)=bo x→(decide (x_1<(↑x.length:Int))=true→0≤x_1∧x_1<(↑x.length:Int)∧((decide ((x.getD x_1.toNat (0,false,0)).1<0)||decide (65535<(x.getD x_1.toNat (0,false,0)).1))=false→True)∧((decide ((x.getD x_1.toNat (0,false,0)).1<0)||decide (65535<(x.getD x_1.toNat (0,false,0)).1)||!fX (x.getD x_1.toNat (0,false,0)).2.2)=true→4=aN x∧True)∧((decide ((x.getD x_1.toNat (0,false,0)).1<0)||decide (65535<(x.getD x_1.toNat (0,false,0)).1)||!fX (x.getD x_1.toNat (0,false,0)).2.2)=false→(((x.getD x_1.toNat (0,false,0)).2.1&&decide ((x.getD x_1.toNat (0,false,0)).1=0)||!(x.getD x_1.toNat (0,false,0)).2.1&&decide ((x.getD x_1.toNat (0,false,0)).2.2≠0))=true→3=aN x∧True)∧(((x.getD x_1.toNat (0,false,0)).2.1&&decide ((x.getD x_1.toNat (0,false,0)).1=0)||!(x.getD x_1.toNat (0,false,0)).2.1&&decide ((x.getD x_1.toNat (0,false,0)).2.2≠0))=false→ak IntKind.i64 (x_1+1)∧(0≤x_1+1∧x_1+1≤(↑x.length:Int)∧x.length≤16∧bo (List.drop (x_1+1).toNat x)=bo x)∧((↑x.length:Int) - (x_1+1)).toNat<((↑x.length:Int) - x_1).toNat)))∧(decide (x_1<(↑x.length:Int))=false→0=aN x∧True))
theorem tS:nN:=by
 unfold nN
 intro h ⟨hb,hw⟩ _
 unfold az at *
 refine ⟨fun hl=>?_,fun hl=>⟨⟨by omega,by omega,by have:=of_decide_eq_false hl; omega,by simp⟩,fun i ⟨h0,h1,h2,h3⟩=>⟨fun hlt=>?_,fun hge=>?_⟩⟩⟩
 ·have:=of_decide_eq_true hl
  unfold aN
  rw [if_pos (by omega)]
  exact ⟨rfl,trivial⟩
 ·have hlt:i<(h.length:Int):=by simpa using hlt
  have e:=aS ((0,false,0):cg) h0 hlt
  have hF:aN h=bo h:=by unfold aN; rw [if_neg (by omega)]
  rw [hF,← h3,e]
  simp only [bo,iU,fX,ak]
  generalize h.getD i.toNat (0,false,0)=s at *
  obtain ⟨g,o,a⟩:=s
  simp only
  cases o <;> grind
 ·have hF:aN h=bo h:=by unfold aN; rw [if_neg (by omega)]
  rw [bn (by simpa using hge)] at h3
  rw [hF,← h3]
  exact ⟨rfl,trivial⟩
theorem nW:nh.ok Tryz.prog 93:=aI (ann:=oG) (ae nV ap) Tryz.func93 (by kernel_rfl) tS
def uf:Spec:=nh
def lZ:Prop :=
  ∀ (x:List (Int×Bool×Int)),(x.length * (8+(8+8))≤az∧∀ (x_1:Int×Bool×Int),x_1∈x→ak IntKind.i64 x_1.1∧True∧ak IntKind.i64 x_1.2.2)→True→(decide (16<(↑x.length:Int))=true→2=aN x∧True)∧(decide (16<(↑x.length:Int))=false→((0:Int)≤0∧0≤(↑x.length:Int)∧x.length≤16∧bo (List.drop (Int.toNat 0) x)=bo x)∧∀ (x_1:Int),0≤x_1∧x_1≤(↑x.length:Int)∧x.length≤16∧bo (List.drop x_1.toNat x)=bo x→(decide (x_1<(↑x.length:Int))=true→0≤x_1∧x_1<(↑x.length:Int)∧((decide ((x.getD x_1.toNat (0,false,0)).1<0)||decide (65535<(x.getD x_1.toNat (0,false,0)).1)||decide ((x.getD x_1.toNat (0,false,0)).2.2<0)||decide (255<(x.getD x_1.toNat (0,false,0)).2.2))=true→4=aN x∧True)∧((decide ((x.getD x_1.toNat (0,false,0)).1<0)||decide (65535<(x.getD x_1.toNat (0,false,0)).1)||decide ((x.getD x_1.toNat (0,false,0)).2.2<0)||decide (255<(x.getD x_1.toNat (0,false,0)).2.2))=false→(((x.getD x_1.toNat (0,false,0)).2.1&&decide ((x.getD x_1.toNat (0,false,0)).1=0)||!(x.getD x_1.toNat (0,false,0)).2.1&&decide ((x.getD x_1.toNat (0,false,0)).2.2≠0))=true→3=aN x∧True)∧(((x.getD x_1.toNat (0,false,0)).2.1&&decide ((x.getD x_1.toNat (0,false,0)).1=0)||!(x.getD x_1.toNat (0,false,0)).2.1&&decide ((x.getD x_1.toNat (0,false,0)).2.2≠0))=false→ak IntKind.i64 (x_1+1)∧(0≤x_1+1∧x_1+1≤(↑x.length:Int)∧x.length≤16∧bo (List.drop (x_1+1).toNat x)=bo x)∧((↑x.length:Int) - (x_1+1)).toNat<((↑x.length:Int) - x_1).toNat)))∧(decide (x_1<(↑x.length:Int))=false→0=aN x∧True))
theorem rk:lZ:=by
 unfold lZ
 intro h ⟨hb,hw⟩ _
 unfold az at *
 refine ⟨fun hl=>?_,fun hl=>⟨⟨by omega,by omega,by have:=of_decide_eq_false hl; omega,by simp⟩,fun i ⟨h0,h1,h2,h3⟩=>⟨fun hlt=>?_,fun hge=>?_⟩⟩⟩
 ·have:=of_decide_eq_true hl
  unfold aN
  rw [if_pos (by omega)]
  exact ⟨rfl,trivial⟩
 ·have hlt:i<(h.length:Int):=by simpa using hlt
  have e:=aS ((0,false,0):cg) h0 hlt
  have hF:aN h=bo h:=by unfold aN; rw [if_neg (by omega)]
  rw [hF,← h3,e]
  simp only [bo,iU,fX,ak]
  generalize h.getD i.toNat (0,false,0)=s at *
  obtain ⟨g,o,a⟩:=s
  simp only
  cases o <;> grind
 ·have hF:aN h=bo h:=by unfold aN; rw [if_neg (by omega)]
  rw [bn (by simpa using hge)] at h3
  rw [hF,← h3]
  exact ⟨rfl,trivial⟩
theorem ur:uf.ok Tryz.prog 39:=aI (ann:=oG) ap Tryz.func39 (by kernel_rfl) rk
def dg (i:Int) (s:cg):Int:=i+65536 * s.1
def za:Spec:={ Ts:=[ty_I,b7],Rs:=[.dat be],pre:=fun ((i,s):Int×cg)=>0≤i∧i<65536∧0≤s.1∧s.1≤65535,F:=fun ((i,s):Int×cg)=>dg i s }
def wZ:Spec:=za
def nH:Prop :=
  ∀ (x:Int×Int×Bool×Int),ak IntKind.i64 x.1∧ak IntKind.i64 x.2.1∧True∧ak IntKind.i64 x.2.2.2→0≤x.1∧x.1<65536∧0≤x.2.1∧x.2.1≤65535→ak IntKind.u64 (65536 * IntKind.u64.wrap x.2.1)∧ak IntKind.u64 (IntKind.u64.wrap x.1+65536 * IntKind.u64.wrap x.2.1)∧IntKind.u64.wrap x.1+65536 * IntKind.u64.wrap x.2.1=dg x.1 x.2∧True
theorem tM:nH:=by
 unfold nH
 intro ⟨i,s⟩ _ ⟨h0,h1,h2,h3⟩
 simp only at *
 rw [gj (n:=i) (by omega) (by omega),gj (n:=s.1) h2 (by omega)]
 simp only [dg,ak]
 repeat' apply And.intro
 all_goals first | exact trivial | omega
theorem nT:wZ.ok Tryz.prog 66:=aI (ann:=cT) ap Tryz.func66 (by kernel_rfl) tM
theorem j9:∀ {h:List cg},bo h=0→∀ s∈h,iU s=0
 | [],_=>by simp
 | x::l,h=>by
  simp only [bo] at h
  split at h
  ·omega
  ·intro s hs
   rcases List.mem_cons.1 hs with rfl | hs
   ·omega
   ·exact j9 h s hs
theorem jb {h:List cg} (hf:aN h=0):h.length≤16∧∀ s∈h,0≤s.1∧s.1≤65535∧0≤s.2.2∧s.2.2≤255:=by
 unfold aN at hf
 split at hf
 ·omega
 ·refine ⟨by omega,fun s hs=>?_⟩
  have:=j9 hf s hs
  unfold iU at this
  split at this <;> omega
def gZ (h:List cg) (n:Int):Int×Int :=
 if aN h≠0 then (0,aN h) else if n % 65536<h.length∧(h.getD (n % 65536).toNat (0,false,0)).2.1=true∧dg (n % 65536) (h.getD (n % 65536).toNat (0,false,0))=n then (n % 65536,0) else (0,9)
def sD (h:List cg) (n:Int):Int×Int:=if (gZ h n).2≠0 then (0,(gZ h n).2) else ((h.getD (gZ h n).1.toNat (0,false,0)).2.2,0)
def m7 (h:List cg) (n:Int):List cg×Int:=if (gZ h n).2≠0 then ([],(gZ h n).2) else (h.set (gZ h n).1.toNat ((h.getD (gZ h n).1.toNat (0,false,0)).1,false,0),0)
def xt (h:List cg) (i at_:Int):cg:=((h.getD i.toNat (0,false,0)).1+1,true,at_)
def vG (h:List cg) (at_:Int):List cg×Int×Int :=
 if aN h≠0 then ([],0,aN h) else if fX at_=false then ([],0,4) else if aj ci 0 h<0 then ([],0,7)
 else (h.set (aj ci 0 h).toNat (xt h (aj ci 0 h) at_),dg (aj ci 0 h) (xt h (aj ci 0 h) at_),0)
theorem jz {α:Type} (f:α→α) (h:List α) (i:Nat):((h.take i).map f++h.drop i).length=h.length:=by simp; omega
theorem o7 {α:Type} (f:α→α) (h:List α) (d:α) (i:Nat) (hi:i<h.length):((h.take i).map f++h.drop i).getD i d=h.getD i d:=by
 simp only [List.getD_eq_getElem?_getD]
 rw [List.getElem?_append_right (by simp; omega)]
 simp [show min i h.length=i by omega]
theorem lG {α:Type} (f:α→α) (h:List α) (d:α) (i:Nat) (hi:i<h.length):((h.take i).map f++h.drop i).set i (f (h.getD i d))=(h.take (i+1)).map f++h.drop (i+1):=by
 have l1:((h.take i).map f).length=i:=by simp; omega
 rw [List.set_append_right _ _ (by omega),l1,Nat.sub_self,List.drop_eq_getElem_cons hi,List.set_cons_zero,List.take_succ_eq_append_getElem hi,List.map_append,List.append_assoc]
 simp [hi]
theorem mQ {α:Type} (f:α→α) (h:List α) (d:α) (i:Nat) (hi:i<h.length) (hf:f (h.getD i d)=h.getD i d):(h.take i).map f++h.drop i=(h.take (i+1)).map f++h.drop (i+1):=by
 rw [← lG f h d i hi,hf]
 apply List.ext_getElem?
 intro j
 rw [List.getElem?_set]
 split
 ·rename_i e
  subst e
  have:=o7 f h d i hi
  rw [if_pos (by rw [jz]; exact hi)]
  simp only [List.getD_eq_getElem?_getD] at this
  have hl:i<((h.take i).map f++h.drop i).length:=by rw [jz]; exact hi
  rw [List.getElem?_eq_getElem hl] at this ⊢
  simp only [Option.getD_some] at this
  rw [this]
  simp [hi]
 ·rfl
def db (to:List Int) (s:cg):cg:=if s.2.1=true then (s.1,s.2.1,to.getD s.2.2.toNat 0) else s
def ft (h:List cg) (to:List Int):List cg×Int:=if aN h≠0 then ([],aN h) else if to.length≠256 then ([],3) else if (to.any fun v=>!fX v)=true then ([],4) else (h.map (db to),0)
def y9:Spec:={ Ts:=[.arr b7,.arr ty_I],Rs:=[.own 87 b7,.dat ty_I],pre:=fun _=>True,F:=fun ((h,to):List cg×List Int)=>ft h to }
def AP:Nat→Option LoopGen
 | 10=>some { rd:=[.dat 0 (.arr b7),.dat 1 (.arr ty_I)],wr:=[7,25],A:=fun ((h,to):List cg×List Int)=>{ cs:=[.own 7 87 b7,.same 25 7,.dat 27 ty_I],inv:=fun ((out,_,i):List cg×Unit×Int)=>0≤i∧i≤h.length∧aN h=0∧to.length=256∧out=(h.take i.toNat).map (db to)++h.drop i.toNat,mu:=fun ((_,_,i):List cg×Unit×Int)=>(h.length - i).toNat } }
 | 1000013=>some { rd:=[.dat 0 (.arr b7),.dat 1 (.arr ty_I),.dat 27 ty_I],wr:=[7,25],A:=fun ((h,to,i):List cg×List Int×Int)=>{ cs:=[.own 7 87 b7,.same 25 7],inv:=fun ((out,_):List cg×Unit)=>out=(h.take (i.toNat+1)).map (db to)++h.drop (i.toNat+1),mu:=fun _=>0 } }
 | _=>none
def pY:Prop :=
  ∀ (x:List (Int×Bool×Int)×List Int),((x.1.length * (8+(8+8))≤az∧∀ (x_1:Int×Bool×Int),x_1∈x.1→ak IntKind.i64 x_1.1∧True∧ak IntKind.i64 x_1.2.2)∧x.2.length * 8≤az∧∀ (x_1:Int),x_1∈x.2→ak IntKind.i64 x_1)→True→True∧(decide (aN x.1≠0)=true→([]:List (Int×Bool×Int))=(ft x.1 x.2).1∧aN x.1=(ft x.1 x.2).2∧True)∧(decide (aN x.1≠0)=false→(decide ((↑x.2.length:Int)≠256)=true→([]:List (Int×Bool×Int))=(ft x.1 x.2).1∧3=(ft x.1 x.2).2∧True)∧(decide ((↑x.2.length:Int)≠256)=false→(∀ (s:Int),s∈x.2→(fun (_:Int)=>True,fun (x:Int)=>!fX x).1 s)∧((x.2.any fun (x:Int)=>!fX x)=true→([]:List (Int×Bool×Int))=(ft x.1 x.2).1∧4=(ft x.1 x.2).2∧True)∧((x.2.any fun (x:Int)=>!fX x)=false→True∧((0:Int)≤0∧0≤(↑x.1.length:Int)∧aN x.1=0∧x.2.length=256∧x.1=List.map (db x.2) (List.take (Int.toNat 0) x.1)++List.drop (Int.toNat 0) x.1)∧∀ (x_1:List (Int×Bool×Int)×Unit×Int),0≤x_1.2.2∧x_1.2.2≤(↑x.1.length:Int)∧aN x.1=0∧x.2.length=256∧x_1.1=List.map (db x.2) (List.take x_1.2.2.toNat x.1)++List.drop x_1.2.2.toNat x.1→(decide (x_1.2.2<(↑x.1.length:Int))=true→0≤x_1.2.2∧x_1.2.2<(↑x_1.1.length:Int)∧x_1.2.2.toNat<x_1.1.length∧(((x_1.1.getD x_1.2.2.toNat (0,false,0)).2.1=true→0≤(x_1.1.getD x_1.2.2.toNat (0,false,0)).2.2∧(x_1.1.getD x_1.2.2.toNat (0,false,0)).2.2<(↑x.2.length:Int)∧0≤x_1.2.2∧x_1.2.2<(↑x_1.1.length:Int)∧x_1.2.2.toNat<x_1.1.length∧x_1.1.set x_1.2.2.toNat ((x_1.1.getD x_1.2.2.toNat (0,false,0)).1,(x_1.1.getD x_1.2.2.toNat (0,false,0)).2.1,x.2.getD (x_1.1.getD x_1.2.2.toNat (0,false,0)).2.2.toNat 0)=List.map (db x.2) (List.take (x_1.2.2.toNat+1) x.1)++List.drop (x_1.2.2.toNat+1) x.1)∧((x_1.1.getD x_1.2.2.toNat (0,false,0)).2.1=false→x_1.1=List.map (db x.2) (List.take (x_1.2.2.toNat+1) x.1)++List.drop (x_1.2.2.toNat+1) x.1))∧∀ (x_2:List (Int×Bool×Int)×Unit),x_2.1=List.map (db x.2) (List.take (x_1.2.2.toNat+1) x.1)++List.drop (x_1.2.2.toNat+1) x.1→ak IntKind.i64 (x_1.2.2+1)∧(0≤x_1.2.2+1∧x_1.2.2+1≤(↑x.1.length:Int)∧aN x.1=0∧x.2.length=256∧x_2.1=List.map (db x.2) (List.take (x_1.2.2+1).toNat x.1)++List.drop (x_1.2.2+1).toNat x.1)∧((↑x.1.length:Int) - (x_1.2.2+1)).toNat<((↑x.1.length:Int) - x_1.2.2).toNat)∧(decide (x_1.2.2<(↑x.1.length:Int))=false→x_1.1=(ft x.1 x.2).1∧0=(ft x.1 x.2).2∧True))))
theorem wE:pY:=by
 unfold pY
 intro ⟨h,to⟩ ⟨⟨_,hw⟩,hto,_⟩ _
 simp only at *
 refine ⟨trivial,fun hf=>by unfold ft; grind,fun hf=>⟨fun hl=>by unfold ft; grind,fun hl=>⟨fun _ _=>trivial,fun ha=>by unfold ft; grind,fun ha=>?_⟩⟩⟩
 have hf:aN h=0:=by simpa using hf
 have hl:to.length=256:=by
  have:((to.length:Nat):Int)=256:=by simpa using hl
  omega
 obtain ⟨z1,z2⟩:=jb hf
 have hS:ft h to=(h.map (db to),0):=by unfold ft; rw [if_neg (by omega),if_neg (by omega),if_neg (by rw [ha]; simp)]
 refine ⟨trivial,⟨by omega,by omega,hf,hl,by simp⟩,fun ⟨out,u,i⟩ ⟨h0,h1,_,_,h4⟩=>⟨fun hlt=>?_,fun hge=>?_⟩⟩
 ·have hlt:i<(h.length:Int):=by simpa using hlt
  simp only at *
  have hm:=z2 _ (aD ((0,false,0):cg) h0 hlt)
  have hlen:out.length=h.length:=by rw [h4]; exact jz _ _ _
  have hget:out.getD i.toNat (0,false,0)=h.getD i.toNat (0,false,0):=by rw [h4]; exact o7 _ _ _ _ (by omega)
  have hset:=lG (db to) h ((0,false,0):cg) i.toNat (by omega)
  have hkeep:=mQ (db to) h ((0,false,0):cg) i.toNat (by omega)
  rw [← h4] at hset hkeep
  rw [hget]
  refine ⟨h0,by omega,by omega,⟨fun ho=>⟨by omega,by omega,h0,by omega,by omega,?_⟩,fun ho=>?_⟩,fun ⟨o2,_⟩ e2=>⟨by simp only [ak]; omega,⟨by omega,by omega,hf,hl,?_⟩,by omega⟩⟩
  ·rw [← hset]
   unfold db
   rw [if_pos ho]
  ·apply hkeep
   unfold db
   rw [if_neg (by rw [ho]; simp)]
  ·rw [show (i+1).toNat=i.toNat+1 by omega]
   exact e2
 ·have hge:¬ i<(h.length:Int):=by simpa using hge
  simp only at *
  rw [hS,h4,List.take_of_length_le (by omega),List.drop_of_length_le (by omega)]
  simp
theorem qj:y9.ok Tryz.prog 106:=aI (ann:=AP) (ae nW (ae En (ae zT (ae mg ap)))) Tryz.func106 (by kernel_rfl) wE
def wR:Spec:={ Ts:=[.arr b7,.arr b7],Rs:=[.dat .bool],pre:=fun _=>True,F:=fun (x:List cg×List cg)=>decide (x.1=x.2) }
def yj:Nat→Option LoopGen
 | 4=>some { rd:=[.dat 0 (.arr b7),.dat 1 (.arr b7)],A:=fun (g:List cg×List cg)=>{ cs:=[.dat 13 ty_I],inv:=fun (i:Int)=>g.1.length=g.2.length∧0≤i∧i≤g.1.length∧g.1.take i.toNat=g.2.take i.toNat,mu:=fun (i:Int)=>(g.1.length - i).toNat } }
 | _=>none
def nz:Prop :=
  ∀ (x:List (Int×Bool×Int)×List (Int×Bool×Int)),((x.1.length * (8+(8+8))≤az∧∀ (x_1:Int×Bool×Int),x_1∈x.1→ak IntKind.i64 x_1.1∧True∧ak IntKind.i64 x_1.2.2)∧x.2.length * (8+(8+8))≤az∧∀ (x_1:Int×Bool×Int),x_1∈x.2→ak IntKind.i64 x_1.1∧True∧ak IntKind.i64 x_1.2.2)→True→(decide ((↑x.1.length:Int)≠(↑x.2.length:Int))=true→false=decide (x.1=x.2)∧True)∧(decide ((↑x.1.length:Int)≠(↑x.2.length:Int))=false→(x.1.length=x.2.length∧(0:Int)≤0∧0≤(↑x.1.length:Int)∧List.take (Int.toNat 0) x.1=List.take (Int.toNat 0) x.2)∧∀ (x_1:Int),x.1.length=x.2.length∧0≤x_1∧x_1≤(↑x.1.length:Int)∧List.take x_1.toNat x.1=List.take x_1.toNat x.2→(decide (x_1<(↑x.1.length:Int))=true→0≤x_1∧x_1<(↑x.1.length:Int)∧0≤x_1∧x_1<(↑x.2.length:Int)∧((!(decide ((x.1.getD x_1.toNat (0,false,0)).1=(x.2.getD x_1.toNat (0,false,0)).1)&&((x.1.getD x_1.toNat (0,false,0)).2.1 == (x.2.getD x_1.toNat (0,false,0)).2.1&&decide ((x.1.getD x_1.toNat (0,false,0)).2.2=(x.2.getD x_1.toNat (0,false,0)).2.2))))=true→false=decide (x.1=x.2)∧True)∧((!(decide ((x.1.getD x_1.toNat (0,false,0)).1=(x.2.getD x_1.toNat (0,false,0)).1)&&((x.1.getD x_1.toNat (0,false,0)).2.1 == (x.2.getD x_1.toNat (0,false,0)).2.1&&decide ((x.1.getD x_1.toNat (0,false,0)).2.2=(x.2.getD x_1.toNat (0,false,0)).2.2))))=false→ak IntKind.i64 (x_1+1)∧(x.1.length=x.2.length∧0≤x_1+1∧x_1+1≤(↑x.1.length:Int)∧List.take (x_1+1).toNat x.1=List.take (x_1+1).toNat x.2)∧((↑x.1.length:Int) - (x_1+1)).toNat<((↑x.1.length:Int) - x_1).toNat))∧(decide (x_1<(↑x.1.length:Int))=false→true=decide (x.1=x.2)∧True))
theorem tE:nz:=by
 unfold nz
 intro ⟨a,b⟩ ⟨⟨hb,_⟩,_⟩ _
 unfold az at hb
 simp only at *
 refine ⟨fun h=>?_,fun h=>?_⟩
 ·have h:a.length≠b.length:=by have:=of_decide_eq_true h; omega
  have:a≠b:=fun e=>h (by rw [e])
  simp [this]
 have hl:a.length=b.length:=by have:=of_decide_eq_false h; omega
 refine ⟨⟨hl,by omega,by omega,by simp⟩,fun i ⟨_,h0,h1,ht⟩=>⟨fun hlt=>?_,fun hge=>?_⟩⟩
 ·have hlt:i<a.length:=by simpa using hlt
  have key:∀ s t:cg,(!(decide (s.1=t.1)&&(s.2.1 == t.2.1&&decide (s.2.2=t.2.2))))=decide (s≠t):=by
   rintro ⟨s1,s2,s3⟩ ⟨t1,t2,t3⟩
   simp only [ne_eq,Prod.mk.injEq]
   by_cases e1:s1=t1 <;> by_cases e2:s2=t2 <;> by_cases e3:s3=t3 <;> simp [e1,e2,e3]
  simp only [key]
  refine ⟨h0,hlt,h0,by omega,fun hne=>?_,fun he=>?_⟩
  ·have hne:a.getD i.toNat (0,false,0)≠b.getD i.toNat (0,false,0):=of_decide_eq_true hne
   have:a≠b:=fun e=>hne (by rw [e])
   simp [this]
  ·have he:a.getD i.toNat (0,false,0)=b.getD i.toNat (0,false,0):=Classical.not_not.1 (of_decide_eq_false he)
   refine ⟨by simp only [ak]; omega,⟨hl,by omega,by omega,?_⟩,by omega⟩
   rw [show (i+1).toNat=i.toNat+1 by omega]
   exact lq hl (by omega) ht he
 ·have hge:¬ i<a.length:=by simpa using hge
  have hi:i.toNat=a.length:=by omega
  rw [hi,List.take_of_length_le (Nat.le_refl _),List.take_of_length_le (by omega)] at ht
  simp [ht]
theorem xw:wR.ok Tryz.prog 71:=aI (ann:=yj) ap Tryz.func71 (by kernel_rfl) tE
def bc (n:Int):Int→List cg→Int
 | _,[]=>-1
 | k,s::l=>if s.2.1=true∧dg k s=n then k else bc n (k+1) l
def DU:Spec:={ Ts:=[.arr b7,be],Rs:=[.dat ty_I],pre:=fun ((h,_):List cg×Int)=>aN h=0,F:=fun ((h,n):List cg×Int)=>bc n 0 h }
def EV:Nat→Option LoopGen
 | 2=>some { rd:=[.dat 7 (.arr b7),.dat 1 be],A:=fun ((h,n):List cg×Int)=>{ cs:=[.dat 9 ty_I],inv:=fun (i:Int)=>0≤i∧i≤h.length∧aN h=0∧bc n i (h.drop i.toNat)=bc n 0 h,mu:=fun (i:Int)=>(h.length - i).toNat } }
 | _=>none
def vv:Prop :=
  ∀ (x:List (Int×Bool×Int)×Int),(x.1.length * (8+(8+8))≤az∧∀ (x_1:Int×Bool×Int),x_1∈x.1→ak IntKind.i64 x_1.1∧True∧ak IntKind.i64 x_1.2.2)∧ak IntKind.u64 x.2→aN x.1=0→((0:Int)≤0∧0≤(↑x.1.length:Int)∧aN x.1=0∧bc x.2 0 (List.drop (Int.toNat 0) x.1)=bc x.2 0 x.1)∧∀ (x_1:Int),0≤x_1∧x_1≤(↑x.1.length:Int)∧aN x.1=0∧bc x.2 x_1 (List.drop x_1.toNat x.1)=bc x.2 0 x.1→(decide (x_1<(↑x.1.length:Int))=true→0≤x_1∧x_1<(↑x.1.length:Int)∧((x.1.getD x_1.toNat (0,false,0)).2.1=true→0≤x_1∧x_1<65536∧0≤(x.1.getD x_1.toNat (0,false,0)).1∧(x.1.getD x_1.toNat (0,false,0)).1≤65535)∧(((x.1.getD x_1.toNat (0,false,0)).2.1&&decide (dg x_1 (x.1.getD x_1.toNat (0,false,0))=x.2))=true→x_1=bc x.2 0 x.1∧True)∧(((x.1.getD x_1.toNat (0,false,0)).2.1&&decide (dg x_1 (x.1.getD x_1.toNat (0,false,0))=x.2))=false→ak IntKind.i64 (x_1+1)∧(0≤x_1+1∧x_1+1≤(↑x.1.length:Int)∧aN x.1=0∧bc x.2 (x_1+1) (List.drop (x_1+1).toNat x.1)=bc x.2 0 x.1)∧((↑x.1.length:Int) - (x_1+1)).toNat<((↑x.1.length:Int) - x_1).toNat))∧(decide (x_1<(↑x.1.length:Int))=false→(-1)=bc x.2 0 x.1∧True)
theorem Bf:vv:=by
 unfold vv
 intro ⟨h,n⟩ ⟨⟨_,_⟩,_⟩ hf
 simp only at *
 obtain ⟨z1,z2⟩:=jb hf
 refine ⟨⟨by omega,by omega,hf,by simp⟩,fun i ⟨h0,h1,_,h3⟩=>⟨fun hlt=>?_,fun hge=>?_⟩⟩
 ·have hlt:i<(h.length:Int):=by simpa using hlt
  have hm:=z2 _ (aD ((0,false,0):cg) h0 hlt)
  rw [aS ((0,false,0):cg) h0 hlt] at h3
  simp only [bc] at h3
  generalize h.getD i.toNat (0,false,0)=s at *
  refine ⟨h0,hlt,fun _=>⟨h0,by omega,hm.1,by omega⟩,fun hc=>?_,fun hc=>⟨by simp only [ak]; omega,⟨by omega,by omega,hf,?_⟩,by omega⟩⟩
  ·rw [if_pos (by simpa using hc)] at h3
   exact ⟨h3,trivial⟩
  ·rw [if_neg (by simpa using hc)] at h3
   exact h3
 ·have hge:¬ i<(h.length:Int):=by simpa using hge
  rw [bn hge] at h3
  exact ⟨h3,trivial⟩
theorem El:DU.ok Tryz.prog 67:=aI (ann:=EV) (ae nT ap) Tryz.func67 (by kernel_rfl) Bf
end Go.Proofs.YtglchojglcobjaaGreat
