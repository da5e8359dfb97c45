
import Derived.Test.YtcnoiiohmpgckaaFinds
import Derived.Test.YtcnoiiohmpgckaaSlices
namespace Go.Proofs.Ytcnoiiohmpgckaa
open Go
set_option maxRecDepth 100000
set_option maxHeartbeats 1000000
def ut:LoopGen:={ rd:=[],A:=fun _=>{ cs:=[],inv:=fun _=>True,mu:=fun _=>0 } }
def eo (l:List Int) (n:Int):Int:=aM (fun x=>decide (x=n)) 0 l
def vo:Nat→Option LoopGen
 | 2=>some { rd:=[.dat 7 (.arr ty_I),.dat 1 ty_I],A:=fun ((l,n):List Int×Int)=>{ cs:=[.dat 9 ty_I],inv:=fun (i:Int)=>0≤i∧i≤l.length∧aM (fun x=>decide (x=n)) i (l.drop i.toNat)=eo l n,mu:=fun (i:Int)=>(l.length - i).toNat } }
 | _=>none
def uK:Spec:={ Ts:=[.arr ty_I,ty_I],Rs:=[.dat ty_I],pre:=fun _=>True,F:=fun ((l,n):List Int×Int)=>eo l n }
def oO:Prop :=
  ∀ (x:List Int×Int),(x.1.length * 8≤aC∧∀ (x_1:Int),x_1∈x.1→ai .i64 x_1)∧ai .i64 x.2→True→((0:Int)≤0∧0≤(↑x.1.length:Int)∧aM (fun (x_1:Int)=>decide (x_1=x.2)) 0 (List.drop (Int.toNat 0) x.1)=eo x.1 x.2)∧∀ (x_1:Int),0≤x_1∧x_1≤(↑x.1.length:Int)∧aM (fun (x_2:Int)=>decide (x_2=x.2)) x_1 (List.drop x_1.toNat x.1)=eo x.1 x.2→(decide (x_1<(↑x.1.length:Int))=true→0≤x_1∧x_1<(↑x.1.length:Int)∧(decide (x.1.getD x_1.toNat 0=x.2)=true→x_1=eo x.1 x.2∧True)∧(decide (x.1.getD x_1.toNat 0=x.2)=false→ai .i64 (x_1+1)∧(0≤x_1+1∧x_1+1≤(↑x.1.length:Int)∧aM (fun (x_2:Int)=>decide (x_2=x.2)) (x_1+1) (List.drop (x_1+1).toNat x.1)=eo x.1 x.2)∧((↑x.1.length:Int) - (x_1+1)).toNat<((↑x.1.length:Int) - x_1).toNat))∧(decide (x_1<(↑x.1.length:Int))=false→(-1)=eo x.1 x.2∧True)
theorem sP:oO:=by
 unfold oO
 intro ⟨l,n⟩ ⟨⟨hb,_⟩,_⟩ _
 unfold aC at hb
 refine ⟨⟨by omega,by omega,rfl⟩,fun i ⟨h0,h1,h2⟩=>⟨fun hlt=>?_,fun hge=>?_⟩⟩
 ·have hlt:i<(l.length:Int):=by simpa using hlt
  simp only at *
  rw [aD (0:Int) h0 hlt] at h2
  simp only [aM] at h2
  simp only [ai]
  refine ⟨h0,hlt,fun hc=>?_,fun hc=>?_⟩
  ·rw [if_pos hc] at h2
   exact ⟨h2,trivial⟩
  ·rw [if_neg (by rw [hc]; simp)] at h2
   exact ⟨by omega,⟨by omega,by omega,h2⟩,by omega⟩
 ·rw [aX (by simpa using hge)] at h2
  exact ⟨h2,trivial⟩
theorem uX:uK.ok Try.prog 88:=aQ (ann:=vo) ar Try.func88 (by kernel_rfl) sP
def aI (l:List Int) (n:Int):Bool:=l.any fun x=>decide (x=n)
def xD:Spec:={ Ts:=[.arr ty_I,ty_I],Rs:=[.dat .bool],pre:=fun _=>True,F:=fun ((l,n):List Int×Int)=>aI l n }
def vP:Prop :=
  ∀ (x:List Int×Int),(x.1.length * 8≤aC∧∀ (x_1:Int),x_1∈x.1→ai .i64 x_1)∧ai .i64 x.2→True→True∧decide (0≤eo x.1 x.2)=aI x.1 x.2∧True
theorem wO:vP:=by
 unfold vP
 intro ⟨l,n⟩ _ _
 exact ⟨trivial,eu _ l 0 (by omega),trivial⟩
theorem kf:xD.ok Try.prog 34:=aQ (ann:=fE) (af uX ar) Try.func34 (by kernel_rfl) wO
def wU:Spec:={ Ts:=[.arr ty_I,ty_I],Rs:=[.dat ty_I],pre:=fun _=>True,F:=fun ((l,v):List Int×Int)=>eo l v }
def xk:Nat→Option LoopGen
 | 2=>some { rd:=[.dat 0 (.arr ty_I),.dat 1 ty_I],A:=fun ((l,v):List Int×Int)=>{ cs:=[.dat 8 ty_I],inv:=fun (i:Int)=>0≤i∧i≤l.length∧aM (fun x=>decide (x=v)) i (l.drop i.toNat)=eo l v,mu:=fun (i:Int)=>(l.length - i).toNat } }
 | _=>none
def tU:Prop :=
  ∀ (x:List Int×Int),(x.1.length * 8≤aC∧∀ (x_1:Int),x_1∈x.1→ai .i64 x_1)∧ai .i64 x.2→True→((0:Int)≤0∧0≤(↑x.1.length:Int)∧aM (fun (x_1:Int)=>decide (x_1=x.2)) 0 (List.drop (Int.toNat 0) x.1)=eo x.1 x.2)∧∀ (x_1:Int),0≤x_1∧x_1≤(↑x.1.length:Int)∧aM (fun (x_2:Int)=>decide (x_2=x.2)) x_1 (List.drop x_1.toNat x.1)=eo x.1 x.2→(decide (x_1<(↑x.1.length:Int))=true→0≤x_1∧x_1<(↑x.1.length:Int)∧(decide (x.2=x.1.getD x_1.toNat 0)=true→x_1=eo x.1 x.2∧True)∧(decide (x.2=x.1.getD x_1.toNat 0)=false→ai .i64 (x_1+1)∧(0≤x_1+1∧x_1+1≤(↑x.1.length:Int)∧aM (fun (x_2:Int)=>decide (x_2=x.2)) (x_1+1) (List.drop (x_1+1).toNat x.1)=eo x.1 x.2)∧((↑x.1.length:Int) - (x_1+1)).toNat<((↑x.1.length:Int) - x_1).toNat))∧(decide (x_1<(↑x.1.length:Int))=false→(-1)=eo x.1 x.2∧True)
theorem vt:tU:=by
 unfold tU
 intro ⟨l,n⟩ ⟨⟨hb,_⟩,_⟩ _
 unfold aC at hb
 refine ⟨⟨by omega,by omega,rfl⟩,fun i ⟨h0,h1,h2⟩=>⟨fun hlt=>?_,fun hge=>?_⟩⟩
 ·have hlt:i<(l.length:Int):=by simpa using hlt
  simp only at *
  rw [aD (0:Int) h0 hlt] at h2
  simp only [aM] at h2
  simp only [ai]
  refine ⟨h0,hlt,fun hc=>?_,fun hc=>?_⟩
  ·rw [if_pos (decide_eq_true (of_decide_eq_true hc).symm)] at h2
   exact ⟨h2,trivial⟩
  ·rw [if_neg (fun e=>of_decide_eq_false hc (of_decide_eq_true e).symm)] at h2
   exact ⟨by omega,⟨by omega,by omega,h2⟩,by omega⟩
 ·rw [aX (by simpa using hge)] at h2
  exact ⟨h2,trivial⟩
theorem w6:wU.ok Try.prog 146:=aQ (ann:=xk) ar Try.func146 (by kernel_rfl) vt
def wV:Spec:={ Ts:=[.arr ty_I,ty_I],Rs:=[.dat .bool],pre:=fun _=>True,F:=fun ((l,v):List Int×Int)=>aI l v }
def tV:Prop :=
  ∀ (x:List Int×Int),(x.1.length * 8≤aC∧∀ (x_1:Int),x_1∈x.1→ai .i64 x_1)∧ai .i64 x.2→True→True∧decide (0≤eo x.1 x.2)=aI x.1 x.2∧True
theorem vu:tV:=by
 unfold tV
 intro ⟨l,v⟩ _ _
 exact ⟨trivial,eu _ l 0 (by omega),trivial⟩
theorem lD:wV.ok Try.prog 85:=aQ (ann:=fE) (af w6 ar) Try.func85 (by kernel_rfl) vu
def vJ:Spec:={ Ts:=[.arr ty_I,.fn ty_I .bool],Rs:=[.dat ty_I],pre:=fun ((l,g):List Int×(Int→Prop)×(Int→Bool))=>∀ s∈l,g.1 s,F:=fun ((l,g):List Int×(Int→Prop)×(Int→Bool))=>aM g.2 0 l }
def wM:Nat→Option LoopGen
 | 2=>some { rd:=[.dat 0 (.arr ty_I),.dat 1 (.fn ty_I .bool)],A:=fun ((l,g):List Int×(Int→Prop)×(Int→Bool))=>{ cs:=[.dat 8 ty_I],inv:=fun (i:Int)=>0≤i∧i≤l.length∧aM g.2 i (l.drop i.toNat)=aM g.2 0 l,mu:=fun (i:Int)=>(l.length - i).toNat } }
 | _=>none
def rI:Prop :=
  ∀ (x:List Int×(Int→Prop)×(Int→Bool)),(x.1.length * 8≤aC∧∀ (x_1:Int),x_1∈x.1→ai .i64 x_1)∧True→(∀ (s:Int),s∈x.1→x.2.1 s)→((0:Int)≤0∧0≤(↑x.1.length:Int)∧aM x.2.2 0 (List.drop (Int.toNat 0) x.1)=aM x.2.2 0 x.1)∧∀ (x_1:Int),0≤x_1∧x_1≤(↑x.1.length:Int)∧aM x.2.2 x_1 (List.drop x_1.toNat x.1)=aM x.2.2 0 x.1→(decide (x_1<(↑x.1.length:Int))=true→0≤x_1∧x_1<(↑x.1.length:Int)∧x.2.1 (x.1.getD x_1.toNat 0)∧(x.2.2 (x.1.getD x_1.toNat 0)=true→x_1=aM x.2.2 0 x.1∧True)∧(x.2.2 (x.1.getD x_1.toNat 0)=false→ai .i64 (x_1+1)∧(0≤x_1+1∧x_1+1≤(↑x.1.length:Int)∧aM x.2.2 (x_1+1) (List.drop (x_1+1).toNat x.1)=aM x.2.2 0 x.1)∧((↑x.1.length:Int) - (x_1+1)).toNat<((↑x.1.length:Int) - x_1).toNat))∧(decide (x_1<(↑x.1.length:Int))=false→(-1)=aM x.2.2 0 x.1∧True)
theorem uB:rI:=by
 unfold rI
 intro ⟨l,g⟩ ⟨⟨hl,_⟩,_⟩ hp
 unfold aC at *
 refine ⟨⟨by omega,by omega,by simp⟩,fun i ⟨h0,h1,h2⟩=>⟨fun hlt=>?_,fun hge=>?_⟩⟩
 ·have hlt:i<(l.length:Int):=by simpa using hlt
  have e:=aD (0:Int) h0 hlt
  have hm:=hp _ (bz (0:Int) h0 hlt)
  simp only at *
  rw [e] at h2
  simp only [aM] at h2
  refine ⟨h0,hlt,hm,fun hc=>?_,fun hc=>?_⟩
  ·rw [if_pos hc] at h2
   exact ⟨h2,trivial⟩
  ·rw [if_neg (by rw [hc]; simp)] at h2
   exact ⟨by simp only [ai]; omega,⟨by omega,by omega,h2⟩,by omega⟩
 ·rw [aX (by simpa using hge)] at h2
  exact ⟨h2,trivial⟩
theorem vZ:vJ.ok Try.prog 153:=aQ (ann:=wM) ar Try.func153 (by kernel_rfl) uB
def wW:Spec:={ Ts:=[.arr ty_I,.fn ty_I .bool],Rs:=[.dat .bool],pre:=fun ((l,g):List Int×(Int→Prop)×(Int→Bool))=>∀ s∈l,g.1 s,F:=fun ((l,g):List Int×(Int→Prop)×(Int→Bool))=>l.any g.2 }
def tW:Prop :=
  ∀ (x:List Int×(Int→Prop)×(Int→Bool)),(x.1.length * 8≤aC∧∀ (x_1:Int),x_1∈x.1→ai .i64 x_1)∧True→(∀ (s:Int),s∈x.1→x.2.1 s)→(∀ (s:Int),s∈x.1→x.2.1 s)∧decide (0≤aM x.2.2 0 x.1)=x.1.any x.2.2∧True
theorem vv:tW:=by
 unfold tW
 intro ⟨l,g⟩ _ hp
 exact ⟨hp,eu _ l 0 (by omega),trivial⟩
theorem w7:wW.ok Try.prog 108:=aQ (ann:=fE) (af vZ ar) Try.func108 (by kernel_rfl) vv
def aw:List Int→Bool
 | x::y::l=>decide (x<y)&&aw (y::l)
 | _=>true
theorem iV:∀ {l:List Int},l.length≤1→aw l=true
 | [],_=>rfl
 | [_],_=>rfl
 | _::_::_,h=>by simp at h
def sE:Nat→Option LoopGen
 | 2=>some { rd:=[.dat 0 (.arr ty_I)],A:=fun (l:List Int)=>{ cs:=[.dat 3 ty_I],inv:=fun (i:Int)=>1≤i∧i≤l.length+1∧aw (l.drop (i - 1).toNat)=aw l,mu:=fun (i:Int)=>(l.length - i).toNat } }
 | _=>none
def uJ:Spec:={ Ts:=[.arr ty_I],Rs:=[.dat .bool],pre:=fun _=>True,F:=aw }
def oN:Prop :=
  ∀ (x:List Int),(x.length * (8:Nat)≤aC∧∀ (x_1:Int),x_1∈x→ai IntKind.i64 x_1)→True→((1:Int)≤(1:Int)∧(1:Int)≤(↑x.length:Int)+(1:Int)∧aw (List.drop ((1:Int) - (1:Int)).toNat x)=aw x)∧∀ (x_1:Int),(1:Int)≤x_1∧x_1≤(↑x.length:Int)+(1:Int)∧aw (List.drop (x_1 - (1:Int)).toNat x)=aw x→(decide (x_1<(↑x.length:Int))=true→ai IntKind.i64 (x_1 - (1:Int))∧(0:Int)≤x_1 - (1:Int)∧x_1 - (1:Int)<(↑x.length:Int)∧(0:Int)≤x_1∧x_1<(↑x.length:Int)∧(decide (x.getD x_1.toNat (0:Int)≤x.getD (x_1 - (1:Int)).toNat (0:Int))=true→false=aw x∧True)∧(decide (x.getD x_1.toNat (0:Int)≤x.getD (x_1 - (1:Int)).toNat (0:Int))=false→ai IntKind.i64 (x_1+(1:Int))∧((1:Int)≤x_1+(1:Int)∧x_1+(1:Int)≤(↑x.length:Int)+(1:Int)∧aw (List.drop (x_1+(1:Int) - (1:Int)).toNat x)=aw x)∧((↑x.length:Int) - (x_1+(1:Int))).toNat<((↑x.length:Int) - x_1).toNat))∧(decide (x_1<(↑x.length:Int))=false→true=aw x∧True)
theorem sO:oN:=by
 unfold oN
 intro l ⟨hb,_⟩ _
 unfold aC at hb
 refine ⟨⟨by omega,by omega,rfl⟩,fun i ⟨h0,h1,h2⟩=>⟨fun hlt=>?_,fun hge=>?_⟩⟩
 ·have hlt:i<(l.length:Int):=of_decide_eq_true hlt
  have e1:=aD (0:Int) (xs:=l) (i:=i - 1) (by omega) (by omega)
  have e2:=aD (0:Int) (xs:=l) (i:=i) (by omega) hlt
  rw [show i - 1+1=i by omega] at e1
  simp only [ai] at h2 ⊢
  rw [e1,e2] at h2
  simp only [aw] at h2
  rw [← e2] at h2
  refine ⟨by omega,by omega,by omega,by omega,hlt,fun hc=>?_,fun hc=>⟨by omega,⟨by omega,by omega,?_⟩,by omega⟩⟩
  ·have hc:=of_decide_eq_true hc
   rw [← h2,decide_eq_false (by omega)]
   exact ⟨rfl,trivial⟩
  ·have hc:=of_decide_eq_false hc
   rw [decide_eq_true (by omega),Bool.true_and] at h2
   rw [show i+1 - 1=i by omega]
   exact h2
 ·have hge:¬ i<(l.length:Int):=of_decide_eq_false hge
  rw [iV (by rw [List.length_drop]; omega)] at h2
  exact ⟨h2,trivial⟩
theorem uW:uJ.ok Try.prog 113:=aQ (ann:=sE) ar Try.func113 (by kernel_rfl) sO
end Go.Proofs.Ytcnoiiohmpgckaa
