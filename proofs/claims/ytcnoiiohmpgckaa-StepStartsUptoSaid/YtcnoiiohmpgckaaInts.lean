
import Derived.Test.YtcnoiiohmpgckaaFinds
import Derived.Test.YtcnoiiohmpgckaaSlices
namespace Go.Proofs.Ytcnoiiohmpgckaa
open Go
set_option maxRecDepth 100000
set_option maxHeartbeats 1000000
def uq:LoopGen:={ rd:=[],A:=fun _=>{ cs:=[],inv:=fun _=>True,mu:=fun _=>0 } }
def dH (l:List Int) (n:Int):Int:=aI (fun x=>decide (x=n)) 0 l
def td:Nat→Option LoopGen
 | 2=>some { rd:=[.dat 7 (.arr ty_I),.dat 1 ty_I],A:=fun ((l,n):List Int×Int)=>{ cs:=[.dat 9 ty_I],inv:=fun (i:Int)=>0≤i∧i≤l.length∧aI (fun x=>decide (x=n)) i (l.drop i.toNat)=dH l n,mu:=fun (i:Int)=>(l.length - i).toNat } }
 | _=>none
def sA:Spec:={ Ts:=[.arr ty_I,ty_I],Rs:=[.dat ty_I],pre:=fun _=>True,F:=fun ((l,n):List Int×Int)=>dH l n }
def m5:Prop :=
  ∀ (x:List Int×Int),(x.1.length * 8≤aE∧∀ (x_1:Int),x_1∈x.1→ah .i64 x_1)∧ah .i64 x.2→True→((0:Int)≤0∧0≤(↑x.1.length:Int)∧aI (fun (x_1:Int)=>decide (x_1=x.2)) 0 (List.drop (Int.toNat 0) x.1)=dH x.1 x.2)∧∀ (x_1:Int),0≤x_1∧x_1≤(↑x.1.length:Int)∧aI (fun (x_2:Int)=>decide (x_2=x.2)) x_1 (List.drop x_1.toNat x.1)=dH x.1 x.2→(decide (x_1<(↑x.1.length:Int))=true→0≤x_1∧x_1<(↑x.1.length:Int)∧(decide (x.1.getD x_1.toNat 0=x.2)=true→x_1=dH x.1 x.2∧True)∧(decide (x.1.getD x_1.toNat 0=x.2)=false→ah .i64 (x_1+1)∧(0≤x_1+1∧x_1+1≤(↑x.1.length:Int)∧aI (fun (x_2:Int)=>decide (x_2=x.2)) (x_1+1) (List.drop (x_1+1).toNat x.1)=dH x.1 x.2)∧((↑x.1.length:Int) - (x_1+1)).toNat<((↑x.1.length:Int) - x_1).toNat))∧(decide (x_1<(↑x.1.length:Int))=false→(-1)=dH x.1 x.2∧True)
theorem qu:m5:=by
 unfold m5
 intro ⟨l,n⟩ ⟨⟨hb,_⟩,_⟩ _
 unfold aE at hb
 refine ⟨⟨by omega,by omega,rfl⟩,fun i ⟨h0,h1,h2⟩=>⟨fun hlt=>?_,fun hge=>?_⟩⟩
 ·have hlt:i<(l.length:Int):=by simpa using hlt
  simp only at *
  rw [az (0:Int) h0 hlt] at h2
  simp only [aI] at h2
  simp only [ah]
  refine ⟨h0,hlt,fun hc=>?_,fun hc=>?_⟩
  ·rw [if_pos hc] at h2
   exact ⟨h2,trivial⟩
  ·rw [if_neg (by rw [hc]; simp)] at h2
   exact ⟨by omega,⟨by omega,by omega,h2⟩,by omega⟩
 ·rw [aL (by simpa using hge)] at h2
  exact ⟨h2,trivial⟩
theorem sO:sA.ok Try.prog 88:=aQ (ann:=td) au Try.func88 (by kernel_rfl) qu
def bf (l:List Int) (n:Int):Bool:=l.any fun x=>decide (x=n)
def vk:Spec:={ Ts:=[.arr ty_I,ty_I],Rs:=[.dat .bool],pre:=fun _=>True,F:=fun ((l,n):List Int×Int)=>bf l n }
def tA:Prop :=
  ∀ (x:List Int×Int),(x.1.length * 8≤aE∧∀ (x_1:Int),x_1∈x.1→ah .i64 x_1)∧ah .i64 x.2→True→True∧decide (0≤dH x.1 x.2)=bf x.1 x.2∧True
theorem uw:tA:=by
 unfold tA
 intro ⟨l,n⟩ _ _
 exact ⟨trivial,dN _ l 0 (by omega),trivial⟩
theorem n8:vk.ok Try.prog 34:=aQ (ann:=eV) (af sO au) Try.func34 (by kernel_rfl) uw
def uC:Spec:={ Ts:=[.arr ty_I,ty_I],Rs:=[.dat ty_I],pre:=fun _=>True,F:=fun ((l,v):List Int×Int)=>dH l v }
def uZ:Nat→Option LoopGen
 | 2=>some { rd:=[.dat 0 (.arr ty_I),.dat 1 ty_I],A:=fun ((l,v):List Int×Int)=>{ cs:=[.dat 8 ty_I],inv:=fun (i:Int)=>0≤i∧i≤l.length∧aI (fun x=>decide (x=v)) i (l.drop i.toNat)=dH l v,mu:=fun (i:Int)=>(l.length - i).toNat } }
 | _=>none
def rG:Prop :=
  ∀ (x:List Int×Int),(x.1.length * 8≤aE∧∀ (x_1:Int),x_1∈x.1→ah .i64 x_1)∧ah .i64 x.2→True→((0:Int)≤0∧0≤(↑x.1.length:Int)∧aI (fun (x_1:Int)=>decide (x_1=x.2)) 0 (List.drop (Int.toNat 0) x.1)=dH x.1 x.2)∧∀ (x_1:Int),0≤x_1∧x_1≤(↑x.1.length:Int)∧aI (fun (x_2:Int)=>decide (x_2=x.2)) x_1 (List.drop x_1.toNat x.1)=dH x.1 x.2→(decide (x_1<(↑x.1.length:Int))=true→0≤x_1∧x_1<(↑x.1.length:Int)∧(decide (x.2=x.1.getD x_1.toNat 0)=true→x_1=dH x.1 x.2∧True)∧(decide (x.2=x.1.getD x_1.toNat 0)=false→ah .i64 (x_1+1)∧(0≤x_1+1∧x_1+1≤(↑x.1.length:Int)∧aI (fun (x_2:Int)=>decide (x_2=x.2)) (x_1+1) (List.drop (x_1+1).toNat x.1)=dH x.1 x.2)∧((↑x.1.length:Int) - (x_1+1)).toNat<((↑x.1.length:Int) - x_1).toNat))∧(decide (x_1<(↑x.1.length:Int))=false→(-1)=dH x.1 x.2∧True)
theorem tg:rG:=by
 unfold rG
 intro ⟨l,n⟩ ⟨⟨hb,_⟩,_⟩ _
 unfold aE at hb
 refine ⟨⟨by omega,by omega,rfl⟩,fun i ⟨h0,h1,h2⟩=>⟨fun hlt=>?_,fun hge=>?_⟩⟩
 ·have hlt:i<(l.length:Int):=by simpa using hlt
  simp only at *
  rw [az (0:Int) h0 hlt] at h2
  simp only [aI] at h2
  simp only [ah]
  refine ⟨h0,hlt,fun hc=>?_,fun hc=>?_⟩
  ·rw [if_pos (decide_eq_true (of_decide_eq_true hc).symm)] at h2
   exact ⟨h2,trivial⟩
  ·rw [if_neg (fun e=>of_decide_eq_false hc (of_decide_eq_true e).symm)] at h2
   exact ⟨by omega,⟨by omega,by omega,h2⟩,by omega⟩
 ·rw [aL (by simpa using hge)] at h2
  exact ⟨h2,trivial⟩
theorem uL:uC.ok Try.prog 146:=aQ (ann:=uZ) au Try.func146 (by kernel_rfl) tg
def uD:Spec:={ Ts:=[.arr ty_I,ty_I],Rs:=[.dat .bool],pre:=fun _=>True,F:=fun ((l,v):List Int×Int)=>bf l v }
def rH:Prop :=
  ∀ (x:List Int×Int),(x.1.length * 8≤aE∧∀ (x_1:Int),x_1∈x.1→ah .i64 x_1)∧ah .i64 x.2→True→True∧decide (0≤dH x.1 x.2)=bf x.1 x.2∧True
theorem th:rH:=by
 unfold rH
 intro ⟨l,v⟩ _ _
 exact ⟨trivial,dN _ l 0 (by omega),trivial⟩
theorem rP:uD.ok Try.prog 85:=aQ (ann:=eV) (af uL au) Try.func85 (by kernel_rfl) th
def tv:Spec:={ Ts:=[.arr ty_I,.fn ty_I .bool],Rs:=[.dat ty_I],pre:=fun ((l,g):List Int×(Int→Prop)×(Int→Bool))=>∀ s∈l,g.1 s,F:=fun ((l,g):List Int×(Int→Prop)×(Int→Bool))=>aI g.2 0 l }
def ur:Nat→Option LoopGen
 | 2=>some { rd:=[.dat 0 (.arr ty_I),.dat 1 (.fn ty_I .bool)],A:=fun ((l,g):List Int×(Int→Prop)×(Int→Bool))=>{ cs:=[.dat 8 ty_I],inv:=fun (i:Int)=>0≤i∧i≤l.length∧aI g.2 i (l.drop i.toNat)=aI g.2 0 l,mu:=fun (i:Int)=>(l.length - i).toNat } }
 | _=>none
def pA:Prop :=
  ∀ (x:List Int×(Int→Prop)×(Int→Bool)),(x.1.length * 8≤aE∧∀ (x_1:Int),x_1∈x.1→ah .i64 x_1)∧True→(∀ (s:Int),s∈x.1→x.2.1 s)→((0:Int)≤0∧0≤(↑x.1.length:Int)∧aI x.2.2 0 (List.drop (Int.toNat 0) x.1)=aI x.2.2 0 x.1)∧∀ (x_1:Int),0≤x_1∧x_1≤(↑x.1.length:Int)∧aI x.2.2 x_1 (List.drop x_1.toNat x.1)=aI x.2.2 0 x.1→(decide (x_1<(↑x.1.length:Int))=true→0≤x_1∧x_1<(↑x.1.length:Int)∧x.2.1 (x.1.getD x_1.toNat 0)∧(x.2.2 (x.1.getD x_1.toNat 0)=true→x_1=aI x.2.2 0 x.1∧True)∧(x.2.2 (x.1.getD x_1.toNat 0)=false→ah .i64 (x_1+1)∧(0≤x_1+1∧x_1+1≤(↑x.1.length:Int)∧aI x.2.2 (x_1+1) (List.drop (x_1+1).toNat x.1)=aI x.2.2 0 x.1)∧((↑x.1.length:Int) - (x_1+1)).toNat<((↑x.1.length:Int) - x_1).toNat))∧(decide (x_1<(↑x.1.length:Int))=false→(-1)=aI x.2.2 0 x.1∧True)
theorem sk:pA:=by
 unfold pA
 intro ⟨l,g⟩ ⟨⟨hl,_⟩,_⟩ hp
 unfold aE at *
 refine ⟨⟨by omega,by omega,by simp⟩,fun i ⟨h0,h1,h2⟩=>⟨fun hlt=>?_,fun hge=>?_⟩⟩
 ·have hlt:i<(l.length:Int):=by simpa using hlt
  have e:=az (0:Int) h0 hlt
  have hm:=hp _ (bW (0:Int) h0 hlt)
  simp only at *
  rw [e] at h2
  simp only [aI] at h2
  refine ⟨h0,hlt,hm,fun hc=>?_,fun hc=>?_⟩
  ·rw [if_pos hc] at h2
   exact ⟨h2,trivial⟩
  ·rw [if_neg (by rw [hc]; simp)] at h2
   exact ⟨by simp only [ah]; omega,⟨by omega,by omega,h2⟩,by omega⟩
 ·rw [aL (by simpa using hge)] at h2
  exact ⟨h2,trivial⟩
theorem tJ:tv.ok Try.prog 153:=aQ (ann:=ur) au Try.func153 (by kernel_rfl) sk
def uE:Spec:={ Ts:=[.arr ty_I,.fn ty_I .bool],Rs:=[.dat .bool],pre:=fun ((l,g):List Int×(Int→Prop)×(Int→Bool))=>∀ s∈l,g.1 s,F:=fun ((l,g):List Int×(Int→Prop)×(Int→Bool))=>l.any g.2 }
def rI:Prop :=
  ∀ (x:List Int×(Int→Prop)×(Int→Bool)),(x.1.length * 8≤aE∧∀ (x_1:Int),x_1∈x.1→ah .i64 x_1)∧True→(∀ (s:Int),s∈x.1→x.2.1 s)→(∀ (s:Int),s∈x.1→x.2.1 s)∧decide (0≤aI x.2.2 0 x.1)=x.1.any x.2.2∧True
theorem ti:rI:=by
 unfold rI
 intro ⟨l,g⟩ _ hp
 exact ⟨hp,dN _ l 0 (by omega),trivial⟩
theorem uM:uE.ok Try.prog 108:=aQ (ann:=eV) (af tJ au) Try.func108 (by kernel_rfl) ti
def ax:List Int→Bool
 | x::y::l=>decide (x<y)&&ax (y::l)
 | _=>true
theorem hO:∀ {l:List Int},l.length≤1→ax l=true
 | [],_=>rfl
 | [_],_=>rfl
 | _::_::_,h=>by simp at h
def qh:Nat→Option LoopGen
 | 2=>some { rd:=[.dat 0 (.arr ty_I)],A:=fun (l:List Int)=>{ cs:=[.dat 3 ty_I],inv:=fun (i:Int)=>1≤i∧i≤l.length+1∧ax (l.drop (i - 1).toNat)=ax l,mu:=fun (i:Int)=>(l.length - i).toNat } }
 | _=>none
def sz:Spec:={ Ts:=[.arr ty_I],Rs:=[.dat .bool],pre:=fun _=>True,F:=ax }
def m4:Prop :=
  ∀ (x:List Int),(x.length * (8:Nat)≤aE∧∀ (x_1:Int),x_1∈x→ah IntKind.i64 x_1)→True→((1:Int)≤(1:Int)∧(1:Int)≤(↑x.length:Int)+(1:Int)∧ax (List.drop ((1:Int) - (1:Int)).toNat x)=ax x)∧∀ (x_1:Int),(1:Int)≤x_1∧x_1≤(↑x.length:Int)+(1:Int)∧ax (List.drop (x_1 - (1:Int)).toNat x)=ax x→(decide (x_1<(↑x.length:Int))=true→ah IntKind.i64 (x_1 - (1:Int))∧(0:Int)≤x_1 - (1:Int)∧x_1 - (1:Int)<(↑x.length:Int)∧(0:Int)≤x_1∧x_1<(↑x.length:Int)∧(decide (x.getD x_1.toNat (0:Int)≤x.getD (x_1 - (1:Int)).toNat (0:Int))=true→false=ax x∧True)∧(decide (x.getD x_1.toNat (0:Int)≤x.getD (x_1 - (1:Int)).toNat (0:Int))=false→ah IntKind.i64 (x_1+(1:Int))∧((1:Int)≤x_1+(1:Int)∧x_1+(1:Int)≤(↑x.length:Int)+(1:Int)∧ax (List.drop (x_1+(1:Int) - (1:Int)).toNat x)=ax x)∧((↑x.length:Int) - (x_1+(1:Int))).toNat<((↑x.length:Int) - x_1).toNat))∧(decide (x_1<(↑x.length:Int))=false→true=ax x∧True)
theorem qt:m4:=by
 unfold m4
 intro l ⟨hb,_⟩ _
 unfold aE at hb
 refine ⟨⟨by omega,by omega,rfl⟩,fun i ⟨h0,h1,h2⟩=>⟨fun hlt=>?_,fun hge=>?_⟩⟩
 ·have hlt:i<(l.length:Int):=of_decide_eq_true hlt
  have e1:=az (0:Int) (xs:=l) (i:=i - 1) (by omega) (by omega)
  have e2:=az (0:Int) (xs:=l) (i:=i) (by omega) hlt
  rw [show i - 1+1=i by omega] at e1
  simp only [ah] at h2 ⊢
  rw [e1,e2] at h2
  simp only [ax] at h2
  rw [← e2] at h2
  refine ⟨by omega,by omega,by omega,by omega,hlt,fun hc=>?_,fun hc=>⟨by omega,⟨by omega,by omega,?_⟩,by omega⟩⟩
  ·have hc:=of_decide_eq_true hc
   rw [← h2,decide_eq_false (by omega)]
   exact ⟨rfl,trivial⟩
  ·have hc:=of_decide_eq_false hc
   rw [decide_eq_true (by omega),Bool.true_and] at h2
   rw [show i+1 - 1=i by omega]
   exact h2
 ·have hge:¬ i<(l.length:Int):=of_decide_eq_false hge
  rw [hO (by rw [List.length_drop]; omega)] at h2
  exact ⟨h2,trivial⟩
theorem sN:sz.ok Try.prog 113:=aQ (ann:=qh) au Try.func113 (by kernel_rfl) qt
end Go.Proofs.Ytcnoiiohmpgckaa
