
import Derived.Test.YtcnoiiohmpgckaaDoorWord
namespace Go.Proofs.YtcnoiiohmpgckaaDoor
open Go
set_option maxRecDepth 100000
set_option maxHeartbeats 1000000
def nq:Spec:={ Ts:=[.arr bT,.arr bT],Rs:=[.dat .bool],pre:=fun _=>True,F:=fun (x:List Int×List Int)=>decide (x.1=x.2) }
def n9:Nat→Option LoopGen
 | 4=>some { rd:=[.dat 0 (.arr bT),.dat 1 (.arr bT)],A:=fun (g:List Int×List Int)=>{ cs:=[.dat 13 ar],inv:=fun (i:Int)=>g.1.length=g.2.length∧0≤i∧i≤g.1.length∧g.1.take i.toNat=g.2.take i.toNat,mu:=fun (i:Int)=>(g.1.length - i).toNat } }
 | _=>none
def i6:Prop :=
  ∀ (x:List Int×List Int),((x.1.length * 8≤bb∧∀ (x_1:Int),x_1∈x.1→ao .u64 x_1)∧x.2.length * 8≤bb∧∀ (x_1:Int),x_1∈x.2→ao .u64 x_1)→True→(decide ((↑x.1.length:Int)≠(↑x.2.length:Int))=true→false=decide (x.1=x.2)∧True)∧(decide ((↑x.1.length:Int)≠(↑x.2.length:Int))=false→(x.1.length=x.2.length∧(0:Int)≤0∧0≤(↑x.1.length:Int)∧List.take (Int.toNat 0) x.1=List.take (Int.toNat 0) x.2)∧∀ (x_1:Int),x.1.length=x.2.length∧0≤x_1∧x_1≤(↑x.1.length:Int)∧List.take x_1.toNat x.1=List.take x_1.toNat x.2→(decide (x_1<(↑x.1.length:Int))=true→0≤x_1∧x_1<(↑x.1.length:Int)∧0≤x_1∧x_1<(↑x.2.length:Int)∧(decide (x.1.getD x_1.toNat 0≠x.2.getD x_1.toNat 0)=true→false=decide (x.1=x.2)∧True)∧(decide (x.1.getD x_1.toNat 0≠x.2.getD x_1.toNat 0)=false→ao .i64 (x_1+1)∧(x.1.length=x.2.length∧0≤x_1+1∧x_1+1≤(↑x.1.length:Int)∧List.take (x_1+1).toNat x.1=List.take (x_1+1).toNat x.2)∧((↑x.1.length:Int) - (x_1+1)).toNat<((↑x.1.length:Int) - x_1).toNat))∧(decide (x_1<(↑x.1.length:Int))=false→true=decide (x.1=x.2)∧True))
theorem mb:i6:=by
 unfold i6
 intro x hw _
 refine ⟨fun h=>?_,fun h=>?_⟩
 ·have h:x.1.length≠x.2.length:=by have:=of_decide_eq_true h; omega
  have:x.1≠x.2:=fun e=>h (by rw [e])
  simp [this]
 have hl:x.1.length=x.2.length:=by have:=of_decide_eq_false h; omega
 refine ⟨⟨hl,by omega,by omega,by simp⟩,fun i ⟨_,h0,h1,ht⟩=>⟨fun hlt=>?_,fun hge=>?_⟩⟩
 ·have hlt:i<x.1.length:=by simpa using hlt
  refine ⟨h0,hlt,h0,by omega,fun hne=>?_,fun he=>?_⟩
  ·have hne:x.1.getD i.toNat 0≠x.2.getD i.toNat 0:=by simpa using hne
   have:x.1≠x.2:=fun e=>hne (by rw [e])
   simp [this]
  ·have he:x.1.getD i.toNat 0=x.2.getD i.toNat 0:=by simpa using he
   have hb:x.1.length * 8≤bb:=hw.1.1
   unfold bb at hb
   refine ⟨by simp only [ao]; omega,⟨hl,by omega,by omega,?_⟩,by omega⟩
   rw [show (i+1).toNat=i.toNat+1 by omega]
   exact ks hl (by omega) ht he
 ·have hge:¬ i<x.1.length:=by simpa using hge
  have hi:i.toNat=x.1.length:=by omega
  rw [hi,List.take_of_length_le (Nat.le_refl _),List.take_of_length_le (by omega)] at ht
  simp [ht]
theorem nA:nq.ok Tryd.prog 17:=ce (ann:=n9) aI Tryd.func17 (by kernel_rfl) mb
def jT:Spec:={ Ts:=[.arr bT],Rs:=[.own 44 bT],pre:=fun _=>True,F:=fun (x:List Int)=>x }
def fi:Prop :=
  ∀ (x:List Int),(x.length * 8≤bb∧∀ (x_1:Int),x_1∈x→ao .u64 x_1)→True→(x=([]:List Int)→([]:List Int)=x∧True)∧(True→(0+x.length) * 8≤bb∧([]:List Int)++x=x∧True)
theorem iH:fi:=by
 unfold fi
 intro x ⟨hb,_⟩ _
 simp [hb]
theorem jY:jT.ok Tryd.prog 21:=ce (ann:=ko) aI Tryd.func21 (by kernel_rfl) iH
def ai (L at_ n:Int):Bool:=decide (0≤n)&&decide (0≤at_)&&decide (at_≤L)&&decide (n≤L - at_)
def jS:Spec:={ Ts:=[ar,ar,ar],Rs:=[.dat .bool],pre:=fun _=>True,F:=fun ((L,at_,n):Int×Int×Int)=>ai L at_ n }
def fh:Prop :=
  ∀ (x:Int×Int×Int),ao .i64 x.1∧ao .i64 x.2.1∧ao .i64 x.2.2→True→((decide (0≤x.2.2)&&decide (0≤x.2.1)&&decide (x.2.1≤x.1))=true→ao .i64 (x.1 - x.2.1))∧(decide (0≤x.2.2)&&decide (0≤x.2.1)&&decide (x.2.1≤x.1)&&decide (x.2.2≤x.1 - x.2.1))=ai x.1 x.2.1 x.2.2∧True
theorem iG:fh:=by
 unfold fh
 intro ⟨L,at_,n⟩ hw _
 simp only [ao,ai] at *
 grind
theorem jX:jS.ok Tryd.prog 15:=ce (ann:=ko) aI Tryd.func15 (by kernel_rfl) iG
theorem cI (L k n:Int):ai L k n=true ↔ 0≤n∧0≤k∧k≤L∧n≤L - k:=by
 simp [ai,and_assoc]
end Go.Proofs.YtcnoiiohmpgckaaDoor
