
import Derived.Test.YtcnoiiohmpgckaaFinds
import Derived.Test.YtcnoiiohmpgckaaSlices
namespace Go.Proofs.Ytcnoiiohmpgckaa
open Go
set_option maxRecDepth 100000
set_option maxHeartbeats 1000000
def gv:LoopGen:={ rd:=[],A:=fun _=>{ cs:=[],inv:=fun _=>True,mu:=fun _=>0 } }
def d9 (l:List Int) (n:Int):Int:=ag (fun x=>decide (x=n)) 0 l
def z6:Nat→Option LoopGen
 | 2=>some { rd:=[.dat 7 (.arr ty_I),.dat 1 ty_I],A:=fun ((l,n):List Int×Int)=>{ cs:=[.dat 9 ty_I],inv:=fun (i:Int)=>0≤i∧i≤l.length∧ag (fun x=>decide (x=n)) i (l.drop i.toNat)=d9 l n,mu:=fun (i:Int)=>(l.length - i).toNat } }
 | _=>none
def za:Spec:={ Ts:=[.arr ty_I,ty_I],Rs:=[.dat ty_I],pre:=fun _=>True,F:=fun ((l,n):List Int×Int)=>d9 l n }
def sv:Prop :=
  ∀ (x:List Int×Int),(x.1.length * 8≤aC∧∀ (x_1:Int),x_1∈x.1→am .i64 x_1)∧am .i64 x.2→True→((0:Int)≤0∧0≤(↑x.1.length:Int)∧ag (fun (x_1:Int)=>decide (x_1=x.2)) 0 (List.drop (Int.toNat 0) x.1)=d9 x.1 x.2)∧∀ (x_1:Int),0≤x_1∧x_1≤(↑x.1.length:Int)∧ag (fun (x_2:Int)=>decide (x_2=x.2)) x_1 (List.drop x_1.toNat x.1)=d9 x.1 x.2→(decide (x_1<(↑x.1.length:Int))=true→0≤x_1∧x_1<(↑x.1.length:Int)∧(decide (x.1.getD x_1.toNat 0=x.2)=true→x_1=d9 x.1 x.2∧True)∧(decide (x.1.getD x_1.toNat 0=x.2)=false→am .i64 (x_1+1)∧(0≤x_1+1∧x_1+1≤(↑x.1.length:Int)∧ag (fun (x_2:Int)=>decide (x_2=x.2)) (x_1+1) (List.drop (x_1+1).toNat x.1)=d9 x.1 x.2)∧((↑x.1.length:Int) - (x_1+1)).toNat<((↑x.1.length:Int) - x_1).toNat))∧(decide (x_1<(↑x.1.length:Int))=false→(-1)=d9 x.1 x.2∧True)
theorem xd:sv:=by
 unfold sv
 intro ⟨l,n⟩ ⟨⟨hb,_⟩,_⟩ _
 unfold aC at hb
 refine ⟨⟨by omega,by omega,rfl⟩,fun i ⟨h0,h1,h2⟩=>⟨fun hlt=>?_,fun hge=>?_⟩⟩
 ·have hlt:i<(l.length:Int):=by simpa using hlt
  simp only at *
  rw [aY (0:Int) h0 hlt] at h2
  simp only [ag] at h2
  simp only [am]
  refine ⟨h0,hlt,fun hc=>?_,fun hc=>?_⟩
  ·rw [if_pos hc] at h2
   exact ⟨h2,trivial⟩
  ·rw [if_neg (by rw [hc]; simp)] at h2
   exact ⟨by omega,⟨by omega,by omega,h2⟩,by omega⟩
 ·rw [bt (by simpa using hge)] at h2
  exact ⟨h2,trivial⟩
theorem zx:za.ok Try.prog 88:=aQ (ann:=z6) ax Try.func88 (by kernel_rfl) xd
def dw (l:List Int) (n:Int):Bool:=l.any fun x=>decide (x=n)
def B9:Spec:={ Ts:=[.arr ty_I,ty_I],Rs:=[.dat .bool],pre:=fun _=>True,F:=fun ((l,n):List Int×Int)=>dw l n }
def Az:Prop :=
  ∀ (x:List Int×Int),(x.1.length * 8≤aC∧∀ (x_1:Int),x_1∈x.1→am .i64 x_1)∧am .i64 x.2→True→True∧decide (0≤d9 x.1 x.2)=dw x.1 x.2∧True
theorem Br:Az:=by
 unfold Az
 intro ⟨l,n⟩ _ _
 exact ⟨trivial,er _ l 0 (by omega),trivial⟩
theorem xI:B9.ok Try.prog 34:=aQ (ann:=ew) (ai zx ax) Try.func34 (by kernel_rfl) Br
def Ar:Spec:={ Ts:=[.arr ty_I,.fn ty_I .bool],Rs:=[.dat ty_I],pre:=fun ((l,g):List Int×(Int→Prop)×(Int→Bool))=>∀ s∈l,g.1 s,F:=fun ((l,g):List Int×(Int→Prop)×(Int→Bool))=>ag g.2 0 l }
def Bp:Nat→Option LoopGen
 | 2=>some { rd:=[.dat 0 (.arr ty_I),.dat 1 (.fn ty_I .bool)],A:=fun ((l,g):List Int×(Int→Prop)×(Int→Bool))=>{ cs:=[.dat 8 ty_I],inv:=fun (i:Int)=>0≤i∧i≤l.length∧ag g.2 i (l.drop i.toNat)=ag g.2 0 l,mu:=fun (i:Int)=>(l.length - i).toNat } }
 | _=>none
def vR:Prop :=
  ∀ (x:List Int×(Int→Prop)×(Int→Bool)),(x.1.length * 8≤aC∧∀ (x_1:Int),x_1∈x.1→am .i64 x_1)∧True→(∀ (s:Int),s∈x.1→x.2.1 s)→((0:Int)≤0∧0≤(↑x.1.length:Int)∧ag x.2.2 0 (List.drop (Int.toNat 0) x.1)=ag x.2.2 0 x.1)∧∀ (x_1:Int),0≤x_1∧x_1≤(↑x.1.length:Int)∧ag x.2.2 x_1 (List.drop x_1.toNat x.1)=ag x.2.2 0 x.1→(decide (x_1<(↑x.1.length:Int))=true→0≤x_1∧x_1<(↑x.1.length:Int)∧x.2.1 (x.1.getD x_1.toNat 0)∧(x.2.2 (x.1.getD x_1.toNat 0)=true→x_1=ag x.2.2 0 x.1∧True)∧(x.2.2 (x.1.getD x_1.toNat 0)=false→am .i64 (x_1+1)∧(0≤x_1+1∧x_1+1≤(↑x.1.length:Int)∧ag x.2.2 (x_1+1) (List.drop (x_1+1).toNat x.1)=ag x.2.2 0 x.1)∧((↑x.1.length:Int) - (x_1+1)).toNat<((↑x.1.length:Int) - x_1).toNat))∧(decide (x_1<(↑x.1.length:Int))=false→(-1)=ag x.2.2 0 x.1∧True)
theorem yX:vR:=by
 unfold vR
 intro ⟨l,g⟩ ⟨⟨hl,_⟩,_⟩ hp
 unfold aC at *
 refine ⟨⟨by omega,by omega,by simp⟩,fun i ⟨h0,h1,h2⟩=>⟨fun hlt=>?_,fun hge=>?_⟩⟩
 ·have hlt:i<(l.length:Int):=by simpa using hlt
  have e:=aY (0:Int) h0 hlt
  have hm:=hp _ (aU (0:Int) h0 hlt)
  simp only at *
  rw [e] at h2
  simp only [ag] at h2
  refine ⟨h0,hlt,hm,fun hc=>?_,fun hc=>?_⟩
  ·rw [if_pos hc] at h2
   exact ⟨h2,trivial⟩
  ·rw [if_neg (by rw [hc]; simp)] at h2
   exact ⟨by simp only [am]; omega,⟨by omega,by omega,h2⟩,by omega⟩
 ·rw [bt (by simpa using hge)] at h2
  exact ⟨h2,trivial⟩
theorem v6:Ar.ok Try.prog 153:=aQ (ann:=Bp) ax Try.func153 (by kernel_rfl) yX
def Bx:Spec:={ Ts:=[.arr ty_I,.fn ty_I .bool],Rs:=[.dat .bool],pre:=fun ((l,g):List Int×(Int→Prop)×(Int→Bool))=>∀ s∈l,g.1 s,F:=fun ((l,g):List Int×(Int→Prop)×(Int→Bool))=>l.any g.2 }
def yu:Prop :=
  ∀ (x:List Int×(Int→Prop)×(Int→Bool)),(x.1.length * 8≤aC∧∀ (x_1:Int),x_1∈x.1→am .i64 x_1)∧True→(∀ (s:Int),s∈x.1→x.2.1 s)→(∀ (s:Int),s∈x.1→x.2.1 s)∧decide (0≤ag x.2.2 0 x.1)=x.1.any x.2.2∧True
theorem Ad:yu:=by
 unfold yu
 intro ⟨l,g⟩ _ hp
 exact ⟨hp,er _ l 0 (by omega),trivial⟩
theorem BE:Bx.ok Try.prog 108:=aQ (ann:=ew) (ai v6 ax) Try.func108 (by kernel_rfl) Ad
def dd:List Int→Bool
 | x::y::l=>decide (x<y)&&dd (y::l)
 | _=>true
end Go.Proofs.Ytcnoiiohmpgckaa
