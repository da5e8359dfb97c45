
import Derived.Test.YtcnoiiohmpgckaaFinds
import Derived.Test.YtcnoiiohmpgckaaSlices
namespace Go.Proofs.Ytcnoiiohmpgckaa
open Go
set_option maxRecDepth 100000
set_option maxHeartbeats 1000000
def dU:LoopGen:={ rd:=[],A:=fun _=>{ cs:=[],inv:=fun _=>True,mu:=fun _=>0 } }
def kN (l:List Int) (n:Int):Int:=dR (fun x=>decide (x=n)) 0 l
def vo:Nat→Option LoopGen
 | 2=>some { rd:=[.dat 7 (.arr ty_I),.dat 1 ty_I],A:=fun ((l,n):List Int×Int)=>{ cs:=[.dat 9 ty_I],inv:=fun (i:Int)=>0≤i∧i≤l.length∧dR (fun x=>decide (x=n)) i (l.drop i.toNat)=kN l n,mu:=fun (i:Int)=>(l.length - i).toNat } }
 | _=>none
def uI:Spec:={ Ts:=[.arr ty_I,ty_I],Rs:=[.dat ty_I],pre:=fun _=>True,F:=fun ((l,n):List Int×Int)=>kN l n }
def oG:Prop :=
  ∀ (x:List Int×Int),(x.1.length * 8≤aI∧∀ (x_1:Int),x_1∈x.1→aj .i64 x_1)∧aj .i64 x.2→True→((0:Int)≤0∧0≤(↑x.1.length:Int)∧dR (fun (x_1:Int)=>decide (x_1=x.2)) 0 (List.drop (Int.toNat 0) x.1)=kN x.1 x.2)∧∀ (x_1:Int),0≤x_1∧x_1≤(↑x.1.length:Int)∧dR (fun (x_2:Int)=>decide (x_2=x.2)) x_1 (List.drop x_1.toNat x.1)=kN x.1 x.2→(decide (x_1<(↑x.1.length:Int))=true→0≤x_1∧x_1<(↑x.1.length:Int)∧(decide (x.1.getD x_1.toNat 0=x.2)=true→x_1=kN x.1 x.2∧True)∧(decide (x.1.getD x_1.toNat 0=x.2)=false→aj .i64 (x_1+1)∧(0≤x_1+1∧x_1+1≤(↑x.1.length:Int)∧dR (fun (x_2:Int)=>decide (x_2=x.2)) (x_1+1) (List.drop (x_1+1).toNat x.1)=kN x.1 x.2)∧((↑x.1.length:Int) - (x_1+1)).toNat<((↑x.1.length:Int) - x_1).toNat))∧(decide (x_1<(↑x.1.length:Int))=false→(-1)=kN x.1 x.2∧True)
theorem sB:oG:=by
 unfold oG
 intro ⟨l,n⟩ ⟨⟨hb,_⟩,_⟩ _
 unfold aI at hb
 refine ⟨⟨by omega,by omega,rfl⟩,fun i ⟨h0,h1,h2⟩=>⟨fun hlt=>?_,fun hge=>?_⟩⟩
 ·have hlt:i<(l.length:Int):=by simpa using hlt
  simp only at *
  rw [aS (0:Int) h0 hlt] at h2
  simp only [dR] at h2
  simp only [aj]
  refine ⟨h0,hlt,fun hc=>?_,fun hc=>?_⟩
  ·rw [if_pos hc] at h2
   exact ⟨h2,trivial⟩
  ·rw [if_neg (by rw [hc]; simp)] at h2
   exact ⟨by omega,⟨by omega,by omega,h2⟩,by omega⟩
 ·rw [bo (by simpa using hge)] at h2
  exact ⟨h2,trivial⟩
theorem uT:uI.ok Try.prog 88:=bg (ann:=vo) aD Try.func88 (by kernel_rfl) sB
def bA (l:List Int) (n:Int):Bool:=l.any fun x=>decide (x=n)
def xS:Spec:={ Ts:=[.arr ty_I,ty_I],Rs:=[.dat .bool],pre:=fun _=>True,F:=fun ((l,n):List Int×Int)=>bA l n }
def vS:Prop :=
  ∀ (x:List Int×Int),(x.1.length * 8≤aI∧∀ (x_1:Int),x_1∈x.1→aj .i64 x_1)∧aj .i64 x.2→True→True∧decide (0≤kN x.1 x.2)=bA x.1 x.2∧True
theorem wY:vS:=by
 unfold vS
 intro ⟨l,n⟩ _ _
 exact ⟨trivial,jw _ l 0 (by omega),trivial⟩
theorem mm:xS.ok Try.prog 34:=bg (ann:=gr) (ak uT aD) Try.func34 (by kernel_rfl) wY
end Go.Proofs.Ytcnoiiohmpgckaa
