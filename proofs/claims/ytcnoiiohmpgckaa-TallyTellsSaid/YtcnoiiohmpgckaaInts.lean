
import Derived.Test.YtcnoiiohmpgckaaFinds
import Derived.Test.YtcnoiiohmpgckaaSlices
namespace Go.Proofs.Ytcnoiiohmpgckaa
open Go
set_option maxRecDepth 100000
set_option maxHeartbeats 1000000
def dP:LoopGen:={ rd:=[],A:=fun _=>{ cs:=[],inv:=fun _=>True,mu:=fun _=>0 } }
def ep (l:List Int) (n:Int):Int:=ca (fun x=>decide (x=n)) 0 l
def tA:Nat→Option LoopGen
 | 2=>some { rd:=[.dat 7 (.arr ty_I),.dat 1 ty_I],A:=fun ((l,n):List Int×Int)=>{ cs:=[.dat 9 ty_I],inv:=fun (i:Int)=>0≤i∧i≤l.length∧ca (fun x=>decide (x=n)) i (l.drop i.toNat)=ep l n,mu:=fun (i:Int)=>(l.length - i).toNat } }
 | _=>none
def sQ:Spec:={ Ts:=[.arr ty_I,ty_I],Rs:=[.dat ty_I],pre:=fun _=>True,F:=fun ((l,n):List Int×Int)=>ep l n }
def nJ:Prop :=
  ∀ (x:List Int×Int),(x.1.length * 8≤aL∧∀ (x_1:Int),x_1∈x.1→aj .i64 x_1)∧aj .i64 x.2→True→((0:Int)≤0∧0≤(↑x.1.length:Int)∧ca (fun (x_1:Int)=>decide (x_1=x.2)) 0 (List.drop (Int.toNat 0) x.1)=ep x.1 x.2)∧∀ (x_1:Int),0≤x_1∧x_1≤(↑x.1.length:Int)∧ca (fun (x_2:Int)=>decide (x_2=x.2)) x_1 (List.drop x_1.toNat x.1)=ep x.1 x.2→(decide (x_1<(↑x.1.length:Int))=true→0≤x_1∧x_1<(↑x.1.length:Int)∧(decide (x.1.getD x_1.toNat 0=x.2)=true→x_1=ep x.1 x.2∧True)∧(decide (x.1.getD x_1.toNat 0=x.2)=false→aj .i64 (x_1+1)∧(0≤x_1+1∧x_1+1≤(↑x.1.length:Int)∧ca (fun (x_2:Int)=>decide (x_2=x.2)) (x_1+1) (List.drop (x_1+1).toNat x.1)=ep x.1 x.2)∧((↑x.1.length:Int) - (x_1+1)).toNat<((↑x.1.length:Int) - x_1).toNat))∧(decide (x_1<(↑x.1.length:Int))=false→(-1)=ep x.1 x.2∧True)
theorem q9:nJ:=by
 unfold nJ
 intro ⟨l,n⟩ ⟨⟨hb,_⟩,_⟩ _
 unfold aL at hb
 refine ⟨⟨by omega,by omega,rfl⟩,fun i ⟨h0,h1,h2⟩=>⟨fun hlt=>?_,fun hge=>?_⟩⟩
 ·have hlt:i<(l.length:Int):=by simpa using hlt
  simp only at *
  rw [aV (0:Int) h0 hlt] at h2
  simp only [ca] at h2
  simp only [aj]
  refine ⟨h0,hlt,fun hc=>?_,fun hc=>?_⟩
  ·rw [if_pos hc] at h2
   exact ⟨h2,trivial⟩
  ·rw [if_neg (by rw [hc]; simp)] at h2
   exact ⟨by omega,⟨by omega,by omega,h2⟩,by omega⟩
 ·rw [br (by simpa using hge)] at h2
  exact ⟨h2,trivial⟩
theorem s8:sQ.ok Try.prog 88:=bJ (ann:=tA) aJ Try.func88 (by kernel_rfl) q9
def bp (l:List Int) (n:Int):Bool:=l.any fun x=>decide (x=n)
def vO:Spec:={ Ts:=[.arr ty_I,ty_I],Rs:=[.dat .bool],pre:=fun _=>True,F:=fun ((l,n):List Int×Int)=>bp l n }
def tZ:Prop :=
  ∀ (x:List Int×Int),(x.1.length * 8≤aL∧∀ (x_1:Int),x_1∈x.1→aj .i64 x_1)∧aj .i64 x.2→True→True∧decide (0≤ep x.1 x.2)=bp x.1 x.2∧True
theorem uY:tZ:=by
 unfold tZ
 intro ⟨l,n⟩ _ _
 exact ⟨trivial,fU _ l 0 (by omega),trivial⟩
theorem lH:vO.ok Try.prog 34:=bJ (ann:=kM) (ai s8 aJ) Try.func34 (by kernel_rfl) uY
def u3:Spec:={ Ts:=[.arr ty_I,ty_I],Rs:=[.dat ty_I],pre:=fun _=>True,F:=fun ((l,v):List Int×Int)=>ep l v }
def vv:Nat→Option LoopGen
 | 2=>some { rd:=[.dat 0 (.arr ty_I),.dat 1 ty_I],A:=fun ((l,v):List Int×Int)=>{ cs:=[.dat 8 ty_I],inv:=fun (i:Int)=>0≤i∧i≤l.length∧ca (fun x=>decide (x=v)) i (l.drop i.toNat)=ep l v,mu:=fun (i:Int)=>(l.length - i).toNat } }
 | _=>none
def sd:Prop :=
  ∀ (x:List Int×Int),(x.1.length * 8≤aL∧∀ (x_1:Int),x_1∈x.1→aj .i64 x_1)∧aj .i64 x.2→True→((0:Int)≤0∧0≤(↑x.1.length:Int)∧ca (fun (x_1:Int)=>decide (x_1=x.2)) 0 (List.drop (Int.toNat 0) x.1)=ep x.1 x.2)∧∀ (x_1:Int),0≤x_1∧x_1≤(↑x.1.length:Int)∧ca (fun (x_2:Int)=>decide (x_2=x.2)) x_1 (List.drop x_1.toNat x.1)=ep x.1 x.2→(decide (x_1<(↑x.1.length:Int))=true→0≤x_1∧x_1<(↑x.1.length:Int)∧(decide (x.2=x.1.getD x_1.toNat 0)=true→x_1=ep x.1 x.2∧True)∧(decide (x.2=x.1.getD x_1.toNat 0)=false→aj .i64 (x_1+1)∧(0≤x_1+1∧x_1+1≤(↑x.1.length:Int)∧ca (fun (x_2:Int)=>decide (x_2=x.2)) (x_1+1) (List.drop (x_1+1).toNat x.1)=ep x.1 x.2)∧((↑x.1.length:Int) - (x_1+1)).toNat<((↑x.1.length:Int) - x_1).toNat))∧(decide (x_1<(↑x.1.length:Int))=false→(-1)=ep x.1 x.2∧True)
theorem tE:sd:=by
 unfold sd
 intro ⟨l,n⟩ ⟨⟨hb,_⟩,_⟩ _
 unfold aL at hb
 refine ⟨⟨by omega,by omega,rfl⟩,fun i ⟨h0,h1,h2⟩=>⟨fun hlt=>?_,fun hge=>?_⟩⟩
 ·have hlt:i<(l.length:Int):=by simpa using hlt
  simp only at *
  rw [aV (0:Int) h0 hlt] at h2
  simp only [ca] at h2
  simp only [aj]
  refine ⟨h0,hlt,fun hc=>?_,fun hc=>?_⟩
  ·rw [if_pos (decide_eq_true (of_decide_eq_true hc).symm)] at h2
   exact ⟨h2,trivial⟩
  ·rw [if_neg (fun e=>of_decide_eq_false hc (of_decide_eq_true e).symm)] at h2
   exact ⟨by omega,⟨by omega,by omega,h2⟩,by omega⟩
 ·rw [br (by simpa using hge)] at h2
  exact ⟨h2,trivial⟩
theorem ve:u3.ok Try.prog 146:=bJ (ann:=vv) aJ Try.func146 (by kernel_rfl) tE
def u4:Spec:={ Ts:=[.arr ty_I,ty_I],Rs:=[.dat .bool],pre:=fun _=>True,F:=fun ((l,v):List Int×Int)=>bp l v }
def se:Prop :=
  ∀ (x:List Int×Int),(x.1.length * 8≤aL∧∀ (x_1:Int),x_1∈x.1→aj .i64 x_1)∧aj .i64 x.2→True→True∧decide (0≤ep x.1 x.2)=bp x.1 x.2∧True
theorem tF:se:=by
 unfold se
 intro ⟨l,v⟩ _ _
 exact ⟨trivial,fU _ l 0 (by omega),trivial⟩
theorem vf:u4.ok Try.prog 85:=bJ (ann:=kM) (ai ve aJ) Try.func85 (by kernel_rfl) tF
end Go.Proofs.Ytcnoiiohmpgckaa
