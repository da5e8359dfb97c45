
import Derived.Test.YtcnoiiohmpgckaaInts
import Derived.Test.YtcnoiiohmpgckaaRowSort
namespace Go.Proofs.Ytcnoiiohmpgckaa
open Go
set_option maxRecDepth 100000
set_option maxHeartbeats 1000000
def bT (l:List Int) (m:Nat):List Int:=((List.range m).map Int.ofNat).filter (bA l)
def tQ:Nat→Option LoopGen
 | 3=>some { rd:=[.dat 0 (.arr ty_I)],A:=fun (l:List Int)=>{ cs:=[.own 3 3 ty_I,.dat 5 ty_I],inv:=fun ((out,i):List Int×Int)=>0≤i∧i≤256∧out=bT l i.toNat,mu:=fun ((_,i):List Int×Int)=>(256 - i).toNat } }
 | _=>none
def sJ:Spec:={ Ts:=[.arr ty_I],Rs:=[.own 3 ty_I],pre:=fun _=>True,F:=fun (l:List Int)=>bT l 256 }
def mc:Prop :=
  ∀ (x:List Int),(x.length * 8≤aI∧∀ (x_1:Int),x_1∈x→aj .i64 x_1)→True→((0:Int)≤0∧(0:Int)≤256∧([]:List Int)=bT x (Int.toNat 0))∧∀ (x_1:List Int×Int),0≤x_1.2∧x_1.2≤256∧x_1.1=bT x x_1.2.toNat→(decide (x_1.2<256)=true→True∧(bA x x_1.2=true→(x_1.1.length+[x_1.2].length) * 8≤aI∧aj .i64 (x_1.2+1)∧(0≤x_1.2+1∧x_1.2+1≤256∧x_1.1++[x_1.2]=bT x (x_1.2+1).toNat)∧(256 - (x_1.2+1)).toNat<(256 - x_1.2).toNat)∧(bA x x_1.2=false→aj .i64 (x_1.2+1)∧(0≤x_1.2+1∧x_1.2+1≤256∧x_1.1=bT x (x_1.2+1).toNat)∧(256 - (x_1.2+1)).toNat<(256 - x_1.2).toNat))∧(decide (x_1.2<256)=false→x_1.1=bT x 256∧True)
theorem qI:mc:=by
 unfold mc
 intro l _ _
 refine ⟨⟨by omega,by omega,rfl⟩,fun ⟨out,i⟩ ⟨k0,k1,k2⟩=>?_⟩
 simp only at k0 k1 k2 ⊢
 have hs:bT l (i+1).toNat=if bA l i=true then out++[i] else out:=by
  rw [k2,show (i+1).toNat=i.toNat+1 by omega]
  simp only [bT,List.range_succ,List.map_append,List.map_cons,List.map_nil,List.filter_append]
  rw [show Int.ofNat i.toNat=i from Int.toNat_of_nonneg k0]
  cases hc:bA l i <;> simp [hc]
 have hl:out.length≤i.toNat:=by
  rw [k2,bT]
  refine Nat.le_trans (List.length_filter_le _ _) ?_
  simp
 refine ⟨fun hlt=>⟨trivial,fun hc=>?_,fun hc=>?_⟩,fun hge=>?_⟩
 ·have hlt:=of_decide_eq_true hlt
  rw [hc] at hs
  refine ⟨by simp only [List.length_singleton,aI]; omega,by simp only [aj]; omega,⟨by omega,by omega,?_⟩,by omega⟩
  rw [hs]; rfl
 ·have hlt:=of_decide_eq_true hlt
  rw [hc] at hs
  refine ⟨by simp only [aj]; omega,⟨by omega,by omega,?_⟩,by omega⟩
  rw [hs]; rfl
 ·have hge:=of_decide_eq_false hge
  rw [k2,show i.toNat=256 by omega]
  exact ⟨rfl,trivial⟩
theorem s9:sJ.ok Try.prog 48:=bg (ann:=tQ) (ak mm aD) Try.func48 (by kernel_rfl) qI
