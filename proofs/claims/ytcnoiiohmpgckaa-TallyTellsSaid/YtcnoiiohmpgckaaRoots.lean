
import Derived.Test.YtcnoiiohmpgckaaInts
import Derived.Test.YtcnoiiohmpgckaaRowSort
namespace Go.Proofs.Ytcnoiiohmpgckaa
open Go
set_option maxRecDepth 100000
set_option maxHeartbeats 1000000
def bv (l:List Int) (m:Nat):List Int:=((List.range m).map Int.ofNat).filter (bp l)
def rW:Nat→Option LoopGen
 | 3=>some { rd:=[.dat 0 (.arr ty_I)],A:=fun (l:List Int)=>{ cs:=[.own 3 3 ty_I,.dat 5 ty_I],inv:=fun ((out,i):List Int×Int)=>0≤i∧i≤256∧out=bv l i.toNat,mu:=fun ((_,i):List Int×Int)=>(256 - i).toNat } }
 | _=>none
def ri:Spec:={ Ts:=[.arr ty_I],Rs:=[.own 3 ty_I],pre:=fun _=>True,F:=fun (l:List Int)=>bv l 256 }
def lA:Prop :=
  ∀ (x:List Int),(x.length * 8≤aL∧∀ (x_1:Int),x_1∈x→aj .i64 x_1)→True→((0:Int)≤0∧(0:Int)≤256∧([]:List Int)=bv x (Int.toNat 0))∧∀ (x_1:List Int×Int),0≤x_1.2∧x_1.2≤256∧x_1.1=bv x x_1.2.toNat→(decide (x_1.2<256)=true→True∧(bp x x_1.2=true→(x_1.1.length+[x_1.2].length) * 8≤aL∧aj .i64 (x_1.2+1)∧(0≤x_1.2+1∧x_1.2+1≤256∧x_1.1++[x_1.2]=bv x (x_1.2+1).toNat)∧(256 - (x_1.2+1)).toNat<(256 - x_1.2).toNat)∧(bp x x_1.2=false→aj .i64 (x_1.2+1)∧(0≤x_1.2+1∧x_1.2+1≤256∧x_1.1=bv x (x_1.2+1).toNat)∧(256 - (x_1.2+1)).toNat<(256 - x_1.2).toNat))∧(decide (x_1.2<256)=false→x_1.1=bv x 256∧True)
theorem pG:lA:=by
 unfold lA
 intro l _ _
 refine ⟨⟨by omega,by omega,rfl⟩,fun ⟨out,i⟩ ⟨k0,k1,k2⟩=>?_⟩
 simp only at k0 k1 k2 ⊢
 have hs:bv l (i+1).toNat=if bp l i=true then out++[i] else out:=by
  rw [k2,show (i+1).toNat=i.toNat+1 by omega]
  simp only [bv,List.range_succ,List.map_append,List.map_cons,List.map_nil,List.filter_append]
  rw [show Int.ofNat i.toNat=i from Int.toNat_of_nonneg k0]
  cases hc:bp l i <;> simp [hc]
 have hl:out.length≤i.toNat:=by
  rw [k2,bv]
  refine Nat.le_trans (List.length_filter_le _ _) ?_
  simp
 refine ⟨fun hlt=>⟨trivial,fun hc=>?_,fun hc=>?_⟩,fun hge=>?_⟩
 ·have hlt:=of_decide_eq_true hlt
  rw [hc] at hs
  refine ⟨by simp only [List.length_singleton,aL]; omega,by simp only [aj]; omega,⟨by omega,by omega,?_⟩,by omega⟩
  rw [hs]; rfl
 ·have hlt:=of_decide_eq_true hlt
  rw [hc] at hs
  refine ⟨by simp only [aj]; omega,⟨by omega,by omega,?_⟩,by omega⟩
  rw [hs]; rfl
 ·have hge:=of_decide_eq_false hge
  rw [k2,show i.toNat=256 by omega]
  exact ⟨rfl,trivial⟩
theorem lG:ri.ok Try.prog 48:=bJ (ann:=rW) (ai lH aJ) Try.func48 (by kernel_rfl) pG
