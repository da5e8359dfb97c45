
import Derived.Test.YtglchojglcobjaaGreatRising
import Derived.Test.YtglchojglcobjaaGreatInts
namespace Go.Proofs.YtglchojglcobjaaGreat
open Go
set_option maxRecDepth 100000
set_option maxHeartbeats 1000000
def sp_isNaN2:Spec:={ Ts:=[ty_I],Rs:=[.dat .bool],pre:=fun _=>True,F:=fun _=>false }
def pv_isNaN2:Prop :=
  ∀ (x:Int),InR IntKind.i64 x→True→decide (x≠x)=false∧True
theorem vcp_isNaN2:pv_isNaN2:=by
 unfold pv_isNaN2
 intro x _ _
 simp
theorem e_isNaN2:pv_isNaN2=(fnVC Tryz.prog (tbl []) an_0 Tryz.f163 sp_isNaN2):=by kernel_rfl
theorem vc_isNaN2:fnVC Tryz.prog (tbl []) an_0 Tryz.f163 sp_isNaN2:=@Eq.mp _ _ @e_isNaN2 @vcp_isNaN2
theorem ok_isNaN2:sp_isNaN2.ok Tryz.prog 163:=fn_sound (P:=Tryz.prog) (ss:=tbl []) (ann:=an_0) (f:=163) (fn:=Tryz.f163) (s:=sp_isNaN2) tbl_nil Tryz.func163 @vc_isNaN2
def lowI (l:List Int) (x:Int):Int:=((l.filter fun y=>decide (y<x)).length:Int)
theorem low_is {l:List Int} {x:Int} {lo:Nat} (hlo:lo≤l.length) (h1:∀ j:Nat,j<lo→l.getD j 0<x) (h2:∀ j:Nat,lo≤j→j<l.length→x≤l.getD j 0):lowI l x=lo:=by
 unfold lowI
 have e:l.filter (fun y=>decide (y<x))=l.take lo:=by
  have e1:l=l.take lo++l.drop lo:=(List.take_append_drop lo l).symm
  have e2:(l.take lo).filter (fun y=>decide (y<x))=l.take lo:=by
   rw [List.filter_eq_self]
   intro y hy
   obtain ⟨j,hj,rfl⟩:=List.mem_iff_getElem.1 hy
   have hj2:j<lo∧j<l.length:=by simp at hj; omega
   have:=h1 j hj2.1
   rw [List.getD_eq_getElem?_getD,List.getElem?_eq_getElem hj2.2] at this
   simpa using this
  have e3:(l.drop lo).filter (fun y=>decide (y<x))=[]:=by
   rw [List.filter_eq_nil_iff]
   intro y hy
   obtain ⟨j,hj,rfl⟩:=List.mem_iff_getElem.1 hy
   have hj2:lo+j<l.length:=by simp at hj; omega
   have:=h2 (lo+j) (by omega) hj2
   rw [List.getD_eq_getElem?_getD,List.getElem?_eq_getElem hj2] at this
   simp at this ⊢
   omega
  conv=>lhs; rw [e1]
  rw [List.filter_append,e2,e3,List.append_nil]
 rw [e,List.length_take,Nat.min_eq_left hlo]
theorem low_in {l:List Int} {x:Int} {lo:Nat} (hs:l.Pairwise (·≤·)) (h1:∀ j:Nat,j<lo→l.getD j 0<x) (h2:∀ j:Nat,lo≤j→j<l.length→x≤l.getD j 0):inL l x=(decide (lo<l.length)&&decide (l.getD lo 0=x)):=by
 by_cases h:lo<l.length∧l.getD lo 0=x
 ·rw [decide_eq_true h.1,decide_eq_true h.2]
  refine inL_iff.2 ?_
  rw [← h.2,List.getD_eq_getElem?_getD,List.getElem?_eq_getElem h.1]
  simp
 ·have e:(decide (lo<l.length)&&decide (l.getD lo 0=x))=false:=by
   by_cases h3:lo<l.length
   ·by_cases h4:l.getD lo 0=x
    ·exact absurd ⟨h3,h4⟩ h
    ·rw [decide_eq_false h4,Bool.and_false]
   ·rw [decide_eq_false h3,Bool.false_and]
  rw [e]
  cases hx:inL l x
  ·rfl
  ·exfalso
   obtain ⟨j,hj,e2⟩:=List.mem_iff_getElem.1 (inL_iff.1 hx)
   have ej:l.getD j 0=x:=by rw [List.getD_eq_getElem?_getD,List.getElem?_eq_getElem hj]; simpa using e2
   rcases Nat.lt_or_ge j lo with hlt | hge
   ·have:=h1 j hlt; omega
   ·have hlo:lo<l.length:=by omega
    have h5:=h2 lo (Nat.le_refl _) hlo
    have h6:l.getD lo 0≤l.getD j 0:=by
     rcases Nat.lt_or_ge lo j with h7 | h7
     ·have:=List.pairwise_iff_getElem.1 hs lo j hlo hj h7
      rw [List.getD_eq_getElem?_getD,List.getElem?_eq_getElem hlo,List.getD_eq_getElem?_getD,List.getElem?_eq_getElem hj]
      simpa using this
     ·have:j=lo:=by omega
      subst this
      exact Int.le_refl _
    exact h ⟨hlo,by omega⟩
theorem sorted_getD {l:List Int} (hs:l.Pairwise (·≤·)) {i j:Nat} (h:i≤j) (hj:j<l.length):l.getD i 0≤l.getD j 0:=by
 rcases Nat.lt_or_ge i j with h7 | h7
 ·have:=List.pairwise_iff_getElem.1 hs i j (by omega) hj h7
  rw [List.getD_eq_getElem?_getD,List.getElem?_eq_getElem (show i<l.length by omega),List.getD_eq_getElem?_getD,List.getElem?_eq_getElem hj]
  simpa using this
 ·have:j=i:=by omega
  subst this
  exact Int.le_refl _
end Go.Proofs.YtglchojglcobjaaGreat
