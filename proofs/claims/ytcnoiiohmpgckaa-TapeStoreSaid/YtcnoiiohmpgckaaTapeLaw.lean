
import Derived.Test.YtcnoiiohmpgckaaReadAgree
namespace Go.Proofs.Ytcnoiiohmpgckaa
open Go
set_option maxRecDepth 100000
set_option maxHeartbeats 1000000
def nR:Spec:=Aq [bY,.str]
def iy:Prop :=
  ∀ (x:(List Int×List Int×List (Int×Int)×List (Int×Bool×Int))×List UInt8),((x.1.1.length * 8≤aC∧∀ (x_1:Int),x_1∈x.1.1→am .u64 x_1)∧(x.1.2.1.length * 8≤aC∧∀ (x_1:Int),x_1∈x.1.2.1→am .i64 x_1)∧(x.1.2.2.1.length * (8+8)≤aC∧∀ (x_1:Int×Int),x_1∈x.1.2.2.1→am .i64 x_1.1∧am .i64 x_1.2)∧x.1.2.2.2.length * (8+(8+8))≤aC∧∀ (x_1:Int×Bool×Int),x_1∈x.1.2.2.2→am .i64 x_1.1∧True∧am .i64 x_1.2.2)∧x.2.length≤aC→((x.1.1.length * 8≤140737488351232∧∀ (x_1:Int),x_1∈x.1.1→dx bv x_1)∧(x.1.2.1.length * 8≤140737488351232∧∀ (x_1:Int),x_1∈x.1.2.1→dx ty_I x_1)∧(x.1.2.2.1.length * (8+8)≤140737488351232∧∀ (x_1:Int×Int),x_1∈x.1.2.2.1→dx bK x_1)∧x.1.2.2.2.length * (8+(8+8))≤140737488351232∧∀ (x_1:Int×Bool×Int),x_1∈x.1.2.2.2→dx bo x_1)∧x.2.length≤140737488351232→True∧True∧(decide (aH x.1=0)=true→(decide ((aZ x.1).2≠aH x.1)||decide (aH x.1≠0)&&decide ((aZ x.1).1≠([]:List UInt8)))=false→aH x.1=0)∧((decide ((aZ x.1).2≠aH x.1)||decide (aH x.1≠0)&&decide ((aZ x.1).1≠([]:List UInt8))||decide (aH x.1=0)&&decide ((aZ x.1).1≠jC x.1))=true→false=true∧True)∧((decide ((aZ x.1).2≠aH x.1)||decide (aH x.1≠0)&&decide ((aZ x.1).1≠([]:List UInt8))||decide (aH x.1=0)&&decide ((aZ x.1).1≠jC x.1))=false→(decide (1000<(↑x.2.length:Int))=true→true=true∧True)∧(decide (1000<(↑x.2.length:Int))=false→x.2.length≤1000∧x.2.length≤1000∧((!(aF x.2).2)=true→True∧(decide ((bA x.2).1=(([]:List Int),([]:List Int),([]:List (Int×Int)),([]:List (Int×Bool×Int))))&&decide ((bA x.2).2=3))=true∧True)∧((!(aF x.2).2)=false→(decide ((bA x.2).2=0)=true→True)∧(decide ((bA x.2).2=0)&&decide ((bA x.2).1=(aF x.2).1))=true∧True)))
theorem mh:iy:=by
 unfold iy
 intro ⟨s,b⟩ _ _
 simp only
 have hT:aZ s=if aH s≠0 then ([],aH s) else (jC s,0):=rfl
 have hbad:(decide ((aZ s).2≠aH s)||decide (aH s≠0)&&decide ((aZ s).1≠[])||decide (aH s=0)&&decide ((aZ s).1≠jC s))=false:=by
  rw [hT]
  by_cases h:aH s≠0
  ·rw [if_pos h]
   have h2:¬ aH s=0:=h
   simp [h2]
  ·rw [if_neg h]
   have h2:aH s=0:=by omega
   simp [h2]
 rw [hbad]
 refine ⟨trivial,trivial,fun h _=>of_decide_eq_true h,(fun h=>by cases h),fun _=>⟨fun _=>⟨by first | exact trivial | rfl,trivial⟩,fun hl=>?_⟩⟩
 have hl:b.length≤1000:=by have:=of_decide_eq_false hl; omega
 rw [xC b]
 refine ⟨hl,hl,fun h=>?_,fun h=>?_⟩
 ·rw [Bool.not_eq_true'] at h
  rw [if_neg (by rw [h]; simp)]
  exact ⟨trivial,by simp,trivial⟩
 ·rw [Bool.not_eq_false'] at h
  rw [if_pos h]
  exact ⟨fun _=>trivial,by simp,trivial⟩
theorem nT:nR.ok Try.prog 9:=aQ (ann:=ew) (ai tT (ai iW (ai rj (ai mE (ai rk (ai rn ax)))))) Try.func9 (by kernel_rfl) mh
end Go.Proofs.Ytcnoiiohmpgckaa
