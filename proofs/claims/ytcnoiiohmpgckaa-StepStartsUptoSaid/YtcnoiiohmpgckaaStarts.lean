
import Derived.Test.YtcnoiiohmpgckaaTris
import Derived.Test.YtcnoiiohmpgckaaReaches
import Derived.Test.YtcnoiiohmpgckaaSeqVal
import Derived.Test.YtcnoiiohmpgckaaRising
namespace Go.Proofs.Ytcnoiiohmpgckaa
open Go
set_option maxRecDepth 100000
set_option maxHeartbeats 1000000
def dm (a f:List Int):sd×Int:=if aH a f≠0 then (([],[],[]),aH a f) else ((a,eg (br f),[]),0)
theorem sJ (a f:List Int):(bj a f).2=aH a f:=by
 unfold bj
 split
 ·rfl
 ·rename_i h; simp only; omega
theorem nK {a f:List Int} (h:aH a f=0):eg (br f)=bi f 256:=by
 unfold aH at h
 split at h
 ·rename_i h1; exact absurd h h1
 split at h
 ·rename_i h2
  have hs:=jZ (eX f)
  refine sF hs.1 fun x=>?_
  rw [hs.2,iT]
  refine ⟨fun hx=>?_,fun hx=>hx.2.2⟩
  have:=eQ (List.all_eq_true.1 h2 x hx)
  exact ⟨by omega,by omega,hx⟩
 ·cases h
def nN:Spec:={ Ts:=[.arr bZ,.arr ty_I],Rs:=[.dat dk,.dat ty_I],al:=true,pre:=fun _=>True,F:=fun ((a,f):List Int×List Int)=>dm a f }
def ic:Prop :=
  ∀ (x:List Int×List Int),((x.1.length * 8≤aE∧∀ (x_1:Int),x_1∈x.1→ah .u64 x_1)∧x.2.length * 8≤aE∧∀ (x_1:Int),x_1∈x.2→ah .i64 x_1)→True→True∧(decide ((bj x.1 x.2).2≠0)=true→(([]:List Int),([]:List Int),([]:List Int))=(dm x.1 x.2).1∧(bj x.1 x.2).2=(dm x.1 x.2).2∧True)∧(decide ((bj x.1 x.2).2≠0)=false→True∧True∧True∧True∧(x.1,eg (br ((fun (_:Unit)=>True,fun (x_1:Unit)=>x.2).2 ())),([]:List Int))=(dm x.1 x.2).1∧0=(dm x.1 x.2).2∧True)
theorem lO:ic:=by
 unfold ic
 intro ⟨a,f⟩ _ _
 simp only [sJ,dm]
 refine ⟨trivial,fun h=>?_,fun h=>⟨trivial,trivial,trivial,trivial,?_⟩⟩
 ·rw [if_pos (of_decide_eq_true h)]
  exact ⟨rfl,rfl,trivial⟩
 ·rw [if_neg (of_decide_eq_false h)]
  exact ⟨rfl,rfl,trivial⟩
theorem n6:nN.ok Try.prog 44:=aQ (ann:=eV) (af tI (af mj (af qQ (af qT (rB pK au))))) Try.func44 (by kernel_rfl) lO
def iS:Spec:=rC [.arr bZ,.arr ty_I,dk]
def eO:Prop :=
  ∀ (x:List Int×List Int×List Int×List Int×List Int),((x.1.length * 8≤aE∧∀ (x_1:Int),x_1∈x.1→ah .u64 x_1)∧(x.2.1.length * 8≤aE∧∀ (x_1:Int),x_1∈x.2.1→ah .i64 x_1)∧(x.2.2.1.length * 8≤aE∧∀ (x_1:Int),x_1∈x.2.2.1→ah .u64 x_1)∧(x.2.2.2.1.length * 8≤aE∧∀ (x_1:Int),x_1∈x.2.2.2.1→ah .i64 x_1)∧x.2.2.2.2.length * 8≤aE∧∀ (x_1:Int),x_1∈x.2.2.2.2→ah .i64 x_1)→(((x.1.length * 8≤140737488351232∧∀ (x_1:Int),x_1∈x.1→cp bZ x_1)∧(x.2.1.length * 8≤140737488351232∧∀ (x_1:Int),x_1∈x.2.1→cp ty_I x_1)∧(x.2.2.1.length * 8≤140737488351232∧∀ (x_1:Int),x_1∈x.2.2.1→cp bZ x_1)∧(x.2.2.2.1.length * 8≤140737488351232∧∀ (x_1:Int),x_1∈x.2.2.2.1→cp ty_I x_1)∧x.2.2.2.2.length * 8≤140737488351232∧∀ (x_1:Int),x_1∈x.2.2.2.2→cp ty_I x_1)∧(x.1.length≤1048576∧∀ (x_1:Int),x_1∈x.1→bF 1048576 bZ x_1)∧(x.2.1.length≤1048576∧∀ (x_1:Int),x_1∈x.2.1→bF 1048576 ty_I x_1)∧(x.2.2.1.length≤1048576∧∀ (x_1:Int),x_1∈x.2.2.1→bF 1048576 bZ x_1)∧(x.2.2.2.1.length≤1048576∧∀ (x_1:Int),x_1∈x.2.2.2.1→bF 1048576 ty_I x_1)∧x.2.2.2.2.length≤1048576∧∀ (x_1:Int),x_1∈x.2.2.2.2→bF 1048576 ty_I x_1)→True∧(x.2.2.2.1.length+x.2.2.2.2.length) * 8≤140737488355328∧True∧(decide (eK x.2.2≠eK x.2.2)=true→false=true∧True)∧(decide (eK x.2.2≠eK x.2.2)=false→True∧(decide (eb x.1 [x.2.1]≠0)=true→True∧(decide ((dm x.1 x.2.1).1=(([]:List Int),([]:List Int),([]:List Int)))&&decide ((dm x.1 x.2.1).2=eb x.1 [x.2.1]))=true∧True)∧(decide (eb x.1 [x.2.1]≠0)=false→(decide ((dm x.1 x.2.1).2=0)=true→True)∧(decide ((dm x.1 x.2.1).2=0)=true→True)∧(decide ((dm x.1 x.2.1).2=0)&&decide ((dm x.1 x.2.1).1=(x.1,bi x.2.1 256,([]:List Int))))=true∧True))
theorem gV:eO:=by
 unfold eO
 intro ⟨a,f,t⟩ ⟨⟨_,hw⟩,_⟩ ⟨_,_,_,_,⟨hg,_⟩,hb,_⟩
 simp only at hg hb hw ⊢
 rw [pU hw]
 have hS:dm a f=if aH a f≠0 then (([],[],[]),aH a f) else ((a,eg (br f),[]),0):=rfl
 refine ⟨trivial,by omega,trivial,fun h=>by simp at h,fun _=>⟨trivial,fun h=>?_,fun h=>⟨fun _=>trivial,fun _=>trivial,?_⟩⟩⟩
 ·rw [if_pos (of_decide_eq_true h)] at hS
  simp [hS]
 ·have h:aH a f=0:=by simpa using of_decide_eq_false h
  rw [if_neg (by omega),nK h] at hS
  simp [hS]
theorem i9:iS.ok Try.prog 7:=aQ (ann:=eV) (af n6 (af sM (af uK (af pH (af pG (af qU au)))))) Try.func7 (by kernel_rfl) gV
end Go.Proofs.Ytcnoiiohmpgckaa
