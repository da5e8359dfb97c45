
import Derived.Test.YtcnoiiohmpgckaaReaches
import Derived.Test.YtcnoiiohmpgckaaConcats
import Derived.Test.YtcnoiiohmpgckaaLists
namespace Go.Proofs.Ytcnoiiohmpgckaa
open Go
set_option maxRecDepth 100000
set_option maxHeartbeats 1000000
theorem wg {a f:List Int} (hw:∀ x∈a,ai .u64 x):ed a [f]=cQ a f:=by
 unfold ed cQ
 rw [gF hw]
 by_cases h:(au a).2.2≠0
 ·rw [if_pos h,if_pos h]
 ·rw [if_neg h,if_neg h]
  have:([f].all fun l=>l.all (aI (ab (aa a).1)))=f.all (isB (aa a).1):=by
   simp only [List.all_cons,List.all_nil,Bool.and_true]
   congr 1
   funext x
   exact ce x _
  rw [this]
end Go.Proofs.Ytcnoiiohmpgckaa
