
import Derived.Test.YtcnoiiohmpgckaaBase
namespace Go.Proofs.Ytcnoiiohmpgckaa
open Go
set_option maxRecDepth 100000
set_option maxHeartbeats 1000000
theorem jo {α:Type} {a b:List α} {z:α} {i:Nat} (hl:a.length=b.length) (hi:i<a.length) (ht:a.take i=b.take i) (he:a.getD i z=b.getD i z):a.take (i+1)=b.take (i+1):=by
 rw [List.take_succ_eq_append_getElem hi,List.take_succ_eq_append_getElem (by omega),ht]
 have h1:a.getD i z=a[i]:=by simp [hi]
 have h2:b.getD i z=b[i]'(by omega):=by simp [show i<b.length by omega]
 rw [← h1,← h2,he]
end Go.Proofs.Ytcnoiiohmpgckaa
