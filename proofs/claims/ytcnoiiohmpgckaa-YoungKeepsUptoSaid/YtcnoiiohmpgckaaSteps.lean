
import Derived.Test.YtcnoiiohmpgckaaTris
import Derived.Test.YtcnoiiohmpgckaaYoungs
import Derived.Test.YtcnoiiohmpgckaaPutPure
import Derived.Test.YtcnoiiohmpgckaaSearch
import Derived.Test.YtcnoiiohmpgckaaRowInsI
import Derived.Test.YtcnoiiohmpgckaaRowDelI
import Derived.Test.YtcnoiiohmpgckaaRoots
namespace Go.Proofs.Ytcnoiiohmpgckaa
open Go
set_option maxRecDepth 100000
set_option maxHeartbeats 1000000
structure GoodR (l:List Int):Prop where
 rise:l.Pairwise (·<·)
 range:∀ y∈l,0≤y∧y≤255
theorem GoodR.len {l:List Int} (h:GoodR l):l.length≤256:=cP (h.rise.imp fun h=>by omega) h.range
end Go.Proofs.Ytcnoiiohmpgckaa
