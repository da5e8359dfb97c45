
import Derived.Test.YtcnoiiohmpgckaaCames
import Derived.Test.YtcnoiiohmpgckaaRObjects
import Derived.Test.YtcnoiiohmpgckaaLists
import Derived.Test.YtcnoiiohmpgckaaSlices
import Derived.Test.YtcnoiiohmpgckaaWords
namespace Go.Proofs.Ytcnoiiohmpgckaa
open Go
set_option maxRecDepth 100000
set_option maxHeartbeats 1000000
end Go.Proofs.Ytcnoiiohmpgckaa
