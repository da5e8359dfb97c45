
import Derived.Test.YtcnoiiohmpgckaaWalks
import Derived.Test.YtcnoiiohmpgckaaInts
namespace Go.Proofs.Ytcnoiiohmpgckaa
open Go
set_option maxRecDepth 100000
set_option maxHeartbeats 1000000
def nameOf (v : Int) : Int := (if 256 < v then 9999 else v) - 1
end Go.Proofs.Ytcnoiiohmpgckaa
