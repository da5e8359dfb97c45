
import Derived.Test.YtcnoiiohmpgckaaWord
namespace Go.Proofs.Ytcnoiiohmpgckaa
open Go
set_option maxRecDepth 100000
set_option maxHeartbeats 1000000
end Go.Proofs.Ytcnoiiohmpgckaa
