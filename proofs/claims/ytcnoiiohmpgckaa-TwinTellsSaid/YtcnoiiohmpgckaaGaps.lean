
import Derived.Test.YtcnoiiohmpgckaaWalks
namespace Go.Proofs.Ytcnoiiohmpgckaa
open Go
set_option maxRecDepth 100000
set_option maxHeartbeats 1000000
abbrev ty_Gap : Ty := .pair ty_I ty_I
abbrev Gap := Int × Int
end Go.Proofs.Ytcnoiiohmpgckaa
