
import Derived.Test.YtcnoiiohmpgckaaWords
import Derived.Test.YtcnoiiohmpgckaaHead
namespace Go.Proofs.Ytcnoiiohmpgckaa
open Go
set_option maxRecDepth 100000
set_option maxHeartbeats 1000000
def dT (k:Int):List Int:=if 0<k then ep (0,k - 1,0,true)::List.replicate (k - 1).toNat 0 else []
end Go.Proofs.Ytcnoiiohmpgckaa
