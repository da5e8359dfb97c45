
import Derived.Test.YtcnoiiohmpgckaaFinds
import Derived.Test.YtcnoiiohmpgckaaSlices
namespace Go.Proofs.Ytcnoiiohmpgckaa
open Go
set_option maxRecDepth 100000
set_option maxHeartbeats 1000000
def p6:LoopGen:={ rd:=[],A:=fun _=>{ cs:=[],inv:=fun _=>True,mu:=fun _=>0 } }
end Go.Proofs.Ytcnoiiohmpgckaa
