
import Derived.Test.YtcnoiiohmpgckaaFinds
import Derived.Test.YtcnoiiohmpgckaaSlices
namespace Go.Proofs.Ytcnoiiohmpgckaa
open Go
set_option maxRecDepth 100000
set_option maxHeartbeats 1000000
def an_in : LoopGen := { rd := [], A := fun _ => { cs := [], inv := fun _ => True, mu := fun _ => 0 } }
def place (l : List Int) (n : Int) : Int := findFrom (fun x => decide (x = n)) 0 l
end Go.Proofs.Ytcnoiiohmpgckaa
