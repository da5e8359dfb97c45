
import Derived.Test.YtcnoiiohmpgckaaSlices
namespace Go.Proofs.Ytcnoiiohmpgckaa
open Go
set_option maxRecDepth 100000
set_option maxHeartbeats 1000000
def vY (a:List Int) (i:Nat):Int:=a.getD (i / 8) 0 / 256 ^ (i % 8) % 256
def vu (a:List Int) (n:Nat):List Int:=(List.range n).map (vY a)
def bytesOf (a:List Int):List Int:=vu a (8 * a.length)
end Go.Proofs.Ytcnoiiohmpgckaa
