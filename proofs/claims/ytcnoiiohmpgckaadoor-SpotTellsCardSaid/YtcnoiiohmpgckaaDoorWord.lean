
import Derived.Test.YtcnoiiohmpgckaaDoorSlices
namespace Go.Proofs.YtcnoiiohmpgckaaDoor
open Go
set_option maxRecDepth 100000
set_option maxHeartbeats 1000000
def rI (a:List Int) (i:Nat):Int:=a.getD (i / 8) 0 / 256 ^ (i % 8) % 256
def rf (a:List Int) (n:Nat):List Int:=(List.range n).map (rI a)
def bytesOf (a:List Int):List Int:=rf a (8 * a.length)
end Go.Proofs.YtcnoiiohmpgckaaDoor
