
import Derived.Test.YtcnoiiohmpgckaaSlices
namespace Go.Proofs.Ytcnoiiohmpgckaa
open Go
set_option maxRecDepth 100000
set_option maxHeartbeats 1000000
def Cp (a:List Int) (i:Nat):Int:=a.getD (i / 8) 0 / 256 ^ (i % 8) % 256
def BQ (a:List Int) (n:Nat):List Int:=(List.range n).map (Cp a)
def bytesOf (a:List Int):List Int:=BQ a (8 * a.length)
def nums (s:List UInt8):List Int:=s.map fun b=>(b.toNat:Int)
end Go.Proofs.Ytcnoiiohmpgckaa
