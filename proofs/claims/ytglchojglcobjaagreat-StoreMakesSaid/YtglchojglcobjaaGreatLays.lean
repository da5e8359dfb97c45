
import Derived.Test.YtglchojglcobjaaGreatWords
import Derived.Test.YtglchojglcobjaaGreatHead
namespace Go.Proofs.YtglchojglcobjaaGreat
open Go
set_option maxRecDepth 100000
set_option maxHeartbeats 1000000
def refWord (bs:List Int) (k:Int):Int:=if k=-1 then 0 else bs.getD k.toNat 0+1
def dC (k:Int):List Int:=if 0<k then aR (0,k - 1,0,true)::List.replicate (k - 1).toNat 0 else []
end Go.Proofs.YtglchojglcobjaaGreat
