
import Derived.Test.YtglchojglcobjaaGreatRising
import Derived.Test.YtglchojglcobjaaGreatInts
namespace Go.Proofs.YtglchojglcobjaaGreat
open Go
set_option maxRecDepth 100000
set_option maxHeartbeats 1000000
def HY (l:List Int) (x:Int):Int:=((l.filter fun y=>decide (y<x)).length:Int)
end Go.Proofs.YtglchojglcobjaaGreat
