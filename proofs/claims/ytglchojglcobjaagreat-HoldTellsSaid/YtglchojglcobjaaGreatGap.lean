
import Derived.Test.YtglchojglcobjaaGreatSlices
namespace Go.Proofs.YtglchojglcobjaaGreat
open Go
set_option maxRecDepth 100000
set_option maxHeartbeats 1000000
end Go.Proofs.YtglchojglcobjaaGreat
