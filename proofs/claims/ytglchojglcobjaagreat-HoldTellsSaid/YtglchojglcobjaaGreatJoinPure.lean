
import Derived.Test.YtglchojglcobjaaGreatSlidPure
import Derived.Test.YtglchojglcobjaaGreatGap
namespace Go.Proofs.YtglchojglcobjaaGreat
open Go
end Go.Proofs.YtglchojglcobjaaGreat
