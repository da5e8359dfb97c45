
import Derived.Test.YtglchojglcobjaaGreatRowK
import Derived.Test.YtglchojglcobjaaGreatPinPure
namespace Go.Proofs.YtglchojglcobjaaGreat
open Go Go.RowKit Go.Lib
end Go.Proofs.YtglchojglcobjaaGreat
