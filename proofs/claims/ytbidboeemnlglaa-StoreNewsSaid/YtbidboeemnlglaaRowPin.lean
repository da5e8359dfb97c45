/- slices.Insert and slices.Delete at api.Pin. -/
import Derived.Test.YtbidboeemnlglaaRowK
import Derived.Test.YtbidboeemnlglaaPinPure
namespace Go.Proofs.Ytbidboeemnlglaa
open Go Go.RowKit Go.Lib

end Go.Proofs.Ytbidboeemnlglaa
