
import Derived.Test.YtcnoiiohmpgckaaBase
import Derived.WalkKit
import Derived.KernelRfl
import Derived.Lib.AppendZeros
import Derived.Lib.AppendZerosOnto
import Derived.Lib.Overlaps
import Derived.Laws.Externs
import Derived.Laws.IdiomCopy
import Derived.Laws.CopyRow
import Derived.Shelf.RegionOpenPlain
import Derived.Shelf.Spec.SlicesInsert
import Derived.Deep.Upon
namespace Go.Proofs.Ytcnoiiohmpgckaa
open Go Go.RowKit Go.Lib
end Go.Proofs.Ytcnoiiohmpgckaa
