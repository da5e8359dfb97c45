
import Derived.Test.YtglchojglcobjaaGreatBase
import Derived.WalkKit
import Derived.KernelRfl
import Derived.Lib.AppendZeros
import Derived.Lib.AppendZerosOnto
import Derived.Lib.Overlaps
import Derived.Laws.Externs
import Derived.Laws.IdiomCopy
import Derived.Laws.CopyRow
import Derived.Shelf.RegionOpenPlain
import Derived.Shelf.Spec.SlicesInsert
import Derived.Deep.Upon
namespace Go.Proofs.YtglchojglcobjaaGreat
open Go Go.RowKit Go.Lib
def H0 {α:Type} (xs ys:List α) (i:Int):List α:=xs.take i.toNat++ys++xs.drop i.toNat
def H6 {α:Type} (xs:List α) (i j:Int):List α:=xs.take i.toNat++xs.drop j.toNat
end Go.Proofs.YtglchojglcobjaaGreat
