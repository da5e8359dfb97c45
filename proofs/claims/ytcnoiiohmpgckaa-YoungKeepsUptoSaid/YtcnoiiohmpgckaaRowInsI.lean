
import Derived.Test.YtcnoiiohmpgckaaRowSort
import Derived.Shelf.Spec.SlicesInsert
import Derived.Shelf.Spec.SlicesInsertGrow
import Derived.Laws.AppendOwn
import Derived.Maps.AppendAt
import Derived.Deep.Upon
namespace Go.Proofs.Ytcnoiiohmpgckaa
open Go
end Go.Proofs.Ytcnoiiohmpgckaa
