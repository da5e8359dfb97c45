
import Derived.Test.YtcnoiiohmpgckaaSearch
import Derived.Test.YtcnoiiohmpgckaaRowInsI
import Derived.Test.YtcnoiiohmpgckaaRising
import Derived.Test.YtcnoiiohmpgckaaInts
namespace Go.Proofs.Ytcnoiiohmpgckaa
open Go
end Go.Proofs.Ytcnoiiohmpgckaa
