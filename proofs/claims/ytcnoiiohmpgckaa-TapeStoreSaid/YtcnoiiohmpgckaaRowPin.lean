
import Derived.Test.YtcnoiiohmpgckaaRowK
import Derived.Test.YtcnoiiohmpgckaaPinPure
namespace Go.Proofs.Ytcnoiiohmpgckaa
open Go Go.RowKit Go.Lib
end Go.Proofs.Ytcnoiiohmpgckaa
