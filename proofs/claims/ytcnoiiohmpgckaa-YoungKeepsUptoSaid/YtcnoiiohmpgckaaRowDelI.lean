
import Derived.Test.YtcnoiiohmpgckaaRowK
namespace Go.Proofs.Ytcnoiiohmpgckaa
open Go Go.RowKit Go.Lib
end Go.Proofs.Ytcnoiiohmpgckaa
