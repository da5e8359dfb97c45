
import Derived.Test.YtcnoiiohmpgckaaBase
namespace Go.Proofs.Ytcnoiiohmpgckaa
open Go
end Go.Proofs.Ytcnoiiohmpgckaa
