
import Derived.Test.YtcnoiiohmpgckaaSlidPure
import Derived.Test.YtcnoiiohmpgckaaGap
namespace Go.Proofs.Ytcnoiiohmpgckaa
open Go
end Go.Proofs.Ytcnoiiohmpgckaa
