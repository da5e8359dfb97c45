
import Derived.Test.YtcnoiiohmpgckaaSlide
namespace Go.Proofs.Ytcnoiiohmpgckaa
open Go
set_option maxRecDepth 100000
set_option maxHeartbeats 1000000
def vC (a keep pinned:List Int):List Int×Bool :=
 if (keep.all fun at_=>ws keep (di keep (keep.map (d5 (aa a).1)) pinned) (gn a at_))=true then
  (kN a keep (di keep (keep.map (d5 (aa a).1)) pinned) pinned (keep.map (d5 (aa a).1)) (dy a.length keep (keep.map (d5 (aa a).1)) pinned),true)
 else ([],false)
end Go.Proofs.Ytcnoiiohmpgckaa
