
import Derived.Test.YtcnoiiohmpgckaaPlan
namespace Go.Proofs.Ytcnoiiohmpgckaa
open Go
set_option maxRecDepth 100000
set_option maxHeartbeats 1000000
theorem ik:∀ {l:List aN} {s e:Int},pk s e l→∀ x∈l,s≤x.1∧1≤ah x.2
 | [],_,_,_,x,h=>by cases h
 | y::l,s,e,⟨h1,h2,h3⟩,x,h=>by
  rcases List.mem_cons.1 h with rfl | h
  ·omega
  ·have:=ik h3 x h
   omega
theorem lX:∀ {l:List aN} {s e:Int},pk s e l→∀ x∈l,∀ y∈l,x.1<y.1→x.1+ah x.2≤y.1
 | [],_,_,_,x,h,_,_,_=>by cases h
 | z::l,s,e,⟨h1,h2,h3⟩,x,hx,y,hy,hlt=>by
  rcases List.mem_cons.1 hx with hx1 | hx1 <;> rcases List.mem_cons.1 hy with hy1 | hy1
  ·subst hx1; subst hy1; omega
  ·have:=ik h3 y hy1
   subst hx1; omega
  ·have:=ik h3 x hx1
   subst hy1; omega
  ·exact lX h3 x hx1 y hy1 hlt
end Go.Proofs.Ytcnoiiohmpgckaa
