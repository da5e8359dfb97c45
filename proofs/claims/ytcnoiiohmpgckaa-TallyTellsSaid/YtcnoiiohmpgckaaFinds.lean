
import Derived.Test.YtcnoiiohmpgckaaBase
namespace Go.Proofs.Ytcnoiiohmpgckaa
open Go
def ca {α:Type} (f:α→Bool):Int→List α→Int
 | _,[]=>-1
 | k,x::l=>if f x then k else ca f (k+1) l
theorem fU {α:Type} (f:α→Bool):∀ (l:List α) (k:Int),0≤k→(decide (0≤ca f k l)=l.any f)
 | [],_,_=>rfl
 | x::l,k,h=>by
  have ih:=fU f l (k+1) (by omega)
  simp only [ca,List.any_cons]
  by_cases hx:f x=true
  ·simp [hx,h]
  ·have hx:f x=false:=by simpa using hx
   simp only [hx,Bool.false_eq_true,if_false,Bool.false_or]
   exact ih
end Go.Proofs.Ytcnoiiohmpgckaa
