
import Derived.Test.YtcnoiiohmpgckaaForms
import Derived.Test.YtcnoiiohmpgckaaPlan
import Derived.Test.YtcnoiiohmpgckaaLays
namespace Go.Proofs.Ytcnoiiohmpgckaa
open Go
def x8 (a:List Int) (x:Int):Int:=xl (aa a).1 x
def cS (a:List Int):List Int→Int
 | []=>0
 | x::l=>x8 a x+cS a l
theorem tp (a:List Int) (x:Int):1≤x8 a x∧x8 a x≤256:=yg a x
theorem kX (a:List Int):∀ (l k:List Int),cS a (l++k)=cS a l+cS a k
 | [],k=>by simp [cS]
 | x::l,k=>by
  have:=kX a l k
  simp only [List.cons_append,cS]
  omega
theorem o6 (a l:List Int) (x:Int):cS a (l++[x])=cS a l+x8 a x:=by rw [kX]; simp [cS]
theorem iN (a:List Int):∀ l:List Int,(l.length:Int)≤cS a l∧cS a l≤256 * l.length
 | []=>by simp [cS]
 | x::l=>by
  have:=iN a l
  have:=tp a x
  simp only [cS,List.length_cons]
  omega
structure Carr (a o:List Int):Prop where
 nodup:o.Nodup
 isB:∀ x∈o,isB (aa a).1 x=true
 refs:∀ x∈o,∀ v∈dg a x,v=0∨(1≤v∧v≤256∧v - 1∈o)
 head:∀ x∈o,wk (ft a x)=a.getD x.toNat 0
end Go.Proofs.Ytcnoiiohmpgckaa
