
import Derived.Test.YtcnoiiohmpgckaaSearch
namespace Go.Proofs.Ytcnoiiohmpgckaa
open Go
abbrev bK:Ty:=.pair ty_I ty_I
abbrev fq:=Int×Int
def fX (x:fq):Bool:=decide (x.1<0)||decide (255<x.1)||decide (x.2<1)||decide (1000000<x.2)
def bu:Int→List fq→Int
 | _,[]=>0
 | q,x::l=>if fX x=true then 4 else if x.1≤q then 3 else bu x.1 l
def be (p:List fq):Int:=if 16<p.length then 2 else bu (-1) p
def ahead (p:List fq) (i:Int):Int:=if 0<i then (p.getD (i - 1).toNat (0,0)).1 else -1
theorem pu:∀ {p:List fq} {q:Int},bu q p=0→p.Pairwise (fun x y=>x.1<y.1)∧(∀ x∈p,q<x.1∧0≤x.1∧x.1≤255∧1≤x.2∧x.2≤1000000)
 | [],_,_=>⟨List.Pairwise.nil,fun _ h=>by cases h⟩
 | x::l,q,h=>by
  unfold bu at h
  split at h
  ·omega
  ·rename_i hb
   split at h
   ·omega
   ·rename_i hq
    obtain ⟨h1,h2⟩:=pu h
    have hb:fX x=false:=by simpa using hb
    simp only [fX,Bool.or_eq_false_iff,decide_eq_false_iff_not] at hb
    refine ⟨List.pairwise_cons.2 ⟨fun y hy=>(h2 y hy).1,h1⟩,fun y hy=>?_⟩
    rcases List.mem_cons.1 hy with rfl | hy
    ·omega
    ·have:=h2 y hy; omega
theorem yx {p:List fq} (h:be p=0):p.length≤16∧p.Pairwise (fun x y=>x.1<y.1)∧∀ x∈p,0≤x.1∧x.1≤255∧1≤x.2∧x.2≤1000000:=by
 unfold be at h
 split at h
 ·omega
 ·obtain ⟨h1,h2⟩:=pu h
  exact ⟨by omega,h1,fun x hx=>(h2 x hx).2⟩
end Go.Proofs.Ytcnoiiohmpgckaa
