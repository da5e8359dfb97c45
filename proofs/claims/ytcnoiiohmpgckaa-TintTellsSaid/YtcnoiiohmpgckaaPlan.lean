
import Derived.Test.YtcnoiiohmpgckaaLists
import Derived.Test.YtcnoiiohmpgckaaGapsSame
namespace Go.Proofs.Ytcnoiiohmpgckaa
open Go
set_option maxRecDepth 100000
set_option maxHeartbeats 1000000
def xl (l:List aJ) (at_:Int):Int:=af (ac at_ l).1
def xr (pinned keep long:List Int):Nat→Int
 | 0=>0
 | i+1=>(if bA pinned (keep.getD i 0)=true then keep.getD i 0 else xr pinned keep long i)+long.getD i 0
def yw (pinned keep long:List Int) (i:Nat):Int:=if bA pinned (keep.getD i 0)=true then keep.getD i 0 else xr pinned keep long i
def xd (keep long:List Int):Prop:=long.length=keep.length∧keep.length≤256∧(∀ x∈keep,0≤x∧x≤255)∧∀ n∈long,1≤n∧n≤256
theorem gn:∀ {l:List Int} {s:Int},l.Pairwise (·<·)→(∀ x∈l,s≤x∧x≤255)→s≤256→(l.length:Int)≤256 - s
 | [],s,_,_,h=>by simp; omega
 | x::l,s,hp,hr,_=>by
  obtain ⟨h1,h2⟩:=List.pairwise_cons.1 hp
  have h3:=hr x (by simp)
  have ih:=gn (s:=x+1) h2 (fun y hy=>by have:=h1 y hy; have:=hr y (by simp [hy]); omega) (by omega)
  simp only [List.length_cons]
  omega
theorem oW (a:List Int) (at_:Int):ai (ac at_ (aa a).1).1=0:=by
 rcases eY at_ (aa a).1 with e | ⟨s,h1,_,_,e⟩
 ·rw [e]; rfl
 ·rw [e]; exact (cU a s h1).2.2
theorem yg (a:List Int) (at_:Int):1≤xl (aa a).1 at_∧xl (aa a).1 at_≤256:=by
 have:=bP (oW a at_)
 unfold xl af
 omega
end Go.Proofs.Ytcnoiiohmpgckaa
