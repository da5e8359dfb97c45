
import Derived.Test.YtcnoiiohmpgckaaLists
import Derived.Test.YtcnoiiohmpgckaaGapsSame
namespace Go.Proofs.Ytcnoiiohmpgckaa
open Go
set_option maxRecDepth 100000
set_option maxHeartbeats 1000000
def vp (pinned keep long:List Int):Nat→Int
 | 0=>0
 | i+1=>(if bp pinned (keep.getD i 0)=true then keep.getD i 0 else vp pinned keep long i)+long.getD i 0
def wt (pinned keep long:List Int) (i:Nat):Int:=if bp pinned (keep.getD i 0)=true then keep.getD i 0 else vp pinned keep long i
def u7 (keep long:List Int):Prop:=long.length=keep.length∧keep.length≤256∧(∀ x∈keep,0≤x∧x≤255)∧∀ n∈long,1≤n∧n≤256
theorem gb:∀ {l:List Int} {s:Int},l.Pairwise (·<·)→(∀ x∈l,s≤x∧x≤255)→s≤256→(l.length:Int)≤256 - s
 | [],s,_,_,h=>by simp; omega
 | x::l,s,hp,hr,_=>by
  obtain ⟨h1,h2⟩:=List.pairwise_cons.1 hp
  have h3:=hr x (by simp)
  have ih:=gb (s:=x+1) h2 (fun y hy=>by have:=h1 y hy; have:=hr y (by simp [hy]); omega) (by omega)
  simp only [List.length_cons]
  omega
end Go.Proofs.Ytcnoiiohmpgckaa
