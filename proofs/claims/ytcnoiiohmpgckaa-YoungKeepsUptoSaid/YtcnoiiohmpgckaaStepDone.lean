
import Derived.Test.YtcnoiiohmpgckaaSteps
namespace Go.Proofs.Ytcnoiiohmpgckaa
open Go
set_option maxRecDepth 100000
set_option maxHeartbeats 1000000
theorem mC {α:Type} {k:Int} {v:α}:∀ {m:List (Int×α)},(∀ x∈m,x.1≠k)→eR m k v=m++[(k,v)]
 | [],_=>rfl
 | x::m,h=>by
  unfold eR
  rw [if_neg (h x (by simp)),mC (fun y hy=>h y (by simp [hy]))]
  rfl
theorem eM:∀ (l:List aN) (m:List (Int×cg)),l.Pairwise (fun s t=>s.1<t.1)→(∀ x∈m,∀ s∈l,x.1<s.1)→(bo m l).map Prod.fst=m.map Prod.fst++ab l
 | [],m,_,_=>by simp [bo,ab]
 | s::l,m,h,hm=>by
  obtain ⟨h1,h2⟩:=List.pairwise_cons.1 h
  have e0:bo m (s::l)=bo (if s.2.2.2.2=true then m else eR m s.1 s.2) l:=rfl
  rw [e0]
  simp only [ab]
  split
  ·exact eM l m h2 fun x hx t ht=>hm x hx t (by simp [ht])
  ·rw [mC (fun x hx=>by have:=hm x hx s (by simp); omega)]
   rw [eM l _ h2 fun x hx t ht=>by
    rcases List.mem_append.1 hx with hx | hx
    ·exact hm x hx t (by simp [ht])
    ·rw [List.mem_singleton.1 hx]
     exact h1 t ht]
   simp
theorem tr {l:List aN} (h:l.Pairwise (fun s t=>s.1<t.1)):(a7 l).map Prod.fst=ab l:=by
 have:=eM l [] h (fun x hx=>by cases hx)
 exact this
theorem dt:∀ {l:List aN},l.Pairwise (fun s t=>s.1<t.1)→(ab l).Pairwise (·<·)
 | [],_=>List.Pairwise.nil
 | s::l,h=>by
  obtain ⟨h1,h2⟩:=List.pairwise_cons.1 h
  simp only [ab]
  split
  ·exact dt h2
  ·refine List.pairwise_cons.2 ⟨fun x hx=>?_,dt h2⟩
   have:∀ {l:List aN} {x:Int},x∈ab l→∃ t∈l,t.1=x:=by
    intro l
    induction l with
    | nil=>intro x hx; cases hx
    | cons t l ih =>
     intro x hx
     simp only [ab] at hx
     split at hx
     ·obtain ⟨u,hu,e⟩:=ih hx
      exact ⟨u,by simp [hu],e⟩
     ·rcases List.mem_cons.1 hx with rfl | hx
      ·exact ⟨t,by simp,rfl⟩
      ·obtain ⟨u,hu,e⟩:=ih hx
       exact ⟨u,by simp [hu],e⟩
   obtain ⟨t,ht,rfl⟩:=this hx
   exact h1 t ht
end Go.Proofs.Ytcnoiiohmpgckaa
