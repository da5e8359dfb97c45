
import Derived.Test.YtcnoiiohmpgckaaReaches
namespace Go.Proofs.Ytcnoiiohmpgckaa
open Go
set_option maxRecDepth 100000
set_option maxHeartbeats 1000000
def qf (o:List Int) (x:Int):List Int:=if dw o x=true then o else o++[x]
theorem mW:∀ (l o:List Int),∃ k,l.foldl qf o=o++k∧∀ x∈k,x∈l
 | [],o=>⟨[],by simp,fun x hx=>by cases hx⟩
 | y::l,o=>by
  obtain ⟨k,h1,h2⟩:=mW l (qf o y)
  rw [List.foldl_cons,h1]
  unfold qf
  split
  ·exact ⟨k,rfl,fun x hx=>List.mem_cons_of_mem _ (h2 x hx)⟩
  ·refine ⟨y::k,by simp,fun x hx=>?_⟩
   rcases List.mem_cons.1 hx with rfl | hx
   ·simp
   ·exact List.mem_cons_of_mem _ (h2 x hx)
theorem jg:∀ (l o:List Int),o.Nodup→(l.foldl qf o).Nodup
 | [],_,h=>h
 | y::l,o,h=>by
  rw [List.foldl_cons]
  refine jg l _ ?_
  unfold qf
  split
  ·exact h
  ·rename_i hn
   rw [List.nodup_append]
   refine ⟨h,by simp,fun x hx z hz=>?_⟩
   rw [List.mem_singleton.1 hz]
   rintro rfl
   exact hn (cT.2 hx)
structure Came (a f o:List Int):Prop where
 nodup:o.Nodup
 only:∀ x∈o,Rch a f x
theorem Came.length {a f o:List Int} (hw:∀ x∈a,am .u64 x) (hc:(ah a).2.2=0) (hf:∀ x∈f,isB (aa a).1 x=true) (h:Came a f o):o.length≤256 :=
 zC h.nodup fun x hx=>mJ ((h.only x hx).isB hw hc hf)
theorem Came.first {a f:List Int} {l:List Int} (h:∀ x∈l,x∈f):Came a f (l.foldl qf []):=by
 refine ⟨jg _ _ List.nodup_nil,fun x hx=>?_⟩
 obtain ⟨k,h1,h2⟩:=mW l []
 rw [h1,List.nil_append] at hx
 exact .base (h x (h2 x hx))
theorem r7:∀ {l:List aE} {s t:aE},l.Pairwise (fun s t=>s.1<t.1)→s∈l→t∈l→s.1=t.1→s=t
 | u::l,s,t,h,hs,ht,e=>by
  obtain ⟨h1,h2⟩:=List.pairwise_cons.1 h
  rcases List.mem_cons.1 hs with e1 | hs2 <;> rcases List.mem_cons.1 ht with e2 | ht2
  ·rw [e1,e2]
  ·have:=h1 t ht2; rw [← e1] at this; omega
  ·have:=h1 s hs2; rw [← e2] at this; omega
  ·exact r7 h2 hs2 ht2 e
theorem Cq {a:List Int} (hc:(ah a).2.2=0) {x:Int} (hx:isB (aa a).1 x=true):0≤ag (fun s:aE=>decide (s.1=x)) 0 (ah a).1∧(ah a).1.getD (ag (fun s:aE=>decide (s.1=x)) 0 (ah a).1).toNat (0,0,0,0,false)=(x,iB a x)∧sS a x=(eQ a (x,iB a x) (ah a).2.1,0):=by
 obtain ⟨_,_,e1,_,_,_,_⟩:=dE hc
 have hm:=(ig hx).1
 have hge:0≤ag (fun s:aE=>decide (s.1=x)) 0 (ah a).1:=by
  have h:=er (fun s:aE=>decide (s.1=x)) (ah a).1 0 (by omega)
  rw [e1] at h ⊢
  refine of_decide_eq_true (h.trans (List.any_eq_true.2 ⟨_,hm,by simp⟩))
 have hlt:=gp (fun s:aE=>decide (s.1=x)) (0,0,0,0,false) (ah a).1 0 (by omega)
 have hg:(ah a).1.getD (ag (fun s:aE=>decide (s.1=x)) 0 (ah a).1).toNat (0,0,0,0,false)=(x,iB a x):=by
  have h1:=ja (fun s:aE=>decide (s.1=x)) (0,0,0,0,false) (ah a).1 0 hge (by omega)
  rw [Int.sub_zero] at h1
  have h2:=aU ((0,0,0,0,false):aE) hge (by omega:ag (fun s:aE=>decide (s.1=x)) 0 (ah a).1<((ah a).1.length:Int))
  rw [e1] at h1 h2 ⊢
  exact r7 (dK a) h2 hm (of_decide_eq_true h1)
 refine ⟨hge,hg,?_⟩
 unfold sS
 rw [if_neg (by omega),if_neg (by omega),hg]
theorem ww {a f:List Int} (hw:∀ x∈a,am .u64 x):nE a [f]=bc a f:=by
 unfold nE bc
 rw [nM hw]
 by_cases h:(ah a).2.2≠0
 ·rw [if_pos h,if_pos h]
 ·rw [if_neg h,if_neg h]
  have:([f].all fun l=>l.all (dw (af (aa a).1)))=f.all (isB (aa a).1):=by
   simp only [List.all_cons,List.all_nil,Bool.and_true]
   congr 1
   funext x
   exact kl x _
  rw [this]
end Go.Proofs.Ytcnoiiohmpgckaa
