
import Derived.Test.YtcnoiiohmpgckaaReaches
namespace Go.Proofs.Ytcnoiiohmpgckaa
open Go
set_option maxRecDepth 100000
set_option maxHeartbeats 1000000
def m4 (o:List Int) (x:Int):List Int:=if bA o x=true then o else o++[x]
theorem kq:∀ (l o:List Int),∃ k,l.foldl m4 o=o++k∧∀ x∈k,x∈l
 | [],o=>⟨[],by simp,fun x hx=>by cases hx⟩
 | y::l,o=>by
  obtain ⟨k,h1,h2⟩:=kq l (m4 o y)
  rw [List.foldl_cons,h1]
  unfold m4
  split
  ·exact ⟨k,rfl,fun x hx=>List.mem_cons_of_mem _ (h2 x hx)⟩
  ·refine ⟨y::k,by simp,fun x hx=>?_⟩
   rcases List.mem_cons.1 hx with rfl | hx
   ·simp
   ·exact List.mem_cons_of_mem _ (h2 x hx)
theorem gV:∀ (l o:List Int),o.Nodup→(l.foldl m4 o).Nodup
 | [],_,h=>h
 | y::l,o,h=>by
  rw [List.foldl_cons]
  refine gV l _ ?_
  unfold m4
  split
  ·exact h
  ·rename_i hn
   rw [List.nodup_append]
   refine ⟨h,by simp,fun x hx z hz=>?_⟩
   rw [List.mem_singleton.1 hz]
   rintro rfl
   exact hn (bk.2 hx)
structure Came (a f o:List Int):Prop where
 nodup:o.Nodup
 only:∀ x∈o,Rch a f x
theorem Came.length {a f o:List Int} (hw:∀ x∈a,aj .u64 x) (hc:(ao a).2.2=0) (hf:∀ x∈f,isB (aa a).1 x=true) (h:Came a f o):o.length≤256 :=
 fK h.nodup fun x hx=>dF ((h.only x hx).isB hw hc hf)
theorem Came.first {a f:List Int} {l:List Int} (h:∀ x∈l,x∈f):Came a f (l.foldl m4 []):=by
 refine ⟨gV _ _ List.nodup_nil,fun x hx=>?_⟩
 obtain ⟨k,h1,h2⟩:=kq l []
 rw [h1,List.nil_append] at hx
 exact .base (h x (h2 x hx))
theorem rP {a f:List Int} (hw:∀ x∈a,aj .u64 x):go a [f]=am a f:=by
 unfold go am
 rw [si hw]
 by_cases h:(ao a).2.2≠0
 ·rw [if_pos h,if_pos h]
 ·rw [if_neg h,if_neg h]
  have:([f].all fun l=>l.all (bA (ab (aa a).1)))=f.all (isB (aa a).1):=by
   simp only [List.all_cons,List.all_nil,Bool.and_true]
   congr 1
   funext x
   exact cX x _
  rw [this]
end Go.Proofs.Ytcnoiiohmpgckaa
