
import Derived.Test.YtcnoiiohmpgckaaReaches
namespace Go.Proofs.Ytcnoiiohmpgckaa
open Go
set_option maxRecDepth 100000
set_option maxHeartbeats 1000000
def mq (o:List Int) (x:Int):List Int:=if bp o x=true then o else o++[x]
theorem jT:∀ (l o:List Int),∃ k,l.foldl mq o=o++k∧∀ x∈k,x∈l
 | [],o=>⟨[],by simp,fun x hx=>by cases hx⟩
 | y::l,o=>by
  obtain ⟨k,h1,h2⟩:=jT l (mq o y)
  rw [List.foldl_cons,h1]
  unfold mq
  split
  ·exact ⟨k,rfl,fun x hx=>List.mem_cons_of_mem _ (h2 x hx)⟩
  ·refine ⟨y::k,by simp,fun x hx=>?_⟩
   rcases List.mem_cons.1 hx with rfl | hx
   ·simp
   ·exact List.mem_cons_of_mem _ (h2 x hx)
theorem gF:∀ (l o:List Int),o.Nodup→(l.foldl mq o).Nodup
 | [],_,h=>h
 | y::l,o,h=>by
  rw [List.foldl_cons]
  refine gF l _ ?_
  unfold mq
  split
  ·exact h
  ·rename_i hn
   rw [List.nodup_append]
   refine ⟨h,by simp,fun x hx z hz=>?_⟩
   rw [List.mem_singleton.1 hz]
   rintro rfl
   exact hn (bi.2 hx)
structure Came (a f o:List Int):Prop where
 nodup:o.Nodup
 only:∀ x∈o,Rch a f x
theorem Came.length {a f o:List Int} (hw:∀ x∈a,aj .u64 x) (hc:(ao a).2.2=0) (hf:∀ x∈f,isB (aa a).1 x=true) (h:Came a f o):o.length≤256 :=
 fy h.nodup fun x hx=>cq ((h.only x hx).isB hw hc hf)
theorem Came.first {a f:List Int} {l:List Int} (h:∀ x∈l,x∈f):Came a f (l.foldl mq []):=by
 refine ⟨gF _ _ List.nodup_nil,fun x hx=>?_⟩
 obtain ⟨k,h1,h2⟩:=jT l []
 rw [h1,List.nil_append] at hx
 exact .base (h x (h2 x hx))
theorem qx {a f:List Int} (hw:∀ x∈a,aj .u64 x):gc a [f]=an a f:=by
 unfold gc an
 rw [qR hw]
 by_cases h:(ao a).2.2≠0
 ·rw [if_pos h,if_pos h]
 ·rw [if_neg h,if_neg h]
  have:([f].all fun l=>l.all (bp (ab (aa a).1)))=f.all (isB (aa a).1):=by
   simp only [List.all_cons,List.all_nil,Bool.and_true]
   congr 1
   funext x
   exact aS x _
  rw [this]
end Go.Proofs.Ytcnoiiohmpgckaa
