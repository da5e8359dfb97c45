
import Derived.Test.YtglchojglcobjaaGreatReaches
namespace Go.Proofs.YtglchojglcobjaaGreat
open Go
set_option maxRecDepth 100000
set_option maxHeartbeats 1000000
def ti (o:List Int) (x:Int):List Int:=if cD o x=true then o else o++[x]
def FB (l:List Int):List Int:=(l.filter fun v=>decide (v≠0)).map (· - 1)
theorem pm:∀ (l o:List Int),∃ k,l.foldl ti o=o++k∧∀ x∈k,x∈l
 | [],o=>⟨[],by simp,fun x hx=>by cases hx⟩
 | y::l,o=>by
  obtain ⟨k,h1,h2⟩:=pm l (ti o y)
  rw [List.foldl_cons,h1]
  unfold ti
  split
  ·exact ⟨k,rfl,fun x hx=>List.mem_cons_of_mem _ (h2 x hx)⟩
  ·refine ⟨y::k,by simp,fun x hx=>?_⟩
   rcases List.mem_cons.1 hx with rfl | hx
   ·simp
   ·exact List.mem_cons_of_mem _ (h2 x hx)
theorem kZ:∀ (l o:List Int),o.Nodup→(l.foldl ti o).Nodup
 | [],_,h=>h
 | y::l,o,h=>by
  rw [List.foldl_cons]
  refine kZ l _ ?_
  unfold ti
  split
  ·exact h
  ·rename_i hn
   rw [List.nodup_append]
   refine ⟨h,by simp,fun x hx z hz=>?_⟩
   rw [List.mem_singleton.1 hz]
   rintro rfl
   exact hn (cz.2 hx)
structure Came (a f o:List Int):Prop where
 nodup:o.Nodup
 only:∀ x∈o,Rch a f x
theorem Came.comes {a f o:List Int} (h:Came a f o) {x:Int} (hx:x∈o) (l:List Int) (hl:∀ v∈l,v∈aU a x):Came a f ((FB l).foldl ti o):=by
 refine ⟨kZ _ _ h.nodup,fun y hy=>?_⟩
 obtain ⟨k,h1,h2⟩:=pm (FB l) o
 rw [h1] at hy
 rcases List.mem_append.1 hy with hy | hy
 ·exact h.only y hy
 ·refine .step (h.only x hx) ?_
  have:=h2 y hy
  unfold FB at this
  obtain ⟨v,hv,rfl⟩:=List.mem_map.1 this
  obtain ⟨hv,h0⟩:=List.mem_filter.1 hv
  unfold du
  exact List.mem_map.2 ⟨v,List.mem_filter.2 ⟨hl v hv,h0⟩,rfl⟩
theorem Came.length {a f o:List Int} (hw:∀ x∈a,ak .u64 x) (hc:(ao a).2.2=0) (hf:∀ x∈f,isB (aa a).1 x=true) (h:Came a f o):o.length≤256 :=
 lE h.nodup fun x hx=>fU ((h.only x hx).isB hw hc hf)
theorem Came.first {a f:List Int} {l:List Int} (h:∀ x∈l,x∈f):Came a f (l.foldl ti []):=by
 refine ⟨kZ _ _ List.nodup_nil,fun x hx=>?_⟩
 obtain ⟨k,h1,h2⟩:=pm l []
 rw [h1,List.nil_append] at hx
 exact .base (h x (h2 x hx))
theorem uY:∀ {l:List aw} {s t:aw},l.Pairwise (fun s t=>s.1<t.1)→s∈l→t∈l→s.1=t.1→s=t
 | u::l,s,t,h,hs,ht,e=>by
  obtain ⟨h1,h2⟩:=List.pairwise_cons.1 h
  rcases List.mem_cons.1 hs with e1 | hs2 <;> rcases List.mem_cons.1 ht with e2 | ht2
  ·rw [e1,e2]
  ·have:=h1 t ht2; rw [← e1] at this; omega
  ·have:=h1 s hs2; rw [← e2] at this; omega
  ·exact uY h2 hs2 ht2 e
theorem GB {a:List Int} (hc:(ao a).2.2=0) {x:Int} (hx:isB (aa a).1 x=true):0≤aj (fun s:aw=>decide (s.1=x)) 0 (ao a).1∧(ao a).1.getD (aj (fun s:aw=>decide (s.1=x)) 0 (ao a).1).toNat (0,0,0,0,false)=(x,dD a x)∧iN a x=(gb a (x,dD a x) (ao a).2.1,0):=by
 obtain ⟨_,_,e1,_,_,_,_⟩:=bO hc
 have hm:=(gc hx).1
 have hge:0≤aj (fun s:aw=>decide (s.1=x)) 0 (ao a).1:=by
  have h:=cF (fun s:aw=>decide (s.1=x)) (ao a).1 0 (by omega)
  rw [e1] at h ⊢
  refine of_decide_eq_true (h.trans (List.any_eq_true.2 ⟨_,hm,by simp⟩))
 have hlt:=dG (fun s:aw=>decide (s.1=x)) (0,0,0,0,false) (ao a).1 0 (by omega)
 have hg:(ao a).1.getD (aj (fun s:aw=>decide (s.1=x)) 0 (ao a).1).toNat (0,0,0,0,false)=(x,dD a x):=by
  have h1:=gL (fun s:aw=>decide (s.1=x)) (0,0,0,0,false) (ao a).1 0 hge (by omega)
  rw [Int.sub_zero] at h1
  have h2:=aD ((0,0,0,0,false):aw) hge (by omega:aj (fun s:aw=>decide (s.1=x)) 0 (ao a).1<((ao a).1.length:Int))
  rw [e1] at h1 h2 ⊢
  exact uY (b6 a) h2 hm (of_decide_eq_true h1)
 refine ⟨hge,hg,?_⟩
 unfold iN
 rw [if_neg (by omega),if_neg (by omega),hg]
theorem Al {a f:List Int} (hw:∀ x∈a,ak .u64 x):qt a [f]=aX a f:=by
 unfold qt aX
 rw [qD hw]
 by_cases h:(ao a).2.2≠0
 ·rw [if_pos h,if_pos h]
 ·rw [if_neg h,if_neg h]
  have:([f].all fun l=>l.all (cD (af (aa a).1)))=f.all (isB (aa a).1):=by
   simp only [List.all_cons,List.all_nil,Bool.and_true]
   congr 1
   funext x
   exact gv x _
  rw [this]
end Go.Proofs.YtglchojglcobjaaGreat
