
import Derived.Test.YtglchojglcobjaaGreatReaches
namespace Go.Proofs.YtglchojglcobjaaGreat
open Go
set_option maxRecDepth 100000
set_option maxHeartbeats 1000000
def comeL (o:List Int) (x:Int):List Int:=if inL o x=true then o else o++[x]
def outsV (l:List Int):List Int:=(l.filter fun v=>decide (v≠0)).map (· - 1)
theorem comes_pre:∀ (l o:List Int),∃ k,l.foldl comeL o=o++k∧∀ x∈k,x∈l
 | [],o=>⟨[],by simp,fun x hx=>by cases hx⟩
 | y::l,o=>by
  obtain ⟨k,h1,h2⟩:=comes_pre l (comeL o y)
  rw [List.foldl_cons,h1]
  unfold comeL
  split
  ·exact ⟨k,rfl,fun x hx=>List.mem_cons_of_mem _ (h2 x hx)⟩
  ·refine ⟨y::k,by simp,fun x hx=>?_⟩
   rcases List.mem_cons.1 hx with rfl | hx
   ·simp
   ·exact List.mem_cons_of_mem _ (h2 x hx)
theorem comes_nodup:∀ (l o:List Int),o.Nodup→(l.foldl comeL o).Nodup
 | [],_,h=>h
 | y::l,o,h=>by
  rw [List.foldl_cons]
  refine comes_nodup l _ ?_
  unfold comeL
  split
  ·exact h
  ·rename_i hn
   rw [List.nodup_append]
   refine ⟨h,by simp,fun x hx z hz=>?_⟩
   rw [List.mem_singleton.1 hz]
   rintro rfl
   exact hn (inL_iff.2 hx)
structure Came (a f o:List Int):Prop where
 nodup:o.Nodup
 only:∀ x∈o,Rch a f x
theorem Came.comes {a f o:List Int} (h:Came a f o) {x:Int} (hx:x∈o) (l:List Int) (hl:∀ v∈l,v∈refsA a x):Came a f ((outsV l).foldl comeL o):=by
 refine ⟨comes_nodup _ _ h.nodup,fun y hy=>?_⟩
 obtain ⟨k,h1,h2⟩:=comes_pre (outsV l) o
 rw [h1] at hy
 rcases List.mem_append.1 hy with hy | hy
 ·exact h.only y hy
 ·refine .step (h.only x hx) ?_
  have:=h2 y hy
  unfold outsV at this
  obtain ⟨v,hv,rfl⟩:=List.mem_map.1 this
  obtain ⟨hv,h0⟩:=List.mem_filter.1 hv
  unfold outsA
  exact List.mem_map.2 ⟨v,List.mem_filter.2 ⟨hl v hv,h0⟩,rfl⟩
theorem Came.length {a f o:List Int} (hw:∀ x∈a,InR .u64 x) (hc:(checkF a).2.2=0) (hf:∀ x∈f,isB (spotsF a).1 x=true) (h:Came a f o):o.length≤256 :=
 nodup_len h.nodup fun x hx=>isB_range ((h.only x hx).isB hw hc hf)
theorem Came.first {a f:List Int} {l:List Int} (h:∀ x∈l,x∈f):Came a f (l.foldl comeL []):=by
 refine ⟨comes_nodup _ _ List.nodup_nil,fun x hx=>?_⟩
 obtain ⟨k,h1,h2⟩:=comes_pre l []
 rw [h1,List.nil_append] at hx
 exact .base (h x (h2 x hx))
theorem spot_uniq:∀ {l:List Spot} {s t:Spot},l.Pairwise (fun s t=>s.1<t.1)→s∈l→t∈l→s.1=t.1→s=t
 | u::l,s,t,h,hs,ht,e=>by
  obtain ⟨h1,h2⟩:=List.pairwise_cons.1 h
  rcases List.mem_cons.1 hs with e1 | hs2 <;> rcases List.mem_cons.1 ht with e2 | ht2
  ·rw [e1,e2]
  ·have:=h1 t ht2; rw [← e1] at this; omega
  ·have:=h1 s hs2; rw [← e2] at this; omega
  ·exact spot_uniq h2 hs2 ht2 e
theorem at_obj {a:List Int} (hc:(checkF a).2.2=0) {x:Int} (hx:isB (spotsF a).1 x=true):0≤findFrom (fun s:Spot=>decide (s.1=x)) 0 (checkF a).1∧(checkF a).1.getD (findFrom (fun s:Spot=>decide (s.1=x)) 0 (checkF a).1).toNat (0,0,0,0,false)=(x,hdA a x)∧atF a x=(objectF a (x,hdA a x) (checkF a).2.1,0):=by
 obtain ⟨_,_,e1,_,_,_,_⟩:=checkF_in hc
 have hm:=(objA_in hx).1
 have hge:0≤findFrom (fun s:Spot=>decide (s.1=x)) 0 (checkF a).1:=by
  have h:=findFrom_any (fun s:Spot=>decide (s.1=x)) (checkF a).1 0 (by omega)
  rw [e1] at h ⊢
  refine of_decide_eq_true (h.trans (List.any_eq_true.2 ⟨_,hm,by simp⟩))
 have hlt:=findFrom_lt (fun s:Spot=>decide (s.1=x)) (0,0,0,0,false) (checkF a).1 0 (by omega)
 have hg:(checkF a).1.getD (findFrom (fun s:Spot=>decide (s.1=x)) 0 (checkF a).1).toNat (0,0,0,0,false)=(x,hdA a x):=by
  have h1:=findFrom_is (fun s:Spot=>decide (s.1=x)) (0,0,0,0,false) (checkF a).1 0 hge (by omega)
  rw [Int.sub_zero] at h1
  have h2:=getD_mem ((0,0,0,0,false):Spot) hge (by omega:findFrom (fun s:Spot=>decide (s.1=x)) 0 (checkF a).1<((checkF a).1.length:Int))
  rw [e1] at h1 h2 ⊢
  exact spot_uniq (spotsF_sorted a) h2 hm (of_decide_eq_true h1)
 refine ⟨hge,hg,?_⟩
 unfold atF
 rw [if_neg (by omega),if_neg (by omega),hg]
theorem from_single {a f:List Int} (hw:∀ x∈a,InR .u64 x):fromF a [f]=fromFault a f:=by
 unfold fromF fromFault
 rw [arena_check hw]
 by_cases h:(checkF a).2.2≠0
 ·rw [if_pos h,if_pos h]
 ·rw [if_neg h,if_neg h]
  have:([f].all fun l=>l.all (inL (beginsL (spotsF a).1)))=f.all (isB (spotsF a).1):=by
   simp only [List.all_cons,List.all_nil,Bool.and_true]
   congr 1
   funext x
   exact inL_begins x _
  rw [this]
end Go.Proofs.YtglchojglcobjaaGreat
