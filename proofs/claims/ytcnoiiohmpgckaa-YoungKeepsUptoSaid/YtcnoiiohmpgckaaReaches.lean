
import Derived.Test.YtcnoiiohmpgckaaReach
namespace Go.Proofs.Ytcnoiiohmpgckaa
open Go
set_option maxRecDepth 100000
set_option maxHeartbeats 1000000
theorem xq {l:List Int} {x:Int} (h:(!aI l x)=true):¬ x∈l:=fun hx=>by rw [aP.2 hx] at h; cases h
theorem x6 {l:List Int} {x:Int} (h:(!aI l x)=false):x∈l:=aP.1 (by cases hx:aI l x <;> simp_all)
theorem mB {a:List Int} (hw:∀ x∈a,ai .u64 x) (hc:(au a).2.2=0) {x:Int} (hx:isB (aa a).1 x=true) {y:Int}:(y∈ay a x (ac x (aa a).1).1∧0≤y) ↔ y∈ak a x:=by
 have e:ay a x (ac x (aa a).1).1=(gl a x).map nameOf:=rfl
 rw [e]
 unfold ak
 have hr:=ip hw hc _ (lE hx).1
 simp only [List.mem_map,List.mem_filter,decide_eq_true_eq]
 constructor
 ·rintro ⟨⟨v,hv,rfl⟩,h0⟩
  rcases hr v hv with rfl | ⟨h1,h2,_⟩
  ·simp [nameOf] at h0
  ·exact ⟨v,⟨hv,by omega⟩,by unfold nameOf; rw [if_neg (by omega)]⟩
 ·rintro ⟨v,⟨hv,h0⟩,rfl⟩
  rcases hr v hv with e | ⟨h1,h2,_⟩
  ·exact absurd e h0
  ·exact ⟨⟨v,hv,by unfold nameOf; rw [if_neg (by omega)]⟩,by omega⟩
structure InReach (a f l:List Int):Prop where
 has:∀ x∈f,x∈l
 only:∀ x∈l,Rch a f x
 len:l.length+sy f≤f.length+sy l
def bo (m:List (Int×cg)):List aN→List (Int×cg)
 | []=>m
 | s::l=>bo (if s.2.2.2.2=true then m else eR m s.1 s.2) l
def a7 (l:List aN):List (Int×cg):=bo [] l
theorem hO (x:Int):∀ (l:List aN) (m:List (Int×cg)),l.Pairwise (fun s t=>s.1<t.1)→bc (bo m l) x=if isB l x=true then some (ac x l).1 else bc m x
 | [],m,_=>rfl
 | s::l,m,h=>by
  obtain ⟨h1,h2⟩:=List.pairwise_cons.1 h
  have e0:bo m (s::l)=bo (if s.2.2.2.2=true then m else eR m s.1 s.2) l:=rfl
  rw [e0,hO x l _ h2]
  by_cases hx:s.1=x∧s.2.2.2.2=false
  ·have e1:ac x (s::l)=(s.2,true):=if_pos hx
   have e2:isB (s::l) x=true:=by unfold isB; rw [e1]
   have hn:¬ isB l x=true:=by
    rw [← ce,aP]
    intro hm
    have:∃ t∈l,t.1=x:=by
     clear h h2 hx e0 e1 e2
     induction l with
     | nil=>cases hm
     | cons t l ih =>
      simp only [ab] at hm
      split at hm
      ·obtain ⟨u,hu,e⟩:=ih (fun y hy=>h1 y (by simp [hy])) hm
       exact ⟨u,by simp [hu],e⟩
      ·rcases List.mem_cons.1 hm with hm | hm
       ·exact ⟨t,by simp,hm.symm⟩
       ·obtain ⟨u,hu,e⟩:=ih (fun y hy=>h1 y (by simp [hy])) hm
        exact ⟨u,by simp [hu],e⟩
    obtain ⟨t,ht,e⟩:=this
    have:=h1 t ht
    omega
   rw [if_neg hn,if_pos e2,e1,if_neg (by rw [hx.2]; simp),fu,if_pos hx.1.symm]
  ·have e1:ac x (s::l)=ac x l:=if_neg hx
   have e2:isB (s::l) x=isB l x:=by unfold isB; rw [e1]
   rw [e2,e1]
   by_cases hb:isB l x=true
   ·rw [if_pos hb,if_pos hb]
   ·rw [if_neg hb,if_neg hb]
    by_cases hf:s.2.2.2.2=true
    ·rw [if_pos hf]
    ·rw [if_neg hf,fu,if_neg (fun e=>hx ⟨e.symm,by simpa using hf⟩)]
theorem kk {l:List aN} (h:l.Pairwise (fun s t=>s.1<t.1)) (x:Int):bc (a7 l) x=if isB l x=true then some (ac x l).1 else none:=hO x l [] h
structure Seen (m:List (Int×Bool)) (o:List Int):Prop where
 nodup:o.Nodup
 is:∀ x,(bc m x).getD false=aI o x
theorem Seen.new:Seen [] []:=⟨List.nodup_nil,fun _=>rfl⟩
theorem Seen.add {m:List (Int×Bool)} {o:List Int} {x:Int} (h:Seen m o) (hn:(!(bc m x).getD false)=true):Seen (eR m x true) (o++[x]):=by
 rw [h.is] at hn
 refine ⟨?_,fun y=>?_⟩
 ·rw [List.nodup_append]
  exact ⟨h.nodup,by simp,fun y hy z hz=>by rw [List.mem_singleton.1 hz]; rintro rfl; exact xq hn hy⟩
 ·rw [fu]
  by_cases hy:y=x
  ·subst hy
   rw [if_pos rfl]
   exact (aP.2 (by simp)).symm
  ·rw [if_neg hy,h.is]
   unfold aI
   rw [List.any_append]
   simp [Ne.symm hy]
theorem Seen.mem {m:List (Int×Bool)} {o:List Int} {x:Int} (h:Seen m o) (hn:(!(bc m x).getD false)=false):x∈o:=by
 rw [h.is] at hn
 exact x6 hn
theorem cP {o:List Int} (hd:o.Nodup) (hr:∀ x∈o,0≤x∧x≤255):o.length≤256:=by
 have h1:=ep o
 have h2:(aU o).Nodup:=(List.mergeSort_perm o _).nodup_iff.2 hd
 have h3:(aU o).Pairwise (·<·):=(h1.and h2).imp (fun ⟨x,y⟩=>by omega)
 have h4:=fX (s:=0) h3 (fun x hx=>hr x (gK.1 hx)) (by omega)
 rw [pW] at h4
 omega
end Go.Proofs.Ytcnoiiohmpgckaa
