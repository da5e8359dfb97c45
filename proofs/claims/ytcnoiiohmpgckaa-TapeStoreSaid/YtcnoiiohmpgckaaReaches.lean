
import Derived.Test.YtcnoiiohmpgckaaReach
namespace Go.Proofs.Ytcnoiiohmpgckaa
open Go
set_option maxRecDepth 100000
set_option maxHeartbeats 1000000
theorem CL {l:List Int} {x:Int} (h:(!dw l x)=true):¬ x∈l:=fun hx=>by rw [cT.2 hx] at h; cases h
theorem CK {l:List Int} {x:Int} (h:(!dw l x)=false):x∈l:=cT.1 (by cases hx:dw l x <;> simp_all)
structure InReach (a f l:List Int):Prop where
 has:∀ x∈f,x∈l
 only:∀ x∈l,Rch a f x
 len:l.length+ya f≤f.length+ya l
structure Seen (m:List (Int×Bool)) (o:List Int):Prop where
 nodup:o.Nodup
 is:∀ x,(cz m x).getD false=dw o x
theorem Seen.new:Seen [] []:=⟨List.nodup_nil,fun _=>rfl⟩
theorem Seen.add {m:List (Int×Bool)} {o:List Int} {x:Int} (h:Seen m o) (hn:(!(cz m x).getD false)=true):Seen (jB m x true) (o++[x]):=by
 rw [h.is] at hn
 refine ⟨?_,fun y=>?_⟩
 ·rw [List.nodup_append]
  exact ⟨h.nodup,by simp,fun y hy z hz=>by rw [List.mem_singleton.1 hz]; rintro rfl; exact CL hn hy⟩
 ·rw [mH]
  by_cases hy:y=x
  ·subst hy
   rw [if_pos rfl]
   exact (cT.2 (by simp)).symm
  ·rw [if_neg hy,h.is]
   unfold dw
   rw [List.any_append]
   simp [Ne.symm hy]
theorem Seen.mem {m:List (Int×Bool)} {o:List Int} {x:Int} (h:Seen m o) (hn:(!(cz m x).getD false)=false):x∈o:=by
 rw [h.is] at hn
 exact CK hn
theorem zC {o:List Int} (hd:o.Nodup) (hr:∀ x∈o,0≤x∧x≤255):o.length≤256:=by
 have h1:=kK o
 have h2:(dG o).Nodup:=(List.mergeSort_perm o _).nodup_iff.2 hd
 have h3:(dG o).Pairwise (·<·):=(h1.and h2).imp (fun ⟨x,y⟩=>by omega)
 have h4:=fl (s:=0) h3 (fun x hx=>hr x (r8.1 hx)) (by omega)
 rw [hY] at h4
 omega
end Go.Proofs.Ytcnoiiohmpgckaa
