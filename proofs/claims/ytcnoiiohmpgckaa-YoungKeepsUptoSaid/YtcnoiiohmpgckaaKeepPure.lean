
import Derived.Test.YtcnoiiohmpgckaaReaches
import Derived.Test.YtcnoiiohmpgckaaYoungs
namespace Go.Proofs.Ytcnoiiohmpgckaa
open Go
inductive RchG (o:Int→List Int) (f:List Int):Int→Prop
 | base {x:Int}:x∈f→RchG o f x
 | step {x y:Int}:RchG o f x→y∈o x→RchG o f y
def jK (o:Int→List Int) (l:List Int):Bool:=l.all fun x=>(o x).all (aI l)
def kZ (o:Int→List Int) (l:List Int):List Int:=l++l.flatMap o
def ld (o:Int→List Int):Nat→List Int→List Int
 | 0,l=>l
 | n+1,l=>if jK o l=true then l else ld o n (kZ o l)
def kz (o:Int→List Int) (f:List Int):List Int:=aA (ld o 257 f) 256
theorem ln {o:Int→List Int} {l:List Int}:jK o l=true ↔ ∀ x∈l,∀ y∈o x,y∈l:=by
 unfold jK
 simp only [List.all_eq_true,aP]
theorem RchG.mem {o:Int→List Int} {f l:List Int} (h1:∀ x∈f,x∈l) (h2:∀ x∈l,∀ y∈o x,y∈l) {x:Int} (h:RchG o f x):x∈l:=by
 induction h with
 | base h=>exact h1 _ h
 | step _ h ih=>exact h2 _ ih _ h
theorem o8 (o:Int→List Int):∀ (n:Nat) (l:List Int),∀ x∈l,x∈ld o n l
 | 0,_,_,h=>h
 | n+1,l,x,h=>by
  unfold ld
  split
  ·exact h
  ·exact o8 o n _ x (by unfold kZ; simp [h])
theorem iu {o:Int→List Int} {f l:List Int} (h:∀ x∈l,RchG o f x):∀ x∈kZ o l,RchG o f x:=fun y hy=>by
 unfold kZ at hy
 rcases List.mem_append.1 hy with hy | hy
 ·exact h y hy
 ·obtain ⟨z,hz,hy⟩:=List.mem_flatMap.1 hy
  exact .step (h z hz) hy
theorem o9 {o:Int→List Int} {f:List Int}:∀ (n:Nat) (l:List Int),(∀ x∈l,RchG o f x)→∀ x∈ld o n l,RchG o f x
 | 0,_,h,x,hx=>h x hx
 | n+1,l,h,x,hx=>by
  unfold ld at hx
  split at hx
  ·exact h x hx
  ·exact o9 n _ (iu h) x hx
theorem ju {o:Int→List Int} {f:List Int} (hr:∀ x,RchG o f x→0≤x∧x≤255):∀ (n:Nat) (l:List Int),(∀ x∈l,RchG o f x)→257≤n+sy l→jK o (ld o n l)=true
 | 0,l,_,hn=>by have:=wE l; omega
 | n+1,l,hl,hn=>by
  unfold ld
  by_cases h:jK o l=true
  ·rw [if_pos h]; exact h
  rw [if_neg h]
  refine ju hr n _ (iu hl) ?_
  rw [ln] at h
  have h:∃ x,x∈l∧∃ y,y∈o x∧¬ y∈l:=by
   apply Classical.byContradiction
   intro hno
   apply h
   intro x hx y hy
   apply Classical.byContradiction
   intro hyl
   exact hno ⟨x,hx,y,hy,hyl⟩
  obtain ⟨x,hx,y,hy,hyl⟩:=h
  have hy2:y∈kZ o l:=by
   unfold kZ
   exact List.mem_append_right _ (List.mem_flatMap.2 ⟨x,hx,hy⟩)
  have hr2:=hr y (iu hl y hy2)
  have:=wD (l:=l) (k:=kZ o l) (fun z hz=>by unfold kZ; simp [hz]) hy2 hyl hr2.1 hr2.2
  omega
theorem ky {o:Int→List Int} {f:List Int} (hr:∀ x,RchG o f x→0≤x∧x≤255) {x:Int}:x∈kz o f ↔ RchG o f x:=by
 unfold kz
 rw [eJ]
 constructor
 ·intro h
  exact o9 257 f (fun y hy=>.base hy) x h.2.2
 ·intro h
  have h2:=hr x h
  refine ⟨h2.1,by omega,?_⟩
  have hcl:=ln.1 (ju hr 257 f (fun y hy=>.base hy) (by omega))
  exact h.mem (o8 o 257 f) hcl
theorem iG (o:Int→List Int) (f:List Int):(kz o f).Pairwise (·<·):=d9 _ _
structure FullG (o:Int→List Int) (f out:List Int):Prop where
 has:∀ x∈f,x∈out
 only:∀ x∈out,RchG o f x
 all:∀ x∈out,∀ y∈o x,y∈out
theorem FullG.iff {o:Int→List Int} {f out:List Int} (h:FullG o f out) {x:Int}:x∈out ↔ RchG o f x:=⟨h.only x,fun hx=>hx.mem h.has h.all⟩
theorem FullG.rising {o:Int→List Int} {f out:List Int} (hr:∀ x,RchG o f x→0≤x∧x≤255) (h:FullG o f out):aA out 256=kz o f:=by
 refine eC (d9 _ _) (iG _ _) (fun x=>?_)
 rw [eJ,ky hr,h.iff]
 exact ⟨fun hx=>hx.2.2,fun hx=>by have:=hr x hx; exact ⟨this.1,by omega,hx⟩⟩
theorem FullG.sorted {o:Int→List Int} {f out:List Int} (hr:∀ x,RchG o f x→0≤x∧x≤255) (h:FullG o f out) (hd:out.Nodup):aU out=kz o f:=by
 refine eC ?_ (iG _ _) (fun x=>by rw [gK,ky hr,h.iff])
 have h1:=ep out
 have h2:(aU out).Nodup:=(List.mergeSort_perm out _).nodup_iff.2 hd
 exact (h1.and h2).imp (fun ⟨x,y⟩=>by omega)
def bZ (a old:List Int) (x:Int):List Int:=(ak a x).filter fun y=>!aI old y
def cM (a old nt f:List Int):List Int:=(f++nt.flatMap (ak a)).filter fun y=>!aI old y
def aF (g:cE) (f:List Int):List Int:=kz (bZ g.1 g.2.1) (cM g.1 g.2.1 g.2.2 f)
def aE (g:cE) (f:List Int):List Int×Int:=if a8 g≠0 then ([],a8 g) else if f.all (isB (aa g.1).1)=true then (aF g f,0) else ([],5)
theorem dS {a old:List Int} {x y:Int}:y∈bZ a old x ↔ y∈ak a x∧¬ y∈old:=by
 unfold bZ
 rw [List.mem_filter]
 constructor
 ·exact fun h=>⟨h.1,xq h.2⟩
 ·exact fun h=>⟨h.1,by
   cases e:aI old y
   ·rfl
   ·exact absurd (aP.1 e) h.2⟩
theorem dW {a old nt f:List Int} {y:Int}:y∈cM a old nt f ↔ (y∈f∨∃ n∈nt,y∈ak a n)∧¬ y∈old:=by
 unfold cM
 rw [List.mem_filter,List.mem_append,List.mem_flatMap]
 constructor
 ·exact fun h=>⟨h.1,xq h.2⟩
 ·exact fun h=>⟨h.1,by
   cases e:aI old y
   ·rfl
   ·exact absurd (aP.1 e) h.2⟩
theorem jP {a old nt:List Int} (h:a8 (a,old,nt)=0):(au a).2.2=0∧(∀ x∈old,isB (aa a).1 x=true)∧∀ x∈nt,x∈old:=by
 have hF:a8 (a,old,nt)=if (au a).2.2≠0 then (au a).2.2 else if (aw old&&aw nt)=false then 3 else if old.all (isB (aa a).1)=false then 5 else if nt.all (aI old)=false then 5 else if old.any (cL (a,old,nt))=true then 8 else 0:=rfl
 rw [hF] at h
 split at h
 ·rename_i h1; exact absurd h h1
 rename_i h1
 split at h
 ·cases h
 split at h
 ·cases h
 rename_i h3
 split at h
 ·cases h
 rename_i h4
 refine ⟨by omega,List.all_eq_true.1 (by simpa using h3),fun x hx=>aP.1 (List.all_eq_true.1 (by simpa using h4) x hx)⟩
theorem jR {a old nt f:List Int} (hw:∀ x∈a,ai .u64 x) (h:a8 (a,old,nt)=0) (hf:∀ x∈f,isB (aa a).1 x=true) {x:Int} (hx:RchG (bZ a old) (cM a old nt f) x):isB (aa a).1 x=true∧¬ x∈old:=by
 obtain ⟨hc,ho,hn⟩:=jP h
 induction hx with
 | base hb =>
  obtain ⟨h1,h2⟩:=dW.1 hb
  refine ⟨?_,h2⟩
  rcases h1 with h1 | ⟨n,hnn,h1⟩
  ·exact hf _ h1
  ·exact gM hw hc (ho n (hn n hnn)) h1
 | step _ hy ih =>
  obtain ⟨h1,h2⟩:=dS.1 hy
  exact ⟨gM hw hc ih.1 h1,h2⟩
end Go.Proofs.Ytcnoiiohmpgckaa
