
import Derived.Test.YtglchojglcobjaaGreatSlide
import Derived.Test.YtglchojglcobjaaGreatRising
namespace Go.Proofs.YtglchojglcobjaaGreat
open Go
def du (a:List Int) (x:Int):List Int:=((aU a x).filter fun v=>decide (v≠0)).map (· - 1)
inductive Rch (a from_:List Int):Int→Prop
 | base {x:Int}:x∈from_→Rch a from_ x
 | step {x y:Int}:Rch a from_ x→y∈du a x→Rch a from_ y
def ik (a l:List Int):Bool:=l.all fun x=>(du a x).all (cD l)
def nZ (a l:List Int):List Int:=l++l.flatMap (du a)
def qr (a:List Int):Nat→List Int→List Int
 | 0,l=>l
 | n+1,l=>if ik a l=true then l else qr a n (nZ a l)
def aY (a from_:List Int):List Int:=a6 (qr a 257 from_) 256
theorem jl {α:Type} {p q:α→Bool}:∀ (l:List α),(∀ x∈l,p x=true→q x=true)→(l.filter p).length≤(l.filter q).length
 | [],_=>by simp
 | x::l,h=>by
  have ih:=jl l (fun y hy=>h y (by simp [hy]))
  have hx:=h x (by simp)
  cases hp:p x
  ·rw [List.filter_cons_of_neg (by simp [hp])]
   cases hq:q x
   ·rw [List.filter_cons_of_neg (by simp [hq])]; exact ih
   ·rw [List.filter_cons_of_pos hq,List.length_cons]; omega
  ·rw [List.filter_cons_of_pos hp,List.filter_cons_of_pos (hx hp),List.length_cons,List.length_cons]; omega
theorem mn {α:Type} {p q:α→Bool}:∀ (l:List α),(∀ x∈l,p x=true→q x=true)→(∃ x∈l,p x=false∧q x=true)→(l.filter p).length<(l.filter q).length
 | [],_,h=>by obtain ⟨x,hx,_⟩:=h; cases hx
 | x::l,h,⟨y,hy,hp,hq⟩=>by
  have h':∀ y∈l,p y=true→q y=true:=fun y hy=>h y (by simp [hy])
  have le:=jl l h'
  rcases List.mem_cons.1 hy with rfl | hy
  ·rw [List.filter_cons_of_neg (by simp [hp]),List.filter_cons_of_pos hq,List.length_cons]; omega
  ·have ih:=mn l h' ⟨y,hy,hp,hq⟩
   have hx:=h x (by simp)
   cases hp:p x
   ·rw [List.filter_cons_of_neg (by simp [hp])]
    cases hq:q x
    ·rw [List.filter_cons_of_neg (by simp [hq])]; exact ih
    ·rw [List.filter_cons_of_pos hq,List.length_cons]; omega
   ·rw [List.filter_cons_of_pos hp,List.filter_cons_of_pos (hx hp),List.length_cons,List.length_cons]; omega
def dQ (l:List Int):Nat:=(a6 l 256).length
theorem ya (l:List Int):dQ l≤256:=by
 have:=List.length_filter_le (cD l) ((List.range 256).map Int.ofNat)
 unfold dQ a6
 simpa using this
theorem AC {l k:List Int} (h:∀ x∈l,x∈k):dQ l≤dQ k :=
 jl _ (fun x _ hx=>cz.2 (h x (cz.1 hx)))
theorem Gy {l k:List Int} (h:∀ x∈l,x∈k) {y:Int} (hy:y∈k) (hn:¬ y∈l) (h0:0≤y) (h1:y≤255):dQ l<dQ k:=by
 refine mn _ (fun x _ hx=>cz.2 (h x (cz.1 hx))) ⟨y,?_,?_,cz.2 hy⟩
 ·rw [List.mem_map]
  exact ⟨y.toNat,List.mem_range.2 (by omega),by simp only [Int.ofNat_eq_natCast]; omega⟩
 ·cases hl:cD l y
  ·rfl
  ·exact absurd (cz.1 hl) hn
theorem je {a l:List Int}:ik a l=true ↔ ∀ x∈l,∀ y∈du a x,y∈l:=by
 unfold ik
 simp only [List.all_eq_true,cz]
theorem fU {a:List Int} {x:Int} (h:isB (aa a).1 x=true):0≤x∧x≤255:=fP _ (sK h).1
theorem lz {a:List Int} (hw:∀ x∈a,ak .u64 x) (hc:(ao a).2.2=0) {x y:Int} (hx:isB (aa a).1 x=true) (hy:y∈du a x):isB (aa a).1 y=true:=by
 unfold du at hy
 obtain ⟨v,hv,rfl⟩:=List.mem_map.1 hy
 obtain ⟨hv,h0⟩:=List.mem_filter.1 hv
 have h0:=of_decide_eq_true h0
 rcases mH hw hc _ (gc hx).1 v hv with e | ⟨_,_,e⟩
 ·exact absurd e h0
 ·exact e
theorem Rch.isB {a from_:List Int} (hw:∀ x∈a,ak .u64 x) (hc:(ao a).2.2=0) (hf:∀ x∈from_,isB (aa a).1 x=true) {x:Int} (h:Rch a from_ x):isB (aa a).1 x=true:=by
 induction h with
 | base h=>exact hf _ h
 | step _ h ih=>exact lz hw hc ih h
theorem Rch.mem {a from_ l:List Int} (h1:∀ x∈from_,x∈l) (h2:∀ x∈l,∀ y∈du a x,y∈l) {x:Int} (h:Rch a from_ x):x∈l:=by
 induction h with
 | base h=>exact h1 _ h
 | step _ h ih=>exact h2 _ ih _ h
theorem Rch.mono {a f g:List Int} (h:∀ x∈f,Rch a g x) {x:Int} (hx:Rch a f x):Rch a g x:=by
 induction hx with
 | base hx=>exact h _ hx
 | step _ hy ih=>exact .step ih hy
theorem vQ (a:List Int):∀ (n:Nat) (l:List Int),∀ x∈l,x∈qr a n l
 | 0,_,_,h=>h
 | n+1,l,x,h=>by
  unfold qr
  split
  ·exact h
  ·exact vQ a n _ x (by unfold nZ; simp [h])
theorem vR {a f:List Int}:∀ (n:Nat) (l:List Int),(∀ x∈l,Rch a f x)→∀ x∈qr a n l,Rch a f x
 | 0,_,h,x,hx=>h x hx
 | n+1,l,h,x,hx=>by
  unfold qr at hx
  split at hx
  ·exact h x hx
  ·refine vR n _ (fun y hy=>?_) x hx
   unfold nZ at hy
   rcases List.mem_append.1 hy with hy | hy
   ·exact h y hy
   ·obtain ⟨z,hz,hy⟩:=List.mem_flatMap.1 hy
    exact .step (h z hz) hy
theorem n5 {a:List Int} (hw:∀ x∈a,ak .u64 x) (hc:(ao a).2.2=0):∀ (n:Nat) (l:List Int),(∀ x∈l,isB (aa a).1 x=true)→257≤n+dQ l→ik a (qr a n l)=true
 | 0,l,_,hn=>by have:=ya l; omega
 | n+1,l,hl,hn=>by
  unfold qr
  by_cases h:ik a l=true
  ·rw [if_pos h]; exact h
  rw [if_neg h]
  have hl2:∀ x∈nZ a l,isB (aa a).1 x=true:=by
   intro y hy
   unfold nZ at hy
   rcases List.mem_append.1 hy with hy | hy
   ·exact hl y hy
   ·obtain ⟨z,hz,hy⟩:=List.mem_flatMap.1 hy
    exact lz hw hc (hl z hz) hy
  refine n5 hw hc n _ hl2 ?_
  rw [je] at h
  have h:∃ x,x∈l∧∃ y,y∈du a x∧¬ y∈l:=by
   apply Classical.byContradiction
   intro hno
   apply h
   intro x hx y hy
   apply Classical.byContradiction
   intro hyl
   exact hno ⟨x,hx,y,hy,hyl⟩
  obtain ⟨x,hx,y,hy,hyl⟩:=h
  have hy2:y∈nZ a l:=by
   unfold nZ
   exact List.mem_append_right _ (List.mem_flatMap.2 ⟨x,hx,hy⟩)
  have hr:=fU (hl2 y hy2)
  have:=Gy (l:=l) (k:=nZ a l) (fun z hz=>by unfold nZ; simp [hz]) hy2 hyl hr.1 hr.2
  omega
theorem fR {a from_:List Int} (hw:∀ x∈a,ak .u64 x) (hc:(ao a).2.2=0) (hf:∀ x∈from_,isB (aa a).1 x=true) {x:Int}:x∈aY a from_ ↔ Rch a from_ x:=by
 unfold aY
 rw [gp]
 constructor
 ·intro h
  exact vR 257 from_ (fun y hy=>.base hy) x h.2.2
 ·intro h
  have hr:=fU (h.isB hw hc hf)
  refine ⟨hr.1,by omega,?_⟩
  have hcl:=je.1 (n5 hw hc 257 from_ hf (by omega))
  exact h.mem (vQ a 257 from_) hcl
theorem iy (a from_:List Int):(aY a from_).Pairwise (·<·):=pE _ _
structure Full (a from_ out:List Int):Prop where
 has:∀ x∈from_,x∈out
 only:∀ x∈out,Rch a from_ x
 all:∀ x∈out,∀ y∈du a x,y∈out
theorem Full.iff {a from_ out:List Int} (h:Full a from_ out) {x:Int}:x∈out ↔ Rch a from_ x:=⟨h.only x,fun hx=>hx.mem h.has h.all⟩
theorem Full.rising {a from_ out:List Int} (hw:∀ x∈a,ak .u64 x) (hc:(ao a).2.2=0) (hf:∀ x∈from_,isB (aa a).1 x=true) (h:Full a from_ out):a6 out 256=aY a from_:=by
 refine lw (pE _ _) (iy _ _) (fun x=>?_)
 rw [gp,fR hw hc hf,h.iff]
 exact ⟨fun hx=>hx.2.2,fun hx=>by have:=fU (hx.isB hw hc hf); exact ⟨this.1,by omega,hx⟩⟩
theorem Full.sorted {a from_ out:List Int} (hw:∀ x∈a,ak .u64 x) (hc:(ao a).2.2=0) (hf:∀ x∈from_,isB (aa a).1 x=true) (h:Full a from_ out) (hd:out.Nodup):dN out=aY a from_:=by
 refine lw ?_ (iy _ _) (fun x=>by rw [oO,fR hw hc hf,h.iff])
 have h1:=jJ out
 have h2:(dN out).Nodup:=(List.mergeSort_perm out _).nodup_iff.2 hd
 have h3:=h1.and h2
 exact h3.imp (fun ⟨x,y⟩=>by omega)
def aX (a from_:List Int):Int:=if (ao a).2.2≠0 then (ao a).2.2 else if from_.all (isB (aa a).1)=true then 0 else 5
def bJ (a from_:List Int):List Int×Int:=if aX a from_≠0 then ([],aX a from_) else (aY a from_,0)
theorem dE {a from_:List Int} (h:aX a from_=0):(ao a).2.2=0∧∀ x∈from_,isB (aa a).1 x=true:=by
 unfold aX at h
 split at h
 ·rename_i h1; exact absurd h h1
 ·rename_i h1
  split at h
  ·rename_i h2
   exact ⟨by omega,List.all_eq_true.1 h2⟩
  ·omega
theorem jW {a from_:List Int} (h1:(ao a).2.2=0) (h2:∀ x∈from_,isB (aa a).1 x=true):aX a from_=0:=by
 unfold aX
 rw [if_neg (by omega),if_pos (List.all_eq_true.2 h2)]
end Go.Proofs.YtglchojglcobjaaGreat
