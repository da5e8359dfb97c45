
import Derived.Test.YtcnoiiohmpgckaaSlide
import Derived.Test.YtcnoiiohmpgckaaRising
namespace Go.Proofs.Ytcnoiiohmpgckaa
open Go
def iz (a:List Int) (x:Int):List Int:=((gn a x).filter fun v=>decide (v≠0)).map (· - 1)
inductive Rch (a from_:List Int):Int→Prop
 | base {x:Int}:x∈from_→Rch a from_ x
 | step {x y:Int}:Rch a from_ x→y∈iz a x→Rch a from_ y
def l7 (a l:List Int):Bool:=l.all fun x=>(iz a x).all (dw l)
def lB (a l:List Int):List Int:=l++l.flatMap (iz a)
def nD (a:List Int):Nat→List Int→List Int
 | 0,l=>l
 | n+1,l=>if l7 a l=true then l else nD a n (lB a l)
def b9 (a from_:List Int):List Int:=bz (nD a 257 from_) 256
theorem jX {α:Type} {p q:α→Bool}:∀ (l:List α),(∀ x∈l,p x=true→q x=true)→(l.filter p).length≤(l.filter q).length
 | [],_=>by simp
 | x::l,h=>by
  have ih:=jX l (fun y hy=>h y (by simp [hy]))
  have hx:=h x (by simp)
  cases hp:p x
  ·rw [List.filter_cons_of_neg (by simp [hp])]
   cases hq:q x
   ·rw [List.filter_cons_of_neg (by simp [hq])]; exact ih
   ·rw [List.filter_cons_of_pos hq,List.length_cons]; omega
  ·rw [List.filter_cons_of_pos hp,List.filter_cons_of_pos (hx hp),List.length_cons,List.length_cons]; omega
theorem jW {α:Type} {p q:α→Bool}:∀ (l:List α),(∀ x∈l,p x=true→q x=true)→(∃ x∈l,p x=false∧q x=true)→(l.filter p).length<(l.filter q).length
 | [],_,h=>by obtain ⟨x,hx,_⟩:=h; cases hx
 | x::l,h,⟨y,hy,hp,hq⟩=>by
  have h':∀ y∈l,p y=true→q y=true:=fun y hy=>h y (by simp [hy])
  have le:=jX l h'
  rcases List.mem_cons.1 hy with rfl | hy
  ·rw [List.filter_cons_of_neg (by simp [hp]),List.filter_cons_of_pos hq,List.length_cons]; omega
  ·have ih:=jW l h' ⟨y,hy,hp,hq⟩
   have hx:=h x (by simp)
   cases hp:p x
   ·rw [List.filter_cons_of_neg (by simp [hp])]
    cases hq:q x
    ·rw [List.filter_cons_of_neg (by simp [hq])]; exact ih
    ·rw [List.filter_cons_of_pos hq,List.length_cons]; omega
   ·rw [List.filter_cons_of_pos hp,List.filter_cons_of_pos (hx hp),List.length_cons,List.length_cons]; omega
def ya (l:List Int):Nat:=(bz l 256).length
theorem Co (l:List Int):ya l≤256:=by
 have:=List.length_filter_le (dw l) ((List.range 256).map Int.ofNat)
 unfold ya bz
 simpa using this
theorem Cn {l k:List Int} (h:∀ x∈l,x∈k) {y:Int} (hy:y∈k) (hn:¬ y∈l) (h0:0≤y) (h1:y≤255):ya l<ya k:=by
 refine jW _ (fun x _ hx=>cT.2 (h x (cT.1 hx))) ⟨y,?_,?_,cT.2 hy⟩
 ·rw [List.mem_map]
  exact ⟨y.toNat,List.mem_range.2 (by omega),by simp only [Int.ofNat_eq_natCast]; omega⟩
 ·cases hl:dw l y
  ·rfl
  ·exact absurd (cT.1 hl) hn
theorem nJ {a l:List Int}:l7 a l=true ↔ ∀ x∈l,∀ y∈iz a x,y∈l:=by
 unfold l7
 simp only [List.all_eq_true,cT]
theorem mJ {a:List Int} {x:Int} (h:isB (aa a).1 x=true):0≤x∧x≤255:=d8 _ (AP h).1
theorem sD {a:List Int} (hw:∀ x∈a,am .u64 x) (hc:(ah a).2.2=0) {x y:Int} (hx:isB (aa a).1 x=true) (hy:y∈iz a x):isB (aa a).1 y=true:=by
 unfold iz at hy
 obtain ⟨v,hv,rfl⟩:=List.mem_map.1 hy
 obtain ⟨hv,h0⟩:=List.mem_filter.1 hv
 have h0:=of_decide_eq_true h0
 rcases xA hw hc _ (ig hx).1 v hv with e | ⟨_,_,e⟩
 ·exact absurd e h0
 ·exact e
theorem Rch.isB {a from_:List Int} (hw:∀ x∈a,am .u64 x) (hc:(ah a).2.2=0) (hf:∀ x∈from_,isB (aa a).1 x=true) {x:Int} (h:Rch a from_ x):isB (aa a).1 x=true:=by
 induction h with
 | base h=>exact hf _ h
 | step _ h ih=>exact sD hw hc ih h
theorem Rch.mem {a from_ l:List Int} (h1:∀ x∈from_,x∈l) (h2:∀ x∈l,∀ y∈iz a x,y∈l) {x:Int} (h:Rch a from_ x):x∈l:=by
 induction h with
 | base h=>exact h1 _ h
 | step _ h ih=>exact h2 _ ih _ h
theorem Rch.mono {a f g:List Int} (h:∀ x∈f,Rch a g x) {x:Int} (hx:Rch a f x):Rch a g x:=by
 induction hx with
 | base hx=>exact h _ hx
 | step _ hy ih=>exact .step ih hy
theorem sI (a:List Int):∀ (n:Nat) (l:List Int),∀ x∈l,x∈nD a n l
 | 0,_,_,h=>h
 | n+1,l,x,h=>by
  unfold nD
  split
  ·exact h
  ·exact sI a n _ x (by unfold lB; simp [h])
theorem sJ {a f:List Int}:∀ (n:Nat) (l:List Int),(∀ x∈l,Rch a f x)→∀ x∈nD a n l,Rch a f x
 | 0,_,h,x,hx=>h x hx
 | n+1,l,h,x,hx=>by
  unfold nD at hx
  split at hx
  ·exact h x hx
  ·refine sJ n _ (fun y hy=>?_) x hx
   unfold lB at hy
   rcases List.mem_append.1 hy with hy | hy
   ·exact h y hy
   ·obtain ⟨z,hz,hy⟩:=List.mem_flatMap.1 hy
    exact .step (h z hz) hy
theorem lG {a:List Int} (hw:∀ x∈a,am .u64 x) (hc:(ah a).2.2=0):∀ (n:Nat) (l:List Int),(∀ x∈l,isB (aa a).1 x=true)→257≤n+ya l→l7 a (nD a n l)=true
 | 0,l,_,hn=>by have:=Co l; omega
 | n+1,l,hl,hn=>by
  unfold nD
  by_cases h:l7 a l=true
  ·rw [if_pos h]; exact h
  rw [if_neg h]
  have hl2:∀ x∈lB a l,isB (aa a).1 x=true:=by
   intro y hy
   unfold lB at hy
   rcases List.mem_append.1 hy with hy | hy
   ·exact hl y hy
   ·obtain ⟨z,hz,hy⟩:=List.mem_flatMap.1 hy
    exact sD hw hc (hl z hz) hy
  refine lG hw hc n _ hl2 ?_
  rw [nJ] at h
  have h:∃ x,x∈l∧∃ y,y∈iz a x∧¬ y∈l:=by
   apply Classical.byContradiction
   intro hno
   apply h
   intro x hx y hy
   apply Classical.byContradiction
   intro hyl
   exact hno ⟨x,hx,y,hy,hyl⟩
  obtain ⟨x,hx,y,hy,hyl⟩:=h
  have hy2:y∈lB a l:=by
   unfold lB
   exact List.mem_append_right _ (List.mem_flatMap.2 ⟨x,hx,hy⟩)
  have hr:=mJ (hl2 y hy2)
  have:=Cn (l:=l) (k:=lB a l) (fun z hz=>by unfold lB; simp [hz]) hy2 hyl hr.1 hr.2
  omega
theorem jr {a from_:List Int} (hw:∀ x∈a,am .u64 x) (hc:(ah a).2.2=0) (hf:∀ x∈from_,isB (aa a).1 x=true) {x:Int}:x∈b9 a from_ ↔ Rch a from_ x:=by
 unfold b9
 rw [ib]
 constructor
 ·intro h
  exact sJ 257 from_ (fun y hy=>.base hy) x h.2.2
 ·intro h
  have hr:=mJ (h.isB hw hc hf)
  refine ⟨hr.1,by omega,?_⟩
  have hcl:=nJ.1 (lG hw hc 257 from_ hf (by omega))
  exact h.mem (sI a 257 from_) hcl
theorem kf (a from_:List Int):(b9 a from_).Pairwise (·<·):=vJ _ _
structure Full (a from_ out:List Int):Prop where
 has:∀ x∈from_,x∈out
 only:∀ x∈out,Rch a from_ x
 all:∀ x∈out,∀ y∈iz a x,y∈out
def bc (a from_:List Int):Int:=if (ah a).2.2≠0 then (ah a).2.2 else if from_.all (isB (aa a).1)=true then 0 else 5
theorem fv {a from_:List Int} (h:bc a from_=0):(ah a).2.2=0∧∀ x∈from_,isB (aa a).1 x=true:=by
 unfold bc at h
 split at h
 ·rename_i h1; exact absurd h h1
 ·rename_i h1
  split at h
  ·rename_i h2
   exact ⟨by omega,List.all_eq_true.1 h2⟩
  ·omega
theorem um {a from_:List Int} (h1:(ah a).2.2=0) (h2:∀ x∈from_,isB (aa a).1 x=true):bc a from_=0:=by
 unfold bc
 rw [if_neg (by omega),if_pos (List.all_eq_true.2 h2)]
end Go.Proofs.Ytcnoiiohmpgckaa
