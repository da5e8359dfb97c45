
import Derived.Test.YtcnoiiohmpgckaaSlide
import Derived.Test.YtcnoiiohmpgckaaRising
namespace Go.Proofs.Ytcnoiiohmpgckaa
open Go
def ak (a:List Int) (x:Int):List Int:=((gl a x).filter fun v=>decide (v≠0)).map (· - 1)
inductive Rch (a from_:List Int):Int→Prop
 | base {x:Int}:x∈from_→Rch a from_ x
 | step {x y:Int}:Rch a from_ x→y∈ak a x→Rch a from_ y
def jJ (a l:List Int):Bool:=l.all fun x=>(ak a x).all (aI l)
def jm (a l:List Int):List Int:=l++l.flatMap (ak a)
def lc (a:List Int):Nat→List Int→List Int
 | 0,l=>l
 | n+1,l=>if jJ a l=true then l else lc a n (jm a l)
def mi (a from_:List Int):List Int:=aA (lc a 257 from_) 256
theorem ia {α:Type} {p q:α→Bool}:∀ (l:List α),(∀ x∈l,p x=true→q x=true)→(l.filter p).length≤(l.filter q).length
 | [],_=>by simp
 | x::l,h=>by
  have ih:=ia l (fun y hy=>h y (by simp [hy]))
  have hx:=h x (by simp)
  cases hp:p x
  ·rw [List.filter_cons_of_neg (by simp [hp])]
   cases hq:q x
   ·rw [List.filter_cons_of_neg (by simp [hq])]; exact ih
   ·rw [List.filter_cons_of_pos hq,List.length_cons]; omega
  ·rw [List.filter_cons_of_pos hp,List.filter_cons_of_pos (hx hp),List.length_cons,List.length_cons]; omega
theorem hZ {α:Type} {p q:α→Bool}:∀ (l:List α),(∀ x∈l,p x=true→q x=true)→(∃ x∈l,p x=false∧q x=true)→(l.filter p).length<(l.filter q).length
 | [],_,h=>by obtain ⟨x,hx,_⟩:=h; cases hx
 | x::l,h,⟨y,hy,hp,hq⟩=>by
  have h':∀ y∈l,p y=true→q y=true:=fun y hy=>h y (by simp [hy])
  have le:=ia l h'
  rcases List.mem_cons.1 hy with rfl | hy
  ·rw [List.filter_cons_of_neg (by simp [hp]),List.filter_cons_of_pos hq,List.length_cons]; omega
  ·have ih:=hZ l h' ⟨y,hy,hp,hq⟩
   have hx:=h x (by simp)
   cases hp:p x
   ·rw [List.filter_cons_of_neg (by simp [hp])]
    cases hq:q x
    ·rw [List.filter_cons_of_neg (by simp [hq])]; exact ih
    ·rw [List.filter_cons_of_pos hq,List.length_cons]; omega
   ·rw [List.filter_cons_of_pos hp,List.filter_cons_of_pos (hx hp),List.length_cons,List.length_cons]; omega
def sy (l:List Int):Nat:=(aA l 256).length
theorem wE (l:List Int):sy l≤256:=by
 have:=List.length_filter_le (aI l) ((List.range 256).map Int.ofNat)
 unfold sy aA
 simpa using this
theorem wD {l k:List Int} (h:∀ x∈l,x∈k) {y:Int} (hy:y∈k) (hn:¬ y∈l) (h0:0≤y) (h1:y≤255):sy l<sy k:=by
 refine hZ _ (fun x _ hx=>aP.2 (h x (aP.1 hx))) ⟨y,?_,?_,aP.2 hy⟩
 ·rw [List.mem_map]
  exact ⟨y.toNat,List.mem_range.2 (by omega),by simp only [Int.ofNat_eq_natCast]; omega⟩
 ·cases hl:aI l y
  ·rfl
  ·exact absurd (aP.1 hl) hn
theorem lm {a l:List Int}:jJ a l=true ↔ ∀ x∈l,∀ y∈ak a x,y∈l:=by
 unfold jJ
 simp only [List.all_eq_true,aP]
theorem co {a:List Int} {x:Int} (h:isB (aa a).1 x=true):0≤x∧x≤255:=d8 _ (fw h).1
theorem gM {a:List Int} (hw:∀ x∈a,ai .u64 x) (hc:(au a).2.2=0) {x y:Int} (hx:isB (aa a).1 x=true) (hy:y∈ak a x):isB (aa a).1 y=true:=by
 unfold ak at hy
 obtain ⟨v,hv,rfl⟩:=List.mem_map.1 hy
 obtain ⟨hv,h0⟩:=List.mem_filter.1 hv
 have h0:=of_decide_eq_true h0
 rcases ip hw hc _ (lE hx).1 v hv with e | ⟨_,_,e⟩
 ·exact absurd e h0
 ·exact e
theorem Rch.isB {a from_:List Int} (hw:∀ x∈a,ai .u64 x) (hc:(au a).2.2=0) (hf:∀ x∈from_,isB (aa a).1 x=true) {x:Int} (h:Rch a from_ x):isB (aa a).1 x=true:=by
 induction h with
 | base h=>exact hf _ h
 | step _ h ih=>exact gM hw hc ih h
theorem Rch.mem {a from_ l:List Int} (h1:∀ x∈from_,x∈l) (h2:∀ x∈l,∀ y∈ak a x,y∈l) {x:Int} (h:Rch a from_ x):x∈l:=by
 induction h with
 | base h=>exact h1 _ h
 | step _ h ih=>exact h2 _ ih _ h
theorem Rch.mono {a f g:List Int} (h:∀ x∈f,Rch a g x) {x:Int} (hx:Rch a f x):Rch a g x:=by
 induction hx with
 | base hx=>exact h _ hx
 | step _ hy ih=>exact .step ih hy
theorem o6 (a:List Int):∀ (n:Nat) (l:List Int),∀ x∈l,x∈lc a n l
 | 0,_,_,h=>h
 | n+1,l,x,h=>by
  unfold lc
  split
  ·exact h
  ·exact o6 a n _ x (by unfold jm; simp [h])
theorem o7 {a f:List Int}:∀ (n:Nat) (l:List Int),(∀ x∈l,Rch a f x)→∀ x∈lc a n l,Rch a f x
 | 0,_,h,x,hx=>h x hx
 | n+1,l,h,x,hx=>by
  unfold lc at hx
  split at hx
  ·exact h x hx
  ·refine o7 n _ (fun y hy=>?_) x hx
   unfold jm at hy
   rcases List.mem_append.1 hy with hy | hy
   ·exact h y hy
   ·obtain ⟨z,hz,hy⟩:=List.mem_flatMap.1 hy
    exact .step (h z hz) hy
theorem jt {a:List Int} (hw:∀ x∈a,ai .u64 x) (hc:(au a).2.2=0):∀ (n:Nat) (l:List Int),(∀ x∈l,isB (aa a).1 x=true)→257≤n+sy l→jJ a (lc a n l)=true
 | 0,l,_,hn=>by have:=wE l; omega
 | n+1,l,hl,hn=>by
  unfold lc
  by_cases h:jJ a l=true
  ·rw [if_pos h]; exact h
  rw [if_neg h]
  have hl2:∀ x∈jm a l,isB (aa a).1 x=true:=by
   intro y hy
   unfold jm at hy
   rcases List.mem_append.1 hy with hy | hy
   ·exact hl y hy
   ·obtain ⟨z,hz,hy⟩:=List.mem_flatMap.1 hy
    exact gM hw hc (hl z hz) hy
  refine jt hw hc n _ hl2 ?_
  rw [lm] at h
  have h:∃ x,x∈l∧∃ y,y∈ak a x∧¬ y∈l:=by
   apply Classical.byContradiction
   intro hno
   apply h
   intro x hx y hy
   apply Classical.byContradiction
   intro hyl
   exact hno ⟨x,hx,y,hy,hyl⟩
  obtain ⟨x,hx,y,hy,hyl⟩:=h
  have hy2:y∈jm a l:=by
   unfold jm
   exact List.mem_append_right _ (List.mem_flatMap.2 ⟨x,hx,hy⟩)
  have hr:=co (hl2 y hy2)
  have:=wD (l:=l) (k:=jm a l) (fun z hz=>by unfold jm; simp [hz]) hy2 hyl hr.1 hr.2
  omega
theorem oI {a from_:List Int} (hw:∀ x∈a,ai .u64 x) (hc:(au a).2.2=0) (hf:∀ x∈from_,isB (aa a).1 x=true) {x:Int}:x∈mi a from_ ↔ Rch a from_ x:=by
 unfold mi
 rw [eJ]
 constructor
 ·intro h
  exact o7 257 from_ (fun y hy=>.base hy) x h.2.2
 ·intro h
  have hr:=co (h.isB hw hc hf)
  refine ⟨hr.1,by omega,?_⟩
  have hcl:=lm.1 (jt hw hc 257 from_ hf (by omega))
  exact h.mem (o6 a 257 from_) hcl
theorem mh (a from_:List Int):(mi a from_).Pairwise (·<·):=d9 _ _
structure Full (a from_ out:List Int):Prop where
 has:∀ x∈from_,x∈out
 only:∀ x∈out,Rch a from_ x
 all:∀ x∈out,∀ y∈ak a x,y∈out
theorem Full.iff {a from_ out:List Int} (h:Full a from_ out) {x:Int}:x∈out ↔ Rch a from_ x:=⟨h.only x,fun hx=>hx.mem h.has h.all⟩
theorem Full.rising {a from_ out:List Int} (hw:∀ x∈a,ai .u64 x) (hc:(au a).2.2=0) (hf:∀ x∈from_,isB (aa a).1 x=true) (h:Full a from_ out):aA out 256=mi a from_:=by
 refine eC (d9 _ _) (mh _ _) (fun x=>?_)
 rw [eJ,oI hw hc hf,h.iff]
 exact ⟨fun hx=>hx.2.2,fun hx=>by have:=co (hx.isB hw hc hf); exact ⟨this.1,by omega,hx⟩⟩
theorem Full.sorted {a from_ out:List Int} (hw:∀ x∈a,ai .u64 x) (hc:(au a).2.2=0) (hf:∀ x∈from_,isB (aa a).1 x=true) (h:Full a from_ out) (hd:out.Nodup):aU out=mi a from_:=by
 refine eC ?_ (mh _ _) (fun x=>by rw [gK,oI hw hc hf,h.iff])
 have h1:=ep out
 have h2:(aU out).Nodup:=(List.mergeSort_perm out _).nodup_iff.2 hd
 have h3:=h1.and h2
 exact h3.imp (fun ⟨x,y⟩=>by omega)
def cQ (a from_:List Int):Int:=if (au a).2.2≠0 then (au a).2.2 else if from_.all (isB (aa a).1)=true then 0 else 5
end Go.Proofs.Ytcnoiiohmpgckaa
