
import Derived.Test.YtcnoiiohmpgckaaSlide
import Derived.Test.YtcnoiiohmpgckaaRising
namespace Go.Proofs.Ytcnoiiohmpgckaa
open Go
def cu (a:List Int) (x:Int):List Int:=((dg a x).filter fun v=>decide (v≠0)).map (· - 1)
inductive Rch (a from_:List Int):Int→Prop
 | base {x:Int}:x∈from_→Rch a from_ x
 | step {x y:Int}:Rch a from_ x→y∈cu a x→Rch a from_ y
def eL (a l:List Int):Bool:=l.all fun x=>(cu a x).all (bA l)
def jh (a l:List Int):List Int:=l++l.flatMap (cu a)
def kU (a:List Int):Nat→List Int→List Int
 | 0,l=>l
 | n+1,l=>if eL a l=true then l else kU a n (jh a l)
def bi (a from_:List Int):List Int:=bT (kU a 257 from_) 256
theorem fB {α:Type} {p q:α→Bool}:∀ (l:List α),(∀ x∈l,p x=true→q x=true)→(l.filter p).length≤(l.filter q).length
 | [],_=>by simp
 | x::l,h=>by
  have ih:=fB l (fun y hy=>h y (by simp [hy]))
  have hx:=h x (by simp)
  cases hp:p x
  ·rw [List.filter_cons_of_neg (by simp [hp])]
   cases hq:q x
   ·rw [List.filter_cons_of_neg (by simp [hq])]; exact ih
   ·rw [List.filter_cons_of_pos hq,List.length_cons]; omega
  ·rw [List.filter_cons_of_pos hp,List.filter_cons_of_pos (hx hp),List.length_cons,List.length_cons]; omega
theorem fA {α:Type} {p q:α→Bool}:∀ (l:List α),(∀ x∈l,p x=true→q x=true)→(∃ x∈l,p x=false∧q x=true)→(l.filter p).length<(l.filter q).length
 | [],_,h=>by obtain ⟨x,hx,_⟩:=h; cases hx
 | x::l,h,⟨y,hy,hp,hq⟩=>by
  have h':∀ y∈l,p y=true→q y=true:=fun y hy=>h y (by simp [hy])
  have le:=fB l h'
  rcases List.mem_cons.1 hy with rfl | hy
  ·rw [List.filter_cons_of_neg (by simp [hp]),List.filter_cons_of_pos hq,List.length_cons]; omega
  ·have ih:=fA l h' ⟨y,hy,hp,hq⟩
   have hx:=h x (by simp)
   cases hp:p x
   ·rw [List.filter_cons_of_neg (by simp [hp])]
    cases hq:q x
    ·rw [List.filter_cons_of_neg (by simp [hq])]; exact ih
    ·rw [List.filter_cons_of_pos hq,List.length_cons]; omega
   ·rw [List.filter_cons_of_pos hp,List.filter_cons_of_pos (hx hp),List.length_cons,List.length_cons]; omega
def cm (l:List Int):Nat:=(bT l 256).length
theorem qu (l:List Int):cm l≤256:=by
 have:=List.length_filter_le (bA l) ((List.range 256).map Int.ofNat)
 unfold cm bT
 simpa using this
theorem sd {l k:List Int} (h:∀ x∈l,x∈k):cm l≤cm k :=
 fB _ (fun x _ hx=>bk.2 (h x (bk.1 hx)))
theorem wO {l k:List Int} (h:∀ x∈l,x∈k) {y:Int} (hy:y∈k) (hn:¬ y∈l) (h0:0≤y) (h1:y≤255):cm l<cm k:=by
 refine fA _ (fun x _ hx=>bk.2 (h x (bk.1 hx))) ⟨y,?_,?_,bk.2 hy⟩
 ·rw [List.mem_map]
  exact ⟨y.toNat,List.mem_range.2 (by omega),by simp only [Int.ofNat_eq_natCast]; omega⟩
 ·cases hl:bA l y
  ·rfl
  ·exact absurd (bk.1 hl) hn
theorem fw {a l:List Int}:eL a l=true ↔ ∀ x∈l,∀ y∈cu a x,y∈l:=by
 unfold eL
 simp only [List.all_eq_true,bk]
theorem dF {a:List Int} {x:Int} (h:isB (aa a).1 x=true):0≤x∧x≤255:=ep _ (mB h).1
theorem hI {a:List Int} (hw:∀ x∈a,aj .u64 x) (hc:(ao a).2.2=0) {x y:Int} (hx:isB (aa a).1 x=true) (hy:y∈cu a x):isB (aa a).1 y=true:=by
 unfold cu at hy
 obtain ⟨v,hv,rfl⟩:=List.mem_map.1 hy
 obtain ⟨hv,h0⟩:=List.mem_filter.1 hv
 have h0:=of_decide_eq_true h0
 rcases eV hw hc _ (ef hx).1 v hv with e | ⟨_,_,e⟩
 ·exact absurd e h0
 ·exact e
theorem Rch.isB {a from_:List Int} (hw:∀ x∈a,aj .u64 x) (hc:(ao a).2.2=0) (hf:∀ x∈from_,isB (aa a).1 x=true) {x:Int} (h:Rch a from_ x):isB (aa a).1 x=true:=by
 induction h with
 | base h=>exact hf _ h
 | step _ h ih=>exact hI hw hc ih h
theorem Rch.mem {a from_ l:List Int} (h1:∀ x∈from_,x∈l) (h2:∀ x∈l,∀ y∈cu a x,y∈l) {x:Int} (h:Rch a from_ x):x∈l:=by
 induction h with
 | base h=>exact h1 _ h
 | step _ h ih=>exact h2 _ ih _ h
theorem Rch.mono {a f g:List Int} (h:∀ x∈f,Rch a g x) {x:Int} (hx:Rch a f x):Rch a g x:=by
 induction hx with
 | base hx=>exact h _ hx
 | step _ hy ih=>exact .step ih hy
theorem oT (a:List Int):∀ (n:Nat) (l:List Int),∀ x∈l,x∈kU a n l
 | 0,_,_,h=>h
 | n+1,l,x,h=>by
  unfold kU
  split
  ·exact h
  ·exact oT a n _ x (by unfold jh; simp [h])
theorem oU {a f:List Int}:∀ (n:Nat) (l:List Int),(∀ x∈l,Rch a f x)→∀ x∈kU a n l,Rch a f x
 | 0,_,h,x,hx=>h x hx
 | n+1,l,h,x,hx=>by
  unfold kU at hx
  split at hx
  ·exact h x hx
  ·refine oU n _ (fun y hy=>?_) x hx
   unfold jh at hy
   rcases List.mem_append.1 hy with hy | hy
   ·exact h y hy
   ·obtain ⟨z,hz,hy⟩:=List.mem_flatMap.1 hy
    exact .step (h z hz) hy
theorem jn {a:List Int} (hw:∀ x∈a,aj .u64 x) (hc:(ao a).2.2=0):∀ (n:Nat) (l:List Int),(∀ x∈l,isB (aa a).1 x=true)→257≤n+cm l→eL a (kU a n l)=true
 | 0,l,_,hn=>by have:=qu l; omega
 | n+1,l,hl,hn=>by
  unfold kU
  by_cases h:eL a l=true
  ·rw [if_pos h]; exact h
  rw [if_neg h]
  have hl2:∀ x∈jh a l,isB (aa a).1 x=true:=by
   intro y hy
   unfold jh at hy
   rcases List.mem_append.1 hy with hy | hy
   ·exact hl y hy
   ·obtain ⟨z,hz,hy⟩:=List.mem_flatMap.1 hy
    exact hI hw hc (hl z hz) hy
  refine jn hw hc n _ hl2 ?_
  rw [fw] at h
  have h:∃ x,x∈l∧∃ y,y∈cu a x∧¬ y∈l:=by
   apply Classical.byContradiction
   intro hno
   apply h
   intro x hx y hy
   apply Classical.byContradiction
   intro hyl
   exact hno ⟨x,hx,y,hy,hyl⟩
  obtain ⟨x,hx,y,hy,hyl⟩:=h
  have hy2:y∈jh a l:=by
   unfold jh
   exact List.mem_append_right _ (List.mem_flatMap.2 ⟨x,hx,hy⟩)
  have hr:=dF (hl2 y hy2)
  have:=wO (l:=l) (k:=jh a l) (fun z hz=>by unfold jh; simp [hz]) hy2 hyl hr.1 hr.2
  omega
theorem jW {a from_:List Int} (hw:∀ x∈a,aj .u64 x) (hc:(ao a).2.2=0) (hf:∀ x∈from_,isB (aa a).1 x=true) {x:Int}:x∈bi a from_ ↔ Rch a from_ x:=by
 unfold bi
 rw [l7]
 constructor
 ·intro h
  exact oU 257 from_ (fun y hy=>.base hy) x h.2.2
 ·intro h
  have hr:=dF (h.isB hw hc hf)
  refine ⟨hr.1,by omega,?_⟩
  have hcl:=fw.1 (jn hw hc 257 from_ hf (by omega))
  exact h.mem (oT a 257 from_) hcl
theorem l9 (a from_:List Int):(bi a from_).Pairwise (·<·):=kC _ _
theorem pP (a from_:List Int):(bi a from_).length≤256:=qu _
structure Full (a from_ out:List Int):Prop where
 has:∀ x∈from_,x∈out
 only:∀ x∈out,Rch a from_ x
 all:∀ x∈out,∀ y∈cu a x,y∈out
theorem Full.iff {a from_ out:List Int} (h:Full a from_ out) {x:Int}:x∈out ↔ Rch a from_ x:=⟨h.only x,fun hx=>hx.mem h.has h.all⟩
theorem Full.rising {a from_ out:List Int} (hw:∀ x∈a,aj .u64 x) (hc:(ao a).2.2=0) (hf:∀ x∈from_,isB (aa a).1 x=true) (h:Full a from_ out):bT out 256=bi a from_:=by
 refine jV (kC _ _) (l9 _ _) (fun x=>?_)
 rw [l7,jW hw hc hf,h.iff]
 exact ⟨fun hx=>hx.2.2,fun hx=>by have:=dF (hx.isB hw hc hf); exact ⟨this.1,by omega,hx⟩⟩
theorem Full.sorted {a from_ out:List Int} (hw:∀ x∈a,aj .u64 x) (hc:(ao a).2.2=0) (hf:∀ x∈from_,isB (aa a).1 x=true) (h:Full a from_ out) (hd:out.Nodup):dW out=bi a from_:=by
 refine jV ?_ (l9 _ _) (fun x=>by rw [om,jW hw hc hf,h.iff])
 have h1:=iU out
 have h2:(dW out).Nodup:=(List.mergeSort_perm out _).nodup_iff.2 hd
 have h3:=h1.and h2
 exact h3.imp (fun ⟨x,y⟩=>by omega)
def am (a from_:List Int):Int:=if (ao a).2.2≠0 then (ao a).2.2 else if from_.all (isB (aa a).1)=true then 0 else 5
def ay (a from_:List Int):List Int×Int:=if am a from_≠0 then ([],am a from_) else (bi a from_,0)
theorem gb {a from_:List Int} (h:am a from_=0):(ao a).2.2=0∧∀ x∈from_,isB (aa a).1 x=true:=by
 unfold am at h
 split at h
 ·rename_i h1; exact absurd h h1
 ·rename_i h1
  split at h
  ·rename_i h2
   exact ⟨by omega,List.all_eq_true.1 h2⟩
  ·omega
theorem jt {a from_:List Int} (h1:(ao a).2.2=0) (h2:∀ x∈from_,isB (aa a).1 x=true):am a from_=0:=by
 unfold am
 rw [if_neg (by omega),if_pos (List.all_eq_true.2 h2)]
end Go.Proofs.Ytcnoiiohmpgckaa
