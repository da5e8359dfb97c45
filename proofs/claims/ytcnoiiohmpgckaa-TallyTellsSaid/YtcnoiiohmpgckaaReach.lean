
import Derived.Test.YtcnoiiohmpgckaaSlide
import Derived.Test.YtcnoiiohmpgckaaRising
namespace Go.Proofs.Ytcnoiiohmpgckaa
open Go
def ay (a:List Int) (x:Int):List Int:=((ch a x).filter fun v=>decide (v≠0)).map (· - 1)
inductive Rch (a from_:List Int):Int→Prop
 | base {x:Int}:x∈from_→Rch a from_ x
 | step {x y:Int}:Rch a from_ x→y∈ay a x→Rch a from_ y
def eB (a l:List Int):Bool:=l.all fun x=>(ay a x).all (bp l)
def iR (a l:List Int):List Int:=l++l.flatMap (ay a)
def kv (a:List Int):Nat→List Int→List Int
 | 0,l=>l
 | n+1,l=>if eB a l=true then l else kv a n (iR a l)
def cp (a from_:List Int):List Int:=bv (kv a 257 from_) 256
theorem fm {α:Type} {p q:α→Bool}:∀ (l:List α),(∀ x∈l,p x=true→q x=true)→(l.filter p).length≤(l.filter q).length
 | [],_=>by simp
 | x::l,h=>by
  have ih:=fm l (fun y hy=>h y (by simp [hy]))
  have hx:=h x (by simp)
  cases hp:p x
  ·rw [List.filter_cons_of_neg (by simp [hp])]
   cases hq:q x
   ·rw [List.filter_cons_of_neg (by simp [hq])]; exact ih
   ·rw [List.filter_cons_of_pos hq,List.length_cons]; omega
  ·rw [List.filter_cons_of_pos hp,List.filter_cons_of_pos (hx hp),List.length_cons,List.length_cons]; omega
theorem g8 {α:Type} {p q:α→Bool}:∀ (l:List α),(∀ x∈l,p x=true→q x=true)→(∃ x∈l,p x=false∧q x=true)→(l.filter p).length<(l.filter q).length
 | [],_,h=>by obtain ⟨x,hx,_⟩:=h; cases hx
 | x::l,h,⟨y,hy,hp,hq⟩=>by
  have h':∀ y∈l,p y=true→q y=true:=fun y hy=>h y (by simp [hy])
  have le:=fm l h'
  rcases List.mem_cons.1 hy with rfl | hy
  ·rw [List.filter_cons_of_neg (by simp [hp]),List.filter_cons_of_pos hq,List.length_cons]; omega
  ·have ih:=g8 l h' ⟨y,hy,hp,hq⟩
   have hx:=h x (by simp)
   cases hp:p x
   ·rw [List.filter_cons_of_neg (by simp [hp])]
    cases hq:q x
    ·rw [List.filter_cons_of_neg (by simp [hq])]; exact ih
    ·rw [List.filter_cons_of_pos hq,List.length_cons]; omega
   ·rw [List.filter_cons_of_pos hp,List.filter_cons_of_pos (hx hp),List.length_cons,List.length_cons]; omega
def cj (l:List Int):Nat:=(bv l 256).length
theorem rR (l:List Int):cj l≤256:=by
 have:=List.length_filter_le (bp l) ((List.range 256).map Int.ofNat)
 unfold cj bv
 simpa using this
theorem qP {l k:List Int} (h:∀ x∈l,x∈k):cj l≤cj k :=
 fm _ (fun x _ hx=>bi.2 (h x (bi.1 hx)))
theorem uM {l k:List Int} (h:∀ x∈l,x∈k) {y:Int} (hy:y∈k) (hn:¬ y∈l) (h0:0≤y) (h1:y≤255):cj l<cj k:=by
 refine g8 _ (fun x _ hx=>bi.2 (h x (bi.1 hx))) ⟨y,?_,?_,bi.2 hy⟩
 ·rw [List.mem_map]
  exact ⟨y.toNat,List.mem_range.2 (by omega),by simp only [Int.ofNat_eq_natCast]; omega⟩
 ·cases hl:bp l y
  ·rfl
  ·exact absurd (bi.1 hl) hn
theorem fj {a l:List Int}:eB a l=true ↔ ∀ x∈l,∀ y∈ay a x,y∈l:=by
 unfold eB
 simp only [List.all_eq_true,bi]
theorem cq {a:List Int} {x:Int} (h:isB (aa a).1 x=true):0≤x∧x≤255:=d9 _ (qp h).1
theorem jz {a:List Int} (hw:∀ x∈a,aj .u64 x) (hc:(ao a).2.2=0) {x y:Int} (hx:isB (aa a).1 x=true) (hy:y∈ay a x):isB (aa a).1 y=true:=by
 unfold ay at hy
 obtain ⟨v,hv,rfl⟩:=List.mem_map.1 hy
 obtain ⟨hv,h0⟩:=List.mem_filter.1 hv
 have h0:=of_decide_eq_true h0
 rcases dr hw hc _ (er hx).1 v hv with e | ⟨_,_,e⟩
 ·exact absurd e h0
 ·exact e
theorem Rch.isB {a from_:List Int} (hw:∀ x∈a,aj .u64 x) (hc:(ao a).2.2=0) (hf:∀ x∈from_,isB (aa a).1 x=true) {x:Int} (h:Rch a from_ x):isB (aa a).1 x=true:=by
 induction h with
 | base h=>exact hf _ h
 | step _ h ih=>exact jz hw hc ih h
theorem Rch.mem {a from_ l:List Int} (h1:∀ x∈from_,x∈l) (h2:∀ x∈l,∀ y∈ay a x,y∈l) {x:Int} (h:Rch a from_ x):x∈l:=by
 induction h with
 | base h=>exact h1 _ h
 | step _ h ih=>exact h2 _ ih _ h
theorem Rch.mono {a f g:List Int} (h:∀ x∈f,Rch a g x) {x:Int} (hx:Rch a f x):Rch a g x:=by
 induction hx with
 | base hx=>exact h _ hx
 | step _ hy ih=>exact .step ih hy
theorem nX (a:List Int):∀ (n:Nat) (l:List Int),∀ x∈l,x∈kv a n l
 | 0,_,_,h=>h
 | n+1,l,x,h=>by
  unfold kv
  split
  ·exact h
  ·exact nX a n _ x (by unfold iR; simp [h])
theorem nY {a f:List Int}:∀ (n:Nat) (l:List Int),(∀ x∈l,Rch a f x)→∀ x∈kv a n l,Rch a f x
 | 0,_,h,x,hx=>h x hx
 | n+1,l,h,x,hx=>by
  unfold kv at hx
  split at hx
  ·exact h x hx
  ·refine nY n _ (fun y hy=>?_) x hx
   unfold iR at hy
   rcases List.mem_append.1 hy with hy | hy
   ·exact h y hy
   ·obtain ⟨z,hz,hy⟩:=List.mem_flatMap.1 hy
    exact .step (h z hz) hy
theorem iX {a:List Int} (hw:∀ x∈a,aj .u64 x) (hc:(ao a).2.2=0):∀ (n:Nat) (l:List Int),(∀ x∈l,isB (aa a).1 x=true)→257≤n+cj l→eB a (kv a n l)=true
 | 0,l,_,hn=>by have:=rR l; omega
 | n+1,l,hl,hn=>by
  unfold kv
  by_cases h:eB a l=true
  ·rw [if_pos h]; exact h
  rw [if_neg h]
  have hl2:∀ x∈iR a l,isB (aa a).1 x=true:=by
   intro y hy
   unfold iR at hy
   rcases List.mem_append.1 hy with hy | hy
   ·exact hl y hy
   ·obtain ⟨z,hz,hy⟩:=List.mem_flatMap.1 hy
    exact jz hw hc (hl z hz) hy
  refine iX hw hc n _ hl2 ?_
  rw [fj] at h
  have h:∃ x,x∈l∧∃ y,y∈ay a x∧¬ y∈l:=by
   apply Classical.byContradiction
   intro hno
   apply h
   intro x hx y hy
   apply Classical.byContradiction
   intro hyl
   exact hno ⟨x,hx,y,hy,hyl⟩
  obtain ⟨x,hx,y,hy,hyl⟩:=h
  have hy2:y∈iR a l:=by
   unfold iR
   exact List.mem_append_right _ (List.mem_flatMap.2 ⟨x,hx,hy⟩)
  have hr:=cq (hl2 y hy2)
  have:=uM (l:=l) (k:=iR a l) (fun z hz=>by unfold iR; simp [hz]) hy2 hyl hr.1 hr.2
  omega
theorem nG {a from_:List Int} (hw:∀ x∈a,aj .u64 x) (hc:(ao a).2.2=0) (hf:∀ x∈from_,isB (aa a).1 x=true) {x:Int}:x∈cp a from_ ↔ Rch a from_ x:=by
 unfold cp
 rw [fM]
 constructor
 ·intro h
  exact nY 257 from_ (fun y hy=>.base hy) x h.2.2
 ·intro h
  have hr:=cq (h.isB hw hc hf)
  refine ⟨hr.1,by omega,?_⟩
  have hcl:=fj.1 (iX hw hc 257 from_ hf (by omega))
  exact h.mem (nX a 257 from_) hcl
theorem ly (a from_:List Int):(cp a from_).Pairwise (·<·):=ed _ _
structure Full (a from_ out:List Int):Prop where
 has:∀ x∈from_,x∈out
 only:∀ x∈out,Rch a from_ x
 all:∀ x∈out,∀ y∈ay a x,y∈out
theorem Full.iff {a from_ out:List Int} (h:Full a from_ out) {x:Int}:x∈out ↔ Rch a from_ x:=⟨h.only x,fun hx=>hx.mem h.has h.all⟩
theorem Full.rising {a from_ out:List Int} (hw:∀ x∈a,aj .u64 x) (hc:(ao a).2.2=0) (hf:∀ x∈from_,isB (aa a).1 x=true) (h:Full a from_ out):bv out 256=cp a from_:=by
 refine fw (ed _ _) (ly _ _) (fun x=>?_)
 rw [fM,nG hw hc hf,h.iff]
 exact ⟨fun hx=>hx.2.2,fun hx=>by have:=cq (hx.isB hw hc hf); exact ⟨this.1,by omega,hx⟩⟩
theorem Full.sorted {a from_ out:List Int} (hw:∀ x∈a,aj .u64 x) (hc:(ao a).2.2=0) (hf:∀ x∈from_,isB (aa a).1 x=true) (h:Full a from_ out) (hd:out.Nodup):db out=cp a from_:=by
 refine fw ?_ (ly _ _) (fun x=>by rw [jt,nG hw hc hf,h.iff])
 have h1:=fK out
 have h2:(db out).Nodup:=(List.mergeSort_perm out _).nodup_iff.2 hd
 have h3:=h1.and h2
 exact h3.imp (fun ⟨x,y⟩=>by omega)
def an (a from_:List Int):Int:=if (ao a).2.2≠0 then (ao a).2.2 else if from_.all (isB (aa a).1)=true then 0 else 5
def bn (a from_:List Int):List Int×Int:=if an a from_≠0 then ([],an a from_) else (cp a from_,0)
theorem i9 {a from_:List Int} (h:an a from_=0):(ao a).2.2=0∧∀ x∈from_,isB (aa a).1 x=true:=by
 unfold an at h
 split at h
 ·rename_i h1; exact absurd h h1
 ·rename_i h1
  split at h
  ·rename_i h2
   exact ⟨by omega,List.all_eq_true.1 h2⟩
  ·omega
theorem ev {a from_:List Int} (h1:(ao a).2.2=0) (h2:∀ x∈from_,isB (aa a).1 x=true):an a from_=0:=by
 unfold an
 rw [if_neg (by omega),if_pos (List.all_eq_true.2 h2)]
end Go.Proofs.Ytcnoiiohmpgckaa
