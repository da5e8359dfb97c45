
import Derived.Test.YtcnoiiohmpgckaaSlide
import Derived.Test.YtcnoiiohmpgckaaRising
namespace Go.Proofs.Ytcnoiiohmpgckaa
open Go
def bc (a:List Int) (x:Int):List Int:=((d5 a x).filter fun v=>decide (v≠0)).map (· - 1)
inductive Rch (a from_:List Int):Int→Prop
 | base {x:Int}:x∈from_→Rch a from_ x
 | step {x y:Int}:Rch a from_ x→y∈bc a x→Rch a from_ y
def iJ (a l:List Int):Bool:=l.all fun x=>(bc a x).all (bf l)
def ip (a l:List Int):List Int:=l++l.flatMap (bc a)
def jK (a:List Int):Nat→List Int→List Int
 | 0,l=>l
 | n+1,l=>if iJ a l=true then l else jK a n (ip a l)
def i5 (a from_:List Int):List Int:=bi (jK a 257 from_) 256
theorem gv {α:Type} {p q:α→Bool}:∀ (l:List α),(∀ x∈l,p x=true→q x=true)→(l.filter p).length≤(l.filter q).length
 | [],_=>by simp
 | x::l,h=>by
  have ih:=gv l (fun y hy=>h y (by simp [hy]))
  have hx:=h x (by simp)
  cases hp:p x
  ·rw [List.filter_cons_of_neg (by simp [hp])]
   cases hq:q x
   ·rw [List.filter_cons_of_neg (by simp [hq])]; exact ih
   ·rw [List.filter_cons_of_pos hq,List.length_cons]; omega
  ·rw [List.filter_cons_of_pos hp,List.filter_cons_of_pos (hx hp),List.length_cons,List.length_cons]; omega
theorem gu {α:Type} {p q:α→Bool}:∀ (l:List α),(∀ x∈l,p x=true→q x=true)→(∃ x∈l,p x=false∧q x=true)→(l.filter p).length<(l.filter q).length
 | [],_,h=>by obtain ⟨x,hx,_⟩:=h; cases hx
 | x::l,h,⟨y,hy,hp,hq⟩=>by
  have h':∀ y∈l,p y=true→q y=true:=fun y hy=>h y (by simp [hy])
  have le:=gv l h'
  rcases List.mem_cons.1 hy with rfl | hy
  ·rw [List.filter_cons_of_neg (by simp [hp]),List.filter_cons_of_pos hq,List.length_cons]; omega
  ·have ih:=gu l h' ⟨y,hy,hp,hq⟩
   have hx:=h x (by simp)
   cases hp:p x
   ·rw [List.filter_cons_of_neg (by simp [hp])]
    cases hq:q x
    ·rw [List.filter_cons_of_neg (by simp [hq])]; exact ih
    ·rw [List.filter_cons_of_pos hq,List.length_cons]; omega
   ·rw [List.filter_cons_of_pos hp,List.filter_cons_of_pos (hx hp),List.length_cons,List.length_cons]; omega
def rq (l:List Int):Nat:=(bi l 256).length
theorem vz (l:List Int):rq l≤256:=by
 have:=List.length_filter_le (bf l) ((List.range 256).map Int.ofNat)
 unfold rq bi
 simpa using this
theorem vw {l k:List Int} (h:∀ x∈l,x∈k) {y:Int} (hy:y∈k) (hn:¬ y∈l) (h0:0≤y) (h1:y≤255):rq l<rq k:=by
 refine gu _ (fun x _ hx=>dg.2 (h x (dg.1 hx))) ⟨y,?_,?_,dg.2 hy⟩
 ·rw [List.mem_map]
  exact ⟨y.toNat,List.mem_range.2 (by omega),by simp only [Int.ofNat_eq_natCast]; omega⟩
 ·cases hl:bf l y
  ·rfl
  ·exact absurd (dg.1 hl) hn
theorem jP {a l:List Int}:iJ a l=true ↔ ∀ x∈l,∀ y∈bc a x,y∈l:=by
 unfold iJ
 simp only [List.all_eq_true,dg]
theorem eQ {a:List Int} {x:Int} (h:isB (aa a).1 x=true):0≤x∧x≤255:=dy _ (pO h).1
theorem nb {a:List Int} (hw:∀ x∈a,ah .u64 x) (hc:(ar a).2.2=0) {x y:Int} (hx:isB (aa a).1 x=true) (hy:y∈bc a x):isB (aa a).1 y=true:=by
 unfold bc at hy
 obtain ⟨v,hv,rfl⟩:=List.mem_map.1 hy
 obtain ⟨hv,h0⟩:=List.mem_filter.1 hv
 have h0:=of_decide_eq_true h0
 rcases eZ hw hc _ (io hx).1 v hv with e | ⟨_,_,e⟩
 ·exact absurd e h0
 ·exact e
theorem Rch.isB {a from_:List Int} (hw:∀ x∈a,ah .u64 x) (hc:(ar a).2.2=0) (hf:∀ x∈from_,isB (aa a).1 x=true) {x:Int} (h:Rch a from_ x):isB (aa a).1 x=true:=by
 induction h with
 | base h=>exact hf _ h
 | step _ h ih=>exact nb hw hc ih h
theorem Rch.mem {a from_ l:List Int} (h1:∀ x∈from_,x∈l) (h2:∀ x∈l,∀ y∈bc a x,y∈l) {x:Int} (h:Rch a from_ x):x∈l:=by
 induction h with
 | base h=>exact h1 _ h
 | step _ h ih=>exact h2 _ ih _ h
theorem Rch.mono {a f g:List Int} (h:∀ x∈f,Rch a g x) {x:Int} (hx:Rch a f x):Rch a g x:=by
 induction hx with
 | base hx=>exact h _ hx
 | step _ hy ih=>exact .step ih hy
theorem nh (a:List Int):∀ (n:Nat) (l:List Int),∀ x∈l,x∈jK a n l
 | 0,_,_,h=>h
 | n+1,l,x,h=>by
  unfold jK
  split
  ·exact h
  ·exact nh a n _ x (by unfold ip; simp [h])
theorem ni {a f:List Int}:∀ (n:Nat) (l:List Int),(∀ x∈l,Rch a f x)→∀ x∈jK a n l,Rch a f x
 | 0,_,h,x,hx=>h x hx
 | n+1,l,h,x,hx=>by
  unfold jK at hx
  split at hx
  ·exact h x hx
  ·refine ni n _ (fun y hy=>?_) x hx
   unfold ip at hy
   rcases List.mem_append.1 hy with hy | hy
   ·exact h y hy
   ·obtain ⟨z,hz,hy⟩:=List.mem_flatMap.1 hy
    exact .step (h z hz) hy
theorem iw {a:List Int} (hw:∀ x∈a,ah .u64 x) (hc:(ar a).2.2=0):∀ (n:Nat) (l:List Int),(∀ x∈l,isB (aa a).1 x=true)→257≤n+rq l→iJ a (jK a n l)=true
 | 0,l,_,hn=>by have:=vz l; omega
 | n+1,l,hl,hn=>by
  unfold jK
  by_cases h:iJ a l=true
  ·rw [if_pos h]; exact h
  rw [if_neg h]
  have hl2:∀ x∈ip a l,isB (aa a).1 x=true:=by
   intro y hy
   unfold ip at hy
   rcases List.mem_append.1 hy with hy | hy
   ·exact hl y hy
   ·obtain ⟨z,hz,hy⟩:=List.mem_flatMap.1 hy
    exact nb hw hc (hl z hz) hy
  refine iw hw hc n _ hl2 ?_
  rw [jP] at h
  have h:∃ x,x∈l∧∃ y,y∈bc a x∧¬ y∈l:=by
   apply Classical.byContradiction
   intro hno
   apply h
   intro x hx y hy
   apply Classical.byContradiction
   intro hyl
   exact hno ⟨x,hx,y,hy,hyl⟩
  obtain ⟨x,hx,y,hy,hyl⟩:=h
  have hy2:y∈ip a l:=by
   unfold ip
   exact List.mem_append_right _ (List.mem_flatMap.2 ⟨x,hx,hy⟩)
  have hr:=eQ (hl2 y hy2)
  have:=vw (l:=l) (k:=ip a l) (fun z hz=>by unfold ip; simp [hz]) hy2 hyl hr.1 hr.2
  omega
theorem sI {a from_:List Int} (hw:∀ x∈a,ah .u64 x) (hc:(ar a).2.2=0) (hf:∀ x∈from_,isB (aa a).1 x=true) {x:Int}:x∈i5 a from_ ↔ Rch a from_ x:=by
 unfold i5
 rw [kG]
 constructor
 ·intro h
  exact ni 257 from_ (fun y hy=>.base hy) x h.2.2
 ·intro h
  have hr:=eQ (h.isB hw hc hf)
  refine ⟨hr.1,by omega,?_⟩
  have hcl:=jP.1 (iw hw hc 257 from_ hf (by omega))
  exact h.mem (nh a 257 from_) hcl
theorem qO (a from_:List Int):(i5 a from_).Pairwise (·<·):=jv _ _
structure Full (a from_ out:List Int):Prop where
 has:∀ x∈from_,x∈out
 only:∀ x∈out,Rch a from_ x
 all:∀ x∈out,∀ y∈bc a x,y∈out
theorem Full.iff {a from_ out:List Int} (h:Full a from_ out) {x:Int}:x∈out ↔ Rch a from_ x:=⟨h.only x,fun hx=>hx.mem h.has h.all⟩
theorem Full.sorted {a from_ out:List Int} (hw:∀ x∈a,ah .u64 x) (hc:(ar a).2.2=0) (hf:∀ x∈from_,isB (aa a).1 x=true) (h:Full a from_ out) (hd:out.Nodup):br out=i5 a from_:=by
 refine iZ ?_ (qO _ _) (fun x=>by rw [iT,sI hw hc hf,h.iff])
 have h1:=eX out
 have h2:(br out).Nodup:=(List.mergeSort_perm out _).nodup_iff.2 hd
 have h3:=h1.and h2
 exact h3.imp (fun ⟨x,y⟩=>by omega)
def aH (a from_:List Int):Int:=if (ar a).2.2≠0 then (ar a).2.2 else if from_.all (isB (aa a).1)=true then 0 else 5
def bj (a from_:List Int):List Int×Int:=if aH a from_≠0 then ([],aH a from_) else (i5 a from_,0)
theorem oo {a from_:List Int} (h1:(ar a).2.2=0) (h2:∀ x∈from_,isB (aa a).1 x=true):aH a from_=0:=by
 unfold aH
 rw [if_neg (by omega),if_pos (List.all_eq_true.2 h2)]
end Go.Proofs.Ytcnoiiohmpgckaa
