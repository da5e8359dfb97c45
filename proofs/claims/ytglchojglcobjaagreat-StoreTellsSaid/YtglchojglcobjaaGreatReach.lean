
import Derived.Test.YtglchojglcobjaaGreatSlide
import Derived.Test.YtglchojglcobjaaGreatRising
namespace Go.Proofs.YtglchojglcobjaaGreat
open Go
def outsA (a:List Int) (x:Int):List Int:=((refsA a x).filter fun v=>decide (v≠0)).map (· - 1)
inductive Rch (a from_:List Int):Int→Prop
 | base {x:Int}:x∈from_→Rch a from_ x
 | step {x y:Int}:Rch a from_ x→y∈outsA a x→Rch a from_ y
def closedR (a l:List Int):Bool:=l.all fun x=>(outsA a x).all (inL l)
def moreR (a l:List Int):List Int:=l++l.flatMap (outsA a)
def iterR (a:List Int):Nat→List Int→List Int
 | 0,l=>l
 | n+1,l=>if closedR a l=true then l else iterR a n (moreR a l)
def reachL (a from_:List Int):List Int:=risingL (iterR a 257 from_) 256
theorem filter_len_le {α:Type} {p q:α→Bool}:∀ (l:List α),(∀ x∈l,p x=true→q x=true)→(l.filter p).length≤(l.filter q).length
 | [],_=>by simp
 | x::l,h=>by
  have ih:=filter_len_le l (fun y hy=>h y (by simp [hy]))
  have hx:=h x (by simp)
  cases hp:p x
  ·rw [List.filter_cons_of_neg (by simp [hp])]
   cases hq:q x
   ·rw [List.filter_cons_of_neg (by simp [hq])]; exact ih
   ·rw [List.filter_cons_of_pos hq,List.length_cons]; omega
  ·rw [List.filter_cons_of_pos hp,List.filter_cons_of_pos (hx hp),List.length_cons,List.length_cons]; omega
theorem filter_len_lt {α:Type} {p q:α→Bool}:∀ (l:List α),(∀ x∈l,p x=true→q x=true)→(∃ x∈l,p x=false∧q x=true)→(l.filter p).length<(l.filter q).length
 | [],_,h=>by obtain ⟨x,hx,_⟩:=h; cases hx
 | x::l,h,⟨y,hy,hp,hq⟩=>by
  have h':∀ y∈l,p y=true→q y=true:=fun y hy=>h y (by simp [hy])
  have le:=filter_len_le l h'
  rcases List.mem_cons.1 hy with rfl | hy
  ·rw [List.filter_cons_of_neg (by simp [hp]),List.filter_cons_of_pos hq,List.length_cons]; omega
  ·have ih:=filter_len_lt l h' ⟨y,hy,hp,hq⟩
   have hx:=h x (by simp)
   cases hp:p x
   ·rw [List.filter_cons_of_neg (by simp [hp])]
    cases hq:q x
    ·rw [List.filter_cons_of_neg (by simp [hq])]; exact ih
    ·rw [List.filter_cons_of_pos hq,List.length_cons]; omega
   ·rw [List.filter_cons_of_pos hp,List.filter_cons_of_pos (hx hp),List.length_cons,List.length_cons]; omega
def cntR (l:List Int):Nat:=(risingL l 256).length
theorem cnt_le (l:List Int):cntR l≤256:=by
 have:=List.length_filter_le (inL l) ((List.range 256).map Int.ofNat)
 unfold cntR risingL
 simpa using this
theorem cnt_mono {l k:List Int} (h:∀ x∈l,x∈k):cntR l≤cntR k :=
 filter_len_le _ (fun x _ hx=>inL_iff.2 (h x (inL_iff.1 hx)))
theorem cnt_lt {l k:List Int} (h:∀ x∈l,x∈k) {y:Int} (hy:y∈k) (hn:¬ y∈l) (h0:0≤y) (h1:y≤255):cntR l<cntR k:=by
 refine filter_len_lt _ (fun x _ hx=>inL_iff.2 (h x (inL_iff.1 hx))) ⟨y,?_,?_,inL_iff.2 hy⟩
 ·rw [List.mem_map]
  exact ⟨y.toNat,List.mem_range.2 (by omega),by simp only [Int.ofNat_eq_natCast]; omega⟩
 ·cases hl:inL l y
  ·rfl
  ·exact absurd (inL_iff.1 hl) hn
theorem closedR_iff {a l:List Int}:closedR a l=true ↔ ∀ x∈l,∀ y∈outsA a x,y∈l:=by
 unfold closedR
 simp only [List.all_eq_true,inL_iff]
theorem isB_range {a:List Int} {x:Int} (h:isB (spotsF a).1 x=true):0≤x∧x≤255:=spots_range _ (isB_spot h).1
theorem outsA_isB {a:List Int} (hw:∀ x∈a,InR .u64 x) (hc:(checkF a).2.2=0) {x y:Int} (hx:isB (spotsF a).1 x=true) (hy:y∈outsA a x):isB (spotsF a).1 y=true:=by
 unfold outsA at hy
 obtain ⟨v,hv,rfl⟩:=List.mem_map.1 hy
 obtain ⟨hv,h0⟩:=List.mem_filter.1 hv
 have h0:=of_decide_eq_true h0
 rcases refs_named hw hc _ (objA_in hx).1 v hv with e | ⟨_,_,e⟩
 ·exact absurd e h0
 ·exact e
theorem Rch.isB {a from_:List Int} (hw:∀ x∈a,InR .u64 x) (hc:(checkF a).2.2=0) (hf:∀ x∈from_,isB (spotsF a).1 x=true) {x:Int} (h:Rch a from_ x):isB (spotsF a).1 x=true:=by
 induction h with
 | base h=>exact hf _ h
 | step _ h ih=>exact outsA_isB hw hc ih h
theorem Rch.mem {a from_ l:List Int} (h1:∀ x∈from_,x∈l) (h2:∀ x∈l,∀ y∈outsA a x,y∈l) {x:Int} (h:Rch a from_ x):x∈l:=by
 induction h with
 | base h=>exact h1 _ h
 | step _ h ih=>exact h2 _ ih _ h
theorem Rch.mono {a f g:List Int} (h:∀ x∈f,Rch a g x) {x:Int} (hx:Rch a f x):Rch a g x:=by
 induction hx with
 | base hx=>exact h _ hx
 | step _ hy ih=>exact .step ih hy
theorem iterR_sup (a:List Int):∀ (n:Nat) (l:List Int),∀ x∈l,x∈iterR a n l
 | 0,_,_,h=>h
 | n+1,l,x,h=>by
  unfold iterR
  split
  ·exact h
  ·exact iterR_sup a n _ x (by unfold moreR; simp [h])
theorem iterR_mem {a f:List Int}:∀ (n:Nat) (l:List Int),(∀ x∈l,Rch a f x)→∀ x∈iterR a n l,Rch a f x
 | 0,_,h,x,hx=>h x hx
 | n+1,l,h,x,hx=>by
  unfold iterR at hx
  split at hx
  ·exact h x hx
  ·refine iterR_mem n _ (fun y hy=>?_) x hx
   unfold moreR at hy
   rcases List.mem_append.1 hy with hy | hy
   ·exact h y hy
   ·obtain ⟨z,hz,hy⟩:=List.mem_flatMap.1 hy
    exact .step (h z hz) hy
theorem iterR_closed {a:List Int} (hw:∀ x∈a,InR .u64 x) (hc:(checkF a).2.2=0):∀ (n:Nat) (l:List Int),(∀ x∈l,isB (spotsF a).1 x=true)→257≤n+cntR l→closedR a (iterR a n l)=true
 | 0,l,_,hn=>by have:=cnt_le l; omega
 | n+1,l,hl,hn=>by
  unfold iterR
  by_cases h:closedR a l=true
  ·rw [if_pos h]; exact h
  rw [if_neg h]
  have hl2:∀ x∈moreR a l,isB (spotsF a).1 x=true:=by
   intro y hy
   unfold moreR at hy
   rcases List.mem_append.1 hy with hy | hy
   ·exact hl y hy
   ·obtain ⟨z,hz,hy⟩:=List.mem_flatMap.1 hy
    exact outsA_isB hw hc (hl z hz) hy
  refine iterR_closed hw hc n _ hl2 ?_
  rw [closedR_iff] at h
  have h:∃ x,x∈l∧∃ y,y∈outsA a x∧¬ y∈l:=by
   apply Classical.byContradiction
   intro hno
   apply h
   intro x hx y hy
   apply Classical.byContradiction
   intro hyl
   exact hno ⟨x,hx,y,hy,hyl⟩
  obtain ⟨x,hx,y,hy,hyl⟩:=h
  have hy2:y∈moreR a l:=by
   unfold moreR
   exact List.mem_append_right _ (List.mem_flatMap.2 ⟨x,hx,hy⟩)
  have hr:=isB_range (hl2 y hy2)
  have:=cnt_lt (l:=l) (k:=moreR a l) (fun z hz=>by unfold moreR; simp [hz]) hy2 hyl hr.1 hr.2
  omega
theorem reach_mem {a from_:List Int} (hw:∀ x∈a,InR .u64 x) (hc:(checkF a).2.2=0) (hf:∀ x∈from_,isB (spotsF a).1 x=true) {x:Int}:x∈reachL a from_ ↔ Rch a from_ x:=by
 unfold reachL
 rw [rising_mem]
 constructor
 ·intro h
  exact iterR_mem 257 from_ (fun y hy=>.base hy) x h.2.2
 ·intro h
  have hr:=isB_range (h.isB hw hc hf)
  refine ⟨hr.1,by omega,?_⟩
  have hcl:=closedR_iff.1 (iterR_closed hw hc 257 from_ hf (by omega))
  exact h.mem (iterR_sup a 257 from_) hcl
theorem reach_rise (a from_:List Int):(reachL a from_).Pairwise (·<·):=rising_rise _ _
structure Full (a from_ out:List Int):Prop where
 has:∀ x∈from_,x∈out
 only:∀ x∈out,Rch a from_ x
 all:∀ x∈out,∀ y∈outsA a x,y∈out
theorem Full.iff {a from_ out:List Int} (h:Full a from_ out) {x:Int}:x∈out ↔ Rch a from_ x:=⟨h.only x,fun hx=>hx.mem h.has h.all⟩
theorem Full.rising {a from_ out:List Int} (hw:∀ x∈a,InR .u64 x) (hc:(checkF a).2.2=0) (hf:∀ x∈from_,isB (spotsF a).1 x=true) (h:Full a from_ out):risingL out 256=reachL a from_:=by
 refine rise_uniq (rising_rise _ _) (reach_rise _ _) (fun x=>?_)
 rw [rising_mem,reach_mem hw hc hf,h.iff]
 exact ⟨fun hx=>hx.2.2,fun hx=>by have:=isB_range (hx.isB hw hc hf); exact ⟨this.1,by omega,hx⟩⟩
def fromFault (a from_:List Int):Int:=if (checkF a).2.2≠0 then (checkF a).2.2 else if from_.all (isB (spotsF a).1)=true then 0 else 5
theorem fromFault_ok {a from_:List Int} (h:fromFault a from_=0):(checkF a).2.2=0∧∀ x∈from_,isB (spotsF a).1 x=true:=by
 unfold fromFault at h
 split at h
 ·rename_i h1; exact absurd h h1
 ·rename_i h1
  split at h
  ·rename_i h2
   exact ⟨by omega,List.all_eq_true.1 h2⟩
  ·omega
theorem fromFault_of {a from_:List Int} (h1:(checkF a).2.2=0) (h2:∀ x∈from_,isB (spotsF a).1 x=true):fromFault a from_=0:=by
 unfold fromFault
 rw [if_neg (by omega),if_pos (List.all_eq_true.2 h2)]
end Go.Proofs.YtglchojglcobjaaGreat
