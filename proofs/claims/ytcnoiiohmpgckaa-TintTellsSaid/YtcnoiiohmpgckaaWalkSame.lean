
import Derived.Test.YtcnoiiohmpgckaaRObjects
namespace Go.Proofs.Ytcnoiiohmpgckaa
open Go
set_option maxRecDepth 100000
set_option maxHeartbeats 1000000
theorem ny (at_:Int) (l:List Int) (r:List aJ) (h:spotsS at_ l=some r):r.Pairwise (fun s t=>s.1<t.1):=by
 induction at_,l using spotsS.induct generalizing r with
 | case1 at_ =>
  simp only [spotsS,Option.some.injEq] at h
  subst h
  exact List.Pairwise.nil
 | case2 at_ v l hv ih =>
  rw [cT hv.1 hv.2] at h
  obtain ⟨r',hr,rfl⟩:=Option.map_eq_some_iff.1 h
  have hl:=cA hv.1
  refine List.pairwise_cons.2 ⟨fun t ht=>?_,ih r' hr⟩
  have:=(ol _ _ _ hr t ht).1
  simp only
  omega
 | case3 at_ v l hv =>
  rw [cw hv] at h
  cases h
theorem dk (a:List Int):(aa a).1.Pairwise (fun s t=>s.1<t.1):=by
 unfold aa
 split
 ·exact List.Pairwise.nil
 ·cases h:spotsS 0 a with
  | none=>exact List.Pairwise.nil
  | some l=>exact ny 0 a l h
theorem fL {α:Type} (k k':Int) (x:α):∀ (m:List (Int×α)),ah (eB m k x) k'=if k'=k then some x else ah m k'
 | []=>by
  simp only [eB,ah]
  by_cases h:k=k'
  ·simp [h]
  ·simp [h,Ne.symm h]
 | y::m=>by
  have ih:=fL k k' x m
  simp only [eB]
  by_cases hy:y.1=k
  ·rw [if_pos hy]
   simp only [ah]
   by_cases h:k=k'
   ·simp [h]
   ·simp [h,Ne.symm h,hy]
  ·rw [if_neg hy]
   simp only [ah,ih]
   by_cases h:y.1=k'
   ·have:k'≠k:=fun e=>hy (h.trans e)
    simp [h,this]
   ·simp [h]
def ru (v:Int):Int→List aJ→Option Int
 | _,[]=>none
 | i,s::l=>if s.2.2.2.2=false∧s.1+1=v then some i else ru v (i+1) l
theorem oM {v:Int}:∀ (l:List aJ) (i:Int),(∀ s∈l,s.1+1≠v)→ru v i l=none
 | [],_,_=>rfl
 | s::l,i,h=>by
  simp only [ru]
  rw [if_neg (fun e=>h s (by simp) e.2)]
  exact oM l (i+1) (fun t ht=>h t (by simp [ht]))
theorem mj (v:Int):∀ (l:List aJ) (m:List (Int×Int)) (i:Int),l.Pairwise (fun s t=>s.1<t.1)→ah (ch m i l) v=(ru v i l).or (ah m v)
 | [],m,i,_=>rfl
 | s::l,m,i,h=>by
  obtain ⟨h1,h2⟩:=List.pairwise_cons.1 h
  simp only [ch,ru]
  rw [mj v l _ (i+1) h2]
  cases hf:s.2.2.2.2
  ·simp only [Bool.false_eq_true,if_false,true_and]
   rw [fL]
   by_cases hv:s.1+1=v
   ·rw [oM l (i+1) (fun t ht e=>by have:=h1 t ht; omega),if_pos hv,if_pos hv.symm]
    rfl
   ·rw [if_neg hv,if_neg (fun e=>hv e.symm)]
  ·simp
theorem oL (v:Int):∀ (l:List aJ) (i:Int),(ru v i l).isSome=bA (ab l) (v - 1)
 | [],_=>rfl
 | s::l,i=>by
  have ih:=oL v l (i+1)
  simp only [ru,ab]
  cases hf:s.2.2.2.2
  ·simp only [true_and,Bool.false_eq_true,if_false,bA,List.any_cons]
   by_cases hv:s.1+1=v
   ·rw [if_pos hv]
    simp
    left; omega
   ·rw [if_neg hv,ih]
    have:¬ s.1=v - 1:=by omega
    simp [this,bA]
  ·simp [ih]
theorem dq (n:Int):∀ (l:List aJ),(∀ s∈l,0≤s.1∧s.1≤255)→(n<0∨255<n)→bA (ab l) n=false
 | [],_,_=>rfl
 | s::l,h,hn=>by
  have ih:=dq n l (fun t ht=>h t (by simp [ht])) hn
  have hs:=h s (by simp)
  simp only [ab]
  split
  ·exact ih
  ·simp only [bA,List.any_cons] at ih ⊢
   rw [ih]
   simp
   omega
theorem jY {l:List aJ} (hs:l.Pairwise (fun s t=>s.1<t.1)) (hr:∀ s∈l,0≤s.1∧s.1≤255) {v:Int} (hv:0≤v) :
  (decide (nameOf v=-1)||bA (ab l) (nameOf v))=(ah (aK l) v).isSome:=by
 unfold aK
 rw [mj v l _ 0 hs]
 by_cases h0:v=0
 ·subst h0
  cases h:ru 0 0 l <;> simp [nameOf,ah]
 ·have e1:ah [((0:Int),(-1:Int))] v=none:=by simp [ah,Ne.symm h0]
  rw [e1,Option.or_none,oL]
  by_cases hb:256<v
  ·have:nameOf v=9998:=by simp [nameOf,hb]
   rw [this,dq 9998 l hr (by omega),dq (v - 1) l hr (by omega)]
   rfl
  ·have:nameOf v=v - 1:=by simp [nameOf,hb]
   rw [this]
   have:¬ v - 1=-1:=by omega
   simp [this]
theorem mE:∀ {l:List aJ} {s:aJ},l.Pairwise (fun s t=>s.1<t.1)→s∈l→s.2.2.2.2=false→ac s.1 l=(s.2,true)
 | t::l,s,hs,hm,hf=>by
  obtain ⟨h1,h2⟩:=List.pairwise_cons.1 hs
  simp only [ac]
  rcases List.mem_cons.1 hm with rfl | hm
  ·rw [if_pos ⟨rfl,hf⟩]
  ·rw [if_neg (fun e=>by have:=h1 s hm; omega)]
   exact mE h2 hm hf
theorem tf (a:List Int) (s:aJ):ae a s.1 s.2=(aF a s).map nameOf:=rfl
theorem uQ {a:List Int} {s:aJ} (hf:s.2.2.2.2=true) (h:ai s.2=0):aF a s=[]:=by
 have:=(bP h).2.2.2.2.2 hf
 unfold aF
 rw [this.1]
 apply List.drop_of_length_le
 rw [List.length_take,Int.add_zero]
 omega
theorem ez {a:List Int} {s:aJ} (hw:∀ x∈a,aj .u64 x):∀ v∈aF a s,0≤v:=by
 intro v hv
 exact (hw v (List.mem_of_mem_take (List.mem_of_mem_drop hv))).1
theorem ne {a:List Int} (hw:∀ x∈a,aj .u64 x) {l:List aJ} (hs:l.Pairwise (fun s t=>s.1<t.1)) (hr:∀ s∈l,0≤s.1∧s.1≤255) (hf:∀ s∈l,ai s.2=0) :
  ∀ (l':List aJ),(∀ s∈l',s∈l)→cF a l (ab l) (ab l')=cV (aK l) a l'
 | [],_=>rfl
 | s::l',h=>by
  have ih:=ne hw hs hr hf l' (fun t ht=>h t (by simp [ht]))
  have hm:=h s (by simp)
  simp only [ab]
  unfold cV at ih ⊢
  rw [List.all_cons]
  cases hfr:s.2.2.2.2
  ·simp only [Bool.false_eq_true,if_false,cF]
   rw [mE hs hm hfr,tf,ih]
   congr 1
   unfold c7
   rw [List.all_map]
   apply Bool.eq_iff_iff.2
   rw [List.all_eq_true,List.all_eq_true]
   constructor
   ·intro hh v hv
    rw [← jY hs hr (ez hw v hv)]
    exact hh v hv
   ·intro hh v hv
    have:=hh v hv
    rw [← jY hs hr (ez hw v hv)] at this
    exact this
  ·simp only [if_true]
   rw [ih,uQ hfr (hf s hm)]
   rfl
theorem ep {a:List Int}:∀ s∈(aa a).1,0≤s.1∧s.1≤255:=by
 intro s hs
 obtain ⟨h1,h2,h3⟩:=cU a s hs
 unfold di at h2
 omega
theorem si {a:List Int} (hw:∀ x∈a,aj .u64 x):dT a=(ao a).2.2:=by
 unfold dT ao
 rw [ne hw (dk a) ep (fun s hs=>(cU a s hs).2.2) (aa a).1 (fun _ h=>h)]
 split
 ·rfl
 ·split <;> rfl
def isB (l:List aJ) (at_:Int):Bool:=(ac at_ l).2
theorem cX (n:Int):∀ l:List aJ,bA (ab l) n=isB l n
 | []=>rfl
 | s::l=>by
  have ih:=cX n l
  unfold isB at ih ⊢
  simp only [ab,ac]
  cases hf:s.2.2.2.2
  ·simp only [Bool.false_eq_true,if_false,and_true,bA,List.any_cons]
   by_cases hv:s.1=n
   ·rw [if_pos hv]
    simp [hv]
   ·rw [if_neg hv]
    simp only [bA] at ih
    rw [← ih]
    simp [hv]
  ·simp only [if_true,and_false,if_false,Bool.true_eq_false]
   exact ih
theorem eV {a:List Int} (hw:∀ x∈a,aj .u64 x) (hc:(ao a).2.2=0):∀ s∈(aa a).1,∀ v∈aF a s,v=0∨1≤v∧v≤256∧isB (aa a).1 (v - 1)=true:=by
 intro s hs v hv
 obtain ⟨_,_,_,_,_,hok,_⟩:=cM hc
 have h1:=List.all_eq_true.1 (List.all_eq_true.1 hok s hs) v hv
 have h0:=ez hw v hv
 rw [← jY (dk a) ep h0] at h1
 by_cases hz:v=0
 ·exact .inl hz
 refine .inr ?_
 have hr:∀ n,bA (ab (aa a).1) n=true→0≤n∧n≤255:=fun n hn=>by
  refine ⟨Int.not_lt.1 fun h=>?_,Int.not_lt.1 fun h=>?_⟩
  ·rw [dq n _ ep (.inl h)] at hn; cases hn
  ·rw [dq n _ ep (.inr h)] at hn; cases hn
 unfold nameOf at h1
 split at h1
 ·have h2:bA (ab (aa a).1) (9999 - 1)=true:=by simpa using h1
  have:=hr _ h2
  omega
 ·have h2:bA (ab (aa a).1) (v - 1)=true:=by
   rcases Bool.or_eq_true _ _ ▸ h1 with h | h
   ·have:=of_decide_eq_true h; omega
   ·exact h
  have:=hr _ h2
  refine ⟨by omega,by omega,?_⟩
  rw [← cX]
  exact h2
theorem mB {a:List Int} {at_:Int} (h:isB (aa a).1 at_=true):(at_,(ac at_ (aa a).1).1)∈(aa a).1∧di a (at_,(ac at_ (aa a).1).1)∧ai (ac at_ (aa a).1).1=0∧(ac at_ (aa a).1).1.2.2.2=false∧a.length≤256:=by
 rcases eY at_ (aa a).1 with e | ⟨s,h1,h2,h3,e⟩
 ·unfold isB at h
  rw [e] at h
  cases h
 ·obtain ⟨k1,k2,k3⟩:=cU a s h1
  rw [e]
  simp only
  subst h2
  exact ⟨h1,k2,k3,h3,k1⟩
end Go.Proofs.Ytcnoiiohmpgckaa
