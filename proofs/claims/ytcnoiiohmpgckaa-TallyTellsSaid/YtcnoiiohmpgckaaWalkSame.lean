
import Derived.Test.YtcnoiiohmpgckaaRObjects
namespace Go.Proofs.Ytcnoiiohmpgckaa
open Go
set_option maxRecDepth 100000
set_option maxHeartbeats 1000000
theorem mQ (at_:Int) (l:List Int) (r:List aH) (h:spotsS at_ l=some r):r.Pairwise (fun s t=>s.1<t.1):=by
 induction at_,l using spotsS.induct generalizing r with
 | case1 at_ =>
  simp only [spotsS,Option.some.injEq] at h
  subst h
  exact List.Pairwise.nil
 | case2 at_ v l hv ih =>
  rw [dv hv.1 hv.2] at h
  obtain ⟨r',hr,rfl⟩:=Option.map_eq_some_iff.1 h
  have hl:=cS hv.1
  refine List.pairwise_cons.2 ⟨fun t ht=>?_,ih r' hr⟩
  have:=(nw _ _ _ hr t ht).1
  simp only
  omega
 | case3 at_ v l hv =>
  rw [cP hv] at h
  cases h
theorem da (a:List Int):(aa a).1.Pairwise (fun s t=>s.1<t.1):=by
 unfold aa
 split
 ·exact List.Pairwise.nil
 ·cases h:spotsS 0 a with
  | none=>exact List.Pairwise.nil
  | some l=>exact mQ 0 a l h
theorem cH {α:Type} (k k':Int) (x:α):∀ (m:List (Int×α)),ae (aM m k x) k'=if k'=k then some x else ae m k'
 | []=>by
  simp only [aM,ae]
  by_cases h:k=k'
  ·simp [h]
  ·simp [h,Ne.symm h]
 | y::m=>by
  have ih:=cH k k' x m
  simp only [aM]
  by_cases hy:y.1=k
  ·rw [if_pos hy]
   simp only [ae]
   by_cases h:k=k'
   ·simp [h]
   ·simp [h,Ne.symm h,hy]
  ·rw [if_neg hy]
   simp only [ae,ih]
   by_cases h:y.1=k'
   ·have:k'≠k:=fun e=>hy (h.trans e)
    simp [h,this]
   ·simp [h]
def qf (v:Int):Int→List aH→Option Int
 | _,[]=>none
 | i,s::l=>if s.2.2.2.2=false∧s.1+1=v then some i else qf v (i+1) l
theorem nP {v:Int}:∀ (l:List aH) (i:Int),(∀ s∈l,s.1+1≠v)→qf v i l=none
 | [],_,_=>rfl
 | s::l,i,h=>by
  simp only [qf]
  rw [if_neg (fun e=>h s (by simp) e.2)]
  exact nP l (i+1) (fun t ht=>h t (by simp [ht]))
theorem lE (v:Int):∀ (l:List aH) (m:List (Int×Int)) (i:Int),l.Pairwise (fun s t=>s.1<t.1)→ae (cf m i l) v=(qf v i l).or (ae m v)
 | [],m,i,_=>rfl
 | s::l,m,i,h=>by
  obtain ⟨h1,h2⟩:=List.pairwise_cons.1 h
  simp only [cf,qf]
  rw [lE v l _ (i+1) h2]
  cases hf:s.2.2.2.2
  ·simp only [Bool.false_eq_true,if_false,true_and]
   rw [cH]
   by_cases hv:s.1+1=v
   ·rw [nP l (i+1) (fun t ht e=>by have:=h1 t ht; omega),if_pos hv,if_pos hv.symm]
    rfl
   ·rw [if_neg hv,if_neg (fun e=>hv e.symm)]
  ·simp
theorem nO (v:Int):∀ (l:List aH) (i:Int),(qf v i l).isSome=bp (ab l) (v - 1)
 | [],_=>rfl
 | s::l,i=>by
  have ih:=nO v l (i+1)
  simp only [qf,ab]
  cases hf:s.2.2.2.2
  ·simp only [true_and,Bool.false_eq_true,if_false,bp,List.any_cons]
   by_cases hv:s.1+1=v
   ·rw [if_pos hv]
    simp
    left; omega
   ·rw [if_neg hv,ih]
    have:¬ s.1=v - 1:=by omega
    simp [this,bp]
  ·simp [ih]
theorem de (n:Int):∀ (l:List aH),(∀ s∈l,0≤s.1∧s.1≤255)→(n<0∨255<n)→bp (ab l) n=false
 | [],_,_=>rfl
 | s::l,h,hn=>by
  have ih:=de n l (fun t ht=>h t (by simp [ht])) hn
  have hs:=h s (by simp)
  simp only [ab]
  split
  ·exact ih
  ·simp only [bp,List.any_cons] at ih ⊢
   rw [ih]
   simp
   omega
theorem jy {l:List aH} (hs:l.Pairwise (fun s t=>s.1<t.1)) (hr:∀ s∈l,0≤s.1∧s.1≤255) {v:Int} (hv:0≤v) :
  (decide (nameOf v=-1)||bp (ab l) (nameOf v))=(ae (aK l) v).isSome:=by
 unfold aK
 rw [lE v l _ 0 hs]
 by_cases h0:v=0
 ·subst h0
  cases h:qf 0 0 l <;> simp [nameOf,ae]
 ·have e1:ae [((0:Int),(-1:Int))] v=none:=by simp [ae,Ne.symm h0]
  rw [e1,Option.or_none,nO]
  by_cases hb:256<v
  ·have:nameOf v=9998:=by simp [nameOf,hb]
   rw [this,de 9998 l hr (by omega),de (v - 1) l hr (by omega)]
   rfl
  ·have:nameOf v=v - 1:=by simp [nameOf,hb]
   rw [this]
   have:¬ v - 1=-1:=by omega
   simp [this]
theorem lU:∀ {l:List aH} {s:aH},l.Pairwise (fun s t=>s.1<t.1)→s∈l→s.2.2.2.2=false→ac s.1 l=(s.2,true)
 | t::l,s,hs,hm,hf=>by
  obtain ⟨h1,h2⟩:=List.pairwise_cons.1 hs
  simp only [ac]
  rcases List.mem_cons.1 hm with rfl | hm
  ·rw [if_pos ⟨rfl,hf⟩]
  ·rw [if_neg (fun e=>by have:=h1 s hm; omega)]
   exact lU h2 hm hf
theorem rx (a:List Int) (s:aH):ah a s.1 s.2=(aD a s).map nameOf:=rfl
theorem sY {a:List Int} {s:aH} (hf:s.2.2.2.2=true) (h:af s.2=0):aD a s=[]:=by
 have:=(cT h).2.2.2.2.2 hf
 unfold aD
 rw [this.1]
 apply List.drop_of_length_le
 rw [List.length_take,Int.add_zero]
 omega
theorem ej {a:List Int} {s:aH} (hw:∀ x∈a,aj .u64 x):∀ v∈aD a s,0≤v:=by
 intro v hv
 exact (hw v (List.mem_of_mem_take (List.mem_of_mem_drop hv))).1
theorem mA {a:List Int} (hw:∀ x∈a,aj .u64 x) {l:List aH} (hs:l.Pairwise (fun s t=>s.1<t.1)) (hr:∀ s∈l,0≤s.1∧s.1≤255) (hf:∀ s∈l,af s.2=0) :
  ∀ (l':List aH),(∀ s∈l',s∈l)→cC a l (ab l) (ab l')=cQ (aK l) a l'
 | [],_=>rfl
 | s::l',h=>by
  have ih:=mA hw hs hr hf l' (fun t ht=>h t (by simp [ht]))
  have hm:=h s (by simp)
  simp only [ab]
  unfold cQ at ih ⊢
  rw [List.all_cons]
  cases hfr:s.2.2.2.2
  ·simp only [Bool.false_eq_true,if_false,cC]
   rw [lU hs hm hfr,rx,ih]
   congr 1
   unfold cZ
   rw [List.all_map]
   apply Bool.eq_iff_iff.2
   rw [List.all_eq_true,List.all_eq_true]
   constructor
   ·intro hh v hv
    rw [← jy hs hr (ej hw v hv)]
    exact hh v hv
   ·intro hh v hv
    have:=hh v hv
    rw [← jy hs hr (ej hw v hv)] at this
    exact this
  ·simp only [if_true]
   rw [ih,sY hfr (hf s hm)]
   rfl
theorem d9 {a:List Int}:∀ s∈(aa a).1,0≤s.1∧s.1≤255:=by
 intro s hs
 obtain ⟨h1,h2,h3⟩:=eM a s hs
 unfold c9 at h2
 omega
theorem qR {a:List Int} (hw:∀ x∈a,aj .u64 x):dO a=(ao a).2.2:=by
 unfold dO ao
 rw [mA hw (da a) d9 (fun s hs=>(eM a s hs).2.2) (aa a).1 (fun _ h=>h)]
 split
 ·rfl
 ·split <;> rfl
def isB (l:List aH) (at_:Int):Bool:=(ac at_ l).2
theorem aS (n:Int):∀ l:List aH,bp (ab l) n=isB l n
 | []=>rfl
 | s::l=>by
  have ih:=aS n l
  unfold isB at ih ⊢
  simp only [ab,ac]
  cases hf:s.2.2.2.2
  ·simp only [Bool.false_eq_true,if_false,and_true,bp,List.any_cons]
   by_cases hv:s.1=n
   ·rw [if_pos hv]
    simp [hv]
   ·rw [if_neg hv]
    simp only [bp] at ih
    rw [← ih]
    simp [hv]
  ·simp only [if_true,and_false,if_false,Bool.true_eq_false]
   exact ih
theorem dr {a:List Int} (hw:∀ x∈a,aj .u64 x) (hc:(ao a).2.2=0):∀ s∈(aa a).1,∀ v∈aD a s,v=0∨1≤v∧v≤256∧isB (aa a).1 (v - 1)=true:=by
 intro s hs v hv
 obtain ⟨_,_,_,_,_,hok,_⟩:=dY hc
 have h1:=List.all_eq_true.1 (List.all_eq_true.1 hok s hs) v hv
 have h0:=ej hw v hv
 rw [← jy (da a) d9 h0] at h1
 by_cases hz:v=0
 ·exact .inl hz
 refine .inr ?_
 have hr:∀ n,bp (ab (aa a).1) n=true→0≤n∧n≤255:=fun n hn=>by
  refine ⟨Int.not_lt.1 fun h=>?_,Int.not_lt.1 fun h=>?_⟩
  ·rw [de n _ d9 (.inl h)] at hn; cases hn
  ·rw [de n _ d9 (.inr h)] at hn; cases hn
 unfold nameOf at h1
 split at h1
 ·have h2:bp (ab (aa a).1) (9999 - 1)=true:=by simpa using h1
  have:=hr _ h2
  omega
 ·have h2:bp (ab (aa a).1) (v - 1)=true:=by
   rcases Bool.or_eq_true _ _ ▸ h1 with h | h
   ·have:=of_decide_eq_true h; omega
   ·exact h
  have:=hr _ h2
  refine ⟨by omega,by omega,?_⟩
  rw [← aS]
  exact h2
theorem qp {a:List Int} {at_:Int} (h:isB (aa a).1 at_=true):(at_,(ac at_ (aa a).1).1)∈(aa a).1∧c9 a (at_,(ac at_ (aa a).1).1)∧af (ac at_ (aa a).1).1=0∧(ac at_ (aa a).1).1.2.2.2=false∧a.length≤256:=by
 rcases fS at_ (aa a).1 with e | ⟨s,h1,h2,h3,e⟩
 ·unfold isB at h
  rw [e] at h
  cases h
 ·obtain ⟨k1,k2,k3⟩:=eM a s h1
  rw [e]
  simp only
  subst h2
  exact ⟨h1,k2,k3,h3,k1⟩
end Go.Proofs.Ytcnoiiohmpgckaa
