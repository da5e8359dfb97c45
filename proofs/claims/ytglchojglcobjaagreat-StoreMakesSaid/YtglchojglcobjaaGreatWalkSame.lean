
import Derived.Test.YtglchojglcobjaaGreatRObjects
namespace Go.Proofs.YtglchojglcobjaaGreat
open Go
set_option maxRecDepth 100000
set_option maxHeartbeats 1000000
theorem tX (at_:Int) (l:List Int) (r:List aw) (h:spotsS at_ l=some r):r.Pairwise (fun s t=>s.1<t.1):=by
 induction at_,l using spotsS.induct generalizing r with
 | case1 at_ =>
  simp only [spotsS,Option.some.injEq] at h
  subst h
  exact List.Pairwise.nil
 | case2 at_ v l hv ih =>
  rw [ed hv.1 hv.2] at h
  obtain ⟨r',hr,rfl⟩:=Option.map_eq_some_iff.1 h
  have hl:=eg hv.1
  refine List.pairwise_cons.2 ⟨fun t ht=>?_,ih r' hr⟩
  have:=(uX _ _ _ hr t ht).1
  simp only
  omega
 | case3 at_ v l hv =>
  rw [eb hv] at h
  cases h
theorem b6 (a:List Int):(aa a).1.Pairwise (fun s t=>s.1<t.1):=by
 unfold aa
 split
 ·exact List.Pairwise.nil
 ·cases h:spotsS 0 a with
  | none=>exact List.Pairwise.nil
  | some l=>exact tX 0 a l h
theorem io {α:Type} (k k':Int) (x:α):∀ (m:List (Int×α)),aK (dP m k x) k'=if k'=k then some x else aK m k'
 | []=>by
  simp only [dP,aK]
  by_cases h:k=k'
  ·simp [h]
  ·simp [h,Ne.symm h]
 | y::m=>by
  have ih:=io k k' x m
  simp only [dP]
  by_cases hy:y.1=k
  ·rw [if_pos hy]
   simp only [aK]
   by_cases h:k=k'
   ·simp [h]
   ·simp [h,Ne.symm h,hy]
  ·rw [if_neg hy]
   simp only [aK,ih]
   by_cases h:y.1=k'
   ·have:k'≠k:=fun e=>hy (h.trans e)
    simp [h,this]
   ·simp [h]
def lL (v:Int):Int→List aw→Option Int
 | _,[]=>none
 | i,s::l=>if s.2.2.2.2=false∧s.1+1=v then some i else lL v (i+1) l
theorem vD {v:Int}:∀ (l:List aw) (i:Int),(∀ s∈l,s.1+1≠v)→lL v i l=none
 | [],_,_=>rfl
 | s::l,i,h=>by
  simp only [lL]
  rw [if_neg (fun e=>h s (by simp) e.2)]
  exact vD l (i+1) (fun t ht=>h t (by simp [ht]))
theorem iz (v:Int):∀ (l:List aw) (m:List (Int×Int)) (i:Int),l.Pairwise (fun s t=>s.1<t.1)→aK (dM m i l) v=(lL v i l).or (aK m v)
 | [],m,i,_=>rfl
 | s::l,m,i,h=>by
  obtain ⟨h1,h2⟩:=List.pairwise_cons.1 h
  simp only [dM,lL]
  rw [iz v l _ (i+1) h2]
  cases hf:s.2.2.2.2
  ·simp only [Bool.false_eq_true,if_false,true_and]
   rw [io]
   by_cases hv:s.1+1=v
   ·rw [vD l (i+1) (fun t ht e=>by have:=h1 t ht; omega),if_pos hv,if_pos hv.symm]
    rfl
   ·rw [if_neg hv,if_neg (fun e=>hv e.symm)]
  ·simp
theorem jv (v:Int):∀ (l:List aw) (i:Int),(lL v i l).isSome=cD (af l) (v - 1)
 | [],_=>rfl
 | s::l,i=>by
  have ih:=jv v l (i+1)
  simp only [lL,af]
  cases hf:s.2.2.2.2
  ·simp only [true_and,Bool.false_eq_true,if_false,cD,List.any_cons]
   by_cases hv:s.1+1=v
   ·rw [if_pos hv]
    simp
    left; omega
   ·rw [if_neg hv,ih]
    have:¬ s.1=v - 1:=by omega
    simp [this,cD]
  ·simp [ih]
theorem fy (n:Int):∀ (l:List aw),(∀ s∈l,0≤s.1∧s.1≤255)→(n<0∨255<n)→cD (af l) n=false
 | [],_,_=>rfl
 | s::l,h,hn=>by
  have ih:=fy n l (fun t ht=>h t (by simp [ht])) hn
  have hs:=h s (by simp)
  simp only [af]
  split
  ·exact ih
  ·simp only [cD,List.any_cons] at ih ⊢
   rw [ih]
   simp
   omega
theorem oV {l:List aw} (hs:l.Pairwise (fun s t=>s.1<t.1)) (hr:∀ s∈l,0≤s.1∧s.1≤255) {v:Int} (hv:0≤v) :
  (decide (nameOf v=-1)||cD (af l) (nameOf v))=(aK (bC l) v).isSome:=by
 unfold bC
 rw [iz v l _ 0 hs]
 by_cases h0:v=0
 ·subst h0
  cases h:lL 0 0 l <;> simp [nameOf,aK]
 ·have e1:aK [((0:Int),(-1:Int))] v=none:=by simp [aK,Ne.symm h0]
  rw [e1,Option.or_none,jv]
  by_cases hb:256<v
  ·have:nameOf v=9998:=by simp [nameOf,hb]
   rw [this,fy 9998 l hr (by omega),fy (v - 1) l hr (by omega)]
   rfl
  ·have:nameOf v=v - 1:=by simp [nameOf,hb]
   rw [this]
   have:¬ v - 1=-1:=by omega
   simp [this]
theorem jV:∀ {l:List aw} {s:aw},l.Pairwise (fun s t=>s.1<t.1)→s∈l→s.2.2.2.2=false→ah s.1 l=(s.2,true)
 | t::l,s,hs,hm,hf=>by
  obtain ⟨h1,h2⟩:=List.pairwise_cons.1 hs
  simp only [ah]
  rcases List.mem_cons.1 hm with rfl | hm
  ·rw [if_pos ⟨rfl,hf⟩]
  ·rw [if_neg (fun e=>by have:=h1 s hm; omega)]
   exact jV h2 hm hf
theorem B0 (a:List Int) (s:aw):aB a s.1 s.2=(aA a s).map nameOf:=rfl
theorem D7 {a:List Int} {s:aw} (hf:s.2.2.2.2=true) (h:ac s.2=0):aA a s=[]:=by
 have:=(a8 h).2.2.2.2.2 hf
 unfold aA
 rw [this.1]
 apply List.drop_of_length_le
 rw [List.length_take,Int.add_zero]
 omega
theorem gO {a:List Int} {s:aw} (hw:∀ x∈a,ak .u64 x):∀ v∈aA a s,0≤v:=by
 intro v hv
 exact (hw v (List.mem_of_mem_take (List.mem_of_mem_drop hv))).1
theorem tt {a:List Int} (hw:∀ x∈a,ak .u64 x) {l:List aw} (hs:l.Pairwise (fun s t=>s.1<t.1)) (hr:∀ s∈l,0≤s.1∧s.1≤255) (hf:∀ s∈l,ac s.2=0) :
  ∀ (l':List aw),(∀ s∈l',s∈l)→et a l (af l) (af l')=eS (bC l) a l'
 | [],_=>rfl
 | s::l',h=>by
  have ih:=tt hw hs hr hf l' (fun t ht=>h t (by simp [ht]))
  have hm:=h s (by simp)
  simp only [af]
  unfold eS at ih ⊢
  rw [List.all_cons]
  cases hfr:s.2.2.2.2
  ·simp only [Bool.false_eq_true,if_false,et]
   rw [jV hs hm hfr,B0,ih]
   congr 1
   unfold ff
   rw [List.all_map]
   apply Bool.eq_iff_iff.2
   rw [List.all_eq_true,List.all_eq_true]
   constructor
   ·intro hh v hv
    rw [← oV hs hr (gO hw v hv)]
    exact hh v hv
   ·intro hh v hv
    have:=hh v hv
    rw [← oV hs hr (gO hw v hv)] at this
    exact this
  ·simp only [if_true]
   rw [ih,D7 hfr (hf s hm)]
   rfl
theorem fP {a:List Int}:∀ s∈(aa a).1,0≤s.1∧s.1≤255:=by
 intro s hs
 obtain ⟨h1,h2,h3⟩:=dc a s hs
 unfold bX at h2
 omega
theorem qD {a:List Int} (hw:∀ x∈a,ak .u64 x):fb a=(ao a).2.2:=by
 unfold fb ao
 rw [tt hw (b6 a) fP (fun s hs=>(dc a s hs).2.2) (aa a).1 (fun _ h=>h)]
 split
 ·rfl
 ·split <;> rfl
def isB (l:List aw) (at_:Int):Bool:=(ah at_ l).2
theorem gv (n:Int):∀ l:List aw,cD (af l) n=isB l n
 | []=>rfl
 | s::l=>by
  have ih:=gv n l
  unfold isB at ih ⊢
  simp only [af,ah]
  cases hf:s.2.2.2.2
  ·simp only [Bool.false_eq_true,if_false,and_true,cD,List.any_cons]
   by_cases hv:s.1=n
   ·rw [if_pos hv]
    simp [hv]
   ·rw [if_neg hv]
    simp only [cD] at ih
    rw [← ih]
    simp [hv]
  ·simp only [if_true,and_false,if_false,Bool.true_eq_false]
   exact ih
theorem mH {a:List Int} (hw:∀ x∈a,ak .u64 x) (hc:(ao a).2.2=0):∀ s∈(aa a).1,∀ v∈aA a s,v=0∨1≤v∧v≤256∧isB (aa a).1 (v - 1)=true:=by
 intro s hs v hv
 obtain ⟨_,_,_,_,_,hok,_⟩:=bO hc
 have h1:=List.all_eq_true.1 (List.all_eq_true.1 hok s hs) v hv
 have h0:=gO hw v hv
 rw [← oV (b6 a) fP h0] at h1
 by_cases hz:v=0
 ·exact .inl hz
 refine .inr ?_
 have hr:∀ n,cD (af (aa a).1) n=true→0≤n∧n≤255:=fun n hn=>by
  refine ⟨Int.not_lt.1 fun h=>?_,Int.not_lt.1 fun h=>?_⟩
  ·rw [fy n _ fP (.inl h)] at hn; cases hn
  ·rw [fy n _ fP (.inr h)] at hn; cases hn
 unfold nameOf at h1
 split at h1
 ·have h2:cD (af (aa a).1) (9999 - 1)=true:=by simpa using h1
  have:=hr _ h2
  omega
 ·have h2:cD (af (aa a).1) (v - 1)=true:=by
   rcases Bool.or_eq_true _ _ ▸ h1 with h | h
   ·have:=of_decide_eq_true h; omega
   ·exact h
  have:=hr _ h2
  refine ⟨by omega,by omega,?_⟩
  rw [← gv]
  exact h2
theorem sK {a:List Int} {at_:Int} (h:isB (aa a).1 at_=true):(at_,(ah at_ (aa a).1).1)∈(aa a).1∧bX a (at_,(ah at_ (aa a).1).1)∧ac (ah at_ (aa a).1).1=0∧(ah at_ (aa a).1).1.2.2.2=false∧a.length≤256:=by
 rcases fL at_ (aa a).1 with e | ⟨s,h1,h2,h3,e⟩
 ·unfold isB at h
  rw [e] at h
  cases h
 ·obtain ⟨k1,k2,k3⟩:=dc a s h1
  rw [e]
  simp only
  subst h2
  exact ⟨h1,k2,k3,h3,k1⟩
end Go.Proofs.YtglchojglcobjaaGreat
