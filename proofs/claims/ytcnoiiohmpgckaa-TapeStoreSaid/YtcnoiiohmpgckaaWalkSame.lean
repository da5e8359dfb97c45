
import Derived.Test.YtcnoiiohmpgckaaRObjects
namespace Go.Proofs.Ytcnoiiohmpgckaa
open Go
set_option maxRecDepth 100000
set_option maxHeartbeats 1000000
theorem qQ (at_:Int) (l:List Int) (r:List aE) (h:spotsS at_ l=some r):r.Pairwise (fun s t=>s.1<t.1):=by
 induction at_,l using spotsS.induct generalizing r with
 | case1 at_ =>
  simp only [spotsS,Option.some.injEq] at h
  subst h
  exact List.Pairwise.nil
 | case2 at_ v l hv ih =>
  rw [cP hv.1 hv.2] at h
  obtain ⟨r',hr,rfl⟩:=Option.map_eq_some_iff.1 h
  have hl:=cR hv.1
  refine List.pairwise_cons.2 ⟨fun t ht=>?_,ih r' hr⟩
  have:=(r6 _ _ _ hr t ht).1
  simp only
  omega
 | case3 at_ v l hv =>
  rw [cO hv] at h
  cases h
theorem dK (a:List Int):(aa a).1.Pairwise (fun s t=>s.1<t.1):=by
 unfold aa
 split
 ·exact List.Pairwise.nil
 ·cases h:spotsS 0 a with
  | none=>exact List.Pairwise.nil
  | some l=>exact qQ 0 a l h
theorem mH {α:Type} (k k':Int) (x:α):∀ (m:List (Int×α)),cz (jB m k x) k'=if k'=k then some x else cz m k'
 | []=>by
  simp only [jB,cz]
  by_cases h:k=k'
  ·simp [h]
  ·simp [h,Ne.symm h]
 | y::m=>by
  have ih:=mH k k' x m
  simp only [jB]
  by_cases hy:y.1=k
  ·rw [if_pos hy]
   simp only [cz]
   by_cases h:k=k'
   ·simp [h]
   ·simp [h,Ne.symm h,hy]
  ·rw [if_neg hy]
   simp only [cz,ih]
   by_cases h:y.1=k'
   ·have:k'≠k:=fun e=>hy (h.trans e)
    simp [h,this]
   ·simp [h]
def pp (v:Int):Int→List aE→Option Int
 | _,[]=>none
 | i,s::l=>if s.2.2.2.2=false∧s.1+1=v then some i else pp v (i+1) l
theorem sA {v:Int}:∀ (l:List aE) (i:Int),(∀ s∈l,s.1+1≠v)→pp v i l=none
 | [],_,_=>rfl
 | s::l,i,h=>by
  simp only [pp]
  rw [if_neg (fun e=>h s (by simp) e.2)]
  exact sA l (i+1) (fun t ht=>h t (by simp [ht]))
theorem kg (v:Int):∀ (l:List aE) (m:List (Int×Int)) (i:Int),l.Pairwise (fun s t=>s.1<t.1)→cz (cE m i l) v=(pp v i l).or (cz m v)
 | [],m,i,_=>rfl
 | s::l,m,i,h=>by
  obtain ⟨h1,h2⟩:=List.pairwise_cons.1 h
  simp only [cE,pp]
  rw [kg v l _ (i+1) h2]
  cases hf:s.2.2.2.2
  ·simp only [Bool.false_eq_true,if_false,true_and]
   rw [mH]
   by_cases hv:s.1+1=v
   ·rw [sA l (i+1) (fun t ht e=>by have:=h1 t ht; omega),if_pos hv,if_pos hv.symm]
    rfl
   ·rw [if_neg hv,if_neg (fun e=>hv e.symm)]
  ·simp
theorem mD (v:Int):∀ (l:List aE) (i:Int),(pp v i l).isSome=dw (af l) (v - 1)
 | [],_=>rfl
 | s::l,i=>by
  have ih:=mD v l (i+1)
  simp only [pp,af]
  cases hf:s.2.2.2.2
  ·simp only [true_and,Bool.false_eq_true,if_false,dw,List.any_cons]
   by_cases hv:s.1+1=v
   ·rw [if_pos hv]
    simp
    left; omega
   ·rw [if_neg hv,ih]
    have:¬ s.1=v - 1:=by omega
    simp [this,dw]
  ·simp [ih]
theorem dN (n:Int):∀ (l:List aE),(∀ s∈l,0≤s.1∧s.1≤255)→(n<0∨255<n)→dw (af l) n=false
 | [],_,_=>rfl
 | s::l,h,hn=>by
  have ih:=dN n l (fun t ht=>h t (by simp [ht])) hn
  have hs:=h s (by simp)
  simp only [af]
  split
  ·exact ih
  ·simp only [dw,List.any_cons] at ih ⊢
   rw [ih]
   simp
   omega
theorem mC {l:List aE} (hs:l.Pairwise (fun s t=>s.1<t.1)) (hr:∀ s∈l,0≤s.1∧s.1≤255) {v:Int} (hv:0≤v) :
  (decide (nameOf v=-1)||dw (af l) (nameOf v))=(cz (aR l) v).isSome:=by
 unfold aR
 rw [kg v l _ 0 hs]
 by_cases h0:v=0
 ·subst h0
  cases h:pp 0 0 l <;> simp [nameOf,cz]
 ·have e1:cz [((0:Int),(-1:Int))] v=none:=by simp [cz,Ne.symm h0]
  rw [e1,Option.or_none,mD]
  by_cases hb:256<v
  ·have:nameOf v=9998:=by simp [nameOf,hb]
   rw [this,dN 9998 l hr (by omega),dN (v - 1) l hr (by omega)]
   rfl
  ·have:nameOf v=v - 1:=by simp [nameOf,hb]
   rw [this]
   have:¬ v - 1=-1:=by omega
   simp [this]
theorem km:∀ {l:List aE} {s:aE},l.Pairwise (fun s t=>s.1<t.1)→s∈l→s.2.2.2.2=false→an s.1 l=(s.2,true)
 | t::l,s,hs,hm,hf=>by
  obtain ⟨h1,h2⟩:=List.pairwise_cons.1 hs
  simp only [an]
  rcases List.mem_cons.1 hm with rfl | hm
  ·rw [if_pos ⟨rfl,hf⟩]
  ·rw [if_neg (fun e=>by have:=h1 s hm; omega)]
   exact km h2 hm hf
theorem xO (a:List Int) (s:aE):bq a s.1 s.2=(aw a s).map nameOf:=rfl
theorem zn {a:List Int} {s:aE} (hf:s.2.2.2.2=true) (h:ap s.2=0):aw a s=[]:=by
 have:=(bP h).2.2.2.2.2 hf
 unfold aw
 rw [this.1]
 apply List.drop_of_length_le
 rw [List.length_take,Int.add_zero]
 omega
theorem fi {a:List Int} {s:aE} (hw:∀ x∈a,am .u64 x):∀ v∈aw a s,0≤v:=by
 intro v hv
 exact (hw v (List.mem_of_mem_take (List.mem_of_mem_drop hv))).1
theorem qn {a:List Int} (hw:∀ x∈a,am .u64 x) {l:List aE} (hs:l.Pairwise (fun s t=>s.1<t.1)) (hr:∀ s∈l,0≤s.1∧s.1≤255) (hf:∀ s∈l,ap s.2=0) :
  ∀ (l':List aE),(∀ s∈l',s∈l)→cW a l (af l) (af l')=dl (aR l) a l'
 | [],_=>rfl
 | s::l',h=>by
  have ih:=qn hw hs hr hf l' (fun t ht=>h t (by simp [ht]))
  have hm:=h s (by simp)
  simp only [af]
  unfold dl at ih ⊢
  rw [List.all_cons]
  cases hfr:s.2.2.2.2
  ·simp only [Bool.false_eq_true,if_false,cW]
   rw [km hs hm hfr,xO,ih]
   congr 1
   unfold dz
   rw [List.all_map]
   apply Bool.eq_iff_iff.2
   rw [List.all_eq_true,List.all_eq_true]
   constructor
   ·intro hh v hv
    rw [← mC hs hr (fi hw v hv)]
    exact hh v hv
   ·intro hh v hv
    have:=hh v hv
    rw [← mC hs hr (fi hw v hv)] at this
    exact this
  ·simp only [if_true]
   rw [ih,zn hfr (hf s hm)]
   rfl
theorem d8 {a:List Int}:∀ s∈(aa a).1,0≤s.1∧s.1≤255:=by
 intro s hs
 obtain ⟨h1,h2,h3⟩:=eD a s hs
 unfold cm at h2
 omega
theorem nM {a:List Int} (hw:∀ x∈a,am .u64 x):du a=(ah a).2.2:=by
 unfold du ah
 rw [qn hw (dK a) d8 (fun s hs=>(eD a s hs).2.2) (aa a).1 (fun _ h=>h)]
 split
 ·rfl
 ·split <;> rfl
def isB (l:List aE) (at_:Int):Bool:=(an at_ l).2
theorem kl (n:Int):∀ l:List aE,dw (af l) n=isB l n
 | []=>rfl
 | s::l=>by
  have ih:=kl n l
  unfold isB at ih ⊢
  simp only [af,an]
  cases hf:s.2.2.2.2
  ·simp only [Bool.false_eq_true,if_false,and_true,dw,List.any_cons]
   by_cases hv:s.1=n
   ·rw [if_pos hv]
    simp [hv]
   ·rw [if_neg hv]
    simp only [dw] at ih
    rw [← ih]
    simp [hv]
  ·simp only [if_true,and_false,if_false,Bool.true_eq_false]
   exact ih
theorem xA {a:List Int} (hw:∀ x∈a,am .u64 x) (hc:(ah a).2.2=0):∀ s∈(aa a).1,∀ v∈aw a s,v=0∨1≤v∧v≤256∧isB (aa a).1 (v - 1)=true:=by
 intro s hs v hv
 obtain ⟨_,_,_,_,_,hok,_⟩:=dE hc
 have h1:=List.all_eq_true.1 (List.all_eq_true.1 hok s hs) v hv
 have h0:=fi hw v hv
 rw [← mC (dK a) d8 h0] at h1
 by_cases hz:v=0
 ·exact .inl hz
 refine .inr ?_
 have hr:∀ n,dw (af (aa a).1) n=true→0≤n∧n≤255:=fun n hn=>by
  refine ⟨Int.not_lt.1 fun h=>?_,Int.not_lt.1 fun h=>?_⟩
  ·rw [dN n _ d8 (.inl h)] at hn; cases hn
  ·rw [dN n _ d8 (.inr h)] at hn; cases hn
 unfold nameOf at h1
 split at h1
 ·have h2:dw (af (aa a).1) (9999 - 1)=true:=by simpa using h1
  have:=hr _ h2
  omega
 ·have h2:dw (af (aa a).1) (v - 1)=true:=by
   rcases Bool.or_eq_true _ _ ▸ h1 with h | h
   ·have:=of_decide_eq_true h; omega
   ·exact h
  have:=hr _ h2
  refine ⟨by omega,by omega,?_⟩
  rw [← kl]
  exact h2
theorem AP {a:List Int} {at_:Int} (h:isB (aa a).1 at_=true):(at_,(an at_ (aa a).1).1)∈(aa a).1∧cm a (at_,(an at_ (aa a).1).1)∧ap (an at_ (aa a).1).1=0∧(an at_ (aa a).1).1.2.2.2=false∧a.length≤256:=by
 rcases fQ at_ (aa a).1 with e | ⟨s,h1,h2,h3,e⟩
 ·unfold isB at h
  rw [e] at h
  cases h
 ·obtain ⟨k1,k2,k3⟩:=eD a s h1
  rw [e]
  simp only
  subst h2
  exact ⟨h1,k2,k3,h3,k1⟩
end Go.Proofs.Ytcnoiiohmpgckaa
