
import Derived.Test.YtcnoiiohmpgckaaRObjects
namespace Go.Proofs.Ytcnoiiohmpgckaa
open Go
set_option maxRecDepth 100000
set_option maxHeartbeats 1000000
theorem nB (at_:Int) (l:List Int) (r:List aN) (h:spotsS at_ l=some r):r.Pairwise (fun s t=>s.1<t.1):=by
 induction at_,l using spotsS.induct generalizing r with
 | case1 at_ =>
  simp only [spotsS,Option.some.injEq] at h
  subst h
  exact List.Pairwise.nil
 | case2 at_ v l hv ih =>
  rw [cY hv.1 hv.2] at h
  obtain ⟨r',hr,rfl⟩:=Option.map_eq_some_iff.1 h
  have hl:=cw hv.1
  refine List.pairwise_cons.2 ⟨fun t ht=>?_,ih r' hr⟩
  have:=(oA _ _ _ hr t ht).1
  simp only
  omega
 | case3 at_ v l hv =>
  rw [cr hv] at h
  cases h
theorem br (a:List Int):(aa a).1.Pairwise (fun s t=>s.1<t.1):=by
 unfold aa
 split
 ·exact List.Pairwise.nil
 ·cases h:spotsS 0 a with
  | none=>exact List.Pairwise.nil
  | some l=>exact nB 0 a l h
theorem fu {α:Type} (k k':Int) (x:α):∀ (m:List (Int×α)),bc (eR m k x) k'=if k'=k then some x else bc m k'
 | []=>by
  simp only [eR,bc]
  by_cases h:k=k'
  ·simp [h]
  ·simp [h,Ne.symm h]
 | y::m=>by
  have ih:=fu k k' x m
  simp only [eR]
  by_cases hy:y.1=k
  ·rw [if_pos hy]
   simp only [bc]
   by_cases h:k=k'
   ·simp [h]
   ·simp [h,Ne.symm h,hy]
  ·rw [if_neg hy]
   simp only [bc,ih]
   by_cases h:y.1=k'
   ·have:k'≠k:=fun e=>hy (h.trans e)
    simp [h,this]
   ·simp [h]
def rK (v:Int):Int→List aN→Option Int
 | _,[]=>none
 | i,s::l=>if s.2.2.2.2=false∧s.1+1=v then some i else rK v (i+1) l
theorem oU {v:Int}:∀ (l:List aN) (i:Int),(∀ s∈l,s.1+1≠v)→rK v i l=none
 | [],_,_=>rfl
 | s::l,i,h=>by
  simp only [rK]
  rw [if_neg (fun e=>h s (by simp) e.2)]
  exact oU l (i+1) (fun t ht=>h t (by simp [ht]))
theorem mq (v:Int):∀ (l:List aN) (m:List (Int×Int)) (i:Int),l.Pairwise (fun s t=>s.1<t.1)→bc (cd m i l) v=(rK v i l).or (bc m v)
 | [],m,i,_=>rfl
 | s::l,m,i,h=>by
  obtain ⟨h1,h2⟩:=List.pairwise_cons.1 h
  simp only [cd,rK]
  rw [mq v l _ (i+1) h2]
  cases hf:s.2.2.2.2
  ·simp only [Bool.false_eq_true,if_false,true_and]
   rw [fu]
   by_cases hv:s.1+1=v
   ·rw [oU l (i+1) (fun t ht e=>by have:=h1 t ht; omega),if_pos hv,if_pos hv.symm]
    rfl
   ·rw [if_neg hv,if_neg (fun e=>hv e.symm)]
  ·simp
theorem oT (v:Int):∀ (l:List aN) (i:Int),(rK v i l).isSome=aI (ab l) (v - 1)
 | [],_=>rfl
 | s::l,i=>by
  have ih:=oT v l (i+1)
  simp only [rK,ab]
  cases hf:s.2.2.2.2
  ·simp only [true_and,Bool.false_eq_true,if_false,aI,List.any_cons]
   by_cases hv:s.1+1=v
   ·rw [if_pos hv]
    simp
    left; omega
   ·rw [if_neg hv,ih]
    have:¬ s.1=v - 1:=by omega
    simp [this,aI]
  ·simp [ih]
theorem dn (n:Int):∀ (l:List aN),(∀ s∈l,0≤s.1∧s.1≤255)→(n<0∨255<n)→aI (ab l) n=false
 | [],_,_=>rfl
 | s::l,h,hn=>by
  have ih:=dn n l (fun t ht=>h t (by simp [ht])) hn
  have hs:=h s (by simp)
  simp only [ab]
  split
  ·exact ih
  ·simp only [aI,List.any_cons] at ih ⊢
   rw [ih]
   simp
   omega
theorem ka {l:List aN} (hs:l.Pairwise (fun s t=>s.1<t.1)) (hr:∀ s∈l,0≤s.1∧s.1≤255) {v:Int} (hv:0≤v) :
  (decide (nameOf v=-1)||aI (ab l) (nameOf v))=(bc (aL l) v).isSome:=by
 unfold aL
 rw [mq v l _ 0 hs]
 by_cases h0:v=0
 ·subst h0
  cases h:rK 0 0 l <;> simp [nameOf,bc]
 ·have e1:bc [((0:Int),(-1:Int))] v=none:=by simp [bc,Ne.symm h0]
  rw [e1,Option.or_none,oT]
  by_cases hb:256<v
  ·have:nameOf v=9998:=by simp [nameOf,hb]
   rw [this,dn 9998 l hr (by omega),dn (v - 1) l hr (by omega)]
   rfl
  ·have:nameOf v=v - 1:=by simp [nameOf,hb]
   rw [this]
   have:¬ v - 1=-1:=by omega
   simp [this]
theorem mL:∀ {l:List aN} {s:aN},l.Pairwise (fun s t=>s.1<t.1)→s∈l→s.2.2.2.2=false→ac s.1 l=(s.2,true)
 | t::l,s,hs,hm,hf=>by
  obtain ⟨h1,h2⟩:=List.pairwise_cons.1 hs
  simp only [ac]
  rcases List.mem_cons.1 hm with rfl | hm
  ·rw [if_pos ⟨rfl,hf⟩]
  ·rw [if_neg (fun e=>by have:=h1 s hm; omega)]
   exact mL h2 hm hf
theorem tj (a:List Int) (s:aN):ay a s.1 s.2=(aH a s).map nameOf:=rfl
theorem uS {a:List Int} {s:aN} (hf:s.2.2.2.2=true) (h:ae s.2=0):aH a s=[]:=by
 have:=(bj h).2.2.2.2.2 hf
 unfold aH
 rw [this.1]
 apply List.drop_of_length_le
 rw [List.length_take,Int.add_zero]
 omega
theorem ef {a:List Int} {s:aN} (hw:∀ x∈a,ai .u64 x):∀ v∈aH a s,0≤v:=by
 intro v hv
 exact (hw v (List.mem_of_mem_take (List.mem_of_mem_drop hv))).1
theorem ne {a:List Int} (hw:∀ x∈a,ai .u64 x) {l:List aN} (hs:l.Pairwise (fun s t=>s.1<t.1)) (hr:∀ s∈l,0≤s.1∧s.1≤255) (hf:∀ s∈l,ae s.2=0) :
  ∀ (l':List aN),(∀ s∈l',s∈l)→cD a l (ab l) (ab l')=c3 (aL l) a l'
 | [],_=>rfl
 | s::l',h=>by
  have ih:=ne hw hs hr hf l' (fun t ht=>h t (by simp [ht]))
  have hm:=h s (by simp)
  simp only [ab]
  unfold c3 at ih ⊢
  rw [List.all_cons]
  cases hfr:s.2.2.2.2
  ·simp only [Bool.false_eq_true,if_false,cD]
   rw [mL hs hm hfr,tj,ih]
   congr 1
   unfold db
   rw [List.all_map]
   apply Bool.eq_iff_iff.2
   rw [List.all_eq_true,List.all_eq_true]
   constructor
   ·intro hh v hv
    rw [← ka hs hr (ef hw v hv)]
    exact hh v hv
   ·intro hh v hv
    have:=hh v hv
    rw [← ka hs hr (ef hw v hv)] at this
    exact this
  ·simp only [if_true]
   rw [ih,uS hfr (hf s hm)]
   rfl
theorem d8 {a:List Int}:∀ s∈(aa a).1,0≤s.1∧s.1≤255:=by
 intro s hs
 obtain ⟨h1,h2,h3⟩:=fG a s hs
 unfold cZ at h2
 omega
theorem gF {a:List Int} (hw:∀ x∈a,ai .u64 x):c9 a=(au a).2.2:=by
 unfold c9 au
 rw [ne hw (br a) d8 (fun s hs=>(fG a s hs).2.2) (aa a).1 (fun _ h=>h)]
 split
 ·rfl
 ·split <;> rfl
def isB (l:List aN) (at_:Int):Bool:=(ac at_ l).2
theorem ce (n:Int):∀ l:List aN,aI (ab l) n=isB l n
 | []=>rfl
 | s::l=>by
  have ih:=ce n l
  unfold isB at ih ⊢
  simp only [ab,ac]
  cases hf:s.2.2.2.2
  ·simp only [Bool.false_eq_true,if_false,and_true,aI,List.any_cons]
   by_cases hv:s.1=n
   ·rw [if_pos hv]
    simp [hv]
   ·rw [if_neg hv]
    simp only [aI] at ih
    rw [← ih]
    simp [hv]
  ·simp only [if_true,and_false,if_false,Bool.true_eq_false]
   exact ih
theorem ip {a:List Int} (hw:∀ x∈a,ai .u64 x) (hc:(au a).2.2=0):∀ s∈(aa a).1,∀ v∈aH a s,v=0∨1≤v∧v≤256∧isB (aa a).1 (v - 1)=true:=by
 intro s hs v hv
 obtain ⟨_,_,_,_,_,hok,_⟩:=vh hc
 have h1:=List.all_eq_true.1 (List.all_eq_true.1 hok s hs) v hv
 have h0:=ef hw v hv
 rw [← ka (br a) d8 h0] at h1
 by_cases hz:v=0
 ·exact .inl hz
 refine .inr ?_
 have hr:∀ n,aI (ab (aa a).1) n=true→0≤n∧n≤255:=fun n hn=>by
  refine ⟨Int.not_lt.1 fun h=>?_,Int.not_lt.1 fun h=>?_⟩
  ·rw [dn n _ d8 (.inl h)] at hn; cases hn
  ·rw [dn n _ d8 (.inr h)] at hn; cases hn
 unfold nameOf at h1
 split at h1
 ·have h2:aI (ab (aa a).1) (9999 - 1)=true:=by simpa using h1
  have:=hr _ h2
  omega
 ·have h2:aI (ab (aa a).1) (v - 1)=true:=by
   rcases Bool.or_eq_true _ _ ▸ h1 with h | h
   ·have:=of_decide_eq_true h; omega
   ·exact h
  have:=hr _ h2
  refine ⟨by omega,by omega,?_⟩
  rw [← ce]
  exact h2
theorem fw {a:List Int} {at_:Int} (h:isB (aa a).1 at_=true):(at_,(ac at_ (aa a).1).1)∈(aa a).1∧cZ a (at_,(ac at_ (aa a).1).1)∧ae (ac at_ (aa a).1).1=0∧(ac at_ (aa a).1).1.2.2.2=false∧a.length≤256:=by
 rcases fO at_ (aa a).1 with e | ⟨s,h1,h2,h3,e⟩
 ·unfold isB at h
  rw [e] at h
  cases h
 ·obtain ⟨k1,k2,k3⟩:=fG a s h1
  rw [e]
  simp only
  subst h2
  exact ⟨h1,k2,k3,h3,k1⟩
end Go.Proofs.Ytcnoiiohmpgckaa
