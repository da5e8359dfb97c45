
import Derived.Test.YtglchojglcobjaaGreatSearch
namespace Go.Proofs.YtglchojglcobjaaGreat
open Go
abbrev ty_Pin:Ty:=.pair ty_I ty_I
abbrev Pin:=Int×Int
def badPin (x:Pin):Bool:=decide (x.1<0)||decide (255<x.1)||decide (x.2<1)||decide (1000000<x.2)
def pinScan:Int→List Pin→Int
 | _,[]=>0
 | q,x::l=>if badPin x=true then 4 else if x.1≤q then 3 else pinScan x.1 l
def pinsF (p:List Pin):Int:=if 16<p.length then 2 else pinScan (-1) p
def ahead (p:List Pin) (i:Int):Int:=if 0<i then (p.getD (i - 1).toNat (0,0)).1 else -1
theorem pinScan_ok:∀ {p:List Pin} {q:Int},pinScan q p=0→p.Pairwise (fun x y=>x.1<y.1)∧(∀ x∈p,q<x.1∧0≤x.1∧x.1≤255∧1≤x.2∧x.2≤1000000)
 | [],_,_=>⟨List.Pairwise.nil,fun _ h=>by cases h⟩
 | x::l,q,h=>by
  unfold pinScan at h
  split at h
  ·omega
  ·rename_i hb
   split at h
   ·omega
   ·rename_i hq
    obtain ⟨h1,h2⟩:=pinScan_ok h
    have hb:badPin x=false:=by simpa using hb
    simp only [badPin,Bool.or_eq_false_iff,decide_eq_false_iff_not] at hb
    refine ⟨List.pairwise_cons.2 ⟨fun y hy=>(h2 y hy).1,h1⟩,fun y hy=>?_⟩
    rcases List.mem_cons.1 hy with rfl | hy
    ·omega
    ·have:=h2 y hy; omega
theorem pins_ok {p:List Pin} (h:pinsF p=0):p.length≤16∧p.Pairwise (fun x y=>x.1<y.1)∧∀ x∈p,0≤x.1∧x.1≤255∧1≤x.2∧x.2≤1000000:=by
 unfold pinsF at h
 split at h
 ·omega
 ·obtain ⟨h1,h2⟩:=pinScan_ok h
  exact ⟨by omega,h1,fun x hx=>(h2 x hx).2⟩
theorem pairs_uniq:∀ {l k:List Pin},l.Pairwise (fun x y=>x.1<y.1)→k.Pairwise (fun x y=>x.1<y.1)→(∀ x,x∈l ↔ x∈k)→l=k
 | [],[],_,_,_=>rfl
 | [],y::k,_,_,h=>absurd ((h y).2 (by simp)) (by simp)
 | x::l,[],_,_,h=>absurd ((h x).1 (by simp)) (by simp)
 | x::l,y::k,hl,hk,h=>by
  obtain ⟨a1,a2⟩:=List.pairwise_cons.1 hl
  obtain ⟨b1,b2⟩:=List.pairwise_cons.1 hk
  have e:x=y:=by
   have h1:=(h x).1 (by simp)
   have h2:=(h y).2 (by simp)
   rcases List.mem_cons.1 h1 with h1 | h1
   ·exact h1
   ·rcases List.mem_cons.1 h2 with h2 | h2
    ·exact h2.symm
    ·have:=b1 x h1
     have:=a1 y h2
     omega
  subst e
  rw [pairs_uniq a2 b2 (fun z=>⟨fun hz=>?_,fun hz=>?_⟩)]
  ·have:=(h z).1 (by simp [hz])
   rcases List.mem_cons.1 this with e | h1
   ·subst e
    exact absurd (a1 z hz) (by omega)
   ·exact h1
  ·have:=(h z).2 (by simp [hz])
   rcases List.mem_cons.1 this with e | h1
   ·subst e
    exact absurd (b1 z hz) (by omega)
   ·exact h1
theorem mget_mem:∀ {m:List Pin} {k v:Int},mget m k=some v→(k,v)∈m
 | [],_,_,h=>by cases h
 | x::m,k,v,h=>by
  unfold mget at h
  split at h
  ·rename_i hx
   injection h with h
   subst h hx
   simp
  ·exact List.mem_cons_of_mem _ (mget_mem h)
theorem mem_mget:∀ {m:List Pin} {x:Pin},m.Pairwise (fun x y=>x.1<y.1)→x∈m→mget m x.1=some x.2
 | [],_,_,h=>by cases h
 | y::m,x,hp,h=>by
  obtain ⟨h1,h2⟩:=List.pairwise_cons.1 hp
  unfold mget
  rcases List.mem_cons.1 h with rfl | h
  ·rw [if_pos rfl]
  ·have:=h1 x h
   rw [if_neg (by omega)]
   exact mem_mget h2 h
theorem mget_put:∀ (m:List Pin) (k v j:Int),mget (mput m k v) j=if k=j then some v else mget m j
 | [],k,v,j=>by simp [mput,mget]
 | x::m,k,v,j=>by
  have ih:=mget_put m k v j
  unfold mput
  split
  ·rename_i hx
   subst hx
   unfold mget
   by_cases h:x.1=j <;> simp [h]
  ·rename_i hx
   unfold mget
   rw [ih]
   by_cases h:x.1=j
   ·rw [if_pos h,if_pos h,if_neg (by omega)]
   ·rw [if_neg h,if_neg h]
def manyP (m:List Pin) (k:Int):Int:=(mget m k).getD 0
def pinAt (m:List Pin) (k:Int):List Pin:=if 0<manyP m k then [(k,manyP m k)] else []
def pinUp (m:List Pin) (n:Nat):List Pin:=((List.range n).map Int.ofNat).flatMap (pinAt m)
def pinList (m:List Pin):List Pin:=pinUp m 256
theorem pinUp_succ (m:List Pin) (n:Nat):pinUp m (n+1)=pinUp m n++pinAt m n:=by
 unfold pinUp
 rw [List.range_succ,List.map_append,List.flatMap_append]
 simp
theorem pinUp_mem {m:List Pin} {x:Pin}:∀ {n:Nat},x∈pinUp m n ↔ 0≤x.1∧x.1<n∧x.2=manyP m x.1∧0<x.2
 | 0=>by
  simp only [pinUp,List.range_zero,List.map_nil,List.flatMap_nil,List.not_mem_nil,false_iff]
  intro h
  have:=h.2.1
  omega
 | n+1=>by
  rw [pinUp_succ,List.mem_append,pinUp_mem (n:=n)]
  have e:x∈pinAt m n ↔ x.1=n∧x.2=manyP m n∧0<x.2:=by
   unfold pinAt
   split
   ·rename_i h
    rw [List.mem_singleton,Prod.ext_iff]
    constructor
    ·rintro ⟨h1,h2⟩; exact ⟨h1,h2,by rw [h2]; exact h⟩
    ·rintro ⟨h1,h2,_⟩; exact ⟨h1,h2⟩
   ·rename_i h
    simp only [List.not_mem_nil,false_iff]
    rintro ⟨_,h2,h3⟩
    omega
  rw [e]
  constructor
  ·rintro (⟨h1,h2,h3,h4⟩ | ⟨h1,h2,h3⟩)
   ·exact ⟨h1,by omega,h3,h4⟩
   ·exact ⟨by omega,by omega,by rw [h1]; exact h2,h3⟩
  ·rintro ⟨h1,h2,h3,h4⟩
   by_cases h5:x.1<n
   ·exact .inl ⟨h1,h5,h3,h4⟩
   ·have h6:x.1=n:=by omega
    exact .inr ⟨h6,by rw [h6] at h3; exact h3,h4⟩
theorem pinUp_rise (m:List Pin):∀ n:Nat,(pinUp m n).Pairwise (fun x y=>x.1<y.1)
 | 0=>List.Pairwise.nil
 | n+1=>by
  rw [pinUp_succ,List.pairwise_append]
  refine ⟨pinUp_rise m n,?_,fun x hx y hy=>?_⟩
  ·unfold pinAt
   split <;> simp
  ·have h1:=pinUp_mem.1 hx
   unfold pinAt at hy
   split at hy
   ·rw [List.mem_singleton.1 hy]
    exact h1.2.1
   ·cases hy
theorem pinList_is {m q:List Pin} (hq:q.Pairwise (fun x y=>x.1<y.1)) (hr:∀ x∈q,0≤x.1∧x.1≤255∧1≤x.2) (h:∀ k,0≤k→k≤255→manyP m k=manyP q k):pinList m=q:=by
 refine pairs_uniq (pinUp_rise m 256) hq fun x=>?_
 show x∈pinUp m 256 ↔ _
 rw [pinUp_mem]
 constructor
 ·rintro ⟨h1,h2,h3,h4⟩
  have h5:=h x.1 h1 (by omega)
  rw [h5] at h3
  unfold manyP at h3
  cases h6:mget q x.1 with
  | none=>rw [h6] at h3; simp at h3; omega
  | some v =>
   rw [h6] at h3
   have h7:=mget_mem h6
   simp only [Option.getD_some] at h3
   rw [← h3] at h7
   exact h7
 ·intro hx
  have h1:=hr x hx
  have h2:=mem_mget hq hx
  refine ⟨h1.1,by omega,?_,by omega⟩
  rw [h x.1 h1.1 h1.2.1]
  unfold manyP
  rw [h2]
  rfl
def lowP (p:List Pin) (k:Int):Int:=lowI (p.map Prod.fst) k
def hasP (p:List Pin) (k:Int):Bool:=inL (p.map Prod.fst) k
theorem hasP_get {p:List Pin} (hp:p.Pairwise (fun x y=>x.1<y.1)) {k:Int}:hasP p k=(mget p k).isSome:=by
 apply Bool.eq_iff_iff.2
 unfold hasP
 rw [inL_iff,List.mem_map]
 constructor
 ·rintro ⟨x,hx,rfl⟩
  rw [mem_mget hp hx]
  rfl
 ·intro h
  obtain ⟨v,hv⟩:=Option.isSome_iff_exists.1 h
  exact ⟨_,mget_mem hv,rfl⟩
theorem fst_getD (p:List Pin) (i:Nat):(p.map Prod.fst).getD i 0=(p.getD i (0,0)).1:=by
 rw [List.getD_eq_getElem?_getD,List.getD_eq_getElem?_getD,List.getElem?_map]
 cases p[i]? <;> rfl
theorem low_parts {p:List Pin} (hp:p.Pairwise (fun x y=>x.1<y.1)) (k:Int):∃ A B:List Pin,(∀ x∈A,x.1<k)∧(∀ x∈B,k<x.1)∧lowP p k=A.length ∧
  ((mget p k=none∧p=A++B)∨∃ v,mget p k=some v∧p=A++(k,v)::B):=by
 induction p with
 | nil=>exact ⟨[],[],(fun _ h=>by cases h),(fun _ h=>by cases h),rfl,.inl ⟨rfl,rfl⟩⟩
 | cons y p ih =>
  obtain ⟨h1,h2⟩:=List.pairwise_cons.1 hp
  have e:lowP (y::p) k=(if y.1<k then 1 else 0)+lowP p k:=by
   unfold lowP lowI
   rw [List.map_cons,List.filter_cons]
   by_cases hy:y.1<k
   ·rw [if_pos (decide_eq_true hy),if_pos hy,List.length_cons]
    omega
   ·rw [if_neg (by simpa using hy),if_neg hy]
    omega
  have e0:k≤y.1→lowP p k=0:=fun hk=>by
   unfold lowP lowI
   have:(p.map Prod.fst).filter (fun z=>decide (z<k))=[]:=by
    rw [List.filter_eq_nil_iff]
    intro z hz
    obtain ⟨x,hx,rfl⟩:=List.mem_map.1 hz
    have:=h1 x hx
    simp
    omega
   rw [this]
   rfl
  rcases Int.lt_trichotomy y.1 k with hy | hy | hy
  ·obtain ⟨A,B,a1,a2,a3,a4⟩:=ih h2
   refine ⟨y::A,B,fun x hx=>?_,a2,?_,?_⟩
   ·rcases List.mem_cons.1 hx with rfl | hx
    ·exact hy
    ·exact a1 x hx
   ·rw [e,if_pos hy,a3,List.length_cons]
    omega
   ·unfold mget
    rw [if_neg (by omega)]
    rcases a4 with ⟨b1,b2⟩ | ⟨v,b1,b2⟩
    ·exact .inl ⟨b1,by rw [b2]; rfl⟩
    ·exact .inr ⟨v,b1,by rw [b2]; rfl⟩
  ·refine ⟨[],p,(fun x hx=>by cases hx),(fun x hx=>by have:=h1 x hx; omega),?_,.inr ⟨y.2,?_,?_⟩⟩
   ·rw [e,if_neg (by omega),e0 (by omega)]
    rfl
   ·unfold mget
    rw [if_pos hy]
   ·rw [← hy]
    rfl
  ·refine ⟨[],y::p,(fun x hx=>by cases hx),fun x hx=>?_,?_,.inl ⟨?_,rfl⟩⟩
   ·rcases List.mem_cons.1 hx with rfl | hx
    ·exact hy
    ·have:=h1 x hx; omega
   ·rw [e,if_neg (by omega),e0 (by omega)]
    rfl
   ·cases h:mget (y::p) k with
    | none=>rfl
    | some v =>
     have:=mget_mem h
     rcases List.mem_cons.1 this with h3 | h3
     ·rw [← h3] at hy; simp at hy
     ·have:=h1 _ h3; simp at this; omega
theorem mget_none {m:List Pin} {k:Int} (h:∀ x∈m,x.1≠k):mget m k=none:=by
 cases hm:mget m k with
 | none=>rfl
 | some v=>exact absurd rfl (h _ (mget_mem hm))
theorem mget_app (k:Int):∀ (m l:List Pin),mget (m++l) k=match mget m k with | some v=>some v | none=>mget l k
 | [],_=>rfl
 | x::m,l=>by
  have ih:=mget_app k m l
  simp only [List.cons_append,mget]
  split
  ·rfl
  ·exact ih
theorem many_mid {A B:List Pin} {k v:Int} (hA:∀ x∈A,x.1<k) (j:Int):manyP (A++(k,v)::B) j=if k=j then v else manyP (A++B) j:=by
 unfold manyP
 rw [mget_app,mget_app]
 by_cases h:k=j
 ·subst h
  rw [mget_none (fun x hx=>by have:=hA x hx; omega),if_pos rfl]
  simp [mget]
 ·rw [if_neg h]
  simp only [mget]
  rw [if_neg h]
theorem many_out {A B:List Pin} {k:Int} (hA:∀ x∈A,x.1<k) (hB:∀ x∈B,k<x.1):manyP (A++B) k=0:=by
 unfold manyP
 rw [mget_none (fun x hx=>?_)]
 ·rfl
 ·rcases List.mem_append.1 hx with hx | hx
  ·have:=hA x hx; omega
  ·have:=hB x hx; omega
theorem many_put (m:List Pin) (k v j:Int):manyP (mput m k v) j=if k=j then v else manyP m j:=by
 unfold manyP
 rw [mget_put]
 split <;> rfl
def putAll (m p:List Pin):List Pin:=p.foldl (fun m x=>mput m x.1 x.2) m
theorem mput_new:∀ {m:List Pin} {k v:Int},(∀ x∈m,x.1≠k)→mput m k v=m++[(k,v)]
 | [],_,_,_=>rfl
 | x::m,k,v,h=>by
  unfold mput
  rw [if_neg (h x (by simp)),mput_new (fun y hy=>h y (by simp [hy]))]
  rfl
theorem putAll_app:∀ {p m:List Pin},(m++p).Pairwise (fun x y=>x.1<y.1)→putAll m p=m++p
 | [],m,_=>by simp [putAll]
 | x::p,m,h=>by
  have h1:=List.pairwise_append.1 h
  have e:putAll m (x::p)=putAll (mput m x.1 x.2) p:=rfl
  rw [e,mput_new (fun y hy=>by have:=h1.2.2 y hy x (by simp); omega)]
  have e2:m++x::p=(m++[(x.1,x.2)])++p:=by simp
  rw [e2] at h ⊢
  exact putAll_app h
theorem putAll_self {p:List Pin} (h:p.Pairwise (fun x y=>x.1<y.1)):putAll [] p=p:=putAll_app (m:=[]) h
end Go.Proofs.YtglchojglcobjaaGreat
