
import Derived.Test.YtglchojglcobjaaGreatSearch
namespace Go.Proofs.YtglchojglcobjaaGreat
open Go
abbrev cW:Ty:=.pair ty_I ty_I
abbrev bh:=Int×Int
def iK (x:bh):Bool:=decide (x.1<0)||decide (255<x.1)||decide (x.2<1)||decide (1000000<x.2)
def cj:Int→List bh→Int
 | _,[]=>0
 | q,x::l=>if iK x=true then 4 else if x.1≤q then 3 else cj x.1 l
def bT (p:List bh):Int:=if 16<p.length then 2 else cj (-1) p
def ahead (p:List bh) (i:Int):Int:=if 0<i then (p.getD (i - 1).toNat (0,0)).1 else -1
theorem sf:∀ {p:List bh} {q:Int},cj q p=0→p.Pairwise (fun x y=>x.1<y.1)∧(∀ x∈p,q<x.1∧0≤x.1∧x.1≤255∧1≤x.2∧x.2≤1000000)
 | [],_,_=>⟨List.Pairwise.nil,fun _ h=>by cases h⟩
 | x::l,q,h=>by
  unfold cj at h
  split at h
  ·omega
  ·rename_i hb
   split at h
   ·omega
   ·rename_i hq
    obtain ⟨h1,h2⟩:=sf h
    have hb:iK x=false:=by simpa using hb
    simp only [iK,Bool.or_eq_false_iff,decide_eq_false_iff_not] at hb
    refine ⟨List.pairwise_cons.2 ⟨fun y hy=>(h2 y hy).1,h1⟩,fun y hy=>?_⟩
    rcases List.mem_cons.1 hy with rfl | hy
    ·omega
    ·have:=h2 y hy; omega
theorem nR {p:List bh} (h:bT p=0):p.length≤16∧p.Pairwise (fun x y=>x.1<y.1)∧∀ x∈p,0≤x.1∧x.1≤255∧1≤x.2∧x.2≤1000000:=by
 unfold bT at h
 split at h
 ·omega
 ·obtain ⟨h1,h2⟩:=sf h
  exact ⟨by omega,h1,fun x hx=>(h2 x hx).2⟩
theorem sh:∀ {l k:List bh},l.Pairwise (fun x y=>x.1<y.1)→k.Pairwise (fun x y=>x.1<y.1)→(∀ x,x∈l ↔ x∈k)→l=k
 | [],[],_,_,_=>rfl
 | [],y::k,_,_,h=>absurd ((h y).2 (by simp)) (by simp)
 | x::l,[],_,_,h=>absurd ((h x).1 (by simp)) (by simp)
 | x::l,y::k,hl,hk,h=>by
  obtain ⟨a1,a2⟩:=List.pairwise_cons.1 hl
  obtain ⟨b1,b2⟩:=List.pairwise_cons.1 hk
  have e:x=y:=by
   have h1:=(h x).1 (by simp)
   have h2:=(h y).2 (by simp)
   rcases List.mem_cons.1 h1 with h1 | h1
   ·exact h1
   ·rcases List.mem_cons.1 h2 with h2 | h2
    ·exact h2.symm
    ·have:=b1 x h1
     have:=a1 y h2
     omega
  subst e
  rw [sh a2 b2 (fun z=>⟨fun hz=>?_,fun hz=>?_⟩)]
  ·have:=(h z).1 (by simp [hz])
   rcases List.mem_cons.1 this with e | h1
   ·subst e
    exact absurd (a1 z hz) (by omega)
   ·exact h1
  ·have:=(h z).2 (by simp [hz])
   rcases List.mem_cons.1 this with e | h1
   ·subst e
    exact absurd (b1 z hz) (by omega)
   ·exact h1
theorem jx:∀ {m:List bh} {k v:Int},aK m k=some v→(k,v)∈m
 | [],_,_,h=>by cases h
 | x::m,k,v,h=>by
  unfold aK at h
  split at h
  ·rename_i hx
   injection h with h
   subst h hx
   simp
  ·exact List.mem_cons_of_mem _ (jx h)
theorem sy:∀ {m:List bh} {x:bh},m.Pairwise (fun x y=>x.1<y.1)→x∈m→aK m x.1=some x.2
 | [],_,_,h=>by cases h
 | y::m,x,hp,h=>by
  obtain ⟨h1,h2⟩:=List.pairwise_cons.1 hp
  unfold aK
  rcases List.mem_cons.1 h with rfl | h
  ·rw [if_pos rfl]
  ·have:=h1 x h
   rw [if_neg (by omega)]
   exact sy h2 h
theorem Aa:∀ (m:List bh) (k v j:Int),aK (dP m k v) j=if k=j then some v else aK m j
 | [],k,v,j=>by simp [dP,aK]
 | x::m,k,v,j=>by
  have ih:=Aa m k v j
  unfold dP
  split
  ·rename_i hx
   subst hx
   unfold aK
   by_cases h:x.1=j <;> simp [h]
  ·rename_i hx
   unfold aK
   rw [ih]
   by_cases h:x.1=j
   ·rw [if_pos h,if_pos h,if_neg (by omega)]
   ·rw [if_neg h,if_neg h]
def bL (m:List bh) (k:Int):Int:=(aK m k).getD 0
def qc (m:List bh) (k:Int):List bh:=if 0<bL m k then [(k,bL m k)] else []
def jw (m:List bh) (n:Nat):List bh:=((List.range n).map Int.ofNat).flatMap (qc m)
def gA (m:List bh):List bh:=jw m 256
theorem mI (m:List bh) (n:Nat):jw m (n+1)=jw m n++qc m n:=by
 unfold jw
 rw [List.range_succ,List.map_append,List.flatMap_append]
 simp
theorem oW {m:List bh} {x:bh}:∀ {n:Nat},x∈jw m n ↔ 0≤x.1∧x.1<n∧x.2=bL m x.1∧0<x.2
 | 0=>by
  simp only [jw,List.range_zero,List.map_nil,List.flatMap_nil,List.not_mem_nil,false_iff]
  intro h
  have:=h.2.1
  omega
 | n+1=>by
  rw [mI,List.mem_append,oW (n:=n)]
  have e:x∈qc m n ↔ x.1=n∧x.2=bL m n∧0<x.2:=by
   unfold qc
   split
   ·rename_i h
    rw [List.mem_singleton,Prod.ext_iff]
    constructor
    ·rintro ⟨h1,h2⟩; exact ⟨h1,h2,by rw [h2]; exact h⟩
    ·rintro ⟨h1,h2,_⟩; exact ⟨h1,h2⟩
   ·rename_i h
    simp only [List.not_mem_nil,false_iff]
    rintro ⟨_,h2,h3⟩
    omega
  rw [e]
  constructor
  ·rintro (⟨h1,h2,h3,h4⟩ | ⟨h1,h2,h3⟩)
   ·exact ⟨h1,by omega,h3,h4⟩
   ·exact ⟨by omega,by omega,by rw [h1]; exact h2,h3⟩
  ·rintro ⟨h1,h2,h3,h4⟩
   by_cases h5:x.1<n
   ·exact .inl ⟨h1,h5,h3,h4⟩
   ·have h6:x.1=n:=by omega
    exact .inr ⟨h6,by rw [h6] at h3; exact h3,h4⟩
theorem se (m:List bh):∀ n:Nat,(jw m n).Pairwise (fun x y=>x.1<y.1)
 | 0=>List.Pairwise.nil
 | n+1=>by
  rw [mI,List.pairwise_append]
  refine ⟨se m n,?_,fun x hx y hy=>?_⟩
  ·unfold qc
   split <;> simp
  ·have h1:=oW.1 hx
   unfold qc at hy
   split at hy
   ·rw [List.mem_singleton.1 hy]
    exact h1.2.1
   ·cases hy
theorem mJ {m q:List bh} (hq:q.Pairwise (fun x y=>x.1<y.1)) (hr:∀ x∈q,0≤x.1∧x.1≤255∧1≤x.2) (h:∀ k,0≤k→k≤255→bL m k=bL q k):gA m=q:=by
 refine sh (se m 256) hq fun x=>?_
 show x∈jw m 256 ↔ _
 rw [oW]
 constructor
 ·rintro ⟨h1,h2,h3,h4⟩
  have h5:=h x.1 h1 (by omega)
  rw [h5] at h3
  unfold bL at h3
  cases h6:aK q x.1 with
  | none=>rw [h6] at h3; simp at h3; omega
  | some v =>
   rw [h6] at h3
   have h7:=jx h6
   simp only [Option.getD_some] at h3
   rw [← h3] at h7
   exact h7
 ·intro hx
  have h1:=hr x hx
  have h2:=sy hq hx
  refine ⟨h1.1,by omega,?_,by omega⟩
  rw [h x.1 h1.1 h1.2.1]
  unfold bL
  rw [h2]
  rfl
def mR (p:List bh) (k:Int):Int:=HY (p.map Prod.fst) k
def qL (p:List bh) (k:Int):Bool:=cD (p.map Prod.fst) k
theorem sN {p:List bh} (hp:p.Pairwise (fun x y=>x.1<y.1)) {k:Int}:qL p k=(aK p k).isSome:=by
 apply Bool.eq_iff_iff.2
 unfold qL
 rw [cz,List.mem_map]
 constructor
 ·rintro ⟨x,hx,rfl⟩
  rw [sy hp hx]
  rfl
 ·intro h
  obtain ⟨v,hv⟩:=Option.isSome_iff_exists.1 h
  exact ⟨_,jx hv,rfl⟩
theorem Eo {p:List bh} (hp:p.Pairwise (fun x y=>x.1<y.1)) (k:Int):∃ A B:List bh,(∀ x∈A,x.1<k)∧(∀ x∈B,k<x.1)∧mR p k=A.length ∧
  ((aK p k=none∧p=A++B)∨∃ v,aK p k=some v∧p=A++(k,v)::B):=by
 induction p with
 | nil=>exact ⟨[],[],(fun _ h=>by cases h),(fun _ h=>by cases h),rfl,.inl ⟨rfl,rfl⟩⟩
 | cons y p ih =>
  obtain ⟨h1,h2⟩:=List.pairwise_cons.1 hp
  have e:mR (y::p) k=(if y.1<k then 1 else 0)+mR p k:=by
   unfold mR HY
   rw [List.map_cons,List.filter_cons]
   by_cases hy:y.1<k
   ·rw [if_pos (decide_eq_true hy),if_pos hy,List.length_cons]
    omega
   ·rw [if_neg (by simpa using hy),if_neg hy]
    omega
  have e0:k≤y.1→mR p k=0:=fun hk=>by
   unfold mR HY
   have:(p.map Prod.fst).filter (fun z=>decide (z<k))=[]:=by
    rw [List.filter_eq_nil_iff]
    intro z hz
    obtain ⟨x,hx,rfl⟩:=List.mem_map.1 hz
    have:=h1 x hx
    simp
    omega
   rw [this]
   rfl
  rcases Int.lt_trichotomy y.1 k with hy | hy | hy
  ·obtain ⟨A,B,a1,a2,a3,a4⟩:=ih h2
   refine ⟨y::A,B,fun x hx=>?_,a2,?_,?_⟩
   ·rcases List.mem_cons.1 hx with rfl | hx
    ·exact hy
    ·exact a1 x hx
   ·rw [e,if_pos hy,a3,List.length_cons]
    omega
   ·unfold aK
    rw [if_neg (by omega)]
    rcases a4 with ⟨b1,b2⟩ | ⟨v,b1,b2⟩
    ·exact .inl ⟨b1,by rw [b2]; rfl⟩
    ·exact .inr ⟨v,b1,by rw [b2]; rfl⟩
  ·refine ⟨[],p,(fun x hx=>by cases hx),(fun x hx=>by have:=h1 x hx; omega),?_,.inr ⟨y.2,?_,?_⟩⟩
   ·rw [e,if_neg (by omega),e0 (by omega)]
    rfl
   ·unfold aK
    rw [if_pos hy]
   ·rw [← hy]
    rfl
  ·refine ⟨[],y::p,(fun x hx=>by cases hx),fun x hx=>?_,?_,.inl ⟨?_,rfl⟩⟩
   ·rcases List.mem_cons.1 hx with rfl | hx
    ·exact hy
    ·have:=h1 x hx; omega
   ·rw [e,if_neg (by omega),e0 (by omega)]
    rfl
   ·cases h:aK (y::p) k with
    | none=>rfl
    | some v =>
     have:=jx h
     rcases List.mem_cons.1 this with h3 | h3
     ·rw [← h3] at hy; simp at hy
     ·have:=h1 _ h3; simp at this; omega
theorem vM {m:List bh} {k:Int} (h:∀ x∈m,x.1≠k):aK m k=none:=by
 cases hm:aK m k with
 | none=>rfl
 | some v=>exact absurd rfl (h _ (jx hm))
theorem sx (k:Int):∀ (m l:List bh),aK (m++l) k=match aK m k with | some v=>some v | none=>aK l k
 | [],_=>rfl
 | x::m,l=>by
  have ih:=sx k m l
  simp only [List.cons_append,aK]
  split
  ·rfl
  ·exact ih
theorem n0 {A B:List bh} {k v:Int} (hA:∀ x∈A,x.1<k) (j:Int):bL (A++(k,v)::B) j=if k=j then v else bL (A++B) j:=by
 unfold bL
 rw [sx,sx]
 by_cases h:k=j
 ·subst h
  rw [vM (fun x hx=>by have:=hA x hx; omega),if_pos rfl]
  simp [aK]
 ·rw [if_neg h]
  simp only [aK]
  rw [if_neg h]
theorem FT {A B:List bh} {k:Int} (hA:∀ x∈A,x.1<k) (hB:∀ x∈B,k<x.1):bL (A++B) k=0:=by
 unfold bL
 rw [vM (fun x hx=>?_)]
 ·rfl
 ·rcases List.mem_append.1 hx with hx | hx
  ·have:=hA x hx; omega
  ·have:=hB x hx; omega
theorem sC (m:List bh) (k v j:Int):bL (dP m k v) j=if k=j then v else bL m j:=by
 unfold bL
 rw [Aa]
 split <;> rfl
def cr (m p:List bh):List bh:=p.foldl (fun m x=>dP m x.1 x.2) m
theorem z8:∀ {m:List bh} {k v:Int},(∀ x∈m,x.1≠k)→dP m k v=m++[(k,v)]
 | [],_,_,_=>rfl
 | x::m,k,v,h=>by
  unfold dP
  rw [if_neg (h x (by simp)),z8 (fun y hy=>h y (by simp [hy]))]
  rfl
theorem sc:∀ {p m:List bh},(m++p).Pairwise (fun x y=>x.1<y.1)→cr m p=m++p
 | [],m,_=>by simp [cr]
 | x::p,m,h=>by
  have h1:=List.pairwise_append.1 h
  have e:cr m (x::p)=cr (dP m x.1 x.2) p:=rfl
  rw [e,z8 (fun y hy=>by have:=h1.2.2 y hy x (by simp); omega)]
  have e2:m++x::p=(m++[(x.1,x.2)])++p:=by simp
  rw [e2] at h ⊢
  exact sc h
theorem qa {p:List bh} (h:p.Pairwise (fun x y=>x.1<y.1)):cr [] p=p:=sc (m:=[]) h
end Go.Proofs.YtglchojglcobjaaGreat
