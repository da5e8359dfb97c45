
import Derived.Test.YtcnoiiohmpgckaaKeepPure
import Derived.Test.YtcnoiiohmpgckaaPlanSame
import Derived.Test.YtcnoiiohmpgckaaStepDone
import Derived.Test.YtcnoiiohmpgckaaGapsRef
namespace Go.Proofs.Ytcnoiiohmpgckaa
open Go
def cH (a:List Int) (x:Int):Int:=ah (jQ a x)
def cT (a:List Int) (l:List Int):List Int:=l.foldl (fun w x=>bn w x (cH a x)) a
theorem tJ (a:List Int) (l:List Int) (x:Int):cT a (l++[x])=bn (cT a l) x (cH a x):=by
 unfold cT
 rw [List.foldl_append]
 rfl
structure Blank (a:List Int) (q:Int→Prop) (out:List Int):Prop where
 len:out.length=a.length
 hit:∀ x,q x→∀ j:Nat,x≤(j:Int)→(j:Int)<x+cH a x→out.getD j 0=if (j:Int)=x then bh (0,cH a x - 1,0,true) else 0
 miss:∀ j:Nat,(∀ x,q x→¬ (x≤(j:Int)∧(j:Int)<x+cH a x))→out.getD j 0=a.getD j 0
theorem Blank.congr {a o:List Int} {q r:Int→Prop} (h:Blank a q o) (e:∀ x,q x ↔ r x):Blank a r o :=
 ⟨h.len,fun x hx=>h.hit x ((e x).2 hx),fun j hj=>h.miss j fun x hx=>hj x ((e x).1 hx)⟩
theorem Blank.uniq {a o p:List Int} {q:Int→Prop} (h:Blank a q o) (k:Blank a q p):o=p:=by
 refine List.ext_getElem (by rw [h.len,k.len]) fun j h1 h2=>?_
 have e:o.getD j 0=p.getD j 0:=by
  rcases Classical.em (∃ x,q x∧x≤(j:Int)∧(j:Int)<x+cH a x) with ⟨x,hx,g1,g2⟩ | hn
  ·rw [h.hit x hx j g1 g2,k.hit x hx j g1 g2]
  ·have hn:∀ x,q x→¬ (x≤(j:Int)∧(j:Int)<x+cH a x):=fun x hx hg=>hn ⟨x,hx,hg⟩
   rw [h.miss j hn,k.miss j hn]
 simpa [h1,h2] using e
theorem Blank.none (a:List Int) {q:Int→Prop} (h:∀ x,¬ q x):Blank a q a:=⟨rfl,fun x hx=>absurd hx (h x),fun _ _=>rfl⟩
theorem lj {w:List Int} {x n:Int} (h:eh w x n) (hn:1≤n) (j:Nat):(bn w x n).getD j 0=if x≤(j:Int)∧(j:Int)<x+n then (if (j:Int)=x then bh (0,n - 1,0,true) else 0) else w.getD j 0:=by
 obtain ⟨p1,p2,p3,p4⟩:=h
 have l:=de w x n 0 n p1 p3 p2 (by omega)
 unfold bn
 rw [if_pos (by omega)]
 by_cases e:(j:Int)=x
 ·rw [if_pos (by omega),if_pos e,show x.toNat=j by omega]
  have:j<(dL w x n 0 n).length:=by omega
  simp [List.getD_eq_getElem?_getD,this]
 rw [if_neg e]
 have hne:x.toNat≠j:=by omega
 rw [List.getD_eq_getElem?_getD,List.getElem?_set_ne hne,← List.getD_eq_getElem?_getD]
 have lt:(w.take x.toNat).length=x.toNat:=by rw [List.length_take]; omega
 have lr:((List.replicate n.toNat (0:Int)).take n.toNat).length=n.toNat:=by simp
 unfold dL ji
 by_cases h1:x≤(j:Int)∧(j:Int)<x+n
 ·rw [if_pos h1,List.getD_eq_getElem?_getD,List.getElem?_append_right (by omega),List.getElem?_append_left (by omega),lt]
  have:j - x.toNat<n.toNat:=by omega
  simp [this]
 ·rw [if_neg h1]
  by_cases h2:(j:Int)<x
  ·rw [List.getD_eq_getElem?_getD,List.getElem?_append_left (by omega),List.getElem?_take_of_lt (by omega),← List.getD_eq_getElem?_getD]
  ·rw [List.getD_eq_getElem?_getD,List.getElem?_append_right (by omega),List.getElem?_append_right (by omega),lt,lr,List.getElem?_drop,← List.getD_eq_getElem?_getD]
   congr 1
   omega
theorem sz {a:List Int} (hc:(au a).2.2=0):(aa a).2=0:=by
 unfold au at hc
 split at hc
 ·rename_i h; exact absurd hc h
 ·rename_i h; omega
theorem mz {a:List Int} {x y:Int} (hx:isB (aa a).1 x=true) (hy:isB (aa a).1 y=true) (hc:(au a).2.2=0) (hlt:x<y):x+cH a x≤y:=by
 have h1:=(fw hx).1
 have h2:=(fw hy).1
 exact lX (pJ (sz hc)) _ h1 _ h2 hlt
theorem qk {a w:List Int} (hw:w.length=a.length) {x:Int} (hx:isB (aa a).1 x=true):eh w x (cH a x)∧1≤cH a x∧ae (jQ a x)=0∧ah (jQ a x)=cH a x:=by
 obtain ⟨k1,k2,k3,k4,k5⟩:=fw hx
 have hz:=bj k3
 unfold cZ at k2
 have e:cH a x=ah (ac x (aa a).1).1:=rfl
 have e2:ah (ac x (aa a).1).1=1+(ac x (aa a).1).1.1+(ac x (aa a).1).1.2.1:=rfl
 simp only at k2
 refine ⟨⟨by omega,by omega,by omega,by omega⟩,by omega,k3,rfl⟩
theorem Blank.step {a o:List Int} {q:Int→Prop} (h:Blank a q o) (hc:(au a).2.2=0) (hq:∀ y,q y→isB (aa a).1 y=true) {x:Int} (hx:isB (aa a).1 x=true) (hn:¬ q x):Blank a (fun y=>q y∨y=x) (bn o x (cH a x)):=by
 obtain ⟨l1,l2,_⟩:=qk h.len hx
 have hap:∀ y,q y→y+cH a y≤x∨x+cH a x≤y:=fun y hy=>by
  rcases Int.lt_trichotomy y x with g | g | g
  ·exact .inl (mz (hq y hy) hx hc g)
  ·rw [g] at hy; exact absurd hy hn
  ·exact .inr (mz hx (hq y hy) hc g)
 refine ⟨by rw [lA l1,h.len],fun y hy j j1 j2=>?_,fun j hj=>?_⟩
 ·rw [lj l1 l2]
  rcases hy with hy | hy
  ·rw [if_neg (by have:=hap y hy; omega)]
   exact h.hit y hy j j1 j2
  ·rw [hy] at j1 j2
   rw [if_pos ⟨j1,j2⟩,hy]
 ·rw [lj l1 l2,if_neg (hj x (.inr rfl))]
  exact h.miss j fun y hy=>hj y (.inl hy)
theorem na {a:List Int} (hc:(au a).2.2=0):∀ (l k:List Int),(∀ x∈k++l,isB (aa a).1 x=true)→(k++l).Nodup→∀ o,Blank a (fun y=>y∈k) o→Blank a (fun y=>y∈k++l) (l.foldl (fun w x=>bn w x (cH a x)) o)
 | [],k,_,_,o,h=>by simpa using h
 | x::l,k,hB,hd,o,h=>by
  have e:k++x::l=(k++[x])++l:=by simp
  have hxk:¬ x∈k:=fun hm=>by
   rw [List.nodup_append] at hd
   exact hd.2.2 x hm x (by simp) rfl
  rw [e] at hB hd ⊢
  refine na hc l (k++[x]) hB hd _ ?_
  refine (h.step hc (fun y hy=>hB y (by simp [hy])) (hB x (by simp)) hxk).congr fun y=>?_
  simp
theorem sB {a l:List Int} (hc:(au a).2.2=0) (hB:∀ x∈l,isB (aa a).1 x=true) (hd:l.Nodup):Blank a (fun y=>y∈l) (cT a l) :=
 na hc l [] (by simpa using hB) (by simpa using hd) a (Blank.none a fun x hx=>by cases hx)
def uf (a old:List Int) (l:List (Int×cg)) (y:Int):Prop:=isB (aa a).1 y=true∧¬ y∈old∧¬ y∈l.map Prod.fst
theorem t8 {α:Type}:∀ {m:List (Int×α)} {p:Int×α},(m.map Prod.fst).Nodup→p∈m→bc m p.1=some p.2
 | q::m,p,hd,hp=>by
  simp only [List.map_cons,List.nodup_cons] at hd
  unfold bc
  rcases List.mem_cons.1 hp with rfl | hp
  ·rw [if_pos rfl]
  ·have:¬ q.1=p.1:=fun e=>hd.1 (by rw [e]; exact List.mem_map_of_mem hp)
   rw [if_neg this]
   exact t8 hd.2 hp
structure GrowI (a old:List Int) (l:List (Int×cg)) (o:List Int):Prop where
 blank:Blank a (uf a old l) o
 keys:(l.map Prod.fst).Nodup
 good:∀ p∈l,isB (aa a).1 p.1=true∧p.2=jQ a p.1
theorem GrowI.skip {a old o:List Int} {l1 l2:List (Int×cg)} {p:Int×cg} (h:GrowI a old (l1++p::l2) o) (hp:p.1∈old):GrowI a old (l1++l2) o:=by
 refine ⟨h.blank.congr fun y=>?_,h.keys.sublist (by simp),fun q hq=>h.good q (by simp only [List.mem_append,List.mem_cons] at hq ⊢; exact hq.elim .inl fun g=>.inr (.inr g))⟩
 unfold uf
 simp only [List.map_append,List.map_cons,List.mem_append,List.mem_cons]
 constructor
 ·exact fun ⟨g1,g2,g3⟩=>⟨g1,g2,fun g=>g3 (g.elim .inl fun g=>.inr (.inr g))⟩
 ·exact fun ⟨g1,g2,g3⟩=>⟨g1,g2,fun g=>g.elim (fun g=>g3 (.inl g)) fun g=>g.elim (fun g=>g2 (g ▸ hp)) fun g=>g3 (.inr g)⟩
theorem GrowI.take {a old o:List Int} {l1 l2:List (Int×cg)} {p:Int×cg} (hc:(au a).2.2=0) (h:GrowI a old (l1++p::l2) o) (hp:¬ p.1∈old):GrowI a old (l1++l2) (bn o p.1 (cH a p.1)):=by
 obtain ⟨g1,g2⟩:=h.good p (by simp)
 have hno:¬ p.1∈(l1++l2).map Prod.fst:=by
  have hk:=h.keys
  simp only [List.map_append,List.map_cons] at hk
  rw [List.nodup_append,List.nodup_cons] at hk
  obtain ⟨k1,⟨k2,k3⟩,k4⟩:=hk
  simp only [List.map_append,List.mem_append]
  rintro (g | g)
  ·exact k4 _ g _ (by simp) rfl
  ·exact k2 g
 refine ⟨(h.blank.step hc (fun y hy=>hy.1) g1 (fun hy=>hy.2.2 (by simp))).congr fun y=>?_,h.keys.sublist (by simp),fun q hq=>h.good q (by simp only [List.mem_append,List.mem_cons] at hq ⊢; exact hq.elim .inl fun g=>.inr (.inr g))⟩
 unfold uf
 constructor
 ·rintro (⟨q1,q2,q3⟩ | rfl)
  ·exact ⟨q1,q2,fun g=>q3 (by simp only [List.map_append,List.map_cons,List.mem_append,List.mem_cons] at g ⊢; exact g.elim .inl fun g=>.inr (.inr g))⟩
  ·exact ⟨g1,hp,hno⟩
 ·rintro ⟨q1,q2,q3⟩
  by_cases e:y=p.1
  ·exact .inr e
  ·refine .inl ⟨q1,q2,fun g=>q3 ?_⟩
   simp only [List.map_append,List.map_cons,List.mem_append,List.mem_cons] at g ⊢
   exact g.elim .inl fun g=>g.elim (fun g=>absurd g e) .inr
theorem GrowI.new {a old:List Int}:GrowI a old (a7 (aa a).1) a:=by
 have hk:=tr (br a)
 have hb:∀ x,x∈ab (aa a).1 ↔ isB (aa a).1 x=true:=fun x=>by rw [← ce,aP]
 have hnd:(ab (aa a).1).Nodup:=(dt (br a)).imp fun h=>by omega
 refine ⟨Blank.none a fun x ⟨h1,_,h3⟩=>h3 (by rw [hk]; exact (hb x).2 h1),by rw [hk]; exact hnd,fun p hp=>?_⟩
 have h1:isB (aa a).1 p.1=true:=by
  rw [← hb,← hk]
  exact List.mem_map_of_mem hp
 refine ⟨h1,?_⟩
 have h2:=kk (br a) p.1
 rw [if_pos h1] at h2
 have hnd2:((a7 (aa a).1).map Prod.fst).Nodup:=by rw [hk]; exact hnd
 rw [t8 hnd2 hp] at h2
 exact Option.some.inj h2
def jq (a old:List Int):List Int:=(ab (aa a).1).filter fun y=>!aI old y
theorem rW {a old:List Int} {y:Int}:y∈jq a old ↔ isB (aa a).1 y=true∧¬ y∈old:=by
 unfold jq
 rw [List.mem_filter,← aP (l:=ab (aa a).1),ce]
 constructor
 ·exact fun h=>⟨h.1,xq h.2⟩
 ·exact fun h=>⟨h.1,by
   cases e:aI old y
   ·rfl
   ·exact absurd (aP.1 e) h.2⟩
theorem tn (a old:List Int):(jq a old).Nodup:=((dt (br a)).imp fun h=>by omega).sublist List.filter_sublist
theorem GrowI.done {a old o:List Int} (hc:(au a).2.2=0) (h:GrowI a old [] o):o=cT a (jq a old):=by
 refine Blank.uniq (h.blank.congr (r:=fun y=>y∈jq a old) fun y=>?_) (sB hc (fun x hx=>(rW.1 hx).1) (tn a old))
 rw [rW]
 unfold uf
 simp
def dJ (g:cE) (f:List Int):cE×Int:=if (aE g f).2≠0 then (([],[],[]),(aE g f).2) else ((cT g.1 (jq g.1 (aU (g.2.1++(aE g f).1))),aU (g.2.1++(aE g f).1),[]),0)
theorem ry {l:List Int} (h:aw l=true):l.Nodup:=(fV h).imp fun h=>by omega
theorem rX {g:cE} {f:List Int} (h:(aE g f).2=0):a8 g=0∧(∀ x∈f,isB (aa g.1).1 x=true)∧(aE g f).1=aF g f:=by
 unfold aE at h ⊢
 split at h
 ·rename_i h1; exact absurd h h1
 rename_i h1
 rw [if_neg h1]
 split at h
 ·rename_i h2
  rw [if_pos h2]
  exact ⟨by omega,List.all_eq_true.1 h2,rfl⟩
 ·cases h
theorem o5 {a old nt f:List Int} (hw:∀ x∈a,ai .u64 x) (h:(aE (a,old,nt) f).2=0):(aE (a,old,nt) f).1.length≤256∧(∀ x∈(aE (a,old,nt) f).1,isB (aa a).1 x=true∧¬ x∈old)∧(aE (a,old,nt) f).1.Nodup:=by
 obtain ⟨h1,h2,h3⟩:=rX h
 rw [h3]
 have hY:∀ x,RchG (bZ a old) (cM a old nt f) x→isB (aa a).1 x=true∧¬ x∈old:=fun x hx=>jR hw h1 h2 hx
 have hR:∀ x,RchG (bZ a old) (cM a old nt f) x→0≤x∧x≤255:=fun x hx=>co (hY x hx).1
 have hm:∀ x∈aF (a,old,nt) f,isB (aa a).1 x=true∧¬ x∈old:=fun x hx=>hY x ((ky hR).1 hx)
 have hn:(aF (a,old,nt) f).Nodup:=(iG _ _).imp fun h=>by omega
 exact ⟨cP hn fun x hx=>co (hm x hx).1,hm,hn⟩
theorem tP {a old nt:List Int} (h:a8 (a,old,nt)=0):aw old=true∧aw nt=true:=by
 have hF:a8 (a,old,nt)=if (au a).2.2≠0 then (au a).2.2 else if (aw old&&aw nt)=false then 3 else if old.all (isB (aa a).1)=false then 5 else if nt.all (aI old)=false then 5 else if old.any (cL (a,old,nt))=true then 8 else 0:=rfl
 rw [hF] at h
 split at h
 ·rename_i h1; exact absurd h h1
 split at h
 ·cases h
 rename_i h2
 cases h3:aw old <;> cases h4:aw nt <;> simp_all
end Go.Proofs.Ytcnoiiohmpgckaa
