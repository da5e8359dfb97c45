
import Derived.Test.YtglchojglcobjaaGreatSlidPure
import Derived.Test.YtglchojglcobjaaGreatGap
namespace Go.Proofs.YtglchojglcobjaaGreat
open Go
theorem freeSpot_long (t k:Int):headLong (freeSpot t k).2=k:=by simp [freeSpot,headLong]; omega
def joinS:List Spot→List Spot
 | []=>[]
 | x::l=>if x.2.2.2.2=true then (match joinS l with
   | []=>[freeSpot x.1 (headLong x.2)]
   | y::r=>if y.2.2.2.2=true then freeSpot x.1 (headLong x.2+headLong y.2)::r else freeSpot x.1 (headLong x.2)::y::r) else x::joinS l
def tileW (a:List Int):List Spot→List Int
 | []=>[]
 | s::l=>(if s.2.2.2.2=true then layTail (headLong s.2) else (a.drop s.1.toNat).take (headLong s.2).toNat)++tileW a l
def freeOf:List Spot→List Gap
 | []=>[]
 | s::l=>if s.2.2.2.2=true then (s.1,headLong s.2)::freeOf l else freeOf l
theorem join_free (x:Spot) (l:List Spot) (h:x.2.2.2.2=true):joinS (x::l)=joinS (freeSpot x.1 (headLong x.2)::l):=by
 simp only [joinS]
 rw [if_pos h,if_pos (show (freeSpot x.1 (headLong x.2)).2.2.2.2=true from rfl),freeSpot_long]
 rfl
theorem join_two (t n:Int) (x:Spot) (l:List Spot) (h:x.2.2.2.2=true):joinS (freeSpot t n::x::l)=joinS (freeSpot t (n+headLong x.2)::l):=by
 have e:∀ m,joinS (freeSpot t m::l)=match joinS l with
   | []=>[freeSpot t m]
   | y::r=>if y.2.2.2.2=true then freeSpot t (m+headLong y.2)::r else freeSpot t m::y::r:=fun m=>by
  simp only [joinS]
  rw [if_pos (show (freeSpot t m).2.2.2.2=true from rfl),freeSpot_long]
  rfl
 have e2:joinS (freeSpot t n::x::l)=match joinS (x::l) with
   | []=>[freeSpot t n]
   | y::r=>if y.2.2.2.2=true then freeSpot t (n+headLong y.2)::r else freeSpot t n::y::r:=by
  rw [joinS]
  rw [if_pos (show (freeSpot t n).2.2.2.2=true from rfl),freeSpot_long]
  rfl
 rw [e2,e]
 simp only [joinS]
 rw [if_pos h]
 cases hj:joinS l with
 | nil =>
  simp only
  rw [if_pos (show (freeSpot x.1 (headLong x.2)).2.2.2.2=true from rfl),freeSpot_long]
 | cons y r =>
  simp only
  by_cases hy:y.2.2.2.2=true
  ·rw [if_pos hy,if_pos hy]
   simp only
   rw [if_pos (show (freeSpot x.1 (headLong x.2+headLong y.2)).2.2.2.2=true from rfl),freeSpot_long,Int.add_assoc]
  ·rw [if_neg hy,if_neg hy]
   simp only
   rw [if_pos (show (freeSpot x.1 (headLong x.2)).2.2.2.2=true from rfl),freeSpot_long]
theorem join_not (x:Spot) (l:List Spot) (h:¬ x.2.2.2.2=true):joinS (x::l)=x::joinS l:=by
 simp only [joinS]; rw [if_neg h]
theorem join_free_not (t n:Int) (x:Spot) (l:List Spot) (h:¬ x.2.2.2.2=true):joinS (freeSpot t n::x::l)=freeSpot t n::x::joinS l:=by
 rw [joinS,join_not x l h]
 rw [if_pos (show (freeSpot t n).2.2.2.2=true from rfl),freeSpot_long]
 simp only
 rw [if_neg h]
 rfl
theorem gaps_join:∀ (l:List Spot),(∀ out,gapsL false out l=out++freeOf (joinS l))∧∀ out t n,gapsL true (out++[(t,n)]) l=out++freeOf (joinS (freeSpot t n::l))
 | []=>by
  refine ⟨fun out=>by simp [gapsL,joinS,freeOf],fun out t n=>?_⟩
  have e:joinS [freeSpot t n]=[freeSpot t n]:=by
   rw [joinS,if_pos (show (freeSpot t n).2.2.2.2=true from rfl),freeSpot_long]
   rfl
  rw [e]
  simp only [gapsL,freeOf]
  rw [if_pos (show (freeSpot t n).2.2.2.2=true from rfl),freeSpot_long]
  rfl
 | x::l=>by
  obtain ⟨h1,h2⟩:=gaps_join l
  by_cases hx:x.2.2.2.2=true
  ·refine ⟨fun out=>?_,fun out t n=>?_⟩
   ·simp only [gapsL]
    rw [hx]
    simp only [if_true,Bool.false_eq_true,if_false]
    rw [h2,join_free x l hx]
   ·simp only [gapsL]
    rw [hx]
    simp only [if_true]
    rw [bump_snoc,h2,join_two t n x l hx]
  ·have hf:x.2.2.2.2=false:=by simpa using hx
   refine ⟨fun out=>?_,fun out t n=>?_⟩
   ·simp only [gapsL]
    rw [hf]
    simp only [Bool.false_eq_true,if_false]
    rw [h1,join_not x l hx]
    simp only [freeOf]
    rw [if_neg hx]
   ·simp only [gapsL]
    rw [hf]
    simp only [Bool.false_eq_true,if_false]
    rw [h1,join_free_not t n x l hx]
    simp only [freeOf]
    rw [if_pos (show (freeSpot t n).2.2.2.2=true from rfl),if_neg hx,freeSpot_long]
    simp [freeSpot]
theorem tiles_le:∀ {l:List Spot} {s e:Int},Tiles s e l→s≤e
 | [],s,e,h=>by simp only [Tiles] at h; omega
 | x::l,s,e,⟨_,h1,h2⟩=>by have:=tiles_le h2; omega
theorem join_tiles:∀ {l:List Spot} {s e:Int},Tiles s e l→Tiles s e (joinS l)
 | [],s,e,h=>h
 | x::l,s,e,⟨h0,h1,h2⟩=>by
  have ih:=join_tiles h2
  by_cases hx:x.2.2.2.2=true
  ·simp only [joinS]
   rw [if_pos hx]
   cases hj:joinS l with
   | nil =>
    rw [hj] at ih
    simp only [Tiles] at ih ⊢
    rw [freeSpot_long]
    exact ⟨h0,h1,ih⟩
   | cons y r =>
    rw [hj] at ih
    obtain ⟨i0,i1,i2⟩:=ih
    simp only
    by_cases hy:y.2.2.2.2=true
    ·rw [if_pos hy]
     simp only [Tiles]
     rw [freeSpot_long]
     exact ⟨h0,by omega,by rw [← Int.add_assoc]; exact i2⟩
    ·rw [if_neg hy]
     simp only [Tiles]
     rw [freeSpot_long]
     exact ⟨h0,h1,i0,i1,i2⟩
  ·rw [join_not x l hx]
   exact ⟨h0,h1,ih⟩
theorem join_mem:∀ {l:List Spot} {s:Spot},s∈joinS l→(s=freeSpot s.1 (headLong s.2))∨(s∈l∧s.2.2.2.2=false)
 | x::l,s,h=>by
  have ih:=fun (h:s∈joinS l)=>join_mem h
  have fs:∀ t n,freeSpot t n=freeSpot (freeSpot t n).1 (headLong (freeSpot t n).2):=fun t n=>by rw [freeSpot_long]; rfl
  by_cases hx:x.2.2.2.2=true
  ·simp only [joinS] at h
   rw [if_pos hx] at h
   cases hj:joinS l with
   | nil =>
    rw [hj] at h
    rw [List.mem_singleton.1 h]
    exact .inl (fs _ _)
   | cons y r =>
    rw [hj] at h ih
    simp only at h
    split at h
    ·rcases List.mem_cons.1 h with e | h
     ·rw [e]; exact .inl (fs _ _)
     ·rcases ih (List.mem_cons_of_mem _ h) with h | h
      ·exact .inl h
      ·exact .inr ⟨List.mem_cons_of_mem _ h.1,h.2⟩
    ·rcases List.mem_cons.1 h with e | h
     ·rw [e]; exact .inl (fs _ _)
     ·rcases ih h with h | h
      ·exact .inl h
      ·exact .inr ⟨List.mem_cons_of_mem _ h.1,h.2⟩
  ·rw [join_not x l hx] at h
   rcases List.mem_cons.1 h with e | h
   ·rw [e]; exact .inr ⟨List.mem_cons_self,by simpa using hx⟩
   ·rcases ih h with h | h
    ·exact .inl h
    ·exact .inr ⟨List.mem_cons_of_mem _ h.1,h.2⟩
theorem begins_join:∀ (l:List Spot),beginsL (joinS l)=beginsL l
 | []=>rfl
 | x::l=>by
  have ih:=begins_join l
  have fs:∀ t n,(freeSpot t n).2.2.2.2=true:=fun _ _=>rfl
  by_cases hx:x.2.2.2.2=true
  ·simp only [joinS,beginsL]
   rw [if_pos hx,if_pos hx]
   cases hj:joinS l with
   | nil =>
    rw [hj] at ih
    simp only [beginsL]
    rw [if_pos (fs _ _)]
    exact ih
   | cons y r =>
    rw [hj] at ih
    simp only
    by_cases hy:y.2.2.2.2=true
    ·simp only [beginsL] at ih
     rw [if_pos hy] at ih
     rw [if_pos hy]
     simp only [beginsL]
     rw [if_pos (fs _ _)]
     exact ih
    ·rw [if_neg hy]
     have:beginsL (freeSpot x.1 (headLong x.2)::y::r)=beginsL (y::r):=by
      rw [beginsL,if_pos (fs _ _)]
     rw [this,ih]
  ·rw [join_not x l hx]
   simp only [beginsL]
   rw [if_neg hx,if_neg hx,ih]
theorem emptied_at {P R:List Int} {s L:Int} (hp:P.length=s.toNat) (h0:0≤s) (h1:0<L) (h2:L.toNat≤R.length):emptiedL (P++R) s L=P++(layTail L++R.drop L.toNat):=by
 unfold emptiedL fillL putAt layTail
 rw [if_pos h1,if_pos h1,← hp,List.take_left,List.take_of_length_le (by simp)]
 have e:(P++R).drop (P.length+L.toNat)=R.drop L.toNat:=by rw [← List.drop_drop,List.drop_left]
 rw [e,show L.toNat=(L - 1).toNat+1 by omega,List.replicate_succ,List.cons_append,set_mid _ rfl]
 rfl
theorem join_fold {a:List Int}:∀ (k:List Spot) (s:Int) (P:List Int),Tiles s a.length k→0≤s→P.length=s.toNat→(freeOf k).foldl (fun a r=>emptiedL a r.1 r.2) (P++a.drop s.toNat)=P++tileW a k
 | [],s,P,h,h0,hp=>by
  simp only [Tiles] at h
  simp only [freeOf,List.foldl_nil,tileW]
  rw [List.drop_of_length_le (by omega)]
 | x::k,s,P,⟨e0,h1,h2⟩,h0,hp=>by
  have hle:=tiles_le h2
  subst e0
  simp only [freeOf,tileW]
  by_cases hx:x.2.2.2.2=true
  ·rw [if_pos hx,if_pos hx]
   simp only [List.foldl_cons]
   rw [emptied_at hp h0 (by omega) (by rw [List.length_drop]; omega),List.drop_drop,← List.append_assoc,← List.append_assoc,show x.1.toNat+(headLong x.2).toNat=(x.1+headLong x.2).toNat by omega]
   exact join_fold k (x.1+headLong x.2) _ h2 (by omega) (by rw [List.length_append,layTail_length]; omega)
  ·rw [if_neg hx,if_neg hx]
   have e:P++a.drop x.1.toNat=(P++(a.drop x.1.toNat).take (headLong x.2).toNat)++a.drop (x.1+headLong x.2).toNat:=by
    rw [List.append_assoc,show (x.1+headLong x.2).toNat=x.1.toNat+(headLong x.2).toNat by omega,← List.drop_drop,List.take_append_drop]
   rw [e,← List.append_assoc]
   exact join_fold k (x.1+headLong x.2) _ h2 (by omega) (by rw [List.length_append,List.length_take,List.length_drop]; omega)
theorem words_spots {a:List Int} (hal:a.length≤256):∀ (k:List Spot) (s:Int),Tiles s a.length k→0≤s→(∀ x∈k,x.2.2.2.2=false→x.2=headOf (a.getD x.1.toNat 0)∧isHead (a.getD x.1.toNat 0)=true)→(∀ x∈k,x.2.2.2.2=true→x=freeSpot x.1 (headLong x.2))→spotsS s (tileW a k)=some k
 | [],s,_,_,_,_=>by rw [tileW,spotsS]
 | x::k,s,⟨e0,h1,h2⟩,h0,hn,hf=>by
  have hle:=tiles_le h2
  have ih:=words_spots hal k (s+headLong x.2) h2 (by omega) (fun y hy=>hn y (List.mem_cons_of_mem _ hy)) (fun y hy=>hf y (List.mem_cons_of_mem _ hy))
  subst e0
  simp only [tileW]
  by_cases hx:x.2.2.2.2=true
  ·rw [if_pos hx,spotsS_free (by omega),if_pos (by omega),ih,Option.map_some,← hf x List.mem_cons_self hx]
  ·rw [if_neg hx]
   obtain ⟨e1,e2⟩:=hn x List.mem_cons_self (by simpa using hx)
   have e3:(a.drop x.1.toNat).take (headLong x.2).toNat=a.getD x.1.toNat 0::(a.drop (x.1.toNat+1)).take ((headLong x.2).toNat - 1):=by
    have hlt:x.1.toNat<a.length:=by omega
    rw [List.drop_eq_getElem_cons hlt,show (headLong x.2).toNat=((headLong x.2).toNat - 1)+1 by omega,List.take_succ_cons]
    simp [List.getD_eq_getElem?_getD,hlt]
   rw [e3,spotsS_piece e2 (by rw [← e1,List.length_take,List.length_drop]; omega),← e1,ih]
   rfl
theorem words_at {a:List Int}:∀ (k:List Spot) (s:Int) {x:Spot},Tiles s a.length k→0≤s→x∈k→∃ X Y,tileW a k=X++((if x.2.2.2.2=true then layTail (headLong x.2) else (a.drop x.1.toNat).take (headLong x.2).toNat)++Y)∧(X.length:Int)=x.1 - s∧0≤x.1∧1≤headLong x.2∧x.1+headLong x.2≤a.length
 | y::k,s,x,⟨e0,h1,h2⟩,h0,hm=>by
  have hle:=tiles_le h2
  rcases List.mem_cons.1 hm with e | hm
  ·subst e
   exact ⟨[],tileW a k,rfl,by simp; omega,by omega,h1,by omega⟩
  ·obtain ⟨X,Y,e,hx,p1,p2,p3⟩:=words_at k (s+headLong y.2) h2 (by omega) hm
   refine ⟨(if y.2.2.2.2=true then layTail (headLong y.2) else (a.drop y.1.toNat).take (headLong y.2).toNat)++X,Y,?_,?_,p1,p2,p3⟩
   ·rw [tileW,e,List.append_assoc]
   ·rw [List.length_append]
    split
    ·rw [layTail_length]; omega
    ·rw [List.length_take,List.length_drop]; omega
theorem refs_same {a b:List Int} {x:Spot} (h0:0≤x.1) (h1:0≤x.2.1) (h:∀ j:Nat,x.1+1≤j→(j:Int)<x.1+1+x.2.1→b[j]?=a[j]?):spotRefs b x=spotRefs a x:=by
 unfold spotRefs
 apply List.ext_getElem?
 intro j
 rw [List.getElem?_drop,List.getElem?_drop,List.getElem?_take,List.getElem?_take]
 split
 ·exact h _ (by omega) (by omega)
 ·rfl
theorem spotsF_of {a:List Int} {l:List Spot} (h1:a.length≤256) (h2:spotsS 0 a=some l):spotsF a=(l,0):=by
 unfold spotsF
 rw [if_neg (by omega),h2]
theorem join_check {a:List Int} (hc:(checkF a).2.2=0):checkF (joinF a).1=(joinS (spotsF a).1,placesF (joinS (spotsF a).1),0)∧(joinF a).1=tileW a (joinS (spotsF a).1)∧Tiles 0 a.length (joinS (spotsF a).1)∧(joinF a).1.length=a.length∧gapsL false [] (spotsF a).1=freeOf (joinS (spotsF a).1):=by
 obtain ⟨hal,_,_,h0,_,hr,_⟩:=checkF_in hc
 have ht:=spotsF_tiles h0
 have hj:=join_tiles ht
 have hg:gapsL false [] (spotsF a).1=freeOf (joinS (spotsF a).1):=by rw [(gaps_join _).1]; rfl
 have hw:(joinF a).1=tileW a (joinS (spotsF a).1):=by
  unfold joinF
  rw [if_neg (by omega),hg]
  have:=join_fold (a:=a) (joinS (spotsF a).1) 0 [] hj (by omega) rfl
  simpa using this
 have hfr:∀ x∈joinS (spotsF a).1,x.2.2.2.2=true→x=freeSpot x.1 (headLong x.2):=fun x hx hf=>by
  rcases join_mem hx with h | h
  ·exact h
  ·rw [h.2] at hf; cases hf
 have hnf:∀ x∈joinS (spotsF a).1,x.2.2.2.2=false→x∈(spotsF a).1:=fun x hx hf=>by
  rcases join_mem hx with h | h
  ·rw [h] at hf; cases hf
  ·exact h.1
 have hsp:=words_spots hal (joinS (spotsF a).1) 0 hj (by omega) (fun x hx hf=>spotsF_head x (hnf x hx hf)) hfr
 have hlen:(tileW a (joinS (spotsF a).1)).length=a.length:=by
  have:=spotsS_tiles 0 _ _ hsp
  have h1:=tiles_sum this
  have h2:=tiles_sum hj
  omega
 have hS:spotsF (tileW a (joinS (spotsF a).1))=(joinS (spotsF a).1,0):=spotsF_of (by omega) hsp
 have hsort:=spotsF_sorted (tileW a (joinS (spotsF a).1))
 rw [hS] at hsort
 refine ⟨?_,hw,hj,by rw [hw]; exact hlen,hg⟩
 rw [hw]
 unfold checkF
 rw [hS,if_neg (by simp),if_pos]
 refine List.all_eq_true.2 fun s hs=>?_
 cases hf:s.2.2.2.2
 ·have hm:=hnf s hs hf
  obtain ⟨_,hin,_⟩:=spotsF_in2 a s hm
  obtain ⟨X,Y,e,hX,p1,p2,p3⟩:=words_at _ 0 hj (by omega) hs
  rw [if_neg (by rw [hf]; simp)] at e
  have hL:headLong s.2=1+s.2.1+s.2.2.1:=rfl
  unfold spotIn at hin
  have er:spotRefs (tileW a (joinS (spotsF a).1)) s=spotRefs a s:=by
   refine refs_same p1 hin.2.1 fun j j1 j2=>?_
   rw [e,List.getElem?_append_right (by omega),List.getElem?_append_left (by rw [List.length_take,List.length_drop]; omega),List.getElem?_take,if_pos (by omega),List.getElem?_drop]
   congr 1
   omega
  rw [er]
  have h3:=List.all_eq_true.1 hr s hm
  refine List.all_eq_true.2 fun v hv=>?_
  have h4:=List.all_eq_true.1 h3 v hv
  unfold placesF at h4 ⊢
  rw [places_get _ _ _ 0 (spotsF_sorted a)] at h4
  rw [places_get _ _ _ 0 hsort]
  have e1:(plOf v 0 (joinS (spotsF a).1)).isSome=(plOf v 0 (spotsF a).1).isSome:=by rw [plOf_some,plOf_some,begins_join]
  cases h5:plOf v 0 (spotsF a).1 with
  | none =>
   rw [h5] at h4 e1
   cases h6:plOf v 0 (joinS (spotsF a).1) with
   | none=>exact h4
   | some k=>rfl
  | some k =>
   rw [h5] at e1
   cases h6:plOf v 0 (joinS (spotsF a).1) with
   | none=>rw [h6] at e1; cases e1
   | some k=>rfl
 ·rw [hfr s hs hf]
  have:spotRefs (tileW a (joinS (spotsF a).1)) (freeSpot s.1 (headLong s.2))=[]:=by
   unfold spotRefs freeSpot
   simp only [Int.add_zero]
   exact List.drop_of_length_le (by rw [List.length_take]; omega)
  rw [this]
  rfl
theorem freeOf_mem:∀ {l:List Spot} {r:Gap},r∈freeOf l→∃ s∈l,s.2.2.2.2=true∧r=(s.1,headLong s.2)
 | x::l,r,h=>by
  simp only [freeOf] at h
  split at h
  ·rename_i hx
   rcases List.mem_cons.1 h with e | h
   ·exact ⟨x,List.mem_cons_self,hx,e⟩
   ·obtain ⟨s,hs,h⟩:=freeOf_mem h
    exact ⟨s,List.mem_cons_of_mem _ hs,h⟩
  ·obtain ⟨s,hs,h⟩:=freeOf_mem h
   exact ⟨s,List.mem_cons_of_mem _ hs,h⟩
def placeW (a:List Int) (r:Gap) (h:Head):List Int:=(emptiedL (joinF a).1 (r.1+headLong h) (r.2 - headLong h)).set r.1.toNat (headWord h)
theorem place_take {a:List Int} (hc:(checkF a).2.2=0) {r:Gap} {h:Head} (hr:r∈gapsL false [] (spotsF a).1) (h0:headFault h=0) (hf:h.2.2.2=false) (hl:headLong h≤r.2):takeF (joinF a).1 r.1 h=(placeW a r h,0):=by
 obtain ⟨h1,h2,h3,h4,h5⟩:=join_check hc
 obtain ⟨hal,_⟩:=checkF_in hc
 rw [h5] at hr
 obtain ⟨s,hs,hsf,e⟩:=freeOf_mem hr
 have hz:(checkF (joinF a).1).2.2=0:=by rw [h1]
 have hsp:(spotsF (joinF a).1).1=joinS (spotsF a).1:=by
  have:=(checkF_in hz).2.2.1
  rw [h1] at this
  exact this.symm
 obtain ⟨X,Y,eW,hX,p1,p2,p3⟩:=words_at _ 0 h3 (by omega) hs
 rw [if_pos hsf] at eW
 have e1:r.1=s.1:=by rw [e]
 have e2:r.2=headLong s.2:=by rw [e]
 obtain ⟨g1,g2⟩:=takeF_good hz r.1 h
 have hsort:=spotsF_sorted (joinF a).1
 rw [hsp] at g1 g2 hsort
 have hrm:roomL r.1 0 (joinS (spotsF a).1)=r.2:=by rw [e2]; exact roomL_of _ 0 s hsort hs e1.symm hsf
 have hn:=headFault_zero h0
 have hL:headLong h=1+h.1+h.2.1:=rfl
 have e0:err0 h=0:=by unfold err0; rw [hf,if_neg (by simp),h0]
 have ez:takeErr (err0 h) r.2 (headLong h)=0:=by unfold takeErr; rw [e0,if_neg (by omega),if_neg (by omega),if_neg (by omega)]
 rw [hrm,ez,if_neg (by omega)] at g1
 have hlp:layPre (joinF a).1 r.1 r.2:=⟨by omega,by omega,by omega,by omega⟩
 obtain ⟨t1,_⟩:=take_words hlp (n:=headLong h) (by omega) hl (headWord h)
 rw [g1,← t1]
 have hi:emptiedL (joinF a).1 r.1 r.2=(joinF a).1:=by
  rw [h2,eW,e1,e2,emptied_at (by omega) p1 (by omega) (by rw [List.length_append,layTail_length]; omega),List.drop_append_of_le_length (by rw [layTail_length]; omega),List.drop_of_length_le (by rw [layTail_length]; omega),List.nil_append]
 rw [hi]
 rfl
theorem fits_find (n:Int):∀ (l:List Gap) (k:Int),match l.find? (fun r=>decide (n≤r.2)) with
  | none=>fitsFrom n k l=[]
  | some r=>∃ i,0≤i∧i<(l.length:Int)∧l.getD i.toNat (0,0)=r∧fitsFrom n k l≠[]∧(fitsFrom n k l).getD 0 0=k+i
 | [],k=>rfl
 | r::l,k=>by
  have ih:=fits_find n l (k+1)
  by_cases h:n≤r.2
  ·rw [List.find?_cons_of_pos (by simpa using h)]
   simp only [fitsFrom]
   rw [if_pos h]
   exact ⟨0,by omega,by simp,rfl,by simp,by simp⟩
  ·rw [List.find?_cons_of_neg (by simpa using h)]
   simp only [fitsFrom]
   rw [if_neg h]
   cases hf:l.find? (fun r=>decide (n≤r.2)) with
   | none=>rw [hf] at ih; exact ih
   | some q =>
    rw [hf] at ih
    obtain ⟨i,i0,i1,i2,i3,i4⟩:=ih
    refine ⟨i+1,by omega,by simp only [List.length_cons]; omega,?_,i3,by omega⟩
    rw [show (i+1).toNat=i.toNat+1 by omega]
    exact i2
def takeT (a:List Int) (h:Head):List Int×Int×Bool:=match (gapsL false [] (spotsF a).1).find? (fun r=>decide (headLong h≤r.2)) with
 | none=>([],0,false)
 | some r=>(placeW a r h,r.1,true)
theorem fits_good {n:Int} {l:List Gap} (hn:1≤n) (hg:∀ r∈l,0≤r.1∧1≤r.2):firstF l n=if fitsFrom n 0 l=[] then (0,7) else ((fitsFrom n 0 l).getD 0 0,0):=by
 have hb:fitsBad l=false:=by
  unfold fitsBad
  rw [List.any_eq_false]
  intro r hr
  have:=hg r hr
  simp
  omega
 have e:fitsF l n=if fitsFrom n 0 l=[] then ([],7) else (fitsFrom n 0 l,0):=by
  unfold fitsF
  rw [if_neg (show ¬ n<1 by omega),hb,if_neg (by simp)]
 unfold firstF
 rw [e]
 by_cases h:fitsFrom n 0 l=[]
 ·rw [if_pos h,if_pos h]
  rfl
 ·rw [if_neg h,if_neg h]
  rfl
end Go.Proofs.YtglchojglcobjaaGreat
