
import Derived.Test.YtglchojglcobjaaGreatClean
import Derived.Test.YtglchojglcobjaaGreatGapsSame
import Derived.Test.YtglchojglcobjaaGreatLays
namespace Go.Proofs.YtglchojglcobjaaGreat
open Go
theorem headOf_word {h:Head} (h0:headFault h=0):headOf (headWord h)=h∧isHead (headWord h)=true:=by
 obtain ⟨h1,h2,h3,h4,h5,h6⟩:=headFault_zero h0
 have e:headOf (headWord h)=h:=by
  obtain ⟨a,b,c,d⟩:=h
  simp only at h1 h2 h3 h4 h5
  simp only [headWord,headOf]
  cases d
  ·simp only [Bool.false_eq_true,if_false,Prod.mk.injEq]
   refine ⟨by omega,by omega,by omega,decide_eq_false (by omega)⟩
  ·simp only [if_true,Prod.mk.injEq]
   refine ⟨by omega,by omega,by omega,decide_eq_true (by omega)⟩
 refine ⟨e,?_⟩
 unfold isHead
 rw [e,h0]
 have:headWord h / 281474976710656≤1:=by
  unfold headWord
  cases h.2.2.2 <;> simp <;> omega
 simp [this]
theorem layTail_length (k:Int):(layTail k).length=k.toNat:=by
 unfold layTail
 split
 ·simp only [List.length_cons,List.length_replicate]; omega
 ·simp only [List.length_nil]; omega
def segW (a keep to pinned long:List Int):Nat→List Int
 | 0=>[]
 | i+1=>segW a keep to pinned long i++(layTail (toS pinned keep long i - endS pinned keep long i)++pieceW a keep to (keep.getD i 0))
def freeSpot (at_ k:Int):Spot:=(at_,0,k - 1,0,true)
def segS (a keep pinned long:List Int):Nat→List Spot
 | 0=>[]
 | i+1=>segS a keep pinned long i++((if endS pinned keep long i<toS pinned keep long i then [freeSpot (endS pinned keep long i) (toS pinned keep long i - endS pinned keep long i)] else [])++[(toS pinned keep long i,hdA a (keep.getD i 0))])
section
variable {a keep pinned long:List Int}
theorem segW_length (to:List Int) (hP:Plan a keep pinned long):∀ i:Nat,i≤keep.length→((segW a keep to pinned long i).length:Int)=endS pinned keep long i
 | 0,_=>by simp [segW,endS]
 | i+1,hi=>by
  have ih:=segW_length to hP i (by omega)
  have h1:=hP.le i (by omega)
  have h2:=hP.lg i (by omega)
  have h3:=pieceW_length (a:=a) (keep:=keep) (to:=to) (hP.isb _ (keep_mem (i:=i) (by omega)))
  have e:endS pinned keep long (i+1)=toS pinned keep long i+long.getD i 0:=rfl
  rw [e]
  simp only [segW,List.length_append,layTail_length]
  omega
theorem seg_set (to:List Int) (hP:Plan a keep pinned long):∀ (i:Nat) (R:List Int),i≤keep.length→(gapsUp pinned keep long i).foldl freeSet (slidUp a keep to pinned long i++R)=segW a keep to pinned long i++R
 | 0,R,_=>rfl
 | i+1,R,hi=>by
  have hl:=segW_length to hP i (by omega)
  have h1:=hP.le i (by omega)
  have e:slidUp a keep to pinned long (i+1)++R=slidUp a keep to pinned long i++(gapW pinned keep long i++(pieceW a keep to (keep.getD i 0)++R)):=by
   simp only [slidUp,List.append_assoc]
  rw [e]
  simp only [gapsUp,List.foldl_append]
  rw [seg_set to hP i _ (by omega)]
  simp only [segW,List.append_assoc]
  unfold gapW
  have e0:(0:Int)≤endS pinned keep long i:=by omega
  generalize toS pinned keep long i=t at *
  generalize endS pinned keep long i=s at *
  by_cases hc:s<t
  ·rw [if_pos hc]
   simp only [List.foldl_cons,List.foldl_nil,freeSet,layTail]
   rw [if_pos (by omega),show (t - s).toNat=(t - s - 1).toNat+1 by omega,List.replicate_succ,List.cons_append,set_mid _ (by omega)]
   rfl
  ·rw [if_neg hc]
   have:t - s=0:=by omega
   rw [this]
   rfl
theorem slidW_is (to:List Int) (hP:Plan a keep pinned long):slidW a keep to pinned long (planGapsL a.length keep long pinned)=segW a keep to pinned long keep.length++layTail ((a.length:Int) - endS pinned keep long keep.length):=by
 have hl:=segW_length to hP keep.length (Nat.le_refl _)
 have he:=hP.en
 unfold slidW planGapsL
 rw [List.foldl_append,seg_set to hP _ _ (Nat.le_refl _)]
 generalize endS pinned keep long keep.length=s at *
 by_cases hc:s<(a.length:Int)
 ·rw [if_pos hc]
  simp only [List.foldl_cons,List.foldl_nil,freeSet,layTail]
  rw [if_pos (by omega),show ((a.length:Int) - s).toNat=((a.length:Int) - s - 1).toNat+1 by omega,List.replicate_succ,set_mid _ (by omega)]
 ·rw [if_neg hc]
  have:(a.length:Int) - s=0:=by omega
  rw [this]
  rfl
theorem spotsS_piece {at_ v:Int} {r R:List Int} (h:isHead v=true) (hl:headLong (headOf v)=1+(r.length:Int)):spotsS at_ (v::r++R)=(spotsS (at_+headLong (headOf v)) R).map ((at_,headOf v)::·):=by
 rw [List.cons_append,spotsS_cons h (by simp only [List.length_cons,List.length_append]; omega)]
 congr 2
 rw [hl,show (1+(r.length:Int)).toNat=r.length+1 by omega,List.drop_succ_cons,List.drop_left]
theorem freeHead_ok {k:Int} (h1:1≤k) (h2:k≤256):headFault (0,k - 1,0,true)=0:=by
 simp [headFault,headLong]; omega
theorem spotsS_free {at_ k:Int} {R:List Int} (h2:k≤256):spotsS at_ (layTail k++R)=if 0<k then (spotsS (at_+k) R).map (freeSpot at_ k::·) else spotsS at_ R:=by
 unfold layTail
 by_cases h:0<k
 ·rw [if_pos h,if_pos h]
  obtain ⟨e1,e2⟩:=headOf_word (freeHead_ok (k:=k) (by omega) h2)
  have e3:headLong (headOf (headWord (0,k - 1,0,true)))=k:=by rw [e1]; simp [headLong]; omega
  rw [spotsS_piece e2 (by rw [e3,List.length_replicate]; omega),e3,e1]
  rfl
 ·rw [if_neg h,if_neg h]
  rfl
theorem spotsS_seg (to:List Int) (hP:Plan a keep pinned long):∀ (i:Nat) (R:List Int),i≤keep.length→spotsS 0 (segW a keep to pinned long i++R)=(spotsS (endS pinned keep long i) R).map (segS a keep pinned long i++·)
 | 0,R,_=>by
  simp only [segW,segS,endS,List.nil_append]
  cases spotsS 0 R <;> rfl
 | i+1,R,hi=>by
  have h1:=hP.le i (by omega)
  have h2:=hP.lg i (by omega)
  have hb:=hP.isb _ (keep_mem (i:=i) (by omega:i<keep.length))
  obtain ⟨_,_,_,o4,o5,_⟩:=objA_in hb
  have h3:=pieceW_length (a:=a) (keep:=keep) (to:=to) hb
  have hal:=hP.al
  have e:endS pinned keep long (i+1)=toS pinned keep long i+long.getD i 0:=rfl
  have e0:=(endS_range pinned hP.pre i (by omega)).1
  have hl:headLong (headOf (a.getD (keep.getD i 0).toNat 0))=long.getD i 0:=by rw [← o4,h2]; rfl
  have hpc:∀ s,spotsS s (pieceW a keep to (keep.getD i 0)++R)=(spotsS (s+long.getD i 0) R).map ((s,hdA a (keep.getD i 0))::·):=fun s=>by
   unfold pieceW at h3 ⊢
   rw [spotsS_piece o5 (by rw [hl,h2]; simp only [List.length_cons] at h3; omega),hl,← o4]
  simp only [segW,segS,List.append_assoc]
  rw [spotsS_seg to hP i _ (by omega),spotsS_free (by omega),e]
  by_cases hc:endS pinned keep long i<toS pinned keep long i
  ·rw [if_pos hc,if_pos (by omega),show endS pinned keep long i+(toS pinned keep long i - endS pinned keep long i)=toS pinned keep long i by omega,hpc]
   cases spotsS (toS pinned keep long i+long.getD i 0) R <;> simp
  ·rw [if_neg hc,if_neg (by omega),show endS pinned keep long i=toS pinned keep long i by omega,hpc]
   cases spotsS (toS pinned keep long i+long.getD i 0) R <;> simp
def slidS (a keep pinned long:List Int):List Spot:=segS a keep pinned long keep.length++(if endS pinned keep long keep.length<(a.length:Int) then [freeSpot (endS pinned keep long keep.length) ((a.length:Int) - endS pinned keep long keep.length)] else [])
theorem slidW_length (to:List Int) (hP:Plan a keep pinned long):(slidW a keep to pinned long (planGapsL a.length keep long pinned)).length=a.length:=by
 have hl:=segW_length to hP keep.length (Nat.le_refl _)
 have he:=hP.en
 rw [slidW_is to hP,List.length_append,layTail_length]
 omega
theorem slid_spots (to:List Int) (hP:Plan a keep pinned long):spotsF (slidW a keep to pinned long (planGapsL a.length keep long pinned))=(slidS a keep pinned long,0):=by
 have hl:=slidW_length to hP
 have hal:=hP.al
 have he:=hP.en
 have e0:=(endS_range pinned hP.pre keep.length (Nat.le_refl _)).1
 unfold spotsF
 rw [if_neg (by omega),slidW_is to hP,spotsS_seg to hP _ _ (Nat.le_refl _)]
 have:spotsS (endS pinned keep long keep.length) (layTail ((a.length:Int) - endS pinned keep long keep.length))=some (if endS pinned keep long keep.length<(a.length:Int) then [freeSpot (endS pinned keep long keep.length) ((a.length:Int) - endS pinned keep long keep.length)] else []):=by
  have h:=spotsS_free (at_:=endS pinned keep long keep.length) (k:=(a.length:Int) - endS pinned keep long keep.length) (R:=[]) (by omega)
  rw [List.append_nil] at h
  rw [h]
  by_cases hc:endS pinned keep long keep.length<(a.length:Int)
  ·rw [if_pos hc,if_pos (by omega),spotsS]; rfl
  ·rw [if_neg hc,if_neg (by omega),spotsS]
 rw [this]
 rfl
theorem seg_at (to:List Int) (hP:Plan a keep pinned long) (T:List Int) {i:Nat}:∀ (n:Nat),i<n→n≤keep.length→∃ X Y,segW a keep to pinned long n++T=X++(pieceW a keep to (keep.getD i 0)++Y)∧(X.length:Int)=toS pinned keep long i
 | n+1,hi,hn=>by
  by_cases h:i=n
  ·subst h
   have h1:=hP.le i (by omega)
   have hl:=segW_length to hP i (by omega)
   refine ⟨segW a keep to pinned long i++layTail (toS pinned keep long i - endS pinned keep long i),T,?_,?_⟩
   ·simp only [segW,List.append_assoc]
   ·rw [List.length_append,layTail_length]; omega
  ·obtain ⟨X,Y,e,hx⟩:=seg_at (i:=i) to hP (layTail (toS pinned keep long n - endS pinned keep long n)++(pieceW a keep to (keep.getD n 0)++T)) n (by omega) (by omega)
   exact ⟨X,Y,by simp only [segW,List.append_assoc]; exact e,hx⟩
theorem segS_mem {s:Spot}:∀ (n:Nat),s∈segS a keep pinned long n→s.2.2.2.2=true∧s.2.1=0∨∃ i,i<n∧s=(toS pinned keep long i,hdA a (keep.getD i 0))
 | 0,h=>by cases h
 | n+1,h=>by
  simp only [segS,List.mem_append] at h
  rcases h with h | h | h
  ·rcases segS_mem n h with h | ⟨i,hi,e⟩
   ·exact .inl h
   ·exact .inr ⟨i,by omega,e⟩
  ·split at h
   ·rw [List.mem_singleton.1 h]; exact .inl ⟨rfl,rfl⟩
   ·cases h
  ·exact .inr ⟨n,by omega,List.mem_singleton.1 h⟩
theorem segS_has {i:Nat}:∀ (n:Nat),i<n→(toS pinned keep long i,hdA a (keep.getD i 0))∈segS a keep pinned long n
 | n+1,hi=>by
  simp only [segS,List.mem_append,List.mem_singleton]
  by_cases h:i=n
  ·subst h; exact .inr (.inr rfl)
  ·exact .inl (segS_has n (by omega))
theorem slidS_mem {s:Spot} (h:s∈slidS a keep pinned long):s.2.2.2.2=true∧s.2.1=0∨∃ i,i<keep.length∧s=(toS pinned keep long i,hdA a (keep.getD i 0)):=by
 unfold slidS at h
 rcases List.mem_append.1 h with h | h
 ·exact segS_mem _ h
 ·split at h
  ·rw [List.mem_singleton.1 h]; exact .inl ⟨rfl,rfl⟩
  ·cases h
theorem planS_get {i:Nat} (hi:i<keep.length):(planS keep long pinned).getD i 0=toS pinned keep long i:=by
 unfold planS
 rw [List.getD_eq_getElem?_getD,List.getElem?_map,List.getElem?_range hi]
 rfl
theorem begins_mem:∀ {l:List Spot} {t:Int} {h:Head},(t,h)∈l→h.2.2.2=false→t∈beginsL l
 | s::l,t,h,hm,hf=>by
  simp only [beginsL]
  rcases List.mem_cons.1 hm with e | hm
  ·subst e
   rw [if_neg (by rw [hf]; simp)]
   exact List.mem_cons_self
  ·have ih:=begins_mem hm hf
   split
   ·exact ih
   ·exact List.mem_cons_of_mem _ ih
theorem slid_check (hP:Plan a keep pinned long) (hg:(keep.all fun x=>goodR keep (planS keep long pinned) (refsA a x))=true):checkF (slidW a keep (planS keep long pinned) pinned long (planGapsL a.length keep long pinned))=(slidS a keep pinned long,placesF (slidS a keep pinned long),0):=by
 have hs:=slid_spots (planS keep long pinned) hP
 have hw:=slidW_is (planS keep long pinned) hP
 obtain ⟨A,hA⟩:∃ A,A=slidW a keep (planS keep long pinned) pinned long (planGapsL a.length keep long pinned):=⟨_,rfl⟩
 rw [← hA] at hs hw ⊢
 have hsort:=spotsF_sorted A
 rw [hs] at hsort
 unfold checkF
 rw [hs,if_neg (by simp),if_pos]
 refine List.all_eq_true.2 fun s hm=>List.all_eq_true.2 fun v hv=>?_
 rcases slidS_mem hm with ⟨_,h0⟩ | ⟨i,hi,e⟩
 ·unfold spotRefs at hv
  rw [h0,Int.add_zero,List.drop_of_length_le (by rw [List.length_take]; omega)] at hv
  cases hv
 ·have hb:=hP.isb _ (keep_mem (i:=i) hi)
  obtain ⟨l1,l2,l3,l4,l5,l6⟩:=objA_length hb
  have h1:=hP.le i hi
  have e0:=(endS_range pinned hP.pre i (by omega)).1
  obtain ⟨X,Y,eW,hX⟩:=seg_at (planS keep long pinned) hP (layTail ((a.length:Int) - endS pinned keep long keep.length)) keep.length hi (Nat.le_refl _)
  have hr:spotRefs A s=(refsA a (keep.getD i 0)).map (mapTo keep (planS keep long pinned)):=by
   unfold spotRefs
   rw [e,hw,eW]
   simp only
   generalize toS pinned keep long i=t at *
   obtain ⟨n,rfl⟩:∃ n:Nat,t=n:=⟨X.length,hX.symm⟩
   have hn:n=X.length:=by omega
   subst hn
   have e1:((X.length:Int)+1+(hdA a (keep.getD i 0)).1).toNat=X.length+(1+(refsA a (keep.getD i 0)).length):=by omega
   have e2:((X.length:Int)+1).toNat=X.length+1:=by omega
   rw [e1,e2,List.take_append,List.drop_append]
   rw [List.drop_of_length_le (by rw [List.length_take]; omega),List.nil_append,show X.length+(1+(refsA a (keep.getD i 0)).length) - X.length=1+(refsA a (keep.getD i 0)).length by omega]
   rw [List.take_of_length_le (by omega:X.length≤_),show X.length+1 - X.length=1 by omega]
   unfold pieceW
   rw [Nat.add_comm 1,List.cons_append,List.take_succ_cons,List.drop_succ_cons,List.drop_zero,List.append_assoc,List.take_append_of_le_length (by simp),List.take_of_length_le (by simp)]
  rw [hr] at hv
  obtain ⟨u,hu,rfl⟩:=List.mem_map.1 hv
  have hgu:=List.all_eq_true.1 (List.all_eq_true.1 hg _ (keep_mem (i:=i) hi)) u hu
  unfold placesF
  rw [places_get _ _ _ 0 hsort]
  have e3:mapTo keep (planS keep long pinned) u=(refTo keep (planS keep long pinned) u).getD 0:=rfl
  by_cases h0:u=0
  ·have:mapTo keep (planS keep long pinned) u=0:=by rw [e3]; unfold refTo; rw [if_pos h0]; rfl
   rw [this]
   cases plOf 0 0 (slidS a keep pinned long) <;> rfl
  ·by_cases h2:inL keep (u - 1)=true
   ·have hp:=place_in (inL_iff.1 h2)
    have e4:mapTo keep (planS keep long pinned) u=toS pinned keep long (place keep (u - 1)).toNat+1:=by
     rw [e3]
     unfold refTo
     rw [if_neg h0,if_pos h2,planS_get (by omega)]
     rfl
    have hj:(place keep (u - 1)).toNat<keep.length:=by omega
    rw [e4]
    have e5:(plOf (toS pinned keep long (place keep (u - 1)).toNat+1) 0 (slidS a keep pinned long)).isSome=true:=by
     rw [plOf_some,show toS pinned keep long (place keep (u - 1)).toNat+1 - 1=toS pinned keep long (place keep (u - 1)).toNat by omega,inL_iff]
     exact begins_mem (List.mem_append_left _ (segS_has (pinned:=pinned) (long:=long) (a:=a) keep.length hj)) (objA_in (hP.isb _ (keep_mem hj))).2.2.2.2.2
    cases hx:plOf (toS pinned keep long (place keep (u - 1)).toNat+1) 0 (slidS a keep pinned long) with
    | none=>rw [hx] at e5; cases e5
    | some k=>rfl
   ·unfold refTo at hgu
    rw [if_neg h0,if_neg h2] at hgu
    cases hgu
def sumG (l:List Gap):Int:=(l.map (·.2)).sum
def sumF:List Spot→Int
 | []=>0
 | s::l=>(if s.2.2.2.2=true then headLong s.2 else 0)+sumF l
def sumU:List Spot→Int
 | []=>0
 | s::l=>(if s.2.2.2.2=true then 0 else headLong s.2)+sumU l
theorem sumG_snoc (l:List Gap) (r:Gap):sumG (l++[r])=sumG l+r.2:=by simp [sumG]
theorem sumG_bump:∀ (l:List Gap) (n:Int),0<l.length→sumG (bumpL l n)=sumG l+n:=by
 intro l n h
 obtain ⟨l',r,rfl⟩:∃ l' r,l=l'++[r]:=by
  refine ⟨l.dropLast,l.getLast (by intro e; rw [e] at h; cases h),?_⟩
  exact (List.dropLast_concat_getLast _).symm
 unfold bumpL
 have e:(l'++[r]).length - 1=l'.length:=by simp
 have e2:(l'++[r]).getD l'.length (0,0)=r:=by simp
 have e3:∀ x,(l'++[r]).set l'.length x=l'++[x]:=fun x=>by simp
 rw [e,e2,e3,sumG_snoc,sumG_snoc]
 simp only
 omega
theorem sumG_gaps:∀ (l:List Spot) (p:Bool) (out:List Gap),(p=true→0<out.length)→sumG (gapsL p out l)=sumG out+sumF l
 | [],_,out,_=>by simp [gapsL,sumF]
 | s::l,p,out,h=>by
  simp only [gapsL,sumF]
  cases hf:s.2.2.2.2
  ·simp only [Bool.false_eq_true,if_false]
   rw [sumG_gaps l false out (fun h=>by cases h)]
   omega
  ·simp only [if_true]
   cases hp:p
   ·simp only [Bool.false_eq_true,if_false]
    rw [sumG_gaps l true _ (fun _=>by simp),sumG_snoc]
    simp only
    omega
   ·simp only [if_true]
    rw [sumG_gaps l true _ (fun _=>by rw [bumpL_length]; exact h hp),sumG_bump _ _ (h hp)]
    omega
theorem tiles_sum:∀ {l:List Spot} {s e:Int},Tiles s e l→s+sumF l+sumU l=e
 | [],s,e,h=>by simp only [Tiles] at h; simp only [sumF,sumU]; omega
 | x::l,s,e,⟨_,_,h⟩=>by
  have:=tiles_sum h
  simp only [sumF,sumU]
  cases x.2.2.2.2 <;> simp <;> omega
theorem sumU_append:∀ (l k:List Spot),sumU (l++k)=sumU l+sumU k
 | [],k=>by simp [sumU]
 | s::l,k=>by
  have:=sumU_append l k
  simp only [List.cons_append,sumU]
  omega
theorem take_succ_getD {l:List Int} {n:Nat} (h:n<l.length):l.take (n+1)=l.take n++[l.getD n 0]:=by
 have:=take_snoc (0:Int) (xs:=l) (i:=(n:Int)) (by omega) (by omega)
 simpa using this
theorem segS_sum (hb:∀ x∈keep,isB (spotsF a).1 x=true):∀ n:Nat,n≤keep.length→sumU (segS a keep pinned long n)=((keep.take n).map (lgOf (spotsF a).1)).sum
 | 0,_=>by simp [segS,sumU]
 | n+1,h=>by
  have ih:=segS_sum hb n (by omega)
  rw [take_succ_getD (by omega)]
  simp only [segS]
  rw [sumU_append,sumU_append,ih,List.map_append,List.sum_append]
  have hf:=(objA_in (hb _ (keep_mem (i:=n) (by omega)))).2.2.2.2.2
  have e1:sumU (if endS pinned keep long n<toS pinned keep long n then [freeSpot (endS pinned keep long n) (toS pinned keep long n - endS pinned keep long n)] else [])=0:=by
   split <;> simp [sumU,freeSpot]
  have e2:sumU [(toS pinned keep long n,hdA a (keep.getD n 0))]=lgOf (spotsF a).1 (keep.getD n 0):=by
   simp only [sumU,hf]
   simp [lgOf,hdA]
  rw [e1,e2]
  simp
theorem slidS_sum (hb:∀ x∈keep,isB (spotsF a).1 x=true):sumU (slidS a keep pinned long)=(keep.map (lgOf (spotsF a).1)).sum:=by
 unfold slidS
 rw [sumU_append,segS_sum hb _ (Nat.le_refl _),List.take_length]
 have:sumU (if endS pinned keep long keep.length<(a.length:Int) then [freeSpot (endS pinned keep long keep.length) ((a.length:Int) - endS pinned keep long keep.length)] else [])=0:=by
  split <;> simp [sumU,freeSpot]
 omega
end
theorem free_sum {b:List Int} (h:(spotsF b).2=0):sumG (gapsL false [] (spotsF b).1)+sumU (spotsF b).1=b.length:=by
 have:=tiles_sum (spotsF_tiles h)
 rw [sumG_gaps _ _ _ (fun h=>by cases h)]
 simp only [sumG,List.map_nil,List.sum_nil]
 omega
end Go.Proofs.YtglchojglcobjaaGreat
