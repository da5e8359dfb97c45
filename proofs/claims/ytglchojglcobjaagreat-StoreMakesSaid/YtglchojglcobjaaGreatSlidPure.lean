
import Derived.Test.YtglchojglcobjaaGreatClean
import Derived.Test.YtglchojglcobjaaGreatGapsSame
import Derived.Test.YtglchojglcobjaaGreatLays
namespace Go.Proofs.YtglchojglcobjaaGreat
open Go
theorem Ae {h:da} (h0:ac h=0):aH (aR h)=h∧aF (aR h)=true:=by
 obtain ⟨h1,h2,h3,h4,h5,h6⟩:=a8 h0
 have e:aH (aR h)=h:=by
  obtain ⟨a,b,c,d⟩:=h
  simp only at h1 h2 h3 h4 h5
  simp only [aR,aH]
  cases d
  ·simp only [Bool.false_eq_true,if_false,Prod.mk.injEq]
   refine ⟨by omega,by omega,by omega,decide_eq_false (by omega)⟩
  ·simp only [if_true,Prod.mk.injEq]
   refine ⟨by omega,by omega,by omega,decide_eq_true (by omega)⟩
 refine ⟨e,?_⟩
 unfold aF
 rw [e,h0]
 have:aR h / 281474976710656≤1:=by
  unfold aR
  cases h.2.2.2 <;> simp <;> omega
 simp [this]
theorem cI (k:Int):(dC k).length=k.toNat:=by
 unfold dC
 split
 ·simp only [List.length_cons,List.length_replicate]; omega
 ·simp only [List.length_nil]; omega
def nk (a keep to pinned long:List Int):Nat→List Int
 | 0=>[]
 | i+1=>nk a keep to pinned long i++(dC (cB pinned keep long i - aW pinned keep long i)++f9 a keep to (keep.getD i 0))
def aM (at_ k:Int):aw:=(at_,0,k - 1,0,true)
def qH (a keep pinned long:List Int):Nat→List aw
 | 0=>[]
 | i+1=>qH a keep pinned long i++((if aW pinned keep long i<cB pinned keep long i then [aM (aW pinned keep long i) (cB pinned keep long i - aW pinned keep long i)] else [])++[(cB pinned keep long i,dD a (keep.getD i 0))])
section
variable {a keep pinned long:List Int}
theorem gH (to:List Int) (hP:Plan a keep pinned long):∀ i:Nat,i≤keep.length→((nk a keep to pinned long i).length:Int)=aW pinned keep long i
 | 0,_=>by simp [nk,aW]
 | i+1,hi=>by
  have ih:=gH to hP i (by omega)
  have h1:=hP.le i (by omega)
  have h2:=hP.lg i (by omega)
  have h3:=jh (a:=a) (keep:=keep) (to:=to) (hP.isb _ (fx (i:=i) (by omega)))
  have e:aW pinned keep long (i+1)=cB pinned keep long i+long.getD i 0:=rfl
  rw [e]
  simp only [nk,List.length_append,cI]
  omega
theorem CH (to:List Int) (hP:Plan a keep pinned long):∀ (i:Nat) (R:List Int),i≤keep.length→(eo pinned keep long i).foldl eJ (bQ a keep to pinned long i++R)=nk a keep to pinned long i++R
 | 0,R,_=>rfl
 | i+1,R,hi=>by
  have hl:=gH to hP i (by omega)
  have h1:=hP.le i (by omega)
  have e:bQ a keep to pinned long (i+1)++R=bQ a keep to pinned long i++(gx pinned keep long i++(f9 a keep to (keep.getD i 0)++R)):=by
   simp only [bQ,List.append_assoc]
  rw [e]
  simp only [eo,List.foldl_append]
  rw [CH to hP i _ (by omega)]
  simp only [nk,List.append_assoc]
  unfold gx
  have e0:(0:Int)≤aW pinned keep long i:=by omega
  generalize cB pinned keep long i=t at *
  generalize aW pinned keep long i=s at *
  by_cases hc:s<t
  ·rw [if_pos hc]
   simp only [List.foldl_cons,List.foldl_nil,eJ,dC]
   rw [if_pos (by omega),show (t - s).toNat=(t - s - 1).toNat+1 by omega,List.replicate_succ,List.cons_append,jK _ (by omega)]
   rfl
  ·rw [if_neg hc]
   have:t - s=0:=by omega
   rw [this]
   rfl
theorem rF (to:List Int) (hP:Plan a keep pinned long):js a keep to pinned long (bI a.length keep long pinned)=nk a keep to pinned long keep.length++dC ((a.length:Int) - aW pinned keep long keep.length):=by
 have hl:=gH to hP keep.length (Nat.le_refl _)
 have he:=hP.en
 unfold js bI
 rw [List.foldl_append,CH to hP _ _ (Nat.le_refl _)]
 generalize aW pinned keep long keep.length=s at *
 by_cases hc:s<(a.length:Int)
 ·rw [if_pos hc]
  simp only [List.foldl_cons,List.foldl_nil,eJ,dC]
  rw [if_pos (by omega),show ((a.length:Int) - s).toNat=((a.length:Int) - s - 1).toNat+1 by omega,List.replicate_succ,jK _ (by omega)]
 ·rw [if_neg hc]
  have:(a.length:Int) - s=0:=by omega
  rw [this]
  rfl
theorem jI {at_ v:Int} {r R:List Int} (h:aF v=true) (hl:ab (aH v)=1+(r.length:Int)):spotsS at_ (v::r++R)=(spotsS (at_+ab (aH v)) R).map ((at_,aH v)::·):=by
 rw [List.cons_append,ed h (by simp only [List.length_cons,List.length_append]; omega)]
 congr 2
 rw [hl,show (1+(r.length:Int)).toNat=r.length+1 by omega,List.drop_succ_cons,List.drop_left]
theorem Ao {k:Int} (h1:1≤k) (h2:k≤256):ac (0,k - 1,0,true)=0:=by
 simp [ac,ab]; omega
theorem ko {at_ k:Int} {R:List Int} (h2:k≤256):spotsS at_ (dC k++R)=if 0<k then (spotsS (at_+k) R).map (aM at_ k::·) else spotsS at_ R:=by
 unfold dC
 by_cases h:0<k
 ·rw [if_pos h,if_pos h]
  obtain ⟨e1,e2⟩:=Ae (Ao (k:=k) (by omega) h2)
  have e3:ab (aH (aR (0,k - 1,0,true)))=k:=by rw [e1]; simp [ab]; omega
  rw [jI e2 (by rw [e3,List.length_replicate]; omega),e3,e1]
  rfl
 ·rw [if_neg h,if_neg h]
  rfl
theorem rA (to:List Int) (hP:Plan a keep pinned long):∀ (i:Nat) (R:List Int),i≤keep.length→spotsS 0 (nk a keep to pinned long i++R)=(spotsS (aW pinned keep long i) R).map (qH a keep pinned long i++·)
 | 0,R,_=>by
  simp only [nk,qH,aW,List.nil_append]
  cases spotsS 0 R <;> rfl
 | i+1,R,hi=>by
  have h1:=hP.le i (by omega)
  have h2:=hP.lg i (by omega)
  have hb:=hP.isb _ (fx (i:=i) (by omega:i<keep.length))
  obtain ⟨_,_,_,o4,o5,_⟩:=gc hb
  have h3:=jh (a:=a) (keep:=keep) (to:=to) hb
  have hal:=hP.al
  have e:aW pinned keep long (i+1)=cB pinned keep long i+long.getD i 0:=rfl
  have e0:=(bR pinned hP.pre i (by omega)).1
  have hl:ab (aH (a.getD (keep.getD i 0).toNat 0))=long.getD i 0:=by rw [← o4,h2]; rfl
  have hpc:∀ s,spotsS s (f9 a keep to (keep.getD i 0)++R)=(spotsS (s+long.getD i 0) R).map ((s,dD a (keep.getD i 0))::·):=fun s=>by
   unfold f9 at h3 ⊢
   rw [jI o5 (by rw [hl,h2]; simp only [List.length_cons] at h3; omega),hl,← o4]
  simp only [nk,qH,List.append_assoc]
  rw [rA to hP i _ (by omega),ko (by omega),e]
  by_cases hc:aW pinned keep long i<cB pinned keep long i
  ·rw [if_pos hc,if_pos (by omega),show aW pinned keep long i+(cB pinned keep long i - aW pinned keep long i)=cB pinned keep long i by omega,hpc]
   cases spotsS (cB pinned keep long i+long.getD i 0) R <;> simp
  ·rw [if_neg hc,if_neg (by omega),show aW pinned keep long i=cB pinned keep long i by omega,hpc]
   cases spotsS (cB pinned keep long i+long.getD i 0) R <;> simp
def kq (a keep pinned long:List Int):List aw:=qH a keep pinned long keep.length++(if aW pinned keep long keep.length<(a.length:Int) then [aM (aW pinned keep long keep.length) ((a.length:Int) - aW pinned keep long keep.length)] else [])
theorem nj (to:List Int) (hP:Plan a keep pinned long):(js a keep to pinned long (bI a.length keep long pinned)).length=a.length:=by
 have hl:=gH to hP keep.length (Nat.le_refl _)
 have he:=hP.en
 rw [rF to hP,List.length_append,cI]
 omega
theorem rE (to:List Int) (hP:Plan a keep pinned long):aa (js a keep to pinned long (bI a.length keep long pinned))=(kq a keep pinned long,0):=by
 have hl:=nj to hP
 have hal:=hP.al
 have he:=hP.en
 have e0:=(bR pinned hP.pre keep.length (Nat.le_refl _)).1
 unfold aa
 rw [if_neg (by omega),rF to hP,rA to hP _ _ (Nat.le_refl _)]
 have:spotsS (aW pinned keep long keep.length) (dC ((a.length:Int) - aW pinned keep long keep.length))=some (if aW pinned keep long keep.length<(a.length:Int) then [aM (aW pinned keep long keep.length) ((a.length:Int) - aW pinned keep long keep.length)] else []):=by
  have h:=ko (at_:=aW pinned keep long keep.length) (k:=(a.length:Int) - aW pinned keep long keep.length) (R:=[]) (by omega)
  rw [List.append_nil] at h
  rw [h]
  by_cases hc:aW pinned keep long keep.length<(a.length:Int)
  ·rw [if_pos hc,if_pos (by omega),spotsS]; rfl
  ·rw [if_neg hc,if_neg (by omega),spotsS]
 rw [this]
 rfl
theorem Ft (to:List Int) (hP:Plan a keep pinned long) (T:List Int) {i:Nat}:∀ (n:Nat),i<n→n≤keep.length→∃ X Y,nk a keep to pinned long n++T=X++(f9 a keep to (keep.getD i 0)++Y)∧(X.length:Int)=cB pinned keep long i
 | n+1,hi,hn=>by
  by_cases h:i=n
  ·subst h
   have h1:=hP.le i (by omega)
   have hl:=gH to hP i (by omega)
   refine ⟨nk a keep to pinned long i++dC (cB pinned keep long i - aW pinned keep long i),T,?_,?_⟩
   ·simp only [nk,List.append_assoc]
   ·rw [List.length_append,cI]; omega
  ·obtain ⟨X,Y,e,hx⟩:=Ft (i:=i) to hP (dC (cB pinned keep long n - aW pinned keep long n)++(f9 a keep to (keep.getD n 0)++T)) n (by omega) (by omega)
   exact ⟨X,Y,by simp only [nk,List.append_assoc]; exact e,hx⟩
theorem zh {s:aw}:∀ (n:Nat),s∈qH a keep pinned long n→s.2.2.2.2=true∧s.2.1=0∨∃ i,i<n∧s=(cB pinned keep long i,dD a (keep.getD i 0))
 | 0,h=>by cases h
 | n+1,h=>by
  simp only [qH,List.mem_append] at h
  rcases h with h | h | h
  ·rcases zh n h with h | ⟨i,hi,e⟩
   ·exact .inl h
   ·exact .inr ⟨i,by omega,e⟩
  ·split at h
   ·rw [List.mem_singleton.1 h]; exact .inl ⟨rfl,rfl⟩
   ·cases h
  ·exact .inr ⟨n,by omega,List.mem_singleton.1 h⟩
theorem zi {i:Nat}:∀ (n:Nat),i<n→(cB pinned keep long i,dD a (keep.getD i 0))∈qH a keep pinned long n
 | n+1,hi=>by
  simp only [qH,List.mem_append,List.mem_singleton]
  by_cases h:i=n
  ·subst h; exact .inr (.inr rfl)
  ·exact .inl (zi n (by omega))
theorem DY {s:aw} (h:s∈kq a keep pinned long):s.2.2.2.2=true∧s.2.1=0∨∃ i,i<keep.length∧s=(cB pinned keep long i,dD a (keep.getD i 0)):=by
 unfold kq at h
 rcases List.mem_append.1 h with h | h
 ·exact zh _ h
 ·split at h
  ·rw [List.mem_singleton.1 h]; exact .inl ⟨rfl,rfl⟩
  ·cases h
theorem vC {i:Nat} (hi:i<keep.length):(an keep long pinned).getD i 0=cB pinned keep long i:=by
 unfold an
 rw [List.getD_eq_getElem?_getD,List.getElem?_map,List.getElem?_range hi]
 rfl
theorem tp:∀ {l:List aw} {t:Int} {h:da},(t,h)∈l→h.2.2.2=false→t∈af l
 | s::l,t,h,hm,hf=>by
  simp only [af]
  rcases List.mem_cons.1 hm with e | hm
  ·subst e
   rw [if_neg (by rw [hf]; simp)]
   exact List.mem_cons_self
  ·have ih:=tp hm hf
   split
   ·exact ih
   ·exact List.mem_cons_of_mem _ ih
theorem BH (hP:Plan a keep pinned long) (hg:(keep.all fun x=>bY keep (an keep long pinned) (aU a x))=true):ao (js a keep (an keep long pinned) pinned long (bI a.length keep long pinned))=(kq a keep pinned long,bC (kq a keep pinned long),0):=by
 have hs:=rE (an keep long pinned) hP
 have hw:=rF (an keep long pinned) hP
 obtain ⟨A,hA⟩:∃ A,A=js a keep (an keep long pinned) pinned long (bI a.length keep long pinned):=⟨_,rfl⟩
 rw [← hA] at hs hw ⊢
 have hsort:=b6 A
 rw [hs] at hsort
 unfold ao
 rw [hs,if_neg (by simp),if_pos]
 refine List.all_eq_true.2 fun s hm=>List.all_eq_true.2 fun v hv=>?_
 rcases DY hm with ⟨_,h0⟩ | ⟨i,hi,e⟩
 ·unfold aA at hv
  rw [h0,Int.add_zero,List.drop_of_length_le (by rw [List.length_take]; omega)] at hv
  cases hv
 ·have hb:=hP.isb _ (fx (i:=i) hi)
  obtain ⟨l1,l2,l3,l4,l5,l6⟩:=cp hb
  have h1:=hP.le i hi
  have e0:=(bR pinned hP.pre i (by omega)).1
  obtain ⟨X,Y,eW,hX⟩:=Ft (an keep long pinned) hP (dC ((a.length:Int) - aW pinned keep long keep.length)) keep.length hi (Nat.le_refl _)
  have hr:aA A s=(aU a (keep.getD i 0)).map (dO keep (an keep long pinned)):=by
   unfold aA
   rw [e,hw,eW]
   simp only
   generalize cB pinned keep long i=t at *
   obtain ⟨n,rfl⟩:∃ n:Nat,t=n:=⟨X.length,hX.symm⟩
   have hn:n=X.length:=by omega
   subst hn
   have e1:((X.length:Int)+1+(dD a (keep.getD i 0)).1).toNat=X.length+(1+(aU a (keep.getD i 0)).length):=by omega
   have e2:((X.length:Int)+1).toNat=X.length+1:=by omega
   rw [e1,e2,List.take_append,List.drop_append]
   rw [List.drop_of_length_le (by rw [List.length_take]; omega),List.nil_append,show X.length+(1+(aU a (keep.getD i 0)).length) - X.length=1+(aU a (keep.getD i 0)).length by omega]
   rw [List.take_of_length_le (by omega:X.length≤_),show X.length+1 - X.length=1 by omega]
   unfold f9
   rw [Nat.add_comm 1,List.cons_append,List.take_succ_cons,List.drop_succ_cons,List.drop_zero,List.append_assoc,List.take_append_of_le_length (by simp),List.take_of_length_le (by simp)]
  rw [hr] at hv
  obtain ⟨u,hu,rfl⟩:=List.mem_map.1 hv
  have hgu:=List.all_eq_true.1 (List.all_eq_true.1 hg _ (fx (i:=i) hi)) u hu
  unfold bC
  rw [iz _ _ _ 0 hsort]
  have e3:dO keep (an keep long pinned) u=(gk keep (an keep long pinned) u).getD 0:=rfl
  by_cases h0:u=0
  ·have:dO keep (an keep long pinned) u=0:=by rw [e3]; unfold gk; rw [if_pos h0]; rfl
   rw [this]
   cases lL 0 0 (kq a keep pinned long) <;> rfl
  ·by_cases h2:cD keep (u - 1)=true
   ·have hp:=nQ (cz.1 h2)
    have e4:dO keep (an keep long pinned) u=cB pinned keep long (bA keep (u - 1)).toNat+1:=by
     rw [e3]
     unfold gk
     rw [if_neg h0,if_pos h2,vC (by omega)]
     rfl
    have hj:(bA keep (u - 1)).toNat<keep.length:=by omega
    rw [e4]
    have e5:(lL (cB pinned keep long (bA keep (u - 1)).toNat+1) 0 (kq a keep pinned long)).isSome=true:=by
     rw [jv,show cB pinned keep long (bA keep (u - 1)).toNat+1 - 1=cB pinned keep long (bA keep (u - 1)).toNat by omega,cz]
     exact tp (List.mem_append_left _ (zi (pinned:=pinned) (long:=long) (a:=a) keep.length hj)) (gc (hP.isb _ (fx hj))).2.2.2.2.2
    cases hx:lL (cB pinned keep long (bA keep (u - 1)).toNat+1) 0 (kq a keep pinned long) with
    | none=>rw [hx] at e5; cases e5
    | some k=>rfl
   ·unfold gk at hgu
    rw [if_neg h0,if_neg h2] at hgu
    cases hgu
def dS (l:List bK):Int:=(l.map (·.2)).sum
def Bo:List aw→Int
 | []=>0
 | s::l=>(if s.2.2.2.2=true then ab s.2 else 0)+Bo l
def jH:List aw→Int
 | []=>0
 | s::l=>(if s.2.2.2.2=true then 0 else ab s.2)+jH l
theorem lu (l:List bK) (r:bK):dS (l++[r])=dS l+r.2:=by simp [dS]
theorem DA:∀ (l:List bK) (n:Int),0<l.length→dS (fl l n)=dS l+n:=by
 intro l n h
 obtain ⟨l',r,rfl⟩:∃ l' r,l=l'++[r]:=by
  refine ⟨l.dropLast,l.getLast (by intro e; rw [e] at h; cases h),?_⟩
  exact (List.dropLast_concat_getLast _).symm
 unfold fl
 have e:(l'++[r]).length - 1=l'.length:=by simp
 have e2:(l'++[r]).getD l'.length (0,0)=r:=by simp
 have e3:∀ x,(l'++[r]).set l'.length x=l'++[x]:=fun x=>by simp
 rw [e,e2,e3,lu,lu]
 simp only
 omega
theorem lv:∀ (l:List aw) (p:Bool) (out:List bK),(p=true→0<out.length)→dS (aL p out l)=dS out+Bo l
 | [],_,out,_=>by simp [aL,Bo]
 | s::l,p,out,h=>by
  simp only [aL,Bo]
  cases hf:s.2.2.2.2
  ·simp only [Bool.false_eq_true,if_false]
   rw [lv l false out (fun h=>by cases h)]
   omega
  ·simp only [if_true]
   cases hp:p
   ·simp only [Bool.false_eq_true,if_false]
    rw [lv l true _ (fun _=>by simp),lu]
    simp only
    omega
   ·simp only [if_true]
    rw [lv l true _ (fun _=>by rw [cZ]; exact h hp),DA _ _ (h hp)]
    omega
theorem lp:∀ {l:List aw} {s e:Int},eK s e l→s+Bo l+jH l=e
 | [],s,e,h=>by simp only [eK] at h; simp only [Bo,jH]; omega
 | x::l,s,e,⟨_,_,h⟩=>by
  have:=lp h
  simp only [Bo,jH]
  cases x.2.2.2.2 <;> simp <;> omega
theorem iS:∀ (l k:List aw),jH (l++k)=jH l+jH k
 | [],k=>by simp [jH]
 | s::l,k=>by
  have:=iS l k
  simp only [List.cons_append,jH]
  omega
theorem ry {l:List Int} {n:Nat} (h:n<l.length):l.take (n+1)=l.take n++[l.getD n 0]:=by
 have:=bj (0:Int) (xs:=l) (i:=(n:Int)) (by omega) (by omega)
 simpa using this
theorem zg (hb:∀ x∈keep,isB (aa a).1 x=true):∀ n:Nat,n≤keep.length→jH (qH a keep pinned long n)=((keep.take n).map (ax (aa a).1)).sum
 | 0,_=>by simp [qH,jH]
 | n+1,h=>by
  have ih:=zg hb n (by omega)
  rw [ry (by omega)]
  simp only [qH]
  rw [iS,iS,ih,List.map_append,List.sum_append]
  have hf:=(gc (hb _ (fx (i:=n) (by omega)))).2.2.2.2.2
  have e1:jH (if aW pinned keep long n<cB pinned keep long n then [aM (aW pinned keep long n) (cB pinned keep long n - aW pinned keep long n)] else [])=0:=by
   split <;> simp [jH,aM]
  have e2:jH [(cB pinned keep long n,dD a (keep.getD n 0))]=ax (aa a).1 (keep.getD n 0):=by
   simp only [jH,hf]
   simp [ax,dD]
  rw [e1,e2]
  simp
theorem DX (hb:∀ x∈keep,isB (aa a).1 x=true):jH (kq a keep pinned long)=(keep.map (ax (aa a).1)).sum:=by
 unfold kq
 rw [iS,zg hb _ (Nat.le_refl _),List.take_length]
 have:jH (if aW pinned keep long keep.length<(a.length:Int) then [aM (aW pinned keep long keep.length) ((a.length:Int) - aW pinned keep long keep.length)] else [])=0:=by
  split <;> simp [jH,aM]
 omega
end
theorem F6 {b:List Int} (h:(aa b).2=0):dS (aL false [] (aa b).1)+jH (aa b).1=b.length:=by
 have:=lp (fY h)
 rw [lv _ _ _ (fun h=>by cases h)]
 simp only [dS,List.map_nil,List.sum_nil]
 omega
end Go.Proofs.YtglchojglcobjaaGreat
