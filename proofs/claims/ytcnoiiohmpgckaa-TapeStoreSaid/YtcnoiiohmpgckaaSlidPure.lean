
import Derived.Test.YtcnoiiohmpgckaaClean
import Derived.Test.YtcnoiiohmpgckaaGapsSame
import Derived.Test.YtcnoiiohmpgckaaLays
namespace Go.Proofs.Ytcnoiiohmpgckaa
open Go
theorem wl {h:iu} (h0:ap h=0):au (ep h)=h∧aq (ep h)=true:=by
 obtain ⟨h1,h2,h3,h4,h5,h6⟩:=bP h0
 have e:au (ep h)=h:=by
  obtain ⟨a,b,c,d⟩:=h
  simp only at h1 h2 h3 h4 h5
  simp only [ep,au]
  cases d
  ·simp only [Bool.false_eq_true,if_false,Prod.mk.injEq]
   refine ⟨by omega,by omega,by omega,decide_eq_false (by omega)⟩
  ·simp only [if_true,Prod.mk.injEq]
   refine ⟨by omega,by omega,by omega,decide_eq_true (by omega)⟩
 refine ⟨e,?_⟩
 unfold aq
 rw [e,h0]
 have:ep h / 281474976710656≤1:=by
  unfold ep
  cases h.2.2.2 <;> simp <;> omega
 simp [this]
theorem fP (k:Int):(dT k).length=k.toNat:=by
 unfold dT
 split
 ·simp only [List.length_cons,List.length_replicate]; omega
 ·simp only [List.length_nil]; omega
def kO (a keep to pinned long:List Int):Nat→List Int
 | 0=>[]
 | i+1=>kO a keep to pinned long i++(dT (gE pinned keep long i - bw pinned keep long i)++gw a keep to (keep.getD i 0))
def ff (at_ k:Int):aE:=(at_,0,k - 1,0,true)
def nS (a keep pinned long:List Int):Nat→List aE
 | 0=>[]
 | i+1=>nS a keep pinned long i++((if bw pinned keep long i<gE pinned keep long i then [ff (bw pinned keep long i) (gE pinned keep long i - bw pinned keep long i)] else [])++[(gE pinned keep long i,iB a (keep.getD i 0))])
section
variable {a keep pinned long:List Int}
theorem eZ (to:List Int) (hP:Plan a keep pinned long):∀ i:Nat,i≤keep.length→((kO a keep to pinned long i).length:Int)=bw pinned keep long i
 | 0,_=>by simp [kO,bw]
 | i+1,hi=>by
  have ih:=eZ to hP i (by omega)
  have h1:=hP.le i (by omega)
  have h2:=hP.lg i (by omega)
  have h3:=jS (a:=a) (keep:=keep) (to:=to) (hP.isb _ (gR (i:=i) (by omega)))
  have e:bw pinned keep long (i+1)=gE pinned keep long i+long.getD i 0:=rfl
  rw [e]
  simp only [kO,List.length_append,fP]
  omega
theorem yq (to:List Int) (hP:Plan a keep pinned long):∀ (i:Nat) (R:List Int),i≤keep.length→(uk pinned keep long i).foldl ob (mt a keep to pinned long i++R)=kO a keep to pinned long i++R
 | 0,R,_=>rfl
 | i+1,R,hi=>by
  have hl:=eZ to hP i (by omega)
  have h1:=hP.le i (by omega)
  have e:mt a keep to pinned long (i+1)++R=mt a keep to pinned long i++(Ci pinned keep long i++(gw a keep to (keep.getD i 0)++R)):=by
   simp only [mt,List.append_assoc]
  rw [e]
  simp only [uk,List.foldl_append]
  rw [yq to hP i _ (by omega)]
  simp only [kO,List.append_assoc]
  unfold Ci
  have e0:(0:Int)≤bw pinned keep long i:=by omega
  generalize gE pinned keep long i=t at *
  generalize bw pinned keep long i=s at *
  by_cases hc:s<t
  ·rw [if_pos hc]
   simp only [List.foldl_cons,List.foldl_nil,ob,dT]
   rw [if_pos (by omega),show (t - s).toNat=(t - s - 1).toNat+1 by omega,List.replicate_succ,List.cons_append,yp _ (by omega)]
   rfl
  ·rw [if_neg hc]
   have:t - s=0:=by omega
   rw [this]
   rfl
theorem oZ (to:List Int) (hP:Plan a keep pinned long):kN a keep to pinned long (dy a.length keep long pinned)=kO a keep to pinned long keep.length++dT ((a.length:Int) - bw pinned keep long keep.length):=by
 have hl:=eZ to hP keep.length (Nat.le_refl _)
 have he:=hP.en
 unfold kN dy
 rw [List.foldl_append,yq to hP _ _ (Nat.le_refl _)]
 generalize bw pinned keep long keep.length=s at *
 by_cases hc:s<(a.length:Int)
 ·rw [if_pos hc]
  simp only [List.foldl_cons,List.foldl_nil,ob,dT]
  rw [if_pos (by omega),show ((a.length:Int) - s).toNat=((a.length:Int) - s - 1).toNat+1 by omega,List.replicate_succ,yp _ (by omega)]
 ·rw [if_neg hc]
  have:(a.length:Int) - s=0:=by omega
  rw [this]
  rfl
theorem kI {at_ v:Int} {r R:List Int} (h:aq v=true) (hl:aj (au v)=1+(r.length:Int)):spotsS at_ (v::r++R)=(spotsS (at_+aj (au v)) R).map ((at_,au v)::·):=by
 rw [List.cons_append,cP h (by simp only [List.length_cons,List.length_append]; omega)]
 congr 2
 rw [hl,show (1+(r.length:Int)).toNat=r.length+1 by omega,List.drop_succ_cons,List.drop_left]
theorem wz {k:Int} (h1:1≤k) (h2:k≤256):ap (0,k - 1,0,true)=0:=by
 simp [ap,aj]; omega
theorem m9 {at_ k:Int} {R:List Int} (h2:k≤256):spotsS at_ (dT k++R)=if 0<k then (spotsS (at_+k) R).map (ff at_ k::·) else spotsS at_ R:=by
 unfold dT
 by_cases h:0<k
 ·rw [if_pos h,if_pos h]
  obtain ⟨e1,e2⟩:=wl (wz (k:=k) (by omega) h2)
  have e3:aj (au (ep (0,k - 1,0,true)))=k:=by rw [e1]; simp [aj]; omega
  rw [kI e2 (by rw [e3,List.length_replicate]; omega),e3,e1]
  rfl
 ·rw [if_neg h,if_neg h]
  rfl
theorem oT (to:List Int) (hP:Plan a keep pinned long):∀ (i:Nat) (R:List Int),i≤keep.length→spotsS 0 (kO a keep to pinned long i++R)=(spotsS (bw pinned keep long i) R).map (nS a keep pinned long i++·)
 | 0,R,_=>by
  simp only [kO,nS,bw,List.nil_append]
  cases spotsS 0 R <;> rfl
 | i+1,R,hi=>by
  have h1:=hP.le i (by omega)
  have h2:=hP.lg i (by omega)
  have hb:=hP.isb _ (gR (i:=i) (by omega:i<keep.length))
  obtain ⟨_,_,_,o4,o5,_⟩:=ig hb
  have h3:=jS (a:=a) (keep:=keep) (to:=to) hb
  have hal:=hP.al
  have e:bw pinned keep long (i+1)=gE pinned keep long i+long.getD i 0:=rfl
  have e0:=(it pinned hP.pre i (by omega)).1
  have hl:aj (au (a.getD (keep.getD i 0).toNat 0))=long.getD i 0:=by rw [← o4,h2]; rfl
  have hpc:∀ s,spotsS s (gw a keep to (keep.getD i 0)++R)=(spotsS (s+long.getD i 0) R).map ((s,iB a (keep.getD i 0))::·):=fun s=>by
   unfold gw at h3 ⊢
   rw [kI o5 (by rw [hl,h2]; simp only [List.length_cons] at h3; omega),hl,← o4]
  simp only [kO,nS,List.append_assoc]
  rw [oT to hP i _ (by omega),m9 (by omega),e]
  by_cases hc:bw pinned keep long i<gE pinned keep long i
  ·rw [if_pos hc,if_pos (by omega),show bw pinned keep long i+(gE pinned keep long i - bw pinned keep long i)=gE pinned keep long i by omega,hpc]
   cases spotsS (gE pinned keep long i+long.getD i 0) R <;> simp
  ·rw [if_neg hc,if_neg (by omega),show bw pinned keep long i=gE pinned keep long i by omega,hpc]
   cases spotsS (gE pinned keep long i+long.getD i 0) R <;> simp
def iJ (a keep pinned long:List Int):List aE:=nS a keep pinned long keep.length++(if bw pinned keep long keep.length<(a.length:Int) then [ff (bw pinned keep long keep.length) ((a.length:Int) - bw pinned keep long keep.length)] else [])
theorem kM (to:List Int) (hP:Plan a keep pinned long):(kN a keep to pinned long (dy a.length keep long pinned)).length=a.length:=by
 have hl:=eZ to hP keep.length (Nat.le_refl _)
 have he:=hP.en
 rw [oZ to hP,List.length_append,fP]
 omega
theorem oY (to:List Int) (hP:Plan a keep pinned long):aa (kN a keep to pinned long (dy a.length keep long pinned))=(iJ a keep pinned long,0):=by
 have hl:=kM to hP
 have hal:=hP.al
 have he:=hP.en
 have e0:=(it pinned hP.pre keep.length (Nat.le_refl _)).1
 unfold aa
 rw [if_neg (by omega),oZ to hP,oT to hP _ _ (Nat.le_refl _)]
 have:spotsS (bw pinned keep long keep.length) (dT ((a.length:Int) - bw pinned keep long keep.length))=some (if bw pinned keep long keep.length<(a.length:Int) then [ff (bw pinned keep long keep.length) ((a.length:Int) - bw pinned keep long keep.length)] else []):=by
  have h:=m9 (at_:=bw pinned keep long keep.length) (k:=(a.length:Int) - bw pinned keep long keep.length) (R:=[]) (by omega)
  rw [List.append_nil] at h
  rw [h]
  by_cases hc:bw pinned keep long keep.length<(a.length:Int)
  ·rw [if_pos hc,if_pos (by omega),spotsS]; rfl
  ·rw [if_neg hc,if_neg (by omega),spotsS]
 rw [this]
 rfl
theorem As (to:List Int) (hP:Plan a keep pinned long) (T:List Int) {i:Nat}:∀ (n:Nat),i<n→n≤keep.length→∃ X Y,kO a keep to pinned long n++T=X++(gw a keep to (keep.getD i 0)++Y)∧(X.length:Int)=gE pinned keep long i
 | n+1,hi,hn=>by
  by_cases h:i=n
  ·subst h
   have h1:=hP.le i (by omega)
   have hl:=eZ to hP i (by omega)
   refine ⟨kO a keep to pinned long i++dT (gE pinned keep long i - bw pinned keep long i),T,?_,?_⟩
   ·simp only [kO,List.append_assoc]
   ·rw [List.length_append,fP]; omega
  ·obtain ⟨X,Y,e,hx⟩:=As (i:=i) to hP (dT (gE pinned keep long n - bw pinned keep long n)++(gw a keep to (keep.getD n 0)++T)) n (by omega) (by omega)
   exact ⟨X,Y,by simp only [kO,List.append_assoc]; exact e,hx⟩
theorem vE {s:aE}:∀ (n:Nat),s∈nS a keep pinned long n→s.2.2.2.2=true∧s.2.1=0∨∃ i,i<n∧s=(gE pinned keep long i,iB a (keep.getD i 0))
 | 0,h=>by cases h
 | n+1,h=>by
  simp only [nS,List.mem_append] at h
  rcases h with h | h | h
  ·rcases vE n h with h | ⟨i,hi,e⟩
   ·exact .inl h
   ·exact .inr ⟨i,by omega,e⟩
  ·split at h
   ·rw [List.mem_singleton.1 h]; exact .inl ⟨rfl,rfl⟩
   ·cases h
  ·exact .inr ⟨n,by omega,List.mem_singleton.1 h⟩
theorem vF {i:Nat}:∀ (n:Nat),i<n→(gE pinned keep long i,iB a (keep.getD i 0))∈nS a keep pinned long n
 | n+1,hi=>by
  simp only [nS,List.mem_append,List.mem_singleton]
  by_cases h:i=n
  ·subst h; exact .inr (.inr rfl)
  ·exact .inl (vF n (by omega))
theorem ze {s:aE} (h:s∈iJ a keep pinned long):s.2.2.2.2=true∧s.2.1=0∨∃ i,i<keep.length∧s=(gE pinned keep long i,iB a (keep.getD i 0)):=by
 unfold iJ at h
 rcases List.mem_append.1 h with h | h
 ·exact vE _ h
 ·split at h
  ·rw [List.mem_singleton.1 h]; exact .inl ⟨rfl,rfl⟩
  ·cases h
theorem zp {i:Nat} (hi:i<keep.length):(di keep long pinned).getD i 0=gE pinned keep long i:=by
 unfold di
 rw [List.getD_eq_getElem?_getD,List.getElem?_map,List.getElem?_range hi]
 rfl
theorem qj:∀ {l:List aE} {t:Int} {h:iu},(t,h)∈l→h.2.2.2=false→t∈af l
 | s::l,t,h,hm,hf=>by
  simp only [af]
  rcases List.mem_cons.1 hm with e | hm
  ·subst e
   rw [if_neg (by rw [hf]; simp)]
   exact List.mem_cons_self
  ·have ih:=qj hm hf
   split
   ·exact ih
   ·exact List.mem_cons_of_mem _ ih
theorem xr (hP:Plan a keep pinned long) (hg:(keep.all fun x=>ws keep (di keep long pinned) (gn a x))=true):ah (kN a keep (di keep long pinned) pinned long (dy a.length keep long pinned))=(iJ a keep pinned long,aR (iJ a keep pinned long),0):=by
 have hs:=oY (di keep long pinned) hP
 have hw:=oZ (di keep long pinned) hP
 obtain ⟨A,hA⟩:∃ A,A=kN a keep (di keep long pinned) pinned long (dy a.length keep long pinned):=⟨_,rfl⟩
 rw [← hA] at hs hw ⊢
 have hsort:=dK A
 rw [hs] at hsort
 unfold ah
 rw [hs,if_neg (by simp),if_pos]
 refine List.all_eq_true.2 fun s hm=>List.all_eq_true.2 fun v hv=>?_
 rcases ze hm with ⟨_,h0⟩ | ⟨i,hi,e⟩
 ·unfold aw at hv
  rw [h0,Int.add_zero,List.drop_of_length_le (by rw [List.length_take]; omega)] at hv
  cases hv
 ·have hb:=hP.isb _ (gR (i:=i) hi)
  obtain ⟨l1,l2,l3,l4,l5,l6⟩:=ny hb
  have h1:=hP.le i hi
  have e0:=(it pinned hP.pre i (by omega)).1
  obtain ⟨X,Y,eW,hX⟩:=As (di keep long pinned) hP (dT ((a.length:Int) - bw pinned keep long keep.length)) keep.length hi (Nat.le_refl _)
  have hr:aw A s=(gn a (keep.getD i 0)).map (wh keep (di keep long pinned)):=by
   unfold aw
   rw [e,hw,eW]
   simp only
   generalize gE pinned keep long i=t at *
   obtain ⟨n,rfl⟩:∃ n:Nat,t=n:=⟨X.length,hX.symm⟩
   have hn:n=X.length:=by omega
   subst hn
   have e1:((X.length:Int)+1+(iB a (keep.getD i 0)).1).toNat=X.length+(1+(gn a (keep.getD i 0)).length):=by omega
   have e2:((X.length:Int)+1).toNat=X.length+1:=by omega
   rw [e1,e2,List.take_append,List.drop_append]
   rw [List.drop_of_length_le (by rw [List.length_take]; omega),List.nil_append,show X.length+(1+(gn a (keep.getD i 0)).length) - X.length=1+(gn a (keep.getD i 0)).length by omega]
   rw [List.take_of_length_le (by omega:X.length≤_),show X.length+1 - X.length=1 by omega]
   unfold gw
   rw [Nat.add_comm 1,List.cons_append,List.take_succ_cons,List.drop_succ_cons,List.drop_zero,List.append_assoc,List.take_append_of_le_length (by simp),List.take_of_length_le (by simp)]
  rw [hr] at hv
  obtain ⟨u,hu,rfl⟩:=List.mem_map.1 hv
  have hgu:=List.all_eq_true.1 (List.all_eq_true.1 hg _ (gR (i:=i) hi)) u hu
  unfold aR
  rw [kg _ _ _ 0 hsort]
  have e3:wh keep (di keep long pinned) u=(pf keep (di keep long pinned) u).getD 0:=rfl
  by_cases h0:u=0
  ·have:wh keep (di keep long pinned) u=0:=by rw [e3]; unfold pf; rw [if_pos h0]; rfl
   rw [this]
   cases pp 0 0 (iJ a keep pinned long) <;> rfl
  ·by_cases h2:dw keep (u - 1)=true
   ·have hp:=AB (cT.1 h2)
    have e4:wh keep (di keep long pinned) u=gE pinned keep long (d9 keep (u - 1)).toNat+1:=by
     rw [e3]
     unfold pf
     rw [if_neg h0,if_pos h2,zp (by omega)]
     rfl
    have hj:(d9 keep (u - 1)).toNat<keep.length:=by omega
    rw [e4]
    have e5:(pp (gE pinned keep long (d9 keep (u - 1)).toNat+1) 0 (iJ a keep pinned long)).isSome=true:=by
     rw [mD,show gE pinned keep long (d9 keep (u - 1)).toNat+1 - 1=gE pinned keep long (d9 keep (u - 1)).toNat by omega,cT]
     exact qj (List.mem_append_left _ (vF (pinned:=pinned) (long:=long) (a:=a) keep.length hj)) (ig (hP.isb _ (gR hj))).2.2.2.2.2
    cases hx:pp (gE pinned keep long (d9 keep (u - 1)).toNat+1) 0 (iJ a keep pinned long) with
    | none=>rw [hx] at e5; cases e5
    | some k=>rfl
   ·unfold pf at hgu
    rw [if_neg h0,if_neg h2] at hgu
    cases hgu
def qP (l:List uT):Int:=(l.map (·.2)).sum
def xg:List aE→Int
 | []=>0
 | s::l=>(if s.2.2.2.2=true then aj s.2 else 0)+xg l
def hH:List aE→Int
 | []=>0
 | s::l=>(if s.2.2.2.2=true then 0 else aj s.2)+hH l
theorem mn (l:List uT) (r:uT):qP (l++[r])=qP l+r.2:=by simp [qP]
theorem yY:∀ (l:List uT) (n:Int),0<l.length→qP (l8 l n)=qP l+n:=by
 intro l n h
 obtain ⟨l',r,rfl⟩:∃ l' r,l=l'++[r]:=by
  refine ⟨l.dropLast,l.getLast (by intro e; rw [e] at h; cases h),?_⟩
  exact (List.dropLast_concat_getLast _).symm
 unfold l8
 have e:(l'++[r]).length - 1=l'.length:=by simp
 have e2:(l'++[r]).getD l'.length (0,0)=r:=by simp
 have e3:∀ x,(l'++[r]).set l'.length x=l'++[x]:=fun x=>by simp
 rw [e,e2,e3,mn,mn]
 simp only
 omega
theorem jp:∀ (l:List aE) (p:Bool) (out:List uT),(p=true→0<out.length)→qP (fe p out l)=qP out+xg l
 | [],_,out,_=>by simp [fe,xg]
 | s::l,p,out,h=>by
  simp only [fe,xg]
  cases hf:s.2.2.2.2
  ·simp only [Bool.false_eq_true,if_false]
   rw [jp l false out (fun h=>by cases h)]
   omega
  ·simp only [if_true]
   cases hp:p
   ·simp only [Bool.false_eq_true,if_false]
    rw [jp l true _ (fun _=>by simp),mn]
    simp only
    omega
   ·simp only [if_true]
    rw [jp l true _ (fun _=>by rw [fy]; exact h hp),yY _ _ (h hp)]
    omega
theorem rY:∀ {l:List aE} {s e:Int},mf s e l→s+xg l+hH l=e
 | [],s,e,h=>by simp only [mf] at h; simp only [xg,hH]; omega
 | x::l,s,e,⟨_,_,h⟩=>by
  have:=rY h
  simp only [xg,hH]
  cases x.2.2.2.2 <;> simp <;> omega
theorem gf:∀ (l k:List aE),hH (l++k)=hH l+hH k
 | [],k=>by simp [hH]
 | s::l,k=>by
  have:=gf l k
  simp only [List.cons_append,hH]
  omega
theorem oP {l:List Int} {n:Nat} (h:n<l.length):l.take (n+1)=l.take n++[l.getD n 0]:=by
 have:=aW (0:Int) (xs:=l) (i:=(n:Int)) (by omega) (by omega)
 simpa using this
theorem vD (hb:∀ x∈keep,isB (aa a).1 x=true):∀ n:Nat,n≤keep.length→hH (nS a keep pinned long n)=((keep.take n).map (d5 (aa a).1)).sum
 | 0,_=>by simp [nS,hH]
 | n+1,h=>by
  have ih:=vD hb n (by omega)
  rw [oP (by omega)]
  simp only [nS]
  rw [gf,gf,ih,List.map_append,List.sum_append]
  have hf:=(ig (hb _ (gR (i:=n) (by omega)))).2.2.2.2.2
  have e1:hH (if bw pinned keep long n<gE pinned keep long n then [ff (bw pinned keep long n) (gE pinned keep long n - bw pinned keep long n)] else [])=0:=by
   split <;> simp [hH,ff]
  have e2:hH [(gE pinned keep long n,iB a (keep.getD n 0))]=d5 (aa a).1 (keep.getD n 0):=by
   simp only [hH,hf]
   simp [d5,iB]
  rw [e1,e2]
  simp
theorem zd (hb:∀ x∈keep,isB (aa a).1 x=true):hH (iJ a keep pinned long)=(keep.map (d5 (aa a).1)).sum:=by
 unfold iJ
 rw [gf,vD hb _ (Nat.le_refl _),List.take_length]
 have:hH (if bw pinned keep long keep.length<(a.length:Int) then [ff (bw pinned keep long keep.length) ((a.length:Int) - bw pinned keep long keep.length)] else [])=0:=by
  split <;> simp [hH,ff]
 omega
end
theorem AW {b:List Int} (h:(aa b).2=0):qP (fe false [] (aa b).1)+hH (aa b).1=b.length:=by
 have:=rY (hI h)
 rw [jp _ _ _ (fun h=>by cases h)]
 simp only [qP,List.map_nil,List.sum_nil]
 omega
end Go.Proofs.Ytcnoiiohmpgckaa
