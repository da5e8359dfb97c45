
import Derived.Test.YtglchojglcobjaaGreatPlan
namespace Go.Proofs.YtglchojglcobjaaGreat
open Go
set_option maxRecDepth 100000
set_option maxHeartbeats 1000000
theorem mz:∀ {l:List aw} {s e:Int},eK s e l→∀ x∈l,s≤x.1∧1≤ab x.2
 | [],_,_,_,x,h=>by cases h
 | y::l,s,e,⟨h1,h2,h3⟩,x,h=>by
  rcases List.mem_cons.1 h with rfl | h
  ·omega
  ·have:=mz h3 x h
   omega
theorem rv:∀ {l:List aw} {s e:Int},eK s e l→∀ x∈l,∀ y∈l,x.1<y.1→x.1+ab x.2≤y.1
 | [],_,_,_,x,h,_,_,_=>by cases h
 | z::l,s,e,⟨h1,h2,h3⟩,x,hx,y,hy,hlt=>by
  rcases List.mem_cons.1 hx with hx1 | hx1 <;> rcases List.mem_cons.1 hy with hy1 | hy1
  ·subst hx1; subst hy1; omega
  ·have:=mz h3 y hy1
   subst hx1; omega
  ·have:=mz h3 x hx1
   subst hy1; omega
  ·exact rv h3 x hx1 y hy1 hlt
theorem zj (f:Int→Bool) {n m:Nat} {k:Int} {out:List bK} (hn:0<n) (hk:0≤k) (hp:k=0∨f (k - 1)=false) (h:∀ i,k≤i→i<k+n→f i=true) :
  bb f (n+m) k out=bb f m (k+n) (out++[(k,(n:Int))]):=by
 obtain ⟨n,rfl⟩:∃ j,n=j+1:=⟨n - 1,by omega⟩
 rw [show n+1+m=(n+m)+1 by omega]
 simp only [bb]
 have e:(decide (0<k)&&f (k - 1))=false:=by
  rcases hp with rfl | hp
  ·simp
  ·rw [hp]; simp
 rw [if_pos (h k (by omega) (by omega)),e,if_neg (by simp)]
 rw [oP f n m (k+1) _ (by simp) (by omega) (fun i h1 h2=>h i (by omega) (by omega))]
 rw [show k+1+(n:Int)=k+((n+1:Nat):Int) by omega]
 congr 1
 by_cases hz:n=0
 ·subst hz; simp
 ·rw [if_neg hz,pq]
  congr 3
  omega
theorem Bl {pinned keep long:List Int} {i:Nat} (hle:aW pinned keep long i≤keep.getD i 0):aW pinned keep long i≤cB pinned keep long i∧cB pinned keep long i≤keep.getD i 0:=by
 unfold cB
 split <;> omega
theorem x7 {pinned keep long:List Int} {N:Int} (hp:dm keep long) (hd:∀ i:Nat,i+1<keep.length→keep.getD i 0+long.getD i 0≤keep.getD (i+1) 0) (hN:∀ i:Nat,i<keep.length→keep.getD i 0+long.getD i 0≤N) :
  ∀ i:Nat,i<keep.length→aW pinned keep long i≤keep.getD i 0
 | 0,hi=>by
  have:=hp.2.2.1 _ (aD (0:Int) (xs:=keep) (i:=(0:Nat)) (by omega) (by omega))
  simp only [Int.toNat_natCast] at this
  simp only [aW]
  omega
 | i+1,hi=>by
  have ih:=x7 (pinned:=pinned) hp hd hN i (by omega)
  have h1:=Bl ih
  have h2:=hd i hi
  have e:aW pinned keep long (i+1)=cB pinned keep long i+long.getD i 0:=rfl
  rw [e]
  omega
theorem Ex {pinned keep long:List Int} {n:Nat} {f:Int→Bool} (hp:dm keep long) (hd:∀ i:Nat,i+1<keep.length→keep.getD i 0+long.getD i 0≤keep.getD (i+1) 0) (hN:∀ i:Nat,i<keep.length→keep.getD i 0+long.getD i 0≤(n:Int))
  (hf:∀ k,f k=!((List.range keep.length).any fun i=>decide (cB pinned keep long i≤k)&&decide (k<cB pinned keep long i+long.getD i 0))):bb f n 0 []=bI n keep long pinned:=by
 have hE:∀ i:Nat,aW pinned keep long (i+1)=cB pinned keep long i+long.getD i 0:=fun _=>rfl
 have hle:=x7 (pinned:=pinned) hp hd hN
 have hpos:∀ i:Nat,i<keep.length→1≤long.getD i 0:=fun i hi=>by
  have:=hp.2.2.2 _ (aD (0:Int) (xs:=long) (i:=i) (by omega) (by have:=hp.1; omega))
  simp only [Int.toNat_natCast] at this
  exact this.1
 have hto:∀ i:Nat,i<keep.length→aW pinned keep long i≤cB pinned keep long i∧cB pinned keep long i+long.getD i 0≤(n:Int):=fun i hi=>by
  have h1:=Bl (hle i hi)
  have h2:=hN i hi
  omega
 have mono:∀ j i:Nat,i≤j→j≤keep.length→aW pinned keep long i≤aW pinned keep long j:=by
  intro j
  induction j with
  | zero=>intro i h1 _; rw [show i=0 by omega]; exact Int.le_refl _
  | succ j ih =>
   intro i h1 h2
   by_cases e:i=j+1
   ·rw [e]; exact Int.le_refl _
   ·have:=ih i (by omega) (by omega)
    have h3:=hto j (by omega)
    have h4:=hpos j (by omega)
    rw [hE]
    omega
 have h0:∀ i,i≤keep.length→0≤aW pinned keep long i:=fun i hi=>(bR pinned hp i hi).1
 have hen:∀ i,i≤keep.length→aW pinned keep long i≤(n:Int):=by
  intro i hi
  cases i with
  | zero=>simp [aW]
  | succ i=>have:=hto i (by omega); rw [hE]; omega
 have cov:∀ (i:Nat) (k:Int),i<keep.length→cB pinned keep long i≤k→k<cB pinned keep long i+long.getD i 0→f k=false:=by
  intro i k hi h1 h2
  rw [hf]
  have:((List.range keep.length).any fun i=>decide (cB pinned keep long i≤k)&&decide (k<cB pinned keep long i+long.getD i 0))=true:=List.any_eq_true.2 ⟨i,List.mem_range.2 hi,by simp only [decide_eq_true h1,decide_eq_true h2,Bool.and_self]⟩
  rw [this]
  rfl
 have free:∀ (i:Nat) (k:Int),i≤keep.length→aW pinned keep long i≤k→(i<keep.length→k<cB pinned keep long i)→f k=true:=by
  intro i k hi h1 h2
  rw [hf]
  have:((List.range keep.length).any fun i=>decide (cB pinned keep long i≤k)&&decide (k<cB pinned keep long i+long.getD i 0))=false:=by
   rw [List.any_eq_false]
   intro j hj
   have hj:=List.mem_range.1 hj
   simp only [Bool.and_eq_true,decide_eq_true_eq,not_and]
   intro h3 h4
   rcases Nat.lt_or_ge j i with hji | hji
   ·have:=mono i (j+1) (by omega) hi
    rw [hE] at this
    omega
   ·have h5:=h2 (by omega)
    by_cases e:j=i
    ·subst e; omega
    ·have h6:=mono j (i+1) (by omega) (by omega)
     have h7:=hto j hj
     have h8:=hpos i (by omega)
     rw [hE] at h6
     omega
  rw [this]
  rfl
 have prev:∀ i:Nat,i≤keep.length→aW pinned keep long i=0∨f (aW pinned keep long i - 1)=false:=by
  intro i hi
  cases i with
  | zero=>exact .inl rfl
  | succ i =>
   right
   have h4:=hpos i (by omega)
   rw [hE]
   exact cov i _ (by omega) (by omega) (by omega)
 have main:∀ i:Nat,i≤keep.length→bb f n 0 []=bb f ((n:Int) - aW pinned keep long i).toNat (aW pinned keep long i) (eo pinned keep long i):=by
  intro i
  induction i with
  | zero=>intro _; simp [aW,eo]
  | succ i ih =>
   intro hi
   rw [ih (by omega)]
   have h1:=hto i (by omega)
   have h2:=hpos i (by omega)
   have h3:=h0 i (by omega)
   have hG:eo pinned keep long (i+1)=eo pinned keep long i++(if aW pinned keep long i<cB pinned keep long i then [(aW pinned keep long i,cB pinned keep long i - aW pinned keep long i)] else []):=rfl
   have fr:=free i
   have cv:=fun k=>cov i k (by omega)
   have pv:=prev i (by omega)
   rw [hG,hE]
   generalize aW pinned keep long i=e at *
   generalize cB pinned keep long i=t at *
   generalize long.getD i 0=L at *
   obtain ⟨g,hg⟩:=Int.eq_ofNat_of_zero_le (show 0≤t - e by omega)
   obtain ⟨l,hl⟩:=Int.eq_ofNat_of_zero_le (show 0≤L by omega)
   obtain ⟨r,hr⟩:=Int.eq_ofNat_of_zero_le (show 0≤(n:Int) - (t+L) by omega)
   rw [show ((n:Int) - e).toNat=g+(l+r) by omega,show ((n:Int) - (t+L)).toNat=r by omega]
   have second:∀ out,bb f (l+r) t out=bb f r (t+L) out:=fun out=>by
    rw [oQ f l r t out (fun k k0 k1=>cv k k0 (by omega)),← hl]
   by_cases hgt:e<t
   ·rw [if_pos hgt,zj f (by omega) h3 pv (fun k k0 k1=>fr k (by omega) k0 (fun _=>by omega)),← hg,show e+(t - e)=t by omega]
    exact second _
   ·rw [if_neg hgt,List.append_nil,show g=0 by omega,Nat.zero_add,show e=t by omega]
    exact second _
 rw [main keep.length (Nat.le_refl _)]
 unfold bI
 have h1:=hen keep.length (Nat.le_refl _)
 have h3:=h0 keep.length (Nat.le_refl _)
 have fr:=free keep.length
 have pv:=prev keep.length (Nat.le_refl _)
 generalize aW pinned keep long keep.length=e at *
 by_cases hgt:e<(n:Int)
 ·obtain ⟨g,hg⟩:=Int.eq_ofNat_of_zero_le (show 0≤(n:Int) - e by omega)
  rw [if_pos hgt,show ((n:Int) - e).toNat=g+0 by omega,zj f (by omega) h3 pv (fun k k0 k1=>fr k (Nat.le_refl _) k0 (fun h=>absurd h (Nat.lt_irrefl _))),hg]
  rfl
 ·rw [if_neg hgt,List.append_nil,show ((n:Int) - e).toNat=0 by omega]
  rfl
theorem vP {a keep pinned:List Int} (h:(ai a keep pinned).2=0):(∀ i:Nat,i+1<keep.length→keep.getD i 0+(keep.map (ax (aa a).1)).getD i 0≤keep.getD (i+1) 0)∧∀ i:Nat,i<keep.length→keep.getD i 0+(keep.map (ax (aa a).1)).getD i 0≤(a.length:Int):=by
 obtain ⟨h1,h2,_,h4,_,_⟩:=kL h
 have hG:∀ k:Nat,k<keep.length→(keep.map (ax (aa a).1)).getD k 0=ax (aa a).1 (keep.getD k 0):=by
  intro k hk
  rw [List.getD_eq_getElem?_getD,List.getElem?_map,List.getD_eq_getElem?_getD,List.getElem?_eq_getElem hk]
  rfl
 obtain ⟨_,_,hs3,hs4,_,_,_⟩:=bO h1
 have ht:=fY hs4
 have hm:∀ i:Nat,i<keep.length→keep.getD i 0∈keep:=fun i hi=>by
  have:=aD (0:Int) (xs:=keep) (i:=i) (by omega) (by omega)
  simpa only [Int.toNat_natCast] using this
 refine ⟨fun i hi=>?_,fun i hi=>?_⟩
 ·rw [hG i (by omega)]
  obtain ⟨s,s1,s2,_,s4⟩:=sL (h4 _ (hm i (by omega)))
  obtain ⟨t,t1,t2,_,_⟩:=sL (h4 _ (hm (i+1) hi))
  have hlt:keep.getD i 0<keep.getD (i+1) 0:=by
   have hp:=List.pairwise_iff_getElem.1 (fE h2) i (i+1) (by omega) hi (by omega)
   rw [List.getD_eq_getElem?_getD,List.getElem?_eq_getElem (by omega),List.getD_eq_getElem?_getD,List.getElem?_eq_getElem hi]
   exact hp
  rw [s4,← s2,← t2]
  exact rv ht s s1 t t1 (by omega)
 ·rw [hG i hi]
  obtain ⟨s,s1,s2,_,s4⟩:=sL (h4 _ (hm i hi))
  obtain ⟨_,hin,hh⟩:=dc a s s1
  have hz:=a8 hh
  rw [s4,← s2]
  unfold bX at hin
  unfold ab
  omega
end Go.Proofs.YtglchojglcobjaaGreat
