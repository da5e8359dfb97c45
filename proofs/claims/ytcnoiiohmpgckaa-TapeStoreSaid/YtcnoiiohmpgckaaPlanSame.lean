
import Derived.Test.YtcnoiiohmpgckaaPlan
namespace Go.Proofs.Ytcnoiiohmpgckaa
open Go
set_option maxRecDepth 100000
set_option maxHeartbeats 1000000
theorem j7:∀ {l:List aE} {s e:Int},mf s e l→∀ x∈l,s≤x.1∧1≤aj x.2
 | [],_,_,_,x,h=>by cases h
 | y::l,s,e,⟨h1,h2,h3⟩,x,h=>by
  rcases List.mem_cons.1 h with rfl | h
  ·omega
  ·have:=j7 h3 x h
   omega
theorem oM:∀ {l:List aE} {s e:Int},mf s e l→∀ x∈l,∀ y∈l,x.1<y.1→x.1+aj x.2≤y.1
 | [],_,_,_,x,h,_,_,_=>by cases h
 | z::l,s,e,⟨h1,h2,h3⟩,x,hx,y,hy,hlt=>by
  rcases List.mem_cons.1 hx with hx1 | hx1 <;> rcases List.mem_cons.1 hy with hy1 | hy1
  ·subst hx1; subst hy1; omega
  ·have:=j7 h3 y hy1
   subst hx1; omega
  ·have:=j7 h3 x hx1
   subst hy1; omega
  ·exact oM h3 x hx1 y hy1 hlt
theorem Ak {pinned keep long:List Int} {i:Nat} (hle:bw pinned keep long i≤keep.getD i 0):bw pinned keep long i≤gE pinned keep long i∧gE pinned keep long i≤keep.getD i 0:=by
 unfold gE
 split <;> omega
theorem yN {pinned keep long:List Int} {N:Int} (hp:n7 keep long) (hd:∀ i:Nat,i+1<keep.length→keep.getD i 0+long.getD i 0≤keep.getD (i+1) 0) (hN:∀ i:Nat,i<keep.length→keep.getD i 0+long.getD i 0≤N) :
  ∀ i:Nat,i<keep.length→bw pinned keep long i≤keep.getD i 0
 | 0,hi=>by
  have:=hp.2.2.1 _ (aU (0:Int) (xs:=keep) (i:=(0:Nat)) (by omega) (by omega))
  simp only [Int.toNat_natCast] at this
  simp only [bw]
  omega
 | i+1,hi=>by
  have ih:=yN (pinned:=pinned) hp hd hN i (by omega)
  have h1:=Ak ih
  have h2:=hd i hi
  have e:bw pinned keep long (i+1)=gE pinned keep long i+long.getD i 0:=rfl
  rw [e]
  omega
theorem zI {a keep pinned:List Int} (h:(dg a keep pinned).2=0):(∀ i:Nat,i+1<keep.length→keep.getD i 0+(keep.map (d5 (aa a).1)).getD i 0≤keep.getD (i+1) 0)∧∀ i:Nat,i<keep.length→keep.getD i 0+(keep.map (d5 (aa a).1)).getD i 0≤(a.length:Int):=by
 obtain ⟨h1,h2,_,h4,_,_⟩:=pK h
 have hG:∀ k:Nat,k<keep.length→(keep.map (d5 (aa a).1)).getD k 0=d5 (aa a).1 (keep.getD k 0):=by
  intro k hk
  rw [List.getD_eq_getElem?_getD,List.getElem?_map,List.getD_eq_getElem?_getD,List.getElem?_eq_getElem hk]
  rfl
 obtain ⟨_,_,hs3,hs4,_,_,_⟩:=dE h1
 have ht:=hI hs4
 have hm:∀ i:Nat,i<keep.length→keep.getD i 0∈keep:=fun i hi=>by
  have:=aU (0:Int) (xs:=keep) (i:=i) (by omega) (by omega)
  simpa only [Int.toNat_natCast] using this
 refine ⟨fun i hi=>?_,fun i hi=>?_⟩
 ·rw [hG i (by omega)]
  obtain ⟨s,s1,s2,_,s4⟩:=pR (h4 _ (hm i (by omega)))
  obtain ⟨t,t1,t2,_,_⟩:=pR (h4 _ (hm (i+1) hi))
  have hlt:keep.getD i 0<keep.getD (i+1) 0:=by
   have hp:=List.pairwise_iff_getElem.1 (dS h2) i (i+1) (by omega) hi (by omega)
   rw [List.getD_eq_getElem?_getD,List.getElem?_eq_getElem (by omega),List.getD_eq_getElem?_getD,List.getElem?_eq_getElem hi]
   exact hp
  rw [s4,← s2,← t2]
  exact oM ht s s1 t t1 (by omega)
 ·rw [hG i hi]
  obtain ⟨s,s1,s2,_,s4⟩:=pR (h4 _ (hm i hi))
  obtain ⟨_,hin,hh⟩:=eD a s s1
  have hz:=bP hh
  rw [s4,← s2]
  unfold cm at hin
  unfold aj
  omega
end Go.Proofs.Ytcnoiiohmpgckaa
