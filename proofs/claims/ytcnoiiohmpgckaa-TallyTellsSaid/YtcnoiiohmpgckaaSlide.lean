
import Derived.Test.YtcnoiiohmpgckaaPlanSame
namespace Go.Proofs.Ytcnoiiohmpgckaa
open Go
set_option maxRecDepth 100000
set_option maxHeartbeats 1000000
theorem pN (at_:Int) (l:List Int) (r:List aH) (h:spotsS at_ l=some r):∀ s∈r,at_≤s.1∧s.2=aq (l.getD (s.1 - at_).toNat 0)∧ak (l.getD (s.1 - at_).toNat 0)=true:=by
 induction at_,l using spotsS.induct generalizing r with
 | case1 at_ =>
  simp only [spotsS,Option.some.injEq] at h
  subst h
  simp
 | case2 at_ v l hv ih =>
  rw [dv hv.1 hv.2] at h
  obtain ⟨r',hr,rfl⟩:=Option.map_eq_some_iff.1 h
  have hl:=cS hv.1
  intro s hs
  rcases List.mem_cons.1 hs with rfl | hs
  ·simp only [Int.sub_self]
   exact ⟨Int.le_refl _,rfl,hv.1⟩
  ·obtain ⟨h1,h2,h3⟩:=ih r' hr s hs
   have e:((v::l).drop (ar (aq v)).toNat).getD (s.1 - (at_+ar (aq v))).toNat 0=(v::l).getD (s.1 - at_).toNat 0:=by
    rw [List.getD_eq_getElem?_getD,List.getElem?_drop,List.getD_eq_getElem?_getD]
    congr 2
    omega
   rw [e] at h2 h3
   exact ⟨by omega,h2,h3⟩
 | case3 at_ v l hv =>
  rw [cP hv] at h
  cases h
theorem pO {a:List Int}:∀ s∈(aa a).1,s.2=aq (a.getD s.1.toNat 0)∧ak (a.getD s.1.toNat 0)=true:=by
 unfold aa
 split
 ·intro s hs; cases hs
 ·cases h:spotsS 0 a with
  | none=>intro s hs; cases hs
  | some l =>
   intro s hs
   have:=pN 0 a l h s hs
   rw [Int.sub_zero] at this
   exact this.2
def mG (a:List Int) (at_:Int):eU:=(ac at_ (aa a).1).1
def ch (a:List Int) (at_:Int):List Int:=aD a (at_,mG a at_)
def vH (a:List Int) (at_:Int):List Int:=pP a (at_,mG a at_)
theorem er {a:List Int} {at_:Int} (h:isB (aa a).1 at_=true):(at_,mG a at_)∈(aa a).1∧c9 a (at_,mG a at_)∧af (mG a at_)=0∧mG a at_=aq (a.getD at_.toNat 0)∧ak (a.getD at_.toNat 0)=true∧(mG a at_).2.2.2=false:=by
 unfold isB mG at *
 rcases fS at_ (aa a).1 with e | ⟨s,h1,h2,h3,e⟩
 ·rw [e] at h; cases h
 ·rw [e]
  have e2:(at_,s.2)=s:=by rw [← h2]
  rw [e2]
  obtain ⟨_,k2,k3⟩:=eM a s h1
  obtain ⟨k4,k5⟩:=pO s h1
  rw [h2] at k4 k5
  exact ⟨h1,k2,k3,k4,k5,h3⟩
theorem ef {a:List Int} {at_:Int} (h:isB (aa a).1 at_=true):((ch a at_).length:Int)=(mG a at_).1∧((vH a at_).length:Int)=(mG a at_).2.1∧0≤at_∧at_+1+(mG a at_).1+(mG a at_).2.1≤a.length∧0≤(mG a at_).1∧0≤(mG a at_).2.1:=by
 obtain ⟨_,k2,_⟩:=er h
 unfold c9 at k2
 simp only at k2
 refine ⟨?_,?_,by omega,by omega,by omega,by omega⟩
 ·unfold ch aD
  rw [List.length_drop,List.length_take]
  simp only
  omega
 ·unfold vH pP
  rw [List.length_drop,List.length_take]
  simp only
  omega
structure Plan (a keep pinned long:List Int):Prop where
 chk:(ao a).2.2=0
 al:a.length≤256
 isb:∀ x∈keep,isB (aa a).1 x=true
 pre:u7 keep long
 lg:∀ i:Nat,i<keep.length→long.getD i 0=1+(mG a (keep.getD i 0)).1+(mG a (keep.getD i 0)).2.1
 le:∀ i:Nat,i<keep.length→vp pinned keep long i≤wt pinned keep long i∧wt pinned keep long i+long.getD i 0≤(a.length:Int)
 en:vp pinned keep long keep.length≤(a.length:Int)
 rs:keep.Pairwise (·<·)
end Go.Proofs.Ytcnoiiohmpgckaa
