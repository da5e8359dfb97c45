
import Derived.Test.YtcnoiiohmpgckaaPlanSame
namespace Go.Proofs.Ytcnoiiohmpgckaa
open Go
set_option maxRecDepth 100000
set_option maxHeartbeats 1000000
theorem vk (at_:Int) (l:List Int) (r:List aE) (h:spotsS at_ l=some r):∀ s∈r,at_≤s.1∧s.2=au (l.getD (s.1 - at_).toNat 0)∧aq (l.getD (s.1 - at_).toNat 0)=true:=by
 induction at_,l using spotsS.induct generalizing r with
 | case1 at_ =>
  simp only [spotsS,Option.some.injEq] at h
  subst h
  simp
 | case2 at_ v l hv ih =>
  rw [cP hv.1 hv.2] at h
  obtain ⟨r',hr,rfl⟩:=Option.map_eq_some_iff.1 h
  have hl:=cR hv.1
  intro s hs
  rcases List.mem_cons.1 hs with rfl | hs
  ·simp only [Int.sub_self]
   exact ⟨Int.le_refl _,rfl,hv.1⟩
  ·obtain ⟨h1,h2,h3⟩:=ih r' hr s hs
   have e:((v::l).drop (aj (au v)).toNat).getD (s.1 - (at_+aj (au v))).toNat 0=(v::l).getD (s.1 - at_).toNat 0:=by
    rw [List.getD_eq_getElem?_getD,List.getElem?_drop,List.getD_eq_getElem?_getD]
    congr 2
    omega
   rw [e] at h2 h3
   exact ⟨by omega,h2,h3⟩
 | case3 at_ v l hv =>
  rw [cO hv] at h
  cases h
theorem vl {a:List Int}:∀ s∈(aa a).1,s.2=au (a.getD s.1.toNat 0)∧aq (a.getD s.1.toNat 0)=true:=by
 unfold aa
 split
 ·intro s hs; cases hs
 ·cases h:spotsS 0 a with
  | none=>intro s hs; cases hs
  | some l =>
   intro s hs
   have:=vk 0 a l h s hs
   rw [Int.sub_zero] at this
   exact this.2
def iB (a:List Int) (at_:Int):iu:=(an at_ (aa a).1).1
def gn (a:List Int) (at_:Int):List Int:=aw a (at_,iB a at_)
def Bl (a:List Int) (at_:Int):List Int:=iG a (at_,iB a at_)
theorem ig {a:List Int} {at_:Int} (h:isB (aa a).1 at_=true):(at_,iB a at_)∈(aa a).1∧cm a (at_,iB a at_)∧ap (iB a at_)=0∧iB a at_=au (a.getD at_.toNat 0)∧aq (a.getD at_.toNat 0)=true∧(iB a at_).2.2.2=false:=by
 unfold isB iB at *
 rcases fQ at_ (aa a).1 with e | ⟨s,h1,h2,h3,e⟩
 ·rw [e] at h; cases h
 ·rw [e]
  have e2:(at_,s.2)=s:=by rw [← h2]
  rw [e2]
  obtain ⟨_,k2,k3⟩:=eD a s h1
  obtain ⟨k4,k5⟩:=vl s h1
  rw [h2] at k4 k5
  exact ⟨h1,k2,k3,k4,k5,h3⟩
theorem ny {a:List Int} {at_:Int} (h:isB (aa a).1 at_=true):((gn a at_).length:Int)=(iB a at_).1∧((Bl a at_).length:Int)=(iB a at_).2.1∧0≤at_∧at_+1+(iB a at_).1+(iB a at_).2.1≤a.length∧0≤(iB a at_).1∧0≤(iB a at_).2.1:=by
 obtain ⟨_,k2,_⟩:=ig h
 unfold cm at k2
 simp only at k2
 refine ⟨?_,?_,by omega,by omega,by omega,by omega⟩
 ·unfold gn aw
  rw [List.length_drop,List.length_take]
  simp only
  omega
 ·unfold Bl iG
  rw [List.length_drop,List.length_take]
  simp only
  omega
def pf (keep to:List Int) (v:Int):Option Int:=if v=0 then some 0 else if dw keep (v - 1)=true then some (to.getD (d9 keep (v - 1)).toNat 0+1) else none
def wh (keep to:List Int) (v:Int):Int:=(pf keep to v).getD 0
def ws (keep to l:List Int):Bool:=l.all fun v=>(pf keep to v).isSome
def gw (a keep to:List Int) (at_:Int):List Int:=a.getD at_.toNat 0::((gn a at_).map (wh keep to)++Bl a at_)
def Ci (pinned keep long:List Int) (i:Nat):List Int:=List.replicate (gE pinned keep long i - bw pinned keep long i).toNat 0
def mt (a keep to pinned long:List Int):Nat→List Int
 | 0=>[]
 | i+1=>mt a keep to pinned long i++(Ci pinned keep long i++gw a keep to (keep.getD i 0))
def ob (w:List Int) (r:uT):List Int:=w.set r.1.toNat (ep (0,r.2 - 1,0,true))
def kN (a keep to pinned long:List Int) (g:List uT):List Int :=
 g.foldl ob (mt a keep to pinned long keep.length++List.replicate ((a.length:Int) - bw pinned keep long keep.length).toNat 0)
def xq (a keep pinned:List Int):List Int×List Int×Int :=
 if (dg a keep pinned).2≠0 then ([],[],(dg a keep pinned).2)
 else if (keep.all fun at_=>ws keep (di keep (dg a keep pinned).1 pinned) (gn a at_))=true then
  (kN a keep (di keep (dg a keep pinned).1 pinned) pinned (dg a keep pinned).1 (dy a.length keep (dg a keep pinned).1 pinned),di keep (dg a keep pinned).1 pinned,0)
 else ([],[],8)
structure Plan (a keep pinned long:List Int):Prop where
 chk:(ah a).2.2=0
 al:a.length≤256
 isb:∀ x∈keep,isB (aa a).1 x=true
 pre:n7 keep long
 lg:∀ i:Nat,i<keep.length→long.getD i 0=1+(iB a (keep.getD i 0)).1+(iB a (keep.getD i 0)).2.1
 le:∀ i:Nat,i<keep.length→bw pinned keep long i≤gE pinned keep long i∧gE pinned keep long i+long.getD i 0≤(a.length:Int)
 en:bw pinned keep long keep.length≤(a.length:Int)
 rs:keep.Pairwise (·<·)
theorem BB {a keep pinned:List Int} (h:(dg a keep pinned).2=0):Plan a keep pinned (dg a keep pinned).1:=by
 obtain ⟨k1,k2,_,k4,_,k6⟩:=pK h
 obtain ⟨d1,d2⟩:=zI h
 have hp:=zE h
 rw [k6] at hp ⊢
 have hG:∀ k:Nat,k<keep.length→(keep.map (d5 (aa a).1)).getD k 0=d5 (aa a).1 (keep.getD k 0):=by
  intro k hk
  rw [List.getD_eq_getElem?_getD,List.getElem?_map,List.getD_eq_getElem?_getD,List.getElem?_eq_getElem hk]
  rfl
 have hle:=yN (pinned:=pinned) hp d1 d2
 have hto:∀ i:Nat,i<keep.length→bw pinned keep (keep.map (d5 (aa a).1)) i≤gE pinned keep (keep.map (d5 (aa a).1)) i∧gE pinned keep (keep.map (d5 (aa a).1)) i+(keep.map (d5 (aa a).1)).getD i 0≤(a.length:Int):=fun i hi=>by
  have h1:=Ak (hle i hi)
  have h2:=d2 i hi
  omega
 refine ⟨k1,(dE k1).1,k4,hp,fun i hi=>by rw [hG i hi]; rfl,hto,?_,dS k2⟩
 cases hn:keep.length with
 | zero=>simp [bw]
 | succ n =>
  have:=hto n (by omega)
  show gE pinned keep (keep.map (d5 (aa a).1)) n+(keep.map (d5 (aa a).1)).getD n 0≤_
  exact this.2
theorem jS {a keep to:List Int} {at_:Int} (h:isB (aa a).1 at_=true):((gw a keep to at_).length:Int)=1+(iB a at_).1+(iB a at_).2.1:=by
 obtain ⟨l1,l2,_⟩:=ny h
 unfold gw
 simp only [List.length_cons,List.length_append,List.length_map]
 omega
theorem gR {keep:List Int} {i:Nat} (h:i<keep.length):keep.getD i 0∈keep:=by
 have:=aU (0:Int) (xs:=keep) (i:=i) (by omega) (by omega)
 simpa only [Int.toNat_natCast] using this
theorem yp {A B:List Int} {x:Int} (y:Int) {n:Nat} (h:n=A.length):(A++x::B).set n y=A++y::B:=by
 rw [h,List.set_append_right _ _ (Nat.le_refl _)]
 simp
end Go.Proofs.Ytcnoiiohmpgckaa
