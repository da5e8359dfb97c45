
import Derived.Test.YtglchojglcobjaaGreatPlanSame
namespace Go.Proofs.YtglchojglcobjaaGreat
open Go
set_option maxRecDepth 100000
set_option maxHeartbeats 1000000
theorem headWord_headOf {v:Int} (h:isHead v=true) (h0:0≤v):headWord (headOf v)=v:=by
 simp only [isHead,Bool.and_eq_true,decide_eq_true_eq] at h
 have h1:=h.1
 have e:headWord (headOf v)=v % 65536+65536 * (v / 65536 % 65536)+4294967296 * (v / 4294967296 % 65536)+(if v / 281474976710656=1 then 281474976710656 else 0):=by
  unfold headWord headOf
  by_cases hc:v / 281474976710656=1 <;> simp [hc]
 rw [e]
 split <;> omega
theorem spotsS_head (at_:Int) (l:List Int) (r:List Spot) (h:spotsS at_ l=some r):∀ s∈r,at_≤s.1∧s.2=headOf (l.getD (s.1 - at_).toNat 0)∧isHead (l.getD (s.1 - at_).toNat 0)=true:=by
 induction at_,l using spotsS.induct generalizing r with
 | case1 at_ =>
  simp only [spotsS,Option.some.injEq] at h
  subst h
  simp
 | case2 at_ v l hv ih =>
  rw [spotsS_cons hv.1 hv.2] at h
  obtain ⟨r',hr,rfl⟩:=Option.map_eq_some_iff.1 h
  have hl:=isHead_long hv.1
  intro s hs
  rcases List.mem_cons.1 hs with rfl | hs
  ·simp only [Int.sub_self]
   exact ⟨Int.le_refl _,rfl,hv.1⟩
  ·obtain ⟨h1,h2,h3⟩:=ih r' hr s hs
   have e:((v::l).drop (headLong (headOf v)).toNat).getD (s.1 - (at_+headLong (headOf v))).toNat 0=(v::l).getD (s.1 - at_).toNat 0:=by
    rw [List.getD_eq_getElem?_getD,List.getElem?_drop,List.getD_eq_getElem?_getD]
    congr 2
    omega
   rw [e] at h2 h3
   exact ⟨by omega,h2,h3⟩
 | case3 at_ v l hv =>
  rw [spotsS_none hv] at h
  cases h
theorem spotsF_head {a:List Int}:∀ s∈(spotsF a).1,s.2=headOf (a.getD s.1.toNat 0)∧isHead (a.getD s.1.toNat 0)=true:=by
 unfold spotsF
 split
 ·intro s hs; cases hs
 ·cases h:spotsS 0 a with
  | none=>intro s hs; cases hs
  | some l =>
   intro s hs
   have:=spotsS_head 0 a l h s hs
   rw [Int.sub_zero] at this
   exact this.2
def hdA (a:List Int) (at_:Int):Head:=(headAtL at_ (spotsF a).1).1
def refsA (a:List Int) (at_:Int):List Int:=spotRefs a (at_,hdA a at_)
def bodyA (a:List Int) (at_:Int):List Int:=spotBody a (at_,hdA a at_)
theorem objA_in {a:List Int} {at_:Int} (h:isB (spotsF a).1 at_=true):(at_,hdA a at_)∈(spotsF a).1∧spotIn a (at_,hdA a at_)∧headFault (hdA a at_)=0∧hdA a at_=headOf (a.getD at_.toNat 0)∧isHead (a.getD at_.toNat 0)=true∧(hdA a at_).2.2.2=false:=by
 unfold isB hdA at *
 rcases headAtL_in at_ (spotsF a).1 with e | ⟨s,h1,h2,h3,e⟩
 ·rw [e] at h; cases h
 ·rw [e]
  have e2:(at_,s.2)=s:=by rw [← h2]
  rw [e2]
  obtain ⟨_,k2,k3⟩:=spotsF_in2 a s h1
  obtain ⟨k4,k5⟩:=spotsF_head s h1
  rw [h2] at k4 k5
  exact ⟨h1,k2,k3,k4,k5,h3⟩
theorem objA_length {a:List Int} {at_:Int} (h:isB (spotsF a).1 at_=true):((refsA a at_).length:Int)=(hdA a at_).1∧((bodyA a at_).length:Int)=(hdA a at_).2.1∧0≤at_∧at_+1+(hdA a at_).1+(hdA a at_).2.1≤a.length∧0≤(hdA a at_).1∧0≤(hdA a at_).2.1:=by
 obtain ⟨_,k2,_⟩:=objA_in h
 unfold spotIn at k2
 simp only at k2
 refine ⟨?_,?_,by omega,by omega,by omega,by omega⟩
 ·unfold refsA spotRefs
  rw [List.length_drop,List.length_take]
  simp only
  omega
 ·unfold bodyA spotBody
  rw [List.length_drop,List.length_take]
  simp only
  omega
def refTo (keep to:List Int) (v:Int):Option Int:=if v=0 then some 0 else if inL keep (v - 1)=true then some (to.getD (place keep (v - 1)).toNat 0+1) else none
def mapTo (keep to:List Int) (v:Int):Int:=(refTo keep to v).getD 0
def goodR (keep to l:List Int):Bool:=l.all fun v=>(refTo keep to v).isSome
def pieceW (a keep to:List Int) (at_:Int):List Int:=a.getD at_.toNat 0::((refsA a at_).map (mapTo keep to)++bodyA a at_)
def gapW (pinned keep long:List Int) (i:Nat):List Int:=List.replicate (toS pinned keep long i - endS pinned keep long i).toNat 0
def slidUp (a keep to pinned long:List Int):Nat→List Int
 | 0=>[]
 | i+1=>slidUp a keep to pinned long i++(gapW pinned keep long i++pieceW a keep to (keep.getD i 0))
def freeSet (w:List Int) (r:Gap):List Int:=w.set r.1.toNat (headWord (0,r.2 - 1,0,true))
def slidW (a keep to pinned long:List Int) (g:List Gap):List Int :=
 g.foldl freeSet (slidUp a keep to pinned long keep.length++List.replicate ((a.length:Int) - endS pinned keep long keep.length).toNat 0)
def slideF (a keep pinned:List Int):List Int×List Int×Int :=
 if (longsF a keep pinned).2≠0 then ([],[],(longsF a keep pinned).2)
 else if (keep.all fun at_=>goodR keep (planS keep (longsF a keep pinned).1 pinned) (refsA a at_))=true then
  (slidW a keep (planS keep (longsF a keep pinned).1 pinned) pinned (longsF a keep pinned).1 (planGapsL a.length keep (longsF a keep pinned).1 pinned),planS keep (longsF a keep pinned).1 pinned,0)
 else ([],[],8)
structure Plan (a keep pinned long:List Int):Prop where
 chk:(checkF a).2.2=0
 al:a.length≤256
 isb:∀ x∈keep,isB (spotsF a).1 x=true
 pre:planPre keep long
 lg:∀ i:Nat,i<keep.length→long.getD i 0=1+(hdA a (keep.getD i 0)).1+(hdA a (keep.getD i 0)).2.1
 le:∀ i:Nat,i<keep.length→endS pinned keep long i≤toS pinned keep long i∧toS pinned keep long i+long.getD i 0≤(a.length:Int)
 en:endS pinned keep long keep.length≤(a.length:Int)
 rs:keep.Pairwise (·<·)
theorem plan_of {a keep pinned:List Int} (h:(longsF a keep pinned).2=0):Plan a keep pinned (longsF a keep pinned).1:=by
 obtain ⟨k1,k2,_,k4,_,k6⟩:=longs_ok h
 obtain ⟨d1,d2⟩:=keep_disj h
 have hp:=longs_pre h
 rw [k6] at hp ⊢
 have hG:∀ k:Nat,k<keep.length→(keep.map (lgOf (spotsF a).1)).getD k 0=lgOf (spotsF a).1 (keep.getD k 0):=by
  intro k hk
  rw [List.getD_eq_getElem?_getD,List.getElem?_map,List.getD_eq_getElem?_getD,List.getElem?_eq_getElem hk]
  rfl
 have hle:=endS_le (pinned:=pinned) hp d1 d2
 have hto:∀ i:Nat,i<keep.length→endS pinned keep (keep.map (lgOf (spotsF a).1)) i≤toS pinned keep (keep.map (lgOf (spotsF a).1)) i∧toS pinned keep (keep.map (lgOf (spotsF a).1)) i+(keep.map (lgOf (spotsF a).1)).getD i 0≤(a.length:Int):=fun i hi=>by
  have h1:=toS_ge (hle i hi)
  have h2:=d2 i hi
  omega
 refine ⟨k1,(checkF_in k1).1,k4,hp,fun i hi=>by rw [hG i hi]; rfl,hto,?_,risesL_pairwise k2⟩
 cases hn:keep.length with
 | zero=>simp [endS]
 | succ n =>
  have:=hto n (by omega)
  show toS pinned keep (keep.map (lgOf (spotsF a).1)) n+(keep.map (lgOf (spotsF a).1)).getD n 0≤_
  exact this.2
theorem pieceW_length {a keep to:List Int} {at_:Int} (h:isB (spotsF a).1 at_=true):((pieceW a keep to at_).length:Int)=1+(hdA a at_).1+(hdA a at_).2.1:=by
 obtain ⟨l1,l2,_⟩:=objA_length h
 unfold pieceW
 simp only [List.length_cons,List.length_append,List.length_map]
 omega
theorem keep_mem {keep:List Int} {i:Nat} (h:i<keep.length):keep.getD i 0∈keep:=by
 have:=getD_mem (0:Int) (xs:=keep) (i:=i) (by omega) (by omega)
 simpa only [Int.toNat_natCast] using this
theorem slidUp_length {a keep pinned long:List Int} (to:List Int) (hP:Plan a keep pinned long):∀ i:Nat,i≤keep.length→((slidUp a keep to pinned long i).length:Int)=endS pinned keep long i
 | 0,_=>rfl
 | i+1,hi=>by
  have ih:=slidUp_length to hP i (by omega)
  have h1:=pieceW_length (keep:=keep) (to:=to) (hP.isb _ (keep_mem (i:=i) (by omega)))
  have h2:=hP.le i (by omega)
  have h3:=hP.lg i (by omega)
  have hE:endS pinned keep long (i+1)=toS pinned keep long i+long.getD i 0:=rfl
  simp only [slidUp,List.length_append,gapW,List.length_replicate]
  omega
theorem sorted_uniq:∀ {l:List Spot} {s t:Spot},l.Pairwise (fun s t=>s.1<t.1)→s∈l→t∈l→s.1=t.1→s=t
 | x::l,s,t,h,hs,ht,e=>by
  obtain ⟨h1,h2⟩:=List.pairwise_cons.1 h
  rcases List.mem_cons.1 hs with hs | hs <;> rcases List.mem_cons.1 ht with ht | ht
  ·rw [hs,ht]
  ·have:=h1 t ht; subst hs; omega
  ·have:=h1 s hs; subst ht; omega
  ·exact sorted_uniq h2 hs ht e
theorem at_lens {a:List Int} {at_:Int} (hc:(checkF a).2.2=0) (h:isB (spotsF a).1 at_=true):(atF a at_).1.2.1.length=(refsA a at_).length∧(atF a at_).1.2.2.1.length=(bodyA a at_).length:=by
 obtain ⟨k1,_⟩:=objA_in h
 obtain ⟨_,_,e3,_⟩:=checkF_in hc
 have hany:((spotsF a).1.any fun s:Spot=>decide (s.1=at_))=true:=List.any_eq_true.2 ⟨_,k1,by simp⟩
 have hpos:=findFrom_any (fun s:Spot=>decide (s.1=at_)) (spotsF a).1 0 (by omega)
 rw [hany] at hpos
 have hpos:=of_decide_eq_true hpos
 have hlt:=findFrom_lt (fun s:Spot=>decide (s.1=at_)) (0,0,0,0,false) (spotsF a).1 0 (by omega)
 have his:=findFrom_is (fun s:Spot=>decide (s.1=at_)) (0,0,0,0,false) (spotsF a).1 0 hpos (by omega)
 rw [Int.sub_zero] at his
 have hm:=getD_mem ((0,0,0,0,false):Spot) (xs:=(spotsF a).1) hpos (by omega)
 have e:=sorted_uniq (spotsF_sorted a) hm k1 (of_decide_eq_true his)
 unfold atF
 rw [if_neg (by omega),e3,if_neg (by omega),e]
 unfold objectF refsA bodyA
 exact ⟨by rw [List.length_map],rfl⟩
theorem set_mid {A B:List Int} {x:Int} (y:Int) {n:Nat} (h:n=A.length):(A++x::B).set n y=A++y::B:=by
 rw [h,List.set_append_right _ _ (Nat.le_refl _)]
 simp
theorem gapsUp_in {a keep pinned long:List Int} (hP:Plan a keep pinned long):∀ i:Nat,i≤keep.length→∀ r∈gapsUp pinned keep long i,0≤r.1∧1≤r.2∧r.1+r.2≤(a.length:Int)
 | 0,_,r,hr=>by cases hr
 | i+1,hi,r,hr=>by
  simp only [gapsUp] at hr
  rcases List.mem_append.1 hr with hr | hr
  ·exact gapsUp_in hP i (by omega) r hr
  ·have h1:=hP.le i (by omega)
   have h2:=hP.lg i (by omega)
   have h3:=endS_range pinned hP.pre i (by omega)
   obtain ⟨_,_,_,l4,l5,l6⟩:=objA_length (hP.isb _ (keep_mem (i:=i) (by omega)))
   split at hr
   ·simp only [List.mem_singleton] at hr
    subst hr
    simp only
    omega
   ·cases hr
theorem planGaps_in {a keep pinned long:List Int} (hP:Plan a keep pinned long):∀ r∈planGapsL a.length keep long pinned,0≤r.1∧1≤r.2∧r.1+r.2≤(a.length:Int):=by
 intro r hr
 unfold planGapsL at hr
 rcases List.mem_append.1 hr with hr | hr
 ·exact gapsUp_in hP _ (Nat.le_refl _) r hr
 ·have h3:=endS_range pinned hP.pre keep.length (Nat.le_refl _)
  split at hr
  ·simp only [List.mem_singleton] at hr
   subst hr
   simp only
   omega
  ·cases hr
theorem planGaps_length (n:Int) (keep long pinned:List Int):(planGapsL n keep long pinned).length≤keep.length+1:=by
 have:=gapsUp_length pinned keep long keep.length
 unfold planGapsL
 rw [List.length_append]
 split <;> simp <;> omega
end Go.Proofs.YtglchojglcobjaaGreat
