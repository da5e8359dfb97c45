
import Derived.Test.YtglchojglcobjaaGreatGapsRef
import Derived.Test.YtglchojglcobjaaGreatWalkSame
namespace Go.Proofs.YtglchojglcobjaaGreat
open Go
set_option maxRecDepth 100000
set_option maxHeartbeats 1000000
theorem setRun_get (fr:List Bool) (at_:Nat) (b:Bool) (i:Nat):∀ n,(setRun fr at_ b n).getD i false=if at_≤i∧i<at_+n∧i<fr.length then b else fr.getD i false
 | 0=>by
  have:¬ (at_≤i∧i<at_+0∧i<fr.length):=by omega
  rw [if_neg this]
  rfl
 | n+1=>by
  have ih:=setRun_get fr at_ b i n
  have hl:=setRun_length fr at_ b n
  simp only [setRun]
  by_cases hi:i=at_+n
  ·by_cases hlen:i<fr.length
   ·rw [if_pos (by omega)]
    simp [← hi,hl,hlen]
   ·rw [if_neg (by omega)]
    simp [hlen,show ¬ i<(setRun fr at_ b n).length by omega]
  ·have e:((setRun fr at_ b n).set (at_+n) b).getD i false=(setRun fr at_ b n).getD i false:=by
    simp [List.getElem?_set,Ne.symm hi]
   rw [e,ih]
   by_cases hc:at_≤i∧i<at_+n∧i<fr.length
   ·rw [if_pos hc,if_pos (by omega)]
   ·rw [if_neg hc,if_neg (by omega)]
def tileAt (k:Int):List Spot→Bool
 | []=>false
 | x::r=>if k<x.1+headLong x.2 then x.2.2.2.2 else tileAt k r
theorem flags_get:∀ (r:List Spot) (s e:Int) (fr:List Bool),Tiles s e r→0≤s→e≤fr.length→s≤e∧∀ k:Int,0≤k→k<e→(flagsL fr r).getD k.toNat false=if k<s then fr.getD k.toNat false else tileAt k r
 | [],s,e,fr,h,_,_=>by
  have:s=e:=h
  subst this
  refine ⟨Int.le_refl _,fun k _ hk=>?_⟩
  rw [if_pos hk]
  rfl
 | x::r,s,e,fr,⟨h1,h2,h3⟩,h0,hl=>by
  have ih:=flags_get r (s+headLong x.2) e (setRun fr x.1.toNat x.2.2.2.2 (headLong x.2).toNat) h3 (by omega) (by rw [setRun_length]; exact hl)
  refine ⟨by omega,fun k k0 k1=>?_⟩
  simp only [flagsL,tileAt]
  rw [ih.2 k k0 k1,setRun_get]
  by_cases hk:k<s
  ·rw [if_pos (by omega),if_neg (by omega),if_pos hk]
  ·rw [if_neg hk]
   by_cases hk2:k<s+headLong x.2
   ·rw [if_pos hk2,if_pos (by omega),if_pos (by omega)]
   ·rw [if_neg hk2,if_neg (by omega)]
theorem bump_bump {out:List Gap} {a b:Int} (h:0<out.length):bumpL (bumpL out a) b=bumpL out (a+b):=by
 unfold bumpL
 simp [show out.length - 1<out.length by omega,Int.add_assoc]
theorem bump_snoc (out:List Gap) (k a b:Int):bumpL (out++[(k,a)]) b=out++[(k,a+b)]:=by
 unfold bumpL
 simp
theorem runs_more (f:Int→Bool):∀ (n m:Nat) (k:Int) (out:List Gap),0<out.length→0<k→(∀ i,k - 1≤i→i<k+n→f i=true)→runsGo f (n+m) k out=runsGo f m (k+n) (if n=0 then out else bumpL out n)
 | 0,m,k,out,_,_,_=>by simp
 | n+1,m,k,out,h1,h2,h3=>by
  rw [show n+1+m=(n+m)+1 by omega]
  simp only [runsGo]
  rw [if_pos (h3 k (by omega) (by omega)),if_pos (by rw [h3 (k - 1) (by omega) (by omega)]; simp; omega)]
  rw [runs_more f n m (k+1) (bumpL out 1) (by rw [bumpL_length]; exact h1) (by omega) (fun i hi hj=>h3 i (by omega) (by omega))]
  rw [if_neg (by omega:¬ n+1=0),show k+1+(n:Int)=k+((n+1:Nat):Int) by omega]
  congr 1
  by_cases hn:n=0
  ·subst hn; simp
  ·rw [if_neg hn,bump_bump h1]
   congr 1
   omega
theorem runs_free (f:Int→Bool):∀ (n m:Nat) (k:Int) (out:List Gap),(∀ i,k≤i→i<k+n→f i=false)→runsGo f (n+m) k out=runsGo f m (k+n) out
 | 0,m,k,out,_=>by simp
 | n+1,m,k,out,h=>by
  rw [show n+1+m=(n+m)+1 by omega]
  simp only [runsGo]
  rw [if_neg (by rw [h k (by omega) (by omega)]; simp),runs_free f n m (k+1) out (fun i hi hj=>h i (by omega) (by omega)),show k+1+(n:Int)=k+((n+1:Nat):Int) by omega]
theorem runs_tiles (f:Int→Bool):∀ (r:List Spot) (s e:Int) (out:List Gap),Tiles s e r→0≤s→(∀ k,s≤k→k<e→f k=tileAt k r)→((decide (0<s)&&f (s - 1))=true→0<out.length) →
  s≤e∧runsGo f (e - s).toNat s out=gapsL (decide (0<s)&&f (s - 1)) out r
 | [],s,e,out,h,_,_,_=>by
  have:s=e:=h
  subst this
  rw [Int.sub_self]
  exact ⟨Int.le_refl _,rfl⟩
 | x::r,s,e,out,⟨h1,h2,h3⟩,h0,hf,ho=>by
  have hx:∀ k,s≤k→k<s+headLong x.2→k<e→f k=x.2.2.2.2:=fun k k0 k1 k2=>by
   rw [hf k k0 k2]
   simp only [tileAt]
   rw [if_pos (by omega)]
  have hr:s+headLong x.2≤e→∀ k,s+headLong x.2≤k→k<e→f k=tileAt k r:=fun _ k k0 k1=>by
   rw [hf k (by omega) k1]
   simp only [tileAt]
   rw [if_neg (by omega)]
  have hle:s+headLong x.2≤e:=by
   have:∀ (r:List Spot) (s e:Int),Tiles s e r→s≤e:=by
    intro r
    induction r with
    | nil=>intro s e h; exact Int.le_of_eq h
    | cons y r ih=>intro s e ⟨_,q2,q3⟩; have:=ih _ _ q3; omega
   exact this r _ _ h3
  refine ⟨by omega,?_⟩
  have hprev:(decide (0<s+headLong x.2)&&f (s+headLong x.2 - 1))=x.2.2.2.2:=by
   rw [hx _ (by omega) (by omega) (by omega)]
   simp
   omega
  obtain ⟨L,hL⟩:=Int.eq_ofNat_of_zero_le (show 0≤headLong x.2 by omega)
  rw [show (e - s).toNat=L+(e - (s+headLong x.2)).toNat by omega]
  simp only [gapsL]
  cases hfr:x.2.2.2.2
  ·rw [hfr] at hx hprev
   rw [runs_free f L _ s out (fun i hi hj=>hx i hi (by omega) (by omega)),← hL]
   have ih:=runs_tiles f r (s+headLong x.2) e out h3 (by omega) (hr hle) (fun h=>by rw [hprev] at h; cases h)
   rw [ih.2,hprev]
   simp
  ·rw [hfr] at hx hprev
   have hL1:L=(L - 1)+1:=by omega
   have step:runsGo f (L+(e - (s+headLong x.2)).toNat) s out=runsGo f (e - (s+headLong x.2)).toNat (s+headLong x.2) (if (decide (0<s)&&f (s - 1))=true then bumpL out (headLong x.2) else out++[(x.1,headLong x.2)]):=by
    rw [show L+(e - (s+headLong x.2)).toNat=((L - 1)+(e - (s+headLong x.2)).toNat)+1 by omega]
    simp only [runsGo]
    rw [if_pos (hx s (by omega) (by omega) (by omega))]
    rw [runs_more f (L - 1) _ (s+1) _ (by
     split
     ·rename_i hp
      rw [bumpL_length]
      exact ho hp
     ·simp) (by omega) (fun i hi hj=>hx i (by omega) (by omega) (by omega))]
    rw [show s+1+((L - 1:Nat):Int)=s+headLong x.2 by omega]
    congr 1
    by_cases hp:(decide (0<s)&&f (s - 1))=true
    ·rw [if_pos hp,if_pos hp]
     by_cases hz:L - 1=0
     ·rw [if_pos hz]
      congr 1
      omega
     ·rw [if_neg hz,bump_bump (ho hp)]
      congr 1
      omega
    ·rw [if_neg hp,if_neg hp]
     by_cases hz:L - 1=0
     ·rw [if_pos hz,h1]
      congr 3
      omega
     ·rw [if_neg hz,bump_snoc,h1]
      congr 3
      omega
   rw [step]
   have ih:=runs_tiles f r (s+headLong x.2) e (if (decide (0<s)&&f (s - 1))=true then bumpL out (headLong x.2) else out++[(x.1,headLong x.2)]) h3 (by omega) (hr hle) (fun _=>by
    split
    ·rename_i hp
     rw [bumpL_length]
     exact ho hp
    ·simp)
   rw [ih.2,hprev]
   simp
theorem gaps_same {a:List Int} (h:(spotsF a).2=0):gapsOfL a=gapsL false [] (spotsF a).1:=by
 have ht:=spotsF_tiles h
 have hfl:=flags_get (spotsF a).1 0 a.length (List.replicate (a.length+1) false) ht (Int.le_refl _) (by simp; omega)
 have hr:=runs_tiles (fun k=>(flagsL (List.replicate (a.length+1) false) (spotsF a).1).getD k.toNat false) (spotsF a).1 0 a.length [] ht (Int.le_refl _) (fun k k0 k1=>by
  rw [hfl.2 k k0 k1,if_neg (by omega)]) (fun h=>by simp at h)
 have h2:=hr.2
 rw [show ((a.length:Int) - 0).toNat=a.length by omega] at h2
 unfold gapsOfL
 rw [h2]
 simp
def roomL (at_:Int):Int→List Spot→Int
 | r,[]=>r
 | r,s::l=>roomL at_ (if s.1=at_∧s.2.2.2.2=true then headLong s.2 else r) l
theorem roomL_none (at_:Int):∀ (l:List Spot) (r:Int),(∀ s∈l,s.1≠at_)→roomL at_ r l=r
 | [],_,_=>rfl
 | s::l,r,h=>by
  simp only [roomL]
  rw [if_neg (fun e=>h s (by simp) e.1)]
  exact roomL_none at_ l r (fun t ht=>h t (by simp [ht]))
theorem roomL_no (at_:Int):∀ (l:List Spot) (r:Int),(∀ s∈l,¬ (s.1=at_∧s.2.2.2.2=true))→roomL at_ r l=r
 | [],_,_=>rfl
 | s::l,r,h=>by
  simp only [roomL]
  rw [if_neg (h s (by simp))]
  exact roomL_no at_ l r (fun t ht=>h t (by simp [ht]))
theorem roomL_of {at_:Int}:∀ (l:List Spot) (r:Int) (s:Spot),l.Pairwise (fun s t=>s.1<t.1)→s∈l→s.1=at_→s.2.2.2.2=true→roomL at_ r l=headLong s.2
 | t::l,r,s,hs,hm,h1,h2=>by
  obtain ⟨p1,p2⟩:=List.pairwise_cons.1 hs
  simp only [roomL]
  rcases List.mem_cons.1 hm with rfl | hm
  ·rw [if_pos ⟨h1,h2⟩]
   exact roomL_none at_ l _ (fun u hu e=>by have:=p1 u hu; omega)
  ·exact roomL_of l _ s p2 hm h1 h2
theorem findG_no {l:List Spot} {at_:Int} {fr:Bool} (h:(findG l at_ fr).2=false):∀ s∈l,¬ (s.1=at_∧s.2.2.2.2=fr):=by
 intro s hs ⟨h1,h2⟩
 have ha:=findFrom_any (fun s:Spot=>decide (s.1=at_)&&s.2.2.2.2 == fr) l 0 (by omega)
 have:(l.any fun s:Spot=>decide (s.1=at_)&&s.2.2.2.2 == fr)=true:=List.any_eq_true.2 ⟨s,hs,by simp [h1,h2]⟩
 rw [this] at ha
 have ha:=of_decide_eq_true ha
 unfold findG at h
 rw [if_neg (by omega)] at h
 cases h
theorem fillL_set {b:List Int} {at_ n v k:Int} {i:Nat} (x:Int) (h:i<at_.toNat) (hl:at_.toNat≤b.length):fillL (b.set i x) at_ n v k=(fillL b at_ n v k).set i x:=by
 unfold fillL putAt
 rw [List.take_set,List.drop_set,if_pos (by omega),List.set_append,if_pos (by rw [List.length_take]; omega)]
theorem emptiedL_set {b:List Int} {at_ n:Int} {i:Nat} (x:Int) (h:i<at_.toNat) (hl:at_.toNat≤b.length):emptiedL (b.set i x) at_ n=(emptiedL b at_ n).set i x:=by
 unfold emptiedL
 split
 ·rw [fillL_set x h hl,List.set_comm _ _ (by omega)]
 ·rfl
theorem fillL_get {b:List Int} {at_ n:Int} {i:Nat} (h:at_.toNat≤i) (h2:i<at_.toNat+n.toNat) (hl:at_.toNat+n.toNat≤b.length):(fillL b at_ n 0 n).getD i 0=0:=by
 unfold fillL putAt
 have e:(List.take at_.toNat b).length=at_.toNat:=by rw [List.length_take]; omega
 rw [List.getD_eq_getElem?_getD,List.getElem?_append_right (by omega),e,List.getElem?_append_left (by simp; omega)]
 rw [List.take_of_length_le (by simp),List.getElem?_replicate]
 split <;> rfl
theorem emptiedL_get {b:List Int} {at_ n:Int} {i:Nat} (h:i<at_.toNat) (hl:at_.toNat≤b.length):(emptiedL b at_ n).getD i 0=b.getD i 0:=by
 unfold emptiedL
 split
 ·unfold fillL putAt
  rw [List.getD_eq_getElem?_getD,List.getElem?_set_ne (by omega),List.getElem?_append_left (by rw [List.length_take]; omega),List.getElem?_take,if_pos h]
  rfl
 ·rfl
theorem take_words {a:List Int} {at_ L n:Int} (hp:layPre a at_ L) (h1:1≤n) (h2:n≤L) (hw:Int) :
  (emptiedL (emptiedL a at_ L) (at_+n) (L - n)).set at_.toNat hw=emptiedL ((fillL a at_ L 0 L).set at_.toNat hw) (at_+n) (L - n) ∧
  ∀ j,1≤j→j<n→((emptiedL (emptiedL a at_ L) (at_+n) (L - n)).set at_.toNat hw).getD (at_+j).toNat 0=0:=by
 obtain ⟨p1,p2,p3,p4⟩:=hp
 have hl:=fillL_length a at_ L 0 L p1 p3 p2 (by omega)
 have hE:emptiedL a at_ L=(fillL a at_ L 0 L).set at_.toNat (headWord (0,L - 1,0,true)):=by unfold emptiedL; rw [if_pos (by omega)]
 rw [hE,emptiedL_set _ (by omega) (by omega),emptiedL_set _ (by omega) (by omega),List.set_set]
 refine ⟨rfl,fun j h3 h4=>?_⟩
 rw [List.getD_eq_getElem?_getD,List.getElem?_set_ne (by omega),← List.getD_eq_getElem?_getD,emptiedL_get (by omega) (by omega)]
 exact fillL_get (by omega) (by omega) (by omega)
def err0 (h:Head):Int:=if headFault h=0∧h.2.2.2=true then 3 else headFault h
def takeErr (e r n:Int):Int:=if e≠0 then e else if r=0 then 5 else if r<n then 7 else 0
theorem takeF_good {a:List Int} (hz:(checkF a).2.2=0) (at_:Int) (h:Head) :
  takeF a at_ h=(if takeErr (err0 h) (roomL at_ 0 (spotsF a).1) (headLong h)≠0 then [] else emptiedL ((fillL a at_ (roomL at_ 0 (spotsF a).1) 0 (roomL at_ 0 (spotsF a).1)).set at_.toNat (headWord h)) (at_+headLong h) (roomL at_ 0 (spotsF a).1 - headLong h),takeErr (err0 h) (roomL at_ 0 (spotsF a).1) (headLong h)) ∧
  (takeErr (err0 h) (roomL at_ 0 (spotsF a).1) (headLong h)=0→layPre a at_ (roomL at_ 0 (spotsF a).1)∧1≤headLong h∧headLong h≤roomL at_ 0 (spotsF a).1∧headFault h=0):=by
 obtain ⟨_,hal,hsp⟩:=gspots_ok hz
 have hF:takeF a at_ h=if headFault h≠0 then ([],headFault h) else if h.2.2.2=true then ([],3) else if (checkF a).2.2≠0 then ([],(checkF a).2.2)
  else if (findG (spotsF a).1 at_ true).2=false then ([],5) else if headLong (findG (spotsF a).1 at_ true).1.2<headLong h then ([],7)
  else (emptiedL ((fillL a at_ (headLong (findG (spotsF a).1 at_ true).1.2) 0 (headLong (findG (spotsF a).1 at_ true).1.2)).set at_.toNat (headWord h)) (at_+headLong h) (headLong (findG (spotsF a).1 at_ true).1.2 - headLong h),0):=rfl
 rw [hF]
 by_cases h1:headFault h=0
 ·rw [if_neg (by omega)]
  have hz1:=headFault_zero h1
  have hn:headLong h=1+h.1+h.2.1:=rfl
  cases h2:h.2.2.2
  ·have e0:err0 h=0:=by unfold err0; rw [h2,if_neg (by simp),h1]
   rw [e0,if_neg (by simp),if_neg (by omega)]
   cases h3:(findG (spotsF a).1 at_ true).2
   ·rw [roomL_no at_ _ 0 (findG_no h3),if_pos rfl]
    have e1:takeErr 0 0 (headLong h)=5:=rfl
    rw [e1,if_pos (by omega)]
    exact ⟨rfl,fun h=>by omega⟩
   ·obtain ⟨q1,q2,q3⟩:=findG_in (spotsF a).1 at_ true h3
    rw [roomL_of _ 0 _ (spotsF_sorted a) q1 q2 q3,if_neg (by simp)]
    obtain ⟨hin,hh⟩:=hsp _ q1
    have hz2:=headFault_zero hh
    have hL:headLong (findG (spotsF a).1 at_ true).1.2=1+(findG (spotsF a).1 at_ true).1.2.1+(findG (spotsF a).1 at_ true).1.2.2.1:=rfl
    unfold spotIn at hin
    rw [q2] at hin
    generalize headLong (findG (spotsF a).1 at_ true).1.2=L at *
    by_cases h4:L<headLong h
    ·have e1:takeErr 0 L (headLong h)=7:=by unfold takeErr; rw [if_neg (by omega),if_neg (by omega),if_pos h4]
     rw [e1,if_pos h4,if_pos (by omega)]
     exact ⟨rfl,fun h=>by omega⟩
    ·have e1:takeErr 0 L (headLong h)=0:=by unfold takeErr; rw [if_neg (by omega),if_neg (by omega),if_neg h4]
     rw [e1,if_neg h4,if_neg (by omega)]
     exact ⟨rfl,fun _=>⟨⟨by omega,by omega,by omega,hal⟩,by omega,by omega,h1⟩⟩
  ·have e0:err0 h=3:=by unfold err0; rw [h2,if_pos ⟨h1,rfl⟩]
   rw [e0,if_pos rfl]
   have e1:∀ r,takeErr 3 r (headLong h)=3:=fun _=>rfl
   rw [e1,if_pos (by omega)]
   exact ⟨rfl,fun h=>by omega⟩
 ·have e0:err0 h=headFault h:=by unfold err0; rw [if_neg (fun e=>h1 e.1)]
  have e1:∀ r,takeErr (headFault h) r (headLong h)=headFault h:=fun _=>by unfold takeErr; rw [if_pos h1]
  rw [e0,if_pos h1,e1,if_pos h1]
  exact ⟨rfl,fun h=>absurd h h1⟩
end Go.Proofs.YtglchojglcobjaaGreat
