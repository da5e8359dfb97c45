
import Derived.Test.YtglchojglcobjaaGreatWalks
namespace Go.Proofs.YtglchojglcobjaaGreat
open Go
set_option maxRecDepth 100000
set_option maxHeartbeats 1000000
abbrev ty_Gap:Ty:=.pair ty_I ty_I
abbrev Gap:=Int×Int
def gspotsF (a:List Int):List Spot×Int:=if (checkF a).2.2≠0 then ([],(checkF a).2.2) else ((spotsF a).1,0)
def bumpL (out:List Gap) (n:Int):List Gap:=out.set (out.length - 1) ((out.getD (out.length - 1) (0,0)).1,(out.getD (out.length - 1) (0,0)).2+n)
def gapsL:Bool→List Gap→List Spot→List Gap
 | _,out,[]=>out
 | p,out,s::l=>gapsL s.2.2.2.2 (if s.2.2.2.2=true then (if p=true then bumpL out (headLong s.2) else out++[(s.1,headLong s.2)]) else out) l
theorem bumpL_length (out:List Gap) (n:Int):(bumpL out n).length=out.length:=by simp [bumpL]
def gapsGF (a:List Int):List Gap×Int:=if (checkF a).2.2≠0 then ([],(checkF a).2.2) else (gapsL false [] (spotsF a).1,0)
def emptiedL (a:List Int) (at_ n:Int):List Int:=if 0<n then (fillL a at_ n 0 n).set at_.toNat (headWord (0,n - 1,0,true)) else a
def layPre (a:List Int) (at_ n:Int):Prop:=0≤at_∧0≤n∧at_+n≤a.length∧a.length≤256
def joinF (a:List Int):List Int×Int:=if (checkF a).2.2≠0 then ([],(checkF a).2.2) else ((gapsL false [] (spotsF a).1).foldl (fun a r=>emptiedL a r.1 r.2) a,0)
theorem emptiedL_length {a:List Int} {at_ n:Int} (h:layPre a at_ n):(emptiedL a at_ n).length=a.length:=by
 obtain ⟨p1,p2,p3,p4⟩:=h
 unfold emptiedL
 split
 ·rw [List.length_set]
  exact fillL_length a at_ n 0 n p1 p3 p2 (by omega)
 ·rfl
def Tiles:Int→Int→List Spot→Prop
 | s,e,[]=>s=e
 | s,e,x::r=>x.1=s∧1≤headLong x.2∧Tiles (s+headLong x.2) e r
theorem spotsS_tiles (at_:Int) (l:List Int) (r:List Spot) (h:spotsS at_ l=some r):Tiles at_ (at_+l.length) r:=by
 induction at_,l using spotsS.induct generalizing r with
 | case1 at_ =>
  simp only [spotsS,Option.some.injEq] at h
  subst h
  simp [Tiles]
 | case2 at_ v l hv ih =>
  rw [spotsS_cons hv.1 hv.2] at h
  obtain ⟨r',hr,rfl⟩:=Option.map_eq_some_iff.1 h
  have hl:=isHead_long hv.1
  have h2:=ih r' hr
  refine ⟨rfl,hl.1,?_⟩
  have e:at_+headLong (headOf v)+(((v::l).drop (headLong (headOf v)).toNat).length:Nat)=at_+((v::l).length:Nat):=by
   rw [List.length_drop]
   have:=hv.2
   omega
  rw [e] at h2
  exact h2
 | case3 at_ v l hv =>
  rw [spotsS_none hv] at h
  cases h
theorem spotsF_tiles {a:List Int} (h:(spotsF a).2=0):Tiles 0 a.length (spotsF a).1:=by
 unfold spotsF at h ⊢
 split at h
 ·simp at h
 rename_i cl
 rw [if_neg cl]
 cases e:spotsS 0 a with
 | none=>rw [e] at h; simp at h
 | some l =>
  have:=spotsS_tiles 0 a l e
  rw [Int.zero_add] at this
  exact this
def gapsIn (n:Int) (l:List Gap):Prop:=∀ r∈l,0≤r.1∧1≤r.2∧r.1+r.2≤n
theorem gapsL_in:∀ (l:List Spot) (s e:Int) (p:Bool) (out:List Gap),Tiles s e l→0≤s→gapsIn s out→(p=true→0<out.length∧(out.getD (out.length - 1) (0,0)).1+(out.getD (out.length - 1) (0,0)).2=s)→gapsIn e (gapsL p out l)∧s≤e
 | [],s,e,p,out,ht,h0,ho,_=>by
  have:s=e:=ht
  subst this
  exact ⟨ho,Int.le_refl _⟩
 | x::l,s,e,p,out,⟨h1,h2,h3⟩,h0,ho,hp=>by
  simp only [gapsL]
  have up:gapsIn (s+headLong x.2) out:=fun r hr=>by have:=ho r hr; omega
  cases hf:x.2.2.2.2
  ·have ih:=gapsL_in l _ e false out h3 (by omega) up (fun h=>by cases h)
   simp only [Bool.false_eq_true,if_false]
   exact ⟨ih.1,by omega⟩
  ·simp only [if_true]
   cases p
   ·have ih:=gapsL_in l _ e true (out++[(x.1,headLong x.2)]) h3 (by omega) (fun r hr=>by
     rcases List.mem_append.1 hr with hr | hr
     ·exact up r hr
     ·simp only [List.mem_singleton] at hr
      subst hr
      simp only
      omega) (fun _=>⟨by simp,by simp; omega⟩)
    simp only [Bool.false_eq_true,if_false]
    exact ⟨ih.1,by omega⟩
   ·obtain ⟨q1,q2⟩:=hp rfl
    have hlast:=ho _ (getD_mem ((0,0):Gap) (xs:=out) (i:=(out.length:Int) - 1) (by omega) (by omega))
    rw [show ((out.length:Int) - 1).toNat=out.length - 1 by omega] at hlast
    have ih:=gapsL_in l _ e true (bumpL out (headLong x.2)) h3 (by omega) (fun r hr=>by
     rcases List.mem_or_eq_of_mem_set hr with hr | rfl
     ·exact up r hr
     ·simp only
      omega) (fun _=>⟨by rw [bumpL_length]; exact q1,by
       rw [bumpL_length]
       unfold bumpL
       simp [show out.length - 1<out.length by omega]
       simp [show out.length - 1<out.length by omega] at q2
       omega⟩)
    simp only [if_true]
    exact ⟨ih.1,by omega⟩
theorem gapsL_length:∀ (l:List Spot) (p:Bool) (out:List Gap),(gapsL p out l).length≤out.length+l.length
 | [],_,_=>by simp [gapsL]
 | x::l,p,out=>by
  have h1:=gapsL_length l x.2.2.2.2 (if x.2.2.2.2=true then (if p=true then bumpL out (headLong x.2) else out++[(x.1,headLong x.2)]) else out)
  simp only [gapsL,List.length_cons]
  have:(if x.2.2.2.2=true then (if p=true then bumpL out (headLong x.2) else out++[(x.1,headLong x.2)]) else out).length≤out.length+1:=by
   split
   ·split
    ·rw [bumpL_length]; omega
    ·simp
   ·omega
  omega
theorem gaps_in {a:List Int} (h:(spotsF a).2=0):gapsIn a.length (gapsL false [] (spotsF a).1)∧(gapsL false [] (spotsF a).1).length≤256:=by
 have h1:=gapsL_in _ 0 a.length false [] (spotsF_tiles h) (Int.le_refl _) (fun r hr=>by cases hr) (fun h=>by cases h)
 have h2:=gapsL_length (spotsF a).1 false []
 have h3:=spotsF_length a
 exact ⟨h1.1,by simp at h2; omega⟩
def findG (l:List Spot) (at_:Int) (fr:Bool):Spot×Bool :=
 if findFrom (fun s:Spot=>decide (s.1=at_)&&s.2.2.2.2 == fr) 0 l<0 then ((0,0,0,0,false),false) else (l.getD (findFrom (fun s:Spot=>decide (s.1=at_)&&s.2.2.2.2 == fr) 0 l).toNat (0,0,0,0,false),true)
theorem findG_in (l:List Spot) (at_:Int) (fr:Bool) (h:(findG l at_ fr).2=true):(findG l at_ fr).1∈l∧(findG l at_ fr).1.1=at_∧(findG l at_ fr).1.2.2.2.2=fr:=by
 have hlt:=findFrom_lt (fun s:Spot=>decide (s.1=at_)&&s.2.2.2.2 == fr) (0,0,0,0,false) l 0 (by omega)
 have his:=findFrom_is (fun s:Spot=>decide (s.1=at_)&&s.2.2.2.2 == fr) (0,0,0,0,false) l 0
 unfold findG at h ⊢
 split at h
 ·cases h
 ·rename_i hn
  rw [if_neg hn]
  have his:=his (by omega) (by omega)
  rw [Int.sub_zero] at his
  simp only [Bool.and_eq_true,decide_eq_true_eq,beq_iff_eq] at his
  exact ⟨getD_mem _ (by omega) (by omega),his.1,his.2⟩
theorem gspots_ok {a:List Int} (h:(checkF a).2.2=0):(gspotsF a).1=(spotsF a).1∧a.length≤256∧∀ s∈(spotsF a).1,spotIn a s∧headFault s.2=0:=by
 obtain ⟨h1,_,h3,_,_,_,h5⟩:=checkF_in h
 rw [h3] at h5
 unfold gspotsF
 rw [if_neg (by omega)]
 exact ⟨rfl,h1,h5⟩
def takeF (a:List Int) (at_:Int) (h:Head):List Int×Int :=
 if headFault h≠0 then ([],headFault h) else if h.2.2.2=true then ([],3) else if (checkF a).2.2≠0 then ([],(checkF a).2.2)
 else if (findG (spotsF a).1 at_ true).2=false then ([],5) else if headLong (findG (spotsF a).1 at_ true).1.2<headLong h then ([],7)
 else (emptiedL ((fillL a at_ (headLong (findG (spotsF a).1 at_ true).1.2) 0 (headLong (findG (spotsF a).1 at_ true).1.2)).set at_.toNat (headWord h)) (at_+headLong h) (headLong (findG (spotsF a).1 at_ true).1.2 - headLong h),0)
end Go.Proofs.YtglchojglcobjaaGreat
