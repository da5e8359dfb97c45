
import Derived.Test.YtglchojglcobjaaGreatPlanSame
namespace Go.Proofs.YtglchojglcobjaaGreat
open Go
set_option maxRecDepth 100000
set_option maxHeartbeats 1000000
theorem qK {v:Int} (h:aF v=true) (h0:0≤v):aR (aH v)=v:=by
 simp only [aF,Bool.and_eq_true,decide_eq_true_eq] at h
 have h1:=h.1
 have e:aR (aH v)=v % 65536+65536 * (v / 65536 % 65536)+4294967296 * (v / 4294967296 % 65536)+(if v / 281474976710656=1 then 281474976710656 else 0):=by
  unfold aR aH
  by_cases hc:v / 281474976710656=1 <;> simp [hc]
 rw [e]
 split <;> omega
theorem yO (at_:Int) (l:List Int) (r:List aw) (h:spotsS at_ l=some r):∀ s∈r,at_≤s.1∧s.2=aH (l.getD (s.1 - at_).toNat 0)∧aF (l.getD (s.1 - at_).toNat 0)=true:=by
 induction at_,l using spotsS.induct generalizing r with
 | case1 at_ =>
  simp only [spotsS,Option.some.injEq] at h
  subst h
  simp
 | case2 at_ v l hv ih =>
  rw [ed hv.1 hv.2] at h
  obtain ⟨r',hr,rfl⟩:=Option.map_eq_some_iff.1 h
  have hl:=eg hv.1
  intro s hs
  rcases List.mem_cons.1 hs with rfl | hs
  ·simp only [Int.sub_self]
   exact ⟨Int.le_refl _,rfl,hv.1⟩
  ·obtain ⟨h1,h2,h3⟩:=ih r' hr s hs
   have e:((v::l).drop (ab (aH v)).toNat).getD (s.1 - (at_+ab (aH v))).toNat 0=(v::l).getD (s.1 - at_).toNat 0:=by
    rw [List.getD_eq_getElem?_getD,List.getElem?_drop,List.getD_eq_getElem?_getD]
    congr 2
    omega
   rw [e] at h2 h3
   exact ⟨by omega,h2,h3⟩
 | case3 at_ v l hv =>
  rw [eb hv] at h
  cases h
theorem pA {a:List Int}:∀ s∈(aa a).1,s.2=aH (a.getD s.1.toNat 0)∧aF (a.getD s.1.toNat 0)=true:=by
 unfold aa
 split
 ·intro s hs; cases hs
 ·cases h:spotsS 0 a with
  | none=>intro s hs; cases hs
  | some l =>
   intro s hs
   have:=yO 0 a l h s hs
   rw [Int.sub_zero] at this
   exact this.2
def dD (a:List Int) (at_:Int):da:=(ah at_ (aa a).1).1
def aU (a:List Int) (at_:Int):List Int:=aA a (at_,dD a at_)
def d7 (a:List Int) (at_:Int):List Int:=iv a (at_,dD a at_)
theorem gc {a:List Int} {at_:Int} (h:isB (aa a).1 at_=true):(at_,dD a at_)∈(aa a).1∧bX a (at_,dD a at_)∧ac (dD a at_)=0∧dD a at_=aH (a.getD at_.toNat 0)∧aF (a.getD at_.toNat 0)=true∧(dD a at_).2.2.2=false:=by
 unfold isB dD at *
 rcases fL at_ (aa a).1 with e | ⟨s,h1,h2,h3,e⟩
 ·rw [e] at h; cases h
 ·rw [e]
  have e2:(at_,s.2)=s:=by rw [← h2]
  rw [e2]
  obtain ⟨_,k2,k3⟩:=dc a s h1
  obtain ⟨k4,k5⟩:=pA s h1
  rw [h2] at k4 k5
  exact ⟨h1,k2,k3,k4,k5,h3⟩
theorem cp {a:List Int} {at_:Int} (h:isB (aa a).1 at_=true):((aU a at_).length:Int)=(dD a at_).1∧((d7 a at_).length:Int)=(dD a at_).2.1∧0≤at_∧at_+1+(dD a at_).1+(dD a at_).2.1≤a.length∧0≤(dD a at_).1∧0≤(dD a at_).2.1:=by
 obtain ⟨_,k2,_⟩:=gc h
 unfold bX at k2
 simp only at k2
 refine ⟨?_,?_,by omega,by omega,by omega,by omega⟩
 ·unfold aU aA
  rw [List.length_drop,List.length_take]
  simp only
  omega
 ·unfold d7 iv
  rw [List.length_drop,List.length_take]
  simp only
  omega
theorem BY {a:List Int} {at_:Int} (h:isB (aa a).1 at_=true):(a.drop at_.toNat).take (1+(dD a at_).1+(dD a at_).2.1).toNat=a.getD at_.toNat 0::(aU a at_++d7 a at_):=by
 obtain ⟨l1,l2,l3,l4,l5,l6⟩:=cp h
 unfold aU d7 aA iv
 simp only
 rw [aS (0:Int) l3 (by omega),show (1+(dD a at_).1+(dD a at_).2.1).toNat=((dD a at_).1+(dD a at_).2.1).toNat+1 by omega,List.take_succ_cons]
 congr 1
 generalize (dD a at_).1=r at *
 generalize (dD a at_).2.1=b at *
 rw [List.drop_take,List.drop_take,show (r+b).toNat=r.toNat+b.toNat by omega,show (at_+1+r).toNat - (at_+1).toNat=r.toNat by omega,show (at_+1+r+b).toNat - (at_+1+r).toNat=b.toNat by omega,
  List.take_add,List.drop_drop,show (at_+1).toNat+r.toNat=(at_+1+r).toNat by omega]
def gk (keep to:List Int) (v:Int):Option Int:=if v=0 then some 0 else if cD keep (v - 1)=true then some (to.getD (bA keep (v - 1)).toNat 0+1) else none
def dO (keep to:List Int) (v:Int):Int:=(gk keep to v).getD 0
def bY (keep to l:List Int):Bool:=l.all fun v=>(gk keep to v).isSome
def f9 (a keep to:List Int) (at_:Int):List Int:=a.getD at_.toNat 0::((aU a at_).map (dO keep to)++d7 a at_)
def gx (pinned keep long:List Int) (i:Nat):List Int:=List.replicate (cB pinned keep long i - aW pinned keep long i).toNat 0
def bQ (a keep to pinned long:List Int):Nat→List Int
 | 0=>[]
 | i+1=>bQ a keep to pinned long i++(gx pinned keep long i++f9 a keep to (keep.getD i 0))
def eJ (w:List Int) (r:bK):List Int:=w.set r.1.toNat (aR (0,r.2 - 1,0,true))
def js (a keep to pinned long:List Int) (g:List bK):List Int :=
 g.foldl eJ (bQ a keep to pinned long keep.length++List.replicate ((a.length:Int) - aW pinned keep long keep.length).toNat 0)
def cq (a keep pinned:List Int):List Int×List Int×Int :=
 if (ai a keep pinned).2≠0 then ([],[],(ai a keep pinned).2)
 else if (keep.all fun at_=>bY keep (an keep (ai a keep pinned).1 pinned) (aU a at_))=true then
  (js a keep (an keep (ai a keep pinned).1 pinned) pinned (ai a keep pinned).1 (bI a.length keep (ai a keep pinned).1 pinned),an keep (ai a keep pinned).1 pinned,0)
 else ([],[],8)
structure Plan (a keep pinned long:List Int):Prop where
 chk:(ao a).2.2=0
 al:a.length≤256
 isb:∀ x∈keep,isB (aa a).1 x=true
 pre:dm keep long
 lg:∀ i:Nat,i<keep.length→long.getD i 0=1+(dD a (keep.getD i 0)).1+(dD a (keep.getD i 0)).2.1
 le:∀ i:Nat,i<keep.length→aW pinned keep long i≤cB pinned keep long i∧cB pinned keep long i+long.getD i 0≤(a.length:Int)
 en:aW pinned keep long keep.length≤(a.length:Int)
 rs:keep.Pairwise (·<·)
theorem xp {a keep pinned:List Int} (h:(ai a keep pinned).2=0):Plan a keep pinned (ai a keep pinned).1:=by
 obtain ⟨k1,k2,_,k4,_,k6⟩:=kL h
 obtain ⟨d1,d2⟩:=vP h
 have hp:=lH h
 rw [k6] at hp ⊢
 have hG:∀ k:Nat,k<keep.length→(keep.map (ax (aa a).1)).getD k 0=ax (aa a).1 (keep.getD k 0):=by
  intro k hk
  rw [List.getD_eq_getElem?_getD,List.getElem?_map,List.getD_eq_getElem?_getD,List.getElem?_eq_getElem hk]
  rfl
 have hle:=x7 (pinned:=pinned) hp d1 d2
 have hto:∀ i:Nat,i<keep.length→aW pinned keep (keep.map (ax (aa a).1)) i≤cB pinned keep (keep.map (ax (aa a).1)) i∧cB pinned keep (keep.map (ax (aa a).1)) i+(keep.map (ax (aa a).1)).getD i 0≤(a.length:Int):=fun i hi=>by
  have h1:=Bl (hle i hi)
  have h2:=d2 i hi
  omega
 refine ⟨k1,(bO k1).1,k4,hp,fun i hi=>by rw [hG i hi]; rfl,hto,?_,fE k2⟩
 cases hn:keep.length with
 | zero=>simp [aW]
 | succ n =>
  have:=hto n (by omega)
  show cB pinned keep (keep.map (ax (aa a).1)) n+(keep.map (ax (aa a).1)).getD n 0≤_
  exact this.2
theorem jh {a keep to:List Int} {at_:Int} (h:isB (aa a).1 at_=true):((f9 a keep to at_).length:Int)=1+(dD a at_).1+(dD a at_).2.1:=by
 obtain ⟨l1,l2,_⟩:=cp h
 unfold f9
 simp only [List.length_cons,List.length_append,List.length_map]
 omega
theorem fx {keep:List Int} {i:Nat} (h:i<keep.length):keep.getD i 0∈keep:=by
 have:=aD (0:Int) (xs:=keep) (i:=i) (by omega) (by omega)
 simpa only [Int.toNat_natCast] using this
theorem fu {a keep pinned long:List Int} (to:List Int) (hP:Plan a keep pinned long):∀ i:Nat,i≤keep.length→((bQ a keep to pinned long i).length:Int)=aW pinned keep long i
 | 0,_=>rfl
 | i+1,hi=>by
  have ih:=fu to hP i (by omega)
  have h1:=jh (keep:=keep) (to:=to) (hP.isb _ (fx (i:=i) (by omega)))
  have h2:=hP.le i (by omega)
  have h3:=hP.lg i (by omega)
  have hE:aW pinned keep long (i+1)=cB pinned keep long i+long.getD i 0:=rfl
  simp only [bQ,List.length_append,gx,List.length_replicate]
  omega
def nY (keep to:List Int):Nat→List (Int×Int)
 | 0=>[(0,0)]
 | i+1=>dP (nY keep to i) (keep.getD i 0+1) (to.getD i 0+1)
theorem mm {α:Type} (f:α→Bool) (x:α):∀ (l:List α) (k:Int),aj f k (l++[x])=if l.any f=true then aj f k l else if f x=true then k+l.length else -1
 | [],k=>by simp [aj]
 | y::l,k=>by
  have ih:=mm f x l (k+1)
  simp only [List.cons_append,aj,List.any_cons,ih]
  by_cases hy:f y=true
  ·simp [hy]
  ·have hy:f y=false:=by simpa using hy
   simp only [hy,Bool.false_eq_true,if_false,Bool.false_or,List.length_cons]
   split
   ·rfl
   ·split
    ·omega
    ·rfl
theorem vL {keep to:List Int} (hk:keep.Pairwise (·<·)) (h0:∀ x∈keep,0≤x) (v:Int):∀ i:Nat,i≤keep.length→aK (nY keep to i) v=if v=0 then some 0 else if cD (keep.take i) (v - 1)=true then some (to.getD (bA (keep.take i) (v - 1)).toNat 0+1) else none
 | 0,_=>by
  simp only [nY,aK,List.take_zero,cD,List.any_nil,Bool.false_eq_true,if_false]
  by_cases hv:v=0
  ·simp [hv]
  ·simp [hv,Ne.symm hv]
 | i+1,hi=>by
  have ih:=vL (to:=to) hk h0 v i (by omega)
  have hx:=h0 _ (fx (i:=i) (by omega))
  have ht:keep.take (i+1)=keep.take i++[keep.getD i 0]:=by
   rw [List.take_succ_eq_append_getElem (by omega)]
   congr 2
   rw [List.getD_eq_getElem?_getD,List.getElem?_eq_getElem (by omega)]
   rfl
  have hnot:cD (keep.take i) (keep.getD i 0)=false:=by
   unfold cD
   rw [List.any_eq_false]
   intro y hy
   obtain ⟨j,hj,rfl⟩:=List.mem_iff_getElem.1 hy
   rw [List.length_take] at hj
   have:=List.pairwise_iff_getElem.1 hk j i (by omega) (by omega) (by omega)
   rw [List.getElem_take]
   simp only [decide_eq_true_eq]
   rw [List.getD_eq_getElem?_getD,List.getElem?_eq_getElem (by omega)]
   simp only [Option.getD_some]
   omega
  simp only [nY]
  rw [io,ih,ht]
  unfold bA cD
  rw [mm,List.any_append]
  simp only [List.any_cons,List.any_nil,Bool.or_false,List.length_take]
  by_cases hv:v=keep.getD i 0+1
  ·rw [if_pos hv,if_neg (by omega)]
   have e:v - 1=keep.getD i 0:=by omega
   rw [e]
   unfold cD at hnot
   rw [hnot]
   simp only [decide_true,Bool.or_true,if_true,Bool.false_eq_true,if_false]
   rw [show (0+((min i keep.length:Nat):Int)).toNat=i by omega]
  ·rw [if_neg hv]
   have e:decide (keep.getD i 0=v - 1)=false:=decide_eq_false (by omega)
   rw [e,Bool.or_false]
   split
   ·rfl
   ·split
    ·rfl
    ·rfl
theorem FP {keep to:List Int} (hk:keep.Pairwise (·<·)) (h0:∀ x∈keep,0≤x) (v:Int):aK (nY keep to keep.length) v=gk keep to v:=by
 rw [vL hk h0 v keep.length (Nat.le_refl _),List.take_length]
 rfl
theorem pC:∀ {l:List aw} {s t:aw},l.Pairwise (fun s t=>s.1<t.1)→s∈l→t∈l→s.1=t.1→s=t
 | x::l,s,t,h,hs,ht,e=>by
  obtain ⟨h1,h2⟩:=List.pairwise_cons.1 h
  rcases List.mem_cons.1 hs with hs | hs <;> rcases List.mem_cons.1 ht with ht | ht
  ·rw [hs,ht]
  ·have:=h1 t ht; subst hs; omega
  ·have:=h1 s hs; subst ht; omega
  ·exact pC h2 hs ht e
theorem Dg {a:List Int} {at_:Int} (hc:(ao a).2.2=0) (h:isB (aa a).1 at_=true):(iN a at_).1.2.1.length=(aU a at_).length∧(iN a at_).1.2.2.1.length=(d7 a at_).length:=by
 obtain ⟨k1,_⟩:=gc h
 obtain ⟨_,_,e3,_⟩:=bO hc
 have hany:((aa a).1.any fun s:aw=>decide (s.1=at_))=true:=List.any_eq_true.2 ⟨_,k1,by simp⟩
 have hpos:=cF (fun s:aw=>decide (s.1=at_)) (aa a).1 0 (by omega)
 rw [hany] at hpos
 have hpos:=of_decide_eq_true hpos
 have hlt:=dG (fun s:aw=>decide (s.1=at_)) (0,0,0,0,false) (aa a).1 0 (by omega)
 have his:=gL (fun s:aw=>decide (s.1=at_)) (0,0,0,0,false) (aa a).1 0 hpos (by omega)
 rw [Int.sub_zero] at his
 have hm:=aD ((0,0,0,0,false):aw) (xs:=(aa a).1) hpos (by omega)
 have e:=pC (b6 a) hm k1 (of_decide_eq_true his)
 unfold iN
 rw [if_neg (by omega),e3,if_neg (by omega),e]
 unfold gb aU d7
 exact ⟨by rw [List.length_map],rfl⟩
theorem jK {A B:List Int} {x:Int} (y:Int) {n:Nat} (h:n=A.length):(A++x::B).set n y=A++y::B:=by
 rw [h,List.set_append_right _ _ (Nat.le_refl _)]
 simp
theorem Hi {A B:List Int} {x:Int} {n:Nat} (h:n=A.length):(A++x::B).getD n 0=x:=by
 rw [h,List.getD_eq_getElem?_getD,List.getElem?_append_right (Nat.le_refl _)]
 simp
theorem vX {a keep pinned long:List Int} (hP:Plan a keep pinned long):∀ i:Nat,i≤keep.length→∀ r∈eo pinned keep long i,0≤r.1∧1≤r.2∧r.1+r.2≤(a.length:Int)
 | 0,_,r,hr=>by cases hr
 | i+1,hi,r,hr=>by
  simp only [eo] at hr
  rcases List.mem_append.1 hr with hr | hr
  ·exact vX hP i (by omega) r hr
  ·have h1:=hP.le i (by omega)
   have h2:=hP.lg i (by omega)
   have h3:=bR pinned hP.pre i (by omega)
   obtain ⟨_,_,_,l4,l5,l6⟩:=cp (hP.isb _ (fx (i:=i) (by omega)))
   split at hr
   ·simp only [List.mem_singleton] at hr
    subst hr
    simp only
    omega
   ·cases hr
theorem qb {a keep pinned long:List Int} (hP:Plan a keep pinned long):∀ r∈bI a.length keep long pinned,0≤r.1∧1≤r.2∧r.1+r.2≤(a.length:Int):=by
 intro r hr
 unfold bI at hr
 rcases List.mem_append.1 hr with hr | hr
 ·exact vX hP _ (Nat.le_refl _) r hr
 ·have h3:=bR pinned hP.pre keep.length (Nat.le_refl _)
  split at hr
  ·simp only [List.mem_singleton] at hr
   subst hr
   simp only
   omega
  ·cases hr
theorem ke (n:Int) (keep long pinned:List Int):(bI n keep long pinned).length≤keep.length+1:=by
 have:=gD pinned keep long keep.length
 unfold bI
 rw [List.length_append]
 split <;> simp <;> omega
def GE:Nat→Option LoopGen
 | 6=>some { rd:=[.dat 39 (.arr ty_I),.own 9 3 ty_I],A:=fun ((keep,to):List Int×List Int)=>{ cs:=[.map 37 .u64 be,.dat 41 ty_I],inv:=fun ((m,i):List (Int×Int)×Int)=>0≤i∧i≤keep.length∧m=nY keep to i.toNat,mu:=fun ((_,i):List (Int×Int)×Int)=>(keep.length - i).toNat } }
 | 12=>some { rd:=[.dat 60 (.arr ty_I),.own 9 3 ty_I,.dat 0 (.arr be),.dat 2 (.arr ty_I)],wr:=[14],A:=fun ((keep,to,a,pinned):List Int×List Int×List Int×List Int)=>{ cs:=[.own 14 50 be,.dat 62 ty_I],inv:=fun ((w,i):List Int×Int)=>0≤i∧i≤keep.length∧((keep.drop i.toNat).all fun at_=>bY keep to (aU a at_))=(keep.all fun at_=>bY keep to (aU a at_))∧w=bQ a keep to pinned (ai a keep pinned).1 i.toNat++List.replicate ((a.length:Int) - aW pinned keep (ai a keep pinned).1 i.toNat).toNat 0,mu:=fun ((_,i):List Int×Int)=>(keep.length - i).toNat } }
 | 18=>some { rd:=[.dat 60 (.arr ty_I),.own 9 3 ty_I,.dat 0 (.arr be),.dat 2 (.arr ty_I),.dat 15 ty_I,.dat 99 ty_I],wr:=[14,19],A:=fun ((keep,to,a,pinned,i,n):List Int×List Int×List Int×List Int×Int×Int)=>{ cs:=[.own 14 50 be,.part 19 14 be,.dat 100 ty_I],inv:=fun ((w,pt,k):List Int×(Nat×Nat)×Int)=>0≤k∧k≤n∧pt.1=(cB pinned keep (ai a keep pinned).1 i.toNat).toNat∧(pt.2:Int)=(ai a keep pinned).1.getD i.toNat 0∧bY keep to ((aU a (keep.getD i.toNat 0)).drop k.toNat)=bY keep to (aU a (keep.getD i.toNat 0)) ∧
   w=(bQ a keep to pinned (ai a keep pinned).1 i.toNat++(gx pinned keep (ai a keep pinned).1 i.toNat++a.getD (keep.getD i.toNat 0).toNat 0::((aU a (keep.getD i.toNat 0)).take k.toNat).map (dO keep to)))++((aU a (keep.getD i.toNat 0)).drop k.toNat++(d7 a (keep.getD i.toNat 0)++List.replicate ((a.length:Int) - aW pinned keep (ai a keep pinned).1 (i.toNat+1)).toNat 0)),mu:=fun ((_,_,k):List Int×(Nat×Nat)×Int)=>(n - k).toNat } }
 | 28=>some { rd:=[.own 129 42 eP,.own 14 50 be],wr:=[14],A:=fun ((g,w0):List bK×List Int)=>{ cs:=[.own 14 50 be,.dat 131 ty_I],inv:=fun ((w,i):List Int×Int)=>0≤i∧i≤g.length∧w.length=w0.length∧w=(g.take i.toNat).foldl eJ w0,mu:=fun ((_,i):List Int×Int)=>(g.length - i).toNat } }
 | _=>none
def Fc:Spec:={ Ts:=[.arr be,.arr ty_I,.arr ty_I],Rs:=[.own 50 be,.own 3 ty_I,.dat ty_I],pre:=fun _=>True,F:=fun ((a,keep,pinned):List Int×List Int×List Int)=>cq a keep pinned }
def zu:Prop :=
  ∀ (x:List Int×List Int×List Int),((x.1.length * 8≤az∧∀ (x_1:Int),x_1∈x.1→ak IntKind.u64 x_1)∧(x.2.1.length * 8≤az∧∀ (x_1:Int),x_1∈x.2.1→ak IntKind.i64 x_1)∧x.2.2.length * 8≤az∧∀ (x_1:Int),x_1∈x.2.2→ak IntKind.i64 x_1)→True→True∧(decide ((ai x.1 x.2.1 x.2.2).2≠0)=true→([]:List Int)=(cq x.1 x.2.1 x.2.2).1∧([]:List Int)=(cq x.1 x.2.1 x.2.2).2.1∧(ai x.1 x.2.1 x.2.2).2=(cq x.1 x.2.1 x.2.2).2.2∧True)∧(decide ((ai x.1 x.2.1 x.2.2).2≠0)=false→((0:Int)≤0∧0≤(↑x.2.1.length:Int)∧dP ([]:List (Int×Int)) 0 0=nY x.2.1 (if (ai x.1 x.2.1 x.2.2).2≠0 then ([]:List Int) else an x.2.1 (ai x.1 x.2.1 x.2.2).1 x.2.2) (Int.toNat 0))∧∀ (x_1:List (Int×Int)×Int),0≤x_1.2∧x_1.2≤(↑x.2.1.length:Int)∧x_1.1=nY x.2.1 (if (ai x.1 x.2.1 x.2.2).2≠0 then ([]:List Int) else an x.2.1 (ai x.1 x.2.1 x.2.2).1 x.2.2) x_1.2.toNat→(decide (x_1.2<(↑x.2.1.length:Int))=true→0≤x_1.2∧x_1.2<(↑x.2.1.length:Int)∧ak IntKind.u64 (IntKind.u64.wrap (x.2.1.getD x_1.2.toNat 0)+1)∧0≤x_1.2∧x_1.2<(↑(if (ai x.1 x.2.1 x.2.2).2≠0 then ([]:List Int) else an x.2.1 (ai x.1 x.2.1 x.2.2).1 x.2.2).length:Int)∧x_1.2.toNat<(if (ai x.1 x.2.1 x.2.2).2≠0 then ([]:List Int) else an x.2.1 (ai x.1 x.2.1 x.2.2).1 x.2.2).length∧ak IntKind.u64 (IntKind.u64.wrap ((if (ai x.1 x.2.1 x.2.2).2≠0 then ([]:List Int) else an x.2.1 (ai x.1 x.2.1 x.2.2).1 x.2.2).getD x_1.2.toNat 0)+1)∧ak IntKind.i64 (x_1.2+1)∧(0≤x_1.2+1∧x_1.2+1≤(↑x.2.1.length:Int)∧dP x_1.1 (IntKind.u64.wrap (x.2.1.getD x_1.2.toNat 0)+1) (IntKind.u64.wrap ((if (ai x.1 x.2.1 x.2.2).2≠0 then ([]:List Int) else an x.2.1 (ai x.1 x.2.1 x.2.2).1 x.2.2).getD x_1.2.toNat 0)+1)=nY x.2.1 (if (ai x.1 x.2.1 x.2.2).2≠0 then ([]:List Int) else an x.2.1 (ai x.1 x.2.1 x.2.2).1 x.2.2) (x_1.2+1).toNat)∧((↑x.2.1.length:Int) - (x_1.2+1)).toNat<((↑x.2.1.length:Int) - x_1.2).toNat)∧(decide (x_1.2<(↑x.2.1.length:Int))=false→0≤(↑x.1.length:Int)∧(↑x.1.length:Int).toNat * 8≤az∧((0:Int)≤0∧0≤(↑x.2.1.length:Int)∧(((List.drop (Int.toNat 0) x.2.1).all fun (at_:Int)=>bY x.2.1 (if (ai x.1 x.2.1 x.2.2).2≠0 then ([]:List Int) else an x.2.1 (ai x.1 x.2.1 x.2.2).1 x.2.2) (aU x.1 at_))=x.2.1.all fun (at_:Int)=>bY x.2.1 (if (ai x.1 x.2.1 x.2.2).2≠0 then ([]:List Int) else an x.2.1 (ai x.1 x.2.1 x.2.2).1 x.2.2) (aU x.1 at_))∧List.replicate (↑x.1.length:Int).toNat 0=bQ x.1 x.2.1 (if (ai x.1 x.2.1 x.2.2).2≠0 then ([]:List Int) else an x.2.1 (ai x.1 x.2.1 x.2.2).1 x.2.2) x.2.2 (ai x.1 x.2.1 x.2.2).1 (Int.toNat 0)++List.replicate ((↑x.1.length:Int) - aW x.2.2 x.2.1 (ai x.1 x.2.1 x.2.2).1 (Int.toNat 0)).toNat 0)∧∀ (x_2:List Int×Int),0≤x_2.2∧x_2.2≤(↑x.2.1.length:Int)∧(((List.drop x_2.2.toNat x.2.1).all fun (at_:Int)=>bY x.2.1 (if (ai x.1 x.2.1 x.2.2).2≠0 then ([]:List Int) else an x.2.1 (ai x.1 x.2.1 x.2.2).1 x.2.2) (aU x.1 at_))=x.2.1.all fun (at_:Int)=>bY x.2.1 (if (ai x.1 x.2.1 x.2.2).2≠0 then ([]:List Int) else an x.2.1 (ai x.1 x.2.1 x.2.2).1 x.2.2) (aU x.1 at_))∧x_2.1=bQ x.1 x.2.1 (if (ai x.1 x.2.1 x.2.2).2≠0 then ([]:List Int) else an x.2.1 (ai x.1 x.2.1 x.2.2).1 x.2.2) x.2.2 (ai x.1 x.2.1 x.2.2).1 x_2.2.toNat++List.replicate ((↑x.1.length:Int) - aW x.2.2 x.2.1 (ai x.1 x.2.1 x.2.2).1 x_2.2.toNat).toNat 0→(decide (x_2.2<(↑x.2.1.length:Int))=true→0≤x_2.2∧x_2.2<(↑x.2.1.length:Int)∧True∧0≤x_2.2∧x_2.2<(↑(if (ai x.1 x.2.1 x.2.2).2≠0 then ([]:List Int) else an x.2.1 (ai x.1 x.2.1 x.2.2).1 x.2.2).length:Int)∧x_2.2.toNat<(if (ai x.1 x.2.1 x.2.2).2≠0 then ([]:List Int) else an x.2.1 (ai x.1 x.2.1 x.2.2).1 x.2.2).length∧0≤x_2.2∧x_2.2<(↑(if (ai x.1 x.2.1 x.2.2).2≠0 then ([]:List Int) else an x.2.1 (ai x.1 x.2.1 x.2.2).1 x.2.2).length:Int)∧x_2.2.toNat<(if (ai x.1 x.2.1 x.2.2).2≠0 then ([]:List Int) else an x.2.1 (ai x.1 x.2.1 x.2.2).1 x.2.2).length∧ak IntKind.i64 ((if (ai x.1 x.2.1 x.2.2).2≠0 then ([]:List Int) else an x.2.1 (ai x.1 x.2.1 x.2.2).1 x.2.2).getD x_2.2.toNat 0+1)∧ak IntKind.i64 ((if (ai x.1 x.2.1 x.2.2).2≠0 then ([]:List Int) else an x.2.1 (ai x.1 x.2.1 x.2.2).1 x.2.2).getD x_2.2.toNat 0+1+(↑(iN x.1 (x.2.1.getD x_2.2.toNat 0)).1.2.1.length:Int))∧ak IntKind.i64 ((if (ai x.1 x.2.1 x.2.2).2≠0 then ([]:List Int) else an x.2.1 (ai x.1 x.2.1 x.2.2).1 x.2.2).getD x_2.2.toNat 0+1+(↑(iN x.1 (x.2.1.getD x_2.2.toNat 0)).1.2.1.length:Int)+(↑(iN x.1 (x.2.1.getD x_2.2.toNat 0)).1.2.2.1.length:Int))∧0≤(if (ai x.1 x.2.1 x.2.2).2≠0 then ([]:List Int) else an x.2.1 (ai x.1 x.2.1 x.2.2).1 x.2.2).getD x_2.2.toNat 0∧(if (ai x.1 x.2.1 x.2.2).2≠0 then ([]:List Int) else an x.2.1 (ai x.1 x.2.1 x.2.2).1 x.2.2).getD x_2.2.toNat 0≤(if (ai x.1 x.2.1 x.2.2).2≠0 then ([]:List Int) else an x.2.1 (ai x.1 x.2.1 x.2.2).1 x.2.2).getD x_2.2.toNat 0+1+(↑(iN x.1 (x.2.1.getD x_2.2.toNat 0)).1.2.1.length:Int)+(↑(iN x.1 (x.2.1.getD x_2.2.toNat 0)).1.2.2.1.length:Int)∧(if (ai x.1 x.2.1 x.2.2).2≠0 then ([]:List Int) else an x.2.1 (ai x.1 x.2.1 x.2.2).1 x.2.2).getD x_2.2.toNat 0+1+(↑(iN x.1 (x.2.1.getD x_2.2.toNat 0)).1.2.1.length:Int)+(↑(iN x.1 (x.2.1.getD x_2.2.toNat 0)).1.2.2.1.length:Int)≤(↑x_2.1.length:Int)∧0≤x.2.1.getD x_2.2.toNat 0∧x.2.1.getD x_2.2.toNat 0≤(↑x.1.length:Int)∧((if (ai x.1 x.2.1 x.2.2).2≠0 then ([]:List Int) else an x.2.1 (ai x.1 x.2.1 x.2.2).1 x.2.2).getD x_2.2.toNat 0).toNat+(((if (ai x.1 x.2.1 x.2.2).2≠0 then ([]:List Int) else an x.2.1 (ai x.1 x.2.1 x.2.2).1 x.2.2).getD x_2.2.toNat 0+1+(↑(iN x.1 (x.2.1.getD x_2.2.toNat 0)).1.2.1.length:Int)+(↑(iN x.1 (x.2.1.getD x_2.2.toNat 0)).1.2.2.1.length:Int)).toNat - ((if (ai x.1 x.2.1 x.2.2).2≠0 then ([]:List Int) else an x.2.1 (ai x.1 x.2.1 x.2.2).1 x.2.2).getD x_2.2.toNat 0).toNat)≤x_2.1.length∧((0:Int)≤0∧0≤(↑(iN x.1 (x.2.1.getD x_2.2.toNat 0)).1.2.1.length:Int)∧((if (ai x.1 x.2.1 x.2.2).2≠0 then ([]:List Int) else an x.2.1 (ai x.1 x.2.1 x.2.2).1 x.2.2).getD x_2.2.toNat 0).toNat=(cB x.2.2 x.2.1 (ai x.1 x.2.1 x.2.2).1 x_2.2.toNat).toNat∧(↑(((if (ai x.1 x.2.1 x.2.2).2≠0 then ([]:List Int) else an x.2.1 (ai x.1 x.2.1 x.2.2).1 x.2.2).getD x_2.2.toNat 0+1+(↑(iN x.1 (x.2.1.getD x_2.2.toNat 0)).1.2.1.length:Int)+(↑(iN x.1 (x.2.1.getD x_2.2.toNat 0)).1.2.2.1.length:Int)).toNat - ((if (ai x.1 x.2.1 x.2.2).2≠0 then ([]:List Int) else an x.2.1 (ai x.1 x.2.1 x.2.2).1 x.2.2).getD x_2.2.toNat 0).toNat):Int)=(ai x.1 x.2.1 x.2.2).1.getD x_2.2.toNat 0∧bY x.2.1 (if (ai x.1 x.2.1 x.2.2).2≠0 then ([]:List Int) else an x.2.1 (ai x.1 x.2.1 x.2.2).1 x.2.2) (List.drop (Int.toNat 0) (aU x.1 (x.2.1.getD x_2.2.toNat 0)))=bY x.2.1 (if (ai x.1 x.2.1 x.2.2).2≠0 then ([]:List Int) else an x.2.1 (ai x.1 x.2.1 x.2.2).1 x.2.2) (aU x.1 (x.2.1.getD x_2.2.toNat 0))∧List.take ((if (ai x.1 x.2.1 x.2.2).2≠0 then ([]:List Int) else an x.2.1 (ai x.1 x.2.1 x.2.2).1 x.2.2).getD x_2.2.toNat 0).toNat x_2.1++(List.take (min (List.drop (x.2.1.getD x_2.2.toNat 0).toNat x.1).length (((if (ai x.1 x.2.1 x.2.2).2≠0 then ([]:List Int) else an x.2.1 (ai x.1 x.2.1 x.2.2).1 x.2.2).getD x_2.2.toNat 0+1+(↑(iN x.1 (x.2.1.getD x_2.2.toNat 0)).1.2.1.length:Int)+(↑(iN x.1 (x.2.1.getD x_2.2.toNat 0)).1.2.2.1.length:Int)).toNat - ((if (ai x.1 x.2.1 x.2.2).2≠0 then ([]:List Int) else an x.2.1 (ai x.1 x.2.1 x.2.2).1 x.2.2).getD x_2.2.toNat 0).toNat)) (List.drop (x.2.1.getD x_2.2.toNat 0).toNat x.1)++List.drop (((if (ai x.1 x.2.1 x.2.2).2≠0 then ([]:List Int) else an x.2.1 (ai x.1 x.2.1 x.2.2).1 x.2.2).getD x_2.2.toNat 0).toNat+min (List.drop (x.2.1.getD x_2.2.toNat 0).toNat x.1).length (((if (ai x.1 x.2.1 x.2.2).2≠0 then ([]:List Int) else an x.2.1 (ai x.1 x.2.1 x.2.2).1 x.2.2).getD x_2.2.toNat 0+1+(↑(iN x.1 (x.2.1.getD x_2.2.toNat 0)).1.2.1.length:Int)+(↑(iN x.1 (x.2.1.getD x_2.2.toNat 0)).1.2.2.1.length:Int)).toNat - ((if (ai x.1 x.2.1 x.2.2).2≠0 then ([]:List Int) else an x.2.1 (ai x.1 x.2.1 x.2.2).1 x.2.2).getD x_2.2.toNat 0).toNat)) x_2.1)=bQ x.1 x.2.1 (if (ai x.1 x.2.1 x.2.2).2≠0 then ([]:List Int) else an x.2.1 (ai x.1 x.2.1 x.2.2).1 x.2.2) x.2.2 (ai x.1 x.2.1 x.2.2).1 x_2.2.toNat++(gx x.2.2 x.2.1 (ai x.1 x.2.1 x.2.2).1 x_2.2.toNat++x.1.getD (x.2.1.getD x_2.2.toNat 0).toNat 0::List.map (dO x.2.1 (if (ai x.1 x.2.1 x.2.2).2≠0 then ([]:List Int) else an x.2.1 (ai x.1 x.2.1 x.2.2).1 x.2.2)) (List.take (Int.toNat 0) (aU x.1 (x.2.1.getD x_2.2.toNat 0))))++(List.drop (Int.toNat 0) (aU x.1 (x.2.1.getD x_2.2.toNat 0))++(d7 x.1 (x.2.1.getD x_2.2.toNat 0)++List.replicate ((↑x.1.length:Int) - aW x.2.2 x.2.1 (ai x.1 x.2.1 x.2.2).1 (x_2.2.toNat+1)).toNat 0)))∧∀ (x_3:List Int×(Nat×Nat)×Int),0≤x_3.2.2∧x_3.2.2≤(↑(iN x.1 (x.2.1.getD x_2.2.toNat 0)).1.2.1.length:Int)∧x_3.2.1.1=(cB x.2.2 x.2.1 (ai x.1 x.2.1 x.2.2).1 x_2.2.toNat).toNat∧(↑x_3.2.1.2:Int)=(ai x.1 x.2.1 x.2.2).1.getD x_2.2.toNat 0∧bY x.2.1 (if (ai x.1 x.2.1 x.2.2).2≠0 then ([]:List Int) else an x.2.1 (ai x.1 x.2.1 x.2.2).1 x.2.2) (List.drop x_3.2.2.toNat (aU x.1 (x.2.1.getD x_2.2.toNat 0)))=bY x.2.1 (if (ai x.1 x.2.1 x.2.2).2≠0 then ([]:List Int) else an x.2.1 (ai x.1 x.2.1 x.2.2).1 x.2.2) (aU x.1 (x.2.1.getD x_2.2.toNat 0))∧x_3.1=bQ x.1 x.2.1 (if (ai x.1 x.2.1 x.2.2).2≠0 then ([]:List Int) else an x.2.1 (ai x.1 x.2.1 x.2.2).1 x.2.2) x.2.2 (ai x.1 x.2.1 x.2.2).1 x_2.2.toNat++(gx x.2.2 x.2.1 (ai x.1 x.2.1 x.2.2).1 x_2.2.toNat++x.1.getD (x.2.1.getD x_2.2.toNat 0).toNat 0::List.map (dO x.2.1 (if (ai x.1 x.2.1 x.2.2).2≠0 then ([]:List Int) else an x.2.1 (ai x.1 x.2.1 x.2.2).1 x.2.2)) (List.take x_3.2.2.toNat (aU x.1 (x.2.1.getD x_2.2.toNat 0))))++(List.drop x_3.2.2.toNat (aU x.1 (x.2.1.getD x_2.2.toNat 0))++(d7 x.1 (x.2.1.getD x_2.2.toNat 0)++List.replicate ((↑x.1.length:Int) - aW x.2.2 x.2.1 (ai x.1 x.2.1 x.2.2).1 (x_2.2.toNat+1)).toNat 0))→(decide (x_3.2.2<(↑(iN x.1 (x.2.1.getD x_2.2.toNat 0)).1.2.1.length:Int))=true→ak IntKind.i64 (1+x_3.2.2)∧0≤1+x_3.2.2∧1+x_3.2.2<(↑x_3.2.1.2:Int)∧x_3.2.1.1+(1+x_3.2.2).toNat<x_3.1.length∧((!(aK x_1.1 (x_3.1.getD (x_3.2.1.1+(1+x_3.2.2).toNat) 0)).isSome)=true→([]:List Int)=(cq x.1 x.2.1 x.2.2).1∧([]:List Int)=(cq x.1 x.2.1 x.2.2).2.1∧8=(cq x.1 x.2.1 x.2.2).2.2∧True)∧((!(aK x_1.1 (x_3.1.getD (x_3.2.1.1+(1+x_3.2.2).toNat) 0)).isSome)=false→ak IntKind.i64 (1+x_3.2.2)∧0≤1+x_3.2.2∧1+x_3.2.2<(↑x_3.2.1.2:Int)∧x_3.2.1.1+(1+x_3.2.2).toNat<x_3.1.length∧ak IntKind.i64 (x_3.2.2+1)∧(0≤x_3.2.2+1∧x_3.2.2+1≤(↑(iN x.1 (x.2.1.getD x_2.2.toNat 0)).1.2.1.length:Int)∧x_3.2.1.1=(cB x.2.2 x.2.1 (ai x.1 x.2.1 x.2.2).1 x_2.2.toNat).toNat∧(↑x_3.2.1.2:Int)=(ai x.1 x.2.1 x.2.2).1.getD x_2.2.toNat 0∧bY x.2.1 (if (ai x.1 x.2.1 x.2.2).2≠0 then ([]:List Int) else an x.2.1 (ai x.1 x.2.1 x.2.2).1 x.2.2) (List.drop (x_3.2.2+1).toNat (aU x.1 (x.2.1.getD x_2.2.toNat 0)))=bY x.2.1 (if (ai x.1 x.2.1 x.2.2).2≠0 then ([]:List Int) else an x.2.1 (ai x.1 x.2.1 x.2.2).1 x.2.2) (aU x.1 (x.2.1.getD x_2.2.toNat 0))∧x_3.1.set (x_3.2.1.1+(1+x_3.2.2).toNat) ((aK x_1.1 (x_3.1.getD (x_3.2.1.1+(1+x_3.2.2).toNat) 0)).getD 0)=bQ x.1 x.2.1 (if (ai x.1 x.2.1 x.2.2).2≠0 then ([]:List Int) else an x.2.1 (ai x.1 x.2.1 x.2.2).1 x.2.2) x.2.2 (ai x.1 x.2.1 x.2.2).1 x_2.2.toNat++(gx x.2.2 x.2.1 (ai x.1 x.2.1 x.2.2).1 x_2.2.toNat++x.1.getD (x.2.1.getD x_2.2.toNat 0).toNat 0::List.map (dO x.2.1 (if (ai x.1 x.2.1 x.2.2).2≠0 then ([]:List Int) else an x.2.1 (ai x.1 x.2.1 x.2.2).1 x.2.2)) (List.take (x_3.2.2+1).toNat (aU x.1 (x.2.1.getD x_2.2.toNat 0))))++(List.drop (x_3.2.2+1).toNat (aU x.1 (x.2.1.getD x_2.2.toNat 0))++(d7 x.1 (x.2.1.getD x_2.2.toNat 0)++List.replicate ((↑x.1.length:Int) - aW x.2.2 x.2.1 (ai x.1 x.2.1 x.2.2).1 (x_2.2.toNat+1)).toNat 0)))∧((↑(iN x.1 (x.2.1.getD x_2.2.toNat 0)).1.2.1.length:Int) - (x_3.2.2+1)).toNat<((↑(iN x.1 (x.2.1.getD x_2.2.toNat 0)).1.2.1.length:Int) - x_3.2.2).toNat))∧(decide (x_3.2.2<(↑(iN x.1 (x.2.1.getD x_2.2.toNat 0)).1.2.1.length:Int))=false→ak IntKind.i64 (x_2.2+1)∧(0≤x_2.2+1∧x_2.2+1≤(↑x.2.1.length:Int)∧(((List.drop (x_2.2+1).toNat x.2.1).all fun (at_:Int)=>bY x.2.1 (if (ai x.1 x.2.1 x.2.2).2≠0 then ([]:List Int) else an x.2.1 (ai x.1 x.2.1 x.2.2).1 x.2.2) (aU x.1 at_))=x.2.1.all fun (at_:Int)=>bY x.2.1 (if (ai x.1 x.2.1 x.2.2).2≠0 then ([]:List Int) else an x.2.1 (ai x.1 x.2.1 x.2.2).1 x.2.2) (aU x.1 at_))∧x_3.1=bQ x.1 x.2.1 (if (ai x.1 x.2.1 x.2.2).2≠0 then ([]:List Int) else an x.2.1 (ai x.1 x.2.1 x.2.2).1 x.2.2) x.2.2 (ai x.1 x.2.1 x.2.2).1 (x_2.2+1).toNat++List.replicate ((↑x.1.length:Int) - aW x.2.2 x.2.1 (ai x.1 x.2.1 x.2.2).1 (x_2.2+1).toNat).toNat 0)∧((↑x.2.1.length:Int) - (x_2.2+1)).toNat<((↑x.2.1.length:Int) - x_2.2).toNat))∧(decide (x_2.2<(↑x.2.1.length:Int))=false→True∧((0:Int)≤0∧0≤(↑(bi x.1 x.2.1 x.2.2).1.length:Int)∧x_2.1.length=x_2.1.length∧x_2.1=List.foldl eJ x_2.1 (List.take (Int.toNat 0) (bi x.1 x.2.1 x.2.2).1))∧∀ (x_3:List Int×Int),0≤x_3.2∧x_3.2≤(↑(bi x.1 x.2.1 x.2.2).1.length:Int)∧x_3.1.length=x_2.1.length∧x_3.1=List.foldl eJ x_2.1 (List.take x_3.2.toNat (bi x.1 x.2.1 x.2.2).1)→(decide (x_3.2<(↑(bi x.1 x.2.1 x.2.2).1.length:Int))=true→0≤x_3.2∧x_3.2<(↑(bi x.1 x.2.1 x.2.2).1.length:Int)∧x_3.2.toNat<(bi x.1 x.2.1 x.2.2).1.length∧ak IntKind.i64 (((bi x.1 x.2.1 x.2.2).1.getD x_3.2.toNat (0,0)).2 - 1)∧True∧0≤((bi x.1 x.2.1 x.2.2).1.getD x_3.2.toNat (0,0)).1∧((bi x.1 x.2.1 x.2.2).1.getD x_3.2.toNat (0,0)).1<(↑x_3.1.length:Int)∧((bi x.1 x.2.1 x.2.2).1.getD x_3.2.toNat (0,0)).1.toNat<x_3.1.length∧ak IntKind.i64 (x_3.2+1)∧(0≤x_3.2+1∧x_3.2+1≤(↑(bi x.1 x.2.1 x.2.2).1.length:Int)∧(x_3.1.set ((bi x.1 x.2.1 x.2.2).1.getD x_3.2.toNat (0,0)).1.toNat (if ac (0,((bi x.1 x.2.1 x.2.2).1.getD x_3.2.toNat (0,0)).2 - 1,0,true)=0 then aR (0,((bi x.1 x.2.1 x.2.2).1.getD x_3.2.toNat (0,0)).2 - 1,0,true) else 0)).length=x_2.1.length∧x_3.1.set ((bi x.1 x.2.1 x.2.2).1.getD x_3.2.toNat (0,0)).1.toNat (if ac (0,((bi x.1 x.2.1 x.2.2).1.getD x_3.2.toNat (0,0)).2 - 1,0,true)=0 then aR (0,((bi x.1 x.2.1 x.2.2).1.getD x_3.2.toNat (0,0)).2 - 1,0,true) else 0)=List.foldl eJ x_2.1 (List.take (x_3.2+1).toNat (bi x.1 x.2.1 x.2.2).1))∧((↑(bi x.1 x.2.1 x.2.2).1.length:Int) - (x_3.2+1)).toNat<((↑(bi x.1 x.2.1 x.2.2).1.length:Int) - x_3.2).toNat)∧(decide (x_3.2<(↑(bi x.1 x.2.1 x.2.2).1.length:Int))=false→x_3.1=(cq x.1 x.2.1 x.2.2).1∧(if (ai x.1 x.2.1 x.2.2).2≠0 then ([]:List Int) else an x.2.1 (ai x.1 x.2.1 x.2.2).1 x.2.2)=(cq x.1 x.2.1 x.2.2).2.1∧0=(cq x.1 x.2.1 x.2.2).2.2∧True))))
theorem Dm:zu:=by
 unfold zu
 intro ⟨a,keep,pinned⟩ ⟨⟨hb,hw⟩,_⟩ _
 unfold az at hb
 simp only at hb hw ⊢
 have hF:cq a keep pinned=if (ai a keep pinned).2≠0 then ([],[],(ai a keep pinned).2)
  else if (keep.all fun at_=>bY keep (an keep (ai a keep pinned).1 pinned) (aU a at_))=true then
   (js a keep (an keep (ai a keep pinned).1 pinned) pinned (ai a keep pinned).1 (bI a.length keep (ai a keep pinned).1 pinned),an keep (ai a keep pinned).1 pinned,0)
  else ([],[],8):=rfl
 rw [hF]
 refine ⟨trivial,fun hc=>?_,fun hc=>?_⟩
 ·rw [if_pos (of_decide_eq_true hc)]
  exact ⟨rfl,rfl,rfl,trivial⟩
 have hz:(ai a keep pinned).2=0:=by simpa using of_decide_eq_false hc
 have hP:=xp hz
 have hG:bi a keep pinned=(bI a.length keep (ai a keep pinned).1 pinned,0):=by
  unfold bi
  rw [if_neg (by omega),hz]
 rw [if_neg (by omega),if_neg (by omega),hG]
 clear hF hG hc hz
 generalize (ai a keep pinned).1=long at *
 have hto:(an keep long pinned).length=keep.length:=by simp [an]
 have htg:∀ i:Nat,i<keep.length→(an keep long pinned).getD i 0=cB pinned keep long i:=by
  intro i hi
  unfold an
  rw [List.getD_eq_getElem?_getD,List.getElem?_map,List.getElem?_range hi]
  rfl
 have hk0:∀ x∈keep,0≤x:=fun x hx=>(hP.pre.2.2.1 x hx).1
 have hkl:=hP.pre.2.1
 have hlong:=hP.pre.1
 have hal:=hP.al
 have hgi:=qb hP
 have hgl:=ke a.length keep long pinned
 rw [hto]
 generalize an keep long pinned=to at *
 generalize bI a.length keep long pinned=g at *
 refine ⟨⟨by omega,by omega,rfl⟩,fun ⟨m,i⟩ ⟨h0,h1,h2⟩=>⟨fun hlt=>?_,fun hge=>?_⟩⟩
 ·have hlt':i<(keep.length:Int):=of_decide_eq_true hlt
  simp only at h0 h1 h2 ⊢
  have hx:=hP.pre.2.2.1 _ (aD (0:Int) h0 hlt')
  have ht:=jq pinned hP.pre (i:=i.toNat) (by omega)
  rw [← htg i.toNat (by omega)] at ht
  rw [gj (n:=keep.getD i.toNat 0) (by omega) (by omega),gj (n:=to.getD i.toNat 0) (by omega) (by omega)]
  simp only [ak]
  refine ⟨h0,hlt',by omega,h0,by omega,by omega,by omega,by omega,⟨by omega,by omega,?_⟩,by omega⟩
  rw [show (i+1).toNat=i.toNat+1 by omega,h2]
  rfl
 have hge:¬ i<(keep.length:Int):=of_decide_eq_false hge
 simp only at h0 h1 h2 ⊢
 rw [show i.toNat=keep.length by omega] at h2
 subst h2
 clear h0 h1 hge
 unfold az
 refine ⟨by omega,by omega,⟨by omega,by omega,rfl,?_⟩,fun ⟨w,i⟩ ⟨b0,b1,b2,b3⟩=>⟨fun hlt=>?_,fun hge=>?_⟩⟩
 ·simp [bQ,aW]
 ·have hlt':i<(keep.length:Int):=of_decide_eq_true hlt
  simp only at b0 b1 b2 b3 ⊢
  have hib:=hP.isb _ (aD (0:Int) b0 hlt')
  obtain ⟨l1,l2,l3,l4,l5,l6⟩:=cp hib
  obtain ⟨o1,o2⟩:=Dg hP.chk hib
  have hle:=hP.le i.toNat (by omega)
  have hlg:=hP.lg i.toNat (by omega)
  have hul:=fu to hP i.toNat (by omega)
  have hE0:=bR pinned hP.pre i.toNat (by omega)
  have hE1:aW pinned keep long (i.toNat+1)=cB pinned keep long i.toNat+long.getD i.toNat 0:=rfl
  have hwl:w.length=a.length:=by
   rw [b3,List.length_append,List.length_replicate]
   omega
  rw [aS (0:Int) b0 hlt',List.all_cons,show (i+1).toNat=i.toNat+1 by omega] at b2
  have hup:bQ a keep to pinned long (i.toNat+1)=bQ a keep to pinned long i.toNat++(gx pinned keep long i.toNat++f9 a keep to (keep.getD i.toNat 0)):=rfl
  have hpw:f9 a keep to (keep.getD i.toNat 0)=a.getD (keep.getD i.toNat 0).toNat 0::((aU a (keep.getD i.toNat 0)).map (dO keep to)++d7 a (keep.getD i.toNat 0)):=rfl
  have hgw:(gx pinned keep long i.toNat).length=(cB pinned keep long i.toNat - aW pinned keep long i.toNat).toNat:=by simp [gx]
  have hgd:gx pinned keep long i.toNat=List.replicate (cB pinned keep long i.toNat - aW pinned keep long i.toNat).toNat 0:=rfl
  have howd:=BY hib
  rw [htg i.toNat (by omega),o1,o2,show (i+1).toNat=i.toNat+1 by omega,hup,hpw]
  clear hup hpw o1 o2 hib
  generalize keep.getD i.toNat 0=at_ at *
  have hfst:(dD a at_).1=((aU a at_).length:Int):=l1.symm
  have hsnd:(dD a at_).2.1=((d7 a at_).length:Int):=l2.symm
  rw [hfst,hsnd] at hlg howd l4
  generalize aU a at_=rs at *
  generalize d7 a at_=bd at *
  rw [hlg] at hle hE1 ⊢
  rw [hE1]
  generalize hS:bQ a keep to pinned long i.toNat=S at *
  generalize gx pinned keep long i.toNat=G at *
  generalize cB pinned keep long i.toNat=t at *
  generalize aW pinned keep long i.toNat=e at *
  have hmin:min (a.drop at_.toNat).length ((t+1+(rs.length:Int)+(bd.length:Int)).toNat - t.toNat)=(1+(rs.length:Int)+(bd.length:Int)).toNat:=by
   rw [List.length_drop]
   omega
  simp only [ak]
  refine ⟨b0,hlt',trivial,b0,by omega,by omega,b0,by omega,by omega,by omega,by omega,by omega,by omega,by omega,by omega,by omega,by omega,by omega,
   ⟨by omega,by omega,trivial,by omega,rfl,?_⟩,fun ⟨w',⟨p1,p2⟩,k⟩ ⟨c0,c1,c2,c3,c4,c5⟩=>⟨fun hk=>?_,fun hk=>?_⟩⟩
  ·rw [hmin,howd]
   have ht1:w.take t.toNat=S++G:=by
    rw [b3,List.take_append,List.take_of_length_le (by omega),List.take_replicate,hgd]
    congr 2
    omega
   have ht2:w.drop (t.toNat+(1+(rs.length:Int)+(bd.length:Int)).toNat)=List.replicate ((a.length:Int) - (t+(1+(rs.length:Int)+(bd.length:Int)))).toNat 0:=by
    rw [b3,List.drop_append,List.drop_of_length_le (by omega),List.nil_append,List.drop_replicate]
    congr 1
    omega
   rw [ht1,ht2]
   simp [List.append_assoc]
  ·have hk:k<(rs.length:Int):=of_decide_eq_true hk
   simp only at c0 c1 c2 c3 c4 c5 ⊢
   rw [aS (0:Int) c0 hk] at c4 c5
   have hsn:=bj (0:Int) c0 hk
   rw [hsn,List.map_append]
   generalize rs.getD k.toNat 0=x at *
   have hA:(S++(G++a.getD at_.toNat 0::(rs.take k.toNat).map (dO keep to))).length=p1+(1+k).toNat:=by
    simp only [List.length_append,List.length_cons,List.length_map,List.length_take]
    omega
   have hw':w'.length=a.length:=by
    rw [c5]
    simp only [List.length_append,List.length_cons,List.length_map,List.length_take,List.length_drop,List.length_replicate]
    omega
   rw [List.cons_append] at c5
   have hget:w'.getD (p1+(1+k).toNat) 0=x:=by rw [c5]; exact Hi hA.symm
   have hset:∀ y,w'.set (p1+(1+k).toNat) y=(S++(G++a.getD at_.toNat 0::(rs.take k.toNat).map (dO keep to)))++y::(rs.drop (k+1).toNat++(bd++List.replicate ((a.length:Int) - (t+(1+(rs.length:Int)+(bd.length:Int)))).toNat 0)):=fun y=>by
    rw [c5]; exact jK y hA.symm
   rw [hget,hset,FP hP.rs hk0]
   have hg1:bY keep to (x::rs.drop (k+1).toNat)=((gk keep to x).isSome&&bY keep to (rs.drop (k+1).toNat)):=rfl
   rw [hg1] at c4
   refine ⟨by omega,by omega,by omega,by omega,fun hn=>?_,fun hn=>⟨by omega,by omega,by omega,by omega,by omega,⟨by omega,by omega,c2,c3,?_,?_⟩,by omega⟩⟩
   ·have hn:(gk keep to x).isSome=false:=by simpa using hn
    rw [hn,Bool.false_and] at c4
    rw [← c4,Bool.false_and] at b2
    rw [if_neg (by rw [← b2]; simp)]
    exact ⟨rfl,rfl,rfl,trivial⟩
   ·have hn:(gk keep to x).isSome=true:=by simpa using hn
    rw [hn,Bool.true_and] at c4
    exact c4
   ·have hm:[x].map (dO keep to)=[(gk keep to x).getD 0]:=rfl
    rw [hm]
    simp [List.append_assoc]
  ·have hk:¬ k<(rs.length:Int):=of_decide_eq_false hk
   simp only at c0 c1 c2 c3 c4 c5 ⊢
   rw [bn hk] at c4 c5
   rw [bE hk] at c5
   have hg0:bY keep to []=true:=rfl
   rw [hg0] at c4
   rw [← c4,Bool.true_and] at b2
   refine ⟨by omega,⟨by omega,by omega,b2,?_⟩,by omega⟩
   rw [c5]
   simp [List.append_assoc]
 ·have hge:¬ i<(keep.length:Int):=of_decide_eq_false hge
  simp only at b0 b1 b2 b3 ⊢
  rw [bn hge,List.all_nil] at b2
  rw [if_pos b2.symm]
  rw [show i.toNat=keep.length by omega] at b3
  have hul:=fu to hP keep.length (Nat.le_refl _)
  have hE0:=bR pinned hP.pre keep.length (Nat.le_refl _)
  have hen:=hP.en
  have hwl:w.length=a.length:=by
   rw [b3,List.length_append,List.length_replicate]
   omega
  have hW:js a keep to pinned long g=g.foldl eJ w:=by
   rw [b3]
   rfl
  rw [hW]
  refine ⟨trivial,⟨by omega,by omega,trivial,rfl⟩,fun ⟨w',j⟩ ⟨d0,d1,d2,d3⟩=>⟨fun hj=>?_,fun hj=>?_⟩⟩
  ·have hj:j<(g.length:Int):=of_decide_eq_true hj
   simp only at d0 d1 d2 d3 ⊢
   have hr:=hgi _ (aD ((0,0):bK) d0 hj)
   have hsn:=bj ((0,0):bK) d0 hj
   rw [hsn,List.foldl_append,← d3]
   generalize g.getD j.toNat (0,0)=r at *
   have hh:ac (0,r.2 - 1,0,true)=0:=by
    simp [ac,ab]
    omega
   rw [if_pos hh,List.length_set]
   simp only [ak]
   exact ⟨d0,hj,by omega,by omega,trivial,hr.1,by omega,by omega,by omega,⟨by omega,by omega,d2,rfl⟩,by omega⟩
  ·have hj:¬ j<(g.length:Int):=of_decide_eq_false hj
   simp only at d3 ⊢
   rw [bE hj] at d3
   exact ⟨d3,trivial,trivial,trivial⟩
theorem FG:Fc.ok Tryz.prog 139:=aI (ann:=GE) (ae Eh (ae vJ (ae zP (ae i9 ap)))) Tryz.func139 (by kernel_rfl) Dm
end Go.Proofs.YtglchojglcobjaaGreat
