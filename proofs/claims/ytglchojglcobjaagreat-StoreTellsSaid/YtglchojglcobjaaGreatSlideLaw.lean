
import Derived.Test.YtglchojglcobjaaGreatSlide
namespace Go.Proofs.YtglchojglcobjaaGreat
open Go
set_option maxRecDepth 100000
set_option maxHeartbeats 1000000
theorem planGaps_eq {a keep pinned:List Int} (hz:(longsF a keep pinned).2=0):runsGo (fun k=>!covS (spotsF a).1 keep (planS keep (keep.map (lgOf (spotsF a).1)) pinned) k) a.length 0 []=planGapsL a.length keep (keep.map (lgOf (spotsF a).1)) pinned:=by
 have hp:=longs_pre hz
 obtain ⟨k1,k2,k3,k4,k5,k6⟩:=longs_ok hz
 obtain ⟨d1,d2⟩:=keep_disj hz
 rw [k6] at hp
 have hG:∀ k:Nat,k<keep.length→(keep.map (lgOf (spotsF a).1)).getD k 0=lgOf (spotsF a).1 (keep.getD k 0):=by
  intro k hk
  rw [List.getD_eq_getElem?_getD,List.getElem?_map,List.getD_eq_getElem?_getD,List.getElem?_eq_getElem hk]
  rfl
 exact gaps_runs (pinned:=pinned) hp d1 d2 (fun k=>by
  congr 1
  unfold covS
  have any_congr:∀ (l:List Nat) (p q:Nat→Bool),(∀ i∈l,p i=q i)→l.any p=l.any q:=by
   intro l p q h
   induction l with
   | nil=>rfl
   | cons x l ih=>rw [List.any_cons,List.any_cons,h x (by simp),ih (fun i hi=>h i (by simp [hi]))]
  apply any_congr
  intro i hi
  have hi:=List.mem_range.1 hi
  have hg:(planS keep (keep.map (lgOf (spotsF a).1)) pinned).getD i 0=toS pinned keep (keep.map (lgOf (spotsF a).1)) i:=by
   unfold planS
   rw [List.getD_eq_getElem?_getD,List.getElem?_map,List.getElem?_range hi]
   rfl
  rw [hg,hG i hi])
theorem ref_name {keep to:List Int} (hk:∀ x∈keep,0≤x∧x≤255) {v:Int} (h0:0≤v) :
  (nameOf v<0→refTo keep to v=some 0)∧(¬ nameOf v<0→(place keep (nameOf v)<0→refTo keep to v=none)∧(¬ place keep (nameOf v)<0→refTo keep to v=some (to.getD (place keep (nameOf v)).toNat 0+1)∧place keep (nameOf v)<(keep.length:Int))):=by
 have hlt:=findFrom_lt (fun x=>decide (x=nameOf v)) 0 keep 0 (by omega)
 have hin:(decide (0≤place keep (nameOf v)))=inL keep (nameOf v):=findFrom_any _ keep 0 (by omega)
 unfold refTo
 unfold nameOf at *
 by_cases hv:v=0
 ·subst hv
  simp
 ·rw [if_neg hv]
  have hno:∀ n:Int,255<n→inL keep n=false:=by
   intro n hn
   unfold inL
   rw [List.any_eq_false]
   intro x hx
   have:=hk x hx
   simp only [decide_eq_true_eq]
   omega
  by_cases hb:256<v
  ·rw [if_pos hb] at *
   refine ⟨fun h=>by omega,fun _=>⟨fun _=>by rw [if_neg (by rw [hno (v - 1) (by omega)]; simp)],fun h=>?_⟩⟩
   rw [hno (9999 - 1) (by omega)] at hin
   have:=of_decide_eq_false hin
   omega
  ·rw [if_neg hb] at *
   refine ⟨fun h=>by omega,fun _=>⟨fun h=>?_,fun h=>⟨?_,by unfold place; omega⟩⟩⟩
   ·rw [if_neg (by rw [← hin]; simp; omega)]
   ·rw [if_pos (by rw [← hin]; simp; omega)]
theorem bodyA_get {a:List Int} {at_ k:Int} (h0:0≤k) (h1:k<(bodyA a at_).length) (l2:((bodyA a at_).length:Int)=(hdA a at_).2.1) (l3:0≤at_) (l5:0≤(hdA a at_).1) :
  a.getD (at_+1+(hdA a at_).1+k).toNat 0=(bodyA a at_).getD k.toNat 0:=by
 rw [l2] at h1
 unfold bodyA spotBody
 simp only
 generalize (hdA a at_).1=r at *
 generalize (hdA a at_).2.1=b at *
 rw [List.getD_eq_getElem?_getD (l:=a),List.getD_eq_getElem?_getD,List.getElem?_drop,List.getElem?_take,if_pos (by omega)]
 congr 2
 omega
def slidR (a keep pinned:List Int):List Int×Bool :=
 if (keep.all fun at_=>goodR keep (planS keep (keep.map (lgOf (spotsF a).1)) pinned) (refsA a at_))=true then
  (slidW a keep (planS keep (keep.map (lgOf (spotsF a).1)) pinned) pinned (keep.map (lgOf (spotsF a).1)) (planGapsL a.length keep (keep.map (lgOf (spotsF a).1)) pinned),true)
 else ([],false)
def an_rSlid:Nat→Option LoopGen
 | 4=>some { rd:=[.dat 27 (.arr ty_I),.own 8 3 ty_I,.dat 0 (.arr ty_W),.dat 2 (.arr ty_I)],wr:=[9],A:=fun ((keep,to,a,pinned):List Int×List Int×List Int×List Int)=>{ cs:=[.own 9 50 ty_W,.dat 29 ty_I],inv:=fun ((w,i):List Int×Int)=>0≤i∧i≤keep.length∧((keep.drop i.toNat).all fun at_=>goodR keep to (refsA a at_))=(keep.all fun at_=>goodR keep to (refsA a at_))∧w=slidUp a keep to pinned (keep.map (lgOf (spotsF a).1)) i.toNat++List.replicate ((a.length:Int) - endS pinned keep (keep.map (lgOf (spotsF a).1)) i.toNat).toNat 0,mu:=fun ((_,i):List Int×Int)=>(keep.length - i).toNat } }
 | 9=>some { rd:=[.dat 1 (.arr ty_I),.own 8 3 ty_I,.dat 0 (.arr ty_W),.dat 2 (.arr ty_I),.dat 10 ty_I,.dat 51 ty_I],wr:=[9],A:=fun ((keep,to,a,pinned,i,n):List Int×List Int×List Int×List Int×Int×Int)=>{ cs:=[.own 9 50 ty_W,.dat 52 ty_I],inv:=fun ((w,k):List Int×Int)=>0≤k∧k≤n∧goodR keep to ((refsA a (keep.getD i.toNat 0)).drop k.toNat)=goodR keep to (refsA a (keep.getD i.toNat 0)) ∧
   w=(slidUp a keep to pinned (keep.map (lgOf (spotsF a).1)) i.toNat++(gapW pinned keep (keep.map (lgOf (spotsF a).1)) i.toNat++a.getD (keep.getD i.toNat 0).toNat 0::((refsA a (keep.getD i.toNat 0)).take k.toNat).map (mapTo keep to)))++List.replicate ((a.length:Int) - (toS pinned keep (keep.map (lgOf (spotsF a).1)) i.toNat+1+k)).toNat 0,mu:=fun ((_,k):List Int×Int)=>(n - k).toNat } }
 | 18=>some { rd:=[.dat 1 (.arr ty_I),.own 8 3 ty_I,.dat 0 (.arr ty_W),.dat 2 (.arr ty_I),.dat 10 ty_I,.dat 81 ty_I],wr:=[9],A:=fun ((keep,to,a,pinned,i,n):List Int×List Int×List Int×List Int×Int×Int)=>{ cs:=[.own 9 50 ty_W,.dat 82 ty_I],inv:=fun ((w,k):List Int×Int)=>0≤k∧k≤n ∧
   w=(slidUp a keep to pinned (keep.map (lgOf (spotsF a).1)) i.toNat++(gapW pinned keep (keep.map (lgOf (spotsF a).1)) i.toNat++a.getD (keep.getD i.toNat 0).toNat 0::((refsA a (keep.getD i.toNat 0)).map (mapTo keep to)++(bodyA a (keep.getD i.toNat 0)).take k.toNat)))++List.replicate ((a.length:Int) - (toS pinned keep (keep.map (lgOf (spotsF a).1)) i.toNat+1+(refsA a (keep.getD i.toNat 0)).length+k)).toNat 0,mu:=fun ((_,k):List Int×Int)=>(n - k).toNat } }
 | 24=>some { rd:=[.own 112 42 ty_Gap,.own 9 50 ty_W],wr:=[9],A:=fun ((g,w0):List Gap×List Int)=>{ cs:=[.own 9 50 ty_W,.dat 114 ty_I],inv:=fun ((w,i):List Int×Int)=>0≤i∧i≤g.length∧w.length=w0.length∧w=(g.take i.toNat).foldl freeSet w0,mu:=fun ((_,i):List Int×Int)=>(g.length - i).toNat } }
 | _=>none
def sp_rSlid:Spec:={ Ts:=[.arr ty_W,.arr ty_I,.arr ty_I],Rs:=[.own 50 ty_W,.dat .bool],pre:=fun ((a,keep,pinned):List Int×List Int×List Int)=>(longsF a keep pinned).2=0,F:=fun ((a,keep,pinned):List Int×List Int×List Int)=>slidR a keep pinned }
def pv_rSlid:Prop :=
  ∀ (x:List Int×List Int×List Int),((x.1.length * (8:Nat)≤big∧∀ (x_1:Int),x_1∈x.1→InR IntKind.u64 x_1)∧(x.2.1.length * (8:Nat)≤big∧∀ (x_1:Int),x_1∈x.2.1→InR IntKind.i64 x_1)∧x.2.2.length * (8:Nat)≤big∧∀ (x_1:Int),x_1∈x.2.2→InR IntKind.i64 x_1)→(longsF x.1 x.2.1 x.2.2).2=(0:Int)→planPre x.2.1 (List.map (lgOf (spotsF x.1).1) x.2.1)∧(0:Int)≤(↑x.1.length:Int)∧(↑x.1.length:Int).toNat * (8:Nat)≤big∧((0:Int)≤(0:Int)∧(0:Int)≤(↑x.2.1.length:Int)∧(((List.drop (Int.toNat (0:Int)) x.2.1).all fun (at_:Int)=>goodR x.2.1 (planS x.2.1 (List.map (lgOf (spotsF x.1).1) x.2.1) x.2.2) (refsA x.1 at_))=x.2.1.all fun (at_:Int)=>goodR x.2.1 (planS x.2.1 (List.map (lgOf (spotsF x.1).1) x.2.1) x.2.2) (refsA x.1 at_))∧List.replicate (↑x.1.length:Int).toNat (0:Int)=slidUp x.1 x.2.1 (planS x.2.1 (List.map (lgOf (spotsF x.1).1) x.2.1) x.2.2) x.2.2 (List.map (lgOf (spotsF x.1).1) x.2.1) (Int.toNat (0:Int))++List.replicate ((↑x.1.length:Int) - endS x.2.2 x.2.1 (List.map (lgOf (spotsF x.1).1) x.2.1) (Int.toNat (0:Int))).toNat (0:Int))∧∀ (x_1:List Int×Int),(0:Int)≤x_1.2∧x_1.2≤(↑x.2.1.length:Int)∧(((List.drop x_1.2.toNat x.2.1).all fun (at_:Int)=>goodR x.2.1 (planS x.2.1 (List.map (lgOf (spotsF x.1).1) x.2.1) x.2.2) (refsA x.1 at_))=x.2.1.all fun (at_:Int)=>goodR x.2.1 (planS x.2.1 (List.map (lgOf (spotsF x.1).1) x.2.1) x.2.2) (refsA x.1 at_))∧x_1.1=slidUp x.1 x.2.1 (planS x.2.1 (List.map (lgOf (spotsF x.1).1) x.2.1) x.2.2) x.2.2 (List.map (lgOf (spotsF x.1).1) x.2.1) x_1.2.toNat++List.replicate ((↑x.1.length:Int) - endS x.2.2 x.2.1 (List.map (lgOf (spotsF x.1).1) x.2.1) x_1.2.toNat).toNat (0:Int)→(decide (x_1.2<(↑x.2.1.length:Int))=true→(0:Int)≤x_1.2∧x_1.2<(↑x.2.1.length:Int)∧True∧(0:Int)≤x_1.2∧x_1.2<(↑(planS x.2.1 (List.map (lgOf (spotsF x.1).1) x.2.1) x.2.2).length:Int)∧x_1.2.toNat<(planS x.2.1 (List.map (lgOf (spotsF x.1).1) x.2.1) x.2.2).length∧headFault (headAtL (x.2.1.getD x_1.2.toNat (0:Int)) (spotsF x.1).1).1=(0:Int)∧(0:Int)≤(planS x.2.1 (List.map (lgOf (spotsF x.1).1) x.2.1) x.2.2).getD x_1.2.toNat (0:Int)∧(planS x.2.1 (List.map (lgOf (spotsF x.1).1) x.2.1) x.2.2).getD x_1.2.toNat (0:Int)<(↑x_1.1.length:Int)∧((planS x.2.1 (List.map (lgOf (spotsF x.1).1) x.2.1) x.2.2).getD x_1.2.toNat (0:Int)).toNat<x_1.1.length∧True∧((0:Int)≤(0:Int)∧(0:Int)≤(↑(namedL x.1 (x.2.1.getD x_1.2.toNat (0:Int)) (headAtL (x.2.1.getD x_1.2.toNat (0:Int)) (spotsF x.1).1).1).length:Int)∧goodR x.2.1 (planS x.2.1 (List.map (lgOf (spotsF x.1).1) x.2.1) x.2.2) (List.drop (Int.toNat (0:Int)) (refsA x.1 (x.2.1.getD x_1.2.toNat (0:Int))))=goodR x.2.1 (planS x.2.1 (List.map (lgOf (spotsF x.1).1) x.2.1) x.2.2) (refsA x.1 (x.2.1.getD x_1.2.toNat (0:Int)))∧x_1.1.set ((planS x.2.1 (List.map (lgOf (spotsF x.1).1) x.2.1) x.2.2).getD x_1.2.toNat (0:Int)).toNat (headWord (headAtL (x.2.1.getD x_1.2.toNat (0:Int)) (spotsF x.1).1).1)=slidUp x.1 x.2.1 (planS x.2.1 (List.map (lgOf (spotsF x.1).1) x.2.1) x.2.2) x.2.2 (List.map (lgOf (spotsF x.1).1) x.2.1) x_1.2.toNat++(gapW x.2.2 x.2.1 (List.map (lgOf (spotsF x.1).1) x.2.1) x_1.2.toNat++x.1.getD (x.2.1.getD x_1.2.toNat (0:Int)).toNat (0:Int)::List.map (mapTo x.2.1 (planS x.2.1 (List.map (lgOf (spotsF x.1).1) x.2.1) x.2.2)) (List.take (Int.toNat (0:Int)) (refsA x.1 (x.2.1.getD x_1.2.toNat (0:Int)))))++List.replicate ((↑x.1.length:Int) - (toS x.2.2 x.2.1 (List.map (lgOf (spotsF x.1).1) x.2.1) x_1.2.toNat+(1:Int)+(0:Int))).toNat (0:Int))∧∀ (x_2:List Int×Int),(0:Int)≤x_2.2∧x_2.2≤(↑(namedL x.1 (x.2.1.getD x_1.2.toNat (0:Int)) (headAtL (x.2.1.getD x_1.2.toNat (0:Int)) (spotsF x.1).1).1).length:Int)∧goodR x.2.1 (planS x.2.1 (List.map (lgOf (spotsF x.1).1) x.2.1) x.2.2) (List.drop x_2.2.toNat (refsA x.1 (x.2.1.getD x_1.2.toNat (0:Int))))=goodR x.2.1 (planS x.2.1 (List.map (lgOf (spotsF x.1).1) x.2.1) x.2.2) (refsA x.1 (x.2.1.getD x_1.2.toNat (0:Int)))∧x_2.1=slidUp x.1 x.2.1 (planS x.2.1 (List.map (lgOf (spotsF x.1).1) x.2.1) x.2.2) x.2.2 (List.map (lgOf (spotsF x.1).1) x.2.1) x_1.2.toNat++(gapW x.2.2 x.2.1 (List.map (lgOf (spotsF x.1).1) x.2.1) x_1.2.toNat++x.1.getD (x.2.1.getD x_1.2.toNat (0:Int)).toNat (0:Int)::List.map (mapTo x.2.1 (planS x.2.1 (List.map (lgOf (spotsF x.1).1) x.2.1) x.2.2)) (List.take x_2.2.toNat (refsA x.1 (x.2.1.getD x_1.2.toNat (0:Int)))))++List.replicate ((↑x.1.length:Int) - (toS x.2.2 x.2.1 (List.map (lgOf (spotsF x.1).1) x.2.1) x_1.2.toNat+(1:Int)+x_2.2)).toNat (0:Int)→(decide (x_2.2<(↑(namedL x.1 (x.2.1.getD x_1.2.toNat (0:Int)) (headAtL (x.2.1.getD x_1.2.toNat (0:Int)) (spotsF x.1).1).1).length:Int))=true→(0:Int)≤x_2.2∧x_2.2<(↑(namedL x.1 (x.2.1.getD x_1.2.toNat (0:Int)) (headAtL (x.2.1.getD x_1.2.toNat (0:Int)) (spotsF x.1).1).1).length:Int)∧x_2.2.toNat<(namedL x.1 (x.2.1.getD x_1.2.toNat (0:Int)) (headAtL (x.2.1.getD x_1.2.toNat (0:Int)) (spotsF x.1).1).1).length∧(decide ((namedL x.1 (x.2.1.getD x_1.2.toNat (0:Int)) (headAtL (x.2.1.getD x_1.2.toNat (0:Int)) (spotsF x.1).1).1).getD x_2.2.toNat (0:Int)<(0:Int))=true→InR IntKind.i64 (x_2.2+(1:Int))∧((0:Int)≤x_2.2+(1:Int)∧x_2.2+(1:Int)≤(↑(namedL x.1 (x.2.1.getD x_1.2.toNat (0:Int)) (headAtL (x.2.1.getD x_1.2.toNat (0:Int)) (spotsF x.1).1).1).length:Int)∧goodR x.2.1 (planS x.2.1 (List.map (lgOf (spotsF x.1).1) x.2.1) x.2.2) (List.drop (x_2.2+(1:Int)).toNat (refsA x.1 (x.2.1.getD x_1.2.toNat (0:Int))))=goodR x.2.1 (planS x.2.1 (List.map (lgOf (spotsF x.1).1) x.2.1) x.2.2) (refsA x.1 (x.2.1.getD x_1.2.toNat (0:Int)))∧x_2.1=slidUp x.1 x.2.1 (planS x.2.1 (List.map (lgOf (spotsF x.1).1) x.2.1) x.2.2) x.2.2 (List.map (lgOf (spotsF x.1).1) x.2.1) x_1.2.toNat++(gapW x.2.2 x.2.1 (List.map (lgOf (spotsF x.1).1) x.2.1) x_1.2.toNat++x.1.getD (x.2.1.getD x_1.2.toNat (0:Int)).toNat (0:Int)::List.map (mapTo x.2.1 (planS x.2.1 (List.map (lgOf (spotsF x.1).1) x.2.1) x.2.2)) (List.take (x_2.2+(1:Int)).toNat (refsA x.1 (x.2.1.getD x_1.2.toNat (0:Int)))))++List.replicate ((↑x.1.length:Int) - (toS x.2.2 x.2.1 (List.map (lgOf (spotsF x.1).1) x.2.1) x_1.2.toNat+(1:Int)+(x_2.2+(1:Int)))).toNat (0:Int))∧((↑(namedL x.1 (x.2.1.getD x_1.2.toNat (0:Int)) (headAtL (x.2.1.getD x_1.2.toNat (0:Int)) (spotsF x.1).1).1).length:Int) - (x_2.2+(1:Int))).toNat<((↑(namedL x.1 (x.2.1.getD x_1.2.toNat (0:Int)) (headAtL (x.2.1.getD x_1.2.toNat (0:Int)) (spotsF x.1).1).1).length:Int) - x_2.2).toNat)∧(decide ((namedL x.1 (x.2.1.getD x_1.2.toNat (0:Int)) (headAtL (x.2.1.getD x_1.2.toNat (0:Int)) (spotsF x.1).1).1).getD x_2.2.toNat (0:Int)<(0:Int))=false→True∧(decide (place x.2.1 ((namedL x.1 (x.2.1.getD x_1.2.toNat (0:Int)) (headAtL (x.2.1.getD x_1.2.toNat (0:Int)) (spotsF x.1).1).1).getD x_2.2.toNat (0:Int))<(0:Int))=true→([]:List Int)=(slidR x.1 x.2.1 x.2.2).1∧false=(slidR x.1 x.2.1 x.2.2).2∧True)∧(decide (place x.2.1 ((namedL x.1 (x.2.1.getD x_1.2.toNat (0:Int)) (headAtL (x.2.1.getD x_1.2.toNat (0:Int)) (spotsF x.1).1).1).getD x_2.2.toNat (0:Int))<(0:Int))=false→(0:Int)≤x_1.2∧x_1.2<(↑(planS x.2.1 (List.map (lgOf (spotsF x.1).1) x.2.1) x.2.2).length:Int)∧x_1.2.toNat<(planS x.2.1 (List.map (lgOf (spotsF x.1).1) x.2.1) x.2.2).length∧InR IntKind.i64 ((planS x.2.1 (List.map (lgOf (spotsF x.1).1) x.2.1) x.2.2).getD x_1.2.toNat (0:Int)+(1:Int))∧InR IntKind.i64 ((planS x.2.1 (List.map (lgOf (spotsF x.1).1) x.2.1) x.2.2).getD x_1.2.toNat (0:Int)+(1:Int)+x_2.2)∧(0:Int)≤place x.2.1 ((namedL x.1 (x.2.1.getD x_1.2.toNat (0:Int)) (headAtL (x.2.1.getD x_1.2.toNat (0:Int)) (spotsF x.1).1).1).getD x_2.2.toNat (0:Int))∧place x.2.1 ((namedL x.1 (x.2.1.getD x_1.2.toNat (0:Int)) (headAtL (x.2.1.getD x_1.2.toNat (0:Int)) (spotsF x.1).1).1).getD x_2.2.toNat (0:Int))<(↑(planS x.2.1 (List.map (lgOf (spotsF x.1).1) x.2.1) x.2.2).length:Int)∧(place x.2.1 ((namedL x.1 (x.2.1.getD x_1.2.toNat (0:Int)) (headAtL (x.2.1.getD x_1.2.toNat (0:Int)) (spotsF x.1).1).1).getD x_2.2.toNat (0:Int))).toNat<(planS x.2.1 (List.map (lgOf (spotsF x.1).1) x.2.1) x.2.2).length∧InR IntKind.u64 (IntKind.u64.wrap ((planS x.2.1 (List.map (lgOf (spotsF x.1).1) x.2.1) x.2.2).getD (place x.2.1 ((namedL x.1 (x.2.1.getD x_1.2.toNat (0:Int)) (headAtL (x.2.1.getD x_1.2.toNat (0:Int)) (spotsF x.1).1).1).getD x_2.2.toNat (0:Int))).toNat (0:Int))+(1:Int))∧(0:Int)≤(planS x.2.1 (List.map (lgOf (spotsF x.1).1) x.2.1) x.2.2).getD x_1.2.toNat (0:Int)+(1:Int)+x_2.2∧(planS x.2.1 (List.map (lgOf (spotsF x.1).1) x.2.1) x.2.2).getD x_1.2.toNat (0:Int)+(1:Int)+x_2.2<(↑x_2.1.length:Int)∧((planS x.2.1 (List.map (lgOf (spotsF x.1).1) x.2.1) x.2.2).getD x_1.2.toNat (0:Int)+(1:Int)+x_2.2).toNat<x_2.1.length∧InR IntKind.i64 (x_2.2+(1:Int))∧((0:Int)≤x_2.2+(1:Int)∧x_2.2+(1:Int)≤(↑(namedL x.1 (x.2.1.getD x_1.2.toNat (0:Int)) (headAtL (x.2.1.getD x_1.2.toNat (0:Int)) (spotsF x.1).1).1).length:Int)∧goodR x.2.1 (planS x.2.1 (List.map (lgOf (spotsF x.1).1) x.2.1) x.2.2) (List.drop (x_2.2+(1:Int)).toNat (refsA x.1 (x.2.1.getD x_1.2.toNat (0:Int))))=goodR x.2.1 (planS x.2.1 (List.map (lgOf (spotsF x.1).1) x.2.1) x.2.2) (refsA x.1 (x.2.1.getD x_1.2.toNat (0:Int)))∧x_2.1.set ((planS x.2.1 (List.map (lgOf (spotsF x.1).1) x.2.1) x.2.2).getD x_1.2.toNat (0:Int)+(1:Int)+x_2.2).toNat (IntKind.u64.wrap ((planS x.2.1 (List.map (lgOf (spotsF x.1).1) x.2.1) x.2.2).getD (place x.2.1 ((namedL x.1 (x.2.1.getD x_1.2.toNat (0:Int)) (headAtL (x.2.1.getD x_1.2.toNat (0:Int)) (spotsF x.1).1).1).getD x_2.2.toNat (0:Int))).toNat (0:Int))+(1:Int))=slidUp x.1 x.2.1 (planS x.2.1 (List.map (lgOf (spotsF x.1).1) x.2.1) x.2.2) x.2.2 (List.map (lgOf (spotsF x.1).1) x.2.1) x_1.2.toNat++(gapW x.2.2 x.2.1 (List.map (lgOf (spotsF x.1).1) x.2.1) x_1.2.toNat++x.1.getD (x.2.1.getD x_1.2.toNat (0:Int)).toNat (0:Int)::List.map (mapTo x.2.1 (planS x.2.1 (List.map (lgOf (spotsF x.1).1) x.2.1) x.2.2)) (List.take (x_2.2+(1:Int)).toNat (refsA x.1 (x.2.1.getD x_1.2.toNat (0:Int)))))++List.replicate ((↑x.1.length:Int) - (toS x.2.2 x.2.1 (List.map (lgOf (spotsF x.1).1) x.2.1) x_1.2.toNat+(1:Int)+(x_2.2+(1:Int)))).toNat (0:Int))∧((↑(namedL x.1 (x.2.1.getD x_1.2.toNat (0:Int)) (headAtL (x.2.1.getD x_1.2.toNat (0:Int)) (spotsF x.1).1).1).length:Int) - (x_2.2+(1:Int))).toNat<((↑(namedL x.1 (x.2.1.getD x_1.2.toNat (0:Int)) (headAtL (x.2.1.getD x_1.2.toNat (0:Int)) (spotsF x.1).1).1).length:Int) - x_2.2).toNat)))∧(decide (x_2.2<(↑(namedL x.1 (x.2.1.getD x_1.2.toNat (0:Int)) (headAtL (x.2.1.getD x_1.2.toNat (0:Int)) (spotsF x.1).1).1).length:Int))=false→((0:Int)≤(0:Int)∧(0:Int)≤(headAtL (x.2.1.getD x_1.2.toNat (0:Int)) (spotsF x.1).1).1.2.1∧x_2.1=slidUp x.1 x.2.1 (planS x.2.1 (List.map (lgOf (spotsF x.1).1) x.2.1) x.2.2) x.2.2 (List.map (lgOf (spotsF x.1).1) x.2.1) x_1.2.toNat++(gapW x.2.2 x.2.1 (List.map (lgOf (spotsF x.1).1) x.2.1) x_1.2.toNat++x.1.getD (x.2.1.getD x_1.2.toNat (0:Int)).toNat (0:Int)::(List.map (mapTo x.2.1 (planS x.2.1 (List.map (lgOf (spotsF x.1).1) x.2.1) x.2.2)) (refsA x.1 (x.2.1.getD x_1.2.toNat (0:Int)))++List.take (Int.toNat (0:Int)) (bodyA x.1 (x.2.1.getD x_1.2.toNat (0:Int)))))++List.replicate ((↑x.1.length:Int) - (toS x.2.2 x.2.1 (List.map (lgOf (spotsF x.1).1) x.2.1) x_1.2.toNat+(1:Int)+(↑(refsA x.1 (x.2.1.getD x_1.2.toNat (0:Int))).length:Int)+(0:Int))).toNat (0:Int))∧∀ (x_3:List Int×Int),(0:Int)≤x_3.2∧x_3.2≤(headAtL (x.2.1.getD x_1.2.toNat (0:Int)) (spotsF x.1).1).1.2.1∧x_3.1=slidUp x.1 x.2.1 (planS x.2.1 (List.map (lgOf (spotsF x.1).1) x.2.1) x.2.2) x.2.2 (List.map (lgOf (spotsF x.1).1) x.2.1) x_1.2.toNat++(gapW x.2.2 x.2.1 (List.map (lgOf (spotsF x.1).1) x.2.1) x_1.2.toNat++x.1.getD (x.2.1.getD x_1.2.toNat (0:Int)).toNat (0:Int)::(List.map (mapTo x.2.1 (planS x.2.1 (List.map (lgOf (spotsF x.1).1) x.2.1) x.2.2)) (refsA x.1 (x.2.1.getD x_1.2.toNat (0:Int)))++List.take x_3.2.toNat (bodyA x.1 (x.2.1.getD x_1.2.toNat (0:Int)))))++List.replicate ((↑x.1.length:Int) - (toS x.2.2 x.2.1 (List.map (lgOf (spotsF x.1).1) x.2.1) x_1.2.toNat+(1:Int)+(↑(refsA x.1 (x.2.1.getD x_1.2.toNat (0:Int))).length:Int)+x_3.2)).toNat (0:Int)→(decide (x_3.2<(headAtL (x.2.1.getD x_1.2.toNat (0:Int)) (spotsF x.1).1).1.2.1)=true→(0:Int)≤x_1.2∧x_1.2<(↑(planS x.2.1 (List.map (lgOf (spotsF x.1).1) x.2.1) x.2.2).length:Int)∧x_1.2.toNat<(planS x.2.1 (List.map (lgOf (spotsF x.1).1) x.2.1) x.2.2).length∧InR IntKind.i64 ((planS x.2.1 (List.map (lgOf (spotsF x.1).1) x.2.1) x.2.2).getD x_1.2.toNat (0:Int)+(1:Int))∧InR IntKind.i64 ((planS x.2.1 (List.map (lgOf (spotsF x.1).1) x.2.1) x.2.2).getD x_1.2.toNat (0:Int)+(1:Int)+(headAtL (x.2.1.getD x_1.2.toNat (0:Int)) (spotsF x.1).1).1.1)∧InR IntKind.i64 ((planS x.2.1 (List.map (lgOf (spotsF x.1).1) x.2.1) x.2.2).getD x_1.2.toNat (0:Int)+(1:Int)+(headAtL (x.2.1.getD x_1.2.toNat (0:Int)) (spotsF x.1).1).1.1+x_3.2)∧InR IntKind.i64 (x.2.1.getD x_1.2.toNat (0:Int)+(1:Int))∧InR IntKind.i64 (x.2.1.getD x_1.2.toNat (0:Int)+(1:Int)+(headAtL (x.2.1.getD x_1.2.toNat (0:Int)) (spotsF x.1).1).1.1)∧InR IntKind.i64 (x.2.1.getD x_1.2.toNat (0:Int)+(1:Int)+(headAtL (x.2.1.getD x_1.2.toNat (0:Int)) (spotsF x.1).1).1.1+x_3.2)∧(0:Int)≤x.2.1.getD x_1.2.toNat (0:Int)+(1:Int)+(headAtL (x.2.1.getD x_1.2.toNat (0:Int)) (spotsF x.1).1).1.1+x_3.2∧x.2.1.getD x_1.2.toNat (0:Int)+(1:Int)+(headAtL (x.2.1.getD x_1.2.toNat (0:Int)) (spotsF x.1).1).1.1+x_3.2<(↑x.1.length:Int)∧(0:Int)≤(planS x.2.1 (List.map (lgOf (spotsF x.1).1) x.2.1) x.2.2).getD x_1.2.toNat (0:Int)+(1:Int)+(headAtL (x.2.1.getD x_1.2.toNat (0:Int)) (spotsF x.1).1).1.1+x_3.2∧(planS x.2.1 (List.map (lgOf (spotsF x.1).1) x.2.1) x.2.2).getD x_1.2.toNat (0:Int)+(1:Int)+(headAtL (x.2.1.getD x_1.2.toNat (0:Int)) (spotsF x.1).1).1.1+x_3.2<(↑x_3.1.length:Int)∧((planS x.2.1 (List.map (lgOf (spotsF x.1).1) x.2.1) x.2.2).getD x_1.2.toNat (0:Int)+(1:Int)+(headAtL (x.2.1.getD x_1.2.toNat (0:Int)) (spotsF x.1).1).1.1+x_3.2).toNat<x_3.1.length∧InR IntKind.i64 (x_3.2+(1:Int))∧((0:Int)≤x_3.2+(1:Int)∧x_3.2+(1:Int)≤(headAtL (x.2.1.getD x_1.2.toNat (0:Int)) (spotsF x.1).1).1.2.1∧x_3.1.set ((planS x.2.1 (List.map (lgOf (spotsF x.1).1) x.2.1) x.2.2).getD x_1.2.toNat (0:Int)+(1:Int)+(headAtL (x.2.1.getD x_1.2.toNat (0:Int)) (spotsF x.1).1).1.1+x_3.2).toNat (x.1.getD (x.2.1.getD x_1.2.toNat (0:Int)+(1:Int)+(headAtL (x.2.1.getD x_1.2.toNat (0:Int)) (spotsF x.1).1).1.1+x_3.2).toNat (0:Int))=slidUp x.1 x.2.1 (planS x.2.1 (List.map (lgOf (spotsF x.1).1) x.2.1) x.2.2) x.2.2 (List.map (lgOf (spotsF x.1).1) x.2.1) x_1.2.toNat++(gapW x.2.2 x.2.1 (List.map (lgOf (spotsF x.1).1) x.2.1) x_1.2.toNat++x.1.getD (x.2.1.getD x_1.2.toNat (0:Int)).toNat (0:Int)::(List.map (mapTo x.2.1 (planS x.2.1 (List.map (lgOf (spotsF x.1).1) x.2.1) x.2.2)) (refsA x.1 (x.2.1.getD x_1.2.toNat (0:Int)))++List.take (x_3.2+(1:Int)).toNat (bodyA x.1 (x.2.1.getD x_1.2.toNat (0:Int)))))++List.replicate ((↑x.1.length:Int) - (toS x.2.2 x.2.1 (List.map (lgOf (spotsF x.1).1) x.2.1) x_1.2.toNat+(1:Int)+(↑(refsA x.1 (x.2.1.getD x_1.2.toNat (0:Int))).length:Int)+(x_3.2+(1:Int)))).toNat (0:Int))∧((headAtL (x.2.1.getD x_1.2.toNat (0:Int)) (spotsF x.1).1).1.2.1 - (x_3.2+(1:Int))).toNat<((headAtL (x.2.1.getD x_1.2.toNat (0:Int)) (spotsF x.1).1).1.2.1 - x_3.2).toNat)∧(decide (x_3.2<(headAtL (x.2.1.getD x_1.2.toNat (0:Int)) (spotsF x.1).1).1.2.1)=false→InR IntKind.i64 (x_1.2+(1:Int))∧((0:Int)≤x_1.2+(1:Int)∧x_1.2+(1:Int)≤(↑x.2.1.length:Int)∧(((List.drop (x_1.2+(1:Int)).toNat x.2.1).all fun (at_:Int)=>goodR x.2.1 (planS x.2.1 (List.map (lgOf (spotsF x.1).1) x.2.1) x.2.2) (refsA x.1 at_))=x.2.1.all fun (at_:Int)=>goodR x.2.1 (planS x.2.1 (List.map (lgOf (spotsF x.1).1) x.2.1) x.2.2) (refsA x.1 at_))∧x_3.1=slidUp x.1 x.2.1 (planS x.2.1 (List.map (lgOf (spotsF x.1).1) x.2.1) x.2.2) x.2.2 (List.map (lgOf (spotsF x.1).1) x.2.1) (x_1.2+(1:Int)).toNat++List.replicate ((↑x.1.length:Int) - endS x.2.2 x.2.1 (List.map (lgOf (spotsF x.1).1) x.2.1) (x_1.2+(1:Int)).toNat).toNat (0:Int))∧((↑x.2.1.length:Int) - (x_1.2+(1:Int))).toNat<((↑x.2.1.length:Int) - x_1.2).toNat)))∧(decide (x_1.2<(↑x.2.1.length:Int))=false→(x.1.length≤(256:Nat)∧planPre x.2.1 (List.map (lgOf (spotsF x.1).1) x.2.1))∧((0:Int)≤(0:Int)∧(0:Int)≤(↑(runsGo (fun (k:Int)=>!covS (spotsF x.1).1 x.2.1 (planS x.2.1 (List.map (lgOf (spotsF x.1).1) x.2.1) x.2.2) k) x.1.length (0:Int) ([]:List Gap)).length:Int)∧x_1.1.length=x_1.1.length∧x_1.1=List.foldl freeSet x_1.1 (List.take (Int.toNat (0:Int)) (runsGo (fun (k:Int)=>!covS (spotsF x.1).1 x.2.1 (planS x.2.1 (List.map (lgOf (spotsF x.1).1) x.2.1) x.2.2) k) x.1.length (0:Int) ([]:List Gap))))∧∀ (x_2:List Int×Int),(0:Int)≤x_2.2∧x_2.2≤(↑(runsGo (fun (k:Int)=>!covS (spotsF x.1).1 x.2.1 (planS x.2.1 (List.map (lgOf (spotsF x.1).1) x.2.1) x.2.2) k) x.1.length (0:Int) ([]:List Gap)).length:Int)∧x_2.1.length=x_1.1.length∧x_2.1=List.foldl freeSet x_1.1 (List.take x_2.2.toNat (runsGo (fun (k:Int)=>!covS (spotsF x.1).1 x.2.1 (planS x.2.1 (List.map (lgOf (spotsF x.1).1) x.2.1) x.2.2) k) x.1.length (0:Int) ([]:List Gap)))→(decide (x_2.2<(↑(runsGo (fun (k:Int)=>!covS (spotsF x.1).1 x.2.1 (planS x.2.1 (List.map (lgOf (spotsF x.1).1) x.2.1) x.2.2) k) x.1.length (0:Int) ([]:List Gap)).length:Int))=true→(0:Int)≤x_2.2∧x_2.2<(↑(runsGo (fun (k:Int)=>!covS (spotsF x.1).1 x.2.1 (planS x.2.1 (List.map (lgOf (spotsF x.1).1) x.2.1) x.2.2) k) x.1.length (0:Int) ([]:List Gap)).length:Int)∧x_2.2.toNat<(runsGo (fun (k:Int)=>!covS (spotsF x.1).1 x.2.1 (planS x.2.1 (List.map (lgOf (spotsF x.1).1) x.2.1) x.2.2) k) x.1.length (0:Int) ([]:List Gap)).length∧((1:Int)≤((runsGo (fun (k:Int)=>!covS (spotsF x.1).1 x.2.1 (planS x.2.1 (List.map (lgOf (spotsF x.1).1) x.2.1) x.2.2) k) x.1.length (0:Int) ([]:List Gap)).getD x_2.2.toNat ((0:Int),(0:Int))).2∧((runsGo (fun (k:Int)=>!covS (spotsF x.1).1 x.2.1 (planS x.2.1 (List.map (lgOf (spotsF x.1).1) x.2.1) x.2.2) k) x.1.length (0:Int) ([]:List Gap)).getD x_2.2.toNat ((0:Int),(0:Int))).2≤(256:Int))∧(0:Int)≤((runsGo (fun (k:Int)=>!covS (spotsF x.1).1 x.2.1 (planS x.2.1 (List.map (lgOf (spotsF x.1).1) x.2.1) x.2.2) k) x.1.length (0:Int) ([]:List Gap)).getD x_2.2.toNat ((0:Int),(0:Int))).1∧((runsGo (fun (k:Int)=>!covS (spotsF x.1).1 x.2.1 (planS x.2.1 (List.map (lgOf (spotsF x.1).1) x.2.1) x.2.2) k) x.1.length (0:Int) ([]:List Gap)).getD x_2.2.toNat ((0:Int),(0:Int))).1<(↑x_2.1.length:Int)∧((runsGo (fun (k:Int)=>!covS (spotsF x.1).1 x.2.1 (planS x.2.1 (List.map (lgOf (spotsF x.1).1) x.2.1) x.2.2) k) x.1.length (0:Int) ([]:List Gap)).getD x_2.2.toNat ((0:Int),(0:Int))).1.toNat<x_2.1.length∧InR IntKind.i64 (x_2.2+(1:Int))∧((0:Int)≤x_2.2+(1:Int)∧x_2.2+(1:Int)≤(↑(runsGo (fun (k:Int)=>!covS (spotsF x.1).1 x.2.1 (planS x.2.1 (List.map (lgOf (spotsF x.1).1) x.2.1) x.2.2) k) x.1.length (0:Int) ([]:List Gap)).length:Int)∧(x_2.1.set ((runsGo (fun (k:Int)=>!covS (spotsF x.1).1 x.2.1 (planS x.2.1 (List.map (lgOf (spotsF x.1).1) x.2.1) x.2.2) k) x.1.length (0:Int) ([]:List Gap)).getD x_2.2.toNat ((0:Int),(0:Int))).1.toNat (headWord ((0:Int),((runsGo (fun (k:Int)=>!covS (spotsF x.1).1 x.2.1 (planS x.2.1 (List.map (lgOf (spotsF x.1).1) x.2.1) x.2.2) k) x.1.length (0:Int) ([]:List Gap)).getD x_2.2.toNat ((0:Int),(0:Int))).2 - (1:Int),(0:Int),true))).length=x_1.1.length∧x_2.1.set ((runsGo (fun (k:Int)=>!covS (spotsF x.1).1 x.2.1 (planS x.2.1 (List.map (lgOf (spotsF x.1).1) x.2.1) x.2.2) k) x.1.length (0:Int) ([]:List Gap)).getD x_2.2.toNat ((0:Int),(0:Int))).1.toNat (headWord ((0:Int),((runsGo (fun (k:Int)=>!covS (spotsF x.1).1 x.2.1 (planS x.2.1 (List.map (lgOf (spotsF x.1).1) x.2.1) x.2.2) k) x.1.length (0:Int) ([]:List Gap)).getD x_2.2.toNat ((0:Int),(0:Int))).2 - (1:Int),(0:Int),true))=List.foldl freeSet x_1.1 (List.take (x_2.2+(1:Int)).toNat (runsGo (fun (k:Int)=>!covS (spotsF x.1).1 x.2.1 (planS x.2.1 (List.map (lgOf (spotsF x.1).1) x.2.1) x.2.2) k) x.1.length (0:Int) ([]:List Gap))))∧((↑(runsGo (fun (k:Int)=>!covS (spotsF x.1).1 x.2.1 (planS x.2.1 (List.map (lgOf (spotsF x.1).1) x.2.1) x.2.2) k) x.1.length (0:Int) ([]:List Gap)).length:Int) - (x_2.2+(1:Int))).toNat<((↑(runsGo (fun (k:Int)=>!covS (spotsF x.1).1 x.2.1 (planS x.2.1 (List.map (lgOf (spotsF x.1).1) x.2.1) x.2.2) k) x.1.length (0:Int) ([]:List Gap)).length:Int) - x_2.2).toNat)∧(decide (x_2.2<(↑(runsGo (fun (k:Int)=>!covS (spotsF x.1).1 x.2.1 (planS x.2.1 (List.map (lgOf (spotsF x.1).1) x.2.1) x.2.2) k) x.1.length (0:Int) ([]:List Gap)).length:Int))=false→x_2.1=(slidR x.1 x.2.1 x.2.2).1∧true=(slidR x.1 x.2.1 x.2.2).2∧True))
theorem vcp_rSlid:pv_rSlid:=by
 unfold pv_rSlid
 intro ⟨a,keep,pinned⟩ ⟨⟨hb,hw⟩,_⟩ hz
 unfold big at hb
 simp only at hb hw hz ⊢
 have hP:=plan_of hz
 have k6:=(longs_ok hz).2.2.2.2.2
 rw [k6] at hP
 have hF:slidR a keep pinned=if (keep.all fun at_=>goodR keep (planS keep (keep.map (lgOf (spotsF a).1)) pinned) (refsA a at_))=true then
  (slidW a keep (planS keep (keep.map (lgOf (spotsF a).1)) pinned) pinned (keep.map (lgOf (spotsF a).1)) (planGapsL a.length keep (keep.map (lgOf (spotsF a).1)) pinned),true)
  else ([],false):=rfl
 rw [hF,planGaps_eq hz]
 have hhd:∀ x,(headAtL x (spotsF a).1).1=hdA a x:=fun _=>rfl
 have hnm:∀ x,namedL a x (hdA a x)=(refsA a x).map nameOf:=fun _=>rfl
 simp only [hhd,hnm,List.length_map]
 clear hF k6 hz hhd hnm
 generalize keep.map (lgOf (spotsF a).1)=long at *
 have hto:(planS keep long pinned).length=keep.length:=by simp [planS]
 have htg:∀ i:Nat,i<keep.length→(planS keep long pinned).getD i 0=toS pinned keep long i:=by
  intro i hi
  unfold planS
  rw [List.getD_eq_getElem?_getD,List.getElem?_map,List.getElem?_range hi]
  rfl
 have hk0:∀ x∈keep,0≤x:=fun x hx=>(hP.pre.2.2.1 x hx).1
 have hkl:=hP.pre.2.1
 have hlong:=hP.pre.1
 have hal:=hP.al
 have hgi:=planGaps_in hP
 have hgl:=planGaps_length a.length keep long pinned
 have hkr:∀ x∈keep,0≤x∧x≤255:=hP.pre.2.2.1
 rw [hto]
 generalize planS keep long pinned=to at *
 generalize planGapsL a.length keep long pinned=g at *
 unfold big
 refine ⟨hP.pre,by omega,by omega,⟨by omega,by omega,rfl,?_⟩,fun ⟨w,i⟩ ⟨b0,b1,b2,b3⟩=>⟨fun hlt=>?_,fun hge=>?_⟩⟩
 ·simp [slidUp,endS]
 ·have hlt':i<(keep.length:Int):=of_decide_eq_true hlt
  simp only at b0 b1 b2 b3 ⊢
  have hib:=hP.isb _ (getD_mem (0:Int) b0 hlt')
  obtain ⟨l1,l2,l3,l4,l5,l6⟩:=objA_length hib
  obtain ⟨_,_,hfault,hdw,hish,_⟩:=objA_in hib
  have hle:=hP.le i.toNat (by omega)
  have hlg:=hP.lg i.toNat (by omega)
  have hul:=slidUp_length to hP i.toNat (by omega)
  have hE0:=endS_range pinned hP.pre i.toNat (by omega)
  have hE1:endS pinned keep long (i.toNat+1)=toS pinned keep long i.toNat+long.getD i.toNat 0:=rfl
  have hwl:w.length=a.length:=by
   rw [b3,List.length_append,List.length_replicate]
   omega
  rw [drop_cons (0:Int) b0 hlt',List.all_cons,show (i+1).toNat=i.toNat+1 by omega] at b2
  have hup:slidUp a keep to pinned long (i.toNat+1)=slidUp a keep to pinned long i.toNat++(gapW pinned keep long i.toNat++pieceW a keep to (keep.getD i.toNat 0)):=rfl
  have hpw:pieceW a keep to (keep.getD i.toNat 0)=a.getD (keep.getD i.toNat 0).toNat 0::((refsA a (keep.getD i.toNat 0)).map (mapTo keep to)++bodyA a (keep.getD i.toNat 0)):=rfl
  have hgw:(gapW pinned keep long i.toNat).length=(toS pinned keep long i.toNat - endS pinned keep long i.toNat).toNat:=by simp [gapW]
  have hgd:gapW pinned keep long i.toNat=List.replicate (toS pinned keep long i.toNat - endS pinned keep long i.toNat).toNat 0:=rfl
  have hbk:∀ k:Int,0≤k→k<(bodyA a (keep.getD i.toNat 0)).length→a.getD (keep.getD i.toNat 0+1+(hdA a (keep.getD i.toNat 0)).1+k).toNat 0=(bodyA a (keep.getD i.toNat 0)).getD k.toNat 0:=fun k h0 h1=>bodyA_get h0 h1 l2 l3 l5
  have hrw:∀ x∈refsA a (keep.getD i.toNat 0),0≤x:=fun x hx=>(hw x (List.mem_of_mem_take (List.mem_of_mem_drop hx))).1
  have hhw:headWord (hdA a (keep.getD i.toNat 0))=a.getD (keep.getD i.toNat 0).toNat 0:=by
   rw [hdw]
   exact headWord_headOf hish (hw _ (getD_mem (0:Int) l3 (by omega))).1
  rw [htg i.toNat (by omega),show (i+1).toNat=i.toNat+1 by omega,hup,hpw,hhw]
  clear hup hpw hib hhw hdw hish
  generalize keep.getD i.toNat 0=at_ at *
  have hfst:(hdA a at_).1=((refsA a at_).length:Int):=l1.symm
  have hsnd:(hdA a at_).2.1=((bodyA a at_).length:Int):=l2.symm
  rw [hfst,hsnd] at hlg l4 ⊢
  rw [hfst] at hbk
  generalize refsA a at_=rs at *
  generalize bodyA a at_=bd at *
  rw [hlg] at hle hE1
  rw [hE1]
  generalize hS:slidUp a keep to pinned long i.toNat=S at *
  generalize gapW pinned keep long i.toNat=G at *
  generalize toS pinned keep long i.toNat=t at *
  generalize endS pinned keep long i.toNat=e at *
  have hrep:∀ m:Int,m<(a.length:Int)→List.replicate ((a.length:Int) - m).toNat (0:Int)=0::List.replicate ((a.length:Int) - (m+1)).toNat 0:=by
   intro m hm
   rw [show ((a.length:Int) - m).toNat=((a.length:Int) - (m+1)).toNat+1 by omega]
   rfl
  have hw0:w=(S++G)++0::List.replicate ((a.length:Int) - (t+1)).toNat 0:=by
   rw [b3,← hrep t (by omega),hgd,List.append_assoc,List.replicate_append_replicate]
   congr 2
   omega
  have hset0:∀ y,w.set t.toNat y=(S++G)++y::List.replicate ((a.length:Int) - (t+1)).toNat 0:=fun y=>by
   rw [hw0]
   exact set_mid y (by rw [List.length_append]; omega)
  rw [hset0]
  simp only [InR]
  refine ⟨b0,hlt',trivial,b0,by omega,by omega,hfault,by omega,by omega,by omega,trivial,⟨by omega,by omega,rfl,?_⟩,fun ⟨w',k⟩ ⟨c0,c1,c4,c5⟩=>⟨fun hk=>?_,fun hk=>?_⟩⟩
  ·rw [show t+1+0=t+1 by omega]
   simp [List.append_assoc]
  ·have hk:k<(rs.length:Int):=of_decide_eq_true hk
   simp only at c0 c1 c4 c5 ⊢
   rw [drop_cons (0:Int) c0 hk] at c4
   have hsn:=take_snoc (0:Int) c0 hk
   have hx0:=hrw _ (getD_mem (0:Int) c0 hk)
   have hng:(rs.map nameOf).getD k.toNat 0=nameOf (rs.getD k.toNat 0):=by
    rw [List.getD_eq_getElem?_getD,List.getElem?_map,List.getD_eq_getElem?_getD,List.getElem?_eq_getElem (by omega)]
    rfl
   rw [hsn,List.map_append,hng]
   generalize rs.getD k.toNat 0=x at *
   have hA:(S++(G++a.getD at_.toNat 0::(rs.take k.toNat).map (mapTo keep to))).length=(t+1+k).toNat:=by
    simp only [List.length_append,List.length_cons,List.length_map,List.length_take]
    omega
   have hw':w'.length=a.length:=by
    rw [c5,List.length_append,hA,List.length_replicate]
    omega
   rw [hrep (t+1+k) (by omega),show t+1+k+1=t+1+(k+1) by omega] at c5
   have hset:∀ y,w'.set (t+1+k).toNat y=(S++(G++a.getD at_.toNat 0::(rs.take k.toNat).map (mapTo keep to)))++y::List.replicate ((a.length:Int) - (t+1+(k+1))).toNat 0:=fun y=>by
    rw [c5]; exact set_mid y hA.symm
   have hg1:goodR keep to (x::rs.drop (k+1).toNat)=((refTo keep to x).isSome&&goodR keep to (rs.drop (k+1).toNat)):=rfl
   rw [hg1] at c4
   obtain ⟨n1,n2⟩:=ref_name (to:=to) hkr hx0
   have hm:[x].map (mapTo keep to)=[(refTo keep to x).getD 0]:=rfl
   rw [hset,hm]
   refine ⟨c0,hk,by omega,fun hn=>?_,fun hn=>⟨trivial,fun hp=>?_,fun hp=>?_⟩⟩
   ·have e:=n1 (of_decide_eq_true hn)
    rw [e,Option.isSome_some,Bool.true_and] at c4
    rw [e]
    refine ⟨by omega,⟨by omega,by omega,c4,?_⟩,by omega⟩
    rw [c5]
    simp [List.append_assoc]
   ·have e:=(n2 (of_decide_eq_false hn)).1 (of_decide_eq_true hp)
    rw [e,Option.isSome_none,Bool.false_and] at c4
    rw [← c4,Bool.false_and] at b2
    rw [if_neg (by rw [← b2]; simp)]
    exact ⟨rfl,rfl,trivial⟩
   ·obtain ⟨e,hpl⟩:=(n2 (of_decide_eq_false hn)).2 (of_decide_eq_false hp)
    have hp0:0≤place keep (nameOf x):=Int.not_lt.1 (of_decide_eq_false hp)
    rw [e,Option.isSome_some,Bool.true_and] at c4
    rw [e]
    generalize place keep (nameOf x)=p at *
    have htp:=toS_range pinned hP.pre (i:=p.toNat) (by omega)
    rw [← htg p.toNat (by omega)] at htp
    rw [wrapU (n:=to.getD p.toNat 0) (by omega) (by omega)]
    refine ⟨b0,by omega,by omega,by omega,by omega,hp0,by omega,by omega,by omega,by omega,by omega,by omega,by omega,⟨by omega,by omega,c4,?_⟩,by omega⟩
    simp [List.append_assoc]
  ·have hk:¬ k<(rs.length:Int):=of_decide_eq_false hk
   simp only at c0 c1 c4 c5 ⊢
   rw [drop_end hk] at c4
   rw [take_end hk,show k=(rs.length:Int) by omega] at c5
   have hg0:goodR keep to []=true:=rfl
   rw [hg0] at c4
   rw [← c4,Bool.true_and] at b2
   refine ⟨⟨by omega,by omega,?_⟩,fun ⟨w2,j⟩ ⟨d0,d1,d2⟩=>⟨fun hj=>?_,fun hj=>?_⟩⟩
   ·rw [c5,Int.add_zero]
    simp [List.append_assoc]
   ·have hj:j<(bd.length:Int):=of_decide_eq_true hj
    simp only at d0 d1 d2 ⊢
    rw [hbk j d0 hj]
    have hsn:=take_snoc (0:Int) d0 hj
    rw [hsn]
    generalize bd.getD j.toNat 0=y at *
    have hA:(S++(G++a.getD at_.toNat 0::(rs.map (mapTo keep to)++bd.take j.toNat))).length=(t+1+(rs.length:Int)+j).toNat:=by
     simp only [List.length_append,List.length_cons,List.length_map,List.length_take]
     omega
    have hw':w2.length=a.length:=by
     rw [d2,List.length_append,hA,List.length_replicate]
     omega
    rw [hrep (t+1+(rs.length:Int)+j) (by omega),show t+1+(rs.length:Int)+j+1=t+1+(rs.length:Int)+(j+1) by omega] at d2
    have hset:w2.set (t+1+(rs.length:Int)+j).toNat y=(S++(G++a.getD at_.toNat 0::(rs.map (mapTo keep to)++bd.take j.toNat)))++y::List.replicate ((a.length:Int) - (t+1+(rs.length:Int)+(j+1))).toNat 0:=by
     rw [d2]; exact set_mid y hA.symm
    rw [hset]
    refine ⟨b0,by omega,by omega,by omega,by omega,by omega,by omega,by omega,by omega,by omega,by omega,by omega,by omega,by omega,by omega,⟨by omega,by omega,?_⟩,by omega⟩
    simp [List.append_assoc]
   ·have hj:¬ j<(bd.length:Int):=of_decide_eq_false hj
    simp only at d0 d1 d2 ⊢
    rw [take_end hj] at d2
    refine ⟨by omega,⟨by omega,by omega,b2,?_⟩,by omega⟩
    rw [d2]
    simp only [List.append_assoc,List.cons_append]
    congr 6
    omega
 ·have hge:¬ i<(keep.length:Int):=of_decide_eq_false hge
  simp only at b0 b1 b2 b3 ⊢
  rw [drop_end hge,List.all_nil] at b2
  rw [if_pos b2.symm]
  rw [show i.toNat=keep.length by omega] at b3
  have hul:=slidUp_length to hP keep.length (Nat.le_refl _)
  have hE0:=endS_range pinned hP.pre keep.length (Nat.le_refl _)
  have hen:=hP.en
  have hwl:w.length=a.length:=by
   rw [b3,List.length_append,List.length_replicate]
   omega
  have hW:slidW a keep to pinned long g=g.foldl freeSet w:=by
   rw [b3]
   rfl
  rw [hW]
  refine ⟨⟨hal,hP.pre⟩,⟨by omega,by omega,trivial,rfl⟩,fun ⟨w',j⟩ ⟨d0,d1,d2,d3⟩=>⟨fun hj=>?_,fun hj=>?_⟩⟩
  ·have hj:j<(g.length:Int):=of_decide_eq_true hj
   simp only at d0 d1 d2 d3 ⊢
   have hr:=hgi _ (getD_mem ((0,0):Gap) d0 hj)
   have hsn:=take_snoc ((0,0):Gap) d0 hj
   rw [hsn,List.foldl_append,← d3]
   generalize g.getD j.toNat (0,0)=r at *
   rw [List.length_set]
   simp only [InR]
   exact ⟨d0,hj,by omega,⟨by omega,by omega⟩,hr.1,by omega,by omega,by omega,⟨by omega,by omega,d2,rfl⟩,by omega⟩
  ·have hj:¬ j<(g.length:Int):=of_decide_eq_false hj
   simp only at d3 ⊢
   rw [take_end hj] at d3
   exact ⟨d3,trivial,trivial⟩
theorem e_rSlid:pv_rSlid=(fnVC Tryz.prog (tbl [(50,sp_planned),(41,sp_rHeadAt),(87,sp_rHeadWord),(45,sp_rNamed),(53,sp_rPlace),(88,sp_rPlanGaps),(89,sp_rFreeHead)]) an_rSlid Tryz.f52 sp_rSlid):=by kernel_rfl
theorem vc_rSlid:fnVC Tryz.prog (tbl [(50,sp_planned),(41,sp_rHeadAt),(87,sp_rHeadWord),(45,sp_rNamed),(53,sp_rPlace),(88,sp_rPlanGaps),(89,sp_rFreeHead)]) an_rSlid Tryz.f52 sp_rSlid:=@Eq.mp _ _ @e_rSlid @vcp_rSlid
theorem ok_rSlid:sp_rSlid.ok Tryz.prog 52:=fn_sound (P:=Tryz.prog) (ss:=tbl [(50,sp_planned),(41,sp_rHeadAt),(87,sp_rHeadWord),(45,sp_rNamed),(53,sp_rPlace),(88,sp_rPlanGaps),(89,sp_rFreeHead)]) (ann:=an_rSlid) (f:=52) (fn:=Tryz.f52) (s:=sp_rSlid) (tbl_cons ok_planned (tbl_cons ok_rHeadAt (tbl_cons ok_rHeadWord (tbl_cons ok_rNamed (tbl_cons ok_rPlace (tbl_cons ok_rPlanGaps (tbl_cons ok_rFreeHead tbl_nil))))))) Tryz.func52 @vc_rSlid
end Go.Proofs.YtglchojglcobjaaGreat
