
import Derived.Test.YtglchojglcobjaaGreatSlide
namespace Go.Proofs.YtglchojglcobjaaGreat
open Go
set_option maxRecDepth 100000
set_option maxHeartbeats 1000000
theorem zI {a keep pinned:List Int} (hz:(ai a keep pinned).2=0):bb (fun k=>!fO (aa a).1 keep (an keep (keep.map (ax (aa a).1)) pinned) k) a.length 0 []=bI a.length keep (keep.map (ax (aa a).1)) pinned:=by
 have hp:=lH hz
 obtain ⟨k1,k2,k3,k4,k5,k6⟩:=kL hz
 obtain ⟨d1,d2⟩:=vP hz
 rw [k6] at hp
 have hG:∀ k:Nat,k<keep.length→(keep.map (ax (aa a).1)).getD k 0=ax (aa a).1 (keep.getD k 0):=by
  intro k hk
  rw [List.getD_eq_getElem?_getD,List.getElem?_map,List.getD_eq_getElem?_getD,List.getElem?_eq_getElem hk]
  rfl
 exact Ex (pinned:=pinned) hp d1 d2 (fun k=>by
  congr 1
  unfold fO
  have any_congr:∀ (l:List Nat) (p q:Nat→Bool),(∀ i∈l,p i=q i)→l.any p=l.any q:=by
   intro l p q h
   induction l with
   | nil=>rfl
   | cons x l ih=>rw [List.any_cons,List.any_cons,h x (by simp),ih (fun i hi=>h i (by simp [hi]))]
  apply any_congr
  intro i hi
  have hi:=List.mem_range.1 hi
  have hg:(an keep (keep.map (ax (aa a).1)) pinned).getD i 0=cB pinned keep (keep.map (ax (aa a).1)) i:=by
   unfold an
   rw [List.getD_eq_getElem?_getD,List.getElem?_map,List.getElem?_range hi]
   rfl
  rw [hg,hG i hi])
theorem Fx {keep to:List Int} (hk:∀ x∈keep,0≤x∧x≤255) {v:Int} (h0:0≤v) :
  (nameOf v<0→gk keep to v=some 0)∧(¬ nameOf v<0→(bA keep (nameOf v)<0→gk keep to v=none)∧(¬ bA keep (nameOf v)<0→gk keep to v=some (to.getD (bA keep (nameOf v)).toNat 0+1)∧bA keep (nameOf v)<(keep.length:Int))):=by
 have hlt:=dG (fun x=>decide (x=nameOf v)) 0 keep 0 (by omega)
 have hin:(decide (0≤bA keep (nameOf v)))=cD keep (nameOf v):=cF _ keep 0 (by omega)
 unfold gk
 unfold nameOf at *
 by_cases hv:v=0
 ·subst hv
  simp
 ·rw [if_neg hv]
  have hno:∀ n:Int,255<n→cD keep n=false:=by
   intro n hn
   unfold cD
   rw [List.any_eq_false]
   intro x hx
   have:=hk x hx
   simp only [decide_eq_true_eq]
   omega
  by_cases hb:256<v
  ·rw [if_pos hb] at *
   refine ⟨fun h=>by omega,fun _=>⟨fun _=>by rw [if_neg (by rw [hno (v - 1) (by omega)]; simp)],fun h=>?_⟩⟩
   rw [hno (9999 - 1) (by omega)] at hin
   have:=of_decide_eq_false hin
   omega
  ·rw [if_neg hb] at *
   refine ⟨fun h=>by omega,fun _=>⟨fun h=>?_,fun h=>⟨?_,by unfold bA; omega⟩⟩⟩
   ·rw [if_neg (by rw [← hin]; simp; omega)]
   ·rw [if_pos (by rw [← hin]; simp; omega)]
theorem EK {a:List Int} {at_ k:Int} (h0:0≤k) (h1:k<(d7 a at_).length) (l2:((d7 a at_).length:Int)=(dD a at_).2.1) (l3:0≤at_) (l5:0≤(dD a at_).1) :
  a.getD (at_+1+(dD a at_).1+k).toNat 0=(d7 a at_).getD k.toNat 0:=by
 rw [l2] at h1
 unfold d7 iv
 simp only
 generalize (dD a at_).1=r at *
 generalize (dD a at_).2.1=b at *
 rw [List.getD_eq_getElem?_getD (l:=a),List.getD_eq_getElem?_getD,List.getElem?_drop,List.getElem?_take,if_pos (by omega)]
 congr 2
 omega
def jt (a keep pinned:List Int):List Int×Bool :=
 if (keep.all fun at_=>bY keep (an keep (keep.map (ax (aa a).1)) pinned) (aU a at_))=true then
  (js a keep (an keep (keep.map (ax (aa a).1)) pinned) pinned (keep.map (ax (aa a).1)) (bI a.length keep (keep.map (ax (aa a).1)) pinned),true)
 else ([],false)
def GH:Nat→Option LoopGen
 | 4=>some { rd:=[.dat 27 (.arr ty_I),.own 8 3 ty_I,.dat 0 (.arr be),.dat 2 (.arr ty_I)],wr:=[9],A:=fun ((keep,to,a,pinned):List Int×List Int×List Int×List Int)=>{ cs:=[.own 9 50 be,.dat 29 ty_I],inv:=fun ((w,i):List Int×Int)=>0≤i∧i≤keep.length∧((keep.drop i.toNat).all fun at_=>bY keep to (aU a at_))=(keep.all fun at_=>bY keep to (aU a at_))∧w=bQ a keep to pinned (keep.map (ax (aa a).1)) i.toNat++List.replicate ((a.length:Int) - aW pinned keep (keep.map (ax (aa a).1)) i.toNat).toNat 0,mu:=fun ((_,i):List Int×Int)=>(keep.length - i).toNat } }
 | 9=>some { rd:=[.dat 1 (.arr ty_I),.own 8 3 ty_I,.dat 0 (.arr be),.dat 2 (.arr ty_I),.dat 10 ty_I,.dat 51 ty_I],wr:=[9],A:=fun ((keep,to,a,pinned,i,n):List Int×List Int×List Int×List Int×Int×Int)=>{ cs:=[.own 9 50 be,.dat 52 ty_I],inv:=fun ((w,k):List Int×Int)=>0≤k∧k≤n∧bY keep to ((aU a (keep.getD i.toNat 0)).drop k.toNat)=bY keep to (aU a (keep.getD i.toNat 0)) ∧
   w=(bQ a keep to pinned (keep.map (ax (aa a).1)) i.toNat++(gx pinned keep (keep.map (ax (aa a).1)) i.toNat++a.getD (keep.getD i.toNat 0).toNat 0::((aU a (keep.getD i.toNat 0)).take k.toNat).map (dO keep to)))++List.replicate ((a.length:Int) - (cB pinned keep (keep.map (ax (aa a).1)) i.toNat+1+k)).toNat 0,mu:=fun ((_,k):List Int×Int)=>(n - k).toNat } }
 | 18=>some { rd:=[.dat 1 (.arr ty_I),.own 8 3 ty_I,.dat 0 (.arr be),.dat 2 (.arr ty_I),.dat 10 ty_I,.dat 81 ty_I],wr:=[9],A:=fun ((keep,to,a,pinned,i,n):List Int×List Int×List Int×List Int×Int×Int)=>{ cs:=[.own 9 50 be,.dat 82 ty_I],inv:=fun ((w,k):List Int×Int)=>0≤k∧k≤n ∧
   w=(bQ a keep to pinned (keep.map (ax (aa a).1)) i.toNat++(gx pinned keep (keep.map (ax (aa a).1)) i.toNat++a.getD (keep.getD i.toNat 0).toNat 0::((aU a (keep.getD i.toNat 0)).map (dO keep to)++(d7 a (keep.getD i.toNat 0)).take k.toNat)))++List.replicate ((a.length:Int) - (cB pinned keep (keep.map (ax (aa a).1)) i.toNat+1+(aU a (keep.getD i.toNat 0)).length+k)).toNat 0,mu:=fun ((_,k):List Int×Int)=>(n - k).toNat } }
 | 24=>some { rd:=[.own 112 42 eP,.own 9 50 be],wr:=[9],A:=fun ((g,w0):List bK×List Int)=>{ cs:=[.own 9 50 be,.dat 114 ty_I],inv:=fun ((w,i):List Int×Int)=>0≤i∧i≤g.length∧w.length=w0.length∧w=(g.take i.toNat).foldl eJ w0,mu:=fun ((_,i):List Int×Int)=>(g.length - i).toNat } }
 | _=>none
def Ff:Spec:={ Ts:=[.arr be,.arr ty_I,.arr ty_I],Rs:=[.own 50 be,.dat .bool],pre:=fun ((a,keep,pinned):List Int×List Int×List Int)=>(ai a keep pinned).2=0,F:=fun ((a,keep,pinned):List Int×List Int×List Int)=>jt a keep pinned }
def zx:Prop :=
  ∀ (x:List Int×List Int×List Int),((x.1.length * 8≤az∧∀ (x_1:Int),x_1∈x.1→ak IntKind.u64 x_1)∧(x.2.1.length * 8≤az∧∀ (x_1:Int),x_1∈x.2.1→ak IntKind.i64 x_1)∧x.2.2.length * 8≤az∧∀ (x_1:Int),x_1∈x.2.2→ak IntKind.i64 x_1)→(ai x.1 x.2.1 x.2.2).2=0→dm x.2.1 (List.map (ax (aa x.1).1) x.2.1)∧0≤(↑x.1.length:Int)∧(↑x.1.length:Int).toNat * 8≤az∧((0:Int)≤0∧0≤(↑x.2.1.length:Int)∧(((List.drop (Int.toNat 0) x.2.1).all fun (at_:Int)=>bY x.2.1 (an x.2.1 (List.map (ax (aa x.1).1) x.2.1) x.2.2) (aU x.1 at_))=x.2.1.all fun (at_:Int)=>bY x.2.1 (an x.2.1 (List.map (ax (aa x.1).1) x.2.1) x.2.2) (aU x.1 at_))∧List.replicate (↑x.1.length:Int).toNat 0=bQ x.1 x.2.1 (an x.2.1 (List.map (ax (aa x.1).1) x.2.1) x.2.2) x.2.2 (List.map (ax (aa x.1).1) x.2.1) (Int.toNat 0)++List.replicate ((↑x.1.length:Int) - aW x.2.2 x.2.1 (List.map (ax (aa x.1).1) x.2.1) (Int.toNat 0)).toNat 0)∧∀ (x_1:List Int×Int),0≤x_1.2∧x_1.2≤(↑x.2.1.length:Int)∧(((List.drop x_1.2.toNat x.2.1).all fun (at_:Int)=>bY x.2.1 (an x.2.1 (List.map (ax (aa x.1).1) x.2.1) x.2.2) (aU x.1 at_))=x.2.1.all fun (at_:Int)=>bY x.2.1 (an x.2.1 (List.map (ax (aa x.1).1) x.2.1) x.2.2) (aU x.1 at_))∧x_1.1=bQ x.1 x.2.1 (an x.2.1 (List.map (ax (aa x.1).1) x.2.1) x.2.2) x.2.2 (List.map (ax (aa x.1).1) x.2.1) x_1.2.toNat++List.replicate ((↑x.1.length:Int) - aW x.2.2 x.2.1 (List.map (ax (aa x.1).1) x.2.1) x_1.2.toNat).toNat 0→(decide (x_1.2<(↑x.2.1.length:Int))=true→0≤x_1.2∧x_1.2<(↑x.2.1.length:Int)∧True∧0≤x_1.2∧x_1.2<(↑(an x.2.1 (List.map (ax (aa x.1).1) x.2.1) x.2.2).length:Int)∧x_1.2.toNat<(an x.2.1 (List.map (ax (aa x.1).1) x.2.1) x.2.2).length∧ac (ah (x.2.1.getD x_1.2.toNat 0) (aa x.1).1).1=0∧0≤(an x.2.1 (List.map (ax (aa x.1).1) x.2.1) x.2.2).getD x_1.2.toNat 0∧(an x.2.1 (List.map (ax (aa x.1).1) x.2.1) x.2.2).getD x_1.2.toNat 0<(↑x_1.1.length:Int)∧((an x.2.1 (List.map (ax (aa x.1).1) x.2.1) x.2.2).getD x_1.2.toNat 0).toNat<x_1.1.length∧True∧((0:Int)≤0∧0≤(↑(aB x.1 (x.2.1.getD x_1.2.toNat 0) (ah (x.2.1.getD x_1.2.toNat 0) (aa x.1).1).1).length:Int)∧bY x.2.1 (an x.2.1 (List.map (ax (aa x.1).1) x.2.1) x.2.2) (List.drop (Int.toNat 0) (aU x.1 (x.2.1.getD x_1.2.toNat 0)))=bY x.2.1 (an x.2.1 (List.map (ax (aa x.1).1) x.2.1) x.2.2) (aU x.1 (x.2.1.getD x_1.2.toNat 0))∧x_1.1.set ((an x.2.1 (List.map (ax (aa x.1).1) x.2.1) x.2.2).getD x_1.2.toNat 0).toNat (aR (ah (x.2.1.getD x_1.2.toNat 0) (aa x.1).1).1)=bQ x.1 x.2.1 (an x.2.1 (List.map (ax (aa x.1).1) x.2.1) x.2.2) x.2.2 (List.map (ax (aa x.1).1) x.2.1) x_1.2.toNat++(gx x.2.2 x.2.1 (List.map (ax (aa x.1).1) x.2.1) x_1.2.toNat++x.1.getD (x.2.1.getD x_1.2.toNat 0).toNat 0::List.map (dO x.2.1 (an x.2.1 (List.map (ax (aa x.1).1) x.2.1) x.2.2)) (List.take (Int.toNat 0) (aU x.1 (x.2.1.getD x_1.2.toNat 0))))++List.replicate ((↑x.1.length:Int) - (cB x.2.2 x.2.1 (List.map (ax (aa x.1).1) x.2.1) x_1.2.toNat+1+0)).toNat 0)∧∀ (x_2:List Int×Int),0≤x_2.2∧x_2.2≤(↑(aB x.1 (x.2.1.getD x_1.2.toNat 0) (ah (x.2.1.getD x_1.2.toNat 0) (aa x.1).1).1).length:Int)∧bY x.2.1 (an x.2.1 (List.map (ax (aa x.1).1) x.2.1) x.2.2) (List.drop x_2.2.toNat (aU x.1 (x.2.1.getD x_1.2.toNat 0)))=bY x.2.1 (an x.2.1 (List.map (ax (aa x.1).1) x.2.1) x.2.2) (aU x.1 (x.2.1.getD x_1.2.toNat 0))∧x_2.1=bQ x.1 x.2.1 (an x.2.1 (List.map (ax (aa x.1).1) x.2.1) x.2.2) x.2.2 (List.map (ax (aa x.1).1) x.2.1) x_1.2.toNat++(gx x.2.2 x.2.1 (List.map (ax (aa x.1).1) x.2.1) x_1.2.toNat++x.1.getD (x.2.1.getD x_1.2.toNat 0).toNat 0::List.map (dO x.2.1 (an x.2.1 (List.map (ax (aa x.1).1) x.2.1) x.2.2)) (List.take x_2.2.toNat (aU x.1 (x.2.1.getD x_1.2.toNat 0))))++List.replicate ((↑x.1.length:Int) - (cB x.2.2 x.2.1 (List.map (ax (aa x.1).1) x.2.1) x_1.2.toNat+1+x_2.2)).toNat 0→(decide (x_2.2<(↑(aB x.1 (x.2.1.getD x_1.2.toNat 0) (ah (x.2.1.getD x_1.2.toNat 0) (aa x.1).1).1).length:Int))=true→0≤x_2.2∧x_2.2<(↑(aB x.1 (x.2.1.getD x_1.2.toNat 0) (ah (x.2.1.getD x_1.2.toNat 0) (aa x.1).1).1).length:Int)∧x_2.2.toNat<(aB x.1 (x.2.1.getD x_1.2.toNat 0) (ah (x.2.1.getD x_1.2.toNat 0) (aa x.1).1).1).length∧(decide ((aB x.1 (x.2.1.getD x_1.2.toNat 0) (ah (x.2.1.getD x_1.2.toNat 0) (aa x.1).1).1).getD x_2.2.toNat (0:Int)<0)=true→ak IntKind.i64 (x_2.2+1)∧(0≤x_2.2+1∧x_2.2+1≤(↑(aB x.1 (x.2.1.getD x_1.2.toNat 0) (ah (x.2.1.getD x_1.2.toNat 0) (aa x.1).1).1).length:Int)∧bY x.2.1 (an x.2.1 (List.map (ax (aa x.1).1) x.2.1) x.2.2) (List.drop (x_2.2+1).toNat (aU x.1 (x.2.1.getD x_1.2.toNat 0)))=bY x.2.1 (an x.2.1 (List.map (ax (aa x.1).1) x.2.1) x.2.2) (aU x.1 (x.2.1.getD x_1.2.toNat 0))∧x_2.1=bQ x.1 x.2.1 (an x.2.1 (List.map (ax (aa x.1).1) x.2.1) x.2.2) x.2.2 (List.map (ax (aa x.1).1) x.2.1) x_1.2.toNat++(gx x.2.2 x.2.1 (List.map (ax (aa x.1).1) x.2.1) x_1.2.toNat++x.1.getD (x.2.1.getD x_1.2.toNat 0).toNat 0::List.map (dO x.2.1 (an x.2.1 (List.map (ax (aa x.1).1) x.2.1) x.2.2)) (List.take (x_2.2+1).toNat (aU x.1 (x.2.1.getD x_1.2.toNat 0))))++List.replicate ((↑x.1.length:Int) - (cB x.2.2 x.2.1 (List.map (ax (aa x.1).1) x.2.1) x_1.2.toNat+1+(x_2.2+1))).toNat 0)∧((↑(aB x.1 (x.2.1.getD x_1.2.toNat 0) (ah (x.2.1.getD x_1.2.toNat 0) (aa x.1).1).1).length:Int) - (x_2.2+1)).toNat<((↑(aB x.1 (x.2.1.getD x_1.2.toNat 0) (ah (x.2.1.getD x_1.2.toNat 0) (aa x.1).1).1).length:Int) - x_2.2).toNat)∧(decide ((aB x.1 (x.2.1.getD x_1.2.toNat 0) (ah (x.2.1.getD x_1.2.toNat 0) (aa x.1).1).1).getD x_2.2.toNat (0:Int)<0)=false→True∧(decide (bA x.2.1 ((aB x.1 (x.2.1.getD x_1.2.toNat 0) (ah (x.2.1.getD x_1.2.toNat 0) (aa x.1).1).1).getD x_2.2.toNat 0)<0)=true→([]:List Int)=(jt x.1 x.2.1 x.2.2).1∧false=(jt x.1 x.2.1 x.2.2).2∧True)∧(decide (bA x.2.1 ((aB x.1 (x.2.1.getD x_1.2.toNat 0) (ah (x.2.1.getD x_1.2.toNat 0) (aa x.1).1).1).getD x_2.2.toNat 0)<0)=false→0≤x_1.2∧x_1.2<(↑(an x.2.1 (List.map (ax (aa x.1).1) x.2.1) x.2.2).length:Int)∧x_1.2.toNat<(an x.2.1 (List.map (ax (aa x.1).1) x.2.1) x.2.2).length∧ak IntKind.i64 ((an x.2.1 (List.map (ax (aa x.1).1) x.2.1) x.2.2).getD x_1.2.toNat 0+1)∧ak IntKind.i64 ((an x.2.1 (List.map (ax (aa x.1).1) x.2.1) x.2.2).getD x_1.2.toNat 0+1+x_2.2)∧0≤bA x.2.1 ((aB x.1 (x.2.1.getD x_1.2.toNat 0) (ah (x.2.1.getD x_1.2.toNat 0) (aa x.1).1).1).getD x_2.2.toNat 0)∧bA x.2.1 ((aB x.1 (x.2.1.getD x_1.2.toNat 0) (ah (x.2.1.getD x_1.2.toNat 0) (aa x.1).1).1).getD x_2.2.toNat 0)<(↑(an x.2.1 (List.map (ax (aa x.1).1) x.2.1) x.2.2).length:Int)∧(bA x.2.1 ((aB x.1 (x.2.1.getD x_1.2.toNat 0) (ah (x.2.1.getD x_1.2.toNat 0) (aa x.1).1).1).getD x_2.2.toNat 0)).toNat<(an x.2.1 (List.map (ax (aa x.1).1) x.2.1) x.2.2).length∧ak IntKind.u64 (IntKind.u64.wrap ((an x.2.1 (List.map (ax (aa x.1).1) x.2.1) x.2.2).getD (bA x.2.1 ((aB x.1 (x.2.1.getD x_1.2.toNat 0) (ah (x.2.1.getD x_1.2.toNat 0) (aa x.1).1).1).getD x_2.2.toNat 0)).toNat 0)+1)∧0≤(an x.2.1 (List.map (ax (aa x.1).1) x.2.1) x.2.2).getD x_1.2.toNat 0+1+x_2.2∧(an x.2.1 (List.map (ax (aa x.1).1) x.2.1) x.2.2).getD x_1.2.toNat 0+1+x_2.2<(↑x_2.1.length:Int)∧((an x.2.1 (List.map (ax (aa x.1).1) x.2.1) x.2.2).getD x_1.2.toNat 0+1+x_2.2).toNat<x_2.1.length∧ak IntKind.i64 (x_2.2+1)∧(0≤x_2.2+1∧x_2.2+1≤(↑(aB x.1 (x.2.1.getD x_1.2.toNat 0) (ah (x.2.1.getD x_1.2.toNat 0) (aa x.1).1).1).length:Int)∧bY x.2.1 (an x.2.1 (List.map (ax (aa x.1).1) x.2.1) x.2.2) (List.drop (x_2.2+1).toNat (aU x.1 (x.2.1.getD x_1.2.toNat 0)))=bY x.2.1 (an x.2.1 (List.map (ax (aa x.1).1) x.2.1) x.2.2) (aU x.1 (x.2.1.getD x_1.2.toNat 0))∧x_2.1.set ((an x.2.1 (List.map (ax (aa x.1).1) x.2.1) x.2.2).getD x_1.2.toNat 0+1+x_2.2).toNat (IntKind.u64.wrap ((an x.2.1 (List.map (ax (aa x.1).1) x.2.1) x.2.2).getD (bA x.2.1 ((aB x.1 (x.2.1.getD x_1.2.toNat 0) (ah (x.2.1.getD x_1.2.toNat 0) (aa x.1).1).1).getD x_2.2.toNat 0)).toNat 0)+1)=bQ x.1 x.2.1 (an x.2.1 (List.map (ax (aa x.1).1) x.2.1) x.2.2) x.2.2 (List.map (ax (aa x.1).1) x.2.1) x_1.2.toNat++(gx x.2.2 x.2.1 (List.map (ax (aa x.1).1) x.2.1) x_1.2.toNat++x.1.getD (x.2.1.getD x_1.2.toNat 0).toNat 0::List.map (dO x.2.1 (an x.2.1 (List.map (ax (aa x.1).1) x.2.1) x.2.2)) (List.take (x_2.2+1).toNat (aU x.1 (x.2.1.getD x_1.2.toNat 0))))++List.replicate ((↑x.1.length:Int) - (cB x.2.2 x.2.1 (List.map (ax (aa x.1).1) x.2.1) x_1.2.toNat+1+(x_2.2+1))).toNat 0)∧((↑(aB x.1 (x.2.1.getD x_1.2.toNat 0) (ah (x.2.1.getD x_1.2.toNat 0) (aa x.1).1).1).length:Int) - (x_2.2+1)).toNat<((↑(aB x.1 (x.2.1.getD x_1.2.toNat 0) (ah (x.2.1.getD x_1.2.toNat 0) (aa x.1).1).1).length:Int) - x_2.2).toNat)))∧(decide (x_2.2<(↑(aB x.1 (x.2.1.getD x_1.2.toNat 0) (ah (x.2.1.getD x_1.2.toNat 0) (aa x.1).1).1).length:Int))=false→((0:Int)≤0∧0≤(ah (x.2.1.getD x_1.2.toNat 0) (aa x.1).1).1.2.1∧x_2.1=bQ x.1 x.2.1 (an x.2.1 (List.map (ax (aa x.1).1) x.2.1) x.2.2) x.2.2 (List.map (ax (aa x.1).1) x.2.1) x_1.2.toNat++(gx x.2.2 x.2.1 (List.map (ax (aa x.1).1) x.2.1) x_1.2.toNat++x.1.getD (x.2.1.getD x_1.2.toNat 0).toNat 0::(List.map (dO x.2.1 (an x.2.1 (List.map (ax (aa x.1).1) x.2.1) x.2.2)) (aU x.1 (x.2.1.getD x_1.2.toNat 0))++List.take (Int.toNat 0) (d7 x.1 (x.2.1.getD x_1.2.toNat 0))))++List.replicate ((↑x.1.length:Int) - (cB x.2.2 x.2.1 (List.map (ax (aa x.1).1) x.2.1) x_1.2.toNat+1+(↑(aU x.1 (x.2.1.getD x_1.2.toNat 0)).length:Int)+0)).toNat 0)∧∀ (x_3:List Int×Int),0≤x_3.2∧x_3.2≤(ah (x.2.1.getD x_1.2.toNat 0) (aa x.1).1).1.2.1∧x_3.1=bQ x.1 x.2.1 (an x.2.1 (List.map (ax (aa x.1).1) x.2.1) x.2.2) x.2.2 (List.map (ax (aa x.1).1) x.2.1) x_1.2.toNat++(gx x.2.2 x.2.1 (List.map (ax (aa x.1).1) x.2.1) x_1.2.toNat++x.1.getD (x.2.1.getD x_1.2.toNat 0).toNat 0::(List.map (dO x.2.1 (an x.2.1 (List.map (ax (aa x.1).1) x.2.1) x.2.2)) (aU x.1 (x.2.1.getD x_1.2.toNat 0))++List.take x_3.2.toNat (d7 x.1 (x.2.1.getD x_1.2.toNat 0))))++List.replicate ((↑x.1.length:Int) - (cB x.2.2 x.2.1 (List.map (ax (aa x.1).1) x.2.1) x_1.2.toNat+1+(↑(aU x.1 (x.2.1.getD x_1.2.toNat 0)).length:Int)+x_3.2)).toNat 0→(decide (x_3.2<(ah (x.2.1.getD x_1.2.toNat 0) (aa x.1).1).1.2.1)=true→0≤x_1.2∧x_1.2<(↑(an x.2.1 (List.map (ax (aa x.1).1) x.2.1) x.2.2).length:Int)∧x_1.2.toNat<(an x.2.1 (List.map (ax (aa x.1).1) x.2.1) x.2.2).length∧ak IntKind.i64 ((an x.2.1 (List.map (ax (aa x.1).1) x.2.1) x.2.2).getD x_1.2.toNat 0+1)∧ak IntKind.i64 ((an x.2.1 (List.map (ax (aa x.1).1) x.2.1) x.2.2).getD x_1.2.toNat 0+1+(ah (x.2.1.getD x_1.2.toNat 0) (aa x.1).1).1.1)∧ak IntKind.i64 ((an x.2.1 (List.map (ax (aa x.1).1) x.2.1) x.2.2).getD x_1.2.toNat 0+1+(ah (x.2.1.getD x_1.2.toNat 0) (aa x.1).1).1.1+x_3.2)∧ak IntKind.i64 (x.2.1.getD x_1.2.toNat 0+1)∧ak IntKind.i64 (x.2.1.getD x_1.2.toNat 0+1+(ah (x.2.1.getD x_1.2.toNat 0) (aa x.1).1).1.1)∧ak IntKind.i64 (x.2.1.getD x_1.2.toNat 0+1+(ah (x.2.1.getD x_1.2.toNat 0) (aa x.1).1).1.1+x_3.2)∧0≤x.2.1.getD x_1.2.toNat 0+1+(ah (x.2.1.getD x_1.2.toNat 0) (aa x.1).1).1.1+x_3.2∧x.2.1.getD x_1.2.toNat 0+1+(ah (x.2.1.getD x_1.2.toNat 0) (aa x.1).1).1.1+x_3.2<(↑x.1.length:Int)∧0≤(an x.2.1 (List.map (ax (aa x.1).1) x.2.1) x.2.2).getD x_1.2.toNat 0+1+(ah (x.2.1.getD x_1.2.toNat 0) (aa x.1).1).1.1+x_3.2∧(an x.2.1 (List.map (ax (aa x.1).1) x.2.1) x.2.2).getD x_1.2.toNat 0+1+(ah (x.2.1.getD x_1.2.toNat 0) (aa x.1).1).1.1+x_3.2<(↑x_3.1.length:Int)∧((an x.2.1 (List.map (ax (aa x.1).1) x.2.1) x.2.2).getD x_1.2.toNat 0+1+(ah (x.2.1.getD x_1.2.toNat 0) (aa x.1).1).1.1+x_3.2).toNat<x_3.1.length∧ak IntKind.i64 (x_3.2+1)∧(0≤x_3.2+1∧x_3.2+1≤(ah (x.2.1.getD x_1.2.toNat 0) (aa x.1).1).1.2.1∧x_3.1.set ((an x.2.1 (List.map (ax (aa x.1).1) x.2.1) x.2.2).getD x_1.2.toNat 0+1+(ah (x.2.1.getD x_1.2.toNat 0) (aa x.1).1).1.1+x_3.2).toNat (x.1.getD (x.2.1.getD x_1.2.toNat 0+1+(ah (x.2.1.getD x_1.2.toNat 0) (aa x.1).1).1.1+x_3.2).toNat 0)=bQ x.1 x.2.1 (an x.2.1 (List.map (ax (aa x.1).1) x.2.1) x.2.2) x.2.2 (List.map (ax (aa x.1).1) x.2.1) x_1.2.toNat++(gx x.2.2 x.2.1 (List.map (ax (aa x.1).1) x.2.1) x_1.2.toNat++x.1.getD (x.2.1.getD x_1.2.toNat 0).toNat 0::(List.map (dO x.2.1 (an x.2.1 (List.map (ax (aa x.1).1) x.2.1) x.2.2)) (aU x.1 (x.2.1.getD x_1.2.toNat 0))++List.take (x_3.2+1).toNat (d7 x.1 (x.2.1.getD x_1.2.toNat 0))))++List.replicate ((↑x.1.length:Int) - (cB x.2.2 x.2.1 (List.map (ax (aa x.1).1) x.2.1) x_1.2.toNat+1+(↑(aU x.1 (x.2.1.getD x_1.2.toNat 0)).length:Int)+(x_3.2+1))).toNat 0)∧((ah (x.2.1.getD x_1.2.toNat 0) (aa x.1).1).1.2.1 - (x_3.2+1)).toNat<((ah (x.2.1.getD x_1.2.toNat 0) (aa x.1).1).1.2.1 - x_3.2).toNat)∧(decide (x_3.2<(ah (x.2.1.getD x_1.2.toNat 0) (aa x.1).1).1.2.1)=false→ak IntKind.i64 (x_1.2+1)∧(0≤x_1.2+1∧x_1.2+1≤(↑x.2.1.length:Int)∧(((List.drop (x_1.2+1).toNat x.2.1).all fun (at_:Int)=>bY x.2.1 (an x.2.1 (List.map (ax (aa x.1).1) x.2.1) x.2.2) (aU x.1 at_))=x.2.1.all fun (at_:Int)=>bY x.2.1 (an x.2.1 (List.map (ax (aa x.1).1) x.2.1) x.2.2) (aU x.1 at_))∧x_3.1=bQ x.1 x.2.1 (an x.2.1 (List.map (ax (aa x.1).1) x.2.1) x.2.2) x.2.2 (List.map (ax (aa x.1).1) x.2.1) (x_1.2+1).toNat++List.replicate ((↑x.1.length:Int) - aW x.2.2 x.2.1 (List.map (ax (aa x.1).1) x.2.1) (x_1.2+1).toNat).toNat 0)∧((↑x.2.1.length:Int) - (x_1.2+1)).toNat<((↑x.2.1.length:Int) - x_1.2).toNat)))∧(decide (x_1.2<(↑x.2.1.length:Int))=false→(x.1.length≤256∧dm x.2.1 (List.map (ax (aa x.1).1) x.2.1))∧((0:Int)≤0∧0≤(↑(bb (fun (k:Int)=>!fO (aa x.1).1 x.2.1 (an x.2.1 (List.map (ax (aa x.1).1) x.2.1) x.2.2) k) x.1.length 0 ([]:List bK)).length:Int)∧x_1.1.length=x_1.1.length∧x_1.1=List.foldl eJ x_1.1 (List.take (Int.toNat 0) (bb (fun (k:Int)=>!fO (aa x.1).1 x.2.1 (an x.2.1 (List.map (ax (aa x.1).1) x.2.1) x.2.2) k) x.1.length 0 ([]:List bK))))∧∀ (x_2:List Int×Int),0≤x_2.2∧x_2.2≤(↑(bb (fun (k:Int)=>!fO (aa x.1).1 x.2.1 (an x.2.1 (List.map (ax (aa x.1).1) x.2.1) x.2.2) k) x.1.length 0 ([]:List bK)).length:Int)∧x_2.1.length=x_1.1.length∧x_2.1=List.foldl eJ x_1.1 (List.take x_2.2.toNat (bb (fun (k:Int)=>!fO (aa x.1).1 x.2.1 (an x.2.1 (List.map (ax (aa x.1).1) x.2.1) x.2.2) k) x.1.length 0 ([]:List bK)))→(decide (x_2.2<(↑(bb (fun (k:Int)=>!fO (aa x.1).1 x.2.1 (an x.2.1 (List.map (ax (aa x.1).1) x.2.1) x.2.2) k) x.1.length 0 ([]:List bK)).length:Int))=true→0≤x_2.2∧x_2.2<(↑(bb (fun (k:Int)=>!fO (aa x.1).1 x.2.1 (an x.2.1 (List.map (ax (aa x.1).1) x.2.1) x.2.2) k) x.1.length 0 ([]:List bK)).length:Int)∧x_2.2.toNat<(bb (fun (k:Int)=>!fO (aa x.1).1 x.2.1 (an x.2.1 (List.map (ax (aa x.1).1) x.2.1) x.2.2) k) x.1.length 0 ([]:List bK)).length∧(1≤((bb (fun (k:Int)=>!fO (aa x.1).1 x.2.1 (an x.2.1 (List.map (ax (aa x.1).1) x.2.1) x.2.2) k) x.1.length 0 ([]:List bK)).getD x_2.2.toNat (0,0)).2∧((bb (fun (k:Int)=>!fO (aa x.1).1 x.2.1 (an x.2.1 (List.map (ax (aa x.1).1) x.2.1) x.2.2) k) x.1.length 0 ([]:List bK)).getD x_2.2.toNat (0,0)).2≤256)∧0≤((bb (fun (k:Int)=>!fO (aa x.1).1 x.2.1 (an x.2.1 (List.map (ax (aa x.1).1) x.2.1) x.2.2) k) x.1.length 0 ([]:List bK)).getD x_2.2.toNat (0,0)).1∧((bb (fun (k:Int)=>!fO (aa x.1).1 x.2.1 (an x.2.1 (List.map (ax (aa x.1).1) x.2.1) x.2.2) k) x.1.length 0 ([]:List bK)).getD x_2.2.toNat (0,0)).1<(↑x_2.1.length:Int)∧((bb (fun (k:Int)=>!fO (aa x.1).1 x.2.1 (an x.2.1 (List.map (ax (aa x.1).1) x.2.1) x.2.2) k) x.1.length 0 ([]:List bK)).getD x_2.2.toNat (0,0)).1.toNat<x_2.1.length∧ak IntKind.i64 (x_2.2+1)∧(0≤x_2.2+1∧x_2.2+1≤(↑(bb (fun (k:Int)=>!fO (aa x.1).1 x.2.1 (an x.2.1 (List.map (ax (aa x.1).1) x.2.1) x.2.2) k) x.1.length 0 ([]:List bK)).length:Int)∧(x_2.1.set ((bb (fun (k:Int)=>!fO (aa x.1).1 x.2.1 (an x.2.1 (List.map (ax (aa x.1).1) x.2.1) x.2.2) k) x.1.length 0 ([]:List bK)).getD x_2.2.toNat (0,0)).1.toNat (aR (0,((bb (fun (k:Int)=>!fO (aa x.1).1 x.2.1 (an x.2.1 (List.map (ax (aa x.1).1) x.2.1) x.2.2) k) x.1.length 0 ([]:List bK)).getD x_2.2.toNat (0,0)).2 - 1,0,true))).length=x_1.1.length∧x_2.1.set ((bb (fun (k:Int)=>!fO (aa x.1).1 x.2.1 (an x.2.1 (List.map (ax (aa x.1).1) x.2.1) x.2.2) k) x.1.length 0 ([]:List bK)).getD x_2.2.toNat (0,0)).1.toNat (aR (0,((bb (fun (k:Int)=>!fO (aa x.1).1 x.2.1 (an x.2.1 (List.map (ax (aa x.1).1) x.2.1) x.2.2) k) x.1.length 0 ([]:List bK)).getD x_2.2.toNat (0,0)).2 - 1,0,true))=List.foldl eJ x_1.1 (List.take (x_2.2+1).toNat (bb (fun (k:Int)=>!fO (aa x.1).1 x.2.1 (an x.2.1 (List.map (ax (aa x.1).1) x.2.1) x.2.2) k) x.1.length 0 ([]:List bK))))∧((↑(bb (fun (k:Int)=>!fO (aa x.1).1 x.2.1 (an x.2.1 (List.map (ax (aa x.1).1) x.2.1) x.2.2) k) x.1.length 0 ([]:List bK)).length:Int) - (x_2.2+1)).toNat<((↑(bb (fun (k:Int)=>!fO (aa x.1).1 x.2.1 (an x.2.1 (List.map (ax (aa x.1).1) x.2.1) x.2.2) k) x.1.length 0 ([]:List bK)).length:Int) - x_2.2).toNat)∧(decide (x_2.2<(↑(bb (fun (k:Int)=>!fO (aa x.1).1 x.2.1 (an x.2.1 (List.map (ax (aa x.1).1) x.2.1) x.2.2) k) x.1.length 0 ([]:List bK)).length:Int))=false→x_2.1=(jt x.1 x.2.1 x.2.2).1∧true=(jt x.1 x.2.1 x.2.2).2∧True))
theorem Dp:zx:=by
 unfold zx
 intro ⟨a,keep,pinned⟩ ⟨⟨hb,hw⟩,_⟩ hz
 unfold az at hb
 simp only at hb hw hz ⊢
 have hP:=xp hz
 have k6:=(kL hz).2.2.2.2.2
 rw [k6] at hP
 have hF:jt a keep pinned=if (keep.all fun at_=>bY keep (an keep (keep.map (ax (aa a).1)) pinned) (aU a at_))=true then
  (js a keep (an keep (keep.map (ax (aa a).1)) pinned) pinned (keep.map (ax (aa a).1)) (bI a.length keep (keep.map (ax (aa a).1)) pinned),true)
  else ([],false):=rfl
 rw [hF,zI hz]
 have hhd:∀ x,(ah x (aa a).1).1=dD a x:=fun _=>rfl
 have hnm:∀ x,aB a x (dD a x)=(aU a x).map nameOf:=fun _=>rfl
 simp only [hhd,hnm,List.length_map]
 clear hF k6 hz hhd hnm
 generalize keep.map (ax (aa a).1)=long at *
 have hto:(an keep long pinned).length=keep.length:=by simp [an]
 have htg:∀ i:Nat,i<keep.length→(an keep long pinned).getD i 0=cB pinned keep long i:=by
  intro i hi
  unfold an
  rw [List.getD_eq_getElem?_getD,List.getElem?_map,List.getElem?_range hi]
  rfl
 have hk0:∀ x∈keep,0≤x:=fun x hx=>(hP.pre.2.2.1 x hx).1
 have hkl:=hP.pre.2.1
 have hlong:=hP.pre.1
 have hal:=hP.al
 have hgi:=qb hP
 have hgl:=ke a.length keep long pinned
 have hkr:∀ x∈keep,0≤x∧x≤255:=hP.pre.2.2.1
 rw [hto]
 generalize an keep long pinned=to at *
 generalize bI a.length keep long pinned=g at *
 unfold az
 refine ⟨hP.pre,by omega,by omega,⟨by omega,by omega,rfl,?_⟩,fun ⟨w,i⟩ ⟨b0,b1,b2,b3⟩=>⟨fun hlt=>?_,fun hge=>?_⟩⟩
 ·simp [bQ,aW]
 ·have hlt':i<(keep.length:Int):=of_decide_eq_true hlt
  simp only at b0 b1 b2 b3 ⊢
  have hib:=hP.isb _ (aD (0:Int) b0 hlt')
  obtain ⟨l1,l2,l3,l4,l5,l6⟩:=cp hib
  obtain ⟨_,_,hfault,hdw,hish,_⟩:=gc hib
  have hle:=hP.le i.toNat (by omega)
  have hlg:=hP.lg i.toNat (by omega)
  have hul:=fu to hP i.toNat (by omega)
  have hE0:=bR pinned hP.pre i.toNat (by omega)
  have hE1:aW pinned keep long (i.toNat+1)=cB pinned keep long i.toNat+long.getD i.toNat 0:=rfl
  have hwl:w.length=a.length:=by
   rw [b3,List.length_append,List.length_replicate]
   omega
  rw [aS (0:Int) b0 hlt',List.all_cons,show (i+1).toNat=i.toNat+1 by omega] at b2
  have hup:bQ a keep to pinned long (i.toNat+1)=bQ a keep to pinned long i.toNat++(gx pinned keep long i.toNat++f9 a keep to (keep.getD i.toNat 0)):=rfl
  have hpw:f9 a keep to (keep.getD i.toNat 0)=a.getD (keep.getD i.toNat 0).toNat 0::((aU a (keep.getD i.toNat 0)).map (dO keep to)++d7 a (keep.getD i.toNat 0)):=rfl
  have hgw:(gx pinned keep long i.toNat).length=(cB pinned keep long i.toNat - aW pinned keep long i.toNat).toNat:=by simp [gx]
  have hgd:gx pinned keep long i.toNat=List.replicate (cB pinned keep long i.toNat - aW pinned keep long i.toNat).toNat 0:=rfl
  have hbk:∀ k:Int,0≤k→k<(d7 a (keep.getD i.toNat 0)).length→a.getD (keep.getD i.toNat 0+1+(dD a (keep.getD i.toNat 0)).1+k).toNat 0=(d7 a (keep.getD i.toNat 0)).getD k.toNat 0:=fun k h0 h1=>EK h0 h1 l2 l3 l5
  have hrw:∀ x∈aU a (keep.getD i.toNat 0),0≤x:=fun x hx=>(hw x (List.mem_of_mem_take (List.mem_of_mem_drop hx))).1
  have hhw:aR (dD a (keep.getD i.toNat 0))=a.getD (keep.getD i.toNat 0).toNat 0:=by
   rw [hdw]
   exact qK hish (hw _ (aD (0:Int) l3 (by omega))).1
  rw [htg i.toNat (by omega),show (i+1).toNat=i.toNat+1 by omega,hup,hpw,hhw]
  clear hup hpw hib hhw hdw hish
  generalize keep.getD i.toNat 0=at_ at *
  have hfst:(dD a at_).1=((aU a at_).length:Int):=l1.symm
  have hsnd:(dD a at_).2.1=((d7 a at_).length:Int):=l2.symm
  rw [hfst,hsnd] at hlg l4 ⊢
  rw [hfst] at hbk
  generalize aU a at_=rs at *
  generalize d7 a at_=bd at *
  rw [hlg] at hle hE1
  rw [hE1]
  generalize hS:bQ a keep to pinned long i.toNat=S at *
  generalize gx pinned keep long i.toNat=G at *
  generalize cB pinned keep long i.toNat=t at *
  generalize aW pinned keep long i.toNat=e at *
  have hrep:∀ m:Int,m<(a.length:Int)→List.replicate ((a.length:Int) - m).toNat (0:Int)=0::List.replicate ((a.length:Int) - (m+1)).toNat 0:=by
   intro m hm
   rw [show ((a.length:Int) - m).toNat=((a.length:Int) - (m+1)).toNat+1 by omega]
   rfl
  have hw0:w=(S++G)++0::List.replicate ((a.length:Int) - (t+1)).toNat 0:=by
   rw [b3,← hrep t (by omega),hgd,List.append_assoc,List.replicate_append_replicate]
   congr 2
   omega
  have hset0:∀ y,w.set t.toNat y=(S++G)++y::List.replicate ((a.length:Int) - (t+1)).toNat 0:=fun y=>by
   rw [hw0]
   exact jK y (by rw [List.length_append]; omega)
  rw [hset0]
  simp only [ak]
  refine ⟨b0,hlt',trivial,b0,by omega,by omega,hfault,by omega,by omega,by omega,trivial,⟨by omega,by omega,rfl,?_⟩,fun ⟨w',k⟩ ⟨c0,c1,c4,c5⟩=>⟨fun hk=>?_,fun hk=>?_⟩⟩
  ·rw [show t+1+0=t+1 by omega]
   simp [List.append_assoc]
  ·have hk:k<(rs.length:Int):=of_decide_eq_true hk
   simp only at c0 c1 c4 c5 ⊢
   rw [aS (0:Int) c0 hk] at c4
   have hsn:=bj (0:Int) c0 hk
   have hx0:=hrw _ (aD (0:Int) c0 hk)
   have hng:(rs.map nameOf).getD k.toNat 0=nameOf (rs.getD k.toNat 0):=by
    rw [List.getD_eq_getElem?_getD,List.getElem?_map,List.getD_eq_getElem?_getD,List.getElem?_eq_getElem (by omega)]
    rfl
   rw [hsn,List.map_append,hng]
   generalize rs.getD k.toNat 0=x at *
   have hA:(S++(G++a.getD at_.toNat 0::(rs.take k.toNat).map (dO keep to))).length=(t+1+k).toNat:=by
    simp only [List.length_append,List.length_cons,List.length_map,List.length_take]
    omega
   have hw':w'.length=a.length:=by
    rw [c5,List.length_append,hA,List.length_replicate]
    omega
   rw [hrep (t+1+k) (by omega),show t+1+k+1=t+1+(k+1) by omega] at c5
   have hset:∀ y,w'.set (t+1+k).toNat y=(S++(G++a.getD at_.toNat 0::(rs.take k.toNat).map (dO keep to)))++y::List.replicate ((a.length:Int) - (t+1+(k+1))).toNat 0:=fun y=>by
    rw [c5]; exact jK y hA.symm
   have hg1:bY keep to (x::rs.drop (k+1).toNat)=((gk keep to x).isSome&&bY keep to (rs.drop (k+1).toNat)):=rfl
   rw [hg1] at c4
   obtain ⟨n1,n2⟩:=Fx (to:=to) hkr hx0
   have hm:[x].map (dO keep to)=[(gk keep to x).getD 0]:=rfl
   rw [hset,hm]
   refine ⟨c0,hk,by omega,fun hn=>?_,fun hn=>⟨trivial,fun hp=>?_,fun hp=>?_⟩⟩
   ·have e:=n1 (of_decide_eq_true hn)
    rw [e,Option.isSome_some,Bool.true_and] at c4
    rw [e]
    refine ⟨by omega,⟨by omega,by omega,c4,?_⟩,by omega⟩
    rw [c5]
    simp [List.append_assoc]
   ·have e:=(n2 (of_decide_eq_false hn)).1 (of_decide_eq_true hp)
    rw [e,Option.isSome_none,Bool.false_and] at c4
    rw [← c4,Bool.false_and] at b2
    rw [if_neg (by rw [← b2]; simp)]
    exact ⟨rfl,rfl,trivial⟩
   ·obtain ⟨e,hpl⟩:=(n2 (of_decide_eq_false hn)).2 (of_decide_eq_false hp)
    have hp0:0≤bA keep (nameOf x):=Int.not_lt.1 (of_decide_eq_false hp)
    rw [e,Option.isSome_some,Bool.true_and] at c4
    rw [e]
    generalize bA keep (nameOf x)=p at *
    have htp:=jq pinned hP.pre (i:=p.toNat) (by omega)
    rw [← htg p.toNat (by omega)] at htp
    rw [gj (n:=to.getD p.toNat 0) (by omega) (by omega)]
    refine ⟨b0,by omega,by omega,by omega,by omega,hp0,by omega,by omega,by omega,by omega,by omega,by omega,by omega,⟨by omega,by omega,c4,?_⟩,by omega⟩
    simp [List.append_assoc]
  ·have hk:¬ k<(rs.length:Int):=of_decide_eq_false hk
   simp only at c0 c1 c4 c5 ⊢
   rw [bn hk] at c4
   rw [bE hk,show k=(rs.length:Int) by omega] at c5
   have hg0:bY keep to []=true:=rfl
   rw [hg0] at c4
   rw [← c4,Bool.true_and] at b2
   refine ⟨⟨by omega,by omega,?_⟩,fun ⟨w2,j⟩ ⟨d0,d1,d2⟩=>⟨fun hj=>?_,fun hj=>?_⟩⟩
   ·rw [c5,Int.add_zero]
    simp [List.append_assoc]
   ·have hj:j<(bd.length:Int):=of_decide_eq_true hj
    simp only at d0 d1 d2 ⊢
    rw [hbk j d0 hj]
    have hsn:=bj (0:Int) d0 hj
    rw [hsn]
    generalize bd.getD j.toNat 0=y at *
    have hA:(S++(G++a.getD at_.toNat 0::(rs.map (dO keep to)++bd.take j.toNat))).length=(t+1+(rs.length:Int)+j).toNat:=by
     simp only [List.length_append,List.length_cons,List.length_map,List.length_take]
     omega
    have hw':w2.length=a.length:=by
     rw [d2,List.length_append,hA,List.length_replicate]
     omega
    rw [hrep (t+1+(rs.length:Int)+j) (by omega),show t+1+(rs.length:Int)+j+1=t+1+(rs.length:Int)+(j+1) by omega] at d2
    have hset:w2.set (t+1+(rs.length:Int)+j).toNat y=(S++(G++a.getD at_.toNat 0::(rs.map (dO keep to)++bd.take j.toNat)))++y::List.replicate ((a.length:Int) - (t+1+(rs.length:Int)+(j+1))).toNat 0:=by
     rw [d2]; exact jK y hA.symm
    rw [hset]
    refine ⟨b0,by omega,by omega,by omega,by omega,by omega,by omega,by omega,by omega,by omega,by omega,by omega,by omega,by omega,by omega,⟨by omega,by omega,?_⟩,by omega⟩
    simp [List.append_assoc]
   ·have hj:¬ j<(bd.length:Int):=of_decide_eq_false hj
    simp only at d0 d1 d2 ⊢
    rw [bE hj] at d2
    refine ⟨by omega,⟨by omega,by omega,b2,?_⟩,by omega⟩
    rw [d2]
    simp only [List.append_assoc,List.cons_append]
    congr 6
    omega
 ·have hge:¬ i<(keep.length:Int):=of_decide_eq_false hge
  simp only at b0 b1 b2 b3 ⊢
  rw [bn hge,List.all_nil] at b2
  rw [if_pos b2.symm]
  rw [show i.toNat=keep.length by omega] at b3
  have hul:=fu to hP keep.length (Nat.le_refl _)
  have hE0:=bR pinned hP.pre keep.length (Nat.le_refl _)
  have hen:=hP.en
  have hwl:w.length=a.length:=by
   rw [b3,List.length_append,List.length_replicate]
   omega
  have hW:js a keep to pinned long g=g.foldl eJ w:=by
   rw [b3]
   rfl
  rw [hW]
  refine ⟨⟨hal,hP.pre⟩,⟨by omega,by omega,trivial,rfl⟩,fun ⟨w',j⟩ ⟨d0,d1,d2,d3⟩=>⟨fun hj=>?_,fun hj=>?_⟩⟩
  ·have hj:j<(g.length:Int):=of_decide_eq_true hj
   simp only at d0 d1 d2 d3 ⊢
   have hr:=hgi _ (aD ((0,0):bK) d0 hj)
   have hsn:=bj ((0,0):bK) d0 hj
   rw [hsn,List.foldl_append,← d3]
   generalize g.getD j.toNat (0,0)=r at *
   rw [List.length_set]
   simp only [ak]
   exact ⟨d0,hj,by omega,⟨by omega,by omega⟩,hr.1,by omega,by omega,by omega,⟨by omega,by omega,d2,rfl⟩,by omega⟩
  ·have hj:¬ j<(g.length:Int):=of_decide_eq_false hj
   simp only at d3 ⊢
   rw [bE hj] at d3
   exact ⟨d3,trivial,trivial⟩
theorem FJ:Ff.ok Tryz.prog 52:=aI (ann:=GH) (ae mL (ae gq (ae jO (ae lD (ae oY (ae xz (ae nU ap))))))) Tryz.func52 (by kernel_rfl) Dp
end Go.Proofs.YtglchojglcobjaaGreat
