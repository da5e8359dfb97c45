
import Derived.Test.YtglchojglcobjaaGreatSlideLaw
import Derived.Test.YtglchojglcobjaaGreatReaches
import Derived.Test.YtglchojglcobjaaGreatConcats
namespace Go.Proofs.YtglchojglcobjaaGreat
open Go
set_option maxRecDepth 100000
set_option maxHeartbeats 1000000
theorem gQ:∀ {l:List Int},l.Pairwise (·<·)→bv l=true
 | [],_=>rfl
 | [_],_=>rfl
 | x::y::l,h=>by
  obtain ⟨h1,h2⟩:=List.pairwise_cons.1 h
  simp only [bv,Bool.and_eq_true,decide_eq_true_eq]
  exact ⟨h1 y (by simp),gQ h2⟩
theorem qA {a f p:List Int} (hw:∀ x∈a,ak .u64 x) (h:aX a (f++p)=0) (hp:bv p=true):ai a (aY a (f++p)) p=((aY a (f++p)).map (ax (aa a).1),0):=by
 obtain ⟨h1,h2⟩:=dE h
 have hr:=fun x=>fR (a:=a) (from_:=f++p) hw h1 h2 (x:=x)
 have e1:bv (aY a (f++p))=true:=gQ (iy _ _)
 have e2:(aY a (f++p)).all (isB (aa a).1)=true:=List.all_eq_true.2 fun x hx=>((hr x).1 hx).isB hw h1 h2
 have e3:p.all (cD (aY a (f++p)))=true:=List.all_eq_true.2 fun x hx=>cz.2 ((hr x).2 (.base (by simp [hx])))
 unfold ai
 rw [if_neg (by omega),e1,hp,e2,e3]
 simp
theorem tj {a f p:List Int} (hw:∀ x∈a,ak .u64 x) (h:aX a (f++p)=0) (to:List Int):((aY a (f++p)).all fun x=>bY (aY a (f++p)) to (aU a x))=true:=by
 obtain ⟨h1,h2⟩:=dE h
 have hr:=fun x=>fR (a:=a) (from_:=f++p) hw h1 h2 (x:=x)
 refine List.all_eq_true.2 fun x hx=>List.all_eq_true.2 fun v hv=>?_
 unfold gk
 by_cases h0:v=0
 ·rw [if_pos h0]; rfl
 ·have h3:v - 1∈du a x:=by
   unfold du
   exact List.mem_map.2 ⟨v,List.mem_filter.2 ⟨hv,by simpa using h0⟩,rfl⟩
  rw [if_neg h0,if_pos (cz.2 ((hr _).2 (.step ((hr _).1 hx) h3)))]
  rfl
def ar (a f p:List Int):List Int×List Int×Int :=
 if aX a (f++p)≠0 then ([],[],aX a (f++p)) else
 if bv p=false then ([],[],3) else
 ((cq a (aY a (f++p)) p).1,f.map fun x=>(an (aY a (f++p)) ((aY a (f++p)).map (ax (aa a).1)) p).getD (bA (aY a (f++p)) x).toNat 0,0)
theorem nQ {l:List Int} {x:Int} (h:x∈l):0≤bA l x∧bA l x<l.length:=by
 have h1:=cF (fun y=>decide (y=x)) l 0 (by omega)
 have h2:=dG (fun y=>decide (y=x)) x l 0 (by omega)
 have h3:(l.any fun y=>decide (y=x))=true:=cz.2 h
 rw [h3] at h1
 exact ⟨of_decide_eq_true h1,by unfold bA; omega⟩
theorem ld {a f p:List Int} (hw:∀ x∈a,ak .u64 x) (h:aX a (f++p)=0) (hp:bv p=true) :
  cq a (aY a (f++p)) p=((jt a (aY a (f++p)) p).1,an (aY a (f++p)) ((aY a (f++p)).map (ax (aa a).1)) p,0)∧(jt a (aY a (f++p)) p).2=true:=by
 have e:=qA hw h hp
 have hg:=tj hw h (an (aY a (f++p)) ((aY a (f++p)).map (ax (aa a).1)) p)
 unfold cq jt
 rw [e]
 simp only
 rw [if_neg (by omega),if_pos hg,if_pos hg]
 exact ⟨rfl,rfl⟩
theorem oC {a f p:List Int} (h:aX a (f++p)=0) (hp:bv p=false):cq a (aY a (f++p)) p=([],[],3):=by
 obtain ⟨h1,_⟩:=dE h
 have e:ai a (aY a (f++p)) p=([],3):=by
  unfold ai
  rw [if_neg (by omega),hp,Bool.and_false,if_pos rfl]
 unfold cq
 rw [e]
 rfl
def GP:Nat→Option LoopGen
 | 9=>some { rd:=[.dat 39 (.arr ty_I),.own 9 3 ty_I,.own 12 3 ty_I],A:=fun ((f,keep,to):List Int×List Int×List Int)=>{ cs:=[.own 13 3 ty_I,.dat 41 ty_I],inv:=fun ((out,i):List Int×Int)=>0≤i∧i≤f.length∧out=(f.take i.toNat).map fun x=>to.getD (bA keep x).toNat 0,mu:=fun ((_,i):List Int×Int)=>(f.length - i).toNat } }
 | _=>none
def Fp:Spec:={ Ts:=[.arr be,.arr ty_I,.arr ty_I],Rs:=[.own 50 be,.own 3 ty_I,.dat ty_I],pre:=fun ((_,f,p):List Int×List Int×List Int)=>(f.length+p.length) * 8≤140737488355328,F:=fun ((a,f,p):List Int×List Int×List Int)=>ar a f p }
def zG:Prop :=
  ∀ (x:List Int×List Int×List Int),((x.1.length * 8≤az∧∀ (x_1:Int),x_1∈x.1→ak IntKind.u64 x_1)∧(x.2.1.length * 8≤az∧∀ (x_1:Int),x_1∈x.2.1→ak IntKind.i64 x_1)∧x.2.2.length * 8≤az∧∀ (x_1:Int),x_1∈x.2.2→ak IntKind.i64 x_1)→(x.2.1.length+x.2.2.length) * 8≤140737488355328→[x.2.1,x.2.2].flatten.length * 8≤az∧True∧(decide ((bJ x.1 [x.2.1,x.2.2].flatten).2≠0)=true→([]:List Int)=(ar x.1 x.2.1 x.2.2).1∧([]:List Int)=(ar x.1 x.2.1 x.2.2).2.1∧(bJ x.1 [x.2.1,x.2.2].flatten).2=(ar x.1 x.2.1 x.2.2).2.2∧True)∧(decide ((bJ x.1 [x.2.1,x.2.2].flatten).2≠0)=false→True∧(decide ((cq x.1 (bJ x.1 [x.2.1,x.2.2].flatten).1 x.2.2).2.2≠0)=true→([]:List Int)=(ar x.1 x.2.1 x.2.2).1∧([]:List Int)=(ar x.1 x.2.1 x.2.2).2.1∧(cq x.1 (bJ x.1 [x.2.1,x.2.2].flatten).1 x.2.2).2.2=(ar x.1 x.2.1 x.2.2).2.2∧True)∧(decide ((cq x.1 (bJ x.1 [x.2.1,x.2.2].flatten).1 x.2.2).2.2≠0)=false→((0:Int)≤0∧0≤(↑x.2.1.length:Int)∧([]:List Int)=List.map (fun (x_1:Int)=>(cq x.1 (bJ x.1 [x.2.1,x.2.2].flatten).1 x.2.2).2.1.getD (bA (bJ x.1 [x.2.1,x.2.2].flatten).1 x_1).toNat 0) (List.take (Int.toNat 0) x.2.1))∧∀ (x_1:List Int×Int),0≤x_1.2∧x_1.2≤(↑x.2.1.length:Int)∧x_1.1=List.map (fun (x_2:Int)=>(cq x.1 (bJ x.1 [x.2.1,x.2.2].flatten).1 x.2.2).2.1.getD (bA (bJ x.1 [x.2.1,x.2.2].flatten).1 x_2).toNat 0) (List.take x_1.2.toNat x.2.1)→(decide (x_1.2<(↑x.2.1.length:Int))=true→0≤x_1.2∧x_1.2<(↑x.2.1.length:Int)∧True∧0≤bA (bJ x.1 [x.2.1,x.2.2].flatten).1 (x.2.1.getD x_1.2.toNat 0)∧bA (bJ x.1 [x.2.1,x.2.2].flatten).1 (x.2.1.getD x_1.2.toNat 0)<(↑(cq x.1 (bJ x.1 [x.2.1,x.2.2].flatten).1 x.2.2).2.1.length:Int)∧(bA (bJ x.1 [x.2.1,x.2.2].flatten).1 (x.2.1.getD x_1.2.toNat 0)).toNat<(cq x.1 (bJ x.1 [x.2.1,x.2.2].flatten).1 x.2.2).2.1.length∧(x_1.1.length+[(cq x.1 (bJ x.1 [x.2.1,x.2.2].flatten).1 x.2.2).2.1.getD (bA (bJ x.1 [x.2.1,x.2.2].flatten).1 (x.2.1.getD x_1.2.toNat 0)).toNat 0].length) * 8≤az∧ak IntKind.i64 (x_1.2+1)∧(0≤x_1.2+1∧x_1.2+1≤(↑x.2.1.length:Int)∧x_1.1++[(cq x.1 (bJ x.1 [x.2.1,x.2.2].flatten).1 x.2.2).2.1.getD (bA (bJ x.1 [x.2.1,x.2.2].flatten).1 (x.2.1.getD x_1.2.toNat 0)).toNat 0]=List.map (fun (x_2:Int)=>(cq x.1 (bJ x.1 [x.2.1,x.2.2].flatten).1 x.2.2).2.1.getD (bA (bJ x.1 [x.2.1,x.2.2].flatten).1 x_2).toNat 0) (List.take (x_1.2+1).toNat x.2.1))∧((↑x.2.1.length:Int) - (x_1.2+1)).toNat<((↑x.2.1.length:Int) - x_1.2).toNat)∧(decide (x_1.2<(↑x.2.1.length:Int))=false→(cq x.1 (bJ x.1 [x.2.1,x.2.2].flatten).1 x.2.2).1=(ar x.1 x.2.1 x.2.2).1∧x_1.1=(ar x.1 x.2.1 x.2.2).2.1∧0=(ar x.1 x.2.1 x.2.2).2.2∧True)))
theorem Dy:zG:=by
 unfold zG
 intro ⟨a,f,p⟩ ⟨⟨hb,hw⟩,⟨hbf,_⟩,hbp,_⟩ hsz
 unfold az at hb hbf hbp
 simp only at hb hw hbf hbp hsz ⊢
 have hfl:[f,p].flatten=f++p:=by simp
 rw [hfl]
 have hR:bJ a (f++p)=if aX a (f++p)≠0 then ([],aX a (f++p)) else (aY a (f++p),0):=rfl
 have hF:ar a f p=if aX a (f++p)≠0 then ([],[],aX a (f++p)) else if bv p=false then ([],[],3) else
  ((cq a (aY a (f++p)) p).1,f.map fun x=>(an (aY a (f++p)) ((aY a (f++p)).map (ax (aa a).1)) p).getD (bA (aY a (f++p)) x).toNat 0,0):=rfl
 refine ⟨by rw [List.length_append]; unfold az; omega,trivial,fun h=>?_,fun h=>?_⟩
 ·have h:=of_decide_eq_true h
  by_cases h0:aX a (f++p)≠0
  ·rw [hR,if_pos h0,hF,if_pos h0]
   exact ⟨by first | trivial | rfl,by first | trivial | rfl,by first | trivial | rfl,trivial⟩
  ·rw [hR,if_neg h0] at h
   exact absurd rfl h
 have h:=of_decide_eq_false h
 have h0:aX a (f++p)=0:=by
  by_cases h0:aX a (f++p)≠0
  ·rw [hR,if_pos h0] at h
   exact absurd h0 h
  ·omega
 rw [hR,if_neg (by omega),hF,if_neg (by omega)]
 simp only
 refine ⟨trivial,fun h2=>?_,fun h2=>?_⟩
 ·have h2:=of_decide_eq_true h2
  have h3:bv p=false:=by
   cases h3:bv p
   ·rfl
   ·rw [(ld hw h0 h3).1] at h2
    exact absurd rfl h2
  rw [if_pos h3,oC h0 h3]
  exact ⟨by first | trivial | rfl,by first | trivial | rfl,by first | trivial | rfl,trivial⟩
 have h3:bv p=true:=by
  cases h3:bv p
  ·rw [oC h0 h3] at h2
   exact absurd h2 (by decide)
  ·rfl
 rw [if_neg (by rw [h3]; simp),(ld hw h0 h3).1]
 simp only
 obtain ⟨k1,k2⟩:=dE h0
 have hin:∀ x∈f,x∈aY a (f++p):=fun x hx=>(fR hw k1 k2).2 (.base (by simp [hx]))
 have hpl:(an (aY a (f++p)) ((aY a (f++p)).map (ax (aa a).1)) p).length=(aY a (f++p)).length:=by simp [an]
 generalize an (aY a (f++p)) ((aY a (f++p)).map (ax (aa a).1)) p=to at *
 generalize aY a (f++p)=keep at *
 refine ⟨⟨by omega,by omega,rfl⟩,fun ⟨out,i⟩ ⟨i0,i1,i2⟩=>⟨fun hlt=>?_,fun hge=>?_⟩⟩
 ·simp only at i0 i1 i2 hlt ⊢
  have hlt:=of_decide_eq_true hlt
  have hs:=bj (0:Int) i0 hlt
  have hx:=nQ (hin _ (aD (0:Int) i0 hlt))
  rw [hs,List.map_append,← i2]
  have hol:out.length≤f.length:=by
   rw [i2,List.length_map,List.length_take]
   omega
  simp only [ak,List.length_cons,List.length_nil]
  unfold az
  refine ⟨i0,hlt,trivial,hx.1,by omega,by omega,?_,by omega,⟨by omega,by omega,rfl⟩,by omega⟩
  have:out.length=i.toNat:=by
   rw [i2,List.length_map,List.length_take]
   omega
  omega
 ·simp only at i0 i1 i2 hge ⊢
  rw [bE (of_decide_eq_false hge)] at i2
  exact ⟨by first | trivial | rfl,i2,by first | trivial | rfl,trivial⟩
theorem zY:Fp.ok Tryz.prog 104:=aI (ann:=GP) (ae mf (ae FI (ae FG (ae CZ ap)))) Tryz.func104 (by kernel_rfl) Dy
end Go.Proofs.YtglchojglcobjaaGreat
