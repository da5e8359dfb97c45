
import Derived.Test.YtglchojglcobjaaGreatStoreOps
namespace Go.Proofs.YtglchojglcobjaaGreat
open Go
set_option maxRecDepth 100000
set_option maxHeartbeats 1000000
def EO:Nat→Option LoopGen
 | 3000051=>some gi
 | 5204000001=>some gi
 | 3=>some { rd:=[.dat 14 (.arr cW)],A:=fun (p:List bh)=>{ cs:=[.own 3 3 ty_I,.dat 16 ty_I],inv:=fun ((o,i):List Int×Int)=>0≤i∧i≤p.length∧o=(p.take i.toNat).map (·.1),mu:=fun ((_,i):List Int×Int)=>(p.length - i).toNat } }
 | 12=>some { rd:=[.box 1 bu],A:=fun (s:aq)=>{ cs:=[.boxS 8 [.own 50 be,.own 3 ty_I,.own 89 cW,.own 87 b7],.dat 50 ty_I],inv:=fun ((b,i):aq×Int)=>0≤i∧i≤s.2.1.length∧b=(cC s,(s.2.1.take i.toNat).map (eG s)++s.2.1.drop i.toNat,s.2.2),mu:=fun ((_,i):aq×Int)=>(s.2.1.length - i).toNat } }
 | 18=>some { rd:=[.box 1 bu],A:=fun (s:aq)=>{ cs:=[.boxS 8 [.own 50 be,.own 3 ty_I,.own 89 cW,.own 87 b7],.dat 71 ty_I],inv:=fun ((b,i):aq×Int)=>0≤i∧i≤s.2.2.2.length∧b=(cC s,s.2.1.map (eG s),s.2.2.1,(s.2.2.2.take i.toNat).map (gw s)++s.2.2.2.drop i.toNat),mu:=fun ((_,i):aq×Int)=>(s.2.2.2.length - i).toNat } }
 | _=>none
def DL:Spec:={ Ts:=[bu],Rs:=[.dat bu],al:=true,pre:=fun (s:aq)=>aO s=0,F:=aT }
def vk:Prop :=
  ∀ (x:List Int×List Int×List (Int×Int)×List (Int×Bool×Int)),((x.1.length * 8≤az∧∀ (x_1:Int),x_1∈x.1→ak IntKind.u64 x_1)∧(x.2.1.length * 8≤az∧∀ (x_1:Int),x_1∈x.2.1→ak IntKind.i64 x_1)∧(x.2.2.1.length * (8+8)≤az∧∀ (x_1:Int×Int),x_1∈x.2.2.1→ak IntKind.i64 x_1.1∧ak IntKind.i64 x_1.2)∧x.2.2.2.length * (8+(8+8))≤az∧∀ (x_1:Int×Bool×Int),x_1∈x.2.2.2→ak IntKind.i64 x_1.1∧True∧ak IntKind.i64 x_1.2.2)→aO x=0→((0:Int)≤0∧0≤(↑x.2.2.1.length:Int)∧([]:List Int)=List.map (fun (x:bh)=>x.1) (List.take (Int.toNat 0) x.2.2.1))∧∀ (x_1:List Int×Int),0≤x_1.2∧x_1.2≤(↑x.2.2.1.length:Int)∧x_1.1=List.map (fun (x:bh)=>x.1) (List.take x_1.2.toNat x.2.2.1)→(decide (x_1.2<(↑x.2.2.1.length:Int))=true→0≤x_1.2∧x_1.2<(↑x.2.2.1.length:Int)∧(x_1.1.length+[(x.2.2.1.getD x_1.2.toNat (0,0)).1].length) * 8≤az∧ak IntKind.i64 (x_1.2+1)∧(0≤x_1.2+1∧x_1.2+1≤(↑x.2.2.1.length:Int)∧x_1.1++[(x.2.2.1.getD x_1.2.toNat (0,0)).1]=List.map (fun (x:bh)=>x.1) (List.take (x_1.2+1).toNat x.2.2.1))∧((↑x.2.2.1.length:Int) - (x_1.2+1)).toNat<((↑x.2.2.1.length:Int) - x_1.2).toNat)∧(decide (x_1.2<(↑x.2.2.1.length:Int))=false→(x.2.1.length≤32∧x.2.2.1.length≤16∧x.2.2.2.length≤16)∧(aX x.1 (a6 (bf x) 256)=0∧((a6 (bf x) 256).length+256) * 8≤140737488355328)∧dm (aY x.1 (a6 (bf x) 256)) (List.map (ax (aa x.1).1) (aY x.1 (a6 (bf x) 256)))∧∀ (_:Array Value),True∧x.2.1.length * 8≤az∧x.2.2.1.length * (8+8)≤az∧x.2.1=x.2.1∧x.2.2.1=x.2.2.1∧x.2.2.1=x.2.2.1∧x.2.2.2=x.2.2.2∧x.2.2.2=x.2.2.2∧x.2.2.2=x.2.2.2∧x.2.2.2.length * (8+(8+8))≤az∧(ai x.1 (aY x.1 (a6 (bf x) 256)) x_1.1).2=0∧((0:Int)≤0∧0≤(↑x.2.1.length:Int)∧((jt x.1 (aY x.1 (a6 (bf x) 256)) x_1.1).1,x.2)=(cC x,List.map (eG x) (List.take (Int.toNat 0) x.2.1)++List.drop (Int.toNat 0) x.2.1,x.2.2))∧∀ (x_2:(List Int×List Int×List (Int×Int)×List (Int×Bool×Int))×Int),0≤x_2.2∧x_2.2≤(↑x.2.1.length:Int)∧x_2.1=(cC x,List.map (eG x) (List.take x_2.2.toNat x.2.1)++List.drop x_2.2.toNat x.2.1,x.2.2)→(decide (x_2.2<(↑x.2.1.length:Int))=true→0≤x_2.2∧x_2.2<(↑x.2.1.length:Int)∧(decide (0≤x.2.1.getD x_2.2.toNat 0)=true→True∧0≤bA (aY x.1 (a6 (bf x) 256)) (x.2.1.getD x_2.2.toNat 0)∧bA (aY x.1 (a6 (bf x) 256)) (x.2.1.getD x_2.2.toNat 0)<(↑(an (aY x.1 (a6 (bf x) 256)) (List.map (ax (aa x.1).1) (aY x.1 (a6 (bf x) 256))) x_1.1).length:Int)∧(bA (aY x.1 (a6 (bf x) 256)) (x.2.1.getD x_2.2.toNat 0)).toNat<(an (aY x.1 (a6 (bf x) 256)) (List.map (ax (aa x.1).1) (aY x.1 (a6 (bf x) 256))) x_1.1).length∧0≤x_2.2∧x_2.2<(↑x_2.1.2.1.length:Int)∧x_2.2.toNat<x_2.1.2.1.length∧ak IntKind.i64 (x_2.2+1)∧(0≤x_2.2+1∧x_2.2+1≤(↑x.2.1.length:Int)∧(x_2.1.1,x_2.1.2.1.set x_2.2.toNat ((an (aY x.1 (a6 (bf x) 256)) (List.map (ax (aa x.1).1) (aY x.1 (a6 (bf x) 256))) x_1.1).getD (bA (aY x.1 (a6 (bf x) 256)) (x.2.1.getD x_2.2.toNat 0)).toNat 0),x_2.1.2.2)=(cC x,List.map (eG x) (List.take (x_2.2+1).toNat x.2.1)++List.drop (x_2.2+1).toNat x.2.1,x.2.2))∧((↑x.2.1.length:Int) - (x_2.2+1)).toNat<((↑x.2.1.length:Int) - x_2.2).toNat)∧(decide (0≤x.2.1.getD x_2.2.toNat 0)=false→ak IntKind.i64 (x_2.2+1)∧(0≤x_2.2+1∧x_2.2+1≤(↑x.2.1.length:Int)∧x_2.1=(cC x,List.map (eG x) (List.take (x_2.2+1).toNat x.2.1)++List.drop (x_2.2+1).toNat x.2.1,x.2.2))∧((↑x.2.1.length:Int) - (x_2.2+1)).toNat<((↑x.2.1.length:Int) - x_2.2).toNat))∧(decide (x_2.2<(↑x.2.1.length:Int))=false→((0:Int)≤0∧0≤(↑x.2.2.2.length:Int)∧x_2.1=(cC x,List.map (eG x) x.2.1,x.2.2.1,List.map (gw x) (List.take (Int.toNat 0) x.2.2.2)++List.drop (Int.toNat 0) x.2.2.2))∧∀ (x_3:(List Int×List Int×List (Int×Int)×List (Int×Bool×Int))×Int),0≤x_3.2∧x_3.2≤(↑x.2.2.2.length:Int)∧x_3.1=(cC x,List.map (eG x) x.2.1,x.2.2.1,List.map (gw x) (List.take x_3.2.toNat x.2.2.2)++List.drop x_3.2.toNat x.2.2.2)→(decide (x_3.2<(↑x.2.2.2.length:Int))=true→0≤x_3.2∧x_3.2<(↑x.2.2.2.length:Int)∧((x.2.2.2.getD x_3.2.toNat (0,false,0)).2.1=true→True∧0≤bA (aY x.1 (a6 (bf x) 256)) (x.2.2.2.getD x_3.2.toNat (0,false,0)).2.2∧bA (aY x.1 (a6 (bf x) 256)) (x.2.2.2.getD x_3.2.toNat (0,false,0)).2.2<(↑(an (aY x.1 (a6 (bf x) 256)) (List.map (ax (aa x.1).1) (aY x.1 (a6 (bf x) 256))) x_1.1).length:Int)∧(bA (aY x.1 (a6 (bf x) 256)) (x.2.2.2.getD x_3.2.toNat (0,false,0)).2.2).toNat<(an (aY x.1 (a6 (bf x) 256)) (List.map (ax (aa x.1).1) (aY x.1 (a6 (bf x) 256))) x_1.1).length∧0≤x_3.2∧x_3.2<(↑x_3.1.2.2.2.length:Int)∧x_3.2.toNat<x_3.1.2.2.2.length∧ak IntKind.i64 (x_3.2+1)∧(0≤x_3.2+1∧x_3.2+1≤(↑x.2.2.2.length:Int)∧(x_3.1.1,x_3.1.2.1,x_3.1.2.2.1,x_3.1.2.2.2.set x_3.2.toNat ((x_3.1.2.2.2.getD x_3.2.toNat (0,false,0)).1,(x_3.1.2.2.2.getD x_3.2.toNat (0,false,0)).2.1,(an (aY x.1 (a6 (bf x) 256)) (List.map (ax (aa x.1).1) (aY x.1 (a6 (bf x) 256))) x_1.1).getD (bA (aY x.1 (a6 (bf x) 256)) (x.2.2.2.getD x_3.2.toNat (0,false,0)).2.2).toNat 0))=(cC x,List.map (eG x) x.2.1,x.2.2.1,List.map (gw x) (List.take (x_3.2+1).toNat x.2.2.2)++List.drop (x_3.2+1).toNat x.2.2.2))∧((↑x.2.2.2.length:Int) - (x_3.2+1)).toNat<((↑x.2.2.2.length:Int) - x_3.2).toNat)∧((x.2.2.2.getD x_3.2.toNat (0,false,0)).2.1=false→ak IntKind.i64 (x_3.2+1)∧(0≤x_3.2+1∧x_3.2+1≤(↑x.2.2.2.length:Int)∧x_3.1=(cC x,List.map (eG x) x.2.1,x.2.2.1,List.map (gw x) (List.take (x_3.2+1).toNat x.2.2.2)++List.drop (x_3.2+1).toNat x.2.2.2))∧((↑x.2.2.2.length:Int) - (x_3.2+1)).toNat<((↑x.2.2.2.length:Int) - x_3.2).toNat))∧(decide (x_3.2<(↑x.2.2.2.length:Int))=false→x_3.1=aT x∧True)))
theorem A6:vk:=by
 unfold vk
 intro s ⟨⟨hb,hw⟩,⟨hb2,_⟩,⟨hb3,_⟩,hb4,_⟩ hs
 have R:=ky hw hs
 have hre:=R.reached
 have hfo:=R.fromOK
 have hsm:=R.small
 have hlg:=R.longs
 have hpl:=R.plan
 have hsl:(jt s.1 (dW s) (cu s)).1=cC s:=rfl
 have hto:∀ x,(an (dW s) (kM s) (cu s)).getD (bA (dW s) x).toNat 0=jG s x:=fun _=>rfl
 have hkl:(an (dW s) (kM s) (cu s)).length=(dW s).length:=by simp [an]
 have hpi:=fun {x} (hx:x∈bf s)=>nQ (R.keepIn hx)
 have hln:List.map (ax (aa s.1).1) (dW s)=kM s:=rfl
 have hpo:List.map (fun (x:bh)=>x.1) s.2.2.1=cu s:=rfl
 have hrl:(a6 (bf s) 256).length≤256:=by
  have:=ya (bf s)
  exact this
 unfold az at hb hb2 hb3 hb4 ⊢
 refine ⟨⟨by omega,by omega,by simp⟩,fun ⟨o,i⟩ ⟨i0,i1,i2⟩=>⟨fun hlt=>?_,fun hge=>?_⟩⟩
 ·simp only at i0 i1 i2 hlt ⊢
  have hlt:=of_decide_eq_true hlt
  have ht:=bj ((0,0):bh) i0 hlt
  have hl:o.length=i.toNat:=by rw [i2]; simp; omega
  rw [ht,List.map_append,← i2]
  simp only [ak,List.length_singleton]
  exact ⟨i0,hlt,by omega,by omega,⟨by omega,by omega,by trivial⟩,by omega⟩
 simp only at i0 i1 i2 hge ⊢
 rw [bE (of_decide_eq_false hge),hpo] at i2
 subst i2
 rw [hre,hln,hlg,hsl]
 simp only [hto,hkl]
 refine ⟨hsm,⟨hfo,by omega⟩,hpl.pre,fun tm=>⟨trivial,by omega,by omega,by trivial,by trivial,by trivial,by trivial,by trivial,by trivial,by omega,trivial,⟨by omega,by omega,by simp⟩,fun ⟨b,i⟩ ⟨i0,i1,i2⟩=>⟨fun hlt=>?_,fun hge=>?_⟩⟩⟩
 ·simp only at i0 i1 i2 hlt ⊢
  have hlt2:=of_decide_eq_true hlt
  have hil:i.toNat<s.2.1.length:=by omega
  subst i2
  simp only [ak]
  rw [jz,show (i+1).toNat=i.toNat+1 by omega]
  refine ⟨i0,hlt2,fun h0=>?_,fun h0=>?_⟩
  ·have h0:=of_decide_eq_true h0
   have hp:=hpi (R.rootNam i0 hlt2 h0)
   have e:jG s (s.2.1.getD i.toNat 0)=eG s (s.2.1.getD i.toNat 0):=by unfold eG; rw [if_pos h0]
   rw [e,lG _ _ _ _ hil]
   exact ⟨trivial,by omega,by omega,by omega,by omega,by omega,by omega,by omega,⟨by omega,by omega,by trivial⟩,by omega⟩
  ·have h0:=of_decide_eq_false h0
   rw [mQ (eG s) s.2.1 0 i.toNat hil (by unfold eG; rw [if_neg h0])]
   exact ⟨by omega,⟨by omega,by omega,by trivial⟩,by omega⟩
 simp only at i0 i1 i2 hge ⊢
 have hge:=of_decide_eq_false hge
 have hil:s.2.1.length≤i.toNat:=by omega
 rw [List.take_of_length_le hil,List.drop_of_length_le hil,List.append_nil] at i2
 subst i2
 refine ⟨⟨by omega,by omega,by simp⟩,fun ⟨b,j⟩ ⟨j0,j1,j2⟩=>⟨fun hlt=>?_,fun hge=>?_⟩⟩
 ·simp only at j0 j1 j2 hlt ⊢
  have hlt2:=of_decide_eq_true hlt
  have hjl:j.toNat<s.2.2.2.length:=by omega
  subst j2
  simp only [ak]
  rw [jz,o7 _ _ _ _ hjl,show (j+1).toNat=j.toNat+1 by omega]
  refine ⟨j0,hlt2,fun h0=>?_,fun h0=>?_⟩
  ·have hp:=hpi (R.handNam j0 hlt2 h0)
   have e:((s.2.2.2.getD j.toNat (0,false,0)).1,(s.2.2.2.getD j.toNat (0,false,0)).2.1,jG s (s.2.2.2.getD j.toNat (0,false,0)).2.2)=gw s (s.2.2.2.getD j.toNat (0,false,0)):=by unfold gw; rw [if_pos h0]
   rw [e,lG _ _ _ _ hjl]
   exact ⟨trivial,by omega,by omega,by omega,by omega,by omega,by omega,by omega,⟨by omega,by omega,by trivial⟩,by omega⟩
  ·rw [mQ (gw s) s.2.2.2 (0,false,0) j.toNat hjl (by unfold gw; rw [if_neg (by rw [h0]; simp)])]
   exact ⟨by omega,⟨by omega,by omega,by trivial⟩,by omega⟩
 ·simp only at j0 j1 j2 hge ⊢
  have hge:=of_decide_eq_false hge
  have hjl:s.2.2.2.length≤j.toNat:=by omega
  rw [List.take_of_length_le hjl,List.drop_of_length_le hjl,List.append_nil] at j2
  exact ⟨j2,trivial⟩
theorem Ef:DL.ok Tryz.prog 15:=aI (ann:=EO) (ae mc (ae zN (ae mL (ae gJ (ae FJ (ae oY ap)))))) Tryz.func15 (by kernel_rfl) A6
def uR:Nat→Option LoopGen
 | 3=>some { rd:=[.own 7 42 eP],A:=fun (g:List bK)=>{ cs:=[.dat 3 ty_I,.dat 9 ty_I],inv:=fun ((n,i):Int×Int)=>0≤i∧i≤g.length∧g.length≤256∧(∀ r∈g,0≤r.2∧r.2≤256)∧n=dS (g.take i.toNat)∧0≤n∧n≤256 * i,mu:=fun ((_,i):Int×Int)=>(g.length - i).toNat } }
 | _=>none
def ue:Spec:={ Ts:=[.arr be],Rs:=[.dat ty_I],pre:=fun (a:List Int)=>(aa a).2=0,F:=fun (a:List Int)=>dS (aL false [] (aa a).1) }
def lY:Prop :=
  ∀ (x:List Int),(x.length * (8:Nat)≤az∧∀ (x_1:Int),x_1∈x→ak IntKind.u64 x_1)→(aa x).2=(0:Int)→x.length≤(256:Nat)∧((0:Int)≤(0:Int)∧(0:Int)≤(↑(aC x).length:Int)∧(aC x).length≤(256:Nat)∧(∀ (r:bK),r∈aC x→(0:Int)≤r.2∧r.2≤(256:Int))∧(0:Int)=dS (List.take (Int.toNat (0:Int)) (aC x))∧(0:Int)≤(0:Int)∧(0:Int)≤(256:Int) * (0:Int))∧∀ (x_1:Int×Int),(0:Int)≤x_1.2∧x_1.2≤(↑(aC x).length:Int)∧(aC x).length≤(256:Nat)∧(∀ (r:bK),r∈aC x→(0:Int)≤r.2∧r.2≤(256:Int))∧x_1.1=dS (List.take x_1.2.toNat (aC x))∧(0:Int)≤x_1.1∧x_1.1≤(256:Int) * x_1.2→(decide (x_1.2<(↑(aC x).length:Int))=true→(0:Int)≤x_1.2∧x_1.2<(↑(aC x).length:Int)∧x_1.2.toNat<(aC x).length∧ak IntKind.i64 (x_1.1+((aC x).getD x_1.2.toNat ((0:Int),(0:Int))).2)∧ak IntKind.i64 (x_1.2+(1:Int))∧((0:Int)≤x_1.2+(1:Int)∧x_1.2+(1:Int)≤(↑(aC x).length:Int)∧(aC x).length≤(256:Nat)∧(∀ (r:bK),r∈aC x→(0:Int)≤r.2∧r.2≤(256:Int))∧x_1.1+((aC x).getD x_1.2.toNat ((0:Int),(0:Int))).2=dS (List.take (x_1.2+(1:Int)).toNat (aC x))∧(0:Int)≤x_1.1+((aC x).getD x_1.2.toNat ((0:Int),(0:Int))).2∧x_1.1+((aC x).getD x_1.2.toNat ((0:Int),(0:Int))).2≤(256:Int) * (x_1.2+(1:Int)))∧((↑(aC x).length:Int) - (x_1.2+(1:Int))).toNat<((↑(aC x).length:Int) - x_1.2).toNat)∧(decide (x_1.2<(↑(aC x).length:Int))=false→x_1.1=dS (aL false ([]:List bK) (aa x).1)∧True)
theorem rj:lY:=by
 unfold lY
 intro a hx hs
 have hg:=vV hs
 obtain ⟨g1,g2⟩:=oa hs
 obtain ⟨hal,_⟩:=gm hs
 rw [hg]
 have hgi:∀ r∈aL false [] (aa a).1,0≤r.2∧r.2≤256:=fun r hr=>by have:=g1 r hr; omega
 generalize aL false [] (aa a).1=g at *
 refine ⟨hal,⟨by omega,by omega,g2,hgi,by trivial,by omega,by omega⟩,fun ⟨n,j⟩ ⟨j0,j1,_,_,j2,j3,j4⟩=>⟨fun hlt=>?_,fun hge=>?_⟩⟩
 ·simp only at j0 j1 j2 j3 j4 hlt ⊢
  have hlt:=of_decide_eq_true hlt
  have hm:=hgi _ (aD ((0,0):bK) j0 hlt)
  rw [oK j0 hlt,← j2]
  generalize (g.getD j.toNat (0,0)).2=y at *
  simp only [ak]
  exact ⟨j0,hlt,by omega,by omega,by omega,⟨by omega,by omega,g2,hgi,by trivial,by omega,by omega⟩,by omega⟩
 ·simp only at j0 j1 j2 hge ⊢
  rw [bE (of_decide_eq_false hge)] at j2
  exact ⟨j2,trivial⟩
theorem uq:ue.ok Tryz.prog 62:=aI (ann:=uR) (ae sq ap) Tryz.func62 (by kernel_rfl) rj
theorem Hl {p:bK→Bool} {l:List bK} {i:Int} (h0:0≤i) (h1:i<l.length) (h2:∀ x∈l.take i.toNat,p x=false) (h3:p (l.getD i.toNat (0,0))=true):l.find? p=some (l.getD i.toNat (0,0)):=by
 have e:l=l.take i.toNat++(l.getD i.toNat (0,0)::l.drop (i+1).toNat):=by
  rw [← aS ((0,0):bK) h0 h1,List.take_append_drop]
 have hn:(l.take i.toNat).find? p=none:=List.find?_eq_none.2 fun x hx=>by rw [h2 x hx]; simp
 have:(l.take i.toNat++(l.getD i.toNat (0,0)::l.drop (i+1).toNat)).find? p=some (l.getD i.toNat (0,0)):=by
  rw [List.find?_append,hn,List.find?_cons_of_pos h3]
  rfl
 rwa [← e] at this
def cb (s:aq) (slot:Int) (h:da):aq×Bool:=if (gG s.1 h).2.2=true then ((gg s slot h).1,true) else (aV,false)
def Ct:Nat→Option LoopGen
 | 3000051=>some gi
 | 5204000001=>some gi
 | 3=>some { rd:=[.own 18 42 eP,.dat 8 ty_I],A:=fun ((g,n):List bK×Int)=>{ cs:=[.dat 20 ty_I,.box 6 bu],inv:=fun ((i,_):Int×aq)=>0≤i∧i≤g.length∧(∀ r∈g.take i.toNat,r.2<n),mu:=fun ((i,_):Int×aq)=>(g.length - i).toNat } }
 | 8=>some { rd:=[.own 32 42 eP,.box 3 bu],A:=fun ((g,s):List bK×aq)=>{ cs:=[.boxS 11 [.own 50 be,.own 3 ty_I,.own 89 cW,.own 87 b7],.dat 34 ty_I],inv:=fun ((b,i):aq×Int)=>0≤i∧i≤g.length∧b=((g.take i.toNat).foldl (fun a r=>aG a r.1 r.2) s.1,s.2)∧b.1.length=s.1.length,mu:=fun ((_,i):aq×Int)=>(g.length - i).toNat } }
 | _=>none
def Bt:Spec:={ Ts:=[bu,ty_I,cN],Rs:=[.dat bu,.dat .bool],al:=true,pre:=fun ((s,slot,h):aq×Int×da)=>lr s h∧0≤slot∧slot<s.2.1.length,F:=fun ((s,slot,h):aq×Int×da)=>cb s slot h }
def rU:Prop :=
  ∀ (x:(List Int×List Int×List (Int×Int)×List (Int×Bool×Int))×Int×Int×Int×Int×Bool),((x.1.1.length * 8≤az∧∀ (x_1:Int),x_1∈x.1.1→ak IntKind.u64 x_1)∧(x.1.2.1.length * 8≤az∧∀ (x_1:Int),x_1∈x.1.2.1→ak IntKind.i64 x_1)∧(x.1.2.2.1.length * (8+8)≤az∧∀ (x_1:Int×Int),x_1∈x.1.2.2.1→ak IntKind.i64 x_1.1∧ak IntKind.i64 x_1.2)∧x.1.2.2.2.length * (8+(8+8))≤az∧∀ (x_1:Int×Bool×Int),x_1∈x.1.2.2.2→ak IntKind.i64 x_1.1∧True∧ak IntKind.i64 x_1.2.2)∧ak IntKind.i64 x.2.1∧ak IntKind.i64 x.2.2.1∧ak IntKind.i64 x.2.2.2.1∧ak IntKind.i64 x.2.2.2.2.1∧True→lr x.1 x.2.2∧0≤x.2.1∧x.2.1<(↑x.1.2.1.length:Int)→(ak IntKind.i64 (1+x.2.2.1)∧ak IntKind.i64 (1+x.2.2.1+x.2.2.2.1))∧x.1.1.length≤256∧((0:Int)≤0∧0≤(↑(aC x.1.1).length:Int)∧∀ (r:bK),r∈List.take (Int.toNat 0) (aC x.1.1)→r.2<ab x.2.2)∧∀ (x_1:Int×List Int×List Int×List (Int×Int)×List (Int×Bool×Int)),(0≤x_1.1∧x_1.1≤(↑(aC x.1.1).length:Int)∧∀ (r:bK),r∈List.take x_1.1.toNat (aC x.1.1)→r.2<ab x.2.2)→(decide (x_1.1<(↑(aC x.1.1).length:Int))=true→0≤x_1.1∧x_1.1<(↑(aC x.1.1).length:Int)∧x_1.1.toNat<(aC x.1.1).length∧(decide (((aC x.1.1).getD x_1.1.toNat (0,0)).2<ab x.2.2)=true→ak IntKind.i64 (x_1.1+1)∧(0≤x_1.1+1∧x_1.1+1≤(↑(aC x.1.1).length:Int)∧∀ (r:bK),r∈List.take (x_1.1+1).toNat (aC x.1.1)→r.2<ab x.2.2)∧((↑(aC x.1.1).length:Int) - (x_1.1+1)).toNat<((↑(aC x.1.1).length:Int) - x_1.1).toNat)∧(decide (((aC x.1.1).getD x_1.1.toNat (0,0)).2<ab x.2.2)=false→∀ (_:Array Value),True∧x.1.2.1.length * 8≤az∧x.1.2.2.1.length * (8+8)≤az∧x.1.2.1=x.1.2.1∧x.1.2.2.1=x.1.2.2.1∧x.1.2.2.1=x.1.2.2.1∧x.1.2.2.2=x.1.2.2.2∧x.1.2.2.2=x.1.2.2.2∧x.1.2.2.2=x.1.2.2.2∧x.1.2.2.2.length * (8+(8+8))≤az∧x.1.1.length≤256∧((0:Int)≤0∧0≤(↑(aC x.1.1).length:Int)∧x.1=(List.foldl (fun (a:List Int) (r:bK)=>aG a r.1 r.2) x.1.1 (List.take (Int.toNat 0) (aC x.1.1)),x.1.2)∧x.1.1.length=x.1.1.length)∧∀ (x_2:(List Int×List Int×List (Int×Int)×List (Int×Bool×Int))×Int),0≤x_2.2∧x_2.2≤(↑(aC x.1.1).length:Int)∧x_2.1=(List.foldl (fun (a:List Int) (r:bK)=>aG a r.1 r.2) x.1.1 (List.take x_2.2.toNat (aC x.1.1)),x.1.2)∧x_2.1.1.length=x.1.1.length→(decide (x_2.2<(↑(aC x.1.1).length:Int))=true→0≤x_2.2∧x_2.2<(↑(aC x.1.1).length:Int)∧x_2.2.toNat<(aC x.1.1).length∧df x_2.1.1 ((aC x.1.1).getD x_2.2.toNat (0,0)).1 ((aC x.1.1).getD x_2.2.toNat (0,0)).2∧ak IntKind.i64 (x_2.2+1)∧(0≤x_2.2+1∧x_2.2+1≤(↑(aC x.1.1).length:Int)∧(aG x_2.1.1 ((aC x.1.1).getD x_2.2.toNat (0,0)).1 ((aC x.1.1).getD x_2.2.toNat (0,0)).2,x_2.1.2)=(List.foldl (fun (a:List Int) (r:bK)=>aG a r.1 r.2) x.1.1 (List.take (x_2.2+1).toNat (aC x.1.1)),x.1.2)∧(aG x_2.1.1 ((aC x.1.1).getD x_2.2.toNat (0,0)).1 ((aC x.1.1).getD x_2.2.toNat (0,0)).2).length=x.1.1.length)∧((↑(aC x.1.1).length:Int) - (x_2.2+1)).toNat<((↑(aC x.1.1).length:Int) - x_2.2).toNat)∧(decide (x_2.2<(↑(aC x.1.1).length:Int))=false→ak IntKind.i64 (((aC x.1.1).getD x_1.1.toNat (0,0)).1+ab x.2.2)∧ak IntKind.i64 (((aC x.1.1).getD x_1.1.toNat (0,0)).2 - ab x.2.2)∧df x_2.1.1 (((aC x.1.1).getD x_1.1.toNat (0,0)).1+ab x.2.2) (((aC x.1.1).getD x_1.1.toNat (0,0)).2 - ab x.2.2)∧ac x.2.2=0∧0≤((aC x.1.1).getD x_1.1.toNat (0,0)).1∧((aC x.1.1).getD x_1.1.toNat (0,0)).1<(↑(aG x_2.1.1 (((aC x.1.1).getD x_1.1.toNat (0,0)).1+ab x.2.2) (((aC x.1.1).getD x_1.1.toNat (0,0)).2 - ab x.2.2)).length:Int)∧((aC x.1.1).getD x_1.1.toNat (0,0)).1.toNat<(aG x_2.1.1 (((aC x.1.1).getD x_1.1.toNat (0,0)).1+ab x.2.2) (((aC x.1.1).getD x_1.1.toNat (0,0)).2 - ab x.2.2)).length∧0≤x.2.1∧x.2.1<(↑x_2.1.2.1.length:Int)∧x.2.1.toNat<x_2.1.2.1.length∧((aG x_2.1.1 (((aC x.1.1).getD x_1.1.toNat (0,0)).1+ab x.2.2) (((aC x.1.1).getD x_1.1.toNat (0,0)).2 - ab x.2.2)).set ((aC x.1.1).getD x_1.1.toNat (0,0)).1.toNat (aR x.2.2),x_2.1.2.1.set x.2.1.toNat ((aC x.1.1).getD x_1.1.toNat (0,0)).1,x_2.1.2.2)=(cb x.1 x.2.1 x.2.2).1∧true=(cb x.1 x.2.1 x.2.2).2∧True)))∧(decide (x_1.1<(↑(aC x.1.1).length:Int))=false→(([]:List Int),([]:List Int),([]:List (Int×Int)),([]:List (Int×Bool×Int)))=(cb x.1 x.2.1 x.2.2).1∧false=(cb x.1 x.2.1 x.2.2).2∧True)
theorem yv:rU:=by
 unfold rU
 intro ⟨s,slot,h⟩ ⟨⟨⟨hb,hw⟩,⟨hb2,_⟩,⟨hb3,_⟩,hb4,_⟩,_⟩ ⟨⟨hc,hh⟩,s0,s1⟩
 simp only at hb hw hb2 hb3 hb4 hc hh s0 s1 ⊢
 obtain ⟨h2,h3⟩:=Hh hh
 have hz:=a8 h2
 have hL:ab h=1+h.1+h.2.1:=rfl
 have hsp:=(bO hc).2.2.2.1
 have hal:=(bO hc).1
 obtain ⟨g1,g2⟩:=oa hsp
 have hJ:(c7 s.1).1=(aL false [] (aa s.1).1).foldl (fun a r=>aG a r.1 r.2) s.1:=by unfold c7; rw [if_neg (by omega)]
 have T1:=mB hc h2 h3
 have hLd:cb s slot h=if (gG s.1 h).2.2=true then (((gG s.1 h).1,s.2.1.set slot.toNat (gG s.1 h).2.1,s.2.2),true) else (aV,false):=rfl
 rw [vV hsp]
 generalize aL false [] (aa s.1).1=g at *
 unfold az at hb hb2 hb3 hb4 ⊢
 refine ⟨by simp only [ak]; omega,hal,⟨by omega,by omega,by simp⟩,fun ⟨i,b⟩ ⟨i0,i1,i2⟩=>⟨fun hlt=>?_,fun hge=>?_⟩⟩
 ·simp only at i0 i1 i2 hlt ⊢
  have hlt:=of_decide_eq_true hlt
  have ht:=bj ((0,0):bK) i0 hlt
  have hm:=aD ((0,0):bK) i0 hlt
  have hgr:=g1 _ hm
  refine ⟨i0,hlt,by omega,fun hc1=>?_,fun hc1 tm=>?_⟩
  ·have hc1:=of_decide_eq_true hc1
   simp only [ak]
   refine ⟨by omega,⟨by omega,by omega,fun r hr=>?_⟩,by omega⟩
   rw [ht] at hr
   rcases List.mem_append.1 hr with hr | hr
   ·exact i2 r hr
   ·rw [List.mem_singleton.1 hr]; exact hc1
  ·have hc1:=of_decide_eq_false hc1
   have hfd:=Hl (p:=fun r:bK=>decide (ab h≤r.2)) i0 hlt (fun x hx=>by have:=i2 x hx; simp; omega) (by simp only [decide_eq_true_eq]; omega)
   rw [hfd] at T1
   simp only at T1
   obtain ⟨_,_,_,_,_,_,t4⟩:=T1
   rw [t4,if_pos rfl] at hLd
   rw [hLd]
   generalize g.getD i.toNat (0,0)=r at *
   refine ⟨trivial,by omega,by omega,by trivial,by trivial,by trivial,by trivial,by trivial,by trivial,by omega,hal,⟨by omega,by omega,by simp,by trivial⟩,fun ⟨b,j⟩ ⟨j0,j1,j2,j3⟩=>⟨fun hlt=>?_,fun hge=>?_⟩⟩
   ·simp only at j0 j1 j2 j3 hlt ⊢
    have hlt:=of_decide_eq_true hlt
    have ht:=bj ((0,0):bK) j0 hlt
    have hgr:=g1 _ (aD ((0,0):bK) j0 hlt)
    have hlp:df b.1 (g.getD j.toNat (0,0)).1 (g.getD j.toNat (0,0)).2:=⟨by omega,by omega,by omega,by omega⟩
    rw [ht,List.foldl_append,gV hlp]
    simp only [List.foldl_cons,List.foldl_nil,ak]
    have e1:b.1=List.foldl (fun a r=>aG a r.1 r.2) s.1 (List.take j.toNat g):=by rw [j2]
    have e2:b.2=s.2:=by rw [j2]
    rw [← e1,← e2]
    exact ⟨j0,hlt,by omega,hlp,by omega,⟨by omega,by omega,by trivial,j3⟩,by omega⟩
   ·simp only at j0 j1 j2 j3 hge ⊢
    rw [bE (of_decide_eq_false hge),← hJ] at j2
    subst j2
    simp only at j3 ⊢
    have hlp:df (c7 s.1).1 (r.1+ab h) (r.2 - ab h):=⟨by omega,by omega,by omega,by omega⟩
    rw [gV hlp,j3]
    simp only [ak]
    exact ⟨by omega,by omega,hlp,h2,by omega,by omega,by omega,s0,s1,by omega,by trivial,by trivial,trivial⟩
 ·simp only at i0 i1 i2 hge ⊢
  rw [bE (of_decide_eq_false hge)] at i2
  have hfd:g.find? (fun r:bK=>decide (ab h≤r.2))=none:=List.find?_eq_none.2 fun x hx=>by have:=i2 x hx; simp; omega
  rw [hfd] at T1
  simp only at T1
  rw [T1.2] at hLd
  rw [hLd]
  exact ⟨by trivial,by trivial,trivial⟩
theorem BS:Bt.ok Tryz.prog 61:=aI (ann:=Ct) (ae ga (ae sq (ae gJ (ae zO (ae jO ap))))) Tryz.func61 (by kernel_rfl) yv
end Go.Proofs.YtglchojglcobjaaGreat
