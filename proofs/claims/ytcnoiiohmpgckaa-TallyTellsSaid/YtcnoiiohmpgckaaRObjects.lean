
import Derived.Test.YtcnoiiohmpgckaaRArena
namespace Go.Proofs.Ytcnoiiohmpgckaa
open Go
set_option maxRecDepth 100000
set_option maxHeartbeats 1000000
theorem aG:∀ l:List aH,(ab l).length≤l.length
 | []=>by simp [ab]
 | s::l=>by
  have:=aG l
  simp only [ab]
  split <;> simp <;> omega
def cZ (all:List Int) (rs:List Int):Bool:=rs.all fun to=>decide (to=-1)||bp all to
def cC (a:List Int) (l:List aH) (all:List Int):List Int→Bool
 | []=>true
 | at_::r=>cZ all (ah a at_ (ac at_ l).1)&&cC a l all r
def dO (a:List Int):Int:=if (aa a).2≠0 then (aa a).2 else if cC a (aa a).1 (ab (aa a).1) (ab (aa a).1)=true then 0 else 5
def mB:Nat→Option LoopGen
 | 6=>some { rd:=[.own 20 3 ty_I,.dat 0 (.arr ci)],A:=fun ((all,a):List Int×List Int)=>{ cs:=[.dat 22 ty_I],inv:=fun (i:Int)=>0≤i∧i≤all.length∧all.length≤256∧a.length≤256∧cC a (aa a).1 all (all.drop i.toNat)=cC a (aa a).1 all all,mu:=fun (i:Int)=>(all.length - i).toNat } }
 | 9=>some { rd:=[.own 28 3 ty_I,.own 20 3 ty_I],A:=fun ((rs,all):List Int×List Int)=>{ cs:=[.dat 30 ty_I],inv:=fun (j:Int)=>0≤j∧j≤rs.length∧rs.length≤256∧cZ all (rs.drop j.toNat)=cZ all rs,mu:=fun (j:Int)=>(rs.length - j).toNat } }
 | _=>none
def lj:Spec:={ Ts:=[.arr ci],Rs:=[.dat ty_I],pre:=fun _=>True,F:=dO }
def gt:Prop :=
  ∀ (x:List Int),(x.length * 8≤aL∧∀ (x_1:Int),x_1∈x→aj .u64 x_1)→True→True∧(decide ((aa x).2≠0)=true→(aa x).2=dO x∧True)∧(decide ((aa x).2≠0)=false→True∧((0:Int)≤0∧0≤(↑(ab (aa x).1).length:Int)∧(ab (aa x).1).length≤256∧x.length≤256∧cC x (aa x).1 (ab (aa x).1) (List.drop (Int.toNat 0) (ab (aa x).1))=cC x (aa x).1 (ab (aa x).1) (ab (aa x).1))∧∀ (x_1:Int),0≤x_1∧x_1≤(↑(ab (aa x).1).length:Int)∧(ab (aa x).1).length≤256∧x.length≤256∧cC x (aa x).1 (ab (aa x).1) (List.drop x_1.toNat (ab (aa x).1))=cC x (aa x).1 (ab (aa x).1) (ab (aa x).1)→(decide (x_1<(↑(ab (aa x).1).length:Int))=true→0≤x_1∧x_1<(↑(ab (aa x).1).length:Int)∧x_1.toNat<(ab (aa x).1).length∧True∧((0:Int)≤0∧0≤(↑(ah x ((ab (aa x).1).getD x_1.toNat 0) (ac ((ab (aa x).1).getD x_1.toNat 0) (aa x).1).1).length:Int)∧(ah x ((ab (aa x).1).getD x_1.toNat 0) (ac ((ab (aa x).1).getD x_1.toNat 0) (aa x).1).1).length≤256∧cZ (ab (aa x).1) (List.drop (Int.toNat 0) (ah x ((ab (aa x).1).getD x_1.toNat 0) (ac ((ab (aa x).1).getD x_1.toNat 0) (aa x).1).1))=cZ (ab (aa x).1) (ah x ((ab (aa x).1).getD x_1.toNat 0) (ac ((ab (aa x).1).getD x_1.toNat 0) (aa x).1).1))∧∀ (x_2:Int),0≤x_2∧x_2≤(↑(ah x ((ab (aa x).1).getD x_1.toNat 0) (ac ((ab (aa x).1).getD x_1.toNat 0) (aa x).1).1).length:Int)∧(ah x ((ab (aa x).1).getD x_1.toNat 0) (ac ((ab (aa x).1).getD x_1.toNat 0) (aa x).1).1).length≤256∧cZ (ab (aa x).1) (List.drop x_2.toNat (ah x ((ab (aa x).1).getD x_1.toNat 0) (ac ((ab (aa x).1).getD x_1.toNat 0) (aa x).1).1))=cZ (ab (aa x).1) (ah x ((ab (aa x).1).getD x_1.toNat 0) (ac ((ab (aa x).1).getD x_1.toNat 0) (aa x).1).1)→(decide (x_2<(↑(ah x ((ab (aa x).1).getD x_1.toNat 0) (ac ((ab (aa x).1).getD x_1.toNat 0) (aa x).1).1).length:Int))=true→0≤x_2∧x_2<(↑(ah x ((ab (aa x).1).getD x_1.toNat 0) (ac ((ab (aa x).1).getD x_1.toNat 0) (aa x).1).1).length:Int)∧x_2.toNat<(ah x ((ab (aa x).1).getD x_1.toNat 0) (ac ((ab (aa x).1).getD x_1.toNat 0) (aa x).1).1).length∧(decide ((ah x ((ab (aa x).1).getD x_1.toNat 0) (ac ((ab (aa x).1).getD x_1.toNat 0) (aa x).1).1).getD x_2.toNat (0:Int)≠-1)=true→True)∧((decide ((ah x ((ab (aa x).1).getD x_1.toNat 0) (ac ((ab (aa x).1).getD x_1.toNat 0) (aa x).1).1).getD x_2.toNat (0:Int)≠-1)&&!bp (ab (aa x).1) ((ah x ((ab (aa x).1).getD x_1.toNat 0) (ac ((ab (aa x).1).getD x_1.toNat 0) (aa x).1).1).getD x_2.toNat 0))=true→5=dO x∧True)∧((decide ((ah x ((ab (aa x).1).getD x_1.toNat 0) (ac ((ab (aa x).1).getD x_1.toNat 0) (aa x).1).1).getD x_2.toNat (0:Int)≠-1)&&!bp (ab (aa x).1) ((ah x ((ab (aa x).1).getD x_1.toNat 0) (ac ((ab (aa x).1).getD x_1.toNat 0) (aa x).1).1).getD x_2.toNat 0))=false→aj .i64 (x_2+1)∧(0≤x_2+1∧x_2+1≤(↑(ah x ((ab (aa x).1).getD x_1.toNat 0) (ac ((ab (aa x).1).getD x_1.toNat 0) (aa x).1).1).length:Int)∧(ah x ((ab (aa x).1).getD x_1.toNat 0) (ac ((ab (aa x).1).getD x_1.toNat 0) (aa x).1).1).length≤256∧cZ (ab (aa x).1) (List.drop (x_2+1).toNat (ah x ((ab (aa x).1).getD x_1.toNat 0) (ac ((ab (aa x).1).getD x_1.toNat 0) (aa x).1).1))=cZ (ab (aa x).1) (ah x ((ab (aa x).1).getD x_1.toNat 0) (ac ((ab (aa x).1).getD x_1.toNat 0) (aa x).1).1))∧((↑(ah x ((ab (aa x).1).getD x_1.toNat 0) (ac ((ab (aa x).1).getD x_1.toNat 0) (aa x).1).1).length:Int) - (x_2+1)).toNat<((↑(ah x ((ab (aa x).1).getD x_1.toNat 0) (ac ((ab (aa x).1).getD x_1.toNat 0) (aa x).1).1).length:Int) - x_2).toNat))∧(decide (x_2<(↑(ah x ((ab (aa x).1).getD x_1.toNat 0) (ac ((ab (aa x).1).getD x_1.toNat 0) (aa x).1).1).length:Int))=false→aj .i64 (x_1+1)∧(0≤x_1+1∧x_1+1≤(↑(ab (aa x).1).length:Int)∧(ab (aa x).1).length≤256∧x.length≤256∧cC x (aa x).1 (ab (aa x).1) (List.drop (x_1+1).toNat (ab (aa x).1))=cC x (aa x).1 (ab (aa x).1) (ab (aa x).1))∧((↑(ab (aa x).1).length:Int) - (x_1+1)).toNat<((↑(ab (aa x).1).length:Int) - x_1).toNat))∧(decide (x_1<(↑(ab (aa x).1).length:Int))=false→0=dO x∧True))
theorem kB:gt:=by
 unfold gt
 intro a _ _
 have hlen:=aR a
 have hbl:=aG (aa a).1
 have hF:dO a=if (aa a).2≠0 then (aa a).2 else if cC a (aa a).1 (ab (aa a).1) (ab (aa a).1)=true then 0 else 5:=rfl
 generalize ab (aa a).1=all at *
 refine ⟨trivial,fun hc=>?_,fun hc=>?_⟩
 ·have hc:(aa a).2≠0:=by simpa using hc
  rw [hF,if_pos hc]
  exact ⟨rfl,trivial⟩
 have hc:(aa a).2=0:=by simpa using hc
 rw [if_neg (by omega)] at hF
 have hal:=(eD hc).1
 have hnl:∀ at_ h,(ah a at_ h).length≤256:=fun at_ h=>by simp only [ah,List.length_map,List.length_drop,List.length_take]; omega
 generalize hl:(aa a).1=l at *
 refine ⟨trivial,⟨by omega,by omega,by omega,hal,rfl⟩,fun i ⟨h0,h1,_,_,h2⟩=>⟨fun hlt=>?_,fun hge=>?_⟩⟩
 ·have hlt:i<(all.length:Int):=by simpa using hlt
  rw [aV (0:Int) h0 hlt] at h2
  simp only [cC] at h2
  have hnl:=hnl (all.getD i.toNat 0) (ac (all.getD i.toNat 0) l).1
  generalize ah a (all.getD i.toNat 0) (ac (all.getD i.toNat 0) l).1=rs at *
  refine ⟨h0,hlt,by omega,trivial,⟨by omega,by omega,hnl,rfl⟩,fun j ⟨g0,g1,_,g2⟩=>⟨fun hlt=>?_,fun hge=>?_⟩⟩
  ·have hlt:j<(rs.length:Int):=by simpa using hlt
   rw [aV (0:Int) g0 hlt] at g2
   simp only [cZ,List.all_cons] at g2
   generalize rs.getD j.toNat 0=v at *
   have hv:(decide (v≠-1)&&!bp all v)=!(decide (v=-1)||bp all v):=by simp
   rw [hv]
   simp only [aj]
   refine ⟨g0,hlt,by omega,fun _=>trivial,fun hv=>?_,fun hv=>?_⟩
   ·have hv:(decide (v=-1)||bp all v)=false:=by simpa using hv
    rw [hv,Bool.false_and] at g2
    have g2:cZ all rs=false:=g2.symm
    rw [g2,Bool.false_and] at h2
    rw [hF,if_neg (by rw [← h2]; simp)]
    exact ⟨rfl,trivial⟩
   ·have hv:(decide (v=-1)||bp all v)=true:=by
     cases h:(decide (v=-1)||bp all v)
     ·rw [h] at hv; cases hv
     ·rfl
    rw [hv,Bool.true_and] at g2
    exact ⟨by omega,⟨by omega,by omega,hnl,g2⟩,by omega⟩
  ·rw [br (by simpa using hge)] at g2
   have g2:cZ all rs=true:=g2.symm
   rw [g2,Bool.true_and] at h2
   simp only [aj]
   exact ⟨by omega,⟨by omega,by omega,by omega,hal,h2⟩,by omega⟩
 ·rw [br (by simpa using hge)] at h2
  have h2:cC a l all all=true:=h2.symm
  rw [hF,if_pos h2]
  exact ⟨rfl,trivial⟩
theorem lI:lj.ok Try.prog 86:=bJ (ann:=mB) (ai jA (ai eO (ai jB (ai lH aJ)))) Try.func86 (by kernel_rfl) kB
theorem eM (a:List Int):∀ s∈(aa a).1,a.length≤256∧c9 a s∧af s.2=0:=by
 intro s hs
 have hz:(aa a).2=0:=by
  unfold aa at hs ⊢
  split at hs
  ·simp at hs
  ·rename_i cl
   rw [if_neg cl]
   cases h:spotsS 0 a with
   | none=>rw [h] at hs; simp at hs
   | some l=>rfl
 have h:=eD hz
 exact ⟨h.1,(h.2 s hs).1,(h.2 s hs).2⟩
end Go.Proofs.Ytcnoiiohmpgckaa
