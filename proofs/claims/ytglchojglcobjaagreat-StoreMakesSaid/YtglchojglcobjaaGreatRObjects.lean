
import Derived.Test.YtglchojglcobjaaGreatRArena
namespace Go.Proofs.YtglchojglcobjaaGreat
open Go
set_option maxRecDepth 100000
set_option maxHeartbeats 1000000
def wU:Spec:={ Ts:=[.arr ty_I,.arr ty_I],Rs:=[.dat .bool],pre:=fun _=>True,F:=fun (x:List Int×List Int)=>decide (x.1=x.2) }
def yl:Nat→Option LoopGen
 | 4=>some { rd:=[.dat 0 (.arr ty_I),.dat 1 (.arr ty_I)],A:=fun (g:List Int×List Int)=>{ cs:=[.dat 13 ty_I],inv:=fun (i:Int)=>g.1.length=g.2.length∧0≤i∧i≤g.1.length∧g.1.take i.toNat=g.2.take i.toNat,mu:=fun (i:Int)=>(g.1.length - i).toNat } }
 | _=>none
def nC:Prop :=
  ∀ (x:List Int×List Int),((x.1.length * 8≤az∧∀ (x_1:Int),x_1∈x.1→ak IntKind.i64 x_1)∧x.2.length * 8≤az∧∀ (x_1:Int),x_1∈x.2→ak IntKind.i64 x_1)→True→(decide ((↑x.1.length:Int)≠(↑x.2.length:Int))=true→false=decide (x.1=x.2)∧True)∧(decide ((↑x.1.length:Int)≠(↑x.2.length:Int))=false→(x.1.length=x.2.length∧(0:Int)≤0∧0≤(↑x.1.length:Int)∧List.take (Int.toNat 0) x.1=List.take (Int.toNat 0) x.2)∧∀ (x_1:Int),x.1.length=x.2.length∧0≤x_1∧x_1≤(↑x.1.length:Int)∧List.take x_1.toNat x.1=List.take x_1.toNat x.2→(decide (x_1<(↑x.1.length:Int))=true→0≤x_1∧x_1<(↑x.1.length:Int)∧0≤x_1∧x_1<(↑x.2.length:Int)∧(decide (x.1.getD x_1.toNat 0≠x.2.getD x_1.toNat 0)=true→false=decide (x.1=x.2)∧True)∧(decide (x.1.getD x_1.toNat 0≠x.2.getD x_1.toNat 0)=false→ak IntKind.i64 (x_1+1)∧(x.1.length=x.2.length∧0≤x_1+1∧x_1+1≤(↑x.1.length:Int)∧List.take (x_1+1).toNat x.1=List.take (x_1+1).toNat x.2)∧((↑x.1.length:Int) - (x_1+1)).toNat<((↑x.1.length:Int) - x_1).toNat))∧(decide (x_1<(↑x.1.length:Int))=false→true=decide (x.1=x.2)∧True))
theorem tH:nC:=by
 unfold nC
 intro x hw _
 refine ⟨fun h=>?_,fun h=>?_⟩
 ·have h:x.1.length≠x.2.length:=by have:=of_decide_eq_true h; omega
  have:x.1≠x.2:=fun e=>h (by rw [e])
  simp [this]
 have hl:x.1.length=x.2.length:=by have:=of_decide_eq_false h; omega
 refine ⟨⟨hl,by omega,by omega,by simp⟩,fun i ⟨_,h0,h1,ht⟩=>⟨fun hlt=>?_,fun hge=>?_⟩⟩
 ·have hlt:i<x.1.length:=by simpa using hlt
  refine ⟨h0,hlt,h0,by omega,fun hne=>?_,fun he=>?_⟩
  ·have hne:x.1.getD i.toNat 0≠x.2.getD i.toNat 0:=by simpa using hne
   have:x.1≠x.2:=fun e=>hne (by rw [e])
   simp [this]
  ·have he:x.1.getD i.toNat 0=x.2.getD i.toNat 0:=by simpa using he
   have hb:=hw.1.1
   unfold az at hb
   refine ⟨by simp only [ak]; omega,⟨hl,by omega,by omega,?_⟩,by omega⟩
   rw [show (i+1).toNat=i.toNat+1 by omega]
   exact lq hl (by omega) ht he
 ·have hge:¬ i<x.1.length:=by simpa using hge
  have hi:i.toNat=x.1.length:=by omega
  rw [hi,List.take_of_length_le (Nat.le_refl _),List.take_of_length_le (by omega)] at ht
  simp [ht]
theorem xy:wU.ok Tryz.prog 69:=aI (ann:=yl) ap Tryz.func69 (by kernel_rfl) tH
def ub:Spec:={ Ts:=[.arr be,.arr be],Rs:=[.dat .bool],pre:=fun _=>True,F:=fun (x:List Int×List Int)=>decide (x.1=x.2) }
def uQ:Nat→Option LoopGen
 | 4=>some { rd:=[.dat 0 (.arr be),.dat 1 (.arr be)],A:=fun (g:List Int×List Int)=>{ cs:=[.dat 13 ty_I],inv:=fun (i:Int)=>g.1.length=g.2.length∧0≤i∧i≤g.1.length∧g.1.take i.toNat=g.2.take i.toNat,mu:=fun (i:Int)=>(g.1.length - i).toNat } }
 | _=>none
def lV:Prop :=
  ∀ (x:List Int×List Int),((x.1.length * 8≤az∧∀ (x_1:Int),x_1∈x.1→ak IntKind.u64 x_1)∧x.2.length * 8≤az∧∀ (x_1:Int),x_1∈x.2→ak IntKind.u64 x_1)→True→(decide ((↑x.1.length:Int)≠(↑x.2.length:Int))=true→false=decide (x.1=x.2)∧True)∧(decide ((↑x.1.length:Int)≠(↑x.2.length:Int))=false→(x.1.length=x.2.length∧(0:Int)≤0∧0≤(↑x.1.length:Int)∧List.take (Int.toNat 0) x.1=List.take (Int.toNat 0) x.2)∧∀ (x_1:Int),x.1.length=x.2.length∧0≤x_1∧x_1≤(↑x.1.length:Int)∧List.take x_1.toNat x.1=List.take x_1.toNat x.2→(decide (x_1<(↑x.1.length:Int))=true→0≤x_1∧x_1<(↑x.1.length:Int)∧0≤x_1∧x_1<(↑x.2.length:Int)∧(decide (x.1.getD x_1.toNat 0≠x.2.getD x_1.toNat 0)=true→false=decide (x.1=x.2)∧True)∧(decide (x.1.getD x_1.toNat 0≠x.2.getD x_1.toNat 0)=false→ak IntKind.i64 (x_1+1)∧(x.1.length=x.2.length∧0≤x_1+1∧x_1+1≤(↑x.1.length:Int)∧List.take (x_1+1).toNat x.1=List.take (x_1+1).toNat x.2)∧((↑x.1.length:Int) - (x_1+1)).toNat<((↑x.1.length:Int) - x_1).toNat))∧(decide (x_1<(↑x.1.length:Int))=false→true=decide (x.1=x.2)∧True))
theorem rg:lV:=by
 unfold lV
 intro x hw _
 refine ⟨fun h=>?_,fun h=>?_⟩
 ·have h:x.1.length≠x.2.length:=by have:=of_decide_eq_true h; omega
  have:x.1≠x.2:=fun e=>h (by rw [e])
  simp [this]
 have hl:x.1.length=x.2.length:=by have:=of_decide_eq_false h; omega
 refine ⟨⟨hl,by omega,by omega,by simp⟩,fun i ⟨_,h0,h1,ht⟩=>⟨fun hlt=>?_,fun hge=>?_⟩⟩
 ·have hlt:i<x.1.length:=by simpa using hlt
  refine ⟨h0,hlt,h0,by omega,fun hne=>?_,fun he=>?_⟩
  ·have hne:x.1.getD i.toNat 0≠x.2.getD i.toNat 0:=by simpa using hne
   have:x.1≠x.2:=fun e=>hne (by rw [e])
   simp [this]
  ·have he:x.1.getD i.toNat 0=x.2.getD i.toNat 0:=by simpa using he
   have hb:=hw.1.1
   unfold az at hb
   refine ⟨by simp only [ak]; omega,⟨hl,by omega,by omega,?_⟩,by omega⟩
   rw [show (i+1).toNat=i.toNat+1 by omega]
   exact lq hl (by omega) ht he
 ·have hge:¬ i<x.1.length:=by simpa using hge
  have hi:i.toNat=x.1.length:=by omega
  rw [hi,List.take_of_length_le (Nat.le_refl _),List.take_of_length_le (by omega)] at ht
  simp [ht]
theorem uo:ub.ok Tryz.prog 68:=aI (ann:=uQ) ap Tryz.func68 (by kernel_rfl) rg
theorem fa:∀ l:List aw,(af l).length≤l.length
 | []=>by simp [af]
 | s::l=>by
  have:=fa l
  simp only [af]
  split <;> simp <;> omega
def ff (all:List Int) (rs:List Int):Bool:=rs.all fun to=>decide (to=-1)||cD all to
def et (a:List Int) (l:List aw) (all:List Int):List Int→Bool
 | []=>true
 | at_::r=>ff all (aB a at_ (ah at_ l).1)&&et a l all r
def fb (a:List Int):Int:=if (aa a).2≠0 then (aa a).2 else if et a (aa a).1 (af (aa a).1) (af (aa a).1)=true then 0 else 5
def tu:Nat→Option LoopGen
 | 6=>some { rd:=[.own 20 3 ty_I,.dat 0 (.arr be)],A:=fun ((all,a):List Int×List Int)=>{ cs:=[.dat 22 ty_I],inv:=fun (i:Int)=>0≤i∧i≤all.length∧all.length≤256∧a.length≤256∧et a (aa a).1 all (all.drop i.toNat)=et a (aa a).1 all all,mu:=fun (i:Int)=>(all.length - i).toNat } }
 | 9=>some { rd:=[.own 28 3 ty_I,.own 20 3 ty_I],A:=fun ((rs,all):List Int×List Int)=>{ cs:=[.dat 30 ty_I],inv:=fun (j:Int)=>0≤j∧j≤rs.length∧rs.length≤256∧ff all (rs.drop j.toNat)=ff all rs,mu:=fun (j:Int)=>(rs.length - j).toNat } }
 | _=>none
def rC:Spec:={ Ts:=[.arr be],Rs:=[.dat ty_I],pre:=fun _=>True,F:=fb }
def kB:Prop :=
  ∀ (x:List Int),(x.length * 8≤az∧∀ (x_1:Int),x_1∈x→ak IntKind.u64 x_1)→True→True∧(decide ((aa x).2≠0)=true→(aa x).2=fb x∧True)∧(decide ((aa x).2≠0)=false→True∧((0:Int)≤0∧0≤(↑(af (aa x).1).length:Int)∧(af (aa x).1).length≤256∧x.length≤256∧et x (aa x).1 (af (aa x).1) (List.drop (Int.toNat 0) (af (aa x).1))=et x (aa x).1 (af (aa x).1) (af (aa x).1))∧∀ (x_1:Int),0≤x_1∧x_1≤(↑(af (aa x).1).length:Int)∧(af (aa x).1).length≤256∧x.length≤256∧et x (aa x).1 (af (aa x).1) (List.drop x_1.toNat (af (aa x).1))=et x (aa x).1 (af (aa x).1) (af (aa x).1)→(decide (x_1<(↑(af (aa x).1).length:Int))=true→0≤x_1∧x_1<(↑(af (aa x).1).length:Int)∧x_1.toNat<(af (aa x).1).length∧True∧((0:Int)≤0∧0≤(↑(aB x ((af (aa x).1).getD x_1.toNat 0) (ah ((af (aa x).1).getD x_1.toNat 0) (aa x).1).1).length:Int)∧(aB x ((af (aa x).1).getD x_1.toNat 0) (ah ((af (aa x).1).getD x_1.toNat 0) (aa x).1).1).length≤256∧ff (af (aa x).1) (List.drop (Int.toNat 0) (aB x ((af (aa x).1).getD x_1.toNat 0) (ah ((af (aa x).1).getD x_1.toNat 0) (aa x).1).1))=ff (af (aa x).1) (aB x ((af (aa x).1).getD x_1.toNat 0) (ah ((af (aa x).1).getD x_1.toNat 0) (aa x).1).1))∧∀ (x_2:Int),0≤x_2∧x_2≤(↑(aB x ((af (aa x).1).getD x_1.toNat 0) (ah ((af (aa x).1).getD x_1.toNat 0) (aa x).1).1).length:Int)∧(aB x ((af (aa x).1).getD x_1.toNat 0) (ah ((af (aa x).1).getD x_1.toNat 0) (aa x).1).1).length≤256∧ff (af (aa x).1) (List.drop x_2.toNat (aB x ((af (aa x).1).getD x_1.toNat 0) (ah ((af (aa x).1).getD x_1.toNat 0) (aa x).1).1))=ff (af (aa x).1) (aB x ((af (aa x).1).getD x_1.toNat 0) (ah ((af (aa x).1).getD x_1.toNat 0) (aa x).1).1)→(decide (x_2<(↑(aB x ((af (aa x).1).getD x_1.toNat 0) (ah ((af (aa x).1).getD x_1.toNat 0) (aa x).1).1).length:Int))=true→0≤x_2∧x_2<(↑(aB x ((af (aa x).1).getD x_1.toNat 0) (ah ((af (aa x).1).getD x_1.toNat 0) (aa x).1).1).length:Int)∧x_2.toNat<(aB x ((af (aa x).1).getD x_1.toNat 0) (ah ((af (aa x).1).getD x_1.toNat 0) (aa x).1).1).length∧(decide ((aB x ((af (aa x).1).getD x_1.toNat 0) (ah ((af (aa x).1).getD x_1.toNat 0) (aa x).1).1).getD x_2.toNat (0:Int)≠-1)=true→True)∧((decide ((aB x ((af (aa x).1).getD x_1.toNat 0) (ah ((af (aa x).1).getD x_1.toNat 0) (aa x).1).1).getD x_2.toNat (0:Int)≠-1)&&!cD (af (aa x).1) ((aB x ((af (aa x).1).getD x_1.toNat 0) (ah ((af (aa x).1).getD x_1.toNat 0) (aa x).1).1).getD x_2.toNat 0))=true→5=fb x∧True)∧((decide ((aB x ((af (aa x).1).getD x_1.toNat 0) (ah ((af (aa x).1).getD x_1.toNat 0) (aa x).1).1).getD x_2.toNat (0:Int)≠-1)&&!cD (af (aa x).1) ((aB x ((af (aa x).1).getD x_1.toNat 0) (ah ((af (aa x).1).getD x_1.toNat 0) (aa x).1).1).getD x_2.toNat 0))=false→ak IntKind.i64 (x_2+1)∧(0≤x_2+1∧x_2+1≤(↑(aB x ((af (aa x).1).getD x_1.toNat 0) (ah ((af (aa x).1).getD x_1.toNat 0) (aa x).1).1).length:Int)∧(aB x ((af (aa x).1).getD x_1.toNat 0) (ah ((af (aa x).1).getD x_1.toNat 0) (aa x).1).1).length≤256∧ff (af (aa x).1) (List.drop (x_2+1).toNat (aB x ((af (aa x).1).getD x_1.toNat 0) (ah ((af (aa x).1).getD x_1.toNat 0) (aa x).1).1))=ff (af (aa x).1) (aB x ((af (aa x).1).getD x_1.toNat 0) (ah ((af (aa x).1).getD x_1.toNat 0) (aa x).1).1))∧((↑(aB x ((af (aa x).1).getD x_1.toNat 0) (ah ((af (aa x).1).getD x_1.toNat 0) (aa x).1).1).length:Int) - (x_2+1)).toNat<((↑(aB x ((af (aa x).1).getD x_1.toNat 0) (ah ((af (aa x).1).getD x_1.toNat 0) (aa x).1).1).length:Int) - x_2).toNat))∧(decide (x_2<(↑(aB x ((af (aa x).1).getD x_1.toNat 0) (ah ((af (aa x).1).getD x_1.toNat 0) (aa x).1).1).length:Int))=false→ak IntKind.i64 (x_1+1)∧(0≤x_1+1∧x_1+1≤(↑(af (aa x).1).length:Int)∧(af (aa x).1).length≤256∧x.length≤256∧et x (aa x).1 (af (aa x).1) (List.drop (x_1+1).toNat (af (aa x).1))=et x (aa x).1 (af (aa x).1) (af (aa x).1))∧((↑(af (aa x).1).length:Int) - (x_1+1)).toNat<((↑(af (aa x).1).length:Int) - x_1).toNat))∧(decide (x_1<(↑(af (aa x).1).length:Int))=false→0=fb x∧True))
theorem qG:kB:=by
 unfold kB
 intro a _ _
 have hlen:=cf a
 have hbl:=fa (aa a).1
 have hF:fb a=if (aa a).2≠0 then (aa a).2 else if et a (aa a).1 (af (aa a).1) (af (aa a).1)=true then 0 else 5:=rfl
 generalize af (aa a).1=all at *
 refine ⟨trivial,fun hc=>?_,fun hc=>?_⟩
 ·have hc:(aa a).2≠0:=by simpa using hc
  rw [hF,if_pos hc]
  exact ⟨rfl,trivial⟩
 have hc:(aa a).2=0:=by simpa using hc
 rw [if_neg (by omega)] at hF
 have hal:=(gm hc).1
 have hnl:∀ at_ h,(aB a at_ h).length≤256:=fun at_ h=>by simp only [aB,List.length_map,List.length_drop,List.length_take]; omega
 generalize hl:(aa a).1=l at *
 refine ⟨trivial,⟨by omega,by omega,by omega,hal,rfl⟩,fun i ⟨h0,h1,_,_,h2⟩=>⟨fun hlt=>?_,fun hge=>?_⟩⟩
 ·have hlt:i<(all.length:Int):=by simpa using hlt
  rw [aS (0:Int) h0 hlt] at h2
  simp only [et] at h2
  have hnl:=hnl (all.getD i.toNat 0) (ah (all.getD i.toNat 0) l).1
  generalize aB a (all.getD i.toNat 0) (ah (all.getD i.toNat 0) l).1=rs at *
  refine ⟨h0,hlt,by omega,trivial,⟨by omega,by omega,hnl,rfl⟩,fun j ⟨g0,g1,_,g2⟩=>⟨fun hlt=>?_,fun hge=>?_⟩⟩
  ·have hlt:j<(rs.length:Int):=by simpa using hlt
   rw [aS (0:Int) g0 hlt] at g2
   simp only [ff,List.all_cons] at g2
   generalize rs.getD j.toNat 0=v at *
   have hv:(decide (v≠-1)&&!cD all v)=!(decide (v=-1)||cD all v):=by simp
   rw [hv]
   simp only [ak]
   refine ⟨g0,hlt,by omega,fun _=>trivial,fun hv=>?_,fun hv=>?_⟩
   ·have hv:(decide (v=-1)||cD all v)=false:=by simpa using hv
    rw [hv,Bool.false_and] at g2
    have g2:ff all rs=false:=g2.symm
    rw [g2,Bool.false_and] at h2
    rw [hF,if_neg (by rw [← h2]; simp)]
    exact ⟨rfl,trivial⟩
   ·have hv:(decide (v=-1)||cD all v)=true:=by
     cases h:(decide (v=-1)||cD all v)
     ·rw [h] at hv; cases hv
     ·rfl
    rw [hv,Bool.true_and] at g2
    exact ⟨by omega,⟨by omega,by omega,hnl,g2⟩,by omega⟩
  ·rw [bn (by simpa using hge)] at g2
   have g2:ff all rs=true:=g2.symm
   rw [g2,Bool.true_and] at h2
   simp only [ak]
   exact ⟨by omega,⟨by omega,by omega,by omega,hal,h2⟩,by omega⟩
 ·rw [bn (by simpa using hge)] at h2
  have h2:et a l all all=true:=h2.symm
  rw [hF,if_pos h2]
  exact ⟨rfl,trivial⟩
theorem kG:rC.ok Tryz.prog 36:=aI (ann:=tu) (ae lC (ae mK (ae lD (ae so ap)))) Tryz.func36 (by kernel_rfl) qG
theorem dc (a:List Int):∀ s∈(aa a).1,a.length≤256∧bX a s∧ac s.2=0:=by
 intro s hs
 have hz:(aa a).2=0:=by
  unfold aa at hs ⊢
  split at hs
  ·simp at hs
  ·rename_i cl
   rw [if_neg cl]
   cases h:spotsS 0 a with
   | none=>rw [h] at hs; simp at hs
   | some l=>rfl
 have h:=gm hz
 exact ⟨h.1,(h.2 s hs).1,(h.2 s hs).2⟩
end Go.Proofs.YtglchojglcobjaaGreat
