
import Derived.Test.YtcnoiiohmpgckaaRArena
namespace Go.Proofs.Ytcnoiiohmpgckaa
open Go
set_option maxRecDepth 100000
set_option maxHeartbeats 1000000
def tu:Spec:={ Ts:=[.arr ty_I,.arr ty_I],Rs:=[.dat .bool],pre:=fun _=>True,F:=fun (x:List Int×List Int)=>decide (x.1=x.2) }
def uQ:Nat→Option LoopGen
 | 4=>some { rd:=[.dat 0 (.arr ty_I),.dat 1 (.arr ty_I)],A:=fun (g:List Int×List Int)=>{ cs:=[.dat 13 ty_I],inv:=fun (i:Int)=>g.1.length=g.2.length∧0≤i∧i≤g.1.length∧g.1.take i.toNat=g.2.take i.toNat,mu:=fun (i:Int)=>(g.1.length - i).toNat } }
 | _=>none
def lc:Prop :=
  ∀ (x:List Int×List Int),((x.1.length * 8≤aC∧∀ (x_1:Int),x_1∈x.1→am .i64 x_1)∧x.2.length * 8≤aC∧∀ (x_1:Int),x_1∈x.2→am .i64 x_1)→True→(decide ((↑x.1.length:Int)≠(↑x.2.length:Int))=true→false=decide (x.1=x.2)∧True)∧(decide ((↑x.1.length:Int)≠(↑x.2.length:Int))=false→(x.1.length=x.2.length∧(0:Int)≤0∧0≤(↑x.1.length:Int)∧List.take (Int.toNat 0) x.1=List.take (Int.toNat 0) x.2)∧∀ (x_1:Int),x.1.length=x.2.length∧0≤x_1∧x_1≤(↑x.1.length:Int)∧List.take x_1.toNat x.1=List.take x_1.toNat x.2→(decide (x_1<(↑x.1.length:Int))=true→0≤x_1∧x_1<(↑x.1.length:Int)∧0≤x_1∧x_1<(↑x.2.length:Int)∧(decide (x.1.getD x_1.toNat 0≠x.2.getD x_1.toNat 0)=true→false=decide (x.1=x.2)∧True)∧(decide (x.1.getD x_1.toNat 0≠x.2.getD x_1.toNat 0)=false→am .i64 (x_1+1)∧(x.1.length=x.2.length∧0≤x_1+1∧x_1+1≤(↑x.1.length:Int)∧List.take (x_1+1).toNat x.1=List.take (x_1+1).toNat x.2)∧((↑x.1.length:Int) - (x_1+1)).toNat<((↑x.1.length:Int) - x_1).toNat))∧(decide (x_1<(↑x.1.length:Int))=false→true=decide (x.1=x.2)∧True))
theorem qD:lc:=by
 unfold lc
 intro x hw _
 refine ⟨fun h=>?_,fun h=>?_⟩
 ·have h:x.1.length≠x.2.length:=by have:=of_decide_eq_true h; omega
  have:x.1≠x.2:=fun e=>h (by rw [e])
  simp [this]
 have hl:x.1.length=x.2.length:=by have:=of_decide_eq_false h; omega
 refine ⟨⟨hl,by omega,by omega,by simp⟩,fun i ⟨_,h0,h1,ht⟩=>⟨fun hlt=>?_,fun hge=>?_⟩⟩
 ·have hlt:i<x.1.length:=by simpa using hlt
  refine ⟨h0,hlt,h0,by omega,fun hne=>?_,fun he=>?_⟩
  ·have hne:x.1.getD i.toNat 0≠x.2.getD i.toNat 0:=by simpa using hne
   have:x.1≠x.2:=fun e=>hne (by rw [e])
   simp [this]
  ·have he:x.1.getD i.toNat 0=x.2.getD i.toNat 0:=by simpa using he
   have hb:=hw.1.1
   unfold aC at hb
   refine ⟨by simp only [am]; omega,⟨hl,by omega,by omega,?_⟩,by omega⟩
   rw [show (i+1).toNat=i.toNat+1 by omega]
   exact jo hl (by omega) ht he
 ·have hge:¬ i<x.1.length:=by simpa using hge
  have hi:i.toNat=x.1.length:=by omega
  rw [hi,List.take_of_length_le (Nat.le_refl _),List.take_of_length_le (by omega)] at ht
  simp [ht]
theorem tX:tu.ok Try.prog 115:=aQ (ann:=uQ) ax Try.func115 (by kernel_rfl) qD
def qY:Spec:={ Ts:=[.arr bv,.arr bv],Rs:=[.dat .bool],pre:=fun _=>True,F:=fun (x:List Int×List Int)=>decide (x.1=x.2) }
def rT:Nat→Option LoopGen
 | 4=>some { rd:=[.dat 0 (.arr bv),.dat 1 (.arr bv)],A:=fun (g:List Int×List Int)=>{ cs:=[.dat 13 ty_I],inv:=fun (i:Int)=>g.1.length=g.2.length∧0≤i∧i≤g.1.length∧g.1.take i.toNat=g.2.take i.toNat,mu:=fun (i:Int)=>(g.1.length - i).toNat } }
 | _=>none
def jL:Prop :=
  ∀ (x:List Int×List Int),((x.1.length * 8≤aC∧∀ (x_1:Int),x_1∈x.1→am .u64 x_1)∧x.2.length * 8≤aC∧∀ (x_1:Int),x_1∈x.2→am .u64 x_1)→True→(decide ((↑x.1.length:Int)≠(↑x.2.length:Int))=true→false=decide (x.1=x.2)∧True)∧(decide ((↑x.1.length:Int)≠(↑x.2.length:Int))=false→(x.1.length=x.2.length∧(0:Int)≤0∧0≤(↑x.1.length:Int)∧List.take (Int.toNat 0) x.1=List.take (Int.toNat 0) x.2)∧∀ (x_1:Int),x.1.length=x.2.length∧0≤x_1∧x_1≤(↑x.1.length:Int)∧List.take x_1.toNat x.1=List.take x_1.toNat x.2→(decide (x_1<(↑x.1.length:Int))=true→0≤x_1∧x_1<(↑x.1.length:Int)∧0≤x_1∧x_1<(↑x.2.length:Int)∧(decide (x.1.getD x_1.toNat 0≠x.2.getD x_1.toNat 0)=true→false=decide (x.1=x.2)∧True)∧(decide (x.1.getD x_1.toNat 0≠x.2.getD x_1.toNat 0)=false→am .i64 (x_1+1)∧(x.1.length=x.2.length∧0≤x_1+1∧x_1+1≤(↑x.1.length:Int)∧List.take (x_1+1).toNat x.1=List.take (x_1+1).toNat x.2)∧((↑x.1.length:Int) - (x_1+1)).toNat<((↑x.1.length:Int) - x_1).toNat))∧(decide (x_1<(↑x.1.length:Int))=false→true=decide (x.1=x.2)∧True))
theorem oD:jL:=by
 unfold jL
 intro x hw _
 refine ⟨fun h=>?_,fun h=>?_⟩
 ·have h:x.1.length≠x.2.length:=by have:=of_decide_eq_true h; omega
  have:x.1≠x.2:=fun e=>h (by rw [e])
  simp [this]
 have hl:x.1.length=x.2.length:=by have:=of_decide_eq_false h; omega
 refine ⟨⟨hl,by omega,by omega,by simp⟩,fun i ⟨_,h0,h1,ht⟩=>⟨fun hlt=>?_,fun hge=>?_⟩⟩
 ·have hlt:i<x.1.length:=by simpa using hlt
  refine ⟨h0,hlt,h0,by omega,fun hne=>?_,fun he=>?_⟩
  ·have hne:x.1.getD i.toNat 0≠x.2.getD i.toNat 0:=by simpa using hne
   have:x.1≠x.2:=fun e=>hne (by rw [e])
   simp [this]
  ·have he:x.1.getD i.toNat 0=x.2.getD i.toNat 0:=by simpa using he
   have hb:=hw.1.1
   unfold aC at hb
   refine ⟨by simp only [am]; omega,⟨hl,by omega,by omega,?_⟩,by omega⟩
   rw [show (i+1).toNat=i.toNat+1 by omega]
   exact jo hl (by omega) ht he
 ·have hge:¬ i<x.1.length:=by simpa using hge
  have hi:i.toNat=x.1.length:=by omega
  rw [hi,List.take_of_length_le (Nat.le_refl _),List.take_of_length_le (by omega)] at ht
  simp [ht]
theorem rm:qY.ok Try.prog 114:=aQ (ann:=rT) ax Try.func114 (by kernel_rfl) oD
theorem ji:∀ l:List aE,(af l).length≤l.length
 | []=>by simp [af]
 | s::l=>by
  have:=ji l
  simp only [af]
  split <;> simp <;> omega
def dz (all:List Int) (rs:List Int):Bool:=rs.all fun to=>decide (to=-1)||dw all to
def cW (a:List Int) (l:List aE) (all:List Int):List Int→Bool
 | []=>true
 | at_::r=>dz all (bq a at_ (an at_ l).1)&&cW a l all r
def du (a:List Int):Int:=if (aa a).2≠0 then (aa a).2 else if cW a (aa a).1 (af (aa a).1) (af (aa a).1)=true then 0 else 5
def qo:Nat→Option LoopGen
 | 6=>some { rd:=[.own 20 3 ty_I,.dat 0 (.arr bv)],A:=fun ((all,a):List Int×List Int)=>{ cs:=[.dat 22 ty_I],inv:=fun (i:Int)=>0≤i∧i≤all.length∧all.length≤256∧a.length≤256∧cW a (aa a).1 all (all.drop i.toNat)=cW a (aa a).1 all all,mu:=fun (i:Int)=>(all.length - i).toNat } }
 | 9=>some { rd:=[.own 28 3 ty_I,.own 20 3 ty_I],A:=fun ((rs,all):List Int×List Int)=>{ cs:=[.dat 30 ty_I],inv:=fun (j:Int)=>0≤j∧j≤rs.length∧rs.length≤256∧dz all (rs.drop j.toNat)=dz all rs,mu:=fun (j:Int)=>(rs.length - j).toNat } }
 | _=>none
def oV:Spec:={ Ts:=[.arr bv],Rs:=[.dat ty_I],pre:=fun _=>True,F:=du }
def iU:Prop :=
  ∀ (x:List Int),(x.length * 8≤aC∧∀ (x_1:Int),x_1∈x→am .u64 x_1)→True→True∧(decide ((aa x).2≠0)=true→(aa x).2=du x∧True)∧(decide ((aa x).2≠0)=false→True∧((0:Int)≤0∧0≤(↑(af (aa x).1).length:Int)∧(af (aa x).1).length≤256∧x.length≤256∧cW x (aa x).1 (af (aa x).1) (List.drop (Int.toNat 0) (af (aa x).1))=cW x (aa x).1 (af (aa x).1) (af (aa x).1))∧∀ (x_1:Int),0≤x_1∧x_1≤(↑(af (aa x).1).length:Int)∧(af (aa x).1).length≤256∧x.length≤256∧cW x (aa x).1 (af (aa x).1) (List.drop x_1.toNat (af (aa x).1))=cW x (aa x).1 (af (aa x).1) (af (aa x).1)→(decide (x_1<(↑(af (aa x).1).length:Int))=true→0≤x_1∧x_1<(↑(af (aa x).1).length:Int)∧x_1.toNat<(af (aa x).1).length∧True∧((0:Int)≤0∧0≤(↑(bq x ((af (aa x).1).getD x_1.toNat 0) (an ((af (aa x).1).getD x_1.toNat 0) (aa x).1).1).length:Int)∧(bq x ((af (aa x).1).getD x_1.toNat 0) (an ((af (aa x).1).getD x_1.toNat 0) (aa x).1).1).length≤256∧dz (af (aa x).1) (List.drop (Int.toNat 0) (bq x ((af (aa x).1).getD x_1.toNat 0) (an ((af (aa x).1).getD x_1.toNat 0) (aa x).1).1))=dz (af (aa x).1) (bq x ((af (aa x).1).getD x_1.toNat 0) (an ((af (aa x).1).getD x_1.toNat 0) (aa x).1).1))∧∀ (x_2:Int),0≤x_2∧x_2≤(↑(bq x ((af (aa x).1).getD x_1.toNat 0) (an ((af (aa x).1).getD x_1.toNat 0) (aa x).1).1).length:Int)∧(bq x ((af (aa x).1).getD x_1.toNat 0) (an ((af (aa x).1).getD x_1.toNat 0) (aa x).1).1).length≤256∧dz (af (aa x).1) (List.drop x_2.toNat (bq x ((af (aa x).1).getD x_1.toNat 0) (an ((af (aa x).1).getD x_1.toNat 0) (aa x).1).1))=dz (af (aa x).1) (bq x ((af (aa x).1).getD x_1.toNat 0) (an ((af (aa x).1).getD x_1.toNat 0) (aa x).1).1)→(decide (x_2<(↑(bq x ((af (aa x).1).getD x_1.toNat 0) (an ((af (aa x).1).getD x_1.toNat 0) (aa x).1).1).length:Int))=true→0≤x_2∧x_2<(↑(bq x ((af (aa x).1).getD x_1.toNat 0) (an ((af (aa x).1).getD x_1.toNat 0) (aa x).1).1).length:Int)∧x_2.toNat<(bq x ((af (aa x).1).getD x_1.toNat 0) (an ((af (aa x).1).getD x_1.toNat 0) (aa x).1).1).length∧(decide ((bq x ((af (aa x).1).getD x_1.toNat 0) (an ((af (aa x).1).getD x_1.toNat 0) (aa x).1).1).getD x_2.toNat (0:Int)≠-1)=true→True)∧((decide ((bq x ((af (aa x).1).getD x_1.toNat 0) (an ((af (aa x).1).getD x_1.toNat 0) (aa x).1).1).getD x_2.toNat (0:Int)≠-1)&&!dw (af (aa x).1) ((bq x ((af (aa x).1).getD x_1.toNat 0) (an ((af (aa x).1).getD x_1.toNat 0) (aa x).1).1).getD x_2.toNat 0))=true→5=du x∧True)∧((decide ((bq x ((af (aa x).1).getD x_1.toNat 0) (an ((af (aa x).1).getD x_1.toNat 0) (aa x).1).1).getD x_2.toNat (0:Int)≠-1)&&!dw (af (aa x).1) ((bq x ((af (aa x).1).getD x_1.toNat 0) (an ((af (aa x).1).getD x_1.toNat 0) (aa x).1).1).getD x_2.toNat 0))=false→am .i64 (x_2+1)∧(0≤x_2+1∧x_2+1≤(↑(bq x ((af (aa x).1).getD x_1.toNat 0) (an ((af (aa x).1).getD x_1.toNat 0) (aa x).1).1).length:Int)∧(bq x ((af (aa x).1).getD x_1.toNat 0) (an ((af (aa x).1).getD x_1.toNat 0) (aa x).1).1).length≤256∧dz (af (aa x).1) (List.drop (x_2+1).toNat (bq x ((af (aa x).1).getD x_1.toNat 0) (an ((af (aa x).1).getD x_1.toNat 0) (aa x).1).1))=dz (af (aa x).1) (bq x ((af (aa x).1).getD x_1.toNat 0) (an ((af (aa x).1).getD x_1.toNat 0) (aa x).1).1))∧((↑(bq x ((af (aa x).1).getD x_1.toNat 0) (an ((af (aa x).1).getD x_1.toNat 0) (aa x).1).1).length:Int) - (x_2+1)).toNat<((↑(bq x ((af (aa x).1).getD x_1.toNat 0) (an ((af (aa x).1).getD x_1.toNat 0) (aa x).1).1).length:Int) - x_2).toNat))∧(decide (x_2<(↑(bq x ((af (aa x).1).getD x_1.toNat 0) (an ((af (aa x).1).getD x_1.toNat 0) (aa x).1).1).length:Int))=false→am .i64 (x_1+1)∧(0≤x_1+1∧x_1+1≤(↑(af (aa x).1).length:Int)∧(af (aa x).1).length≤256∧x.length≤256∧cW x (aa x).1 (af (aa x).1) (List.drop (x_1+1).toNat (af (aa x).1))=cW x (aa x).1 (af (aa x).1) (af (aa x).1))∧((↑(af (aa x).1).length:Int) - (x_1+1)).toNat<((↑(af (aa x).1).length:Int) - x_1).toNat))∧(decide (x_1<(↑(af (aa x).1).length:Int))=false→0=du x∧True))
theorem nP:iU:=by
 unfold iU
 intro a _ _
 have hlen:=c9 a
 have hbl:=ji (aa a).1
 have hF:du a=if (aa a).2≠0 then (aa a).2 else if cW a (aa a).1 (af (aa a).1) (af (aa a).1)=true then 0 else 5:=rfl
 generalize af (aa a).1=all at *
 refine ⟨trivial,fun hc=>?_,fun hc=>?_⟩
 ·have hc:(aa a).2≠0:=by simpa using hc
  rw [hF,if_pos hc]
  exact ⟨rfl,trivial⟩
 have hc:(aa a).2=0:=by simpa using hc
 rw [if_neg (by omega)] at hF
 have hal:=(fA hc).1
 have hnl:∀ at_ h,(bq a at_ h).length≤256:=fun at_ h=>by simp only [bq,List.length_map,List.length_drop,List.length_take]; omega
 generalize hl:(aa a).1=l at *
 refine ⟨trivial,⟨by omega,by omega,by omega,hal,rfl⟩,fun i ⟨h0,h1,_,_,h2⟩=>⟨fun hlt=>?_,fun hge=>?_⟩⟩
 ·have hlt:i<(all.length:Int):=by simpa using hlt
  rw [aY (0:Int) h0 hlt] at h2
  simp only [cW] at h2
  have hnl:=hnl (all.getD i.toNat 0) (an (all.getD i.toNat 0) l).1
  generalize bq a (all.getD i.toNat 0) (an (all.getD i.toNat 0) l).1=rs at *
  refine ⟨h0,hlt,by omega,trivial,⟨by omega,by omega,hnl,rfl⟩,fun j ⟨g0,g1,_,g2⟩=>⟨fun hlt=>?_,fun hge=>?_⟩⟩
  ·have hlt:j<(rs.length:Int):=by simpa using hlt
   rw [aY (0:Int) g0 hlt] at g2
   simp only [dz,List.all_cons] at g2
   generalize rs.getD j.toNat 0=v at *
   have hv:(decide (v≠-1)&&!dw all v)=!(decide (v=-1)||dw all v):=by simp
   rw [hv]
   simp only [am]
   refine ⟨g0,hlt,by omega,fun _=>trivial,fun hv=>?_,fun hv=>?_⟩
   ·have hv:(decide (v=-1)||dw all v)=false:=by simpa using hv
    rw [hv,Bool.false_and] at g2
    have g2:dz all rs=false:=g2.symm
    rw [g2,Bool.false_and] at h2
    rw [hF,if_neg (by rw [← h2]; simp)]
    exact ⟨rfl,trivial⟩
   ·have hv:(decide (v=-1)||dw all v)=true:=by
     cases h:(decide (v=-1)||dw all v)
     ·rw [h] at hv; cases hv
     ·rfl
    rw [hv,Bool.true_and] at g2
    exact ⟨by omega,⟨by omega,by omega,hnl,g2⟩,by omega⟩
  ·rw [bt (by simpa using hge)] at g2
   have g2:dz all rs=true:=g2.symm
   rw [g2,Bool.true_and] at h2
   simp only [am]
   exact ⟨by omega,⟨by omega,by omega,by omega,hal,h2⟩,by omega⟩
 ·rw [bt (by simpa using hge)] at h2
  have h2:cW a l all all=true:=h2.symm
  rw [hF,if_pos h2]
  exact ⟨rfl,trivial⟩
theorem iX:oV.ok Try.prog 86:=aQ (ann:=qo) (ai mF (ai pA (ai zy (ai xI ax)))) Try.func86 (by kernel_rfl) nP
theorem eD (a:List Int):∀ s∈(aa a).1,a.length≤256∧cm a s∧ap s.2=0:=by
 intro s hs
 have hz:(aa a).2=0:=by
  unfold aa at hs ⊢
  split at hs
  ·simp at hs
  ·rename_i cl
   rw [if_neg cl]
   cases h:spotsS 0 a with
   | none=>rw [h] at hs; simp at hs
   | some l=>rfl
 have h:=fA hz
 exact ⟨h.1,(h.2 s hs).1,(h.2 s hs).2⟩
end Go.Proofs.Ytcnoiiohmpgckaa
