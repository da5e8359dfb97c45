
import Derived.Test.YtcnoiiohmpgckaaRArena
namespace Go.Proofs.Ytcnoiiohmpgckaa
open Go
set_option maxRecDepth 100000
set_option maxHeartbeats 1000000
def pN:Spec:={ Ts:=[.arr ty_I,.arr ty_I],Rs:=[.dat .bool],pre:=fun _=>True,F:=fun (x:List Int×List Int)=>decide (x.1=x.2) }
def qR:Nat→Option LoopGen
 | 4=>some { rd:=[.dat 0 (.arr ty_I),.dat 1 (.arr ty_I)],A:=fun (g:List Int×List Int)=>{ cs:=[.dat 13 ty_I],inv:=fun (i:Int)=>g.1.length=g.2.length∧0≤i∧i≤g.1.length∧g.1.take i.toNat=g.2.take i.toNat,mu:=fun (i:Int)=>(g.1.length - i).toNat } }
 | _=>none
def i9:Prop :=
  ∀ (x:List Int×List Int),((x.1.length * 8≤aC∧∀ (x_1:Int),x_1∈x.1→ai .i64 x_1)∧x.2.length * 8≤aC∧∀ (x_1:Int),x_1∈x.2→ai .i64 x_1)→True→(decide ((↑x.1.length:Int)≠(↑x.2.length:Int))=true→false=decide (x.1=x.2)∧True)∧(decide ((↑x.1.length:Int)≠(↑x.2.length:Int))=false→(x.1.length=x.2.length∧(0:Int)≤0∧0≤(↑x.1.length:Int)∧List.take (Int.toNat 0) x.1=List.take (Int.toNat 0) x.2)∧∀ (x_1:Int),x.1.length=x.2.length∧0≤x_1∧x_1≤(↑x.1.length:Int)∧List.take x_1.toNat x.1=List.take x_1.toNat x.2→(decide (x_1<(↑x.1.length:Int))=true→0≤x_1∧x_1<(↑x.1.length:Int)∧0≤x_1∧x_1<(↑x.2.length:Int)∧(decide (x.1.getD x_1.toNat 0≠x.2.getD x_1.toNat 0)=true→false=decide (x.1=x.2)∧True)∧(decide (x.1.getD x_1.toNat 0≠x.2.getD x_1.toNat 0)=false→ai .i64 (x_1+1)∧(x.1.length=x.2.length∧0≤x_1+1∧x_1+1≤(↑x.1.length:Int)∧List.take (x_1+1).toNat x.1=List.take (x_1+1).toNat x.2)∧((↑x.1.length:Int) - (x_1+1)).toNat<((↑x.1.length:Int) - x_1).toNat))∧(decide (x_1<(↑x.1.length:Int))=false→true=decide (x.1=x.2)∧True))
theorem no:i9:=by
 unfold i9
 intro x hw _
 refine ⟨fun h=>?_,fun h=>?_⟩
 ·have h:x.1.length≠x.2.length:=by have:=of_decide_eq_true h; omega
  have:x.1≠x.2:=fun e=>h (by rw [e])
  simp [this]
 have hl:x.1.length=x.2.length:=by have:=of_decide_eq_false h; omega
 refine ⟨⟨hl,by omega,by omega,by simp⟩,fun i ⟨_,h0,h1,ht⟩=>⟨fun hlt=>?_,fun hge=>?_⟩⟩
 ·have hlt:i<x.1.length:=by simpa using hlt
  refine ⟨h0,hlt,h0,by omega,fun hne=>?_,fun he=>?_⟩
  ·have hne:x.1.getD i.toNat 0≠x.2.getD i.toNat 0:=by simpa using hne
   have:x.1≠x.2:=fun e=>hne (by rw [e])
   simp [this]
  ·have he:x.1.getD i.toNat 0=x.2.getD i.toNat 0:=by simpa using he
   have hb:=hw.1.1
   unfold aC at hb
   refine ⟨by simp only [ai]; omega,⟨hl,by omega,by omega,?_⟩,by omega⟩
   rw [show (i+1).toNat=i.toNat+1 by omega]
   exact jV hl (by omega) ht he
 ·have hge:¬ i<x.1.length:=by simpa using hge
  have hi:i.toNat=x.1.length:=by omega
  rw [hi,List.take_of_length_le (Nat.le_refl _),List.take_of_length_le (by omega)] at ht
  simp [ht]
theorem qf:pN.ok Try.prog 115:=aQ (ann:=qR) ar Try.func115 (by kernel_rfl) no
def nF:Spec:={ Ts:=[.arr bB,.arr bB],Rs:=[.dat .bool],pre:=fun _=>True,F:=fun (x:List Int×List Int)=>decide (x.1=x.2) }
def oo:Nat→Option LoopGen
 | 4=>some { rd:=[.dat 0 (.arr bB),.dat 1 (.arr bB)],A:=fun (g:List Int×List Int)=>{ cs:=[.dat 13 ty_I],inv:=fun (i:Int)=>g.1.length=g.2.length∧0≤i∧i≤g.1.length∧g.1.take i.toNat=g.2.take i.toNat,mu:=fun (i:Int)=>(g.1.length - i).toNat } }
 | _=>none
def gX:Prop :=
  ∀ (x:List Int×List Int),((x.1.length * 8≤aC∧∀ (x_1:Int),x_1∈x.1→ai .u64 x_1)∧x.2.length * 8≤aC∧∀ (x_1:Int),x_1∈x.2→ai .u64 x_1)→True→(decide ((↑x.1.length:Int)≠(↑x.2.length:Int))=true→false=decide (x.1=x.2)∧True)∧(decide ((↑x.1.length:Int)≠(↑x.2.length:Int))=false→(x.1.length=x.2.length∧(0:Int)≤0∧0≤(↑x.1.length:Int)∧List.take (Int.toNat 0) x.1=List.take (Int.toNat 0) x.2)∧∀ (x_1:Int),x.1.length=x.2.length∧0≤x_1∧x_1≤(↑x.1.length:Int)∧List.take x_1.toNat x.1=List.take x_1.toNat x.2→(decide (x_1<(↑x.1.length:Int))=true→0≤x_1∧x_1<(↑x.1.length:Int)∧0≤x_1∧x_1<(↑x.2.length:Int)∧(decide (x.1.getD x_1.toNat 0≠x.2.getD x_1.toNat 0)=true→false=decide (x.1=x.2)∧True)∧(decide (x.1.getD x_1.toNat 0≠x.2.getD x_1.toNat 0)=false→ai .i64 (x_1+1)∧(x.1.length=x.2.length∧0≤x_1+1∧x_1+1≤(↑x.1.length:Int)∧List.take (x_1+1).toNat x.1=List.take (x_1+1).toNat x.2)∧((↑x.1.length:Int) - (x_1+1)).toNat<((↑x.1.length:Int) - x_1).toNat))∧(decide (x_1<(↑x.1.length:Int))=false→true=decide (x.1=x.2)∧True))
theorem lP:gX:=by
 unfold gX
 intro x hw _
 refine ⟨fun h=>?_,fun h=>?_⟩
 ·have h:x.1.length≠x.2.length:=by have:=of_decide_eq_true h; omega
  have:x.1≠x.2:=fun e=>h (by rw [e])
  simp [this]
 have hl:x.1.length=x.2.length:=by have:=of_decide_eq_false h; omega
 refine ⟨⟨hl,by omega,by omega,by simp⟩,fun i ⟨_,h0,h1,ht⟩=>⟨fun hlt=>?_,fun hge=>?_⟩⟩
 ·have hlt:i<x.1.length:=by simpa using hlt
  refine ⟨h0,hlt,h0,by omega,fun hne=>?_,fun he=>?_⟩
  ·have hne:x.1.getD i.toNat 0≠x.2.getD i.toNat 0:=by simpa using hne
   have:x.1≠x.2:=fun e=>hne (by rw [e])
   simp [this]
  ·have he:x.1.getD i.toNat 0=x.2.getD i.toNat 0:=by simpa using he
   have hb:=hw.1.1
   unfold aC at hb
   refine ⟨by simp only [ai]; omega,⟨hl,by omega,by omega,?_⟩,by omega⟩
   rw [show (i+1).toNat=i.toNat+1 by omega]
   exact jV hl (by omega) ht he
 ·have hge:¬ i<x.1.length:=by simpa using hge
  have hi:i.toNat=x.1.length:=by omega
  rw [hi,List.take_of_length_le (Nat.le_refl _),List.take_of_length_le (by omega)] at ht
  simp [ht]
theorem nP:nF.ok Try.prog 114:=aQ (ann:=oo) ar Try.func114 (by kernel_rfl) lP
theorem dN:∀ l:List aN,(ab l).length≤l.length
 | []=>by simp [ab]
 | s::l=>by
  have:=dN l
  simp only [ab]
  split <;> simp <;> omega
def db (all:List Int) (rs:List Int):Bool:=rs.all fun to=>decide (to=-1)||aI all to
def cD (a:List Int) (l:List aN) (all:List Int):List Int→Bool
 | []=>true
 | at_::r=>db all (ay a at_ (ac at_ l).1)&&cD a l all r
def c9 (a:List Int):Int:=if (aa a).2≠0 then (aa a).2 else if cD a (aa a).1 (ab (aa a).1) (ab (aa a).1)=true then 0 else 5
def nf:Nat→Option LoopGen
 | 6=>some { rd:=[.own 20 3 ty_I,.dat 0 (.arr bB)],A:=fun ((all,a):List Int×List Int)=>{ cs:=[.dat 22 ty_I],inv:=fun (i:Int)=>0≤i∧i≤all.length∧all.length≤256∧a.length≤256∧cD a (aa a).1 all (all.drop i.toNat)=cD a (aa a).1 all all,mu:=fun (i:Int)=>(all.length - i).toNat } }
 | 9=>some { rd:=[.own 28 3 ty_I,.own 20 3 ty_I],A:=fun ((rs,all):List Int×List Int)=>{ cs:=[.dat 30 ty_I],inv:=fun (j:Int)=>0≤j∧j≤rs.length∧rs.length≤256∧db all (rs.drop j.toNat)=db all rs,mu:=fun (j:Int)=>(rs.length - j).toNat } }
 | _=>none
def l7:Spec:={ Ts:=[.arr bB],Rs:=[.dat ty_I],pre:=fun _=>True,F:=c9 }
def gm:Prop :=
  ∀ (x:List Int),(x.length * 8≤aC∧∀ (x_1:Int),x_1∈x→ai .u64 x_1)→True→True∧(decide ((aa x).2≠0)=true→(aa x).2=c9 x∧True)∧(decide ((aa x).2≠0)=false→True∧((0:Int)≤0∧0≤(↑(ab (aa x).1).length:Int)∧(ab (aa x).1).length≤256∧x.length≤256∧cD x (aa x).1 (ab (aa x).1) (List.drop (Int.toNat 0) (ab (aa x).1))=cD x (aa x).1 (ab (aa x).1) (ab (aa x).1))∧∀ (x_1:Int),0≤x_1∧x_1≤(↑(ab (aa x).1).length:Int)∧(ab (aa x).1).length≤256∧x.length≤256∧cD x (aa x).1 (ab (aa x).1) (List.drop x_1.toNat (ab (aa x).1))=cD x (aa x).1 (ab (aa x).1) (ab (aa x).1)→(decide (x_1<(↑(ab (aa x).1).length:Int))=true→0≤x_1∧x_1<(↑(ab (aa x).1).length:Int)∧x_1.toNat<(ab (aa x).1).length∧True∧((0:Int)≤0∧0≤(↑(ay x ((ab (aa x).1).getD x_1.toNat 0) (ac ((ab (aa x).1).getD x_1.toNat 0) (aa x).1).1).length:Int)∧(ay x ((ab (aa x).1).getD x_1.toNat 0) (ac ((ab (aa x).1).getD x_1.toNat 0) (aa x).1).1).length≤256∧db (ab (aa x).1) (List.drop (Int.toNat 0) (ay x ((ab (aa x).1).getD x_1.toNat 0) (ac ((ab (aa x).1).getD x_1.toNat 0) (aa x).1).1))=db (ab (aa x).1) (ay x ((ab (aa x).1).getD x_1.toNat 0) (ac ((ab (aa x).1).getD x_1.toNat 0) (aa x).1).1))∧∀ (x_2:Int),0≤x_2∧x_2≤(↑(ay x ((ab (aa x).1).getD x_1.toNat 0) (ac ((ab (aa x).1).getD x_1.toNat 0) (aa x).1).1).length:Int)∧(ay x ((ab (aa x).1).getD x_1.toNat 0) (ac ((ab (aa x).1).getD x_1.toNat 0) (aa x).1).1).length≤256∧db (ab (aa x).1) (List.drop x_2.toNat (ay x ((ab (aa x).1).getD x_1.toNat 0) (ac ((ab (aa x).1).getD x_1.toNat 0) (aa x).1).1))=db (ab (aa x).1) (ay x ((ab (aa x).1).getD x_1.toNat 0) (ac ((ab (aa x).1).getD x_1.toNat 0) (aa x).1).1)→(decide (x_2<(↑(ay x ((ab (aa x).1).getD x_1.toNat 0) (ac ((ab (aa x).1).getD x_1.toNat 0) (aa x).1).1).length:Int))=true→0≤x_2∧x_2<(↑(ay x ((ab (aa x).1).getD x_1.toNat 0) (ac ((ab (aa x).1).getD x_1.toNat 0) (aa x).1).1).length:Int)∧x_2.toNat<(ay x ((ab (aa x).1).getD x_1.toNat 0) (ac ((ab (aa x).1).getD x_1.toNat 0) (aa x).1).1).length∧(decide ((ay x ((ab (aa x).1).getD x_1.toNat 0) (ac ((ab (aa x).1).getD x_1.toNat 0) (aa x).1).1).getD x_2.toNat (0:Int)≠-1)=true→True)∧((decide ((ay x ((ab (aa x).1).getD x_1.toNat 0) (ac ((ab (aa x).1).getD x_1.toNat 0) (aa x).1).1).getD x_2.toNat (0:Int)≠-1)&&!aI (ab (aa x).1) ((ay x ((ab (aa x).1).getD x_1.toNat 0) (ac ((ab (aa x).1).getD x_1.toNat 0) (aa x).1).1).getD x_2.toNat 0))=true→5=c9 x∧True)∧((decide ((ay x ((ab (aa x).1).getD x_1.toNat 0) (ac ((ab (aa x).1).getD x_1.toNat 0) (aa x).1).1).getD x_2.toNat (0:Int)≠-1)&&!aI (ab (aa x).1) ((ay x ((ab (aa x).1).getD x_1.toNat 0) (ac ((ab (aa x).1).getD x_1.toNat 0) (aa x).1).1).getD x_2.toNat 0))=false→ai .i64 (x_2+1)∧(0≤x_2+1∧x_2+1≤(↑(ay x ((ab (aa x).1).getD x_1.toNat 0) (ac ((ab (aa x).1).getD x_1.toNat 0) (aa x).1).1).length:Int)∧(ay x ((ab (aa x).1).getD x_1.toNat 0) (ac ((ab (aa x).1).getD x_1.toNat 0) (aa x).1).1).length≤256∧db (ab (aa x).1) (List.drop (x_2+1).toNat (ay x ((ab (aa x).1).getD x_1.toNat 0) (ac ((ab (aa x).1).getD x_1.toNat 0) (aa x).1).1))=db (ab (aa x).1) (ay x ((ab (aa x).1).getD x_1.toNat 0) (ac ((ab (aa x).1).getD x_1.toNat 0) (aa x).1).1))∧((↑(ay x ((ab (aa x).1).getD x_1.toNat 0) (ac ((ab (aa x).1).getD x_1.toNat 0) (aa x).1).1).length:Int) - (x_2+1)).toNat<((↑(ay x ((ab (aa x).1).getD x_1.toNat 0) (ac ((ab (aa x).1).getD x_1.toNat 0) (aa x).1).1).length:Int) - x_2).toNat))∧(decide (x_2<(↑(ay x ((ab (aa x).1).getD x_1.toNat 0) (ac ((ab (aa x).1).getD x_1.toNat 0) (aa x).1).1).length:Int))=false→ai .i64 (x_1+1)∧(0≤x_1+1∧x_1+1≤(↑(ab (aa x).1).length:Int)∧(ab (aa x).1).length≤256∧x.length≤256∧cD x (aa x).1 (ab (aa x).1) (List.drop (x_1+1).toNat (ab (aa x).1))=cD x (aa x).1 (ab (aa x).1) (ab (aa x).1))∧((↑(ab (aa x).1).length:Int) - (x_1+1)).toNat<((↑(ab (aa x).1).length:Int) - x_1).toNat))∧(decide (x_1<(↑(ab (aa x).1).length:Int))=false→0=c9 x∧True))
theorem lu:gm:=by
 unfold gm
 intro a _ _
 have hlen:=bM a
 have hbl:=dN (aa a).1
 have hF:c9 a=if (aa a).2≠0 then (aa a).2 else if cD a (aa a).1 (ab (aa a).1) (ab (aa a).1)=true then 0 else 5:=rfl
 generalize ab (aa a).1=all at *
 refine ⟨trivial,fun hc=>?_,fun hc=>?_⟩
 ·have hc:(aa a).2≠0:=by simpa using hc
  rw [hF,if_pos hc]
  exact ⟨rfl,trivial⟩
 have hc:(aa a).2=0:=by simpa using hc
 rw [if_neg (by omega)] at hF
 have hal:=(ez hc).1
 have hnl:∀ at_ h,(ay a at_ h).length≤256:=fun at_ h=>by simp only [ay,List.length_map,List.length_drop,List.length_take]; omega
 generalize hl:(aa a).1=l at *
 refine ⟨trivial,⟨by omega,by omega,by omega,hal,rfl⟩,fun i ⟨h0,h1,_,_,h2⟩=>⟨fun hlt=>?_,fun hge=>?_⟩⟩
 ·have hlt:i<(all.length:Int):=by simpa using hlt
  rw [aD (0:Int) h0 hlt] at h2
  simp only [cD] at h2
  have hnl:=hnl (all.getD i.toNat 0) (ac (all.getD i.toNat 0) l).1
  generalize ay a (all.getD i.toNat 0) (ac (all.getD i.toNat 0) l).1=rs at *
  refine ⟨h0,hlt,by omega,trivial,⟨by omega,by omega,hnl,rfl⟩,fun j ⟨g0,g1,_,g2⟩=>⟨fun hlt=>?_,fun hge=>?_⟩⟩
  ·have hlt:j<(rs.length:Int):=by simpa using hlt
   rw [aD (0:Int) g0 hlt] at g2
   simp only [db,List.all_cons] at g2
   generalize rs.getD j.toNat 0=v at *
   have hv:(decide (v≠-1)&&!aI all v)=!(decide (v=-1)||aI all v):=by simp
   rw [hv]
   simp only [ai]
   refine ⟨g0,hlt,by omega,fun _=>trivial,fun hv=>?_,fun hv=>?_⟩
   ·have hv:(decide (v=-1)||aI all v)=false:=by simpa using hv
    rw [hv,Bool.false_and] at g2
    have g2:db all rs=false:=g2.symm
    rw [g2,Bool.false_and] at h2
    rw [hF,if_neg (by rw [← h2]; simp)]
    exact ⟨rfl,trivial⟩
   ·have hv:(decide (v=-1)||aI all v)=true:=by
     cases h:(decide (v=-1)||aI all v)
     ·rw [h] at hv; cases hv
     ·rfl
    rw [hv,Bool.true_and] at g2
    exact ⟨by omega,⟨by omega,by omega,hnl,g2⟩,by omega⟩
  ·rw [aX (by simpa using hge)] at g2
   have g2:db all rs=true:=g2.symm
   rw [g2,Bool.true_and] at h2
   simp only [ai]
   exact ⟨by omega,⟨by omega,by omega,by omega,hal,h2⟩,by omega⟩
 ·rw [aX (by simpa using hge)] at h2
  have h2:cD a l all all=true:=h2.symm
  rw [hF,if_pos h2]
  exact ⟨rfl,trivial⟩
theorem gq:l7.ok Try.prog 86:=aQ (ann:=nf) (af kc (af fJ (af ke (af kf ar)))) Try.func86 (by kernel_rfl) lu
theorem fG (a:List Int):∀ s∈(aa a).1,a.length≤256∧cZ a s∧ae s.2=0:=by
 intro s hs
 have hz:(aa a).2=0:=by
  unfold aa at hs ⊢
  split at hs
  ·simp at hs
  ·rename_i cl
   rw [if_neg cl]
   cases h:spotsS 0 a with
   | none=>rw [h] at hs; simp at hs
   | some l=>rfl
 have h:=ez hz
 exact ⟨h.1,(h.2 s hs).1,(h.2 s hs).2⟩
end Go.Proofs.Ytcnoiiohmpgckaa
