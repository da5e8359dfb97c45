
import Derived.Test.YtcnoiiohmpgckaaRowPin
namespace Go.Proofs.Ytcnoiiohmpgckaa
open Go
set_option maxRecDepth 100000
set_option maxHeartbeats 1000000
theorem qr {p:List fq} {i:Int} (h0:0≤i) (h:i<p.length):bu (ahead p i) (p.drop i.toNat)=if fX (p.getD i.toNat (0,0))=true then 4 else if (p.getD i.toNat (0,0)).1≤ahead p i then 3 else bu (ahead p (i+1)) (p.drop (i+1).toNat):=by
 rw [aY ((0,0):fq) h0 h]
 have e:ahead p (i+1)=(p.getD i.toNat (0,0)).1:=by
  unfold ahead
  rw [if_pos (by omega),show (i+1 - 1)=i by omega]
 rw [e]
 rfl
def vt:Spec:={ Ts:=[ty_I],Rs:=[.dat .bool],pre:=fun _=>True,F:=fun (v:Int)=>decide (0≤v)&&decide (v<256) }
def nk:Prop :=
  ∀ (x:Int),am .i64 x→True→(decide (0≤x)&&decide (x<256))=(decide (0≤x)&&decide (x<256))∧True
theorem sZ:nk:=by
 unfold nk
 intro v _ _
 simp
theorem vY:vt.ok Try.prog 191:=aQ (ann:=ew) ax Try.func191 (by kernel_rfl) sZ
def nN:Nat→Option LoopGen
 | 4=>some { rd:=[.dat 8 (.arr bK)],A:=fun (p:List fq)=>{ cs:=[.dat 10 ty_I],inv:=fun (i:Int)=>0≤i∧i≤p.length∧bu (ahead p i) (p.drop i.toNat)=bu (-1) p,mu:=fun (i:Int)=>(p.length - i).toNat } }
 | _=>none
def vu:Spec:={ Ts:=[.arr bK],Rs:=[.dat ty_I],pre:=fun _=>True,F:=fun (p:List fq)=>be p }
def nl:Prop :=
  ∀ (x:List (Int×Int)),(x.length * (8+8)≤aC∧∀ (x_1:Int×Int),x_1∈x→am .i64 x_1.1∧am .i64 x_1.2)→True→(decide (16<(↑x.length:Int))=true→2=be x∧True)∧(decide (16<(↑x.length:Int))=false→((0:Int)≤0∧0≤(↑x.length:Int)∧bu (ahead x 0) (List.drop (Int.toNat 0) x)=bu (-1) x)∧∀ (x_1:Int),0≤x_1∧x_1≤(↑x.length:Int)∧bu (ahead x x_1) (List.drop x_1.toNat x)=bu (-1) x→(decide (x_1<(↑x.length:Int))=true→0≤x_1∧x_1<(↑x.length:Int)∧True∧((!(decide (0≤(x.getD x_1.toNat (0,0)).1)&&decide ((x.getD x_1.toNat (0,0)).1<256))||decide ((x.getD x_1.toNat (0,0)).2<1)||decide (1000000<(x.getD x_1.toNat (0,0)).2))=true→4=be x∧True)∧((!(decide (0≤(x.getD x_1.toNat (0,0)).1)&&decide ((x.getD x_1.toNat (0,0)).1<256))||decide ((x.getD x_1.toNat (0,0)).2<1)||decide (1000000<(x.getD x_1.toNat (0,0)).2))=false→(decide (0<x_1)=true→am .i64 (x_1 - 1))∧(decide (0<x_1)=true→0≤x_1 - 1)∧(decide (0<x_1)=true→x_1 - 1<(↑x.length:Int))∧((decide (0<x_1)&&decide ((x.getD x_1.toNat (0,0)).1≤(x.getD (x_1 - 1).toNat (0,0)).1))=true→3=be x∧True)∧((decide (0<x_1)&&decide ((x.getD x_1.toNat (0,0)).1≤(x.getD (x_1 - 1).toNat (0,0)).1))=false→am .i64 (x_1+1)∧(0≤x_1+1∧x_1+1≤(↑x.length:Int)∧bu (ahead x (x_1+1)) (List.drop (x_1+1).toNat x)=bu (-1) x)∧((↑x.length:Int) - (x_1+1)).toNat<((↑x.length:Int) - x_1).toNat)))∧(decide (x_1<(↑x.length:Int))=false→0=be x∧True))
theorem s5:nl:=by
 unfold nl
 intro p ⟨hb,_⟩ _
 unfold aC at hb
 have hF:be p=if 16<p.length then 2 else bu (-1) p:=rfl
 refine ⟨fun h=>?_,fun h=>?_⟩
 ·rw [hF,if_pos (by have:=of_decide_eq_true h; omega)]
  exact ⟨rfl,trivial⟩
 have hl:¬ 16<p.length:=by have:=of_decide_eq_false h; omega
 rw [hF,if_neg hl]
 refine ⟨⟨by omega,by omega,rfl⟩,fun i ⟨i0,i1,i2⟩=>⟨fun hlt=>?_,fun hge=>?_⟩⟩
 ·have hlt:=of_decide_eq_true hlt
  rw [qr i0 hlt] at i2
  have hp:0<i→ahead p i=(p.getD (i - 1).toNat (0,0)).1:=fun h=>if_pos h
  have hn:¬ 0<i→ahead p i=-1:=fun h=>if_neg h
  generalize p.getD i.toNat (0,0)=x at *
  generalize p.getD (i - 1).toNat (0,0)=y at *
  generalize ahead p i=q at *
  have hbad:(!(decide (0≤x.1)&&decide (x.1<256))||decide (x.2<1)||decide (1000000<x.2))=fX x:=by
   unfold fX
   grind
  rw [hbad]
  refine ⟨i0,hlt,trivial,fun hc=>?_,fun hc=>⟨fun _=>by simp only [am]; omega,fun h=>by have:=of_decide_eq_true h; omega,fun _=>by omega,fun h2=>?_,fun h2=>⟨by simp only [am]; omega,⟨by omega,by omega,?_⟩,by omega⟩⟩⟩
  ·rw [if_pos hc] at i2
   exact ⟨i2,trivial⟩
  ·rw [if_neg (by rw [hc]; simp)] at i2
   simp only [Bool.and_eq_true,decide_eq_true_eq] at h2
   rw [if_pos (by rw [hp h2.1]; exact h2.2)] at i2
   exact ⟨i2,trivial⟩
  ·rw [if_neg (by rw [hc]; simp)] at i2
   have hx:0≤x.1:=by
    simp only [fX,Bool.or_eq_false_iff,decide_eq_false_iff_not] at hc
    omega
   rw [if_neg] at i2
   ·exact i2
   ·intro h3
    by_cases h4:0<i
    ·rw [hp h4] at h3
     have:(decide (0<i)&&decide (x.1≤y.1))=true:=by simp [h4,h3]
     rw [this] at h2
     cases h2
    ·rw [hn h4] at h3
     omega
 ·rw [bt (of_decide_eq_false hge)] at i2
  exact ⟨i2,trivial⟩
theorem vZ:vu.ok Try.prog 161:=aQ (ann:=nN) (ai vY ax) Try.func161 (by kernel_rfl) s5
def tz:Spec:={ Ts:=[.arr bK],Rs:=[.dat ty_I],pre:=fun _=>True,F:=fun (p:List fq)=>be p }
def lj:Prop :=
  ∀ (x:List (Int×Int)),(x.length * (8+8)≤aC∧∀ (x_1:Int×Int),x_1∈x→am .i64 x_1.1∧am .i64 x_1.2)→True→(decide (16<(↑x.length:Int))=true→2=be x∧True)∧(decide (16<(↑x.length:Int))=false→((0:Int)≤0∧0≤(↑x.length:Int)∧bu (ahead x 0) (List.drop (Int.toNat 0) x)=bu (-1) x)∧∀ (x_1:Int),0≤x_1∧x_1≤(↑x.length:Int)∧bu (ahead x x_1) (List.drop x_1.toNat x)=bu (-1) x→(decide (x_1<(↑x.length:Int))=true→0≤x_1∧x_1<(↑x.length:Int)∧((decide ((x.getD x_1.toNat (0,0)).1<0)||decide (255<(x.getD x_1.toNat (0,0)).1)||decide ((x.getD x_1.toNat (0,0)).2<1)||decide (1000000<(x.getD x_1.toNat (0,0)).2))=true→4=be x∧True)∧((decide ((x.getD x_1.toNat (0,0)).1<0)||decide (255<(x.getD x_1.toNat (0,0)).1)||decide ((x.getD x_1.toNat (0,0)).2<1)||decide (1000000<(x.getD x_1.toNat (0,0)).2))=false→(decide (0<x_1)=true→am .i64 (x_1 - 1))∧(decide (0<x_1)=true→0≤x_1 - 1)∧(decide (0<x_1)=true→x_1 - 1<(↑x.length:Int))∧((decide (0<x_1)&&decide ((x.getD x_1.toNat (0,0)).1≤(x.getD (x_1 - 1).toNat (0,0)).1))=true→3=be x∧True)∧((decide (0<x_1)&&decide ((x.getD x_1.toNat (0,0)).1≤(x.getD (x_1 - 1).toNat (0,0)).1))=false→am .i64 (x_1+1)∧(0≤x_1+1∧x_1+1≤(↑x.length:Int)∧bu (ahead x (x_1+1)) (List.drop (x_1+1).toNat x)=bu (-1) x)∧((↑x.length:Int) - (x_1+1)).toNat<((↑x.length:Int) - x_1).toNat)))∧(decide (x_1<(↑x.length:Int))=false→0=be x∧True))
theorem qH:lj:=by
 unfold lj
 intro p ⟨hb,_⟩ _
 unfold aC at hb
 have hF:be p=if 16<p.length then 2 else bu (-1) p:=rfl
 refine ⟨fun h=>?_,fun h=>?_⟩
 ·rw [hF,if_pos (by have:=of_decide_eq_true h; omega)]
  exact ⟨rfl,trivial⟩
 have hl:¬ 16<p.length:=by have:=of_decide_eq_false h; omega
 rw [hF,if_neg hl]
 refine ⟨⟨by omega,by omega,rfl⟩,fun i ⟨i0,i1,i2⟩=>⟨fun hlt=>?_,fun hge=>?_⟩⟩
 ·have hlt:=of_decide_eq_true hlt
  rw [qr i0 hlt] at i2
  have hp:0<i→ahead p i=(p.getD (i - 1).toNat (0,0)).1:=fun h=>if_pos h
  have hn:¬ 0<i→ahead p i=-1:=fun h=>if_neg h
  generalize p.getD i.toNat (0,0)=x at *
  generalize p.getD (i - 1).toNat (0,0)=y at *
  generalize ahead p i=q at *
  have hbad:(decide (x.1<0)||decide (255<x.1)||decide (x.2<1)||decide (1000000<x.2))=fX x:=by
   unfold fX
   grind
  rw [hbad]
  refine ⟨i0,hlt,fun hc=>?_,fun hc=>⟨fun _=>by simp only [am]; omega,fun h=>by have:=of_decide_eq_true h; omega,fun _=>by omega,fun h2=>?_,fun h2=>⟨by simp only [am]; omega,⟨by omega,by omega,?_⟩,by omega⟩⟩⟩
  ·rw [if_pos hc] at i2
   exact ⟨i2,trivial⟩
  ·rw [if_neg (by rw [hc]; simp)] at i2
   simp only [Bool.and_eq_true,decide_eq_true_eq] at h2
   rw [if_pos (by rw [hp h2.1]; exact h2.2)] at i2
   exact ⟨i2,trivial⟩
  ·rw [if_neg (by rw [hc]; simp)] at i2
   have hx:0≤x.1:=by
    simp only [fX,Bool.or_eq_false_iff,decide_eq_false_iff_not] at hc
    omega
   rw [if_neg] at i2
   ·exact i2
   ·intro h3
    by_cases h4:0<i
    ·rw [hp h4] at h3
     have:(decide (0<i)&&decide (x.1≤y.1))=true:=by simp [h4,h3]
     rw [this] at h2
     cases h2
    ·rw [hn h4] at h3
     omega
 ·rw [bt (of_decide_eq_false hge)] at i2
  exact ⟨i2,trivial⟩
theorem t7:tz.ok Try.prog 127:=aQ (ann:=nN) ax Try.func127 (by kernel_rfl) qH
def wV:Nat→Option LoopGen
 | 4=>some { rd:=[.dat 0 (.arr bK),.dat 1 (.arr bK)],A:=fun ((a,b):List fq×List fq)=>{ cs:=[.dat 13 ty_I],inv:=fun (i:Int)=>a.length=b.length∧0≤i∧i≤a.length∧a.take i.toNat=b.take i.toNat,mu:=fun (i:Int)=>(a.length - i).toNat } }
 | _=>none
def vq:Spec:={ Ts:=[.arr bK,.arr bK],Rs:=[.dat .bool],pre:=fun _=>True,F:=fun (x:List fq×List fq)=>decide (x.1=x.2) }
theorem Cb (a b:fq):(!(decide (a.1=b.1)&&decide (a.2=b.2)))=decide (a≠b):=by
 obtain ⟨a1,a2⟩:=a
 obtain ⟨b1,b2⟩:=b
 apply Bool.eq_iff_iff.2
 simp only [Bool.not_eq_true',Bool.and_eq_false_iff,decide_eq_true_eq,decide_eq_false_iff_not,ne_eq,Prod.mk.injEq]
 grind
def ni:Prop :=
  ∀ (x:List (Int×Int)×List (Int×Int)),((x.1.length * (8+8)≤aC∧∀ (x_1:Int×Int),x_1∈x.1→am .i64 x_1.1∧am .i64 x_1.2)∧x.2.length * (8+8)≤aC∧∀ (x_1:Int×Int),x_1∈x.2→am .i64 x_1.1∧am .i64 x_1.2)→True→(decide ((↑x.1.length:Int)≠(↑x.2.length:Int))=true→false=decide (x.1=x.2)∧True)∧(decide ((↑x.1.length:Int)≠(↑x.2.length:Int))=false→(x.1.length=x.2.length∧(0:Int)≤0∧0≤(↑x.1.length:Int)∧List.take (Int.toNat 0) x.1=List.take (Int.toNat 0) x.2)∧∀ (x_1:Int),x.1.length=x.2.length∧0≤x_1∧x_1≤(↑x.1.length:Int)∧List.take x_1.toNat x.1=List.take x_1.toNat x.2→(decide (x_1<(↑x.1.length:Int))=true→0≤x_1∧x_1<(↑x.1.length:Int)∧0≤x_1∧x_1<(↑x.2.length:Int)∧((!(decide ((x.1.getD x_1.toNat (0,0)).1=(x.2.getD x_1.toNat (0,0)).1)&&decide ((x.1.getD x_1.toNat (0,0)).2=(x.2.getD x_1.toNat (0,0)).2)))=true→false=decide (x.1=x.2)∧True)∧((!(decide ((x.1.getD x_1.toNat (0,0)).1=(x.2.getD x_1.toNat (0,0)).1)&&decide ((x.1.getD x_1.toNat (0,0)).2=(x.2.getD x_1.toNat (0,0)).2)))=false→am .i64 (x_1+1)∧(x.1.length=x.2.length∧0≤x_1+1∧x_1+1≤(↑x.1.length:Int)∧List.take (x_1+1).toNat x.1=List.take (x_1+1).toNat x.2)∧((↑x.1.length:Int) - (x_1+1)).toNat<((↑x.1.length:Int) - x_1).toNat))∧(decide (x_1<(↑x.1.length:Int))=false→true=decide (x.1=x.2)∧True))
theorem sX:ni:=by
 unfold ni
 intro x hw _
 refine ⟨fun h=>?_,fun h=>?_⟩
 ·have h:x.1.length≠x.2.length:=by have:=of_decide_eq_true h; omega
  have:x.1≠x.2:=fun e=>h (by rw [e])
  simp [this]
 have hl:x.1.length=x.2.length:=by have:=of_decide_eq_false h; omega
 refine ⟨⟨hl,by omega,by omega,by simp⟩,fun i ⟨_,h0,h1,ht⟩=>⟨fun hlt=>?_,fun hge=>?_⟩⟩
 ·have hlt:i<x.1.length:=by simpa using hlt
  rw [Cb]
  refine ⟨h0,hlt,h0,by omega,fun hne=>?_,fun he=>?_⟩
  ·have hne:x.1.getD i.toNat (0,0)≠x.2.getD i.toNat (0,0):=by simpa using hne
   have:x.1≠x.2:=fun e=>hne (by rw [e])
   simp [this]
  ·have he:x.1.getD i.toNat (0,0)=x.2.getD i.toNat (0,0):=by simpa using he
   have hb:=hw.1.1
   unfold aC at hb
   refine ⟨by simp only [am]; omega,⟨hl,by omega,by omega,?_⟩,by omega⟩
   rw [show (i+1).toNat=i.toNat+1 by omega]
   exact jo hl (by omega) ht he
 ·have hge:¬ i<x.1.length:=by simpa using hge
  have hi:i.toNat=x.1.length:=by omega
  rw [hi,List.take_of_length_le (Nat.le_refl _),List.take_of_length_le (by omega)] at ht
  simp [ht]
theorem vW:vq.ok Try.prog 131:=aQ (ann:=wV) ax Try.func131 (by kernel_rfl) sX
end Go.Proofs.Ytcnoiiohmpgckaa
