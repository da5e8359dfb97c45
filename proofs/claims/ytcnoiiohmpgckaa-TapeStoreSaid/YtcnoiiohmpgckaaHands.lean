
import Derived.Test.YtcnoiiohmpgckaaWords
import Derived.Test.YtcnoiiohmpgckaaFinds
namespace Go.Proofs.Ytcnoiiohmpgckaa
open Go
set_option maxRecDepth 100000
set_option maxHeartbeats 1000000
abbrev bo:Ty:=.pair ty_I (.pair .bool ty_I)
abbrev b6:=Int×Bool×Int
def oN (v:Int):Bool:=decide (0≤v)&&decide (v<256)
def tC:Spec:={ Ts:=[ty_I],Rs:=[.dat .bool],pre:=fun _=>True,F:=oN }
def ln:Prop :=
  ∀ (x:Int),am .i64 x→True→(decide (0≤x)&&decide (x<256))=oN x∧True
theorem qK:ln:=by
 unfold ln
 intro v _ _
 simp [oN]
theorem ua:tC.ok Try.prog 192:=aQ (ann:=ew) ax Try.func192 (by kernel_rfl) qK
def gh (s:b6):Int:=if s.1<0∨65535<s.1∨s.2.2<0∨255<s.2.2 then 4 else if (s.2.1=true∧s.1=0)∨(s.2.1=false∧s.2.2≠0) then 3 else 0
def aK:List b6→Int
 | []=>0
 | s::l=>if gh s≠0 then gh s else aK l
def aM (h:List b6):Int:=if 16<h.length then 2 else aK h
def kJ:Spec:={ Ts:=[.arr bo],Rs:=[.dat ty_I],pre:=fun _=>True,F:=aM }
def me:Nat→Option LoopGen
 | 4=>some { rd:=[.dat 8 (.arr bo)],A:=fun (h:List b6)=>{ cs:=[.dat 10 ty_I],inv:=fun (i:Int)=>0≤i∧i≤h.length∧h.length≤16∧aK (h.drop i.toNat)=aK h,mu:=fun (i:Int)=>(h.length - i).toNat } }
 | _=>none
def lq:Prop :=
  ∀ (x:List (Int×Bool×Int)),(x.length * (8+(8+8))≤aC∧∀ (x_1:Int×Bool×Int),x_1∈x→am .i64 x_1.1∧True∧am .i64 x_1.2.2)→True→(decide (16<(↑x.length:Int))=true→2=aM x∧True)∧(decide (16<(↑x.length:Int))=false→((0:Int)≤0∧0≤(↑x.length:Int)∧x.length≤16∧aK (List.drop (Int.toNat 0) x)=aK x)∧∀ (x_1:Int),0≤x_1∧x_1≤(↑x.length:Int)∧x.length≤16∧aK (List.drop x_1.toNat x)=aK x→(decide (x_1<(↑x.length:Int))=true→0≤x_1∧x_1<(↑x.length:Int)∧((decide ((x.getD x_1.toNat (0,false,0)).1<0)||decide (65535<(x.getD x_1.toNat (0,false,0)).1))=false→True)∧((decide ((x.getD x_1.toNat (0,false,0)).1<0)||decide (65535<(x.getD x_1.toNat (0,false,0)).1)||!oN (x.getD x_1.toNat (0,false,0)).2.2)=true→4=aM x∧True)∧((decide ((x.getD x_1.toNat (0,false,0)).1<0)||decide (65535<(x.getD x_1.toNat (0,false,0)).1)||!oN (x.getD x_1.toNat (0,false,0)).2.2)=false→(((x.getD x_1.toNat (0,false,0)).2.1&&decide ((x.getD x_1.toNat (0,false,0)).1=0)||!(x.getD x_1.toNat (0,false,0)).2.1&&decide ((x.getD x_1.toNat (0,false,0)).2.2≠0))=true→3=aM x∧True)∧(((x.getD x_1.toNat (0,false,0)).2.1&&decide ((x.getD x_1.toNat (0,false,0)).1=0)||!(x.getD x_1.toNat (0,false,0)).2.1&&decide ((x.getD x_1.toNat (0,false,0)).2.2≠0))=false→am .i64 (x_1+1)∧(0≤x_1+1∧x_1+1≤(↑x.length:Int)∧x.length≤16∧aK (List.drop (x_1+1).toNat x)=aK x)∧((↑x.length:Int) - (x_1+1)).toNat<((↑x.length:Int) - x_1).toNat)))∧(decide (x_1<(↑x.length:Int))=false→0=aM x∧True))
theorem qL:lq:=by
 unfold lq
 intro h ⟨hb,hw⟩ _
 unfold aC at *
 refine ⟨fun hl=>?_,fun hl=>⟨⟨by omega,by omega,by have:=of_decide_eq_false hl; omega,by simp⟩,fun i ⟨h0,h1,h2,h3⟩=>⟨fun hlt=>?_,fun hge=>?_⟩⟩⟩
 ·have:=of_decide_eq_true hl
  unfold aM
  rw [if_pos (by omega)]
  exact ⟨rfl,trivial⟩
 ·have hlt:i<(h.length:Int):=by simpa using hlt
  have e:=aY ((0,false,0):b6) h0 hlt
  have hF:aM h=aK h:=by unfold aM; rw [if_neg (by omega)]
  rw [hF,← h3,e]
  simp only [aK,gh,oN,am]
  generalize h.getD i.toNat (0,false,0)=s at *
  obtain ⟨g,o,a⟩:=s
  simp only
  cases o <;> grind
 ·have hF:aM h=aK h:=by unfold aM; rw [if_neg (by omega)]
  rw [bt (by simpa using hge)] at h3
  rw [hF,← h3]
  exact ⟨rfl,trivial⟩
theorem ub:kJ.ok Try.prog 162:=aQ (ann:=me) (ai ua ax) Try.func162 (by kernel_rfl) qL
def q9:Spec:=kJ
def jO:Prop :=
  ∀ (x:List (Int×Bool×Int)),(x.length * (8+(8+8))≤aC∧∀ (x_1:Int×Bool×Int),x_1∈x→am .i64 x_1.1∧True∧am .i64 x_1.2.2)→True→(decide (16<(↑x.length:Int))=true→2=aM x∧True)∧(decide (16<(↑x.length:Int))=false→((0:Int)≤0∧0≤(↑x.length:Int)∧x.length≤16∧aK (List.drop (Int.toNat 0) x)=aK x)∧∀ (x_1:Int),0≤x_1∧x_1≤(↑x.length:Int)∧x.length≤16∧aK (List.drop x_1.toNat x)=aK x→(decide (x_1<(↑x.length:Int))=true→0≤x_1∧x_1<(↑x.length:Int)∧((decide ((x.getD x_1.toNat (0,false,0)).1<0)||decide (65535<(x.getD x_1.toNat (0,false,0)).1)||decide ((x.getD x_1.toNat (0,false,0)).2.2<0)||decide (255<(x.getD x_1.toNat (0,false,0)).2.2))=true→4=aM x∧True)∧((decide ((x.getD x_1.toNat (0,false,0)).1<0)||decide (65535<(x.getD x_1.toNat (0,false,0)).1)||decide ((x.getD x_1.toNat (0,false,0)).2.2<0)||decide (255<(x.getD x_1.toNat (0,false,0)).2.2))=false→(((x.getD x_1.toNat (0,false,0)).2.1&&decide ((x.getD x_1.toNat (0,false,0)).1=0)||!(x.getD x_1.toNat (0,false,0)).2.1&&decide ((x.getD x_1.toNat (0,false,0)).2.2≠0))=true→3=aM x∧True)∧(((x.getD x_1.toNat (0,false,0)).2.1&&decide ((x.getD x_1.toNat (0,false,0)).1=0)||!(x.getD x_1.toNat (0,false,0)).2.1&&decide ((x.getD x_1.toNat (0,false,0)).2.2≠0))=false→am .i64 (x_1+1)∧(0≤x_1+1∧x_1+1≤(↑x.length:Int)∧x.length≤16∧aK (List.drop (x_1+1).toNat x)=aK x)∧((↑x.length:Int) - (x_1+1)).toNat<((↑x.length:Int) - x_1).toNat)))∧(decide (x_1<(↑x.length:Int))=false→0=aM x∧True))
theorem oG:jO:=by
 unfold jO
 intro h ⟨hb,hw⟩ _
 unfold aC at *
 refine ⟨fun hl=>?_,fun hl=>⟨⟨by omega,by omega,by have:=of_decide_eq_false hl; omega,by simp⟩,fun i ⟨h0,h1,h2,h3⟩=>⟨fun hlt=>?_,fun hge=>?_⟩⟩⟩
 ·have:=of_decide_eq_true hl
  unfold aM
  rw [if_pos (by omega)]
  exact ⟨rfl,trivial⟩
 ·have hlt:i<(h.length:Int):=by simpa using hlt
  have e:=aY ((0,false,0):b6) h0 hlt
  have hF:aM h=aK h:=by unfold aM; rw [if_neg (by omega)]
  rw [hF,← h3,e]
  simp only [aK,gh,oN,am]
  generalize h.getD i.toNat (0,false,0)=s at *
  obtain ⟨g,o,a⟩:=s
  simp only
  cases o <;> grind
 ·have hF:aM h=aK h:=by unfold aM; rw [if_neg (by omega)]
  rw [bt (by simpa using hge)] at h3
  rw [hF,← h3]
  exact ⟨rfl,trivial⟩
theorem rp:q9.ok Try.prog 128:=aQ (ann:=me) ax Try.func128 (by kernel_rfl) oG
theorem iw:∀ {h:List b6},aK h=0→∀ s∈h,gh s=0
 | [],_=>by simp
 | x::l,h=>by
  simp only [aK] at h
  split at h
  ·omega
  ·intro s hs
   rcases List.mem_cons.1 hs with rfl | hs
   ·omega
   ·exact iw h s hs
theorem wn {h:List b6} (hf:aM h=0):h.length≤16∧∀ s∈h,0≤s.1∧s.1≤65535∧0≤s.2.2∧s.2.2≤255:=by
 unfold aM at hf
 split at hf
 ·omega
 ·refine ⟨by omega,fun s hs=>?_⟩
  have:=iw hf s hs
  unfold gh at this
  split at this <;> omega
def tq:Spec:={ Ts:=[.arr bo,.arr bo],Rs:=[.dat .bool],pre:=fun _=>True,F:=fun (x:List b6×List b6)=>decide (x.1=x.2) }
def uO:Nat→Option LoopGen
 | 4=>some { rd:=[.dat 0 (.arr bo),.dat 1 (.arr bo)],A:=fun (g:List b6×List b6)=>{ cs:=[.dat 13 ty_I],inv:=fun (i:Int)=>g.1.length=g.2.length∧0≤i∧i≤g.1.length∧g.1.take i.toNat=g.2.take i.toNat,mu:=fun (i:Int)=>(g.1.length - i).toNat } }
 | _=>none
def kY:Prop :=
  ∀ (x:List (Int×Bool×Int)×List (Int×Bool×Int)),((x.1.length * (8+(8+8))≤aC∧∀ (x_1:Int×Bool×Int),x_1∈x.1→am .i64 x_1.1∧True∧am .i64 x_1.2.2)∧x.2.length * (8+(8+8))≤aC∧∀ (x_1:Int×Bool×Int),x_1∈x.2→am .i64 x_1.1∧True∧am .i64 x_1.2.2)→True→(decide ((↑x.1.length:Int)≠(↑x.2.length:Int))=true→false=decide (x.1=x.2)∧True)∧(decide ((↑x.1.length:Int)≠(↑x.2.length:Int))=false→(x.1.length=x.2.length∧(0:Int)≤0∧0≤(↑x.1.length:Int)∧List.take (Int.toNat 0) x.1=List.take (Int.toNat 0) x.2)∧∀ (x_1:Int),x.1.length=x.2.length∧0≤x_1∧x_1≤(↑x.1.length:Int)∧List.take x_1.toNat x.1=List.take x_1.toNat x.2→(decide (x_1<(↑x.1.length:Int))=true→0≤x_1∧x_1<(↑x.1.length:Int)∧0≤x_1∧x_1<(↑x.2.length:Int)∧((!(decide ((x.1.getD x_1.toNat (0,false,0)).1=(x.2.getD x_1.toNat (0,false,0)).1)&&((x.1.getD x_1.toNat (0,false,0)).2.1 == (x.2.getD x_1.toNat (0,false,0)).2.1&&decide ((x.1.getD x_1.toNat (0,false,0)).2.2=(x.2.getD x_1.toNat (0,false,0)).2.2))))=true→false=decide (x.1=x.2)∧True)∧((!(decide ((x.1.getD x_1.toNat (0,false,0)).1=(x.2.getD x_1.toNat (0,false,0)).1)&&((x.1.getD x_1.toNat (0,false,0)).2.1 == (x.2.getD x_1.toNat (0,false,0)).2.1&&decide ((x.1.getD x_1.toNat (0,false,0)).2.2=(x.2.getD x_1.toNat (0,false,0)).2.2))))=false→am .i64 (x_1+1)∧(x.1.length=x.2.length∧0≤x_1+1∧x_1+1≤(↑x.1.length:Int)∧List.take (x_1+1).toNat x.1=List.take (x_1+1).toNat x.2)∧((↑x.1.length:Int) - (x_1+1)).toNat<((↑x.1.length:Int) - x_1).toNat))∧(decide (x_1<(↑x.1.length:Int))=false→true=decide (x.1=x.2)∧True))
theorem qA:kY:=by
 unfold kY
 intro ⟨a,b⟩ ⟨⟨hb,_⟩,_⟩ _
 unfold aC at hb
 simp only at *
 refine ⟨fun h=>?_,fun h=>?_⟩
 ·have h:a.length≠b.length:=by have:=of_decide_eq_true h; omega
  have:a≠b:=fun e=>h (by rw [e])
  simp [this]
 have hl:a.length=b.length:=by have:=of_decide_eq_false h; omega
 refine ⟨⟨hl,by omega,by omega,by simp⟩,fun i ⟨_,h0,h1,ht⟩=>⟨fun hlt=>?_,fun hge=>?_⟩⟩
 ·have hlt:i<a.length:=by simpa using hlt
  have key:∀ s t:b6,(!(decide (s.1=t.1)&&(s.2.1 == t.2.1&&decide (s.2.2=t.2.2))))=decide (s≠t):=by
   rintro ⟨s1,s2,s3⟩ ⟨t1,t2,t3⟩
   simp only [ne_eq,Prod.mk.injEq]
   by_cases e1:s1=t1 <;> by_cases e2:s2=t2 <;> by_cases e3:s3=t3 <;> simp [e1,e2,e3]
  simp only [key]
  refine ⟨h0,hlt,h0,by omega,fun hne=>?_,fun he=>?_⟩
  ·have hne:a.getD i.toNat (0,false,0)≠b.getD i.toNat (0,false,0):=of_decide_eq_true hne
   have:a≠b:=fun e=>hne (by rw [e])
   simp [this]
  ·have he:a.getD i.toNat (0,false,0)=b.getD i.toNat (0,false,0):=Classical.not_not.1 (of_decide_eq_false he)
   refine ⟨by simp only [am]; omega,⟨hl,by omega,by omega,?_⟩,by omega⟩
   rw [show (i+1).toNat=i.toNat+1 by omega]
   exact jo hl (by omega) ht he
 ·have hge:¬ i<a.length:=by simpa using hge
  have hi:i.toNat=a.length:=by omega
  rw [hi,List.take_of_length_le (Nat.le_refl _),List.take_of_length_le (by omega)] at ht
  simp [ht]
theorem tV:tq.ok Try.prog 132:=aQ (ann:=uO) ax Try.func132 (by kernel_rfl) qA
end Go.Proofs.Ytcnoiiohmpgckaa
