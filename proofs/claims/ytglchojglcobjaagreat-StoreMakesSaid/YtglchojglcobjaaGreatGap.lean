
import Derived.Test.YtglchojglcobjaaGreatSlices
namespace Go.Proofs.YtglchojglcobjaaGreat
open Go
set_option maxRecDepth 100000
set_option maxHeartbeats 1000000
abbrev Bk:Ty:=.pair ty_I ty_I
def bN (n:Int):Int→List (Int×Int)→List Int
 | _,[]=>[]
 | k,r::l=>if n≤r.2 then k::bN n (k+1) l else bN n (k+1) l
def dF (l:List (Int×Int)):Bool:=l.any fun r=>decide (r.1<0)||decide (r.2<1)
def d5 (l:List (Int×Int)) (n:Int):List Int×Int:=if n<1 then ([],1) else if dF l then ([],4) else if bN n 0 l=[] then ([],7) else (bN n 0 l,0)
def bD (l:List (Int×Int)) (n:Int):Int×Int:=if (d5 l n).2≠0 then (0,(d5 l n).2) else ((d5 l n).1.getD 0 0,0)
theorem xP (r:Int×Int) (l:List (Int×Int)):dF (r::l)=(decide (r.1<0)||decide (r.2<1)||dF l):=by
 simp [dF]
def Ht:Nat→Option LoopGen
 | 5=>some { rd:=[.dat 11 (.arr Bk),.dat 1 ty_I],A:=fun ((l,n):List (Int×Int)×Int)=>{ cs:=[.own 6 3 ty_I,.dat 13 ty_I],inv:=fun ((out,i):List Int×Int)=>0≤i∧i≤l.length∧1≤n∧out.length≤i∧dF (l.drop i.toNat)=dF l∧out++bN n i (l.drop i.toNat)=bN n 0 l,mu:=fun ((_,i):List Int×Int)=>(l.length - i).toNat } }
 | _=>none
def G3:Spec:={ Ts:=[.arr Bk,ty_I],Rs:=[.own 3 ty_I,.dat ty_I],pre:=fun _=>True,F:=fun ((l,n):List (Int×Int)×Int)=>d5 l n }
def CP:Prop :=
  ∀ (x:List (Int×Int)×Int),(x.1.length * (8+8)≤az∧∀ (x_1:Int×Int),x_1∈x.1→ak IntKind.i64 x_1.1∧ak IntKind.i64 x_1.2)∧ak IntKind.i64 x.2→True→(decide (x.2<1)=true→([]:List Int)=(d5 x.1 x.2).1∧1=(d5 x.1 x.2).2∧True)∧(decide (x.2<1)=false→((0:Int)≤0∧0≤(↑x.1.length:Int)∧1≤x.2∧(↑0:Int)≤0∧dF (List.drop (Int.toNat 0) x.1)=dF x.1∧([]:List Int)++bN x.2 0 (List.drop (Int.toNat 0) x.1)=bN x.2 0 x.1)∧∀ (x_1:List Int×Int),0≤x_1.2∧x_1.2≤(↑x.1.length:Int)∧1≤x.2∧(↑x_1.1.length:Int)≤x_1.2∧dF (List.drop x_1.2.toNat x.1)=dF x.1∧x_1.1++bN x.2 x_1.2 (List.drop x_1.2.toNat x.1)=bN x.2 0 x.1→(decide (x_1.2<(↑x.1.length:Int))=true→0≤x_1.2∧x_1.2<(↑x.1.length:Int)∧((decide ((x.1.getD x_1.2.toNat (0,0)).1<0)||decide ((x.1.getD x_1.2.toNat (0,0)).2<1))=true→([]:List Int)=(d5 x.1 x.2).1∧4=(d5 x.1 x.2).2∧True)∧((decide ((x.1.getD x_1.2.toNat (0,0)).1<0)||decide ((x.1.getD x_1.2.toNat (0,0)).2<1))=false→(decide (x.2≤(x.1.getD x_1.2.toNat (0,0)).2)=true→(x_1.1.length+[x_1.2].length) * 8≤az∧ak IntKind.i64 (x_1.2+1)∧(0≤x_1.2+1∧x_1.2+1≤(↑x.1.length:Int)∧1≤x.2∧(↑(x_1.1++[x_1.2]).length:Int)≤x_1.2+1∧dF (List.drop (x_1.2+1).toNat x.1)=dF x.1∧x_1.1++[x_1.2]++bN x.2 (x_1.2+1) (List.drop (x_1.2+1).toNat x.1)=bN x.2 0 x.1)∧((↑x.1.length:Int) - (x_1.2+1)).toNat<((↑x.1.length:Int) - x_1.2).toNat)∧(decide (x.2≤(x.1.getD x_1.2.toNat (0,0)).2)=false→ak IntKind.i64 (x_1.2+1)∧(0≤x_1.2+1∧x_1.2+1≤(↑x.1.length:Int)∧1≤x.2∧(↑x_1.1.length:Int)≤x_1.2+1∧dF (List.drop (x_1.2+1).toNat x.1)=dF x.1∧x_1.1++bN x.2 (x_1.2+1) (List.drop (x_1.2+1).toNat x.1)=bN x.2 0 x.1)∧((↑x.1.length:Int) - (x_1.2+1)).toNat<((↑x.1.length:Int) - x_1.2).toNat)))∧(decide (x_1.2<(↑x.1.length:Int))=false→(decide ((↑x_1.1.length:Int)=0)=true→([]:List Int)=(d5 x.1 x.2).1∧7=(d5 x.1 x.2).2∧True)∧(decide ((↑x_1.1.length:Int)=0)=false→x_1.1=(d5 x.1 x.2).1∧0=(d5 x.1 x.2).2∧True)))
theorem E3:CP:=by
 unfold CP
 intro ⟨l,n⟩ ⟨⟨hl,_⟩,hn⟩ _
 unfold az at *
 have hb0:dF []=false:=rfl
 have hf0:∀ k,bN n k []=[]:=fun _=>rfl
 refine ⟨fun h=>?_,fun h=>⟨⟨by omega,by grind,by grind,by simp,by simp,by simp⟩,fun ⟨out,i⟩ ⟨h0,h1,h2,h3,h4,h5⟩=>⟨fun hlt=>?_,fun hge=>?_⟩⟩⟩
 ·simp only [d5]; grind
 ·have hlt:i<(l.length:Int):=by simpa using hlt
  have e:=aS ((0,0):Int×Int) h0 hlt
  simp only at *
  simp only [e,xP,bN] at h4 h5
  simp only [d5,ak,List.length_append,List.length_cons,List.length_nil]
  repeat' (first | apply And.intro | intro _)
  all_goals grind
 ·simp only at *
  rw [bn (by simpa using hge),hb0] at h4
  rw [bn (by simpa using hge),hf0,List.append_nil] at h5
  simp only [d5,← h4,← h5]
  by_cases ho:out=[]
  ·subst ho
   have:¬ n<1:=by omega
   simp [this]
  ·have:¬ n<1:=by omega
   simp [this,ho]
theorem Hb:G3.ok Tryz.prog 132:=aI (ann:=Ht) ap Tryz.func132 (by kernel_rfl) E3
def Fo:Spec:={ Ts:=[.arr Bk,ty_I],Rs:=[.dat ty_I,.dat ty_I],pre:=fun _=>True,F:=fun ((l,n):List (Int×Int)×Int)=>bD l n }
def zF:Prop :=
  ∀ (x:List (Int×Int)×Int),(x.1.length * (8+8)≤az∧∀ (x_1:Int×Int),x_1∈x.1→ak IntKind.i64 x_1.1∧ak IntKind.i64 x_1.2)∧ak IntKind.i64 x.2→True→True∧(decide ((d5 x.1 x.2).2≠0)=true→0=(bD x.1 x.2).1∧(d5 x.1 x.2).2=(bD x.1 x.2).2∧True)∧(decide ((d5 x.1 x.2).2≠0)=false→(0:Int)≤0∧0<(↑(d5 x.1 x.2).1.length:Int)∧Int.toNat 0<(d5 x.1 x.2).1.length∧(d5 x.1 x.2).1.getD (Int.toNat 0) 0=(bD x.1 x.2).1∧0=(bD x.1 x.2).2∧True)
theorem Dx:zF:=by
 unfold zF
 intro ⟨l,n⟩ _ _
 have h:(d5 l n).2=0→(d5 l n).1≠[]:=by unfold d5; grind
 simp only [bD]
 cases hc:(d5 l n).1 <;> grind
theorem FO:Fo.ok Tryz.prog 101:=aI (ann:=cT) (ae Hb ap) Tryz.func101 (by kernel_rfl) Dx
end Go.Proofs.YtglchojglcobjaaGreat
