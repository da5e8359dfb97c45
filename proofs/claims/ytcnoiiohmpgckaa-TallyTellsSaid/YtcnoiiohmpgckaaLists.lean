
import Derived.Test.YtcnoiiohmpgckaaWalkSame
import Derived.Test.YtcnoiiohmpgckaaInts
namespace Go.Proofs.Ytcnoiiohmpgckaa
open Go
set_option maxRecDepth 100000
set_option maxHeartbeats 1000000
def gc (a:List Int) (ls:List (List Int)):Int:=if dO a≠0 then dO a else if (ls.all fun l=>l.all (bp (ab (aa a).1)))=true then 0 else 5
def uU:Nat→Option LoopGen
 | 6=>some { rd:=[.own 6 3 ty_I,.dat 18 (.arr (.arr ty_I))],A:=fun ((b,ls):List Int×List (List Int))=>{ cs:=[.dat 20 ty_I],inv:=fun (i:Int)=>0≤i∧i≤ls.length∧((ls.drop i.toNat).all fun l=>l.all (bp b))=(ls.all fun l=>l.all (bp b)),mu:=fun (i:Int)=>(ls.length - i).toNat } }
 | 9=>some { rd:=[.own 6 3 ty_I,.dat 24 (.arr ty_I)],A:=fun ((b,l):List Int×List Int)=>{ cs:=[.dat 26 ty_I],inv:=fun (i:Int)=>0≤i∧i≤l.length∧(l.drop i.toNat).all (bp b)=l.all (bp b),mu:=fun (i:Int)=>(l.length - i).toNat } }
 | _=>none
def tS:Spec:={ Ts:=[.arr ci,.arr (.arr ty_I)],Rs:=[.dat ty_I],pre:=fun _=>True,F:=fun ((a,ls):List Int×List (List Int))=>gc a ls }
def qc:Prop :=
  ∀ (x:List Int×List (List Int)),((x.1.length * 8≤aL∧∀ (x_1:Int),x_1∈x.1→aj .u64 x_1)∧x.2.length * 24≤aL∧∀ (x_1:List Int),x_1∈x.2→x_1.length * 8≤aL∧∀ (x:Int),x∈x_1→aj .i64 x)→True→True∧(decide (dO x.1≠0)=true→dO x.1=gc x.1 x.2∧True)∧(decide (dO x.1≠0)=false→True∧((0:Int)≤0∧0≤(↑x.2.length:Int)∧((List.drop (Int.toNat 0) x.2).all fun (l:List Int)=>l.all (bp (ab (aa x.1).1)))=x.2.all fun (l:List Int)=>l.all (bp (ab (aa x.1).1)))∧∀ (x_1:Int),(0≤x_1∧x_1≤(↑x.2.length:Int)∧((List.drop x_1.toNat x.2).all fun (l:List Int)=>l.all (bp (ab (aa x.1).1)))=x.2.all fun (l:List Int)=>l.all (bp (ab (aa x.1).1)))→(decide (x_1<(↑x.2.length:Int))=true→0≤x_1∧x_1<(↑x.2.length:Int)∧((0:Int)≤0∧0≤(↑(x.2.getD x_1.toNat ([]:List Int)).length:Int)∧(List.drop (Int.toNat 0) (x.2.getD x_1.toNat ([]:List Int))).all (bp (ab (aa x.1).1))=(x.2.getD x_1.toNat ([]:List Int)).all (bp (ab (aa x.1).1)))∧∀ (x_2:Int),0≤x_2∧x_2≤(↑(x.2.getD x_1.toNat ([]:List Int)).length:Int)∧(List.drop x_2.toNat (x.2.getD x_1.toNat ([]:List Int))).all (bp (ab (aa x.1).1))=(x.2.getD x_1.toNat ([]:List Int)).all (bp (ab (aa x.1).1))→(decide (x_2<(↑(x.2.getD x_1.toNat ([]:List Int)).length:Int))=true→0≤x_2∧x_2<(↑(x.2.getD x_1.toNat ([]:List Int)).length:Int)∧True∧((!bp (ab (aa x.1).1) ((x.2.getD x_1.toNat ([]:List Int)).getD x_2.toNat 0))=true→5=gc x.1 x.2∧True)∧((!bp (ab (aa x.1).1) ((x.2.getD x_1.toNat ([]:List Int)).getD x_2.toNat 0))=false→aj .i64 (x_2+1)∧(0≤x_2+1∧x_2+1≤(↑(x.2.getD x_1.toNat ([]:List Int)).length:Int)∧(List.drop (x_2+1).toNat (x.2.getD x_1.toNat ([]:List Int))).all (bp (ab (aa x.1).1))=(x.2.getD x_1.toNat ([]:List Int)).all (bp (ab (aa x.1).1)))∧((↑(x.2.getD x_1.toNat ([]:List Int)).length:Int) - (x_2+1)).toNat<((↑(x.2.getD x_1.toNat ([]:List Int)).length:Int) - x_2).toNat))∧(decide (x_2<(↑(x.2.getD x_1.toNat ([]:List Int)).length:Int))=false→aj .i64 (x_1+1)∧(0≤x_1+1∧x_1+1≤(↑x.2.length:Int)∧((List.drop (x_1+1).toNat x.2).all fun (l:List Int)=>l.all (bp (ab (aa x.1).1)))=x.2.all fun (l:List Int)=>l.all (bp (ab (aa x.1).1)))∧((↑x.2.length:Int) - (x_1+1)).toNat<((↑x.2.length:Int) - x_1).toNat))∧(decide (x_1<(↑x.2.length:Int))=false→0=gc x.1 x.2∧True))
theorem sK:qc:=by
 unfold qc
 intro ⟨a,ls⟩ ⟨_,hb,hls⟩ _
 unfold aL at hb
 simp only at hb hls
 have hF:gc a ls=if dO a≠0 then dO a else if (ls.all fun l=>l.all (bp (ab (aa a).1)))=true then 0 else 5:=rfl
 simp only [hF]
 refine ⟨trivial,fun hc=>?_,fun hc=>⟨trivial,⟨by omega,by omega,rfl⟩,fun i ⟨h0,h1,h2⟩=>⟨fun hlt=>?_,fun hge=>?_⟩⟩⟩
 ·rw [if_pos (of_decide_eq_true hc)]
  exact ⟨rfl,trivial⟩
 ·have hlt:i<(ls.length:Int):=of_decide_eq_true hlt
  rw [if_neg (of_decide_eq_false hc)]
  have hm:=hls _ (bk ([]:List Int) h0 hlt)
  rw [aV ([]:List Int) h0 hlt,List.all_cons] at h2
  generalize ls.getD i.toNat []=l at *
  unfold aL at hm
  simp only [aj]
  refine ⟨h0,hlt,⟨by omega,by omega,rfl⟩,fun j ⟨j0,j1,j2⟩=>⟨fun hj=>?_,fun hj=>?_⟩⟩
  ·have hj:j<(l.length:Int):=of_decide_eq_true hj
   rw [aV (0:Int) j0 hj,List.all_cons] at j2
   refine ⟨j0,hj,trivial,fun hn=>?_,fun hn=>⟨by omega,⟨by omega,by omega,?_⟩,by omega⟩⟩
   ·have hn:bp (ab (aa a).1) (l.getD j.toNat 0)=false:=by simpa using hn
    rw [hn,Bool.false_and] at j2
    rw [← j2,Bool.false_and] at h2
    rw [← h2]
    exact ⟨rfl,trivial⟩
   ·have hn:bp (ab (aa a).1) (l.getD j.toNat 0)=true:=by simpa using hn
    rw [hn,Bool.true_and] at j2
    exact j2
  ·rw [br (of_decide_eq_false hj),List.all_nil] at j2
   rw [← j2,Bool.true_and] at h2
   exact ⟨by omega,⟨by omega,by omega,h2⟩,by omega⟩
 ·rw [if_neg (of_decide_eq_false hc)]
  rw [br (of_decide_eq_false hge),List.all_nil] at h2
  rw [← h2]
  exact ⟨rfl,trivial⟩
theorem ug:tS.ok Try.prog 30:=bJ (ann:=uU) (ai lI (ai eO (ai lH aJ))) Try.func30 (by kernel_rfl) sK
end Go.Proofs.Ytcnoiiohmpgckaa
