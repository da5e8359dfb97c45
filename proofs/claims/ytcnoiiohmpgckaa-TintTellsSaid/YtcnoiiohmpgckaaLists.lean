
import Derived.Test.YtcnoiiohmpgckaaWalkSame
import Derived.Test.YtcnoiiohmpgckaaInts
namespace Go.Proofs.Ytcnoiiohmpgckaa
open Go
set_option maxRecDepth 100000
set_option maxHeartbeats 1000000
def go (a:List Int) (ls:List (List Int)):Int:=if dT a≠0 then dT a else if (ls.all fun l=>l.all (bA (ab (aa a).1)))=true then 0 else 5
def wV:Nat→Option LoopGen
 | 6=>some { rd:=[.own 6 3 ty_I,.dat 18 (.arr (.arr ty_I))],A:=fun ((b,ls):List Int×List (List Int))=>{ cs:=[.dat 20 ty_I],inv:=fun (i:Int)=>0≤i∧i≤ls.length∧((ls.drop i.toNat).all fun l=>l.all (bA b))=(ls.all fun l=>l.all (bA b)),mu:=fun (i:Int)=>(ls.length - i).toNat } }
 | 9=>some { rd:=[.own 6 3 ty_I,.dat 24 (.arr ty_I)],A:=fun ((b,l):List Int×List Int)=>{ cs:=[.dat 26 ty_I],inv:=fun (i:Int)=>0≤i∧i≤l.length∧(l.drop i.toNat).all (bA b)=l.all (bA b),mu:=fun (i:Int)=>(l.length - i).toNat } }
 | _=>none
def vI:Spec:={ Ts:=[.arr aM,.arr (.arr ty_I)],Rs:=[.dat ty_I],pre:=fun _=>True,F:=fun ((a,ls):List Int×List (List Int))=>go a ls }
def rq:Prop :=
  ∀ (x:List Int×List (List Int)),((x.1.length * 8≤aI∧∀ (x_1:Int),x_1∈x.1→aj .u64 x_1)∧x.2.length * 24≤aI∧∀ (x_1:List Int),x_1∈x.2→x_1.length * 8≤aI∧∀ (x:Int),x∈x_1→aj .i64 x)→True→True∧(decide (dT x.1≠0)=true→dT x.1=go x.1 x.2∧True)∧(decide (dT x.1≠0)=false→True∧((0:Int)≤0∧0≤(↑x.2.length:Int)∧((List.drop (Int.toNat 0) x.2).all fun (l:List Int)=>l.all (bA (ab (aa x.1).1)))=x.2.all fun (l:List Int)=>l.all (bA (ab (aa x.1).1)))∧∀ (x_1:Int),(0≤x_1∧x_1≤(↑x.2.length:Int)∧((List.drop x_1.toNat x.2).all fun (l:List Int)=>l.all (bA (ab (aa x.1).1)))=x.2.all fun (l:List Int)=>l.all (bA (ab (aa x.1).1)))→(decide (x_1<(↑x.2.length:Int))=true→0≤x_1∧x_1<(↑x.2.length:Int)∧((0:Int)≤0∧0≤(↑(x.2.getD x_1.toNat ([]:List Int)).length:Int)∧(List.drop (Int.toNat 0) (x.2.getD x_1.toNat ([]:List Int))).all (bA (ab (aa x.1).1))=(x.2.getD x_1.toNat ([]:List Int)).all (bA (ab (aa x.1).1)))∧∀ (x_2:Int),0≤x_2∧x_2≤(↑(x.2.getD x_1.toNat ([]:List Int)).length:Int)∧(List.drop x_2.toNat (x.2.getD x_1.toNat ([]:List Int))).all (bA (ab (aa x.1).1))=(x.2.getD x_1.toNat ([]:List Int)).all (bA (ab (aa x.1).1))→(decide (x_2<(↑(x.2.getD x_1.toNat ([]:List Int)).length:Int))=true→0≤x_2∧x_2<(↑(x.2.getD x_1.toNat ([]:List Int)).length:Int)∧True∧((!bA (ab (aa x.1).1) ((x.2.getD x_1.toNat ([]:List Int)).getD x_2.toNat 0))=true→5=go x.1 x.2∧True)∧((!bA (ab (aa x.1).1) ((x.2.getD x_1.toNat ([]:List Int)).getD x_2.toNat 0))=false→aj .i64 (x_2+1)∧(0≤x_2+1∧x_2+1≤(↑(x.2.getD x_1.toNat ([]:List Int)).length:Int)∧(List.drop (x_2+1).toNat (x.2.getD x_1.toNat ([]:List Int))).all (bA (ab (aa x.1).1))=(x.2.getD x_1.toNat ([]:List Int)).all (bA (ab (aa x.1).1)))∧((↑(x.2.getD x_1.toNat ([]:List Int)).length:Int) - (x_2+1)).toNat<((↑(x.2.getD x_1.toNat ([]:List Int)).length:Int) - x_2).toNat))∧(decide (x_2<(↑(x.2.getD x_1.toNat ([]:List Int)).length:Int))=false→aj .i64 (x_1+1)∧(0≤x_1+1∧x_1+1≤(↑x.2.length:Int)∧((List.drop (x_1+1).toNat x.2).all fun (l:List Int)=>l.all (bA (ab (aa x.1).1)))=x.2.all fun (l:List Int)=>l.all (bA (ab (aa x.1).1)))∧((↑x.2.length:Int) - (x_1+1)).toNat<((↑x.2.length:Int) - x_1).toNat))∧(decide (x_1<(↑x.2.length:Int))=false→0=go x.1 x.2∧True))
theorem uB:rq:=by
 unfold rq
 intro ⟨a,ls⟩ ⟨_,hb,hls⟩ _
 unfold aI at hb
 simp only at hb hls
 have hF:go a ls=if dT a≠0 then dT a else if (ls.all fun l=>l.all (bA (ab (aa a).1)))=true then 0 else 5:=rfl
 simp only [hF]
 refine ⟨trivial,fun hc=>?_,fun hc=>⟨trivial,⟨by omega,by omega,rfl⟩,fun i ⟨h0,h1,h2⟩=>⟨fun hlt=>?_,fun hge=>?_⟩⟩⟩
 ·rw [if_pos (of_decide_eq_true hc)]
  exact ⟨rfl,trivial⟩
 ·have hlt:i<(ls.length:Int):=of_decide_eq_true hlt
  rw [if_neg (of_decide_eq_false hc)]
  have hm:=hls _ (bc ([]:List Int) h0 hlt)
  rw [aS ([]:List Int) h0 hlt,List.all_cons] at h2
  generalize ls.getD i.toNat []=l at *
  unfold aI at hm
  simp only [aj]
  refine ⟨h0,hlt,⟨by omega,by omega,rfl⟩,fun j ⟨j0,j1,j2⟩=>⟨fun hj=>?_,fun hj=>?_⟩⟩
  ·have hj:j<(l.length:Int):=of_decide_eq_true hj
   rw [aS (0:Int) j0 hj,List.all_cons] at j2
   refine ⟨j0,hj,trivial,fun hn=>?_,fun hn=>⟨by omega,⟨by omega,by omega,?_⟩,by omega⟩⟩
   ·have hn:bA (ab (aa a).1) (l.getD j.toNat 0)=false:=by simpa using hn
    rw [hn,Bool.false_and] at j2
    rw [← j2,Bool.false_and] at h2
    rw [← h2]
    exact ⟨rfl,trivial⟩
   ·have hn:bA (ab (aa a).1) (l.getD j.toNat 0)=true:=by simpa using hn
    rw [hn,Bool.true_and] at j2
    exact j2
  ·rw [bo (of_decide_eq_false hj),List.all_nil] at j2
   rw [← j2,Bool.true_and] at h2
   exact ⟨by omega,⟨by omega,by omega,h2⟩,by omega⟩
 ·rw [if_neg (of_decide_eq_false hc)]
  rw [bo (of_decide_eq_false hge),List.all_nil] at h2
  rw [← h2]
  exact ⟨rfl,trivial⟩
theorem v7:vI.ok Try.prog 30:=bg (ann:=wV) (ak mn (ak fY (ak mm aD))) Try.func30 (by kernel_rfl) uB
end Go.Proofs.Ytcnoiiohmpgckaa
