
import Derived.Test.YtcnoiiohmpgckaaKeepPure
namespace Go.Proofs.Ytcnoiiohmpgckaa
open Go
set_option maxRecDepth 100000
set_option maxHeartbeats 1000000
structure InY (g:cE) (f o:List Int):Prop where
 nodup:o.Nodup
 only:∀ x∈o,RchG (bZ g.1 g.2.1) (cM g.1 g.2.1 g.2.2 f) x
theorem InY.new (g:cE) (f:List Int):InY g f []:=⟨List.nodup_nil,fun x hx=>by cases hx⟩
theorem ir {o:List Int} {x:Int} (h:o.Nodup) (hn:¬ x∈o):(o++[x]).Nodup:=by
 rw [List.nodup_append]
 exact ⟨h,by simp,fun y hy z hz=>by rw [List.mem_singleton.1 hz]; rintro rfl; exact hn hy⟩
theorem InY.add {g:cE} {f o:List Int} {x:Int} (h:InY g f o) (hn:¬ x∈o) (hx:RchG (bZ g.1 g.2.1) (cM g.1 g.2.1 g.2.2 f) x):InY g f (o++[x]) :=
 ⟨ir h.nodup hn,fun y hy=>by
  rcases List.mem_append.1 hy with hy | hy
  ·exact h.only y hy
  ·rw [List.mem_singleton.1 hy]; exact hx⟩
theorem um {o old:List Int} {x:Int} (h:(!aI old x&&!aI o x)=true):¬ x∈old∧¬ x∈o:=by
 rw [Bool.and_eq_true] at h
 exact ⟨xq h.1,xq h.2⟩
theorem sw {o old:List Int} {x:Int} (h:(!aI old x&&!aI o x)=false) (hx:¬ x∈old):x∈o:=by
 rw [Bool.and_eq_false_iff] at h
 rcases h with h | h
 ·exact absurd (x6 h) hx
 ·exact x6 h
theorem pg {ns o0 old:List Int} {K:List Int→Prop} {N:Nat} (hlen:∀ o k:List Int,o.Nodup→o=o0++k→(∀ x∈k,x∈ns∧¬ x∈old)→o.length≤N) (hN:N≤1000) (hns:ns.length≤1000) (h0:o0.Nodup)
  (hK:∀ o k:List Int,o.Nodup→o=o0++k→(∀ x∈k,x∈ns∧¬ x∈old)→(∀ x∈ns,¬ x∈old→x∈o)→K o) :
  ((0:Int)≤0∧0≤(ns.length:Int)∧o0.Nodup∧(∃ k:List Int,o0=o0++k∧∀ x∈k,x∈ns∧¬ x∈old)∧∀ x∈ns.take (Int.toNat 0),¬ x∈old→x∈o0) ∧
  ∀ y:List Int×Int,(0≤y.2∧y.2≤(ns.length:Int)∧y.1.Nodup∧(∃ k:List Int,y.1=o0++k∧∀ x∈k,x∈ns∧¬ x∈old)∧∀ x∈ns.take y.2.toNat,¬ x∈old→x∈y.1) →
   (decide (y.2<(ns.length:Int))=true→0≤y.2∧y.2<(ns.length:Int) ∧
    (((!aI old (ns.getD y.2.toNat 0)&&!aI y.1 (ns.getD y.2.toNat 0))=true→(y.1.length+1) * 8≤aC∧ai .i64 (y.2+1) ∧
      (0≤y.2+1∧y.2+1≤(ns.length:Int)∧(y.1++[ns.getD y.2.toNat 0]).Nodup∧(∃ k:List Int,y.1++[ns.getD y.2.toNat 0]=o0++k∧∀ x∈k,x∈ns∧¬ x∈old)∧∀ x∈ns.take (y.2+1).toNat,¬ x∈old→x∈y.1++[ns.getD y.2.toNat 0])∧((ns.length:Int) - (y.2+1)).toNat<((ns.length:Int) - y.2).toNat) ∧
     ((!aI old (ns.getD y.2.toNat 0)&&!aI y.1 (ns.getD y.2.toNat 0))=false→ai .i64 (y.2+1) ∧
        (0≤y.2+1∧y.2+1≤(ns.length:Int)∧y.1.Nodup∧(∃ k:List Int,y.1=o0++k∧∀ x∈k,x∈ns∧¬ x∈old)∧∀ x∈ns.take (y.2+1).toNat,¬ x∈old→x∈y.1)∧((ns.length:Int) - (y.2+1)).toNat<((ns.length:Int) - y.2).toNat))) ∧
   (decide (y.2<(ns.length:Int))=false→K y.1):=by
 refine ⟨⟨by omega,by omega,h0,⟨[],by simp,fun x hx=>by cases hx⟩,fun x hx=>by simp at hx⟩,fun ⟨o,j⟩ ⟨j0,j1,j2,⟨k,j3,j4⟩,j5⟩=>⟨fun hj=>?_,fun hj=>?_⟩⟩
 ·have hj:=of_decide_eq_true hj
  simp only at j0 j1 j2 j3 j4 j5 hj ⊢
  have ht:=cN (0:Int) j0 hj
  have hm:=bz (0:Int) j0 hj
  have hl:=hlen o k j2 j3 j4
  generalize ns.getD j.toNat 0=x at *
  rw [ht]
  simp only [ai,aC]
  refine ⟨j0,hj,fun h=>?_,fun h=>?_⟩
  ·obtain ⟨h1,h2⟩:=um h
   refine ⟨by omega,by omega,⟨by omega,by omega,ir j2 h2,⟨k++[x],by rw [j3,List.append_assoc],fun y hy=>?_⟩,fun y hy hyo=>?_⟩,by omega⟩
   ·rcases List.mem_append.1 hy with hy | hy
    ·exact j4 y hy
    ·rw [List.mem_singleton.1 hy]; exact ⟨hm,h1⟩
   ·rcases List.mem_append.1 hy with hy | hy
    ·exact List.mem_append_left _ (j5 y hy hyo)
    ·exact List.mem_append_right _ hy
  ·refine ⟨by omega,⟨by omega,by omega,j2,⟨k,j3,j4⟩,fun y hy hyo=>?_⟩,by omega⟩
   rcases List.mem_append.1 hy with hy | hy
   ·exact j5 y hy hyo
   ·rw [List.mem_singleton.1 hy] at hyo ⊢
    exact sw h hyo
 ·have hj:=of_decide_eq_false hj
  simp only at j2 j3 j5 hj ⊢
  rw [d7 hj] at j5
  exact hK o k j2 j3 j4 j5
def wI:Nat→Option LoopGen
 | 3000118=>some ut
 | 8=>some { rd:=[.dat 30 (.arr ty_I),.map 28 .i64 bq,.box 2 bb],A:=fun ((f,m,g):List Int×List (Int×cg)×cE)=>{ cs:=[.boxS 8 [.own 3 ty_I],.dat 32 ty_I],inv:=fun ((o,i):List Int×Int)=>0≤i∧i≤f.length∧o.Nodup∧(∀ x∈o,x∈f.take i.toNat∧¬ x∈g.2.1)∧(∀ x∈f.take i.toNat,¬ x∈g.2.1→x∈o)∧∀ x∈f.take i.toNat,(bc m x).isSome=true,mu:=fun ((_,i):List Int×Int)=>(f.length - i).toNat } }
 | 16=>some { rd:=[.dat 1 (.arr ty_I),.dat 49 (.arr ty_I),.map 28 .i64 bq,.box 2 bb],A:=fun ((f,nt,_,g):List Int×List Int×List (Int×cg)×cE)=>{ cs:=[.boxS 8 [.own 3 ty_I],.dat 51 ty_I],inv:=fun ((o,i):List Int×Int)=>0≤i∧i≤nt.length∧InY g f o∧(∀ x∈f,¬ x∈g.2.1→x∈o)∧(∀ n∈nt.take i.toNat,∀ x∈bZ g.1 g.2.1 n,x∈o),mu:=fun ((_,i):List Int×Int)=>(nt.length - i).toNat } }
 | 19=>some { rd:=[.own 61 3 ty_I,.boxS 8 [.own 3 ty_I],.box 2 bb],A:=fun ((ns,o0,g):List Int×List Int×cE)=>{ cs:=[.boxS 8 [.own 3 ty_I],.dat 63 ty_I],inv:=fun ((o,j):List Int×Int)=>0≤j∧j≤ns.length∧o.Nodup∧(∃ k,o=o0++k∧∀ x∈k,x∈ns∧¬ x∈g.2.1)∧(∀ x∈ns.take j.toNat,¬ x∈g.2.1→x∈o),mu:=fun ((_,j):List Int×Int)=>(ns.length - j).toNat } }
 | 25=>some { rd:=[.dat 1 (.arr ty_I),.map 28 .i64 bq,.box 2 bb],A:=fun ((f,_,g):List Int×List (Int×cg)×cE)=>{ cs:=[.boxS 8 [.own 3 ty_I],.dat 18 ty_I],inv:=fun ((o,i):List Int×Int)=>0≤i∧i≤o.length∧InY g f o∧(∀ x∈cM g.1 g.2.1 g.2.2 f,x∈o)∧(∀ n∈o.take i.toNat,∀ x∈bZ g.1 g.2.1 n,x∈o),mu:=fun ((_,i):List Int×Int)=>(256 - i).toNat } }
 | 28=>some { rd:=[.dat 90 (.arr ty_I),.boxS 8 [.own 3 ty_I],.box 2 bb],A:=fun ((ns,o0,g):List Int×List Int×cE)=>{ cs:=[.boxS 8 [.own 3 ty_I],.dat 92 ty_I],inv:=fun ((o,j):List Int×Int)=>0≤j∧j≤ns.length∧o.Nodup∧(∃ k,o=o0++k∧∀ x∈k,x∈ns∧¬ x∈g.2.1)∧(∀ x∈ns.take j.toNat,¬ x∈g.2.1→x∈o),mu:=fun ((_,j):List Int×Int)=>(ns.length - j).toNat } }
 | _=>none
def vF:Spec:={ Ts:=[bb,.arr ty_I],Rs:=[.own 3 ty_I,.dat ty_I],pre:=fun _=>True,F:=fun ((g,f):cE×List Int)=>aE g f }
def rE:Prop :=
  ∀ (x:(List Int×List Int×List Int)×List Int),(((x.1.1.length * 8≤aC∧∀ (x_1:Int),x_1∈x.1.1→ai .u64 x_1)∧(x.1.2.1.length * 8≤aC∧∀ (x_1:Int),x_1∈x.1.2.1→ai .i64 x_1)∧x.1.2.2.length * 8≤aC∧∀ (x_1:Int),x_1∈x.1.2.2→ai .i64 x_1)∧x.2.length * 8≤aC∧∀ (x_1:Int),x_1∈x.2→ai .i64 x_1)→True→True∧(decide (a8 x.1≠0)=true→([]:List Int)=(aE x.1 x.2).1∧a8 x.1=(aE x.1 x.2).2∧True)∧(decide (a8 x.1≠0)=false→True∧((0:Int)≤0∧0≤(↑x.2.length:Int)∧([]:List Int).Nodup∧(∀ (x_1:Int),x_1∈([]:List Int)→x_1∈List.take (Int.toNat 0) x.2∧¬x_1∈x.1.2.1)∧(∀ (x_1:Int),x_1∈List.take (Int.toNat 0) x.2→¬x_1∈x.1.2.1→x_1∈([]:List Int))∧∀ (x_1:Int),x_1∈List.take (Int.toNat 0) x.2→(bc (a7 (aa x.1.1).1) x_1).isSome=true)∧∀ (x_1:List Int×Int),(0≤x_1.2∧x_1.2≤(↑x.2.length:Int)∧x_1.1.Nodup∧(∀ (x_2:Int),x_2∈x_1.1→x_2∈List.take x_1.2.toNat x.2∧¬x_2∈x.1.2.1)∧(∀ (x_2:Int),x_2∈List.take x_1.2.toNat x.2→¬x_2∈x.1.2.1→x_2∈x_1.1)∧∀ (x_2:Int),x_2∈List.take x_1.2.toNat x.2→(bc (a7 (aa x.1.1).1) x_2).isSome=true)→(decide (x_1.2<(↑x.2.length:Int))=true→0≤x_1.2∧x_1.2<(↑x.2.length:Int)∧((!(bc (a7 (aa x.1.1).1) (x.2.getD x_1.2.toNat 0)).isSome)=true→([]:List Int)=(aE x.1 x.2).1∧5=(aE x.1 x.2).2∧True)∧((!(bc (a7 (aa x.1.1).1) (x.2.getD x_1.2.toNat 0)).isSome)=false→∀ (_:Array Value),True∧((!aI x.1.2.1 (x.2.getD x_1.2.toNat 0))=true→True)∧((!aI x.1.2.1 (x.2.getD x_1.2.toNat 0)&&!aI x_1.1 (x.2.getD x_1.2.toNat 0))=true→(x_1.1.length+[x.2.getD x_1.2.toNat 0].length) * 8≤aC∧ai .i64 (x_1.2+1)∧(0≤x_1.2+1∧x_1.2+1≤(↑x.2.length:Int)∧(x_1.1++[x.2.getD x_1.2.toNat 0]).Nodup∧(∀ (x_2:Int),x_2∈x_1.1++[x.2.getD x_1.2.toNat 0]→x_2∈List.take (x_1.2+1).toNat x.2∧¬x_2∈x.1.2.1)∧(∀ (x_2:Int),x_2∈List.take (x_1.2+1).toNat x.2→¬x_2∈x.1.2.1→x_2∈x_1.1++[x.2.getD x_1.2.toNat 0])∧∀ (x_2:Int),x_2∈List.take (x_1.2+1).toNat x.2→(bc (a7 (aa x.1.1).1) x_2).isSome=true)∧((↑x.2.length:Int) - (x_1.2+1)).toNat<((↑x.2.length:Int) - x_1.2).toNat)∧((!aI x.1.2.1 (x.2.getD x_1.2.toNat 0)&&!aI x_1.1 (x.2.getD x_1.2.toNat 0))=false→ai .i64 (x_1.2+1)∧(0≤x_1.2+1∧x_1.2+1≤(↑x.2.length:Int)∧x_1.1.Nodup∧(∀ (x_2:Int),x_2∈x_1.1→x_2∈List.take (x_1.2+1).toNat x.2∧¬x_2∈x.1.2.1)∧(∀ (x_2:Int),x_2∈List.take (x_1.2+1).toNat x.2→¬x_2∈x.1.2.1→x_2∈x_1.1)∧∀ (x_2:Int),x_2∈List.take (x_1.2+1).toNat x.2→(bc (a7 (aa x.1.1).1) x_2).isSome=true)∧((↑x.2.length:Int) - (x_1.2+1)).toNat<((↑x.2.length:Int) - x_1.2).toNat)))∧(decide (x_1.2<(↑x.2.length:Int))=false→((0:Int)≤0∧0≤(↑x.1.2.2.length:Int)∧InY x.1 x.2 x_1.1∧(∀ (x_2:Int),x_2∈x.2→¬x_2∈x.1.2.1→x_2∈x_1.1)∧∀ (n:Int),n∈List.take (Int.toNat 0) x.1.2.2→∀ (x_2:Int),x_2∈bZ x.1.1 x.1.2.1 n→x_2∈x_1.1)∧∀ (x_2:List Int×Int),(0≤x_2.2∧x_2.2≤(↑x.1.2.2.length:Int)∧InY x.1 x.2 x_2.1∧(∀ (x_3:Int),x_3∈x.2→¬x_3∈x.1.2.1→x_3∈x_2.1)∧∀ (n:Int),n∈List.take x_2.2.toNat x.1.2.2→∀ (x_3:Int),x_3∈bZ x.1.1 x.1.2.1 n→x_3∈x_2.1)→(decide (x_2.2<(↑x.1.2.2.length:Int))=true→0≤x_2.2∧x_2.2<(↑x.1.2.2.length:Int)∧((au x.1.1).2.2=0∧isB (aa x.1.1).1 (x.1.2.2.getD x_2.2.toNat 0)=true∧(bc (a7 (aa x.1.1).1) (x.1.2.2.getD x_2.2.toNat 0)).getD (0,0,0,false)=jQ x.1.1 (x.1.2.2.getD x_2.2.toNat 0))∧((0:Int)≤0∧0≤(↑(ak x.1.1 (x.1.2.2.getD x_2.2.toNat 0)).length:Int)∧x_2.1.Nodup∧(∃ (k:List Int),x_2.1=x_2.1++k∧∀ (x_3:Int),x_3∈k→x_3∈ak x.1.1 (x.1.2.2.getD x_2.2.toNat 0)∧¬x_3∈x.1.2.1)∧∀ (x_3:Int),x_3∈List.take (Int.toNat 0) (ak x.1.1 (x.1.2.2.getD x_2.2.toNat 0))→¬x_3∈x.1.2.1→x_3∈x_2.1)∧∀ (x_3:List Int×Int),(0≤x_3.2∧x_3.2≤(↑(ak x.1.1 (x.1.2.2.getD x_2.2.toNat 0)).length:Int)∧x_3.1.Nodup∧(∃ (k:List Int),x_3.1=x_2.1++k∧∀ (x_4:Int),x_4∈k→x_4∈ak x.1.1 (x.1.2.2.getD x_2.2.toNat 0)∧¬x_4∈x.1.2.1)∧∀ (x_4:Int),x_4∈List.take x_3.2.toNat (ak x.1.1 (x.1.2.2.getD x_2.2.toNat 0))→¬x_4∈x.1.2.1→x_4∈x_3.1)→(decide (x_3.2<(↑(ak x.1.1 (x.1.2.2.getD x_2.2.toNat 0)).length:Int))=true→0≤x_3.2∧x_3.2<(↑(ak x.1.1 (x.1.2.2.getD x_2.2.toNat 0)).length:Int)∧x_3.2.toNat<(ak x.1.1 (x.1.2.2.getD x_2.2.toNat 0)).length∧∀ (_:Array Value),True∧((!aI x.1.2.1 ((ak x.1.1 (x.1.2.2.getD x_2.2.toNat 0)).getD x_3.2.toNat 0))=true→True)∧((!aI x.1.2.1 ((ak x.1.1 (x.1.2.2.getD x_2.2.toNat 0)).getD x_3.2.toNat 0)&&!aI x_3.1 ((ak x.1.1 (x.1.2.2.getD x_2.2.toNat 0)).getD x_3.2.toNat 0))=true→(x_3.1.length+[(ak x.1.1 (x.1.2.2.getD x_2.2.toNat 0)).getD x_3.2.toNat 0].length) * 8≤aC∧ai .i64 (x_3.2+1)∧(0≤x_3.2+1∧x_3.2+1≤(↑(ak x.1.1 (x.1.2.2.getD x_2.2.toNat 0)).length:Int)∧(x_3.1++[(ak x.1.1 (x.1.2.2.getD x_2.2.toNat 0)).getD x_3.2.toNat 0]).Nodup∧(∃ (k:List Int),x_3.1++[(ak x.1.1 (x.1.2.2.getD x_2.2.toNat 0)).getD x_3.2.toNat 0]=x_2.1++k∧∀ (x_4:Int),x_4∈k→x_4∈ak x.1.1 (x.1.2.2.getD x_2.2.toNat 0)∧¬x_4∈x.1.2.1)∧∀ (x_4:Int),x_4∈List.take (x_3.2+1).toNat (ak x.1.1 (x.1.2.2.getD x_2.2.toNat 0))→¬x_4∈x.1.2.1→x_4∈x_3.1++[(ak x.1.1 (x.1.2.2.getD x_2.2.toNat 0)).getD x_3.2.toNat 0])∧((↑(ak x.1.1 (x.1.2.2.getD x_2.2.toNat 0)).length:Int) - (x_3.2+1)).toNat<((↑(ak x.1.1 (x.1.2.2.getD x_2.2.toNat 0)).length:Int) - x_3.2).toNat)∧((!aI x.1.2.1 ((ak x.1.1 (x.1.2.2.getD x_2.2.toNat 0)).getD x_3.2.toNat 0)&&!aI x_3.1 ((ak x.1.1 (x.1.2.2.getD x_2.2.toNat 0)).getD x_3.2.toNat 0))=false→ai .i64 (x_3.2+1)∧(0≤x_3.2+1∧x_3.2+1≤(↑(ak x.1.1 (x.1.2.2.getD x_2.2.toNat 0)).length:Int)∧x_3.1.Nodup∧(∃ (k:List Int),x_3.1=x_2.1++k∧∀ (x_4:Int),x_4∈k→x_4∈ak x.1.1 (x.1.2.2.getD x_2.2.toNat 0)∧¬x_4∈x.1.2.1)∧∀ (x_4:Int),x_4∈List.take (x_3.2+1).toNat (ak x.1.1 (x.1.2.2.getD x_2.2.toNat 0))→¬x_4∈x.1.2.1→x_4∈x_3.1)∧((↑(ak x.1.1 (x.1.2.2.getD x_2.2.toNat 0)).length:Int) - (x_3.2+1)).toNat<((↑(ak x.1.1 (x.1.2.2.getD x_2.2.toNat 0)).length:Int) - x_3.2).toNat))∧(decide (x_3.2<(↑(ak x.1.1 (x.1.2.2.getD x_2.2.toNat 0)).length:Int))=false→ai .i64 (x_2.2+1)∧(0≤x_2.2+1∧x_2.2+1≤(↑x.1.2.2.length:Int)∧InY x.1 x.2 x_3.1∧(∀ (x_4:Int),x_4∈x.2→¬x_4∈x.1.2.1→x_4∈x_3.1)∧∀ (n:Int),n∈List.take (x_2.2+1).toNat x.1.2.2→∀ (x_4:Int),x_4∈bZ x.1.1 x.1.2.1 n→x_4∈x_3.1)∧((↑x.1.2.2.length:Int) - (x_2.2+1)).toNat<((↑x.1.2.2.length:Int) - x_2.2).toNat))∧(decide (x_2.2<(↑x.1.2.2.length:Int))=false→((0:Int)≤0∧0≤(↑x_2.1.length:Int)∧InY x.1 x.2 x_2.1∧(∀ (x_3:Int),x_3∈cM x.1.1 x.1.2.1 x.1.2.2 x.2→x_3∈x_2.1)∧∀ (n:Int),n∈List.take (Int.toNat 0) x_2.1→∀ (x_3:Int),x_3∈bZ x.1.1 x.1.2.1 n→x_3∈x_2.1)∧∀ (x_3:List Int×Int),(0≤x_3.2∧x_3.2≤(↑x_3.1.length:Int)∧InY x.1 x.2 x_3.1∧(∀ (x_4:Int),x_4∈cM x.1.1 x.1.2.1 x.1.2.2 x.2→x_4∈x_3.1)∧∀ (n:Int),n∈List.take x_3.2.toNat x_3.1→∀ (x_4:Int),x_4∈bZ x.1.1 x.1.2.1 n→x_4∈x_3.1)→(decide (x_3.2<(↑x_3.1.length:Int))=true→0≤x_3.2∧x_3.2<(↑x_3.1.length:Int)∧x_3.2.toNat<x_3.1.length∧0≤x_3.2∧x_3.2<(↑x_3.1.length:Int)∧x_3.2.toNat<x_3.1.length∧((au x.1.1).2.2=0∧isB (aa x.1.1).1 (x_3.1.getD x_3.2.toNat 0)=true∧(bc (a7 (aa x.1.1).1) (x_3.1.getD x_3.2.toNat 0)).getD (0,0,0,false)=jQ x.1.1 (x_3.1.getD x_3.2.toNat 0))∧((0:Int)≤0∧0≤(↑(ak x.1.1 (x_3.1.getD x_3.2.toNat 0)).length:Int)∧x_3.1.Nodup∧(∃ (k:List Int),x_3.1=x_3.1++k∧∀ (x_4:Int),x_4∈k→x_4∈ak x.1.1 (x_3.1.getD x_3.2.toNat 0)∧¬x_4∈x.1.2.1)∧∀ (x_4:Int),x_4∈List.take (Int.toNat 0) (ak x.1.1 (x_3.1.getD x_3.2.toNat 0))→¬x_4∈x.1.2.1→x_4∈x_3.1)∧∀ (x_4:List Int×Int),(0≤x_4.2∧x_4.2≤(↑(ak x.1.1 (x_3.1.getD x_3.2.toNat 0)).length:Int)∧x_4.1.Nodup∧(∃ (k:List Int),x_4.1=x_3.1++k∧∀ (x_5:Int),x_5∈k→x_5∈ak x.1.1 (x_3.1.getD x_3.2.toNat 0)∧¬x_5∈x.1.2.1)∧∀ (x_5:Int),x_5∈List.take x_4.2.toNat (ak x.1.1 (x_3.1.getD x_3.2.toNat 0))→¬x_5∈x.1.2.1→x_5∈x_4.1)→(decide (x_4.2<(↑(ak x.1.1 (x_3.1.getD x_3.2.toNat 0)).length:Int))=true→0≤x_4.2∧x_4.2<(↑(ak x.1.1 (x_3.1.getD x_3.2.toNat 0)).length:Int)∧∀ (_:Array Value),True∧((!aI x.1.2.1 ((ak x.1.1 (x_3.1.getD x_3.2.toNat 0)).getD x_4.2.toNat 0))=true→True)∧((!aI x.1.2.1 ((ak x.1.1 (x_3.1.getD x_3.2.toNat 0)).getD x_4.2.toNat 0)&&!aI x_4.1 ((ak x.1.1 (x_3.1.getD x_3.2.toNat 0)).getD x_4.2.toNat 0))=true→(x_4.1.length+[(ak x.1.1 (x_3.1.getD x_3.2.toNat 0)).getD x_4.2.toNat 0].length) * 8≤aC∧ai .i64 (x_4.2+1)∧(0≤x_4.2+1∧x_4.2+1≤(↑(ak x.1.1 (x_3.1.getD x_3.2.toNat 0)).length:Int)∧(x_4.1++[(ak x.1.1 (x_3.1.getD x_3.2.toNat 0)).getD x_4.2.toNat 0]).Nodup∧(∃ (k:List Int),x_4.1++[(ak x.1.1 (x_3.1.getD x_3.2.toNat 0)).getD x_4.2.toNat 0]=x_3.1++k∧∀ (x_5:Int),x_5∈k→x_5∈ak x.1.1 (x_3.1.getD x_3.2.toNat 0)∧¬x_5∈x.1.2.1)∧∀ (x_5:Int),x_5∈List.take (x_4.2+1).toNat (ak x.1.1 (x_3.1.getD x_3.2.toNat 0))→¬x_5∈x.1.2.1→x_5∈x_4.1++[(ak x.1.1 (x_3.1.getD x_3.2.toNat 0)).getD x_4.2.toNat 0])∧((↑(ak x.1.1 (x_3.1.getD x_3.2.toNat 0)).length:Int) - (x_4.2+1)).toNat<((↑(ak x.1.1 (x_3.1.getD x_3.2.toNat 0)).length:Int) - x_4.2).toNat)∧((!aI x.1.2.1 ((ak x.1.1 (x_3.1.getD x_3.2.toNat 0)).getD x_4.2.toNat 0)&&!aI x_4.1 ((ak x.1.1 (x_3.1.getD x_3.2.toNat 0)).getD x_4.2.toNat 0))=false→ai .i64 (x_4.2+1)∧(0≤x_4.2+1∧x_4.2+1≤(↑(ak x.1.1 (x_3.1.getD x_3.2.toNat 0)).length:Int)∧x_4.1.Nodup∧(∃ (k:List Int),x_4.1=x_3.1++k∧∀ (x_5:Int),x_5∈k→x_5∈ak x.1.1 (x_3.1.getD x_3.2.toNat 0)∧¬x_5∈x.1.2.1)∧∀ (x_5:Int),x_5∈List.take (x_4.2+1).toNat (ak x.1.1 (x_3.1.getD x_3.2.toNat 0))→¬x_5∈x.1.2.1→x_5∈x_4.1)∧((↑(ak x.1.1 (x_3.1.getD x_3.2.toNat 0)).length:Int) - (x_4.2+1)).toNat<((↑(ak x.1.1 (x_3.1.getD x_3.2.toNat 0)).length:Int) - x_4.2).toNat))∧(decide (x_4.2<(↑(ak x.1.1 (x_3.1.getD x_3.2.toNat 0)).length:Int))=false→ai .i64 (x_3.2+1)∧(0≤x_3.2+1∧x_3.2+1≤(↑x_4.1.length:Int)∧InY x.1 x.2 x_4.1∧(∀ (x_5:Int),x_5∈cM x.1.1 x.1.2.1 x.1.2.2 x.2→x_5∈x_4.1)∧∀ (n:Int),n∈List.take (x_3.2+1).toNat x_4.1→∀ (x_5:Int),x_5∈bZ x.1.1 x.1.2.1 n→x_5∈x_4.1)∧(256 - (x_3.2+1)).toNat<(256 - x_3.2).toNat))∧(decide (x_3.2<(↑x_3.1.length:Int))=false→True∧aU x_3.1=(aE x.1 x.2).1∧0=(aE x.1 x.2).2∧True))))
theorem ux:rE:=by
 unfold rE
 intro ⟨⟨a,old,nt⟩,f⟩ ⟨⟨⟨hb,hw⟩,⟨hbo,_⟩,hbn,_⟩,hbf,hf⟩ _
 unfold aC at hb hbo hbn hbf
 simp only at hb hw hbo hbn hbf hf ⊢
 have hF:aE (a,old,nt) f=if a8 (a,old,nt)≠0 then ([],a8 (a,old,nt)) else if f.all (isB (aa a).1)=true then (aF (a,old,nt) f,0) else ([],5):=rfl
 refine ⟨trivial,fun h=>?_,fun h=>⟨trivial,?_⟩⟩
 ·rw [hF,if_pos (of_decide_eq_true h)]
  exact ⟨rfl,rfl,trivial⟩
 have hA:a8 (a,old,nt)=0:=by simpa using of_decide_eq_false h
 rw [if_neg (by omega)] at hF
 obtain ⟨hc,ho,hn⟩:=jP hA
 have hget:=fun x=>kk (br a) x
 have hsome:∀ x,(bc (a7 (aa a).1) x).isSome=isB (aa a).1 x:=fun x=>by rw [hget]; cases isB (aa a).1 x <;> rfl
 have hhd:∀ x,isB (aa a).1 x=true→(bc (a7 (aa a).1) x).getD (0,0,0,false)=jQ a x:=fun x hx=>by rw [hget,if_pos hx]; rfl
 simp only [hsome]
 refine ⟨⟨by omega,by omega,List.nodup_nil,(fun x hx=>by cases hx),(fun x hx=>by simp at hx),(fun x hx=>by simp at hx)⟩,fun ⟨o,i⟩ ⟨i0,i1,i2,i3,i4,i5⟩=>⟨fun hlt=>?_,fun hge=>?_⟩⟩
 ·have hlt:=of_decide_eq_true hlt
  simp only at i0 i1 i2 i3 i4 i5 hlt ⊢
  have ht:=cN (0:Int) i0 hlt
  have hm:=bz (0:Int) i0 hlt
  have hl:=cP i2 (fun y hy=>co (i5 y (i3 y hy).1))
  generalize f.getD i.toNat 0=x at *
  rw [ht]
  simp only [ai,aC,List.length_singleton]
  refine ⟨i0,hlt,fun hn=>?_,fun hn=>fun _=>⟨trivial,fun _=>trivial,fun hq=>?_,fun hq=>?_⟩⟩
  ·rw [if_neg (fun hall=>by rw [List.all_eq_true.1 hall x hm] at hn; cases hn)] at hF
   rw [hF]
   exact ⟨rfl,rfl,trivial⟩
  all_goals have hn:isB (aa a).1 x=true:=by simpa using hn
  all_goals have i6:∀ y∈f.take i.toNat++[x],isB (aa a).1 y=true:=fun y hy=>(List.mem_append.1 hy).elim (i5 y) (fun hy=>by rw [List.mem_singleton.1 hy]; exact hn)
  ·obtain ⟨h1,h2⟩:=um hq
   refine ⟨by omega,by omega,⟨by omega,by omega,ir i2 h2,fun y hy=>?_,fun y hy hyo=>?_,i6⟩,by omega⟩
   ·rcases List.mem_append.1 hy with hy | hy
    ·exact ⟨List.mem_append_left _ (i3 y hy).1,(i3 y hy).2⟩
    ·rw [List.mem_singleton.1 hy]; exact ⟨by simp,h1⟩
   ·rcases List.mem_append.1 hy with hy | hy
    ·exact List.mem_append_left _ (i4 y hy hyo)
    ·exact List.mem_append_right _ hy
  ·refine ⟨by omega,⟨by omega,by omega,i2,fun y hy=>⟨List.mem_append_left _ (i3 y hy).1,(i3 y hy).2⟩,fun y hy hyo=>?_,i6⟩,by omega⟩
   rcases List.mem_append.1 hy with hy | hy
   ·exact i4 y hy hyo
   ·rw [List.mem_singleton.1 hy] at hyo ⊢
    exact sw hq hyo
 have hge:=of_decide_eq_false hge
 simp only at i2 i3 i4 i5 hge ⊢
 rw [d7 hge] at i3 i4 i5
 rw [if_pos (List.all_eq_true.2 i5)] at hF
 rw [hF]
 have hY:∀ x,RchG (bZ a old) (cM a old nt f) x→isB (aa a).1 x=true∧¬ x∈old:=fun x hx=>jR hw hA i5 hx
 have hR:∀ x,RchG (bZ a old) (cM a old nt f) x→0≤x∧x≤255:=fun x hx=>co (hY x hx).1
 have houts:∀ x,isB (aa a).1 x=true→(ak a x).length≤1000:=fun x hx=>by
  obtain ⟨k1,k2,k3,k4,k5,k6⟩:=kY hx
  have h1:(ak a x).length≤(gl a x).length:=by
   unfold ak
   rw [List.length_map]
   exact List.length_filter_le _ _
  have hal:=(fw hx).2.2.2.2
  omega
 have hY0:InY (a,old,nt) f o:=⟨i2,fun x hx=>.base (dW.2 ⟨.inl (i3 x hx).1,(i3 x hx).2⟩)⟩
 clear i0 i1 i2 i3
 refine ⟨⟨by omega,by omega,hY0,i4,fun n hn=>by simp at hn⟩,fun ⟨o1,i⟩ ⟨i0,i1,i2,i3,i6⟩=>⟨fun hlt=>?_,fun hge=>?_⟩⟩
 ·have hlt:=of_decide_eq_true hlt
  simp only at i0 i1 i2 i3 i6 hlt ⊢
  have ht:=cN (0:Int) i0 hlt
  have hm:=bz (0:Int) i0 hlt
  generalize nt.getD i.toNat 0=x at *
  have hxB:=ho x (hn x hm)
  have hl1:=houts x hxB
  have hR1:∀ y∈ak a x,¬ y∈old→RchG (bZ a old) (cM a old nt f) y:=fun y hy hyo=>.base (dW.2 ⟨.inr ⟨x,hm,hy⟩,hyo⟩)
  rw [ht]
  have hloop:=pg (ns:=ak a x) (o0:=o1) (old:=old) (N:=256) (K:=fun o=>ai IntKind.i64 (i+1)∧(0≤i+1∧i+1≤(nt.length:Int)∧InY (a,old,nt) f o∧(∀ x_4∈f,¬ x_4∈old→x_4∈o)∧∀ n∈nt.take i.toNat++[x],∀ x_4∈bZ a old n,x_4∈o)∧((nt.length:Int) - (i+1)).toNat<((nt.length:Int) - i).toNat)
   (fun o k h1 h2 h3=>cP h1 (fun y hy=>hR y (by
    rw [h2] at hy
    rcases List.mem_append.1 hy with hy | hy
    ·exact i2.only y hy
    ·exact hR1 y (h3 y hy).1 (h3 y hy).2))) (by omega) hl1 i2.nodup (fun o k h1 h2 h3 h4=>by
    simp only [ai]
    refine ⟨by omega,⟨by omega,by omega,⟨h1,fun y hy=>?_⟩,fun y hy hyo=>by rw [h2]; exact List.mem_append_left _ (i3 y hy hyo),fun n hn y hy=>?_⟩,by omega⟩
    ·rw [h2] at hy
     rcases List.mem_append.1 hy with hy | hy
     ·exact i2.only y hy
     ·exact hR1 y (h3 y hy).1 (h3 y hy).2
    ·rcases List.mem_append.1 hn with hn | hn
     ·rw [h2]; exact List.mem_append_left _ (i6 n hn y hy)
     ·rw [List.mem_singleton.1 hn] at hy
      obtain ⟨q1,q2⟩:=dS.1 hy
      exact h4 y q1 q2)
  refine ⟨i0,hlt,⟨hc,hxB,hhd x hxB⟩,hloop.1,fun y hy=>⟨fun hj=>?_,(hloop.2 y hy).2⟩⟩
  obtain ⟨g1,g2,g3,g4⟩:=(hloop.2 y hy).1 hj
  refine ⟨g1,g2,by omega,fun _=>⟨trivial,fun _=>trivial,g3,g4⟩⟩
 have hge:=of_decide_eq_false hge
 simp only at i2 i3 i6 hge ⊢
 rw [d7 hge] at i6
 have hbase:∀ x∈cM a old nt f,x∈o1:=fun x hx=>by
  obtain ⟨h1,h2⟩:=dW.1 hx
  rcases h1 with h1 | ⟨n,hnn,h1⟩
  ·exact i3 x h1 h2
  ·exact i6 n hnn x (dS.2 ⟨h1,h2⟩)
 clear i0 i1 i3 i6
 refine ⟨⟨by omega,by omega,i2,hbase,fun n hn=>by simp at hn⟩,fun ⟨o2,i⟩ ⟨i0,i1,i3,i6,i7⟩=>⟨fun hlt=>?_,fun hge=>?_⟩⟩
 ·have hlt:=of_decide_eq_true hlt
  simp only at i0 i1 i3 i6 i7 hlt ⊢
  have ht:=cN (0:Int) i0 hlt
  have hm:=bz (0:Int) i0 hlt
  have hol2:=cP i3.nodup (fun y hy=>hR y (i3.only y hy))
  generalize o2.getD i.toNat 0=x at *
  have hxB:=(hY x (i3.only x hm)).1
  have hl1:=houts x hxB
  have hR1:∀ y∈ak a x,¬ y∈old→RchG (bZ a old) (cM a old nt f) y:=fun y hy hyo=>.step (i3.only x hm) (dS.2 ⟨hy,hyo⟩)
  have hloop:=pg (ns:=ak a x) (o0:=o2) (old:=old) (N:=256) (K:=fun o=>ai IntKind.i64 (i+1)∧(0≤i+1∧i+1≤(o.length:Int)∧InY (a,old,nt) f o∧(∀ x_5∈cM a old nt f,x_5∈o)∧∀ n∈o.take (i+1).toNat,∀ x_5∈bZ a old n,x_5∈o)∧(256 - (i+1)).toNat<(256 - i).toNat)
   (fun o k h1 h2 h3=>cP h1 (fun y hy=>hR y (by
    rw [h2] at hy
    rcases List.mem_append.1 hy with hy | hy
    ·exact i3.only y hy
    ·exact hR1 y (h3 y hy).1 (h3 y hy).2))) (by omega) hl1 i3.nodup (fun o k h1 h2 h3 h4=>by
    have hlen:o2.length≤o.length:=by rw [h2]; simp
    have e3:o.take (i+1).toNat=o2.take i.toNat++[x]:=by rw [h2,List.take_append_of_le_length (by omega),ht]
    rw [e3]
    simp only [ai]
    refine ⟨by omega,⟨by omega,by omega,⟨h1,fun y hy=>?_⟩,fun y hy=>by rw [h2]; exact List.mem_append_left _ (i6 y hy),fun n hn y hy=>?_⟩,by omega⟩
    ·rw [h2] at hy
     rcases List.mem_append.1 hy with hy | hy
     ·exact i3.only y hy
     ·exact hR1 y (h3 y hy).1 (h3 y hy).2
    ·rcases List.mem_append.1 hn with hn | hn
     ·rw [h2]; exact List.mem_append_left _ (i7 n hn y hy)
     ·rw [List.mem_singleton.1 hn] at hy
      obtain ⟨q1,q2⟩:=dS.1 hy
      exact h4 y q1 q2)
  refine ⟨i0,hlt,by omega,i0,hlt,by omega,⟨hc,hxB,hhd x hxB⟩,hloop.1,fun y hy=>⟨fun hj=>?_,(hloop.2 y hy).2⟩⟩
  obtain ⟨g1,g2,g3,g4⟩:=(hloop.2 y hy).1 hj
  exact ⟨g1,g2,fun _=>⟨trivial,fun _=>trivial,g3,g4⟩⟩
 ·have hge:=of_decide_eq_false hge
  simp only at i3 i6 i7 hge ⊢
  rw [d7 hge] at i7
  exact ⟨trivial,(FullG.mk i6 i3.only i7).sorted hR i3.nodup,by first | exact trivial | rfl,trivial⟩
theorem rM:vF.ok Try.prog 49:=aQ (ann:=wI) (af uV (af gp (af lD (af oX (wP vX ar))))) Try.func49 (by kernel_rfl) ux
def ot:Nat→Option LoopGen
 | 3=>some { rd:=[.box 2 bb,.dat 1 (.arr ty_I)],A:=fun ((g,f):cE×List Int)=>{ cs:=[.own 5 3 ty_I,.dat 6 .bool],inv:=fun ((l,ag):List Int×Bool)=>InY g f l∧(ag=false→FullG (bZ g.1 g.2.1) (cM g.1 g.2.1 g.2.2 f) l),mu:=fun ((l,ag):List Int×Bool)=>2 * (256 - l.length)+(if ag=true then 1 else 0) } }
 | 6=>some { rd:=[.own 15 3 ty_I,.box 2 bb,.dat 1 (.arr ty_I),.own 5 3 ty_I],A:=fun ((all,g,f,l0):List Int×cE×List Int×List Int)=>{ cs:=[.own 5 3 ty_I,.dat 6 .bool,.dat 17 ty_I],inv:=fun ((l,ag,i):List Int×Bool×Int)=>0≤i∧i≤all.length∧InY g f l∧(ag=false→l=l0∧∀ x∈all.take i.toNat,¬ x∈g.2.1→¬ x∈l0→¬ x∈f∧∀ b,b∈g.2.2∨b∈l0→¬ x∈ak g.1 b)∧(ag=true→l0.length<l.length),mu:=fun ((_,_,i):List Int×Bool×Int)=>(all.length - i).toNat } }
 | 11=>some { rd:=[.own 37 3 ty_I,.box 2 bb,.dat 8 ty_I,.dat 9 .bool],A:=fun ((bs,g,x,b0):List Int×cE×Int×Bool)=>{ cs:=[.dat 9 .bool,.dat 39 ty_I],inv:=fun ((b,j):Bool×Int)=>0≤j∧j≤bs.length∧(b=true ↔ b0=true∨∃ y∈bs.take j.toNat,x∈ak g.1 y),mu:=fun ((_,j):Bool×Int)=>(bs.length - j).toNat } }
 | _=>none
def nG:Spec:={ Ts:=[bb,.arr ty_I],Rs:=[.own 3 ty_I],pre:=fun ((g,f):cE×List Int)=>a8 g=0∧(∀ x∈f,isB (aa g.1).1 x=true)∧(g.2.2.length+256) * 8≤140737488355328,F:=fun ((g,f):cE×List Int)=>aF g f }
def gY:Prop :=
  ∀ (x:(List Int×List Int×List Int)×List Int),(((x.1.1.length * (8:Nat)≤aC∧∀ (x_1:Int),x_1∈x.1.1→ai IntKind.u64 x_1)∧(x.1.2.1.length * (8:Nat)≤aC∧∀ (x_1:Int),x_1∈x.1.2.1→ai IntKind.i64 x_1)∧x.1.2.2.length * (8:Nat)≤aC∧∀ (x_1:Int),x_1∈x.1.2.2→ai IntKind.i64 x_1)∧x.2.length * (8:Nat)≤aC∧∀ (x_1:Int),x_1∈x.2→ai IntKind.i64 x_1)→a8 x.1=(0:Int)∧(∀ (x_1:Int),x_1∈x.2→isB (aa x.1.1).1 x_1=true)∧(x.1.2.2.length+(256:Nat)) * (8:Nat)≤(140737488355328:Nat)→(InY x.1 x.2 ([]:List Int)∧(true=false→FullG (bZ x.1.1 x.1.2.1) (cM x.1.1 x.1.2.1 x.1.2.2 x.2) ([]:List Int)))∧∀ (x_1:List Int×Bool),InY x.1 x.2 x_1.1∧(x_1.2=false→FullG (bZ x.1.1 x.1.2.1) (cM x.1.1 x.1.2.1 x.1.2.2 x.2) x_1.1)→(x_1.2=true→True∧((0:Int)≤(0:Int)∧(0:Int)≤(↑(ab (aa x.1.1).1).length:Int)∧InY x.1 x.2 x_1.1∧(false=false→x_1.1=x_1.1∧∀ (x_2:Int),x_2∈List.take (Int.toNat (0:Int)) (ab (aa x.1.1).1)→¬x_2∈x.1.2.1→¬x_2∈x_1.1→¬x_2∈x.2∧∀ (b:Int),b∈x.1.2.2∨b∈x_1.1→¬x_2∈ak x.1.1 b)∧(false=true→x_1.1.length<x_1.1.length))∧∀ (x_2:List Int×Bool×Int),(0:Int)≤x_2.2.2∧x_2.2.2≤(↑(ab (aa x.1.1).1).length:Int)∧InY x.1 x.2 x_2.1∧(x_2.2.1=false→x_2.1=x_1.1∧∀ (x_3:Int),x_3∈List.take x_2.2.2.toNat (ab (aa x.1.1).1)→¬x_3∈x.1.2.1→¬x_3∈x_1.1→¬x_3∈x.2∧∀ (b:Int),b∈x.1.2.2∨b∈x_1.1→¬x_3∈ak x.1.1 b)∧(x_2.2.1=true→x_1.1.length<x_2.1.length)→(decide (x_2.2.2<(↑(ab (aa x.1.1).1).length:Int))=true→(0:Int)≤x_2.2.2∧x_2.2.2<(↑(ab (aa x.1.1).1).length:Int)∧x_2.2.2.toNat<(ab (aa x.1.1).1).length∧True∧(aI x.1.2.1 ((ab (aa x.1.1).1).getD x_2.2.2.toNat (0:Int))=false→True)∧((aI x.1.2.1 ((ab (aa x.1.1).1).getD x_2.2.2.toNat (0:Int))||aI x_2.1 ((ab (aa x.1.1).1).getD x_2.2.2.toNat (0:Int)))=true→ai IntKind.i64 (x_2.2.2+(1:Int))∧((0:Int)≤x_2.2.2+(1:Int)∧x_2.2.2+(1:Int)≤(↑(ab (aa x.1.1).1).length:Int)∧InY x.1 x.2 x_2.1∧(x_2.2.1=false→x_2.1=x_1.1∧∀ (x_3:Int),x_3∈List.take (x_2.2.2+(1:Int)).toNat (ab (aa x.1.1).1)→¬x_3∈x.1.2.1→¬x_3∈x_1.1→¬x_3∈x.2∧∀ (b:Int),b∈x.1.2.2∨b∈x_1.1→¬x_3∈ak x.1.1 b)∧(x_2.2.1=true→x_1.1.length<x_2.1.length))∧((↑(ab (aa x.1.1).1).length:Int) - (x_2.2.2+(1:Int))).toNat<((↑(ab (aa x.1.1).1).length:Int) - x_2.2.2).toNat)∧((aI x.1.2.1 ((ab (aa x.1.1).1).getD x_2.2.2.toNat (0:Int))||aI x_2.1 ((ab (aa x.1.1).1).getD x_2.2.2.toNat (0:Int)))=false→True∧x.1.2.2.length * (8:Nat)≤aC∧(x.1.2.2.length+x_2.1.length) * (8:Nat)≤aC∧((0:Int)≤(0:Int)∧(0:Int)≤(↑(x.1.2.2++x_2.1).length:Int)∧(aI x.2 ((ab (aa x.1.1).1).getD x_2.2.2.toNat (0:Int))=true ↔ aI x.2 ((ab (aa x.1.1).1).getD x_2.2.2.toNat (0:Int))=true∨∃ (y:Int),y∈List.take (Int.toNat (0:Int)) (x.1.2.2++x_2.1)∧(ab (aa x.1.1).1).getD x_2.2.2.toNat (0:Int)∈ak x.1.1 y))∧∀ (x_3:Bool×Int),(0:Int)≤x_3.2∧x_3.2≤(↑(x.1.2.2++x_2.1).length:Int)∧(x_3.1=true ↔ aI x.2 ((ab (aa x.1.1).1).getD x_2.2.2.toNat (0:Int))=true∨∃ (y:Int),y∈List.take x_3.2.toNat (x.1.2.2++x_2.1)∧(ab (aa x.1.1).1).getD x_2.2.2.toNat (0:Int)∈ak x.1.1 y)→(decide (x_3.2<(↑(x.1.2.2++x_2.1).length:Int))=true→(0:Int)≤x_3.2∧x_3.2<(↑(x.1.2.2++x_2.1).length:Int)∧x_3.2.toNat<(x.1.2.2++x_2.1).length∧(x_3.1=false→True)∧(x_3.1=false→True)∧ai IntKind.i64 (x_3.2+(1:Int))∧((0:Int)≤x_3.2+(1:Int)∧x_3.2+(1:Int)≤(↑(x.1.2.2++x_2.1).length:Int)∧((x_3.1||aI (ay x.1.1 ((x.1.2.2++x_2.1).getD x_3.2.toNat (0:Int)) (ac ((x.1.2.2++x_2.1).getD x_3.2.toNat (0:Int)) (aa x.1.1).1).1) ((ab (aa x.1.1).1).getD x_2.2.2.toNat (0:Int)))=true ↔ aI x.2 ((ab (aa x.1.1).1).getD x_2.2.2.toNat (0:Int))=true∨∃ (y:Int),y∈List.take (x_3.2+(1:Int)).toNat (x.1.2.2++x_2.1)∧(ab (aa x.1.1).1).getD x_2.2.2.toNat (0:Int)∈ak x.1.1 y))∧((↑(x.1.2.2++x_2.1).length:Int) - (x_3.2+(1:Int))).toNat<((↑(x.1.2.2++x_2.1).length:Int) - x_3.2).toNat)∧(decide (x_3.2<(↑(x.1.2.2++x_2.1).length:Int))=false→(x_3.1=true→(x_2.1.length+[(ab (aa x.1.1).1).getD x_2.2.2.toNat (0:Int)].length) * (8:Nat)≤aC∧ai IntKind.i64 (x_2.2.2+(1:Int))∧((0:Int)≤x_2.2.2+(1:Int)∧x_2.2.2+(1:Int)≤(↑(ab (aa x.1.1).1).length:Int)∧InY x.1 x.2 (x_2.1++[(ab (aa x.1.1).1).getD x_2.2.2.toNat (0:Int)])∧(true=false→x_2.1++[(ab (aa x.1.1).1).getD x_2.2.2.toNat (0:Int)]=x_1.1∧∀ (x_4:Int),x_4∈List.take (x_2.2.2+(1:Int)).toNat (ab (aa x.1.1).1)→¬x_4∈x.1.2.1→¬x_4∈x_1.1→¬x_4∈x.2∧∀ (b:Int),b∈x.1.2.2∨b∈x_1.1→¬x_4∈ak x.1.1 b)∧(true=true→x_1.1.length<(x_2.1++[(ab (aa x.1.1).1).getD x_2.2.2.toNat (0:Int)]).length))∧((↑(ab (aa x.1.1).1).length:Int) - (x_2.2.2+(1:Int))).toNat<((↑(ab (aa x.1.1).1).length:Int) - x_2.2.2).toNat)∧(x_3.1=false→ai IntKind.i64 (x_2.2.2+(1:Int))∧((0:Int)≤x_2.2.2+(1:Int)∧x_2.2.2+(1:Int)≤(↑(ab (aa x.1.1).1).length:Int)∧InY x.1 x.2 x_2.1∧(x_2.2.1=false→x_2.1=x_1.1∧∀ (x_4:Int),x_4∈List.take (x_2.2.2+(1:Int)).toNat (ab (aa x.1.1).1)→¬x_4∈x.1.2.1→¬x_4∈x_1.1→¬x_4∈x.2∧∀ (b:Int),b∈x.1.2.2∨b∈x_1.1→¬x_4∈ak x.1.1 b)∧(x_2.2.1=true→x_1.1.length<x_2.1.length))∧((↑(ab (aa x.1.1).1).length:Int) - (x_2.2.2+(1:Int))).toNat<((↑(ab (aa x.1.1).1).length:Int) - x_2.2.2).toNat))))∧(decide (x_2.2.2<(↑(ab (aa x.1.1).1).length:Int))=false→(InY x.1 x.2 x_2.1∧(x_2.2.1=false→FullG (bZ x.1.1 x.1.2.1) (cM x.1.1 x.1.2.1 x.1.2.2 x.2) x_2.1))∧((2:Nat) * ((256:Nat) - x_2.1.length)+if x_2.2.1=true then (1:Nat) else (0:Nat))<(2:Nat) * ((256:Nat) - x_1.1.length)+if x_1.2=true then (1:Nat) else (0:Nat)))∧(x_1.2=false→True∧aA x_1.1 (256:Nat)=aF x.1 x.2∧True)
theorem lQ:gY:=by
 unfold gY
 intro ⟨⟨a,old,nt⟩,f⟩ ⟨⟨⟨hb,hw⟩,⟨hbo,_⟩,hbn,_⟩,hbf,_⟩ ⟨hA,hfb,hnt⟩
 unfold aC at hb hbo hbn hbf
 simp only at hb hw hbo hbn hbf hA hfb hnt ⊢
 obtain ⟨hc,ho,hn⟩:=jP hA
 have hY:∀ x,RchG (bZ a old) (cM a old nt f) x→isB (aa a).1 x=true∧¬ x∈old:=fun x hx=>jR hw hA hfb hx
 have hR:∀ x,RchG (bZ a old) (cM a old nt f) x→0≤x∧x≤255:=fun x hx=>co (hY x hx).1
 have hno:=fun (x:Int) (hx:isB (aa a).1 x=true) (y:Int)=>mB hw hc hx (y:=y)
 have hbl:(ab (aa a).1).length≤1000:=by
  have h1:=dN (aa a).1
  have h2:=bM a
  omega
 have hbB:∀ x∈ab (aa a).1,isB (aa a).1 x=true:=fun x hx=>by rw [← ce]; exact aP.2 hx
 have hBb:∀ x,isB (aa a).1 x=true→x∈ab (aa a).1:=fun x hx=>by rw [← ce] at hx; exact aP.1 hx
 refine ⟨⟨⟨List.nodup_nil,fun x hx=>by cases hx⟩,fun h=>by cases h⟩,fun ⟨l0,ag⟩ ⟨q0,q1⟩=>⟨fun hag=>?_,fun hag=>?_⟩⟩
 ·simp only at q0 q1 hag ⊢
  subst hag
  refine ⟨trivial,⟨by omega,by omega,q0,fun _=>⟨trivial,fun x hx=>by simp at hx⟩,fun h=>by cases h⟩,fun ⟨l,ag,i⟩ ⟨i0,i1,i2,i3,i4⟩=>⟨fun hlt=>?_,fun hge=>?_⟩⟩
  ·have hlt:=of_decide_eq_true hlt
   simp only at i0 i1 i2 i3 i4 hlt ⊢
   have ht:=cN (0:Int) i0 hlt
   have hm:=bz (0:Int) i0 hlt
   have hl:=cP i2.nodup (fun y hy=>hR y (i2.only y hy))
   generalize (ab (aa a).1).getD i.toNat 0=x at *
   have hxB:=hbB x hm
   have hx0:=co hxB
   rw [ht]
   simp only [ai,aC,List.length_singleton]
   refine ⟨i0,hlt,by omega,trivial,fun _=>trivial,fun hq=>?_,fun hq=>?_⟩
   ·refine ⟨by omega,⟨by omega,by omega,i2,fun hag=>⟨(i3 hag).1,fun y hy h1 h2=>?_⟩,i4⟩,by omega⟩
    rcases List.mem_append.1 hy with hy | hy
    ·exact (i3 hag).2 y hy h1 h2
    ·rw [List.mem_singleton.1 hy] at h1 h2
     rw [Bool.or_eq_true] at hq
     rcases hq with hq | hq
     ·exact absurd (aP.1 hq) h1
     ·rw [(i3 hag).1] at hq
      exact absurd (aP.1 hq) h2
   ·rw [Bool.or_eq_false_iff] at hq
    have hxo:=xq (by rw [hq.1]; rfl:(!aI old x)=true)
    have hxl:=xq (by rw [hq.2]; rfl:(!aI l x)=true)
    have hbs:(nt++l).length≤140737488355328:=by rw [List.length_append]; omega
    have hby:∀ y∈nt++l,isB (aa a).1 y=true:=fun y hy=>by
     rcases List.mem_append.1 hy with hy | hy
     ·exact ho y (hn y hy)
     ·exact (hY y (i2.only y hy)).1
    refine ⟨trivial,by omega,by omega,⟨by omega,by omega,by simp⟩,fun ⟨b,j⟩ ⟨j0,j1,j2⟩=>⟨fun hj=>?_,fun hj=>?_⟩⟩
    ·have hj:=of_decide_eq_true hj
     simp only at j0 j1 j2 hj ⊢
     have ht:=cN (0:Int) j0 hj
     have hm:=bz (0:Int) j0 hj
     generalize (nt++l).getD j.toNat 0=z at *
     have hz:=hno z (hby z hm) x
     rw [ht]
     refine ⟨j0,hj,by omega,fun _=>trivial,fun _=>trivial,by omega,⟨by omega,by omega,?_⟩,by omega⟩
     rw [Bool.or_eq_true,j2,aP]
     constructor
     ·rintro ((h | ⟨y,hy,h⟩) | h)
      ·exact .inl h
      ·exact .inr ⟨y,List.mem_append_left _ hy,h⟩
      ·exact .inr ⟨z,by simp,hz.1 ⟨aP.1 h,hx0.1⟩⟩
     ·rintro (h | ⟨y,hy,h⟩)
      ·exact .inl (.inl h)
      ·rcases List.mem_append.1 hy with hy | hy
       ·exact .inl (.inr ⟨y,hy,h⟩)
       ·rw [List.mem_singleton.1 hy] at h
        exact .inr (aP.2 (hz.2 h).1)
    ·have hj:=of_decide_eq_false hj
     simp only at j2 hj ⊢
     rw [d7 hj,aP] at j2
     refine ⟨fun hb=>?_,fun hb=>?_⟩
     ·have hx:RchG (bZ a old) (cM a old nt f) x:=by
       rcases j2.1 hb with h | ⟨y,hy,h⟩
       ·exact .base (dW.2 ⟨.inl h,hxo⟩)
       ·rcases List.mem_append.1 hy with hy | hy
        ·exact .base (dW.2 ⟨.inr ⟨y,hy,h⟩,hxo⟩)
        ·exact .step (i2.only y hy) (dS.2 ⟨h,hxo⟩)
      refine ⟨by omega,by omega,⟨by omega,by omega,i2.add hxl hx,(fun h=>by cases h),fun _=>?_⟩,by omega⟩
      rw [List.length_append,List.length_singleton]
      cases ag
      ·rw [(i3 rfl).1]; omega
      ·have:=i4 rfl; omega
     ·refine ⟨by omega,⟨by omega,by omega,i2,fun hag=>⟨(i3 hag).1,fun y hy h1 h2=>?_⟩,i4⟩,by omega⟩
      rcases List.mem_append.1 hy with hy | hy
      ·exact (i3 hag).2 y hy h1 h2
      ·rw [List.mem_singleton.1 hy]
       have hnb:¬ (x∈f∨∃ y∈nt++l,x∈ak a y):=fun h=>by rw [j2.2 h] at hb; cases hb
       rw [← (i3 hag).1]
       exact ⟨fun h=>hnb (.inl h),fun b hb h=>hnb (.inr ⟨b,List.mem_append.2 hb,h⟩)⟩
  ·have hge:=of_decide_eq_false hge
   simp only at i2 i3 i4 hge ⊢
   rw [d7 hge] at i3
   have hl:=cP i2.nodup (fun y hy=>hR y (i2.only y hy))
   have hl0:=cP q0.nodup (fun y hy=>hR y (q0.only y hy))
   refine ⟨⟨i2,fun hag=>?_⟩,?_⟩
   ·obtain ⟨e,h⟩:=i3 hag
    subst e
    have hin:∀ x,isB (aa a).1 x=true→¬ x∈old→(x∈f∨∃ b,(b∈nt∨b∈l)∧x∈ak a b)→x∈l:=fun x h1 h2 h3=>by
     apply Classical.byContradiction
     intro h4
     obtain ⟨g1,g2⟩:=h x (hBb x h1) h2 h4
     rcases h3 with h3 | ⟨b,hb,h3⟩
     ·exact g1 h3
     ·exact g2 b hb h3
    refine ⟨fun x hx=>?_,i2.only,fun x hx y hy=>?_⟩
    ·have hB:=hY x (.base hx)
     obtain ⟨h1,h2⟩:=dW.1 hx
     refine hin x hB.1 h2 ?_
     rcases h1 with h1 | ⟨n,hnn,h1⟩
     ·exact .inl h1
     ·exact .inr ⟨n,.inl hnn,h1⟩
    ·have hB:=hY y (.step (i2.only x hx) hy)
     obtain ⟨h1,h2⟩:=dS.1 hy
     exact hin y hB.1 h2 (.inr ⟨x,.inr hx,h1⟩)
   ·cases ag
    ·rw [(i3 rfl).1]; simp
    ·have:=i4 rfl
     simp only [if_true]
     omega
 ·simp only at q0 q1 hag ⊢
  exact ⟨trivial,(q1 hag).rising hR,trivial⟩
theorem nQ:nG.ok Try.prog 53:=aQ (ann:=ot) (af fJ (af kf (af ke (af mt ar)))) Try.func53 (by kernel_rfl) lQ
end Go.Proofs.Ytcnoiiohmpgckaa
