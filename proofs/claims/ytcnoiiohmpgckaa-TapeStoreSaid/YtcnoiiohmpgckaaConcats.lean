
import Derived.Test.YtcnoiiohmpgckaaBase
namespace Go.Proofs.Ytcnoiiohmpgckaa
open Go
set_option maxRecDepth 100000
set_option maxHeartbeats 1000000
def vz:Spec:={ Ts:=[.nil,ty_I],Rs:=[.own 3 ty_I],pre:=fun ((_,n):Unit×Int)=>0≤n∧n.toNat * 8≤aC,F:=fun _=>([]:List Int) }
def np:Prop :=
  ∀ (x:Unit×Int),True∧am .i64 x.2→0≤x.2∧x.2.toNat * 8≤aC→(decide (x.2<0)=true→False)∧(decide (x.2<0)=false→am .i64 (0 - 0)∧am .i64 (x.2 - (0 - 0))∧(decide (0<x.2 - (0 - 0))=true→(0:Int)=0∧0<x.2 - (0 - 0)∧(x.2 - (0 - 0)).toNat * 8≤aC∧(0:Int)≤0∧0≤(↑(List.replicate (x.2 - (0 - 0)).toNat (0:Int)).length:Int)∧List.take (Int.toNat 0) (List.replicate (x.2 - (0 - 0)).toNat (0:Int))=([]:List Int)∧True)∧(decide (0<x.2 - (0 - 0))=false→([]:List Int)=([]:List Int)∧True))
theorem s8:np:=by
 unfold np
 intro ⟨_,n⟩ ⟨_,hn⟩ ⟨h0,hb⟩
 simp only [am] at *
 refine ⟨fun h=>?_,fun _=>⟨by omega,by omega,fun h=>⟨trivial,by have:=of_decide_eq_true h; omega,by simpa using hb,by omega,by omega,by simp,trivial⟩,fun _=>by simp⟩⟩
 have:=of_decide_eq_true h
 omega
theorem v8:vz.ok Try.prog 123:=aQ (ann:=ew) ax Try.func123 (by kernel_rfl) s8
def ra:Spec:={ Ts:=[.arr (.arr ty_I)],Rs:=[.own 3 ty_I],pre:=fun (xs:List (List Int))=>xs.flatten.length * 8≤aC,F:=fun (xs:List (List Int))=>xs.flatten }
def rU:Nat→Option LoopGen
 | 3=>some { rd:=[.dat 9 (.arr (.arr ty_I))],A:=fun (xs:List (List Int))=>{ cs:=[.dat 3 ty_I,.dat 11 ty_I],inv:=fun ((n,i):Int×Int)=>0≤i∧i≤xs.length∧n=((xs.take i.toNat).flatten.length:Int)∧xs.flatten.length * 8≤aC,mu:=fun ((_,i):Int×Int)=>(xs.length - i).toNat } }
 | 11=>some { rd:=[.dat 25 (.arr (.arr ty_I))],A:=fun (xs:List (List Int))=>{ cs:=[.own 6 3 ty_I,.dat 27 ty_I],inv:=fun ((out,i):List Int×Int)=>0≤i∧i≤xs.length∧out++(xs.drop i.toNat).flatten=xs.flatten,mu:=fun ((_,i):List Int×Int)=>(xs.length - i).toNat } }
 | _=>none
def jP:Prop :=
  ∀ (x:List (List Int)),(x.length * 24≤aC∧∀ (x_1:List Int),x_1∈x→x_1.length * 8≤aC∧∀ (x:Int),x∈x_1→am .i64 x)→x.flatten.length * 8≤aC→((0:Int)≤0∧0≤(↑x.length:Int)∧0=(↑(List.take (Int.toNat 0) x).flatten.length:Int)∧x.flatten.length * 8≤aC)∧∀ (x_1:Int×Int),0≤x_1.2∧x_1.2≤(↑x.length:Int)∧x_1.1=(↑(List.take x_1.2.toNat x).flatten.length:Int)∧x.flatten.length * 8≤aC→(decide (x_1.2<(↑x.length:Int))=true→0≤x_1.2∧x_1.2<(↑x.length:Int)∧am .i64 (x_1.1+(↑(x.getD x_1.2.toNat ([]:List Int)).length:Int))∧(decide (x_1.1+(↑(x.getD x_1.2.toNat ([]:List Int)).length:Int)<0)=true→False)∧(decide (x_1.1+(↑(x.getD x_1.2.toNat ([]:List Int)).length:Int)<0)=false→am .i64 (x_1.2+1)∧(0≤x_1.2+1∧x_1.2+1≤(↑x.length:Int)∧x_1.1+(↑(x.getD x_1.2.toNat ([]:List Int)).length:Int)=(↑(List.take (x_1.2+1).toNat x).flatten.length:Int)∧x.flatten.length * 8≤aC)∧((↑x.length:Int) - (x_1.2+1)).toNat<((↑x.length:Int) - x_1.2).toNat))∧(decide (x_1.2<(↑x.length:Int))=false→(0≤x_1.1∧x_1.1.toNat * 8≤aC)∧((0:Int)≤0∧0≤(↑x.length:Int)∧([]:List Int)++(List.drop (Int.toNat 0) x).flatten=x.flatten)∧∀ (x_2:List Int×Int),0≤x_2.2∧x_2.2≤(↑x.length:Int)∧x_2.1++(List.drop x_2.2.toNat x).flatten=x.flatten→(decide (x_2.2<(↑x.length:Int))=true→0≤x_2.2∧x_2.2<(↑x.length:Int)∧(x_2.1.length+(x.getD x_2.2.toNat ([]:List Int)).length) * 8≤aC∧am .i64 (x_2.2+1)∧(0≤x_2.2+1∧x_2.2+1≤(↑x.length:Int)∧x_2.1++x.getD x_2.2.toNat ([]:List Int)++(List.drop (x_2.2+1).toNat x).flatten=x.flatten)∧((↑x.length:Int) - (x_2.2+1)).toNat<((↑x.length:Int) - x_2.2).toNat)∧(decide (x_2.2<(↑x.length:Int))=false→x_2.1=x.flatten∧True))
theorem oH:jP:=by
 unfold jP
 intro xs ⟨hx,_⟩ hb
 simp only [am] at *
 unfold aC at *
 have hpart:∀ k,(xs.take k).flatten.length≤xs.flatten.length:=fun k=>by
  have:=congrArg List.length (congrArg List.flatten (List.take_append_drop k xs))
  rw [List.flatten_append,List.length_append] at this
  omega
 refine ⟨⟨by omega,by omega,by simp,hb⟩,fun ⟨n,i⟩ ⟨h0,h1,h2,_⟩=>⟨fun hlt=>?_,fun hge=>?_⟩⟩
 ·have hlt:i<(xs.length:Int):=by simpa using hlt
  have e:=aW ([]:List Int) h0 hlt
  have hp:=hpart (i+1).toNat
  rw [e] at hp ⊢
  simp only [List.flatten_append,List.length_append,List.flatten_cons,List.flatten_nil,List.append_nil] at *
  refine ⟨h0,hlt,by omega,fun hc=>?_,fun _=>⟨by omega,⟨by omega,by omega,by push_cast; omega,hb⟩,by omega⟩⟩
  have:=of_decide_eq_true hc
  omega
 ·have hge:¬ i<(xs.length:Int):=by simpa using hge
  rw [bM hge] at h2
  simp only at *
  refine ⟨⟨by omega,by omega⟩,⟨by omega,by omega,by simp⟩,fun ⟨out,j⟩ ⟨g0,g1,g2⟩=>⟨fun hlt=>?_,fun hge=>?_⟩⟩
  ·have hlt:j<(xs.length:Int):=by simpa using hlt
   simp only at *
   rw [aY ([]:List Int) g0 hlt,List.flatten_cons] at g2
   have hl:=congrArg List.length g2
   simp only [List.length_append] at hl
   exact ⟨g0,hlt,by omega,by omega,⟨by omega,by omega,by rw [List.append_assoc]; exact g2⟩,by omega⟩
  ·rw [bt (by simpa using hge)] at g2
   simp only [List.flatten_nil,List.append_nil] at g2
   exact ⟨g2,trivial⟩
theorem rq:ra.ok Try.prog 55:=aQ (ann:=rU) (ai v8 ax) Try.func55 (by kernel_rfl) oH
end Go.Proofs.Ytcnoiiohmpgckaa
