
import Derived.Test.YtcnoiiohmpgckaaSlices
namespace Go.Proofs.Ytcnoiiohmpgckaa
open Go
set_option maxRecDepth 100000
set_option maxHeartbeats 1000000
def bF (L:Nat) (n:Int) (ks:List Int):Bool:=ks.any fun k=>decide (n<0)||decide (k<0)||decide (k > (L:Int))||decide (n > (L:Int) - k)
def cj (L:Nat) (n:Int) (ks:List Int):Int:=if 256<L then 2 else if bF L n ks then 4 else 0
def xN (a:List Int) (i:Nat):Int:=a.getD (i / 8) 0 / 256 ^ (i % 8) % 256
def xj (a:List Int) (n:Nat):List Int:=(List.range n).map (xN a)
def bytesOf (a:List Int):List Int:=xj a (8 * a.length)
def qQ:Nat→Option LoopGen
 | 4=>some { rd:=[.dat 2 (.arr ty_I),.dat 1 ty_I,.dat 0 (.arr bB)],A:=fun (ks,n,a)=>{ cs:=[.dat 14 ty_I],inv:=fun (i:Int)=>0≤i∧i≤(ks:List Int).length∧(a:List Int).length≤256∧bF (a:List Int).length n ((ks:List Int).drop i.toNat)=bF (a:List Int).length n ks,mu:=fun (i:Int)=>((ks:List Int).length - i).toNat } }
 | _=>none
def pM:Spec:={ Ts:=[.arr bB,ty_I,.arr ty_I],Rs:=[.dat ty_I],pre:=fun _=>True,F:=fun ((a,n,ks):List Int×Int×List Int)=>cj a.length n ks }
def iZ:Prop :=
  ∀ (x:List Int×Int×List Int),((x.1.length * 8≤aC∧∀ (x_1:Int),x_1∈x.1→ai .u64 x_1)∧ai .i64 x.2.1∧x.2.2.length * 8≤aC∧∀ (x_1:Int),x_1∈x.2.2→ai .i64 x_1)→True→(decide (256<(↑x.1.length:Int))=true→2=cj x.1.length x.2.1 x.2.2∧True)∧(decide (256<(↑x.1.length:Int))=false→((0:Int)≤0∧0≤(↑x.2.2.length:Int)∧x.1.length≤256∧bF x.1.length x.2.1 (List.drop (Int.toNat 0) x.2.2)=bF x.1.length x.2.1 x.2.2)∧∀ (x_1:Int),0≤x_1∧x_1≤(↑x.2.2.length:Int)∧x.1.length≤256∧bF x.1.length x.2.1 (List.drop x_1.toNat x.2.2)=bF x.1.length x.2.1 x.2.2→(decide (x_1<(↑x.2.2.length:Int))=true→0≤x_1∧x_1<(↑x.2.2.length:Int)∧((decide (x.2.1<0)||decide (x.2.2.getD x_1.toNat (0:Int)<0)||decide ((↑x.1.length:Int)<x.2.2.getD x_1.toNat 0))=false→ai .i64 ((↑x.1.length:Int) - x.2.2.getD x_1.toNat 0))∧((decide (x.2.1<0)||decide (x.2.2.getD x_1.toNat (0:Int)<0)||decide ((↑x.1.length:Int)<x.2.2.getD x_1.toNat 0)||decide ((↑x.1.length:Int) - x.2.2.getD x_1.toNat 0<x.2.1))=true→4=cj x.1.length x.2.1 x.2.2∧True)∧((decide (x.2.1<0)||decide (x.2.2.getD x_1.toNat (0:Int)<0)||decide ((↑x.1.length:Int)<x.2.2.getD x_1.toNat 0)||decide ((↑x.1.length:Int) - x.2.2.getD x_1.toNat 0<x.2.1))=false→ai .i64 (x_1+1)∧(0≤x_1+1∧x_1+1≤(↑x.2.2.length:Int)∧x.1.length≤256∧bF x.1.length x.2.1 (List.drop (x_1+1).toNat x.2.2)=bF x.1.length x.2.1 x.2.2)∧((↑x.2.2.length:Int) - (x_1+1)).toNat<((↑x.2.2.length:Int) - x_1).toNat))∧(decide (x_1<(↑x.2.2.length:Int))=false→0=cj x.1.length x.2.1 x.2.2∧True))
theorem nn:iZ:=by
 unfold iZ
 intro ⟨a,n,ks⟩ ⟨⟨ha,_⟩,⟨_,_⟩,hk,hks⟩ _
 unfold cj aC at *
 refine ⟨fun h=>?_,fun h=>⟨⟨by omega,by grind,by grind,by simp⟩,fun i ⟨h0,h1,h2,h3⟩=>⟨fun hlt=>?_,fun hge=>?_⟩⟩⟩
 ·grind
 ·have hlt:i<(ks.length:Int):=by simpa using hlt
  have e:=aD (0:Int) h0 hlt
  have hm:=hks _ (bz (0:Int) h0 hlt)
  simp only [e] at h3
  simp only [bF,List.any_cons,ai] at *
  grind
 ·rw [aX (by simpa using hge)] at h3
  simp only [bF,List.any_nil] at *
  grind
theorem qe:pM.ok Try.prog 158:=aQ (ann:=qQ) ar Try.func158 (by kernel_rfl) nn
end Go.Proofs.Ytcnoiiohmpgckaa
