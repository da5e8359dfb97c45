
import Derived.Test.YtcnoiiohmpgckaaTapes
namespace Go.Proofs.Ytcnoiiohmpgckaa
open Go
set_option maxRecDepth 100000
set_option maxHeartbeats 1000000
def xj:RowFn:={ e:=5,T:=nQ,Ts:=[bv],out:=true,pre:=fun (o _:List Int) _=>(o.length+10) * 8≤140737488355328,F:=fun (o _:List Int) (n:Int)=>(o++ar n:List Int) }
def yd:Nat→Option LoopGen
 | 3000071=>some gv
 | 7200000001=>some { rd:=[.own 0 5 nQ,.dat 1 bv],A:=fun ((o0,n0):List Int×Int)=>{ cs:=[.own 0 5 nQ,.dat 1 bv],inv:=fun ((out,n):List Int×Int)=>0≤n∧out++ar n=o0++ar n0,mu:=fun ((_,n):List Int×Int)=>n.toNat } }
 | _=>none
def pg:Prop :=
  ∀ (xs ys:List Int) (y:Int),(∀ (x:Int),x∈xs→am IntKind.u8 x)→xs.length * (8:Nat)≤aC→am IntKind.u64 y→(xs.length+(10:Nat)) * (8:Nat)≤(140737488355328:Nat)→∀ (_:Array Value),((0:Int)≤y∧xs++ar y=xs++ar y)∧∀ (x:List Int×Int),(0:Int)≤x.2∧x.1++ar x.2=xs++ar y→(decide ((128:Int)≤x.2)=true→(x.1.length+[(↑((IntKind.u8.wrap x.2).toNat ||| Int.toNat (128:Int)):Int)].length) * (8:Nat)≤aC∧(0:Int)≤(7:Int)∧(7:Int)<(↑IntKind.u64.bits:Int)∧((0:Int)≤x.2 / (2:Int) ^ Int.toNat (7:Int)∧x.1++[(↑((IntKind.u8.wrap x.2).toNat ||| Int.toNat (128:Int)):Int)]++ar (x.2 / (2:Int) ^ Int.toNat (7:Int))=xs++ar y)∧(x.2 / (2:Int) ^ Int.toNat (7:Int)).toNat<x.2.toNat)∧(decide ((128:Int)≤x.2)=false→(x.1.length+[IntKind.u8.wrap x.2].length) * (8:Nat)≤aC∧x.1++[IntKind.u8.wrap x.2]=xs++ar y)
theorem uY:pg:=by
 unfold pg
 intro o _ n _ _ hn hp _
 have hlen:=n9 hn
 simp only [am] at hn
 refine ⟨⟨hn.1,by first | exact trivial | rfl⟩,fun ⟨o3,m⟩ ⟨m0,m1⟩=>⟨fun hmm=>?_,fun hmm=>?_⟩⟩
 ·have hmm:=of_decide_eq_true hmm
  simp only at m0 m1 hmm ⊢
  have e1:m / 2 ^ Int.toNat 7=m / 128:=rfl
  have hl3:=congrArg List.length m1
  have hp:=AJ m
  rw [BR m0,e1]
  simp only [List.length_append,List.length_cons,List.length_nil,aC,B2] at *
  refine ⟨by omega,by omega,by omega,⟨by omega,?_⟩,by omega⟩
  rw [← m1,lA (n:=m) (by omega),List.append_assoc]
  rfl
 ·have hmm:=of_decide_eq_false hmm
  simp only at m0 m1 hmm ⊢
  rw [ek (n:=m) (by omega)] at m1
  have hl3:=congrArg List.length m1
  rw [yk,Int.emod_eq_of_lt m0 (by omega),m1]
  simp only [List.length_append,List.length_cons,List.length_nil,aC] at *
  exact ⟨by omega,by first | exact trivial | rfl⟩
theorem xG:xj.ok Try.prog 71:=Ca (ann:=yd) ax rfl (by kernel_rfl) uY
def xk:BoxFn:={ T:=iv,Ts:=[],R:=bv,pre:=fun _ _=>True,F:=fun (r:Rd) _=>ak r }
def ye:Nat→Option LoopGen
 | 3000073=>some gv
 | 7400000003=>some { rd:=[.box 900000 iv],A:=fun (r0:Rd)=>{ cs:=[.box 900000 iv,.dat 3 bv,.dat 12 ty_I],inv:=fun ((r,n,i):Rd×Int×Int)=>r=r0∧0≤i∧i≤r0.1.length∧i≤10∧(∀ c∈r0.1.take i.toNat,128≤c.toNat)∧(i≤9→n=bS (r0.1.take i.toNat)),mu:=fun ((_,_,i):Rd×Int×Int)=>(10 - i).toNat } }
 | _=>none
def ph:Prop :=
  ∀ (x:List UInt8×Bool) (y:Unit),x.1.length≤aC∧True→True→True→∀ (_:Array Value),(x=x∧(0:Int)≤0∧0≤(↑x.1.length:Int)∧(0:Int)≤10∧(∀ (c:UInt8),c∈List.take (Int.toNat 0) x.1→128≤c.toNat)∧((0:Int)≤9→0=bS (List.take (Int.toNat 0) x.1)))∧∀ (x_1:(List UInt8×Bool)×Int×Int),x_1.1=x∧0≤x_1.2.2∧x_1.2.2≤(↑x.1.length:Int)∧x_1.2.2≤10∧(∀ (c:UInt8),c∈List.take x_1.2.2.toNat x.1→128≤c.toNat)∧(x_1.2.2≤9→x_1.2.1=bS (List.take x_1.2.2.toNat x.1))→(decide (x_1.2.2<if 10<(↑x.1.length:Int) then (10:Int) else (↑x.1.length:Int))=true→0≤x_1.2.2∧x_1.2.2<(↑x_1.1.1.length:Int)∧am .i64 (7 * x_1.2.2)∧(0:Int)≤7 * x_1.2.2∧7 * x_1.2.2<(↑IntKind.u64.bits:Int)∧(decide ((↑(x_1.1.1.getD x_1.2.2.toNat (0:UInt8)).toNat:Int)<128)=true→am .i64 (x_1.2.2+1)∧0≤x_1.2.2+1∧x_1.2.2+1≤(↑x_1.1.1.length:Int)∧(↑(x_1.2.1.toNat ||| (IntKind.u64.wrap ((↑((↑(x_1.1.1.getD x_1.2.2.toNat (0:UInt8)).toNat:Int).toNat &&& Int.toNat 127):Int) * 2 ^ (7 * x_1.2.2).toNat)).toNat):Int)=(ak x).1∧(List.drop (x_1.2.2+1).toNat x_1.1.1,x_1.1.2||decide ((↑(x_1.1.1.getD x_1.2.2.toNat (0:UInt8)).toNat:Int)=0)&&decide (0<x_1.2.2)||decide (x_1.2.2=9)&&decide (1<(↑(x_1.1.1.getD x_1.2.2.toNat (0:UInt8)).toNat:Int)))=(ak x).2)∧(decide ((↑(x_1.1.1.getD x_1.2.2.toNat (0:UInt8)).toNat:Int)<128)=false→am .i64 (x_1.2.2+1)∧(x_1.1=x∧0≤x_1.2.2+1∧x_1.2.2+1≤(↑x.1.length:Int)∧x_1.2.2+1≤10∧(∀ (c:UInt8),c∈List.take (x_1.2.2+1).toNat x.1→128≤c.toNat)∧(x_1.2.2+1≤9→(↑(x_1.2.1.toNat ||| (IntKind.u64.wrap ((↑((↑(x_1.1.1.getD x_1.2.2.toNat (0:UInt8)).toNat:Int).toNat &&& Int.toNat 127):Int) * 2 ^ (7 * x_1.2.2).toNat)).toNat):Int)=bS (List.take (x_1.2.2+1).toNat x.1)))∧(10 - (x_1.2.2+1)).toNat<(10 - x_1.2.2).toNat))∧(decide (x_1.2.2<if 10<(↑x.1.length:Int) then (10:Int) else (↑x.1.length:Int))=false→0=(ak x).1∧(x_1.1.1,true)=(ak x).2)
theorem uZ:ph:=by
 unfold ph
 intro r _ _ _ _ _
 refine ⟨⟨by first | exact trivial | rfl,by omega,by omega,by omega,by simp,fun _=>by simp [bS]⟩,fun ⟨r3,n,i⟩ ⟨e0,i0,i1,i2,ha,hv⟩=>⟨fun hi=>?_,fun hi=>?_⟩⟩
 ·have hi:=of_decide_eq_true hi
  simp only at e0 i0 i1 i2 ha hv hi ⊢
  subst e0
  have hil:i<(r3.1.length:Int):=by split at hi <;> omega
  have hi9:i≤9:=by split at hi <;> omega
  have hlast:=pN i0 hil
  have hval:=ve i0 hil
  obtain rfl:=hv hi9
  have hor:=Ce (c:=r3.1.getD i.toNat 0) i0 hi9 hval.2.1 hval.2.2
  rw [hor,← hval.1]
  have hc255:=(r3.1.getD i.toNat 0).toNat_lt
  simp only [am,B2]
  refine ⟨i0,hil,by omega,by omega,by omega,fun hs=>?_,fun hs=>?_⟩
  ·have hs:(r3.1.getD i.toNat 0).toNat<128:=by have:=of_decide_eq_true hs; omega
   rw [xL (wg i0 hil hi9 ha hs)]
   refine ⟨by omega,by omega,by omega,rfl,?_⟩
   simp only [Prod.mk.injEq,true_and]
   unfold zV
   rw [hlast.1,hlast.2]
   have b1:decide (((r3.1.getD i.toNat 0).toNat:Int)=0)=decide ((r3.1.getD i.toNat 0).toNat=0):=by apply Bool.eq_iff_iff.2; simp only [decide_eq_true_eq]; omega
   have b2:decide (0<i)=decide (1<(i+1).toNat):=by apply Bool.eq_iff_iff.2; simp only [decide_eq_true_eq]; omega
   have b3:decide (i=9)=decide ((i+1).toNat=10):=by apply Bool.eq_iff_iff.2; simp only [decide_eq_true_eq]; omega
   have b4:decide (1<((r3.1.getD i.toNat 0).toNat:Int))=decide (1<(r3.1.getD i.toNat 0).toNat):=by apply Bool.eq_iff_iff.2; simp only [decide_eq_true_eq]; omega
   rw [b1,b2,b3,b4,Bool.or_assoc]
  ·have hs:128≤(r3.1.getD i.toNat 0).toNat:=by have:=of_decide_eq_false hs; omega
   refine ⟨by omega,⟨by first | exact trivial | rfl,by omega,by omega,by omega,wX i0 hil ha hs,fun h9=>?_⟩,by omega⟩
   have hl2:(r3.1.take (i+1).toNat).length=(i+1).toNat:=hlast.2
   have h3:=kD (r3.1.take (i+1).toNat)
   rw [hl2] at h3
   have:=xD (i:=i+1) (by omega) h9
   exact Int.emod_eq_of_lt (eV _) (by omega)
 ·have hi:=of_decide_eq_false hi
  simp only at e0 i0 i1 i2 ha hv hi ⊢
  subst e0
  have hend:i=10∨(r3.1.length:Int)≤i:=by split at hi <;> omega
  rw [xM (oh hend ha)]
  exact ⟨rfl,rfl⟩
theorem py:xk.ok Try.prog 73:=Bj (ann:=ye) ax (by kernel_rfl) uZ
def ae (r:Rd):Int×Rd:=if ((ak r).2.2||decide ((((ak r).2.1.length:Nat):Int)<(ak r).1))=true then (0,(ak r).2.1,true) else ((ak r).1,(ak r).2.1,false)
def tp:BoxFn:={ T:=iv,Ts:=[],R:=ty_I,pre:=fun _ _=>True,F:=fun (r:Rd) _=>ae r }
def uN:Nat→Option LoopGen
 | 3000130=>some gv
 | _=>none
def kX:Prop :=
  ∀ (x:List UInt8×Bool) (y:Unit),x.1.length≤aC∧True→True→True→∀ (_:Array Value),True∧(((ak x).2.2||decide (IntKind.u64.wrap (↑(ak x).2.1.length:Int)<(ak x).1))=true→0=(ae x).1∧((ak x).2.1,(ak x).2.2||decide (IntKind.u64.wrap (↑(ak x).2.1.length:Int)<(ak x).1))=(ae x).2)∧(((ak x).2.2||decide (IntKind.u64.wrap (↑(ak x).2.1.length:Int)<(ak x).1))=false→IntKind.i64.wrap (ak x).1=(ae x).1∧((ak x).2.1,(ak x).2.2||decide (IntKind.u64.wrap (↑(ak x).2.1.length:Int)<(ak x).1))=(ae x).2)
theorem qz:kX:=by
 unfold kX
 intro r _ ⟨hr,_⟩ _ _ _
 obtain ⟨h0,h1,h2⟩:=wb r
 unfold aC at hr
 have hw:IntKind.u64.wrap (((ak r).2.1.length:Nat):Int)=((ak r).2.1.length:Nat):=m5 (by omega) (by omega)
 have hC:ae r=if ((ak r).2.2||decide ((((ak r).2.1.length:Nat):Int)<(ak r).1))=true then (0,(ak r).2.1,true) else ((ak r).1,(ak r).2.1,false):=rfl
 rw [hw]
 refine ⟨trivial,fun h=>?_,fun h=>?_⟩
 ·rw [h,if_pos rfl] at hC
  rw [hC,h]
  exact ⟨rfl,rfl⟩
 ·rw [h,if_neg (by simp)] at hC
  rw [hC,h]
  have h:=(Bool.or_eq_false_iff.1 h).2
  have h:=of_decide_eq_false h
  refine ⟨?_,rfl⟩
  simp only
  exact eT (by omega) (by omega)
theorem tU:tp.ok Try.prog 130:=Bj (ann:=uN) (tf py ax) (by kernel_rfl) qz
end Go.Proofs.Ytcnoiiohmpgckaa
