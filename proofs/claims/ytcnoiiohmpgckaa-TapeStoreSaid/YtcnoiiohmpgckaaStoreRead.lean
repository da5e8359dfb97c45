
import Derived.Test.YtcnoiiohmpgckaaStoreText
namespace Go.Proofs.Ytcnoiiohmpgckaa
open Go
set_option maxRecDepth 100000
set_option maxHeartbeats 1000000
def gJ (v:Int):Int:=IntKind.i64.wrap (IntKind.i64.wrap v - 1)
def bG:Nat→Rd→List fq×Rd
 | 0,r=>([],r)
 | k+1,r=>((bG k r).1++[(IntKind.i64.wrap (ak (bG k r).2).1,IntKind.i64.wrap (ak (ak (bG k r).2).2).1)],(ak (ak (bG k r).2).2).2)
def aT:Nat→Rd→List b6×Rd
 | 0,r=>([],r)
 | k+1,r=>((aT k r).1++[(IntKind.i64.wrap (ak (aT k r).2).1,decide ((ak (ak (aT k r).2).2).1=1),IntKind.i64.wrap (ak (ak (ak (aT k r).2).2).2).1)],
   ((ak (ak (ak (aT k r).2).2).2).2.1,(ak (ak (ak (aT k r).2).2).2).2.2||decide (1<(ak (ak (aT k r).2).2).1)))
def d7 (b:List UInt8):(Int×Int×Int×Int)×Rd :=
 (((ae (b,false)).1,(ae (ae (b,false)).2).1,(ae (ae (ae (b,false)).2).2).1,(ae (ae (ae (ae (b,false)).2).2).2).1),(ae (ae (ae (ae (b,false)).2).2).2).2)
def eC (b:List UInt8):aD×Rd :=
 (((br (d7 b).1.1.toNat (d7 b).2).1,
  (br (d7 b).1.2.1.toNat (br (d7 b).1.1.toNat (d7 b).2).2).1.map gJ,
  (bG (d7 b).1.2.2.1.toNat (br (d7 b).1.2.1.toNat (br (d7 b).1.1.toNat (d7 b).2).2).2).1,
  (aT (d7 b).1.2.2.2.toNat (bG (d7 b).1.2.2.1.toNat (br (d7 b).1.2.1.toNat (br (d7 b).1.1.toNat (d7 b).2).2).2).2).1),
  (aT (d7 b).1.2.2.2.toNat (bG (d7 b).1.2.2.1.toNat (br (d7 b).1.2.1.toNat (br (d7 b).1.1.toNat (d7 b).2).2).2).2).2)
def bA (b:List UInt8):aD×Int:=if ((eC b).2.2||decide ((eC b).2.1≠[])||decide (aH (eC b).1≠0))=true then (([],[],[],[]),3) else ((eC b).1,0)
theorem lX (r:Rd):0≤(ae r).1∧(ae r).1≤(r.1.length:Int)∧(ae r).2.1.length≤r.1.length:=by
 obtain ⟨h0,h1,h2⟩:=wb r
 unfold ae
 split
 ·exact ⟨by simp only; omega,by simp only; omega,h2⟩
 ·rename_i h
  have h:((ak r).2.2||decide ((((ak r).2.1.length:Nat):Int)<(ak r).1))=false:=by simpa using h
  have h:=of_decide_eq_false (Bool.or_eq_false_iff.1 h).2
  exact ⟨h0,by simp only; omega,h2⟩
theorem jR:∀ (k:Nat) (r:Rd),(bG k r).1.length=k
 | 0,_=>rfl
 | k+1,r=>by rw [bG,List.length_append,jR k r]; rfl
theorem iI:∀ (k:Nat) (r:Rd),(aT k r).1.length=k
 | 0,_=>rfl
 | k+1,r=>by rw [aT,List.length_append,iI k r]; rfl
def mZ:Nat→Option LoopGen
 | 2000000=>some gv
 | 4000006=>some gv
 | 4000010=>some gv
 | 4000014=>some gv
 | 5=>some { rd:=[.dat 24 ty_I,.box 15 iv],A:=fun ((n,r0):Int×Rd)=>{ cs:=[.box 15 iv,.boxS 9 [.own 76 bv,.own 3 ty_I,.own 191 bK,.own 193 bo],.dat 25 ty_I],inv:=fun ((r,s,i):Rd×aD×Int)=>0≤i∧i≤n∧r=(br i.toNat r0).2∧s=((br i.toNat r0).1,[],[],[]),mu:=fun ((_,_,i):Rd×aD×Int)=>(n - i).toNat } }
 | 9=>some { rd:=[.dat 35 ty_I,.box 15 iv,.boxS 9 [.own 76 bv,.own 3 ty_I,.own 191 bK,.own 193 bo]],A:=fun ((n,r0,s0):Int×Rd×aD)=>{ cs:=[.box 15 iv,.boxS 9 [.own 76 bv,.own 3 ty_I,.own 191 bK,.own 193 bo],.dat 36 ty_I],inv:=fun ((r,s,i):Rd×aD×Int)=>0≤i∧i≤n∧r=(br i.toNat r0).2∧s=(s0.1,(br i.toNat r0).1.map gJ,[],[]),mu:=fun ((_,_,i):Rd×aD×Int)=>(n - i).toNat } }
 | 13=>some { rd:=[.dat 48 ty_I,.box 15 iv,.boxS 9 [.own 76 bv,.own 3 ty_I,.own 191 bK,.own 193 bo]],A:=fun ((n,r0,s0):Int×Rd×aD)=>{ cs:=[.box 15 iv,.boxS 9 [.own 76 bv,.own 3 ty_I,.own 191 bK,.own 193 bo],.dat 49 ty_I],inv:=fun ((r,s,i):Rd×aD×Int)=>0≤i∧i≤n∧r=(bG i.toNat r0).2∧s=(s0.1,s0.2.1,(bG i.toNat r0).1,[]),mu:=fun ((_,_,i):Rd×aD×Int)=>(n - i).toNat } }
 | 17=>some { rd:=[.dat 64 ty_I,.box 15 iv,.boxS 9 [.own 76 bv,.own 3 ty_I,.own 191 bK,.own 193 bo]],A:=fun ((n,r0,s0):Int×Rd×aD)=>{ cs:=[.box 15 iv,.boxS 9 [.own 76 bv,.own 3 ty_I,.own 191 bK,.own 193 bo],.dat 65 ty_I],inv:=fun ((r,s,i):Rd×aD×Int)=>0≤i∧i≤n∧r=(aT i.toNat r0).2∧s=(s0.1,s0.2.1,s0.2.2.1,(aT i.toNat r0).1),mu:=fun ((_,_,i):Rd×aD×Int)=>(n - i).toNat } }
 | _=>none
def mq:Spec:={ Ts:=[.str],Rs:=[.dat bY,.dat ty_I],al:=true,pre:=fun (b:List UInt8)=>b.length≤1000,F:=bA }
def gK:Prop :=
  ∀ (x:List UInt8),x.length≤aC→x.length≤1000→True∧True∧True∧True∧((0:Int)≤0∧0≤(ae (x,false)).1∧(ae (ae (ae (ae (x,false)).2).2).2).2=(br (Int.toNat 0) (ae (ae (ae (ae (x,false)).2).2).2).2).2∧(([]:List Int),([]:List Int),([]:List (Int×Int)),([]:List (Int×Bool×Int)))=((br (Int.toNat 0) (ae (ae (ae (ae (x,false)).2).2).2).2).1,([]:List Int),([]:List fq),([]:List b6)))∧∀ (x_1:(List UInt8×Bool)×(List Int×List Int×List (Int×Int)×List (Int×Bool×Int))×Int),0≤x_1.2.2∧x_1.2.2≤(ae (x,false)).1∧x_1.1=(br x_1.2.2.toNat (ae (ae (ae (ae (x,false)).2).2).2).2).2∧x_1.2.1=((br x_1.2.2.toNat (ae (ae (ae (ae (x,false)).2).2).2).2).1,([]:List Int),([]:List fq),([]:List b6))→(decide (x_1.2.2<(ae (x,false)).1)=true→True∧(x_1.2.1.1.length+[(ak x_1.1).1].length) * 8≤aC∧(0≤IntKind.i64.wrap (x_1.2.2+1)∧IntKind.i64.wrap (x_1.2.2+1)≤(ae (x,false)).1∧(ak x_1.1).2=(br (IntKind.i64.wrap (x_1.2.2+1)).toNat (ae (ae (ae (ae (x,false)).2).2).2).2).2∧(x_1.2.1.1++[(ak x_1.1).1],x_1.2.1.2)=((br (IntKind.i64.wrap (x_1.2.2+1)).toNat (ae (ae (ae (ae (x,false)).2).2).2).2).1,([]:List Int),([]:List fq),([]:List b6)))∧((ae (x,false)).1 - IntKind.i64.wrap (x_1.2.2+1)).toNat<((ae (x,false)).1 - x_1.2.2).toNat)∧(decide (x_1.2.2<(ae (x,false)).1)=false→((0:Int)≤0∧0≤(ae (ae (x,false)).2).1∧x_1.1=(br (Int.toNat 0) x_1.1).2∧x_1.2.1=(x_1.2.1.1,List.map gJ (br (Int.toNat 0) x_1.1).1,([]:List fq),([]:List b6)))∧∀ (x_2:(List UInt8×Bool)×(List Int×List Int×List (Int×Int)×List (Int×Bool×Int))×Int),0≤x_2.2.2∧x_2.2.2≤(ae (ae (x,false)).2).1∧x_2.1=(br x_2.2.2.toNat x_1.1).2∧x_2.2.1=(x_1.2.1.1,List.map gJ (br x_2.2.2.toNat x_1.1).1,([]:List fq),([]:List b6))→(decide (x_2.2.2<(ae (ae (x,false)).2).1)=true→True∧(x_2.2.1.2.1.length+[IntKind.i64.wrap (IntKind.i64.wrap (ak x_2.1).1 - 1)].length) * 8≤aC∧(0≤IntKind.i64.wrap (x_2.2.2+1)∧IntKind.i64.wrap (x_2.2.2+1)≤(ae (ae (x,false)).2).1∧(ak x_2.1).2=(br (IntKind.i64.wrap (x_2.2.2+1)).toNat x_1.1).2∧(x_2.2.1.1,x_2.2.1.2.1++[IntKind.i64.wrap (IntKind.i64.wrap (ak x_2.1).1 - 1)],x_2.2.1.2.2)=(x_1.2.1.1,List.map gJ (br (IntKind.i64.wrap (x_2.2.2+1)).toNat x_1.1).1,([]:List fq),([]:List b6)))∧((ae (ae (x,false)).2).1 - IntKind.i64.wrap (x_2.2.2+1)).toNat<((ae (ae (x,false)).2).1 - x_2.2.2).toNat)∧(decide (x_2.2.2<(ae (ae (x,false)).2).1)=false→((0:Int)≤0∧0≤(ae (ae (ae (x,false)).2).2).1∧x_2.1=(bG (Int.toNat 0) x_2.1).2∧x_2.2.1=(x_2.2.1.1,x_2.2.1.2.1,(bG (Int.toNat 0) x_2.1).1,([]:List b6)))∧∀ (x_3:(List UInt8×Bool)×(List Int×List Int×List (Int×Int)×List (Int×Bool×Int))×Int),0≤x_3.2.2∧x_3.2.2≤(ae (ae (ae (x,false)).2).2).1∧x_3.1=(bG x_3.2.2.toNat x_2.1).2∧x_3.2.1=(x_2.2.1.1,x_2.2.1.2.1,(bG x_3.2.2.toNat x_2.1).1,([]:List b6))→(decide (x_3.2.2<(ae (ae (ae (x,false)).2).2).1)=true→True∧True∧IntKind.i64.wrap (ak x_3.1).1=IntKind.i64.wrap (ak x_3.1).1∧(x_3.2.1.2.2.1.length+[(IntKind.i64.wrap (ak x_3.1).1,IntKind.i64.wrap (ak (ak x_3.1).2).1)].length) * (8+8)≤aC∧(0≤IntKind.i64.wrap (x_3.2.2+1)∧IntKind.i64.wrap (x_3.2.2+1)≤(ae (ae (ae (x,false)).2).2).1∧(ak (ak x_3.1).2).2=(bG (IntKind.i64.wrap (x_3.2.2+1)).toNat x_2.1).2∧(x_3.2.1.1,x_3.2.1.2.1,x_3.2.1.2.2.1++[(IntKind.i64.wrap (ak x_3.1).1,IntKind.i64.wrap (ak (ak x_3.1).2).1)],x_3.2.1.2.2.2)=(x_2.2.1.1,x_2.2.1.2.1,(bG (IntKind.i64.wrap (x_3.2.2+1)).toNat x_2.1).1,([]:List b6)))∧((ae (ae (ae (x,false)).2).2).1 - IntKind.i64.wrap (x_3.2.2+1)).toNat<((ae (ae (ae (x,false)).2).2).1 - x_3.2.2).toNat)∧(decide (x_3.2.2<(ae (ae (ae (x,false)).2).2).1)=false→((0:Int)≤0∧0≤(ae (ae (ae (ae (x,false)).2).2).2).1∧x_3.1=(aT (Int.toNat 0) x_3.1).2∧x_3.2.1=(x_3.2.1.1,x_3.2.1.2.1,x_3.2.1.2.2.1,(aT (Int.toNat 0) x_3.1).1))∧∀ (x_4:(List UInt8×Bool)×(List Int×List Int×List (Int×Int)×List (Int×Bool×Int))×Int),0≤x_4.2.2∧x_4.2.2≤(ae (ae (ae (ae (x,false)).2).2).2).1∧x_4.1=(aT x_4.2.2.toNat x_3.1).2∧x_4.2.1=(x_3.2.1.1,x_3.2.1.2.1,x_3.2.1.2.2.1,(aT x_4.2.2.toNat x_3.1).1)→(decide (x_4.2.2<(ae (ae (ae (ae (x,false)).2).2).2).1)=true→True∧True∧True∧(x_4.2.1.2.2.2.length+[(IntKind.i64.wrap (ak x_4.1).1,decide ((ak (ak x_4.1).2).1=1),IntKind.i64.wrap (ak (ak (ak x_4.1).2).2).1)].length) * (8+(8+8))≤aC∧(0≤IntKind.i64.wrap (x_4.2.2+1)∧IntKind.i64.wrap (x_4.2.2+1)≤(ae (ae (ae (ae (x,false)).2).2).2).1∧((ak (ak (ak x_4.1).2).2).2.1,(ak (ak (ak x_4.1).2).2).2.2||decide (1<(ak (ak x_4.1).2).1))=(aT (IntKind.i64.wrap (x_4.2.2+1)).toNat x_3.1).2∧(x_4.2.1.1,x_4.2.1.2.1,x_4.2.1.2.2.1,x_4.2.1.2.2.2++[(IntKind.i64.wrap (ak x_4.1).1,decide ((ak (ak x_4.1).2).1=1),IntKind.i64.wrap (ak (ak (ak x_4.1).2).2).1)])=(x_3.2.1.1,x_3.2.1.2.1,x_3.2.1.2.2.1,(aT (IntKind.i64.wrap (x_4.2.2+1)).toNat x_3.1).1))∧((ae (ae (ae (ae (x,false)).2).2).2).1 - IntKind.i64.wrap (x_4.2.2+1)).toNat<((ae (ae (ae (ae (x,false)).2).2).2).1 - x_4.2.2).toNat)∧(decide (x_4.2.2<(ae (ae (ae (ae (x,false)).2).2).2).1)=false→((x_4.1.2||decide (x_4.1.1≠([]:List UInt8)))=false→True)∧((x_4.1.2||decide (x_4.1.1≠([]:List UInt8))||decide (aH x_4.2.1≠0))=true→(([]:List Int),([]:List Int),([]:List (Int×Int)),([]:List (Int×Bool×Int)))=(bA x).1∧3=(bA x).2∧True)∧((x_4.1.2||decide (x_4.1.1≠([]:List UInt8))||decide (aH x_4.2.1≠0))=false→x_4.2.1=(bA x).1∧0=(bA x).2∧True)))))
theorem kC:gK:=by
 unfold gK
 intro b _ hb
 have hF:bA b=if ((eC b).2.2||decide ((eC b).2.1≠[])||decide (aH (eC b).1≠0))=true then (([],[],[],[]),3) else ((eC b).1,0):=rfl
 have c1:=lX (b,false)
 have c2:=lX (ae (b,false)).2
 have c3:=lX (ae (ae (b,false)).2).2
 have c4:=lX (ae (ae (ae (b,false)).2).2).2
 have m1:(ae (b,false)).1≤1000:=by have:=c1.2.1; simp only at this; omega
 have m2:(ae (ae (b,false)).2).1≤1000:=by have:=c1.2.2; simp only at this; omega
 have m3:(ae (ae (ae (b,false)).2).2).1≤1000:=by have:=c1.2.2; simp only at this; omega
 have m4:(ae (ae (ae (ae (b,false)).2).2).2).1≤1000:=by have:=c1.2.2; simp only at this; omega
 have hw:∀ i:Int,0≤i→i<1000→IntKind.i64.wrap (i+1)=i+1:=fun i h1 h2=>eT (by omega) (by omega)
 have hs:∀ i:Int,0≤i→(i+1).toNat=i.toNat+1:=fun i h=>by omega
 refine ⟨trivial,trivial,trivial,trivial,⟨by omega,c1.1,rfl,rfl⟩,fun ⟨r1,s1,i⟩ ⟨i0,i1,i2,i3⟩=>⟨fun hi=>?_,fun hi=>?_⟩⟩
 ·have hi:=of_decide_eq_true hi
  simp only at i0 i1 i2 i3 hi ⊢
  subst i2 i3
  rw [hw i i0 (by omega),hs i i0]
  have hl:=ic i.toNat (ae (ae (ae (ae (b,false)).2).2).2).2
  simp only [hl,List.length_singleton,aC]
  exact ⟨trivial,by omega,⟨by omega,by omega,rfl,rfl⟩,by omega⟩
 have hi:=of_decide_eq_false hi
 simp only at i0 i1 i2 i3 hi ⊢
 obtain rfl:i=(ae (b,false)).1:=by omega
 have e1:=i2
 have e2:=i3
 clear i0 i1 i2 i3 hi
 refine ⟨⟨by omega,c2.1,rfl,by rw [e2]; rfl⟩,fun ⟨r2,s2,i⟩ ⟨i0,i1,i2,i3⟩=>⟨fun hi=>?_,fun hi=>?_⟩⟩
 ·have hi:=of_decide_eq_true hi
  simp only at i0 i1 i2 i3 hi ⊢
  subst i2 i3
  rw [hw i i0 (by omega),hs i i0]
  have hl:=ic i.toNat r1
  simp only [hl,List.length_map,List.length_singleton,aC]
  refine ⟨trivial,by omega,⟨by omega,by omega,rfl,?_⟩,by omega⟩
  rw [br,List.map_append]
  rfl
 have hi:=of_decide_eq_false hi
 simp only at i0 i1 i2 i3 hi ⊢
 obtain rfl:i=(ae (ae (b,false)).2).1:=by omega
 have e3:=i2
 have e4:=i3
 clear i0 i1 i2 i3 hi
 refine ⟨⟨by omega,c3.1,rfl,by rw [e4]; rfl⟩,fun ⟨r3,s3,i⟩ ⟨i0,i1,i2,i3⟩=>⟨fun hi=>?_,fun hi=>?_⟩⟩
 ·have hi:=of_decide_eq_true hi
  simp only at i0 i1 i2 i3 hi ⊢
  subst i2 i3
  rw [hw i i0 (by omega),hs i i0]
  have hl:=jR i.toNat r2
  simp only [hl,List.length_singleton,aC]
  exact ⟨trivial,trivial,trivial,by omega,⟨by omega,by omega,rfl,rfl⟩,by omega⟩
 have hi:=of_decide_eq_false hi
 simp only at i0 i1 i2 i3 hi ⊢
 obtain rfl:i=(ae (ae (ae (b,false)).2).2).1:=by omega
 have e5:=i2
 have e6:=i3
 clear i0 i1 i2 i3 hi
 refine ⟨⟨by omega,c4.1,rfl,by rw [e6]; rfl⟩,fun ⟨r4,s4,i⟩ ⟨i0,i1,i2,i3⟩=>⟨fun hi=>?_,fun hi=>?_⟩⟩
 ·have hi:=of_decide_eq_true hi
  simp only at i0 i1 i2 i3 hi ⊢
  subst i2 i3
  rw [hw i i0 (by omega),hs i i0]
  have hl:=iI i.toNat r3
  simp only [hl,List.length_singleton,aC]
  exact ⟨trivial,trivial,trivial,by omega,⟨by omega,by omega,rfl,rfl⟩,by omega⟩
 have hi:=of_decide_eq_false hi
 simp only at i0 i1 i2 i3 hi ⊢
 obtain rfl:i=(ae (ae (ae (ae (b,false)).2).2).2).1:=by omega
 have hA:eC b=(s4,r4):=by
  rw [i3,e6,e4,e2,i2,e5,e3,e1]
  rfl
 rw [hA] at hF
 simp only at hF
 rw [hF]
 refine ⟨fun _=>trivial,fun h=>?_,fun h=>?_⟩
 ·rw [if_pos h]
  exact ⟨rfl,by first | exact trivial | rfl,trivial⟩
 ·rw [if_neg (by rw [h]; simp)]
  exact ⟨rfl,by first | exact trivial | rfl,trivial⟩
theorem mE:mq.ok Try.prog 62:=aQ (ann:=mZ) (ai pz (tf py (tf tU ax))) Try.func62 (by kernel_rfl) kC
end Go.Proofs.Ytcnoiiohmpgckaa
