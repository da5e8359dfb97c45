
import Derived.Test.YtcnoiiohmpgckaaStoreRead
namespace Go.Proofs.Ytcnoiiohmpgckaa
open Go
set_option maxRecDepth 100000
set_option maxHeartbeats 1000000
def iQ (v:Int):Int:=IntKind.i64.wrap v - 1
def fM (l:List Int) (k:Nat):List fq:=(List.range k).map fun j=>(IntKind.i64.wrap (l.getD (2 * j) 0),IntKind.i64.wrap (l.getD (2 * j+1) 0))
def dZ (l:List Int) (k:Nat):List b6:=(List.range k).map fun j=>(IntKind.i64.wrap (l.getD (3 * j) 0),decide (l.getD (3 * j+1) 0=1),IntKind.i64.wrap (l.getD (3 * j+2) 0))
def gL (l:List Int) (k:Nat):Bool:=(List.range k).all fun j=>decide (l.getD (2 * j) 0≤255)&&decide (l.getD (2 * j+1) 0≤1000000)
def eK (l:List Int) (k:Nat):Bool:=(List.range k).all fun j=>decide (l.getD (3 * j) 0≤65535)&&decide (l.getD (3 * j+1) 0≤1)&&decide (l.getD (3 * j+2) 0≤255)
def dI (l:List Int) (k:Nat):Bool:=(l.take k).all fun v=>decide (v≤256)
def fJ (w r p h:Nat) (l:List Int):aD:=(l.take w,((l.drop w).take r).map iQ,fM ((l.drop w).drop r) p,dZ (((l.drop w).drop r).drop (2 * p)) h)
def i6 (w r p h:Nat) (l:List Int):Bool:=dI (l.drop w) r&&gL ((l.drop w).drop r) p&&eK (((l.drop w).drop r).drop (2 * p)) h
def iZ (n:List Int):Bool:=decide (4≤n.length)&&decide (n.getD 0 0≤256)&&decide (n.getD 1 0≤32)&&decide (n.getD 2 0≤16)&&decide (n.getD 3 0≤16)
def pC (n:List Int):aD×Bool :=
 if iZ n=false then (([],[],[],[]),false) else
 if ((n.drop 4).length:Int)≠n.getD 0 0+n.getD 1 0+2 * n.getD 2 0+3 * n.getD 3 0 then (([],[],[],[]),false) else
 if i6 (n.getD 0 0).toNat (n.getD 1 0).toNat (n.getD 2 0).toNat (n.getD 3 0).toNat (n.drop 4)=false then (([],[],[],[]),false) else
 (fJ (n.getD 0 0).toNat (n.getD 1 0).toNat (n.getD 2 0).toNat (n.getD 3 0).toNat (n.drop 4),decide (aH (fJ (n.getD 0 0).toNat (n.getD 1 0).toNat (n.getD 2 0).toNat (n.getD 3 0).toNat (n.drop 4))=0))
def aF (b:List UInt8):aD×Bool:=if (ab b).2=true then pC (ab b).1 else (([],[],[],[]),false)
theorem AN (ok:Bool) (n:List Int):(!ok||decide ((n.length:Int)<4)||decide (256<n.getD (Int.toNat 0) 0)||decide (32<n.getD (Int.toNat 1) 0)||decide (16<n.getD (Int.toNat 2) 0)||decide (16<n.getD (Int.toNat 3) 0))=!(ok&&iZ n):=by
 have e:iZ n=(decide (4≤n.length)&&decide (n.getD (Int.toNat 0) 0≤256)&&decide (n.getD (Int.toNat 1) 0≤32)&&decide (n.getD (Int.toNat 2) 0≤16)&&decide (n.getD (Int.toNat 3) 0≤16)):=rfl
 rw [e]
 generalize n.getD (Int.toNat 0) 0=a
 generalize n.getD (Int.toNat 1) 0=b
 generalize n.getD (Int.toNat 2) 0=c
 generalize n.getD (Int.toNat 3) 0=d
 have k:∀ (x y:Int),decide (x<y)=!decide (y≤x):=fun x y=>by
  apply Bool.eq_iff_iff.2
  simp only [decide_eq_true_eq,Bool.not_eq_true',decide_eq_false_iff_not]
  omega
 have k2:decide ((n.length:Int)<4)=!decide (4≤n.length):=by
  apply Bool.eq_iff_iff.2
  simp only [decide_eq_true_eq,Bool.not_eq_true',decide_eq_false_iff_not]
  omega
 rw [k2,k,k,k,k]
 cases ok <;> cases decide (4≤n.length) <;> cases decide (a≤256) <;> cases decide (b≤32) <;> cases decide (c≤16) <;> cases decide (d≤16) <;> rfl
theorem vI {l:List Int} {i:Int} (h0:0≤i) (h:i<(l.length:Int)) (hk:dI l i.toNat=true) (hv:l.getD i.toNat 0≤256):dI l (i+1).toNat=true:=by
 unfold dI at hk ⊢
 rw [aW (0:Int) h0 h,List.all_append,hk]
 simpa using hv
theorem xw {l:List Int} {k:Nat} {i:Int} (h0:0≤i) (h:i<(l.length:Int)) (hi:i<k) (hk:dI l k=true):l.getD i.toNat 0≤256:=by
 unfold dI at hk
 have hm:l.getD i.toNat 0∈l.take k:=by
  have:(l.take k).getD i.toNat 0=l.getD i.toNat 0:=by
   rw [List.getD_eq_getElem?_getD,List.getElem?_take_of_lt (by omega),← List.getD_eq_getElem?_getD]
  rw [← this]
  exact aU (0:Int) h0 (by rw [List.length_take]; omega)
 exact of_decide_eq_true (List.all_eq_true.1 hk _ hm)
theorem jt {l:List Int} {k:Nat}:gL l k=true ↔ ∀ j,j<k→l.getD (2 * j) 0≤255∧l.getD (2 * j+1) 0≤1000000:=by
 unfold gL
 simp only [List.all_eq_true,List.mem_range,Bool.and_eq_true,decide_eq_true_eq]
theorem fR {l:List Int} {k:Nat}:eK l k=true ↔ ∀ j,j<k→l.getD (3 * j) 0≤65535∧l.getD (3 * j+1) 0≤1∧l.getD (3 * j+2) 0≤255:=by
 unfold eK
 simp only [List.all_eq_true,List.mem_range,Bool.and_eq_true,decide_eq_true_eq,and_assoc]
theorem pr (l:List Int) (k:Nat):fM l (k+1)=fM l k++[(IntKind.i64.wrap (l.getD (2 * k) 0),IntKind.i64.wrap (l.getD (2 * k+1) 0))]:=by
 simp [fM,List.range_succ]
theorem nc (l:List Int) (k:Nat):dZ l (k+1)=dZ l k++[(IntKind.i64.wrap (l.getD (3 * k) 0),decide (l.getD (3 * k+1) 0=1),IntKind.i64.wrap (l.getD (3 * k+2) 0))]:=by
 simp [dZ,List.range_succ]
theorem lw (l:List Int) (k:Nat):(fM l k).length=k:=by simp [fM]
theorem jD (l:List Int) (k:Nat):(dZ l k).length=k:=by simp [dZ]
theorem AI {b:List UInt8}:(ab b).1.length≤b.length∧∀ x∈(ab b).1,0≤x∧x<18446744073709551616:=by
 unfold ab
 cases h:c6 b with
 | none=>exact ⟨by simp,fun x hx=>by cases hx⟩
 | some l=>exact jw b.length b l (Nat.le_refl _) h
def rR:Nat→Option LoopGen
 | 4000009=>some gv
 | 4000016=>some gv
 | 4000024=>some gv
 | 4000032=>some gv
 | 12=>some { rd:=[.dat 92 ty_I,.dat 4 (.arr bv),.boxS 10 [.own 76 bv,.own 3 ty_I,.own 191 bK,.own 193 bo]],A:=fun ((n,l,s0):Int×List Int×aD)=>{ cs:=[.boxS 10 [.own 76 bv,.own 3 ty_I,.own 191 bK,.own 193 bo],.dat 93 ty_I,.box 2 bY],inv:=fun ((s,i,_):aD×Int×aD)=>0≤i∧i≤n∧s=(s0.1,(l.take i.toNat).map iQ,[],[])∧dI l i.toNat=true,mu:=fun ((_,i,_):aD×Int×aD)=>(n - i).toNat } }
 | 20=>some { rd:=[.dat 117 ty_I,.dat 4 (.arr bv),.boxS 10 [.own 76 bv,.own 3 ty_I,.own 191 bK,.own 193 bo]],A:=fun ((n,l,s0):Int×List Int×aD)=>{ cs:=[.boxS 10 [.own 76 bv,.own 3 ty_I,.own 191 bK,.own 193 bo],.dat 118 ty_I,.box 2 bY],inv:=fun ((s,i,_):aD×Int×aD)=>0≤i∧i≤n∧s=(s0.1,s0.2.1,fM l i.toNat,[])∧gL l i.toNat=true,mu:=fun ((_,i,_):aD×Int×aD)=>(n - i).toNat } }
 | 28=>some { rd:=[.dat 161 ty_I,.dat 4 (.arr bv),.boxS 10 [.own 76 bv,.own 3 ty_I,.own 191 bK,.own 193 bo]],A:=fun ((n,l,s0):Int×List Int×aD)=>{ cs:=[.boxS 10 [.own 76 bv,.own 3 ty_I,.own 191 bK,.own 193 bo],.dat 162 ty_I,.box 2 bY],inv:=fun ((s,i,_):aD×Int×aD)=>0≤i∧i≤n∧s=(s0.1,s0.2.1,s0.2.2.1,dZ l i.toNat)∧eK l i.toNat=true,mu:=fun ((_,i,_):aD×Int×aD)=>(n - i).toNat } }
 | _=>none
def qW:Spec:={ Ts:=[.str],Rs:=[.dat bY,.dat .bool],al:=true,pre:=fun (b:List UInt8)=>b.length≤1000,F:=aF }
def jJ:Prop :=
  ∀ (x:List UInt8),x.length≤aC→x.length≤(1000:Nat)→x.length≤(1000:Nat)∧((!(ab x).2||decide ((↑(ab x).1.length:Int)<(4:Int)))=false→(0:Int)≤(0:Int))∧((!(ab x).2||decide ((↑(ab x).1.length:Int)<(4:Int)))=false→(0:Int)<(↑(ab x).1.length:Int))∧((!(ab x).2||decide ((↑(ab x).1.length:Int)<(4:Int))||decide ((256:Int)<(ab x).1.getD (Int.toNat (0:Int)) (0:Int)))=false→(0:Int)≤(1:Int))∧((!(ab x).2||decide ((↑(ab x).1.length:Int)<(4:Int))||decide ((256:Int)<(ab x).1.getD (Int.toNat (0:Int)) (0:Int)))=false→(1:Int)<(↑(ab x).1.length:Int))∧((!(ab x).2||decide ((↑(ab x).1.length:Int)<(4:Int))||decide ((256:Int)<(ab x).1.getD (Int.toNat (0:Int)) (0:Int))||decide ((32:Int)<(ab x).1.getD (Int.toNat (1:Int)) (0:Int)))=false→(0:Int)≤(2:Int))∧((!(ab x).2||decide ((↑(ab x).1.length:Int)<(4:Int))||decide ((256:Int)<(ab x).1.getD (Int.toNat (0:Int)) (0:Int))||decide ((32:Int)<(ab x).1.getD (Int.toNat (1:Int)) (0:Int)))=false→(2:Int)<(↑(ab x).1.length:Int))∧((!(ab x).2||decide ((↑(ab x).1.length:Int)<(4:Int))||decide ((256:Int)<(ab x).1.getD (Int.toNat (0:Int)) (0:Int))||decide ((32:Int)<(ab x).1.getD (Int.toNat (1:Int)) (0:Int))||decide ((16:Int)<(ab x).1.getD (Int.toNat (2:Int)) (0:Int)))=false→(0:Int)≤(3:Int))∧((!(ab x).2||decide ((↑(ab x).1.length:Int)<(4:Int))||decide ((256:Int)<(ab x).1.getD (Int.toNat (0:Int)) (0:Int))||decide ((32:Int)<(ab x).1.getD (Int.toNat (1:Int)) (0:Int))||decide ((16:Int)<(ab x).1.getD (Int.toNat (2:Int)) (0:Int)))=false→(3:Int)<(↑(ab x).1.length:Int))∧((!(ab x).2||decide ((↑(ab x).1.length:Int)<(4:Int))||decide ((256:Int)<(ab x).1.getD (Int.toNat (0:Int)) (0:Int))||decide ((32:Int)<(ab x).1.getD (Int.toNat (1:Int)) (0:Int))||decide ((16:Int)<(ab x).1.getD (Int.toNat (2:Int)) (0:Int))||decide ((16:Int)<(ab x).1.getD (Int.toNat (3:Int)) (0:Int)))=true→(([]:List Int),([]:List Int),([]:List (Int×Int)),([]:List (Int×Bool×Int)))=(aF x).1∧false=(aF x).2∧True)∧((!(ab x).2||decide ((↑(ab x).1.length:Int)<(4:Int))||decide ((256:Int)<(ab x).1.getD (Int.toNat (0:Int)) (0:Int))||decide ((32:Int)<(ab x).1.getD (Int.toNat (1:Int)) (0:Int))||decide ((16:Int)<(ab x).1.getD (Int.toNat (2:Int)) (0:Int))||decide ((16:Int)<(ab x).1.getD (Int.toNat (3:Int)) (0:Int)))=false→(0:Int)≤(0:Int)∧(0:Int)<(↑(ab x).1.length:Int)∧(0:Int)≤(1:Int)∧(1:Int)<(↑(ab x).1.length:Int)∧(0:Int)≤(2:Int)∧(2:Int)<(↑(ab x).1.length:Int)∧(0:Int)≤(3:Int)∧(3:Int)<(↑(ab x).1.length:Int)∧(0:Int)≤(4:Int)∧(4:Int)≤(↑(ab x).1.length:Int)∧am IntKind.i64 (IntKind.i64.wrap ((ab x).1.getD (Int.toNat (0:Int)) (0:Int))+IntKind.i64.wrap ((ab x).1.getD (Int.toNat (1:Int)) (0:Int)))∧am IntKind.i64 ((2:Int) * IntKind.i64.wrap ((ab x).1.getD (Int.toNat (2:Int)) (0:Int)))∧am IntKind.i64 (IntKind.i64.wrap ((ab x).1.getD (Int.toNat (0:Int)) (0:Int))+IntKind.i64.wrap ((ab x).1.getD (Int.toNat (1:Int)) (0:Int))+(2:Int) * IntKind.i64.wrap ((ab x).1.getD (Int.toNat (2:Int)) (0:Int)))∧am IntKind.i64 ((3:Int) * IntKind.i64.wrap ((ab x).1.getD (Int.toNat (3:Int)) (0:Int)))∧am IntKind.i64 (IntKind.i64.wrap ((ab x).1.getD (Int.toNat (0:Int)) (0:Int))+IntKind.i64.wrap ((ab x).1.getD (Int.toNat (1:Int)) (0:Int))+(2:Int) * IntKind.i64.wrap ((ab x).1.getD (Int.toNat (2:Int)) (0:Int))+(3:Int) * IntKind.i64.wrap ((ab x).1.getD (Int.toNat (3:Int)) (0:Int)))∧(decide ((↑(List.drop (Int.toNat (4:Int)) (ab x).1).length:Int)≠IntKind.i64.wrap ((ab x).1.getD (Int.toNat (0:Int)) (0:Int))+IntKind.i64.wrap ((ab x).1.getD (Int.toNat (1:Int)) (0:Int))+(2:Int) * IntKind.i64.wrap ((ab x).1.getD (Int.toNat (2:Int)) (0:Int))+(3:Int) * IntKind.i64.wrap ((ab x).1.getD (Int.toNat (3:Int)) (0:Int)))=true→(([]:List Int),([]:List Int),([]:List (Int×Int)),([]:List (Int×Bool×Int)))=(aF x).1∧false=(aF x).2∧True)∧(decide ((↑(List.drop (Int.toNat (4:Int)) (ab x).1).length:Int)≠IntKind.i64.wrap ((ab x).1.getD (Int.toNat (0:Int)) (0:Int))+IntKind.i64.wrap ((ab x).1.getD (Int.toNat (1:Int)) (0:Int))+(2:Int) * IntKind.i64.wrap ((ab x).1.getD (Int.toNat (2:Int)) (0:Int))+(3:Int) * IntKind.i64.wrap ((ab x).1.getD (Int.toNat (3:Int)) (0:Int)))=false→(0:Int)≤IntKind.i64.wrap ((ab x).1.getD (Int.toNat (0:Int)) (0:Int))∧IntKind.i64.wrap ((ab x).1.getD (Int.toNat (0:Int)) (0:Int))≤(↑(List.drop (Int.toNat (4:Int)) (ab x).1).length:Int)∧(List.take (IntKind.i64.wrap ((ab x).1.getD (Int.toNat (0:Int)) (0:Int))).toNat (List.drop (Int.toNat (4:Int)) (ab x).1)).length * (8:Nat)≤aC∧(0:Int)≤IntKind.i64.wrap ((ab x).1.getD (Int.toNat (0:Int)) (0:Int))∧IntKind.i64.wrap ((ab x).1.getD (Int.toNat (0:Int)) (0:Int))≤(↑(List.drop (Int.toNat (4:Int)) (ab x).1).length:Int)∧((0:Int)≤(0:Int)∧(0:Int)≤IntKind.i64.wrap ((ab x).1.getD (Int.toNat (1:Int)) (0:Int))∧(List.take (IntKind.i64.wrap ((ab x).1.getD (Int.toNat (0:Int)) (0:Int))).toNat (List.drop (Int.toNat (4:Int)) (ab x).1),([]:List Int),([]:List (Int×Int)),([]:List (Int×Bool×Int)))=(List.take (IntKind.i64.wrap ((ab x).1.getD (Int.toNat (0:Int)) (0:Int))).toNat (List.drop (Int.toNat (4:Int)) (ab x).1),List.map iQ (List.take (Int.toNat (0:Int)) (List.drop (IntKind.i64.wrap ((ab x).1.getD (Int.toNat (0:Int)) (0:Int))).toNat (List.drop (Int.toNat (4:Int)) (ab x).1))),([]:List fq),([]:List b6))∧dI (List.drop (IntKind.i64.wrap ((ab x).1.getD (Int.toNat (0:Int)) (0:Int))).toNat (List.drop (Int.toNat (4:Int)) (ab x).1)) (Int.toNat (0:Int))=true)∧∀ (x_1:(List Int×List Int×List (Int×Int)×List (Int×Bool×Int))×Int×List Int×List Int×List (Int×Int)×List (Int×Bool×Int)),(0:Int)≤x_1.2.1∧x_1.2.1≤IntKind.i64.wrap ((ab x).1.getD (Int.toNat (1:Int)) (0:Int))∧x_1.1=(List.take (IntKind.i64.wrap ((ab x).1.getD (Int.toNat (0:Int)) (0:Int))).toNat (List.drop (Int.toNat (4:Int)) (ab x).1),List.map iQ (List.take x_1.2.1.toNat (List.drop (IntKind.i64.wrap ((ab x).1.getD (Int.toNat (0:Int)) (0:Int))).toNat (List.drop (Int.toNat (4:Int)) (ab x).1))),([]:List fq),([]:List b6))∧dI (List.drop (IntKind.i64.wrap ((ab x).1.getD (Int.toNat (0:Int)) (0:Int))).toNat (List.drop (Int.toNat (4:Int)) (ab x).1)) x_1.2.1.toNat=true→(decide (x_1.2.1<IntKind.i64.wrap ((ab x).1.getD (Int.toNat (1:Int)) (0:Int)))=true→(0:Int)≤x_1.2.1∧x_1.2.1<(↑(List.drop (IntKind.i64.wrap ((ab x).1.getD (Int.toNat (0:Int)) (0:Int))).toNat (List.drop (Int.toNat (4:Int)) (ab x).1)).length:Int)∧(decide ((256:Int)<(List.drop (IntKind.i64.wrap ((ab x).1.getD (Int.toNat (0:Int)) (0:Int))).toNat (List.drop (Int.toNat (4:Int)) (ab x).1)).getD x_1.2.1.toNat (0:Int))=true→(([]:List Int),([]:List Int),([]:List (Int×Int)),([]:List (Int×Bool×Int)))=(aF x).1∧false=(aF x).2∧True)∧(decide ((256:Int)<(List.drop (IntKind.i64.wrap ((ab x).1.getD (Int.toNat (0:Int)) (0:Int))).toNat (List.drop (Int.toNat (4:Int)) (ab x).1)).getD x_1.2.1.toNat (0:Int))=false→(0:Int)≤x_1.2.1∧x_1.2.1<(↑(List.drop (IntKind.i64.wrap ((ab x).1.getD (Int.toNat (0:Int)) (0:Int))).toNat (List.drop (Int.toNat (4:Int)) (ab x).1)).length:Int)∧am IntKind.i64 (IntKind.i64.wrap ((List.drop (IntKind.i64.wrap ((ab x).1.getD (Int.toNat (0:Int)) (0:Int))).toNat (List.drop (Int.toNat (4:Int)) (ab x).1)).getD x_1.2.1.toNat (0:Int)) - (1:Int))∧(x_1.1.2.1.length+[IntKind.i64.wrap ((List.drop (IntKind.i64.wrap ((ab x).1.getD (Int.toNat (0:Int)) (0:Int))).toNat (List.drop (Int.toNat (4:Int)) (ab x).1)).getD x_1.2.1.toNat (0:Int)) - (1:Int)].length) * (8:Nat)≤aC∧am IntKind.i64 (x_1.2.1+(1:Int))∧((0:Int)≤x_1.2.1+(1:Int)∧x_1.2.1+(1:Int)≤IntKind.i64.wrap ((ab x).1.getD (Int.toNat (1:Int)) (0:Int))∧(x_1.1.1,x_1.1.2.1++[IntKind.i64.wrap ((List.drop (IntKind.i64.wrap ((ab x).1.getD (Int.toNat (0:Int)) (0:Int))).toNat (List.drop (Int.toNat (4:Int)) (ab x).1)).getD x_1.2.1.toNat (0:Int)) - (1:Int)],x_1.1.2.2)=(List.take (IntKind.i64.wrap ((ab x).1.getD (Int.toNat (0:Int)) (0:Int))).toNat (List.drop (Int.toNat (4:Int)) (ab x).1),List.map iQ (List.take (x_1.2.1+(1:Int)).toNat (List.drop (IntKind.i64.wrap ((ab x).1.getD (Int.toNat (0:Int)) (0:Int))).toNat (List.drop (Int.toNat (4:Int)) (ab x).1))),([]:List fq),([]:List b6))∧dI (List.drop (IntKind.i64.wrap ((ab x).1.getD (Int.toNat (0:Int)) (0:Int))).toNat (List.drop (Int.toNat (4:Int)) (ab x).1)) (x_1.2.1+(1:Int)).toNat=true)∧(IntKind.i64.wrap ((ab x).1.getD (Int.toNat (1:Int)) (0:Int)) - (x_1.2.1+(1:Int))).toNat<(IntKind.i64.wrap ((ab x).1.getD (Int.toNat (1:Int)) (0:Int)) - x_1.2.1).toNat))∧(decide (x_1.2.1<IntKind.i64.wrap ((ab x).1.getD (Int.toNat (1:Int)) (0:Int)))=false→(0:Int)≤IntKind.i64.wrap ((ab x).1.getD (Int.toNat (1:Int)) (0:Int))∧IntKind.i64.wrap ((ab x).1.getD (Int.toNat (1:Int)) (0:Int))≤(↑(List.drop (IntKind.i64.wrap ((ab x).1.getD (Int.toNat (0:Int)) (0:Int))).toNat (List.drop (Int.toNat (4:Int)) (ab x).1)).length:Int)∧((0:Int)≤(0:Int)∧(0:Int)≤IntKind.i64.wrap ((ab x).1.getD (Int.toNat (2:Int)) (0:Int))∧x_1.1=(x_1.1.1,x_1.1.2.1,fM (List.drop (IntKind.i64.wrap ((ab x).1.getD (Int.toNat (1:Int)) (0:Int))).toNat (List.drop (IntKind.i64.wrap ((ab x).1.getD (Int.toNat (0:Int)) (0:Int))).toNat (List.drop (Int.toNat (4:Int)) (ab x).1))) (Int.toNat (0:Int)),([]:List b6))∧gL (List.drop (IntKind.i64.wrap ((ab x).1.getD (Int.toNat (1:Int)) (0:Int))).toNat (List.drop (IntKind.i64.wrap ((ab x).1.getD (Int.toNat (0:Int)) (0:Int))).toNat (List.drop (Int.toNat (4:Int)) (ab x).1))) (Int.toNat (0:Int))=true)∧∀ (x_2:(List Int×List Int×List (Int×Int)×List (Int×Bool×Int))×Int×List Int×List Int×List (Int×Int)×List (Int×Bool×Int)),(0:Int)≤x_2.2.1∧x_2.2.1≤IntKind.i64.wrap ((ab x).1.getD (Int.toNat (2:Int)) (0:Int))∧x_2.1=(x_1.1.1,x_1.1.2.1,fM (List.drop (IntKind.i64.wrap ((ab x).1.getD (Int.toNat (1:Int)) (0:Int))).toNat (List.drop (IntKind.i64.wrap ((ab x).1.getD (Int.toNat (0:Int)) (0:Int))).toNat (List.drop (Int.toNat (4:Int)) (ab x).1))) x_2.2.1.toNat,([]:List b6))∧gL (List.drop (IntKind.i64.wrap ((ab x).1.getD (Int.toNat (1:Int)) (0:Int))).toNat (List.drop (IntKind.i64.wrap ((ab x).1.getD (Int.toNat (0:Int)) (0:Int))).toNat (List.drop (Int.toNat (4:Int)) (ab x).1))) x_2.2.1.toNat=true→(decide (x_2.2.1<IntKind.i64.wrap ((ab x).1.getD (Int.toNat (2:Int)) (0:Int)))=true→am IntKind.i64 ((2:Int) * x_2.2.1)∧(0:Int)≤(2:Int) * x_2.2.1∧(2:Int) * x_2.2.1<(↑(List.drop (IntKind.i64.wrap ((ab x).1.getD (Int.toNat (1:Int)) (0:Int))).toNat (List.drop (IntKind.i64.wrap ((ab x).1.getD (Int.toNat (0:Int)) (0:Int))).toNat (List.drop (Int.toNat (4:Int)) (ab x).1))).length:Int)∧(decide ((255:Int)<(List.drop (IntKind.i64.wrap ((ab x).1.getD (Int.toNat (1:Int)) (0:Int))).toNat (List.drop (IntKind.i64.wrap ((ab x).1.getD (Int.toNat (0:Int)) (0:Int))).toNat (List.drop (Int.toNat (4:Int)) (ab x).1))).getD ((2:Int) * x_2.2.1).toNat (0:Int))=false→am IntKind.i64 ((2:Int) * x_2.2.1))∧(decide ((255:Int)<(List.drop (IntKind.i64.wrap ((ab x).1.getD (Int.toNat (1:Int)) (0:Int))).toNat (List.drop (IntKind.i64.wrap ((ab x).1.getD (Int.toNat (0:Int)) (0:Int))).toNat (List.drop (Int.toNat (4:Int)) (ab x).1))).getD ((2:Int) * x_2.2.1).toNat (0:Int))=false→am IntKind.i64 ((2:Int) * x_2.2.1+(1:Int)))∧(decide ((255:Int)<(List.drop (IntKind.i64.wrap ((ab x).1.getD (Int.toNat (1:Int)) (0:Int))).toNat (List.drop (IntKind.i64.wrap ((ab x).1.getD (Int.toNat (0:Int)) (0:Int))).toNat (List.drop (Int.toNat (4:Int)) (ab x).1))).getD ((2:Int) * x_2.2.1).toNat (0:Int))=false→(0:Int)≤(2:Int) * x_2.2.1+(1:Int))∧(decide ((255:Int)<(List.drop (IntKind.i64.wrap ((ab x).1.getD (Int.toNat (1:Int)) (0:Int))).toNat (List.drop (IntKind.i64.wrap ((ab x).1.getD (Int.toNat (0:Int)) (0:Int))).toNat (List.drop (Int.toNat (4:Int)) (ab x).1))).getD ((2:Int) * x_2.2.1).toNat (0:Int))=false→(2:Int) * x_2.2.1+(1:Int)<(↑(List.drop (IntKind.i64.wrap ((ab x).1.getD (Int.toNat (1:Int)) (0:Int))).toNat (List.drop (IntKind.i64.wrap ((ab x).1.getD (Int.toNat (0:Int)) (0:Int))).toNat (List.drop (Int.toNat (4:Int)) (ab x).1))).length:Int))∧((decide ((255:Int)<(List.drop (IntKind.i64.wrap ((ab x).1.getD (Int.toNat (1:Int)) (0:Int))).toNat (List.drop (IntKind.i64.wrap ((ab x).1.getD (Int.toNat (0:Int)) (0:Int))).toNat (List.drop (Int.toNat (4:Int)) (ab x).1))).getD ((2:Int) * x_2.2.1).toNat (0:Int))||decide ((1000000:Int)<(List.drop (IntKind.i64.wrap ((ab x).1.getD (Int.toNat (1:Int)) (0:Int))).toNat (List.drop (IntKind.i64.wrap ((ab x).1.getD (Int.toNat (0:Int)) (0:Int))).toNat (List.drop (Int.toNat (4:Int)) (ab x).1))).getD ((2:Int) * x_2.2.1+(1:Int)).toNat (0:Int)))=true→(([]:List Int),([]:List Int),([]:List (Int×Int)),([]:List (Int×Bool×Int)))=(aF x).1∧false=(aF x).2∧True)∧((decide ((255:Int)<(List.drop (IntKind.i64.wrap ((ab x).1.getD (Int.toNat (1:Int)) (0:Int))).toNat (List.drop (IntKind.i64.wrap ((ab x).1.getD (Int.toNat (0:Int)) (0:Int))).toNat (List.drop (Int.toNat (4:Int)) (ab x).1))).getD ((2:Int) * x_2.2.1).toNat (0:Int))||decide ((1000000:Int)<(List.drop (IntKind.i64.wrap ((ab x).1.getD (Int.toNat (1:Int)) (0:Int))).toNat (List.drop (IntKind.i64.wrap ((ab x).1.getD (Int.toNat (0:Int)) (0:Int))).toNat (List.drop (Int.toNat (4:Int)) (ab x).1))).getD ((2:Int) * x_2.2.1+(1:Int)).toNat (0:Int)))=false→am IntKind.i64 ((2:Int) * x_2.2.1)∧(0:Int)≤(2:Int) * x_2.2.1∧(2:Int) * x_2.2.1<(↑(List.drop (IntKind.i64.wrap ((ab x).1.getD (Int.toNat (1:Int)) (0:Int))).toNat (List.drop (IntKind.i64.wrap ((ab x).1.getD (Int.toNat (0:Int)) (0:Int))).toNat (List.drop (Int.toNat (4:Int)) (ab x).1))).length:Int)∧am IntKind.i64 ((2:Int) * x_2.2.1)∧am IntKind.i64 ((2:Int) * x_2.2.1+(1:Int))∧(0:Int)≤(2:Int) * x_2.2.1+(1:Int)∧(2:Int) * x_2.2.1+(1:Int)<(↑(List.drop (IntKind.i64.wrap ((ab x).1.getD (Int.toNat (1:Int)) (0:Int))).toNat (List.drop (IntKind.i64.wrap ((ab x).1.getD (Int.toNat (0:Int)) (0:Int))).toNat (List.drop (Int.toNat (4:Int)) (ab x).1))).length:Int)∧(x_2.1.2.2.1.length+[(IntKind.i64.wrap ((List.drop (IntKind.i64.wrap ((ab x).1.getD (Int.toNat (1:Int)) (0:Int))).toNat (List.drop (IntKind.i64.wrap ((ab x).1.getD (Int.toNat (0:Int)) (0:Int))).toNat (List.drop (Int.toNat (4:Int)) (ab x).1))).getD ((2:Int) * x_2.2.1).toNat (0:Int)),IntKind.i64.wrap ((List.drop (IntKind.i64.wrap ((ab x).1.getD (Int.toNat (1:Int)) (0:Int))).toNat (List.drop (IntKind.i64.wrap ((ab x).1.getD (Int.toNat (0:Int)) (0:Int))).toNat (List.drop (Int.toNat (4:Int)) (ab x).1))).getD ((2:Int) * x_2.2.1+(1:Int)).toNat (0:Int)))].length) * ((8:Nat)+(8:Nat))≤aC∧am IntKind.i64 (x_2.2.1+(1:Int))∧((0:Int)≤x_2.2.1+(1:Int)∧x_2.2.1+(1:Int)≤IntKind.i64.wrap ((ab x).1.getD (Int.toNat (2:Int)) (0:Int))∧(x_2.1.1,x_2.1.2.1,x_2.1.2.2.1++[(IntKind.i64.wrap ((List.drop (IntKind.i64.wrap ((ab x).1.getD (Int.toNat (1:Int)) (0:Int))).toNat (List.drop (IntKind.i64.wrap ((ab x).1.getD (Int.toNat (0:Int)) (0:Int))).toNat (List.drop (Int.toNat (4:Int)) (ab x).1))).getD ((2:Int) * x_2.2.1).toNat (0:Int)),IntKind.i64.wrap ((List.drop (IntKind.i64.wrap ((ab x).1.getD (Int.toNat (1:Int)) (0:Int))).toNat (List.drop (IntKind.i64.wrap ((ab x).1.getD (Int.toNat (0:Int)) (0:Int))).toNat (List.drop (Int.toNat (4:Int)) (ab x).1))).getD ((2:Int) * x_2.2.1+(1:Int)).toNat (0:Int)))],x_2.1.2.2.2)=(x_1.1.1,x_1.1.2.1,fM (List.drop (IntKind.i64.wrap ((ab x).1.getD (Int.toNat (1:Int)) (0:Int))).toNat (List.drop (IntKind.i64.wrap ((ab x).1.getD (Int.toNat (0:Int)) (0:Int))).toNat (List.drop (Int.toNat (4:Int)) (ab x).1))) (x_2.2.1+(1:Int)).toNat,([]:List b6))∧gL (List.drop (IntKind.i64.wrap ((ab x).1.getD (Int.toNat (1:Int)) (0:Int))).toNat (List.drop (IntKind.i64.wrap ((ab x).1.getD (Int.toNat (0:Int)) (0:Int))).toNat (List.drop (Int.toNat (4:Int)) (ab x).1))) (x_2.2.1+(1:Int)).toNat=true)∧(IntKind.i64.wrap ((ab x).1.getD (Int.toNat (2:Int)) (0:Int)) - (x_2.2.1+(1:Int))).toNat<(IntKind.i64.wrap ((ab x).1.getD (Int.toNat (2:Int)) (0:Int)) - x_2.2.1).toNat))∧(decide (x_2.2.1<IntKind.i64.wrap ((ab x).1.getD (Int.toNat (2:Int)) (0:Int)))=false→am IntKind.i64 ((2:Int) * IntKind.i64.wrap ((ab x).1.getD (Int.toNat (2:Int)) (0:Int)))∧(0:Int)≤(2:Int) * IntKind.i64.wrap ((ab x).1.getD (Int.toNat (2:Int)) (0:Int))∧(2:Int) * IntKind.i64.wrap ((ab x).1.getD (Int.toNat (2:Int)) (0:Int))≤(↑(List.drop (IntKind.i64.wrap ((ab x).1.getD (Int.toNat (1:Int)) (0:Int))).toNat (List.drop (IntKind.i64.wrap ((ab x).1.getD (Int.toNat (0:Int)) (0:Int))).toNat (List.drop (Int.toNat (4:Int)) (ab x).1))).length:Int)∧((0:Int)≤(0:Int)∧(0:Int)≤IntKind.i64.wrap ((ab x).1.getD (Int.toNat (3:Int)) (0:Int))∧x_2.1=(x_2.1.1,x_2.1.2.1,x_2.1.2.2.1,dZ (List.drop ((2:Int) * IntKind.i64.wrap ((ab x).1.getD (Int.toNat (2:Int)) (0:Int))).toNat (List.drop (IntKind.i64.wrap ((ab x).1.getD (Int.toNat (1:Int)) (0:Int))).toNat (List.drop (IntKind.i64.wrap ((ab x).1.getD (Int.toNat (0:Int)) (0:Int))).toNat (List.drop (Int.toNat (4:Int)) (ab x).1)))) (Int.toNat (0:Int)))∧eK (List.drop ((2:Int) * IntKind.i64.wrap ((ab x).1.getD (Int.toNat (2:Int)) (0:Int))).toNat (List.drop (IntKind.i64.wrap ((ab x).1.getD (Int.toNat (1:Int)) (0:Int))).toNat (List.drop (IntKind.i64.wrap ((ab x).1.getD (Int.toNat (0:Int)) (0:Int))).toNat (List.drop (Int.toNat (4:Int)) (ab x).1)))) (Int.toNat (0:Int))=true)∧∀ (x_3:(List Int×List Int×List (Int×Int)×List (Int×Bool×Int))×Int×List Int×List Int×List (Int×Int)×List (Int×Bool×Int)),(0:Int)≤x_3.2.1∧x_3.2.1≤IntKind.i64.wrap ((ab x).1.getD (Int.toNat (3:Int)) (0:Int))∧x_3.1=(x_2.1.1,x_2.1.2.1,x_2.1.2.2.1,dZ (List.drop ((2:Int) * IntKind.i64.wrap ((ab x).1.getD (Int.toNat (2:Int)) (0:Int))).toNat (List.drop (IntKind.i64.wrap ((ab x).1.getD (Int.toNat (1:Int)) (0:Int))).toNat (List.drop (IntKind.i64.wrap ((ab x).1.getD (Int.toNat (0:Int)) (0:Int))).toNat (List.drop (Int.toNat (4:Int)) (ab x).1)))) x_3.2.1.toNat)∧eK (List.drop ((2:Int) * IntKind.i64.wrap ((ab x).1.getD (Int.toNat (2:Int)) (0:Int))).toNat (List.drop (IntKind.i64.wrap ((ab x).1.getD (Int.toNat (1:Int)) (0:Int))).toNat (List.drop (IntKind.i64.wrap ((ab x).1.getD (Int.toNat (0:Int)) (0:Int))).toNat (List.drop (Int.toNat (4:Int)) (ab x).1)))) x_3.2.1.toNat=true→(decide (x_3.2.1<IntKind.i64.wrap ((ab x).1.getD (Int.toNat (3:Int)) (0:Int)))=true→am IntKind.i64 ((3:Int) * x_3.2.1)∧(0:Int)≤(3:Int) * x_3.2.1∧(3:Int) * x_3.2.1<(↑(List.drop ((2:Int) * IntKind.i64.wrap ((ab x).1.getD (Int.toNat (2:Int)) (0:Int))).toNat (List.drop (IntKind.i64.wrap ((ab x).1.getD (Int.toNat (1:Int)) (0:Int))).toNat (List.drop (IntKind.i64.wrap ((ab x).1.getD (Int.toNat (0:Int)) (0:Int))).toNat (List.drop (Int.toNat (4:Int)) (ab x).1)))).length:Int)∧(decide ((65535:Int)<(List.drop ((2:Int) * IntKind.i64.wrap ((ab x).1.getD (Int.toNat (2:Int)) (0:Int))).toNat (List.drop (IntKind.i64.wrap ((ab x).1.getD (Int.toNat (1:Int)) (0:Int))).toNat (List.drop (IntKind.i64.wrap ((ab x).1.getD (Int.toNat (0:Int)) (0:Int))).toNat (List.drop (Int.toNat (4:Int)) (ab x).1)))).getD ((3:Int) * x_3.2.1).toNat (0:Int))=false→am IntKind.i64 ((3:Int) * x_3.2.1))∧(decide ((65535:Int)<(List.drop ((2:Int) * IntKind.i64.wrap ((ab x).1.getD (Int.toNat (2:Int)) (0:Int))).toNat (List.drop (IntKind.i64.wrap ((ab x).1.getD (Int.toNat (1:Int)) (0:Int))).toNat (List.drop (IntKind.i64.wrap ((ab x).1.getD (Int.toNat (0:Int)) (0:Int))).toNat (List.drop (Int.toNat (4:Int)) (ab x).1)))).getD ((3:Int) * x_3.2.1).toNat (0:Int))=false→am IntKind.i64 ((3:Int) * x_3.2.1+(1:Int)))∧(decide ((65535:Int)<(List.drop ((2:Int) * IntKind.i64.wrap ((ab x).1.getD (Int.toNat (2:Int)) (0:Int))).toNat (List.drop (IntKind.i64.wrap ((ab x).1.getD (Int.toNat (1:Int)) (0:Int))).toNat (List.drop (IntKind.i64.wrap ((ab x).1.getD (Int.toNat (0:Int)) (0:Int))).toNat (List.drop (Int.toNat (4:Int)) (ab x).1)))).getD ((3:Int) * x_3.2.1).toNat (0:Int))=false→(0:Int)≤(3:Int) * x_3.2.1+(1:Int))∧(decide ((65535:Int)<(List.drop ((2:Int) * IntKind.i64.wrap ((ab x).1.getD (Int.toNat (2:Int)) (0:Int))).toNat (List.drop (IntKind.i64.wrap ((ab x).1.getD (Int.toNat (1:Int)) (0:Int))).toNat (List.drop (IntKind.i64.wrap ((ab x).1.getD (Int.toNat (0:Int)) (0:Int))).toNat (List.drop (Int.toNat (4:Int)) (ab x).1)))).getD ((3:Int) * x_3.2.1).toNat (0:Int))=false→(3:Int) * x_3.2.1+(1:Int)<(↑(List.drop ((2:Int) * IntKind.i64.wrap ((ab x).1.getD (Int.toNat (2:Int)) (0:Int))).toNat (List.drop (IntKind.i64.wrap ((ab x).1.getD (Int.toNat (1:Int)) (0:Int))).toNat (List.drop (IntKind.i64.wrap ((ab x).1.getD (Int.toNat (0:Int)) (0:Int))).toNat (List.drop (Int.toNat (4:Int)) (ab x).1)))).length:Int))∧((decide ((65535:Int)<(List.drop ((2:Int) * IntKind.i64.wrap ((ab x).1.getD (Int.toNat (2:Int)) (0:Int))).toNat (List.drop (IntKind.i64.wrap ((ab x).1.getD (Int.toNat (1:Int)) (0:Int))).toNat (List.drop (IntKind.i64.wrap ((ab x).1.getD (Int.toNat (0:Int)) (0:Int))).toNat (List.drop (Int.toNat (4:Int)) (ab x).1)))).getD ((3:Int) * x_3.2.1).toNat (0:Int))||decide ((1:Int)<(List.drop ((2:Int) * IntKind.i64.wrap ((ab x).1.getD (Int.toNat (2:Int)) (0:Int))).toNat (List.drop (IntKind.i64.wrap ((ab x).1.getD (Int.toNat (1:Int)) (0:Int))).toNat (List.drop (IntKind.i64.wrap ((ab x).1.getD (Int.toNat (0:Int)) (0:Int))).toNat (List.drop (Int.toNat (4:Int)) (ab x).1)))).getD ((3:Int) * x_3.2.1+(1:Int)).toNat (0:Int)))=false→am IntKind.i64 ((3:Int) * x_3.2.1))∧((decide ((65535:Int)<(List.drop ((2:Int) * IntKind.i64.wrap ((ab x).1.getD (Int.toNat (2:Int)) (0:Int))).toNat (List.drop (IntKind.i64.wrap ((ab x).1.getD (Int.toNat (1:Int)) (0:Int))).toNat (List.drop (IntKind.i64.wrap ((ab x).1.getD (Int.toNat (0:Int)) (0:Int))).toNat (List.drop (Int.toNat (4:Int)) (ab x).1)))).getD ((3:Int) * x_3.2.1).toNat (0:Int))||decide ((1:Int)<(List.drop ((2:Int) * IntKind.i64.wrap ((ab x).1.getD (Int.toNat (2:Int)) (0:Int))).toNat (List.drop (IntKind.i64.wrap ((ab x).1.getD (Int.toNat (1:Int)) (0:Int))).toNat (List.drop (IntKind.i64.wrap ((ab x).1.getD (Int.toNat (0:Int)) (0:Int))).toNat (List.drop (Int.toNat (4:Int)) (ab x).1)))).getD ((3:Int) * x_3.2.1+(1:Int)).toNat (0:Int)))=false→am IntKind.i64 ((3:Int) * x_3.2.1+(2:Int)))∧((decide ((65535:Int)<(List.drop ((2:Int) * IntKind.i64.wrap ((ab x).1.getD (Int.toNat (2:Int)) (0:Int))).toNat (List.drop (IntKind.i64.wrap ((ab x).1.getD (Int.toNat (1:Int)) (0:Int))).toNat (List.drop (IntKind.i64.wrap ((ab x).1.getD (Int.toNat (0:Int)) (0:Int))).toNat (List.drop (Int.toNat (4:Int)) (ab x).1)))).getD ((3:Int) * x_3.2.1).toNat (0:Int))||decide ((1:Int)<(List.drop ((2:Int) * IntKind.i64.wrap ((ab x).1.getD (Int.toNat (2:Int)) (0:Int))).toNat (List.drop (IntKind.i64.wrap ((ab x).1.getD (Int.toNat (1:Int)) (0:Int))).toNat (List.drop (IntKind.i64.wrap ((ab x).1.getD (Int.toNat (0:Int)) (0:Int))).toNat (List.drop (Int.toNat (4:Int)) (ab x).1)))).getD ((3:Int) * x_3.2.1+(1:Int)).toNat (0:Int)))=false→(0:Int)≤(3:Int) * x_3.2.1+(2:Int))∧((decide ((65535:Int)<(List.drop ((2:Int) * IntKind.i64.wrap ((ab x).1.getD (Int.toNat (2:Int)) (0:Int))).toNat (List.drop (IntKind.i64.wrap ((ab x).1.getD (Int.toNat (1:Int)) (0:Int))).toNat (List.drop (IntKind.i64.wrap ((ab x).1.getD (Int.toNat (0:Int)) (0:Int))).toNat (List.drop (Int.toNat (4:Int)) (ab x).1)))).getD ((3:Int) * x_3.2.1).toNat (0:Int))||decide ((1:Int)<(List.drop ((2:Int) * IntKind.i64.wrap ((ab x).1.getD (Int.toNat (2:Int)) (0:Int))).toNat (List.drop (IntKind.i64.wrap ((ab x).1.getD (Int.toNat (1:Int)) (0:Int))).toNat (List.drop (IntKind.i64.wrap ((ab x).1.getD (Int.toNat (0:Int)) (0:Int))).toNat (List.drop (Int.toNat (4:Int)) (ab x).1)))).getD ((3:Int) * x_3.2.1+(1:Int)).toNat (0:Int)))=false→(3:Int) * x_3.2.1+(2:Int)<(↑(List.drop ((2:Int) * IntKind.i64.wrap ((ab x).1.getD (Int.toNat (2:Int)) (0:Int))).toNat (List.drop (IntKind.i64.wrap ((ab x).1.getD (Int.toNat (1:Int)) (0:Int))).toNat (List.drop (IntKind.i64.wrap ((ab x).1.getD (Int.toNat (0:Int)) (0:Int))).toNat (List.drop (Int.toNat (4:Int)) (ab x).1)))).length:Int))∧((decide ((65535:Int)<(List.drop ((2:Int) * IntKind.i64.wrap ((ab x).1.getD (Int.toNat (2:Int)) (0:Int))).toNat (List.drop (IntKind.i64.wrap ((ab x).1.getD (Int.toNat (1:Int)) (0:Int))).toNat (List.drop (IntKind.i64.wrap ((ab x).1.getD (Int.toNat (0:Int)) (0:Int))).toNat (List.drop (Int.toNat (4:Int)) (ab x).1)))).getD ((3:Int) * x_3.2.1).toNat (0:Int))||decide ((1:Int)<(List.drop ((2:Int) * IntKind.i64.wrap ((ab x).1.getD (Int.toNat (2:Int)) (0:Int))).toNat (List.drop (IntKind.i64.wrap ((ab x).1.getD (Int.toNat (1:Int)) (0:Int))).toNat (List.drop (IntKind.i64.wrap ((ab x).1.getD (Int.toNat (0:Int)) (0:Int))).toNat (List.drop (Int.toNat (4:Int)) (ab x).1)))).getD ((3:Int) * x_3.2.1+(1:Int)).toNat (0:Int))||decide ((255:Int)<(List.drop ((2:Int) * IntKind.i64.wrap ((ab x).1.getD (Int.toNat (2:Int)) (0:Int))).toNat (List.drop (IntKind.i64.wrap ((ab x).1.getD (Int.toNat (1:Int)) (0:Int))).toNat (List.drop (IntKind.i64.wrap ((ab x).1.getD (Int.toNat (0:Int)) (0:Int))).toNat (List.drop (Int.toNat (4:Int)) (ab x).1)))).getD ((3:Int) * x_3.2.1+(2:Int)).toNat (0:Int)))=true→(([]:List Int),([]:List Int),([]:List (Int×Int)),([]:List (Int×Bool×Int)))=(aF x).1∧false=(aF x).2∧True)∧((decide ((65535:Int)<(List.drop ((2:Int) * IntKind.i64.wrap ((ab x).1.getD (Int.toNat (2:Int)) (0:Int))).toNat (List.drop (IntKind.i64.wrap ((ab x).1.getD (Int.toNat (1:Int)) (0:Int))).toNat (List.drop (IntKind.i64.wrap ((ab x).1.getD (Int.toNat (0:Int)) (0:Int))).toNat (List.drop (Int.toNat (4:Int)) (ab x).1)))).getD ((3:Int) * x_3.2.1).toNat (0:Int))||decide ((1:Int)<(List.drop ((2:Int) * IntKind.i64.wrap ((ab x).1.getD (Int.toNat (2:Int)) (0:Int))).toNat (List.drop (IntKind.i64.wrap ((ab x).1.getD (Int.toNat (1:Int)) (0:Int))).toNat (List.drop (IntKind.i64.wrap ((ab x).1.getD (Int.toNat (0:Int)) (0:Int))).toNat (List.drop (Int.toNat (4:Int)) (ab x).1)))).getD ((3:Int) * x_3.2.1+(1:Int)).toNat (0:Int))||decide ((255:Int)<(List.drop ((2:Int) * IntKind.i64.wrap ((ab x).1.getD (Int.toNat (2:Int)) (0:Int))).toNat (List.drop (IntKind.i64.wrap ((ab x).1.getD (Int.toNat (1:Int)) (0:Int))).toNat (List.drop (IntKind.i64.wrap ((ab x).1.getD (Int.toNat (0:Int)) (0:Int))).toNat (List.drop (Int.toNat (4:Int)) (ab x).1)))).getD ((3:Int) * x_3.2.1+(2:Int)).toNat (0:Int)))=false→am IntKind.i64 ((3:Int) * x_3.2.1)∧(0:Int)≤(3:Int) * x_3.2.1∧(3:Int) * x_3.2.1<(↑(List.drop ((2:Int) * IntKind.i64.wrap ((ab x).1.getD (Int.toNat (2:Int)) (0:Int))).toNat (List.drop (IntKind.i64.wrap ((ab x).1.getD (Int.toNat (1:Int)) (0:Int))).toNat (List.drop (IntKind.i64.wrap ((ab x).1.getD (Int.toNat (0:Int)) (0:Int))).toNat (List.drop (Int.toNat (4:Int)) (ab x).1)))).length:Int)∧am IntKind.i64 ((3:Int) * x_3.2.1)∧am IntKind.i64 ((3:Int) * x_3.2.1+(1:Int))∧(0:Int)≤(3:Int) * x_3.2.1+(1:Int)∧(3:Int) * x_3.2.1+(1:Int)<(↑(List.drop ((2:Int) * IntKind.i64.wrap ((ab x).1.getD (Int.toNat (2:Int)) (0:Int))).toNat (List.drop (IntKind.i64.wrap ((ab x).1.getD (Int.toNat (1:Int)) (0:Int))).toNat (List.drop (IntKind.i64.wrap ((ab x).1.getD (Int.toNat (0:Int)) (0:Int))).toNat (List.drop (Int.toNat (4:Int)) (ab x).1)))).length:Int)∧am IntKind.i64 ((3:Int) * x_3.2.1)∧am IntKind.i64 ((3:Int) * x_3.2.1+(2:Int))∧(0:Int)≤(3:Int) * x_3.2.1+(2:Int)∧(3:Int) * x_3.2.1+(2:Int)<(↑(List.drop ((2:Int) * IntKind.i64.wrap ((ab x).1.getD (Int.toNat (2:Int)) (0:Int))).toNat (List.drop (IntKind.i64.wrap ((ab x).1.getD (Int.toNat (1:Int)) (0:Int))).toNat (List.drop (IntKind.i64.wrap ((ab x).1.getD (Int.toNat (0:Int)) (0:Int))).toNat (List.drop (Int.toNat (4:Int)) (ab x).1)))).length:Int)∧(x_3.1.2.2.2.length+[(IntKind.i64.wrap ((List.drop ((2:Int) * IntKind.i64.wrap ((ab x).1.getD (Int.toNat (2:Int)) (0:Int))).toNat (List.drop (IntKind.i64.wrap ((ab x).1.getD (Int.toNat (1:Int)) (0:Int))).toNat (List.drop (IntKind.i64.wrap ((ab x).1.getD (Int.toNat (0:Int)) (0:Int))).toNat (List.drop (Int.toNat (4:Int)) (ab x).1)))).getD ((3:Int) * x_3.2.1).toNat (0:Int)),decide ((List.drop ((2:Int) * IntKind.i64.wrap ((ab x).1.getD (Int.toNat (2:Int)) (0:Int))).toNat (List.drop (IntKind.i64.wrap ((ab x).1.getD (Int.toNat (1:Int)) (0:Int))).toNat (List.drop (IntKind.i64.wrap ((ab x).1.getD (Int.toNat (0:Int)) (0:Int))).toNat (List.drop (Int.toNat (4:Int)) (ab x).1)))).getD ((3:Int) * x_3.2.1+(1:Int)).toNat (0:Int)=(1:Int)),IntKind.i64.wrap ((List.drop ((2:Int) * IntKind.i64.wrap ((ab x).1.getD (Int.toNat (2:Int)) (0:Int))).toNat (List.drop (IntKind.i64.wrap ((ab x).1.getD (Int.toNat (1:Int)) (0:Int))).toNat (List.drop (IntKind.i64.wrap ((ab x).1.getD (Int.toNat (0:Int)) (0:Int))).toNat (List.drop (Int.toNat (4:Int)) (ab x).1)))).getD ((3:Int) * x_3.2.1+(2:Int)).toNat (0:Int)))].length) * ((8:Nat)+((8:Nat)+(8:Nat)))≤aC∧am IntKind.i64 (x_3.2.1+(1:Int))∧((0:Int)≤x_3.2.1+(1:Int)∧x_3.2.1+(1:Int)≤IntKind.i64.wrap ((ab x).1.getD (Int.toNat (3:Int)) (0:Int))∧(x_3.1.1,x_3.1.2.1,x_3.1.2.2.1,x_3.1.2.2.2++[(IntKind.i64.wrap ((List.drop ((2:Int) * IntKind.i64.wrap ((ab x).1.getD (Int.toNat (2:Int)) (0:Int))).toNat (List.drop (IntKind.i64.wrap ((ab x).1.getD (Int.toNat (1:Int)) (0:Int))).toNat (List.drop (IntKind.i64.wrap ((ab x).1.getD (Int.toNat (0:Int)) (0:Int))).toNat (List.drop (Int.toNat (4:Int)) (ab x).1)))).getD ((3:Int) * x_3.2.1).toNat (0:Int)),decide ((List.drop ((2:Int) * IntKind.i64.wrap ((ab x).1.getD (Int.toNat (2:Int)) (0:Int))).toNat (List.drop (IntKind.i64.wrap ((ab x).1.getD (Int.toNat (1:Int)) (0:Int))).toNat (List.drop (IntKind.i64.wrap ((ab x).1.getD (Int.toNat (0:Int)) (0:Int))).toNat (List.drop (Int.toNat (4:Int)) (ab x).1)))).getD ((3:Int) * x_3.2.1+(1:Int)).toNat (0:Int)=(1:Int)),IntKind.i64.wrap ((List.drop ((2:Int) * IntKind.i64.wrap ((ab x).1.getD (Int.toNat (2:Int)) (0:Int))).toNat (List.drop (IntKind.i64.wrap ((ab x).1.getD (Int.toNat (1:Int)) (0:Int))).toNat (List.drop (IntKind.i64.wrap ((ab x).1.getD (Int.toNat (0:Int)) (0:Int))).toNat (List.drop (Int.toNat (4:Int)) (ab x).1)))).getD ((3:Int) * x_3.2.1+(2:Int)).toNat (0:Int)))])=(x_2.1.1,x_2.1.2.1,x_2.1.2.2.1,dZ (List.drop ((2:Int) * IntKind.i64.wrap ((ab x).1.getD (Int.toNat (2:Int)) (0:Int))).toNat (List.drop (IntKind.i64.wrap ((ab x).1.getD (Int.toNat (1:Int)) (0:Int))).toNat (List.drop (IntKind.i64.wrap ((ab x).1.getD (Int.toNat (0:Int)) (0:Int))).toNat (List.drop (Int.toNat (4:Int)) (ab x).1)))) (x_3.2.1+(1:Int)).toNat)∧eK (List.drop ((2:Int) * IntKind.i64.wrap ((ab x).1.getD (Int.toNat (2:Int)) (0:Int))).toNat (List.drop (IntKind.i64.wrap ((ab x).1.getD (Int.toNat (1:Int)) (0:Int))).toNat (List.drop (IntKind.i64.wrap ((ab x).1.getD (Int.toNat (0:Int)) (0:Int))).toNat (List.drop (Int.toNat (4:Int)) (ab x).1)))) (x_3.2.1+(1:Int)).toNat=true)∧(IntKind.i64.wrap ((ab x).1.getD (Int.toNat (3:Int)) (0:Int)) - (x_3.2.1+(1:Int))).toNat<(IntKind.i64.wrap ((ab x).1.getD (Int.toNat (3:Int)) (0:Int)) - x_3.2.1).toNat))∧(decide (x_3.2.1<IntKind.i64.wrap ((ab x).1.getD (Int.toNat (3:Int)) (0:Int)))=false→True∧decide (aH x_3.1=(0:Int))=decide (aH x_3.1=(0:Int))∧x_3.1=(aF x).1∧decide (aH x_3.1=(0:Int))=(aF x).2∧True)))))
theorem oB:jJ:=by
 unfold jJ
 intro b _ hb
 have hF:aF b=if (ab b).2=true then pC (ab b).1 else (([],[],[],[]),false):=rfl
 obtain ⟨hlen,hin⟩:=AI (b:=b)
 generalize (ab b).2=ok at *
 generalize (ab b).1=n at *
 have g4:(!ok||decide ((n.length:Int)<4))=false→4≤n.length:=fun h=>by
  have:=of_decide_eq_false (Bool.or_eq_false_iff.1 h).2
  omega
 have o1:∀ {x y:Bool},(x||y)=false→x=false:=fun h=>(Bool.or_eq_false_iff.1 h).1
 have hS:pC n=if iZ n=false then (([],[],[],[]),false) else
   if ((n.drop (Int.toNat 4)).length:Int)≠n.getD (Int.toNat 0) 0+n.getD (Int.toNat 1) 0+2 * n.getD (Int.toNat 2) 0+3 * n.getD (Int.toNat 3) 0 then (([],[],[],[]),false) else
   if i6 (n.getD (Int.toNat 0) 0).toNat (n.getD (Int.toNat 1) 0).toNat (n.getD (Int.toNat 2) 0).toNat (n.getD (Int.toNat 3) 0).toNat (n.drop (Int.toNat 4))=false then (([],[],[],[]),false) else
   (fJ (n.getD (Int.toNat 0) 0).toNat (n.getD (Int.toNat 1) 0).toNat (n.getD (Int.toNat 2) 0).toNat (n.getD (Int.toNat 3) 0).toNat (n.drop (Int.toNat 4)),decide (aH (fJ (n.getD (Int.toNat 0) 0).toNat (n.getD (Int.toNat 1) 0).toNat (n.getD (Int.toNat 2) 0).toNat (n.getD (Int.toNat 3) 0).toNat (n.drop (Int.toNat 4)))=0)):=rfl
 rw [AN]
 refine ⟨hb,fun _=>by omega,fun h=>by have:=g4 h; omega,fun _=>by omega,fun h=>by have:=g4 (o1 h); omega,fun _=>by omega,fun h=>by have:=g4 (o1 (o1 h)); omega,fun _=>by omega,fun h=>by have:=g4 (o1 (o1 (o1 h))); omega,fun h=>?_,fun h=>?_⟩
 ·rw [Bool.not_eq_true'] at h
  have:aF b=(([],[],[],[]),false):=by
   rw [hF]
   cases ok
   ·rfl
   ·rw [if_pos rfl,hS,if_pos (by rw [Bool.true_and] at h; exact h)]
  rw [this]
  exact ⟨rfl,rfl,trivial⟩
 rw [Bool.not_eq_false'] at h
 rw [Bool.and_eq_true] at h
 obtain ⟨hok,hl⟩:=h
 rw [if_pos hok,hS,if_neg (by rw [hl]; simp)] at hF
 clear hS g4 o1
 have hl2:(decide (4≤n.length)&&decide (n.getD (Int.toNat 0) 0≤256)&&decide (n.getD (Int.toNat 1) 0≤32)&&decide (n.getD (Int.toNat 2) 0≤16)&&decide (n.getD (Int.toNat 3) 0≤16))=true:=hl
 simp only [Bool.and_eq_true,decide_eq_true_eq] at hl2
 obtain ⟨⟨⟨⟨l4,b0⟩,b1⟩,b2⟩,b3⟩:=hl2
 have z0:=(hin _ (aU (0:Int) (i:=0) (by omega) (by omega))).1
 have z1:=(hin _ (aU (0:Int) (i:=1) (by omega) (by omega))).1
 have z2:=(hin _ (aU (0:Int) (i:=2) (by omega) (by omega))).1
 have z3:=(hin _ (aU (0:Int) (i:=3) (by omega) (by omega))).1
 have hLin:∀ x∈n.drop (Int.toNat 4),0≤x∧x<18446744073709551616:=fun x hx=>hin x (List.mem_of_mem_drop hx)
 have hw:∀ x:Int,0≤x→x≤1000000→IntKind.i64.wrap x=x:=fun x h1 h2=>eT (by omega) (by omega)
 rw [hw _ z0 (by omega),hw _ z1 (by omega),hw _ z2 (by omega),hw _ z3 (by omega)]
 generalize n.getD (Int.toNat 0) 0=n0 at *
 generalize n.getD (Int.toNat 1) 0=n1 at *
 generalize n.getD (Int.toNat 2) 0=n2 at *
 generalize n.getD (Int.toNat 3) 0=n3 at *
 have hdl:(n.drop (Int.toNat 4)).length≤1000:=by rw [List.length_drop]; omega
 generalize n.drop (Int.toNat 4)=L at *
 simp only [am]
 refine ⟨by omega,by omega,by omega,by omega,by omega,by omega,by omega,by omega,by omega,by omega,by omega,by omega,by omega,by omega,by omega,fun h=>?_,fun h=>?_⟩
 ·rw [if_pos (of_decide_eq_true h)] at hF
  rw [hF]
  exact ⟨rfl,rfl,trivial⟩
 have hsum:(L.length:Int)=n0+n1+2 * n2+3 * n3:=by simpa using of_decide_eq_false h
 rw [if_neg (by simpa using hsum)] at hF
 have hbadr:∀ i:Int,0≤i→i<n1→256<(L.drop n0.toNat).getD i.toNat 0→aF b=(([],[],[],[]),false):=fun i h1 h2 h3=>by
  rw [hF,if_pos]
  unfold i6
  have:dI (L.drop n0.toNat) n1.toNat=false:=by
   cases e:dI (L.drop n0.toNat) n1.toNat
   ·rfl
   ·have:=xw h1 (by rw [List.length_drop]; omega) (by omega) e
    omega
  rw [this]
  rfl
 have hbadp:∀ i:Int,0≤i→i<n2→(255<((L.drop n0.toNat).drop n1.toNat).getD (2 * i).toNat 0∨1000000<((L.drop n0.toNat).drop n1.toNat).getD (2 * i+1).toNat 0)→aF b=(([],[],[],[]),false):=fun i h1 h2 h3=>by
  rw [hF,if_pos]
  unfold i6
  have:gL ((L.drop n0.toNat).drop n1.toNat) n2.toNat=false:=by
   cases e:gL ((L.drop n0.toNat).drop n1.toNat) n2.toNat
   ·rfl
   ·have:=jt.1 e i.toNat (by omega)
    rw [show (2 * i).toNat=2 * i.toNat by omega,show (2 * i+1).toNat=2 * i.toNat+1 by omega] at h3
    omega
  rw [this,Bool.and_false,Bool.false_and]
 have hbadh:∀ i:Int,0≤i→i<n3→(65535<(((L.drop n0.toNat).drop n1.toNat).drop (2 * n2).toNat).getD (3 * i).toNat 0∨1<(((L.drop n0.toNat).drop n1.toNat).drop (2 * n2).toNat).getD (3 * i+1).toNat 0∨255<(((L.drop n0.toNat).drop n1.toNat).drop (2 * n2).toNat).getD (3 * i+2).toNat 0)→aF b=(([],[],[],[]),false):=fun i h1 h2 h3=>by
  rw [hF,if_pos]
  unfold i6
  rw [show (2 * n2).toNat=2 * n2.toNat by omega] at h3
  have:eK (((L.drop n0.toNat).drop n1.toNat).drop (2 * n2.toNat)) n3.toNat=false:=by
   cases e:eK (((L.drop n0.toNat).drop n1.toNat).drop (2 * n2.toNat)) n3.toNat
   ·rfl
   ·have:=fR.1 e i.toNat (by omega)
    rw [show (3 * i).toNat=3 * i.toNat by omega,show (3 * i+1).toNat=3 * i.toNat+1 by omega,show (3 * i+2).toNat=3 * i.toNat+2 by omega] at h3
    omega
  rw [this,Bool.and_false]
 have hgood:dI (L.drop n0.toNat) n1.toNat=true→gL ((L.drop n0.toNat).drop n1.toNat) n2.toNat=true→eK (((L.drop n0.toNat).drop n1.toNat).drop (2 * n2.toNat)) n3.toNat=true→aF b=(fJ n0.toNat n1.toNat n2.toNat n3.toNat L,decide (aH (fJ n0.toNat n1.toNat n2.toNat n3.toNat L)=0)):=fun h1 h2 h3=>by
  rw [hF,if_neg]
  unfold i6
  rw [h1,h2,h3]
  simp
 have q1:((L.drop n0.toNat).length:Int)=n1+2 * n2+3 * n3:=by rw [List.length_drop]; omega
 have q2:(((L.drop n0.toNat).drop n1.toNat).length:Int)=2 * n2+3 * n3:=by rw [List.length_drop]; omega
 have q3:((((L.drop n0.toNat).drop n1.toNat).drop (2 * n2).toNat).length:Int)=3 * n3:=by rw [List.length_drop]; omega
 have i1:∀ x∈L.drop n0.toNat,0≤x∧x<18446744073709551616:=fun x hx=>hLin x (List.mem_of_mem_drop hx)
 have htl:fJ n0.toNat n1.toNat n2.toNat n3.toNat L=(L.take n0.toNat,((L.drop n0.toNat).take n1.toNat).map iQ,fM ((L.drop n0.toNat).drop n1.toNat) n2.toNat,dZ (((L.drop n0.toNat).drop n1.toNat).drop (2 * n2.toNat)) n3.toNat):=rfl
 rw [← show (2 * n2).toNat=2 * n2.toNat by omega] at htl hgood
 generalize fJ n0.toNat n1.toNat n2.toNat n3.toNat L=S at *
 clear hF hlen hin hl hok
 generalize ((L.drop n0.toNat).drop n1.toNat).drop (2 * n2).toNat=L3 at *
 generalize (L.drop n0.toNat).drop n1.toNat=L2 at *
 have t1:(L.take n0.toNat).length * 8≤140737488355328:=by rw [List.length_take]; omega
 unfold aC
 refine ⟨z0,by omega,t1,z0,by omega,⟨by omega,z1,by simp,by simp [dI]⟩,fun ⟨s1,i,zz⟩ ⟨j0,j1,j2,j3⟩=>⟨fun hi=>?_,fun hi=>?_⟩⟩
 ·have hi:=of_decide_eq_true hi
  simp only at j0 j1 j2 j3 hi ⊢
  subst j2
  refine ⟨j0,by omega,fun hx=>?_,fun hx=>?_⟩
  ·rw [hbadr i j0 (by omega) (of_decide_eq_true hx)]
   exact ⟨rfl,by first | exact trivial | rfl,trivial⟩
  ·have hx:=of_decide_eq_false hx
   have hm:=i1 _ (aU (0:Int) j0 (by omega:i<((L.drop n0.toNat).length:Int)))
   have hsu:=vI j0 (by omega) j3 (by omega)
   have ht:=aW (0:Int) j0 (by omega:i<((L.drop n0.toNat).length:Int))
   rw [ht]
   rw [hw _ hm.1 (by omega)]
   have hr:iQ ((L.drop n0.toNat).getD i.toNat 0)=(L.drop n0.toNat).getD i.toNat 0 - 1:=by unfold iQ; rw [hw _ hm.1 (by omega)]
   simp only [List.length_map,List.length_take,List.length_singleton,List.map_append,List.map_cons,List.map_nil,hr]
   exact ⟨j0,by omega,by omega,by omega,by omega,⟨by omega,by omega,trivial,hsu⟩,by omega⟩
 have hi:=of_decide_eq_false hi
 simp only at j0 j1 j2 j3 hi ⊢
 obtain rfl:i=n1:=by omega
 refine ⟨z1,by omega,⟨by omega,z2,by rw [j2]; rfl,by simp [gL]⟩,fun ⟨s2,k,zz2⟩ ⟨k0,k1,k2,k3⟩=>⟨fun hk=>?_,fun hk=>?_⟩⟩
 ·have hk:=of_decide_eq_true hk
  simp only at k0 k1 k2 k3 hk ⊢
  subst k2
  refine ⟨by omega,by omega,by omega,fun _=>by omega,fun _=>by omega,fun _=>by omega,fun _=>by omega,fun hx=>?_,fun hx=>?_⟩
  ·rw [hbadp k k0 (by omega) (by simpa using hx)]
   exact ⟨rfl,by first | exact trivial | rfl,trivial⟩
  ·have hx:¬ (255<L2.getD (2 * k).toNat 0∨1000000<L2.getD (2 * k+1).toNat 0):=by simpa using hx
   have e1:(2 * k).toNat=2 * k.toNat:=by omega
   have e2:(2 * k+1).toNat=2 * k.toNat+1:=by omega
   have e3:(k+1).toNat=k.toNat+1:=by omega
   rw [e1,e2] at hx ⊢
   rw [e3,pr,lw]
   have hsu:gL L2 (k.toNat+1)=true:=jt.2 fun j hj=>by
    rcases Nat.lt_or_ge j k.toNat with h | h
    ·exact jt.1 k3 j h
    ·obtain rfl:j=k.toNat:=by omega
     omega
   simp only [List.length_singleton]
   exact ⟨by omega,by omega,by omega,by omega,by omega,by omega,by omega,by omega,by omega,⟨by omega,by omega,by first | exact trivial | rfl,hsu⟩,by omega⟩
 have hk:=of_decide_eq_false hk
 simp only at k0 k1 k2 k3 hk ⊢
 obtain rfl:k=n2:=by omega
 refine ⟨by omega,by omega,by omega,⟨by omega,z3,by rw [k2]; rfl,by simp [eK]⟩,fun ⟨s3,m,zz3⟩ ⟨m0,m1,m2,m3⟩=>⟨fun hm=>?_,fun hm=>?_⟩⟩
 ·have hm:=of_decide_eq_true hm
  simp only at m0 m1 m2 m3 hm ⊢
  subst m2
  refine ⟨by omega,by omega,by omega,fun _=>by omega,fun _=>by omega,fun _=>by omega,fun _=>by omega,fun _=>by omega,fun _=>by omega,fun _=>by omega,fun _=>by omega,fun hx=>?_,fun hx=>?_⟩
  ·rw [hbadh m m0 (by omega) (by simpa [or_assoc] using hx)]
   exact ⟨rfl,by first | exact trivial | rfl,trivial⟩
  ·have hx:¬ (65535<L3.getD (3 * m).toNat 0∨1<L3.getD (3 * m+1).toNat 0∨255<L3.getD (3 * m+2).toNat 0):=by simpa [or_assoc,and_assoc] using hx
   have e1:(3 * m).toNat=3 * m.toNat:=by omega
   have e2:(3 * m+1).toNat=3 * m.toNat+1:=by omega
   have e4:(3 * m+2).toNat=3 * m.toNat+2:=by omega
   have e3:(m+1).toNat=m.toNat+1:=by omega
   rw [e1,e2,e4] at hx ⊢
   rw [e3,nc,jD]
   have hsu:eK L3 (m.toNat+1)=true:=fR.2 fun j hj=>by
    rcases Nat.lt_or_ge j m.toNat with h | h
    ·exact fR.1 m3 j h
    ·obtain rfl:j=m.toNat:=by omega
     omega
   simp only [List.length_singleton]
   exact ⟨by omega,by omega,by omega,by omega,by omega,by omega,by omega,by omega,by omega,by omega,by omega,by omega,by omega,⟨by omega,by omega,by first | exact trivial | rfl,hsu⟩,by omega⟩
 have hm:=of_decide_eq_false hm
 simp only at m0 m1 m2 m3 hm ⊢
 obtain rfl:m=n3:=by omega
 have hs3:s3=S:=by rw [htl,m2,k2,j2]
 rw [hgood j3 k3 m3,hs3]
 exact ⟨trivial,by first | exact trivial | rfl,rfl,rfl,trivial⟩
theorem rk:qW.ok Try.prog 63:=aQ (ann:=rR) (ai tY (ai iW ax)) Try.func63 (by kernel_rfl) oB
end Go.Proofs.Ytcnoiiohmpgckaa
