
import Derived.Test.YtcnoiiohmpgckaaTapeFns
import Derived.Test.YtcnoiiohmpgckaaStorePure
namespace Go.Proofs.Ytcnoiiohmpgckaa
open Go
set_option maxRecDepth 100000
set_option maxHeartbeats 1000000
abbrev Cu:Ty:=.pair ty_I (.pair ty_I (.pair ty_I ty_I))
def CA (s:aD):List Int:=[(s.1.length:Int),(s.2.1.length:Int),(s.2.2.1.length:Int),(s.2.2.2.length:Int)]
def gI (v:Int):Int:=IntKind.u64.wrap (v+1)
def kh (p:fq):List Int:=[IntKind.u64.wrap p.1,IntKind.u64.wrap p.2]
def eY (h:b6):List Int:=[IntKind.u64.wrap h.1,if h.2.1=true then 1 else 0,IntKind.u64.wrap h.2.2]
def Ao (s:aD):List Int:=CA s++(s.1++(s.2.1.map gI++(s.2.2.1.flatMap kh++s.2.2.2.flatMap eY)))
def jC (s:aD):List UInt8:=ac (aL (Ao s))
def aZ (s:aD):List UInt8×Int:=if aH s≠0 then ([],aH s) else (jC s,0)
theorem bb (a b:List Int):aL (a++b)=aL a++aL b:=by simp [aL]
theorem gP (n:Int):aL [n]=ar n:=by simp [aL]
theorem j8 {a r:List Int} {p:List fq} {h:List b6} (hw:∀ x∈a,am .u64 x) (h0:aH (a,r,p,h)=0):a.length≤256∧r.length≤32∧p.length≤16∧h.length≤16∧∀ v∈r,-1≤v∧v<256:=by
 have R:=vK (s:=(a,r,p,h)) hw h0
 have hal:=R.al
 obtain ⟨k1,k2,k3⟩:=gg R.root R.pin R.hand
 refine ⟨hal,k1,k2,k3,fun v hv=>?_⟩
 have:=yl (re R.root) hv
 simp only at this hal
 omega
theorem yo (a r:List Int) (p:List fq) (h:List b6):jC (a,r,p,h)=ac (aL [(a.length:Int),(r.length:Int),(p.length:Int),(h.length:Int)]++aL a++aL (r.map gI)++aL (p.flatMap kh)++aL (h.flatMap eY)):=by
 have e:Ao (a,r,p,h)=[(a.length:Int),(r.length:Int),(p.length:Int),(h.length:Int)]++(a++(r.map gI++(p.flatMap kh++h.flatMap eY))):=rfl
 unfold jC
 rw [e,bb,bb,bb,bb]
 simp only [List.append_assoc]
theorem c5 (n:Int):(ar (IntKind.u64.wrap n)).length≤10:=n9 (lI _ _)
def uM:Nat→Option LoopGen
 | 6=>some { rd:=[.dat 34 Cu],A:=fun (g:Int×Int×Int×Int)=>{ cs:=[.own 5 5 nQ,.dat 35 ty_I],inv:=fun ((out,j):List Int×Int)=>0≤j∧j≤4∧out.length≤10 * j∧out=aL ([g.1,g.2.1,g.2.2.1,g.2.2.2].take j.toNat),mu:=fun ((_,j):List Int×Int)=>(4 - j).toNat } }
 | 11=>some { rd:=[.dat 44 (.arr bv),.own 5 5 nQ],A:=fun ((l,o0):List Int×List Int)=>{ cs:=[.own 5 5 nQ,.dat 46 ty_I],inv:=fun ((out,i):List Int×Int)=>0≤i∧i≤l.length∧out.length≤o0.length+10 * i∧out=o0++aL (l.take i.toNat),mu:=fun ((_,i):List Int×Int)=>(l.length - i).toNat } }
 | 16=>some { rd:=[.dat 55 (.arr ty_I),.own 5 5 nQ],A:=fun ((l,o0):List Int×List Int)=>{ cs:=[.own 5 5 nQ,.dat 57 ty_I],inv:=fun ((out,i):List Int×Int)=>0≤i∧i≤l.length∧out.length≤o0.length+10 * i∧out=o0++aL ((l.take i.toNat).map gI),mu:=fun ((_,i):List Int×Int)=>(l.length - i).toNat } }
 | 21=>some { rd:=[.dat 68 (.arr bK),.own 5 5 nQ],A:=fun ((l,o0):List fq×List Int)=>{ cs:=[.own 5 5 nQ,.dat 70 ty_I],inv:=fun ((out,i):List Int×Int)=>0≤i∧i≤l.length∧out.length≤o0.length+20 * i∧out=o0++aL ((l.take i.toNat).flatMap kh),mu:=fun ((_,i):List Int×Int)=>(l.length - i).toNat } }
 | 26=>some { rd:=[.dat 85 (.arr bo),.own 5 5 nQ],A:=fun ((l,o0):List b6×List Int)=>{ cs:=[.own 5 5 nQ,.dat 87 ty_I],inv:=fun ((out,i):List Int×Int)=>0≤i∧i≤l.length∧out.length≤o0.length+30 * i∧out=o0++aL ((l.take i.toNat).flatMap eY),mu:=fun ((_,i):List Int×Int)=>(l.length - i).toNat } }
 | _=>none
def tn:Spec:={ Ts:=[bY],Rs:=[.dat .str,.dat ty_I],pre:=fun _=>True,F:=aZ }
def kW:Prop :=
  ∀ (x:List Int×List Int×List (Int×Int)×List (Int×Bool×Int)),((x.1.length * 8≤aC∧∀ (x_1:Int),x_1∈x.1→am .u64 x_1)∧(x.2.1.length * 8≤aC∧∀ (x_1:Int),x_1∈x.2.1→am .i64 x_1)∧(x.2.2.1.length * (8+8)≤aC∧∀ (x_1:Int×Int),x_1∈x.2.2.1→am .i64 x_1.1∧am .i64 x_1.2)∧x.2.2.2.length * (8+(8+8))≤aC∧∀ (x_1:Int×Bool×Int),x_1∈x.2.2.2→am .i64 x_1.1∧True∧am .i64 x_1.2.2)→True→True∧(decide (aH x≠0)=true→([]:List UInt8)=(aZ x).1∧aH x=(aZ x).2∧True)∧(decide (aH x≠0)=false→((0:Int)≤0∧(0:Int)≤4∧(↑(0:Nat):Int)≤10 * 0∧([]:List Int)=aL (List.take (Int.toNat 0) [((↑x.1.length:Int),(↑x.2.1.length:Int),(↑x.2.2.1.length:Int),(↑x.2.2.2.length:Int)).1,((↑x.1.length:Int),(↑x.2.1.length:Int),(↑x.2.2.1.length:Int),(↑x.2.2.2.length:Int)).2.1,((↑x.1.length:Int),(↑x.2.1.length:Int),(↑x.2.2.1.length:Int),(↑x.2.2.2.length:Int)).2.2.1,((↑x.1.length:Int),(↑x.2.1.length:Int),(↑x.2.2.1.length:Int),(↑x.2.2.2.length:Int)).2.2.2]))∧∀ (x_1:List Int×Int),0≤x_1.2∧x_1.2≤4∧(↑x_1.1.length:Int)≤10 * x_1.2∧x_1.1=aL (List.take x_1.2.toNat [((↑x.1.length:Int),(↑x.2.1.length:Int),(↑x.2.2.1.length:Int),(↑x.2.2.2.length:Int)).1,((↑x.1.length:Int),(↑x.2.1.length:Int),(↑x.2.2.1.length:Int),(↑x.2.2.2.length:Int)).2.1,((↑x.1.length:Int),(↑x.2.1.length:Int),(↑x.2.2.1.length:Int),(↑x.2.2.2.length:Int)).2.2.1,((↑x.1.length:Int),(↑x.2.1.length:Int),(↑x.2.2.1.length:Int),(↑x.2.2.2.length:Int)).2.2.2])→(decide (x_1.2<4)=true→0≤x_1.2∧x_1.2<(↑[(↑x.1.length:Int),(↑x.2.1.length:Int),(↑x.2.2.1.length:Int),(↑x.2.2.2.length:Int)].length:Int)∧(x_1.1.length+10) * 8≤140737488355328∧am .i64 (x_1.2+1)∧(0≤x_1.2+1∧x_1.2+1≤4∧(↑(x_1.1++ar (IntKind.u64.wrap ([(↑x.1.length:Int),(↑x.2.1.length:Int),(↑x.2.2.1.length:Int),(↑x.2.2.2.length:Int)].getD x_1.2.toNat 0))).length:Int)≤10 * (x_1.2+1)∧x_1.1++ar (IntKind.u64.wrap ([(↑x.1.length:Int),(↑x.2.1.length:Int),(↑x.2.2.1.length:Int),(↑x.2.2.2.length:Int)].getD x_1.2.toNat 0))=aL (List.take (x_1.2+1).toNat [((↑x.1.length:Int),(↑x.2.1.length:Int),(↑x.2.2.1.length:Int),(↑x.2.2.2.length:Int)).1,((↑x.1.length:Int),(↑x.2.1.length:Int),(↑x.2.2.1.length:Int),(↑x.2.2.2.length:Int)).2.1,((↑x.1.length:Int),(↑x.2.1.length:Int),(↑x.2.2.1.length:Int),(↑x.2.2.2.length:Int)).2.2.1,((↑x.1.length:Int),(↑x.2.1.length:Int),(↑x.2.2.1.length:Int),(↑x.2.2.2.length:Int)).2.2.2]))∧(4 - (x_1.2+1)).toNat<(4 - x_1.2).toNat)∧(decide (x_1.2<4)=false→((0:Int)≤0∧0≤(↑x.1.length:Int)∧(↑x_1.1.length:Int)≤(↑x_1.1.length:Int)+10 * 0∧x_1.1=x_1.1++aL (List.take (Int.toNat 0) x.1))∧∀ (x_2:List Int×Int),0≤x_2.2∧x_2.2≤(↑x.1.length:Int)∧(↑x_2.1.length:Int)≤(↑x_1.1.length:Int)+10 * x_2.2∧x_2.1=x_1.1++aL (List.take x_2.2.toNat x.1)→(decide (x_2.2<(↑x.1.length:Int))=true→0≤x_2.2∧x_2.2<(↑x.1.length:Int)∧(x_2.1.length+10) * 8≤140737488355328∧am .i64 (x_2.2+1)∧(0≤x_2.2+1∧x_2.2+1≤(↑x.1.length:Int)∧(↑(x_2.1++ar (x.1.getD x_2.2.toNat 0)).length:Int)≤(↑x_1.1.length:Int)+10 * (x_2.2+1)∧x_2.1++ar (x.1.getD x_2.2.toNat 0)=x_1.1++aL (List.take (x_2.2+1).toNat x.1))∧((↑x.1.length:Int) - (x_2.2+1)).toNat<((↑x.1.length:Int) - x_2.2).toNat)∧(decide (x_2.2<(↑x.1.length:Int))=false→((0:Int)≤0∧0≤(↑x.2.1.length:Int)∧(↑x_2.1.length:Int)≤(↑x_2.1.length:Int)+10 * 0∧x_2.1=x_2.1++aL (List.map gI (List.take (Int.toNat 0) x.2.1)))∧∀ (x_3:List Int×Int),0≤x_3.2∧x_3.2≤(↑x.2.1.length:Int)∧(↑x_3.1.length:Int)≤(↑x_2.1.length:Int)+10 * x_3.2∧x_3.1=x_2.1++aL (List.map gI (List.take x_3.2.toNat x.2.1))→(decide (x_3.2<(↑x.2.1.length:Int))=true→0≤x_3.2∧x_3.2<(↑x.2.1.length:Int)∧am .i64 (x.2.1.getD x_3.2.toNat 0+1)∧(x_3.1.length+10) * 8≤140737488355328∧am .i64 (x_3.2+1)∧(0≤x_3.2+1∧x_3.2+1≤(↑x.2.1.length:Int)∧(↑(x_3.1++ar (IntKind.u64.wrap (x.2.1.getD x_3.2.toNat 0+1))).length:Int)≤(↑x_2.1.length:Int)+10 * (x_3.2+1)∧x_3.1++ar (IntKind.u64.wrap (x.2.1.getD x_3.2.toNat 0+1))=x_2.1++aL (List.map gI (List.take (x_3.2+1).toNat x.2.1)))∧((↑x.2.1.length:Int) - (x_3.2+1)).toNat<((↑x.2.1.length:Int) - x_3.2).toNat)∧(decide (x_3.2<(↑x.2.1.length:Int))=false→((0:Int)≤0∧0≤(↑x.2.2.1.length:Int)∧(↑x_3.1.length:Int)≤(↑x_3.1.length:Int)+20 * 0∧x_3.1=x_3.1++aL (List.flatMap kh (List.take (Int.toNat 0) x.2.2.1)))∧∀ (x_4:List Int×Int),0≤x_4.2∧x_4.2≤(↑x.2.2.1.length:Int)∧(↑x_4.1.length:Int)≤(↑x_3.1.length:Int)+20 * x_4.2∧x_4.1=x_3.1++aL (List.flatMap kh (List.take x_4.2.toNat x.2.2.1))→(decide (x_4.2<(↑x.2.2.1.length:Int))=true→0≤x_4.2∧x_4.2<(↑x.2.2.1.length:Int)∧(x_4.1.length+10) * 8≤140737488355328∧(x.2.2.1.getD x_4.2.toNat (0,0)).2=(x.2.2.1.getD x_4.2.toNat (0,0)).2∧IntKind.u64.wrap (x.2.2.1.getD x_4.2.toNat (0,0)).2=IntKind.u64.wrap (x.2.2.1.getD x_4.2.toNat (0,0)).2∧((x_4.1++ar (IntKind.u64.wrap (x.2.2.1.getD x_4.2.toNat (0,0)).1)).length+10) * 8≤140737488355328∧am .i64 (x_4.2+1)∧(0≤x_4.2+1∧x_4.2+1≤(↑x.2.2.1.length:Int)∧(↑(x_4.1++ar (IntKind.u64.wrap (x.2.2.1.getD x_4.2.toNat (0,0)).1)++ar (IntKind.u64.wrap (x.2.2.1.getD x_4.2.toNat (0,0)).2)).length:Int)≤(↑x_3.1.length:Int)+20 * (x_4.2+1)∧x_4.1++ar (IntKind.u64.wrap (x.2.2.1.getD x_4.2.toNat (0,0)).1)++ar (IntKind.u64.wrap (x.2.2.1.getD x_4.2.toNat (0,0)).2)=x_3.1++aL (List.flatMap kh (List.take (x_4.2+1).toNat x.2.2.1)))∧((↑x.2.2.1.length:Int) - (x_4.2+1)).toNat<((↑x.2.2.1.length:Int) - x_4.2).toNat)∧(decide (x_4.2<(↑x.2.2.1.length:Int))=false→((0:Int)≤0∧0≤(↑x.2.2.2.length:Int)∧(↑x_4.1.length:Int)≤(↑x_4.1.length:Int)+30 * 0∧x_4.1=x_4.1++aL (List.flatMap eY (List.take (Int.toNat 0) x.2.2.2)))∧∀ (x_5:List Int×Int),0≤x_5.2∧x_5.2≤(↑x.2.2.2.length:Int)∧(↑x_5.1.length:Int)≤(↑x_4.1.length:Int)+30 * x_5.2∧x_5.1=x_4.1++aL (List.flatMap eY (List.take x_5.2.toNat x.2.2.2))→(decide (x_5.2<(↑x.2.2.2.length:Int))=true→0≤x_5.2∧x_5.2<(↑x.2.2.2.length:Int)∧((x.2.2.2.getD x_5.2.toNat (0,false,0)).2.1=true→(x_5.1.length+10) * 8≤140737488355328∧((x_5.1++ar (IntKind.u64.wrap (x.2.2.2.getD x_5.2.toNat (0,false,0)).1)).length+10) * 8≤140737488355328∧(1:Int)=1∧(x.2.2.2.getD x_5.2.toNat (0,false,0)).2.2=(x.2.2.2.getD x_5.2.toNat (0,false,0)).2.2∧(x.2.2.2.getD x_5.2.toNat (0,false,0)).2.2=(x.2.2.2.getD x_5.2.toNat (0,false,0)).2.2∧IntKind.u64.wrap (x.2.2.2.getD x_5.2.toNat (0,false,0)).2.2=IntKind.u64.wrap (x.2.2.2.getD x_5.2.toNat (0,false,0)).2.2∧IntKind.u64.wrap (x.2.2.2.getD x_5.2.toNat (0,false,0)).2.2=IntKind.u64.wrap (x.2.2.2.getD x_5.2.toNat (0,false,0)).2.2∧((x_5.1++ar (IntKind.u64.wrap (x.2.2.2.getD x_5.2.toNat (0,false,0)).1)++ar 1).length+10) * 8≤140737488355328∧am .i64 (x_5.2+1)∧(0≤x_5.2+1∧x_5.2+1≤(↑x.2.2.2.length:Int)∧(↑(x_5.1++ar (IntKind.u64.wrap (x.2.2.2.getD x_5.2.toNat (0,false,0)).1)++ar 1++ar (IntKind.u64.wrap (x.2.2.2.getD x_5.2.toNat (0,false,0)).2.2)).length:Int)≤(↑x_4.1.length:Int)+30 * (x_5.2+1)∧x_5.1++ar (IntKind.u64.wrap (x.2.2.2.getD x_5.2.toNat (0,false,0)).1)++ar 1++ar (IntKind.u64.wrap (x.2.2.2.getD x_5.2.toNat (0,false,0)).2.2)=x_4.1++aL (List.flatMap eY (List.take (x_5.2+1).toNat x.2.2.2)))∧((↑x.2.2.2.length:Int) - (x_5.2+1)).toNat<((↑x.2.2.2.length:Int) - x_5.2).toNat)∧((x.2.2.2.getD x_5.2.toNat (0,false,0)).2.1=false→(x_5.1.length+10) * 8≤140737488355328∧((x_5.1++ar (IntKind.u64.wrap (x.2.2.2.getD x_5.2.toNat (0,false,0)).1)).length+10) * 8≤140737488355328∧(0:Int)=0∧(x.2.2.2.getD x_5.2.toNat (0,false,0)).2.2=(x.2.2.2.getD x_5.2.toNat (0,false,0)).2.2∧(x.2.2.2.getD x_5.2.toNat (0,false,0)).2.2=(x.2.2.2.getD x_5.2.toNat (0,false,0)).2.2∧IntKind.u64.wrap (x.2.2.2.getD x_5.2.toNat (0,false,0)).2.2=IntKind.u64.wrap (x.2.2.2.getD x_5.2.toNat (0,false,0)).2.2∧IntKind.u64.wrap (x.2.2.2.getD x_5.2.toNat (0,false,0)).2.2=IntKind.u64.wrap (x.2.2.2.getD x_5.2.toNat (0,false,0)).2.2∧((x_5.1++ar (IntKind.u64.wrap (x.2.2.2.getD x_5.2.toNat (0,false,0)).1)++ar 0).length+10) * 8≤140737488355328∧am .i64 (x_5.2+1)∧(0≤x_5.2+1∧x_5.2+1≤(↑x.2.2.2.length:Int)∧(↑(x_5.1++ar (IntKind.u64.wrap (x.2.2.2.getD x_5.2.toNat (0,false,0)).1)++ar 0++ar (IntKind.u64.wrap (x.2.2.2.getD x_5.2.toNat (0,false,0)).2.2)).length:Int)≤(↑x_4.1.length:Int)+30 * (x_5.2+1)∧x_5.1++ar (IntKind.u64.wrap (x.2.2.2.getD x_5.2.toNat (0,false,0)).1)++ar 0++ar (IntKind.u64.wrap (x.2.2.2.getD x_5.2.toNat (0,false,0)).2.2)=x_4.1++aL (List.flatMap eY (List.take (x_5.2+1).toNat x.2.2.2)))∧((↑x.2.2.2.length:Int) - (x_5.2+1)).toNat<((↑x.2.2.2.length:Int) - x_5.2).toNat))∧(decide (x_5.2<(↑x.2.2.2.length:Int))=false→ac x_5.1=(aZ x).1∧0=(aZ x).2∧True))))))
theorem qy:kW:=by
 unfold kW
 intro ⟨a,r,p,h⟩ ⟨⟨_,hw⟩,_⟩ _
 have hF:aZ (a,r,p,h)=if aH (a,r,p,h)≠0 then ([],aH (a,r,p,h)) else (jC (a,r,p,h),0):=rfl
 refine ⟨trivial,fun hb=>?_,fun hb=>?_⟩
 ·rw [hF,if_pos (of_decide_eq_true hb)]
  exact ⟨rfl,rfl,trivial⟩
 have h0:aH (a,r,p,h)=0:=by simpa using of_decide_eq_false hb
 rw [hF,if_neg (by omega),yo]
 simp only at hw
 obtain ⟨la,lr,lp,lh,hroot⟩:=j8 hw h0
 simp only
 clear hF hb h0
 have h4:([(a.length:Int),(r.length:Int),(p.length:Int),(h.length:Int)]:List Int).length=4:=rfl
 have hin4:∀ x∈([(a.length:Int),(r.length:Int),(p.length:Int),(h.length:Int)]:List Int),0≤x∧x≤256:=fun x hx=>by
  simp only [List.mem_cons,List.not_mem_nil,or_false] at hx
  omega
 generalize ([(a.length:Int),(r.length:Int),(p.length:Int),(h.length:Int)]:List Int)=L4 at *
 refine ⟨⟨by omega,by omega,by omega,by simp [aL]⟩,fun ⟨o1,j⟩ ⟨j0,j1,j2,j3⟩=>⟨fun hj=>?_,fun hj=>?_⟩⟩
 ·have hj:=of_decide_eq_true hj
  simp only at j0 j1 j2 j3 hj ⊢
  have hjl:j<(L4.length:Int):=by omega
  have hm:=hin4 _ (aU (0:Int) j0 hjl)
  rw [aW (0:Int) j0 hjl,bb,gP,← j3]
  generalize L4.getD j.toNat 0=n at *
  have hl:=c5 n
  rw [m5 hm.1 (by omega)] at hl ⊢
  simp only [am,List.length_append]
  exact ⟨j0,hjl,by omega,by omega,⟨by omega,by omega,by omega,trivial⟩,by omega⟩
 have hj:=of_decide_eq_false hj
 simp only at j0 j1 j2 j3 hj ⊢
 rw [List.take_of_length_le (by omega)] at j3
 rw [← j3]
 have l1:o1.length≤40:=by omega
 clear j0 j1 j2 j3 hj
 refine ⟨⟨by omega,by omega,by omega,by simp [aL]⟩,fun ⟨o2,i⟩ ⟨i0,i1,i2,i3⟩=>⟨fun hi=>?_,fun hi=>?_⟩⟩
 ·have hi:=of_decide_eq_true hi
  simp only at i0 i1 i2 i3 hi ⊢
  have hm:=hw _ (aU (0:Int) i0 hi)
  rw [aW (0:Int) i0 hi,bb,gP,← List.append_assoc,← i3]
  generalize a.getD i.toNat 0=n at *
  have hl:=n9 hm
  simp only [am,List.length_append]
  exact ⟨i0,hi,by omega,by omega,⟨by omega,by omega,by omega,trivial⟩,by omega⟩
 have hi:=of_decide_eq_false hi
 simp only at i0 i1 i2 i3 hi ⊢
 rw [bM hi] at i3
 rw [← i3]
 have l2:o2.length≤3000:=by omega
 clear i0 i1 i2 i3 hi
 refine ⟨⟨by omega,by omega,by omega,by simp [aL]⟩,fun ⟨o3,i⟩ ⟨i0,i1,i2,i3⟩=>⟨fun hi=>?_,fun hi=>?_⟩⟩
 ·have hi:=of_decide_eq_true hi
  simp only at i0 i1 i2 i3 hi ⊢
  have hm:=hroot _ (aU (0:Int) i0 hi)
  rw [aW (0:Int) i0 hi,List.map_append,List.map_cons,List.map_nil,bb,gP,← List.append_assoc,← i3]
  generalize r.getD i.toNat 0=n at *
  have hl:=c5 (n+1)
  simp only [am,List.length_append,gI]
  exact ⟨i0,hi,by omega,by omega,by omega,⟨by omega,by omega,by omega,trivial⟩,by omega⟩
 have hi:=of_decide_eq_false hi
 simp only at i0 i1 i2 i3 hi ⊢
 rw [bM hi] at i3
 rw [← i3]
 have l3:o3.length≤4000:=by omega
 clear i0 i1 i2 i3 hi
 refine ⟨⟨by omega,by omega,by omega,by simp [aL]⟩,fun ⟨o4,i⟩ ⟨i0,i1,i2,i3⟩=>⟨fun hi=>?_,fun hi=>?_⟩⟩
 ·have hi:=of_decide_eq_true hi
  simp only at i0 i1 i2 i3 hi ⊢
  have e2:∀ x:fq,aL (kh x)=ar (IntKind.u64.wrap x.1)++ar (IntKind.u64.wrap x.2):=fun x=>by simp [aL,kh]
  rw [aW ((0,0):fq) i0 hi,List.flatMap_append,List.flatMap_cons,List.flatMap_nil,List.append_nil,bb,e2,← List.append_assoc,← List.append_assoc,← i3]
  generalize p.getD i.toNat (0,0)=x at *
  have hl1:=c5 x.1
  have hl2:=c5 x.2
  simp only [am,List.length_append]
  exact ⟨i0,hi,by omega,trivial,trivial,by omega,by omega,⟨by omega,by omega,by omega,trivial⟩,by omega⟩
 have hi:=of_decide_eq_false hi
 simp only at i0 i1 i2 i3 hi ⊢
 rw [bM hi] at i3
 rw [← i3]
 have l4:o4.length≤5000:=by omega
 clear i0 i1 i2 i3 hi
 refine ⟨⟨by omega,by omega,by omega,by simp [aL]⟩,fun ⟨o5,i⟩ ⟨i0,i1,i2,i3⟩=>⟨fun hi=>?_,fun hi=>?_⟩⟩
 ·have hi:=of_decide_eq_true hi
  simp only at i0 i1 i2 i3 hi ⊢
  have e2:∀ x:b6,aL (eY x)=ar (IntKind.u64.wrap x.1)++ar (if x.2.1=true then 1 else 0)++ar (IntKind.u64.wrap x.2.2):=fun x=>by simp [aL,eY]
  rw [aW ((0,false,0):b6) i0 hi,List.flatMap_append,List.flatMap_cons,List.flatMap_nil,List.append_nil,bb,e2,← List.append_assoc,← List.append_assoc,← i3]
  generalize h.getD i.toNat (0,false,0)=x at *
  have hl1:=c5 x.1
  have hl2:=c5 x.2.2
  have hl3:(ar 1).length=1:=by rw [ek (by omega)]; rfl
  have hl4:(ar 0).length=1:=by rw [ek (by omega)]; rfl
  simp only [am,List.length_append]
  refine ⟨i0,hi,fun hx=>?_,fun hx=>?_⟩
  ·rw [if_pos hx]
   simp only [hl3,← List.append_assoc]
   exact ⟨by omega,by omega,trivial,trivial,trivial,trivial,trivial,by omega,by omega,⟨by omega,by omega,by omega,trivial⟩,by omega⟩
  ·rw [if_neg (by rw [hx]; simp)]
   simp only [hl4,← List.append_assoc]
   exact ⟨by omega,by omega,trivial,trivial,trivial,trivial,trivial,by omega,by omega,⟨by omega,by omega,by omega,trivial⟩,by omega⟩
 ·have hi:=of_decide_eq_false hi
  simp only at i0 i1 i2 i3 hi ⊢
  rw [bM hi] at i3
  rw [← i3]
  exact ⟨by first | exact trivial | rfl,by first | exact trivial | rfl,trivial⟩
theorem tT:tn.ok Try.prog 59:=aQ (ann:=uM) (ai pz (kG xG ax)) Try.func59 (by kernel_rfl) qy
def rQ:Nat→Option LoopGen
 | 3=>some { rd:=[.dat 37 (.arr bv),.dat 3 .str],A:=fun ((l,o0):List Int×List UInt8)=>{ cs:=[.dat 3 .str,.dat 39 ty_I],inv:=fun ((out,i):List UInt8×Int)=>0≤i∧i≤l.length∧out.length≤o0.length+10 * i∧out=o0++ac (aL (l.take i.toNat)),mu:=fun ((_,i):List UInt8×Int)=>(l.length - i).toNat } }
 | 8=>some { rd:=[.dat 49 (.arr ty_I),.dat 3 .str],A:=fun ((l,o0):List Int×List UInt8)=>{ cs:=[.dat 3 .str,.dat 51 ty_I],inv:=fun ((out,i):List UInt8×Int)=>0≤i∧i≤l.length∧out.length≤o0.length+10 * i∧out=o0++ac (aL ((l.take i.toNat).map gI)),mu:=fun ((_,i):List UInt8×Int)=>(l.length - i).toNat } }
 | 13=>some { rd:=[.dat 63 (.arr bK),.dat 3 .str],A:=fun ((l,o0):List fq×List UInt8)=>{ cs:=[.dat 3 .str,.dat 65 ty_I],inv:=fun ((out,i):List UInt8×Int)=>0≤i∧i≤l.length∧out.length≤o0.length+20 * i∧out=o0++ac (aL ((l.take i.toNat).flatMap kh)),mu:=fun ((_,i):List UInt8×Int)=>(l.length - i).toNat } }
 | 18=>some { rd:=[.dat 82 (.arr bo),.dat 3 .str],A:=fun ((l,o0):List b6×List UInt8)=>{ cs:=[.dat 3 .str,.dat 84 ty_I],inv:=fun ((out,i):List UInt8×Int)=>0≤i∧i≤l.length∧out.length≤o0.length+30 * i∧out=o0++ac (aL ((l.take i.toNat).flatMap eY)),mu:=fun ((_,i):List UInt8×Int)=>(l.length - i).toNat } }
 | _=>none
def qV:Spec:={ Ts:=[bY],Rs:=[.dat .str],pre:=fun s=>aH s=0,F:=jC }
def jI:Prop :=
  ∀ (x:List Int×List Int×List (Int×Int)×List (Int×Bool×Int)),((x.1.length * 8≤aC∧∀ (x_1:Int),x_1∈x.1→am .u64 x_1)∧(x.2.1.length * 8≤aC∧∀ (x_1:Int),x_1∈x.2.1→am .i64 x_1)∧(x.2.2.1.length * (8+8)≤aC∧∀ (x_1:Int×Int),x_1∈x.2.2.1→am .i64 x_1.1∧am .i64 x_1.2)∧x.2.2.2.length * (8+(8+8))≤aC∧∀ (x_1:Int×Bool×Int),x_1∈x.2.2.2→am .i64 x_1.1∧True∧am .i64 x_1.2.2)→aH x=0→True∧True∧(ac (ar (IntKind.u64.wrap (↑x.1.length:Int)))).length+(ac (ar (IntKind.u64.wrap (↑x.2.1.length:Int)))).length≤aC∧True∧(ac (ar (IntKind.u64.wrap (↑x.1.length:Int)))++ac (ar (IntKind.u64.wrap (↑x.2.1.length:Int)))).length+(ac (ar (IntKind.u64.wrap (↑x.2.2.1.length:Int)))).length≤aC∧True∧(ac (ar (IntKind.u64.wrap (↑x.1.length:Int)))++ac (ar (IntKind.u64.wrap (↑x.2.1.length:Int)))++ac (ar (IntKind.u64.wrap (↑x.2.2.1.length:Int)))).length+(ac (ar (IntKind.u64.wrap (↑x.2.2.2.length:Int)))).length≤aC∧((0:Int)≤0∧0≤(↑x.1.length:Int)∧(↑(ac (ar (IntKind.u64.wrap (↑x.1.length:Int)))++ac (ar (IntKind.u64.wrap (↑x.2.1.length:Int)))++ac (ar (IntKind.u64.wrap (↑x.2.2.1.length:Int)))++ac (ar (IntKind.u64.wrap (↑x.2.2.2.length:Int)))).length:Int)≤(↑(ac (ar (IntKind.u64.wrap (↑x.1.length:Int)))++ac (ar (IntKind.u64.wrap (↑x.2.1.length:Int)))++ac (ar (IntKind.u64.wrap (↑x.2.2.1.length:Int)))++ac (ar (IntKind.u64.wrap (↑x.2.2.2.length:Int)))).length:Int)+10 * 0∧ac (ar (IntKind.u64.wrap (↑x.1.length:Int)))++ac (ar (IntKind.u64.wrap (↑x.2.1.length:Int)))++ac (ar (IntKind.u64.wrap (↑x.2.2.1.length:Int)))++ac (ar (IntKind.u64.wrap (↑x.2.2.2.length:Int)))=ac (ar (IntKind.u64.wrap (↑x.1.length:Int)))++ac (ar (IntKind.u64.wrap (↑x.2.1.length:Int)))++ac (ar (IntKind.u64.wrap (↑x.2.2.1.length:Int)))++ac (ar (IntKind.u64.wrap (↑x.2.2.2.length:Int)))++ac (aL (List.take (Int.toNat 0) x.1)))∧∀ (x_1:List UInt8×Int),0≤x_1.2∧x_1.2≤(↑x.1.length:Int)∧(↑x_1.1.length:Int)≤(↑(ac (ar (IntKind.u64.wrap (↑x.1.length:Int)))++ac (ar (IntKind.u64.wrap (↑x.2.1.length:Int)))++ac (ar (IntKind.u64.wrap (↑x.2.2.1.length:Int)))++ac (ar (IntKind.u64.wrap (↑x.2.2.2.length:Int)))).length:Int)+10 * x_1.2∧x_1.1=ac (ar (IntKind.u64.wrap (↑x.1.length:Int)))++ac (ar (IntKind.u64.wrap (↑x.2.1.length:Int)))++ac (ar (IntKind.u64.wrap (↑x.2.2.1.length:Int)))++ac (ar (IntKind.u64.wrap (↑x.2.2.2.length:Int)))++ac (aL (List.take x_1.2.toNat x.1))→(decide (x_1.2<(↑x.1.length:Int))=true→0≤x_1.2∧x_1.2<(↑x.1.length:Int)∧True∧x_1.1.length+(ac (ar (x.1.getD x_1.2.toNat 0))).length≤aC∧am .i64 (x_1.2+1)∧(0≤x_1.2+1∧x_1.2+1≤(↑x.1.length:Int)∧(↑(x_1.1++ac (ar (x.1.getD x_1.2.toNat 0))).length:Int)≤(↑(ac (ar (IntKind.u64.wrap (↑x.1.length:Int)))++ac (ar (IntKind.u64.wrap (↑x.2.1.length:Int)))++ac (ar (IntKind.u64.wrap (↑x.2.2.1.length:Int)))++ac (ar (IntKind.u64.wrap (↑x.2.2.2.length:Int)))).length:Int)+10 * (x_1.2+1)∧x_1.1++ac (ar (x.1.getD x_1.2.toNat 0))=ac (ar (IntKind.u64.wrap (↑x.1.length:Int)))++ac (ar (IntKind.u64.wrap (↑x.2.1.length:Int)))++ac (ar (IntKind.u64.wrap (↑x.2.2.1.length:Int)))++ac (ar (IntKind.u64.wrap (↑x.2.2.2.length:Int)))++ac (aL (List.take (x_1.2+1).toNat x.1)))∧((↑x.1.length:Int) - (x_1.2+1)).toNat<((↑x.1.length:Int) - x_1.2).toNat)∧(decide (x_1.2<(↑x.1.length:Int))=false→((0:Int)≤0∧0≤(↑x.2.1.length:Int)∧(↑x_1.1.length:Int)≤(↑x_1.1.length:Int)+10 * 0∧x_1.1=x_1.1++ac (aL (List.map gI (List.take (Int.toNat 0) x.2.1))))∧∀ (x_2:List UInt8×Int),0≤x_2.2∧x_2.2≤(↑x.2.1.length:Int)∧(↑x_2.1.length:Int)≤(↑x_1.1.length:Int)+10 * x_2.2∧x_2.1=x_1.1++ac (aL (List.map gI (List.take x_2.2.toNat x.2.1)))→(decide (x_2.2<(↑x.2.1.length:Int))=true→0≤x_2.2∧x_2.2<(↑x.2.1.length:Int)∧am .i64 (x.2.1.getD x_2.2.toNat 0+1)∧True∧x_2.1.length+(ac (ar (IntKind.u64.wrap (x.2.1.getD x_2.2.toNat 0+1)))).length≤aC∧am .i64 (x_2.2+1)∧(0≤x_2.2+1∧x_2.2+1≤(↑x.2.1.length:Int)∧(↑(x_2.1++ac (ar (IntKind.u64.wrap (x.2.1.getD x_2.2.toNat 0+1)))).length:Int)≤(↑x_1.1.length:Int)+10 * (x_2.2+1)∧x_2.1++ac (ar (IntKind.u64.wrap (x.2.1.getD x_2.2.toNat 0+1)))=x_1.1++ac (aL (List.map gI (List.take (x_2.2+1).toNat x.2.1))))∧((↑x.2.1.length:Int) - (x_2.2+1)).toNat<((↑x.2.1.length:Int) - x_2.2).toNat)∧(decide (x_2.2<(↑x.2.1.length:Int))=false→((0:Int)≤0∧0≤(↑x.2.2.1.length:Int)∧(↑x_2.1.length:Int)≤(↑x_2.1.length:Int)+20 * 0∧x_2.1=x_2.1++ac (aL (List.flatMap kh (List.take (Int.toNat 0) x.2.2.1))))∧∀ (x_3:List UInt8×Int),0≤x_3.2∧x_3.2≤(↑x.2.2.1.length:Int)∧(↑x_3.1.length:Int)≤(↑x_2.1.length:Int)+20 * x_3.2∧x_3.1=x_2.1++ac (aL (List.flatMap kh (List.take x_3.2.toNat x.2.2.1)))→(decide (x_3.2<(↑x.2.2.1.length:Int))=true→0≤x_3.2∧x_3.2<(↑x.2.2.1.length:Int)∧True∧True∧(ac (ar (IntKind.u64.wrap (x.2.2.1.getD x_3.2.toNat (0,0)).1))).length+(ac (ar (IntKind.u64.wrap (x.2.2.1.getD x_3.2.toNat (0,0)).2))).length≤aC∧x_3.1.length+(ac (ar (IntKind.u64.wrap (x.2.2.1.getD x_3.2.toNat (0,0)).1))++ac (ar (IntKind.u64.wrap (x.2.2.1.getD x_3.2.toNat (0,0)).2))).length≤aC∧am .i64 (x_3.2+1)∧(0≤x_3.2+1∧x_3.2+1≤(↑x.2.2.1.length:Int)∧(↑(x_3.1++(ac (ar (IntKind.u64.wrap (x.2.2.1.getD x_3.2.toNat (0,0)).1))++ac (ar (IntKind.u64.wrap (x.2.2.1.getD x_3.2.toNat (0,0)).2)))).length:Int)≤(↑x_2.1.length:Int)+20 * (x_3.2+1)∧x_3.1++(ac (ar (IntKind.u64.wrap (x.2.2.1.getD x_3.2.toNat (0,0)).1))++ac (ar (IntKind.u64.wrap (x.2.2.1.getD x_3.2.toNat (0,0)).2)))=x_2.1++ac (aL (List.flatMap kh (List.take (x_3.2+1).toNat x.2.2.1))))∧((↑x.2.2.1.length:Int) - (x_3.2+1)).toNat<((↑x.2.2.1.length:Int) - x_3.2).toNat)∧(decide (x_3.2<(↑x.2.2.1.length:Int))=false→((0:Int)≤0∧0≤(↑x.2.2.2.length:Int)∧(↑x_3.1.length:Int)≤(↑x_3.1.length:Int)+30 * 0∧x_3.1=x_3.1++ac (aL (List.flatMap eY (List.take (Int.toNat 0) x.2.2.2))))∧∀ (x_4:List UInt8×Int),0≤x_4.2∧x_4.2≤(↑x.2.2.2.length:Int)∧(↑x_4.1.length:Int)≤(↑x_3.1.length:Int)+30 * x_4.2∧x_4.1=x_3.1++ac (aL (List.flatMap eY (List.take x_4.2.toNat x.2.2.2)))→(decide (x_4.2<(↑x.2.2.2.length:Int))=true→0≤x_4.2∧x_4.2<(↑x.2.2.2.length:Int)∧((x.2.2.2.getD x_4.2.toNat (0,false,0)).2.1=true→True∧True∧(ac (ar (IntKind.u64.wrap (x.2.2.2.getD x_4.2.toNat (0,false,0)).1))).length+(ac (ar 1)).length≤aC∧True∧(ac (ar (IntKind.u64.wrap (x.2.2.2.getD x_4.2.toNat (0,false,0)).1))++ac (ar 1)).length+(ac (ar (IntKind.u64.wrap (x.2.2.2.getD x_4.2.toNat (0,false,0)).2.2))).length≤aC∧x_4.1.length+(ac (ar (IntKind.u64.wrap (x.2.2.2.getD x_4.2.toNat (0,false,0)).1))++ac (ar 1)++ac (ar (IntKind.u64.wrap (x.2.2.2.getD x_4.2.toNat (0,false,0)).2.2))).length≤aC∧am .i64 (x_4.2+1)∧(0≤x_4.2+1∧x_4.2+1≤(↑x.2.2.2.length:Int)∧(↑(x_4.1++(ac (ar (IntKind.u64.wrap (x.2.2.2.getD x_4.2.toNat (0,false,0)).1))++ac (ar 1)++ac (ar (IntKind.u64.wrap (x.2.2.2.getD x_4.2.toNat (0,false,0)).2.2)))).length:Int)≤(↑x_3.1.length:Int)+30 * (x_4.2+1)∧x_4.1++(ac (ar (IntKind.u64.wrap (x.2.2.2.getD x_4.2.toNat (0,false,0)).1))++ac (ar 1)++ac (ar (IntKind.u64.wrap (x.2.2.2.getD x_4.2.toNat (0,false,0)).2.2)))=x_3.1++ac (aL (List.flatMap eY (List.take (x_4.2+1).toNat x.2.2.2))))∧((↑x.2.2.2.length:Int) - (x_4.2+1)).toNat<((↑x.2.2.2.length:Int) - x_4.2).toNat)∧((x.2.2.2.getD x_4.2.toNat (0,false,0)).2.1=false→True∧True∧(ac (ar (IntKind.u64.wrap (x.2.2.2.getD x_4.2.toNat (0,false,0)).1))).length+(ac (ar 0)).length≤aC∧True∧(ac (ar (IntKind.u64.wrap (x.2.2.2.getD x_4.2.toNat (0,false,0)).1))++ac (ar 0)).length+(ac (ar (IntKind.u64.wrap (x.2.2.2.getD x_4.2.toNat (0,false,0)).2.2))).length≤aC∧x_4.1.length+(ac (ar (IntKind.u64.wrap (x.2.2.2.getD x_4.2.toNat (0,false,0)).1))++ac (ar 0)++ac (ar (IntKind.u64.wrap (x.2.2.2.getD x_4.2.toNat (0,false,0)).2.2))).length≤aC∧am .i64 (x_4.2+1)∧(0≤x_4.2+1∧x_4.2+1≤(↑x.2.2.2.length:Int)∧(↑(x_4.1++(ac (ar (IntKind.u64.wrap (x.2.2.2.getD x_4.2.toNat (0,false,0)).1))++ac (ar 0)++ac (ar (IntKind.u64.wrap (x.2.2.2.getD x_4.2.toNat (0,false,0)).2.2)))).length:Int)≤(↑x_3.1.length:Int)+30 * (x_4.2+1)∧x_4.1++(ac (ar (IntKind.u64.wrap (x.2.2.2.getD x_4.2.toNat (0,false,0)).1))++ac (ar 0)++ac (ar (IntKind.u64.wrap (x.2.2.2.getD x_4.2.toNat (0,false,0)).2.2)))=x_3.1++ac (aL (List.flatMap eY (List.take (x_4.2+1).toNat x.2.2.2))))∧((↑x.2.2.2.length:Int) - (x_4.2+1)).toNat<((↑x.2.2.2.length:Int) - x_4.2).toNat))∧(decide (x_4.2<(↑x.2.2.2.length:Int))=false→x_4.1=jC x∧True))))
theorem oA:jI:=by
 unfold jI
 intro ⟨a,r,p,h⟩ ⟨⟨_,hw⟩,_⟩ h0
 rw [yo]
 simp only at hw
 obtain ⟨la,lr,lp,lh,hroot⟩:=j8 hw h0
 simp only
 have hu:∀ n:Nat,n≤256→IntKind.u64.wrap (n:Int)=n:=fun n hn=>m5 (by omega) (by omega)
 have hl:∀ n:Int,(ac (ar (IntKind.u64.wrap n))).length≤10:=fun n=>by rw [cJ]; exact c5 n
 have e4:ac (ar (IntKind.u64.wrap (a.length:Int)))++ac (ar (IntKind.u64.wrap (r.length:Int)))++ac (ar (IntKind.u64.wrap (p.length:Int)))++ac (ar (IntKind.u64.wrap (h.length:Int)))=ac (aL [(a.length:Int),(r.length:Int),(p.length:Int),(h.length:Int)]):=by
  rw [hu _ la,hu _ (by omega),hu _ (by omega),hu _ (by omega)]
  simp [aL,bk,List.append_assoc]
 have k1:=hl (a.length:Int)
 have k2:=hl (r.length:Int)
 have k3:=hl (p.length:Int)
 have k4:=hl (h.length:Int)
 have k5:(ac (aL [(a.length:Int),(r.length:Int),(p.length:Int),(h.length:Int)])).length≤40:=by
  rw [← e4]
  simp only [List.length_append]
  omega
 rw [e4]
 simp only [bk,← List.append_assoc]
 refine ⟨trivial,trivial,by unfold aC; omega,trivial,by simp only [List.length_append]; unfold aC; omega,trivial,by simp only [List.length_append]; unfold aC; omega,?_⟩
 clear k1 k2 k3 k4 e4
 generalize ac (aL [(a.length:Int),(r.length:Int),(p.length:Int),(h.length:Int)])=o1 at *
 unfold aC
 refine ⟨⟨by omega,by omega,by omega,by simp [aL,ac]⟩,fun ⟨o2,i⟩ ⟨i0,i1,i2,i3⟩=>⟨fun hi=>?_,fun hi=>?_⟩⟩
 ·have hi:=of_decide_eq_true hi
  simp only at i0 i1 i2 i3 hi ⊢
  have hm:=hw _ (aU (0:Int) i0 hi)
  rw [aW (0:Int) i0 hi,bb,gP,bk,← List.append_assoc,← i3]
  generalize a.getD i.toNat 0=n at *
  have hl:=n9 hm
  simp only [am,List.length_append,cJ]
  exact ⟨i0,hi,trivial,by omega,by omega,⟨by omega,by omega,by omega,trivial⟩,by omega⟩
 have hi:=of_decide_eq_false hi
 simp only at i0 i1 i2 i3 hi ⊢
 rw [bM hi] at i3
 rw [← i3]
 have l2:o2.length≤3000:=by omega
 clear i0 i1 i2 i3 hi
 refine ⟨⟨by omega,by omega,by omega,by simp [aL,ac]⟩,fun ⟨o3,i⟩ ⟨i0,i1,i2,i3⟩=>⟨fun hi=>?_,fun hi=>?_⟩⟩
 ·have hi:=of_decide_eq_true hi
  simp only at i0 i1 i2 i3 hi ⊢
  have hm:=hroot _ (aU (0:Int) i0 hi)
  rw [aW (0:Int) i0 hi,List.map_append,List.map_cons,List.map_nil,bb,gP,bk,← List.append_assoc,← i3]
  generalize r.getD i.toNat 0=n at *
  have hl:=c5 (n+1)
  simp only [am,List.length_append,cJ,gI]
  exact ⟨i0,hi,by omega,trivial,by omega,by omega,⟨by omega,by omega,by omega,trivial⟩,by omega⟩
 have hi:=of_decide_eq_false hi
 simp only at i0 i1 i2 i3 hi ⊢
 rw [bM hi] at i3
 rw [← i3]
 have l3:o3.length≤4000:=by omega
 clear i0 i1 i2 i3 hi
 refine ⟨⟨by omega,by omega,by omega,by simp [aL,ac]⟩,fun ⟨o4,i⟩ ⟨i0,i1,i2,i3⟩=>⟨fun hi=>?_,fun hi=>?_⟩⟩
 ·have hi:=of_decide_eq_true hi
  simp only at i0 i1 i2 i3 hi ⊢
  have e2:∀ x:fq,aL (kh x)=ar (IntKind.u64.wrap x.1)++ar (IntKind.u64.wrap x.2):=fun x=>by simp [aL,kh]
  rw [aW ((0,0):fq) i0 hi,List.flatMap_append,List.flatMap_cons,List.flatMap_nil,List.append_nil,bb,e2,bk,bk,← List.append_assoc,← i3]
  generalize p.getD i.toNat (0,0)=x at *
  have hl1:=c5 x.1
  have hl2:=c5 x.2
  simp only [am,List.length_append,cJ,List.append_assoc]
  exact ⟨i0,hi,trivial,trivial,by omega,by omega,by omega,⟨by omega,by omega,by omega,trivial⟩,by omega⟩
 have hi:=of_decide_eq_false hi
 simp only at i0 i1 i2 i3 hi ⊢
 rw [bM hi] at i3
 rw [← i3]
 have l4:o4.length≤5000:=by omega
 clear i0 i1 i2 i3 hi
 refine ⟨⟨by omega,by omega,by omega,by simp [aL,ac]⟩,fun ⟨o5,i⟩ ⟨i0,i1,i2,i3⟩=>⟨fun hi=>?_,fun hi=>?_⟩⟩
 ·have hi:=of_decide_eq_true hi
  simp only at i0 i1 i2 i3 hi ⊢
  have e2:∀ x:b6,aL (eY x)=ar (IntKind.u64.wrap x.1)++ar (if x.2.1=true then 1 else 0)++ar (IntKind.u64.wrap x.2.2):=fun x=>by simp [aL,eY]
  rw [aW ((0,false,0):b6) i0 hi,List.flatMap_append,List.flatMap_cons,List.flatMap_nil,List.append_nil,bb,e2,bk,bk,bk,← List.append_assoc,← i3]
  generalize h.getD i.toNat (0,false,0)=x at *
  have hl1:=c5 x.1
  have hl2:=c5 x.2.2
  have hl3:(ar 1).length=1:=by rw [ek (by omega)]; rfl
  have hl4:(ar 0).length=1:=by rw [ek (by omega)]; rfl
  simp only [am,List.length_append,cJ]
  refine ⟨i0,hi,fun hx=>?_,fun hx=>?_⟩
  ·rw [if_pos hx]
   simp only [hl3,List.append_assoc]
   exact ⟨trivial,trivial,by omega,trivial,by omega,by omega,by omega,⟨by omega,by omega,by omega,trivial⟩,by omega⟩
  ·rw [if_neg (by rw [hx]; simp)]
   simp only [hl4,List.append_assoc]
   exact ⟨trivial,trivial,by omega,trivial,by omega,by omega,by omega,⟨by omega,by omega,by omega,trivial⟩,by omega⟩
 ·have hi:=of_decide_eq_false hi
  simp only at i0 i1 i2 i3 hi ⊢
  rw [bM hi] at i3
  rw [← i3]
  exact ⟨by first | exact trivial | rfl,trivial⟩
theorem rj:qV.ok Try.prog 61:=aQ (ann:=rQ) (ai yB ax) Try.func61 (by kernel_rfl) oA
end Go.Proofs.Ytcnoiiohmpgckaa
