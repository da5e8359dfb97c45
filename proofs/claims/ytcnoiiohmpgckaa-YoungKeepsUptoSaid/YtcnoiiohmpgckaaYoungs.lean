
import Derived.Test.YtcnoiiohmpgckaaFaints
import Derived.Test.YtcnoiiohmpgckaaWords
import Derived.Test.YtcnoiiohmpgckaaRObjects
namespace Go.Proofs.Ytcnoiiohmpgckaa
open Go
set_option maxRecDepth 100000
set_option maxHeartbeats 1000000
abbrev bb:Ty:=.pair (.arr bB) (.pair (.arr ty_I) (.arr ty_I))
abbrev cE:=List Int×List Int×List Int
def uF:Spec:={ Ts:=[.arr ty_I],Rs:=[.dat .bool],pre:=fun _=>True,F:=aw }
def oJ:Prop :=
  ∀ (x:List Int),(x.length * (8:Nat)≤aC∧∀ (x_1:Int),x_1∈x→ai IntKind.i64 x_1)→True→((1:Int)≤(1:Int)∧(1:Int)≤(↑x.length:Int)+(1:Int)∧aw (List.drop ((1:Int) - (1:Int)).toNat x)=aw x)∧∀ (x_1:Int),(1:Int)≤x_1∧x_1≤(↑x.length:Int)+(1:Int)∧aw (List.drop (x_1 - (1:Int)).toNat x)=aw x→(decide (x_1<(↑x.length:Int))=true→ai IntKind.i64 (x_1 - (1:Int))∧(0:Int)≤x_1 - (1:Int)∧x_1 - (1:Int)<(↑x.length:Int)∧(0:Int)≤x_1∧x_1<(↑x.length:Int)∧(decide (x.getD x_1.toNat (0:Int)≤x.getD (x_1 - (1:Int)).toNat (0:Int))=true→false=aw x∧True)∧(decide (x.getD x_1.toNat (0:Int)≤x.getD (x_1 - (1:Int)).toNat (0:Int))=false→ai IntKind.i64 (x_1+(1:Int))∧((1:Int)≤x_1+(1:Int)∧x_1+(1:Int)≤(↑x.length:Int)+(1:Int)∧aw (List.drop (x_1+(1:Int) - (1:Int)).toNat x)=aw x)∧((↑x.length:Int) - (x_1+(1:Int))).toNat<((↑x.length:Int) - x_1).toNat))∧(decide (x_1<(↑x.length:Int))=false→true=aw x∧True)
theorem sK:oJ:=by
 unfold oJ
 intro l ⟨hb,_⟩ _
 unfold aC at hb
 refine ⟨⟨by omega,by omega,rfl⟩,fun i ⟨h0,h1,h2⟩=>⟨fun hlt=>?_,fun hge=>?_⟩⟩
 ·have hlt:i<(l.length:Int):=of_decide_eq_true hlt
  have e1:=aD (0:Int) (xs:=l) (i:=i - 1) (by omega) (by omega)
  have e2:=aD (0:Int) (xs:=l) (i:=i) (by omega) hlt
  rw [show i - 1+1=i by omega] at e1
  simp only [ai] at h2 ⊢
  rw [e1,e2] at h2
  simp only [aw] at h2
  rw [← e2] at h2
  refine ⟨by omega,by omega,by omega,by omega,hlt,fun hc=>?_,fun hc=>⟨by omega,⟨by omega,by omega,?_⟩,by omega⟩⟩
  ·have hc:=of_decide_eq_true hc
   rw [← h2,decide_eq_false (by omega)]
   exact ⟨rfl,trivial⟩
  ·have hc:=of_decide_eq_false hc
   rw [decide_eq_true (by omega),Bool.true_and] at h2
   rw [show i+1 - 1=i by omega]
   exact h2
 ·have hge:¬ i<(l.length:Int):=of_decide_eq_false hge
  rw [iV (by rw [List.length_drop]; omega)] at h2
  exact ⟨h2,trivial⟩
theorem uU:uF.ok Try.prog 154:=aQ (ann:=sE) ar Try.func154 (by kernel_rfl) sK
def sC:Nat→Option LoopGen
 | 4=>some { rd:=[.own 14 158 dv],A:=fun (l:List aN)=>{ cs:=[.map 13 .i64 bq,.dat 16 ty_I],inv:=fun ((m,i):List (Int×cg)×Int)=>0≤i∧i≤l.length∧bo m (l.drop i.toNat)=a7 l,mu:=fun ((_,i):List (Int×cg)×Int)=>(l.length - i).toNat } }
 | _=>none
def ri:Spec:={ Ts:=[.arr bB],Rs:=[.map .i64 bq],pre:=fun _=>True,F:=fun (a:List Int)=>a7 (aa a).1 }
def kJ:Prop :=
  ∀ (x:List Int),(x.length * 8≤aC∧∀ (x_1:Int),x_1∈x→ai .u64 x_1)→True→True∧((0:Int)≤0∧0≤(↑(aa x).1.length:Int)∧bo ([]:List (Int×Int×Int×Int×Bool)) (List.drop (Int.toNat 0) (aa x).1)=a7 (aa x).1)∧∀ (x_1:List (Int×Int×Int×Int×Bool)×Int),0≤x_1.2∧x_1.2≤(↑(aa x).1.length:Int)∧bo x_1.1 (List.drop x_1.2.toNat (aa x).1)=a7 (aa x).1→(decide (x_1.2<(↑(aa x).1.length:Int))=true→0≤x_1.2∧x_1.2<(↑(aa x).1.length:Int)∧x_1.2.toNat<(aa x).1.length∧((!((aa x).1.getD x_1.2.toNat (0,0,0,0,false)).2.2.2.2)=true→ai .i64 (x_1.2+1)∧(0≤x_1.2+1∧x_1.2+1≤(↑(aa x).1.length:Int)∧bo (eR x_1.1 ((aa x).1.getD x_1.2.toNat (0,0,0,0,false)).1 ((aa x).1.getD x_1.2.toNat (0,0,0,0,false)).2) (List.drop (x_1.2+1).toNat (aa x).1)=a7 (aa x).1)∧((↑(aa x).1.length:Int) - (x_1.2+1)).toNat<((↑(aa x).1.length:Int) - x_1.2).toNat)∧((!((aa x).1.getD x_1.2.toNat (0,0,0,0,false)).2.2.2.2)=false→ai .i64 (x_1.2+1)∧(0≤x_1.2+1∧x_1.2+1≤(↑(aa x).1.length:Int)∧bo x_1.1 (List.drop (x_1.2+1).toNat (aa x).1)=a7 (aa x).1)∧((↑(aa x).1.length:Int) - (x_1.2+1)).toNat<((↑(aa x).1.length:Int) - x_1.2).toNat))∧(decide (x_1.2<(↑(aa x).1.length:Int))=false→x_1.1=a7 (aa x).1∧True)
theorem pn:kJ:=by
 unfold kJ
 intro a ⟨hb,_⟩ _
 have hsl:=bM a
 refine ⟨trivial,⟨by omega,by omega,by first | trivial | rfl⟩,fun ⟨m,i⟩ ⟨i0,i1,i4⟩=>⟨fun hlt=>?_,fun hge=>?_⟩⟩
 ·simp only at i0 i1 i4 hlt ⊢
  have hlt:=of_decide_eq_true hlt
  rw [aD ((0,0,0,0,false):aN) i0 hlt] at i4
  simp only [bo] at i4
  generalize (aa a).1.getD i.toNat (0,0,0,0,false)=s at *
  simp only [ai]
  refine ⟨i0,hlt,by omega,fun hf0=>?_,fun hf0=>?_⟩
  ·have hf0:¬ s.2.2.2.2=true:=by simpa using hf0
   rw [if_neg hf0] at i4
   exact ⟨by omega,⟨by omega,by omega,i4⟩,by omega⟩
  ·have hf0:s.2.2.2.2=true:=by simpa using hf0
   rw [if_pos hf0] at i4
   exact ⟨by omega,⟨by omega,by omega,i4⟩,by omega⟩
 ·simp only at i0 i1 i4 hge ⊢
  rw [aX (of_decide_eq_false hge)] at i4
  exact ⟨i4,trivial⟩
theorem gp:ri.ok Try.prog 117:=aQ (ann:=sC) (af jj ar) Try.func117 (by kernel_rfl) pn
def vk:Nat→Option LoopGen
 | 3=>some { rd:=[.dat 18 (.arr bB)],A:=fun (r:List Int)=>{ cs:=[.own 7 3 ty_I,.dat 20 ty_I],inv:=fun ((out,i):List Int×Int)=>0≤i∧i≤r.length∧(∀ v∈r,v≤256)∧r.length≤256∧out=((r.take i.toNat).filter fun v=>decide (v≠0)).map (· - 1),mu:=fun ((_,i):List Int×Int)=>(r.length - i).toNat } }
 | _=>none
def uG:Spec:={ Ts:=[.arr bB,ty_I,bq],Rs:=[.own 3 ty_I],pre:=fun ((a,x,h):List Int×Int×cg)=>(au a).2.2=0∧isB (aa a).1 x=true∧h=jQ a x,F:=fun ((a,x,h):List Int×Int×cg)=>ak a x }
def oK:Prop :=
  ∀ (x:List Int×Int×Int×Int×Int×Bool),(x.1.length * 8≤aC∧∀ (x_1:Int),x_1∈x.1→ai .u64 x_1)∧ai .i64 x.2.1∧ai .i64 x.2.2.1∧ai .i64 x.2.2.2.1∧ai .i64 x.2.2.2.2.1∧True→(au x.1).2.2=0∧isB (aa x.1).1 x.2.1=true∧x.2.2=jQ x.1 x.2.1→ai .i64 (x.2.1+1)∧ai .i64 (x.2.1+1)∧ai .i64 (x.2.1+1+x.2.2.1)∧0≤x.2.1+1∧x.2.1+1≤x.2.1+1+x.2.2.1∧x.2.1+1+x.2.2.1≤(↑x.1.length:Int)∧((0:Int)≤0∧0≤(↑(List.drop (x.2.1+1).toNat (List.take (x.2.1+1+x.2.2.1).toNat x.1)).length:Int)∧(∀ (v:Int),v∈List.drop (x.2.1+1).toNat (List.take (x.2.1+1+x.2.2.1).toNat x.1)→v≤256)∧(List.drop (x.2.1+1).toNat (List.take (x.2.1+1+x.2.2.1).toNat x.1)).length≤256∧([]:List Int)=List.map (fun (x:Int)=>x - 1) (List.filter (fun (v:Int)=>decide (v≠0)) (List.take (Int.toNat 0) (List.drop (x.2.1+1).toNat (List.take (x.2.1+1+x.2.2.1).toNat x.1)))))∧∀ (x_1:List Int×Int),0≤x_1.2∧x_1.2≤(↑(List.drop (x.2.1+1).toNat (List.take (x.2.1+1+x.2.2.1).toNat x.1)).length:Int)∧(∀ (v:Int),v∈List.drop (x.2.1+1).toNat (List.take (x.2.1+1+x.2.2.1).toNat x.1)→v≤256)∧(List.drop (x.2.1+1).toNat (List.take (x.2.1+1+x.2.2.1).toNat x.1)).length≤256∧x_1.1=List.map (fun (x:Int)=>x - 1) (List.filter (fun (v:Int)=>decide (v≠0)) (List.take x_1.2.toNat (List.drop (x.2.1+1).toNat (List.take (x.2.1+1+x.2.2.1).toNat x.1))))→(decide (x_1.2<(↑(List.drop (x.2.1+1).toNat (List.take (x.2.1+1+x.2.2.1).toNat x.1)).length:Int))=true→0≤x_1.2∧x_1.2<(↑(List.drop (x.2.1+1).toNat (List.take (x.2.1+1+x.2.2.1).toNat x.1)).length:Int)∧(decide ((List.drop (x.2.1+1).toNat (List.take (x.2.1+1+x.2.2.1).toNat x.1)).getD x_1.2.toNat (0:Int)≠0)=true→ai .i64 (IntKind.i64.wrap ((List.drop (x.2.1+1).toNat (List.take (x.2.1+1+x.2.2.1).toNat x.1)).getD x_1.2.toNat 0) - 1)∧(x_1.1.length+[IntKind.i64.wrap ((List.drop (x.2.1+1).toNat (List.take (x.2.1+1+x.2.2.1).toNat x.1)).getD x_1.2.toNat 0) - 1].length) * 8≤aC∧ai .i64 (x_1.2+1)∧(0≤x_1.2+1∧x_1.2+1≤(↑(List.drop (x.2.1+1).toNat (List.take (x.2.1+1+x.2.2.1).toNat x.1)).length:Int)∧(∀ (v:Int),v∈List.drop (x.2.1+1).toNat (List.take (x.2.1+1+x.2.2.1).toNat x.1)→v≤256)∧(List.drop (x.2.1+1).toNat (List.take (x.2.1+1+x.2.2.1).toNat x.1)).length≤256∧x_1.1++[IntKind.i64.wrap ((List.drop (x.2.1+1).toNat (List.take (x.2.1+1+x.2.2.1).toNat x.1)).getD x_1.2.toNat 0) - 1]=List.map (fun (x:Int)=>x - 1) (List.filter (fun (v:Int)=>decide (v≠0)) (List.take (x_1.2+1).toNat (List.drop (x.2.1+1).toNat (List.take (x.2.1+1+x.2.2.1).toNat x.1)))))∧((↑(List.drop (x.2.1+1).toNat (List.take (x.2.1+1+x.2.2.1).toNat x.1)).length:Int) - (x_1.2+1)).toNat<((↑(List.drop (x.2.1+1).toNat (List.take (x.2.1+1+x.2.2.1).toNat x.1)).length:Int) - x_1.2).toNat)∧(decide ((List.drop (x.2.1+1).toNat (List.take (x.2.1+1+x.2.2.1).toNat x.1)).getD x_1.2.toNat (0:Int)≠0)=false→ai .i64 (x_1.2+1)∧(0≤x_1.2+1∧x_1.2+1≤(↑(List.drop (x.2.1+1).toNat (List.take (x.2.1+1+x.2.2.1).toNat x.1)).length:Int)∧(∀ (v:Int),v∈List.drop (x.2.1+1).toNat (List.take (x.2.1+1+x.2.2.1).toNat x.1)→v≤256)∧(List.drop (x.2.1+1).toNat (List.take (x.2.1+1+x.2.2.1).toNat x.1)).length≤256∧x_1.1=List.map (fun (x:Int)=>x - 1) (List.filter (fun (v:Int)=>decide (v≠0)) (List.take (x_1.2+1).toNat (List.drop (x.2.1+1).toNat (List.take (x.2.1+1+x.2.2.1).toNat x.1)))))∧((↑(List.drop (x.2.1+1).toNat (List.take (x.2.1+1+x.2.2.1).toNat x.1)).length:Int) - (x_1.2+1)).toNat<((↑(List.drop (x.2.1+1).toNat (List.take (x.2.1+1+x.2.2.1).toNat x.1)).length:Int) - x_1.2).toNat))∧(decide (x_1.2<(↑(List.drop (x.2.1+1).toNat (List.take (x.2.1+1+x.2.2.1).toNat x.1)).length:Int))=false→x_1.1=ak x.1 x.2.1∧True)
theorem sL:oK:=by
 unfold oK
 intro ⟨a,x,h⟩ ⟨⟨hb,hw⟩,hx,_⟩ ⟨hc,hB,hh⟩
 unfold aC at hb
 simp only at hb hw hx hc hB hh ⊢
 subst hh
 obtain ⟨k1,k2,k3,k4,k5,k6⟩:=kY hB
 have hal:=(fw hB).2.2.2.2
 have hrf:∀ v∈gl a x,0≤v∧v≤256:=fun v hv=>by
  rcases ip hw hc _ (lE hB).1 v hv with h | h <;> omega
 have hF:ak a x=((gl a x).filter fun v=>decide (v≠0)).map (· - 1):=rfl
 have e:List.drop (x+1).toNat (List.take (x+1+(jQ a x).1).toNat a)=gl a x:=rfl
 simp only [e,hF]
 have hrl:(gl a x).length≤256:=by omega
 generalize gl a x=r at *
 simp only [ai]
 refine ⟨by omega,by omega,by omega,by omega,by omega,by omega,⟨by omega,by omega,fun v hv=>(hrf v hv).2,hrl,by first | trivial | rfl⟩,fun ⟨out,i⟩ ⟨i0,i1,_,_,i4⟩=>⟨fun hlt=>?_,fun hge=>?_⟩⟩
 ·simp only at i0 i1 i4 hlt ⊢
  have hlt:=of_decide_eq_true hlt
  have hv:=hrf _ (bz (0:Int) i0 hlt)
  have ht:=cN (0:Int) i0 hlt
  have hol:out.length≤i.toNat:=by
   rw [i4,List.length_map]
   exact Nat.le_trans (List.length_filter_le _ _) (by simp; omega)
  rw [ht,List.filter_append,List.map_append,← i4]
  generalize r.getD i.toNat 0=v at *
  have hwr:IntKind.i64.wrap v=v:=iK (by omega) (by omega)
  rw [hwr]
  refine ⟨i0,hlt,fun hn=>⟨by omega,by simp only [List.length_cons,List.length_nil]; unfold aC; omega,by omega,⟨by omega,by omega,fun v hv=>(hrf v hv).2,hrl,?_⟩,by omega⟩,fun hn=>⟨by omega,⟨by omega,by omega,fun v hv=>(hrf v hv).2,hrl,?_⟩,by omega⟩⟩
  ·have hn:v≠0:=of_decide_eq_true hn
   simp [hn]
  ·have hn:v=0:=by simpa using hn
   simp [hn]
 ·simp only at i0 i1 i4 hge ⊢
  have hge:=of_decide_eq_false hge
  rw [List.take_of_length_le (by omega)] at i4
  exact ⟨i4,trivial⟩
theorem oX:uG.ok Try.prog 119:=aQ (ann:=vk) ar Try.func119 (by kernel_rfl) sL
def sX:Spec:={ Ts:=[ty_I,.ref bb],Rs:=[.dat .bool],pre:=fun _=>True,F:=fun ((x,g):Int×cE)=>!aI g.2.1 x }
def mj:Prop :=
  ∀ (x:Int×List Int×List Int×List Int),(ai .i64 x.1∧(x.2.1.length * 8≤aC∧∀ (x_1:Int),x_1∈x.2.1→ai .u64 x_1)∧(x.2.2.1.length * 8≤aC∧∀ (x_1:Int),x_1∈x.2.2.1→ai .i64 x_1)∧x.2.2.2.length * 8≤aC∧∀ (x_1:Int),x_1∈x.2.2.2→ai .i64 x_1)→True→True∧(!aI x.2.2.1 x.1)=!aI x.2.2.1 x.1∧True
theorem qW:mj:=by
 unfold mj
 intro ⟨x,g⟩ _ _
 simp
theorem te:sX.ok Try.prog 155:=aQ (ann:=fE) (af lD ar) Try.func155 (by kernel_rfl) qW
def cL (g:cE) (x:Int):Bool:=!aI g.2.2 x&&(ak g.1 x).any fun to=>!aI g.2.1 to
def a8 (g:cE):Int:=if (au g.1).2.2≠0 then (au g.1).2.2 else if (aw g.2.1&&aw g.2.2)=false then 3 else if g.2.1.all (isB (aa g.1).1)=false then 5 else if g.2.2.all (aI g.2.1)=false then 5 else if g.2.1.any (cL g)=true then 8 else 0
def vl:Nat→Option LoopGen
 | 8=>some { rd:=[.dat 33 (.arr ty_I),.map 31 .i64 bq],A:=fun ((l,m):List Int×List (Int×cg))=>{ cs:=[.dat 35 ty_I],inv:=fun (i:Int)=>0≤i∧i≤l.length∧((l.drop i.toNat).all fun x=>(bc m x).isSome)=(l.all fun x=>(bc m x).isSome),mu:=fun (i:Int)=>(l.length - i).toNat } }
 | 15=>some { rd:=[.dat 49 (.arr ty_I),.box 1 bb],A:=fun ((l,g):List Int×cE)=>{ cs:=[.dat 51 ty_I],inv:=fun (i:Int)=>0≤i∧i≤l.length∧(l.drop i.toNat).all (aI g.2.1)=l.all (aI g.2.1),mu:=fun (i:Int)=>(l.length - i).toNat } }
 | 21=>some { rd:=[.dat 62 (.arr ty_I),.box 1 bb],A:=fun ((l,g):List Int×cE)=>{ cs:=[.dat 64 ty_I],inv:=fun (i:Int)=>0≤i∧i≤l.length∧(l.drop i.toNat).any (cL g)=l.any (cL g),mu:=fun (i:Int)=>(l.length - i).toNat } }
 | _=>none
def uH:Spec:={ Ts:=[bb],Rs:=[.dat ty_I],pre:=fun _=>True,F:=a8 }
def oL:Prop :=
  ∀ (x:List Int×List Int×List Int),((x.1.length * 8≤aC∧∀ (x_1:Int),x_1∈x.1→ai .u64 x_1)∧(x.2.1.length * 8≤aC∧∀ (x_1:Int),x_1∈x.2.1→ai .i64 x_1)∧x.2.2.length * 8≤aC∧∀ (x_1:Int),x_1∈x.2.2→ai .i64 x_1)→True→True∧(decide ((au x.1).2.2≠0)=true→(au x.1).2.2=a8 x∧True)∧(decide ((au x.1).2.2≠0)=false→True∧((!aw x.2.1)=false→True)∧((!aw x.2.1||!aw x.2.2)=true→3=a8 x∧True)∧((!aw x.2.1||!aw x.2.2)=false→True∧((0:Int)≤0∧0≤(↑x.2.1.length:Int)∧((List.drop (Int.toNat 0) x.2.1).all fun (x_1:Int)=>(bc (a7 (aa x.1).1) x_1).isSome)=x.2.1.all fun (x_1:Int)=>(bc (a7 (aa x.1).1) x_1).isSome)∧∀ (x_1:Int),(0≤x_1∧x_1≤(↑x.2.1.length:Int)∧((List.drop x_1.toNat x.2.1).all fun (x_2:Int)=>(bc (a7 (aa x.1).1) x_2).isSome)=x.2.1.all fun (x_2:Int)=>(bc (a7 (aa x.1).1) x_2).isSome)→(decide (x_1<(↑x.2.1.length:Int))=true→0≤x_1∧x_1<(↑x.2.1.length:Int)∧((!(bc (a7 (aa x.1).1) (x.2.1.getD x_1.toNat 0)).isSome)=true→5=a8 x∧True)∧((!(bc (a7 (aa x.1).1) (x.2.1.getD x_1.toNat 0)).isSome)=false→ai .i64 (x_1+1)∧(0≤x_1+1∧x_1+1≤(↑x.2.1.length:Int)∧((List.drop (x_1+1).toNat x.2.1).all fun (x_2:Int)=>(bc (a7 (aa x.1).1) x_2).isSome)=x.2.1.all fun (x_2:Int)=>(bc (a7 (aa x.1).1) x_2).isSome)∧((↑x.2.1.length:Int) - (x_1+1)).toNat<((↑x.2.1.length:Int) - x_1).toNat))∧(decide (x_1<(↑x.2.1.length:Int))=false→((0:Int)≤0∧0≤(↑x.2.2.length:Int)∧(List.drop (Int.toNat 0) x.2.2).all (aI x.2.1)=x.2.2.all (aI x.2.1))∧∀ (x_2:Int),0≤x_2∧x_2≤(↑x.2.2.length:Int)∧(List.drop x_2.toNat x.2.2).all (aI x.2.1)=x.2.2.all (aI x.2.1)→(decide (x_2<(↑x.2.2.length:Int))=true→0≤x_2∧x_2<(↑x.2.2.length:Int)∧True∧((!aI x.2.1 (x.2.2.getD x_2.toNat 0))=true→5=a8 x∧True)∧((!aI x.2.1 (x.2.2.getD x_2.toNat 0))=false→ai .i64 (x_2+1)∧(0≤x_2+1∧x_2+1≤(↑x.2.2.length:Int)∧(List.drop (x_2+1).toNat x.2.2).all (aI x.2.1)=x.2.2.all (aI x.2.1))∧((↑x.2.2.length:Int) - (x_2+1)).toNat<((↑x.2.2.length:Int) - x_2).toNat))∧(decide (x_2<(↑x.2.2.length:Int))=false→((0:Int)≤0∧0≤(↑x.2.1.length:Int)∧(List.drop (Int.toNat 0) x.2.1).any (cL x)=x.2.1.any (cL x))∧∀ (x_3:Int),0≤x_3∧x_3≤(↑x.2.1.length:Int)∧(List.drop x_3.toNat x.2.1).any (cL x)=x.2.1.any (cL x)→(decide (x_3<(↑x.2.1.length:Int))=true→0≤x_3∧x_3<(↑x.2.1.length:Int)∧True∧((!aI x.2.2 (x.2.1.getD x_3.toNat 0))=true→(au x.1).2.2=0∧isB (aa x.1).1 (x.2.1.getD x_3.toNat 0)=true∧(bc (a7 (aa x.1).1) (x.2.1.getD x_3.toNat 0)).getD (0,0,0,false)=jQ x.1 (x.2.1.getD x_3.toNat 0))∧((!aI x.2.2 (x.2.1.getD x_3.toNat 0))=true→∀ (s:Int),s∈ak x.1 (x.2.1.getD x_3.toNat 0)→(fun (_:Int)=>True,fun (x_4:Int)=>!aI x.2.1 x_4).1 s)∧((!aI x.2.2 (x.2.1.getD x_3.toNat 0)&&(ak x.1 (x.2.1.getD x_3.toNat 0)).any fun (x_4:Int)=>!aI x.2.1 x_4)=true→8=a8 x∧True)∧((!aI x.2.2 (x.2.1.getD x_3.toNat 0)&&(ak x.1 (x.2.1.getD x_3.toNat 0)).any fun (x_4:Int)=>!aI x.2.1 x_4)=false→ai .i64 (x_3+1)∧(0≤x_3+1∧x_3+1≤(↑x.2.1.length:Int)∧(List.drop (x_3+1).toNat x.2.1).any (cL x)=x.2.1.any (cL x))∧((↑x.2.1.length:Int) - (x_3+1)).toNat<((↑x.2.1.length:Int) - x_3).toNat))∧(decide (x_3<(↑x.2.1.length:Int))=false→0=a8 x∧True)))))
theorem sM:oL:=by
 unfold oL
 intro ⟨a,old,nt⟩ ⟨⟨hb,hw⟩,⟨hbo,ho⟩,hbn,hn⟩ _
 unfold aC at hb hbo hbn
 simp only at hb hw hbo ho hbn hn ⊢
 have hF:a8 (a,old,nt)=if (au a).2.2≠0 then (au a).2.2 else if (aw old&&aw nt)=false then 3 else if old.all (isB (aa a).1)=false then 5 else if nt.all (aI old)=false then 5 else if old.any (cL (a,old,nt))=true then 8 else 0:=rfl
 have hget:=fun x=>kk (br a) x
 have hsome:∀ x,(bc (a7 (aa a).1) x).isSome=isB (aa a).1 x:=fun x=>by rw [hget]; cases isB (aa a).1 x <;> rfl
 simp only [hsome]
 refine ⟨trivial,fun h=>?_,fun h=>⟨trivial,fun _=>trivial,fun h2=>?_,fun h2=>⟨trivial,⟨by omega,by omega,rfl⟩,fun i ⟨i0,i1,i2⟩=>⟨fun hlt=>?_,fun hge=>⟨⟨by omega,by omega,rfl⟩,fun j ⟨j0,j1,j2⟩=>⟨fun hlt2=>?_,fun hge2=>⟨⟨by omega,by omega,rfl⟩,fun k ⟨k0,k1,k2⟩=>⟨fun hlt3=>?_,fun hge3=>?_⟩⟩⟩⟩⟩⟩⟩⟩
 ·rw [hF,if_pos (of_decide_eq_true h)]
  exact ⟨rfl,trivial⟩
 ·rw [hF,if_neg (of_decide_eq_false h),if_pos (by cases h3:aw old <;> cases h4:aw nt <;> simp_all)]
  exact ⟨rfl,trivial⟩
 all_goals have hc:=of_decide_eq_false h
 all_goals have hr:¬ (aw old&&aw nt)=false:=by cases h3:aw old <;> cases h4:aw nt <;> simp_all
 all_goals rw [hF,if_neg hc,if_neg hr]
 ·have hlt:=of_decide_eq_true hlt
  rw [aD (0:Int) i0 hlt,List.all_cons] at i2
  simp only [ai]
  refine ⟨i0,hlt,fun hn=>?_,fun hn=>⟨by omega,⟨by omega,by omega,?_⟩,by omega⟩⟩
  ·have hn:isB (aa a).1 (old.getD i.toNat 0)=false:=by simpa using hn
   rw [hn,Bool.false_and] at i2
   rw [if_pos i2.symm]
   exact ⟨rfl,trivial⟩
  ·have hn:isB (aa a).1 (old.getD i.toNat 0)=true:=by simpa using hn
   rw [hn,Bool.true_and] at i2
   exact i2
 all_goals rw [aX (of_decide_eq_false hge),List.all_nil] at i2
 all_goals have hob:old.all (isB (aa a).1)=true:=i2.symm
 all_goals rw [if_neg (by rw [hob]; simp)]
 ·have hlt2:=of_decide_eq_true hlt2
  rw [aD (0:Int) j0 hlt2,List.all_cons] at j2
  simp only [ai]
  refine ⟨j0,hlt2,trivial,fun hn=>?_,fun hn=>⟨by omega,⟨by omega,by omega,?_⟩,by omega⟩⟩
  ·have hn:aI old (nt.getD j.toNat 0)=false:=by simpa using hn
   rw [hn,Bool.false_and] at j2
   rw [if_pos j2.symm]
   exact ⟨rfl,trivial⟩
  ·have hn:aI old (nt.getD j.toNat 0)=true:=by simpa using hn
   rw [hn,Bool.true_and] at j2
   exact j2
 all_goals rw [aX (of_decide_eq_false hge2),List.all_nil] at j2
 all_goals rw [if_neg (by rw [← j2]; simp)]
 ·have hlt3:=of_decide_eq_true hlt3
  rw [aD (0:Int) k0 hlt3,List.any_cons] at k2
  have hib:=List.all_eq_true.1 hob _ (bz (0:Int) k0 hlt3)
  have e:cL (a,old,nt) (old.getD k.toNat 0)=(!aI nt (old.getD k.toNat 0)&&(ak a (old.getD k.toNat 0)).any fun to=>!aI old to):=rfl
  generalize old.getD k.toNat 0=x at *
  simp only [ai]
  refine ⟨k0,hlt3,trivial,fun _=>⟨by omega,hib,by rw [hget,if_pos hib]; rfl⟩,fun _ _ _=>trivial,fun hh=>?_,fun hh=>⟨by omega,⟨by omega,by omega,?_⟩,by omega⟩⟩
  ·rw [e,hh,Bool.true_or] at k2
   rw [if_pos k2.symm]
   exact ⟨rfl,trivial⟩
  ·rw [e,hh,Bool.false_or] at k2
   exact k2
 ·rw [aX (of_decide_eq_false hge3),List.any_nil] at k2
  rw [if_neg (by rw [← k2]; simp)]
  exact ⟨rfl,trivial⟩
theorem uV:uH.ok Try.prog 116:=aQ (ann:=vl) (af qd (af uU (af gp (af lD (af oX (af te (af w7 ar))))))) Try.func116 (by kernel_rfl) sM
def wL:Nat→Option LoopGen
 | 10=>some { rd:=[.dat 37 (.arr ty_I),.box 1 bb],A:=fun ((l,g):List Int×cE)=>{ cs:=[.dat 39 ty_I],inv:=fun (i:Int)=>0≤i∧i≤l.length∧(l.drop i.toNat).all (aI g.2.1)=l.all (aI g.2.1),mu:=fun (i:Int)=>(l.length - i).toNat } }
 | 16=>some { rd:=[.dat 50 (.arr ty_I),.box 1 bb],A:=fun ((l,g):List Int×cE)=>{ cs:=[.dat 52 ty_I],inv:=fun (i:Int)=>0≤i∧i≤l.length∧(l.drop i.toNat).any (cL g)=l.any (cL g),mu:=fun (i:Int)=>(l.length - i).toNat } }
 | 19=>some { rd:=[.own 59 3 ty_I,.box 1 bb,.dat 8 ty_I],A:=fun ((ns,g,x):List Int×cE×Int)=>{ cs:=[.dat 61 ty_I],inv:=fun (j:Int)=>0≤j∧j≤ns.length∧(aI g.2.2 x=true∨∀ y∈ns.take j.toNat,0≤y→y∈g.2.1),mu:=fun (j:Int)=>(ns.length - j).toNat } }
 | _=>none
def vI:Spec:={ Ts:=[bb],Rs:=[.dat ty_I],pre:=fun _=>True,F:=a8 }
def rH:Prop :=
  ∀ (x:List Int×List Int×List Int),((x.1.length * 8≤aC∧∀ (x_1:Int),x_1∈x.1→ai .u64 x_1)∧(x.2.1.length * 8≤aC∧∀ (x_1:Int),x_1∈x.2.1→ai .i64 x_1)∧x.2.2.length * 8≤aC∧∀ (x_1:Int),x_1∈x.2.2→ai .i64 x_1)→True→True∧(decide (c9 x.1≠0)=true→c9 x.1=a8 x∧True)∧(decide (c9 x.1≠0)=false→True∧((!aw x.2.1)=false→True)∧((!aw x.2.1||!aw x.2.2)=true→3=a8 x∧True)∧((!aw x.2.1||!aw x.2.2)=false→True∧(decide (ed x.1 [x.2.1]≠0)=true→ed x.1 [x.2.1]=a8 x∧True)∧(decide (ed x.1 [x.2.1]≠0)=false→((0:Int)≤0∧0≤(↑x.2.2.length:Int)∧(List.drop (Int.toNat 0) x.2.2).all (aI x.2.1)=x.2.2.all (aI x.2.1))∧∀ (x_1:Int),0≤x_1∧x_1≤(↑x.2.2.length:Int)∧(List.drop x_1.toNat x.2.2).all (aI x.2.1)=x.2.2.all (aI x.2.1)→(decide (x_1<(↑x.2.2.length:Int))=true→0≤x_1∧x_1<(↑x.2.2.length:Int)∧True∧((!aI x.2.1 (x.2.2.getD x_1.toNat 0))=true→5=a8 x∧True)∧((!aI x.2.1 (x.2.2.getD x_1.toNat 0))=false→ai .i64 (x_1+1)∧(0≤x_1+1∧x_1+1≤(↑x.2.2.length:Int)∧(List.drop (x_1+1).toNat x.2.2).all (aI x.2.1)=x.2.2.all (aI x.2.1))∧((↑x.2.2.length:Int) - (x_1+1)).toNat<((↑x.2.2.length:Int) - x_1).toNat))∧(decide (x_1<(↑x.2.2.length:Int))=false→((0:Int)≤0∧0≤(↑x.2.1.length:Int)∧(List.drop (Int.toNat 0) x.2.1).any (cL x)=x.2.1.any (cL x))∧∀ (x_2:Int),0≤x_2∧x_2≤(↑x.2.1.length:Int)∧(List.drop x_2.toNat x.2.1).any (cL x)=x.2.1.any (cL x)→(decide (x_2<(↑x.2.1.length:Int))=true→0≤x_2∧x_2<(↑x.2.1.length:Int)∧True∧((0:Int)≤0∧0≤(↑(ay x.1 (x.2.1.getD x_2.toNat 0) (ac (x.2.1.getD x_2.toNat 0) (aa x.1).1).1).length:Int)∧(aI x.2.2 (x.2.1.getD x_2.toNat 0)=true∨∀ (y:Int),y∈List.take (Int.toNat 0) (ay x.1 (x.2.1.getD x_2.toNat 0) (ac (x.2.1.getD x_2.toNat 0) (aa x.1).1).1)→0≤y→y∈x.2.1))∧∀ (x_3:Int),0≤x_3∧x_3≤(↑(ay x.1 (x.2.1.getD x_2.toNat 0) (ac (x.2.1.getD x_2.toNat 0) (aa x.1).1).1).length:Int)∧(aI x.2.2 (x.2.1.getD x_2.toNat 0)=true∨∀ (y:Int),y∈List.take x_3.toNat (ay x.1 (x.2.1.getD x_2.toNat 0) (ac (x.2.1.getD x_2.toNat 0) (aa x.1).1).1)→0≤y→y∈x.2.1)→(decide (x_3<(↑(ay x.1 (x.2.1.getD x_2.toNat 0) (ac (x.2.1.getD x_2.toNat 0) (aa x.1).1).1).length:Int))=true→0≤x_3∧x_3<(↑(ay x.1 (x.2.1.getD x_2.toNat 0) (ac (x.2.1.getD x_2.toNat 0) (aa x.1).1).1).length:Int)∧x_3.toNat<(ay x.1 (x.2.1.getD x_2.toNat 0) (ac (x.2.1.getD x_2.toNat 0) (aa x.1).1).1).length∧(decide (0≤(ay x.1 (x.2.1.getD x_2.toNat 0) (ac (x.2.1.getD x_2.toNat 0) (aa x.1).1).1).getD x_3.toNat 0)=true→True)∧((decide (0≤(ay x.1 (x.2.1.getD x_2.toNat 0) (ac (x.2.1.getD x_2.toNat 0) (aa x.1).1).1).getD x_3.toNat 0)&&!aI x.2.1 ((ay x.1 (x.2.1.getD x_2.toNat 0) (ac (x.2.1.getD x_2.toNat 0) (aa x.1).1).1).getD x_3.toNat 0))=true→True)∧((decide (0≤(ay x.1 (x.2.1.getD x_2.toNat 0) (ac (x.2.1.getD x_2.toNat 0) (aa x.1).1).1).getD x_3.toNat 0)&&!aI x.2.1 ((ay x.1 (x.2.1.getD x_2.toNat 0) (ac (x.2.1.getD x_2.toNat 0) (aa x.1).1).1).getD x_3.toNat 0)&&!aI x.2.2 (x.2.1.getD x_2.toNat 0))=true→8=a8 x∧True)∧((decide (0≤(ay x.1 (x.2.1.getD x_2.toNat 0) (ac (x.2.1.getD x_2.toNat 0) (aa x.1).1).1).getD x_3.toNat 0)&&!aI x.2.1 ((ay x.1 (x.2.1.getD x_2.toNat 0) (ac (x.2.1.getD x_2.toNat 0) (aa x.1).1).1).getD x_3.toNat 0)&&!aI x.2.2 (x.2.1.getD x_2.toNat 0))=false→ai .i64 (x_3+1)∧(0≤x_3+1∧x_3+1≤(↑(ay x.1 (x.2.1.getD x_2.toNat 0) (ac (x.2.1.getD x_2.toNat 0) (aa x.1).1).1).length:Int)∧(aI x.2.2 (x.2.1.getD x_2.toNat 0)=true∨∀ (y:Int),y∈List.take (x_3+1).toNat (ay x.1 (x.2.1.getD x_2.toNat 0) (ac (x.2.1.getD x_2.toNat 0) (aa x.1).1).1)→0≤y→y∈x.2.1))∧((↑(ay x.1 (x.2.1.getD x_2.toNat 0) (ac (x.2.1.getD x_2.toNat 0) (aa x.1).1).1).length:Int) - (x_3+1)).toNat<((↑(ay x.1 (x.2.1.getD x_2.toNat 0) (ac (x.2.1.getD x_2.toNat 0) (aa x.1).1).1).length:Int) - x_3).toNat))∧(decide (x_3<(↑(ay x.1 (x.2.1.getD x_2.toNat 0) (ac (x.2.1.getD x_2.toNat 0) (aa x.1).1).1).length:Int))=false→ai .i64 (x_2+1)∧(0≤x_2+1∧x_2+1≤(↑x.2.1.length:Int)∧(List.drop (x_2+1).toNat x.2.1).any (cL x)=x.2.1.any (cL x))∧((↑x.2.1.length:Int) - (x_2+1)).toNat<((↑x.2.1.length:Int) - x_2).toNat))∧(decide (x_2<(↑x.2.1.length:Int))=false→0=a8 x∧True)))))
theorem uA:rH:=by
 unfold rH
 intro ⟨a,old,nt⟩ ⟨⟨hb,hw⟩,⟨hbo,ho⟩,hbn,hn⟩ _
 unfold aC at hb hbo hbn
 simp only at hb hw hbo ho hbn hn ⊢
 rw [wg hw,gF hw]
 have hF:a8 (a,old,nt)=if (au a).2.2≠0 then (au a).2.2 else if (aw old&&aw nt)=false then 3 else if old.all (isB (aa a).1)=false then 5 else if nt.all (aI old)=false then 5 else if old.any (cL (a,old,nt))=true then 8 else 0:=rfl
 have hobOf:(¬ (au a).2.2≠0)→decide (cQ a old≠0)=false→old.all (isB (aa a).1)=true:=by
  intro hc h3
  unfold cQ at h3
  rw [if_neg hc] at h3
  cases h4:old.all (isB (aa a).1)
  ·rw [h4] at h3; simp at h3
  ·rfl
 refine ⟨trivial,fun h=>?_,fun h=>⟨trivial,fun _=>trivial,fun h2=>?_,fun h2=>⟨trivial,fun h3=>?_,fun h3=>⟨⟨by omega,by omega,rfl⟩,fun j ⟨j0,j1,j2⟩=>⟨fun hlt2=>?_,fun hge2=>⟨⟨by omega,by omega,rfl⟩,fun k ⟨k0,k1,k2⟩=>⟨fun hlt3=>?_,fun hge3=>?_⟩⟩⟩⟩⟩⟩⟩
 ·rw [hF,if_pos (of_decide_eq_true h)]
  exact ⟨rfl,trivial⟩
 ·rw [hF,if_neg (of_decide_eq_false h),if_pos (by cases h3:aw old <;> cases h4:aw nt <;> simp_all)]
  exact ⟨rfl,trivial⟩
 all_goals have hc:=of_decide_eq_false h
 all_goals have hr:¬ (aw old&&aw nt)=false:=by cases h5:aw old <;> cases h4:aw nt <;> simp_all
 all_goals have hff:cQ a old=if old.all (isB (aa a).1)=true then 0 else 5:=by unfold cQ; rw [if_neg hc]
 all_goals rw [hF,if_neg hc,if_neg hr]
 ·have h3:=of_decide_eq_true h3
  have hob:old.all (isB (aa a).1)=false:=by
   cases h4:old.all (isB (aa a).1)
   ·rfl
   ·rw [hff,if_pos h4] at h3; exact absurd rfl h3
  rw [hff,if_neg (by rw [hob]; simp),if_pos hob]
  exact ⟨rfl,trivial⟩
 all_goals have hob:=hobOf hc h3
 all_goals rw [if_neg (by rw [hob]; simp)]
 ·have hlt2:=of_decide_eq_true hlt2
  rw [aD (0:Int) j0 hlt2,List.all_cons] at j2
  simp only [ai]
  refine ⟨j0,hlt2,trivial,fun hn=>?_,fun hn=>⟨by omega,⟨by omega,by omega,?_⟩,by omega⟩⟩
  ·have hn:aI old (nt.getD j.toNat 0)=false:=by simpa using hn
   rw [hn,Bool.false_and] at j2
   rw [if_pos j2.symm]
   exact ⟨rfl,trivial⟩
  ·have hn:aI old (nt.getD j.toNat 0)=true:=by simpa using hn
   rw [hn,Bool.true_and] at j2
   exact j2
 all_goals rw [aX (of_decide_eq_false hge2),List.all_nil] at j2
 all_goals rw [if_neg (by rw [← j2]; simp)]
 ·have hlt3:=of_decide_eq_true hlt3
  rw [aD (0:Int) k0 hlt3,List.any_cons] at k2
  have hib:=List.all_eq_true.1 hob _ (bz (0:Int) k0 hlt3)
  have e:cL (a,old,nt) (old.getD k.toNat 0)=(!aI nt (old.getD k.toNat 0)&&(ak a (old.getD k.toNat 0)).any fun to=>!aI old to):=rfl
  generalize old.getD k.toNat 0=x at *
  have hno:=fun y=>mB hw (by omega) hib (y:=y)
  have hnl:(ay a x (ac x (aa a).1).1).length≤a.length:=by
   unfold ay
   rw [List.length_map,List.length_drop,List.length_take]
   omega
  generalize ay a x (ac x (aa a).1).1=ns at *
  simp only [ai]
  refine ⟨k0,hlt3,trivial,⟨by omega,by omega,.inr fun y hy=>by simp at hy⟩,fun i ⟨i0,i1,i2⟩=>⟨fun hlt=>?_,fun hge=>?_⟩⟩
  ·have hlt:=of_decide_eq_true hlt
   have hm:=bz (0:Int) i0 hlt
   have ht:=cN (0:Int) i0 hlt
   rw [ht]
   generalize ns.getD i.toNat 0=y at *
   refine ⟨i0,hlt,by omega,fun _=>trivial,fun _=>trivial,fun hh=>?_,fun hh=>⟨by omega,⟨by omega,by omega,?_⟩,by omega⟩⟩
   ·simp only [Bool.and_eq_true,decide_eq_true_eq] at hh
    obtain ⟨⟨hy0,hyo⟩,hxn⟩:=hh
    have hyo2:=(hno y).1 ⟨hm,hy0⟩
    have:cL (a,old,nt) x=true:=by
     rw [e,hxn,Bool.true_and]
     exact List.any_eq_true.2 ⟨y,hyo2,hyo⟩
    rw [this,Bool.true_or] at k2
    rw [if_pos k2.symm]
    exact ⟨rfl,trivial⟩
   ·rcases i2 with i2 | i2
    ·exact .inl i2
    ·by_cases hx:aI nt x=true
     ·exact .inl hx
     ·right
      intro z hz hz0
      rcases List.mem_append.1 hz with hz | hz
      ·exact i2 z hz hz0
      ·have hz:=List.mem_singleton.1 hz
       subst hz
       cases h6:aI old z
       ·rw [h6] at hh
        simp [hz0,hx] at hh
       ·exact aP.1 h6
  ·have hge:=of_decide_eq_false hge
   rw [List.take_of_length_le (by omega)] at i2
   have hh:cL (a,old,nt) x=false:=by
    rw [e]
    rcases i2 with i2 | i2
    ·rw [i2]; rfl
    ·have:((ak a x).any fun to=>!aI old to)=false:=by
      rw [List.any_eq_false]
      intro to hto
      have h7:=(hno to).2 hto
      rw [aP.2 (i2 to h7.1 h7.2)]
      simp
     rw [this,Bool.and_false]
   rw [hh,Bool.false_or] at k2
   exact ⟨by omega,⟨by omega,by omega,k2⟩,by omega⟩
 ·rw [aX (of_decide_eq_false hge3),List.any_nil] at k2
  rw [if_neg (by rw [← k2]; simp)]
  exact ⟨rfl,trivial⟩
theorem vY:vI.ok Try.prog 51:=aQ (ann:=wL) (af gq (af uW (af rP (af kf (af ke ar))))) Try.func51 (by kernel_rfl) uA
def pO:Spec:={ Ts:=[bb,bb],Rs:=[.dat .bool],pre:=fun _=>True,F:=fun ((x,y):cE×cE)=>decide (x=y) }
def ja:Prop :=
  ∀ (x:(List Int×List Int×List Int)×List Int×List Int×List Int),(((x.1.1.length * 8≤aC∧∀ (x_1:Int),x_1∈x.1.1→ai .u64 x_1)∧(x.1.2.1.length * 8≤aC∧∀ (x_1:Int),x_1∈x.1.2.1→ai .i64 x_1)∧x.1.2.2.length * 8≤aC∧∀ (x_1:Int),x_1∈x.1.2.2→ai .i64 x_1)∧(x.2.1.length * 8≤aC∧∀ (x_1:Int),x_1∈x.2.1→ai .u64 x_1)∧(x.2.2.1.length * 8≤aC∧∀ (x_1:Int),x_1∈x.2.2.1→ai .i64 x_1)∧x.2.2.2.length * 8≤aC∧∀ (x_1:Int),x_1∈x.2.2.2→ai .i64 x_1)→True→True∧(decide (x.1.1=x.2.1)=true→True)∧((decide (x.1.1=x.2.1)&&decide (x.1.2.1=x.2.2.1))=true→True)∧(decide (x.1.1=x.2.1)&&decide (x.1.2.1=x.2.2.1)&&decide (x.1.2.2=x.2.2.2))=decide (x.1=x.2)∧True
theorem np:ja:=by
 unfold ja
 intro ⟨⟨a,o,n⟩,⟨b,p,q⟩⟩ _ _
 refine ⟨trivial,fun _=>trivial,fun _=>trivial,?_,trivial⟩
 by_cases e1:a=b <;> by_cases e2:o=p <;> by_cases e3:n=q <;> simp [e1,e2,e3]
theorem qg:pO.ok Try.prog 52:=aQ (ann:=fE) (af nP (af qf ar)) Try.func52 (by kernel_rfl) np
end Go.Proofs.Ytcnoiiohmpgckaa
