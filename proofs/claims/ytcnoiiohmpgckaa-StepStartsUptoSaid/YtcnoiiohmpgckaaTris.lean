
import Derived.Test.YtcnoiiohmpgckaaCames
import Derived.Test.YtcnoiiohmpgckaaRObjects
import Derived.Test.YtcnoiiohmpgckaaConcats
import Derived.Test.YtcnoiiohmpgckaaWords
namespace Go.Proofs.Ytcnoiiohmpgckaa
open Go
set_option maxRecDepth 100000
set_option maxHeartbeats 1000000
abbrev dk:Ty:=.pair (.arr bZ) (.pair (.arr ty_I) (.arr ty_I))
abbrev sd:=List Int×List Int×List Int
def su:Spec:={ Ts:=[.arr ty_I],Rs:=[.dat .bool],pre:=fun _=>True,F:=ax }
def mW:Prop :=
  ∀ (x:List Int),(x.length * (8:Nat)≤aE∧∀ (x_1:Int),x_1∈x→ah IntKind.i64 x_1)→True→((1:Int)≤(1:Int)∧(1:Int)≤(↑x.length:Int)+(1:Int)∧ax (List.drop ((1:Int) - (1:Int)).toNat x)=ax x)∧∀ (x_1:Int),(1:Int)≤x_1∧x_1≤(↑x.length:Int)+(1:Int)∧ax (List.drop (x_1 - (1:Int)).toNat x)=ax x→(decide (x_1<(↑x.length:Int))=true→ah IntKind.i64 (x_1 - (1:Int))∧(0:Int)≤x_1 - (1:Int)∧x_1 - (1:Int)<(↑x.length:Int)∧(0:Int)≤x_1∧x_1<(↑x.length:Int)∧(decide (x.getD x_1.toNat (0:Int)≤x.getD (x_1 - (1:Int)).toNat (0:Int))=true→false=ax x∧True)∧(decide (x.getD x_1.toNat (0:Int)≤x.getD (x_1 - (1:Int)).toNat (0:Int))=false→ah IntKind.i64 (x_1+(1:Int))∧((1:Int)≤x_1+(1:Int)∧x_1+(1:Int)≤(↑x.length:Int)+(1:Int)∧ax (List.drop (x_1+(1:Int) - (1:Int)).toNat x)=ax x)∧((↑x.length:Int) - (x_1+(1:Int))).toNat<((↑x.length:Int) - x_1).toNat))∧(decide (x_1<(↑x.length:Int))=false→true=ax x∧True)
theorem qn:mW:=by
 unfold mW
 intro l ⟨hb,_⟩ _
 unfold aE at hb
 refine ⟨⟨by omega,by omega,rfl⟩,fun i ⟨h0,h1,h2⟩=>⟨fun hlt=>?_,fun hge=>?_⟩⟩
 ·have hlt:i<(l.length:Int):=of_decide_eq_true hlt
  have e1:=az (0:Int) (xs:=l) (i:=i - 1) (by omega) (by omega)
  have e2:=az (0:Int) (xs:=l) (i:=i) (by omega) hlt
  rw [show i - 1+1=i by omega] at e1
  simp only [ah] at h2 ⊢
  rw [e1,e2] at h2
  simp only [ax] at h2
  rw [← e2] at h2
  refine ⟨by omega,by omega,by omega,by omega,hlt,fun hc=>?_,fun hc=>⟨by omega,⟨by omega,by omega,?_⟩,by omega⟩⟩
  ·have hc:=of_decide_eq_true hc
   rw [← h2,decide_eq_false (by omega)]
   exact ⟨rfl,trivial⟩
  ·have hc:=of_decide_eq_false hc
   rw [decide_eq_true (by omega),Bool.true_and] at h2
   rw [show i+1 - 1=i by omega]
   exact h2
 ·have hge:¬ i<(l.length:Int):=of_decide_eq_false hge
  rw [hO (by rw [List.length_drop]; omega)] at h2
  exact ⟨h2,trivial⟩
theorem sK:su.ok Try.prog 106:=aQ (ann:=qh) au Try.func106 (by kernel_rfl) qn
def qg:Nat→Option LoopGen
 | 4=>some { rd:=[.own 14 158 cJ],A:=fun (l:List aJ)=>{ cs:=[.map 13 .i64 bS,.dat 16 ty_I],inv:=fun ((m,i):List (Int×dj)×Int)=>0≤i∧i≤l.length∧aT m (l.drop i.toNat)=a6 l,mu:=fun ((_,i):List (Int×dj)×Int)=>(l.length - i).toNat } }
 | _=>none
def pf:Spec:={ Ts:=[.arr bZ],Rs:=[.map .i64 bS],pre:=fun _=>True,F:=fun (a:List Int)=>a6 (aa a).1 }
def jy:Prop :=
  ∀ (x:List Int),(x.length * 8≤aE∧∀ (x_1:Int),x_1∈x→ah .u64 x_1)→True→True∧((0:Int)≤0∧0≤(↑(aa x).1.length:Int)∧aT ([]:List (Int×Int×Int×Int×Bool)) (List.drop (Int.toNat 0) (aa x).1)=a6 (aa x).1)∧∀ (x_1:List (Int×Int×Int×Int×Bool)×Int),0≤x_1.2∧x_1.2≤(↑(aa x).1.length:Int)∧aT x_1.1 (List.drop x_1.2.toNat (aa x).1)=a6 (aa x).1→(decide (x_1.2<(↑(aa x).1.length:Int))=true→0≤x_1.2∧x_1.2<(↑(aa x).1.length:Int)∧x_1.2.toNat<(aa x).1.length∧((!((aa x).1.getD x_1.2.toNat (0,0,0,0,false)).2.2.2.2)=true→ah .i64 (x_1.2+1)∧(0≤x_1.2+1∧x_1.2+1≤(↑(aa x).1.length:Int)∧aT (dI x_1.1 ((aa x).1.getD x_1.2.toNat (0,0,0,0,false)).1 ((aa x).1.getD x_1.2.toNat (0,0,0,0,false)).2) (List.drop (x_1.2+1).toNat (aa x).1)=a6 (aa x).1)∧((↑(aa x).1.length:Int) - (x_1.2+1)).toNat<((↑(aa x).1.length:Int) - x_1.2).toNat)∧((!((aa x).1.getD x_1.2.toNat (0,0,0,0,false)).2.2.2.2)=false→ah .i64 (x_1.2+1)∧(0≤x_1.2+1∧x_1.2+1≤(↑(aa x).1.length:Int)∧aT x_1.1 (List.drop (x_1.2+1).toNat (aa x).1)=a6 (aa x).1)∧((↑(aa x).1.length:Int) - (x_1.2+1)).toNat<((↑(aa x).1.length:Int) - x_1.2).toNat))∧(decide (x_1.2<(↑(aa x).1.length:Int))=false→x_1.1=a6 (aa x).1∧True)
theorem ny:jy:=by
 unfold jy
 intro a ⟨hb,_⟩ _
 have hsl:=bP a
 refine ⟨trivial,⟨by omega,by omega,by first | trivial | rfl⟩,fun ⟨m,i⟩ ⟨i0,i1,i4⟩=>⟨fun hlt=>?_,fun hge=>?_⟩⟩
 ·simp only at i0 i1 i4 hlt ⊢
  have hlt:=of_decide_eq_true hlt
  rw [az ((0,0,0,0,false):aJ) i0 hlt] at i4
  simp only [aT] at i4
  generalize (aa a).1.getD i.toNat (0,0,0,0,false)=s at *
  simp only [ah]
  refine ⟨i0,hlt,by omega,fun hf0=>?_,fun hf0=>?_⟩
  ·have hf0:¬ s.2.2.2.2=true:=by simpa using hf0
   rw [if_neg hf0] at i4
   exact ⟨by omega,⟨by omega,by omega,i4⟩,by omega⟩
  ·have hf0:s.2.2.2.2=true:=by simpa using hf0
   rw [if_pos hf0] at i4
   exact ⟨by omega,⟨by omega,by omega,i4⟩,by omega⟩
 ·simp only at i0 i1 i4 hge ⊢
  rw [aL (of_decide_eq_false hge)] at i4
  exact ⟨i4,trivial⟩
theorem pE:pf.ok Try.prog 107:=aQ (ann:=qg) (af fb au) Try.func107 (by kernel_rfl) ny
def s9:Nat→Option LoopGen
 | 3=>some { rd:=[.dat 18 (.arr bZ)],A:=fun (r:List Int)=>{ cs:=[.own 7 3 ty_I,.dat 20 ty_I],inv:=fun ((out,i):List Int×Int)=>0≤i∧i≤r.length∧(∀ v∈r,v≤256)∧r.length≤256∧out=((r.take i.toNat).filter fun v=>decide (v≠0)).map (· - 1),mu:=fun ((_,i):List Int×Int)=>(r.length - i).toNat } }
 | _=>none
def sw:Spec:={ Ts:=[.arr bZ,ty_I,bS],Rs:=[.own 3 ty_I],pre:=fun ((a,x,h):List Int×Int×dj)=>(ar a).2.2=0∧isB (aa a).1 x=true∧h=lK a x,F:=fun ((a,x,h):List Int×Int×dj)=>bc a x }
def mX:Prop :=
  ∀ (x:List Int×Int×Int×Int×Int×Bool),(x.1.length * 8≤aE∧∀ (x_1:Int),x_1∈x.1→ah .u64 x_1)∧ah .i64 x.2.1∧ah .i64 x.2.2.1∧ah .i64 x.2.2.2.1∧ah .i64 x.2.2.2.2.1∧True→(ar x.1).2.2=0∧isB (aa x.1).1 x.2.1=true∧x.2.2=lK x.1 x.2.1→ah .i64 (x.2.1+1)∧ah .i64 (x.2.1+1)∧ah .i64 (x.2.1+1+x.2.2.1)∧0≤x.2.1+1∧x.2.1+1≤x.2.1+1+x.2.2.1∧x.2.1+1+x.2.2.1≤(↑x.1.length:Int)∧((0:Int)≤0∧0≤(↑(List.drop (x.2.1+1).toNat (List.take (x.2.1+1+x.2.2.1).toNat x.1)).length:Int)∧(∀ (v:Int),v∈List.drop (x.2.1+1).toNat (List.take (x.2.1+1+x.2.2.1).toNat x.1)→v≤256)∧(List.drop (x.2.1+1).toNat (List.take (x.2.1+1+x.2.2.1).toNat x.1)).length≤256∧([]:List Int)=List.map (fun (x:Int)=>x - 1) (List.filter (fun (v:Int)=>decide (v≠0)) (List.take (Int.toNat 0) (List.drop (x.2.1+1).toNat (List.take (x.2.1+1+x.2.2.1).toNat x.1)))))∧∀ (x_1:List Int×Int),0≤x_1.2∧x_1.2≤(↑(List.drop (x.2.1+1).toNat (List.take (x.2.1+1+x.2.2.1).toNat x.1)).length:Int)∧(∀ (v:Int),v∈List.drop (x.2.1+1).toNat (List.take (x.2.1+1+x.2.2.1).toNat x.1)→v≤256)∧(List.drop (x.2.1+1).toNat (List.take (x.2.1+1+x.2.2.1).toNat x.1)).length≤256∧x_1.1=List.map (fun (x:Int)=>x - 1) (List.filter (fun (v:Int)=>decide (v≠0)) (List.take x_1.2.toNat (List.drop (x.2.1+1).toNat (List.take (x.2.1+1+x.2.2.1).toNat x.1))))→(decide (x_1.2<(↑(List.drop (x.2.1+1).toNat (List.take (x.2.1+1+x.2.2.1).toNat x.1)).length:Int))=true→0≤x_1.2∧x_1.2<(↑(List.drop (x.2.1+1).toNat (List.take (x.2.1+1+x.2.2.1).toNat x.1)).length:Int)∧(decide ((List.drop (x.2.1+1).toNat (List.take (x.2.1+1+x.2.2.1).toNat x.1)).getD x_1.2.toNat (0:Int)≠0)=true→ah .i64 (IntKind.i64.wrap ((List.drop (x.2.1+1).toNat (List.take (x.2.1+1+x.2.2.1).toNat x.1)).getD x_1.2.toNat 0) - 1)∧(x_1.1.length+[IntKind.i64.wrap ((List.drop (x.2.1+1).toNat (List.take (x.2.1+1+x.2.2.1).toNat x.1)).getD x_1.2.toNat 0) - 1].length) * 8≤aE∧ah .i64 (x_1.2+1)∧(0≤x_1.2+1∧x_1.2+1≤(↑(List.drop (x.2.1+1).toNat (List.take (x.2.1+1+x.2.2.1).toNat x.1)).length:Int)∧(∀ (v:Int),v∈List.drop (x.2.1+1).toNat (List.take (x.2.1+1+x.2.2.1).toNat x.1)→v≤256)∧(List.drop (x.2.1+1).toNat (List.take (x.2.1+1+x.2.2.1).toNat x.1)).length≤256∧x_1.1++[IntKind.i64.wrap ((List.drop (x.2.1+1).toNat (List.take (x.2.1+1+x.2.2.1).toNat x.1)).getD x_1.2.toNat 0) - 1]=List.map (fun (x:Int)=>x - 1) (List.filter (fun (v:Int)=>decide (v≠0)) (List.take (x_1.2+1).toNat (List.drop (x.2.1+1).toNat (List.take (x.2.1+1+x.2.2.1).toNat x.1)))))∧((↑(List.drop (x.2.1+1).toNat (List.take (x.2.1+1+x.2.2.1).toNat x.1)).length:Int) - (x_1.2+1)).toNat<((↑(List.drop (x.2.1+1).toNat (List.take (x.2.1+1+x.2.2.1).toNat x.1)).length:Int) - x_1.2).toNat)∧(decide ((List.drop (x.2.1+1).toNat (List.take (x.2.1+1+x.2.2.1).toNat x.1)).getD x_1.2.toNat (0:Int)≠0)=false→ah .i64 (x_1.2+1)∧(0≤x_1.2+1∧x_1.2+1≤(↑(List.drop (x.2.1+1).toNat (List.take (x.2.1+1+x.2.2.1).toNat x.1)).length:Int)∧(∀ (v:Int),v∈List.drop (x.2.1+1).toNat (List.take (x.2.1+1+x.2.2.1).toNat x.1)→v≤256)∧(List.drop (x.2.1+1).toNat (List.take (x.2.1+1+x.2.2.1).toNat x.1)).length≤256∧x_1.1=List.map (fun (x:Int)=>x - 1) (List.filter (fun (v:Int)=>decide (v≠0)) (List.take (x_1.2+1).toNat (List.drop (x.2.1+1).toNat (List.take (x.2.1+1+x.2.2.1).toNat x.1)))))∧((↑(List.drop (x.2.1+1).toNat (List.take (x.2.1+1+x.2.2.1).toNat x.1)).length:Int) - (x_1.2+1)).toNat<((↑(List.drop (x.2.1+1).toNat (List.take (x.2.1+1+x.2.2.1).toNat x.1)).length:Int) - x_1.2).toNat))∧(decide (x_1.2<(↑(List.drop (x.2.1+1).toNat (List.take (x.2.1+1+x.2.2.1).toNat x.1)).length:Int))=false→x_1.1=bc x.1 x.2.1∧True)
theorem qo:mX:=by
 unfold mX
 intro ⟨a,x,h⟩ ⟨⟨hb,hw⟩,hx,_⟩ ⟨hc,hB,hh⟩
 unfold aE at hb
 simp only at hb hw hx hc hB hh ⊢
 subst hh
 obtain ⟨k1,k2,k3,k4,k5,k6⟩:=jH hB
 have hal:=(pO hB).2.2.2.2
 have hrf:∀ v∈d5 a x,0≤v∧v≤256:=fun v hv=>by
  rcases eZ hw hc _ (io hB).1 v hv with h | h <;> omega
 have hF:bc a x=((d5 a x).filter fun v=>decide (v≠0)).map (· - 1):=rfl
 have e:List.drop (x+1).toNat (List.take (x+1+(lK a x).1).toNat a)=d5 a x:=rfl
 simp only [e,hF]
 have hrl:(d5 a x).length≤256:=by omega
 generalize d5 a x=r at *
 simp only [ah]
 refine ⟨by omega,by omega,by omega,by omega,by omega,by omega,⟨by omega,by omega,fun v hv=>(hrf v hv).2,hrl,by first | trivial | rfl⟩,fun ⟨out,i⟩ ⟨i0,i1,_,_,i4⟩=>⟨fun hlt=>?_,fun hge=>?_⟩⟩
 ·simp only at i0 i1 i4 hlt ⊢
  have hlt:=of_decide_eq_true hlt
  have hv:=hrf _ (bW (0:Int) i0 hlt)
  have ht:=dl (0:Int) i0 hlt
  have hol:out.length≤i.toNat:=by
   rw [i4,List.length_map]
   exact Nat.le_trans (List.length_filter_le _ _) (by simp; omega)
  rw [ht,List.filter_append,List.map_append,← i4]
  generalize r.getD i.toNat 0=v at *
  have hwr:IntKind.i64.wrap v=v:=fv (by omega) (by omega)
  rw [hwr]
  refine ⟨i0,hlt,fun hn=>⟨by omega,by simp only [List.length_cons,List.length_nil]; unfold aE; omega,by omega,⟨by omega,by omega,fun v hv=>(hrf v hv).2,hrl,?_⟩,by omega⟩,fun hn=>⟨by omega,⟨by omega,by omega,fun v hv=>(hrf v hv).2,hrl,?_⟩,by omega⟩⟩
  ·have hn:v≠0:=of_decide_eq_true hn
   simp [hn]
  ·have hn:v=0:=by simpa using hn
   simp [hn]
 ·simp only at i0 i1 i4 hge ⊢
  have hge:=of_decide_eq_false hge
  rw [List.take_of_length_le (by omega)] at i4
  exact ⟨i4,trivial⟩
theorem sL:sw.ok Try.prog 110:=aQ (ann:=s9) au Try.func110 (by kernel_rfl) qo
def cn (t:sd) (x:Int):Bool:=!bf t.2.1 x&&!bf t.2.2 x
def tr:Spec:={ Ts:=[dk,ty_I],Rs:=[.dat .bool],pre:=fun _=>True,F:=fun ((t,x):sd×Int)=>cn t x }
def px:Prop :=
  ∀ (x:(List Int×List Int×List Int)×Int),((x.1.1.length * 8≤aE∧∀ (x_1:Int),x_1∈x.1.1→ah .u64 x_1)∧(x.1.2.1.length * 8≤aE∧∀ (x_1:Int),x_1∈x.1.2.1→ah .i64 x_1)∧x.1.2.2.length * 8≤aE∧∀ (x_1:Int),x_1∈x.1.2.2→ah .i64 x_1)∧ah .i64 x.2→True→True∧((!bf x.1.2.1 x.2)=true→True)∧(!bf x.1.2.1 x.2&&!bf x.1.2.2 x.2)=cn x.1 x.2∧True
theorem sh:px:=by
 unfold px
 intro ⟨t,x⟩ _ _
 exact ⟨trivial,fun _=>trivial,rfl,trivial⟩
theorem tG:tr.ok Try.prog 112:=aQ (ann:=eV) (af rP au) Try.func112 (by kernel_rfl) sh
def qD:Spec:={ Ts:=[ty_I,.ref dk],Rs:=[.dat .bool],pre:=fun _=>True,F:=fun ((x,t):Int×sd)=>bf t.2.2 x }
def kJ:Prop :=
  ∀ (x:Int×List Int×List Int×List Int),(ah .i64 x.1∧(x.2.1.length * 8≤aE∧∀ (x_1:Int),x_1∈x.2.1→ah .u64 x_1)∧(x.2.2.1.length * 8≤aE∧∀ (x_1:Int),x_1∈x.2.2.1→ah .i64 x_1)∧x.2.2.2.length * 8≤aE∧∀ (x_1:Int),x_1∈x.2.2.2→ah .i64 x_1)→True→True∧bf x.2.2.2 x.1=bf x.2.2.2 x.1∧True
theorem oX:kJ:=by
 unfold kJ
 intro ⟨x,t⟩ _ _
 exact ⟨trivial,rfl,trivial⟩
theorem qS:qD.ok Try.prog 109:=aQ (ann:=eV) (af rP au) Try.func109 (by kernel_rfl) oX
def qC:Spec:={ Ts:=[ty_I,.ref dk],Rs:=[.dat .bool],pre:=fun _=>True,F:=fun ((x,t):Int×sd)=>cn t x }
def kI:Prop :=
  ∀ (x:Int×List Int×List Int×List Int),(ah .i64 x.1∧(x.2.1.length * 8≤aE∧∀ (x_1:Int),x_1∈x.2.1→ah .u64 x_1)∧(x.2.2.1.length * 8≤aE∧∀ (x_1:Int),x_1∈x.2.2.1→ah .i64 x_1)∧x.2.2.2.length * 8≤aE∧∀ (x_1:Int),x_1∈x.2.2.2→ah .i64 x_1)→True→True∧cn x.2 x.1=cn x.2 x.1∧True
theorem oW:kI:=by
 unfold kI
 intro ⟨x,t⟩ _ _
 exact ⟨trivial,rfl,trivial⟩
theorem qR:qC.ok Try.prog 111:=aQ (ann:=eV) (af tG au) Try.func111 (by kernel_rfl) oW
theorem sW {a f p:List Int} (hw:∀ x∈a,ah .u64 x):eb a [f,p]=aH a (f++p):=by
 have e:bf (ab (aa a).1)=isB (aa a).1:=funext fun n=>d8 n _
 unfold eb aH
 rw [fV hw,e]
 simp only [List.all_cons,List.all_nil,Bool.and_true,List.all_append]
def cC (t:sd) (x:Int):Bool:=(bc t.1 x).any (cn t)
def eK (t:sd):Int:=if (ar t.1).2.2≠0 then (ar t.1).2.2 else if (ax t.2.1&&ax t.2.2)=false then 3 else if (t.2.1++t.2.2).all (isB (aa t.1).1)=false then 5 else if t.2.1.any (bf t.2.2)=true then 6 else if t.2.2.any (cC t)=true then 8 else 0
def ta:Nat→Option LoopGen
 | 8=>some { rd:=[.own 35 3 ty_I,.map 29 .i64 bS],A:=fun ((l,m):List Int×List (Int×dj))=>{ cs:=[.dat 37 ty_I],inv:=fun (i:Int)=>0≤i∧i≤l.length∧((l.drop i.toNat).all fun x=>(aw m x).isSome)=(l.all fun x=>(aw m x).isSome),mu:=fun (i:Int)=>(l.length - i).toNat } }
 | 17=>some { rd:=[.dat 55 (.arr ty_I),.box 1 dk],A:=fun ((l,t):List Int×sd)=>{ cs:=[.dat 57 ty_I],inv:=fun (i:Int)=>0≤i∧i≤l.length∧(l.drop i.toNat).any (cC t)=l.any (cC t),mu:=fun (i:Int)=>(l.length - i).toNat } }
 | _=>none
def sx:Spec:={ Ts:=[dk],Rs:=[.dat ty_I],pre:=fun (t:sd)=>(t.2.1.length+t.2.2.length) * 8≤140737488355328,F:=eK }
def mY:Prop :=
  ∀ (x:List Int×List Int×List Int),((x.1.length * 8≤aE∧∀ (x_1:Int),x_1∈x.1→ah .u64 x_1)∧(x.2.1.length * 8≤aE∧∀ (x_1:Int),x_1∈x.2.1→ah .i64 x_1)∧x.2.2.length * 8≤aE∧∀ (x_1:Int),x_1∈x.2.2→ah .i64 x_1)→(x.2.1.length+x.2.2.length) * 8≤140737488355328→True∧(decide ((ar x.1).2.2≠0)=true→(ar x.1).2.2=eK x∧True)∧(decide ((ar x.1).2.2≠0)=false→True∧((!ax x.2.1)=false→True)∧((!ax x.2.1||!ax x.2.2)=true→3=eK x∧True)∧((!ax x.2.1||!ax x.2.2)=false→True∧[x.2.1,x.2.2].flatten.length * 8≤aE∧((0:Int)≤0∧0≤(↑[x.2.1,x.2.2].flatten.length:Int)∧((List.drop (Int.toNat 0) [x.2.1,x.2.2].flatten).all fun (x_1:Int)=>(aw (a6 (aa x.1).1) x_1).isSome)=[x.2.1,x.2.2].flatten.all fun (x_1:Int)=>(aw (a6 (aa x.1).1) x_1).isSome)∧∀ (x_1:Int),(0≤x_1∧x_1≤(↑[x.2.1,x.2.2].flatten.length:Int)∧((List.drop x_1.toNat [x.2.1,x.2.2].flatten).all fun (x_2:Int)=>(aw (a6 (aa x.1).1) x_2).isSome)=[x.2.1,x.2.2].flatten.all fun (x_2:Int)=>(aw (a6 (aa x.1).1) x_2).isSome)→(decide (x_1<(↑[x.2.1,x.2.2].flatten.length:Int))=true→0≤x_1∧x_1<(↑[x.2.1,x.2.2].flatten.length:Int)∧x_1.toNat<[x.2.1,x.2.2].flatten.length∧((!(aw (a6 (aa x.1).1) ([x.2.1,x.2.2].flatten.getD x_1.toNat 0)).isSome)=true→5=eK x∧True)∧((!(aw (a6 (aa x.1).1) ([x.2.1,x.2.2].flatten.getD x_1.toNat 0)).isSome)=false→ah .i64 (x_1+1)∧(0≤x_1+1∧x_1+1≤(↑[x.2.1,x.2.2].flatten.length:Int)∧((List.drop (x_1+1).toNat [x.2.1,x.2.2].flatten).all fun (x_2:Int)=>(aw (a6 (aa x.1).1) x_2).isSome)=[x.2.1,x.2.2].flatten.all fun (x_2:Int)=>(aw (a6 (aa x.1).1) x_2).isSome)∧((↑[x.2.1,x.2.2].flatten.length:Int) - (x_1+1)).toNat<((↑[x.2.1,x.2.2].flatten.length:Int) - x_1).toNat))∧(decide (x_1<(↑[x.2.1,x.2.2].flatten.length:Int))=false→(∀ (s:Int),s∈x.2.1→(fun (_:Int)=>True,fun (x_2:Int)=>bf x.2.2 x_2).1 s)∧((x.2.1.any fun (x_2:Int)=>bf x.2.2 x_2)=true→6=eK x∧True)∧((x.2.1.any fun (x_2:Int)=>bf x.2.2 x_2)=false→((0:Int)≤0∧0≤(↑x.2.2.length:Int)∧(List.drop (Int.toNat 0) x.2.2).any (cC x)=x.2.2.any (cC x))∧∀ (x_2:Int),0≤x_2∧x_2≤(↑x.2.2.length:Int)∧(List.drop x_2.toNat x.2.2).any (cC x)=x.2.2.any (cC x)→(decide (x_2<(↑x.2.2.length:Int))=true→0≤x_2∧x_2<(↑x.2.2.length:Int)∧((ar x.1).2.2=0∧isB (aa x.1).1 (x.2.2.getD x_2.toNat 0)=true∧(aw (a6 (aa x.1).1) (x.2.2.getD x_2.toNat 0)).getD (0,0,0,false)=lK x.1 (x.2.2.getD x_2.toNat 0))∧(∀ (s:Int),s∈bc x.1 (x.2.2.getD x_2.toNat 0)→(fun (_:Int)=>True,fun (x_3:Int)=>cn x x_3).1 s)∧(((bc x.1 (x.2.2.getD x_2.toNat 0)).any fun (x_3:Int)=>cn x x_3)=true→8=eK x∧True)∧(((bc x.1 (x.2.2.getD x_2.toNat 0)).any fun (x_3:Int)=>cn x x_3)=false→ah .i64 (x_2+1)∧(0≤x_2+1∧x_2+1≤(↑x.2.2.length:Int)∧(List.drop (x_2+1).toNat x.2.2).any (cC x)=x.2.2.any (cC x))∧((↑x.2.2.length:Int) - (x_2+1)).toNat<((↑x.2.2.length:Int) - x_2).toNat))∧(decide (x_2<(↑x.2.2.length:Int))=false→0=eK x∧True)))))
theorem qp:mY:=by
 unfold mY
 intro ⟨a,g,b⟩ ⟨⟨hb,hw⟩,⟨hbg,hg⟩,hbb,hbl⟩ hpre
 unfold aE at hb hbg hbb
 simp only at hb hw hbg hg hbb hbl hpre ⊢
 have hF:eK (a,g,b)=if (ar a).2.2≠0 then (ar a).2.2 else if (ax g&&ax b)=false then 3 else if (g++b).all (isB (aa a).1)=false then 5 else if g.any (bf b)=true then 6 else if b.any (cC (a,g,b))=true then 8 else 0:=rfl
 have hget:=fun x=>nj (dv a) x
 have hsome:∀ x,(aw (a6 (aa a).1) x).isSome=isB (aa a).1 x:=fun x=>by rw [hget]; cases isB (aa a).1 x <;> rfl
 have hfl:[g,b].flatten=g++b:=by simp
 simp only [hsome,hfl]
 have hgl:(g++b).length=g.length+b.length:=List.length_append ..
 refine ⟨trivial,fun h=>?_,fun h=>⟨trivial,fun _=>trivial,fun h2=>?_,fun h2=>⟨trivial,by unfold aE; omega,⟨by omega,by omega,by first | rfl | trivial⟩,fun i ⟨i0,i1,i2⟩=>⟨fun hlt=>?_,fun hge=>⟨fun _ _=>trivial,fun h6=>?_,fun h6=>⟨⟨by omega,by omega,by first | rfl | trivial⟩,fun k ⟨k0,k1,k2⟩=>⟨fun hlt3=>?_,fun hge3=>?_⟩⟩⟩⟩⟩⟩⟩
 ·rw [hF,if_pos (of_decide_eq_true h)]
  exact ⟨rfl,trivial⟩
 ·rw [hF,if_neg (of_decide_eq_false h),if_pos (by cases h3:ax g <;> cases h4:ax b <;> simp_all)]
  exact ⟨rfl,trivial⟩
 all_goals have hc:=of_decide_eq_false h
 all_goals have hr:¬ (ax g&&ax b)=false:=by cases h3:ax g <;> cases h4:ax b <;> simp_all
 all_goals rw [hF,if_neg hc,if_neg hr]
 ·have hlt:=of_decide_eq_true hlt
  rw [az (0:Int) i0 hlt,List.all_cons] at i2
  simp only [ah]
  refine ⟨i0,hlt,by omega,fun hn=>?_,fun hn=>⟨by omega,⟨by omega,by omega,?_⟩,by omega⟩⟩
  ·have hn:isB (aa a).1 ((g++b).getD i.toNat 0)=false:=by simpa using hn
   rw [hn,Bool.false_and] at i2
   rw [if_pos i2.symm]
   exact ⟨rfl,trivial⟩
  ·have hn:isB (aa a).1 ((g++b).getD i.toNat 0)=true:=by simpa using hn
   rw [hn,Bool.true_and] at i2
   exact i2
 all_goals rw [aL (of_decide_eq_false hge),List.all_nil] at i2
 all_goals have hob:(g++b).all (isB (aa a).1)=true:=i2.symm
 all_goals rw [if_neg (by rw [hob]; simp)]
 ·rw [if_pos h6]
  exact ⟨rfl,trivial⟩
 all_goals have h6:¬ g.any (bf b)=true:=by
              intro e
              have h6:(g.any fun x=>bf b x)=false:=h6
              rw [show (g.any fun x=>bf b x)=g.any (bf b) from rfl,e] at h6
              cases h6
 all_goals rw [if_neg h6]
 ·have hlt3:=of_decide_eq_true hlt3
  rw [az (0:Int) k0 hlt3,List.any_cons] at k2
  have hib:=List.all_eq_true.1 hob _ (List.mem_append_right g (bW (0:Int) k0 hlt3))
  have e:cC (a,g,b) (b.getD k.toNat 0)=(bc a (b.getD k.toNat 0)).any (cn (a,g,b)):=rfl
  generalize b.getD k.toNat 0=x at *
  simp only [ah]
  refine ⟨k0,hlt3,⟨by omega,hib,by rw [hget,if_pos hib]; rfl⟩,fun _ _=>trivial,fun hh=>?_,fun hh=>⟨by omega,⟨by omega,by omega,?_⟩,by omega⟩⟩
  ·have hh:(bc a x).any (cn (a,g,b))=true:=hh
   rw [e,hh,Bool.true_or] at k2
   rw [if_pos k2.symm]
   exact ⟨rfl,trivial⟩
  ·have hh:(bc a x).any (cn (a,g,b))=false:=hh
   rw [e,hh,Bool.false_or] at k2
   exact k2
 ·rw [aL (of_decide_eq_false hge3),List.any_nil] at k2
  rw [if_neg (by rw [← k2]; simp)]
  exact ⟨rfl,trivial⟩
theorem sM:sx.ok Try.prog 45:=aQ (ann:=ta) (af il (af sK (af pE (af mi (af sL (af qS (af qR (af uM au)))))))) Try.func45 (by kernel_rfl) qp
def uY:Nat→Option LoopGen
 | 10=>some { rd:=[.dat 39 (.arr ty_I),.box 1 dk],A:=fun ((l,t):List Int×sd)=>{ cs:=[.dat 41 ty_I],inv:=fun (i:Int)=>0≤i∧i≤l.length∧(l.drop i.toNat).any (bf t.2.2)=l.any (bf t.2.2),mu:=fun (i:Int)=>(l.length - i).toNat } }
 | 16=>some { rd:=[.dat 51 (.arr ty_I),.box 1 dk],A:=fun ((l,t):List Int×sd)=>{ cs:=[.dat 53 ty_I],inv:=fun (i:Int)=>0≤i∧i≤l.length∧(l.drop i.toNat).any (cC t)=l.any (cC t),mu:=fun (i:Int)=>(l.length - i).toNat } }
 | 19=>some { rd:=[.own 60 3 ty_I,.box 1 dk],A:=fun ((ns,t):List Int×sd)=>{ cs:=[.dat 62 ty_I],inv:=fun (j:Int)=>0≤j∧j≤ns.length∧∀ y∈ns.take j.toNat,0≤y→cn t y=false,mu:=fun (j:Int)=>(ns.length - j).toNat } }
 | _=>none
def uB:Spec:={ Ts:=[dk],Rs:=[.dat ty_I],pre:=fun _=>True,F:=eK }
def rF:Prop :=
  ∀ (x:List Int×List Int×List Int),((x.1.length * 8≤aE∧∀ (x_1:Int),x_1∈x.1→ah .u64 x_1)∧(x.2.1.length * 8≤aE∧∀ (x_1:Int),x_1∈x.2.1→ah .i64 x_1)∧x.2.2.length * 8≤aE∧∀ (x_1:Int),x_1∈x.2.2→ah .i64 x_1)→True→True∧(decide (cI x.1≠0)=true→cI x.1=eK x∧True)∧(decide (cI x.1≠0)=false→True∧((!ax x.2.1)=false→True)∧((!ax x.2.1||!ax x.2.2)=true→3=eK x∧True)∧((!ax x.2.1||!ax x.2.2)=false→True∧(decide (eb x.1 [x.2.1,x.2.2]≠0)=true→eb x.1 [x.2.1,x.2.2]=eK x∧True)∧(decide (eb x.1 [x.2.1,x.2.2]≠0)=false→((0:Int)≤0∧0≤(↑x.2.1.length:Int)∧(List.drop (Int.toNat 0) x.2.1).any (bf x.2.2)=x.2.1.any (bf x.2.2))∧∀ (x_1:Int),0≤x_1∧x_1≤(↑x.2.1.length:Int)∧(List.drop x_1.toNat x.2.1).any (bf x.2.2)=x.2.1.any (bf x.2.2)→(decide (x_1<(↑x.2.1.length:Int))=true→0≤x_1∧x_1<(↑x.2.1.length:Int)∧True∧(bf x.2.2 (x.2.1.getD x_1.toNat 0)=true→6=eK x∧True)∧(bf x.2.2 (x.2.1.getD x_1.toNat 0)=false→ah .i64 (x_1+1)∧(0≤x_1+1∧x_1+1≤(↑x.2.1.length:Int)∧(List.drop (x_1+1).toNat x.2.1).any (bf x.2.2)=x.2.1.any (bf x.2.2))∧((↑x.2.1.length:Int) - (x_1+1)).toNat<((↑x.2.1.length:Int) - x_1).toNat))∧(decide (x_1<(↑x.2.1.length:Int))=false→((0:Int)≤0∧0≤(↑x.2.2.length:Int)∧(List.drop (Int.toNat 0) x.2.2).any (cC x)=x.2.2.any (cC x))∧∀ (x_2:Int),0≤x_2∧x_2≤(↑x.2.2.length:Int)∧(List.drop x_2.toNat x.2.2).any (cC x)=x.2.2.any (cC x)→(decide (x_2<(↑x.2.2.length:Int))=true→0≤x_2∧x_2<(↑x.2.2.length:Int)∧True∧((0:Int)≤0∧0≤(↑(ap x.1 (x.2.2.getD x_2.toNat 0) (ac (x.2.2.getD x_2.toNat 0) (aa x.1).1).1).length:Int)∧∀ (y:Int),y∈List.take (Int.toNat 0) (ap x.1 (x.2.2.getD x_2.toNat 0) (ac (x.2.2.getD x_2.toNat 0) (aa x.1).1).1)→0≤y→cn x y=false)∧∀ (x_3:Int),(0≤x_3∧x_3≤(↑(ap x.1 (x.2.2.getD x_2.toNat 0) (ac (x.2.2.getD x_2.toNat 0) (aa x.1).1).1).length:Int)∧∀ (y:Int),y∈List.take x_3.toNat (ap x.1 (x.2.2.getD x_2.toNat 0) (ac (x.2.2.getD x_2.toNat 0) (aa x.1).1).1)→0≤y→cn x y=false)→(decide (x_3<(↑(ap x.1 (x.2.2.getD x_2.toNat 0) (ac (x.2.2.getD x_2.toNat 0) (aa x.1).1).1).length:Int))=true→0≤x_3∧x_3<(↑(ap x.1 (x.2.2.getD x_2.toNat 0) (ac (x.2.2.getD x_2.toNat 0) (aa x.1).1).1).length:Int)∧x_3.toNat<(ap x.1 (x.2.2.getD x_2.toNat 0) (ac (x.2.2.getD x_2.toNat 0) (aa x.1).1).1).length∧(decide (0≤(ap x.1 (x.2.2.getD x_2.toNat 0) (ac (x.2.2.getD x_2.toNat 0) (aa x.1).1).1).getD x_3.toNat 0)=true→True)∧((decide (0≤(ap x.1 (x.2.2.getD x_2.toNat 0) (ac (x.2.2.getD x_2.toNat 0) (aa x.1).1).1).getD x_3.toNat 0)&&!bf x.2.1 ((ap x.1 (x.2.2.getD x_2.toNat 0) (ac (x.2.2.getD x_2.toNat 0) (aa x.1).1).1).getD x_3.toNat 0))=true→True)∧((decide (0≤(ap x.1 (x.2.2.getD x_2.toNat 0) (ac (x.2.2.getD x_2.toNat 0) (aa x.1).1).1).getD x_3.toNat 0)&&!bf x.2.1 ((ap x.1 (x.2.2.getD x_2.toNat 0) (ac (x.2.2.getD x_2.toNat 0) (aa x.1).1).1).getD x_3.toNat 0)&&!bf x.2.2 ((ap x.1 (x.2.2.getD x_2.toNat 0) (ac (x.2.2.getD x_2.toNat 0) (aa x.1).1).1).getD x_3.toNat 0))=true→8=eK x∧True)∧((decide (0≤(ap x.1 (x.2.2.getD x_2.toNat 0) (ac (x.2.2.getD x_2.toNat 0) (aa x.1).1).1).getD x_3.toNat 0)&&!bf x.2.1 ((ap x.1 (x.2.2.getD x_2.toNat 0) (ac (x.2.2.getD x_2.toNat 0) (aa x.1).1).1).getD x_3.toNat 0)&&!bf x.2.2 ((ap x.1 (x.2.2.getD x_2.toNat 0) (ac (x.2.2.getD x_2.toNat 0) (aa x.1).1).1).getD x_3.toNat 0))=false→ah .i64 (x_3+1)∧(0≤x_3+1∧x_3+1≤(↑(ap x.1 (x.2.2.getD x_2.toNat 0) (ac (x.2.2.getD x_2.toNat 0) (aa x.1).1).1).length:Int)∧∀ (y:Int),y∈List.take (x_3+1).toNat (ap x.1 (x.2.2.getD x_2.toNat 0) (ac (x.2.2.getD x_2.toNat 0) (aa x.1).1).1)→0≤y→cn x y=false)∧((↑(ap x.1 (x.2.2.getD x_2.toNat 0) (ac (x.2.2.getD x_2.toNat 0) (aa x.1).1).1).length:Int) - (x_3+1)).toNat<((↑(ap x.1 (x.2.2.getD x_2.toNat 0) (ac (x.2.2.getD x_2.toNat 0) (aa x.1).1).1).length:Int) - x_3).toNat))∧(decide (x_3<(↑(ap x.1 (x.2.2.getD x_2.toNat 0) (ac (x.2.2.getD x_2.toNat 0) (aa x.1).1).1).length:Int))=false→ah .i64 (x_2+1)∧(0≤x_2+1∧x_2+1≤(↑x.2.2.length:Int)∧(List.drop (x_2+1).toNat x.2.2).any (cC x)=x.2.2.any (cC x))∧((↑x.2.2.length:Int) - (x_2+1)).toNat<((↑x.2.2.length:Int) - x_2).toNat))∧(decide (x_2<(↑x.2.2.length:Int))=false→0=eK x∧True)))))
theorem tf:rF:=by
 unfold rF
 intro ⟨a,g,b⟩ ⟨⟨hb,hw⟩,⟨hbg,hg⟩,hbb,hbl⟩ _
 unfold aE at hb hbg hbb
 simp only at hb hw hbg hg hbb hbl ⊢
 rw [sW hw,fV hw]
 have hF:eK (a,g,b)=if (ar a).2.2≠0 then (ar a).2.2 else if (ax g&&ax b)=false then 3 else if (g++b).all (isB (aa a).1)=false then 5 else if g.any (bf b)=true then 6 else if b.any (cC (a,g,b))=true then 8 else 0:=rfl
 refine ⟨trivial,fun h=>?_,fun h=>⟨trivial,fun _=>trivial,fun h2=>?_,fun h2=>⟨trivial,fun h3=>?_,fun h3=>⟨⟨by omega,by omega,by first | rfl | trivial⟩,fun j ⟨j0,j1,j2⟩=>⟨fun hlt2=>?_,fun hge2=>⟨⟨by omega,by omega,by first | rfl | trivial⟩,fun k ⟨k0,k1,k2⟩=>⟨fun hlt3=>?_,fun hge3=>?_⟩⟩⟩⟩⟩⟩⟩
 ·rw [hF,if_pos (of_decide_eq_true h)]
  exact ⟨rfl,trivial⟩
 ·rw [hF,if_neg (of_decide_eq_false h),if_pos (by cases h3:ax g <;> cases h4:ax b <;> simp_all)]
  exact ⟨rfl,trivial⟩
 all_goals have hc:=of_decide_eq_false h
 all_goals have hr:¬ (ax g&&ax b)=false:=by cases h5:ax g <;> cases h4:ax b <;> simp_all
 all_goals have hff:aH a (g++b)=if (g++b).all (isB (aa a).1)=true then 0 else 5:=by unfold aH; rw [if_neg hc]
 all_goals rw [hF,if_neg hc,if_neg hr]
 ·have h3:=of_decide_eq_true h3
  have hob:(g++b).all (isB (aa a).1)=false:=by
   cases h4:(g++b).all (isB (aa a).1)
   ·rfl
   ·rw [hff,if_pos h4] at h3; exact absurd rfl h3
  rw [hff,if_neg (by rw [hob]; simp),if_pos hob]
  exact ⟨rfl,trivial⟩
 all_goals have hob:(g++b).all (isB (aa a).1)=true:=by
              have h3:=of_decide_eq_false h3
              cases h4:(g++b).all (isB (aa a).1)
              ·rw [hff,if_neg (by rw [h4]; simp)] at h3; simp at h3
              ·rfl
 all_goals rw [if_neg (by rw [hob]; simp)]
 ·have hlt2:=of_decide_eq_true hlt2
  rw [az (0:Int) j0 hlt2,List.any_cons] at j2
  simp only [ah]
  refine ⟨j0,hlt2,trivial,fun hn=>?_,fun hn=>⟨by omega,⟨by omega,by omega,?_⟩,by omega⟩⟩
  ·rw [hn,Bool.true_or] at j2
   rw [if_pos j2.symm]
   exact ⟨rfl,trivial⟩
  ·rw [hn,Bool.false_or] at j2
   exact j2
 all_goals rw [aL (of_decide_eq_false hge2),List.any_nil] at j2
 all_goals rw [if_neg (by rw [← j2]; simp)]
 ·have hlt3:=of_decide_eq_true hlt3
  rw [az (0:Int) k0 hlt3,List.any_cons] at k2
  have hib:=List.all_eq_true.1 hob _ (List.mem_append_right g (bW (0:Int) k0 hlt3))
  have e:cC (a,g,b) (b.getD k.toNat 0)=(bc a (b.getD k.toNat 0)).any (cn (a,g,b)):=rfl
  have ewh:∀ y,cn (a,g,b) y=(!bf g y&&!bf b y):=fun _=>rfl
  generalize b.getD k.toNat 0=x at *
  have hno:=fun y=>qY hw (by omega) hib (y:=y)
  have hnl:(ap a x (ac x (aa a).1).1).length≤a.length:=by
   unfold ap
   rw [List.length_map,List.length_drop,List.length_take]
   omega
  generalize ap a x (ac x (aa a).1).1=ns at *
  simp only [ah]
  refine ⟨k0,hlt3,trivial,⟨by omega,by omega,fun y hy=>by simp at hy⟩,fun i ⟨i0,i1,i2⟩=>⟨fun hlt=>?_,fun hge=>?_⟩⟩
  ·have hlt:=of_decide_eq_true hlt
   have hm:=bW (0:Int) i0 hlt
   have ht:=dl (0:Int) i0 hlt
   rw [ht]
   generalize ns.getD i.toNat 0=y at *
   refine ⟨i0,hlt,by omega,fun _=>trivial,fun _=>trivial,fun hh=>?_,fun hh=>⟨by omega,⟨by omega,by omega,?_⟩,by omega⟩⟩
   ·simp only [Bool.and_eq_true,decide_eq_true_eq] at hh
    obtain ⟨⟨hy0,hyg⟩,hyb⟩:=hh
    have:cC (a,g,b) x=true:=by
     rw [e]
     exact List.any_eq_true.2 ⟨y,(hno y).1 ⟨hm,hy0⟩,by rw [ewh,hyg,hyb]; rfl⟩
    rw [this,Bool.true_or] at k2
    rw [if_pos k2.symm]
    exact ⟨rfl,trivial⟩
   ·intro z hz hz0
    rcases List.mem_append.1 hz with hz | hz
    ·exact i2 z hz hz0
    ·have hz:=List.mem_singleton.1 hz
     subst hz
     rw [decide_eq_true hz0,Bool.true_and] at hh
     rw [ewh]
     exact hh
  ·have hge:=of_decide_eq_false hge
   rw [List.take_of_length_le (by omega)] at i2
   have:cC (a,g,b) x=false:=by
    rw [e,List.any_eq_false]
    intro y hy
    obtain ⟨q1,q2⟩:=(hno y).2 hy
    rw [i2 y q1 q2]
    simp
   rw [this,Bool.false_or] at k2
   exact ⟨by omega,⟨by omega,by omega,k2⟩,by omega⟩
 ·rw [aL (of_decide_eq_false hge3),List.any_nil] at k2
  rw [if_neg (by rw [← k2]; simp)]
  exact ⟨rfl,trivial⟩
theorem uK:uB.ok Try.prog 46:=aQ (ann:=uY) (af fI (af sN (af pH (af n8 (af ne au))))) Try.func46 (by kernel_rfl) tf
def ph:Spec:={ Ts:=[dk,dk],Rs:=[.dat .bool],pre:=fun _=>True,F:=fun (x:sd×sd)=>decide (x.1=x.2) }
def jz:Prop :=
  ∀ (x:(List Int×List Int×List Int)×List Int×List Int×List Int),(((x.1.1.length * 8≤aE∧∀ (x_1:Int),x_1∈x.1.1→ah .u64 x_1)∧(x.1.2.1.length * 8≤aE∧∀ (x_1:Int),x_1∈x.1.2.1→ah .i64 x_1)∧x.1.2.2.length * 8≤aE∧∀ (x_1:Int),x_1∈x.1.2.2→ah .i64 x_1)∧(x.2.1.length * 8≤aE∧∀ (x_1:Int),x_1∈x.2.1→ah .u64 x_1)∧(x.2.2.1.length * 8≤aE∧∀ (x_1:Int),x_1∈x.2.2.1→ah .i64 x_1)∧x.2.2.2.length * 8≤aE∧∀ (x_1:Int),x_1∈x.2.2.2→ah .i64 x_1)→True→True∧(decide (x.1.1=x.2.1)=true→True)∧((decide (x.1.1=x.2.1)&&decide (x.1.2.1=x.2.2.1))=true→True)∧(decide (x.1.1=x.2.1)&&decide (x.1.2.1=x.2.2.1)&&decide (x.1.2.2=x.2.2.2))=decide (x.1=x.2)∧True
theorem nz:jz:=by
 unfold jz
 intro ⟨⟨a1,a2,a3⟩,b1,b2,b3⟩ _ _
 refine ⟨trivial,fun _=>trivial,fun _=>trivial,?_,trivial⟩
 apply Bool.eq_iff_iff.2
 simp only [Bool.and_eq_true,decide_eq_true_eq,Prod.mk.injEq]
 grind
theorem pG:ph.ok Try.prog 47:=aQ (ann:=eV) (af mg (af n7 au)) Try.func47 (by kernel_rfl) nz
end Go.Proofs.Ytcnoiiohmpgckaa
