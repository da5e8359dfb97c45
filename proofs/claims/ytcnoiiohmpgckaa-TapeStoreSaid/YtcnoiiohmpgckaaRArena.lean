
import Derived.Test.YtcnoiiohmpgckaaWalks
import Derived.Test.YtcnoiiohmpgckaaInts
namespace Go.Proofs.Ytcnoiiohmpgckaa
open Go
set_option maxRecDepth 100000
set_option maxHeartbeats 1000000
def y8:Spec:={ Ts:=[.arr bv],Rs:=[.own 158 ci,.dat ty_I],pre:=fun _=>True,F:=aa }
def zY:Nat→Option LoopGen
 | 6=>some { rd:=[.dat 12 (.arr bv)],A:=fun (a:List Int)=>{ cs:=[.own 4 158 ci,.dat 5 ty_I,.dat 14 ty_I],inv:=fun ((out,nx,at_):List aE×Int×Int)=>a.length≤256∧0≤at_∧at_≤a.length∧at_≤nx∧nx≤a.length∧out.length≤at_∧spotsS 0 a=(spotsS nx (a.drop nx.toNat)).map (out++·),mu:=fun ((_,_,at_):List aE×Int×Int)=>(a.length - at_).toNat } }
 | _=>none
def sr:Prop :=
  ∀ (x:List Int),(x.length * 8≤aC∧∀ (x_1:Int),x_1∈x→am .u64 x_1)→True→(decide (256<(↑x.length:Int))=true→([]:List (Int×Int×Int×Int×Bool))=(aa x).1∧2=(aa x).2∧True)∧(decide (256<(↑x.length:Int))=false→(x.length≤256∧(0:Int)≤0∧0≤(↑x.length:Int)∧(0:Int)≤0∧0≤(↑x.length:Int)∧(↑(0:Nat):Int)≤0∧spotsS 0 x=Option.map (fun (x:List aE)=>([]:List (Int×Int×Int×Int×Bool))++x) (spotsS 0 (List.drop (Int.toNat 0) x)))∧∀ (x_1:List (Int×Int×Int×Int×Bool)×Int×Int),x.length≤256∧0≤x_1.2.2∧x_1.2.2≤(↑x.length:Int)∧x_1.2.2≤x_1.2.1∧x_1.2.1≤(↑x.length:Int)∧(↑x_1.1.length:Int)≤x_1.2.2∧spotsS 0 x=Option.map (fun (x:List aE)=>x_1.1++x) (spotsS x_1.2.1 (List.drop x_1.2.1.toNat x))→(decide (x_1.2.2<(↑x.length:Int))=true→(decide (x_1.2.2≠x_1.2.1)=true→am .i64 (x_1.2.2+1)∧(x.length≤256∧0≤x_1.2.2+1∧x_1.2.2+1≤(↑x.length:Int)∧x_1.2.2+1≤x_1.2.1∧x_1.2.1≤(↑x.length:Int)∧(↑x_1.1.length:Int)≤x_1.2.2+1∧spotsS 0 x=Option.map (fun (x:List aE)=>x_1.1++x) (spotsS x_1.2.1 (List.drop x_1.2.1.toNat x)))∧((↑x.length:Int) - (x_1.2.2+1)).toNat<((↑x.length:Int) - x_1.2.2).toNat)∧(decide (x_1.2.2≠x_1.2.1)=false→0≤x_1.2.2∧x_1.2.2<(↑x.length:Int)∧True∧((!aq (x.getD x_1.2.2.toNat 0))=false→am .i64 (1+(if aq (x.getD x_1.2.2.toNat 0)=true then au (x.getD x_1.2.2.toNat 0) else ay).1)∧am .i64 (1+(if aq (x.getD x_1.2.2.toNat 0)=true then au (x.getD x_1.2.2.toNat 0) else ay).1+(if aq (x.getD x_1.2.2.toNat 0)=true then au (x.getD x_1.2.2.toNat 0) else ay).2.1))∧((!aq (x.getD x_1.2.2.toNat 0))=false→am .i64 (x_1.2.2+aj (if aq (x.getD x_1.2.2.toNat 0)=true then au (x.getD x_1.2.2.toNat 0) else ay)))∧((!aq (x.getD x_1.2.2.toNat 0)||decide ((↑x.length:Int)<x_1.2.2+aj (if aq (x.getD x_1.2.2.toNat 0)=true then au (x.getD x_1.2.2.toNat 0) else ay)))=true→([]:List (Int×Int×Int×Int×Bool))=(aa x).1∧3=(aa x).2∧True)∧((!aq (x.getD x_1.2.2.toNat 0)||decide ((↑x.length:Int)<x_1.2.2+aj (if aq (x.getD x_1.2.2.toNat 0)=true then au (x.getD x_1.2.2.toNat 0) else ay)))=false→(x_1.1.length+[(x_1.2.2,if aq (x.getD x_1.2.2.toNat 0)=true then au (x.getD x_1.2.2.toNat 0) else ay)].length) * (8+(8+(8+(8+8))))≤aC∧(am .i64 (1+(if aq (x.getD x_1.2.2.toNat 0)=true then au (x.getD x_1.2.2.toNat 0) else ay).1)∧am .i64 (1+(if aq (x.getD x_1.2.2.toNat 0)=true then au (x.getD x_1.2.2.toNat 0) else ay).1+(if aq (x.getD x_1.2.2.toNat 0)=true then au (x.getD x_1.2.2.toNat 0) else ay).2.1))∧am .i64 (x_1.2.2+aj (if aq (x.getD x_1.2.2.toNat 0)=true then au (x.getD x_1.2.2.toNat 0) else ay))∧am .i64 (x_1.2.2+1)∧(x.length≤256∧0≤x_1.2.2+1∧x_1.2.2+1≤(↑x.length:Int)∧x_1.2.2+1≤x_1.2.2+aj (if aq (x.getD x_1.2.2.toNat 0)=true then au (x.getD x_1.2.2.toNat 0) else ay)∧x_1.2.2+aj (if aq (x.getD x_1.2.2.toNat 0)=true then au (x.getD x_1.2.2.toNat 0) else ay)≤(↑x.length:Int)∧(↑(x_1.1++[(x_1.2.2,if aq (x.getD x_1.2.2.toNat 0)=true then au (x.getD x_1.2.2.toNat 0) else ay)]).length:Int)≤x_1.2.2+1∧spotsS 0 x=Option.map (fun (x_2:List aE)=>x_1.1++[(x_1.2.2,if aq (x.getD x_1.2.2.toNat 0)=true then au (x.getD x_1.2.2.toNat 0) else ay)]++x_2) (spotsS (x_1.2.2+aj (if aq (x.getD x_1.2.2.toNat 0)=true then au (x.getD x_1.2.2.toNat 0) else ay)) (List.drop (x_1.2.2+aj (if aq (x.getD x_1.2.2.toNat 0)=true then au (x.getD x_1.2.2.toNat 0) else ay)).toNat x)))∧((↑x.length:Int) - (x_1.2.2+1)).toNat<((↑x.length:Int) - x_1.2.2).toNat)))∧(decide (x_1.2.2<(↑x.length:Int))=false→x_1.1=(aa x).1∧0=(aa x).2∧True))
theorem xb:sr:=by
 unfold sr
 intro a ⟨hb,hw⟩ _
 by_cases cl:256<a.length
 ·have e:aa a=([],2):=by unfold aa; rw [if_pos cl]
  simp [e]
  omega
 have eF:aa a=match spotsS 0 a with | none=>([],3) | some l=>(l,0):=by unfold aa; rw [if_neg cl] <;> rfl
 refine ⟨fun h=>by simp at h; omega,fun _=>⟨⟨by omega,by omega,by omega,by omega,by omega,by simp,by simp⟩,fun ⟨out,nx,k⟩ ⟨_,h0,h1,h4,h5,h2,h3⟩=>⟨fun hlt0=>?_,fun hge=>?_⟩⟩⟩
 ·have hlt:k<(a.length:Int):=of_decide_eq_true hlt0
  clear hlt0
  simp only at h0 h1 h2 h3 h4 h5 hlt ⊢
  refine ⟨fun hne=>?_,fun heq=>?_⟩
  ·have hne:k≠nx:=by simpa using hne
   simp only [am]
   exact ⟨by omega,⟨by omega,by omega,by omega,by omega,by omega,by omega,h3⟩,by omega⟩
  have heq:k=nx:=by simpa using heq
  subst heq
  rw [aY (0:Int) h0 hlt] at h3
  have hdl:(((a.getD k.toNat 0::a.drop (k+1).toNat).length:Nat):Int)=a.length - k:=by rw [List.length_cons,List.length_drop]; omega
  have hdd:∀ n:Int,0≤n→(a.getD k.toNat 0::a.drop (k+1).toNat).drop n.toNat=a.drop (k+n).toNat:=fun n hn=>by
   rw [← aY (0:Int) h0 hlt,List.drop_drop]
   congr 1
   omega
  generalize a.getD k.toNat 0=v at *
  by_cases g1:aq v=true
  ·have hl:=cR g1
   have hf:ap (au v)=0:=by
    have:=g1
    simp only [aq,Bool.and_eq_true,beq_iff_eq] at this
    exact this.2
   have hz:=bP hf
   have hL:aj (au v)=1+(au v).1+(au v).2.1:=rfl
   simp only [g1,if_true,Bool.not_true,Bool.false_or,am]
   refine ⟨h0,hlt,trivial,fun _=>⟨by omega,by omega⟩,fun _=>by omega,fun hc=>?_,fun hc=>?_⟩
   ·have hc:=of_decide_eq_true hc
    rw [cO (by rintro ⟨_,g2⟩; omega)] at h3
    rw [eF,h3]
    exact ⟨rfl,rfl,trivial⟩
   ·have hc:=of_decide_eq_false hc
    rw [cP g1 (by omega),hdd _ (by omega),Option.map_map] at h3
    unfold aC
    simp only [List.length_append,List.length_cons,List.length_nil]
    refine ⟨by omega,⟨by omega,by omega⟩,by omega,by omega,⟨by omega,by omega,by omega,by omega,by omega,by omega,?_⟩,by omega⟩
    rw [h3]
    congr 1
    funext x
    simp
  ·have g1':aq v=false:=by simpa using g1
   rw [cO (fun h=>g1 h.1)] at h3
   simp only [g1',Bool.not_false,Bool.true_or]
   refine ⟨h0,hlt,trivial,fun h=>by simp at h,fun h=>by simp at h,fun _=>?_,fun h=>by simp at h⟩
   rw [eF,h3]
   exact ⟨rfl,rfl,trivial⟩
 ·have hge:¬ k<(a.length:Int):=by simpa using hge
  simp only at *
  rw [bt (by omega)] at h3
  simp only [spotsS,Option.map_some,List.append_nil] at h3
  rw [eF,h3]
  exact ⟨rfl,rfl,trivial⟩
theorem mF:y8.ok Try.prog 87:=aQ (ann:=zY) (ai tZ (ai t6 ax)) Try.func87 (by kernel_rfl) xb
def an (at_:Int):List aE→iu×Bool
 | []=>(ay,false)
 | s::l=>if s.1=at_∧s.2.2.2.2=false then (s.2,true) else an at_ l
theorem fQ (at_:Int):∀ (l:List aE),an at_ l=(ay,false)∨∃ s∈l,s.1=at_∧s.2.2.2.2=false∧an at_ l=(s.2,true)
 | []=>.inl rfl
 | s::l=>by
  simp only [an]
  split
  ·rename_i h
   exact .inr ⟨s,by simp,h.1,h.2,rfl⟩
  ·rcases fQ at_ l with h | ⟨t,h1,h2⟩
   ·exact .inl h
   ·exact .inr ⟨t,by simp [h1],h2⟩
def yh:Nat→Option LoopGen
 | 3=>some { rd:=[.own 15 158 ci,.dat 1 ty_I],A:=fun ((l,at_):List aE×Int)=>{ cs:=[.box 4 eP,.dat 17 ty_I],inv:=fun ((_,i):iu×Int)=>0≤i∧i≤l.length∧l.length≤256∧an at_ (l.drop i.toNat)=an at_ l,mu:=fun ((_,i):iu×Int)=>(l.length - i).toNat } }
 | _=>none
def xn:Spec:={ Ts:=[.arr bv,ty_I],Rs:=[.dat eP,.dat .bool],pre:=fun _=>True,F:=fun ((a,at_):List Int×Int)=>an at_ (aa a).1 }
def pk:Prop :=
  ∀ (x:List Int×Int),(x.1.length * 8≤aC∧∀ (x_1:Int),x_1∈x.1→am .u64 x_1)∧am .i64 x.2→True→True∧((0:Int)≤0∧0≤(↑(aa x.1).1.length:Int)∧(aa x.1).1.length≤256∧an x.2 (List.drop (Int.toNat 0) (aa x.1).1)=an x.2 (aa x.1).1)∧∀ (x_1:(Int×Int×Int×Bool)×Int),0≤x_1.2∧x_1.2≤(↑(aa x.1).1.length:Int)∧(aa x.1).1.length≤256∧an x.2 (List.drop x_1.2.toNat (aa x.1).1)=an x.2 (aa x.1).1→(decide (x_1.2<(↑(aa x.1).1.length:Int))=true→0≤x_1.2∧x_1.2<(↑(aa x.1).1.length:Int)∧x_1.2.toNat<(aa x.1).1.length∧((decide (((aa x.1).1.getD x_1.2.toNat (0,0,0,0,false)).1=x.2)&&!((aa x.1).1.getD x_1.2.toNat (0,0,0,0,false)).2.2.2.2)=true→((aa x.1).1.getD x_1.2.toNat (0,0,0,0,false)).2=(an x.2 (aa x.1).1).1∧true=(an x.2 (aa x.1).1).2∧True)∧((decide (((aa x.1).1.getD x_1.2.toNat (0,0,0,0,false)).1=x.2)&&!((aa x.1).1.getD x_1.2.toNat (0,0,0,0,false)).2.2.2.2)=false→am .i64 (x_1.2+1)∧(0≤x_1.2+1∧x_1.2+1≤(↑(aa x.1).1.length:Int)∧(aa x.1).1.length≤256∧an x.2 (List.drop (x_1.2+1).toNat (aa x.1).1)=an x.2 (aa x.1).1)∧((↑(aa x.1).1.length:Int) - (x_1.2+1)).toNat<((↑(aa x.1).1.length:Int) - x_1.2).toNat))∧(decide (x_1.2<(↑(aa x.1).1.length:Int))=false→(0,0,0,false)=(an x.2 (aa x.1).1).1∧false=(an x.2 (aa x.1).1).2∧True)
theorem u6:pk:=by
 unfold pk
 intro ⟨a,at_⟩ _ _
 have hlen:=c9 a
 simp only at *
 generalize (aa a).1=l at *
 refine ⟨trivial,⟨by omega,by omega,hlen,by simp⟩,fun ⟨_,i⟩ ⟨h0,h1,_,h2⟩=>⟨fun hlt=>?_,fun hge=>?_⟩⟩
 ·have hlt:i<(l.length:Int):=by simpa using hlt
  simp only at h0 h1 h2 ⊢
  rw [aY ((0,0,0,0,false):aE) h0 hlt] at h2
  simp only [an] at h2
  generalize l.getD i.toNat (0,0,0,0,false)=s at *
  simp only [am]
  refine ⟨h0,hlt,by omega,fun hc=>?_,fun hc=>?_⟩
  ·have hc:s.1=at_∧s.2.2.2.2=false:=by simpa using hc
   rw [if_pos hc] at h2
   rw [← h2]
   exact ⟨rfl,rfl,trivial⟩
  ·have hc:¬ (s.1=at_∧s.2.2.2.2=false):=by
    rintro ⟨g1,g2⟩
    rw [g1,g2] at hc
    simp at hc
   rw [if_neg hc] at h2
   exact ⟨by omega,⟨by omega,by omega,hlen,h2⟩,by omega⟩
 ·rw [bt (by simpa using hge)] at h2
  rw [← h2]
  exact ⟨rfl,rfl,trivial⟩
theorem xJ:xn.ok Try.prog 56:=aQ (ann:=yh) (ai mF ax) Try.func56 (by kernel_rfl) u6
theorem xt {α:Type} {a:List α} {p q:Nat} (d:α) (h:p≤q) (hq:q<a.length):(a.take (q+1)).drop p=(a.take q).drop p++[a.getD q d]:=by
 rw [List.take_succ_eq_append_getElem hq,List.drop_append_of_le_length (by rw [List.length_take]; omega)]
 simp [hq]
def nameOf (v:Int):Int:=(if 256<v then 9999 else v) - 1
def bq (a:List Int) (at_:Int) (h:iu):List Int:=((a.take (at_+1+h.1).toNat).drop (at_+1).toNat).map nameOf
def z7:Nat→Option LoopGen
 | 4=>some { rd:=[.dat 0 (.arr bv),.dat 1 ty_I,.dat 17 ty_I],A:=fun ((a,at_,n):List Int×Int×Int)=>{ cs:=[.own 7 3 ty_I,.dat 18 ty_I],inv:=fun ((out,k):List Int×Int)=>0≤k∧k≤n∧out.length=k∧(0<n→0≤at_∧at_+1+n≤a.length∧a.length≤256)∧out=((a.take (at_+1+k).toNat).drop (at_+1).toNat).map nameOf,mu:=fun ((_,k):List Int×Int)=>(n - k).toNat } }
 | _=>none
def zb:Spec:={ Ts:=[.arr bv,ty_I],Rs:=[.own 3 ty_I],pre:=fun _=>True,F:=fun ((a,at_):List Int×Int)=>bq a at_ (an at_ (aa a).1).1 }
def sw:Prop :=
  ∀ (x:List Int×Int),(x.1.length * 8≤aC∧∀ (x_1:Int),x_1∈x.1→am .u64 x_1)∧am .i64 x.2→True→True∧((0:Int)≤0∧0≤(an x.2 (aa x.1).1).1.1∧(↑(0:Nat):Int)=0∧(0<(an x.2 (aa x.1).1).1.1→0≤x.2∧x.2+1+(an x.2 (aa x.1).1).1.1≤(↑x.1.length:Int)∧x.1.length≤256)∧([]:List Int)=List.map nameOf (List.drop (x.2+1).toNat (List.take (x.2+1+0).toNat x.1)))∧∀ (x_1:List Int×Int),0≤x_1.2∧x_1.2≤(an x.2 (aa x.1).1).1.1∧(↑x_1.1.length:Int)=x_1.2∧(0<(an x.2 (aa x.1).1).1.1→0≤x.2∧x.2+1+(an x.2 (aa x.1).1).1.1≤(↑x.1.length:Int)∧x.1.length≤256)∧x_1.1=List.map nameOf (List.drop (x.2+1).toNat (List.take (x.2+1+x_1.2).toNat x.1))→(decide (x_1.2<(an x.2 (aa x.1).1).1.1)=true→am .i64 (x.2+1)∧am .i64 (x.2+1+x_1.2)∧0≤x.2+1+x_1.2∧x.2+1+x_1.2<(↑x.1.length:Int)∧(decide (256<x.1.getD (x.2+1+x_1.2).toNat 0)=true→am .i64 (IntKind.i64.wrap 9999 - 1)∧(x_1.1.length+[IntKind.i64.wrap 9999 - 1].length) * 8≤aC∧am .i64 (x_1.2+1)∧(0≤x_1.2+1∧x_1.2+1≤(an x.2 (aa x.1).1).1.1∧(↑(x_1.1++[IntKind.i64.wrap 9999 - 1]).length:Int)=x_1.2+1∧(0<(an x.2 (aa x.1).1).1.1→0≤x.2∧x.2+1+(an x.2 (aa x.1).1).1.1≤(↑x.1.length:Int)∧x.1.length≤256)∧x_1.1++[IntKind.i64.wrap 9999 - 1]=List.map nameOf (List.drop (x.2+1).toNat (List.take (x.2+1+(x_1.2+1)).toNat x.1)))∧((an x.2 (aa x.1).1).1.1 - (x_1.2+1)).toNat<((an x.2 (aa x.1).1).1.1 - x_1.2).toNat)∧(decide (256<x.1.getD (x.2+1+x_1.2).toNat 0)=false→am .i64 (IntKind.i64.wrap (x.1.getD (x.2+1+x_1.2).toNat 0) - 1)∧(x_1.1.length+[IntKind.i64.wrap (x.1.getD (x.2+1+x_1.2).toNat 0) - 1].length) * 8≤aC∧am .i64 (x_1.2+1)∧(0≤x_1.2+1∧x_1.2+1≤(an x.2 (aa x.1).1).1.1∧(↑(x_1.1++[IntKind.i64.wrap (x.1.getD (x.2+1+x_1.2).toNat 0) - 1]).length:Int)=x_1.2+1∧(0<(an x.2 (aa x.1).1).1.1→0≤x.2∧x.2+1+(an x.2 (aa x.1).1).1.1≤(↑x.1.length:Int)∧x.1.length≤256)∧x_1.1++[IntKind.i64.wrap (x.1.getD (x.2+1+x_1.2).toNat 0) - 1]=List.map nameOf (List.drop (x.2+1).toNat (List.take (x.2+1+(x_1.2+1)).toNat x.1)))∧((an x.2 (aa x.1).1).1.1 - (x_1.2+1)).toNat<((an x.2 (aa x.1).1).1.1 - x_1.2).toNat))∧(decide (x_1.2<(an x.2 (aa x.1).1).1.1)=false→x_1.1=bq x.1 x.2 (an x.2 (aa x.1).1).1∧True)
theorem xe:sw:=by
 unfold sw
 intro ⟨a,at_⟩ ⟨⟨hb,hw⟩,_⟩ _
 have hin:0≤(an at_ (aa a).1).1.1∧(0<(an at_ (aa a).1).1.1→0≤at_∧at_+1+(an at_ (aa a).1).1.1≤a.length∧a.length≤256):=by
  rcases fQ at_ (aa a).1 with e | ⟨s,h1,h2,_,e⟩
  ·rw [e]; simp [ay]
  ·rw [e]
   have hz:(aa a).2=0:=by
    unfold aa at h1 ⊢
    split at h1
    ·simp at h1
    ·rename_i cl
     rw [if_neg cl]
     cases hs:spotsS 0 a with
     | none=>rw [hs] at h1; simp at h1
     | some l=>rfl
   obtain ⟨k1,k2⟩:=fA hz
   have:=(k2 s h1).1
   unfold cm at this
   simp only
   omega
 have hF:bq a at_ (an at_ (aa a).1).1=((a.take (at_+1+(an at_ (aa a).1).1.1).toNat).drop (at_+1).toNat).map nameOf:=rfl
 simp only at *
 rw [hF]
 generalize (an at_ (aa a).1).1.1=n at *
 clear hF
 obtain ⟨hn,hin⟩:=hin
 refine ⟨trivial,⟨by omega,hn,by simp,hin,?_⟩,fun ⟨out,k⟩ ⟨h0,h1,h2,_,h3⟩=>⟨fun hlt=>?_,fun hge=>?_⟩⟩
 ·rw [Int.add_zero,List.drop_of_length_le (by rw [List.length_take]; omega)]
  rfl
 ·have hlt:k<n:=of_decide_eq_true hlt
  simp only at h0 h1 h2 h3 ⊢
  obtain ⟨q1,q2,q3⟩:=hin (by omega)
  have hs:=xt (a:=a) (p:=(at_+1).toNat) (q:=(at_+1+k).toNat) 0 (by omega) (by omega)
  rw [show (at_+1+k).toNat+1=(at_+1+(k+1)).toNat by omega] at hs
  have hv:=hw _ (aU (0:Int) (xs:=a) (i:=at_+1+k) (by omega) (by omega))
  rw [hs,List.map_append,← h3]
  generalize a.getD (at_+1+k).toNat 0=v at *
  unfold aC
  simp only [am] at hv
  simp only [am,List.length_append,List.length_cons,List.length_nil]
  refine ⟨by omega,by omega,by omega,by omega,fun hc=>?_,fun hc=>?_⟩
  ·have hc:=of_decide_eq_true hc
   rw [eT (by omega) (by omega)]
   exact ⟨by omega,by omega,by omega,⟨by omega,by omega,by omega,hin,by simp [nameOf,hc]⟩,by omega⟩
  ·have hc:=of_decide_eq_false hc
   rw [eT (by omega) (by omega)]
   exact ⟨by omega,by omega,by omega,⟨by omega,by omega,by omega,hin,by simp [nameOf,hc]⟩,by omega⟩
 ·have hge:¬ k<n:=of_decide_eq_false hge
  simp only at h0 h1 h2 h3
  rw [h3,show k=n by omega]
  exact ⟨rfl,trivial⟩
theorem zy:zb.ok Try.prog 69:=aQ (ann:=z7) (ai xJ ax) Try.func69 (by kernel_rfl) xe
def af:List aE→List Int
 | []=>[]
 | s::l=>if s.2.2.2.2=true then af l else s.1::af l
def yi:Nat→Option LoopGen
 | 4=>some { rd:=[.own 13 158 ci],A:=fun (l:List aE)=>{ cs:=[.own 5 3 ty_I,.dat 15 ty_I],inv:=fun ((out,i):List Int×Int)=>0≤i∧i≤l.length∧l.length≤256∧out.length≤i∧out++af (l.drop i.toNat)=af l,mu:=fun ((_,i):List Int×Int)=>(l.length - i).toNat } }
 | _=>none
def xo:Spec:={ Ts:=[.arr bv],Rs:=[.own 3 ty_I],pre:=fun _=>True,F:=fun (a:List Int)=>af (aa a).1 }
def pm:Prop :=
  ∀ (x:List Int),(x.length * 8≤aC∧∀ (x_1:Int),x_1∈x→am .u64 x_1)→True→True∧((0:Int)≤0∧0≤(↑(aa x).1.length:Int)∧(aa x).1.length≤256∧(↑(0:Nat):Int)≤0∧([]:List Int)++af (List.drop (Int.toNat 0) (aa x).1)=af (aa x).1)∧∀ (x_1:List Int×Int),0≤x_1.2∧x_1.2≤(↑(aa x).1.length:Int)∧(aa x).1.length≤256∧(↑x_1.1.length:Int)≤x_1.2∧x_1.1++af (List.drop x_1.2.toNat (aa x).1)=af (aa x).1→(decide (x_1.2<(↑(aa x).1.length:Int))=true→0≤x_1.2∧x_1.2<(↑(aa x).1.length:Int)∧x_1.2.toNat<(aa x).1.length∧((!((aa x).1.getD x_1.2.toNat (0,0,0,0,false)).2.2.2.2)=true→(x_1.1.length+[((aa x).1.getD x_1.2.toNat (0,0,0,0,false)).1].length) * 8≤aC∧am .i64 (x_1.2+1)∧(0≤x_1.2+1∧x_1.2+1≤(↑(aa x).1.length:Int)∧(aa x).1.length≤256∧(↑(x_1.1++[((aa x).1.getD x_1.2.toNat (0,0,0,0,false)).1]).length:Int)≤x_1.2+1∧x_1.1++[((aa x).1.getD x_1.2.toNat (0,0,0,0,false)).1]++af (List.drop (x_1.2+1).toNat (aa x).1)=af (aa x).1)∧((↑(aa x).1.length:Int) - (x_1.2+1)).toNat<((↑(aa x).1.length:Int) - x_1.2).toNat)∧((!((aa x).1.getD x_1.2.toNat (0,0,0,0,false)).2.2.2.2)=false→am .i64 (x_1.2+1)∧(0≤x_1.2+1∧x_1.2+1≤(↑(aa x).1.length:Int)∧(aa x).1.length≤256∧(↑x_1.1.length:Int)≤x_1.2+1∧x_1.1++af (List.drop (x_1.2+1).toNat (aa x).1)=af (aa x).1)∧((↑(aa x).1.length:Int) - (x_1.2+1)).toNat<((↑(aa x).1.length:Int) - x_1.2).toNat))∧(decide (x_1.2<(↑(aa x).1.length:Int))=false→x_1.1=af (aa x).1∧True)
theorem u7:pm:=by
 unfold pm
 intro a _ _
 have hlen:=c9 a
 generalize (aa a).1=l at *
 refine ⟨trivial,⟨by omega,by omega,hlen,by simp,by simp⟩,fun ⟨out,i⟩ ⟨h0,h1,_,h3,h2⟩=>⟨fun hlt=>?_,fun hge=>?_⟩⟩
 ·have hlt:i<(l.length:Int):=by simpa using hlt
  simp only at *
  rw [aY ((0,0,0,0,false):aE) h0 hlt] at h2
  simp only [af] at h2
  generalize l.getD i.toNat (0,0,0,0,false)=s at *
  unfold aC
  simp only [am,List.length_append,List.length_cons,List.length_nil]
  refine ⟨h0,hlt,by omega,fun hc=>?_,fun hc=>?_⟩
  ·have hc:¬ s.2.2.2.2=true:=by simpa using hc
   rw [if_neg hc] at h2
   exact ⟨by omega,by omega,⟨by omega,by omega,hlen,by omega,by rw [List.append_assoc]; exact h2⟩,by omega⟩
  ·have hc:s.2.2.2.2=true:=by simpa using hc
   rw [if_pos hc] at h2
   exact ⟨by omega,⟨by omega,by omega,hlen,by omega,h2⟩,by omega⟩
 ·rw [bt (by simpa using hge)] at h2
  simp only [af,List.append_nil] at h2
  exact ⟨h2,trivial⟩
theorem pA:xo.ok Try.prog 31:=aQ (ann:=yi) (ai mF ax) Try.func31 (by kernel_rfl) u7
end Go.Proofs.Ytcnoiiohmpgckaa
