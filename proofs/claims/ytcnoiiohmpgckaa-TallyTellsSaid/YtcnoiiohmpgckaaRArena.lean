
import Derived.Test.YtcnoiiohmpgckaaWalks
import Derived.Test.YtcnoiiohmpgckaaInts
namespace Go.Proofs.Ytcnoiiohmpgckaa
open Go
set_option maxRecDepth 100000
set_option maxHeartbeats 1000000
def sP:Spec:={ Ts:=[.arr ci],Rs:=[.own 158 cY,.dat ty_I],pre:=fun _=>True,F:=aa }
def tz:Nat→Option LoopGen
 | 6=>some { rd:=[.dat 12 (.arr ci)],A:=fun (a:List Int)=>{ cs:=[.own 4 158 cY,.dat 5 ty_I,.dat 14 ty_I],inv:=fun ((out,nx,at_):List aH×Int×Int)=>a.length≤256∧0≤at_∧at_≤a.length∧at_≤nx∧nx≤a.length∧out.length≤at_∧spotsS 0 a=(spotsS nx (a.drop nx.toNat)).map (out++·),mu:=fun ((_,_,at_):List aH×Int×Int)=>(a.length - at_).toNat } }
 | _=>none
def nI:Prop :=
  ∀ (x:List Int),(x.length * 8≤aL∧∀ (x_1:Int),x_1∈x→aj .u64 x_1)→True→(decide (256<(↑x.length:Int))=true→([]:List (Int×Int×Int×Int×Bool))=(aa x).1∧2=(aa x).2∧True)∧(decide (256<(↑x.length:Int))=false→(x.length≤256∧(0:Int)≤0∧0≤(↑x.length:Int)∧(0:Int)≤0∧0≤(↑x.length:Int)∧(↑(0:Nat):Int)≤0∧spotsS 0 x=Option.map (fun (x:List aH)=>([]:List (Int×Int×Int×Int×Bool))++x) (spotsS 0 (List.drop (Int.toNat 0) x)))∧∀ (x_1:List (Int×Int×Int×Int×Bool)×Int×Int),x.length≤256∧0≤x_1.2.2∧x_1.2.2≤(↑x.length:Int)∧x_1.2.2≤x_1.2.1∧x_1.2.1≤(↑x.length:Int)∧(↑x_1.1.length:Int)≤x_1.2.2∧spotsS 0 x=Option.map (fun (x:List aH)=>x_1.1++x) (spotsS x_1.2.1 (List.drop x_1.2.1.toNat x))→(decide (x_1.2.2<(↑x.length:Int))=true→(decide (x_1.2.2≠x_1.2.1)=true→aj .i64 (x_1.2.2+1)∧(x.length≤256∧0≤x_1.2.2+1∧x_1.2.2+1≤(↑x.length:Int)∧x_1.2.2+1≤x_1.2.1∧x_1.2.1≤(↑x.length:Int)∧(↑x_1.1.length:Int)≤x_1.2.2+1∧spotsS 0 x=Option.map (fun (x:List aH)=>x_1.1++x) (spotsS x_1.2.1 (List.drop x_1.2.1.toNat x)))∧((↑x.length:Int) - (x_1.2.2+1)).toNat<((↑x.length:Int) - x_1.2.2).toNat)∧(decide (x_1.2.2≠x_1.2.1)=false→0≤x_1.2.2∧x_1.2.2<(↑x.length:Int)∧True∧((!ak (x.getD x_1.2.2.toNat 0))=false→aj .i64 (1+(if ak (x.getD x_1.2.2.toNat 0)=true then aq (x.getD x_1.2.2.toNat 0) else ap).1)∧aj .i64 (1+(if ak (x.getD x_1.2.2.toNat 0)=true then aq (x.getD x_1.2.2.toNat 0) else ap).1+(if ak (x.getD x_1.2.2.toNat 0)=true then aq (x.getD x_1.2.2.toNat 0) else ap).2.1))∧((!ak (x.getD x_1.2.2.toNat 0))=false→aj .i64 (x_1.2.2+ar (if ak (x.getD x_1.2.2.toNat 0)=true then aq (x.getD x_1.2.2.toNat 0) else ap)))∧((!ak (x.getD x_1.2.2.toNat 0)||decide ((↑x.length:Int)<x_1.2.2+ar (if ak (x.getD x_1.2.2.toNat 0)=true then aq (x.getD x_1.2.2.toNat 0) else ap)))=true→([]:List (Int×Int×Int×Int×Bool))=(aa x).1∧3=(aa x).2∧True)∧((!ak (x.getD x_1.2.2.toNat 0)||decide ((↑x.length:Int)<x_1.2.2+ar (if ak (x.getD x_1.2.2.toNat 0)=true then aq (x.getD x_1.2.2.toNat 0) else ap)))=false→(x_1.1.length+[(x_1.2.2,if ak (x.getD x_1.2.2.toNat 0)=true then aq (x.getD x_1.2.2.toNat 0) else ap)].length) * (8+(8+(8+(8+8))))≤aL∧(aj .i64 (1+(if ak (x.getD x_1.2.2.toNat 0)=true then aq (x.getD x_1.2.2.toNat 0) else ap).1)∧aj .i64 (1+(if ak (x.getD x_1.2.2.toNat 0)=true then aq (x.getD x_1.2.2.toNat 0) else ap).1+(if ak (x.getD x_1.2.2.toNat 0)=true then aq (x.getD x_1.2.2.toNat 0) else ap).2.1))∧aj .i64 (x_1.2.2+ar (if ak (x.getD x_1.2.2.toNat 0)=true then aq (x.getD x_1.2.2.toNat 0) else ap))∧aj .i64 (x_1.2.2+1)∧(x.length≤256∧0≤x_1.2.2+1∧x_1.2.2+1≤(↑x.length:Int)∧x_1.2.2+1≤x_1.2.2+ar (if ak (x.getD x_1.2.2.toNat 0)=true then aq (x.getD x_1.2.2.toNat 0) else ap)∧x_1.2.2+ar (if ak (x.getD x_1.2.2.toNat 0)=true then aq (x.getD x_1.2.2.toNat 0) else ap)≤(↑x.length:Int)∧(↑(x_1.1++[(x_1.2.2,if ak (x.getD x_1.2.2.toNat 0)=true then aq (x.getD x_1.2.2.toNat 0) else ap)]).length:Int)≤x_1.2.2+1∧spotsS 0 x=Option.map (fun (x_2:List aH)=>x_1.1++[(x_1.2.2,if ak (x.getD x_1.2.2.toNat 0)=true then aq (x.getD x_1.2.2.toNat 0) else ap)]++x_2) (spotsS (x_1.2.2+ar (if ak (x.getD x_1.2.2.toNat 0)=true then aq (x.getD x_1.2.2.toNat 0) else ap)) (List.drop (x_1.2.2+ar (if ak (x.getD x_1.2.2.toNat 0)=true then aq (x.getD x_1.2.2.toNat 0) else ap)).toNat x)))∧((↑x.length:Int) - (x_1.2.2+1)).toNat<((↑x.length:Int) - x_1.2.2).toNat)))∧(decide (x_1.2.2<(↑x.length:Int))=false→x_1.1=(aa x).1∧0=(aa x).2∧True))
theorem q8:nI:=by
 unfold nI
 intro a ⟨hb,hw⟩ _
 by_cases cl:256<a.length
 ·have e:aa a=([],2):=by unfold aa; rw [if_pos cl]
  simp [e]
  omega
 have eF:aa a=match spotsS 0 a with | none=>([],3) | some l=>(l,0):=by unfold aa; rw [if_neg cl] <;> rfl
 refine ⟨fun h=>by simp at h; omega,fun _=>⟨⟨by omega,by omega,by omega,by omega,by omega,by simp,by simp⟩,fun ⟨out,nx,k⟩ ⟨_,h0,h1,h4,h5,h2,h3⟩=>⟨fun hlt0=>?_,fun hge=>?_⟩⟩⟩
 ·have hlt:k<(a.length:Int):=of_decide_eq_true hlt0
  clear hlt0
  simp only at h0 h1 h2 h3 h4 h5 hlt ⊢
  refine ⟨fun hne=>?_,fun heq=>?_⟩
  ·have hne:k≠nx:=by simpa using hne
   simp only [aj]
   exact ⟨by omega,⟨by omega,by omega,by omega,by omega,by omega,by omega,h3⟩,by omega⟩
  have heq:k=nx:=by simpa using heq
  subst heq
  rw [aV (0:Int) h0 hlt] at h3
  have hdl:(((a.getD k.toNat 0::a.drop (k+1).toNat).length:Nat):Int)=a.length - k:=by rw [List.length_cons,List.length_drop]; omega
  have hdd:∀ n:Int,0≤n→(a.getD k.toNat 0::a.drop (k+1).toNat).drop n.toNat=a.drop (k+n).toNat:=fun n hn=>by
   rw [← aV (0:Int) h0 hlt,List.drop_drop]
   congr 1
   omega
  generalize a.getD k.toNat 0=v at *
  by_cases g1:ak v=true
  ·have hl:=cS g1
   have hf:af (aq v)=0:=by
    have:=g1
    simp only [ak,Bool.and_eq_true,beq_iff_eq] at this
    exact this.2
   have hz:=cT hf
   have hL:ar (aq v)=1+(aq v).1+(aq v).2.1:=rfl
   simp only [g1,if_true,Bool.not_true,Bool.false_or,aj]
   refine ⟨h0,hlt,trivial,fun _=>⟨by omega,by omega⟩,fun _=>by omega,fun hc=>?_,fun hc=>?_⟩
   ·have hc:=of_decide_eq_true hc
    rw [cP (by rintro ⟨_,g2⟩; omega)] at h3
    rw [eF,h3]
    exact ⟨rfl,rfl,trivial⟩
   ·have hc:=of_decide_eq_false hc
    rw [dv g1 (by omega),hdd _ (by omega),Option.map_map] at h3
    unfold aL
    simp only [List.length_append,List.length_cons,List.length_nil]
    refine ⟨by omega,⟨by omega,by omega⟩,by omega,by omega,⟨by omega,by omega,by omega,by omega,by omega,by omega,?_⟩,by omega⟩
    rw [h3]
    congr 1
    funext x
    simp
  ·have g1':ak v=false:=by simpa using g1
   rw [cP (fun h=>g1 h.1)] at h3
   simp only [g1',Bool.not_false,Bool.true_or]
   refine ⟨h0,hlt,trivial,fun h=>by simp at h,fun h=>by simp at h,fun _=>?_,fun h=>by simp at h⟩
   rw [eF,h3]
   exact ⟨rfl,rfl,trivial⟩
 ·have hge:¬ k<(a.length:Int):=by simpa using hge
  simp only at *
  rw [br (by omega)] at h3
  simp only [spotsS,Option.map_some,List.append_nil] at h3
  rw [eF,h3]
  exact ⟨rfl,rfl,trivial⟩
theorem jA:sP.ok Try.prog 87:=bJ (ann:=tz) (ai oT (ai oU aJ)) Try.func87 (by kernel_rfl) q8
def ac (at_:Int):List aH→eU×Bool
 | []=>(ap,false)
 | s::l=>if s.1=at_∧s.2.2.2.2=false then (s.2,true) else ac at_ l
theorem fS (at_:Int):∀ (l:List aH),ac at_ l=(ap,false)∨∃ s∈l,s.1=at_∧s.2.2.2.2=false∧ac at_ l=(s.2,true)
 | []=>.inl rfl
 | s::l=>by
  simp only [ac]
  split
  ·rename_i h
   exact .inr ⟨s,by simp,h.1,h.2,rfl⟩
  ·rcases fS at_ l with h | ⟨t,h1,h2⟩
   ·exact .inl h
   ·exact .inr ⟨t,by simp [h1],h2⟩
def rX:Nat→Option LoopGen
 | 3=>some { rd:=[.own 15 158 cY,.dat 1 ty_I],A:=fun ((l,at_):List aH×Int)=>{ cs:=[.box 4 dl,.dat 17 ty_I],inv:=fun ((_,i):eU×Int)=>0≤i∧i≤l.length∧l.length≤256∧ac at_ (l.drop i.toNat)=ac at_ l,mu:=fun ((_,i):eU×Int)=>(l.length - i).toNat } }
 | _=>none
def rj:Spec:={ Ts:=[.arr ci,ty_I],Rs:=[.dat dl,.dat .bool],pre:=fun _=>True,F:=fun ((a,at_):List Int×Int)=>ac at_ (aa a).1 }
def lB:Prop :=
  ∀ (x:List Int×Int),(x.1.length * 8≤aL∧∀ (x_1:Int),x_1∈x.1→aj .u64 x_1)∧aj .i64 x.2→True→True∧((0:Int)≤0∧0≤(↑(aa x.1).1.length:Int)∧(aa x.1).1.length≤256∧ac x.2 (List.drop (Int.toNat 0) (aa x.1).1)=ac x.2 (aa x.1).1)∧∀ (x_1:(Int×Int×Int×Bool)×Int),0≤x_1.2∧x_1.2≤(↑(aa x.1).1.length:Int)∧(aa x.1).1.length≤256∧ac x.2 (List.drop x_1.2.toNat (aa x.1).1)=ac x.2 (aa x.1).1→(decide (x_1.2<(↑(aa x.1).1.length:Int))=true→0≤x_1.2∧x_1.2<(↑(aa x.1).1.length:Int)∧x_1.2.toNat<(aa x.1).1.length∧((decide (((aa x.1).1.getD x_1.2.toNat (0,0,0,0,false)).1=x.2)&&!((aa x.1).1.getD x_1.2.toNat (0,0,0,0,false)).2.2.2.2)=true→((aa x.1).1.getD x_1.2.toNat (0,0,0,0,false)).2=(ac x.2 (aa x.1).1).1∧true=(ac x.2 (aa x.1).1).2∧True)∧((decide (((aa x.1).1.getD x_1.2.toNat (0,0,0,0,false)).1=x.2)&&!((aa x.1).1.getD x_1.2.toNat (0,0,0,0,false)).2.2.2.2)=false→aj .i64 (x_1.2+1)∧(0≤x_1.2+1∧x_1.2+1≤(↑(aa x.1).1.length:Int)∧(aa x.1).1.length≤256∧ac x.2 (List.drop (x_1.2+1).toNat (aa x.1).1)=ac x.2 (aa x.1).1)∧((↑(aa x.1).1.length:Int) - (x_1.2+1)).toNat<((↑(aa x.1).1.length:Int) - x_1.2).toNat))∧(decide (x_1.2<(↑(aa x.1).1.length:Int))=false→(0,0,0,false)=(ac x.2 (aa x.1).1).1∧false=(ac x.2 (aa x.1).1).2∧True)
theorem pH:lB:=by
 unfold lB
 intro ⟨a,at_⟩ _ _
 have hlen:=aR a
 simp only at *
 generalize (aa a).1=l at *
 refine ⟨trivial,⟨by omega,by omega,hlen,by simp⟩,fun ⟨_,i⟩ ⟨h0,h1,_,h2⟩=>⟨fun hlt=>?_,fun hge=>?_⟩⟩
 ·have hlt:i<(l.length:Int):=by simpa using hlt
  simp only at h0 h1 h2 ⊢
  rw [aV ((0,0,0,0,false):aH) h0 hlt] at h2
  simp only [ac] at h2
  generalize l.getD i.toNat (0,0,0,0,false)=s at *
  simp only [aj]
  refine ⟨h0,hlt,by omega,fun hc=>?_,fun hc=>?_⟩
  ·have hc:s.1=at_∧s.2.2.2.2=false:=by simpa using hc
   rw [if_pos hc] at h2
   rw [← h2]
   exact ⟨rfl,rfl,trivial⟩
  ·have hc:¬ (s.1=at_∧s.2.2.2.2=false):=by
    rintro ⟨g1,g2⟩
    rw [g1,g2] at hc
    simp at hc
   rw [if_neg hc] at h2
   exact ⟨by omega,⟨by omega,by omega,hlen,h2⟩,by omega⟩
 ·rw [br (by simpa using hge)] at h2
  rw [← h2]
  exact ⟨rfl,rfl,trivial⟩
theorem ru:rj.ok Try.prog 56:=bJ (ann:=rX) (ai jA aJ) Try.func56 (by kernel_rfl) pH
theorem rl {α:Type} {a:List α} {p q:Nat} (d:α) (h:p≤q) (hq:q<a.length):(a.take (q+1)).drop p=(a.take q).drop p++[a.getD q d]:=by
 rw [List.take_succ_eq_append_getElem hq,List.drop_append_of_le_length (by rw [List.length_take]; omega)]
 simp [hq]
def nameOf (v:Int):Int:=(if 256<v then 9999 else v) - 1
def ah (a:List Int) (at_:Int) (h:eU):List Int:=((a.take (at_+1+h.1).toNat).drop (at_+1).toNat).map nameOf
def tB:Nat→Option LoopGen
 | 4=>some { rd:=[.dat 0 (.arr ci),.dat 1 ty_I,.dat 17 ty_I],A:=fun ((a,at_,n):List Int×Int×Int)=>{ cs:=[.own 7 3 ty_I,.dat 18 ty_I],inv:=fun ((out,k):List Int×Int)=>0≤k∧k≤n∧out.length=k∧(0<n→0≤at_∧at_+1+n≤a.length∧a.length≤256)∧out=((a.take (at_+1+k).toNat).drop (at_+1).toNat).map nameOf,mu:=fun ((_,k):List Int×Int)=>(n - k).toNat } }
 | _=>none
def sR:Spec:={ Ts:=[.arr ci,ty_I],Rs:=[.own 3 ty_I],pre:=fun _=>True,F:=fun ((a,at_):List Int×Int)=>ah a at_ (ac at_ (aa a).1).1 }
def nK:Prop :=
  ∀ (x:List Int×Int),(x.1.length * 8≤aL∧∀ (x_1:Int),x_1∈x.1→aj .u64 x_1)∧aj .i64 x.2→True→True∧((0:Int)≤0∧0≤(ac x.2 (aa x.1).1).1.1∧(↑(0:Nat):Int)=0∧(0<(ac x.2 (aa x.1).1).1.1→0≤x.2∧x.2+1+(ac x.2 (aa x.1).1).1.1≤(↑x.1.length:Int)∧x.1.length≤256)∧([]:List Int)=List.map nameOf (List.drop (x.2+1).toNat (List.take (x.2+1+0).toNat x.1)))∧∀ (x_1:List Int×Int),0≤x_1.2∧x_1.2≤(ac x.2 (aa x.1).1).1.1∧(↑x_1.1.length:Int)=x_1.2∧(0<(ac x.2 (aa x.1).1).1.1→0≤x.2∧x.2+1+(ac x.2 (aa x.1).1).1.1≤(↑x.1.length:Int)∧x.1.length≤256)∧x_1.1=List.map nameOf (List.drop (x.2+1).toNat (List.take (x.2+1+x_1.2).toNat x.1))→(decide (x_1.2<(ac x.2 (aa x.1).1).1.1)=true→aj .i64 (x.2+1)∧aj .i64 (x.2+1+x_1.2)∧0≤x.2+1+x_1.2∧x.2+1+x_1.2<(↑x.1.length:Int)∧(decide (256<x.1.getD (x.2+1+x_1.2).toNat 0)=true→aj .i64 (IntKind.i64.wrap 9999 - 1)∧(x_1.1.length+[IntKind.i64.wrap 9999 - 1].length) * 8≤aL∧aj .i64 (x_1.2+1)∧(0≤x_1.2+1∧x_1.2+1≤(ac x.2 (aa x.1).1).1.1∧(↑(x_1.1++[IntKind.i64.wrap 9999 - 1]).length:Int)=x_1.2+1∧(0<(ac x.2 (aa x.1).1).1.1→0≤x.2∧x.2+1+(ac x.2 (aa x.1).1).1.1≤(↑x.1.length:Int)∧x.1.length≤256)∧x_1.1++[IntKind.i64.wrap 9999 - 1]=List.map nameOf (List.drop (x.2+1).toNat (List.take (x.2+1+(x_1.2+1)).toNat x.1)))∧((ac x.2 (aa x.1).1).1.1 - (x_1.2+1)).toNat<((ac x.2 (aa x.1).1).1.1 - x_1.2).toNat)∧(decide (256<x.1.getD (x.2+1+x_1.2).toNat 0)=false→aj .i64 (IntKind.i64.wrap (x.1.getD (x.2+1+x_1.2).toNat 0) - 1)∧(x_1.1.length+[IntKind.i64.wrap (x.1.getD (x.2+1+x_1.2).toNat 0) - 1].length) * 8≤aL∧aj .i64 (x_1.2+1)∧(0≤x_1.2+1∧x_1.2+1≤(ac x.2 (aa x.1).1).1.1∧(↑(x_1.1++[IntKind.i64.wrap (x.1.getD (x.2+1+x_1.2).toNat 0) - 1]).length:Int)=x_1.2+1∧(0<(ac x.2 (aa x.1).1).1.1→0≤x.2∧x.2+1+(ac x.2 (aa x.1).1).1.1≤(↑x.1.length:Int)∧x.1.length≤256)∧x_1.1++[IntKind.i64.wrap (x.1.getD (x.2+1+x_1.2).toNat 0) - 1]=List.map nameOf (List.drop (x.2+1).toNat (List.take (x.2+1+(x_1.2+1)).toNat x.1)))∧((ac x.2 (aa x.1).1).1.1 - (x_1.2+1)).toNat<((ac x.2 (aa x.1).1).1.1 - x_1.2).toNat))∧(decide (x_1.2<(ac x.2 (aa x.1).1).1.1)=false→x_1.1=ah x.1 x.2 (ac x.2 (aa x.1).1).1∧True)
theorem ra:nK:=by
 unfold nK
 intro ⟨a,at_⟩ ⟨⟨hb,hw⟩,_⟩ _
 have hin:0≤(ac at_ (aa a).1).1.1∧(0<(ac at_ (aa a).1).1.1→0≤at_∧at_+1+(ac at_ (aa a).1).1.1≤a.length∧a.length≤256):=by
  rcases fS at_ (aa a).1 with e | ⟨s,h1,h2,_,e⟩
  ·rw [e]; simp [ap]
  ·rw [e]
   have hz:(aa a).2=0:=by
    unfold aa at h1 ⊢
    split at h1
    ·simp at h1
    ·rename_i cl
     rw [if_neg cl]
     cases hs:spotsS 0 a with
     | none=>rw [hs] at h1; simp at h1
     | some l=>rfl
   obtain ⟨k1,k2⟩:=eD hz
   have:=(k2 s h1).1
   unfold c9 at this
   simp only
   omega
 have hF:ah a at_ (ac at_ (aa a).1).1=((a.take (at_+1+(ac at_ (aa a).1).1.1).toNat).drop (at_+1).toNat).map nameOf:=rfl
 simp only at *
 rw [hF]
 generalize (ac at_ (aa a).1).1.1=n at *
 clear hF
 obtain ⟨hn,hin⟩:=hin
 refine ⟨trivial,⟨by omega,hn,by simp,hin,?_⟩,fun ⟨out,k⟩ ⟨h0,h1,h2,_,h3⟩=>⟨fun hlt=>?_,fun hge=>?_⟩⟩
 ·rw [Int.add_zero,List.drop_of_length_le (by rw [List.length_take]; omega)]
  rfl
 ·have hlt:k<n:=of_decide_eq_true hlt
  simp only at h0 h1 h2 h3 ⊢
  obtain ⟨q1,q2,q3⟩:=hin (by omega)
  have hs:=rl (a:=a) (p:=(at_+1).toNat) (q:=(at_+1+k).toNat) 0 (by omega) (by omega)
  rw [show (at_+1+k).toNat+1=(at_+1+(k+1)).toNat by omega] at hs
  have hv:=hw _ (bk (0:Int) (xs:=a) (i:=at_+1+k) (by omega) (by omega))
  rw [hs,List.map_append,← h3]
  generalize a.getD (at_+1+k).toNat 0=v at *
  unfold aL
  simp only [aj] at hv
  simp only [aj,List.length_append,List.length_cons,List.length_nil]
  refine ⟨by omega,by omega,by omega,by omega,fun hc=>?_,fun hc=>?_⟩
  ·have hc:=of_decide_eq_true hc
   rw [eo (by omega) (by omega)]
   exact ⟨by omega,by omega,by omega,⟨by omega,by omega,by omega,hin,by simp [nameOf,hc]⟩,by omega⟩
  ·have hc:=of_decide_eq_false hc
   rw [eo (by omega) (by omega)]
   exact ⟨by omega,by omega,by omega,⟨by omega,by omega,by omega,hin,by simp [nameOf,hc]⟩,by omega⟩
 ·have hge:¬ k<n:=of_decide_eq_false hge
  simp only at h0 h1 h2 h3
  rw [h3,show k=n by omega]
  exact ⟨rfl,trivial⟩
theorem jB:sR.ok Try.prog 69:=bJ (ann:=tB) (ai ru aJ) Try.func69 (by kernel_rfl) ra
def ab:List aH→List Int
 | []=>[]
 | s::l=>if s.2.2.2.2=true then ab l else s.1::ab l
def rY:Nat→Option LoopGen
 | 4=>some { rd:=[.own 13 158 cY],A:=fun (l:List aH)=>{ cs:=[.own 5 3 ty_I,.dat 15 ty_I],inv:=fun ((out,i):List Int×Int)=>0≤i∧i≤l.length∧l.length≤256∧out.length≤i∧out++ab (l.drop i.toNat)=ab l,mu:=fun ((_,i):List Int×Int)=>(l.length - i).toNat } }
 | _=>none
def rk:Spec:={ Ts:=[.arr ci],Rs:=[.own 3 ty_I],pre:=fun _=>True,F:=fun (a:List Int)=>ab (aa a).1 }
def lC:Prop :=
  ∀ (x:List Int),(x.length * 8≤aL∧∀ (x_1:Int),x_1∈x→aj .u64 x_1)→True→True∧((0:Int)≤0∧0≤(↑(aa x).1.length:Int)∧(aa x).1.length≤256∧(↑(0:Nat):Int)≤0∧([]:List Int)++ab (List.drop (Int.toNat 0) (aa x).1)=ab (aa x).1)∧∀ (x_1:List Int×Int),0≤x_1.2∧x_1.2≤(↑(aa x).1.length:Int)∧(aa x).1.length≤256∧(↑x_1.1.length:Int)≤x_1.2∧x_1.1++ab (List.drop x_1.2.toNat (aa x).1)=ab (aa x).1→(decide (x_1.2<(↑(aa x).1.length:Int))=true→0≤x_1.2∧x_1.2<(↑(aa x).1.length:Int)∧x_1.2.toNat<(aa x).1.length∧((!((aa x).1.getD x_1.2.toNat (0,0,0,0,false)).2.2.2.2)=true→(x_1.1.length+[((aa x).1.getD x_1.2.toNat (0,0,0,0,false)).1].length) * 8≤aL∧aj .i64 (x_1.2+1)∧(0≤x_1.2+1∧x_1.2+1≤(↑(aa x).1.length:Int)∧(aa x).1.length≤256∧(↑(x_1.1++[((aa x).1.getD x_1.2.toNat (0,0,0,0,false)).1]).length:Int)≤x_1.2+1∧x_1.1++[((aa x).1.getD x_1.2.toNat (0,0,0,0,false)).1]++ab (List.drop (x_1.2+1).toNat (aa x).1)=ab (aa x).1)∧((↑(aa x).1.length:Int) - (x_1.2+1)).toNat<((↑(aa x).1.length:Int) - x_1.2).toNat)∧((!((aa x).1.getD x_1.2.toNat (0,0,0,0,false)).2.2.2.2)=false→aj .i64 (x_1.2+1)∧(0≤x_1.2+1∧x_1.2+1≤(↑(aa x).1.length:Int)∧(aa x).1.length≤256∧(↑x_1.1.length:Int)≤x_1.2+1∧x_1.1++ab (List.drop (x_1.2+1).toNat (aa x).1)=ab (aa x).1)∧((↑(aa x).1.length:Int) - (x_1.2+1)).toNat<((↑(aa x).1.length:Int) - x_1.2).toNat))∧(decide (x_1.2<(↑(aa x).1.length:Int))=false→x_1.1=ab (aa x).1∧True)
theorem pI:lC:=by
 unfold lC
 intro a _ _
 have hlen:=aR a
 generalize (aa a).1=l at *
 refine ⟨trivial,⟨by omega,by omega,hlen,by simp,by simp⟩,fun ⟨out,i⟩ ⟨h0,h1,_,h3,h2⟩=>⟨fun hlt=>?_,fun hge=>?_⟩⟩
 ·have hlt:i<(l.length:Int):=by simpa using hlt
  simp only at *
  rw [aV ((0,0,0,0,false):aH) h0 hlt] at h2
  simp only [ab] at h2
  generalize l.getD i.toNat (0,0,0,0,false)=s at *
  unfold aL
  simp only [aj,List.length_append,List.length_cons,List.length_nil]
  refine ⟨h0,hlt,by omega,fun hc=>?_,fun hc=>?_⟩
  ·have hc:¬ s.2.2.2.2=true:=by simpa using hc
   rw [if_neg hc] at h2
   exact ⟨by omega,by omega,⟨by omega,by omega,hlen,by omega,by rw [List.append_assoc]; exact h2⟩,by omega⟩
  ·have hc:s.2.2.2.2=true:=by simpa using hc
   rw [if_pos hc] at h2
   exact ⟨by omega,⟨by omega,by omega,hlen,by omega,h2⟩,by omega⟩
 ·rw [br (by simpa using hge)] at h2
  simp only [ab,List.append_nil] at h2
  exact ⟨h2,trivial⟩
theorem eO:rk.ok Try.prog 31:=bJ (ann:=rY) (ai jA aJ) Try.func31 (by kernel_rfl) pI
end Go.Proofs.Ytcnoiiohmpgckaa
