
import Derived.Test.YtcnoiiohmpgckaaWords
import Derived.Test.YtcnoiiohmpgckaaFinds
import Derived.Test.YtcnoiiohmpgckaaHead
namespace Go.Proofs.Ytcnoiiohmpgckaa
open Go
set_option maxRecDepth 100000
set_option maxHeartbeats 1000000
abbrev cY:Ty:=.pair ty_I dl
abbrev aH:=Int×eU
theorem cS {v:Int} (h:ak v=true):1≤ar (aq v)∧ar (aq v)≤256:=by
 simp only [ak,Bool.and_eq_true,beq_iff_eq] at h
 have:=cT h.2
 unfold ar
 omega
def spotsS (at_:Int) (l:List Int):Option (List aH) :=
 match l with
 | []=>some []
 | v::r=>if _h:ak v=true∧ar (aq v)≤((v::r).length:Int) then (spotsS (at_+ar (aq v)) ((v::r).drop (ar (aq v)).toNat)).map ((at_,aq v)::·) else none
termination_by l.length
decreasing_by
 have:=cS _h.1
 simp only [List.length_drop,List.length_cons]
 omega
def aa (a:List Int):List aH×Int:=if 256<a.length then ([],2) else match spotsS 0 a with
 | none=>([],3)
 | some l=>(l,0)
theorem dv {at_:Int} {v:Int} {r:List Int} (h:ak v=true) (h2:ar (aq v)≤((v::r).length:Int)) :
  spotsS at_ (v::r)=(spotsS (at_+ar (aq v)) ((v::r).drop (ar (aq v)).toNat)).map ((at_,aq v)::·):=by
 rw [spotsS,dif_pos ⟨h,h2⟩]
theorem cP {at_:Int} {v:Int} {r:List Int} (h:¬ (ak v=true∧ar (aq v)≤((v::r).length:Int))):spotsS at_ (v::r)=none:=by
 rw [spotsS,dif_neg h]
theorem nw (at_:Int) (l:List Int) (r:List aH) (h:spotsS at_ l=some r):∀ s∈r,at_≤s.1∧s.1+ar s.2≤at_+l.length∧af s.2=0:=by
 induction at_,l using spotsS.induct generalizing r with
 | case1 at_ =>
  simp only [spotsS,Option.some.injEq] at h
  subst h
  simp
 | case2 at_ v l hv ih =>
  rw [dv hv.1 hv.2] at h
  obtain ⟨r',hr,rfl⟩:=Option.map_eq_some_iff.1 h
  have hl:=cS hv.1
  have hf:af (aq v)=0:=by
   have:=hv.1
   simp only [ak,Bool.and_eq_true,beq_iff_eq] at this
   exact this.2
  intro s hs
  rcases List.mem_cons.1 hs with rfl | hs
  ·have:=hv.2
   exact ⟨by simp,by simp only; omega,hf⟩
  ·obtain ⟨h1,h2,h3⟩:=ih r' hr s hs
   rw [List.length_drop] at h2
   have:=hv.2
   exact ⟨by omega,by omega,h3⟩
 | case3 at_ v l hv =>
  rw [cP hv] at h
  cases h
theorem mR (at_:Int) (l:List Int) (r:List aH) (h:spotsS at_ l=some r):r.length≤l.length:=by
 induction at_,l using spotsS.induct generalizing r with
 | case1 at_ =>
  simp only [spotsS,Option.some.injEq] at h
  subst h
  simp
 | case2 at_ v l hv ih =>
  rw [dv hv.1 hv.2] at h
  obtain ⟨r',hr,rfl⟩:=Option.map_eq_some_iff.1 h
  have hl:=cS hv.1
  have:=ih r' hr
  rw [List.length_drop] at this
  simp only [List.length_cons] at *
  omega
 | case3 at_ v l hv =>
  rw [cP hv] at h
  cases h
theorem aR (a:List Int):(aa a).1.length≤256:=by
 unfold aa
 split
 ·simp
 ·cases e:spotsS 0 a with
  | none=>simp
  | some l =>
   have:=mR 0 a l e
   simp only
   omega
def pz:Nat→Option LoopGen
 | 5=>some { rd:=[.dat 0 (.arr ci)],A:=fun (a:List Int)=>{ cs:=[.own 4 158 cY,.dat 5 ty_I],inv:=fun ((out,at_):List aH×Int)=>a.length≤256∧0≤at_∧at_≤a.length∧out.length≤at_∧spotsS 0 a=(spotsS at_ (a.drop at_.toNat)).map (out++·),mu:=fun ((_,at_):List aH×Int)=>(a.length - at_).toNat } }
 | _=>none
def oC:Spec:={ Ts:=[.arr ci],Rs:=[.own 158 cY,.dat ty_I],pre:=fun _=>True,F:=aa }
def iI:Prop :=
  ∀ (x:List Int),(x.length * 8≤aL∧∀ (x_1:Int),x_1∈x→aj .u64 x_1)→True→(decide (256<(↑x.length:Int))=true→([]:List (Int×Int×Int×Int×Bool))=(aa x).1∧2=(aa x).2∧True)∧(decide (256<(↑x.length:Int))=false→(x.length≤256∧(0:Int)≤0∧0≤(↑x.length:Int)∧(↑(0:Nat):Int)≤0∧spotsS 0 x=Option.map (fun (x:List aH)=>([]:List (Int×Int×Int×Int×Bool))++x) (spotsS 0 (List.drop (Int.toNat 0) x)))∧∀ (x_1:List (Int×Int×Int×Int×Bool)×Int),x.length≤256∧0≤x_1.2∧x_1.2≤(↑x.length:Int)∧(↑x_1.1.length:Int)≤x_1.2∧spotsS 0 x=Option.map (fun (x:List aH)=>x_1.1++x) (spotsS x_1.2 (List.drop x_1.2.toNat x))→(decide (x_1.2<(↑x.length:Int))=true→0≤x_1.2∧x_1.2<(↑x.length:Int)∧True∧True∧(decide ((if ak (x.getD x_1.2.toNat 0)=true then (0:Int) else (3:Int))≠0)=false→aj .i64 ((↑x.length:Int) - x_1.2))∧((decide ((if ak (x.getD x_1.2.toNat 0)=true then (0:Int) else (3:Int))≠0)||decide ((↑x.length:Int) - x_1.2<if af (if ak (x.getD x_1.2.toNat 0)=true then aq (x.getD x_1.2.toNat 0) else ap)=0 then ar (if ak (x.getD x_1.2.toNat 0)=true then aq (x.getD x_1.2.toNat 0) else ap) else (0:Int)))=true→([]:List (Int×Int×Int×Int×Bool))=(aa x).1∧3=(aa x).2∧True)∧((decide ((if ak (x.getD x_1.2.toNat 0)=true then (0:Int) else (3:Int))≠0)||decide ((↑x.length:Int) - x_1.2<if af (if ak (x.getD x_1.2.toNat 0)=true then aq (x.getD x_1.2.toNat 0) else ap)=0 then ar (if ak (x.getD x_1.2.toNat 0)=true then aq (x.getD x_1.2.toNat 0) else ap) else (0:Int)))=false→(x_1.1.length+[(x_1.2,if ak (x.getD x_1.2.toNat 0)=true then aq (x.getD x_1.2.toNat 0) else ap)].length) * (8+(8+(8+(8+8))))≤aL∧aj .i64 (x_1.2+if af (if ak (x.getD x_1.2.toNat 0)=true then aq (x.getD x_1.2.toNat 0) else ap)=0 then ar (if ak (x.getD x_1.2.toNat 0)=true then aq (x.getD x_1.2.toNat 0) else ap) else (0:Int))∧(x.length≤256∧(0≤x_1.2+if af (if ak (x.getD x_1.2.toNat 0)=true then aq (x.getD x_1.2.toNat 0) else ap)=0 then ar (if ak (x.getD x_1.2.toNat 0)=true then aq (x.getD x_1.2.toNat 0) else ap) else (0:Int))∧(x_1.2+if af (if ak (x.getD x_1.2.toNat 0)=true then aq (x.getD x_1.2.toNat 0) else ap)=0 then ar (if ak (x.getD x_1.2.toNat 0)=true then aq (x.getD x_1.2.toNat 0) else ap) else (0:Int))≤(↑x.length:Int)∧((↑(x_1.1++[(x_1.2,if ak (x.getD x_1.2.toNat 0)=true then aq (x.getD x_1.2.toNat 0) else ap)]).length:Int)≤x_1.2+if af (if ak (x.getD x_1.2.toNat 0)=true then aq (x.getD x_1.2.toNat 0) else ap)=0 then ar (if ak (x.getD x_1.2.toNat 0)=true then aq (x.getD x_1.2.toNat 0) else ap) else (0:Int))∧spotsS 0 x=Option.map (fun (x_2:List aH)=>x_1.1++[(x_1.2,if ak (x.getD x_1.2.toNat 0)=true then aq (x.getD x_1.2.toNat 0) else ap)]++x_2) (spotsS (x_1.2+if af (if ak (x.getD x_1.2.toNat 0)=true then aq (x.getD x_1.2.toNat 0) else ap)=0 then ar (if ak (x.getD x_1.2.toNat 0)=true then aq (x.getD x_1.2.toNat 0) else ap) else (0:Int)) (List.drop (x_1.2+if af (if ak (x.getD x_1.2.toNat 0)=true then aq (x.getD x_1.2.toNat 0) else ap)=0 then ar (if ak (x.getD x_1.2.toNat 0)=true then aq (x.getD x_1.2.toNat 0) else ap) else (0:Int)).toNat x)))∧((↑x.length:Int) - (x_1.2+if af (if ak (x.getD x_1.2.toNat 0)=true then aq (x.getD x_1.2.toNat 0) else ap)=0 then ar (if ak (x.getD x_1.2.toNat 0)=true then aq (x.getD x_1.2.toNat 0) else ap) else (0:Int))).toNat<((↑x.length:Int) - x_1.2).toNat))∧(decide (x_1.2<(↑x.length:Int))=false→x_1.1=(aa x).1∧0=(aa x).2∧True))
theorem mI:iI:=by
 unfold iI
 intro a ⟨hb,hw⟩ _
 by_cases cl:256<a.length
 ·have e:aa a=([],2):=by unfold aa; rw [if_pos cl]
  simp [e]
  omega
 have eF:aa a=match spotsS 0 a with | none=>([],3) | some l=>(l,0):=by unfold aa; rw [if_neg cl]
 refine ⟨fun h=>by simp at h; omega,fun _=>⟨⟨by omega,by omega,by omega,by simp,by simp⟩,fun ⟨out,k⟩ ⟨_,h0,h1,h2,h3⟩=>⟨fun hlt=>?_,fun hge=>?_⟩⟩⟩
 ·have hlt:k<(a.length:Int):=by simpa using hlt
  simp only at *
  rw [aV (0:Int) h0 hlt] at h3
  have hdl:(((a.getD k.toNat 0::a.drop (k+1).toNat).length:Nat):Int)=a.length - k:=by rw [List.length_cons,List.length_drop]; omega
  have hdd:∀ n:Int,0≤n→(a.getD k.toNat 0::a.drop (k+1).toNat).drop n.toNat=a.drop (k+n).toNat:=fun n hn=>by
   rw [← aV (0:Int) h0 hlt,List.drop_drop]
   congr 1
   omega
  generalize a.getD k.toNat 0=v at *
  refine ⟨h0,hlt,trivial,trivial,fun _=>by simp only [aj]; omega,fun hc=>?_,fun hc=>?_⟩
  ·have hn:¬ (ak v=true∧ar (aq v)≤((v::a.drop (k+1).toNat).length:Int)):=by
    rintro ⟨g1,g2⟩
    have hf:af (aq v)=0:=by
     have:=g1
     simp only [ak,Bool.and_eq_true,beq_iff_eq] at this
     exact this.2
    rw [if_pos g1,if_pos g1,if_pos hf] at hc
    simp at hc
    omega
   rw [cP hn] at h3
   rw [eF,h3]
   exact ⟨rfl,rfl,trivial⟩
  ·have g1:ak v=true:=by
    cases hv:ak v
    ·rw [hv] at hc; simp at hc
    ·rfl
   have hf:af (aq v)=0:=by
    have:=g1
    simp only [ak,Bool.and_eq_true,beq_iff_eq] at this
    exact this.2
   rw [if_pos g1,if_pos g1,if_pos hf] at hc
   simp at hc
   have hl:=cS g1
   rw [dv g1 (by omega),hdd _ (by omega),Option.map_map] at h3
   rw [if_pos g1,if_pos hf]
   unfold aL
   simp only [List.length_append,List.length_cons,List.length_nil,aj]
   refine ⟨by omega,by omega,⟨by omega,by omega,by omega,by omega,?_⟩,by omega⟩
   rw [h3]
   congr 1
   funext x
   simp
 ·have hge:¬ k<(a.length:Int):=by simpa using hge
  simp only at *
  rw [br hge] at h3
  simp only [spotsS,Option.map_some,List.append_nil] at h3
  rw [eF,h3]
  exact ⟨rfl,rfl,trivial⟩
theorem dI:oC.ok Try.prog 143:=bJ (ann:=pz) (ai qk (ai oV aJ)) Try.func143 (by kernel_rfl) mI
def aD (a:List Int) (s:aH):List Int:=(a.take (s.1+1+s.2.1).toNat).drop (s.1+1).toNat
def c9 (a:List Int) (s:aH):Prop:=0≤s.1∧0≤s.2.1∧0≤s.2.2.1∧s.1+1+s.2.1+s.2.2.1≤a.length
def pQ:Spec:={ Ts:=[.arr ci,cY],Rs:=[.dat (.arr ci)],al:=true,pre:=fun ((a,s):List Int×aH)=>a.length≤256∧c9 a s,F:=fun ((a,s):List Int×aH)=>aD a s }
def j9:Prop :=
  ∀ (x:List Int×Int×Int×Int×Int×Bool),(x.1.length * 8≤aL∧∀ (x_1:Int),x_1∈x.1→aj .u64 x_1)∧aj .i64 x.2.1∧aj .i64 x.2.2.1∧aj .i64 x.2.2.2.1∧aj .i64 x.2.2.2.2.1∧True→x.1.length≤256∧c9 x.1 x.2→aj .i64 (x.2.1+1)∧aj .i64 (x.2.1+1)∧aj .i64 (x.2.1+1+x.2.2.1)∧0≤x.2.1+1∧x.2.1+1≤x.2.1+1+x.2.2.1∧x.2.1+1+x.2.2.1≤(↑x.1.length:Int)∧List.drop (x.2.1+1).toNat (List.take (x.2.1+1+x.2.2.1).toNat x.1)=aD x.1 x.2∧True
theorem og:j9:=by
 unfold j9
 intro ⟨a,s⟩ _ ⟨h,h1,h2,h3,h4⟩
 simp only [aj,aD] at *
 exact ⟨by omega,by omega,by omega,by omega,by omega,by omega,trivial,trivial⟩
theorem qh:pQ.ok Try.prog 188:=bJ (ann:=kM) aJ Try.func188 (by kernel_rfl) og
def cf (m:List (Int×Int)) (i:Int):List aH→List (Int×Int)
 | []=>m
 | s::l=>cf (if s.2.2.2.2=true then m else aM m (s.1+1) i) (i+1) l
def aK (l:List aH):List (Int×Int):=cf [(0,-1)] 0 l
def nq:Nat→Option LoopGen
 | 3=>some { rd:=[.dat 8 (.arr cY)],A:=fun (l:List aH)=>{ cs:=[.map 6 .u64 ty_I,.dat 10 ty_I],inv:=fun ((m,i):List (Int×Int)×Int)=>0≤i∧i≤l.length∧(∀ s∈l,0≤s.1∧s.1≤256)∧cf m i (l.drop i.toNat)=aK l,mu:=fun ((_,i):List (Int×Int)×Int)=>(l.length - i).toNat } }
 | _=>none
def mS:Spec:={ Ts:=[.arr cY],Rs:=[.map .u64 ty_I],pre:=fun (l:List aH)=>∀ s∈l,0≤s.1∧s.1≤256,F:=aK }
def gR:Prop :=
  ∀ (x:List (Int×Int×Int×Int×Bool)),(x.length * (8+(8+(8+(8+8))))≤aL∧∀ (x_1:Int×Int×Int×Int×Bool),x_1∈x→aj .i64 x_1.1∧aj .i64 x_1.2.1∧aj .i64 x_1.2.2.1∧aj .i64 x_1.2.2.2.1∧True)→(∀ (s:aH),s∈x→0≤s.1∧s.1≤256)→((0:Int)≤0∧0≤(↑x.length:Int)∧(∀ (s:aH),s∈x→0≤s.1∧s.1≤256)∧cf (aM ([]:List (Int×Int)) 0 (-1)) 0 (List.drop (Int.toNat 0) x)=aK x)∧∀ (x_1:List (Int×Int)×Int),0≤x_1.2∧x_1.2≤(↑x.length:Int)∧(∀ (s:aH),s∈x→0≤s.1∧s.1≤256)∧cf x_1.1 x_1.2 (List.drop x_1.2.toNat x)=aK x→(decide (x_1.2<(↑x.length:Int))=true→0≤x_1.2∧x_1.2<(↑x.length:Int)∧((!(x.getD x_1.2.toNat (0,0,0,0,false)).2.2.2.2)=true→aj .u64 (IntKind.u64.wrap (x.getD x_1.2.toNat (0,0,0,0,false)).1+1)∧aj .i64 (x_1.2+1)∧(0≤x_1.2+1∧x_1.2+1≤(↑x.length:Int)∧(∀ (s:aH),s∈x→0≤s.1∧s.1≤256)∧cf (aM x_1.1 (IntKind.u64.wrap (x.getD x_1.2.toNat (0,0,0,0,false)).1+1) x_1.2) (x_1.2+1) (List.drop (x_1.2+1).toNat x)=aK x)∧((↑x.length:Int) - (x_1.2+1)).toNat<((↑x.length:Int) - x_1.2).toNat)∧((!(x.getD x_1.2.toNat (0,0,0,0,false)).2.2.2.2)=false→aj .i64 (x_1.2+1)∧(0≤x_1.2+1∧x_1.2+1≤(↑x.length:Int)∧(∀ (s:aH),s∈x→0≤s.1∧s.1≤256)∧cf x_1.1 (x_1.2+1) (List.drop (x_1.2+1).toNat x)=aK x)∧((↑x.length:Int) - (x_1.2+1)).toNat<((↑x.length:Int) - x_1.2).toNat))∧(decide (x_1.2<(↑x.length:Int))=false→x_1.1=aK x∧True)
theorem kW:gR:=by
 unfold gR
 intro l ⟨hb,_⟩ hp
 refine ⟨⟨by omega,by omega,hp,rfl⟩,fun ⟨m,i⟩ ⟨h0,h1,_,h2⟩=>⟨fun hlt=>?_,fun hge=>?_⟩⟩
 ·have hlt:i<(l.length:Int):=by simpa using hlt
  simp only at *
  have hs:=hp _ (bk ((0,0,0,0,false):aH) h0 hlt)
  rw [aV ((0,0,0,0,false):aH) h0 hlt] at h2
  simp only [cf] at h2
  generalize l.getD i.toNat (0,0,0,0,false)=s at *
  unfold aL at hb
  refine ⟨h0,hlt,fun hc=>?_,fun hc=>?_⟩
  ·have hc:¬ s.2.2.2.2=true:=by simpa using hc
   rw [if_neg hc] at h2
   rw [v6 (by omega) (by omega)]
   simp only [aj]
   exact ⟨by omega,by omega,⟨by omega,by omega,hp,h2⟩,by omega⟩
  ·have hc:s.2.2.2.2=true:=by simpa using hc
   rw [if_pos hc] at h2
   simp only [aj]
   exact ⟨by omega,⟨by omega,by omega,hp,h2⟩,by omega⟩
 ·rw [br (by simpa using hge)] at h2
  exact ⟨h2,trivial⟩
theorem mY:mS.ok Try.prog 187:=bJ (ann:=nq) aJ Try.func187 (by kernel_rfl) kW
def cQ (m:List (Int×Int)) (a:List Int) (l:List aH):Bool:=l.all fun s=>(aD a s).all fun v=>(ae m v).isSome
def ao (a:List Int):List aH×List (Int×Int)×Int :=
 if (aa a).2≠0 then ([],[],(aa a).2) else if cQ (aK (aa a).1) a (aa a).1=true then ((aa a).1,aK (aa a).1,0) else ([],[],5)
theorem eD {a:List Int} (h:(aa a).2=0):a.length≤256∧∀ s∈(aa a).1,c9 a s∧af s.2=0:=by
 unfold aa at h ⊢
 split at h
 ·simp at h
 rename_i cl
 rw [if_neg cl]
 refine ⟨by omega,?_⟩
 cases e:spotsS 0 a with
 | none=>rw [e] at h; simp at h
 | some l =>
  intro s hs
  obtain ⟨h1,h2,h3⟩:=nw 0 a l e s hs
  have:=cT h3
  unfold ar at h2
  exact ⟨⟨h1,this.1,this.2.1,by omega⟩,h3⟩
def nr:Nat→Option LoopGen
 | 6=>some { rd:=[.own 24 158 cY,.dat 0 (.arr ci),.map 23 .u64 ty_I],A:=fun ((l,a,m):List aH×List Int×List (Int×Int))=>{ cs:=[.dat 26 ty_I],inv:=fun (i:Int)=>0≤i∧i≤l.length∧a.length≤256∧(∀ s∈l,c9 a s)∧cQ m a (l.drop i.toNat)=cQ m a l,mu:=fun (i:Int)=>(l.length - i).toNat } }
 | 9=>some { rd:=[.dat 32 (.arr ci),.map 23 .u64 ty_I],A:=fun ((rs,m):List Int×List (Int×Int))=>{ cs:=[.dat 34 ty_I],inv:=fun (j:Int)=>0≤j∧j≤rs.length∧((rs.drop j.toNat).all fun v=>(ae m v).isSome)=(rs.all fun v=>(ae m v).isSome),mu:=fun (j:Int)=>(rs.length - j).toNat } }
 | _=>none
def mT:Spec:={ Ts:=[.arr ci],Rs:=[.dat (.arr cY),.dat (.map .u64 ty_I),.dat ty_I],al:=true,pre:=fun _=>True,F:=ao }
def gS:Prop :=
  ∀ (x:List Int),(x.length * 8≤aL∧∀ (x_1:Int),x_1∈x→aj .u64 x_1)→True→True∧(decide ((aa x).2≠0)=true→([]:List (Int×Int×Int×Int×Bool))=(ao x).1∧([]:List (Int×Int))=(ao x).2.1∧(aa x).2=(ao x).2.2∧True)∧(decide ((aa x).2≠0)=false→(∀ (s:aH),s∈(aa x).1→0≤s.1∧s.1≤256)∧((0:Int)≤0∧0≤(↑(aa x).1.length:Int)∧x.length≤256∧(∀ (s:aH),s∈(aa x).1→c9 x s)∧cQ (aK (aa x).1) x (List.drop (Int.toNat 0) (aa x).1)=cQ (aK (aa x).1) x (aa x).1)∧∀ (x_1:Int),0≤x_1∧x_1≤(↑(aa x).1.length:Int)∧x.length≤256∧(∀ (s:aH),s∈(aa x).1→c9 x s)∧cQ (aK (aa x).1) x (List.drop x_1.toNat (aa x).1)=cQ (aK (aa x).1) x (aa x).1→(decide (x_1<(↑(aa x).1.length:Int))=true→0≤x_1∧x_1<(↑(aa x).1.length:Int)∧x_1.toNat<(aa x).1.length∧(x.length≤256∧c9 x ((aa x).1.getD x_1.toNat (0,0,0,0,false)))∧((0:Int)≤0∧0≤(↑(aD x ((aa x).1.getD x_1.toNat (0,0,0,0,false))).length:Int)∧((List.drop (Int.toNat 0) (aD x ((aa x).1.getD x_1.toNat (0,0,0,0,false)))).all fun (v:Int)=>(ae (aK (aa x).1) v).isSome)=(aD x ((aa x).1.getD x_1.toNat (0,0,0,0,false))).all fun (v:Int)=>(ae (aK (aa x).1) v).isSome)∧∀ (x_2:Int),(0≤x_2∧x_2≤(↑(aD x ((aa x).1.getD x_1.toNat (0,0,0,0,false))).length:Int)∧((List.drop x_2.toNat (aD x ((aa x).1.getD x_1.toNat (0,0,0,0,false)))).all fun (v:Int)=>(ae (aK (aa x).1) v).isSome)=(aD x ((aa x).1.getD x_1.toNat (0,0,0,0,false))).all fun (v:Int)=>(ae (aK (aa x).1) v).isSome)→(decide (x_2<(↑(aD x ((aa x).1.getD x_1.toNat (0,0,0,0,false))).length:Int))=true→0≤x_2∧x_2<(↑(aD x ((aa x).1.getD x_1.toNat (0,0,0,0,false))).length:Int)∧((!(ae (aK (aa x).1) ((aD x ((aa x).1.getD x_1.toNat (0,0,0,0,false))).getD x_2.toNat 0)).isSome)=true→([]:List (Int×Int×Int×Int×Bool))=(ao x).1∧([]:List (Int×Int))=(ao x).2.1∧5=(ao x).2.2∧True)∧((!(ae (aK (aa x).1) ((aD x ((aa x).1.getD x_1.toNat (0,0,0,0,false))).getD x_2.toNat 0)).isSome)=false→aj .i64 (x_2+1)∧(0≤x_2+1∧x_2+1≤(↑(aD x ((aa x).1.getD x_1.toNat (0,0,0,0,false))).length:Int)∧((List.drop (x_2+1).toNat (aD x ((aa x).1.getD x_1.toNat (0,0,0,0,false)))).all fun (v:Int)=>(ae (aK (aa x).1) v).isSome)=(aD x ((aa x).1.getD x_1.toNat (0,0,0,0,false))).all fun (v:Int)=>(ae (aK (aa x).1) v).isSome)∧((↑(aD x ((aa x).1.getD x_1.toNat (0,0,0,0,false))).length:Int) - (x_2+1)).toNat<((↑(aD x ((aa x).1.getD x_1.toNat (0,0,0,0,false))).length:Int) - x_2).toNat))∧(decide (x_2<(↑(aD x ((aa x).1.getD x_1.toNat (0,0,0,0,false))).length:Int))=false→aj .i64 (x_1+1)∧(0≤x_1+1∧x_1+1≤(↑(aa x).1.length:Int)∧x.length≤256∧(∀ (s:aH),s∈(aa x).1→c9 x s)∧cQ (aK (aa x).1) x (List.drop (x_1+1).toNat (aa x).1)=cQ (aK (aa x).1) x (aa x).1)∧((↑(aa x).1.length:Int) - (x_1+1)).toNat<((↑(aa x).1.length:Int) - x_1).toNat))∧(decide (x_1<(↑(aa x).1.length:Int))=false→(aa x).1=(ao x).1∧aK (aa x).1=(ao x).2.1∧0=(ao x).2.2∧True))
theorem kX:gS:=by
 unfold gS
 intro a ⟨hb,hw⟩ _
 have hlen:=aR a
 have hin:=eD (a:=a)
 have hF:ao a=if (aa a).2≠0 then ([],[],(aa a).2) else if cQ (aK (aa a).1) a (aa a).1=true then ((aa a).1,aK (aa a).1,0) else ([],[],5):=rfl
 generalize aK (aa a).1=m at *
 generalize (aa a).1=l at *
 refine ⟨trivial,fun hc=>?_,fun hc=>?_⟩
 ·have hc:(aa a).2≠0:=by simpa using hc
  rw [hF,if_pos hc]
  exact ⟨rfl,rfl,rfl,trivial⟩
 have hc:(aa a).2=0:=by simpa using hc
 rw [if_neg (by omega)] at hF
 obtain ⟨hal,hsp⟩:=hin hc
 refine ⟨fun s hs=>?_,⟨by omega,by omega,hal,fun s hs=>(hsp s hs).1,rfl⟩,fun i ⟨h0,h1,_,_,h2⟩=>⟨fun hlt=>?_,fun hge=>?_⟩⟩
 ·have:=(hsp s hs).1
  unfold c9 at this
  omega
 ·have hlt:i<(l.length:Int):=by simpa using hlt
  have hs:=hsp _ (bk ((0,0,0,0,false):aH) h0 hlt)
  rw [aV ((0,0,0,0,false):aH) h0 hlt] at h2
  simp only [cQ,List.all_cons] at h2
  generalize l.getD i.toNat (0,0,0,0,false)=s at *
  have hrl:(aD a s).length≤256:=by simp only [aD,List.length_drop,List.length_take]; omega
  generalize aD a s=rs at *
  refine ⟨h0,hlt,by omega,⟨hal,hs.1⟩,⟨by omega,by omega,rfl⟩,fun j ⟨g0,g1,g2⟩=>⟨fun hlt=>?_,fun hge=>?_⟩⟩
  ·have hlt:j<(rs.length:Int):=by simpa using hlt
   rw [aV (0:Int) g0 hlt] at g2
   simp only [List.all_cons] at g2
   generalize rs.getD j.toNat 0=v at *
   refine ⟨g0,hlt,fun hv=>?_,fun hv=>?_⟩
   ·have hv:(ae m v).isSome=false:=by simpa using hv
    rw [hv,Bool.false_and] at g2
    rw [← g2,Bool.false_and] at h2
    rw [hF,if_neg (by unfold cQ; rw [← h2]; simp)]
    exact ⟨rfl,rfl,rfl,trivial⟩
   ·have hv:(ae m v).isSome=true:=by simpa using hv
    rw [hv,Bool.true_and] at g2
    simp only [aj]
    exact ⟨by omega,⟨by omega,by omega,g2⟩,by omega⟩
  ·rw [br (by simpa using hge),List.all_nil] at g2
   rw [← g2,Bool.true_and] at h2
   simp only [aj]
   exact ⟨by omega,⟨by omega,by omega,hal,fun s hs=>(hsp s hs).1,h2⟩,by omega⟩
 ·rw [br (by simpa using hge)] at h2
  have h2:cQ m a l=true:=by rw [← h2]; rfl
  rw [hF,if_pos h2]
  exact ⟨rfl,rfl,rfl,trivial⟩
theorem mZ:mT.ok Try.prog 152:=bJ (ann:=nr) (ai dI (ai mY (ai qh aJ))) Try.func152 (by kernel_rfl) kX
def oD:Spec:={ Ts:=[.arr ci],Rs:=[.dat ty_I],pre:=fun _=>True,F:=fun (a:List Int)=>(ao a).2.2 }
def iJ:Prop :=
  ∀ (x:List Int),(x.length * 8≤aL∧∀ (x_1:Int),x_1∈x→aj .u64 x_1)→True→True∧(ao x).2.2=(ao x).2.2∧True
theorem mJ:iJ:=by
 unfold iJ
 intro a _ _
 simp
theorem eq:oD.ok Try.prog 105:=bJ (ann:=kM) (ai mZ aJ) Try.func105 (by kernel_rfl) mJ
def pP (a:List Int) (s:aH):List Int:=(a.take (s.1+1+s.2.1+s.2.2.1).toNat).drop (s.1+1+s.2.1).toNat
theorem dY {a:List Int} (h:(ao a).2.2=0):a.length≤256∧(ao a).1.length≤256∧(ao a).1=(aa a).1∧(aa a).2=0∧(ao a).2.1=aK (aa a).1∧cQ (aK (aa a).1) a (aa a).1=true∧∀ s∈(ao a).1,c9 a s∧af s.2=0:=by
 unfold ao at h ⊢
 by_cases h1:(aa a).2≠0
 ·rw [if_pos h1] at h
  exact absurd h h1
 ·rw [if_neg h1] at h ⊢
  have h1:(aa a).2=0:=by omega
  by_cases h2:cQ (aK (aa a).1) a (aa a).1=true
  ·rw [if_pos h2]
   exact ⟨(eD h1).1,aR a,rfl,h1,rfl,h2,(eD h1).2⟩
  ·rw [if_neg h2] at h
   simp at h
end Go.Proofs.Ytcnoiiohmpgckaa
