
import Derived.Test.YtcnoiiohmpgckaaWords
import Derived.Test.YtcnoiiohmpgckaaFinds
import Derived.Test.YtcnoiiohmpgckaaHead
namespace Go.Proofs.Ytcnoiiohmpgckaa
open Go
set_option maxRecDepth 100000
set_option maxHeartbeats 1000000
abbrev dv:Ty:=.pair ty_I bq
abbrev aN:=Int×cg
theorem cw {v:Int} (h:aj v=true):1≤ah (am v)∧ah (am v)≤256:=by
 simp only [aj,Bool.and_eq_true,beq_iff_eq] at h
 have:=bj h.2
 unfold ah
 omega
def spotsS (at_:Int) (l:List Int):Option (List aN) :=
 match l with
 | []=>some []
 | v::r=>if _h:aj v=true∧ah (am v)≤((v::r).length:Int) then (spotsS (at_+ah (am v)) ((v::r).drop (ah (am v)).toNat)).map ((at_,am v)::·) else none
termination_by l.length
decreasing_by
 have:=cw _h.1
 simp only [List.length_drop,List.length_cons]
 omega
def aa (a:List Int):List aN×Int:=if 256<a.length then ([],2) else match spotsS 0 a with
 | none=>([],3)
 | some l=>(l,0)
theorem cY {at_:Int} {v:Int} {r:List Int} (h:aj v=true) (h2:ah (am v)≤((v::r).length:Int)) :
  spotsS at_ (v::r)=(spotsS (at_+ah (am v)) ((v::r).drop (ah (am v)).toNat)).map ((at_,am v)::·):=by
 rw [spotsS,dif_pos ⟨h,h2⟩]
theorem cr {at_:Int} {v:Int} {r:List Int} (h:¬ (aj v=true∧ah (am v)≤((v::r).length:Int))):spotsS at_ (v::r)=none:=by
 rw [spotsS,dif_neg h]
theorem oA (at_:Int) (l:List Int) (r:List aN) (h:spotsS at_ l=some r):∀ s∈r,at_≤s.1∧s.1+ah s.2≤at_+l.length∧ae s.2=0:=by
 induction at_,l using spotsS.induct generalizing r with
 | case1 at_ =>
  simp only [spotsS,Option.some.injEq] at h
  subst h
  simp
 | case2 at_ v l hv ih =>
  rw [cY hv.1 hv.2] at h
  obtain ⟨r',hr,rfl⟩:=Option.map_eq_some_iff.1 h
  have hl:=cw hv.1
  have hf:ae (am v)=0:=by
   have:=hv.1
   simp only [aj,Bool.and_eq_true,beq_iff_eq] at this
   exact this.2
  intro s hs
  rcases List.mem_cons.1 hs with rfl | hs
  ·have:=hv.2
   exact ⟨by simp,by simp only; omega,hf⟩
  ·obtain ⟨h1,h2,h3⟩:=ih r' hr s hs
   rw [List.length_drop] at h2
   have:=hv.2
   exact ⟨by omega,by omega,h3⟩
 | case3 at_ v l hv =>
  rw [cr hv] at h
  cases h
theorem nC (at_:Int) (l:List Int) (r:List aN) (h:spotsS at_ l=some r):r.length≤l.length:=by
 induction at_,l using spotsS.induct generalizing r with
 | case1 at_ =>
  simp only [spotsS,Option.some.injEq] at h
  subst h
  simp
 | case2 at_ v l hv ih =>
  rw [cY hv.1 hv.2] at h
  obtain ⟨r',hr,rfl⟩:=Option.map_eq_some_iff.1 h
  have hl:=cw hv.1
  have:=ih r' hr
  rw [List.length_drop] at this
  simp only [List.length_cons] at *
  omega
 | case3 at_ v l hv =>
  rw [cr hv] at h
  cases h
theorem bM (a:List Int):(aa a).1.length≤256:=by
 unfold aa
 split
 ·simp
 ·cases e:spotsS 0 a with
  | none=>simp
  | some l =>
   have:=nC 0 a l e
   simp only
   omega
def qP:Nat→Option LoopGen
 | 5=>some { rd:=[.dat 0 (.arr bB)],A:=fun (a:List Int)=>{ cs:=[.own 4 158 dv,.dat 5 ty_I],inv:=fun ((out,at_):List aN×Int)=>a.length≤256∧0≤at_∧at_≤a.length∧out.length≤at_∧spotsS 0 a=(spotsS at_ (a.drop at_.toNat)).map (out++·),mu:=fun ((_,at_):List aN×Int)=>(a.length - at_).toNat } }
 | _=>none
def pK:Spec:={ Ts:=[.arr bB],Rs:=[.own 158 dv,.dat ty_I],pre:=fun _=>True,F:=aa }
def iX:Prop :=
  ∀ (x:List Int),(x.length * 8≤aC∧∀ (x_1:Int),x_1∈x→ai .u64 x_1)→True→(decide (256<(↑x.length:Int))=true→([]:List (Int×Int×Int×Int×Bool))=(aa x).1∧2=(aa x).2∧True)∧(decide (256<(↑x.length:Int))=false→(x.length≤256∧(0:Int)≤0∧0≤(↑x.length:Int)∧(↑(0:Nat):Int)≤0∧spotsS 0 x=Option.map (fun (x:List aN)=>([]:List (Int×Int×Int×Int×Bool))++x) (spotsS 0 (List.drop (Int.toNat 0) x)))∧∀ (x_1:List (Int×Int×Int×Int×Bool)×Int),x.length≤256∧0≤x_1.2∧x_1.2≤(↑x.length:Int)∧(↑x_1.1.length:Int)≤x_1.2∧spotsS 0 x=Option.map (fun (x:List aN)=>x_1.1++x) (spotsS x_1.2 (List.drop x_1.2.toNat x))→(decide (x_1.2<(↑x.length:Int))=true→0≤x_1.2∧x_1.2<(↑x.length:Int)∧True∧True∧(decide ((if aj (x.getD x_1.2.toNat 0)=true then (0:Int) else (3:Int))≠0)=false→ai .i64 ((↑x.length:Int) - x_1.2))∧((decide ((if aj (x.getD x_1.2.toNat 0)=true then (0:Int) else (3:Int))≠0)||decide ((↑x.length:Int) - x_1.2<if ae (if aj (x.getD x_1.2.toNat 0)=true then am (x.getD x_1.2.toNat 0) else an)=0 then ah (if aj (x.getD x_1.2.toNat 0)=true then am (x.getD x_1.2.toNat 0) else an) else (0:Int)))=true→([]:List (Int×Int×Int×Int×Bool))=(aa x).1∧3=(aa x).2∧True)∧((decide ((if aj (x.getD x_1.2.toNat 0)=true then (0:Int) else (3:Int))≠0)||decide ((↑x.length:Int) - x_1.2<if ae (if aj (x.getD x_1.2.toNat 0)=true then am (x.getD x_1.2.toNat 0) else an)=0 then ah (if aj (x.getD x_1.2.toNat 0)=true then am (x.getD x_1.2.toNat 0) else an) else (0:Int)))=false→(x_1.1.length+[(x_1.2,if aj (x.getD x_1.2.toNat 0)=true then am (x.getD x_1.2.toNat 0) else an)].length) * (8+(8+(8+(8+8))))≤aC∧ai .i64 (x_1.2+if ae (if aj (x.getD x_1.2.toNat 0)=true then am (x.getD x_1.2.toNat 0) else an)=0 then ah (if aj (x.getD x_1.2.toNat 0)=true then am (x.getD x_1.2.toNat 0) else an) else (0:Int))∧(x.length≤256∧(0≤x_1.2+if ae (if aj (x.getD x_1.2.toNat 0)=true then am (x.getD x_1.2.toNat 0) else an)=0 then ah (if aj (x.getD x_1.2.toNat 0)=true then am (x.getD x_1.2.toNat 0) else an) else (0:Int))∧(x_1.2+if ae (if aj (x.getD x_1.2.toNat 0)=true then am (x.getD x_1.2.toNat 0) else an)=0 then ah (if aj (x.getD x_1.2.toNat 0)=true then am (x.getD x_1.2.toNat 0) else an) else (0:Int))≤(↑x.length:Int)∧((↑(x_1.1++[(x_1.2,if aj (x.getD x_1.2.toNat 0)=true then am (x.getD x_1.2.toNat 0) else an)]).length:Int)≤x_1.2+if ae (if aj (x.getD x_1.2.toNat 0)=true then am (x.getD x_1.2.toNat 0) else an)=0 then ah (if aj (x.getD x_1.2.toNat 0)=true then am (x.getD x_1.2.toNat 0) else an) else (0:Int))∧spotsS 0 x=Option.map (fun (x_2:List aN)=>x_1.1++[(x_1.2,if aj (x.getD x_1.2.toNat 0)=true then am (x.getD x_1.2.toNat 0) else an)]++x_2) (spotsS (x_1.2+if ae (if aj (x.getD x_1.2.toNat 0)=true then am (x.getD x_1.2.toNat 0) else an)=0 then ah (if aj (x.getD x_1.2.toNat 0)=true then am (x.getD x_1.2.toNat 0) else an) else (0:Int)) (List.drop (x_1.2+if ae (if aj (x.getD x_1.2.toNat 0)=true then am (x.getD x_1.2.toNat 0) else an)=0 then ah (if aj (x.getD x_1.2.toNat 0)=true then am (x.getD x_1.2.toNat 0) else an) else (0:Int)).toNat x)))∧((↑x.length:Int) - (x_1.2+if ae (if aj (x.getD x_1.2.toNat 0)=true then am (x.getD x_1.2.toNat 0) else an)=0 then ah (if aj (x.getD x_1.2.toNat 0)=true then am (x.getD x_1.2.toNat 0) else an) else (0:Int))).toNat<((↑x.length:Int) - x_1.2).toNat))∧(decide (x_1.2<(↑x.length:Int))=false→x_1.1=(aa x).1∧0=(aa x).2∧True))
theorem nk:iX:=by
 unfold iX
 intro a ⟨hb,hw⟩ _
 by_cases cl:256<a.length
 ·have e:aa a=([],2):=by unfold aa; rw [if_pos cl]
  simp [e]
  omega
 have eF:aa a=match spotsS 0 a with | none=>([],3) | some l=>(l,0):=by unfold aa; rw [if_neg cl]
 refine ⟨fun h=>by simp at h; omega,fun _=>⟨⟨by omega,by omega,by omega,by simp,by simp⟩,fun ⟨out,k⟩ ⟨_,h0,h1,h2,h3⟩=>⟨fun hlt=>?_,fun hge=>?_⟩⟩⟩
 ·have hlt:k<(a.length:Int):=by simpa using hlt
  simp only at *
  rw [aD (0:Int) h0 hlt] at h3
  have hdl:(((a.getD k.toNat 0::a.drop (k+1).toNat).length:Nat):Int)=a.length - k:=by rw [List.length_cons,List.length_drop]; omega
  have hdd:∀ n:Int,0≤n→(a.getD k.toNat 0::a.drop (k+1).toNat).drop n.toNat=a.drop (k+n).toNat:=fun n hn=>by
   rw [← aD (0:Int) h0 hlt,List.drop_drop]
   congr 1
   omega
  generalize a.getD k.toNat 0=v at *
  refine ⟨h0,hlt,trivial,trivial,fun _=>by simp only [ai]; omega,fun hc=>?_,fun hc=>?_⟩
  ·have hn:¬ (aj v=true∧ah (am v)≤((v::a.drop (k+1).toNat).length:Int)):=by
    rintro ⟨g1,g2⟩
    have hf:ae (am v)=0:=by
     have:=g1
     simp only [aj,Bool.and_eq_true,beq_iff_eq] at this
     exact this.2
    rw [if_pos g1,if_pos g1,if_pos hf] at hc
    simp at hc
    omega
   rw [cr hn] at h3
   rw [eF,h3]
   exact ⟨rfl,rfl,trivial⟩
  ·have g1:aj v=true:=by
    cases hv:aj v
    ·rw [hv] at hc; simp at hc
    ·rfl
   have hf:ae (am v)=0:=by
    have:=g1
    simp only [aj,Bool.and_eq_true,beq_iff_eq] at this
    exact this.2
   rw [if_pos g1,if_pos g1,if_pos hf] at hc
   simp at hc
   have hl:=cw g1
   rw [cY g1 (by omega),hdd _ (by omega),Option.map_map] at h3
   rw [if_pos g1,if_pos hf]
   unfold aC
   simp only [List.length_append,List.length_cons,List.length_nil,ai]
   refine ⟨by omega,by omega,⟨by omega,by omega,by omega,by omega,?_⟩,by omega⟩
   rw [h3]
   congr 1
   funext x
   simp
 ·have hge:¬ k<(a.length:Int):=by simpa using hge
  simp only at *
  rw [aX hge] at h3
  simp only [spotsS,Option.map_some,List.append_nil] at h3
  rw [eF,h3]
  exact ⟨rfl,rfl,trivial⟩
theorem jj:pK.ok Try.prog 143:=aQ (ann:=qP) (af rS (af jl ar)) Try.func143 (by kernel_rfl) nk
def aH (a:List Int) (s:aN):List Int:=(a.take (s.1+1+s.2.1).toNat).drop (s.1+1).toNat
def cZ (a:List Int) (s:aN):Prop:=0≤s.1∧0≤s.2.1∧0≤s.2.2.1∧s.1+1+s.2.1+s.2.2.1≤a.length
def rk:Spec:={ Ts:=[.arr bB,dv],Rs:=[.dat (.arr bB)],al:=true,pre:=fun ((a,s):List Int×aN)=>a.length≤256∧cZ a s,F:=fun ((a,s):List Int×aN)=>aH a s }
def kL:Prop :=
  ∀ (x:List Int×Int×Int×Int×Int×Bool),(x.1.length * 8≤aC∧∀ (x_1:Int),x_1∈x.1→ai .u64 x_1)∧ai .i64 x.2.1∧ai .i64 x.2.2.1∧ai .i64 x.2.2.2.1∧ai .i64 x.2.2.2.2.1∧True→x.1.length≤256∧cZ x.1 x.2→ai .i64 (x.2.1+1)∧ai .i64 (x.2.1+1)∧ai .i64 (x.2.1+1+x.2.2.1)∧0≤x.2.1+1∧x.2.1+1≤x.2.1+1+x.2.2.1∧x.2.1+1+x.2.2.1≤(↑x.1.length:Int)∧List.drop (x.2.1+1).toNat (List.take (x.2.1+1+x.2.2.1).toNat x.1)=aH x.1 x.2∧True
theorem pp:kL:=by
 unfold kL
 intro ⟨a,s⟩ _ ⟨h,h1,h2,h3,h4⟩
 simp only [ai,aH] at *
 exact ⟨by omega,by omega,by omega,by omega,by omega,by omega,trivial,trivial⟩
theorem rO:rk.ok Try.prog 188:=aQ (ann:=fE) ar Try.func188 (by kernel_rfl) pp
def cd (m:List (Int×Int)) (i:Int):List aN→List (Int×Int)
 | []=>m
 | s::l=>cd (if s.2.2.2.2=true then m else eR m (s.1+1) i) (i+1) l
def aL (l:List aN):List (Int×Int):=cd [(0,-1)] 0 l
def ol:Nat→Option LoopGen
 | 3=>some { rd:=[.dat 8 (.arr dv)],A:=fun (l:List aN)=>{ cs:=[.map 6 .u64 ty_I,.dat 10 ty_I],inv:=fun ((m,i):List (Int×Int)×Int)=>0≤i∧i≤l.length∧(∀ s∈l,0≤s.1∧s.1≤256)∧cd m i (l.drop i.toNat)=aL l,mu:=fun ((_,i):List (Int×Int)×Int)=>(l.length - i).toNat } }
 | _=>none
def nD:Spec:={ Ts:=[.arr dv],Rs:=[.map .u64 ty_I],pre:=fun (l:List aN)=>∀ s∈l,0≤s.1∧s.1≤256,F:=aL }
def gV:Prop :=
  ∀ (x:List (Int×Int×Int×Int×Bool)),(x.length * (8+(8+(8+(8+8))))≤aC∧∀ (x_1:Int×Int×Int×Int×Bool),x_1∈x→ai .i64 x_1.1∧ai .i64 x_1.2.1∧ai .i64 x_1.2.2.1∧ai .i64 x_1.2.2.2.1∧True)→(∀ (s:aN),s∈x→0≤s.1∧s.1≤256)→((0:Int)≤0∧0≤(↑x.length:Int)∧(∀ (s:aN),s∈x→0≤s.1∧s.1≤256)∧cd (eR ([]:List (Int×Int)) 0 (-1)) 0 (List.drop (Int.toNat 0) x)=aL x)∧∀ (x_1:List (Int×Int)×Int),0≤x_1.2∧x_1.2≤(↑x.length:Int)∧(∀ (s:aN),s∈x→0≤s.1∧s.1≤256)∧cd x_1.1 x_1.2 (List.drop x_1.2.toNat x)=aL x→(decide (x_1.2<(↑x.length:Int))=true→0≤x_1.2∧x_1.2<(↑x.length:Int)∧((!(x.getD x_1.2.toNat (0,0,0,0,false)).2.2.2.2)=true→ai .u64 (IntKind.u64.wrap (x.getD x_1.2.toNat (0,0,0,0,false)).1+1)∧ai .i64 (x_1.2+1)∧(0≤x_1.2+1∧x_1.2+1≤(↑x.length:Int)∧(∀ (s:aN),s∈x→0≤s.1∧s.1≤256)∧cd (eR x_1.1 (IntKind.u64.wrap (x.getD x_1.2.toNat (0,0,0,0,false)).1+1) x_1.2) (x_1.2+1) (List.drop (x_1.2+1).toNat x)=aL x)∧((↑x.length:Int) - (x_1.2+1)).toNat<((↑x.length:Int) - x_1.2).toNat)∧((!(x.getD x_1.2.toNat (0,0,0,0,false)).2.2.2.2)=false→ai .i64 (x_1.2+1)∧(0≤x_1.2+1∧x_1.2+1≤(↑x.length:Int)∧(∀ (s:aN),s∈x→0≤s.1∧s.1≤256)∧cd x_1.1 (x_1.2+1) (List.drop (x_1.2+1).toNat x)=aL x)∧((↑x.length:Int) - (x_1.2+1)).toNat<((↑x.length:Int) - x_1.2).toNat))∧(decide (x_1.2<(↑x.length:Int))=false→x_1.1=aL x∧True)
theorem lN:gV:=by
 unfold gV
 intro l ⟨hb,_⟩ hp
 refine ⟨⟨by omega,by omega,hp,rfl⟩,fun ⟨m,i⟩ ⟨h0,h1,_,h2⟩=>⟨fun hlt=>?_,fun hge=>?_⟩⟩
 ·have hlt:i<(l.length:Int):=by simpa using hlt
  simp only at *
  have hs:=hp _ (bz ((0,0,0,0,false):aN) h0 hlt)
  rw [aD ((0,0,0,0,false):aN) h0 hlt] at h2
  simp only [cd] at h2
  generalize l.getD i.toNat (0,0,0,0,false)=s at *
  unfold aC at hb
  refine ⟨h0,hlt,fun hc=>?_,fun hc=>?_⟩
  ·have hc:¬ s.2.2.2.2=true:=by simpa using hc
   rw [if_neg hc] at h2
   rw [iJ (by omega) (by omega)]
   simp only [ai]
   exact ⟨by omega,by omega,⟨by omega,by omega,hp,h2⟩,by omega⟩
  ·have hc:s.2.2.2.2=true:=by simpa using hc
   rw [if_pos hc] at h2
   simp only [ai]
   exact ⟨by omega,⟨by omega,by omega,hp,h2⟩,by omega⟩
 ·rw [aX (by simpa using hge)] at h2
  exact ⟨h2,trivial⟩
theorem nN:nD.ok Try.prog 187:=aQ (ann:=ol) ar Try.func187 (by kernel_rfl) lN
def c3 (m:List (Int×Int)) (a:List Int) (l:List aN):Bool:=l.all fun s=>(aH a s).all fun v=>(bc m v).isSome
def au (a:List Int):List aN×List (Int×Int)×Int :=
 if (aa a).2≠0 then ([],[],(aa a).2) else if c3 (aL (aa a).1) a (aa a).1=true then ((aa a).1,aL (aa a).1,0) else ([],[],5)
theorem ez {a:List Int} (h:(aa a).2=0):a.length≤256∧∀ s∈(aa a).1,cZ a s∧ae s.2=0:=by
 unfold aa at h ⊢
 split at h
 ·simp at h
 rename_i cl
 rw [if_neg cl]
 refine ⟨by omega,?_⟩
 cases e:spotsS 0 a with
 | none=>rw [e] at h; simp at h
 | some l =>
  intro s hs
  obtain ⟨h1,h2,h3⟩:=oA 0 a l e s hs
  have:=bj h3
  unfold ah at h2
  exact ⟨⟨h1,this.1,this.2.1,by omega⟩,h3⟩
def om:Nat→Option LoopGen
 | 6=>some { rd:=[.own 24 158 dv,.dat 0 (.arr bB),.map 23 .u64 ty_I],A:=fun ((l,a,m):List aN×List Int×List (Int×Int))=>{ cs:=[.dat 26 ty_I],inv:=fun (i:Int)=>0≤i∧i≤l.length∧a.length≤256∧(∀ s∈l,cZ a s)∧c3 m a (l.drop i.toNat)=c3 m a l,mu:=fun (i:Int)=>(l.length - i).toNat } }
 | 9=>some { rd:=[.dat 32 (.arr bB),.map 23 .u64 ty_I],A:=fun ((rs,m):List Int×List (Int×Int))=>{ cs:=[.dat 34 ty_I],inv:=fun (j:Int)=>0≤j∧j≤rs.length∧((rs.drop j.toNat).all fun v=>(bc m v).isSome)=(rs.all fun v=>(bc m v).isSome),mu:=fun (j:Int)=>(rs.length - j).toNat } }
 | _=>none
def nE:Spec:={ Ts:=[.arr bB],Rs:=[.dat (.arr dv),.dat (.map .u64 ty_I),.dat ty_I],al:=true,pre:=fun _=>True,F:=au }
def gW:Prop :=
  ∀ (x:List Int),(x.length * 8≤aC∧∀ (x_1:Int),x_1∈x→ai .u64 x_1)→True→True∧(decide ((aa x).2≠0)=true→([]:List (Int×Int×Int×Int×Bool))=(au x).1∧([]:List (Int×Int))=(au x).2.1∧(aa x).2=(au x).2.2∧True)∧(decide ((aa x).2≠0)=false→(∀ (s:aN),s∈(aa x).1→0≤s.1∧s.1≤256)∧((0:Int)≤0∧0≤(↑(aa x).1.length:Int)∧x.length≤256∧(∀ (s:aN),s∈(aa x).1→cZ x s)∧c3 (aL (aa x).1) x (List.drop (Int.toNat 0) (aa x).1)=c3 (aL (aa x).1) x (aa x).1)∧∀ (x_1:Int),0≤x_1∧x_1≤(↑(aa x).1.length:Int)∧x.length≤256∧(∀ (s:aN),s∈(aa x).1→cZ x s)∧c3 (aL (aa x).1) x (List.drop x_1.toNat (aa x).1)=c3 (aL (aa x).1) x (aa x).1→(decide (x_1<(↑(aa x).1.length:Int))=true→0≤x_1∧x_1<(↑(aa x).1.length:Int)∧x_1.toNat<(aa x).1.length∧(x.length≤256∧cZ x ((aa x).1.getD x_1.toNat (0,0,0,0,false)))∧((0:Int)≤0∧0≤(↑(aH x ((aa x).1.getD x_1.toNat (0,0,0,0,false))).length:Int)∧((List.drop (Int.toNat 0) (aH x ((aa x).1.getD x_1.toNat (0,0,0,0,false)))).all fun (v:Int)=>(bc (aL (aa x).1) v).isSome)=(aH x ((aa x).1.getD x_1.toNat (0,0,0,0,false))).all fun (v:Int)=>(bc (aL (aa x).1) v).isSome)∧∀ (x_2:Int),(0≤x_2∧x_2≤(↑(aH x ((aa x).1.getD x_1.toNat (0,0,0,0,false))).length:Int)∧((List.drop x_2.toNat (aH x ((aa x).1.getD x_1.toNat (0,0,0,0,false)))).all fun (v:Int)=>(bc (aL (aa x).1) v).isSome)=(aH x ((aa x).1.getD x_1.toNat (0,0,0,0,false))).all fun (v:Int)=>(bc (aL (aa x).1) v).isSome)→(decide (x_2<(↑(aH x ((aa x).1.getD x_1.toNat (0,0,0,0,false))).length:Int))=true→0≤x_2∧x_2<(↑(aH x ((aa x).1.getD x_1.toNat (0,0,0,0,false))).length:Int)∧((!(bc (aL (aa x).1) ((aH x ((aa x).1.getD x_1.toNat (0,0,0,0,false))).getD x_2.toNat 0)).isSome)=true→([]:List (Int×Int×Int×Int×Bool))=(au x).1∧([]:List (Int×Int))=(au x).2.1∧5=(au x).2.2∧True)∧((!(bc (aL (aa x).1) ((aH x ((aa x).1.getD x_1.toNat (0,0,0,0,false))).getD x_2.toNat 0)).isSome)=false→ai .i64 (x_2+1)∧(0≤x_2+1∧x_2+1≤(↑(aH x ((aa x).1.getD x_1.toNat (0,0,0,0,false))).length:Int)∧((List.drop (x_2+1).toNat (aH x ((aa x).1.getD x_1.toNat (0,0,0,0,false)))).all fun (v:Int)=>(bc (aL (aa x).1) v).isSome)=(aH x ((aa x).1.getD x_1.toNat (0,0,0,0,false))).all fun (v:Int)=>(bc (aL (aa x).1) v).isSome)∧((↑(aH x ((aa x).1.getD x_1.toNat (0,0,0,0,false))).length:Int) - (x_2+1)).toNat<((↑(aH x ((aa x).1.getD x_1.toNat (0,0,0,0,false))).length:Int) - x_2).toNat))∧(decide (x_2<(↑(aH x ((aa x).1.getD x_1.toNat (0,0,0,0,false))).length:Int))=false→ai .i64 (x_1+1)∧(0≤x_1+1∧x_1+1≤(↑(aa x).1.length:Int)∧x.length≤256∧(∀ (s:aN),s∈(aa x).1→cZ x s)∧c3 (aL (aa x).1) x (List.drop (x_1+1).toNat (aa x).1)=c3 (aL (aa x).1) x (aa x).1)∧((↑(aa x).1.length:Int) - (x_1+1)).toNat<((↑(aa x).1.length:Int) - x_1).toNat))∧(decide (x_1<(↑(aa x).1.length:Int))=false→(aa x).1=(au x).1∧aL (aa x).1=(au x).2.1∧0=(au x).2.2∧True))
theorem lO:gW:=by
 unfold gW
 intro a ⟨hb,hw⟩ _
 have hlen:=bM a
 have hin:=ez (a:=a)
 have hF:au a=if (aa a).2≠0 then ([],[],(aa a).2) else if c3 (aL (aa a).1) a (aa a).1=true then ((aa a).1,aL (aa a).1,0) else ([],[],5):=rfl
 generalize aL (aa a).1=m at *
 generalize (aa a).1=l at *
 refine ⟨trivial,fun hc=>?_,fun hc=>?_⟩
 ·have hc:(aa a).2≠0:=by simpa using hc
  rw [hF,if_pos hc]
  exact ⟨rfl,rfl,rfl,trivial⟩
 have hc:(aa a).2=0:=by simpa using hc
 rw [if_neg (by omega)] at hF
 obtain ⟨hal,hsp⟩:=hin hc
 refine ⟨fun s hs=>?_,⟨by omega,by omega,hal,fun s hs=>(hsp s hs).1,rfl⟩,fun i ⟨h0,h1,_,_,h2⟩=>⟨fun hlt=>?_,fun hge=>?_⟩⟩
 ·have:=(hsp s hs).1
  unfold cZ at this
  omega
 ·have hlt:i<(l.length:Int):=by simpa using hlt
  have hs:=hsp _ (bz ((0,0,0,0,false):aN) h0 hlt)
  rw [aD ((0,0,0,0,false):aN) h0 hlt] at h2
  simp only [c3,List.all_cons] at h2
  generalize l.getD i.toNat (0,0,0,0,false)=s at *
  have hrl:(aH a s).length≤256:=by simp only [aH,List.length_drop,List.length_take]; omega
  generalize aH a s=rs at *
  refine ⟨h0,hlt,by omega,⟨hal,hs.1⟩,⟨by omega,by omega,rfl⟩,fun j ⟨g0,g1,g2⟩=>⟨fun hlt=>?_,fun hge=>?_⟩⟩
  ·have hlt:j<(rs.length:Int):=by simpa using hlt
   rw [aD (0:Int) g0 hlt] at g2
   simp only [List.all_cons] at g2
   generalize rs.getD j.toNat 0=v at *
   refine ⟨g0,hlt,fun hv=>?_,fun hv=>?_⟩
   ·have hv:(bc m v).isSome=false:=by simpa using hv
    rw [hv,Bool.false_and] at g2
    rw [← g2,Bool.false_and] at h2
    rw [hF,if_neg (by unfold c3; rw [← h2]; simp)]
    exact ⟨rfl,rfl,rfl,trivial⟩
   ·have hv:(bc m v).isSome=true:=by simpa using hv
    rw [hv,Bool.true_and] at g2
    simp only [ai]
    exact ⟨by omega,⟨by omega,by omega,g2⟩,by omega⟩
  ·rw [aX (by simpa using hge),List.all_nil] at g2
   rw [← g2,Bool.true_and] at h2
   simp only [ai]
   exact ⟨by omega,⟨by omega,by omega,hal,fun s hs=>(hsp s hs).1,h2⟩,by omega⟩
 ·rw [aX (by simpa using hge)] at h2
  have h2:c3 m a l=true:=by rw [← h2]; rfl
  rw [hF,if_pos h2]
  exact ⟨rfl,rfl,rfl,trivial⟩
theorem nO:nE.ok Try.prog 152:=aQ (ann:=om) (af jj (af nN (af rO ar))) Try.func152 (by kernel_rfl) lO
def pL:Spec:={ Ts:=[.arr bB],Rs:=[.dat ty_I],pre:=fun _=>True,F:=fun (a:List Int)=>(au a).2.2 }
def iY:Prop :=
  ∀ (x:List Int),(x.length * 8≤aC∧∀ (x_1:Int),x_1∈x→ai .u64 x_1)→True→True∧(au x).2.2=(au x).2.2∧True
theorem nl:iY:=by
 unfold iY
 intro a _ _
 simp
theorem qd:pL.ok Try.prog 105:=aQ (ann:=fE) (af nO ar) Try.func105 (by kernel_rfl) nl
def rh (a:List Int) (s:aN):List Int:=(a.take (s.1+1+s.2.1+s.2.2.1).toNat).drop (s.1+1+s.2.1).toNat
theorem vh {a:List Int} (h:(au a).2.2=0):a.length≤256∧(au a).1.length≤256∧(au a).1=(aa a).1∧(aa a).2=0∧(au a).2.1=aL (aa a).1∧c3 (aL (aa a).1) a (aa a).1=true∧∀ s∈(au a).1,cZ a s∧ae s.2=0:=by
 unfold au at h ⊢
 by_cases h1:(aa a).2≠0
 ·rw [if_pos h1] at h
  exact absurd h h1
 ·rw [if_neg h1] at h ⊢
  have h1:(aa a).2=0:=by omega
  by_cases h2:c3 (aL (aa a).1) a (aa a).1=true
  ·rw [if_pos h2]
   exact ⟨(ez h1).1,bM a,rfl,h1,rfl,h2,(ez h1).2⟩
  ·rw [if_neg h2] at h
   simp at h
end Go.Proofs.Ytcnoiiohmpgckaa
