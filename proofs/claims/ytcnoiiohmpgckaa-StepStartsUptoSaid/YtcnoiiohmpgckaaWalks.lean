
import Derived.Test.YtcnoiiohmpgckaaWords
import Derived.Test.YtcnoiiohmpgckaaFinds
import Derived.Test.YtcnoiiohmpgckaaHead
namespace Go.Proofs.Ytcnoiiohmpgckaa
open Go
set_option maxRecDepth 100000
set_option maxHeartbeats 1000000
abbrev cJ:Ty:=.pair ty_I bS
abbrev aJ:=Int×dj
theorem cB {v:Int} (h:ag v=true):1≤ak (aj v)∧ak (aj v)≤256:=by
 simp only [ag,Bool.and_eq_true,beq_iff_eq] at h
 have:=cD h.2
 unfold ak
 omega
def spotsS (at_:Int) (l:List Int):Option (List aJ) :=
 match l with
 | []=>some []
 | v::r=>if _h:ag v=true∧ak (aj v)≤((v::r).length:Int) then (spotsS (at_+ak (aj v)) ((v::r).drop (ak (aj v)).toNat)).map ((at_,aj v)::·) else none
termination_by l.length
decreasing_by
 have:=cB _h.1
 simp only [List.length_drop,List.length_cons]
 omega
def aa (a:List Int):List aJ×Int:=if 256<a.length then ([],2) else match spotsS 0 a with
 | none=>([],3)
 | some l=>(l,0)
theorem c6 {at_:Int} {v:Int} {r:List Int} (h:ag v=true) (h2:ak (aj v)≤((v::r).length:Int)) :
  spotsS at_ (v::r)=(spotsS (at_+ak (aj v)) ((v::r).drop (ak (aj v)).toNat)).map ((at_,aj v)::·):=by
 rw [spotsS,dif_pos ⟨h,h2⟩]
theorem cw {at_:Int} {v:Int} {r:List Int} (h:¬ (ag v=true∧ak (aj v)≤((v::r).length:Int))):spotsS at_ (v::r)=none:=by
 rw [spotsS,dif_neg h]
theorem mR (at_:Int) (l:List Int) (r:List aJ) (h:spotsS at_ l=some r):∀ s∈r,at_≤s.1∧s.1+ak s.2≤at_+l.length∧ae s.2=0:=by
 induction at_,l using spotsS.induct generalizing r with
 | case1 at_ =>
  simp only [spotsS,Option.some.injEq] at h
  subst h
  simp
 | case2 at_ v l hv ih =>
  rw [c6 hv.1 hv.2] at h
  obtain ⟨r',hr,rfl⟩:=Option.map_eq_some_iff.1 h
  have hl:=cB hv.1
  have hf:ae (aj v)=0:=by
   have:=hv.1
   simp only [ag,Bool.and_eq_true,beq_iff_eq] at this
   exact this.2
  intro s hs
  rcases List.mem_cons.1 hs with rfl | hs
  ·have:=hv.2
   exact ⟨by simp,by simp only; omega,hf⟩
  ·obtain ⟨h1,h2,h3⟩:=ih r' hr s hs
   rw [List.length_drop] at h2
   have:=hv.2
   exact ⟨by omega,by omega,h3⟩
 | case3 at_ v l hv =>
  rw [cw hv] at h
  cases h
theorem lX (at_:Int) (l:List Int) (r:List aJ) (h:spotsS at_ l=some r):r.length≤l.length:=by
 induction at_,l using spotsS.induct generalizing r with
 | case1 at_ =>
  simp only [spotsS,Option.some.injEq] at h
  subst h
  simp
 | case2 at_ v l hv ih =>
  rw [c6 hv.1 hv.2] at h
  obtain ⟨r',hr,rfl⟩:=Option.map_eq_some_iff.1 h
  have hl:=cB hv.1
  have:=ih r' hr
  rw [List.length_drop] at this
  simp only [List.length_cons] at *
  omega
 | case3 at_ v l hv =>
  rw [cw hv] at h
  cases h
theorem bP (a:List Int):(aa a).1.length≤256:=by
 unfold aa
 split
 ·simp
 ·cases e:spotsS 0 a with
  | none=>simp
  | some l =>
   have:=lX 0 a l e
   simp only
   omega
def oP:Nat→Option LoopGen
 | 5=>some { rd:=[.dat 0 (.arr bZ)],A:=fun (a:List Int)=>{ cs:=[.own 4 158 cJ,.dat 5 ty_I],inv:=fun ((out,at_):List aJ×Int)=>a.length≤256∧0≤at_∧at_≤a.length∧out.length≤at_∧spotsS 0 a=(spotsS at_ (a.drop at_.toNat)).map (out++·),mu:=fun ((_,at_):List aJ×Int)=>(a.length - at_).toNat } }
 | _=>none
def nL:Spec:={ Ts:=[.arr bZ],Rs:=[.own 158 cJ,.dat ty_I],pre:=fun _=>True,F:=aa }
def ia:Prop :=
  ∀ (x:List Int),(x.length * 8≤aE∧∀ (x_1:Int),x_1∈x→ah .u64 x_1)→True→(decide (256<(↑x.length:Int))=true→([]:List (Int×Int×Int×Int×Bool))=(aa x).1∧2=(aa x).2∧True)∧(decide (256<(↑x.length:Int))=false→(x.length≤256∧(0:Int)≤0∧0≤(↑x.length:Int)∧(↑(0:Nat):Int)≤0∧spotsS 0 x=Option.map (fun (x:List aJ)=>([]:List (Int×Int×Int×Int×Bool))++x) (spotsS 0 (List.drop (Int.toNat 0) x)))∧∀ (x_1:List (Int×Int×Int×Int×Bool)×Int),x.length≤256∧0≤x_1.2∧x_1.2≤(↑x.length:Int)∧(↑x_1.1.length:Int)≤x_1.2∧spotsS 0 x=Option.map (fun (x:List aJ)=>x_1.1++x) (spotsS x_1.2 (List.drop x_1.2.toNat x))→(decide (x_1.2<(↑x.length:Int))=true→0≤x_1.2∧x_1.2<(↑x.length:Int)∧True∧True∧(decide ((if ag (x.getD x_1.2.toNat 0)=true then (0:Int) else (3:Int))≠0)=false→ah .i64 ((↑x.length:Int) - x_1.2))∧((decide ((if ag (x.getD x_1.2.toNat 0)=true then (0:Int) else (3:Int))≠0)||decide ((↑x.length:Int) - x_1.2<if ae (if ag (x.getD x_1.2.toNat 0)=true then aj (x.getD x_1.2.toNat 0) else ai)=0 then ak (if ag (x.getD x_1.2.toNat 0)=true then aj (x.getD x_1.2.toNat 0) else ai) else (0:Int)))=true→([]:List (Int×Int×Int×Int×Bool))=(aa x).1∧3=(aa x).2∧True)∧((decide ((if ag (x.getD x_1.2.toNat 0)=true then (0:Int) else (3:Int))≠0)||decide ((↑x.length:Int) - x_1.2<if ae (if ag (x.getD x_1.2.toNat 0)=true then aj (x.getD x_1.2.toNat 0) else ai)=0 then ak (if ag (x.getD x_1.2.toNat 0)=true then aj (x.getD x_1.2.toNat 0) else ai) else (0:Int)))=false→(x_1.1.length+[(x_1.2,if ag (x.getD x_1.2.toNat 0)=true then aj (x.getD x_1.2.toNat 0) else ai)].length) * (8+(8+(8+(8+8))))≤aE∧ah .i64 (x_1.2+if ae (if ag (x.getD x_1.2.toNat 0)=true then aj (x.getD x_1.2.toNat 0) else ai)=0 then ak (if ag (x.getD x_1.2.toNat 0)=true then aj (x.getD x_1.2.toNat 0) else ai) else (0:Int))∧(x.length≤256∧(0≤x_1.2+if ae (if ag (x.getD x_1.2.toNat 0)=true then aj (x.getD x_1.2.toNat 0) else ai)=0 then ak (if ag (x.getD x_1.2.toNat 0)=true then aj (x.getD x_1.2.toNat 0) else ai) else (0:Int))∧(x_1.2+if ae (if ag (x.getD x_1.2.toNat 0)=true then aj (x.getD x_1.2.toNat 0) else ai)=0 then ak (if ag (x.getD x_1.2.toNat 0)=true then aj (x.getD x_1.2.toNat 0) else ai) else (0:Int))≤(↑x.length:Int)∧((↑(x_1.1++[(x_1.2,if ag (x.getD x_1.2.toNat 0)=true then aj (x.getD x_1.2.toNat 0) else ai)]).length:Int)≤x_1.2+if ae (if ag (x.getD x_1.2.toNat 0)=true then aj (x.getD x_1.2.toNat 0) else ai)=0 then ak (if ag (x.getD x_1.2.toNat 0)=true then aj (x.getD x_1.2.toNat 0) else ai) else (0:Int))∧spotsS 0 x=Option.map (fun (x_2:List aJ)=>x_1.1++[(x_1.2,if ag (x.getD x_1.2.toNat 0)=true then aj (x.getD x_1.2.toNat 0) else ai)]++x_2) (spotsS (x_1.2+if ae (if ag (x.getD x_1.2.toNat 0)=true then aj (x.getD x_1.2.toNat 0) else ai)=0 then ak (if ag (x.getD x_1.2.toNat 0)=true then aj (x.getD x_1.2.toNat 0) else ai) else (0:Int)) (List.drop (x_1.2+if ae (if ag (x.getD x_1.2.toNat 0)=true then aj (x.getD x_1.2.toNat 0) else ai)=0 then ak (if ag (x.getD x_1.2.toNat 0)=true then aj (x.getD x_1.2.toNat 0) else ai) else (0:Int)).toNat x)))∧((↑x.length:Int) - (x_1.2+if ae (if ag (x.getD x_1.2.toNat 0)=true then aj (x.getD x_1.2.toNat 0) else ai)=0 then ak (if ag (x.getD x_1.2.toNat 0)=true then aj (x.getD x_1.2.toNat 0) else ai) else (0:Int))).toNat<((↑x.length:Int) - x_1.2).toNat))∧(decide (x_1.2<(↑x.length:Int))=false→x_1.1=(aa x).1∧0=(aa x).2∧True))
theorem lM:ia:=by
 unfold ia
 intro a ⟨hb,hw⟩ _
 by_cases cl:256<a.length
 ·have e:aa a=([],2):=by unfold aa; rw [if_pos cl]
  simp [e]
  omega
 have eF:aa a=match spotsS 0 a with | none=>([],3) | some l=>(l,0):=by unfold aa; rw [if_neg cl]
 refine ⟨fun h=>by simp at h; omega,fun _=>⟨⟨by omega,by omega,by omega,by simp,by simp⟩,fun ⟨out,k⟩ ⟨_,h0,h1,h2,h3⟩=>⟨fun hlt=>?_,fun hge=>?_⟩⟩⟩
 ·have hlt:k<(a.length:Int):=by simpa using hlt
  simp only at *
  rw [az (0:Int) h0 hlt] at h3
  have hdl:(((a.getD k.toNat 0::a.drop (k+1).toNat).length:Nat):Int)=a.length - k:=by rw [List.length_cons,List.length_drop]; omega
  have hdd:∀ n:Int,0≤n→(a.getD k.toNat 0::a.drop (k+1).toNat).drop n.toNat=a.drop (k+n).toNat:=fun n hn=>by
   rw [← az (0:Int) h0 hlt,List.drop_drop]
   congr 1
   omega
  generalize a.getD k.toNat 0=v at *
  refine ⟨h0,hlt,trivial,trivial,fun _=>by simp only [ah]; omega,fun hc=>?_,fun hc=>?_⟩
  ·have hn:¬ (ag v=true∧ak (aj v)≤((v::a.drop (k+1).toNat).length:Int)):=by
    rintro ⟨g1,g2⟩
    have hf:ae (aj v)=0:=by
     have:=g1
     simp only [ag,Bool.and_eq_true,beq_iff_eq] at this
     exact this.2
    rw [if_pos g1,if_pos g1,if_pos hf] at hc
    simp at hc
    omega
   rw [cw hn] at h3
   rw [eF,h3]
   exact ⟨rfl,rfl,trivial⟩
  ·have g1:ag v=true:=by
    cases hv:ag v
    ·rw [hv] at hc; simp at hc
    ·rfl
   have hf:ae (aj v)=0:=by
    have:=g1
    simp only [ag,Bool.and_eq_true,beq_iff_eq] at this
    exact this.2
   rw [if_pos g1,if_pos g1,if_pos hf] at hc
   simp at hc
   have hl:=cB g1
   rw [c6 g1 (by omega),hdd _ (by omega),Option.map_map] at h3
   rw [if_pos g1,if_pos hf]
   unfold aE
   simp only [List.length_append,List.length_cons,List.length_nil,ah]
   refine ⟨by omega,by omega,⟨by omega,by omega,by omega,by omega,?_⟩,by omega⟩
   rw [h3]
   congr 1
   funext x
   simp
 ·have hge:¬ k<(a.length:Int):=by simpa using hge
  simp only at *
  rw [aL hge] at h3
  simp only [spotsS,Option.map_some,List.append_nil] at h3
  rw [eF,h3]
  exact ⟨rfl,rfl,trivial⟩
theorem fb:nL.ok Try.prog 143:=aQ (ann:=oP) (af pI (af ob au)) Try.func143 (by kernel_rfl) lM
def aC (a:List Int) (s:aJ):List Int:=(a.take (s.1+1+s.2.1).toNat).drop (s.1+1).toNat
def cR (a:List Int) (s:aJ):Prop:=0≤s.1∧0≤s.2.1∧0≤s.2.2.1∧s.1+1+s.2.1+s.2.2.1≤a.length
def pe:Spec:={ Ts:=[.arr bZ,cJ],Rs:=[.dat (.arr bZ)],al:=true,pre:=fun ((a,s):List Int×aJ)=>a.length≤256∧cR a s,F:=fun ((a,s):List Int×aJ)=>aC a s }
def jx:Prop :=
  ∀ (x:List Int×Int×Int×Int×Int×Bool),(x.1.length * 8≤aE∧∀ (x_1:Int),x_1∈x.1→ah .u64 x_1)∧ah .i64 x.2.1∧ah .i64 x.2.2.1∧ah .i64 x.2.2.2.1∧ah .i64 x.2.2.2.2.1∧True→x.1.length≤256∧cR x.1 x.2→ah .i64 (x.2.1+1)∧ah .i64 (x.2.1+1)∧ah .i64 (x.2.1+1+x.2.2.1)∧0≤x.2.1+1∧x.2.1+1≤x.2.1+1+x.2.2.1∧x.2.1+1+x.2.2.1≤(↑x.1.length:Int)∧List.drop (x.2.1+1).toNat (List.take (x.2.1+1+x.2.2.1).toNat x.1)=aC x.1 x.2∧True
theorem nw:jx:=by
 unfold jx
 intro ⟨a,s⟩ _ ⟨h,h1,h2,h3,h4⟩
 simp only [ah,aC] at *
 exact ⟨by omega,by omega,by omega,by omega,by omega,by omega,trivial,trivial⟩
theorem pD:pe.ok Try.prog 188:=aQ (ann:=eV) au Try.func188 (by kernel_rfl) nw
def bQ (m:List (Int×Int)) (i:Int):List aJ→List (Int×Int)
 | []=>m
 | s::l=>bQ (if s.2.2.2.2=true then m else dI m (s.1+1) i) (i+1) l
def aG (l:List aJ):List (Int×Int):=bQ [(0,-1)] 0 l
def mJ:Nat→Option LoopGen
 | 3=>some { rd:=[.dat 8 (.arr cJ)],A:=fun (l:List aJ)=>{ cs:=[.map 6 .u64 ty_I,.dat 10 ty_I],inv:=fun ((m,i):List (Int×Int)×Int)=>0≤i∧i≤l.length∧(∀ s∈l,0≤s.1∧s.1≤256)∧bQ m i (l.drop i.toNat)=aG l,mu:=fun ((_,i):List (Int×Int)×Int)=>(l.length - i).toNat } }
 | _=>none
def lY:Spec:={ Ts:=[.arr cJ],Rs:=[.map .u64 ty_I],pre:=fun (l:List aJ)=>∀ s∈l,0≤s.1∧s.1≤256,F:=aG }
def gk:Prop :=
  ∀ (x:List (Int×Int×Int×Int×Bool)),(x.length * (8+(8+(8+(8+8))))≤aE∧∀ (x_1:Int×Int×Int×Int×Bool),x_1∈x→ah .i64 x_1.1∧ah .i64 x_1.2.1∧ah .i64 x_1.2.2.1∧ah .i64 x_1.2.2.2.1∧True)→(∀ (s:aJ),s∈x→0≤s.1∧s.1≤256)→((0:Int)≤0∧0≤(↑x.length:Int)∧(∀ (s:aJ),s∈x→0≤s.1∧s.1≤256)∧bQ (dI ([]:List (Int×Int)) 0 (-1)) 0 (List.drop (Int.toNat 0) x)=aG x)∧∀ (x_1:List (Int×Int)×Int),0≤x_1.2∧x_1.2≤(↑x.length:Int)∧(∀ (s:aJ),s∈x→0≤s.1∧s.1≤256)∧bQ x_1.1 x_1.2 (List.drop x_1.2.toNat x)=aG x→(decide (x_1.2<(↑x.length:Int))=true→0≤x_1.2∧x_1.2<(↑x.length:Int)∧((!(x.getD x_1.2.toNat (0,0,0,0,false)).2.2.2.2)=true→ah .u64 (IntKind.u64.wrap (x.getD x_1.2.toNat (0,0,0,0,false)).1+1)∧ah .i64 (x_1.2+1)∧(0≤x_1.2+1∧x_1.2+1≤(↑x.length:Int)∧(∀ (s:aJ),s∈x→0≤s.1∧s.1≤256)∧bQ (dI x_1.1 (IntKind.u64.wrap (x.getD x_1.2.toNat (0,0,0,0,false)).1+1) x_1.2) (x_1.2+1) (List.drop (x_1.2+1).toNat x)=aG x)∧((↑x.length:Int) - (x_1.2+1)).toNat<((↑x.length:Int) - x_1.2).toNat)∧((!(x.getD x_1.2.toNat (0,0,0,0,false)).2.2.2.2)=false→ah .i64 (x_1.2+1)∧(0≤x_1.2+1∧x_1.2+1≤(↑x.length:Int)∧(∀ (s:aJ),s∈x→0≤s.1∧s.1≤256)∧bQ x_1.1 (x_1.2+1) (List.drop (x_1.2+1).toNat x)=aG x)∧((↑x.length:Int) - (x_1.2+1)).toNat<((↑x.length:Int) - x_1.2).toNat))∧(decide (x_1.2<(↑x.length:Int))=false→x_1.1=aG x∧True)
theorem ki:gk:=by
 unfold gk
 intro l ⟨hb,_⟩ hp
 refine ⟨⟨by omega,by omega,hp,rfl⟩,fun ⟨m,i⟩ ⟨h0,h1,_,h2⟩=>⟨fun hlt=>?_,fun hge=>?_⟩⟩
 ·have hlt:i<(l.length:Int):=by simpa using hlt
  simp only at *
  have hs:=hp _ (bW ((0,0,0,0,false):aJ) h0 hlt)
  rw [az ((0,0,0,0,false):aJ) h0 hlt] at h2
  simp only [bQ] at h2
  generalize l.getD i.toNat (0,0,0,0,false)=s at *
  unfold aE at hb
  refine ⟨h0,hlt,fun hc=>?_,fun hc=>?_⟩
  ·have hc:¬ s.2.2.2.2=true:=by simpa using hc
   rw [if_neg hc] at h2
   rw [vC (by omega) (by omega)]
   simp only [ah]
   exact ⟨by omega,by omega,⟨by omega,by omega,hp,h2⟩,by omega⟩
  ·have hc:s.2.2.2.2=true:=by simpa using hc
   rw [if_pos hc] at h2
   simp only [ah]
   exact ⟨by omega,⟨by omega,by omega,hp,h2⟩,by omega⟩
 ·rw [aL (by simpa using hge)] at h2
  exact ⟨h2,trivial⟩
theorem me:lY.ok Try.prog 187:=aQ (ann:=mJ) au Try.func187 (by kernel_rfl) ki
def cz (m:List (Int×Int)) (a:List Int) (l:List aJ):Bool:=l.all fun s=>(aC a s).all fun v=>(aw m v).isSome
def ar (a:List Int):List aJ×List (Int×Int)×Int :=
 if (aa a).2≠0 then ([],[],(aa a).2) else if cz (aG (aa a).1) a (aa a).1=true then ((aa a).1,aG (aa a).1,0) else ([],[],5)
theorem dQ {a:List Int} (h:(aa a).2=0):a.length≤256∧∀ s∈(aa a).1,cR a s∧ae s.2=0:=by
 unfold aa at h ⊢
 split at h
 ·simp at h
 rename_i cl
 rw [if_neg cl]
 refine ⟨by omega,?_⟩
 cases e:spotsS 0 a with
 | none=>rw [e] at h; simp at h
 | some l =>
  intro s hs
  obtain ⟨h1,h2,h3⟩:=mR 0 a l e s hs
  have:=cD h3
  unfold ak at h2
  exact ⟨⟨h1,this.1,this.2.1,by omega⟩,h3⟩
def mK:Nat→Option LoopGen
 | 6=>some { rd:=[.own 24 158 cJ,.dat 0 (.arr bZ),.map 23 .u64 ty_I],A:=fun ((l,a,m):List aJ×List Int×List (Int×Int))=>{ cs:=[.dat 26 ty_I],inv:=fun (i:Int)=>0≤i∧i≤l.length∧a.length≤256∧(∀ s∈l,cR a s)∧cz m a (l.drop i.toNat)=cz m a l,mu:=fun (i:Int)=>(l.length - i).toNat } }
 | 9=>some { rd:=[.dat 32 (.arr bZ),.map 23 .u64 ty_I],A:=fun ((rs,m):List Int×List (Int×Int))=>{ cs:=[.dat 34 ty_I],inv:=fun (j:Int)=>0≤j∧j≤rs.length∧((rs.drop j.toNat).all fun v=>(aw m v).isSome)=(rs.all fun v=>(aw m v).isSome),mu:=fun (j:Int)=>(rs.length - j).toNat } }
 | _=>none
def lZ:Spec:={ Ts:=[.arr bZ],Rs:=[.dat (.arr cJ),.dat (.map .u64 ty_I),.dat ty_I],al:=true,pre:=fun _=>True,F:=ar }
def gl:Prop :=
  ∀ (x:List Int),(x.length * 8≤aE∧∀ (x_1:Int),x_1∈x→ah .u64 x_1)→True→True∧(decide ((aa x).2≠0)=true→([]:List (Int×Int×Int×Int×Bool))=(ar x).1∧([]:List (Int×Int))=(ar x).2.1∧(aa x).2=(ar x).2.2∧True)∧(decide ((aa x).2≠0)=false→(∀ (s:aJ),s∈(aa x).1→0≤s.1∧s.1≤256)∧((0:Int)≤0∧0≤(↑(aa x).1.length:Int)∧x.length≤256∧(∀ (s:aJ),s∈(aa x).1→cR x s)∧cz (aG (aa x).1) x (List.drop (Int.toNat 0) (aa x).1)=cz (aG (aa x).1) x (aa x).1)∧∀ (x_1:Int),0≤x_1∧x_1≤(↑(aa x).1.length:Int)∧x.length≤256∧(∀ (s:aJ),s∈(aa x).1→cR x s)∧cz (aG (aa x).1) x (List.drop x_1.toNat (aa x).1)=cz (aG (aa x).1) x (aa x).1→(decide (x_1<(↑(aa x).1.length:Int))=true→0≤x_1∧x_1<(↑(aa x).1.length:Int)∧x_1.toNat<(aa x).1.length∧(x.length≤256∧cR x ((aa x).1.getD x_1.toNat (0,0,0,0,false)))∧((0:Int)≤0∧0≤(↑(aC x ((aa x).1.getD x_1.toNat (0,0,0,0,false))).length:Int)∧((List.drop (Int.toNat 0) (aC x ((aa x).1.getD x_1.toNat (0,0,0,0,false)))).all fun (v:Int)=>(aw (aG (aa x).1) v).isSome)=(aC x ((aa x).1.getD x_1.toNat (0,0,0,0,false))).all fun (v:Int)=>(aw (aG (aa x).1) v).isSome)∧∀ (x_2:Int),(0≤x_2∧x_2≤(↑(aC x ((aa x).1.getD x_1.toNat (0,0,0,0,false))).length:Int)∧((List.drop x_2.toNat (aC x ((aa x).1.getD x_1.toNat (0,0,0,0,false)))).all fun (v:Int)=>(aw (aG (aa x).1) v).isSome)=(aC x ((aa x).1.getD x_1.toNat (0,0,0,0,false))).all fun (v:Int)=>(aw (aG (aa x).1) v).isSome)→(decide (x_2<(↑(aC x ((aa x).1.getD x_1.toNat (0,0,0,0,false))).length:Int))=true→0≤x_2∧x_2<(↑(aC x ((aa x).1.getD x_1.toNat (0,0,0,0,false))).length:Int)∧((!(aw (aG (aa x).1) ((aC x ((aa x).1.getD x_1.toNat (0,0,0,0,false))).getD x_2.toNat 0)).isSome)=true→([]:List (Int×Int×Int×Int×Bool))=(ar x).1∧([]:List (Int×Int))=(ar x).2.1∧5=(ar x).2.2∧True)∧((!(aw (aG (aa x).1) ((aC x ((aa x).1.getD x_1.toNat (0,0,0,0,false))).getD x_2.toNat 0)).isSome)=false→ah .i64 (x_2+1)∧(0≤x_2+1∧x_2+1≤(↑(aC x ((aa x).1.getD x_1.toNat (0,0,0,0,false))).length:Int)∧((List.drop (x_2+1).toNat (aC x ((aa x).1.getD x_1.toNat (0,0,0,0,false)))).all fun (v:Int)=>(aw (aG (aa x).1) v).isSome)=(aC x ((aa x).1.getD x_1.toNat (0,0,0,0,false))).all fun (v:Int)=>(aw (aG (aa x).1) v).isSome)∧((↑(aC x ((aa x).1.getD x_1.toNat (0,0,0,0,false))).length:Int) - (x_2+1)).toNat<((↑(aC x ((aa x).1.getD x_1.toNat (0,0,0,0,false))).length:Int) - x_2).toNat))∧(decide (x_2<(↑(aC x ((aa x).1.getD x_1.toNat (0,0,0,0,false))).length:Int))=false→ah .i64 (x_1+1)∧(0≤x_1+1∧x_1+1≤(↑(aa x).1.length:Int)∧x.length≤256∧(∀ (s:aJ),s∈(aa x).1→cR x s)∧cz (aG (aa x).1) x (List.drop (x_1+1).toNat (aa x).1)=cz (aG (aa x).1) x (aa x).1)∧((↑(aa x).1.length:Int) - (x_1+1)).toNat<((↑(aa x).1.length:Int) - x_1).toNat))∧(decide (x_1<(↑(aa x).1.length:Int))=false→(aa x).1=(ar x).1∧aG (aa x).1=(ar x).2.1∧0=(ar x).2.2∧True))
theorem kj:gl:=by
 unfold gl
 intro a ⟨hb,hw⟩ _
 have hlen:=bP a
 have hin:=dQ (a:=a)
 have hF:ar a=if (aa a).2≠0 then ([],[],(aa a).2) else if cz (aG (aa a).1) a (aa a).1=true then ((aa a).1,aG (aa a).1,0) else ([],[],5):=rfl
 generalize aG (aa a).1=m at *
 generalize (aa a).1=l at *
 refine ⟨trivial,fun hc=>?_,fun hc=>?_⟩
 ·have hc:(aa a).2≠0:=by simpa using hc
  rw [hF,if_pos hc]
  exact ⟨rfl,rfl,rfl,trivial⟩
 have hc:(aa a).2=0:=by simpa using hc
 rw [if_neg (by omega)] at hF
 obtain ⟨hal,hsp⟩:=hin hc
 refine ⟨fun s hs=>?_,⟨by omega,by omega,hal,fun s hs=>(hsp s hs).1,rfl⟩,fun i ⟨h0,h1,_,_,h2⟩=>⟨fun hlt=>?_,fun hge=>?_⟩⟩
 ·have:=(hsp s hs).1
  unfold cR at this
  omega
 ·have hlt:i<(l.length:Int):=by simpa using hlt
  have hs:=hsp _ (bW ((0,0,0,0,false):aJ) h0 hlt)
  rw [az ((0,0,0,0,false):aJ) h0 hlt] at h2
  simp only [cz,List.all_cons] at h2
  generalize l.getD i.toNat (0,0,0,0,false)=s at *
  have hrl:(aC a s).length≤256:=by simp only [aC,List.length_drop,List.length_take]; omega
  generalize aC a s=rs at *
  refine ⟨h0,hlt,by omega,⟨hal,hs.1⟩,⟨by omega,by omega,rfl⟩,fun j ⟨g0,g1,g2⟩=>⟨fun hlt=>?_,fun hge=>?_⟩⟩
  ·have hlt:j<(rs.length:Int):=by simpa using hlt
   rw [az (0:Int) g0 hlt] at g2
   simp only [List.all_cons] at g2
   generalize rs.getD j.toNat 0=v at *
   refine ⟨g0,hlt,fun hv=>?_,fun hv=>?_⟩
   ·have hv:(aw m v).isSome=false:=by simpa using hv
    rw [hv,Bool.false_and] at g2
    rw [← g2,Bool.false_and] at h2
    rw [hF,if_neg (by unfold cz; rw [← h2]; simp)]
    exact ⟨rfl,rfl,rfl,trivial⟩
   ·have hv:(aw m v).isSome=true:=by simpa using hv
    rw [hv,Bool.true_and] at g2
    simp only [ah]
    exact ⟨by omega,⟨by omega,by omega,g2⟩,by omega⟩
  ·rw [aL (by simpa using hge),List.all_nil] at g2
   rw [← g2,Bool.true_and] at h2
   simp only [ah]
   exact ⟨by omega,⟨by omega,by omega,hal,fun s hs=>(hsp s hs).1,h2⟩,by omega⟩
 ·rw [aL (by simpa using hge)] at h2
  have h2:cz m a l=true:=by rw [← h2]; rfl
  rw [hF,if_pos h2]
  exact ⟨rfl,rfl,rfl,trivial⟩
theorem mf:lZ.ok Try.prog 152:=aQ (ann:=mK) (af fb (af me (af pD au))) Try.func152 (by kernel_rfl) kj
def nM:Spec:={ Ts:=[.arr bZ],Rs:=[.dat ty_I],pre:=fun _=>True,F:=fun (a:List Int)=>(ar a).2.2 }
def ib:Prop :=
  ∀ (x:List Int),(x.length * 8≤aE∧∀ (x_1:Int),x_1∈x→ah .u64 x_1)→True→True∧(ar x).2.2=(ar x).2.2∧True
theorem lN:ib:=by
 unfold ib
 intro a _ _
 simp
theorem il:nM.ok Try.prog 105:=aQ (ann:=eV) (af mf au) Try.func105 (by kernel_rfl) lN
def pd (a:List Int) (s:aJ):List Int:=(a.take (s.1+1+s.2.1+s.2.2.1).toNat).drop (s.1+1+s.2.1).toNat
theorem nq {a:List Int} (h:(ar a).2.2=0):a.length≤256∧(ar a).1.length≤256∧(ar a).1=(aa a).1∧(aa a).2=0∧(ar a).2.1=aG (aa a).1∧cz (aG (aa a).1) a (aa a).1=true∧∀ s∈(ar a).1,cR a s∧ae s.2=0:=by
 unfold ar at h ⊢
 by_cases h1:(aa a).2≠0
 ·rw [if_pos h1] at h
  exact absurd h h1
 ·rw [if_neg h1] at h ⊢
  have h1:(aa a).2=0:=by omega
  by_cases h2:cz (aG (aa a).1) a (aa a).1=true
  ·rw [if_pos h2]
   exact ⟨(dQ h1).1,bP a,rfl,h1,rfl,h2,(dQ h1).2⟩
  ·rw [if_neg h2] at h
   simp at h
end Go.Proofs.Ytcnoiiohmpgckaa
