
import Derived.Test.YtcnoiiohmpgckaaWords
import Derived.Test.YtcnoiiohmpgckaaFinds
import Derived.Test.YtcnoiiohmpgckaaHead
namespace Go.Proofs.Ytcnoiiohmpgckaa
open Go
set_option maxRecDepth 100000
set_option maxHeartbeats 1000000
abbrev ci:Ty:=.pair ty_I eP
abbrev aE:=Int×iu
theorem cR {v:Int} (h:aq v=true):1≤aj (au v)∧aj (au v)≤256:=by
 simp only [aq,Bool.and_eq_true,beq_iff_eq] at h
 have:=bP h.2
 unfold aj
 omega
def spotsS (at_:Int) (l:List Int):Option (List aE) :=
 match l with
 | []=>some []
 | v::r=>if _h:aq v=true∧aj (au v)≤((v::r).length:Int) then (spotsS (at_+aj (au v)) ((v::r).drop (aj (au v)).toNat)).map ((at_,au v)::·) else none
termination_by l.length
decreasing_by
 have:=cR _h.1
 simp only [List.length_drop,List.length_cons]
 omega
def aa (a:List Int):List aE×Int:=if 256<a.length then ([],2) else match spotsS 0 a with
 | none=>([],3)
 | some l=>(l,0)
theorem cP {at_:Int} {v:Int} {r:List Int} (h:aq v=true) (h2:aj (au v)≤((v::r).length:Int)) :
  spotsS at_ (v::r)=(spotsS (at_+aj (au v)) ((v::r).drop (aj (au v)).toNat)).map ((at_,au v)::·):=by
 rw [spotsS,dif_pos ⟨h,h2⟩]
theorem cO {at_:Int} {v:Int} {r:List Int} (h:¬ (aq v=true∧aj (au v)≤((v::r).length:Int))):spotsS at_ (v::r)=none:=by
 rw [spotsS,dif_neg h]
theorem r6 (at_:Int) (l:List Int) (r:List aE) (h:spotsS at_ l=some r):∀ s∈r,at_≤s.1∧s.1+aj s.2≤at_+l.length∧ap s.2=0:=by
 induction at_,l using spotsS.induct generalizing r with
 | case1 at_ =>
  simp only [spotsS,Option.some.injEq] at h
  subst h
  simp
 | case2 at_ v l hv ih =>
  rw [cP hv.1 hv.2] at h
  obtain ⟨r',hr,rfl⟩:=Option.map_eq_some_iff.1 h
  have hl:=cR hv.1
  have hf:ap (au v)=0:=by
   have:=hv.1
   simp only [aq,Bool.and_eq_true,beq_iff_eq] at this
   exact this.2
  intro s hs
  rcases List.mem_cons.1 hs with rfl | hs
  ·have:=hv.2
   exact ⟨by simp,by simp only; omega,hf⟩
  ·obtain ⟨h1,h2,h3⟩:=ih r' hr s hs
   rw [List.length_drop] at h2
   have:=hv.2
   exact ⟨by omega,by omega,h3⟩
 | case3 at_ v l hv =>
  rw [cO hv] at h
  cases h
theorem qR (at_:Int) (l:List Int) (r:List aE) (h:spotsS at_ l=some r):r.length≤l.length:=by
 induction at_,l using spotsS.induct generalizing r with
 | case1 at_ =>
  simp only [spotsS,Option.some.injEq] at h
  subst h
  simp
 | case2 at_ v l hv ih =>
  rw [cP hv.1 hv.2] at h
  obtain ⟨r',hr,rfl⟩:=Option.map_eq_some_iff.1 h
  have hl:=cR hv.1
  have:=ih r' hr
  rw [List.length_drop] at this
  simp only [List.length_cons] at *
  omega
 | case3 at_ v l hv =>
  rw [cO hv] at h
  cases h
theorem c9 (a:List Int):(aa a).1.length≤256:=by
 unfold aa
 split
 ·simp
 ·cases e:spotsS 0 a with
  | none=>simp
  | some l =>
   have:=qR 0 a l e
   simp only
   omega
def uL:Nat→Option LoopGen
 | 5=>some { rd:=[.dat 0 (.arr bv)],A:=fun (a:List Int)=>{ cs:=[.own 4 158 ci,.dat 5 ty_I],inv:=fun ((out,at_):List aE×Int)=>a.length≤256∧0≤at_∧at_≤a.length∧out.length≤at_∧spotsS 0 a=(spotsS at_ (a.drop at_.toNat)).map (out++·),mu:=fun ((_,at_):List aE×Int)=>(a.length - at_).toNat } }
 | _=>none
def tk:Spec:={ Ts:=[.arr bv],Rs:=[.own 158 ci,.dat ty_I],pre:=fun _=>True,F:=aa }
def kU:Prop :=
  ∀ (x:List Int),(x.length * 8≤aC∧∀ (x_1:Int),x_1∈x→am .u64 x_1)→True→(decide (256<(↑x.length:Int))=true→([]:List (Int×Int×Int×Int×Bool))=(aa x).1∧2=(aa x).2∧True)∧(decide (256<(↑x.length:Int))=false→(x.length≤256∧(0:Int)≤0∧0≤(↑x.length:Int)∧(↑(0:Nat):Int)≤0∧spotsS 0 x=Option.map (fun (x:List aE)=>([]:List (Int×Int×Int×Int×Bool))++x) (spotsS 0 (List.drop (Int.toNat 0) x)))∧∀ (x_1:List (Int×Int×Int×Int×Bool)×Int),x.length≤256∧0≤x_1.2∧x_1.2≤(↑x.length:Int)∧(↑x_1.1.length:Int)≤x_1.2∧spotsS 0 x=Option.map (fun (x:List aE)=>x_1.1++x) (spotsS x_1.2 (List.drop x_1.2.toNat x))→(decide (x_1.2<(↑x.length:Int))=true→0≤x_1.2∧x_1.2<(↑x.length:Int)∧True∧True∧(decide ((if aq (x.getD x_1.2.toNat 0)=true then (0:Int) else (3:Int))≠0)=false→am .i64 ((↑x.length:Int) - x_1.2))∧((decide ((if aq (x.getD x_1.2.toNat 0)=true then (0:Int) else (3:Int))≠0)||decide ((↑x.length:Int) - x_1.2<if ap (if aq (x.getD x_1.2.toNat 0)=true then au (x.getD x_1.2.toNat 0) else ay)=0 then aj (if aq (x.getD x_1.2.toNat 0)=true then au (x.getD x_1.2.toNat 0) else ay) else (0:Int)))=true→([]:List (Int×Int×Int×Int×Bool))=(aa x).1∧3=(aa x).2∧True)∧((decide ((if aq (x.getD x_1.2.toNat 0)=true then (0:Int) else (3:Int))≠0)||decide ((↑x.length:Int) - x_1.2<if ap (if aq (x.getD x_1.2.toNat 0)=true then au (x.getD x_1.2.toNat 0) else ay)=0 then aj (if aq (x.getD x_1.2.toNat 0)=true then au (x.getD x_1.2.toNat 0) else ay) else (0:Int)))=false→(x_1.1.length+[(x_1.2,if aq (x.getD x_1.2.toNat 0)=true then au (x.getD x_1.2.toNat 0) else ay)].length) * (8+(8+(8+(8+8))))≤aC∧am .i64 (x_1.2+if ap (if aq (x.getD x_1.2.toNat 0)=true then au (x.getD x_1.2.toNat 0) else ay)=0 then aj (if aq (x.getD x_1.2.toNat 0)=true then au (x.getD x_1.2.toNat 0) else ay) else (0:Int))∧(x.length≤256∧(0≤x_1.2+if ap (if aq (x.getD x_1.2.toNat 0)=true then au (x.getD x_1.2.toNat 0) else ay)=0 then aj (if aq (x.getD x_1.2.toNat 0)=true then au (x.getD x_1.2.toNat 0) else ay) else (0:Int))∧(x_1.2+if ap (if aq (x.getD x_1.2.toNat 0)=true then au (x.getD x_1.2.toNat 0) else ay)=0 then aj (if aq (x.getD x_1.2.toNat 0)=true then au (x.getD x_1.2.toNat 0) else ay) else (0:Int))≤(↑x.length:Int)∧((↑(x_1.1++[(x_1.2,if aq (x.getD x_1.2.toNat 0)=true then au (x.getD x_1.2.toNat 0) else ay)]).length:Int)≤x_1.2+if ap (if aq (x.getD x_1.2.toNat 0)=true then au (x.getD x_1.2.toNat 0) else ay)=0 then aj (if aq (x.getD x_1.2.toNat 0)=true then au (x.getD x_1.2.toNat 0) else ay) else (0:Int))∧spotsS 0 x=Option.map (fun (x_2:List aE)=>x_1.1++[(x_1.2,if aq (x.getD x_1.2.toNat 0)=true then au (x.getD x_1.2.toNat 0) else ay)]++x_2) (spotsS (x_1.2+if ap (if aq (x.getD x_1.2.toNat 0)=true then au (x.getD x_1.2.toNat 0) else ay)=0 then aj (if aq (x.getD x_1.2.toNat 0)=true then au (x.getD x_1.2.toNat 0) else ay) else (0:Int)) (List.drop (x_1.2+if ap (if aq (x.getD x_1.2.toNat 0)=true then au (x.getD x_1.2.toNat 0) else ay)=0 then aj (if aq (x.getD x_1.2.toNat 0)=true then au (x.getD x_1.2.toNat 0) else ay) else (0:Int)).toNat x)))∧((↑x.length:Int) - (x_1.2+if ap (if aq (x.getD x_1.2.toNat 0)=true then au (x.getD x_1.2.toNat 0) else ay)=0 then aj (if aq (x.getD x_1.2.toNat 0)=true then au (x.getD x_1.2.toNat 0) else ay) else (0:Int))).toNat<((↑x.length:Int) - x_1.2).toNat))∧(decide (x_1.2<(↑x.length:Int))=false→x_1.1=(aa x).1∧0=(aa x).2∧True))
theorem qw:kU:=by
 unfold kU
 intro a ⟨hb,hw⟩ _
 by_cases cl:256<a.length
 ·have e:aa a=([],2):=by unfold aa; rw [if_pos cl]
  simp [e]
  omega
 have eF:aa a=match spotsS 0 a with | none=>([],3) | some l=>(l,0):=by unfold aa; rw [if_neg cl]
 refine ⟨fun h=>by simp at h; omega,fun _=>⟨⟨by omega,by omega,by omega,by simp,by simp⟩,fun ⟨out,k⟩ ⟨_,h0,h1,h2,h3⟩=>⟨fun hlt=>?_,fun hge=>?_⟩⟩⟩
 ·have hlt:k<(a.length:Int):=by simpa using hlt
  simp only at *
  rw [aY (0:Int) h0 hlt] at h3
  have hdl:(((a.getD k.toNat 0::a.drop (k+1).toNat).length:Nat):Int)=a.length - k:=by rw [List.length_cons,List.length_drop]; omega
  have hdd:∀ n:Int,0≤n→(a.getD k.toNat 0::a.drop (k+1).toNat).drop n.toNat=a.drop (k+n).toNat:=fun n hn=>by
   rw [← aY (0:Int) h0 hlt,List.drop_drop]
   congr 1
   omega
  generalize a.getD k.toNat 0=v at *
  refine ⟨h0,hlt,trivial,trivial,fun _=>by simp only [am]; omega,fun hc=>?_,fun hc=>?_⟩
  ·have hn:¬ (aq v=true∧aj (au v)≤((v::a.drop (k+1).toNat).length:Int)):=by
    rintro ⟨g1,g2⟩
    have hf:ap (au v)=0:=by
     have:=g1
     simp only [aq,Bool.and_eq_true,beq_iff_eq] at this
     exact this.2
    rw [if_pos g1,if_pos g1,if_pos hf] at hc
    simp at hc
    omega
   rw [cO hn] at h3
   rw [eF,h3]
   exact ⟨rfl,rfl,trivial⟩
  ·have g1:aq v=true:=by
    cases hv:aq v
    ·rw [hv] at hc; simp at hc
    ·rfl
   have hf:ap (au v)=0:=by
    have:=g1
    simp only [aq,Bool.and_eq_true,beq_iff_eq] at this
    exact this.2
   rw [if_pos g1,if_pos g1,if_pos hf] at hc
   simp at hc
   have hl:=cR g1
   rw [cP g1 (by omega),hdd _ (by omega),Option.map_map] at h3
   rw [if_pos g1,if_pos hf]
   unfold aC
   simp only [List.length_append,List.length_cons,List.length_nil,am]
   refine ⟨by omega,by omega,⟨by omega,by omega,by omega,by omega,?_⟩,by omega⟩
   rw [h3]
   congr 1
   funext x
   simp
 ·have hge:¬ k<(a.length:Int):=by simpa using hge
  simp only at *
  rw [bt hge] at h3
  simp only [spotsS,Option.map_some,List.append_nil] at h3
  rw [eF,h3]
  exact ⟨rfl,rfl,trivial⟩
theorem tR:tk.ok Try.prog 143:=aQ (ann:=uL) (ai v7 (ai t8 ax)) Try.func143 (by kernel_rfl) qw
def aw (a:List Int) (s:aE):List Int:=(a.take (s.1+1+s.2.1).toNat).drop (s.1+1).toNat
def cm (a:List Int) (s:aE):Prop:=0≤s.1∧0≤s.2.1∧0≤s.2.2.1∧s.1+1+s.2.1+s.2.2.1≤a.length
def vn:Spec:={ Ts:=[.arr bv,ci],Rs:=[.dat (.arr bv)],al:=true,pre:=fun ((a,s):List Int×aE)=>a.length≤256∧cm a s,F:=fun ((a,s):List Int×aE)=>aw a s }
def ng:Prop :=
  ∀ (x:List Int×Int×Int×Int×Int×Bool),(x.1.length * 8≤aC∧∀ (x_1:Int),x_1∈x.1→am .u64 x_1)∧am .i64 x.2.1∧am .i64 x.2.2.1∧am .i64 x.2.2.2.1∧am .i64 x.2.2.2.2.1∧True→x.1.length≤256∧cm x.1 x.2→am .i64 (x.2.1+1)∧am .i64 (x.2.1+1)∧am .i64 (x.2.1+1+x.2.2.1)∧0≤x.2.1+1∧x.2.1+1≤x.2.1+1+x.2.2.1∧x.2.1+1+x.2.2.1≤(↑x.1.length:Int)∧List.drop (x.2.1+1).toNat (List.take (x.2.1+1+x.2.2.1).toNat x.1)=aw x.1 x.2∧True
theorem sV:ng:=by
 unfold ng
 intro ⟨a,s⟩ _ ⟨h,h1,h2,h3,h4⟩
 simp only [am,aw] at *
 exact ⟨by omega,by omega,by omega,by omega,by omega,by omega,trivial,trivial⟩
theorem ns:vn.ok Try.prog 188:=aQ (ann:=ew) ax Try.func188 (by kernel_rfl) sV
def cE (m:List (Int×Int)) (i:Int):List aE→List (Int×Int)
 | []=>m
 | s::l=>cE (if s.2.2.2.2=true then m else jB m (s.1+1) i) (i+1) l
def aR (l:List aE):List (Int×Int):=cE [(0,-1)] 0 l
def rN:Nat→Option LoopGen
 | 3=>some { rd:=[.dat 8 (.arr ci)],A:=fun (l:List aE)=>{ cs:=[.map 6 .u64 ty_I,.dat 10 ty_I],inv:=fun ((m,i):List (Int×Int)×Int)=>0≤i∧i≤l.length∧(∀ s∈l,0≤s.1∧s.1≤256)∧cE m i (l.drop i.toNat)=aR l,mu:=fun ((_,i):List (Int×Int)×Int)=>(l.length - i).toNat } }
 | _=>none
def qS:Spec:={ Ts:=[.arr ci],Rs:=[.map .u64 ty_I],pre:=fun (l:List aE)=>∀ s∈l,0≤s.1∧s.1≤256,F:=aR }
def jF:Prop :=
  ∀ (x:List (Int×Int×Int×Int×Bool)),(x.length * (8+(8+(8+(8+8))))≤aC∧∀ (x_1:Int×Int×Int×Int×Bool),x_1∈x→am .i64 x_1.1∧am .i64 x_1.2.1∧am .i64 x_1.2.2.1∧am .i64 x_1.2.2.2.1∧True)→(∀ (s:aE),s∈x→0≤s.1∧s.1≤256)→((0:Int)≤0∧0≤(↑x.length:Int)∧(∀ (s:aE),s∈x→0≤s.1∧s.1≤256)∧cE (jB ([]:List (Int×Int)) 0 (-1)) 0 (List.drop (Int.toNat 0) x)=aR x)∧∀ (x_1:List (Int×Int)×Int),0≤x_1.2∧x_1.2≤(↑x.length:Int)∧(∀ (s:aE),s∈x→0≤s.1∧s.1≤256)∧cE x_1.1 x_1.2 (List.drop x_1.2.toNat x)=aR x→(decide (x_1.2<(↑x.length:Int))=true→0≤x_1.2∧x_1.2<(↑x.length:Int)∧((!(x.getD x_1.2.toNat (0,0,0,0,false)).2.2.2.2)=true→am .u64 (IntKind.u64.wrap (x.getD x_1.2.toNat (0,0,0,0,false)).1+1)∧am .i64 (x_1.2+1)∧(0≤x_1.2+1∧x_1.2+1≤(↑x.length:Int)∧(∀ (s:aE),s∈x→0≤s.1∧s.1≤256)∧cE (jB x_1.1 (IntKind.u64.wrap (x.getD x_1.2.toNat (0,0,0,0,false)).1+1) x_1.2) (x_1.2+1) (List.drop (x_1.2+1).toNat x)=aR x)∧((↑x.length:Int) - (x_1.2+1)).toNat<((↑x.length:Int) - x_1.2).toNat)∧((!(x.getD x_1.2.toNat (0,0,0,0,false)).2.2.2.2)=false→am .i64 (x_1.2+1)∧(0≤x_1.2+1∧x_1.2+1≤(↑x.length:Int)∧(∀ (s:aE),s∈x→0≤s.1∧s.1≤256)∧cE x_1.1 (x_1.2+1) (List.drop (x_1.2+1).toNat x)=aR x)∧((↑x.length:Int) - (x_1.2+1)).toNat<((↑x.length:Int) - x_1.2).toNat))∧(decide (x_1.2<(↑x.length:Int))=false→x_1.1=aR x∧True)
theorem ov:jF:=by
 unfold jF
 intro l ⟨hb,_⟩ hp
 refine ⟨⟨by omega,by omega,hp,rfl⟩,fun ⟨m,i⟩ ⟨h0,h1,_,h2⟩=>⟨fun hlt=>?_,fun hge=>?_⟩⟩
 ·have hlt:i<(l.length:Int):=by simpa using hlt
  simp only at *
  have hs:=hp _ (aU ((0,0,0,0,false):aE) h0 hlt)
  rw [aY ((0,0,0,0,false):aE) h0 hlt] at h2
  simp only [cE] at h2
  generalize l.getD i.toNat (0,0,0,0,false)=s at *
  unfold aC at hb
  refine ⟨h0,hlt,fun hc=>?_,fun hc=>?_⟩
  ·have hc:¬ s.2.2.2.2=true:=by simpa using hc
   rw [if_neg hc] at h2
   rw [m5 (by omega) (by omega)]
   simp only [am]
   exact ⟨by omega,by omega,⟨by omega,by omega,hp,h2⟩,by omega⟩
  ·have hc:s.2.2.2.2=true:=by simpa using hc
   rw [if_pos hc] at h2
   simp only [am]
   exact ⟨by omega,⟨by omega,by omega,hp,h2⟩,by omega⟩
 ·rw [bt (by simpa using hge)] at h2
  exact ⟨h2,trivial⟩
theorem rh:qS.ok Try.prog 187:=aQ (ann:=rN) ax Try.func187 (by kernel_rfl) ov
def dl (m:List (Int×Int)) (a:List Int) (l:List aE):Bool:=l.all fun s=>(aw a s).all fun v=>(cz m v).isSome
def ah (a:List Int):List aE×List (Int×Int)×Int :=
 if (aa a).2≠0 then ([],[],(aa a).2) else if dl (aR (aa a).1) a (aa a).1=true then ((aa a).1,aR (aa a).1,0) else ([],[],5)
theorem fA {a:List Int} (h:(aa a).2=0):a.length≤256∧∀ s∈(aa a).1,cm a s∧ap s.2=0:=by
 unfold aa at h ⊢
 split at h
 ·simp at h
 rename_i cl
 rw [if_neg cl]
 refine ⟨by omega,?_⟩
 cases e:spotsS 0 a with
 | none=>rw [e] at h; simp at h
 | some l =>
  intro s hs
  obtain ⟨h1,h2,h3⟩:=r6 0 a l e s hs
  have:=bP h3
  unfold aj at h2
  exact ⟨⟨h1,this.1,this.2.1,by omega⟩,h3⟩
def rP:Nat→Option LoopGen
 | 6=>some { rd:=[.own 24 158 ci,.dat 0 (.arr bv),.map 23 .u64 ty_I],A:=fun ((l,a,m):List aE×List Int×List (Int×Int))=>{ cs:=[.dat 26 ty_I],inv:=fun (i:Int)=>0≤i∧i≤l.length∧a.length≤256∧(∀ s∈l,cm a s)∧dl m a (l.drop i.toNat)=dl m a l,mu:=fun (i:Int)=>(l.length - i).toNat } }
 | 9=>some { rd:=[.dat 32 (.arr bv),.map 23 .u64 ty_I],A:=fun ((rs,m):List Int×List (Int×Int))=>{ cs:=[.dat 34 ty_I],inv:=fun (j:Int)=>0≤j∧j≤rs.length∧((rs.drop j.toNat).all fun v=>(cz m v).isSome)=(rs.all fun v=>(cz m v).isSome),mu:=fun (j:Int)=>(rs.length - j).toNat } }
 | _=>none
def qU:Spec:={ Ts:=[.arr bv],Rs:=[.dat (.arr ci),.dat (.map .u64 ty_I),.dat ty_I],al:=true,pre:=fun _=>True,F:=ah }
def jH:Prop :=
  ∀ (x:List Int),(x.length * 8≤aC∧∀ (x_1:Int),x_1∈x→am .u64 x_1)→True→True∧(decide ((aa x).2≠0)=true→([]:List (Int×Int×Int×Int×Bool))=(ah x).1∧([]:List (Int×Int))=(ah x).2.1∧(aa x).2=(ah x).2.2∧True)∧(decide ((aa x).2≠0)=false→(∀ (s:aE),s∈(aa x).1→0≤s.1∧s.1≤256)∧((0:Int)≤0∧0≤(↑(aa x).1.length:Int)∧x.length≤256∧(∀ (s:aE),s∈(aa x).1→cm x s)∧dl (aR (aa x).1) x (List.drop (Int.toNat 0) (aa x).1)=dl (aR (aa x).1) x (aa x).1)∧∀ (x_1:Int),0≤x_1∧x_1≤(↑(aa x).1.length:Int)∧x.length≤256∧(∀ (s:aE),s∈(aa x).1→cm x s)∧dl (aR (aa x).1) x (List.drop x_1.toNat (aa x).1)=dl (aR (aa x).1) x (aa x).1→(decide (x_1<(↑(aa x).1.length:Int))=true→0≤x_1∧x_1<(↑(aa x).1.length:Int)∧x_1.toNat<(aa x).1.length∧(x.length≤256∧cm x ((aa x).1.getD x_1.toNat (0,0,0,0,false)))∧((0:Int)≤0∧0≤(↑(aw x ((aa x).1.getD x_1.toNat (0,0,0,0,false))).length:Int)∧((List.drop (Int.toNat 0) (aw x ((aa x).1.getD x_1.toNat (0,0,0,0,false)))).all fun (v:Int)=>(cz (aR (aa x).1) v).isSome)=(aw x ((aa x).1.getD x_1.toNat (0,0,0,0,false))).all fun (v:Int)=>(cz (aR (aa x).1) v).isSome)∧∀ (x_2:Int),(0≤x_2∧x_2≤(↑(aw x ((aa x).1.getD x_1.toNat (0,0,0,0,false))).length:Int)∧((List.drop x_2.toNat (aw x ((aa x).1.getD x_1.toNat (0,0,0,0,false)))).all fun (v:Int)=>(cz (aR (aa x).1) v).isSome)=(aw x ((aa x).1.getD x_1.toNat (0,0,0,0,false))).all fun (v:Int)=>(cz (aR (aa x).1) v).isSome)→(decide (x_2<(↑(aw x ((aa x).1.getD x_1.toNat (0,0,0,0,false))).length:Int))=true→0≤x_2∧x_2<(↑(aw x ((aa x).1.getD x_1.toNat (0,0,0,0,false))).length:Int)∧((!(cz (aR (aa x).1) ((aw x ((aa x).1.getD x_1.toNat (0,0,0,0,false))).getD x_2.toNat 0)).isSome)=true→([]:List (Int×Int×Int×Int×Bool))=(ah x).1∧([]:List (Int×Int))=(ah x).2.1∧5=(ah x).2.2∧True)∧((!(cz (aR (aa x).1) ((aw x ((aa x).1.getD x_1.toNat (0,0,0,0,false))).getD x_2.toNat 0)).isSome)=false→am .i64 (x_2+1)∧(0≤x_2+1∧x_2+1≤(↑(aw x ((aa x).1.getD x_1.toNat (0,0,0,0,false))).length:Int)∧((List.drop (x_2+1).toNat (aw x ((aa x).1.getD x_1.toNat (0,0,0,0,false)))).all fun (v:Int)=>(cz (aR (aa x).1) v).isSome)=(aw x ((aa x).1.getD x_1.toNat (0,0,0,0,false))).all fun (v:Int)=>(cz (aR (aa x).1) v).isSome)∧((↑(aw x ((aa x).1.getD x_1.toNat (0,0,0,0,false))).length:Int) - (x_2+1)).toNat<((↑(aw x ((aa x).1.getD x_1.toNat (0,0,0,0,false))).length:Int) - x_2).toNat))∧(decide (x_2<(↑(aw x ((aa x).1.getD x_1.toNat (0,0,0,0,false))).length:Int))=false→am .i64 (x_1+1)∧(0≤x_1+1∧x_1+1≤(↑(aa x).1.length:Int)∧x.length≤256∧(∀ (s:aE),s∈(aa x).1→cm x s)∧dl (aR (aa x).1) x (List.drop (x_1+1).toNat (aa x).1)=dl (aR (aa x).1) x (aa x).1)∧((↑(aa x).1.length:Int) - (x_1+1)).toNat<((↑(aa x).1.length:Int) - x_1).toNat))∧(decide (x_1<(↑(aa x).1.length:Int))=false→(aa x).1=(ah x).1∧aR (aa x).1=(ah x).2.1∧0=(ah x).2.2∧True))
theorem oz:jH:=by
 unfold jH
 intro a ⟨hb,hw⟩ _
 have hlen:=c9 a
 have hin:=fA (a:=a)
 have hF:ah a=if (aa a).2≠0 then ([],[],(aa a).2) else if dl (aR (aa a).1) a (aa a).1=true then ((aa a).1,aR (aa a).1,0) else ([],[],5):=rfl
 generalize aR (aa a).1=m at *
 generalize (aa a).1=l at *
 refine ⟨trivial,fun hc=>?_,fun hc=>?_⟩
 ·have hc:(aa a).2≠0:=by simpa using hc
  rw [hF,if_pos hc]
  exact ⟨rfl,rfl,rfl,trivial⟩
 have hc:(aa a).2=0:=by simpa using hc
 rw [if_neg (by omega)] at hF
 obtain ⟨hal,hsp⟩:=hin hc
 refine ⟨fun s hs=>?_,⟨by omega,by omega,hal,fun s hs=>(hsp s hs).1,rfl⟩,fun i ⟨h0,h1,_,_,h2⟩=>⟨fun hlt=>?_,fun hge=>?_⟩⟩
 ·have:=(hsp s hs).1
  unfold cm at this
  omega
 ·have hlt:i<(l.length:Int):=by simpa using hlt
  have hs:=hsp _ (aU ((0,0,0,0,false):aE) h0 hlt)
  rw [aY ((0,0,0,0,false):aE) h0 hlt] at h2
  simp only [dl,List.all_cons] at h2
  generalize l.getD i.toNat (0,0,0,0,false)=s at *
  have hrl:(aw a s).length≤256:=by simp only [aw,List.length_drop,List.length_take]; omega
  generalize aw a s=rs at *
  refine ⟨h0,hlt,by omega,⟨hal,hs.1⟩,⟨by omega,by omega,rfl⟩,fun j ⟨g0,g1,g2⟩=>⟨fun hlt=>?_,fun hge=>?_⟩⟩
  ·have hlt:j<(rs.length:Int):=by simpa using hlt
   rw [aY (0:Int) g0 hlt] at g2
   simp only [List.all_cons] at g2
   generalize rs.getD j.toNat 0=v at *
   refine ⟨g0,hlt,fun hv=>?_,fun hv=>?_⟩
   ·have hv:(cz m v).isSome=false:=by simpa using hv
    rw [hv,Bool.false_and] at g2
    rw [← g2,Bool.false_and] at h2
    rw [hF,if_neg (by unfold dl; rw [← h2]; simp)]
    exact ⟨rfl,rfl,rfl,trivial⟩
   ·have hv:(cz m v).isSome=true:=by simpa using hv
    rw [hv,Bool.true_and] at g2
    simp only [am]
    exact ⟨by omega,⟨by omega,by omega,g2⟩,by omega⟩
  ·rw [bt (by simpa using hge),List.all_nil] at g2
   rw [← g2,Bool.true_and] at h2
   simp only [am]
   exact ⟨by omega,⟨by omega,by omega,hal,fun s hs=>(hsp s hs).1,h2⟩,by omega⟩
 ·rw [bt (by simpa using hge)] at h2
  have h2:dl m a l=true:=by rw [← h2]; rfl
  rw [hF,if_pos h2]
  exact ⟨rfl,rfl,rfl,trivial⟩
theorem jT:qU.ok Try.prog 152:=aQ (ann:=rP) (ai tR (ai rh (ai ns ax))) Try.func152 (by kernel_rfl) oz
def tl:Spec:={ Ts:=[.arr bv],Rs:=[.dat ty_I],pre:=fun _=>True,F:=fun (a:List Int)=>(ah a).2.2 }
def kV:Prop :=
  ∀ (x:List Int),(x.length * 8≤aC∧∀ (x_1:Int),x_1∈x→am .u64 x_1)→True→True∧(ah x).2.2=(ah x).2.2∧True
theorem qx:kV:=by
 unfold kV
 intro a _ _
 simp
theorem tS:tl.ok Try.prog 105:=aQ (ann:=ew) (ai jT ax) Try.func105 (by kernel_rfl) qx
def iG (a:List Int) (s:aE):List Int:=(a.take (s.1+1+s.2.1+s.2.2.1).toNat).drop (s.1+1+s.2.1).toNat
def eQ (a:List Int) (s:aE) (m:List (Int×Int)):Obj:=(s.2.2.2.1,(aw a s).map (fun v=>(cz m v).getD 0),iG a s,s.2.2.2.2)
def rO:Nat→Option LoopGen
 | 3=>some { rd:=[.dat 20 (.arr bv),.dat 2 (.map .u64 ty_I),.box 4 ci],A:=fun ((rs,m,s):List Int×List (Int×Int)×aE)=>{ cs:=[.boxS 7 [.dat ty_I,.own 3 ty_I,.dat (.arr bv),.dat .bool],.dat 22 ty_I],inv:=fun ((o,j):Obj×Int)=>0≤j∧j≤rs.length∧rs.length≤256∧o=(s.2.2.2.1,(rs.take j.toNat).map (fun v=>(cz m v).getD 0),[],s.2.2.2.2),mu:=fun ((_,j):Obj×Int)=>(rs.length - j).toNat } }
 | _=>none
def qT:Spec:={ Ts:=[.arr bv,ci,.map .u64 ty_I],Rs:=[.dat Ah],al:=true,pre:=fun ((a,s,_):List Int×aE×List (Int×Int))=>a.length≤256∧cm a s,F:=fun ((a,s,m):List Int×aE×List (Int×Int))=>eQ a s m }
def jG:Prop :=
  ∀ (x:List Int×(Int×Int×Int×Int×Bool)×List (Int×Int)),((x.1.length * 8≤aC∧∀ (x_1:Int),x_1∈x.1→am .u64 x_1)∧(am .i64 x.2.1.1∧am .i64 x.2.1.2.1∧am .i64 x.2.1.2.2.1∧am .i64 x.2.1.2.2.2.1∧True)∧∀ (x_1:Int×Int),x_1∈x.2.2→am .u64 x_1.1∧am .i64 x_1.2)→x.1.length≤256∧cm x.1 x.2.1→(x.1.length≤256∧cm x.1 x.2.1)∧((0:Int)≤0∧0≤(↑(aw x.1 x.2.1).length:Int)∧(aw x.1 x.2.1).length≤256∧(x.2.1.2.2.2.1,([]:List Int),([]:List Int),x.2.1.2.2.2.2)=(x.2.1.2.2.2.1,List.map (fun (v:Int)=>(cz x.2.2 v).getD 0) (List.take (Int.toNat 0) (aw x.1 x.2.1)),([]:List Int),x.2.1.2.2.2.2))∧∀ (x_1:(Int×List Int×List Int×Bool)×Int),0≤x_1.2∧x_1.2≤(↑(aw x.1 x.2.1).length:Int)∧(aw x.1 x.2.1).length≤256∧x_1.1=(x.2.1.2.2.2.1,List.map (fun (v:Int)=>(cz x.2.2 v).getD 0) (List.take x_1.2.toNat (aw x.1 x.2.1)),([]:List Int),x.2.1.2.2.2.2)→(decide (x_1.2<(↑(aw x.1 x.2.1).length:Int))=true→0≤x_1.2∧x_1.2<(↑(aw x.1 x.2.1).length:Int)∧(x_1.1.2.1.length+[(cz x.2.2 ((aw x.1 x.2.1).getD x_1.2.toNat 0)).getD 0].length) * 8≤aC∧am .i64 (x_1.2+1)∧(0≤x_1.2+1∧x_1.2+1≤(↑(aw x.1 x.2.1).length:Int)∧(aw x.1 x.2.1).length≤256∧(x_1.1.1,x_1.1.2.1++[(cz x.2.2 ((aw x.1 x.2.1).getD x_1.2.toNat 0)).getD 0],x_1.1.2.2)=(x.2.1.2.2.2.1,List.map (fun (v:Int)=>(cz x.2.2 v).getD 0) (List.take (x_1.2+1).toNat (aw x.1 x.2.1)),([]:List Int),x.2.1.2.2.2.2))∧((↑(aw x.1 x.2.1).length:Int) - (x_1.2+1)).toNat<((↑(aw x.1 x.2.1).length:Int) - x_1.2).toNat)∧(decide (x_1.2<(↑(aw x.1 x.2.1).length:Int))=false→am .i64 (x.2.1.1+1)∧am .i64 (x.2.1.1+1+x.2.1.2.1)∧am .i64 (x.2.1.1+1+x.2.1.2.1+x.2.1.2.2.1)∧0≤x.2.1.1+1+x.2.1.2.1∧x.2.1.1+1+x.2.1.2.1≤x.2.1.1+1+x.2.1.2.1+x.2.1.2.2.1∧x.2.1.1+1+x.2.1.2.1+x.2.1.2.2.1≤(↑x.1.length:Int)∧True∧(x_1.1.1,x_1.1.2.1,List.drop (x.2.1.1+1+x.2.1.2.1).toNat (List.take (x.2.1.1+1+x.2.1.2.1+x.2.1.2.2.1).toNat x.1),x_1.1.2.2.2)=eQ x.1 x.2.1 x.2.2∧True)
theorem ow:jG:=by
 unfold jG
 intro ⟨a,s,m⟩ _ ⟨hal,hs⟩
 have hs':=hs
 unfold cm at hs'
 simp only at *
 have hrl:(aw a s).length≤256:=by simp only [aw,List.length_drop,List.length_take]; omega
 have hF:eQ a s m=(s.2.2.2.1,(aw a s).map (fun v=>(cz m v).getD 0),iG a s,s.2.2.2.2):=rfl
 have hB:iG a s=(a.take (s.1+1+s.2.1+s.2.2.1).toNat).drop (s.1+1+s.2.1).toNat:=rfl
 rw [hF,hB]
 generalize aw a s=rs at *
 refine ⟨⟨hal,hs⟩,⟨by omega,by omega,hrl,by simp⟩,fun ⟨o,j⟩ ⟨g0,g1,_,g2⟩=>⟨fun hlt=>?_,fun hge=>?_⟩⟩
 ·have hlt:j<(rs.length:Int):=by simpa using hlt
  simp only at g0 g1 g2
  have e:=aW (0:Int) g0 hlt
  have hl:o.2.1.length=j.toNat:=by rw [g2]; simp; omega
  unfold aC
  simp only [am,List.length_cons,List.length_nil]
  refine ⟨g0,hlt,by omega,by omega,⟨by omega,by omega,hrl,?_⟩,by omega⟩
  rw [e,List.map_append,g2]
  rfl
 ·have hge:¬ j<(rs.length:Int):=by simpa using hge
  simp only at g0 g1 g2
  rw [bM hge] at g2
  simp only [am]
  refine ⟨by omega,by omega,by omega,by omega,by omega,by omega,trivial,?_,trivial⟩
  rw [g2]
theorem ri:qT.ok Try.prog 197:=aQ (ann:=rO) (ai ns (ai rr ax)) Try.func197 (by kernel_rfl) ow
theorem dE {a:List Int} (h:(ah a).2.2=0):a.length≤256∧(ah a).1.length≤256∧(ah a).1=(aa a).1∧(aa a).2=0∧(ah a).2.1=aR (aa a).1∧dl (aR (aa a).1) a (aa a).1=true∧∀ s∈(ah a).1,cm a s∧ap s.2=0:=by
 unfold ah at h ⊢
 by_cases h1:(aa a).2≠0
 ·rw [if_pos h1] at h
  exact absurd h h1
 ·rw [if_neg h1] at h ⊢
  have h1:(aa a).2=0:=by omega
  by_cases h2:dl (aR (aa a).1) a (aa a).1=true
  ·rw [if_pos h2]
   exact ⟨(fA h1).1,c9 a,rfl,h1,rfl,h2,(fA h1).2⟩
  ·rw [if_neg h2] at h
   simp at h
def xp:Spec:={ Ts:=[.arr ci,.fn ci .bool],Rs:=[.dat ty_I],pre:=fun ((l,g):List aE×(aE→Prop)×(aE→Bool))=>∀ s∈l,g.1 s,F:=fun ((l,g):List aE×(aE→Prop)×(aE→Bool))=>ag g.2 0 l }
def yj:Nat→Option LoopGen
 | 2=>some { rd:=[.dat 0 (.arr ci),.dat 1 (.fn ci .bool)],A:=fun ((l,g):List aE×(aE→Prop)×(aE→Bool))=>{ cs:=[.dat 8 ty_I],inv:=fun (i:Int)=>0≤i∧i≤l.length∧ag g.2 i (l.drop i.toNat)=ag g.2 0 l,mu:=fun (i:Int)=>(l.length - i).toNat } }
 | _=>none
def pn:Prop :=
  ∀ (x:List (Int×Int×Int×Int×Bool)×(Int×Int×Int×Int×Bool→Prop)×(Int×Int×Int×Int×Bool→Bool)),(x.1.length * (8+(8+(8+(8+8))))≤aC∧∀ (x_1:Int×Int×Int×Int×Bool),x_1∈x.1→am .i64 x_1.1∧am .i64 x_1.2.1∧am .i64 x_1.2.2.1∧am .i64 x_1.2.2.2.1∧True)∧True→(∀ (s:aE),s∈x.1→x.2.1 s)→((0:Int)≤0∧0≤(↑x.1.length:Int)∧ag x.2.2 0 (List.drop (Int.toNat 0) x.1)=ag x.2.2 0 x.1)∧∀ (x_1:Int),0≤x_1∧x_1≤(↑x.1.length:Int)∧ag x.2.2 x_1 (List.drop x_1.toNat x.1)=ag x.2.2 0 x.1→(decide (x_1<(↑x.1.length:Int))=true→0≤x_1∧x_1<(↑x.1.length:Int)∧x.2.1 (x.1.getD x_1.toNat (0,0,0,0,false))∧(x.2.2 (x.1.getD x_1.toNat (0,0,0,0,false))=true→x_1=ag x.2.2 0 x.1∧True)∧(x.2.2 (x.1.getD x_1.toNat (0,0,0,0,false))=false→am .i64 (x_1+1)∧(0≤x_1+1∧x_1+1≤(↑x.1.length:Int)∧ag x.2.2 (x_1+1) (List.drop (x_1+1).toNat x.1)=ag x.2.2 0 x.1)∧((↑x.1.length:Int) - (x_1+1)).toNat<((↑x.1.length:Int) - x_1).toNat))∧(decide (x_1<(↑x.1.length:Int))=false→(-1)=ag x.2.2 0 x.1∧True)
theorem u9:pn:=by
 unfold pn
 intro ⟨l,g⟩ ⟨⟨hl,_⟩,_⟩ hp
 unfold aC at *
 refine ⟨⟨by omega,by omega,by simp⟩,fun i ⟨h0,h1,h2⟩=>⟨fun hlt=>?_,fun hge=>?_⟩⟩
 ·have hlt:i<(l.length:Int):=by simpa using hlt
  have e:=aY ((0,0,0,0,false):aE) h0 hlt
  have hm:=hp _ (aU ((0,0,0,0,false):aE) h0 hlt)
  simp only at *
  rw [e] at h2
  simp only [ag] at h2
  refine ⟨h0,hlt,hm,fun hc=>?_,fun hc=>?_⟩
  ·rw [if_pos hc] at h2
   exact ⟨h2,trivial⟩
  ·rw [if_neg (by rw [hc]; simp)] at h2
   exact ⟨by simp only [am]; omega,⟨by omega,by omega,h2⟩,by omega⟩
 ·rw [bt (by simpa using hge)] at h2
  exact ⟨h2,trivial⟩
theorem xK:xp.ok Try.prog 195:=aQ (ann:=yj) ax Try.func195 (by kernel_rfl) u9
def zc:Spec:={ Ts:=[ci,.ref ty_I],Rs:=[.dat .bool],pre:=fun _=>True,F:=fun ((s,at_):aE×Int)=>decide (s.1=at_) }
def sx:Prop :=
  ∀ (x:(Int×Int×Int×Int×Bool)×Int),(am .i64 x.1.1∧am .i64 x.1.2.1∧am .i64 x.1.2.2.1∧am .i64 x.1.2.2.2.1∧True)∧am .i64 x.2→True→decide (x.1.1=x.2)=decide (x.1.1=x.2)∧True
theorem xf:sx:=by
 unfold sx
 intro ⟨s,at_⟩ _ _
 simp
theorem zA:zc.ok Try.prog 196:=aQ (ann:=ew) ax Try.func196 (by kernel_rfl) xf
def n8:Obj:=(0,[],[],false)
def sS (a:List Int) (at_:Int):Obj×Int :=
 if (ah a).2.2≠0 then (n8,(ah a).2.2) else if ag (fun s=>decide (s.1=at_)) 0 (ah a).1<0 then (n8,5)
 else (eQ a ((ah a).1.getD (ag (fun s=>decide (s.1=at_)) 0 (ah a).1).toNat (0,0,0,0,false)) (ah a).2.1,0)
def y4:Spec:={ Ts:=[.arr bv,ty_I],Rs:=[.dat Ah,.dat ty_I],al:=true,pre:=fun _=>True,F:=fun ((a,at_):List Int×Int)=>sS a at_ }
def sk:Prop :=
  ∀ (x:List Int×Int),(x.1.length * 8≤aC∧∀ (x_1:Int),x_1∈x.1→am .u64 x_1)∧am .i64 x.2→True→True∧(decide ((ah x.1).2.2≠0)=true→(0,([]:List Int),([]:List Int),false)=(sS x.1 x.2).1∧(ah x.1).2.2=(sS x.1 x.2).2∧True)∧(decide ((ah x.1).2.2≠0)=false→(∀ (s:aE),s∈(ah x.1).1→(fun (_:Int×Int×Int×Int×Bool)=>True,fun (x_1:Int×Int×Int×Int×Bool)=>decide (x_1.1=x.2)).1 s)∧(decide (ag (fun (x_1:Int×Int×Int×Int×Bool)=>decide (x_1.1=x.2)) 0 (ah x.1).1<0)=true→(0,([]:List Int),([]:List Int),false)=(sS x.1 x.2).1∧5=(sS x.1 x.2).2∧True)∧(decide (ag (fun (x_1:Int×Int×Int×Int×Bool)=>decide (x_1.1=x.2)) 0 (ah x.1).1<0)=false→0≤ag (fun (x_1:Int×Int×Int×Int×Bool)=>decide (x_1.1=x.2)) 0 (ah x.1).1∧ag (fun (x_1:Int×Int×Int×Int×Bool)=>decide (x_1.1=x.2)) 0 (ah x.1).1<(↑(ah x.1).1.length:Int)∧(x.1.length≤256∧cm x.1 ((ah x.1).1.getD (ag (fun (x_1:Int×Int×Int×Int×Bool)=>decide (x_1.1=x.2)) 0 (ah x.1).1).toNat (0,0,0,0,false)))∧eQ x.1 ((ah x.1).1.getD (ag (fun (x_1:Int×Int×Int×Int×Bool)=>decide (x_1.1=x.2)) 0 (ah x.1).1).toNat (0,0,0,0,false)) (ah x.1).2.1=(sS x.1 x.2).1∧0=(sS x.1 x.2).2∧True))
theorem w7:sk:=by
 unfold sk
 intro ⟨a,at_⟩ _ _
 have hin:=dE (a:=a)
 have hF:sS a at_=if (ah a).2.2≠0 then (n8,(ah a).2.2) else if ag (fun s=>decide (s.1=at_)) 0 (ah a).1<0 then (n8,5)
   else (eQ a ((ah a).1.getD (ag (fun s=>decide (s.1=at_)) 0 (ah a).1).toNat (0,0,0,0,false)) (ah a).2.1,0):=rfl
 simp only at *
 generalize (ah a).1=l at *
 have hlt:=gp (fun s:aE=>decide (s.1=at_)) (0,0,0,0,false) l 0 (by omega)
 rw [hF]
 refine ⟨trivial,fun hc=>?_,fun hc=>⟨fun _ _=>trivial,fun h2=>?_,fun h2=>?_⟩⟩
 ·have hc:(ah a).2.2≠0:=by simpa using hc
  rw [if_pos hc]
  exact ⟨rfl,rfl,trivial⟩
 ·have hc:(ah a).2.2=0:=by simpa using hc
  rw [if_neg (by omega),if_pos (of_decide_eq_true h2)]
  exact ⟨rfl,rfl,trivial⟩
 ·have hc:(ah a).2.2=0:=by simpa using hc
  have h2:=of_decide_eq_false h2
  rw [if_neg (by omega),if_neg h2]
  obtain ⟨hal,hll,_,_,_,_,hsp⟩:=hin hc
  have hlt':ag (fun s:aE=>decide (s.1=at_)) 0 l<(l.length:Int):=by omega
  have h2':0≤ag (fun s:aE=>decide (s.1=at_)) 0 l:=Int.not_lt.1 h2
  exact ⟨h2',hlt',⟨hal,(hsp _ (aU _ h2' hlt')).1⟩,rfl,rfl,trivial⟩
theorem zr:y4.ok Try.prog 164:=aQ (ann:=ew) (ai jT (ai ri (ai xK (ai zA ax)))) Try.func164 (by kernel_rfl) w7
end Go.Proofs.Ytcnoiiohmpgckaa
