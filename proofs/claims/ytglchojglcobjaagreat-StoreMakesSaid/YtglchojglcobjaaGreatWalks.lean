
import Derived.Test.YtglchojglcobjaaGreatWords
import Derived.Test.YtglchojglcobjaaGreatFinds
import Derived.Test.YtglchojglcobjaaGreatHead
namespace Go.Proofs.YtglchojglcobjaaGreat
open Go
set_option maxRecDepth 100000
set_option maxHeartbeats 1000000
abbrev bS:Ty:=.pair ty_I cN
abbrev aw:=Int×da
theorem eg {v:Int} (h:aF v=true):1≤ab (aH v)∧ab (aH v)≤256:=by
 simp only [aF,Bool.and_eq_true,beq_iff_eq] at h
 have:=a8 h.2
 unfold ab
 omega
def spotsS (at_:Int) (l:List Int):Option (List aw) :=
 match l with
 | []=>some []
 | v::r=>if _h:aF v=true∧ab (aH v)≤((v::r).length:Int) then (spotsS (at_+ab (aH v)) ((v::r).drop (ab (aH v)).toNat)).map ((at_,aH v)::·) else none
termination_by l.length
decreasing_by
 have:=eg _h.1
 simp only [List.length_drop,List.length_cons]
 omega
def aa (a:List Int):List aw×Int:=if 256<a.length then ([],2) else match spotsS 0 a with
 | none=>([],3)
 | some l=>(l,0)
theorem ed {at_:Int} {v:Int} {r:List Int} (h:aF v=true) (h2:ab (aH v)≤((v::r).length:Int)) :
  spotsS at_ (v::r)=(spotsS (at_+ab (aH v)) ((v::r).drop (ab (aH v)).toNat)).map ((at_,aH v)::·):=by
 rw [spotsS,dif_pos ⟨h,h2⟩]
theorem eb {at_:Int} {v:Int} {r:List Int} (h:¬ (aF v=true∧ab (aH v)≤((v::r).length:Int))):spotsS at_ (v::r)=none:=by
 rw [spotsS,dif_neg h]
theorem uX (at_:Int) (l:List Int) (r:List aw) (h:spotsS at_ l=some r):∀ s∈r,at_≤s.1∧s.1+ab s.2≤at_+l.length∧ac s.2=0:=by
 induction at_,l using spotsS.induct generalizing r with
 | case1 at_ =>
  simp only [spotsS,Option.some.injEq] at h
  subst h
  simp
 | case2 at_ v l hv ih =>
  rw [ed hv.1 hv.2] at h
  obtain ⟨r',hr,rfl⟩:=Option.map_eq_some_iff.1 h
  have hl:=eg hv.1
  have hf:ac (aH v)=0:=by
   have:=hv.1
   simp only [aF,Bool.and_eq_true,beq_iff_eq] at this
   exact this.2
  intro s hs
  rcases List.mem_cons.1 hs with rfl | hs
  ·have:=hv.2
   exact ⟨by simp,by simp only; omega,hf⟩
  ·obtain ⟨h1,h2,h3⟩:=ih r' hr s hs
   rw [List.length_drop] at h2
   have:=hv.2
   exact ⟨by omega,by omega,h3⟩
 | case3 at_ v l hv =>
  rw [eb hv] at h
  cases h
theorem tY (at_:Int) (l:List Int) (r:List aw) (h:spotsS at_ l=some r):r.length≤l.length:=by
 induction at_,l using spotsS.induct generalizing r with
 | case1 at_ =>
  simp only [spotsS,Option.some.injEq] at h
  subst h
  simp
 | case2 at_ v l hv ih =>
  rw [ed hv.1 hv.2] at h
  obtain ⟨r',hr,rfl⟩:=Option.map_eq_some_iff.1 h
  have hl:=eg hv.1
  have:=ih r' hr
  rw [List.length_drop] at this
  simp only [List.length_cons] at *
  omega
 | case3 at_ v l hv =>
  rw [eb hv] at h
  cases h
theorem cf (a:List Int):(aa a).1.length≤256:=by
 unfold aa
 split
 ·simp
 ·cases e:spotsS 0 a with
  | none=>simp
  | some l =>
   have:=tY 0 a l e
   simp only
   omega
def yg:Nat→Option LoopGen
 | 5=>some { rd:=[.dat 0 (.arr be)],A:=fun (a:List Int)=>{ cs:=[.own 4 95 bS,.dat 5 ty_I],inv:=fun ((out,at_):List aw×Int)=>a.length≤256∧0≤at_∧at_≤a.length∧out.length≤at_∧spotsS 0 a=(spotsS at_ (a.drop at_.toNat)).map (out++·),mu:=fun ((_,at_):List aw×Int)=>(a.length - at_).toNat } }
 | _=>none
def wN:Spec:={ Ts:=[.arr be],Rs:=[.own 95 bS,.dat ty_I],pre:=fun _=>True,F:=aa }
def nu:Prop :=
  ∀ (x:List Int),(x.length * (8:Nat)≤az∧∀ (x_1:Int),x_1∈x→ak IntKind.u64 x_1)→True→(decide ((256:Int)<(↑x.length:Int))=true→([]:List (Int×Int×Int×Int×Bool))=(aa x).1∧(2:Int)=(aa x).2∧True)∧(decide ((256:Int)<(↑x.length:Int))=false→(x.length≤(256:Nat)∧(0:Int)≤(0:Int)∧(0:Int)≤(↑x.length:Int)∧(↑(0:Nat):Int)≤(0:Int)∧spotsS (0:Int) x=Option.map (fun (x:List aw)=>([]:List (Int×Int×Int×Int×Bool))++x) (spotsS (0:Int) (List.drop (Int.toNat (0:Int)) x)))∧∀ (x_1:List (Int×Int×Int×Int×Bool)×Int),x.length≤(256:Nat)∧(0:Int)≤x_1.2∧x_1.2≤(↑x.length:Int)∧(↑x_1.1.length:Int)≤x_1.2∧spotsS (0:Int) x=Option.map (fun (x:List aw)=>x_1.1++x) (spotsS x_1.2 (List.drop x_1.2.toNat x))→(decide (x_1.2<(↑x.length:Int))=true→(0:Int)≤x_1.2∧x_1.2<(↑x.length:Int)∧True∧True∧(decide ((if aF (x.getD x_1.2.toNat (0:Int))=true then (0:Int) else (3:Int))≠(0:Int))=false→ak IntKind.i64 ((↑x.length:Int) - x_1.2))∧((decide ((if aF (x.getD x_1.2.toNat (0:Int))=true then (0:Int) else (3:Int))≠(0:Int))||decide ((↑x.length:Int) - x_1.2<if ac (if aF (x.getD x_1.2.toNat (0:Int))=true then aH (x.getD x_1.2.toNat (0:Int)) else aP)=(0:Int) then ab (if aF (x.getD x_1.2.toNat (0:Int))=true then aH (x.getD x_1.2.toNat (0:Int)) else aP) else (0:Int)))=true→([]:List (Int×Int×Int×Int×Bool))=(aa x).1∧(3:Int)=(aa x).2∧True)∧((decide ((if aF (x.getD x_1.2.toNat (0:Int))=true then (0:Int) else (3:Int))≠(0:Int))||decide ((↑x.length:Int) - x_1.2<if ac (if aF (x.getD x_1.2.toNat (0:Int))=true then aH (x.getD x_1.2.toNat (0:Int)) else aP)=(0:Int) then ab (if aF (x.getD x_1.2.toNat (0:Int))=true then aH (x.getD x_1.2.toNat (0:Int)) else aP) else (0:Int)))=false→(x_1.1.length+[(x_1.2,if aF (x.getD x_1.2.toNat (0:Int))=true then aH (x.getD x_1.2.toNat (0:Int)) else aP)].length) * ((8:Nat)+((8:Nat)+((8:Nat)+((8:Nat)+(8:Nat)))))≤az∧ak IntKind.i64 (x_1.2+if ac (if aF (x.getD x_1.2.toNat (0:Int))=true then aH (x.getD x_1.2.toNat (0:Int)) else aP)=(0:Int) then ab (if aF (x.getD x_1.2.toNat (0:Int))=true then aH (x.getD x_1.2.toNat (0:Int)) else aP) else (0:Int))∧(x.length≤(256:Nat)∧((0:Int)≤x_1.2+if ac (if aF (x.getD x_1.2.toNat (0:Int))=true then aH (x.getD x_1.2.toNat (0:Int)) else aP)=(0:Int) then ab (if aF (x.getD x_1.2.toNat (0:Int))=true then aH (x.getD x_1.2.toNat (0:Int)) else aP) else (0:Int))∧(x_1.2+if ac (if aF (x.getD x_1.2.toNat (0:Int))=true then aH (x.getD x_1.2.toNat (0:Int)) else aP)=(0:Int) then ab (if aF (x.getD x_1.2.toNat (0:Int))=true then aH (x.getD x_1.2.toNat (0:Int)) else aP) else (0:Int))≤(↑x.length:Int)∧((↑(x_1.1++[(x_1.2,if aF (x.getD x_1.2.toNat (0:Int))=true then aH (x.getD x_1.2.toNat (0:Int)) else aP)]).length:Int)≤x_1.2+if ac (if aF (x.getD x_1.2.toNat (0:Int))=true then aH (x.getD x_1.2.toNat (0:Int)) else aP)=(0:Int) then ab (if aF (x.getD x_1.2.toNat (0:Int))=true then aH (x.getD x_1.2.toNat (0:Int)) else aP) else (0:Int))∧spotsS (0:Int) x=Option.map (fun (x_2:List aw)=>x_1.1++[(x_1.2,if aF (x.getD x_1.2.toNat (0:Int))=true then aH (x.getD x_1.2.toNat (0:Int)) else aP)]++x_2) (spotsS (x_1.2+if ac (if aF (x.getD x_1.2.toNat (0:Int))=true then aH (x.getD x_1.2.toNat (0:Int)) else aP)=(0:Int) then ab (if aF (x.getD x_1.2.toNat (0:Int))=true then aH (x.getD x_1.2.toNat (0:Int)) else aP) else (0:Int)) (List.drop (x_1.2+if ac (if aF (x.getD x_1.2.toNat (0:Int))=true then aH (x.getD x_1.2.toNat (0:Int)) else aP)=(0:Int) then ab (if aF (x.getD x_1.2.toNat (0:Int))=true then aH (x.getD x_1.2.toNat (0:Int)) else aP) else (0:Int)).toNat x)))∧((↑x.length:Int) - (x_1.2+if ac (if aF (x.getD x_1.2.toNat (0:Int))=true then aH (x.getD x_1.2.toNat (0:Int)) else aP)=(0:Int) then ab (if aF (x.getD x_1.2.toNat (0:Int))=true then aH (x.getD x_1.2.toNat (0:Int)) else aP) else (0:Int))).toNat<((↑x.length:Int) - x_1.2).toNat))∧(decide (x_1.2<(↑x.length:Int))=false→x_1.1=(aa x).1∧(0:Int)=(aa x).2∧True))
theorem tA:nu:=by
 unfold nu
 intro a ⟨hb,hw⟩ _
 by_cases cl:256<a.length
 ·have e:aa a=([],2):=by unfold aa; rw [if_pos cl]
  simp [e]
  omega
 have eF:aa a=match spotsS 0 a with | none=>([],3) | some l=>(l,0):=by unfold aa; rw [if_neg cl]
 refine ⟨fun h=>by simp at h; omega,fun _=>⟨⟨by omega,by omega,by omega,by simp,by simp⟩,fun ⟨out,k⟩ ⟨_,h0,h1,h2,h3⟩=>⟨fun hlt=>?_,fun hge=>?_⟩⟩⟩
 ·have hlt:k<(a.length:Int):=by simpa using hlt
  simp only at *
  rw [aS (0:Int) h0 hlt] at h3
  have hdl:(((a.getD k.toNat 0::a.drop (k+1).toNat).length:Nat):Int)=a.length - k:=by rw [List.length_cons,List.length_drop]; omega
  have hdd:∀ n:Int,0≤n→(a.getD k.toNat 0::a.drop (k+1).toNat).drop n.toNat=a.drop (k+n).toNat:=fun n hn=>by
   rw [← aS (0:Int) h0 hlt,List.drop_drop]
   congr 1
   omega
  generalize a.getD k.toNat 0=v at *
  refine ⟨h0,hlt,trivial,trivial,fun _=>by simp only [ak]; omega,fun hc=>?_,fun hc=>?_⟩
  ·have hn:¬ (aF v=true∧ab (aH v)≤((v::a.drop (k+1).toNat).length:Int)):=by
    rintro ⟨g1,g2⟩
    have hf:ac (aH v)=0:=by
     have:=g1
     simp only [aF,Bool.and_eq_true,beq_iff_eq] at this
     exact this.2
    rw [if_pos g1,if_pos g1,if_pos hf] at hc
    simp at hc
    omega
   rw [eb hn] at h3
   rw [eF,h3]
   exact ⟨rfl,rfl,trivial⟩
  ·have g1:aF v=true:=by
    cases hv:aF v
    ·rw [hv] at hc; simp at hc
    ·rfl
   have hf:ac (aH v)=0:=by
    have:=g1
    simp only [aF,Bool.and_eq_true,beq_iff_eq] at this
    exact this.2
   rw [if_pos g1,if_pos g1,if_pos hf] at hc
   simp at hc
   have hl:=eg g1
   rw [ed g1 (by omega),hdd _ (by omega),Option.map_map] at h3
   rw [if_pos g1,if_pos hf]
   unfold az
   simp only [List.length_append,List.length_cons,List.length_nil,ak]
   refine ⟨by omega,by omega,⟨by omega,by omega,by omega,by omega,?_⟩,by omega⟩
   rw [h3]
   congr 1
   funext x
   simp
 ·have hge:¬ k<(a.length:Int):=by simpa using hge
  simp only at *
  rw [bn hge] at h3
  simp only [spotsS,Option.map_some,List.append_nil] at h3
  rw [eF,h3]
  exact ⟨rfl,rfl,trivial⟩
theorem hI:wN.ok Tryz.prog 147:=aI (ann:=yg) (ae zW (ae hZ ap)) Tryz.func147 (by kernel_rfl) tA
def aA (a:List Int) (s:aw):List Int:=(a.take (s.1+1+s.2.1).toNat).drop (s.1+1).toNat
def bX (a:List Int) (s:aw):Prop:=0≤s.1∧0≤s.2.1∧0≤s.2.2.1∧s.1+1+s.2.1+s.2.2.1≤a.length
def yQ:Spec:={ Ts:=[.arr be,bS],Rs:=[.dat (.arr be)],al:=true,pre:=fun ((a,s):List Int×aw)=>a.length≤256∧bX a s,F:=fun ((a,s):List Int×aw)=>aA a s }
def pI:Prop :=
  ∀ (x:List Int×Int×Int×Int×Int×Bool),(x.1.length * 8≤az∧∀ (x_1:Int),x_1∈x.1→ak IntKind.u64 x_1)∧ak IntKind.i64 x.2.1∧ak IntKind.i64 x.2.2.1∧ak IntKind.i64 x.2.2.2.1∧ak IntKind.i64 x.2.2.2.2.1∧True→x.1.length≤256∧bX x.1 x.2→ak IntKind.i64 (x.2.1+1)∧ak IntKind.i64 (x.2.1+1)∧ak IntKind.i64 (x.2.1+1+x.2.2.1)∧0≤x.2.1+1∧x.2.1+1≤x.2.1+1+x.2.2.1∧x.2.1+1+x.2.2.1≤(↑x.1.length:Int)∧List.drop (x.2.1+1).toNat (List.take (x.2.1+1+x.2.2.1).toNat x.1)=aA x.1 x.2∧True
theorem wm:pI:=by
 unfold pI
 intro ⟨a,s⟩ _ ⟨h,h1,h2,h3,h4⟩
 simp only [ak,aA] at *
 exact ⟨by omega,by omega,by omega,by omega,by omega,by omega,trivial,trivial⟩
theorem qg:yQ.ok Tryz.prog 149:=aI (ann:=cT) ap Tryz.func149 (by kernel_rfl) wm
def dM (m:List (Int×Int)) (i:Int):List aw→List (Int×Int)
 | []=>m
 | s::l=>dM (if s.2.2.2.2=true then m else dP m (s.1+1) i) (i+1) l
def bC (l:List aw):List (Int×Int):=dM [(0,-1)] 0 l
def uM:Nat→Option LoopGen
 | 3=>some { rd:=[.dat 8 (.arr bS)],A:=fun (l:List aw)=>{ cs:=[.map 6 .u64 ty_I,.dat 10 ty_I],inv:=fun ((m,i):List (Int×Int)×Int)=>0≤i∧i≤l.length∧(∀ s∈l,0≤s.1∧s.1≤256)∧dM m i (l.drop i.toNat)=bC l,mu:=fun ((_,i):List (Int×Int)×Int)=>(l.length - i).toNat } }
 | _=>none
def tZ:Spec:={ Ts:=[.arr bS],Rs:=[.map .u64 ty_I],pre:=fun (l:List aw)=>∀ s∈l,0≤s.1∧s.1≤256,F:=bC }
def lQ:Prop :=
  ∀ (x:List (Int×Int×Int×Int×Bool)),(x.length * (8+(8+(8+(8+8))))≤az∧∀ (x_1:Int×Int×Int×Int×Bool),x_1∈x→ak IntKind.i64 x_1.1∧ak IntKind.i64 x_1.2.1∧ak IntKind.i64 x_1.2.2.1∧ak IntKind.i64 x_1.2.2.2.1∧True)→(∀ (s:aw),s∈x→0≤s.1∧s.1≤256)→((0:Int)≤0∧0≤(↑x.length:Int)∧(∀ (s:aw),s∈x→0≤s.1∧s.1≤256)∧dM (dP ([]:List (Int×Int)) 0 (-1)) 0 (List.drop (Int.toNat 0) x)=bC x)∧∀ (x_1:List (Int×Int)×Int),0≤x_1.2∧x_1.2≤(↑x.length:Int)∧(∀ (s:aw),s∈x→0≤s.1∧s.1≤256)∧dM x_1.1 x_1.2 (List.drop x_1.2.toNat x)=bC x→(decide (x_1.2<(↑x.length:Int))=true→0≤x_1.2∧x_1.2<(↑x.length:Int)∧((!(x.getD x_1.2.toNat (0,0,0,0,false)).2.2.2.2)=true→ak IntKind.u64 (IntKind.u64.wrap (x.getD x_1.2.toNat (0,0,0,0,false)).1+1)∧ak IntKind.i64 (x_1.2+1)∧(0≤x_1.2+1∧x_1.2+1≤(↑x.length:Int)∧(∀ (s:aw),s∈x→0≤s.1∧s.1≤256)∧dM (dP x_1.1 (IntKind.u64.wrap (x.getD x_1.2.toNat (0,0,0,0,false)).1+1) x_1.2) (x_1.2+1) (List.drop (x_1.2+1).toNat x)=bC x)∧((↑x.length:Int) - (x_1.2+1)).toNat<((↑x.length:Int) - x_1.2).toNat)∧((!(x.getD x_1.2.toNat (0,0,0,0,false)).2.2.2.2)=false→ak IntKind.i64 (x_1.2+1)∧(0≤x_1.2+1∧x_1.2+1≤(↑x.length:Int)∧(∀ (s:aw),s∈x→0≤s.1∧s.1≤256)∧dM x_1.1 (x_1.2+1) (List.drop (x_1.2+1).toNat x)=bC x)∧((↑x.length:Int) - (x_1.2+1)).toNat<((↑x.length:Int) - x_1.2).toNat))∧(decide (x_1.2<(↑x.length:Int))=false→x_1.1=bC x∧True)
theorem q9:lQ:=by
 unfold lQ
 intro l ⟨hb,_⟩ hp
 refine ⟨⟨by omega,by omega,hp,rfl⟩,fun ⟨m,i⟩ ⟨h0,h1,_,h2⟩=>⟨fun hlt=>?_,fun hge=>?_⟩⟩
 ·have hlt:i<(l.length:Int):=by simpa using hlt
  simp only at *
  have hs:=hp _ (aD ((0,0,0,0,false):aw) h0 hlt)
  rw [aS ((0,0,0,0,false):aw) h0 hlt] at h2
  simp only [dM] at h2
  generalize l.getD i.toNat (0,0,0,0,false)=s at *
  unfold az at hb
  refine ⟨h0,hlt,fun hc=>?_,fun hc=>?_⟩
  ·have hc:¬ s.2.2.2.2=true:=by simpa using hc
   rw [if_neg hc] at h2
   rw [gj (by omega) (by omega)]
   simp only [ak]
   exact ⟨by omega,by omega,⟨by omega,by omega,hp,h2⟩,by omega⟩
  ·have hc:s.2.2.2.2=true:=by simpa using hc
   rw [if_pos hc] at h2
   simp only [ak]
   exact ⟨by omega,⟨by omega,by omega,hp,h2⟩,by omega⟩
 ·rw [bn (by simpa using hge)] at h2
  exact ⟨h2,trivial⟩
theorem ul:tZ.ok Tryz.prog 148:=aI (ann:=uM) ap Tryz.func148 (by kernel_rfl) q9
def eS (m:List (Int×Int)) (a:List Int) (l:List aw):Bool:=l.all fun s=>(aA a s).all fun v=>(aK m v).isSome
def ao (a:List Int):List aw×List (Int×Int)×Int :=
 if (aa a).2≠0 then ([],[],(aa a).2) else if eS (bC (aa a).1) a (aa a).1=true then ((aa a).1,bC (aa a).1,0) else ([],[],5)
theorem gm {a:List Int} (h:(aa a).2=0):a.length≤256∧∀ s∈(aa a).1,bX a s∧ac s.2=0:=by
 unfold aa at h ⊢
 split at h
 ·simp at h
 rename_i cl
 rw [if_neg cl]
 refine ⟨by omega,?_⟩
 cases e:spotsS 0 a with
 | none=>rw [e] at h; simp at h
 | some l =>
  intro s hs
  obtain ⟨h1,h2,h3⟩:=uX 0 a l e s hs
  have:=a8 h3
  unfold ab at h2
  exact ⟨⟨h1,this.1,this.2.1,by omega⟩,h3⟩
def uO:Nat→Option LoopGen
 | 6=>some { rd:=[.own 24 95 bS,.dat 0 (.arr be),.map 23 .u64 ty_I],A:=fun ((l,a,m):List aw×List Int×List (Int×Int))=>{ cs:=[.dat 26 ty_I],inv:=fun (i:Int)=>0≤i∧i≤l.length∧a.length≤256∧(∀ s∈l,bX a s)∧eS m a (l.drop i.toNat)=eS m a l,mu:=fun (i:Int)=>(l.length - i).toNat } }
 | 9=>some { rd:=[.dat 32 (.arr be),.map 23 .u64 ty_I],A:=fun ((rs,m):List Int×List (Int×Int))=>{ cs:=[.dat 34 ty_I],inv:=fun (j:Int)=>0≤j∧j≤rs.length∧((rs.drop j.toNat).all fun v=>(aK m v).isSome)=(rs.all fun v=>(aK m v).isSome),mu:=fun (j:Int)=>(rs.length - j).toNat } }
 | _=>none
def t7:Spec:={ Ts:=[.arr be],Rs:=[.dat (.arr bS),.dat (.map .u64 ty_I),.dat ty_I],al:=true,pre:=fun _=>True,F:=ao }
def lS:Prop :=
  ∀ (x:List Int),(x.length * 8≤az∧∀ (x_1:Int),x_1∈x→ak IntKind.u64 x_1)→True→True∧(decide ((aa x).2≠0)=true→([]:List (Int×Int×Int×Int×Bool))=(ao x).1∧([]:List (Int×Int))=(ao x).2.1∧(aa x).2=(ao x).2.2∧True)∧(decide ((aa x).2≠0)=false→(∀ (s:aw),s∈(aa x).1→0≤s.1∧s.1≤256)∧((0:Int)≤0∧0≤(↑(aa x).1.length:Int)∧x.length≤256∧(∀ (s:aw),s∈(aa x).1→bX x s)∧eS (bC (aa x).1) x (List.drop (Int.toNat 0) (aa x).1)=eS (bC (aa x).1) x (aa x).1)∧∀ (x_1:Int),0≤x_1∧x_1≤(↑(aa x).1.length:Int)∧x.length≤256∧(∀ (s:aw),s∈(aa x).1→bX x s)∧eS (bC (aa x).1) x (List.drop x_1.toNat (aa x).1)=eS (bC (aa x).1) x (aa x).1→(decide (x_1<(↑(aa x).1.length:Int))=true→0≤x_1∧x_1<(↑(aa x).1.length:Int)∧x_1.toNat<(aa x).1.length∧(x.length≤256∧bX x ((aa x).1.getD x_1.toNat (0,0,0,0,false)))∧((0:Int)≤0∧0≤(↑(aA x ((aa x).1.getD x_1.toNat (0,0,0,0,false))).length:Int)∧((List.drop (Int.toNat 0) (aA x ((aa x).1.getD x_1.toNat (0,0,0,0,false)))).all fun (v:Int)=>(aK (bC (aa x).1) v).isSome)=(aA x ((aa x).1.getD x_1.toNat (0,0,0,0,false))).all fun (v:Int)=>(aK (bC (aa x).1) v).isSome)∧∀ (x_2:Int),(0≤x_2∧x_2≤(↑(aA x ((aa x).1.getD x_1.toNat (0,0,0,0,false))).length:Int)∧((List.drop x_2.toNat (aA x ((aa x).1.getD x_1.toNat (0,0,0,0,false)))).all fun (v:Int)=>(aK (bC (aa x).1) v).isSome)=(aA x ((aa x).1.getD x_1.toNat (0,0,0,0,false))).all fun (v:Int)=>(aK (bC (aa x).1) v).isSome)→(decide (x_2<(↑(aA x ((aa x).1.getD x_1.toNat (0,0,0,0,false))).length:Int))=true→0≤x_2∧x_2<(↑(aA x ((aa x).1.getD x_1.toNat (0,0,0,0,false))).length:Int)∧((!(aK (bC (aa x).1) ((aA x ((aa x).1.getD x_1.toNat (0,0,0,0,false))).getD x_2.toNat 0)).isSome)=true→([]:List (Int×Int×Int×Int×Bool))=(ao x).1∧([]:List (Int×Int))=(ao x).2.1∧5=(ao x).2.2∧True)∧((!(aK (bC (aa x).1) ((aA x ((aa x).1.getD x_1.toNat (0,0,0,0,false))).getD x_2.toNat 0)).isSome)=false→ak IntKind.i64 (x_2+1)∧(0≤x_2+1∧x_2+1≤(↑(aA x ((aa x).1.getD x_1.toNat (0,0,0,0,false))).length:Int)∧((List.drop (x_2+1).toNat (aA x ((aa x).1.getD x_1.toNat (0,0,0,0,false)))).all fun (v:Int)=>(aK (bC (aa x).1) v).isSome)=(aA x ((aa x).1.getD x_1.toNat (0,0,0,0,false))).all fun (v:Int)=>(aK (bC (aa x).1) v).isSome)∧((↑(aA x ((aa x).1.getD x_1.toNat (0,0,0,0,false))).length:Int) - (x_2+1)).toNat<((↑(aA x ((aa x).1.getD x_1.toNat (0,0,0,0,false))).length:Int) - x_2).toNat))∧(decide (x_2<(↑(aA x ((aa x).1.getD x_1.toNat (0,0,0,0,false))).length:Int))=false→ak IntKind.i64 (x_1+1)∧(0≤x_1+1∧x_1+1≤(↑(aa x).1.length:Int)∧x.length≤256∧(∀ (s:aw),s∈(aa x).1→bX x s)∧eS (bC (aa x).1) x (List.drop (x_1+1).toNat (aa x).1)=eS (bC (aa x).1) x (aa x).1)∧((↑(aa x).1.length:Int) - (x_1+1)).toNat<((↑(aa x).1.length:Int) - x_1).toNat))∧(decide (x_1<(↑(aa x).1.length:Int))=false→(aa x).1=(ao x).1∧bC (aa x).1=(ao x).2.1∧0=(ao x).2.2∧True))
theorem rc:lS:=by
 unfold lS
 intro a ⟨hb,hw⟩ _
 have hlen:=cf a
 have hin:=gm (a:=a)
 have hF:ao a=if (aa a).2≠0 then ([],[],(aa a).2) else if eS (bC (aa a).1) a (aa a).1=true then ((aa a).1,bC (aa a).1,0) else ([],[],5):=rfl
 generalize bC (aa a).1=m at *
 generalize (aa a).1=l at *
 refine ⟨trivial,fun hc=>?_,fun hc=>?_⟩
 ·have hc:(aa a).2≠0:=by simpa using hc
  rw [hF,if_pos hc]
  exact ⟨rfl,rfl,rfl,trivial⟩
 have hc:(aa a).2=0:=by simpa using hc
 rw [if_neg (by omega)] at hF
 obtain ⟨hal,hsp⟩:=hin hc
 refine ⟨fun s hs=>?_,⟨by omega,by omega,hal,fun s hs=>(hsp s hs).1,rfl⟩,fun i ⟨h0,h1,_,_,h2⟩=>⟨fun hlt=>?_,fun hge=>?_⟩⟩
 ·have:=(hsp s hs).1
  unfold bX at this
  omega
 ·have hlt:i<(l.length:Int):=by simpa using hlt
  have hs:=hsp _ (aD ((0,0,0,0,false):aw) h0 hlt)
  rw [aS ((0,0,0,0,false):aw) h0 hlt] at h2
  simp only [eS,List.all_cons] at h2
  generalize l.getD i.toNat (0,0,0,0,false)=s at *
  have hrl:(aA a s).length≤256:=by simp only [aA,List.length_drop,List.length_take]; omega
  generalize aA a s=rs at *
  refine ⟨h0,hlt,by omega,⟨hal,hs.1⟩,⟨by omega,by omega,rfl⟩,fun j ⟨g0,g1,g2⟩=>⟨fun hlt=>?_,fun hge=>?_⟩⟩
  ·have hlt:j<(rs.length:Int):=by simpa using hlt
   rw [aS (0:Int) g0 hlt] at g2
   simp only [List.all_cons] at g2
   generalize rs.getD j.toNat 0=v at *
   refine ⟨g0,hlt,fun hv=>?_,fun hv=>?_⟩
   ·have hv:(aK m v).isSome=false:=by simpa using hv
    rw [hv,Bool.false_and] at g2
    rw [← g2,Bool.false_and] at h2
    rw [hF,if_neg (by unfold eS; rw [← h2]; simp)]
    exact ⟨rfl,rfl,rfl,trivial⟩
   ·have hv:(aK m v).isSome=true:=by simpa using hv
    rw [hv,Bool.true_and] at g2
    simp only [ak]
    exact ⟨by omega,⟨by omega,by omega,g2⟩,by omega⟩
  ·rw [bn (by simpa using hge),List.all_nil] at g2
   rw [← g2,Bool.true_and] at h2
   simp only [ak]
   exact ⟨by omega,⟨by omega,by omega,hal,fun s hs=>(hsp s hs).1,h2⟩,by omega⟩
 ·rw [bn (by simpa using hge)] at h2
  have h2:eS m a l=true:=by rw [← h2]; rfl
  rw [hF,if_pos h2]
  exact ⟨rfl,rfl,rfl,trivial⟩
theorem mb:t7.ok Tryz.prog 117:=aI (ann:=uO) (ae hI (ae ul (ae qg ap))) Tryz.func117 (by kernel_rfl) rc
def wO:Spec:={ Ts:=[.arr be],Rs:=[.dat ty_I],pre:=fun _=>True,F:=fun (a:List Int)=>(ao a).2.2 }
def nv:Prop :=
  ∀ (x:List Int),(x.length * 8≤az∧∀ (x_1:Int),x_1∈x→ak IntKind.u64 x_1)→True→True∧(ao x).2.2=(ao x).2.2∧True
theorem tB:nv:=by
 unfold nv
 intro a _ _
 simp
theorem hY:wO.ok Tryz.prog 90:=aI (ann:=cT) (ae mb ap) Tryz.func90 (by kernel_rfl) tB
def iv (a:List Int) (s:aw):List Int:=(a.take (s.1+1+s.2.1+s.2.2.1).toNat).drop (s.1+1+s.2.1).toNat
def gb (a:List Int) (s:aw) (m:List (Int×Int)):Obj:=(s.2.2.2.1,(aA a s).map (fun v=>(aK m v).getD 0),iv a s,s.2.2.2.2)
def uN:Nat→Option LoopGen
 | 3=>some { rd:=[.dat 20 (.arr be),.dat 2 (.map .u64 ty_I),.box 4 bS],A:=fun ((rs,m,s):List Int×List (Int×Int)×aw)=>{ cs:=[.boxS 7 [.dat ty_I,.own 3 ty_I,.dat (.arr be),.dat .bool],.dat 22 ty_I],inv:=fun ((o,j):Obj×Int)=>0≤j∧j≤rs.length∧rs.length≤256∧o=(s.2.2.2.1,(rs.take j.toNat).map (fun v=>(aK m v).getD 0),[],s.2.2.2.2),mu:=fun ((_,j):Obj×Int)=>(rs.length - j).toNat } }
 | _=>none
def t6:Spec:={ Ts:=[.arr be,bS,.map .u64 ty_I],Rs:=[.dat E8],al:=true,pre:=fun ((a,s,_):List Int×aw×List (Int×Int))=>a.length≤256∧bX a s,F:=fun ((a,s,m):List Int×aw×List (Int×Int))=>gb a s m }
def lR:Prop :=
  ∀ (x:List Int×(Int×Int×Int×Int×Bool)×List (Int×Int)),((x.1.length * 8≤az∧∀ (x_1:Int),x_1∈x.1→ak IntKind.u64 x_1)∧(ak IntKind.i64 x.2.1.1∧ak IntKind.i64 x.2.1.2.1∧ak IntKind.i64 x.2.1.2.2.1∧ak IntKind.i64 x.2.1.2.2.2.1∧True)∧∀ (x_1:Int×Int),x_1∈x.2.2→ak IntKind.u64 x_1.1∧ak IntKind.i64 x_1.2)→x.1.length≤256∧bX x.1 x.2.1→(x.1.length≤256∧bX x.1 x.2.1)∧((0:Int)≤0∧0≤(↑(aA x.1 x.2.1).length:Int)∧(aA x.1 x.2.1).length≤256∧(x.2.1.2.2.2.1,([]:List Int),([]:List Int),x.2.1.2.2.2.2)=(x.2.1.2.2.2.1,List.map (fun (v:Int)=>(aK x.2.2 v).getD 0) (List.take (Int.toNat 0) (aA x.1 x.2.1)),([]:List Int),x.2.1.2.2.2.2))∧∀ (x_1:(Int×List Int×List Int×Bool)×Int),0≤x_1.2∧x_1.2≤(↑(aA x.1 x.2.1).length:Int)∧(aA x.1 x.2.1).length≤256∧x_1.1=(x.2.1.2.2.2.1,List.map (fun (v:Int)=>(aK x.2.2 v).getD 0) (List.take x_1.2.toNat (aA x.1 x.2.1)),([]:List Int),x.2.1.2.2.2.2)→(decide (x_1.2<(↑(aA x.1 x.2.1).length:Int))=true→0≤x_1.2∧x_1.2<(↑(aA x.1 x.2.1).length:Int)∧(x_1.1.2.1.length+[(aK x.2.2 ((aA x.1 x.2.1).getD x_1.2.toNat 0)).getD 0].length) * 8≤az∧ak IntKind.i64 (x_1.2+1)∧(0≤x_1.2+1∧x_1.2+1≤(↑(aA x.1 x.2.1).length:Int)∧(aA x.1 x.2.1).length≤256∧(x_1.1.1,x_1.1.2.1++[(aK x.2.2 ((aA x.1 x.2.1).getD x_1.2.toNat 0)).getD 0],x_1.1.2.2)=(x.2.1.2.2.2.1,List.map (fun (v:Int)=>(aK x.2.2 v).getD 0) (List.take (x_1.2+1).toNat (aA x.1 x.2.1)),([]:List Int),x.2.1.2.2.2.2))∧((↑(aA x.1 x.2.1).length:Int) - (x_1.2+1)).toNat<((↑(aA x.1 x.2.1).length:Int) - x_1.2).toNat)∧(decide (x_1.2<(↑(aA x.1 x.2.1).length:Int))=false→ak IntKind.i64 (x.2.1.1+1)∧ak IntKind.i64 (x.2.1.1+1+x.2.1.2.1)∧ak IntKind.i64 (x.2.1.1+1+x.2.1.2.1+x.2.1.2.2.1)∧0≤x.2.1.1+1+x.2.1.2.1∧x.2.1.1+1+x.2.1.2.1≤x.2.1.1+1+x.2.1.2.1+x.2.1.2.2.1∧x.2.1.1+1+x.2.1.2.1+x.2.1.2.2.1≤(↑x.1.length:Int)∧True∧(x_1.1.1,x_1.1.2.1,List.drop (x.2.1.1+1+x.2.1.2.1).toNat (List.take (x.2.1.1+1+x.2.1.2.1+x.2.1.2.2.1).toNat x.1),x_1.1.2.2.2)=gb x.1 x.2.1 x.2.2∧True)
theorem rb:lR:=by
 unfold lR
 intro ⟨a,s,m⟩ _ ⟨hal,hs⟩
 have hs':=hs
 unfold bX at hs'
 simp only at *
 have hrl:(aA a s).length≤256:=by simp only [aA,List.length_drop,List.length_take]; omega
 have hF:gb a s m=(s.2.2.2.1,(aA a s).map (fun v=>(aK m v).getD 0),iv a s,s.2.2.2.2):=rfl
 have hB:iv a s=(a.take (s.1+1+s.2.1+s.2.2.1).toNat).drop (s.1+1+s.2.1).toNat:=rfl
 rw [hF,hB]
 generalize aA a s=rs at *
 refine ⟨⟨hal,hs⟩,⟨by omega,by omega,hrl,by simp⟩,fun ⟨o,j⟩ ⟨g0,g1,_,g2⟩=>⟨fun hlt=>?_,fun hge=>?_⟩⟩
 ·have hlt:j<(rs.length:Int):=by simpa using hlt
  simp only at g0 g1 g2
  have e:=bj (0:Int) g0 hlt
  have hl:o.2.1.length=j.toNat:=by rw [g2]; simp; omega
  unfold az
  simp only [ak,List.length_cons,List.length_nil]
  refine ⟨g0,hlt,by omega,by omega,⟨by omega,by omega,hrl,?_⟩,by omega⟩
  rw [e,List.map_append,g2]
  rfl
 ·have hge:¬ j<(rs.length:Int):=by simpa using hge
  simp only at g0 g1 g2
  rw [bE hge] at g2
  simp only [ak]
  refine ⟨by omega,by omega,by omega,by omega,by omega,by omega,trivial,?_,trivial⟩
  rw [g2]
theorem um:t6.ok Tryz.prog 120:=aI (ann:=uN) (ae qg (ae gB ap)) Tryz.func120 (by kernel_rfl) rb
theorem bO {a:List Int} (h:(ao a).2.2=0):a.length≤256∧(ao a).1.length≤256∧(ao a).1=(aa a).1∧(aa a).2=0∧(ao a).2.1=bC (aa a).1∧eS (bC (aa a).1) a (aa a).1=true∧∀ s∈(ao a).1,bX a s∧ac s.2=0:=by
 unfold ao at h ⊢
 by_cases h1:(aa a).2≠0
 ·rw [if_pos h1] at h
  exact absurd h h1
 ·rw [if_neg h1] at h ⊢
  have h1:(aa a).2=0:=by omega
  by_cases h2:eS (bC (aa a).1) a (aa a).1=true
  ·rw [if_pos h2]
   exact ⟨(gm h1).1,cf a,rfl,h1,rfl,h2,(gm h1).2⟩
  ·rw [if_neg h2] at h
   simp at h
def BA:Spec:={ Ts:=[.arr bS,.fn bS .bool],Rs:=[.dat ty_I],pre:=fun ((l,g):List aw×(aw→Prop)×(aw→Bool))=>∀ s∈l,g.1 s,F:=fun ((l,g):List aw×(aw→Prop)×(aw→Bool))=>aj g.2 0 l }
def Cz:Nat→Option LoopGen
 | 2=>some { rd:=[.dat 0 (.arr bS),.dat 1 (.fn bS .bool)],A:=fun ((l,g):List aw×(aw→Prop)×(aw→Bool))=>{ cs:=[.dat 8 ty_I],inv:=fun (i:Int)=>0≤i∧i≤l.length∧aj g.2 i (l.drop i.toNat)=aj g.2 0 l,mu:=fun (i:Int)=>(l.length - i).toNat } }
 | _=>none
def r6:Prop :=
  ∀ (x:List (Int×Int×Int×Int×Bool)×(Int×Int×Int×Int×Bool→Prop)×(Int×Int×Int×Int×Bool→Bool)),(x.1.length * (8+(8+(8+(8+8))))≤az∧∀ (x_1:Int×Int×Int×Int×Bool),x_1∈x.1→ak IntKind.i64 x_1.1∧ak IntKind.i64 x_1.2.1∧ak IntKind.i64 x_1.2.2.1∧ak IntKind.i64 x_1.2.2.2.1∧True)∧True→(∀ (s:aw),s∈x.1→x.2.1 s)→((0:Int)≤0∧0≤(↑x.1.length:Int)∧aj x.2.2 0 (List.drop (Int.toNat 0) x.1)=aj x.2.2 0 x.1)∧∀ (x_1:Int),0≤x_1∧x_1≤(↑x.1.length:Int)∧aj x.2.2 x_1 (List.drop x_1.toNat x.1)=aj x.2.2 0 x.1→(decide (x_1<(↑x.1.length:Int))=true→0≤x_1∧x_1<(↑x.1.length:Int)∧x.2.1 (x.1.getD x_1.toNat (0,0,0,0,false))∧(x.2.2 (x.1.getD x_1.toNat (0,0,0,0,false))=true→x_1=aj x.2.2 0 x.1∧True)∧(x.2.2 (x.1.getD x_1.toNat (0,0,0,0,false))=false→ak IntKind.i64 (x_1+1)∧(0≤x_1+1∧x_1+1≤(↑x.1.length:Int)∧aj x.2.2 (x_1+1) (List.drop (x_1+1).toNat x.1)=aj x.2.2 0 x.1)∧((↑x.1.length:Int) - (x_1+1)).toNat<((↑x.1.length:Int) - x_1).toNat))∧(decide (x_1<(↑x.1.length:Int))=false→(-1)=aj x.2.2 0 x.1∧True)
theorem yC:r6:=by
 unfold r6
 intro ⟨l,g⟩ ⟨⟨hl,_⟩,_⟩ hp
 unfold az at *
 refine ⟨⟨by omega,by omega,by simp⟩,fun i ⟨h0,h1,h2⟩=>⟨fun hlt=>?_,fun hge=>?_⟩⟩
 ·have hlt:i<(l.length:Int):=by simpa using hlt
  have e:=aS ((0,0,0,0,false):aw) h0 hlt
  have hm:=hp _ (aD ((0,0,0,0,false):aw) h0 hlt)
  simp only at *
  rw [e] at h2
  simp only [aj] at h2
  refine ⟨h0,hlt,hm,fun hc=>?_,fun hc=>?_⟩
  ·rw [if_pos hc] at h2
   exact ⟨h2,trivial⟩
  ·rw [if_neg (by rw [hc]; simp)] at h2
   exact ⟨by simp only [ak]; omega,⟨by omega,by omega,h2⟩,by omega⟩
 ·rw [bn (by simpa using hge)] at h2
  exact ⟨h2,trivial⟩
theorem mM:BA.ok Tryz.prog 118:=aI (ann:=Cz) ap Tryz.func118 (by kernel_rfl) yC
def DV:Spec:={ Ts:=[bS,.ref ty_I],Rs:=[.dat .bool],pre:=fun _=>True,F:=fun ((s,at_):aw×Int)=>decide (s.1=at_) }
def vw:Prop :=
  ∀ (x:(Int×Int×Int×Int×Bool)×Int),(ak IntKind.i64 x.1.1∧ak IntKind.i64 x.1.2.1∧ak IntKind.i64 x.1.2.2.1∧ak IntKind.i64 x.1.2.2.2.1∧True)∧ak IntKind.i64 x.2→True→decide (x.1.1=x.2)=decide (x.1.1=x.2)∧True
theorem Bg:vw:=by
 unfold vw
 intro ⟨s,at_⟩ _ _
 simp
theorem Em:DV.ok Tryz.prog 119:=aI (ann:=cT) ap Tryz.func119 (by kernel_rfl) Bg
def qV:Obj:=(0,[],[],false)
def iN (a:List Int) (at_:Int):Obj×Int :=
 if (ao a).2.2≠0 then (qV,(ao a).2.2) else if aj (fun s=>decide (s.1=at_)) 0 (ao a).1<0 then (qV,5)
 else (gb a ((ao a).1.getD (aj (fun s=>decide (s.1=at_)) 0 (ao a).1).toNat (0,0,0,0,false)) (ao a).2.1,0)
def DF:Spec:={ Ts:=[.arr be,ty_I],Rs:=[.dat E8,.dat ty_I],al:=true,pre:=fun _=>True,F:=fun ((a,at_):List Int×Int)=>iN a at_ }
def vd:Prop :=
  ∀ (x:List Int×Int),(x.1.length * 8≤az∧∀ (x_1:Int),x_1∈x.1→ak IntKind.u64 x_1)∧ak IntKind.i64 x.2→True→True∧(decide ((ao x.1).2.2≠0)=true→(0,([]:List Int),([]:List Int),false)=(iN x.1 x.2).1∧(ao x.1).2.2=(iN x.1 x.2).2∧True)∧(decide ((ao x.1).2.2≠0)=false→(∀ (s:aw),s∈(ao x.1).1→(fun (_:Int×Int×Int×Int×Bool)=>True,fun (x_1:Int×Int×Int×Int×Bool)=>decide (x_1.1=x.2)).1 s)∧(decide (aj (fun (x_1:Int×Int×Int×Int×Bool)=>decide (x_1.1=x.2)) 0 (ao x.1).1<0)=true→(0,([]:List Int),([]:List Int),false)=(iN x.1 x.2).1∧5=(iN x.1 x.2).2∧True)∧(decide (aj (fun (x_1:Int×Int×Int×Int×Bool)=>decide (x_1.1=x.2)) 0 (ao x.1).1<0)=false→0≤aj (fun (x_1:Int×Int×Int×Int×Bool)=>decide (x_1.1=x.2)) 0 (ao x.1).1∧aj (fun (x_1:Int×Int×Int×Int×Bool)=>decide (x_1.1=x.2)) 0 (ao x.1).1<(↑(ao x.1).1.length:Int)∧(x.1.length≤256∧bX x.1 ((ao x.1).1.getD (aj (fun (x_1:Int×Int×Int×Int×Bool)=>decide (x_1.1=x.2)) 0 (ao x.1).1).toNat (0,0,0,0,false)))∧gb x.1 ((ao x.1).1.getD (aj (fun (x_1:Int×Int×Int×Int×Bool)=>decide (x_1.1=x.2)) 0 (ao x.1).1).toNat (0,0,0,0,false)) (ao x.1).2.1=(iN x.1 x.2).1∧0=(iN x.1 x.2).2∧True))
theorem A0:vd:=by
 unfold vd
 intro ⟨a,at_⟩ _ _
 have hin:=bO (a:=a)
 have hF:iN a at_=if (ao a).2.2≠0 then (qV,(ao a).2.2) else if aj (fun s=>decide (s.1=at_)) 0 (ao a).1<0 then (qV,5)
   else (gb a ((ao a).1.getD (aj (fun s=>decide (s.1=at_)) 0 (ao a).1).toNat (0,0,0,0,false)) (ao a).2.1,0):=rfl
 simp only at *
 generalize (ao a).1=l at *
 have hlt:=dG (fun s:aw=>decide (s.1=at_)) (0,0,0,0,false) l 0 (by omega)
 rw [hF]
 refine ⟨trivial,fun hc=>?_,fun hc=>⟨fun _ _=>trivial,fun h2=>?_,fun h2=>?_⟩⟩
 ·have hc:(ao a).2.2≠0:=by simpa using hc
  rw [if_pos hc]
  exact ⟨rfl,rfl,trivial⟩
 ·have hc:(ao a).2.2=0:=by simpa using hc
  rw [if_neg (by omega),if_pos (of_decide_eq_true h2)]
  exact ⟨rfl,rfl,trivial⟩
 ·have hc:(ao a).2.2=0:=by simpa using hc
  have h2:=of_decide_eq_false h2
  rw [if_neg (by omega),if_neg h2]
  obtain ⟨hal,hll,_,_,_,_,hsp⟩:=hin hc
  have hlt':aj (fun s:aw=>decide (s.1=at_)) 0 l<(l.length:Int):=by omega
  have h2':0≤aj (fun s:aw=>decide (s.1=at_)) 0 l:=Int.not_lt.1 h2
  exact ⟨h2',hlt',⟨hal,(hsp _ (aD _ h2' hlt')).1⟩,rfl,rfl,trivial⟩
theorem vJ:DF.ok Tryz.prog 83:=aI (ann:=cT) (ae mb (ae um (ae mM (ae Em ap)))) Tryz.func83 (by kernel_rfl) A0
end Go.Proofs.YtglchojglcobjaaGreat
