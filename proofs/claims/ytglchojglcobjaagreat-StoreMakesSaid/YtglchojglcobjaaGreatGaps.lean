
import Derived.Test.YtglchojglcobjaaGreatWalks
namespace Go.Proofs.YtglchojglcobjaaGreat
open Go
set_option maxRecDepth 100000
set_option maxHeartbeats 1000000
abbrev eP:Ty:=.pair ty_I ty_I
abbrev bK:=Int×Int
def BC:Spec:={ Ts:=[cN],Rs:=[.dat ty_I],pre:=fun _=>True,F:=fun (h:da)=>(if ac h=0 then ab h else 0:Int) }
def r8:Prop :=
  ∀ (x:Int×Int×Int×Bool),ak IntKind.i64 x.1∧ak IntKind.i64 x.2.1∧ak IntKind.i64 x.2.2.1∧True→True→True∧((if ac x=0 then ab x else 0)=if ac x=0 then ab x else 0)∧True
theorem yE:r8:=by
 unfold r8
 intro h _ _
 simp
theorem sr:BC.ok Tryz.prog 136:=aI (ann:=cT) (ae hZ ap) Tryz.func136 (by kernel_rfl) yE
def aE (a:List Int):List aw×Int:=if (ao a).2.2≠0 then ([],(ao a).2.2) else ((aa a).1,0)
def zd:Spec:={ Ts:=[.arr be],Rs:=[.own 95 bS,.dat ty_I],pre:=fun _=>True,F:=aE }
def p9:Prop :=
  ∀ (x:List Int),(x.length * 8≤az∧∀ (x_1:Int),x_1∈x→ak IntKind.u64 x_1)→True→True∧(decide ((ao x).2.2≠0)=true→([]:List (Int×Int×Int×Int×Bool))=(aE x).1∧(ao x).2.2=(aE x).2∧True)∧(decide ((ao x).2.2≠0)=false→True∧(aa x).1=(aE x).1∧(aa x).2=(aE x).2∧True)
theorem wH:p9:=by
 unfold p9
 intro a _ _
 have h:=bO (a:=a)
 unfold aE
 refine ⟨trivial,fun hc=>?_,fun hc=>?_⟩
 ·have hc:(ao a).2.2≠0:=by simpa using hc
  rw [if_pos hc]
  exact ⟨rfl,rfl,trivial⟩
 ·have hc:(ao a).2.2=0:=by simpa using hc
  obtain ⟨_,_,_,h4,_⟩:=h hc
  rw [if_neg (by omega),h4]
  exact ⟨trivial,rfl,rfl,trivial⟩
theorem kH:zd.ok Tryz.prog 121:=aI (ann:=cT) (ae hY (ae hI ap)) Tryz.func121 (by kernel_rfl) wH
def fl (out:List bK) (n:Int):List bK:=out.set (out.length - 1) ((out.getD (out.length - 1) (0,0)).1,(out.getD (out.length - 1) (0,0)).2+n)
def aL:Bool→List bK→List aw→List bK
 | _,out,[]=>out
 | p,out,s::l=>aL s.2.2.2.2 (if s.2.2.2.2=true then (if p=true then fl out (ab s.2) else out++[(s.1,ab s.2)]) else out) l
theorem cZ (out:List bK) (n:Int):(fl out n).length=out.length:=by simp [fl]
def cJ (l:List aw) (i:Int):Bool:=decide (0<i)&&(l.getD (i - 1).toNat (0,0,0,0,false)).2.2.2.2
def CB:Nat→Option LoopGen
 | 3=>some { rd:=[.dat 6 (.arr bS)],A:=fun (l:List aw)=>{ cs:=[.own 3 42 eP,.dat 8 ty_I],inv:=fun ((out,i):List bK×Int)=>0≤i∧i≤l.length∧l.length≤256∧(∀ s∈l,ac s.2=0)∧out.length≤i∧(cJ l i=true→0<out.length)∧(∀ r∈out,0≤r.2∧r.2≤256 * i)∧aL (cJ l i) out (l.drop i.toNat)=aL false [] l,mu:=fun ((_,i):List bK×Int)=>(l.length - i).toNat } }
 | _=>none
def BE:Spec:={ Ts:=[.arr bS],Rs:=[.own 42 eP],pre:=fun (l:List aw)=>l.length≤256∧∀ s∈l,ac s.2=0,F:=fun (l:List aw)=>aL false [] l }
def sa:Prop :=
  ∀ (x:List (Int×Int×Int×Int×Bool)),(x.length * (8+(8+(8+(8+8))))≤az∧∀ (x_1:Int×Int×Int×Int×Bool),x_1∈x→ak IntKind.i64 x_1.1∧ak IntKind.i64 x_1.2.1∧ak IntKind.i64 x_1.2.2.1∧ak IntKind.i64 x_1.2.2.2.1∧True)→(x.length≤256∧∀ (s:aw),s∈x→ac s.2=0)→((0:Int)≤0∧0≤(↑x.length:Int)∧x.length≤256∧(∀ (s:aw),s∈x→ac s.2=0)∧(↑0:Int)≤0∧(cJ x 0=true→(0:Nat)<0)∧(∀ (r:bK),r∈([]:List (Int×Int))→0≤r.2∧r.2≤256 * 0)∧aL (cJ x 0) ([]:List (Int×Int)) (List.drop (Int.toNat 0) x)=aL false ([]:List bK) x)∧∀ (x_1:List (Int×Int)×Int),0≤x_1.2∧x_1.2≤(↑x.length:Int)∧x.length≤256∧(∀ (s:aw),s∈x→ac s.2=0)∧(↑x_1.1.length:Int)≤x_1.2∧(cJ x x_1.2=true→0<x_1.1.length)∧(∀ (r:bK),r∈x_1.1→0≤r.2∧r.2≤256 * x_1.2)∧aL (cJ x x_1.2) x_1.1 (List.drop x_1.2.toNat x)=aL false ([]:List bK) x→(decide (x_1.2<(↑x.length:Int))=true→0≤x_1.2∧x_1.2<(↑x.length:Int)∧((!(x.getD x_1.2.toNat (0,0,0,0,false)).2.2.2.2)=true→ak IntKind.i64 (x_1.2+1)∧(0≤x_1.2+1∧x_1.2+1≤(↑x.length:Int)∧x.length≤256∧(∀ (s:aw),s∈x→ac s.2=0)∧(↑x_1.1.length:Int)≤x_1.2+1∧(cJ x (x_1.2+1)=true→0<x_1.1.length)∧(∀ (r:bK),r∈x_1.1→0≤r.2∧r.2≤256 * (x_1.2+1))∧aL (cJ x (x_1.2+1)) x_1.1 (List.drop (x_1.2+1).toNat x)=aL false ([]:List bK) x)∧((↑x.length:Int) - (x_1.2+1)).toNat<((↑x.length:Int) - x_1.2).toNat)∧((!(x.getD x_1.2.toNat (0,0,0,0,false)).2.2.2.2)=false→(decide (0<x_1.2)=true→ak IntKind.i64 (x_1.2 - 1))∧(decide (0<x_1.2)=true→0≤x_1.2 - 1)∧(decide (0<x_1.2)=true→x_1.2 - 1<(↑x.length:Int))∧((decide (0<x_1.2)&&(x.getD (x_1.2 - 1).toNat (0,0,0,0,false)).2.2.2.2)=true→ak IntKind.i64 ((↑x_1.1.length:Int) - 1)∧0≤(↑x_1.1.length:Int) - 1∧(↑x_1.1.length:Int) - 1<(↑x_1.1.length:Int)∧((↑x_1.1.length:Int) - 1).toNat<x_1.1.length∧True∧ak IntKind.i64 ((x_1.1.getD ((↑x_1.1.length:Int) - 1).toNat (0,0)).2+if ac (x.getD x_1.2.toNat (0,0,0,0,false)).2=0 then ab (x.getD x_1.2.toNat (0,0,0,0,false)).2 else 0)∧0≤(↑x_1.1.length:Int) - 1∧(↑x_1.1.length:Int) - 1<(↑x_1.1.length:Int)∧((↑x_1.1.length:Int) - 1).toNat<x_1.1.length∧ak IntKind.i64 (x_1.2+1)∧(0≤x_1.2+1∧x_1.2+1≤(↑x.length:Int)∧x.length≤256∧(∀ (s:aw),s∈x→ac s.2=0)∧(↑(x_1.1.set ((↑x_1.1.length:Int) - 1).toNat ((x_1.1.getD ((↑x_1.1.length:Int) - 1).toNat (0,0)).1,(x_1.1.getD ((↑x_1.1.length:Int) - 1).toNat (0,0)).2+if ac (x.getD x_1.2.toNat (0,0,0,0,false)).2=0 then ab (x.getD x_1.2.toNat (0,0,0,0,false)).2 else 0)).length:Int)≤x_1.2+1∧(cJ x (x_1.2+1)=true→0<(x_1.1.set ((↑x_1.1.length:Int) - 1).toNat ((x_1.1.getD ((↑x_1.1.length:Int) - 1).toNat (0,0)).1,(x_1.1.getD ((↑x_1.1.length:Int) - 1).toNat (0,0)).2+if ac (x.getD x_1.2.toNat (0,0,0,0,false)).2=0 then ab (x.getD x_1.2.toNat (0,0,0,0,false)).2 else 0)).length)∧(∀ (r:bK),r∈x_1.1.set ((↑x_1.1.length:Int) - 1).toNat ((x_1.1.getD ((↑x_1.1.length:Int) - 1).toNat (0,0)).1,(x_1.1.getD ((↑x_1.1.length:Int) - 1).toNat (0,0)).2+if ac (x.getD x_1.2.toNat (0,0,0,0,false)).2=0 then ab (x.getD x_1.2.toNat (0,0,0,0,false)).2 else 0)→0≤r.2∧r.2≤256 * (x_1.2+1))∧aL (cJ x (x_1.2+1)) (x_1.1.set ((↑x_1.1.length:Int) - 1).toNat ((x_1.1.getD ((↑x_1.1.length:Int) - 1).toNat (0,0)).1,(x_1.1.getD ((↑x_1.1.length:Int) - 1).toNat (0,0)).2+if ac (x.getD x_1.2.toNat (0,0,0,0,false)).2=0 then ab (x.getD x_1.2.toNat (0,0,0,0,false)).2 else 0)) (List.drop (x_1.2+1).toNat x)=aL false ([]:List bK) x)∧((↑x.length:Int) - (x_1.2+1)).toNat<((↑x.length:Int) - x_1.2).toNat)∧((decide (0<x_1.2)&&(x.getD (x_1.2 - 1).toNat (0,0,0,0,false)).2.2.2.2)=false→True∧(x_1.1.length+[((x.getD x_1.2.toNat (0,0,0,0,false)).1,if ac (x.getD x_1.2.toNat (0,0,0,0,false)).2=0 then ab (x.getD x_1.2.toNat (0,0,0,0,false)).2 else 0)].length) * (8+8)≤az∧ak IntKind.i64 (x_1.2+1)∧(0≤x_1.2+1∧x_1.2+1≤(↑x.length:Int)∧x.length≤256∧(∀ (s:aw),s∈x→ac s.2=0)∧(↑(x_1.1++[((x.getD x_1.2.toNat (0,0,0,0,false)).1,if ac (x.getD x_1.2.toNat (0,0,0,0,false)).2=0 then ab (x.getD x_1.2.toNat (0,0,0,0,false)).2 else 0)]).length:Int)≤x_1.2+1∧(cJ x (x_1.2+1)=true→0<(x_1.1++[((x.getD x_1.2.toNat (0,0,0,0,false)).1,if ac (x.getD x_1.2.toNat (0,0,0,0,false)).2=0 then ab (x.getD x_1.2.toNat (0,0,0,0,false)).2 else 0)]).length)∧(∀ (r:bK),r∈x_1.1++[((x.getD x_1.2.toNat (0,0,0,0,false)).1,if ac (x.getD x_1.2.toNat (0,0,0,0,false)).2=0 then ab (x.getD x_1.2.toNat (0,0,0,0,false)).2 else 0)]→0≤r.2∧r.2≤256 * (x_1.2+1))∧aL (cJ x (x_1.2+1)) (x_1.1++[((x.getD x_1.2.toNat (0,0,0,0,false)).1,if ac (x.getD x_1.2.toNat (0,0,0,0,false)).2=0 then ab (x.getD x_1.2.toNat (0,0,0,0,false)).2 else 0)]) (List.drop (x_1.2+1).toNat x)=aL false ([]:List bK) x)∧((↑x.length:Int) - (x_1.2+1)).toNat<((↑x.length:Int) - x_1.2).toNat)))∧(decide (x_1.2<(↑x.length:Int))=false→x_1.1=aL false ([]:List bK) x∧True)
theorem yG:sa:=by
 unfold sa
 intro l ⟨hb,_⟩ ⟨hl,hf⟩
 refine ⟨⟨by omega,by omega,hl,hf,by simp,by simp [cJ],by simp,by simp [cJ]⟩,fun ⟨out,i⟩ ⟨h0,h1,_,_,h2,h3,h4,h5⟩=>⟨fun hlt=>?_,fun hge=>?_⟩⟩
 ·have hlt:i<(l.length:Int):=of_decide_eq_true hlt
  simp only at h0 h1 h2 h3 h4 h5 ⊢
  rw [aS ((0,0,0,0,false):aw) h0 hlt] at h5
  simp only [aL] at h5
  have hs:=hf _ (aD ((0,0,0,0,false):aw) h0 hlt)
  have hlf:cJ l (i+1)=(l.getD i.toNat (0,0,0,0,false)).2.2.2.2:=by
   unfold cJ
   rw [show i+1 - 1=i by omega]
   simp
   omega
  rw [hlf,if_pos hs]
  have hz:=a8 hs
  have hL:ab (l.getD i.toNat (0,0,0,0,false)).2=1+(l.getD i.toNat (0,0,0,0,false)).2.1+(l.getD i.toNat (0,0,0,0,false)).2.2.1:=rfl
  have hlfi:cJ l i=(decide (0<i)&&(l.getD (i - 1).toNat (0,0,0,0,false)).2.2.2.2):=rfl
  rw [← hlfi]
  generalize l.getD i.toNat (0,0,0,0,false)=s at *
  generalize ab s.2=L at *
  simp only [ak]
  refine ⟨h0,hlt,fun hc=>?_,fun hc=>⟨fun hp=>by have:=of_decide_eq_true hp; omega,fun hp=>by have:=of_decide_eq_true hp; omega,fun _=>by omega,fun hp=>?_,fun hp=>?_⟩⟩
  ·have hc:s.2.2.2.2=false:=by simpa using hc
   rw [hc] at h5 ⊢
   simp only [Bool.false_eq_true,if_false] at h5
   exact ⟨by omega,⟨by omega,by omega,hl,hf,by omega,fun h=>by simp at h,fun r hr=>by have:=h4 r hr; omega,h5⟩,by omega⟩
  ·have hc:s.2.2.2.2=true:=by simpa using hc
   rw [hc,hp] at h5
   simp only [if_true] at h5
   rw [hc]
   have hlen:=h3 hp
   have hlast:=h4 _ (aD ((0,0):bK) (xs:=out) (i:=(out.length:Int) - 1) (by omega) (by omega))
   have e:((out.length:Int) - 1).toNat=out.length - 1:=by omega
   rw [e] at hlast ⊢
   have hbump:out.set (out.length - 1) ((out.getD (out.length - 1) (0,0)).1,(out.getD (out.length - 1) (0,0)).2+L)=fl out L:=rfl
   rw [hbump]
   rw [cZ]
   refine ⟨by omega,by omega,by omega,by omega,trivial,by omega,by omega,by omega,by omega,by omega,⟨by omega,by omega,hl,hf,by omega,fun _=>hlen,fun r hr=>?_,h5⟩,by omega⟩
   rcases List.mem_or_eq_of_mem_set hr with hr | rfl
   ·have:=h4 r hr; omega
   ·simp only; omega
  ·have hc:s.2.2.2.2=true:=by simpa using hc
   rw [hc,hp] at h5
   simp only [if_true,Bool.false_eq_true,if_false] at h5
   rw [hc]
   unfold az
   simp only [List.length_append,List.length_cons,List.length_nil]
   refine ⟨trivial,by omega,by omega,⟨by omega,by omega,hl,hf,by omega,fun _=>by omega,fun r hr=>?_,h5⟩,by omega⟩
   rcases List.mem_append.1 hr with hr | hr
   ·have:=h4 r hr; omega
   ·simp only [List.mem_singleton] at hr
    subst hr
    simp only
    omega
 ·have hge:¬ i<(l.length:Int):=of_decide_eq_false hge
  simp only at h5
  rw [bn hge] at h5
  exact ⟨h5,trivial⟩
theorem su:BE.ok Tryz.prog 122:=aI (ann:=CB) (ae sr ap) Tryz.func122 (by kernel_rfl) yG
def au (a:List Int):List bK×Int:=if (ao a).2.2≠0 then ([],(ao a).2.2) else (aL false [] (aa a).1,0)
def zc:Spec:={ Ts:=[.arr be],Rs:=[.own 42 eP,.dat ty_I],pre:=fun _=>True,F:=au }
def p8:Prop :=
  ∀ (x:List Int),(x.length * 8≤az∧∀ (x_1:Int),x_1∈x→ak IntKind.u64 x_1)→True→True∧(decide ((aE x).2≠0)=true→([]:List (Int×Int))=(au x).1∧(aE x).2=(au x).2∧True)∧(decide ((aE x).2≠0)=false→((aE x).1.length≤256∧∀ (s:aw),s∈(aE x).1→ac s.2=0)∧aL false ([]:List bK) (aE x).1=(au x).1∧0=(au x).2∧True)
theorem wG:p8:=by
 unfold p8
 intro a _ _
 have h:=bO (a:=a)
 have hlen:=cf a
 unfold aE au
 refine ⟨trivial,fun hc=>?_,fun hc=>?_⟩
 ·have hc:(ao a).2.2≠0:=by
   intro e
   rw [if_neg (by omega)] at hc
   simp at hc
  rw [if_pos hc,if_pos hc]
  exact ⟨rfl,rfl,trivial⟩
 ·have hc:(ao a).2.2=0:=by
   apply Classical.byContradiction
   intro e
   rw [if_pos e] at hc
   simp [e] at hc
  obtain ⟨_,_,h3,h4,_,_,h5⟩:=h hc
  rw [if_neg (by omega),if_neg (by omega)]
  rw [h3] at h5
  exact ⟨⟨hlen,fun s hs=>(h5 s hs).2⟩,rfl,rfl,trivial⟩
theorem qk:zc.ok Tryz.prog 84:=aI (ann:=cT) (ae kH (ae su ap)) Tryz.func84 (by kernel_rfl) wG
def aG (a:List Int) (at_ n:Int):List Int:=if 0<n then (dj a at_ n 0 n).set at_.toNat (aR (0,n - 1,0,true)) else a
def df (a:List Int) (at_ n:Int):Prop:=0≤at_∧0≤n∧at_+n≤a.length∧a.length≤256
theorem sV {a:List Int} {at_ n v:Int} (h:df a at_ n):gl a at_ n v=(dj a at_ n v n,0):=by
 obtain ⟨h1,h2,h3,h4⟩:=h
 have:dT a.length n [at_]=0:=by
  rw [yM,if_neg (by omega),if_pos]
  rw [lN]
  omega
 unfold gl
 rw [if_pos this]
def G0:Spec:={ Ts:=[.arr be,ty_I,ty_I],Rs:=[.own 50 be],pre:=fun ((a,at_,n):List Int×Int×Int)=>df a at_ n∧1≤n,F:=fun ((a,at_,n):List Int×Int×Int)=>aG a at_ n }
def CM:Prop :=
  ∀ (x:List Int×Int×Int),(x.1.length * 8≤az∧∀ (x_1:Int),x_1∈x.1→ak IntKind.u64 x_1)∧ak IntKind.i64 x.2.1∧ak IntKind.i64 x.2.2→df x.1 x.2.1 x.2.2∧1≤x.2.2→(decide (x.2.2=0)=true→False)∧(decide (x.2.2=0)=false→ak IntKind.i64 (x.2.2 - 1)∧True∧True∧0≤x.2.1∧x.2.1<(↑(gl x.1 x.2.1 x.2.2 0).1.length:Int)∧x.2.1.toNat<(gl x.1 x.2.1 x.2.2 0).1.length∧(gl x.1 x.2.1 x.2.2 0).1.set x.2.1.toNat (if ac (0,x.2.2 - 1,0,true)=0 then aR (0,x.2.2 - 1,0,true) else 0)=aG x.1 x.2.1 x.2.2∧True)
theorem E0:CM:=by
 unfold CM
 intro ⟨a,at_,n⟩ _ ⟨hp,h1⟩
 simp only at hp h1 ⊢
 rw [sV hp]
 obtain ⟨p1,p2,p3,p4⟩:=hp
 have hf:ac (0,n - 1,0,true)=0:=by simp [ac,ab]; omega
 have hl:=dH a at_ n 0 n p1 p3 p2 (by omega)
 rw [if_pos hf]
 have hE:aG a at_ n=(dj a at_ n 0 n).set at_.toNat (aR (0,n - 1,0,true)):=by unfold aG; rw [if_pos (by omega)]
 rw [hE]
 simp only [ak]
 exact ⟨fun h=>by have:=of_decide_eq_true h; omega,fun _=>⟨by omega,trivial,trivial,by omega,by omega,by omega,trivial,trivial⟩⟩
theorem Ha:G0.ok Tryz.prog 133:=aI (ann:=cT) (ae i9 (ae kD ap)) Tryz.func133 (by kernel_rfl) E0
def GZ:Spec:={ Ts:=[.arr be,ty_I,ty_I],Rs:=[.dat (.arr be)],al:=true,pre:=fun ((a,at_,n):List Int×Int×Int)=>df a at_ n,F:=fun ((a,at_,n):List Int×Int×Int)=>aG a at_ n }
def CL:Prop :=
  ∀ (x:List Int×Int×Int),(x.1.length * 8≤az∧∀ (x_1:Int),x_1∈x.1→ak IntKind.u64 x_1)∧ak IntKind.i64 x.2.1∧ak IntKind.i64 x.2.2→df x.1 x.2.1 x.2.2→(decide (x.2.2=0)=true→x.1=aG x.1 x.2.1 x.2.2∧True)∧(decide (x.2.2=0)=false→ak IntKind.i64 (x.2.2 - 1)∧True∧True∧0≤x.2.1∧x.2.1<(↑(gl x.1 x.2.1 x.2.2 0).1.length:Int)∧x.2.1.toNat<(gl x.1 x.2.1 x.2.2 0).1.length∧(gl x.1 x.2.1 x.2.2 0).1.set x.2.1.toNat (if ac (0,x.2.2 - 1,0,true)=0 then aR (0,x.2.2 - 1,0,true) else 0)=aG x.1 x.2.1 x.2.2∧True)
theorem EZ:CL:=by
 unfold CL
 intro ⟨a,at_,n⟩ _ hp
 simp only at hp ⊢
 rw [sV hp]
 obtain ⟨p1,p2,p3,p4⟩:=hp
 refine ⟨fun h=>?_,fun h=>?_⟩
 ·have h:=of_decide_eq_true h
  unfold aG
  rw [if_neg (by omega)]
  exact ⟨rfl,trivial⟩
 ·have h:=of_decide_eq_false h
  have hf:ac (0,n - 1,0,true)=0:=by simp [ac,ab]; omega
  have hl:=dH a at_ n 0 n p1 p3 p2 (by omega)
  rw [if_pos hf]
  have hE:aG a at_ n=(dj a at_ n 0 n).set at_.toNat (aR (0,n - 1,0,true)):=by unfold aG; rw [if_pos (by omega)]
  rw [hE]
  simp only [ak]
  exact ⟨by omega,trivial,trivial,by omega,by omega,by omega,trivial,trivial⟩
theorem G9:GZ.ok Tryz.prog 133:=aI (ann:=cT) (ae i9 (ae kD ap)) Tryz.func133 (by kernel_rfl) EZ
def c7 (a:List Int):List Int×Int:=if (ao a).2.2≠0 then ([],(ao a).2.2) else ((aL false [] (aa a).1).foldl (fun a r=>aG a r.1 r.2) a,0)
theorem gV {a:List Int} {at_ n:Int} (h:df a at_ n):(aG a at_ n).length=a.length:=by
 obtain ⟨p1,p2,p3,p4⟩:=h
 unfold aG
 split
 ·rw [List.length_set]
  exact dH a at_ n 0 n p1 p3 p2 (by omega)
 ·rfl
def eK:Int→Int→List aw→Prop
 | s,e,[]=>s=e
 | s,e,x::r=>x.1=s∧1≤ab x.2∧eK (s+ab x.2) e r
theorem ng (at_:Int) (l:List Int) (r:List aw) (h:spotsS at_ l=some r):eK at_ (at_+l.length) r:=by
 induction at_,l using spotsS.induct generalizing r with
 | case1 at_ =>
  simp only [spotsS,Option.some.injEq] at h
  subst h
  simp [eK]
 | case2 at_ v l hv ih =>
  rw [ed hv.1 hv.2] at h
  obtain ⟨r',hr,rfl⟩:=Option.map_eq_some_iff.1 h
  have hl:=eg hv.1
  have h2:=ih r' hr
  refine ⟨rfl,hl.1,?_⟩
  have e:at_+ab (aH v)+(((v::l).drop (ab (aH v)).toNat).length:Nat)=at_+((v::l).length:Nat):=by
   rw [List.length_drop]
   have:=hv.2
   omega
  rw [e] at h2
  exact h2
 | case3 at_ v l hv =>
  rw [eb hv] at h
  cases h
theorem fY {a:List Int} (h:(aa a).2=0):eK 0 a.length (aa a).1:=by
 unfold aa at h ⊢
 split at h
 ·simp at h
 rename_i cl
 rw [if_neg cl]
 cases e:spotsS 0 a with
 | none=>rw [e] at h; simp at h
 | some l =>
  have:=ng 0 a l e
  rw [Int.zero_add] at this
  exact this
def kR (n:Int) (l:List bK):Prop:=∀ r∈l,0≤r.1∧1≤r.2∧r.1+r.2≤n
theorem oc:∀ (l:List aw) (s e:Int) (p:Bool) (out:List bK),eK s e l→0≤s→kR s out→(p=true→0<out.length∧(out.getD (out.length - 1) (0,0)).1+(out.getD (out.length - 1) (0,0)).2=s)→kR e (aL p out l)∧s≤e
 | [],s,e,p,out,ht,h0,ho,_=>by
  have:s=e:=ht
  subst this
  exact ⟨ho,Int.le_refl _⟩
 | x::l,s,e,p,out,⟨h1,h2,h3⟩,h0,ho,hp=>by
  simp only [aL]
  have up:kR (s+ab x.2) out:=fun r hr=>by have:=ho r hr; omega
  cases hf:x.2.2.2.2
  ·have ih:=oc l _ e false out h3 (by omega) up (fun h=>by cases h)
   simp only [Bool.false_eq_true,if_false]
   exact ⟨ih.1,by omega⟩
  ·simp only [if_true]
   cases p
   ·have ih:=oc l _ e true (out++[(x.1,ab x.2)]) h3 (by omega) (fun r hr=>by
     rcases List.mem_append.1 hr with hr | hr
     ·exact up r hr
     ·simp only [List.mem_singleton] at hr
      subst hr
      simp only
      omega) (fun _=>⟨by simp,by simp; omega⟩)
    simp only [Bool.false_eq_true,if_false]
    exact ⟨ih.1,by omega⟩
   ·obtain ⟨q1,q2⟩:=hp rfl
    have hlast:=ho _ (aD ((0,0):bK) (xs:=out) (i:=(out.length:Int) - 1) (by omega) (by omega))
    rw [show ((out.length:Int) - 1).toNat=out.length - 1 by omega] at hlast
    have ih:=oc l _ e true (fl out (ab x.2)) h3 (by omega) (fun r hr=>by
     rcases List.mem_or_eq_of_mem_set hr with hr | rfl
     ·exact up r hr
     ·simp only
      omega) (fun _=>⟨by rw [cZ]; exact q1,by
       rw [cZ]
       unfold fl
       simp [show out.length - 1<out.length by omega]
       simp [show out.length - 1<out.length by omega] at q2
       omega⟩)
    simp only [if_true]
    exact ⟨ih.1,by omega⟩
theorem ob:∀ (l:List aw) (p:Bool) (out:List bK),(aL p out l).length≤out.length+l.length
 | [],_,_=>by simp [aL]
 | x::l,p,out=>by
  have h1:=ob l x.2.2.2.2 (if x.2.2.2.2=true then (if p=true then fl out (ab x.2) else out++[(x.1,ab x.2)]) else out)
  simp only [aL,List.length_cons]
  have:(if x.2.2.2.2=true then (if p=true then fl out (ab x.2) else out++[(x.1,ab x.2)]) else out).length≤out.length+1:=by
   split
   ·split
    ·rw [cZ]; omega
    ·simp
   ·omega
  omega
theorem oa {a:List Int} (h:(aa a).2=0):kR a.length (aL false [] (aa a).1)∧(aL false [] (aa a).1).length≤256:=by
 have h1:=oc _ 0 a.length false [] (fY h) (Int.le_refl _) (fun r hr=>by cases hr) (fun h=>by cases h)
 have h2:=ob (aa a).1 false []
 have h3:=cf a
 exact ⟨h1.1,by simp at h2; omega⟩
def CA:Nat→Option LoopGen
 | 6=>some { rd:=[.own 19 42 eP,.own 0 50 be],A:=fun ((g,b):List bK×List Int)=>{ cs:=[.own 0 50 be,.dat 21 ty_I],inv:=fun ((a,i):List Int×Int)=>0≤i∧i≤g.length∧g.length≤256∧a.length≤256∧kR a.length g∧a=(g.take i.toNat).foldl (fun a r=>aG a r.1 r.2) b,mu:=fun ((_,i):List Int×Int)=>(g.length - i).toNat } }
 | _=>none
def BD:Spec:={ Ts:=[.arr be],Rs:=[.own 50 be,.dat ty_I],pre:=fun _=>True,F:=c7 }
def r9:Prop :=
  ∀ (x:List Int),(x.length * 8≤az∧∀ (x_1:Int),x_1∈x→ak IntKind.u64 x_1)→True→True∧(decide ((aE x).2≠0)=true→([]:List Int)=(c7 x).1∧(aE x).2=(c7 x).2∧True)∧(decide ((aE x).2≠0)=false→True∧((aE x).1.length≤256∧∀ (s:aw),s∈(aE x).1→ac s.2=0)∧((0:Int)≤0∧0≤(↑(aL false ([]:List bK) (aE x).1).length:Int)∧(aL false ([]:List bK) (aE x).1).length≤256∧x.length≤256∧kR (↑x.length:Int) (aL false ([]:List bK) (aE x).1)∧x=List.foldl (fun (a:List Int) (r:bK)=>aG a r.1 r.2) x (List.take (Int.toNat 0) (aL false ([]:List bK) (aE x).1)))∧∀ (x_1:List Int×Int),0≤x_1.2∧x_1.2≤(↑(aL false ([]:List bK) (aE x).1).length:Int)∧(aL false ([]:List bK) (aE x).1).length≤256∧x_1.1.length≤256∧kR (↑x_1.1.length:Int) (aL false ([]:List bK) (aE x).1)∧x_1.1=List.foldl (fun (a:List Int) (r:bK)=>aG a r.1 r.2) x (List.take x_1.2.toNat (aL false ([]:List bK) (aE x).1))→(decide (x_1.2<(↑(aL false ([]:List bK) (aE x).1).length:Int))=true→0≤x_1.2∧x_1.2<(↑(aL false ([]:List bK) (aE x).1).length:Int)∧x_1.2.toNat<(aL false ([]:List bK) (aE x).1).length∧(df x_1.1 ((aL false ([]:List bK) (aE x).1).getD x_1.2.toNat (0,0)).1 ((aL false ([]:List bK) (aE x).1).getD x_1.2.toNat (0,0)).2∧1≤((aL false ([]:List bK) (aE x).1).getD x_1.2.toNat (0,0)).2)∧ak IntKind.i64 (x_1.2+1)∧(0≤x_1.2+1∧x_1.2+1≤(↑(aL false ([]:List bK) (aE x).1).length:Int)∧(aL false ([]:List bK) (aE x).1).length≤256∧(aG x_1.1 ((aL false ([]:List bK) (aE x).1).getD x_1.2.toNat (0,0)).1 ((aL false ([]:List bK) (aE x).1).getD x_1.2.toNat (0,0)).2).length≤256∧kR (↑(aG x_1.1 ((aL false ([]:List bK) (aE x).1).getD x_1.2.toNat (0,0)).1 ((aL false ([]:List bK) (aE x).1).getD x_1.2.toNat (0,0)).2).length:Int) (aL false ([]:List bK) (aE x).1)∧aG x_1.1 ((aL false ([]:List bK) (aE x).1).getD x_1.2.toNat (0,0)).1 ((aL false ([]:List bK) (aE x).1).getD x_1.2.toNat (0,0)).2=List.foldl (fun (a:List Int) (r:bK)=>aG a r.1 r.2) x (List.take (x_1.2+1).toNat (aL false ([]:List bK) (aE x).1)))∧((↑(aL false ([]:List bK) (aE x).1).length:Int) - (x_1.2+1)).toNat<((↑(aL false ([]:List bK) (aE x).1).length:Int) - x_1.2).toNat)∧(decide (x_1.2<(↑(aL false ([]:List bK) (aE x).1).length:Int))=false→x_1.1=(c7 x).1∧0=(c7 x).2∧True))
theorem yF:r9:=by
 unfold r9
 intro a _ _
 have h:=bO (a:=a)
 have hlen:=cf a
 unfold aE c7
 refine ⟨trivial,fun hc=>?_,fun hc=>?_⟩
 ·have hc:(ao a).2.2≠0:=by
   intro e
   rw [if_neg (by omega)] at hc
   simp at hc
  rw [if_pos hc,if_pos hc]
  exact ⟨rfl,rfl,trivial⟩
 ·have hc:(ao a).2.2=0:=by
   apply Classical.byContradiction
   intro e
   rw [if_pos e] at hc
   simp [e] at hc
  obtain ⟨hal,_,h3,h4,_,_,h5⟩:=h hc
  rw [if_neg (by omega),if_neg (by omega)]
  rw [h3] at h5
  obtain ⟨g1,g2⟩:=oa h4
  simp only
  generalize aL false [] (aa a).1=g at *
  refine ⟨trivial,⟨hlen,fun s hs=>(h5 s hs).2⟩,⟨by omega,by omega,g2,hal,g1,rfl⟩,fun ⟨b,i⟩ ⟨q0,q1,_,q2,q3,q4⟩=>⟨fun hlt=>?_,fun hge=>?_⟩⟩
  ·have hlt:i<(g.length:Int):=of_decide_eq_true hlt
   simp only at q0 q1 q2 q3 q4 ⊢
   have e:=bj ((0,0):bK) q0 hlt
   have hr:=q3 _ (aD ((0,0):bK) q0 hlt)
   rw [e,List.foldl_append,← q4]
   generalize g.getD i.toNat (0,0)=r at *
   have hp:df b r.1 r.2:=⟨hr.1,by omega,hr.2.2,q2⟩
   rw [gV hp]
   simp only [ak]
   exact ⟨q0,hlt,by omega,⟨hp,hr.2.1⟩,by omega,⟨by omega,by omega,g2,q2,q3,rfl⟩,by omega⟩
  ·have hge:¬ i<(g.length:Int):=of_decide_eq_false hge
   simp only at q4
   rw [bE hge] at q4
   exact ⟨q4,trivial,trivial⟩
theorem BW:BD.ok Tryz.prog 102:=aI (ann:=CA) (ae kH (ae gB (ae su (ae Ha ap)))) Tryz.func102 (by kernel_rfl) yF
def br (l:List aw) (at_:Int) (fr:Bool):aw×Bool :=
 if aj (fun s:aw=>decide (s.1=at_)&&s.2.2.2.2 == fr) 0 l<0 then ((0,0,0,0,false),false) else (l.getD (aj (fun s:aw=>decide (s.1=at_)&&s.2.2.2.2 == fr) 0 l).toNat (0,0,0,0,false),true)
def Fn:Spec:={ Ts:=[bS,.ref ty_I,.ref .bool],Rs:=[.dat .bool],pre:=fun _=>True,F:=fun ((s,at_,fr):aw×Int×Bool)=>decide (s.1=at_)&&s.2.2.2.2 == fr }
def zE:Prop :=
  ∀ (x:(Int×Int×Int×Int×Bool)×Int×Bool),(ak IntKind.i64 x.1.1∧ak IntKind.i64 x.1.2.1∧ak IntKind.i64 x.1.2.2.1∧ak IntKind.i64 x.1.2.2.2.1∧True)∧ak IntKind.i64 x.2.1∧True→True→(decide (x.1.1=x.2.1)&&x.1.2.2.2.2 == x.2.2)=(decide (x.1.1=x.2.1)&&x.1.2.2.2.2 == x.2.2)∧True
theorem Dw:zE:=by
 unfold zE
 intro ⟨s,at_,fr⟩ _ _
 simp
theorem FN:Fn.ok Tryz.prog 156:=aI (ann:=cT) ap Tryz.func156 (by kernel_rfl) Dw
def BG:Spec:={ Ts:=[.arr bS,ty_I,.bool],Rs:=[.dat bS,.dat .bool],pre:=fun _=>True,F:=fun ((l,at_,fr):List aw×Int×Bool)=>br l at_ fr }
def sb:Prop :=
  ∀ (x:List (Int×Int×Int×Int×Bool)×Int×Bool),(x.1.length * (8+(8+(8+(8+8))))≤az∧∀ (x_1:Int×Int×Int×Int×Bool),x_1∈x.1→ak IntKind.i64 x_1.1∧ak IntKind.i64 x_1.2.1∧ak IntKind.i64 x_1.2.2.1∧ak IntKind.i64 x_1.2.2.2.1∧True)∧ak IntKind.i64 x.2.1∧True→True→(∀ (s:aw),s∈x.1→(fun (_:Int×Int×Int×Int×Bool)=>True,fun (x_1:Int×Int×Int×Int×Bool)=>decide (x_1.1=x.2.1)&&x_1.2.2.2.2 == x.2.2).1 s)∧(decide (aj (fun (x_1:Int×Int×Int×Int×Bool)=>decide (x_1.1=x.2.1)&&x_1.2.2.2.2 == x.2.2) 0 x.1<0)=true→(0,0,0,0,false)=(br x.1 x.2.1 x.2.2).1∧false=(br x.1 x.2.1 x.2.2).2∧True)∧(decide (aj (fun (x_1:Int×Int×Int×Int×Bool)=>decide (x_1.1=x.2.1)&&x_1.2.2.2.2 == x.2.2) 0 x.1<0)=false→0≤aj (fun (x_1:Int×Int×Int×Int×Bool)=>decide (x_1.1=x.2.1)&&x_1.2.2.2.2 == x.2.2) 0 x.1∧aj (fun (x_1:Int×Int×Int×Int×Bool)=>decide (x_1.1=x.2.1)&&x_1.2.2.2.2 == x.2.2) 0 x.1<(↑x.1.length:Int)∧x.1.getD (aj (fun (x_1:Int×Int×Int×Int×Bool)=>decide (x_1.1=x.2.1)&&x_1.2.2.2.2 == x.2.2) 0 x.1).toNat (0,0,0,0,false)=(br x.1 x.2.1 x.2.2).1∧true=(br x.1 x.2.1 x.2.2).2∧True)
theorem yH:sb:=by
 unfold sb
 intro ⟨l,at_,fr⟩ _ _
 simp only
 have hlt:=dG (fun s:aw=>decide (s.1=at_)&&s.2.2.2.2 == fr) (0,0,0,0,false) l 0 (by omega)
 unfold br
 refine ⟨fun _ _=>trivial,fun h=>?_,fun h=>?_⟩
 ·rw [if_pos (of_decide_eq_true h)]
  exact ⟨rfl,rfl,trivial⟩
 ·rw [if_neg (of_decide_eq_false h)]
  have h1:0≤aj (fun s:aw=>decide (s.1=at_)&&s.2.2.2.2 == fr) 0 l:=Int.not_lt.1 (of_decide_eq_false h)
  have h2:aj (fun s:aw=>decide (s.1=at_)&&s.2.2.2.2 == fr) 0 l<(l.length:Int):=by omega
  exact ⟨h1,h2,rfl,rfl,trivial⟩
theorem BX:BG.ok Tryz.prog 135:=aI (ann:=cT) (ae mM (ae FN ap)) Tryz.func135 (by kernel_rfl) yH
theorem sT (l:List aw) (at_:Int) (fr:Bool) (h:(br l at_ fr).2=true):(br l at_ fr).1∈l∧(br l at_ fr).1.1=at_∧(br l at_ fr).1.2.2.2.2=fr:=by
 have hlt:=dG (fun s:aw=>decide (s.1=at_)&&s.2.2.2.2 == fr) (0,0,0,0,false) l 0 (by omega)
 have his:=gL (fun s:aw=>decide (s.1=at_)&&s.2.2.2.2 == fr) (0,0,0,0,false) l 0
 unfold br at h ⊢
 split at h
 ·cases h
 ·rename_i hn
  rw [if_neg hn]
  have his:=his (by omega) (by omega)
  rw [Int.sub_zero] at his
  simp only [Bool.and_eq_true,decide_eq_true_eq,beq_iff_eq] at his
  exact ⟨aD _ (by omega) (by omega),his.1,his.2⟩
theorem xM {a:List Int}:(aE a).2=(ao a).2.2:=by
 unfold aE
 split
 ·rfl
 ·simp only; omega
theorem vU {a:List Int} (h:(ao a).2.2=0):(aE a).1=(aa a).1∧a.length≤256∧∀ s∈(aa a).1,bX a s∧ac s.2=0:=by
 obtain ⟨h1,_,h3,_,_,_,h5⟩:=bO h
 rw [h3] at h5
 unfold aE
 rw [if_neg (by omega)]
 exact ⟨rfl,h1,h5⟩
def dR (a:List Int) (at_:Int) (h:da):List Int×Int :=
 if ac h≠0 then ([],ac h) else if h.2.2.2=true then ([],3) else if (ao a).2.2≠0 then ([],(ao a).2.2)
 else if (br (aa a).1 at_ true).2=false then ([],5) else if ab (br (aa a).1 at_ true).1.2<ab h then ([],7)
 else (aG ((dj a at_ (ab (br (aa a).1 at_ true).1.2) 0 (ab (br (aa a).1 at_ true).1.2)).set at_.toNat (aR h)) (at_+ab h) (ab (br (aa a).1 at_ true).1.2 - ab h),0)
def BB:Spec:={ Ts:=[.arr be,ty_I,cN],Rs:=[.dat (.arr be),.dat ty_I],al:=true,pre:=fun _=>True,F:=fun ((a,at_,h):List Int×Int×da)=>dR a at_ h }
def r7:Prop :=
  ∀ (x:List Int×Int×Int×Int×Int×Bool),(x.1.length * 8≤az∧∀ (x_1:Int),x_1∈x.1→ak IntKind.u64 x_1)∧ak IntKind.i64 x.2.1∧ak IntKind.i64 x.2.2.1∧ak IntKind.i64 x.2.2.2.1∧ak IntKind.i64 x.2.2.2.2.1∧True→True→True∧(decide (ac x.2.2≠0)=true→([]:List Int)=(dR x.1 x.2.1 x.2.2).1∧ac x.2.2=(dR x.1 x.2.1 x.2.2).2∧True)∧(decide (ac x.2.2≠0)=false→(x.2.2.2.2.2=true→([]:List Int)=(dR x.1 x.2.1 x.2.2).1∧3=(dR x.1 x.2.1 x.2.2).2∧True)∧(x.2.2.2.2.2=false→True∧(decide ((aE x.1).2≠0)=true→([]:List Int)=(dR x.1 x.2.1 x.2.2).1∧(aE x.1).2=(dR x.1 x.2.1 x.2.2).2∧True)∧(decide ((aE x.1).2≠0)=false→True∧((!(br (aE x.1).1 x.2.1 true).2)=true→([]:List Int)=(dR x.1 x.2.1 x.2.2).1∧5=(dR x.1 x.2.1 x.2.2).2∧True)∧((!(br (aE x.1).1 x.2.1 true).2)=false→True∧True∧(decide ((if ac (br (aE x.1).1 x.2.1 true).1.2=0 then ab (br (aE x.1).1 x.2.1 true).1.2 else 0)<if ac x.2.2=0 then ab x.2.2 else 0)=true→([]:List Int)=(dR x.1 x.2.1 x.2.2).1∧7=(dR x.1 x.2.1 x.2.2).2∧True)∧(decide ((if ac (br (aE x.1).1 x.2.1 true).1.2=0 then ab (br (aE x.1).1 x.2.1 true).1.2 else 0)<if ac x.2.2=0 then ab x.2.2 else 0)=false→True∧True∧0≤x.2.1∧x.2.1<(↑(gl x.1 x.2.1 (if ac (br (aE x.1).1 x.2.1 true).1.2=0 then ab (br (aE x.1).1 x.2.1 true).1.2 else 0) 0).1.length:Int)∧x.2.1.toNat<(gl x.1 x.2.1 (if ac (br (aE x.1).1 x.2.1 true).1.2=0 then ab (br (aE x.1).1 x.2.1 true).1.2 else 0) 0).1.length∧True∧ak IntKind.i64 (x.2.1+if ac x.2.2=0 then ab x.2.2 else 0)∧True∧True∧ak IntKind.i64 ((if ac (br (aE x.1).1 x.2.1 true).1.2=0 then ab (br (aE x.1).1 x.2.1 true).1.2 else 0) - if ac x.2.2=0 then ab x.2.2 else 0)∧df ((gl x.1 x.2.1 (if ac (br (aE x.1).1 x.2.1 true).1.2=0 then ab (br (aE x.1).1 x.2.1 true).1.2 else 0) 0).1.set x.2.1.toNat (if ac x.2.2=0 then aR x.2.2 else 0)) (x.2.1+if ac x.2.2=0 then ab x.2.2 else 0) ((if ac (br (aE x.1).1 x.2.1 true).1.2=0 then ab (br (aE x.1).1 x.2.1 true).1.2 else 0) - if ac x.2.2=0 then ab x.2.2 else 0)∧aG ((gl x.1 x.2.1 (if ac (br (aE x.1).1 x.2.1 true).1.2=0 then ab (br (aE x.1).1 x.2.1 true).1.2 else 0) 0).1.set x.2.1.toNat (if ac x.2.2=0 then aR x.2.2 else 0)) (x.2.1+if ac x.2.2=0 then ab x.2.2 else 0) ((if ac (br (aE x.1).1 x.2.1 true).1.2=0 then ab (br (aE x.1).1 x.2.1 true).1.2 else 0) - if ac x.2.2=0 then ab x.2.2 else 0)=(dR x.1 x.2.1 x.2.2).1∧0=(dR x.1 x.2.1 x.2.2).2∧True)))))
theorem yD:r7:=by
 unfold r7
 intro ⟨a,at_,h⟩ _ _
 have hF:dR a at_ h=if ac h≠0 then ([],ac h) else if h.2.2.2=true then ([],3) else if (ao a).2.2≠0 then ([],(ao a).2.2)
  else if (br (aa a).1 at_ true).2=false then ([],5) else if ab (br (aa a).1 at_ true).1.2<ab h then ([],7)
  else (aG ((dj a at_ (ab (br (aa a).1 at_ true).1.2) 0 (ab (br (aa a).1 at_ true).1.2)).set at_.toNat (aR h)) (at_+ab h) (ab (br (aa a).1 at_ true).1.2 - ab h),0):=rfl
 simp only
 rw [xM]
 refine ⟨trivial,fun hc=>?_,fun hc=>⟨fun h2=>?_,fun h2=>⟨trivial,fun h3=>?_,fun h3=>?_⟩⟩⟩
 ·have hc:ac h≠0:=by simpa using hc
  rw [hF,if_pos hc]
  exact ⟨rfl,rfl,trivial⟩
 ·have hc:ac h=0:=by simpa using hc
  rw [hF,if_neg (by omega),if_pos h2]
  exact ⟨rfl,rfl,trivial⟩
 ·have hc:ac h=0:=by simpa using hc
  have h3:(ao a).2.2≠0:=by simpa using h3
  rw [hF,if_neg (by omega),if_neg (by rw [h2]; simp),if_pos h3]
  exact ⟨rfl,rfl,trivial⟩
 have hc:ac h=0:=by simpa using hc
 have h3:(ao a).2.2=0:=by simpa using h3
 obtain ⟨e1,hal,hsp⟩:=vU h3
 have hfi:=sT (aa a).1 at_ true
 rw [if_neg (by omega),if_neg (by rw [h2]; simp),if_neg (by omega)] at hF
 rw [e1,hF]
 refine ⟨trivial,fun h4=>?_,fun h4=>⟨trivial,trivial,fun h5=>?_,fun h5=>?_⟩⟩
 ·have h4:(br (aa a).1 at_ true).2=false:=by simpa using h4
  rw [if_pos h4]
  exact ⟨rfl,rfl,trivial⟩
 ·have h4:(br (aa a).1 at_ true).2=true:=by simpa using h4
  obtain ⟨q1,q2,q3⟩:=hfi h4
  have hh:=(hsp _ q1).2
  rw [if_pos hh,if_pos hc] at h5
  have hn4:¬ (br (aa a).1 at_ true).2=false:=by rw [h4]; simp
  rw [if_neg hn4,if_pos (of_decide_eq_true h5)]
  exact ⟨rfl,rfl,trivial⟩
 ·have h4:(br (aa a).1 at_ true).2=true:=by simpa using h4
  obtain ⟨q1,q2,q3⟩:=hfi h4
  obtain ⟨hin,hh⟩:=hsp _ q1
  rw [if_pos hh,if_pos hc] at h5
  have h5:=of_decide_eq_false h5
  have hn4:¬ (br (aa a).1 at_ true).2=false:=by rw [h4]; simp
  rw [if_neg hn4,if_neg h5]
  have hz:=a8 hc
  have hn:ab h=1+h.1+h.2.1:=rfl
  have hL:ab (br (aa a).1 at_ true).1.2=1+(br (aa a).1 at_ true).1.2.1+(br (aa a).1 at_ true).1.2.2.1:=rfl
  unfold bX at hin
  rw [if_pos hh,if_pos hc,if_pos hc]
  rw [q2] at hin
  generalize ab (br (aa a).1 at_ true).1.2=L at *
  have hp:df a at_ L:=⟨by omega,by omega,by omega,hal⟩
  have hl:=dH a at_ L 0 L (by omega) (by omega) (by omega) (by omega)
  rw [sV hp]
  simp only [ak]
  exact ⟨trivial,trivial,by omega,by omega,by omega,trivial,by omega,trivial,trivial,by omega,⟨by omega,by omega,by rw [List.length_set]; omega,by rw [List.length_set]; omega⟩,trivial,trivial,trivial⟩
theorem BV:BB.ok Tryz.prog 103:=aI (ann:=cT) (ae i9 (ae kH (ae BX (ae sr (ae kD (ae G9 ap)))))) Tryz.func103 (by kernel_rfl) yD
end Go.Proofs.YtglchojglcobjaaGreat
