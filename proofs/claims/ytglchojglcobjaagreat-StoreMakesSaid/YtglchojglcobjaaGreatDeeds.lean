
import Derived.Test.YtglchojglcobjaaGreatRStores
namespace Go.Proofs.YtglchojglcobjaaGreat
open Go
set_option maxRecDepth 100000
set_option maxHeartbeats 1000000
def eM (a:List Int) (x r to:Int):List Int×Int:=if isB (aa a).1 x=false then ([],5) else if r<0∨(dD a x).1≤r∨(to≠-1∧isB (aa a).1 to=false) then ([],4) else (a.set (x+1+r).toNat (to+1),0)
def AK:Nat→Option LoopGen
 | 10=>some { rd:=[.dat 0 (.arr be),.dat 1 ty_I,.dat 2 ty_I,.dat 54 ty_I],wr:=[14],A:=fun ((a,x,r,n):List Int×Int×Int×Int)=>{ cs:=[.own 14 50 be,.dat 55 ty_I],inv:=fun ((w,i):List Int×Int)=>0≤i∧i≤n∧n≤256∧0≤x∧0≤r∧x+1+r<a.length∧a.length≤256∧w=a.set (x+1+r).toNat i,mu:=fun ((_,i):List Int×Int)=>(n - i).toNat } }
 | _=>none
def yW:Spec:={ Ts:=[.arr be,ty_I,ty_I,ty_I],Rs:=[.own 50 be,.dat ty_I],pre:=fun ((a,_):List Int×Int×Int×Int)=>(ao a).2.2=0,F:=fun ((a,x,r,to):List Int×Int×Int×Int)=>eM a x r to }
def pN:Prop :=
  ∀ (x:List Int×Int×Int×Int),(x.1.length * 8≤az∧∀ (x_1:Int),x_1∈x.1→ak IntKind.u64 x_1)∧ak IntKind.i64 x.2.1∧ak IntKind.i64 x.2.2.1∧ak IntKind.i64 x.2.2.2→(ao x.1).2.2=0→True∧((!(ah x.2.1 (aa x.1).1).2)=true→([]:List Int)=(eM x.1 x.2.1 x.2.2.1 x.2.2.2).1∧5=(eM x.1 x.2.1 x.2.2.1 x.2.2.2).2∧True)∧((!(ah x.2.1 (aa x.1).1).2)=false→True∧((decide (x.2.2.1<0)||decide ((ah x.2.1 (aa x.1).1).1.1≤x.2.2.1)||decide (x.2.2.2≠(-1))&&!(ah x.2.2.2 (aa x.1).1).2)=true→([]:List Int)=(eM x.1 x.2.1 x.2.2.1 x.2.2.2).1∧4=(eM x.1 x.2.1 x.2.2.1 x.2.2.2).2∧True)∧((decide (x.2.2.1<0)||decide ((ah x.2.1 (aa x.1).1).1.1≤x.2.2.1)||decide (x.2.2.2≠(-1))&&!(ah x.2.2.2 (aa x.1).1).2)=false→True∧ak IntKind.i64 (x.2.1+1)∧ak IntKind.i64 (x.2.1+1+x.2.2.1)∧0≤x.2.1+1+x.2.2.1∧x.2.1+1+x.2.2.1<(↑x.1.length:Int)∧(x.2.1+1+x.2.2.1).toNat<x.1.length∧ak IntKind.i64 (x.2.2.2+1)∧((0:Int)≤0∧0≤x.2.2.2+1∧x.2.2.2+1≤256∧0≤x.2.1∧0≤x.2.2.1∧x.2.1+1+x.2.2.1<(↑x.1.length:Int)∧x.1.length≤256∧x.1.set (x.2.1+1+x.2.2.1).toNat 0=x.1.set (x.2.1+1+x.2.2.1).toNat 0)∧∀ (x_1:List Int×Int),0≤x_1.2∧x_1.2≤x.2.2.2+1∧x.2.2.2+1≤256∧0≤x.2.1∧0≤x.2.2.1∧x.2.1+1+x.2.2.1<(↑x.1.length:Int)∧x.1.length≤256∧x_1.1=x.1.set (x.2.1+1+x.2.2.1).toNat x_1.2→(decide (x_1.2<x.2.2.2+1)=true→ak IntKind.i64 (x.2.1+1)∧ak IntKind.i64 (x.2.1+1+x.2.2.1)∧0≤x.2.1+1+x.2.2.1∧x.2.1+1+x.2.2.1<(↑x_1.1.length:Int)∧(x.2.1+1+x.2.2.1).toNat<x_1.1.length∧ak IntKind.u64 (x_1.1.getD (x.2.1+1+x.2.2.1).toNat 0+1)∧0≤x.2.1+1+x.2.2.1∧x.2.1+1+x.2.2.1<(↑x_1.1.length:Int)∧(x.2.1+1+x.2.2.1).toNat<x_1.1.length∧ak IntKind.i64 (x_1.2+1)∧(0≤x_1.2+1∧x_1.2+1≤x.2.2.2+1∧x.2.2.2+1≤256∧0≤x.2.1∧0≤x.2.2.1∧x.2.1+1+x.2.2.1<(↑x.1.length:Int)∧x.1.length≤256∧x_1.1.set (x.2.1+1+x.2.2.1).toNat (x_1.1.getD (x.2.1+1+x.2.2.1).toNat 0+1)=x.1.set (x.2.1+1+x.2.2.1).toNat (x_1.2+1))∧(x.2.2.2+1 - (x_1.2+1)).toNat<(x.2.2.2+1 - x_1.2).toNat)∧(decide (x_1.2<x.2.2.2+1)=false→x_1.1=(eM x.1 x.2.1 x.2.2.1 x.2.2.2).1∧0=(eM x.1 x.2.1 x.2.2.1 x.2.2.2).2∧True)))
theorem wt:pN:=by
 unfold pN
 intro ⟨a,x,r,to⟩ ⟨⟨hb,hw⟩,hx,hr,ht⟩ hc
 simp only at hb hw hx hr ht hc ⊢
 have e:∀ y,(ah y (aa a).1).2=isB (aa a).1 y:=fun _=>rfl
 have e2:(ah x (aa a).1).1=dD a x:=rfl
 simp only [e,e2]
 have hF:eM a x r to=if isB (aa a).1 x=false then ([],5) else if r<0∨(dD a x).1≤r∨(to≠-1∧isB (aa a).1 to=false) then ([],4) else (a.set (x+1+r).toNat (to+1),0):=rfl
 rw [hF]
 refine ⟨trivial,fun h=>?_,fun h=>⟨trivial,fun h2=>?_,fun h2=>?_⟩⟩
 ·rw [if_pos (by simpa using h)]
  exact ⟨rfl,rfl,trivial⟩
 ·have h:isB (aa a).1 x=true:=by simpa using h
  rw [if_neg (by rw [h]; simp),if_pos (by simpa [or_assoc] using h2)]
  exact ⟨rfl,rfl,trivial⟩
 have h:isB (aa a).1 x=true:=by simpa using h
 have h2:¬ (r<0∨(dD a x).1≤r∨(to≠-1∧isB (aa a).1 to=false)):=by
  intro h3
  have:(decide (r<0)||decide ((dD a x).1≤r)||decide (to≠-1)&&!isB (aa a).1 to)=true:=by simpa [or_assoc] using h3
  rw [this] at h2
  cases h2
 rw [if_neg (by rw [h]; simp),if_neg h2]
 obtain ⟨k1,k2,k3,k4,k5,k6⟩:=cp h
 have hal:=(sK h).2.2.2.2
 have hto:-1≤to∧to≤255:=by
  by_cases h3:to=-1
  ·omega
  ·have h4:isB (aa a).1 to=true:=by
    cases h5:isB (aa a).1 to
    ·exact absurd (.inr (.inr ⟨h3,h5⟩)) h2
    ·rfl
   have:=fU h4
   omega
 have hr0:0≤r∧r<(dD a x).1:=by omega
 have hkl:(x+1+r).toNat<a.length:=by omega
 simp only [ak]
 refine ⟨trivial,by omega,by omega,by omega,by omega,hkl,by omega,⟨by omega,by omega,by omega,by omega,by omega,by omega,hal,by first | trivial | rfl⟩,fun ⟨w,i⟩ ⟨i0,i1,i2,i3,i4,i5,i6,i7⟩=>⟨fun hlt=>?_,fun hge=>?_⟩⟩
 ·simp only at i0 i1 i2 i3 i4 i5 i6 i7 hlt ⊢
  have hlt:=of_decide_eq_true hlt
  have hwl:w.length=a.length:=by rw [i7]; simp
  have hwg:w.getD (x+1+r).toNat 0=i:=by rw [i7,List.getD_eq_getElem?_getD]; simp [hkl]
  rw [hwg]
  refine ⟨by omega,by omega,by omega,by omega,by omega,by omega,by omega,by omega,by omega,by omega,⟨by omega,by omega,by omega,by omega,by omega,by omega,hal,?_⟩,by omega⟩
  rw [i7,List.set_set]
 ·simp only at i0 i1 i2 i3 i4 i5 i6 i7 hge ⊢
  have hge:=of_decide_eq_false hge
  rw [i7,show i=to+1 by omega]
  exact ⟨by first | trivial | rfl,by first | trivial | rfl,trivial⟩
theorem zL:yW.ok Tryz.prog 63:=aI (ann:=AK) (ae gq (ae gJ ap)) Tryz.func63 (by kernel_rfl) wt
theorem ml (n:Int):∀ (l:List cg) (k:Int),0≤k→k+l.length≤65536→(∀ s∈l,0≤s.1) →
  bc n k l=if k≤n % 65536∧n % 65536<k+l.length∧(l.getD (n % 65536 - k).toNat (0,false,0)).2.1=true∧dg (n % 65536) (l.getD (n % 65536 - k).toNat (0,false,0))=n then n % 65536 else -1
 | [],k,_,_,_=>by
  simp only [bc,List.length_nil]
  rw [if_neg (by omega)]
 | s::l,k,h0,h1,h2=>by
  have ih:=ml n l (k+1) (by omega) (by simp only [List.length_cons] at h1; omega) (fun t ht=>h2 t (by simp [ht]))
  have hs:=h2 s (by simp)
  simp only [List.length_cons] at *
  simp only [bc,ih]
  by_cases hk:n % 65536=k
  ·rw [hk]
   simp only [Int.sub_self,Int.toNat_zero,List.getD_cons_zero]
   by_cases hc:s.2.1=true∧dg k s=n
   ·rw [if_pos hc,if_pos ⟨by omega,by omega,hc⟩]
   ·rw [if_neg hc,if_neg (by omega),if_neg (by intro h; exact hc h.2.2)]
  ·have hc:¬ (s.2.1=true∧dg k s=n):=by
    rintro ⟨_,h⟩
    unfold dg at h
    omega
   rw [if_neg hc]
   by_cases hlt:k≤n % 65536
   ·rw [show (n % 65536 - k).toNat=(n % 65536 - (k+1)).toNat+1 by omega,List.getD_cons_succ]
    congr 1
    simp only [eq_iff_iff]
    constructor
    ·rintro ⟨_,q2,q3⟩; exact ⟨by omega,by omega,q3⟩
    ·rintro ⟨_,q2,q3⟩; exact ⟨by omega,by omega,q3⟩
   ·rw [if_neg (by omega),if_neg (by omega)]
theorem Ah {h:List cg} {n:Int} (hf:aN h=0):((gZ h n).2=0∧bc n 0 h=(gZ h n).1∧0≤(gZ h n).1∧(gZ h n).1<h.length)∨(gZ h n=(0,9)∧bc n 0 h=-1):=by
 obtain ⟨z1,z2⟩:=jb hf
 have h1:=ml n h 0 (by omega) (by omega) (fun s hs=>(z2 s hs).1)
 simp only [Int.sub_zero,Int.zero_add] at h1
 unfold gZ
 rw [if_neg (by omega),h1]
 by_cases hc:n % 65536<h.length∧(h.getD (n % 65536).toNat (0,false,0)).2.1=true∧dg (n % 65536) (h.getD (n % 65536).toNat (0,false,0))=n
 ·left
  rw [if_pos hc,if_pos ⟨by omega,hc⟩]
  exact ⟨rfl,rfl,by simp only; omega,hc.1⟩
 ·right
  rw [if_neg hc,if_neg (fun q=>hc q.2)]
  exact ⟨rfl,rfl⟩
theorem FD {h:List cg} (at_:Int) (hf:aN h=0) :
  vG h at_=if at_<0∨255<at_ then ([],0,4) else if aj ci 0 h<0 then ([],0,7) else (h.set (aj ci 0 h).toNat (xt h (aj ci 0 h) at_),dg (aj ci 0 h) (xt h (aj ci 0 h) at_),0):=by
 unfold vG
 rw [if_neg (by omega)]
 by_cases ht:at_<0∨255<at_
 ·rw [if_pos ht,if_pos (by unfold fX; grind)]
 ·rw [if_neg ht,if_neg (by unfold fX; grind)]
abbrev Hx:Ty:=.pair ty_I (.pair ty_I (.pair ty_I (.pair ty_I be)))
def qe (k a b c v:Int):Bool:=decide (k<1)||decide (13<k)||!(decide (k≠2)&&decide (k≠12))&&decide (a≠0)||!(decide (k=1)||decide (3≤k)&&decide (k≤6)||decide (k=9))&&decide (b≠0)||!(decide (k=1)||decide (k=3)||decide (k=4))&&decide (c≠0)||!(decide (k=1)||decide (k=6)||decide (k=11)||decide (k=12))&&decide (v≠0)
def Io (b:Bool):Int:=if b=true then 1 else 0
def fD (s:aq) (k a b c v:Int):aq×Int×Int :=
 if k=1 then ((ba s a (b,c,v % 65536,false)).1,Io (ba s a (b,c,v % 65536,false)).2.1,(ba s a (b,c,v % 65536,false)).2.2)
 else if k=2 then ((dJ s).1,(dJ s).2,0)
 else if k=3 then ((D8 s a b c).1,0,(D8 s a b c).2)
 else if k=4 then ((DZ s a b c).1,0,(DZ s a b c).2)
 else if k=5 then (if fH s a b≠0 then (aV,0,fH s a b) else (s,s.1.getD (tl s (bq s a) b).toNat 0,0))
 else if k=6 then ((D9 s a b v).1,0,(D9 s a b v).2)
 else if k=7 then G6 s a
 else if k=8 then ((rq s a).1,0,(rq s a).2)
 else if k=9 then (if nS s a b≠0 then (aV,0,nS s a b) else (s,s.1.getD (tl s a b).toNat 0,0))
 else if k=10 then CX s a
 else if k=11 then ((Bi s v a).1,0,(Bi s v a).2)
 else if k=12 then ((uZ s v).1,0,(uZ s v).2)
 else ((wc s a).1,0,(wc s a).2)
def aJ (s:aq) (k a b c v:Int):aq×Int×Int:=if qe k a b c v=true then (aV,0,1) else if aO s≠0 then (aV,0,aO s) else fD s k a b c v
def de (k:Int):Bool:=decide (k=3)||decide (k=4)||decide (k=5)||decide (k=6)||decide (k=7)||decide (k=10)
def eR (k:Int):Bool:=decide (k=1)||decide (k=11)||decide (k=13)
theorem Gw (s:aq) (a b c v:Int):fD s 1 a b c v=((ba s a (b,c,v % 65536,false)).1,Io (ba s a (b,c,v % 65536,false)).2.1,(ba s a (b,c,v % 65536,false)).2.2):=if_pos rfl
theorem HI (s:aq) (a b c v:Int):fD s 2 a b c v=((dJ s).1,(dJ s).2,0):=by unfold fD; rw [if_neg (by omega),if_pos rfl]
theorem HH (s:aq) (a b c v:Int):fD s 3 a b c v=((D8 s a b c).1,0,(D8 s a b c).2):=by
 unfold fD
 iterate 2 rw [if_neg (by omega)]
 rw [if_pos rfl]
theorem HG (s:aq) (a b c v:Int):fD s 4 a b c v=((DZ s a b c).1,0,(DZ s a b c).2):=by
 unfold fD
 iterate 3 rw [if_neg (by omega)]
 rw [if_pos rfl]
theorem HF (s:aq) (a b c v:Int):fD s 5 a b c v=(if fH s a b≠0 then (aV,0,fH s a b) else (s,s.1.getD (tl s (bq s a) b).toNat 0,0)):=by
 unfold fD
 iterate 4 rw [if_neg (by omega)]
 rw [if_pos rfl]
theorem HE (s:aq) (a b c v:Int):fD s 6 a b c v=((D9 s a b v).1,0,(D9 s a b v).2):=by
 unfold fD
 iterate 5 rw [if_neg (by omega)]
 rw [if_pos rfl]
theorem HD (s:aq) (a b c v:Int):fD s 7 a b c v=G6 s a:=by
 unfold fD
 iterate 6 rw [if_neg (by omega)]
 rw [if_pos rfl]
theorem Ik (s:aq) (a b c v:Int):fD s 8 a b c v=((rq s a).1,0,(rq s a).2):=by
 unfold fD
 iterate 7 rw [if_neg (by omega)]
 rw [if_pos rfl]
theorem Ij (s:aq) (a b c v:Int):fD s 9 a b c v=(if nS s a b≠0 then (aV,0,nS s a b) else (s,s.1.getD (tl s a b).toNat 0,0)):=by
 unfold fD
 iterate 8 rw [if_neg (by omega)]
 rw [if_pos rfl]
theorem Gv (s:aq) (a b c v:Int):fD s 10 a b c v=CX s a:=by
 unfold fD
 iterate 9 rw [if_neg (by omega)]
 rw [if_pos rfl]
theorem Cl (s:aq) (a b c v:Int):fD s 11 a b c v=((Bi s v a).1,0,(Bi s v a).2):=by
 unfold fD
 iterate 10 rw [if_neg (by omega)]
 rw [if_pos rfl]
theorem Gu (s:aq) (a b c v:Int):fD s 12 a b c v=((uZ s v).1,0,(uZ s v).2):=by
 unfold fD
 iterate 11 rw [if_neg (by omega)]
 rw [if_pos rfl]
theorem Gt (s:aq) (a b c v:Int):fD s 13 a b c v=((wc s a).1,0,(wc s a).2):=by
 unfold fD
 iterate 12 rw [if_neg (by omega)]
theorem Ip {s:aq} {a:Int} (h0:aO s=0) (h:a<0∨(s.2.1.length:Int)≤a∨s.2.1.getD a.toNat 0<0):gS s a=5:=by
 unfold gS
 rw [if_neg (by omega),if_pos h]
theorem Hc {s:aq} {a:Int} (h0:aO s=0) (h:0≤a) (h1:a<s.2.1.length) (h2:0≤bq s a):gS s a=0:=by
 unfold bq at h2
 unfold gS
 rw [if_neg (by omega),if_neg (by omega)]
theorem Hz {s:aq} {a:Int} (h0:aO s=0) (h:a<0∨(s.2.1.length:Int)≤a):cP s a=5:=by
 unfold cP
 rw [if_neg (by omega),if_pos h]
theorem CF {s:aq} {a:Int} (h0:aO s=0) (h:0≤a) (h1:a<s.2.1.length):cP s a=0:=by
 unfold cP
 rw [if_neg (by omega),if_neg (by omega)]
theorem xl {s:aq} {k a b c:Int} (v:Int) (hk:k=3∨k=4) (h:jg s a b c≠0):fD s k a b c v=(aV,0,jg s a b c):=by
 rcases hk with rfl | rfl
 ·rw [HH]; unfold D8; rw [if_pos h]
 ·rw [HG]; unfold DZ; rw [if_pos h]
theorem AF {s:aq} {k a b:Int} (c v:Int) (hk:k=5∨k=6) (h:fH s a b≠0):fD s k a b c v=(aV,0,fH s a b):=by
 rcases hk with rfl | rfl
 ·rw [HF,if_pos h]
 ·rw [HE]; unfold D9; rw [if_pos h]
theorem D3 {k:Int} (h:de k=true):(k=3∨k=4)∨(k=5∨k=6)∨k=7∨k=10:=by
 unfold de at h
 simp only [Bool.or_eq_true,decide_eq_true_eq] at h
 omega
theorem Fq {k:Int} (h:eR k=true):k=1∨k=11∨k=13:=by
 unfold eR at h
 simp only [Bool.or_eq_true,decide_eq_true_eq] at h
 omega
theorem EH {s:aq} {k a:Int} (b c v:Int) (h0:aO s=0) (hr:de k=true) (h:a<0∨(s.2.1.length:Int)≤a∨s.2.1.getD a.toNat 0<0):fD s k a b c v=(aV,0,5):=by
 have e:=Ip h0 h
 have hR:jg s a b c=5:=by unfold jg; rw [if_pos (by omega)]; exact e
 have hB:fH s a b=5:=by unfold fH; rw [if_pos (by omega)]; exact e
 rcases D3 hr with hk | hk | rfl | rfl
 ·rw [xl v hk (by omega),hR]
 ·rw [AF c v hk (by omega),hB]
 ·rw [HD]; unfold G6; rw [if_pos (by omega),e]
 ·rw [Gv]; unfold CX; rw [if_pos (by omega),e]
theorem EG {s:aq} {k a:Int} (b c v:Int) (h0:aO s=0) (hr:eR k=true) (h:a<0∨(s.2.1.length:Int)≤a):fD s k a b c v=(aV,0,5):=by
 have e:=Hz h0 h
 rcases Fq hr with rfl | rfl | rfl
 ·rw [Gw]; unfold ba; rw [if_pos (by omega),e]; rfl
 ·rw [Cl]; unfold Bi; rw [if_pos (by omega),e]
 ·rw [Gt]; unfold wc; rw [if_pos (by omega),e]
theorem wM:∀ (l:List bK),(∀ r∈l,0≤r.2∧r.2≤256)→0≤dS l∧dS l≤256 * (l.length:Int)
 | [],_=>by simp [dS]
 | r::l,h=>by
  have ih:=wM l fun x hx=>h x (List.mem_cons_of_mem _ hx)
  have h1:=h r List.mem_cons_self
  have e:dS (r::l)=r.2+dS l:=by simp [dS]
  rw [e,List.length_cons]
  omega
theorem FR {s:aq} (R:Right s) {x b:Int} (O:ObjAt s x) (b0:0≤b) (b1:b<(dD s.1 x).1):((aB s.1 x (ah x (aa s.1).1).1).length:Int)=(dD s.1 x).1∧(aB s.1 x (ah x (aa s.1).1).1).getD b.toNat 0=s.1.getD (x+1+b).toNat 0 - 1:=by
 have hv:=R.refWord O.isb b0 b1
 have e:(ah x (aa s.1).1).1=dD s.1 x:=rfl
 have h1:=O.x0
 have h2:=O.b0
 have h3:=O.fit
 rw [e]
 unfold aB
 refine ⟨by simp; omega,?_⟩
 have hlt:(x+1+b).toNat<s.1.length:=by omega
 have hg:s.1[(x+1+b).toNat]?=some (s.1.getD (x+1+b).toNat 0):=by rw [List.getD_eq_getElem?_getD,List.getElem?_eq_getElem hlt]; rfl
 rw [List.getD_eq_getElem?_getD,List.getElem?_map,List.getElem?_drop,List.getElem?_take,if_pos (by omega),show (x+1).toNat+b.toNat=(x+1+b).toNat by omega,hg]
 generalize s.1.getD (x+1+b).toNat 0=w at *
 simp only [Option.map_some,Option.getD_some,nameOf]
 rw [if_neg (by omega)]
theorem AW {s:aq} (R:Right s) {x b c:Int} (O:ObjAt s x) (b0:0≤b) (b1:b<(dD s.1 x).1) (c0:0≤c) (c1:c<s.2.1.length):(eM s.1 x b (bq s c)).1=s.1.set (x+1+b).toNat (bq s c+1):=by
 unfold eM
 rw [if_neg (by rw [O.isb]; simp),if_neg]
 rintro (h | h | ⟨h1,h2⟩)
 ·omega
 ·omega
 ·have h3:=R.rootIn c0 c1
  unfold bq at h1 h2
  rw [(R.obj (R.rootNam c0 c1 (by omega))).isb] at h2
  cases h2
theorem FA {s:aq} (R:Right s) {a:Int}:cD (cu s) a=false ↔ bL s.2.2.1 a=0:=by
 obtain ⟨_,h6,h7⟩:=nR R.pin
 have e:cD (cu s) a=qL s.2.2.1 a:=rfl
 rw [e,sN h6]
 unfold bL
 cases h:aK s.2.2.1 a with
 | none=>simp
 | some v =>
  have:=(h7 _ (jx h)).2.2.1
  simp only at this
  simp only [Option.isSome_some,Option.getD_some]
  constructor
  ·intro h; cases h
  ·intro h; omega
end Go.Proofs.YtglchojglcobjaaGreat
