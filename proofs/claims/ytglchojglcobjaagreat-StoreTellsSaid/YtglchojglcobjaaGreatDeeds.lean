
import Derived.Test.YtglchojglcobjaaGreatRStores
namespace Go.Proofs.YtglchojglcobjaaGreat
open Go
set_option maxRecDepth 100000
set_option maxHeartbeats 1000000
def writtenF (a:List Int) (x r to:Int):List Int×Int:=if isB (spotsF a).1 x=false then ([],5) else if r<0∨(hdA a x).1≤r∨(to≠-1∧isB (spotsF a).1 to=false) then ([],4) else (a.set (x+1+r).toNat (to+1),0)
def an_rWritten:Nat→Option LoopGen
 | 10=>some { rd:=[.dat 0 (.arr ty_W),.dat 1 ty_I,.dat 2 ty_I,.dat 54 ty_I],wr:=[14],A:=fun ((a,x,r,n):List Int×Int×Int×Int)=>{ cs:=[.own 14 50 ty_W,.dat 55 ty_I],inv:=fun ((w,i):List Int×Int)=>0≤i∧i≤n∧n≤256∧0≤x∧0≤r∧x+1+r<a.length∧a.length≤256∧w=a.set (x+1+r).toNat i,mu:=fun ((_,i):List Int×Int)=>(n - i).toNat } }
 | _=>none
def sp_rWritten:Spec:={ Ts:=[.arr ty_W,ty_I,ty_I,ty_I],Rs:=[.own 50 ty_W,.dat ty_I],pre:=fun ((a,_):List Int×Int×Int×Int)=>(checkF a).2.2=0,F:=fun ((a,x,r,to):List Int×Int×Int×Int)=>writtenF a x r to }
def pv_rWritten:Prop :=
  ∀ (x:List Int×Int×Int×Int),(x.1.length * (8:Nat)≤big∧∀ (x_1:Int),x_1∈x.1→InR IntKind.u64 x_1)∧InR IntKind.i64 x.2.1∧InR IntKind.i64 x.2.2.1∧InR IntKind.i64 x.2.2.2→(checkF x.1).2.2=(0:Int)→True∧((!(headAtL x.2.1 (spotsF x.1).1).2)=true→([]:List Int)=(writtenF x.1 x.2.1 x.2.2.1 x.2.2.2).1∧(5:Int)=(writtenF x.1 x.2.1 x.2.2.1 x.2.2.2).2∧True)∧((!(headAtL x.2.1 (spotsF x.1).1).2)=false→True∧((decide (x.2.2.1<(0:Int))||decide ((headAtL x.2.1 (spotsF x.1).1).1.1≤x.2.2.1)||decide (x.2.2.2≠(-1:Int))&&!(headAtL x.2.2.2 (spotsF x.1).1).2)=true→([]:List Int)=(writtenF x.1 x.2.1 x.2.2.1 x.2.2.2).1∧(4:Int)=(writtenF x.1 x.2.1 x.2.2.1 x.2.2.2).2∧True)∧((decide (x.2.2.1<(0:Int))||decide ((headAtL x.2.1 (spotsF x.1).1).1.1≤x.2.2.1)||decide (x.2.2.2≠(-1:Int))&&!(headAtL x.2.2.2 (spotsF x.1).1).2)=false→True∧InR IntKind.i64 (x.2.1+(1:Int))∧InR IntKind.i64 (x.2.1+(1:Int)+x.2.2.1)∧(0:Int)≤x.2.1+(1:Int)+x.2.2.1∧x.2.1+(1:Int)+x.2.2.1<(↑x.1.length:Int)∧(x.2.1+(1:Int)+x.2.2.1).toNat<x.1.length∧InR IntKind.i64 (x.2.2.2+(1:Int))∧((0:Int)≤(0:Int)∧(0:Int)≤x.2.2.2+(1:Int)∧x.2.2.2+(1:Int)≤(256:Int)∧(0:Int)≤x.2.1∧(0:Int)≤x.2.2.1∧x.2.1+(1:Int)+x.2.2.1<(↑x.1.length:Int)∧x.1.length≤(256:Nat)∧x.1.set (x.2.1+(1:Int)+x.2.2.1).toNat (0:Int)=x.1.set (x.2.1+(1:Int)+x.2.2.1).toNat (0:Int))∧∀ (x_1:List Int×Int),(0:Int)≤x_1.2∧x_1.2≤x.2.2.2+(1:Int)∧x.2.2.2+(1:Int)≤(256:Int)∧(0:Int)≤x.2.1∧(0:Int)≤x.2.2.1∧x.2.1+(1:Int)+x.2.2.1<(↑x.1.length:Int)∧x.1.length≤(256:Nat)∧x_1.1=x.1.set (x.2.1+(1:Int)+x.2.2.1).toNat x_1.2→(decide (x_1.2<x.2.2.2+(1:Int))=true→InR IntKind.i64 (x.2.1+(1:Int))∧InR IntKind.i64 (x.2.1+(1:Int)+x.2.2.1)∧(0:Int)≤x.2.1+(1:Int)+x.2.2.1∧x.2.1+(1:Int)+x.2.2.1<(↑x_1.1.length:Int)∧(x.2.1+(1:Int)+x.2.2.1).toNat<x_1.1.length∧InR IntKind.u64 (x_1.1.getD (x.2.1+(1:Int)+x.2.2.1).toNat (0:Int)+(1:Int))∧(0:Int)≤x.2.1+(1:Int)+x.2.2.1∧x.2.1+(1:Int)+x.2.2.1<(↑x_1.1.length:Int)∧(x.2.1+(1:Int)+x.2.2.1).toNat<x_1.1.length∧InR IntKind.i64 (x_1.2+(1:Int))∧((0:Int)≤x_1.2+(1:Int)∧x_1.2+(1:Int)≤x.2.2.2+(1:Int)∧x.2.2.2+(1:Int)≤(256:Int)∧(0:Int)≤x.2.1∧(0:Int)≤x.2.2.1∧x.2.1+(1:Int)+x.2.2.1<(↑x.1.length:Int)∧x.1.length≤(256:Nat)∧x_1.1.set (x.2.1+(1:Int)+x.2.2.1).toNat (x_1.1.getD (x.2.1+(1:Int)+x.2.2.1).toNat (0:Int)+(1:Int))=x.1.set (x.2.1+(1:Int)+x.2.2.1).toNat (x_1.2+(1:Int)))∧(x.2.2.2+(1:Int) - (x_1.2+(1:Int))).toNat<(x.2.2.2+(1:Int) - x_1.2).toNat)∧(decide (x_1.2<x.2.2.2+(1:Int))=false→x_1.1=(writtenF x.1 x.2.1 x.2.2.1 x.2.2.2).1∧(0:Int)=(writtenF x.1 x.2.1 x.2.2.1 x.2.2.2).2∧True)))
theorem vcp_rWritten:pv_rWritten:=by
 unfold pv_rWritten
 intro ⟨a,x,r,to⟩ ⟨⟨hb,hw⟩,hx,hr,ht⟩ hc
 simp only at hb hw hx hr ht hc ⊢
 have e:∀ y,(headAtL y (spotsF a).1).2=isB (spotsF a).1 y:=fun _=>rfl
 have e2:(headAtL x (spotsF a).1).1=hdA a x:=rfl
 simp only [e,e2]
 have hF:writtenF a x r to=if isB (spotsF a).1 x=false then ([],5) else if r<0∨(hdA a x).1≤r∨(to≠-1∧isB (spotsF a).1 to=false) then ([],4) else (a.set (x+1+r).toNat (to+1),0):=rfl
 rw [hF]
 refine ⟨trivial,fun h=>?_,fun h=>⟨trivial,fun h2=>?_,fun h2=>?_⟩⟩
 ·rw [if_pos (by simpa using h)]
  exact ⟨rfl,rfl,trivial⟩
 ·have h:isB (spotsF a).1 x=true:=by simpa using h
  rw [if_neg (by rw [h]; simp),if_pos (by simpa [or_assoc] using h2)]
  exact ⟨rfl,rfl,trivial⟩
 have h:isB (spotsF a).1 x=true:=by simpa using h
 have h2:¬ (r<0∨(hdA a x).1≤r∨(to≠-1∧isB (spotsF a).1 to=false)):=by
  intro h3
  have:(decide (r<0)||decide ((hdA a x).1≤r)||decide (to≠-1)&&!isB (spotsF a).1 to)=true:=by simpa [or_assoc] using h3
  rw [this] at h2
  cases h2
 rw [if_neg (by rw [h]; simp),if_neg h2]
 obtain ⟨k1,k2,k3,k4,k5,k6⟩:=objA_length h
 have hal:=(isB_spot h).2.2.2.2
 have hto:-1≤to∧to≤255:=by
  by_cases h3:to=-1
  ·omega
  ·have h4:isB (spotsF a).1 to=true:=by
    cases h5:isB (spotsF a).1 to
    ·exact absurd (.inr (.inr ⟨h3,h5⟩)) h2
    ·rfl
   have:=isB_range h4
   omega
 have hr0:0≤r∧r<(hdA a x).1:=by omega
 have hkl:(x+1+r).toNat<a.length:=by omega
 simp only [InR]
 refine ⟨trivial,by omega,by omega,by omega,by omega,hkl,by omega,⟨by omega,by omega,by omega,by omega,by omega,by omega,hal,by first | trivial | rfl⟩,fun ⟨w,i⟩ ⟨i0,i1,i2,i3,i4,i5,i6,i7⟩=>⟨fun hlt=>?_,fun hge=>?_⟩⟩
 ·simp only at i0 i1 i2 i3 i4 i5 i6 i7 hlt ⊢
  have hlt:=of_decide_eq_true hlt
  have hwl:w.length=a.length:=by rw [i7]; simp
  have hwg:w.getD (x+1+r).toNat 0=i:=by rw [i7,List.getD_eq_getElem?_getD]; simp [hkl]
  rw [hwg]
  refine ⟨by omega,by omega,by omega,by omega,by omega,by omega,by omega,by omega,by omega,by omega,⟨by omega,by omega,by omega,by omega,by omega,by omega,hal,?_⟩,by omega⟩
  rw [i7,List.set_set]
 ·simp only at i0 i1 i2 i3 i4 i5 i6 i7 hge ⊢
  have hge:=of_decide_eq_false hge
  rw [i7,show i=to+1 by omega]
  exact ⟨by first | trivial | rfl,by first | trivial | rfl,trivial⟩
theorem e_rWritten:pv_rWritten=(fnVC Tryz.prog (tbl [(41,sp_rHeadAt),(86,sp_refClone)]) an_rWritten Tryz.f63 sp_rWritten):=by kernel_rfl
theorem vc_rWritten:fnVC Tryz.prog (tbl [(41,sp_rHeadAt),(86,sp_refClone)]) an_rWritten Tryz.f63 sp_rWritten:=@Eq.mp _ _ @e_rWritten @vcp_rWritten
theorem ok_rWritten:sp_rWritten.ok Tryz.prog 63:=fn_sound (P:=Tryz.prog) (ss:=tbl [(41,sp_rHeadAt),(86,sp_refClone)]) (ann:=an_rWritten) (f:=63) (fn:=Tryz.f63) (s:=sp_rWritten) (tbl_cons ok_rHeadAt (tbl_cons ok_refClone tbl_nil)) Tryz.func63 @vc_rWritten
theorem handOfFrom_eq (n:Int):∀ (l:List Slot) (k:Int),0≤k→k+l.length≤65536→(∀ s∈l,0≤s.1) →
  handOfFrom n k l=if k≤n % 65536∧n % 65536<k+l.length∧(l.getD (n % 65536 - k).toNat (0,false,0)).2.1=true∧handName (n % 65536) (l.getD (n % 65536 - k).toNat (0,false,0))=n then n % 65536 else -1
 | [],k,_,_,_=>by
  simp only [handOfFrom,List.length_nil]
  rw [if_neg (by omega)]
 | s::l,k,h0,h1,h2=>by
  have ih:=handOfFrom_eq n l (k+1) (by omega) (by simp only [List.length_cons] at h1; omega) (fun t ht=>h2 t (by simp [ht]))
  have hs:=h2 s (by simp)
  simp only [List.length_cons] at *
  simp only [handOfFrom,ih]
  by_cases hk:n % 65536=k
  ·rw [hk]
   simp only [Int.sub_self,Int.toNat_zero,List.getD_cons_zero]
   by_cases hc:s.2.1=true∧handName k s=n
   ·rw [if_pos hc,if_pos ⟨by omega,by omega,hc⟩]
   ·rw [if_neg hc,if_neg (by omega),if_neg (by intro h; exact hc h.2.2)]
  ·have hc:¬ (s.2.1=true∧handName k s=n):=by
    rintro ⟨_,h⟩
    unfold handName at h
    omega
   rw [if_neg hc]
   by_cases hlt:k≤n % 65536
   ·rw [show (n % 65536 - k).toNat=(n % 65536 - (k+1)).toNat+1 by omega,List.getD_cons_succ]
    congr 1
    simp only [eq_iff_iff]
    constructor
    ·rintro ⟨_,q2,q3⟩; exact ⟨by omega,by omega,q3⟩
    ·rintro ⟨_,q2,q3⟩; exact ⟨by omega,by omega,q3⟩
   ·rw [if_neg (by omega),if_neg (by omega)]
theorem handOf_find {h:List Slot} {n:Int} (hf:handsF h=0):((findF h n).2=0∧handOfFrom n 0 h=(findF h n).1∧0≤(findF h n).1∧(findF h n).1<h.length)∨(findF h n=(0,9)∧handOfFrom n 0 h=-1):=by
 obtain ⟨z1,z2⟩:=handsF_zero hf
 have h1:=handOfFrom_eq n h 0 (by omega) (by omega) (fun s hs=>(z2 s hs).1)
 simp only [Int.sub_zero,Int.zero_add] at h1
 unfold findF
 rw [if_neg (by omega),h1]
 by_cases hc:n % 65536<h.length∧(h.getD (n % 65536).toNat (0,false,0)).2.1=true∧handName (n % 65536) (h.getD (n % 65536).toNat (0,false,0))=n
 ·left
  rw [if_pos hc,if_pos ⟨by omega,hc⟩]
  exact ⟨rfl,rfl,by simp only; omega,hc.1⟩
 ·right
  rw [if_neg hc,if_neg (fun q=>hc q.2)]
  exact ⟨rfl,rfl⟩
theorem open_two {h:List Slot} (at_:Int) (hf:handsF h=0) :
  openF h at_=if at_<0∨255<at_ then ([],0,4) else if findFrom freeSlot 0 h<0 then ([],0,7) else (h.set (findFrom freeSlot 0 h).toNat (opened h (findFrom freeSlot 0 h) at_),handName (findFrom freeSlot 0 h) (opened h (findFrom freeSlot 0 h) at_),0):=by
 unfold openF
 rw [if_neg (by omega)]
 by_cases ht:at_<0∨255<at_
 ·rw [if_pos ht,if_pos (by unfold there; grind)]
 ·rw [if_neg ht,if_neg (by unfold there; grind)]
abbrev ty_Op:Ty:=.pair ty_I (.pair ty_I (.pair ty_I (.pair ty_I ty_W)))
def opBad (k a b c v:Int):Bool:=decide (k<1)||decide (13<k)||!(decide (k≠2)&&decide (k≠12))&&decide (a≠0)||!(decide (k=1)||decide (3≤k)&&decide (k≤6)||decide (k=9))&&decide (b≠0)||!(decide (k=1)||decide (k=3)||decide (k=4))&&decide (c≠0)||!(decide (k=1)||decide (k=6)||decide (k=11)||decide (k=12))&&decide (v≠0)
def b2w (b:Bool):Int:=if b=true then 1 else 0
def deed (s:StoreD) (k a b c v:Int):StoreD×Int×Int :=
 if k=1 then ((makeF s a (b,c,v % 65536,false)).1,b2w (makeF s a (b,c,v % 65536,false)).2.1,(makeF s a (b,c,v % 65536,false)).2.2)
 else if k=2 then ((collectT s).1,(collectT s).2,0)
 else if k=3 then ((refF s a b c).1,0,(refF s a b c).2)
 else if k=4 then ((setF s a b c).1,0,(setF s a b c).2)
 else if k=5 then (if bodyErr s a b≠0 then (nilStore,0,bodyErr s a b) else (s,s.1.getD (bodyAt s (rootAt s a) b).toNat 0,0))
 else if k=6 then ((putF s a b v).1,0,(putF s a b v).2)
 else if k=7 then pinF s a
 else if k=8 then ((unpinF s a).1,0,(unpinF s a).2)
 else if k=9 then (if peekErr s a b≠0 then (nilStore,0,peekErr s a b) else (s,s.1.getD (bodyAt s a b).toNat 0,0))
 else if k=10 then openT s a
 else if k=11 then ((useF s v a).1,0,(useF s v a).2)
 else if k=12 then ((shutF s v).1,0,(shutF s v).2)
 else ((dropT s a).1,0,(dropT s a).2)
def doneF (s:StoreD) (k a b c v:Int):StoreD×Int×Int:=if opBad k a b c v=true then (nilStore,0,1) else if storeF s≠0 then (nilStore,0,storeF s) else deed s k a b c v
def rooted (k:Int):Bool:=decide (k=3)||decide (k=4)||decide (k=5)||decide (k=6)||decide (k=7)||decide (k=10)
def slots1 (k:Int):Bool:=decide (k=1)||decide (k=11)||decide (k=13)
theorem deed1 (s:StoreD) (a b c v:Int):deed s 1 a b c v=((makeF s a (b,c,v % 65536,false)).1,b2w (makeF s a (b,c,v % 65536,false)).2.1,(makeF s a (b,c,v % 65536,false)).2.2):=if_pos rfl
theorem deed2 (s:StoreD) (a b c v:Int):deed s 2 a b c v=((collectT s).1,(collectT s).2,0):=by unfold deed; rw [if_neg (by omega),if_pos rfl]
theorem deed3 (s:StoreD) (a b c v:Int):deed s 3 a b c v=((refF s a b c).1,0,(refF s a b c).2):=by
 unfold deed
 iterate 2 rw [if_neg (by omega)]
 rw [if_pos rfl]
theorem deed4 (s:StoreD) (a b c v:Int):deed s 4 a b c v=((setF s a b c).1,0,(setF s a b c).2):=by
 unfold deed
 iterate 3 rw [if_neg (by omega)]
 rw [if_pos rfl]
theorem deed5 (s:StoreD) (a b c v:Int):deed s 5 a b c v=(if bodyErr s a b≠0 then (nilStore,0,bodyErr s a b) else (s,s.1.getD (bodyAt s (rootAt s a) b).toNat 0,0)):=by
 unfold deed
 iterate 4 rw [if_neg (by omega)]
 rw [if_pos rfl]
theorem deed6 (s:StoreD) (a b c v:Int):deed s 6 a b c v=((putF s a b v).1,0,(putF s a b v).2):=by
 unfold deed
 iterate 5 rw [if_neg (by omega)]
 rw [if_pos rfl]
theorem deed7 (s:StoreD) (a b c v:Int):deed s 7 a b c v=pinF s a:=by
 unfold deed
 iterate 6 rw [if_neg (by omega)]
 rw [if_pos rfl]
theorem deed8 (s:StoreD) (a b c v:Int):deed s 8 a b c v=((unpinF s a).1,0,(unpinF s a).2):=by
 unfold deed
 iterate 7 rw [if_neg (by omega)]
 rw [if_pos rfl]
theorem deed9 (s:StoreD) (a b c v:Int):deed s 9 a b c v=(if peekErr s a b≠0 then (nilStore,0,peekErr s a b) else (s,s.1.getD (bodyAt s a b).toNat 0,0)):=by
 unfold deed
 iterate 8 rw [if_neg (by omega)]
 rw [if_pos rfl]
theorem deed10 (s:StoreD) (a b c v:Int):deed s 10 a b c v=openT s a:=by
 unfold deed
 iterate 9 rw [if_neg (by omega)]
 rw [if_pos rfl]
theorem deed11 (s:StoreD) (a b c v:Int):deed s 11 a b c v=((useF s v a).1,0,(useF s v a).2):=by
 unfold deed
 iterate 10 rw [if_neg (by omega)]
 rw [if_pos rfl]
theorem deed12 (s:StoreD) (a b c v:Int):deed s 12 a b c v=((shutF s v).1,0,(shutF s v).2):=by
 unfold deed
 iterate 11 rw [if_neg (by omega)]
 rw [if_pos rfl]
theorem deed13 (s:StoreD) (a b c v:Int):deed s 13 a b c v=((dropT s a).1,0,(dropT s a).2):=by
 unfold deed
 iterate 12 rw [if_neg (by omega)]
theorem obj5 {s:StoreD} {a:Int} (h0:storeF s=0) (h:a<0∨(s.2.1.length:Int)≤a∨s.2.1.getD a.toNat 0<0):objErr s a=5:=by
 unfold objErr
 rw [if_neg (by omega),if_pos h]
theorem obj0 {s:StoreD} {a:Int} (h0:storeF s=0) (h:0≤a) (h1:a<s.2.1.length) (h2:0≤rootAt s a):objErr s a=0:=by
 unfold rootAt at h2
 unfold objErr
 rw [if_neg (by omega),if_neg (by omega)]
theorem slot5 {s:StoreD} {a:Int} (h0:storeF s=0) (h:a<0∨(s.2.1.length:Int)≤a):slotErr s a=5:=by
 unfold slotErr
 rw [if_neg (by omega),if_pos h]
theorem slot0 {s:StoreD} {a:Int} (h0:storeF s=0) (h:0≤a) (h1:a<s.2.1.length):slotErr s a=0:=by
 unfold slotErr
 rw [if_neg (by omega),if_neg (by omega)]
theorem ref_bad {s:StoreD} {k a b c:Int} (v:Int) (hk:k=3∨k=4) (h:refErr s a b c≠0):deed s k a b c v=(nilStore,0,refErr s a b c):=by
 rcases hk with rfl | rfl
 ·rw [deed3]; unfold refF; rw [if_pos h]
 ·rw [deed4]; unfold setF; rw [if_pos h]
theorem body_bad {s:StoreD} {k a b:Int} (c v:Int) (hk:k=5∨k=6) (h:bodyErr s a b≠0):deed s k a b c v=(nilStore,0,bodyErr s a b):=by
 rcases hk with rfl | rfl
 ·rw [deed5,if_pos h]
 ·rw [deed6]; unfold putF; rw [if_pos h]
theorem rooted_or {k:Int} (h:rooted k=true):(k=3∨k=4)∨(k=5∨k=6)∨k=7∨k=10:=by
 unfold rooted at h
 simp only [Bool.or_eq_true,decide_eq_true_eq] at h
 omega
theorem slots_or {k:Int} (h:slots1 k=true):k=1∨k=11∨k=13:=by
 unfold slots1 at h
 simp only [Bool.or_eq_true,decide_eq_true_eq] at h
 omega
theorem deed_none {s:StoreD} {k a:Int} (b c v:Int) (h0:storeF s=0) (hr:rooted k=true) (h:a<0∨(s.2.1.length:Int)≤a∨s.2.1.getD a.toNat 0<0):deed s k a b c v=(nilStore,0,5):=by
 have e:=obj5 h0 h
 have hR:refErr s a b c=5:=by unfold refErr; rw [if_pos (by omega)]; exact e
 have hB:bodyErr s a b=5:=by unfold bodyErr; rw [if_pos (by omega)]; exact e
 rcases rooted_or hr with hk | hk | rfl | rfl
 ·rw [ref_bad v hk (by omega),hR]
 ·rw [body_bad c v hk (by omega),hB]
 ·rw [deed7]; unfold pinF; rw [if_pos (by omega),e]
 ·rw [deed10]; unfold openT; rw [if_pos (by omega),e]
theorem deed_slot {s:StoreD} {k a:Int} (b c v:Int) (h0:storeF s=0) (hr:slots1 k=true) (h:a<0∨(s.2.1.length:Int)≤a):deed s k a b c v=(nilStore,0,5):=by
 have e:=slot5 h0 h
 rcases slots_or hr with rfl | rfl | rfl
 ·rw [deed1]; unfold makeF; rw [if_pos (by omega),e]; rfl
 ·rw [deed11]; unfold useF; rw [if_pos (by omega),e]
 ·rw [deed13]; unfold dropT; rw [if_pos (by omega),e]
theorem sumG_in:∀ (l:List Gap),(∀ r∈l,0≤r.2∧r.2≤256)→0≤sumG l∧sumG l≤256 * (l.length:Int)
 | [],_=>by simp [sumG]
 | r::l,h=>by
  have ih:=sumG_in l fun x hx=>h x (List.mem_cons_of_mem _ hx)
  have h1:=h r List.mem_cons_self
  have e:sumG (r::l)=r.2+sumG l:=by simp [sumG]
  rw [e,List.length_cons]
  omega
theorem named_at {s:StoreD} (R:Right s) {x b:Int} (O:ObjAt s x) (b0:0≤b) (b1:b<(hdA s.1 x).1):((namedL s.1 x (headAtL x (spotsF s.1).1).1).length:Int)=(hdA s.1 x).1∧(namedL s.1 x (headAtL x (spotsF s.1).1).1).getD b.toNat 0=s.1.getD (x+1+b).toNat 0 - 1:=by
 have hv:=R.refWord O.isb b0 b1
 have e:(headAtL x (spotsF s.1).1).1=hdA s.1 x:=rfl
 have h1:=O.x0
 have h2:=O.b0
 have h3:=O.fit
 rw [e]
 unfold namedL
 refine ⟨by simp; omega,?_⟩
 have hlt:(x+1+b).toNat<s.1.length:=by omega
 have hg:s.1[(x+1+b).toNat]?=some (s.1.getD (x+1+b).toNat 0):=by rw [List.getD_eq_getElem?_getD,List.getElem?_eq_getElem hlt]; rfl
 rw [List.getD_eq_getElem?_getD,List.getElem?_map,List.getElem?_drop,List.getElem?_take,if_pos (by omega),show (x+1).toNat+b.toNat=(x+1+b).toNat by omega,hg]
 generalize s.1.getD (x+1+b).toNat 0=w at *
 simp only [Option.map_some,Option.getD_some,nameOf]
 rw [if_neg (by omega)]
theorem written_at {s:StoreD} (R:Right s) {x b c:Int} (O:ObjAt s x) (b0:0≤b) (b1:b<(hdA s.1 x).1) (c0:0≤c) (c1:c<s.2.1.length):(writtenF s.1 x b (rootAt s c)).1=s.1.set (x+1+b).toNat (rootAt s c+1):=by
 unfold writtenF
 rw [if_neg (by rw [O.isb]; simp),if_neg]
 rintro (h | h | ⟨h1,h2⟩)
 ·omega
 ·omega
 ·have h3:=R.rootIn c0 c1
  unfold rootAt at h1 h2
  rw [(R.obj (R.rootNam c0 c1 (by omega))).isb] at h2
  cases h2
theorem pin_in {s:StoreD} (R:Right s) {a:Int}:inL (pinsOf s) a=false ↔ manyP s.2.2.1 a=0:=by
 obtain ⟨_,h6,h7⟩:=pins_ok R.pin
 have e:inL (pinsOf s) a=hasP s.2.2.1 a:=rfl
 rw [e,hasP_get h6]
 unfold manyP
 cases h:mget s.2.2.1 a with
 | none=>simp
 | some v =>
  have:=(h7 _ (mget_mem h)).2.2.1
  simp only at this
  simp only [Option.isSome_some,Option.getD_some]
  constructor
  ·intro h; cases h
  ·intro h; omega
end Go.Proofs.YtglchojglcobjaaGreat
