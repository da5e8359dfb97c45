import Derived.Test.YtglchojglcobjaaGreatDoorM1
import Derived.Shelf.Sort.Plain
import Derived.Shelf.Slices.In.SortNone
import Derived.Shelf.Slices.CompactI
import Derived.Sort.OwnSortedInts
namespace Go.Proofs.YtglchojglcobjaaGreatDoor
section
open Go
set_option maxRecDepth 100000
set_option maxHeartbeats 1000000
theorem sd {v:Int} (h:aQ v=true) (h0:0≤v):a6 (aS v)=v:=by
 simp only [aQ,Bool.and_eq_true,decide_eq_true_eq] at h;have h1:=h.1
 have e:a6 (aS v)=v % 65536+65536 * (v / 65536 % 65536)+4294967296 * (v / 4294967296 % 65536)+(if v / 281474976710656=1 then 281474976710656 else 0):=by
  unfold a6 aS;by_cases hc:v / 281474976710656=1 <;> simp [hc]
 rw [e];split <;> omega
theorem AN (at_:Int) (l:List Int) (r:List aD) (h:spotsS at_ l=some r):∀ s∈r,at_≤s.1∧s.2=aS (l.getD (s.1 - at_).toNat 0)∧aQ (l.getD (s.1 - at_).toNat 0)=true:=by
 induction at_,l using spotsS.induct generalizing r with
 | case1 at_ =>
  simp only [spotsS,Option.some.injEq] at h;subst h;simp
 | case2 at_ v l hv ih =>
  rw [eJ hv.1 hv.2] at h;obtain ⟨r',hr,rfl⟩:=Option.map_eq_some_iff.1 h;have hl:=eL hv.1;intro s hs;rcases List.mem_cons.1 hs with rfl | hs
  ·simp only [Int.sub_self];exact ⟨Int.le_refl _,rfl,hv.1⟩
  ·obtain ⟨h1,h2,h3⟩:=ih r' hr s hs
   have e:((v::l).drop (ac (aS v)).toNat).getD (s.1 - (at_+ac (aS v))).toNat 0=(v::l).getD (s.1 - at_).toNat 0:=by
    rw [List.getD_eq_getElem?_getD,List.getElem?_drop,List.getD_eq_getElem?_getD];congr 2;omega
   rw [e] at h2 h3;exact ⟨by omega,h2,h3⟩
 | case3 at_ v l hv =>
  rw [eI hv] at h;cases h
theorem qD {a:List Int}:∀ s∈(aa a).1,s.2=aS (a.getD s.1.toNat 0)∧aQ (a.getD s.1.toNat 0)=true:=by
 unfold aa;split
 ·intro s hs; cases hs
 ·cases h:spotsS 0 a with
  | none=>intro s hs; cases hs
  | some l =>
   intro s hs;have:=AN 0 a l h s hs;rw [Int.sub_zero] at this;exact this.2
def dp (a:List Int) (at_:Int):du:=(aj at_ (aa a).1).1
def a7 (a:List Int) (at_:Int):List Int:=aJ a (at_,dp a at_)
def ef (a:List Int) (at_:Int):List Int:=jh a (at_,dp a at_)
theorem gP {a:List Int} {at_:Int} (h:isB (aa a).1 at_=true):(at_,dp a at_)∈(aa a).1∧cm a (at_,dp a at_)∧af (dp a at_)=0∧dp a at_=aS (a.getD at_.toNat 0)∧aQ (a.getD at_.toNat 0)=true∧(dp a at_).2.2.2=false:=by
 unfold isB dp at *;rcases gn at_ (aa a).1 with e | ⟨s,h1,h2,h3,e⟩
 ·rw [e] at h; cases h
 ·rw [e];have e2:(at_,s.2)=s:=by rw [← h2]
  rw [e2];obtain ⟨_,k2,k3⟩:=dw a s h1;obtain ⟨k4,k5⟩:=qD s h1;rw [h2] at k4 k5;exact ⟨h1,k2,k3,k4,k5,h3⟩
theorem cI {a:List Int} {at_:Int} (h:isB (aa a).1 at_=true):((a7 a at_).length:Int)=(dp a at_).1∧((ef a at_).length:Int)=(dp a at_).2.1∧0≤at_∧at_+1+(dp a at_).1+(dp a at_).2.1≤a.length∧0≤(dp a at_).1∧0≤(dp a at_).2.1:=by
 obtain ⟨_,k2,_⟩:=gP h;unfold cm at k2;simp only at k2;refine ⟨?_,?_,by omega,by omega,by omega,by omega⟩
 ·unfold a7 aJ;rw [List.length_drop,List.length_take];simp only;omega
 ·unfold ef jh;rw [List.length_drop,List.length_take];simp only;omega
theorem Ep {a:List Int} {at_:Int} (h:isB (aa a).1 at_=true):(a.drop at_.toNat).take (1+(dp a at_).1+(dp a at_).2.1).toNat=a.getD at_.toNat 0::(a7 a at_++ef a at_):=by
 obtain ⟨l1,l2,l3,l4,l5,l6⟩:=cI h;unfold a7 ef aJ jh;simp only;rw [aW (0:Int) l3 (by omega),show (1+(dp a at_).1+(dp a at_).2.1).toNat=((dp a at_).1+(dp a at_).2.1).toNat+1 by omega,List.take_succ_cons];congr 1;generalize (dp a at_).1=r at *;generalize (dp a at_).2.1=b at *
 rw [List.drop_take,List.drop_take,show (r+b).toNat=r.toNat+b.toNat by omega,show (at_+1+r).toNat - (at_+1).toNat=r.toNat by omega,show (at_+1+r+b).toNat - (at_+1+r).toNat=b.toNat by omega,
  List.take_add,List.drop_drop,show (at_+1).toNat+r.toNat=(at_+1+r).toNat by omega]
def gW (keep to:List Int) (v:Int):Option Int:=if v=0 then some 0 else if cP keep (v - 1)=true then some (to.getD (bG keep (v - 1)).toNat 0+1) else none
def ee (keep to:List Int) (v:Int):Int:=(gW keep to v).getD 0
def cn (keep to l:List Int):Bool:=l.all fun v=>(gW keep to v).isSome
def gM (a keep to:List Int) (at_:Int):List Int:=a.getD at_.toNat 0::((a7 a at_).map (ee keep to)++ef a at_)
def ib (pinned keep long:List Int) (i:Nat):List Int:=List.replicate (cT pinned keep long i - a8 pinned keep long i).toNat 0
def cf (a keep to pinned long:List Int):Nat→List Int
 | 0=>[]
 | i+1=>cf a keep to pinned long i++(ib pinned keep long i++gM a keep to (keep.getD i 0))
def fq (w:List Int) (r:bY):List Int:=w.set r.1.toNat (a6 (0,r.2 - 1,0,true))
def kj (a keep to pinned long:List Int) (g:List bY):List Int :=
 g.foldl fq (cf a keep to pinned long keep.length++List.replicate ((a.length:Int) - a8 pinned keep long keep.length).toNat 0)
def cQ (a keep pinned:List Int):List Int×List Int×Int :=
 if (am a keep pinned).2≠0 then ([],[],(am a keep pinned).2)
 else if (keep.all fun at_=>cn keep (ar keep (am a keep pinned).1 pinned) (a7 a at_))=true then
  (kj a keep (ar keep (am a keep pinned).1 pinned) pinned (am a keep pinned).1 (bV a.length keep (am a keep pinned).1 pinned),ar keep (am a keep pinned).1 pinned,0)
 else ([],[],8)
structure Plan (a keep pinned long:List Int):Prop where
 chk:(au a).2.2=0
 al:a.length≤256
 isb:∀ x∈keep,isB (aa a).1 x=true
 pre:dD keep long
 lg:∀ i:Nat,i<keep.length→long.getD i 0=1+(dp a (keep.getD i 0)).1+(dp a (keep.getD i 0)).2.1
 le:∀ i:Nat,i<keep.length→a8 pinned keep long i≤cT pinned keep long i∧cT pinned keep long i+long.getD i 0≤(a.length:Int)
 en:a8 pinned keep long keep.length≤(a.length:Int)
 rs:keep.Pairwise (·<·)
theorem ze {a keep pinned:List Int} (h:(am a keep pinned).2=0):Plan a keep pinned (am a keep pinned).1:=by
 obtain ⟨k1,k2,_,k4,_,k6⟩:=lM h;obtain ⟨d1,d2⟩:=xy h;have hp:=mC h;rw [k6] at hp ⊢
 have hG:∀ k:Nat,k<keep.length→(keep.map (aG (aa a).1)).getD k 0=aG (aa a).1 (keep.getD k 0):=by
  intro k hk;rw [List.getD_eq_getElem?_getD,List.getElem?_map,List.getD_eq_getElem?_getD,List.getElem?_eq_getElem hk];rfl
 have hle:=zU (pinned:=pinned) hp d1 d2
 have hto:∀ i:Nat,i<keep.length→a8 pinned keep (keep.map (aG (aa a).1)) i≤cT pinned keep (keep.map (aG (aa a).1)) i∧cT pinned keep (keep.map (aG (aa a).1)) i+(keep.map (aG (aa a).1)).getD i 0≤(a.length:Int):=fun i hi=>by
  have h1:=DC (hle i hi);have h2:=d2 i hi;omega
 refine ⟨k1,(b7 k1).1,k4,hp,fun i hi=>by rw [hG i hi]; rfl,hto,?_,gi k2⟩;cases hn:keep.length with
 | zero=>simp [a8]
 | succ n =>
  have:=hto n (by omega);show cT pinned keep (keep.map (aG (aa a).1)) n+(keep.map (aG (aa a).1)).getD n 0≤_;exact this.2
theorem jY {a keep to:List Int} {at_:Int} (h:isB (aa a).1 at_=true):((gM a keep to at_).length:Int)=1+(dp a at_).1+(dp a at_).2.1:=by
 obtain ⟨l1,l2,_⟩:=cI h;unfold gM;simp only [List.length_cons,List.length_append,List.length_map];omega
theorem ga {keep:List Int} {i:Nat} (h:i<keep.length):keep.getD i 0∈keep:=by
 have:=aI (0:Int) (xs:=keep) (i:=i) (by omega) (by omega);simpa only [Int.toNat_natCast] using this
theorem fY {a keep pinned long:List Int} (to:List Int) (hP:Plan a keep pinned long):∀ i:Nat,i≤keep.length→((cf a keep to pinned long i).length:Int)=a8 pinned keep long i
 | 0,_=>rfl
 | i+1,hi=>by
  have ih:=fY to hP i (by omega);have h1:=jY (keep:=keep) (to:=to) (hP.isb _ (ga (i:=i) (by omega)));have h2:=hP.le i (by omega);have h3:=hP.lg i (by omega);have hE:a8 pinned keep long (i+1)=cT pinned keep long i+long.getD i 0:=rfl;simp only [cf,List.length_append,ib,List.length_replicate];omega
def oV (keep to:List Int):Nat→List (Int×Int)
 | 0=>[(0,0)]
 | i+1=>eg (oV keep to i) (keep.getD i 0+1) (to.getD i 0+1)
theorem m9 {α:Type} (f:α→Bool) (x:α):∀ (l:List α) (k:Int),ai f k (l++[x])=if l.any f=true then ai f k l else if f x=true then k+l.length else -1
 | [],k=>by simp [ai]
 | y::l,k=>by
  have ih:=m9 f x l (k+1);simp only [List.cons_append,ai,List.any_cons,ih];by_cases hy:f y=true
  ·simp [hy]
  ·have hy:f y=false:=by simpa using hy
   simp only [hy,Bool.false_eq_true,if_false,Bool.false_or,List.length_cons];split
   ·rfl
   ·split
    ·omega
    ·rfl
theorem xu {keep to:List Int} (hk:keep.Pairwise (·<·)) (h0:∀ x∈keep,0≤x) (v:Int):∀ i:Nat,i≤keep.length→aT (oV keep to i) v=if v=0 then some 0 else if cP (keep.take i) (v - 1)=true then some (to.getD (bG (keep.take i) (v - 1)).toNat 0+1) else none
 | 0,_=>by
  simp only [oV,aT,List.take_zero,cP,List.any_nil,Bool.false_eq_true,if_false];by_cases hv:v=0
  ·simp [hv]
  ·simp [hv,Ne.symm hv]
 | i+1,hi=>by
  have ih:=xu (to:=to) hk h0 v i (by omega);have hx:=h0 _ (ga (i:=i) (by omega))
  have ht:keep.take (i+1)=keep.take i++[keep.getD i 0]:=by
   rw [List.take_succ_eq_append_getElem (by omega)];congr 2;rw [List.getD_eq_getElem?_getD,List.getElem?_eq_getElem (by omega)];rfl
  have hnot:cP (keep.take i) (keep.getD i 0)=false:=by
   unfold cP;rw [List.any_eq_false];intro y hy;obtain ⟨j,hj,rfl⟩:=List.mem_iff_getElem.1 hy;rw [List.length_take] at hj;have:=List.pairwise_iff_getElem.1 hk j i (by omega) (by omega) (by omega);rw [List.getElem_take];simp only [decide_eq_true_eq];rw [List.getD_eq_getElem?_getD,List.getElem?_eq_getElem (by omega)];simp only [Option.getD_some];omega
  simp only [oV];rw [ja,ih,ht];unfold bG cP;rw [m9,List.any_append];simp only [List.any_cons,List.any_nil,Bool.or_false,List.length_take];by_cases hv:v=keep.getD i 0+1
  ·rw [if_pos hv,if_neg (by omega)];have e:v - 1=keep.getD i 0:=by omega
   rw [e];unfold cP at hnot;rw [hnot];simp only [decide_true,Bool.or_true,if_true,Bool.false_eq_true,if_false];rw [show (0+((min i keep.length:Nat):Int)).toNat=i by omega]
  ·rw [if_neg hv];have e:decide (keep.getD i 0=v - 1)=false:=decide_eq_false (by omega);rw [e,Bool.or_false];split
   ·rfl
   ·split
    ·rfl
    ·rfl
theorem Jg {keep to:List Int} (hk:keep.Pairwise (·<·)) (h0:∀ x∈keep,0≤x) (v:Int):aT (oV keep to keep.length) v=gW keep to v:=by
 rw [xu hk h0 v keep.length (Nat.le_refl _),List.take_length];rfl
theorem qG:∀ {l:List aD} {s t:aD},l.Pairwise (fun s t=>s.1<t.1)→s∈l→t∈l→s.1=t.1→s=t
 | x::l,s,t,h,hs,ht,e=>by
  obtain ⟨h1,h2⟩:=List.pairwise_cons.1 h;rcases List.mem_cons.1 hs with hs | hs <;> rcases List.mem_cons.1 ht with ht | ht
  ·rw [hs,ht]
  ·have:=h1 t ht; subst hs; omega
  ·have:=h1 s hs; subst ht; omega
  ·exact qG h2 hs ht e
theorem FR {a:List Int} {at_:Int} (hc:(au a).2.2=0) (h:isB (aa a).1 at_=true):(db a at_).1.2.1.length=(a7 a at_).length∧(db a at_).1.2.2.1.length=(ef a at_).length:=by
 obtain ⟨k1,_⟩:=gP h;obtain ⟨_,_,e3,_⟩:=b7 hc;have hany:((aa a).1.any fun s:aD=>decide (s.1=at_))=true:=List.any_eq_true.2 ⟨_,k1,by simp⟩;have hpos:=cW (fun s:aD=>decide (s.1=at_)) (aa a).1 0 (by omega);rw [hany] at hpos;have hpos:=of_decide_eq_true hpos;have hlt:=dq (fun s:aD=>decide (s.1=at_)) (0,0,0,0,false) (aa a).1 0 (by omega);have his:=gH (fun s:aD=>decide (s.1=at_)) (0,0,0,0,false) (aa a).1 0 hpos (by omega);rw [Int.sub_zero] at his;have hm:=aI ((0,0,0,0,false):aD) (xs:=(aa a).1) hpos (by omega);have e:=qG (cp a) hm k1 (of_decide_eq_true his);unfold db;rw [if_neg (by omega),e3,if_neg (by omega),e];unfold gO a7 ef;exact ⟨by rw [List.length_map],rfl⟩
theorem kH {A B:List Int} {x:Int} (y:Int) {n:Nat} (h:n=A.length):(A++x::B).set n y=A++y::B:=by
 rw [h,List.set_append_right _ _ (Nat.le_refl _)];simp
theorem KY {A B:List Int} {x:Int} {n:Nat} (h:n=A.length):(A++x::B).getD n 0=x:=by
 rw [h,List.getD_eq_getElem?_getD,List.getElem?_append_right (Nat.le_refl _)];simp
theorem xG {a keep pinned long:List Int} (hP:Plan a keep pinned long):∀ i:Nat,i≤keep.length→∀ r∈eS pinned keep long i,0≤r.1∧1≤r.2∧r.1+r.2≤(a.length:Int)
 | 0,_,r,hr=>by cases hr
 | i+1,hi,r,hr=>by
  simp only [eS] at hr;rcases List.mem_append.1 hr with hr | hr
  ·exact xG hP i (by omega) r hr
  ·have h1:=hP.le i (by omega);have h2:=hP.lg i (by omega);have h3:=cg pinned hP.pre i (by omega);obtain ⟨_,_,_,l4,l5,l6⟩:=cI (hP.isb _ (ga (i:=i) (by omega)));split at hr
   ·simp only [List.mem_singleton] at hr;subst hr;simp only;omega
   ·cases hr
theorem rt {a keep pinned long:List Int} (hP:Plan a keep pinned long):∀ r∈bV a.length keep long pinned,0≤r.1∧1≤r.2∧r.1+r.2≤(a.length:Int):=by
 intro r hr;unfold bV at hr;rcases List.mem_append.1 hr with hr | hr
 ·exact xG hP _ (Nat.le_refl _) r hr
 ·have h3:=cg pinned hP.pre keep.length (Nat.le_refl _);split at hr
  ·simp only [List.mem_singleton] at hr;subst hr;simp only;omega
  ·cases hr
theorem ll (n:Int) (keep long pinned:List Int):(bV n keep long pinned).length≤keep.length+1:=by
 have:=im pinned keep long keep.length;unfold bV;rw [List.length_append];split <;> simp <;> omega
def J5:Nat→Option LoopGen
 | 6=>some { rd:=[.dat 39 (.arr ty_I),.own 9 3 ty_I],A:=fun ((keep,to):List Int×List Int)=>{ cs:=[.map 37 .u64 bb,.dat 41 ty_I],inv:=fun ((m,i):List (Int×Int)×Int)=>0≤i∧i≤keep.length∧m=oV keep to i.toNat,mu:=fun ((_,i):List (Int×Int)×Int)=>(keep.length - i).toNat } }
 | 12=>some { rd:=[.dat 60 (.arr ty_I),.own 9 3 ty_I,.dat 0 (.arr bb),.dat 2 (.arr ty_I)],wr:=[14],A:=fun ((keep,to,a,pinned):List Int×List Int×List Int×List Int)=>{ cs:=[.own 14 29 bb,.dat 62 ty_I],inv:=fun ((w,i):List Int×Int)=>0≤i∧i≤keep.length∧((keep.drop i.toNat).all fun at_=>cn keep to (a7 a at_))=(keep.all fun at_=>cn keep to (a7 a at_))∧w=cf a keep to pinned (am a keep pinned).1 i.toNat++List.replicate ((a.length:Int) - a8 pinned keep (am a keep pinned).1 i.toNat).toNat 0,mu:=fun ((_,i):List Int×Int)=>(keep.length - i).toNat } }
 | 18=>some { rd:=[.dat 60 (.arr ty_I),.own 9 3 ty_I,.dat 0 (.arr bb),.dat 2 (.arr ty_I),.dat 15 ty_I,.dat 99 ty_I],wr:=[14,19],A:=fun ((keep,to,a,pinned,i,n):List Int×List Int×List Int×List Int×Int×Int)=>{ cs:=[.own 14 29 bb,.part 19 14 bb,.dat 100 ty_I],inv:=fun ((w,pt,k):List Int×(Nat×Nat)×Int)=>0≤k∧k≤n∧pt.1=(cT pinned keep (am a keep pinned).1 i.toNat).toNat∧(pt.2:Int)=(am a keep pinned).1.getD i.toNat 0∧cn keep to ((a7 a (keep.getD i.toNat 0)).drop k.toNat)=cn keep to (a7 a (keep.getD i.toNat 0)) ∧
   w=(cf a keep to pinned (am a keep pinned).1 i.toNat++(ib pinned keep (am a keep pinned).1 i.toNat++a.getD (keep.getD i.toNat 0).toNat 0::((a7 a (keep.getD i.toNat 0)).take k.toNat).map (ee keep to)))++((a7 a (keep.getD i.toNat 0)).drop k.toNat++(ef a (keep.getD i.toNat 0)++List.replicate ((a.length:Int) - a8 pinned keep (am a keep pinned).1 (i.toNat+1)).toNat 0)),mu:=fun ((_,_,k):List Int×(Nat×Nat)×Int)=>(n - k).toNat } }
 | 28=>some { rd:=[.own 129 129 fw,.own 14 29 bb],wr:=[14],A:=fun ((g,w0):List bY×List Int)=>{ cs:=[.own 14 29 bb,.dat 131 ty_I],inv:=fun ((w,i):List Int×Int)=>0≤i∧i≤g.length∧w.length=w0.length∧w=(g.take i.toNat).foldl fq w0,mu:=fun ((_,i):List Int×Int)=>(g.length - i).toNat } }
 | _=>none
def Im:Spec:={ Ts:=[.arr bb,.arr ty_I,.arr ty_I],Rs:=[.own 29 bb,.own 3 ty_I,.dat ty_I],pre:=fun _=>True,F:=fun ((a,keep,pinned):List Int×List Int×List Int)=>cQ a keep pinned }
def Bx:Prop :=
  ∀ (x:List Int×List Int×List Int),((x.1.length * 8≤aA∧∀ (x_1:Int),x_1∈x.1→ak .u64 x_1)∧(x.2.1.length * 8≤aA∧∀ (x_1:Int),x_1∈x.2.1→ak .i64 x_1)∧x.2.2.length * 8≤aA∧∀ (x_1:Int),x_1∈x.2.2→ak .i64 x_1)→True→True∧(decide ((am x.1 x.2.1 x.2.2).2≠0)=true→([]:List Int)=(cQ x.1 x.2.1 x.2.2).1∧([]:List Int)=(cQ x.1 x.2.1 x.2.2).2.1∧(am x.1 x.2.1 x.2.2).2=(cQ x.1 x.2.1 x.2.2).2.2∧True)∧(decide ((am x.1 x.2.1 x.2.2).2≠0)=false→((0:Int)≤0∧0≤(↑x.2.1.length:Int)∧eg ([]:List (Int×Int)) 0 0=oV x.2.1 (if (am x.1 x.2.1 x.2.2).2≠0 then ([]:List Int) else ar x.2.1 (am x.1 x.2.1 x.2.2).1 x.2.2) (Int.toNat 0))∧∀ (x_1:List (Int×Int)×Int),0≤x_1.2∧x_1.2≤(↑x.2.1.length:Int)∧x_1.1=oV x.2.1 (if (am x.1 x.2.1 x.2.2).2≠0 then ([]:List Int) else ar x.2.1 (am x.1 x.2.1 x.2.2).1 x.2.2) x_1.2.toNat→(decide (x_1.2<(↑x.2.1.length:Int))=true→0≤x_1.2∧x_1.2<(↑x.2.1.length:Int)∧ak .u64 (IntKind.u64.wrap (x.2.1.getD x_1.2.toNat 0)+1)∧0≤x_1.2∧x_1.2<(↑(if (am x.1 x.2.1 x.2.2).2≠0 then ([]:List Int) else ar x.2.1 (am x.1 x.2.1 x.2.2).1 x.2.2).length:Int)∧x_1.2.toNat<(if (am x.1 x.2.1 x.2.2).2≠0 then ([]:List Int) else ar x.2.1 (am x.1 x.2.1 x.2.2).1 x.2.2).length∧ak .u64 (IntKind.u64.wrap ((if (am x.1 x.2.1 x.2.2).2≠0 then ([]:List Int) else ar x.2.1 (am x.1 x.2.1 x.2.2).1 x.2.2).getD x_1.2.toNat 0)+1)∧ak .i64 (x_1.2+1)∧(0≤x_1.2+1∧x_1.2+1≤(↑x.2.1.length:Int)∧eg x_1.1 (IntKind.u64.wrap (x.2.1.getD x_1.2.toNat 0)+1) (IntKind.u64.wrap ((if (am x.1 x.2.1 x.2.2).2≠0 then ([]:List Int) else ar x.2.1 (am x.1 x.2.1 x.2.2).1 x.2.2).getD x_1.2.toNat 0)+1)=oV x.2.1 (if (am x.1 x.2.1 x.2.2).2≠0 then ([]:List Int) else ar x.2.1 (am x.1 x.2.1 x.2.2).1 x.2.2) (x_1.2+1).toNat)∧((↑x.2.1.length:Int) - (x_1.2+1)).toNat<((↑x.2.1.length:Int) - x_1.2).toNat)∧(decide (x_1.2<(↑x.2.1.length:Int))=false→0≤(↑x.1.length:Int)∧(↑x.1.length:Int).toNat * 8≤aA∧((0:Int)≤0∧0≤(↑x.2.1.length:Int)∧(((List.drop (Int.toNat 0) x.2.1).all fun (at_:Int)=>cn x.2.1 (if (am x.1 x.2.1 x.2.2).2≠0 then ([]:List Int) else ar x.2.1 (am x.1 x.2.1 x.2.2).1 x.2.2) (a7 x.1 at_))=x.2.1.all fun (at_:Int)=>cn x.2.1 (if (am x.1 x.2.1 x.2.2).2≠0 then ([]:List Int) else ar x.2.1 (am x.1 x.2.1 x.2.2).1 x.2.2) (a7 x.1 at_))∧List.replicate (↑x.1.length:Int).toNat (0:Int)=cf x.1 x.2.1 (if (am x.1 x.2.1 x.2.2).2≠0 then ([]:List Int) else ar x.2.1 (am x.1 x.2.1 x.2.2).1 x.2.2) x.2.2 (am x.1 x.2.1 x.2.2).1 (Int.toNat 0)++List.replicate ((↑x.1.length:Int) - a8 x.2.2 x.2.1 (am x.1 x.2.1 x.2.2).1 (Int.toNat 0)).toNat (0:Int))∧∀ (x_2:List Int×Int),0≤x_2.2∧x_2.2≤(↑x.2.1.length:Int)∧(((List.drop x_2.2.toNat x.2.1).all fun (at_:Int)=>cn x.2.1 (if (am x.1 x.2.1 x.2.2).2≠0 then ([]:List Int) else ar x.2.1 (am x.1 x.2.1 x.2.2).1 x.2.2) (a7 x.1 at_))=x.2.1.all fun (at_:Int)=>cn x.2.1 (if (am x.1 x.2.1 x.2.2).2≠0 then ([]:List Int) else ar x.2.1 (am x.1 x.2.1 x.2.2).1 x.2.2) (a7 x.1 at_))∧x_2.1=cf x.1 x.2.1 (if (am x.1 x.2.1 x.2.2).2≠0 then ([]:List Int) else ar x.2.1 (am x.1 x.2.1 x.2.2).1 x.2.2) x.2.2 (am x.1 x.2.1 x.2.2).1 x_2.2.toNat++List.replicate ((↑x.1.length:Int) - a8 x.2.2 x.2.1 (am x.1 x.2.1 x.2.2).1 x_2.2.toNat).toNat (0:Int)→(decide (x_2.2<(↑x.2.1.length:Int))=true→0≤x_2.2∧x_2.2<(↑x.2.1.length:Int)∧True∧0≤x_2.2∧x_2.2<(↑(if (am x.1 x.2.1 x.2.2).2≠0 then ([]:List Int) else ar x.2.1 (am x.1 x.2.1 x.2.2).1 x.2.2).length:Int)∧x_2.2.toNat<(if (am x.1 x.2.1 x.2.2).2≠0 then ([]:List Int) else ar x.2.1 (am x.1 x.2.1 x.2.2).1 x.2.2).length∧0≤x_2.2∧x_2.2<(↑(if (am x.1 x.2.1 x.2.2).2≠0 then ([]:List Int) else ar x.2.1 (am x.1 x.2.1 x.2.2).1 x.2.2).length:Int)∧x_2.2.toNat<(if (am x.1 x.2.1 x.2.2).2≠0 then ([]:List Int) else ar x.2.1 (am x.1 x.2.1 x.2.2).1 x.2.2).length∧ak .i64 ((if (am x.1 x.2.1 x.2.2).2≠0 then ([]:List Int) else ar x.2.1 (am x.1 x.2.1 x.2.2).1 x.2.2).getD x_2.2.toNat 0+1)∧ak .i64 ((if (am x.1 x.2.1 x.2.2).2≠0 then ([]:List Int) else ar x.2.1 (am x.1 x.2.1 x.2.2).1 x.2.2).getD x_2.2.toNat 0+1+(↑(db x.1 (x.2.1.getD x_2.2.toNat 0)).1.2.1.length:Int))∧ak .i64 ((if (am x.1 x.2.1 x.2.2).2≠0 then ([]:List Int) else ar x.2.1 (am x.1 x.2.1 x.2.2).1 x.2.2).getD x_2.2.toNat 0+1+(↑(db x.1 (x.2.1.getD x_2.2.toNat 0)).1.2.1.length:Int)+(↑(db x.1 (x.2.1.getD x_2.2.toNat 0)).1.2.2.1.length:Int))∧0≤(if (am x.1 x.2.1 x.2.2).2≠0 then ([]:List Int) else ar x.2.1 (am x.1 x.2.1 x.2.2).1 x.2.2).getD x_2.2.toNat 0∧(if (am x.1 x.2.1 x.2.2).2≠0 then ([]:List Int) else ar x.2.1 (am x.1 x.2.1 x.2.2).1 x.2.2).getD x_2.2.toNat 0≤(if (am x.1 x.2.1 x.2.2).2≠0 then ([]:List Int) else ar x.2.1 (am x.1 x.2.1 x.2.2).1 x.2.2).getD x_2.2.toNat 0+1+(↑(db x.1 (x.2.1.getD x_2.2.toNat 0)).1.2.1.length:Int)+(↑(db x.1 (x.2.1.getD x_2.2.toNat 0)).1.2.2.1.length:Int)∧(if (am x.1 x.2.1 x.2.2).2≠0 then ([]:List Int) else ar x.2.1 (am x.1 x.2.1 x.2.2).1 x.2.2).getD x_2.2.toNat 0+1+(↑(db x.1 (x.2.1.getD x_2.2.toNat 0)).1.2.1.length:Int)+(↑(db x.1 (x.2.1.getD x_2.2.toNat 0)).1.2.2.1.length:Int)≤(↑x_2.1.length:Int)∧0≤x.2.1.getD x_2.2.toNat 0∧x.2.1.getD x_2.2.toNat 0≤(↑x.1.length:Int)∧((if (am x.1 x.2.1 x.2.2).2≠0 then ([]:List Int) else ar x.2.1 (am x.1 x.2.1 x.2.2).1 x.2.2).getD x_2.2.toNat 0).toNat+(((if (am x.1 x.2.1 x.2.2).2≠0 then ([]:List Int) else ar x.2.1 (am x.1 x.2.1 x.2.2).1 x.2.2).getD x_2.2.toNat 0+1+(↑(db x.1 (x.2.1.getD x_2.2.toNat 0)).1.2.1.length:Int)+(↑(db x.1 (x.2.1.getD x_2.2.toNat 0)).1.2.2.1.length:Int)).toNat - ((if (am x.1 x.2.1 x.2.2).2≠0 then ([]:List Int) else ar x.2.1 (am x.1 x.2.1 x.2.2).1 x.2.2).getD x_2.2.toNat 0).toNat)≤x_2.1.length∧((0:Int)≤0∧0≤(↑(db x.1 (x.2.1.getD x_2.2.toNat 0)).1.2.1.length:Int)∧((if (am x.1 x.2.1 x.2.2).2≠0 then ([]:List Int) else ar x.2.1 (am x.1 x.2.1 x.2.2).1 x.2.2).getD x_2.2.toNat 0).toNat=(cT x.2.2 x.2.1 (am x.1 x.2.1 x.2.2).1 x_2.2.toNat).toNat∧(↑(((if (am x.1 x.2.1 x.2.2).2≠0 then ([]:List Int) else ar x.2.1 (am x.1 x.2.1 x.2.2).1 x.2.2).getD x_2.2.toNat 0+1+(↑(db x.1 (x.2.1.getD x_2.2.toNat 0)).1.2.1.length:Int)+(↑(db x.1 (x.2.1.getD x_2.2.toNat 0)).1.2.2.1.length:Int)).toNat - ((if (am x.1 x.2.1 x.2.2).2≠0 then ([]:List Int) else ar x.2.1 (am x.1 x.2.1 x.2.2).1 x.2.2).getD x_2.2.toNat 0).toNat):Int)=(am x.1 x.2.1 x.2.2).1.getD x_2.2.toNat 0∧cn x.2.1 (if (am x.1 x.2.1 x.2.2).2≠0 then ([]:List Int) else ar x.2.1 (am x.1 x.2.1 x.2.2).1 x.2.2) (List.drop (Int.toNat 0) (a7 x.1 (x.2.1.getD x_2.2.toNat 0)))=cn x.2.1 (if (am x.1 x.2.1 x.2.2).2≠0 then ([]:List Int) else ar x.2.1 (am x.1 x.2.1 x.2.2).1 x.2.2) (a7 x.1 (x.2.1.getD x_2.2.toNat 0))∧List.take ((if (am x.1 x.2.1 x.2.2).2≠0 then ([]:List Int) else ar x.2.1 (am x.1 x.2.1 x.2.2).1 x.2.2).getD x_2.2.toNat 0).toNat x_2.1++(List.take (min (List.drop (x.2.1.getD x_2.2.toNat 0).toNat x.1).length (((if (am x.1 x.2.1 x.2.2).2≠0 then ([]:List Int) else ar x.2.1 (am x.1 x.2.1 x.2.2).1 x.2.2).getD x_2.2.toNat 0+1+(↑(db x.1 (x.2.1.getD x_2.2.toNat 0)).1.2.1.length:Int)+(↑(db x.1 (x.2.1.getD x_2.2.toNat 0)).1.2.2.1.length:Int)).toNat - ((if (am x.1 x.2.1 x.2.2).2≠0 then ([]:List Int) else ar x.2.1 (am x.1 x.2.1 x.2.2).1 x.2.2).getD x_2.2.toNat 0).toNat)) (List.drop (x.2.1.getD x_2.2.toNat 0).toNat x.1)++List.drop (((if (am x.1 x.2.1 x.2.2).2≠0 then ([]:List Int) else ar x.2.1 (am x.1 x.2.1 x.2.2).1 x.2.2).getD x_2.2.toNat 0).toNat+min (List.drop (x.2.1.getD x_2.2.toNat 0).toNat x.1).length (((if (am x.1 x.2.1 x.2.2).2≠0 then ([]:List Int) else ar x.2.1 (am x.1 x.2.1 x.2.2).1 x.2.2).getD x_2.2.toNat 0+1+(↑(db x.1 (x.2.1.getD x_2.2.toNat 0)).1.2.1.length:Int)+(↑(db x.1 (x.2.1.getD x_2.2.toNat 0)).1.2.2.1.length:Int)).toNat - ((if (am x.1 x.2.1 x.2.2).2≠0 then ([]:List Int) else ar x.2.1 (am x.1 x.2.1 x.2.2).1 x.2.2).getD x_2.2.toNat 0).toNat)) x_2.1)=cf x.1 x.2.1 (if (am x.1 x.2.1 x.2.2).2≠0 then ([]:List Int) else ar x.2.1 (am x.1 x.2.1 x.2.2).1 x.2.2) x.2.2 (am x.1 x.2.1 x.2.2).1 x_2.2.toNat++(ib x.2.2 x.2.1 (am x.1 x.2.1 x.2.2).1 x_2.2.toNat++x.1.getD (x.2.1.getD x_2.2.toNat 0).toNat 0::List.map (ee x.2.1 (if (am x.1 x.2.1 x.2.2).2≠0 then ([]:List Int) else ar x.2.1 (am x.1 x.2.1 x.2.2).1 x.2.2)) (List.take (Int.toNat 0) (a7 x.1 (x.2.1.getD x_2.2.toNat 0))))++(List.drop (Int.toNat 0) (a7 x.1 (x.2.1.getD x_2.2.toNat 0))++(ef x.1 (x.2.1.getD x_2.2.toNat 0)++List.replicate ((↑x.1.length:Int) - a8 x.2.2 x.2.1 (am x.1 x.2.1 x.2.2).1 (x_2.2.toNat+1)).toNat (0:Int))))∧∀ (x_3:List Int×(Nat×Nat)×Int),0≤x_3.2.2∧x_3.2.2≤(↑(db x.1 (x.2.1.getD x_2.2.toNat 0)).1.2.1.length:Int)∧x_3.2.1.1=(cT x.2.2 x.2.1 (am x.1 x.2.1 x.2.2).1 x_2.2.toNat).toNat∧(↑x_3.2.1.2:Int)=(am x.1 x.2.1 x.2.2).1.getD x_2.2.toNat 0∧cn x.2.1 (if (am x.1 x.2.1 x.2.2).2≠0 then ([]:List Int) else ar x.2.1 (am x.1 x.2.1 x.2.2).1 x.2.2) (List.drop x_3.2.2.toNat (a7 x.1 (x.2.1.getD x_2.2.toNat 0)))=cn x.2.1 (if (am x.1 x.2.1 x.2.2).2≠0 then ([]:List Int) else ar x.2.1 (am x.1 x.2.1 x.2.2).1 x.2.2) (a7 x.1 (x.2.1.getD x_2.2.toNat 0))∧x_3.1=cf x.1 x.2.1 (if (am x.1 x.2.1 x.2.2).2≠0 then ([]:List Int) else ar x.2.1 (am x.1 x.2.1 x.2.2).1 x.2.2) x.2.2 (am x.1 x.2.1 x.2.2).1 x_2.2.toNat++(ib x.2.2 x.2.1 (am x.1 x.2.1 x.2.2).1 x_2.2.toNat++x.1.getD (x.2.1.getD x_2.2.toNat 0).toNat 0::List.map (ee x.2.1 (if (am x.1 x.2.1 x.2.2).2≠0 then ([]:List Int) else ar x.2.1 (am x.1 x.2.1 x.2.2).1 x.2.2)) (List.take x_3.2.2.toNat (a7 x.1 (x.2.1.getD x_2.2.toNat 0))))++(List.drop x_3.2.2.toNat (a7 x.1 (x.2.1.getD x_2.2.toNat 0))++(ef x.1 (x.2.1.getD x_2.2.toNat 0)++List.replicate ((↑x.1.length:Int) - a8 x.2.2 x.2.1 (am x.1 x.2.1 x.2.2).1 (x_2.2.toNat+1)).toNat (0:Int)))→(decide (x_3.2.2<(↑(db x.1 (x.2.1.getD x_2.2.toNat 0)).1.2.1.length:Int))=true→ak .i64 (1+x_3.2.2)∧(0:Int)≤1+x_3.2.2∧1+x_3.2.2<(↑x_3.2.1.2:Int)∧x_3.2.1.1+(1+x_3.2.2).toNat<x_3.1.length∧((!(aT x_1.1 (x_3.1.getD (x_3.2.1.1+(1+x_3.2.2).toNat) 0)).isSome)=true→([]:List Int)=(cQ x.1 x.2.1 x.2.2).1∧([]:List Int)=(cQ x.1 x.2.1 x.2.2).2.1∧8=(cQ x.1 x.2.1 x.2.2).2.2∧True)∧((!(aT x_1.1 (x_3.1.getD (x_3.2.1.1+(1+x_3.2.2).toNat) 0)).isSome)=false→ak .i64 (1+x_3.2.2)∧(0:Int)≤1+x_3.2.2∧1+x_3.2.2<(↑x_3.2.1.2:Int)∧x_3.2.1.1+(1+x_3.2.2).toNat<x_3.1.length∧ak .i64 (x_3.2.2+1)∧(0≤x_3.2.2+1∧x_3.2.2+1≤(↑(db x.1 (x.2.1.getD x_2.2.toNat 0)).1.2.1.length:Int)∧x_3.2.1.1=(cT x.2.2 x.2.1 (am x.1 x.2.1 x.2.2).1 x_2.2.toNat).toNat∧(↑x_3.2.1.2:Int)=(am x.1 x.2.1 x.2.2).1.getD x_2.2.toNat 0∧cn x.2.1 (if (am x.1 x.2.1 x.2.2).2≠0 then ([]:List Int) else ar x.2.1 (am x.1 x.2.1 x.2.2).1 x.2.2) (List.drop (x_3.2.2+1).toNat (a7 x.1 (x.2.1.getD x_2.2.toNat 0)))=cn x.2.1 (if (am x.1 x.2.1 x.2.2).2≠0 then ([]:List Int) else ar x.2.1 (am x.1 x.2.1 x.2.2).1 x.2.2) (a7 x.1 (x.2.1.getD x_2.2.toNat 0))∧x_3.1.set (x_3.2.1.1+(1+x_3.2.2).toNat) ((aT x_1.1 (x_3.1.getD (x_3.2.1.1+(1+x_3.2.2).toNat) 0)).getD 0)=cf x.1 x.2.1 (if (am x.1 x.2.1 x.2.2).2≠0 then ([]:List Int) else ar x.2.1 (am x.1 x.2.1 x.2.2).1 x.2.2) x.2.2 (am x.1 x.2.1 x.2.2).1 x_2.2.toNat++(ib x.2.2 x.2.1 (am x.1 x.2.1 x.2.2).1 x_2.2.toNat++x.1.getD (x.2.1.getD x_2.2.toNat 0).toNat 0::List.map (ee x.2.1 (if (am x.1 x.2.1 x.2.2).2≠0 then ([]:List Int) else ar x.2.1 (am x.1 x.2.1 x.2.2).1 x.2.2)) (List.take (x_3.2.2+1).toNat (a7 x.1 (x.2.1.getD x_2.2.toNat 0))))++(List.drop (x_3.2.2+1).toNat (a7 x.1 (x.2.1.getD x_2.2.toNat 0))++(ef x.1 (x.2.1.getD x_2.2.toNat 0)++List.replicate ((↑x.1.length:Int) - a8 x.2.2 x.2.1 (am x.1 x.2.1 x.2.2).1 (x_2.2.toNat+1)).toNat (0:Int))))∧((↑(db x.1 (x.2.1.getD x_2.2.toNat 0)).1.2.1.length:Int) - (x_3.2.2+1)).toNat<((↑(db x.1 (x.2.1.getD x_2.2.toNat 0)).1.2.1.length:Int) - x_3.2.2).toNat))∧(decide (x_3.2.2<(↑(db x.1 (x.2.1.getD x_2.2.toNat 0)).1.2.1.length:Int))=false→ak .i64 (x_2.2+1)∧(0≤x_2.2+1∧x_2.2+1≤(↑x.2.1.length:Int)∧(((List.drop (x_2.2+1).toNat x.2.1).all fun (at_:Int)=>cn x.2.1 (if (am x.1 x.2.1 x.2.2).2≠0 then ([]:List Int) else ar x.2.1 (am x.1 x.2.1 x.2.2).1 x.2.2) (a7 x.1 at_))=x.2.1.all fun (at_:Int)=>cn x.2.1 (if (am x.1 x.2.1 x.2.2).2≠0 then ([]:List Int) else ar x.2.1 (am x.1 x.2.1 x.2.2).1 x.2.2) (a7 x.1 at_))∧x_3.1=cf x.1 x.2.1 (if (am x.1 x.2.1 x.2.2).2≠0 then ([]:List Int) else ar x.2.1 (am x.1 x.2.1 x.2.2).1 x.2.2) x.2.2 (am x.1 x.2.1 x.2.2).1 (x_2.2+1).toNat++List.replicate ((↑x.1.length:Int) - a8 x.2.2 x.2.1 (am x.1 x.2.1 x.2.2).1 (x_2.2+1).toNat).toNat (0:Int))∧((↑x.2.1.length:Int) - (x_2.2+1)).toNat<((↑x.2.1.length:Int) - x_2.2).toNat))∧(decide (x_2.2<(↑x.2.1.length:Int))=false→True∧((0:Int)≤0∧0≤(↑(bp x.1 x.2.1 x.2.2).1.length:Int)∧x_2.1.length=x_2.1.length∧x_2.1=List.foldl fq x_2.1 (List.take (Int.toNat 0) (bp x.1 x.2.1 x.2.2).1))∧∀ (x_3:List Int×Int),0≤x_3.2∧x_3.2≤(↑(bp x.1 x.2.1 x.2.2).1.length:Int)∧x_3.1.length=x_2.1.length∧x_3.1=List.foldl fq x_2.1 (List.take x_3.2.toNat (bp x.1 x.2.1 x.2.2).1)→(decide (x_3.2<(↑(bp x.1 x.2.1 x.2.2).1.length:Int))=true→0≤x_3.2∧x_3.2<(↑(bp x.1 x.2.1 x.2.2).1.length:Int)∧x_3.2.toNat<(bp x.1 x.2.1 x.2.2).1.length∧ak .i64 (((bp x.1 x.2.1 x.2.2).1.getD x_3.2.toNat (0,0)).2 - 1)∧True∧0≤((bp x.1 x.2.1 x.2.2).1.getD x_3.2.toNat (0,0)).1∧((bp x.1 x.2.1 x.2.2).1.getD x_3.2.toNat (0,0)).1<(↑x_3.1.length:Int)∧((bp x.1 x.2.1 x.2.2).1.getD x_3.2.toNat (0,0)).1.toNat<x_3.1.length∧af (0,((bp x.1 x.2.1 x.2.2).1.getD x_3.2.toNat (0,0)).2 - 1,0,true)=af (0,((bp x.1 x.2.1 x.2.2).1.getD x_3.2.toNat (0,0)).2 - 1,0,true)∧ak .i64 (x_3.2+1)∧(0≤x_3.2+1∧x_3.2+1≤(↑(bp x.1 x.2.1 x.2.2).1.length:Int)∧(x_3.1.set ((bp x.1 x.2.1 x.2.2).1.getD x_3.2.toNat (0,0)).1.toNat (if af (0,((bp x.1 x.2.1 x.2.2).1.getD x_3.2.toNat (0,0)).2 - 1,0,true)=0 then a6 (0,((bp x.1 x.2.1 x.2.2).1.getD x_3.2.toNat (0,0)).2 - 1,0,true) else (0:Int))).length=x_2.1.length∧x_3.1.set ((bp x.1 x.2.1 x.2.2).1.getD x_3.2.toNat (0,0)).1.toNat (if af (0,((bp x.1 x.2.1 x.2.2).1.getD x_3.2.toNat (0,0)).2 - 1,0,true)=0 then a6 (0,((bp x.1 x.2.1 x.2.2).1.getD x_3.2.toNat (0,0)).2 - 1,0,true) else (0:Int))=List.foldl fq x_2.1 (List.take (x_3.2+1).toNat (bp x.1 x.2.1 x.2.2).1))∧((↑(bp x.1 x.2.1 x.2.2).1.length:Int) - (x_3.2+1)).toNat<((↑(bp x.1 x.2.1 x.2.2).1.length:Int) - x_3.2).toNat)∧(decide (x_3.2<(↑(bp x.1 x.2.1 x.2.2).1.length:Int))=false→x_3.1=(cQ x.1 x.2.1 x.2.2).1∧(if (am x.1 x.2.1 x.2.2).2≠0 then ([]:List Int) else ar x.2.1 (am x.1 x.2.1 x.2.2).1 x.2.2)=(cQ x.1 x.2.1 x.2.2).2.1∧0=(cQ x.1 x.2.1 x.2.2).2.2∧True))))
theorem F2:Bx:=by
 unfold Bx;intro ⟨a,keep,pinned⟩ ⟨⟨hb,hw⟩,_⟩ _;unfold aA at hb;simp only at hb hw ⊢
 have hF:cQ a keep pinned=if (am a keep pinned).2≠0 then ([],[],(am a keep pinned).2)
  else if (keep.all fun at_=>cn keep (ar keep (am a keep pinned).1 pinned) (a7 a at_))=true then
   (kj a keep (ar keep (am a keep pinned).1 pinned) pinned (am a keep pinned).1 (bV a.length keep (am a keep pinned).1 pinned),ar keep (am a keep pinned).1 pinned,0)
  else ([],[],8):=rfl
 rw [hF];refine ⟨trivial,fun hc=>?_,fun hc=>?_⟩
 ·rw [if_pos (of_decide_eq_true hc)];exact ⟨rfl,rfl,rfl,trivial⟩
 have hz:(am a keep pinned).2=0:=by simpa using of_decide_eq_false hc
 have hP:=ze hz
 have hG:bp a keep pinned=(bV a.length keep (am a keep pinned).1 pinned,0):=by
  unfold bp;rw [if_neg (by omega),hz]
 rw [if_neg (by omega),if_neg (by omega),hG];clear hF hG hc hz;generalize (am a keep pinned).1=long at *;have hto:(ar keep long pinned).length=keep.length:=by simp [ar]
 have htg:∀ i:Nat,i<keep.length→(ar keep long pinned).getD i 0=cT pinned keep long i:=by
  intro i hi;unfold ar;rw [List.getD_eq_getElem?_getD,List.getElem?_map,List.getElem?_range hi];rfl
 have hk0:∀ x∈keep,0≤x:=fun x hx=>(hP.pre.2.2.1 x hx).1
 have hkl:=hP.pre.2.1;have hlong:=hP.pre.1;have hal:=hP.al;have hgi:=rt hP;have hgl:=ll a.length keep long pinned;rw [hto];generalize ar keep long pinned=to at *;generalize bV a.length keep long pinned=g at *;refine ⟨⟨by omega,by omega,rfl⟩,fun ⟨m,i⟩ ⟨h0,h1,h2⟩=>⟨fun hlt=>?_,fun hge=>?_⟩⟩
 ·have hlt':i<(keep.length:Int):=of_decide_eq_true hlt;simp only at h0 h1 h2 ⊢;have hx:=hP.pre.2.2.1 _ (aI (0:Int) h0 hlt');have ht:=kh pinned hP.pre (i:=i.toNat) (by omega);rw [← htg i.toNat (by omega)] at ht;rw [fm (n:=keep.getD i.toNat 0) (by omega) (by omega),fm (n:=to.getD i.toNat 0) (by omega) (by omega)];simp only [ak];refine ⟨h0,hlt',by omega,h0,by omega,by omega,by omega,by omega,⟨by omega,by omega,?_⟩,by omega⟩;rw [show (i+1).toNat=i.toNat+1 by omega,h2];rfl
 have hge:¬ i<(keep.length:Int):=of_decide_eq_false hge;simp only at h0 h1 h2 ⊢;rw [show i.toNat=keep.length by omega] at h2;subst h2;clear h0 h1 hge;unfold aA;refine ⟨by omega,by omega,⟨by omega,by omega,rfl,?_⟩,fun ⟨w,i⟩ ⟨b0,b1,b2,b3⟩=>⟨fun hlt=>?_,fun hge=>?_⟩⟩
 ·simp [cf,a8]
 ·have hlt':i<(keep.length:Int):=of_decide_eq_true hlt;simp only at b0 b1 b2 b3 ⊢;have hib:=hP.isb _ (aI (0:Int) b0 hlt');obtain ⟨l1,l2,l3,l4,l5,l6⟩:=cI hib;obtain ⟨o1,o2⟩:=FR hP.chk hib;have hle:=hP.le i.toNat (by omega);have hlg:=hP.lg i.toNat (by omega);have hul:=fY to hP i.toNat (by omega);have hE0:=cg pinned hP.pre i.toNat (by omega);have hE1:a8 pinned keep long (i.toNat+1)=cT pinned keep long i.toNat+long.getD i.toNat 0:=rfl
  have hwl:w.length=a.length:=by
   rw [b3,List.length_append,List.length_replicate];omega
  rw [aW (0:Int) b0 hlt',List.all_cons,show (i+1).toNat=i.toNat+1 by omega] at b2;have hup:cf a keep to pinned long (i.toNat+1)=cf a keep to pinned long i.toNat++(ib pinned keep long i.toNat++gM a keep to (keep.getD i.toNat 0)):=rfl;have hpw:gM a keep to (keep.getD i.toNat 0)=a.getD (keep.getD i.toNat 0).toNat 0::((a7 a (keep.getD i.toNat 0)).map (ee keep to)++ef a (keep.getD i.toNat 0)):=rfl;have hgw:(ib pinned keep long i.toNat).length=(cT pinned keep long i.toNat - a8 pinned keep long i.toNat).toNat:=by simp [ib]
  have hgd:ib pinned keep long i.toNat=List.replicate (cT pinned keep long i.toNat - a8 pinned keep long i.toNat).toNat 0:=rfl;have howd:=Ep hib;rw [htg i.toNat (by omega),o1,o2,show (i+1).toNat=i.toNat+1 by omega,hup,hpw];clear hup hpw o1 o2 hib;generalize keep.getD i.toNat 0=at_ at *;have hfst:(dp a at_).1=((a7 a at_).length:Int):=l1.symm;have hsnd:(dp a at_).2.1=((ef a at_).length:Int):=l2.symm;rw [hfst,hsnd] at hlg howd l4;generalize a7 a at_=rs at *;generalize ef a at_=bd at *;rw [hlg] at hle hE1 ⊢;rw [hE1];generalize hS:cf a keep to pinned long i.toNat=S at *;generalize ib pinned keep long i.toNat=G at *;generalize cT pinned keep long i.toNat=t at *;generalize a8 pinned keep long i.toNat=e at *
  have hmin:min (a.drop at_.toNat).length ((t+1+(rs.length:Int)+(bd.length:Int)).toNat - t.toNat)=(1+(rs.length:Int)+(bd.length:Int)).toNat:=by
   rw [List.length_drop];omega
  simp only [ak]
  refine ⟨b0,hlt',trivial,b0,by omega,by omega,b0,by omega,by omega,by omega,by omega,by omega,by omega,by omega,by omega,by omega,by omega,by omega,
   ⟨by omega,by omega,trivial,by omega,rfl,?_⟩,fun ⟨w',⟨p1,p2⟩,k⟩ ⟨c0,c1,c2,c3,c4,c5⟩=>⟨fun hk=>?_,fun hk=>?_⟩⟩
  ·rw [hmin,howd]
   have ht1:w.take t.toNat=S++G:=by
    rw [b3,List.take_append,List.take_of_length_le (by omega),List.take_replicate,hgd];congr 2;omega
   have ht2:w.drop (t.toNat+(1+(rs.length:Int)+(bd.length:Int)).toNat)=List.replicate ((a.length:Int) - (t+(1+(rs.length:Int)+(bd.length:Int)))).toNat 0:=by
    rw [b3,List.drop_append,List.drop_of_length_le (by omega),List.nil_append,List.drop_replicate];congr 1;omega
   rw [ht1,ht2];simp [List.append_assoc]
  ·have hk:k<(rs.length:Int):=of_decide_eq_true hk;simp only at c0 c1 c2 c3 c4 c5 ⊢;rw [aW (0:Int) c0 hk] at c4 c5;have hsn:=bo (0:Int) c0 hk;rw [hsn,List.map_append];generalize rs.getD k.toNat 0=x at *
   have hA:(S++(G++a.getD at_.toNat 0::(rs.take k.toNat).map (ee keep to))).length=p1+(1+k).toNat:=by
    simp only [List.length_append,List.length_cons,List.length_map,List.length_take];omega
   have hw':w'.length=a.length:=by
    rw [c5];simp only [List.length_append,List.length_cons,List.length_map,List.length_take,List.length_drop,List.length_replicate];omega
   rw [List.cons_append] at c5;have hget:w'.getD (p1+(1+k).toNat) 0=x:=by rw [c5]; exact KY hA.symm
   have hset:∀ y,w'.set (p1+(1+k).toNat) y=(S++(G++a.getD at_.toNat 0::(rs.take k.toNat).map (ee keep to)))++y::(rs.drop (k+1).toNat++(bd++List.replicate ((a.length:Int) - (t+(1+(rs.length:Int)+(bd.length:Int)))).toNat 0)):=fun y=>by
    rw [c5]; exact kH y hA.symm
   rw [hget,hset,Jg hP.rs hk0];have hg1:cn keep to (x::rs.drop (k+1).toNat)=((gW keep to x).isSome&&cn keep to (rs.drop (k+1).toNat)):=rfl;rw [hg1] at c4;refine ⟨by omega,by omega,by omega,by omega,fun hn=>?_,fun hn=>⟨by omega,by omega,by omega,by omega,by omega,⟨by omega,by omega,c2,c3,?_,?_⟩,by omega⟩⟩
   ·have hn:(gW keep to x).isSome=false:=by simpa using hn
    rw [hn,Bool.false_and] at c4;rw [← c4,Bool.false_and] at b2;rw [if_neg (by rw [← b2]; simp)];exact ⟨rfl,rfl,rfl,trivial⟩
   ·have hn:(gW keep to x).isSome=true:=by simpa using hn
    rw [hn,Bool.true_and] at c4;exact c4
   ·have hm:[x].map (ee keep to)=[(gW keep to x).getD 0]:=rfl;rw [hm];simp [List.append_assoc]
  ·have hk:¬ k<(rs.length:Int):=of_decide_eq_false hk;simp only at c0 c1 c2 c3 c4 c5 ⊢;rw [bt hk] at c4 c5;rw [bF hk] at c5;have hg0:cn keep to []=true:=rfl;rw [hg0] at c4;rw [← c4,Bool.true_and] at b2;refine ⟨by omega,⟨by omega,by omega,b2,?_⟩,by omega⟩;rw [c5];simp [List.append_assoc]
 ·have hge:¬ i<(keep.length:Int):=of_decide_eq_false hge;simp only at b0 b1 b2 b3 ⊢;rw [bt hge,List.all_nil] at b2;rw [if_pos b2.symm];rw [show i.toNat=keep.length by omega] at b3;have hul:=fY to hP keep.length (Nat.le_refl _);have hE0:=cg pinned hP.pre keep.length (Nat.le_refl _);have hen:=hP.en
  have hwl:w.length=a.length:=by
   rw [b3,List.length_append,List.length_replicate];omega
  have hW:kj a keep to pinned long g=g.foldl fq w:=by
   rw [b3];rfl
  rw [hW];refine ⟨trivial,⟨by omega,by omega,trivial,rfl⟩,fun ⟨w',j⟩ ⟨d0,d1,d2,d3⟩=>⟨fun hj=>?_,fun hj=>?_⟩⟩
  ·have hj:j<(g.length:Int):=of_decide_eq_true hj;simp only at d0 d1 d2 d3 ⊢;have hr:=hgi _ (aI ((0,0):bY) d0 hj);have hsn:=bo ((0,0):bY) d0 hj;rw [hsn,List.foldl_append,← d3];generalize g.getD j.toNat (0,0)=r at *
   have hh:af (0,r.2 - 1,0,true)=0:=by
    simp [af,ac];omega
   rw [if_pos hh,List.length_set];simp only [ak];exact ⟨d0,hj,by omega,by omega,trivial,hr.1,by omega,by omega,by first | trivial | rfl,by omega,⟨by omega,by omega,d2,rfl⟩,by omega⟩
  ·have hj:¬ j<(g.length:Int):=of_decide_eq_false hj;simp only at d3 ⊢;rw [bF hj] at d3;exact ⟨d3,trivial,trivial,trivial⟩
theorem I2:Im.ok Tryz.prog 136:=aF (ann:=J5) (ae Hh (ae mv (ae B0 (ae jN aq)))) Tryz.func136 (by kernel_rfl) F2
end
section
open Go
set_option maxRecDepth 100000
set_option maxHeartbeats 1000000
theorem BR {a keep pinned:List Int} (hz:(am a keep pinned).2=0):bi (fun k=>!gq (aa a).1 keep (ar keep (keep.map (aG (aa a).1)) pinned) k) a.length 0 []=bV a.length keep (keep.map (aG (aa a).1)) pinned:=by
 have hp:=mC hz;obtain ⟨k1,k2,k3,k4,k5,k6⟩:=lM hz;obtain ⟨d1,d2⟩:=xy hz;rw [k6] at hp
 have hG:∀ k:Nat,k<keep.length→(keep.map (aG (aa a).1)).getD k 0=aG (aa a).1 (keep.getD k 0):=by
  intro k hk;rw [List.getD_eq_getElem?_getD,List.getElem?_map,List.getD_eq_getElem?_getD,List.getElem?_eq_getElem hk];rfl
 exact HC (pinned:=pinned) hp d1 d2 (fun k=>by
  congr 1;unfold gq
  have any_congr:∀ (l:List Nat) (p q:Nat→Bool),(∀ i∈l,p i=q i)→l.any p=l.any q:=by
   intro l p q h
   induction l with
   | nil=>rfl
   | cons x l ih=>rw [List.any_cons,List.any_cons,h x (by simp),ih (fun i hi=>h i (by simp [hi]))]
  apply any_congr;intro i hi;have hi:=List.mem_range.1 hi
  have hg:(ar keep (keep.map (aG (aa a).1)) pinned).getD i 0=cT pinned keep (keep.map (aG (aa a).1)) i:=by
   unfold ar;rw [List.getD_eq_getElem?_getD,List.getElem?_map,List.getElem?_range hi];rfl
  rw [hg,hG i hi])
theorem IO {keep to:List Int} (hk:∀ x∈keep,0≤x∧x≤255) {v:Int} (h0:0≤v) :
  (nameOf v<0→gW keep to v=some 0)∧(¬ nameOf v<0→(bG keep (nameOf v)<0→gW keep to v=none)∧(¬ bG keep (nameOf v)<0→gW keep to v=some (to.getD (bG keep (nameOf v)).toNat 0+1)∧bG keep (nameOf v)<(keep.length:Int))):=by
 have hlt:=dq (fun x=>decide (x=nameOf v)) 0 keep 0 (by omega);have hin:(decide (0≤bG keep (nameOf v)))=cP keep (nameOf v):=cW _ keep 0 (by omega);unfold gW;unfold nameOf at *;by_cases hv:v=0
 ·subst hv;simp
 ·rw [if_neg hv]
  have hno:∀ n:Int,255<n→cP keep n=false:=by
   intro n hn;unfold cP;rw [List.any_eq_false];intro x hx;have:=hk x hx;simp only [decide_eq_true_eq];omega
  by_cases hb:256<v
  ·rw [if_pos hb] at *;refine ⟨fun h=>by omega,fun _=>⟨fun _=>by rw [if_neg (by rw [hno (v - 1) (by omega)]; simp)],fun h=>?_⟩⟩;rw [hno (9999 - 1) (by omega)] at hin;have:=of_decide_eq_false hin;omega
  ·rw [if_neg hb] at *;refine ⟨fun h=>by omega,fun _=>⟨fun h=>?_,fun h=>⟨?_,by unfold bG; omega⟩⟩⟩
   ·rw [if_neg (by rw [← hin]; simp; omega)]
   ·rw [if_pos (by rw [← hin]; simp; omega)]
theorem xQ {a:List Int} {at_ k:Int} (h0:0≤k) (h1:k<(ef a at_).length) (l2:((ef a at_).length:Int)=(dp a at_).2.1) (l3:0≤at_) (l5:0≤(dp a at_).1) :
  a.getD (at_+1+(dp a at_).1+k).toNat 0=(ef a at_).getD k.toNat 0:=by
 rw [l2] at h1;unfold ef jh;simp only;generalize (dp a at_).1=r at *;generalize (dp a at_).2.1=b at *;rw [List.getD_eq_getElem?_getD (l:=a),List.getD_eq_getElem?_getD,List.getElem?_drop,List.getElem?_take,if_pos (by omega)];congr 2;omega
def kl (a keep pinned:List Int):List Int×Bool :=
 if (keep.all fun at_=>cn keep (ar keep (keep.map (aG (aa a).1)) pinned) (a7 a at_))=true then
  (kj a keep (ar keep (keep.map (aG (aa a).1)) pinned) pinned (keep.map (aG (aa a).1)) (bV a.length keep (keep.map (aG (aa a).1)) pinned),true)
 else ([],false)
def J8:Nat→Option LoopGen
 | 4=>some { rd:=[.dat 27 (.arr ty_I),.own 8 3 ty_I,.dat 0 (.arr bb),.dat 2 (.arr ty_I)],wr:=[9],A:=fun ((keep,to,a,pinned):List Int×List Int×List Int×List Int)=>{ cs:=[.own 9 29 bb,.dat 29 ty_I],inv:=fun ((w,i):List Int×Int)=>0≤i∧i≤keep.length∧((keep.drop i.toNat).all fun at_=>cn keep to (a7 a at_))=(keep.all fun at_=>cn keep to (a7 a at_))∧w=cf a keep to pinned (keep.map (aG (aa a).1)) i.toNat++List.replicate ((a.length:Int) - a8 pinned keep (keep.map (aG (aa a).1)) i.toNat).toNat 0,mu:=fun ((_,i):List Int×Int)=>(keep.length - i).toNat } }
 | 9=>some { rd:=[.dat 1 (.arr ty_I),.own 8 3 ty_I,.dat 0 (.arr bb),.dat 2 (.arr ty_I),.dat 10 ty_I,.dat 51 ty_I],wr:=[9],A:=fun ((keep,to,a,pinned,i,n):List Int×List Int×List Int×List Int×Int×Int)=>{ cs:=[.own 9 29 bb,.dat 52 ty_I],inv:=fun ((w,k):List Int×Int)=>0≤k∧k≤n∧cn keep to ((a7 a (keep.getD i.toNat 0)).drop k.toNat)=cn keep to (a7 a (keep.getD i.toNat 0)) ∧
   w=(cf a keep to pinned (keep.map (aG (aa a).1)) i.toNat++(ib pinned keep (keep.map (aG (aa a).1)) i.toNat++a.getD (keep.getD i.toNat 0).toNat 0::((a7 a (keep.getD i.toNat 0)).take k.toNat).map (ee keep to)))++List.replicate ((a.length:Int) - (cT pinned keep (keep.map (aG (aa a).1)) i.toNat+1+k)).toNat 0,mu:=fun ((_,k):List Int×Int)=>(n - k).toNat } }
 | 18=>some { rd:=[.dat 1 (.arr ty_I),.own 8 3 ty_I,.dat 0 (.arr bb),.dat 2 (.arr ty_I),.dat 10 ty_I,.dat 81 ty_I],wr:=[9],A:=fun ((keep,to,a,pinned,i,n):List Int×List Int×List Int×List Int×Int×Int)=>{ cs:=[.own 9 29 bb,.dat 82 ty_I],inv:=fun ((w,k):List Int×Int)=>0≤k∧k≤n ∧
   w=(cf a keep to pinned (keep.map (aG (aa a).1)) i.toNat++(ib pinned keep (keep.map (aG (aa a).1)) i.toNat++a.getD (keep.getD i.toNat 0).toNat 0::((a7 a (keep.getD i.toNat 0)).map (ee keep to)++(ef a (keep.getD i.toNat 0)).take k.toNat)))++List.replicate ((a.length:Int) - (cT pinned keep (keep.map (aG (aa a).1)) i.toNat+1+(a7 a (keep.getD i.toNat 0)).length+k)).toNat 0,mu:=fun ((_,k):List Int×Int)=>(n - k).toNat } }
 | 24=>some { rd:=[.own 112 129 fw,.own 9 29 bb],wr:=[9],A:=fun ((g,w0):List bY×List Int)=>{ cs:=[.own 9 29 bb,.dat 114 ty_I],inv:=fun ((w,i):List Int×Int)=>0≤i∧i≤g.length∧w.length=w0.length∧w=(g.take i.toNat).foldl fq w0,mu:=fun ((_,i):List Int×Int)=>(g.length - i).toNat } }
 | _=>none
def Ir:Spec:={ Ts:=[.arr bb,.arr ty_I,.arr ty_I],Rs:=[.own 29 bb,.dat .bool],pre:=fun ((a,keep,pinned):List Int×List Int×List Int)=>(am a keep pinned).2=0,F:=fun ((a,keep,pinned):List Int×List Int×List Int)=>kl a keep pinned }
def BA:Prop :=
  ∀ (x:List Int×List Int×List Int),((x.1.length * 8≤aA∧∀ (x_1:Int),x_1∈x.1→ak .u64 x_1)∧(x.2.1.length * 8≤aA∧∀ (x_1:Int),x_1∈x.2.1→ak .i64 x_1)∧x.2.2.length * 8≤aA∧∀ (x_1:Int),x_1∈x.2.2→ak .i64 x_1)→(am x.1 x.2.1 x.2.2).2=0→dD x.2.1 (List.map (aG (aa x.1).1) x.2.1)∧0≤(↑x.1.length:Int)∧(↑x.1.length:Int).toNat * 8≤aA∧((0:Int)≤0∧0≤(↑x.2.1.length:Int)∧(((List.drop (Int.toNat 0) x.2.1).all fun (at_:Int)=>cn x.2.1 (ar x.2.1 (List.map (aG (aa x.1).1) x.2.1) x.2.2) (a7 x.1 at_))=x.2.1.all fun (at_:Int)=>cn x.2.1 (ar x.2.1 (List.map (aG (aa x.1).1) x.2.1) x.2.2) (a7 x.1 at_))∧List.replicate (↑x.1.length:Int).toNat (0:Int)=cf x.1 x.2.1 (ar x.2.1 (List.map (aG (aa x.1).1) x.2.1) x.2.2) x.2.2 (List.map (aG (aa x.1).1) x.2.1) (Int.toNat 0)++List.replicate ((↑x.1.length:Int) - a8 x.2.2 x.2.1 (List.map (aG (aa x.1).1) x.2.1) (Int.toNat 0)).toNat (0:Int))∧∀ (x_1:List Int×Int),0≤x_1.2∧x_1.2≤(↑x.2.1.length:Int)∧(((List.drop x_1.2.toNat x.2.1).all fun (at_:Int)=>cn x.2.1 (ar x.2.1 (List.map (aG (aa x.1).1) x.2.1) x.2.2) (a7 x.1 at_))=x.2.1.all fun (at_:Int)=>cn x.2.1 (ar x.2.1 (List.map (aG (aa x.1).1) x.2.1) x.2.2) (a7 x.1 at_))∧x_1.1=cf x.1 x.2.1 (ar x.2.1 (List.map (aG (aa x.1).1) x.2.1) x.2.2) x.2.2 (List.map (aG (aa x.1).1) x.2.1) x_1.2.toNat++List.replicate ((↑x.1.length:Int) - a8 x.2.2 x.2.1 (List.map (aG (aa x.1).1) x.2.1) x_1.2.toNat).toNat (0:Int)→(decide (x_1.2<(↑x.2.1.length:Int))=true→0≤x_1.2∧x_1.2<(↑x.2.1.length:Int)∧True∧0≤x_1.2∧x_1.2<(↑(ar x.2.1 (List.map (aG (aa x.1).1) x.2.1) x.2.2).length:Int)∧x_1.2.toNat<(ar x.2.1 (List.map (aG (aa x.1).1) x.2.1) x.2.2).length∧af (aj (x.2.1.getD x_1.2.toNat 0) (aa x.1).1).1=0∧0≤(ar x.2.1 (List.map (aG (aa x.1).1) x.2.1) x.2.2).getD x_1.2.toNat 0∧(ar x.2.1 (List.map (aG (aa x.1).1) x.2.1) x.2.2).getD x_1.2.toNat 0<(↑x_1.1.length:Int)∧((ar x.2.1 (List.map (aG (aa x.1).1) x.2.1) x.2.2).getD x_1.2.toNat 0).toNat<x_1.1.length∧True∧((0:Int)≤0∧0≤(↑(aL x.1 (x.2.1.getD x_1.2.toNat 0) (aj (x.2.1.getD x_1.2.toNat 0) (aa x.1).1).1).length:Int)∧cn x.2.1 (ar x.2.1 (List.map (aG (aa x.1).1) x.2.1) x.2.2) (List.drop (Int.toNat 0) (a7 x.1 (x.2.1.getD x_1.2.toNat 0)))=cn x.2.1 (ar x.2.1 (List.map (aG (aa x.1).1) x.2.1) x.2.2) (a7 x.1 (x.2.1.getD x_1.2.toNat 0))∧x_1.1.set ((ar x.2.1 (List.map (aG (aa x.1).1) x.2.1) x.2.2).getD x_1.2.toNat 0).toNat (a6 (aj (x.2.1.getD x_1.2.toNat 0) (aa x.1).1).1)=cf x.1 x.2.1 (ar x.2.1 (List.map (aG (aa x.1).1) x.2.1) x.2.2) x.2.2 (List.map (aG (aa x.1).1) x.2.1) x_1.2.toNat++(ib x.2.2 x.2.1 (List.map (aG (aa x.1).1) x.2.1) x_1.2.toNat++x.1.getD (x.2.1.getD x_1.2.toNat 0).toNat 0::List.map (ee x.2.1 (ar x.2.1 (List.map (aG (aa x.1).1) x.2.1) x.2.2)) (List.take (Int.toNat 0) (a7 x.1 (x.2.1.getD x_1.2.toNat 0))))++List.replicate ((↑x.1.length:Int) - (cT x.2.2 x.2.1 (List.map (aG (aa x.1).1) x.2.1) x_1.2.toNat+1+0)).toNat (0:Int))∧∀ (x_2:List Int×Int),0≤x_2.2∧x_2.2≤(↑(aL x.1 (x.2.1.getD x_1.2.toNat 0) (aj (x.2.1.getD x_1.2.toNat 0) (aa x.1).1).1).length:Int)∧cn x.2.1 (ar x.2.1 (List.map (aG (aa x.1).1) x.2.1) x.2.2) (List.drop x_2.2.toNat (a7 x.1 (x.2.1.getD x_1.2.toNat 0)))=cn x.2.1 (ar x.2.1 (List.map (aG (aa x.1).1) x.2.1) x.2.2) (a7 x.1 (x.2.1.getD x_1.2.toNat 0))∧x_2.1=cf x.1 x.2.1 (ar x.2.1 (List.map (aG (aa x.1).1) x.2.1) x.2.2) x.2.2 (List.map (aG (aa x.1).1) x.2.1) x_1.2.toNat++(ib x.2.2 x.2.1 (List.map (aG (aa x.1).1) x.2.1) x_1.2.toNat++x.1.getD (x.2.1.getD x_1.2.toNat 0).toNat 0::List.map (ee x.2.1 (ar x.2.1 (List.map (aG (aa x.1).1) x.2.1) x.2.2)) (List.take x_2.2.toNat (a7 x.1 (x.2.1.getD x_1.2.toNat 0))))++List.replicate ((↑x.1.length:Int) - (cT x.2.2 x.2.1 (List.map (aG (aa x.1).1) x.2.1) x_1.2.toNat+1+x_2.2)).toNat (0:Int)→(decide (x_2.2<(↑(aL x.1 (x.2.1.getD x_1.2.toNat 0) (aj (x.2.1.getD x_1.2.toNat 0) (aa x.1).1).1).length:Int))=true→0≤x_2.2∧x_2.2<(↑(aL x.1 (x.2.1.getD x_1.2.toNat 0) (aj (x.2.1.getD x_1.2.toNat 0) (aa x.1).1).1).length:Int)∧x_2.2.toNat<(aL x.1 (x.2.1.getD x_1.2.toNat 0) (aj (x.2.1.getD x_1.2.toNat 0) (aa x.1).1).1).length∧(decide ((aL x.1 (x.2.1.getD x_1.2.toNat 0) (aj (x.2.1.getD x_1.2.toNat 0) (aa x.1).1).1).getD x_2.2.toNat (0:Int)<0)=true→ak .i64 (x_2.2+1)∧(0≤x_2.2+1∧x_2.2+1≤(↑(aL x.1 (x.2.1.getD x_1.2.toNat 0) (aj (x.2.1.getD x_1.2.toNat 0) (aa x.1).1).1).length:Int)∧cn x.2.1 (ar x.2.1 (List.map (aG (aa x.1).1) x.2.1) x.2.2) (List.drop (x_2.2+1).toNat (a7 x.1 (x.2.1.getD x_1.2.toNat 0)))=cn x.2.1 (ar x.2.1 (List.map (aG (aa x.1).1) x.2.1) x.2.2) (a7 x.1 (x.2.1.getD x_1.2.toNat 0))∧x_2.1=cf x.1 x.2.1 (ar x.2.1 (List.map (aG (aa x.1).1) x.2.1) x.2.2) x.2.2 (List.map (aG (aa x.1).1) x.2.1) x_1.2.toNat++(ib x.2.2 x.2.1 (List.map (aG (aa x.1).1) x.2.1) x_1.2.toNat++x.1.getD (x.2.1.getD x_1.2.toNat 0).toNat 0::List.map (ee x.2.1 (ar x.2.1 (List.map (aG (aa x.1).1) x.2.1) x.2.2)) (List.take (x_2.2+1).toNat (a7 x.1 (x.2.1.getD x_1.2.toNat 0))))++List.replicate ((↑x.1.length:Int) - (cT x.2.2 x.2.1 (List.map (aG (aa x.1).1) x.2.1) x_1.2.toNat+1+(x_2.2+1))).toNat (0:Int))∧((↑(aL x.1 (x.2.1.getD x_1.2.toNat 0) (aj (x.2.1.getD x_1.2.toNat 0) (aa x.1).1).1).length:Int) - (x_2.2+1)).toNat<((↑(aL x.1 (x.2.1.getD x_1.2.toNat 0) (aj (x.2.1.getD x_1.2.toNat 0) (aa x.1).1).1).length:Int) - x_2.2).toNat)∧(decide ((aL x.1 (x.2.1.getD x_1.2.toNat 0) (aj (x.2.1.getD x_1.2.toNat 0) (aa x.1).1).1).getD x_2.2.toNat (0:Int)<0)=false→True∧(decide (bG x.2.1 ((aL x.1 (x.2.1.getD x_1.2.toNat 0) (aj (x.2.1.getD x_1.2.toNat 0) (aa x.1).1).1).getD x_2.2.toNat 0)<0)=true→([]:List Int)=(kl x.1 x.2.1 x.2.2).1∧false=(kl x.1 x.2.1 x.2.2).2∧True)∧(decide (bG x.2.1 ((aL x.1 (x.2.1.getD x_1.2.toNat 0) (aj (x.2.1.getD x_1.2.toNat 0) (aa x.1).1).1).getD x_2.2.toNat 0)<0)=false→0≤x_1.2∧x_1.2<(↑(ar x.2.1 (List.map (aG (aa x.1).1) x.2.1) x.2.2).length:Int)∧x_1.2.toNat<(ar x.2.1 (List.map (aG (aa x.1).1) x.2.1) x.2.2).length∧ak .i64 ((ar x.2.1 (List.map (aG (aa x.1).1) x.2.1) x.2.2).getD x_1.2.toNat 0+1)∧ak .i64 ((ar x.2.1 (List.map (aG (aa x.1).1) x.2.1) x.2.2).getD x_1.2.toNat 0+1+x_2.2)∧0≤bG x.2.1 ((aL x.1 (x.2.1.getD x_1.2.toNat 0) (aj (x.2.1.getD x_1.2.toNat 0) (aa x.1).1).1).getD x_2.2.toNat 0)∧bG x.2.1 ((aL x.1 (x.2.1.getD x_1.2.toNat 0) (aj (x.2.1.getD x_1.2.toNat 0) (aa x.1).1).1).getD x_2.2.toNat 0)<(↑(ar x.2.1 (List.map (aG (aa x.1).1) x.2.1) x.2.2).length:Int)∧(bG x.2.1 ((aL x.1 (x.2.1.getD x_1.2.toNat 0) (aj (x.2.1.getD x_1.2.toNat 0) (aa x.1).1).1).getD x_2.2.toNat 0)).toNat<(ar x.2.1 (List.map (aG (aa x.1).1) x.2.1) x.2.2).length∧ak .u64 (IntKind.u64.wrap ((ar x.2.1 (List.map (aG (aa x.1).1) x.2.1) x.2.2).getD (bG x.2.1 ((aL x.1 (x.2.1.getD x_1.2.toNat 0) (aj (x.2.1.getD x_1.2.toNat 0) (aa x.1).1).1).getD x_2.2.toNat 0)).toNat 0)+1)∧0≤(ar x.2.1 (List.map (aG (aa x.1).1) x.2.1) x.2.2).getD x_1.2.toNat 0+1+x_2.2∧(ar x.2.1 (List.map (aG (aa x.1).1) x.2.1) x.2.2).getD x_1.2.toNat 0+1+x_2.2<(↑x_2.1.length:Int)∧((ar x.2.1 (List.map (aG (aa x.1).1) x.2.1) x.2.2).getD x_1.2.toNat 0+1+x_2.2).toNat<x_2.1.length∧ak .i64 (x_2.2+1)∧(0≤x_2.2+1∧x_2.2+1≤(↑(aL x.1 (x.2.1.getD x_1.2.toNat 0) (aj (x.2.1.getD x_1.2.toNat 0) (aa x.1).1).1).length:Int)∧cn x.2.1 (ar x.2.1 (List.map (aG (aa x.1).1) x.2.1) x.2.2) (List.drop (x_2.2+1).toNat (a7 x.1 (x.2.1.getD x_1.2.toNat 0)))=cn x.2.1 (ar x.2.1 (List.map (aG (aa x.1).1) x.2.1) x.2.2) (a7 x.1 (x.2.1.getD x_1.2.toNat 0))∧x_2.1.set ((ar x.2.1 (List.map (aG (aa x.1).1) x.2.1) x.2.2).getD x_1.2.toNat 0+1+x_2.2).toNat (IntKind.u64.wrap ((ar x.2.1 (List.map (aG (aa x.1).1) x.2.1) x.2.2).getD (bG x.2.1 ((aL x.1 (x.2.1.getD x_1.2.toNat 0) (aj (x.2.1.getD x_1.2.toNat 0) (aa x.1).1).1).getD x_2.2.toNat 0)).toNat 0)+1)=cf x.1 x.2.1 (ar x.2.1 (List.map (aG (aa x.1).1) x.2.1) x.2.2) x.2.2 (List.map (aG (aa x.1).1) x.2.1) x_1.2.toNat++(ib x.2.2 x.2.1 (List.map (aG (aa x.1).1) x.2.1) x_1.2.toNat++x.1.getD (x.2.1.getD x_1.2.toNat 0).toNat 0::List.map (ee x.2.1 (ar x.2.1 (List.map (aG (aa x.1).1) x.2.1) x.2.2)) (List.take (x_2.2+1).toNat (a7 x.1 (x.2.1.getD x_1.2.toNat 0))))++List.replicate ((↑x.1.length:Int) - (cT x.2.2 x.2.1 (List.map (aG (aa x.1).1) x.2.1) x_1.2.toNat+1+(x_2.2+1))).toNat (0:Int))∧((↑(aL x.1 (x.2.1.getD x_1.2.toNat 0) (aj (x.2.1.getD x_1.2.toNat 0) (aa x.1).1).1).length:Int) - (x_2.2+1)).toNat<((↑(aL x.1 (x.2.1.getD x_1.2.toNat 0) (aj (x.2.1.getD x_1.2.toNat 0) (aa x.1).1).1).length:Int) - x_2.2).toNat)))∧(decide (x_2.2<(↑(aL x.1 (x.2.1.getD x_1.2.toNat 0) (aj (x.2.1.getD x_1.2.toNat 0) (aa x.1).1).1).length:Int))=false→((0:Int)≤0∧0≤(aj (x.2.1.getD x_1.2.toNat 0) (aa x.1).1).1.2.1∧x_2.1=cf x.1 x.2.1 (ar x.2.1 (List.map (aG (aa x.1).1) x.2.1) x.2.2) x.2.2 (List.map (aG (aa x.1).1) x.2.1) x_1.2.toNat++(ib x.2.2 x.2.1 (List.map (aG (aa x.1).1) x.2.1) x_1.2.toNat++x.1.getD (x.2.1.getD x_1.2.toNat 0).toNat 0::(List.map (ee x.2.1 (ar x.2.1 (List.map (aG (aa x.1).1) x.2.1) x.2.2)) (a7 x.1 (x.2.1.getD x_1.2.toNat 0))++List.take (Int.toNat 0) (ef x.1 (x.2.1.getD x_1.2.toNat 0))))++List.replicate ((↑x.1.length:Int) - (cT x.2.2 x.2.1 (List.map (aG (aa x.1).1) x.2.1) x_1.2.toNat+1+(↑(a7 x.1 (x.2.1.getD x_1.2.toNat 0)).length:Int)+0)).toNat (0:Int))∧∀ (x_3:List Int×Int),0≤x_3.2∧x_3.2≤(aj (x.2.1.getD x_1.2.toNat 0) (aa x.1).1).1.2.1∧x_3.1=cf x.1 x.2.1 (ar x.2.1 (List.map (aG (aa x.1).1) x.2.1) x.2.2) x.2.2 (List.map (aG (aa x.1).1) x.2.1) x_1.2.toNat++(ib x.2.2 x.2.1 (List.map (aG (aa x.1).1) x.2.1) x_1.2.toNat++x.1.getD (x.2.1.getD x_1.2.toNat 0).toNat 0::(List.map (ee x.2.1 (ar x.2.1 (List.map (aG (aa x.1).1) x.2.1) x.2.2)) (a7 x.1 (x.2.1.getD x_1.2.toNat 0))++List.take x_3.2.toNat (ef x.1 (x.2.1.getD x_1.2.toNat 0))))++List.replicate ((↑x.1.length:Int) - (cT x.2.2 x.2.1 (List.map (aG (aa x.1).1) x.2.1) x_1.2.toNat+1+(↑(a7 x.1 (x.2.1.getD x_1.2.toNat 0)).length:Int)+x_3.2)).toNat (0:Int)→(decide (x_3.2<(aj (x.2.1.getD x_1.2.toNat 0) (aa x.1).1).1.2.1)=true→0≤x_1.2∧x_1.2<(↑(ar x.2.1 (List.map (aG (aa x.1).1) x.2.1) x.2.2).length:Int)∧x_1.2.toNat<(ar x.2.1 (List.map (aG (aa x.1).1) x.2.1) x.2.2).length∧ak .i64 ((ar x.2.1 (List.map (aG (aa x.1).1) x.2.1) x.2.2).getD x_1.2.toNat 0+1)∧ak .i64 ((ar x.2.1 (List.map (aG (aa x.1).1) x.2.1) x.2.2).getD x_1.2.toNat 0+1+(aj (x.2.1.getD x_1.2.toNat 0) (aa x.1).1).1.1)∧ak .i64 ((ar x.2.1 (List.map (aG (aa x.1).1) x.2.1) x.2.2).getD x_1.2.toNat 0+1+(aj (x.2.1.getD x_1.2.toNat 0) (aa x.1).1).1.1+x_3.2)∧ak .i64 (x.2.1.getD x_1.2.toNat 0+1)∧ak .i64 (x.2.1.getD x_1.2.toNat 0+1+(aj (x.2.1.getD x_1.2.toNat 0) (aa x.1).1).1.1)∧ak .i64 (x.2.1.getD x_1.2.toNat 0+1+(aj (x.2.1.getD x_1.2.toNat 0) (aa x.1).1).1.1+x_3.2)∧0≤x.2.1.getD x_1.2.toNat 0+1+(aj (x.2.1.getD x_1.2.toNat 0) (aa x.1).1).1.1+x_3.2∧x.2.1.getD x_1.2.toNat 0+1+(aj (x.2.1.getD x_1.2.toNat 0) (aa x.1).1).1.1+x_3.2<(↑x.1.length:Int)∧0≤(ar x.2.1 (List.map (aG (aa x.1).1) x.2.1) x.2.2).getD x_1.2.toNat 0+1+(aj (x.2.1.getD x_1.2.toNat 0) (aa x.1).1).1.1+x_3.2∧(ar x.2.1 (List.map (aG (aa x.1).1) x.2.1) x.2.2).getD x_1.2.toNat 0+1+(aj (x.2.1.getD x_1.2.toNat 0) (aa x.1).1).1.1+x_3.2<(↑x_3.1.length:Int)∧((ar x.2.1 (List.map (aG (aa x.1).1) x.2.1) x.2.2).getD x_1.2.toNat 0+1+(aj (x.2.1.getD x_1.2.toNat 0) (aa x.1).1).1.1+x_3.2).toNat<x_3.1.length∧ak .i64 (x_3.2+1)∧(0≤x_3.2+1∧x_3.2+1≤(aj (x.2.1.getD x_1.2.toNat 0) (aa x.1).1).1.2.1∧x_3.1.set ((ar x.2.1 (List.map (aG (aa x.1).1) x.2.1) x.2.2).getD x_1.2.toNat 0+1+(aj (x.2.1.getD x_1.2.toNat 0) (aa x.1).1).1.1+x_3.2).toNat (x.1.getD (x.2.1.getD x_1.2.toNat 0+1+(aj (x.2.1.getD x_1.2.toNat 0) (aa x.1).1).1.1+x_3.2).toNat 0)=cf x.1 x.2.1 (ar x.2.1 (List.map (aG (aa x.1).1) x.2.1) x.2.2) x.2.2 (List.map (aG (aa x.1).1) x.2.1) x_1.2.toNat++(ib x.2.2 x.2.1 (List.map (aG (aa x.1).1) x.2.1) x_1.2.toNat++x.1.getD (x.2.1.getD x_1.2.toNat 0).toNat 0::(List.map (ee x.2.1 (ar x.2.1 (List.map (aG (aa x.1).1) x.2.1) x.2.2)) (a7 x.1 (x.2.1.getD x_1.2.toNat 0))++List.take (x_3.2+1).toNat (ef x.1 (x.2.1.getD x_1.2.toNat 0))))++List.replicate ((↑x.1.length:Int) - (cT x.2.2 x.2.1 (List.map (aG (aa x.1).1) x.2.1) x_1.2.toNat+1+(↑(a7 x.1 (x.2.1.getD x_1.2.toNat 0)).length:Int)+(x_3.2+1))).toNat (0:Int))∧((aj (x.2.1.getD x_1.2.toNat 0) (aa x.1).1).1.2.1 - (x_3.2+1)).toNat<((aj (x.2.1.getD x_1.2.toNat 0) (aa x.1).1).1.2.1 - x_3.2).toNat)∧(decide (x_3.2<(aj (x.2.1.getD x_1.2.toNat 0) (aa x.1).1).1.2.1)=false→ak .i64 (x_1.2+1)∧(0≤x_1.2+1∧x_1.2+1≤(↑x.2.1.length:Int)∧(((List.drop (x_1.2+1).toNat x.2.1).all fun (at_:Int)=>cn x.2.1 (ar x.2.1 (List.map (aG (aa x.1).1) x.2.1) x.2.2) (a7 x.1 at_))=x.2.1.all fun (at_:Int)=>cn x.2.1 (ar x.2.1 (List.map (aG (aa x.1).1) x.2.1) x.2.2) (a7 x.1 at_))∧x_3.1=cf x.1 x.2.1 (ar x.2.1 (List.map (aG (aa x.1).1) x.2.1) x.2.2) x.2.2 (List.map (aG (aa x.1).1) x.2.1) (x_1.2+1).toNat++List.replicate ((↑x.1.length:Int) - a8 x.2.2 x.2.1 (List.map (aG (aa x.1).1) x.2.1) (x_1.2+1).toNat).toNat (0:Int))∧((↑x.2.1.length:Int) - (x_1.2+1)).toNat<((↑x.2.1.length:Int) - x_1.2).toNat)))∧(decide (x_1.2<(↑x.2.1.length:Int))=false→(x.1.length≤256∧dD x.2.1 (List.map (aG (aa x.1).1) x.2.1))∧((0:Int)≤0∧0≤(↑(bi (fun (k:Int)=>!gq (aa x.1).1 x.2.1 (ar x.2.1 (List.map (aG (aa x.1).1) x.2.1) x.2.2) k) x.1.length 0 ([]:List bY)).length:Int)∧x_1.1.length=x_1.1.length∧x_1.1=List.foldl fq x_1.1 (List.take (Int.toNat 0) (bi (fun (k:Int)=>!gq (aa x.1).1 x.2.1 (ar x.2.1 (List.map (aG (aa x.1).1) x.2.1) x.2.2) k) x.1.length 0 ([]:List bY))))∧∀ (x_2:List Int×Int),0≤x_2.2∧x_2.2≤(↑(bi (fun (k:Int)=>!gq (aa x.1).1 x.2.1 (ar x.2.1 (List.map (aG (aa x.1).1) x.2.1) x.2.2) k) x.1.length 0 ([]:List bY)).length:Int)∧x_2.1.length=x_1.1.length∧x_2.1=List.foldl fq x_1.1 (List.take x_2.2.toNat (bi (fun (k:Int)=>!gq (aa x.1).1 x.2.1 (ar x.2.1 (List.map (aG (aa x.1).1) x.2.1) x.2.2) k) x.1.length 0 ([]:List bY)))→(decide (x_2.2<(↑(bi (fun (k:Int)=>!gq (aa x.1).1 x.2.1 (ar x.2.1 (List.map (aG (aa x.1).1) x.2.1) x.2.2) k) x.1.length 0 ([]:List bY)).length:Int))=true→0≤x_2.2∧x_2.2<(↑(bi (fun (k:Int)=>!gq (aa x.1).1 x.2.1 (ar x.2.1 (List.map (aG (aa x.1).1) x.2.1) x.2.2) k) x.1.length 0 ([]:List bY)).length:Int)∧x_2.2.toNat<(bi (fun (k:Int)=>!gq (aa x.1).1 x.2.1 (ar x.2.1 (List.map (aG (aa x.1).1) x.2.1) x.2.2) k) x.1.length 0 ([]:List bY)).length∧(1≤((bi (fun (k:Int)=>!gq (aa x.1).1 x.2.1 (ar x.2.1 (List.map (aG (aa x.1).1) x.2.1) x.2.2) k) x.1.length 0 ([]:List bY)).getD x_2.2.toNat (0,0)).2∧((bi (fun (k:Int)=>!gq (aa x.1).1 x.2.1 (ar x.2.1 (List.map (aG (aa x.1).1) x.2.1) x.2.2) k) x.1.length 0 ([]:List bY)).getD x_2.2.toNat (0,0)).2≤256)∧0≤((bi (fun (k:Int)=>!gq (aa x.1).1 x.2.1 (ar x.2.1 (List.map (aG (aa x.1).1) x.2.1) x.2.2) k) x.1.length 0 ([]:List bY)).getD x_2.2.toNat (0,0)).1∧((bi (fun (k:Int)=>!gq (aa x.1).1 x.2.1 (ar x.2.1 (List.map (aG (aa x.1).1) x.2.1) x.2.2) k) x.1.length 0 ([]:List bY)).getD x_2.2.toNat (0,0)).1<(↑x_2.1.length:Int)∧((bi (fun (k:Int)=>!gq (aa x.1).1 x.2.1 (ar x.2.1 (List.map (aG (aa x.1).1) x.2.1) x.2.2) k) x.1.length 0 ([]:List bY)).getD x_2.2.toNat (0,0)).1.toNat<x_2.1.length∧ak .i64 (x_2.2+1)∧(0≤x_2.2+1∧x_2.2+1≤(↑(bi (fun (k:Int)=>!gq (aa x.1).1 x.2.1 (ar x.2.1 (List.map (aG (aa x.1).1) x.2.1) x.2.2) k) x.1.length 0 ([]:List bY)).length:Int)∧(x_2.1.set ((bi (fun (k:Int)=>!gq (aa x.1).1 x.2.1 (ar x.2.1 (List.map (aG (aa x.1).1) x.2.1) x.2.2) k) x.1.length 0 ([]:List bY)).getD x_2.2.toNat (0,0)).1.toNat (a6 (0,((bi (fun (k:Int)=>!gq (aa x.1).1 x.2.1 (ar x.2.1 (List.map (aG (aa x.1).1) x.2.1) x.2.2) k) x.1.length 0 ([]:List bY)).getD x_2.2.toNat (0,0)).2 - 1,0,true))).length=x_1.1.length∧x_2.1.set ((bi (fun (k:Int)=>!gq (aa x.1).1 x.2.1 (ar x.2.1 (List.map (aG (aa x.1).1) x.2.1) x.2.2) k) x.1.length 0 ([]:List bY)).getD x_2.2.toNat (0,0)).1.toNat (a6 (0,((bi (fun (k:Int)=>!gq (aa x.1).1 x.2.1 (ar x.2.1 (List.map (aG (aa x.1).1) x.2.1) x.2.2) k) x.1.length 0 ([]:List bY)).getD x_2.2.toNat (0,0)).2 - 1,0,true))=List.foldl fq x_1.1 (List.take (x_2.2+1).toNat (bi (fun (k:Int)=>!gq (aa x.1).1 x.2.1 (ar x.2.1 (List.map (aG (aa x.1).1) x.2.1) x.2.2) k) x.1.length 0 ([]:List bY))))∧((↑(bi (fun (k:Int)=>!gq (aa x.1).1 x.2.1 (ar x.2.1 (List.map (aG (aa x.1).1) x.2.1) x.2.2) k) x.1.length 0 ([]:List bY)).length:Int) - (x_2.2+1)).toNat<((↑(bi (fun (k:Int)=>!gq (aa x.1).1 x.2.1 (ar x.2.1 (List.map (aG (aa x.1).1) x.2.1) x.2.2) k) x.1.length 0 ([]:List bY)).length:Int) - x_2.2).toNat)∧(decide (x_2.2<(↑(bi (fun (k:Int)=>!gq (aa x.1).1 x.2.1 (ar x.2.1 (List.map (aG (aa x.1).1) x.2.1) x.2.2) k) x.1.length 0 ([]:List bY)).length:Int))=false→x_2.1=(kl x.1 x.2.1 x.2.2).1∧true=(kl x.1 x.2.1 x.2.2).2∧True))
theorem F5:BA:=by
 unfold BA;intro ⟨a,keep,pinned⟩ ⟨⟨hb,hw⟩,_⟩ hz;unfold aA at hb;simp only at hb hw hz ⊢;have hP:=ze hz;have k6:=(lM hz).2.2.2.2.2;rw [k6] at hP
 have hF:kl a keep pinned=if (keep.all fun at_=>cn keep (ar keep (keep.map (aG (aa a).1)) pinned) (a7 a at_))=true then
  (kj a keep (ar keep (keep.map (aG (aa a).1)) pinned) pinned (keep.map (aG (aa a).1)) (bV a.length keep (keep.map (aG (aa a).1)) pinned),true)
  else ([],false):=rfl
 rw [hF,BR hz];have hhd:∀ x,(aj x (aa a).1).1=dp a x:=fun _=>rfl
 have hnm:∀ x,aL a x (dp a x)=(a7 a x).map nameOf:=fun _=>rfl
 simp only [hhd,hnm,List.length_map];clear hF k6 hz hhd hnm;generalize keep.map (aG (aa a).1)=long at *;have hto:(ar keep long pinned).length=keep.length:=by simp [ar]
 have htg:∀ i:Nat,i<keep.length→(ar keep long pinned).getD i 0=cT pinned keep long i:=by
  intro i hi;unfold ar;rw [List.getD_eq_getElem?_getD,List.getElem?_map,List.getElem?_range hi];rfl
 have hk0:∀ x∈keep,0≤x:=fun x hx=>(hP.pre.2.2.1 x hx).1
 have hkl:=hP.pre.2.1;have hlong:=hP.pre.1;have hal:=hP.al;have hgi:=rt hP;have hgl:=ll a.length keep long pinned;have hkr:∀ x∈keep,0≤x∧x≤255:=hP.pre.2.2.1;rw [hto];generalize ar keep long pinned=to at *;generalize bV a.length keep long pinned=g at *;unfold aA;refine ⟨hP.pre,by omega,by omega,⟨by omega,by omega,rfl,?_⟩,fun ⟨w,i⟩ ⟨b0,b1,b2,b3⟩=>⟨fun hlt=>?_,fun hge=>?_⟩⟩
 ·simp [cf,a8]
 ·have hlt':i<(keep.length:Int):=of_decide_eq_true hlt;simp only at b0 b1 b2 b3 ⊢;have hib:=hP.isb _ (aI (0:Int) b0 hlt');obtain ⟨l1,l2,l3,l4,l5,l6⟩:=cI hib;obtain ⟨_,_,hfault,hdw,hish,_⟩:=gP hib;have hle:=hP.le i.toNat (by omega);have hlg:=hP.lg i.toNat (by omega);have hul:=fY to hP i.toNat (by omega);have hE0:=cg pinned hP.pre i.toNat (by omega);have hE1:a8 pinned keep long (i.toNat+1)=cT pinned keep long i.toNat+long.getD i.toNat 0:=rfl
  have hwl:w.length=a.length:=by
   rw [b3,List.length_append,List.length_replicate];omega
  rw [aW (0:Int) b0 hlt',List.all_cons,show (i+1).toNat=i.toNat+1 by omega] at b2;have hup:cf a keep to pinned long (i.toNat+1)=cf a keep to pinned long i.toNat++(ib pinned keep long i.toNat++gM a keep to (keep.getD i.toNat 0)):=rfl;have hpw:gM a keep to (keep.getD i.toNat 0)=a.getD (keep.getD i.toNat 0).toNat 0::((a7 a (keep.getD i.toNat 0)).map (ee keep to)++ef a (keep.getD i.toNat 0)):=rfl;have hgw:(ib pinned keep long i.toNat).length=(cT pinned keep long i.toNat - a8 pinned keep long i.toNat).toNat:=by simp [ib]
  have hgd:ib pinned keep long i.toNat=List.replicate (cT pinned keep long i.toNat - a8 pinned keep long i.toNat).toNat 0:=rfl;have hbk:∀ k:Int,0≤k→k<(ef a (keep.getD i.toNat 0)).length→a.getD (keep.getD i.toNat 0+1+(dp a (keep.getD i.toNat 0)).1+k).toNat 0=(ef a (keep.getD i.toNat 0)).getD k.toNat 0:=fun k h0 h1=>xQ h0 h1 l2 l3 l5
  have hrw:∀ x∈a7 a (keep.getD i.toNat 0),0≤x:=fun x hx=>(hw x (List.mem_of_mem_take (List.mem_of_mem_drop hx))).1
  have hhw:a6 (dp a (keep.getD i.toNat 0))=a.getD (keep.getD i.toNat 0).toNat 0:=by
   rw [hdw];exact sd hish (hw _ (aI (0:Int) l3 (by omega))).1
  rw [htg i.toNat (by omega),show (i+1).toNat=i.toNat+1 by omega,hup,hpw,hhw];clear hup hpw hib hhw hdw hish;generalize keep.getD i.toNat 0=at_ at *;have hfst:(dp a at_).1=((a7 a at_).length:Int):=l1.symm;have hsnd:(dp a at_).2.1=((ef a at_).length:Int):=l2.symm;rw [hfst,hsnd] at hlg l4 ⊢;rw [hfst] at hbk;generalize a7 a at_=rs at *;generalize ef a at_=bd at *;rw [hlg] at hle hE1;rw [hE1];generalize hS:cf a keep to pinned long i.toNat=S at *;generalize ib pinned keep long i.toNat=G at *;generalize cT pinned keep long i.toNat=t at *;generalize a8 pinned keep long i.toNat=e at *
  have hrep:∀ m:Int,m<(a.length:Int)→List.replicate ((a.length:Int) - m).toNat (0:Int)=0::List.replicate ((a.length:Int) - (m+1)).toNat 0:=by
   intro m hm;rw [show ((a.length:Int) - m).toNat=((a.length:Int) - (m+1)).toNat+1 by omega];rfl
  have hw0:w=(S++G)++0::List.replicate ((a.length:Int) - (t+1)).toNat 0:=by
   rw [b3,← hrep t (by omega),hgd,List.append_assoc,List.replicate_append_replicate];congr 2;omega
  have hset0:∀ y,w.set t.toNat y=(S++G)++y::List.replicate ((a.length:Int) - (t+1)).toNat 0:=fun y=>by
   rw [hw0];exact kH y (by rw [List.length_append]; omega)
  rw [hset0];simp only [ak];refine ⟨b0,hlt',trivial,b0,by omega,by omega,hfault,by omega,by omega,by omega,trivial,⟨by omega,by omega,rfl,?_⟩,fun ⟨w',k⟩ ⟨c0,c1,c4,c5⟩=>⟨fun hk=>?_,fun hk=>?_⟩⟩
  ·rw [show t+1+0=t+1 by omega];simp [List.append_assoc]
  ·have hk:k<(rs.length:Int):=of_decide_eq_true hk;simp only at c0 c1 c4 c5 ⊢;rw [aW (0:Int) c0 hk] at c4;have hsn:=bo (0:Int) c0 hk;have hx0:=hrw _ (aI (0:Int) c0 hk)
   have hng:(rs.map nameOf).getD k.toNat 0=nameOf (rs.getD k.toNat 0):=by
    rw [List.getD_eq_getElem?_getD,List.getElem?_map,List.getD_eq_getElem?_getD,List.getElem?_eq_getElem (by omega)];rfl
   rw [hsn,List.map_append,hng];generalize rs.getD k.toNat 0=x at *
   have hA:(S++(G++a.getD at_.toNat 0::(rs.take k.toNat).map (ee keep to))).length=(t+1+k).toNat:=by
    simp only [List.length_append,List.length_cons,List.length_map,List.length_take];omega
   have hw':w'.length=a.length:=by
    rw [c5,List.length_append,hA,List.length_replicate];omega
   rw [hrep (t+1+k) (by omega),show t+1+k+1=t+1+(k+1) by omega] at c5
   have hset:∀ y,w'.set (t+1+k).toNat y=(S++(G++a.getD at_.toNat 0::(rs.take k.toNat).map (ee keep to)))++y::List.replicate ((a.length:Int) - (t+1+(k+1))).toNat 0:=fun y=>by
    rw [c5]; exact kH y hA.symm
   have hg1:cn keep to (x::rs.drop (k+1).toNat)=((gW keep to x).isSome&&cn keep to (rs.drop (k+1).toNat)):=rfl;rw [hg1] at c4;obtain ⟨n1,n2⟩:=IO (to:=to) hkr hx0;have hm:[x].map (ee keep to)=[(gW keep to x).getD 0]:=rfl;rw [hset,hm];refine ⟨c0,hk,by omega,fun hn=>?_,fun hn=>⟨trivial,fun hp=>?_,fun hp=>?_⟩⟩
   ·have e:=n1 (of_decide_eq_true hn);rw [e,Option.isSome_some,Bool.true_and] at c4;rw [e];refine ⟨by omega,⟨by omega,by omega,c4,?_⟩,by omega⟩;rw [c5];simp [List.append_assoc]
   ·have e:=(n2 (of_decide_eq_false hn)).1 (of_decide_eq_true hp);rw [e,Option.isSome_none,Bool.false_and] at c4;rw [← c4,Bool.false_and] at b2;rw [if_neg (by rw [← b2]; simp)];exact ⟨rfl,rfl,trivial⟩
   ·obtain ⟨e,hpl⟩:=(n2 (of_decide_eq_false hn)).2 (of_decide_eq_false hp);have hp0:0≤bG keep (nameOf x):=Int.not_lt.1 (of_decide_eq_false hp);rw [e,Option.isSome_some,Bool.true_and] at c4;rw [e];generalize bG keep (nameOf x)=p at *;have htp:=kh pinned hP.pre (i:=p.toNat) (by omega);rw [← htg p.toNat (by omega)] at htp;rw [fm (n:=to.getD p.toNat 0) (by omega) (by omega)];refine ⟨b0,by omega,by omega,by omega,by omega,hp0,by omega,by omega,by omega,by omega,by omega,by omega,by omega,⟨by omega,by omega,c4,?_⟩,by omega⟩;simp [List.append_assoc]
  ·have hk:¬ k<(rs.length:Int):=of_decide_eq_false hk;simp only at c0 c1 c4 c5 ⊢;rw [bt hk] at c4;rw [bF hk,show k=(rs.length:Int) by omega] at c5;have hg0:cn keep to []=true:=rfl;rw [hg0] at c4;rw [← c4,Bool.true_and] at b2;refine ⟨⟨by omega,by omega,?_⟩,fun ⟨w2,j⟩ ⟨d0,d1,d2⟩=>⟨fun hj=>?_,fun hj=>?_⟩⟩
   ·rw [c5,Int.add_zero];simp [List.append_assoc]
   ·have hj:j<(bd.length:Int):=of_decide_eq_true hj;simp only at d0 d1 d2 ⊢;rw [hbk j d0 hj];have hsn:=bo (0:Int) d0 hj;rw [hsn];generalize bd.getD j.toNat 0=y at *
    have hA:(S++(G++a.getD at_.toNat 0::(rs.map (ee keep to)++bd.take j.toNat))).length=(t+1+(rs.length:Int)+j).toNat:=by
     simp only [List.length_append,List.length_cons,List.length_map,List.length_take];omega
    have hw':w2.length=a.length:=by
     rw [d2,List.length_append,hA,List.length_replicate];omega
    rw [hrep (t+1+(rs.length:Int)+j) (by omega),show t+1+(rs.length:Int)+j+1=t+1+(rs.length:Int)+(j+1) by omega] at d2
    have hset:w2.set (t+1+(rs.length:Int)+j).toNat y=(S++(G++a.getD at_.toNat 0::(rs.map (ee keep to)++bd.take j.toNat)))++y::List.replicate ((a.length:Int) - (t+1+(rs.length:Int)+(j+1))).toNat 0:=by
     rw [d2]; exact kH y hA.symm
    rw [hset];refine ⟨b0,by omega,by omega,by omega,by omega,by omega,by omega,by omega,by omega,by omega,by omega,by omega,by omega,by omega,by omega,⟨by omega,by omega,?_⟩,by omega⟩;simp [List.append_assoc]
   ·have hj:¬ j<(bd.length:Int):=of_decide_eq_false hj;simp only at d0 d1 d2 ⊢;rw [bF hj] at d2;refine ⟨by omega,⟨by omega,by omega,b2,?_⟩,by omega⟩;rw [d2];simp only [List.append_assoc,List.cons_append];congr 6;omega
 ·have hge:¬ i<(keep.length:Int):=of_decide_eq_false hge;simp only at b0 b1 b2 b3 ⊢;rw [bt hge,List.all_nil] at b2;rw [if_pos b2.symm];rw [show i.toNat=keep.length by omega] at b3;have hul:=fY to hP keep.length (Nat.le_refl _);have hE0:=cg pinned hP.pre keep.length (Nat.le_refl _);have hen:=hP.en
  have hwl:w.length=a.length:=by
   rw [b3,List.length_append,List.length_replicate];omega
  have hW:kj a keep to pinned long g=g.foldl fq w:=by
   rw [b3];rfl
  rw [hW];refine ⟨⟨hal,hP.pre⟩,⟨by omega,by omega,trivial,rfl⟩,fun ⟨w',j⟩ ⟨d0,d1,d2,d3⟩=>⟨fun hj=>?_,fun hj=>?_⟩⟩
  ·have hj:j<(g.length:Int):=of_decide_eq_true hj;simp only at d0 d1 d2 d3 ⊢;have hr:=hgi _ (aI ((0,0):bY) d0 hj);have hsn:=bo ((0,0):bY) d0 hj;rw [hsn,List.foldl_append,← d3];generalize g.getD j.toNat (0,0)=r at *;rw [List.length_set];simp only [ak];exact ⟨d0,hj,by omega,⟨by omega,by omega⟩,hr.1,by omega,by omega,by omega,⟨by omega,by omega,d2,rfl⟩,by omega⟩
  ·have hj:¬ j<(g.length:Int):=of_decide_eq_false hj;simp only at d3 ⊢;rw [bF hj] at d3;exact ⟨d3,trivial,trivial⟩
theorem I6:Ir.ok Tryz.prog 78:=aF (ann:=J8) (ae nA (ae g8 (ae kL (ae my (ae pZ (ae zn (ae oU aq))))))) Tryz.func78 (by kernel_rfl) F5
end
section
open Go
def zA:Go.Shelf.Ren:=⟨fun | 189=>125 | 125=>153 | 257=>152 | 128=>173 | 129=>174 | 294=>164 | 295=>165 | 296=>166 | 297=>167 | 298=>168 | 299=>169 | 216=>170 | 300=>171 | 301=>172 | 328=>179 | 329=>180 | 330=>181 | 331=>182 | 332=>183 | 215=>161 | 343=>187 | n=>n,fun | 28=>23 | 3=>3 | 46=>192 | 0=>0 | 51=>219 | 53=>29 | 4=>4 | 183=>213 | 182=>212 | 131=>185 | 5=>5 | 9=>9 | 218=>226 | 222=>230 | 228=>233 | 229=>234 | n=>n,fun | n=>n⟩
theorem Ch:Go.Proofs.Lays.n189 Tryz.prog zA where
 mixed:=by kernel_rfl
 f125:=Tryz.func153.trans (congrArg some (by kernel_rfl))
 f128:=Tryz.func173.trans (congrArg some (by kernel_rfl))
 f129:=Tryz.func174.trans (congrArg some (by kernel_rfl))
 f189:=Tryz.func125.trans (congrArg some (by kernel_rfl))
 f215:=Tryz.func161.trans (congrArg some (by kernel_rfl))
 f216:=Tryz.func170.trans (congrArg some (by kernel_rfl))
 f257:=Tryz.func152.trans (congrArg some (by kernel_rfl))
 f294:=Tryz.func164.trans (congrArg some (by kernel_rfl))
 f295:=Tryz.func165.trans (congrArg some (by kernel_rfl))
 f296:=Tryz.func166.trans (congrArg some (by kernel_rfl))
 f297:=Tryz.func167.trans (congrArg some (by kernel_rfl))
 f298:=Tryz.func168.trans (congrArg some (by kernel_rfl))
 f299:=Tryz.func169.trans (congrArg some (by kernel_rfl))
 f300:=Tryz.func171.trans (congrArg some (by kernel_rfl))
 f301:=Tryz.func172.trans (congrArg some (by kernel_rfl))
 f328:=Tryz.func179.trans (congrArg some (by kernel_rfl))
 f329:=Tryz.func180.trans (congrArg some (by kernel_rfl))
 f330:=Tryz.func181.trans (congrArg some (by kernel_rfl))
 f331:=Tryz.func182.trans (congrArg some (by kernel_rfl))
 f332:=Tryz.func183.trans (congrArg some (by kernel_rfl))
 f343:=Tryz.func187.trans (congrArg some (by kernel_rfl))
 t0:=Tryz.underlying0
 a0:=Tryz.isAgg0
 z0:=Tryz.sizeOf0
 v0:=Tryz.zeroValue0
 t3:=Tryz.underlying3
 a3:=Tryz.isAgg3
 z3:=Tryz.sizeOf3
 v3:=Tryz.zeroValue3
 t4:=Tryz.underlying4
 a4:=Tryz.isAgg4
 z4:=Tryz.sizeOf4
 v4:=Tryz.zeroValue4
 t5:=Tryz.underlying5
 a5:=Tryz.isAgg5
 z5:=Tryz.sizeOf5
 v5:=Tryz.zeroValue5
 t9:=Tryz.underlying9
 a9:=Tryz.isAgg9
 z9:=Tryz.sizeOf9
 v9:=Tryz.zeroValue9
 t28:=Tryz.underlying23
 a28:=Tryz.isAgg23
 z28:=Tryz.sizeOf23
 v28:=Tryz.zeroValue23
 t46:=Tryz.underlying192
 a46:=Tryz.isAgg192
 z46:=Tryz.sizeOf192
 v46:=Tryz.zeroValue192
 t51:=Tryz.underlying219
 a51:=Tryz.isAgg219
 z51:=Tryz.sizeOf219
 v51:=Tryz.zeroValue219
 t53:=Tryz.underlying29
 a53:=Tryz.isAgg29
 z53:=Tryz.sizeOf29
 v53:=Tryz.zeroValue29
 t131:=Tryz.underlying185
 a131:=Tryz.isAgg185
 z131:=Tryz.sizeOf185
 v131:=Tryz.zeroValue185
 t182:=Tryz.underlying212
 a182:=Tryz.isAgg212
 z182:=Tryz.sizeOf212
 v182:=Tryz.zeroValue212
 t183:=Tryz.underlying213
 a183:=Tryz.isAgg213
 z183:=Tryz.sizeOf213
 v183:=Tryz.zeroValue213
 t218:=Tryz.underlying226
 a218:=Tryz.isAgg226
 z218:=Tryz.sizeOf226
 v218:=Tryz.zeroValue226
 t222:=Tryz.underlying230
 a222:=Tryz.isAgg230
 z222:=Tryz.sizeOf230
 v222:=Tryz.zeroValue230
 t228:=Tryz.underlying233
 a228:=Tryz.isAgg233
 z228:=Tryz.sizeOf233
 v228:=Tryz.zeroValue233
 t229:=Tryz.underlying234
 a229:=Tryz.isAgg234
 z229:=Tryz.sizeOf234
 v229:=Tryz.zeroValue234
def r8:Go.Shelf.Ren:=⟨fun | 20=>126 | n=>n,fun | 22=>23 | 3=>3 | 4=>4 | 0=>0 | n=>n,fun | n=>n⟩
theorem rL:Go.Proofs.Lays2.n20 Tryz.prog r8 where
 mixed:=by kernel_rfl
 f20:=Tryz.func126.trans (congrArg some (by kernel_rfl))
 t0:=Tryz.underlying0
 a0:=Tryz.isAgg0
 z0:=Tryz.sizeOf0
 v0:=Tryz.zeroValue0
 t3:=Tryz.underlying3
 a3:=Tryz.isAgg3
 z3:=Tryz.sizeOf3
 v3:=Tryz.zeroValue3
 t4:=Tryz.underlying4
 a4:=Tryz.isAgg4
 z4:=Tryz.sizeOf4
 v4:=Tryz.zeroValue4
 t22:=Tryz.underlying23
 a22:=Tryz.isAgg23
 z22:=Tryz.sizeOf23
 v22:=Tryz.zeroValue23
 i3:=by kernel_rfl
theorem y6 {p:PH}:∀ {xs:List Int} {l:List Value},aX (ty_I.holds p) xs l→l=xs.map (Value.int .i64)∧∀ x∈xs,ak .i64 x
 | [],l,h=>⟨h,by simp⟩
 | x::xs,l,⟨c1,c2,e,h1,h2⟩=>by
  obtain ⟨e2,h3⟩:=y6 h2;obtain ⟨e1,h4⟩:=h1;subst e1 e2 e;refine ⟨rfl,fun y hy=>?_⟩;rcases List.mem_cons.1 hy with rfl | hy
  ·exact h4
  ·exact h3 y hy
theorem pT {p:PH}:∀ {xs:List Int},(∀ x∈xs,ak .i64 x)→aX (ty_I.holds p) xs (xs.map (Value.int .i64))
 | [],_=>rfl
 | x::xs,h=>⟨[.int .i64 x],xs.map (Value.int .i64),rfl,⟨rfl,h x (by simp)⟩,pT (fun y hy=>h y (by simp [hy]))⟩
def eb (xs:List Int):List Int:=xs.mergeSort fun x y=>decide (x≤y)
def AT:RowFn:={ e:=3,T:=ty_I,Ts:=[],out:=false,pre:=fun _ _ _=>True,F:=fun xs _ _=>eb xs }
theorem tU:AT.ok Tryz.prog 125:=by
 intro p w v (xs:List Int) l v2 (ys:List Int) l2 vs x hA hown hl hbig hp _ _ _ hargs _;have hvs:vs=[]:=hargs;subst hvs;obtain ⟨el,hin⟩:=y6 hl;have hown':w.ownsRow 0 3 1 v xs.length l:=hown;have h8:xs.length * 8≤aA:=hbig;have hlen:(eb xs).length=xs.length:=List.length_mergeSort _;rcases hown'.2 with ⟨rfl,h0⟩ | ⟨g,cap,cur,rfl,_,hb,h1,h2,h3,h4⟩
 ·have hx:xs=[]:=List.eq_nil_of_length_eq_zero h0;subst hx;refine (Any.slices_Sort_int_none Ch none 0 w).mono ?_;rintro e w' ⟨rfl,rfl⟩;have e0:AT.F ([]:List Int) ys x=([]:List Int):=by show eb []=[]; simp [eb]
  rw [e0];exact ⟨_,l,rfl,fun _=>rfl,World.grownBy.refl _ _,hown,hl,hbig,fun b h=>.inl h⟩
 ·have hg:g<w.heap.size:=(Array.getElem?_eq_some_iff.1 hb).1;refine (Any.slices_Sort_int Ch g 0 cap xs w (holds_of_blockI hb (by rw [Nat.mul_one] at h4; rw [h4,el])) hg (by simp only [aA] at h8; omega)).mono ?_;rintro e w' ⟨rfl,n,os,rfl⟩;refine ⟨_,(eb xs).map (Value.int .i64),rfl,fun _=>rfl,grownBy_sortedI _,?_,pT (fun y hy=>hin y (List.mem_mergeSort.1 hy)),?_,fun b h=>.inl h⟩
  ·have:=ownsRow_sortedI (n:=n) (os:=os) (ss:=xs) (ts:=eb xs) hlen (Nat.zero_le _) hb h1 h2 h3;show World.ownsRow _ 0 3 1 _ (eb xs).length _;rw [hlen];exact this
  ·show (eb xs).length * 8≤aA;rw [hlen];exact h8
theorem jS (xs:List Int):(Lib.compact xs).length≤xs.length:=by
 unfold Lib.compact Lib.compactUpTo;rw [List.length_map];refine Nat.le_trans (List.length_filter_le _ _) ?_;simp
theorem rR (xs:List Int) (y:Int) (hy:y∈Lib.compact xs):y∈xs:=by
 unfold Lib.compact Lib.compactUpTo at hy;obtain ⟨j,hj,rfl⟩:=List.mem_map.1 hy
 have hj2:j<xs.length:=by
  have:=(List.mem_filter.1 hj).1;simpa using this
 simp [hj2]
def fH (xs:List Int):List Int:=Lib.compact xs
def Bh:RowFn:={ e:=3,T:=ty_I,Ts:=[],out:=true,pre:=fun _ _ _=>True,F:=fun xs _ _=>fH xs }
theorem rH:Bh.ok Tryz.prog 126:=by
 intro p w v (xs:List Int) l v2 (ys:List Int) l2 vs x hA hown hl hbig hp _ _ _ hargs _;have hvs:vs=[]:=hargs;subst hvs;obtain ⟨el,hin⟩:=y6 hl;have hown':w.ownsRow 0 3 1 v xs.length l:=hown;have h8:xs.length * 8≤aA:=hbig;have hle:(Lib.compact xs).length≤xs.length:=jS xs;rcases hown'.2 with ⟨rfl,h0⟩ | ⟨g,cap,cur,rfl,_,hb,h1,h2,h3,h4⟩
 ·have hx:xs=[]:=List.eq_nil_of_length_eq_zero h0;subst hx;refine (Any.slices_Compact_int_empty rL none 0 w).mono ?_;rintro e w' ⟨rfl,rfl⟩;exact ⟨_,l,rfl,fun _=>rfl,World.grownBy.refl _ _,hown,hl,by show (Lib.compact ([]:List Int)).length * 8≤aA; simp [Lib.compact,Lib.compactUpTo],fun b h=>.inl h⟩
 ·have hg:g<w.heap.size:=(Array.getElem?_eq_some_iff.1 hb).1;have hmem:∀ y∈Lib.compact xs,ak .i64 y:=fun y hy=>hin y (rR xs y hy)
  refine (Any.slices_Compact_int rL g 0 cap xs w (holds_of_blockI hb (by rw [Nat.mul_one] at h4; rw [h4,el])) (by simp only [aA] at h8; omega) h1).mono ?_;rintro e w' ⟨rfl,q,rfl⟩;refine ⟨_,(Lib.compact xs).map (Value.int .i64),rfl,fun h=>(by cases h),?_,?_,pT hmem,?_,fun b h=>.inl h⟩
  ·have:=grownBy_sortedI (w:=w) (g:=g) (n:=q) (os:=#[]) (Lib.compact xs++List.replicate (xs.length - (Lib.compact xs).length) 0).toArray;rw [Sort.grow_empty] at this;exact this
  ·have hh:=heap_sortedI (w:=w) (g:=g) (n:=q) (os:=#[]) (Lib.compact xs++List.replicate (xs.length - (Lib.compact xs).length) 0).toArray hb;rw [Sort.grow_empty] at hh
   have hrow:World.ownsRow (Sort.putRow (Value.int .i64) (Sort.ahead w q) g 0 (Lib.compact xs++List.replicate (xs.length - (Lib.compact xs).length) 0).toArray) 0 3 1
     (.slice (some ⟨g,0,none⟩) (Lib.compact xs).length cap) (Lib.compact xs).length ((Lib.compact xs).map (Value.int .i64)):=by
    refine ⟨by simp,.inr ⟨g,cap,_,rfl,Nat.zero_le _,hh,Nat.le_trans hle h1,h2,by simp [Sort.putCells,h3],?_⟩⟩;have ht:=take_putCellsI cur (Lib.compact xs++List.replicate (xs.length - (Lib.compact xs).length) 0) (by simp; omega);have ht2:=congrArg (List.take (Lib.compact xs).length) ht;rw [List.take_take,Nat.min_eq_left (by simp)] at ht2;rw [Nat.mul_one,ht2];simp
   exact hrow
  ·show (Lib.compact xs).length * 8≤aA;omega
end
section
open Go
set_option maxRecDepth 100000
set_option maxHeartbeats 1000000
def ck (v n:Int):Bool:=decide (-1≤v)&&decide (v<n)
def aH (r:List Int) (n:Int):Int:=if n<0∨256<n then 4 else if 32<r.length then 2 else if (r.any fun v=>!ck v n)=true then 4 else 0
def bD (r:List Int) (n:Int):List Int×Int :=
 if aH r n≠0 then ([],aH r n) else (fH (eb (r.filter fun v=>!decide (v<0))),0)
def mH (to:List Int) (v:Int):Int:=if 0≤v then to.getD v.toNat 0 else v
def bB (r:List Int) (n:Int) (to:List Int):List Int×Int :=
 if aH r n≠0 then ([],aH r n) else if (to.length:Int)≠n then ([],3) else if (to.any fun v=>!ck v n)=true then ([],4) else (r.map (mH to),0)
theorem xU {r:List Int} {n v:Int} (h:(r.any fun v=>!ck v n)=false) (hv:v∈r):-1≤v∧v<n:=by
 have:=List.any_eq_false.1 h v hv;simpa [ck] using this
theorem mJ {r:List Int} {n:Int} (h:aH r n=0):(r.any fun v=>!ck v n)=false:=by
 unfold aH at h;cases hr:r.any fun v=>!ck v n
 ·rfl
 ·rw [hr] at h;simp only [if_true] at h;split at h
  ·omega
  ·split at h <;> omega
theorem iE {α:Type} (f:α→Bool):∀ (l:List α) (k:Int),0≤k→(ai f k l=-1∧l.filter (fun x=>!f x)=l) ∨
  ∃ j:Nat,ai f k l=k+j∧j<l.length∧(l.take (j+1)).filter (fun x=>!f x)=l.take j
 | [],k,_=>.inl ⟨rfl,rfl⟩
 | x::l,k,hk=>by
  simp only [ai];cases hx:f x
  ·rw [if_neg (by simp)];rcases iE f l (k+1) (by omega) with ⟨h1,h2⟩ | ⟨j,h1,h2,h3⟩
   ·exact .inl ⟨h1,by rw [List.filter_cons_of_pos (by simp [hx]),h2]⟩
   ·exact .inr ⟨j+1,by omega,by simp; omega,by rw [List.take_succ_cons,List.filter_cons_of_pos (by simp [hx]),h3,List.take_succ_cons]⟩
  ·rw [if_pos rfl];exact .inr ⟨0,by omega,by simp,by simp [hx]⟩
theorem JQ {α:Type} (d:α) {p:α→Bool} {xs row:List α} {i j:Nat} (hij:i<j) (hj:j<xs.length) (hl:row.length=xs.length) (ht:row.take i=(xs.take j).filter p) (hd:row.drop j=xs.drop j) :
  (p (row.getD j d)=true→(row.set i (row.getD j d)).take (i+1)=(xs.take (j+1)).filter p∧(row.set i (row.getD j d)).drop (j+1)=xs.drop (j+1)) ∧
  (p (row.getD j d)=false→row.take i=(xs.take (j+1)).filter p∧row.drop (j+1)=xs.drop (j+1)):=by
 have he:row.getD j d=xs.getD j d:=by
  have:=congrArg (fun l=>l.getD 0 d) hd;simpa [List.getD,List.getElem?_drop] using this
 have h1:row.drop (j+1)=xs.drop (j+1):=by
  have:=congrArg (List.drop 1) hd;simpa [List.drop_drop,Nat.add_comm] using this
 have hx:xs.take (j+1)=xs.take j++[xs.getD j d]:=by
  rw [List.take_succ_eq_append_getElem hj];simp [List.getD,hj]
 rw [he,hx,List.filter_append];refine ⟨fun hp=>⟨?_,?_⟩,fun hp=>⟨?_,h1⟩⟩
 ·rw [List.take_set,← ht,List.filter_cons_of_pos hp,List.filter_nil];have hi:i<row.length:=by omega
  rw [List.take_succ_eq_append_getElem hi,List.set_append_right _ _ (by simp; omega)];simp [Nat.min_eq_left (Nat.le_of_lt hi)]
 ·rw [List.drop_set_of_lt (by omega),h1]
 ·rw [ht,List.filter_cons_of_neg (by rw [hp]; simp)];simp
def yX:Spec:={ Ts:=[.arr ty_I],Rs:=[.own 3 ty_I],pre:=fun _=>True,F:=fun (x:List Int)=>x }
def oQ:Prop :=
  ∀ (x:List Int),(x.length * 8≤aA∧∀ (x_1:Int),x_1∈x→ak .i64 x_1)→True→(x=([]:List Int)→([]:List Int)=x∧True)∧(True→(0+x.length) * 8≤aA∧([]:List Int)++x=x∧True)
theorem vA:oQ:=by
 unfold oQ;intro x ⟨hb,_⟩ _;simp [hb]
theorem ci:yX.ok Tryz.prog 86:=aF (ann:=cw) aq Tryz.func86 (by kernel_rfl) vA
def Gq:Spec:={ Ts:=[ty_I,ty_I],Rs:=[.dat .bool],pre:=fun _=>True,F:=fun ((v,n):Int×Int)=>ck v n }
def wO:Prop :=
  ∀ (x:Int×Int),ak .i64 x.1∧ak .i64 x.2→True→(decide ((-1)≤x.1)&&decide (x.1<x.2))=ck x.1 x.2∧True
theorem C8:wO:=by
 unfold wO;intro ⟨v,n⟩ _ _;simp only [ck]
 grind
theorem xq:Gq.ok Tryz.prog 121:=aF (ann:=cw) aq Tryz.func121 (by kernel_rfl) C8
def GD:Spec:={ Ts:=[ty_I,.ref ty_I],Rs:=[.dat .bool],pre:=fun _=>True,F:=fun ((v,n):Int×Int)=>!ck v n }
def w5:Prop :=
  ∀ (x:Int×Int),ak .i64 x.1∧ak .i64 x.2→True→True∧(!ck x.1 x.2)=!ck x.1 x.2∧True
theorem Dl:w5:=by
 unfold w5;intro ⟨v,n⟩ _ _;simp
theorem He:GD.ok Tryz.prog 120:=aF (ann:=cw) (ae xq aq) Tryz.func120 (by kernel_rfl) Dl
def GC:Spec:={ Ts:=[ty_I,.ref ty_I],Rs:=[.dat .bool],pre:=fun _=>True,F:=fun ((v,n):Int×Int)=>!ck v n }
def w4:Prop :=
  ∀ (x:Int×Int),ak .i64 x.1∧ak .i64 x.2→True→True∧(!ck x.1 x.2)=!ck x.1 x.2∧True
theorem Dk:w4:=by
 unfold w4;intro ⟨v,n⟩ _ _;simp
theorem Hd:GC.ok Tryz.prog 137:=aF (ann:=cw) (ae xq aq) Tryz.func137 (by kernel_rfl) Dk
def GB:Spec:={ Ts:=[ty_I],Rs:=[.dat .bool],pre:=fun _=>True,F:=fun (v:Int)=>decide (v<0) }
def wZ:Prop :=
  ∀ (x:Int),ak .i64 x→True→decide (x<0)=decide (x<0)∧True
theorem Dj:wZ:=by
 unfold wZ;intro v _ _;simp
theorem Hc:GB.ok Tryz.prog 150:=aF (ann:=cw) aq Tryz.func150 (by kernel_rfl) Dj
def yI:Spec:={ Ts:=[.arr ty_I,ty_I],Rs:=[.dat ty_I],pre:=fun _=>True,F:=fun ((r,n):List Int×Int)=>aH r n }
def oA:Prop :=
  ∀ (x:List Int×Int),(x.1.length * 8≤aA∧∀ (x_1:Int),x_1∈x.1→ak .i64 x_1)∧ak .i64 x.2→True→((decide (x.2<0)||decide (256<x.2))=true→4=aH x.1 x.2∧True)∧((decide (x.2<0)||decide (256<x.2))=false→(decide (32<(↑x.1.length:Int))=true→2=aH x.1 x.2∧True)∧(decide (32<(↑x.1.length:Int))=false→(∀ (s:Int),s∈x.1→(fun (_:Int)=>True,fun (x_1:Int)=>!ck x_1 x.2).1 s)∧((x.1.any fun (x_1:Int)=>!ck x_1 x.2)=true→4=aH x.1 x.2∧True)∧((x.1.any fun (x_1:Int)=>!ck x_1 x.2)=false→0=aH x.1 x.2∧True)))
theorem vf:oA:=by
 unfold oA;intro ⟨r,n⟩ ⟨⟨hb,_⟩,hn⟩ _;simp only [aH]
 grind
theorem kK:yI.ok Tryz.prog 81:=aF (ann:=cw) (ae zu (ae He aq)) Tryz.func81 (by kernel_rfl) vf
def Af:Nat→Option LoopGen
 | 3000149=>some eM
 | 3000150=>some eM
 | 15000000005=>some { rd:=[.own 0 3 ty_I],wr:=[0],A:=fun (xs:List Int)=>{ cs:=[.own 0 3 ty_I,.dat 5 ty_I,.dat 6 ty_I],inv:=fun ((row,i,j):List Int×Int×Int)=>0≤i∧i<j∧j≤xs.length∧row.length=xs.length∧row.take i.toNat=(xs.take j.toNat).filter (fun v=>!decide (v<0))∧row.drop j.toNat=xs.drop j.toNat,mu:=fun ((_,_,j):List Int×Int×Int)=>(xs.length - j).toNat } }
 | _=>none
def yH:Spec:={ Ts:=[.arr ty_I,ty_I],Rs:=[.own 3 ty_I,.dat ty_I],pre:=fun _=>True,F:=fun ((r,n):List Int×Int)=>bD r n }
def oz:Prop :=
  ∀ (x:List Int×Int),(x.1.length * 8≤aA∧∀ (x_1:Int),x_1∈x.1→ak .i64 x_1)∧ak .i64 x.2→True→True∧(decide (aH x.1 x.2≠0)=true→([]:List Int)=(bD x.1 x.2).1∧aH x.1 x.2=(bD x.1 x.2).2∧True)∧(decide (aH x.1 x.2≠0)=false→True∧∀ (_:Array Value),(∀ (s:Int),s∈x.1→(fun (_:Int)=>True,fun (x:Int)=>decide (x<0)).1 s)∧(decide (ai (fun (x:Int)=>decide (x<0)) 0 x.1=(-1))=true→True∧True∧fH (eb x.1)=(bD x.1 x.2).1∧0=(bD x.1 x.2).2∧True)∧(decide (ai (fun (x:Int)=>decide (x<0)) 0 x.1=(-1))=false→ak .i64 (ai (fun (x:Int)=>decide (x<0)) 0 x.1+1)∧(0≤ai (fun (x:Int)=>decide (x<0)) 0 x.1∧ai (fun (x:Int)=>decide (x<0)) 0 x.1<ai (fun (x:Int)=>decide (x<0)) 0 x.1+1∧ai (fun (x:Int)=>decide (x<0)) 0 x.1+1≤(↑x.1.length:Int)∧x.1.length=x.1.length∧List.take (ai (fun (x:Int)=>decide (x<0)) 0 x.1).toNat x.1=List.filter (fun (v:Int)=>!decide (v<0)) (List.take (ai (fun (x:Int)=>decide (x<0)) 0 x.1+1).toNat x.1)∧List.drop (ai (fun (x:Int)=>decide (x<0)) 0 x.1+1).toNat x.1=List.drop (ai (fun (x:Int)=>decide (x<0)) 0 x.1+1).toNat x.1)∧∀ (x_1:List Int×Int×Int),0≤x_1.2.1∧x_1.2.1<x_1.2.2∧x_1.2.2≤(↑x.1.length:Int)∧x_1.1.length=x.1.length∧List.take x_1.2.1.toNat x_1.1=List.filter (fun (v:Int)=>!decide (v<0)) (List.take x_1.2.2.toNat x.1)∧List.drop x_1.2.2.toNat x_1.1=List.drop x_1.2.2.toNat x.1→(decide (x_1.2.2<(↑x_1.1.length:Int))=true→0≤x_1.2.2∧x_1.2.2<(↑x_1.1.length:Int)∧x_1.2.2.toNat<x_1.1.length∧∀ (_:Array Value),((!decide (x_1.1.getD x_1.2.2.toNat (0:Int)<0))=true→0≤x_1.2.1∧x_1.2.1<(↑x_1.1.length:Int)∧x_1.2.1.toNat<x_1.1.length∧ak .i64 (x_1.2.1+1)∧ak .i64 (x_1.2.2+1)∧(0≤x_1.2.1+1∧x_1.2.1+1<x_1.2.2+1∧x_1.2.2+1≤(↑x.1.length:Int)∧(x_1.1.set x_1.2.1.toNat (x_1.1.getD x_1.2.2.toNat 0)).length=x.1.length∧List.take (x_1.2.1+1).toNat (x_1.1.set x_1.2.1.toNat (x_1.1.getD x_1.2.2.toNat 0))=List.filter (fun (v:Int)=>!decide (v<0)) (List.take (x_1.2.2+1).toNat x.1)∧List.drop (x_1.2.2+1).toNat (x_1.1.set x_1.2.1.toNat (x_1.1.getD x_1.2.2.toNat 0))=List.drop (x_1.2.2+1).toNat x.1)∧((↑x.1.length:Int) - (x_1.2.2+1)).toNat<((↑x.1.length:Int) - x_1.2.2).toNat)∧((!decide (x_1.1.getD x_1.2.2.toNat (0:Int)<0))=false→ak .i64 (x_1.2.2+1)∧(0≤x_1.2.1∧x_1.2.1<x_1.2.2+1∧x_1.2.2+1≤(↑x.1.length:Int)∧x_1.1.length=x.1.length∧List.take x_1.2.1.toNat x_1.1=List.filter (fun (v:Int)=>!decide (v<0)) (List.take (x_1.2.2+1).toNat x.1)∧List.drop (x_1.2.2+1).toNat x_1.1=List.drop (x_1.2.2+1).toNat x.1)∧((↑x.1.length:Int) - (x_1.2.2+1)).toNat<((↑x.1.length:Int) - x_1.2.2).toNat))∧(decide (x_1.2.2<(↑x_1.1.length:Int))=false→0≤x_1.2.1∧x_1.2.1≤(↑x_1.1.length:Int)∧x_1.2.1.toNat+(x_1.1.length - x_1.2.1.toNat)≤x_1.1.length∧0≤x_1.2.1∧x_1.2.1≤(↑(List.take x_1.2.1.toNat x_1.1++(List.replicate (x_1.1.length - x_1.2.1.toNat) (0:Int)++List.drop (x_1.2.1.toNat+(x_1.1.length - x_1.2.1.toNat)) x_1.1)).length:Int)∧True∧True∧fH (eb (List.take x_1.2.1.toNat (List.take x_1.2.1.toNat x_1.1++(List.replicate (x_1.1.length - x_1.2.1.toNat) (0:Int)++List.drop (x_1.2.1.toNat+(x_1.1.length - x_1.2.1.toNat)) x_1.1))))=(bD x.1 x.2).1∧0=(bD x.1 x.2).2∧True)))
theorem ve:oz:=by
 unfold oz;intro ⟨r,n⟩ ⟨⟨hb,_⟩,_⟩ _;unfold aA at hb;simp only at hb ⊢;refine ⟨trivial,fun h=>?_,fun h=>⟨trivial,fun _=>⟨fun _ _=>trivial,fun h2=>?_,fun h2=>?_⟩⟩⟩
 ·simp only [bD];rw [if_pos (of_decide_eq_true h)];exact ⟨rfl,rfl,trivial⟩
 ·have h2:=of_decide_eq_true h2;refine ⟨trivial,trivial,?_⟩;simp only [bD];rw [if_neg (of_decide_eq_false h)];rcases iE (fun x:Int=>decide (x<0)) r 0 (by omega) with ⟨_,h3⟩ | ⟨j,h3,_⟩
  ·rw [h3];exact ⟨rfl,rfl,trivial⟩
  ·omega
 have h2:=of_decide_eq_false h2;rcases iE (fun x:Int=>decide (x<0)) r 0 (by omega) with ⟨h3,_⟩ | ⟨j,h3,h4,h5⟩
 ·exact absurd h3 h2
 rw [h3];refine ⟨by simp only [ak]; omega,⟨by omega,by omega,by omega,trivial,?_,trivial⟩,fun ⟨row,i,j⟩ ⟨k0,k1,k2,k3,k4,k5⟩=>⟨fun hlt=>?_,fun hge=>?_⟩⟩
 ·rw [show (0+(j:Int)+1).toNat=j+1 by omega,show (0+(j:Int)).toNat=j by omega,h5]
 ·simp only at k0 k1 k2 k3 k4 k5 hlt ⊢;have hlt:=of_decide_eq_true hlt;have hs:=JQ (0:Int) (p:=fun v=>!decide (v<0)) (xs:=r) (row:=row) (i:=i.toNat) (j:=j.toNat) (by omega) (by omega) k3 k4 k5;refine ⟨by omega,by omega,by omega,fun _=>⟨fun hp=>?_,fun hp=>?_⟩⟩
  ·obtain ⟨q1,q2⟩:=hs.1 hp;refine ⟨by omega,by omega,by omega,by simp only [ak]; omega,by simp only [ak]; omega,⟨by omega,by omega,by omega,by simpa using k3,?_,?_⟩,by omega⟩
   ·rw [show (i+1).toNat=i.toNat+1 by omega,show (j+1).toNat=j.toNat+1 by omega];exact q1
   ·rw [show (j+1).toNat=j.toNat+1 by omega];exact q2
  ·obtain ⟨q1,q2⟩:=hs.2 hp;refine ⟨by simp only [ak]; omega,⟨by omega,by omega,by omega,k3,?_,?_⟩,by omega⟩
   ·rw [show (j+1).toNat=j.toNat+1 by omega];exact q1
   ·rw [show (j+1).toNat=j.toNat+1 by omega];exact q2
 ·simp only at k0 k1 k2 k3 k4 k5 hge ⊢;have hge:=of_decide_eq_false hge;have hj:j.toNat=r.length:=by omega
  have e1:List.take i.toNat (List.take i.toNat row++(List.replicate (row.length - i.toNat) 0++List.drop (i.toNat+(row.length - i.toNat)) row))=List.take i.toNat row:=by
   rw [List.take_append_of_le_length (by simp; omega),List.take_take,Nat.min_self]
  refine ⟨by omega,by omega,by omega,by omega,by simp; omega,trivial,trivial,?_⟩;rw [e1,k4,hj,List.take_of_length_le (Nat.le_refl _)];simp only [bD];rw [if_neg (of_decide_eq_false h)];exact ⟨rfl,rfl,trivial⟩
theorem zk:yH.ok Tryz.prog 123:=aF (ann:=Af) (ae kK (ae ci (ae Hc (ae B4 (kD tU (kD rH aq)))))) Tryz.func123 (by kernel_rfl) ve
def CS:Nat→Option LoopGen
 | 10=>some { rd:=[.dat 2 (.arr ty_I),.dat 0 (.arr ty_I)],wr:=[9,30],A:=fun ((to,r):List Int×List Int)=>{ cs:=[.own 9 3 ty_I,.same 30 9,.dat 32 ty_I],inv:=fun ((out,_,i):List Int×Unit×Int)=>0≤i∧i≤r.length∧(∀ v∈r,v<to.length)∧out=(r.take i.toNat).map (mH to)++r.drop i.toNat,mu:=fun ((_,_,i):List Int×Unit×Int)=>(r.length - i).toNat } }
 | _=>none
def AW:Spec:={ Ts:=[.arr ty_I,ty_I,.arr ty_I],Rs:=[.own 3 ty_I,.dat ty_I],pre:=fun _=>True,F:=fun ((r,n,to):List Int×Int×List Int)=>bB r n to }
def qS:Prop :=
  ∀ (x:List Int×Int×List Int),((x.1.length * 8≤aA∧∀ (x_1:Int),x_1∈x.1→ak .i64 x_1)∧ak .i64 x.2.1∧x.2.2.length * 8≤aA∧∀ (x_1:Int),x_1∈x.2.2→ak .i64 x_1)→True→True∧(decide (aH x.1 x.2.1≠0)=true→([]:List Int)=(bB x.1 x.2.1 x.2.2).1∧aH x.1 x.2.1=(bB x.1 x.2.1 x.2.2).2∧True)∧(decide (aH x.1 x.2.1≠0)=false→(decide ((↑x.2.2.length:Int)≠x.2.1)=true→([]:List Int)=(bB x.1 x.2.1 x.2.2).1∧3=(bB x.1 x.2.1 x.2.2).2∧True)∧(decide ((↑x.2.2.length:Int)≠x.2.1)=false→(∀ (s:Int),s∈x.2.2→(fun (_:Int)=>True,fun (x_1:Int)=>!ck x_1 x.2.1).1 s)∧((x.2.2.any fun (x_1:Int)=>!ck x_1 x.2.1)=true→([]:List Int)=(bB x.1 x.2.1 x.2.2).1∧4=(bB x.1 x.2.1 x.2.2).2∧True)∧((x.2.2.any fun (x_1:Int)=>!ck x_1 x.2.1)=false→True∧((0:Int)≤0∧0≤(↑x.1.length:Int)∧(∀ (v:Int),v∈x.1→v<(↑x.2.2.length:Int))∧x.1=List.map (mH x.2.2) (List.take (Int.toNat 0) x.1)++List.drop (Int.toNat 0) x.1)∧∀ (x_1:List Int×Unit×Int),0≤x_1.2.2∧x_1.2.2≤(↑x.1.length:Int)∧(∀ (v:Int),v∈x.1→v<(↑x.2.2.length:Int))∧x_1.1=List.map (mH x.2.2) (List.take x_1.2.2.toNat x.1)++List.drop x_1.2.2.toNat x.1→(decide (x_1.2.2<(↑x.1.length:Int))=true→0≤x_1.2.2∧x_1.2.2<(↑x_1.1.length:Int)∧x_1.2.2.toNat<x_1.1.length∧(decide (0≤x_1.1.getD x_1.2.2.toNat 0)=true→0≤x_1.1.getD x_1.2.2.toNat 0∧x_1.1.getD x_1.2.2.toNat 0<(↑x.2.2.length:Int)∧0≤x_1.2.2∧x_1.2.2<(↑x_1.1.length:Int)∧x_1.2.2.toNat<x_1.1.length∧ak .i64 (x_1.2.2+1)∧(0≤x_1.2.2+1∧x_1.2.2+1≤(↑x.1.length:Int)∧(∀ (v:Int),v∈x.1→v<(↑x.2.2.length:Int))∧x_1.1.set x_1.2.2.toNat (x.2.2.getD (x_1.1.getD x_1.2.2.toNat 0).toNat 0)=List.map (mH x.2.2) (List.take (x_1.2.2+1).toNat x.1)++List.drop (x_1.2.2+1).toNat x.1)∧((↑x.1.length:Int) - (x_1.2.2+1)).toNat<((↑x.1.length:Int) - x_1.2.2).toNat)∧(decide (0≤x_1.1.getD x_1.2.2.toNat 0)=false→ak .i64 (x_1.2.2+1)∧(0≤x_1.2.2+1∧x_1.2.2+1≤(↑x.1.length:Int)∧(∀ (v:Int),v∈x.1→v<(↑x.2.2.length:Int))∧x_1.1=List.map (mH x.2.2) (List.take (x_1.2.2+1).toNat x.1)++List.drop (x_1.2.2+1).toNat x.1)∧((↑x.1.length:Int) - (x_1.2.2+1)).toNat<((↑x.1.length:Int) - x_1.2.2).toNat))∧(decide (x_1.2.2<(↑x.1.length:Int))=false→x_1.1=(bB x.1 x.2.1 x.2.2).1∧0=(bB x.1 x.2.1 x.2.2).2∧True))))
theorem x7:qS:=by
 unfold qS;intro ⟨r,n,to⟩ ⟨⟨hb,_⟩,_⟩ _;unfold aA at hb;simp only at hb ⊢;refine ⟨trivial,fun h=>?_,fun h=>⟨fun h2=>?_,fun h2=>⟨fun _ _=>trivial,fun h3=>?_,fun h3=>⟨trivial,?_,fun ⟨out,_,i⟩ ⟨k0,k1,k2,k3⟩=>?_⟩⟩⟩⟩
 ·simp only [bB];rw [if_pos (of_decide_eq_true h)];exact ⟨rfl,rfl,trivial⟩
 ·simp only [bB];rw [if_neg (of_decide_eq_false h),if_pos (of_decide_eq_true h2)];exact ⟨rfl,rfl,trivial⟩
 ·simp only [bB];rw [if_neg (of_decide_eq_false h),if_neg (of_decide_eq_false h2),if_pos h3];exact ⟨rfl,rfl,trivial⟩
 ·have h:=of_decide_eq_false h;have h2:=of_decide_eq_false h2;have hf:aH r n=0:=by omega
  have hr:(r.any fun v=>!ck v n)=false:=mJ hf;refine ⟨by omega,by omega,fun v hv=>?_,by simp⟩;have:=(xU hr hv).2;omega
 ·simp only at k0 k1 k2 k3 ⊢;refine ⟨fun hlt=>?_,fun hge=>?_⟩
  ·have hlt:=of_decide_eq_true hlt
   have hgd:out.getD i.toNat 0=r.getD i.toNat 0:=by
    rw [k3];simp only [List.getD_eq_getElem?_getD];rw [List.getElem?_append_right (by simp; omega)];simp only [List.length_map,List.length_take,List.getElem?_drop];congr 2;omega
   have hol:out.length=r.length:=by rw [k3]; simp; omega
   have hrd:r.drop i.toNat=r.getD i.toNat 0::r.drop (i+1).toNat:=aW 0 k0 hlt
   have htk:r.take (i+1).toNat=r.take i.toNat++[r.getD i.toNat 0]:=by
    rw [show (i+1).toNat=i.toNat+1 by omega,List.take_succ_eq_append_getElem (by omega)];simp [List.getD,show i.toNat<r.length by omega]
   have hset:∀ y,out.set i.toNat y=(r.take i.toNat).map (mH to)++y::r.drop (i+1).toNat:=by
    intro y;rw [k3,hrd,List.set_append_right _ _ (by simp; omega)];simp [Nat.min_eq_left (show i.toNat≤r.length by omega)]
   have hmem:=k2 _ (aI (0:Int) k0 hlt);rw [hgd];refine ⟨k0,by omega,by omega,fun hc=>?_,fun hc=>?_⟩
   ·have hc:=of_decide_eq_true hc;refine ⟨hc,hmem,k0,by omega,by omega,by simp only [ak]; omega,⟨by omega,by omega,k2,?_⟩,by omega⟩;have e1:mH to (r.getD i.toNat 0)=to.getD (r.getD i.toNat 0).toNat 0:=if_pos hc;rw [hset,htk,List.map_append,← e1];simp
   ·have hc:=of_decide_eq_false hc;refine ⟨by simp only [ak]; omega,⟨by omega,by omega,k2,?_⟩,by omega⟩;have e1:mH to (r.getD i.toNat 0)=r.getD i.toNat 0:=if_neg hc;rw [k3,hrd,htk,List.map_append,List.map_singleton,e1];simp
  ·have hge:=of_decide_eq_false hge;have hi:i.toNat=r.length:=by omega
   simp only [bB];rw [if_neg (of_decide_eq_false h),if_neg (of_decide_eq_false h2),if_neg (by rw [h3]; simp),k3,hi];simp
theorem rz:AW.ok Tryz.prog 99:=aF (ann:=CS) (ae kK (ae ci (ae zu (ae Hd aq)))) Tryz.func99 (by kernel_rfl) x7
def HW:Nat→Option LoopGen
 | 6=>some { rd:=[.dat 0 (.arr ty_I),.dat 1 ty_I],A:=fun ((r,n):List Int×Int)=>{ cs:=[.dat 18 ty_I],inv:=fun (i:Int)=>0≤i∧i≤r.length∧¬ (n<0∨256<n)∧¬ 32<r.length∧((r.drop i.toNat).any fun v=>!ck v n)=r.any fun v=>!ck v n,mu:=fun (i:Int)=>(r.length - i).toNat } }
 | _=>none
def GG:Spec:={ Ts:=[.arr ty_I,ty_I],Rs:=[.dat ty_I],pre:=fun _=>True,F:=fun ((r,n):List Int×Int)=>aH r n }
def w8:Prop :=
  ∀ (x:List Int×Int),(x.1.length * 8≤aA∧∀ (x_1:Int),x_1∈x.1→ak .i64 x_1)∧ak .i64 x.2→True→((decide (x.2<0)||decide (256<x.2))=true→4=aH x.1 x.2∧True)∧((decide (x.2<0)||decide (256<x.2))=false→(decide (32<(↑x.1.length:Int))=true→2=aH x.1 x.2∧True)∧(decide (32<(↑x.1.length:Int))=false→((0:Int)≤0∧0≤(↑x.1.length:Int)∧¬(x.2<0∨256<x.2)∧¬32<x.1.length∧((List.drop (Int.toNat 0) x.1).any fun (v:Int)=>!ck v x.2)=x.1.any fun (v:Int)=>!ck v x.2)∧∀ (x_1:Int),(0≤x_1∧x_1≤(↑x.1.length:Int)∧¬(x.2<0∨256<x.2)∧¬32<x.1.length∧((List.drop x_1.toNat x.1).any fun (v:Int)=>!ck v x.2)=x.1.any fun (v:Int)=>!ck v x.2)→(decide (x_1<(↑x.1.length:Int))=true→0≤x_1∧x_1<(↑x.1.length:Int)∧((decide (x.1.getD x_1.toNat (0:Int) < -1)||decide (x.2≤x.1.getD x_1.toNat 0))=true→4=aH x.1 x.2∧True)∧((decide (x.1.getD x_1.toNat (0:Int) < -1)||decide (x.2≤x.1.getD x_1.toNat 0))=false→ak .i64 (x_1+1)∧(0≤x_1+1∧x_1+1≤(↑x.1.length:Int)∧¬(x.2<0∨256<x.2)∧¬32<x.1.length∧((List.drop (x_1+1).toNat x.1).any fun (v:Int)=>!ck v x.2)=x.1.any fun (v:Int)=>!ck v x.2)∧((↑x.1.length:Int) - (x_1+1)).toNat<((↑x.1.length:Int) - x_1).toNat))∧(decide (x_1<(↑x.1.length:Int))=false→0=aH x.1 x.2∧True)))
theorem Do:w8:=by
 unfold w8;intro ⟨r,n⟩ ⟨⟨hb,_⟩,hn⟩ _;unfold aA at hb;simp only at hb ⊢;refine ⟨fun h=>?_,fun h=>⟨fun h2=>?_,fun h2=>⟨⟨by omega,by omega,by grind,by grind,by simp⟩,fun i ⟨k0,k1,k2,k3,k4⟩=>⟨fun hlt=>?_,fun hge=>?_⟩⟩⟩⟩
 ·simp only [aH];rw [if_pos (by grind)];exact ⟨rfl,trivial⟩
 ·simp only [aH];rw [if_neg (by grind),if_pos (by grind)];exact ⟨rfl,trivial⟩
 ·have hlt:=of_decide_eq_true hlt;rw [aW (0:Int) k0 hlt,List.any_cons] at k4;refine ⟨k0,hlt,fun hc=>?_,fun hc=>?_⟩
  ·simp only [aH];rw [if_neg k2,if_neg k3,← k4,if_pos (by simp only [ck]; grind)];exact ⟨rfl,trivial⟩
  ·have hw:ck (r.getD i.toNat 0) n=true:=by simp only [ck]; grind
   rw [hw] at k4;simp only [Bool.not_true,Bool.false_or] at k4;exact ⟨by simp only [ak]; omega,⟨by omega,by omega,k2,k3,k4⟩,by omega⟩
 ·have hge:=of_decide_eq_false hge;rw [bt hge,List.any_nil] at k4;simp only [aH];rw [if_neg k2,if_neg k3,← k4];simp
theorem Hg:GG.ok Tryz.prog 45:=aF (ann:=HW) aq Tryz.func45 (by kernel_rfl) Do
def bf (l:List Int) (m:Nat):List Int:=((List.range m).map Int.ofNat).filter (cP l)
def EW:Nat→Option LoopGen
 | 3=>some { rd:=[.dat 0 (.arr ty_I)],A:=fun (l:List Int)=>{ cs:=[.own 3 3 ty_I,.dat 5 ty_I],inv:=fun ((out,i):List Int×Int)=>0≤i∧i≤256∧out=bf l i.toNat,mu:=fun ((_,i):List Int×Int)=>(256 - i).toNat } }
 | _=>none
def DO:Spec:={ Ts:=[.arr ty_I],Rs:=[.own 3 ty_I],pre:=fun _=>True,F:=fun (l:List Int)=>bf l 256 }
def tu:Prop :=
  ∀ (x:List Int),(x.length * 8≤aA∧∀ (x_1:Int),x_1∈x→ak .i64 x_1)→True→((0:Int)≤0∧(0:Int)≤256∧([]:List Int)=bf x (Int.toNat 0))∧∀ (x_1:List Int×Int),0≤x_1.2∧x_1.2≤256∧x_1.1=bf x x_1.2.toNat→(decide (x_1.2<256)=true→True∧(cP x x_1.2=true→(x_1.1.length+[x_1.2].length) * 8≤aA∧ak .i64 (x_1.2+1)∧(0≤x_1.2+1∧x_1.2+1≤256∧x_1.1++[x_1.2]=bf x (x_1.2+1).toNat)∧(256 - (x_1.2+1)).toNat<(256 - x_1.2).toNat)∧(cP x x_1.2=false→ak .i64 (x_1.2+1)∧(0≤x_1.2+1∧x_1.2+1≤256∧x_1.1=bf x (x_1.2+1).toNat)∧(256 - (x_1.2+1)).toNat<(256 - x_1.2).toNat))∧(decide (x_1.2<256)=false→x_1.1=bf x 256∧True)
theorem Ar:tu:=by
 unfold tu;intro l _ _;refine ⟨⟨by omega,by omega,rfl⟩,fun ⟨out,i⟩ ⟨k0,k1,k2⟩=>?_⟩;simp only at k0 k1 k2 ⊢
 have hs:bf l (i+1).toNat=if cP l i=true then out++[i] else out:=by
  rw [k2,show (i+1).toNat=i.toNat+1 by omega];simp only [bf,List.range_succ,List.map_append,List.map_cons,List.map_nil,List.filter_append];rw [show Int.ofNat i.toNat=i from Int.toNat_of_nonneg k0];cases hc:cP l i <;> simp [hc]
 have hl:out.length≤i.toNat:=by
  rw [k2,bf];refine Nat.le_trans (List.length_filter_le _ _) ?_;simp
 refine ⟨fun hlt=>⟨trivial,fun hc=>?_,fun hc=>?_⟩,fun hge=>?_⟩
 ·have hlt:=of_decide_eq_true hlt;rw [hc] at hs;refine ⟨by simp only [List.length_singleton,aA]; omega,by simp only [ak]; omega,⟨by omega,by omega,?_⟩,by omega⟩;rw [hs]; rfl
 ·have hlt:=of_decide_eq_true hlt;rw [hc] at hs;refine ⟨by simp only [ak]; omega,⟨by omega,by omega,?_⟩,by omega⟩;rw [hs]; rfl
 ·have hge:=of_decide_eq_false hge;rw [k2,show i.toNat=256 by omega];exact ⟨rfl,trivial⟩
theorem tV:DO.ok Tryz.prog 91:=aF (ann:=EW) (ae tW aq) Tryz.func91 (by kernel_rfl) Ar
end
section
open Go
theorem cG {l:List Int} {n:Int}:cP l n=true ↔ n∈l:=by
 unfold cP;rw [List.any_eq_true];exact ⟨fun ⟨x,h1,h2⟩=>of_decide_eq_true h2 ▸ h1,fun h=>⟨n,h,by simp⟩⟩
theorem ju (d:Array Int) (hd:∀ i j,i<j→j<d.size→d[i]!≤d[j]!):∀ m,m≤d.size →
  (Lib.compactUpTo d m).Pairwise (·<·)∧(∀ x∈Lib.compactUpTo d m,∃ j,j<m∧x=d[j]!)∧∀ j,j<m→d[j]!∈Lib.compactUpTo d m
 | 0,_=>by
  have e:Lib.compactUpTo d 0=[]:=rfl;rw [e];exact ⟨.nil,fun x hx=>(by cases hx),fun j hj=>by omega⟩
 | m+1,hm=>by
  obtain ⟨h1,h2,h3⟩:=ju d hd m (by omega);rw [Lib.compactUpTo_succ];cases hk:Lib.keeps d m
  ·simp only [Bool.false_eq_true,if_false,List.append_nil];have hk:¬ (m=0∨d[m]!≠d[m - 1]!):=of_decide_eq_false hk;refine ⟨h1,fun x hx=>?_,fun j hj=>?_⟩
   ·obtain ⟨j,hj,e⟩:=h2 x hx;exact ⟨j,by omega,e⟩
   ·by_cases hjm:j=m
    ·subst hjm;have e:d[j]! = d[j - 1]!:=Classical.byContradiction fun h=>hk (.inr h)
     rw [e];exact h3 _ (by omega)
    ·exact h3 j (by omega)
  ·simp only [if_true];have hk:m=0∨d[m]!≠d[m - 1]!:=of_decide_eq_true hk;refine ⟨List.pairwise_append.2 ⟨h1,List.pairwise_singleton _ _,fun x hx y hy=>?_⟩,fun x hx=>?_,fun j hj=>?_⟩
   ·rw [List.mem_singleton.1 hy];obtain ⟨j,hj,e⟩:=h2 x hx;subst e;have h5:=hd (m - 1) m (by omega) (by omega);by_cases hjm:j=m - 1
    ·subst hjm;omega
    ·have:=hd j (m - 1) (by omega) (by omega);omega
   ·rcases List.mem_append.1 hx with hx | hx
    ·obtain ⟨j,hj,e⟩:=h2 x hx;exact ⟨j,by omega,e⟩
    ·exact ⟨m,by omega,List.mem_singleton.1 hx⟩
   ·by_cases hjm:j=m
    ·subst hjm;simp
    ·exact List.mem_append_left _ (h3 j (by omega))
theorem kG (xs:List Int):(eb xs).Pairwise (·≤·):=by
 have:=List.pairwise_mergeSort (le:=fun x y:Int=>decide (x≤y)) (fun a b c h1 h2=>by simp only [decide_eq_true_eq] at *; omega) (fun a b=>by simp only [Bool.or_eq_true,decide_eq_true_eq]; omega) xs;exact this.imp (fun h=>of_decide_eq_true h)
theorem pM {xs:List Int} {x:Int}:x∈eb xs ↔ x∈xs:=List.mem_mergeSort
theorem iL (xs:List Int):(eb xs).length=xs.length:=List.length_mergeSort _
theorem sj {xs:List Int} (h:xs.Pairwise (·≤·)):(fH xs).Pairwise (·<·)∧∀ x,x∈fH xs ↔ x∈xs:=by
 have hd:∀ i j,i<j→j<xs.toArray.size→xs.toArray[i]!≤xs.toArray[j]!:=by
  intro i j hij hj;have hj:j<xs.length:=by simpa using hj
  have:=List.pairwise_iff_getElem.1 h i j (by omega) hj hij;simpa [show i<xs.length by omega,hj] using this
 obtain ⟨h1,h2,h3⟩:=ju xs.toArray hd xs.length (by simp);refine ⟨h1,fun x=>⟨fun hx=>rR xs x hx,fun hx=>?_⟩⟩;obtain ⟨j,hj,e⟩:=List.getElem_of_mem hx;have:=h3 j hj;simp only [List.getElem!_toArray,hj,getElem!_pos,e] at this;exact this
theorem ml:∀ {l k:List Int},l.Pairwise (·<·)→k.Pairwise (·<·)→(∀ x,x∈l ↔ x∈k)→l=k
 | [],[],_,_,_=>rfl
 | [],y::k,_,_,h=>absurd ((h y).2 (by simp)) (by simp)
 | x::l,[],_,_,h=>absurd ((h x).1 (by simp)) (by simp)
 | x::l,y::k,hl,hk,h=>by
  obtain ⟨a1,a2⟩:=List.pairwise_cons.1 hl;obtain ⟨b1,b2⟩:=List.pairwise_cons.1 hk
  have e:x=y:=by
   have h1:=(h x).1 (by simp);have h2:=(h y).2 (by simp);rcases List.mem_cons.1 h1 with h1 | h1
   ·exact h1
   ·rcases List.mem_cons.1 h2 with h2 | h2
    ·exact h2.symm
    ·have:=b1 x h1;have:=a1 y h2;omega
  subst e;rw [ml a2 b2 (fun z=>⟨fun hz=>?_,fun hz=>?_⟩)]
  ·have:=(h z).1 (by simp [hz]);rcases List.mem_cons.1 this with e | h1
   ·subst e;exact absurd (a1 z hz) (by omega)
   ·exact h1
  ·have:=(h z).2 (by simp [hz]);rcases List.mem_cons.1 this with e | h1
   ·subst e;exact absurd (b1 z hz) (by omega)
   ·exact h1
theorem Hz (m:Nat):((List.range m).map Int.ofNat).Pairwise (·<·):=by
 rw [List.pairwise_map];exact List.pairwise_lt_range.imp (fun h=>by simp only [Int.ofNat_eq_natCast]; omega)
theorem qK (l:List Int) (m:Nat):(bf l m).Pairwise (·<·):=(Hz m).filter _
theorem g7 {l:List Int} {m:Nat} {x:Int}:x∈bf l m ↔ 0≤x∧x<m∧x∈l:=by
 unfold bf;rw [List.mem_filter,cG,List.mem_map];constructor
 ·rintro ⟨⟨j,hj,rfl⟩,hx⟩;have:=List.mem_range.1 hj;simp only [Int.ofNat_eq_natCast] at *;exact ⟨by omega,by omega,hx⟩
 ·rintro ⟨h1,h2,h3⟩;exact ⟨⟨x.toNat,List.mem_range.2 (by omega),by simp only [Int.ofNat_eq_natCast]; omega⟩,h3⟩
end
section
open Go
def dI (a:List Int) (x:Int):List Int:=((a7 a x).filter fun v=>decide (v≠0)).map (· - 1)
inductive Rch (a from_:List Int):Int→Prop
 | base {x:Int}:x∈from_→Rch a from_ x
 | step {x y:Int}:Rch a from_ x→y∈dI a x→Rch a from_ y
def iY (a l:List Int):Bool:=l.all fun x=>(dI a x).all (cP l)
def oW (a l:List Int):List Int:=l++l.flatMap (dI a)
def rM (a:List Int):Nat→List Int→List Int
 | 0,l=>l
 | n+1,l=>if iY a l=true then l else rM a n (oW a l)
def be (a from_:List Int):List Int:=bf (rM a 257 from_) 256
theorem j7 {α:Type} {p q:α→Bool}:∀ (l:List α),(∀ x∈l,p x=true→q x=true)→(l.filter p).length≤(l.filter q).length
 | [],_=>by simp
 | x::l,h=>by
  have ih:=j7 l (fun y hy=>h y (by simp [hy]));have hx:=h x (by simp);cases hp:p x
  ·rw [List.filter_cons_of_neg (by simp [hp])];cases hq:q x
   ·rw [List.filter_cons_of_neg (by simp [hq])]; exact ih
   ·rw [List.filter_cons_of_pos hq,List.length_cons]; omega
  ·rw [List.filter_cons_of_pos hp,List.filter_cons_of_pos (hx hp),List.length_cons,List.length_cons]; omega
theorem na {α:Type} {p q:α→Bool}:∀ (l:List α),(∀ x∈l,p x=true→q x=true)→(∃ x∈l,p x=false∧q x=true)→(l.filter p).length<(l.filter q).length
 | [],_,h=>by obtain ⟨x,hx,_⟩:=h; cases hx
 | x::l,h,⟨y,hy,hp,hq⟩=>by
  have h':∀ y∈l,p y=true→q y=true:=fun y hy=>h y (by simp [hy])
  have le:=j7 l h';rcases List.mem_cons.1 hy with rfl | hy
  ·rw [List.filter_cons_of_neg (by simp [hp]),List.filter_cons_of_pos hq,List.length_cons]; omega
  ·have ih:=na l h' ⟨y,hy,hp,hq⟩;have hx:=h x (by simp);cases hp:p x
   ·rw [List.filter_cons_of_neg (by simp [hp])];cases hq:q x
    ·rw [List.filter_cons_of_neg (by simp [hq])]; exact ih
    ·rw [List.filter_cons_of_pos hq,List.length_cons]; omega
   ·rw [List.filter_cons_of_pos hp,List.filter_cons_of_pos (hx hp),List.length_cons,List.length_cons]; omega
def ei (l:List Int):Nat:=(bf l 256).length
theorem zZ (l:List Int):ei l≤256:=by
 have:=List.length_filter_le (cP l) ((List.range 256).map Int.ofNat);unfold ei bf;simpa using this
theorem CK {l k:List Int} (h:∀ x∈l,x∈k):ei l≤ei k :=
 j7 _ (fun x _ hx=>cG.2 (h x (cG.1 hx)))
theorem JY {l k:List Int} (h:∀ x∈l,x∈k) {y:Int} (hy:y∈k) (hn:¬ y∈l) (h0:0≤y) (h1:y≤255):ei l<ei k:=by
 refine na _ (fun x _ hx=>cG.2 (h x (cG.1 hx))) ⟨y,?_,?_,cG.2 hy⟩
 ·rw [List.mem_map];exact ⟨y.toNat,List.mem_range.2 (by omega),by simp only [Int.ofNat_eq_natCast]; omega⟩
 ·cases hl:cP l y
  ·rfl
  ·exact absurd (cG.1 hl) hn
theorem jT {a l:List Int}:iY a l=true ↔ ∀ x∈l,∀ y∈dI a x,y∈l:=by
 unfold iY;simp only [List.all_eq_true,cG]
theorem gE {a:List Int} {x:Int} (h:isB (aa a).1 x=true):0≤x∧x≤255:=gv _ (uk h).1
theorem mq {a:List Int} (hw:∀ x∈a,ak .u64 x) (hc:(au a).2.2=0) {x y:Int} (hx:isB (aa a).1 x=true) (hy:y∈dI a x):isB (aa a).1 y=true:=by
 unfold dI at hy;obtain ⟨v,hv,rfl⟩:=List.mem_map.1 hy;obtain ⟨hv,h0⟩:=List.mem_filter.1 hv;have h0:=of_decide_eq_true h0;rcases nt hw hc _ (gP hx).1 v hv with e | ⟨_,_,e⟩
 ·exact absurd e h0
 ·exact e
theorem Rch.isB {a from_:List Int} (hw:∀ x∈a,ak .u64 x) (hc:(au a).2.2=0) (hf:∀ x∈from_,isB (aa a).1 x=true) {x:Int} (h:Rch a from_ x):isB (aa a).1 x=true:=by
 induction h with
 | base h=>exact hf _ h
 | step _ h ih=>exact mq hw hc ih h
theorem Rch.mem {a from_ l:List Int} (h1:∀ x∈from_,x∈l) (h2:∀ x∈l,∀ y∈dI a x,y∈l) {x:Int} (h:Rch a from_ x):x∈l:=by
 induction h with
 | base h=>exact h1 _ h
 | step _ h ih=>exact h2 _ ih _ h
theorem Rch.mono {a f g:List Int} (h:∀ x∈f,Rch a g x) {x:Int} (hx:Rch a f x):Rch a g x:=by
 induction hx with
 | base hx=>exact h _ hx
 | step _ hy ih=>exact .step ih hy
theorem xz (a:List Int):∀ (n:Nat) (l:List Int),∀ x∈l,x∈rM a n l
 | 0,_,_,h=>h
 | n+1,l,x,h=>by
  unfold rM;split
  ·exact h
  ·exact xz a n _ x (by unfold oW; simp [h])
theorem xA {a f:List Int}:∀ (n:Nat) (l:List Int),(∀ x∈l,Rch a f x)→∀ x∈rM a n l,Rch a f x
 | 0,_,h,x,hx=>h x hx
 | n+1,l,h,x,hx=>by
  unfold rM at hx;split at hx
  ·exact h x hx
  ·refine xA n _ (fun y hy=>?_) x hx;unfold oW at hy;rcases List.mem_append.1 hy with hy | hy
   ·exact h y hy
   ·obtain ⟨z,hz,hy⟩:=List.mem_flatMap.1 hy;exact .step (h z hz) hy
theorem o9 {a:List Int} (hw:∀ x∈a,ak .u64 x) (hc:(au a).2.2=0):∀ (n:Nat) (l:List Int),(∀ x∈l,isB (aa a).1 x=true)→257≤n+ei l→iY a (rM a n l)=true
 | 0,l,_,hn=>by have:=zZ l; omega
 | n+1,l,hl,hn=>by
  unfold rM;by_cases h:iY a l=true
  ·rw [if_pos h]; exact h
  rw [if_neg h]
  have hl2:∀ x∈oW a l,isB (aa a).1 x=true:=by
   intro y hy;unfold oW at hy;rcases List.mem_append.1 hy with hy | hy
   ·exact hl y hy
   ·obtain ⟨z,hz,hy⟩:=List.mem_flatMap.1 hy;exact mq hw hc (hl z hz) hy
  refine o9 hw hc n _ hl2 ?_;rw [jT] at h
  have h:∃ x,x∈l∧∃ y,y∈dI a x∧¬ y∈l:=by
   apply Classical.byContradiction;intro hno;apply h;intro x hx y hy;apply Classical.byContradiction;intro hyl;exact hno ⟨x,hx,y,hy,hyl⟩
  obtain ⟨x,hx,y,hy,hyl⟩:=h
  have hy2:y∈oW a l:=by
   unfold oW;exact List.mem_append_right _ (List.mem_flatMap.2 ⟨x,hx,hy⟩)
  have hr:=gE (hl2 y hy2);have:=JY (l:=l) (k:=oW a l) (fun z hz=>by unfold oW; simp [hz]) hy2 hyl hr.1 hr.2;omega
theorem gw {a from_:List Int} (hw:∀ x∈a,ak .u64 x) (hc:(au a).2.2=0) (hf:∀ x∈from_,isB (aa a).1 x=true) {x:Int}:x∈be a from_ ↔ Rch a from_ x:=by
 unfold be;rw [g7];constructor
 ·intro h;exact xA 257 from_ (fun y hy=>.base hy) x h.2.2
 ·intro h;have hr:=gE (h.isB hw hc hf);refine ⟨hr.1,by omega,?_⟩;have hcl:=jT.1 (o9 hw hc 257 from_ hf (by omega));exact h.mem (xz a 257 from_) hcl
theorem jk (a from_:List Int):(be a from_).Pairwise (·<·):=qK _ _
structure Full (a from_ out:List Int):Prop where
 has:∀ x∈from_,x∈out
 only:∀ x∈out,Rch a from_ x
 all:∀ x∈out,∀ y∈dI a x,y∈out
theorem Full.iff {a from_ out:List Int} (h:Full a from_ out) {x:Int}:x∈out ↔ Rch a from_ x:=⟨h.only x,fun hx=>hx.mem h.has h.all⟩
theorem Full.rising {a from_ out:List Int} (hw:∀ x∈a,ak .u64 x) (hc:(au a).2.2=0) (hf:∀ x∈from_,isB (aa a).1 x=true) (h:Full a from_ out):bf out 256=be a from_:=by
 refine ml (qK _ _) (jk _ _) (fun x=>?_);rw [g7,gw hw hc hf,h.iff];exact ⟨fun hx=>hx.2.2,fun hx=>by have:=gE (hx.isB hw hc hf); exact ⟨this.1,by omega,hx⟩⟩
theorem Full.sorted {a from_ out:List Int} (hw:∀ x∈a,ak .u64 x) (hc:(au a).2.2=0) (hf:∀ x∈from_,isB (aa a).1 x=true) (h:Full a from_ out) (hd:out.Nodup):eb out=be a from_:=by
 refine ml ?_ (jk _ _) (fun x=>by rw [pM,gw hw hc hf,h.iff]);have h1:=kG out;have h2:(eb out).Nodup:=(List.mergeSort_perm out _).nodup_iff.2 hd;have h3:=h1.and h2;exact h3.imp (fun ⟨x,y⟩=>by omega)
def ba (a from_:List Int):Int:=if (au a).2.2≠0 then (au a).2.2 else if from_.all (isB (aa a).1)=true then 0 else 5
def bX (a from_:List Int):List Int×Int:=if ba a from_≠0 then ([],ba a from_) else (be a from_,0)
theorem dV {a from_:List Int} (h:ba a from_=0):(au a).2.2=0∧∀ x∈from_,isB (aa a).1 x=true:=by
 unfold ba at h;split at h
 ·rename_i h1; exact absurd h h1
 ·rename_i h1;split at h
  ·rename_i h2;exact ⟨by omega,List.all_eq_true.1 h2⟩
  ·omega
theorem kS {a from_:List Int} (h1:(au a).2.2=0) (h2:∀ x∈from_,isB (aa a).1 x=true):ba a from_=0:=by
 unfold ba;rw [if_neg (by omega),if_pos (List.all_eq_true.2 h2)]
end
section
open Go
set_option maxRecDepth 100000
set_option maxHeartbeats 1000000
theorem Mp {l:List Int} {x:Int} (h:(!cP l x)=true):¬ x∈l:=fun hx=>by rw [cG.2 hx] at h; cases h
theorem Mo {l:List Int} {x:Int} (h:(!cP l x)=false):x∈l:=cG.1 (by cases hx:cP l x <;> simp_all)
theorem Es {a:List Int} (hw:∀ x∈a,ak .u64 x) (hc:(au a).2.2=0) {x:Int} (hx:isB (aa a).1 x=true) {y:Int}:(y∈aL a x (aj x (aa a).1).1∧0≤y) ↔ y∈dI a x:=by
 have e:aL a x (aj x (aa a).1).1=(a7 a x).map nameOf:=rfl;rw [e];unfold dI;have hr:=nt hw hc _ (gP hx).1;simp only [List.mem_map,List.mem_filter,decide_eq_true_eq];constructor
 ·rintro ⟨⟨v,hv,rfl⟩,h0⟩;rcases hr v hv with rfl | ⟨h1,h2,_⟩
  ·simp [nameOf] at h0
  ·exact ⟨v,⟨hv,by omega⟩,by unfold nameOf; rw [if_neg (by omega)]⟩
 ·rintro ⟨v,⟨hv,h0⟩,rfl⟩;rcases hr v hv with e | ⟨h1,h2,_⟩
  ·exact absurd e h0
  ·exact ⟨⟨v,hv,by unfold nameOf; rw [if_neg (by omega)]⟩,by omega⟩
structure InReach (a f l:List Int):Prop where
 has:∀ x∈f,x∈l
 only:∀ x∈l,Rch a f x
 len:l.length+ei f≤f.length+ei l
def CU:Nat→Option LoopGen
 | 4=>some { rd:=[.dat 0 (.arr bb),.dat 1 (.arr ty_I)],A:=fun ((a,f):List Int×List Int)=>{ cs:=[.own 6 3 ty_I,.dat 7 .bool],inv:=fun ((l,ag):List Int×Bool)=>InReach a f l∧(ag=false→iY a l=true),mu:=fun ((l,ag):List Int×Bool)=>2 * (256 - ei l)+(if ag=true then 1 else 0) } }
 | 7=>some { rd:=[.own 5 3 ty_I,.dat 0 (.arr bb),.dat 1 (.arr ty_I),.own 6 3 ty_I],A:=fun ((all,a,f,l0):List Int×List Int×List Int×List Int)=>{ cs:=[.own 6 3 ty_I,.dat 7 .bool,.dat 19 ty_I],inv:=fun ((l,ag,i):List Int×Bool×Int)=>0≤i∧i≤all.length∧InReach a f l∧(ag=false→l=l0∧∀ x∈all.take i.toNat,x∈l0→∀ y∈dI a x,y∈l0)∧(ag=true→ei l0<ei l),mu:=fun ((_,_,i):List Int×Bool×Int)=>(all.length - i).toNat } }
 | 11=>some { rd:=[.own 29 3 ty_I,.own 6 3 ty_I,.dat 7 .bool],A:=fun ((ns,l1,ag1):List Int×List Int×Bool)=>{ cs:=[.own 6 3 ty_I,.dat 7 .bool,.dat 31 ty_I],inv:=fun ((l,ag,j):List Int×Bool×Int)=>0≤j∧j≤ns.length∧(∀ x∈l1,x∈l)∧(∀ x∈l,x∈l1∨(x∈ns∧0≤x))∧l.length+ei l1≤l1.length+ei l∧(ag=false→ag1=false∧l=l1∧∀ y∈ns.take j.toNat,0≤y→y∈l1)∧(ag=true→ag1=true∨ei l1<ei l)∧(ag1=true→ag=true),mu:=fun ((_,_,j):List Int×Bool×Int)=>(ns.length - j).toNat } }
 | _=>none
def AZ:Spec:={ Ts:=[.arr bb,.arr ty_I],Rs:=[.own 3 ty_I],pre:=fun ((a,f):List Int×List Int)=>ba a f=0∧(f.length+256) * 8≤140737488355328,F:=fun ((a,f):List Int×List Int)=>be a f }
def qV:Prop :=
  ∀ (x:List Int×List Int),((x.1.length * 8≤aA∧∀ (x_1:Int),x_1∈x.1→ak .u64 x_1)∧x.2.length * 8≤aA∧∀ (x_1:Int),x_1∈x.2→ak .i64 x_1)→ba x.1 x.2=0∧(x.2.length+256) * 8≤140737488355328→True∧x.2.length * 8≤aA∧(InReach x.1 x.2 x.2∧(true=false→iY x.1 x.2=true))∧∀ (x_1:List Int×Bool),InReach x.1 x.2 x_1.1∧(x_1.2=false→iY x.1 x_1.1=true)→(x_1.2=true→((0:Int)≤0∧0≤(↑(ah (aa x.1).1).length:Int)∧InReach x.1 x.2 x_1.1∧(false=false→x_1.1=x_1.1∧∀ (x_2:Int),x_2∈List.take (Int.toNat 0) (ah (aa x.1).1)→x_2∈x_1.1→∀ (y:Int),y∈dI x.1 x_2→y∈x_1.1)∧(false=true→ei x_1.1<ei x_1.1))∧∀ (x_2:List Int×Bool×Int),0≤x_2.2.2∧x_2.2.2≤(↑(ah (aa x.1).1).length:Int)∧InReach x.1 x.2 x_2.1∧(x_2.2.1=false→x_2.1=x_1.1∧∀ (x_3:Int),x_3∈List.take x_2.2.2.toNat (ah (aa x.1).1)→x_3∈x_1.1→∀ (y:Int),y∈dI x.1 x_3→y∈x_1.1)∧(x_2.2.1=true→ei x_1.1<ei x_2.1)→(decide (x_2.2.2<(↑(ah (aa x.1).1).length:Int))=true→0≤x_2.2.2∧x_2.2.2<(↑(ah (aa x.1).1).length:Int)∧x_2.2.2.toNat<(ah (aa x.1).1).length∧True∧((!cP x_2.1 ((ah (aa x.1).1).getD x_2.2.2.toNat 0))=true→ak .i64 (x_2.2.2+1)∧(0≤x_2.2.2+1∧x_2.2.2+1≤(↑(ah (aa x.1).1).length:Int)∧InReach x.1 x.2 x_2.1∧(x_2.2.1=false→x_2.1=x_1.1∧∀ (x_3:Int),x_3∈List.take (x_2.2.2+1).toNat (ah (aa x.1).1)→x_3∈x_1.1→∀ (y:Int),y∈dI x.1 x_3→y∈x_1.1)∧(x_2.2.1=true→ei x_1.1<ei x_2.1))∧((↑(ah (aa x.1).1).length:Int) - (x_2.2.2+1)).toNat<((↑(ah (aa x.1).1).length:Int) - x_2.2.2).toNat)∧((!cP x_2.1 ((ah (aa x.1).1).getD x_2.2.2.toNat 0))=false→True∧((0:Int)≤0∧0≤(↑(aL x.1 ((ah (aa x.1).1).getD x_2.2.2.toNat 0) (aj ((ah (aa x.1).1).getD x_2.2.2.toNat 0) (aa x.1).1).1).length:Int)∧(∀ (x:Int),x∈x_2.1→x∈x_2.1)∧(∀ (x_3:Int),x_3∈x_2.1→x_3∈x_2.1∨x_3∈aL x.1 ((ah (aa x.1).1).getD x_2.2.2.toNat 0) (aj ((ah (aa x.1).1).getD x_2.2.2.toNat 0) (aa x.1).1).1∧0≤x_3)∧x_2.1.length+ei x_2.1≤x_2.1.length+ei x_2.1∧(x_2.2.1=false→x_2.2.1=false∧x_2.1=x_2.1∧∀ (y:Int),y∈List.take (Int.toNat 0) (aL x.1 ((ah (aa x.1).1).getD x_2.2.2.toNat 0) (aj ((ah (aa x.1).1).getD x_2.2.2.toNat 0) (aa x.1).1).1)→0≤y→y∈x_2.1)∧(x_2.2.1=true→x_2.2.1=true∨ei x_2.1<ei x_2.1)∧(x_2.2.1=true→x_2.2.1=true))∧∀ (x_3:List Int×Bool×Int),0≤x_3.2.2∧x_3.2.2≤(↑(aL x.1 ((ah (aa x.1).1).getD x_2.2.2.toNat 0) (aj ((ah (aa x.1).1).getD x_2.2.2.toNat 0) (aa x.1).1).1).length:Int)∧(∀ (x:Int),x∈x_2.1→x∈x_3.1)∧(∀ (x_4:Int),x_4∈x_3.1→x_4∈x_2.1∨x_4∈aL x.1 ((ah (aa x.1).1).getD x_2.2.2.toNat 0) (aj ((ah (aa x.1).1).getD x_2.2.2.toNat 0) (aa x.1).1).1∧0≤x_4)∧x_3.1.length+ei x_2.1≤x_2.1.length+ei x_3.1∧(x_3.2.1=false→x_2.2.1=false∧x_3.1=x_2.1∧∀ (y:Int),y∈List.take x_3.2.2.toNat (aL x.1 ((ah (aa x.1).1).getD x_2.2.2.toNat 0) (aj ((ah (aa x.1).1).getD x_2.2.2.toNat 0) (aa x.1).1).1)→0≤y→y∈x_2.1)∧(x_3.2.1=true→x_2.2.1=true∨ei x_2.1<ei x_3.1)∧(x_2.2.1=true→x_3.2.1=true)→(decide (x_3.2.2<(↑(aL x.1 ((ah (aa x.1).1).getD x_2.2.2.toNat 0) (aj ((ah (aa x.1).1).getD x_2.2.2.toNat 0) (aa x.1).1).1).length:Int))=true→0≤x_3.2.2∧x_3.2.2<(↑(aL x.1 ((ah (aa x.1).1).getD x_2.2.2.toNat 0) (aj ((ah (aa x.1).1).getD x_2.2.2.toNat 0) (aa x.1).1).1).length:Int)∧x_3.2.2.toNat<(aL x.1 ((ah (aa x.1).1).getD x_2.2.2.toNat 0) (aj ((ah (aa x.1).1).getD x_2.2.2.toNat 0) (aa x.1).1).1).length∧(decide (0≤(aL x.1 ((ah (aa x.1).1).getD x_2.2.2.toNat 0) (aj ((ah (aa x.1).1).getD x_2.2.2.toNat 0) (aa x.1).1).1).getD x_3.2.2.toNat 0)=true→True)∧((decide (0≤(aL x.1 ((ah (aa x.1).1).getD x_2.2.2.toNat 0) (aj ((ah (aa x.1).1).getD x_2.2.2.toNat 0) (aa x.1).1).1).getD x_3.2.2.toNat 0)&&!cP x_3.1 ((aL x.1 ((ah (aa x.1).1).getD x_2.2.2.toNat 0) (aj ((ah (aa x.1).1).getD x_2.2.2.toNat 0) (aa x.1).1).1).getD x_3.2.2.toNat 0))=true→(x_3.1.length+[(aL x.1 ((ah (aa x.1).1).getD x_2.2.2.toNat 0) (aj ((ah (aa x.1).1).getD x_2.2.2.toNat 0) (aa x.1).1).1).getD x_3.2.2.toNat 0].length) * 8≤aA∧ak .i64 (x_3.2.2+1)∧(0≤x_3.2.2+1∧x_3.2.2+1≤(↑(aL x.1 ((ah (aa x.1).1).getD x_2.2.2.toNat 0) (aj ((ah (aa x.1).1).getD x_2.2.2.toNat 0) (aa x.1).1).1).length:Int)∧(∀ (x_4:Int),x_4∈x_2.1→x_4∈x_3.1++[(aL x.1 ((ah (aa x.1).1).getD x_2.2.2.toNat 0) (aj ((ah (aa x.1).1).getD x_2.2.2.toNat 0) (aa x.1).1).1).getD x_3.2.2.toNat 0])∧(∀ (x_4:Int),x_4∈x_3.1++[(aL x.1 ((ah (aa x.1).1).getD x_2.2.2.toNat 0) (aj ((ah (aa x.1).1).getD x_2.2.2.toNat 0) (aa x.1).1).1).getD x_3.2.2.toNat 0]→x_4∈x_2.1∨x_4∈aL x.1 ((ah (aa x.1).1).getD x_2.2.2.toNat 0) (aj ((ah (aa x.1).1).getD x_2.2.2.toNat 0) (aa x.1).1).1∧0≤x_4)∧(x_3.1++[(aL x.1 ((ah (aa x.1).1).getD x_2.2.2.toNat 0) (aj ((ah (aa x.1).1).getD x_2.2.2.toNat 0) (aa x.1).1).1).getD x_3.2.2.toNat 0]).length+ei x_2.1≤x_2.1.length+ei (x_3.1++[(aL x.1 ((ah (aa x.1).1).getD x_2.2.2.toNat 0) (aj ((ah (aa x.1).1).getD x_2.2.2.toNat 0) (aa x.1).1).1).getD x_3.2.2.toNat 0])∧(true=false→x_2.2.1=false∧x_3.1++[(aL x.1 ((ah (aa x.1).1).getD x_2.2.2.toNat 0) (aj ((ah (aa x.1).1).getD x_2.2.2.toNat 0) (aa x.1).1).1).getD x_3.2.2.toNat 0]=x_2.1∧∀ (y:Int),y∈List.take (x_3.2.2+1).toNat (aL x.1 ((ah (aa x.1).1).getD x_2.2.2.toNat 0) (aj ((ah (aa x.1).1).getD x_2.2.2.toNat 0) (aa x.1).1).1)→0≤y→y∈x_2.1)∧(true=true→x_2.2.1=true∨ei x_2.1<ei (x_3.1++[(aL x.1 ((ah (aa x.1).1).getD x_2.2.2.toNat 0) (aj ((ah (aa x.1).1).getD x_2.2.2.toNat 0) (aa x.1).1).1).getD x_3.2.2.toNat 0]))∧(x_2.2.1=true→true=true))∧((↑(aL x.1 ((ah (aa x.1).1).getD x_2.2.2.toNat 0) (aj ((ah (aa x.1).1).getD x_2.2.2.toNat 0) (aa x.1).1).1).length:Int) - (x_3.2.2+1)).toNat<((↑(aL x.1 ((ah (aa x.1).1).getD x_2.2.2.toNat 0) (aj ((ah (aa x.1).1).getD x_2.2.2.toNat 0) (aa x.1).1).1).length:Int) - x_3.2.2).toNat)∧((decide (0≤(aL x.1 ((ah (aa x.1).1).getD x_2.2.2.toNat 0) (aj ((ah (aa x.1).1).getD x_2.2.2.toNat 0) (aa x.1).1).1).getD x_3.2.2.toNat 0)&&!cP x_3.1 ((aL x.1 ((ah (aa x.1).1).getD x_2.2.2.toNat 0) (aj ((ah (aa x.1).1).getD x_2.2.2.toNat 0) (aa x.1).1).1).getD x_3.2.2.toNat 0))=false→ak .i64 (x_3.2.2+1)∧(0≤x_3.2.2+1∧x_3.2.2+1≤(↑(aL x.1 ((ah (aa x.1).1).getD x_2.2.2.toNat 0) (aj ((ah (aa x.1).1).getD x_2.2.2.toNat 0) (aa x.1).1).1).length:Int)∧(∀ (x:Int),x∈x_2.1→x∈x_3.1)∧(∀ (x_4:Int),x_4∈x_3.1→x_4∈x_2.1∨x_4∈aL x.1 ((ah (aa x.1).1).getD x_2.2.2.toNat 0) (aj ((ah (aa x.1).1).getD x_2.2.2.toNat 0) (aa x.1).1).1∧0≤x_4)∧x_3.1.length+ei x_2.1≤x_2.1.length+ei x_3.1∧(x_3.2.1=false→x_2.2.1=false∧x_3.1=x_2.1∧∀ (y:Int),y∈List.take (x_3.2.2+1).toNat (aL x.1 ((ah (aa x.1).1).getD x_2.2.2.toNat 0) (aj ((ah (aa x.1).1).getD x_2.2.2.toNat 0) (aa x.1).1).1)→0≤y→y∈x_2.1)∧(x_3.2.1=true→x_2.2.1=true∨ei x_2.1<ei x_3.1)∧(x_2.2.1=true→x_3.2.1=true))∧((↑(aL x.1 ((ah (aa x.1).1).getD x_2.2.2.toNat 0) (aj ((ah (aa x.1).1).getD x_2.2.2.toNat 0) (aa x.1).1).1).length:Int) - (x_3.2.2+1)).toNat<((↑(aL x.1 ((ah (aa x.1).1).getD x_2.2.2.toNat 0) (aj ((ah (aa x.1).1).getD x_2.2.2.toNat 0) (aa x.1).1).1).length:Int) - x_3.2.2).toNat))∧(decide (x_3.2.2<(↑(aL x.1 ((ah (aa x.1).1).getD x_2.2.2.toNat 0) (aj ((ah (aa x.1).1).getD x_2.2.2.toNat 0) (aa x.1).1).1).length:Int))=false→ak .i64 (x_2.2.2+1)∧(0≤x_2.2.2+1∧x_2.2.2+1≤(↑(ah (aa x.1).1).length:Int)∧InReach x.1 x.2 x_3.1∧(x_3.2.1=false→x_3.1=x_1.1∧∀ (x_4:Int),x_4∈List.take (x_2.2.2+1).toNat (ah (aa x.1).1)→x_4∈x_1.1→∀ (y:Int),y∈dI x.1 x_4→y∈x_1.1)∧(x_3.2.1=true→ei x_1.1<ei x_3.1))∧((↑(ah (aa x.1).1).length:Int) - (x_2.2.2+1)).toNat<((↑(ah (aa x.1).1).length:Int) - x_2.2.2).toNat)))∧(decide (x_2.2.2<(↑(ah (aa x.1).1).length:Int))=false→(InReach x.1 x.2 x_2.1∧(x_2.2.1=false→iY x.1 x_2.1=true))∧(2 * (256 - ei x_2.1)+if x_2.2.1=true then (1:Nat) else (0:Nat))<2 * (256 - ei x_1.1)+if x_1.2=true then (1:Nat) else (0:Nat)))∧(x_1.2=false→True∧bf x_1.1 256=be x.1 x.2∧True)
theorem ya:qV:=by
 unfold qV;intro ⟨a,f⟩ ⟨⟨hb,hw⟩,hbf,hf⟩ ⟨hff,hlen⟩;simp only at hb hw hbf hf hff hlen ⊢;obtain ⟨hc,hfb⟩:=dV hff;have hall:∀ x,Rch a f x→x∈ah (aa a).1:=fun x hx=>cG.1 ((hZ x _).trans (hx.isB hw hc hfb))
 have hbl:=fJ (aa a).1;have hsl:=cD a;have hbeg:∀ x∈ah (aa a).1,isB (aa a).1 x=true:=fun x hx=>by rw [← hZ]; exact cG.2 hx
 generalize hall0:ah (aa a).1=all at *;refine ⟨trivial,hbf,⟨⟨fun x hx=>hx,fun x hx=>.base hx,Nat.le_refl _⟩,fun h=>by cases h⟩,fun ⟨l0,ag0⟩ ⟨q1,q2⟩=>⟨fun hag=>?_,fun hag=>?_⟩⟩
 ·simp only at q1 q2 hag ⊢;subst hag;refine ⟨⟨by omega,by omega,q1,fun _=>⟨trivial,fun x hx=>by simp at hx⟩,fun h=>by cases h⟩,fun ⟨l,ag,i⟩ ⟨i0,i1,r1,r2,r3⟩=>⟨fun hlt=>?_,fun hge=>?_⟩⟩
  ·simp only at i0 i1 r1 r2 r3 hlt ⊢;have hlt:=of_decide_eq_true hlt;have ht:=bo (0:Int) i0 hlt;have hat:=aI (0:Int) i0 hlt;generalize all.getD i.toNat 0=at_ at *;have hib:=hbeg _ hat;refine ⟨i0,hlt,by omega,trivial,fun hin=>?_,fun hin=>?_⟩
   ·have hin:=Mp hin;simp only [ak];refine ⟨by omega,⟨by omega,by omega,r1,fun hf0=>⟨(r2 hf0).1,fun x hx hx0=>?_⟩,r3⟩,by omega⟩;rw [ht] at hx;rcases List.mem_append.1 hx with hx | hx
    ·exact (r2 hf0).2 x hx hx0
    ·rw [List.mem_singleton.1 hx] at hx0;rw [(r2 hf0).1] at hin;exact absurd hx0 hin
   ·have hin:=Mo hin;have hno:=fun y=>Es hw hc hib (y:=y)
    have hnl:(aL a at_ (aj at_ (aa a).1).1).length≤256:=by
     have:=(uk hib).2.2.2.2;simp only [aL,List.length_map,List.length_drop,List.length_take]; omega
    generalize aL a at_ (aj at_ (aa a).1).1=ns at *;refine ⟨trivial,⟨by omega,by omega,fun x hx=>hx,fun x hx=>.inl hx,by omega,fun h=>⟨h,trivial,fun y hy=>by simp at hy⟩,fun h=>.inl h,fun h=>h⟩,fun ⟨l2,ag2,j⟩ ⟨j0,j1,s1,s2,s3,s4,s5,s6⟩=>⟨fun hj=>?_,fun hj=>?_⟩⟩
    ·simp only at j0 j1 s1 s2 s3 s4 s5 s6 hj ⊢;have hj:=of_decide_eq_true hj;have ht2:=bo (0:Int) j0 hj;have hv:=aI (0:Int) j0 hj;generalize ns.getD j.toNat 0=v at *;refine ⟨j0,hj,by omega,fun _=>trivial,fun hcd=>?_,fun hcd=>?_⟩
     ·rw [Bool.and_eq_true] at hcd;have h0:=of_decide_eq_true hcd.1;have hn:=Mp hcd.2;have hvr:=gE (mq hw hc hib ((hno v).1 ⟨hv,h0⟩));have hlt2:=JY (l:=l2) (k:=l2++[v]) (fun x hx=>by simp [hx]) (y:=v) (by simp) hn hvr.1 hvr.2;have hle:=CK s1;have hc2:=zZ (l2++[v]);have:=r1.len;unfold aA;simp only [List.length_append,List.length_singleton,ak];refine ⟨by omega,by omega,⟨by omega,by omega,fun x hx=>List.mem_append_left _ (s1 x hx),fun x hx=>?_,by omega,fun h=>(by cases h),fun _=>.inr (by omega),fun _=>trivial⟩,by omega⟩;rcases List.mem_append.1 hx with hx | hx
      ·exact s2 x hx
      ·rw [List.mem_singleton.1 hx];exact .inr ⟨hv,h0⟩
     ·simp only [ak];refine ⟨by omega,⟨by omega,by omega,s1,s2,s3,fun h=>⟨(s4 h).1,(s4 h).2.1,fun y hy hy0=>?_⟩,s5,s6⟩,by omega⟩;rw [ht2] at hy;rcases List.mem_append.1 hy with hy | hy
      ·exact (s4 h).2.2 y hy hy0
      ·have hyv:=List.mem_singleton.1 hy;rw [hyv] at hy0 ⊢;rw [decide_eq_true hy0,Bool.true_and] at hcd;rw [← (s4 h).2.1];exact Mo hcd
    ·simp only at j0 j1 s1 s2 s3 s4 s5 s6 hj ⊢;have hj:=of_decide_eq_false hj;rw [bF hj] at s4;have hmo:=CK s1;have:=r1.len;simp only [ak];refine ⟨by omega,⟨by omega,by omega,⟨fun x hx=>s1 x (r1.has x hx),fun x hx=>?_,by omega⟩,fun h=>?_,fun h=>?_⟩,by omega⟩
     ·rcases s2 x hx with hx | hx
      ·exact r1.only x hx
      ·exact .step (r1.only _ hin) ((hno x).1 hx)
     ·obtain ⟨g1,g2,g3⟩:=s4 h;refine ⟨g2.trans (r2 g1).1,fun x hx hx0 y hy=>?_⟩;rw [ht] at hx;rcases List.mem_append.1 hx with hx | hx
      ·exact (r2 g1).2 x hx hx0 y hy
      ·rw [List.mem_singleton.1 hx] at hy;obtain ⟨k1,k2⟩:=(hno y).2 hy;rw [← (r2 g1).1];exact g3 y k1 k2
     ·rcases s5 h with h | h
      ·have:=r3 h; omega
      ·cases ag with
       | true=>have:=r3 rfl; omega
       | false=>have:=(r2 rfl).1; subst this; omega
  ·simp only at i0 i1 r1 r2 r3 hge ⊢;have hge:=of_decide_eq_false hge;rw [bF hge] at r2;have hc2:=zZ l;refine ⟨⟨r1,fun h=>jT.2 (fun x hx=>?_)⟩,?_⟩
   ·obtain ⟨e,h2⟩:=r2 h;subst e;exact h2 x (hall x (r1.only x hx)) hx
   ·cases ag with
    | true=>have:=r3 rfl; simp only [if_true]; omega
    | false=>have:=(r2 rfl).1; subst this; simp only [if_true,Bool.false_eq_true,if_false]; omega
 ·simp only at q1 q2 hag ⊢;have hcl:=jT.1 (q2 hag);exact ⟨trivial,(Full.mk q1.has q1.only hcl).rising hw hc hfb,trivial⟩
theorem BY:AZ.ok Tryz.prog 76:=aF (ann:=CU) (ae nz (ae tW (ae my (ae tV aq)))) Tryz.func76 (by kernel_rfl) ya
def eA (m:List (Int×du)):List aD→List (Int×du)
 | []=>m
 | s::l=>eA (if s.2.2.2.2=true then m else eg m s.1 s.2) l
def kQ (l:List aD):List (Int×du):=eA [] l
theorem m7 (x:Int):∀ (l:List aD) (m:List (Int×du)),l.Pairwise (fun s t=>s.1<t.1)→aT (eA m l) x=if isB l x=true then some (aj x l).1 else aT m x
 | [],m,_=>rfl
 | s::l,m,h=>by
  obtain ⟨h1,h2⟩:=List.pairwise_cons.1 h;have e0:eA m (s::l)=eA (if s.2.2.2.2=true then m else eg m s.1 s.2) l:=rfl;rw [e0,m7 x l _ h2];by_cases hx:s.1=x∧s.2.2.2.2=false
  ·have e1:aj x (s::l)=(s.2,true):=if_pos hx;have e2:isB (s::l) x=true:=by unfold isB; rw [e1]
   have hn:¬ isB l x=true:=by
    rw [← hZ,cG];intro hm
    have:∃ t∈l,t.1=x:=by
     clear h h2 hx e0 e1 e2
     induction l with
     | nil=>cases hm
     | cons t l ih =>
      simp only [ah] at hm;split at hm
      ·obtain ⟨u,hu,e⟩:=ih (fun y hy=>h1 y (by simp [hy])) hm;exact ⟨u,by simp [hu],e⟩
      ·rcases List.mem_cons.1 hm with hm | hm
       ·exact ⟨t,by simp,hm.symm⟩
       ·obtain ⟨u,hu,e⟩:=ih (fun y hy=>h1 y (by simp [hy])) hm;exact ⟨u,by simp [hu],e⟩
    obtain ⟨t,ht,e⟩:=this;have:=h1 t ht;omega
   rw [if_neg hn,if_pos e2,e1,if_neg (by rw [hx.2]; simp),ja,if_pos hx.1.symm]
  ·have e1:aj x (s::l)=aj x l:=if_neg hx;have e2:isB (s::l) x=isB l x:=by unfold isB; rw [e1]
   rw [e2,e1];by_cases hb:isB l x=true
   ·rw [if_pos hb,if_pos hb]
   ·rw [if_neg hb,if_neg hb];by_cases hf:s.2.2.2.2=true
    ·rw [if_pos hf]
    ·rw [if_neg hf,ja,if_neg (fun e=>hx ⟨e.symm,by simpa using hf⟩)]
theorem HB {l:List aD} (h:l.Pairwise (fun s t=>s.1<t.1)) (x:Int):aT (kQ l) x=if isB l x=true then some (aj x l).1 else none:=m7 x l [] h
theorem ne:∀ (l k:List aD),ah (l++k)=ah l++ah k
 | [],_=>rfl
 | s::l,k=>by
  have:=ne l k;simp only [List.cons_append,ah,this];split <;> simp
structure Seen (m:List (Int×Bool)) (o:List Int):Prop where
 nodup:o.Nodup
 is:∀ x,(aT m x).getD false=cP o x
theorem Seen.new:Seen [] []:=⟨List.nodup_nil,fun _=>rfl⟩
theorem Seen.add {m:List (Int×Bool)} {o:List Int} {x:Int} (h:Seen m o) (hn:(!(aT m x).getD false)=true):Seen (eg m x true) (o++[x]):=by
 rw [h.is] at hn;refine ⟨?_,fun y=>?_⟩
 ·rw [List.nodup_append];exact ⟨h.nodup,by simp,fun y hy z hz=>by rw [List.mem_singleton.1 hz]; rintro rfl; exact Mp hn hy⟩
 ·rw [ja];by_cases hy:y=x
  ·subst hy;rw [if_pos rfl];exact (cG.2 (by simp)).symm
  ·rw [if_neg hy,h.is];unfold cP;rw [List.any_append];simp [Ne.symm hy]
theorem Seen.mem {m:List (Int×Bool)} {o:List Int} {x:Int} (h:Seen m o) (hn:(!(aT m x).getD false)=false):x∈o:=by
 rw [h.is] at hn;exact Mo hn
theorem mz {o:List Int} (hd:o.Nodup) (hr:∀ x∈o,0≤x∧x≤255):o.length≤256:=by
 have h1:=kG o;have h2:(eb o).Nodup:=(List.mergeSort_perm o _).nodup_iff.2 hd;have h3:(eb o).Pairwise (·<·):=(h1.and h2).imp (fun ⟨x,y⟩=>by omega);have h4:=iB (s:=0) h3 (fun x hx=>hr x (pM.1 hx)) (by omega);rw [iL] at h4;omega
def Kg:LoopGen:={ rd:=[.own 30 124 ch,.dat 0 (.arr bb)],A:=fun ((l,a):List aD×List Int)=>{ cs:=[.boxS 24 [.dat (.arr bb),.mpc 22,.own 3 ty_I],.map 22 .i64 de,.dat 32 ty_I],inv:=fun ((b,m,i):(List Int×Unit×List Int)×List (Int×du)×Int)=>0≤i∧i≤l.length∧b.1=a∧b.2.2=ah (l.take i.toNat)∧eA m (l.drop i.toNat)=kQ l,mu:=fun ((_,_,i):(List Int×Unit×List Int)×List (Int×du)×Int)=>(l.length - i).toNat } }
def Kf:LoopGen:={ rd:=[.dat 60 (.arr ty_I),.map 22 .i64 de],A:=fun ((f,m):List Int×List (Int×du))=>{ cs:=[.dat 62 ty_I],inv:=fun (i:Int)=>0≤i∧i≤f.length∧((f.drop i.toNat).all fun x=>(aT m x).isSome)=(f.all fun x=>(aT m x).isSome),mu:=fun (i:Int)=>(f.length - i).toNat } }
def J7:Nat→Option LoopGen
 | 3000156=>some eM
 | 3000158=>some eM
 | 3000157=>some eM
 | 15700000007=>some Kg
 | 15700000014=>some Kf
 | 8=>some { rd:=[.dat 25 (.arr ty_I)],A:=fun (f:List Int)=>{ cs:=[.map 23 .i64 .bool,.boxS 9 [.own 3 ty_I],.dat 27 ty_I],inv:=fun ((m,o,i):List (Int×Bool)×List Int×Int)=>0≤i∧i≤f.length∧Seen m o∧(∀ x∈f.take i.toNat,x∈o)∧(∀ x∈o,x∈f),mu:=fun ((_,_,i):List (Int×Bool)×List Int×Int)=>(f.length - i).toNat } }
 | 13=>some { rd:=[.dat 0 (.arr bb),.dat 1 (.arr ty_I)],A:=fun ((a,f):List Int×List Int)=>{ cs:=[.map 23 .i64 .bool,.boxS 9 [.own 3 ty_I],.dat 13 ty_I],inv:=fun ((m,o,i):List (Int×Bool)×List Int×Int)=>0≤i∧i≤o.length∧Seen m o∧(∀ x∈f,x∈o)∧(∀ x∈o,Rch a f x)∧(∀ x∈o.take i.toNat,∀ y∈dI a x,y∈o),mu:=fun ((_,_,i):List (Int×Bool)×List Int×Int)=>(256 - i).toNat } }
 | 15900000001=>some { rd:=[.dat 24 (.arr bb),.boxS 9900000 [.own 3 ty_I]],A:=fun ((rs,o0):List Int×List Int)=>{ cs:=[.map 23900000 .i64 .bool,.boxS 9900000 [.own 3 ty_I],.dat 26 ty_I],inv:=fun ((m,o,j):List (Int×Bool)×List Int×Int)=>0≤j∧j≤rs.length∧Seen m o∧(∃ k,o=o0++k∧∀ x∈k,x+1∈rs∧x+1≠0)∧(∀ v∈rs.take j.toNat,v≠0→v - 1∈o),mu:=fun ((_,_,j):List (Int×Bool)×List Int×Int)=>(rs.length - j).toNat } }
 | _=>none
def Iq:Spec:={ Ts:=[.arr bb,.arr ty_I],Rs:=[.own 3 ty_I,.dat ty_I],pre:=fun _=>True,F:=fun ((a,f):List Int×List Int)=>bX a f }
def Bz:Prop :=
  ∀ (x:List Int×List Int),((x.1.length * 8≤aA∧∀ (x_1:Int),x_1∈x.1→ak .u64 x_1)∧x.2.length * 8≤aA∧∀ (x_1:Int),x_1∈x.2→ak .i64 x_1)→True→∀ (_:Array Value),True∧(decide ((au x.1).2.2≠0)=true→(decide ((au x.1).2.2≠0)=true→([]:List Int)=(bX x.1 x.2).1∧(au x.1).2.2=(bX x.1 x.2).2∧True)∧(decide ((au x.1).2.2≠0)=false→((0:Int)≤0∧0≤(↑x.2.length:Int)∧Seen ([]:List (Int×Bool)) ([]:List Int)∧(∀ (x_1:Int),x_1∈List.take (Int.toNat 0) x.2→x_1∈([]:List Int))∧∀ (x_1:Int),x_1∈([]:List Int)→x_1∈x.2)∧∀ (x_1:List (Int×Bool)×List Int×Int),(0≤x_1.2.2∧x_1.2.2≤(↑x.2.length:Int)∧Seen x_1.1 x_1.2.1∧(∀ (x_2:Int),x_2∈List.take x_1.2.2.toNat x.2→x_2∈x_1.2.1)∧∀ (x_2:Int),x_2∈x_1.2.1→x_2∈x.2)→(decide (x_1.2.2<(↑x.2.length:Int))=true→0≤x_1.2.2∧x_1.2.2<(↑x.2.length:Int)∧∀ (_:Array Value),((!(aT x_1.1 (x.2.getD x_1.2.2.toNat 0)).getD false)=true→(x_1.2.1.length+[x.2.getD x_1.2.2.toNat 0].length) * 8≤aA∧ak .i64 (x_1.2.2+1)∧(0≤x_1.2.2+1∧x_1.2.2+1≤(↑x.2.length:Int)∧Seen (eg x_1.1 (x.2.getD x_1.2.2.toNat 0) true) (x_1.2.1++[x.2.getD x_1.2.2.toNat 0])∧(∀ (x_2:Int),x_2∈List.take (x_1.2.2+1).toNat x.2→x_2∈x_1.2.1++[x.2.getD x_1.2.2.toNat 0])∧∀ (x_2:Int),x_2∈x_1.2.1++[x.2.getD x_1.2.2.toNat 0]→x_2∈x.2)∧((↑x.2.length:Int) - (x_1.2.2+1)).toNat<((↑x.2.length:Int) - x_1.2.2).toNat)∧((!(aT x_1.1 (x.2.getD x_1.2.2.toNat 0)).getD false)=false→ak .i64 (x_1.2.2+1)∧(0≤x_1.2.2+1∧x_1.2.2+1≤(↑x.2.length:Int)∧Seen x_1.1 x_1.2.1∧(∀ (x_2:Int),x_2∈List.take (x_1.2.2+1).toNat x.2→x_2∈x_1.2.1)∧∀ (x_2:Int),x_2∈x_1.2.1→x_2∈x.2)∧((↑x.2.length:Int) - (x_1.2.2+1)).toNat<((↑x.2.length:Int) - x_1.2.2).toNat))∧(decide (x_1.2.2<(↑x.2.length:Int))=false→((0:Int)≤0∧0≤(↑x_1.2.1.length:Int)∧Seen x_1.1 x_1.2.1∧(∀ (x_2:Int),x_2∈x.2→x_2∈x_1.2.1)∧(∀ (x_2:Int),x_2∈x_1.2.1→Rch x.1 x.2 x_2)∧∀ (x_2:Int),x_2∈List.take (Int.toNat 0) x_1.2.1→∀ (y:Int),y∈dI x.1 x_2→y∈x_1.2.1)∧∀ (x_2:List (Int×Bool)×List Int×Int),(0≤x_2.2.2∧x_2.2.2≤(↑x_2.2.1.length:Int)∧Seen x_2.1 x_2.2.1∧(∀ (x_3:Int),x_3∈x.2→x_3∈x_2.2.1)∧(∀ (x_3:Int),x_3∈x_2.2.1→Rch x.1 x.2 x_3)∧∀ (x_3:Int),x_3∈List.take x_2.2.2.toNat x_2.2.1→∀ (y:Int),y∈dI x.1 x_3→y∈x_2.2.1)→(decide (x_2.2.2<(↑x_2.2.1.length:Int))=true→0≤x_2.2.2∧x_2.2.2<(↑x_2.2.1.length:Int)∧x_2.2.2.toNat<x_2.2.1.length∧∀ (_:Array Value),False)∧(decide (x_2.2.2<(↑x_2.2.1.length:Int))=false→True∧eb x_2.2.1=(bX x.1 x.2).1∧0=(bX x.1 x.2).2∧True))))∧(decide ((au x.1).2.2≠0)=false→True∧((0:Int)≤0∧0≤(↑(aa x.1).1.length:Int)∧x.1=x.1∧((),([]:List Int)).2=ah (List.take (Int.toNat 0) (aa x.1).1)∧eA ([]:List (Int×Int×Int×Int×Bool)) (List.drop (Int.toNat 0) (aa x.1).1)=kQ (aa x.1).1)∧∀ (x_1:(List Int×Unit×List Int)×List (Int×Int×Int×Int×Bool)×Int),0≤x_1.2.2∧x_1.2.2≤(↑(aa x.1).1.length:Int)∧x_1.1.1=x.1∧x_1.1.2.2=ah (List.take x_1.2.2.toNat (aa x.1).1)∧eA x_1.2.1 (List.drop x_1.2.2.toNat (aa x.1).1)=kQ (aa x.1).1→(decide (x_1.2.2<(↑(aa x.1).1.length:Int))=true→0≤x_1.2.2∧x_1.2.2<(↑(aa x.1).1.length:Int)∧x_1.2.2.toNat<(aa x.1).1.length∧((!((aa x.1).1.getD x_1.2.2.toNat (0,0,0,0,false)).2.2.2.2)=true→(x_1.1.2.2.length+[((aa x.1).1.getD x_1.2.2.toNat (0,0,0,0,false)).1].length) * 8≤aA∧ak .i64 (x_1.2.2+1)∧(0≤x_1.2.2+1∧x_1.2.2+1≤(↑(aa x.1).1.length:Int)∧x_1.1.1=x.1∧((),x_1.1.2.2++[((aa x.1).1.getD x_1.2.2.toNat (0,0,0,0,false)).1]).2=ah (List.take (x_1.2.2+1).toNat (aa x.1).1)∧eA (eg x_1.2.1 ((aa x.1).1.getD x_1.2.2.toNat (0,0,0,0,false)).1 ((aa x.1).1.getD x_1.2.2.toNat (0,0,0,0,false)).2) (List.drop (x_1.2.2+1).toNat (aa x.1).1)=kQ (aa x.1).1)∧((↑(aa x.1).1.length:Int) - (x_1.2.2+1)).toNat<((↑(aa x.1).1.length:Int) - x_1.2.2).toNat)∧((!((aa x.1).1.getD x_1.2.2.toNat (0,0,0,0,false)).2.2.2.2)=false→ak .i64 (x_1.2.2+1)∧(0≤x_1.2.2+1∧x_1.2.2+1≤(↑(aa x.1).1.length:Int)∧x_1.1.1=x.1∧((),x_1.1.2.2).2=ah (List.take (x_1.2.2+1).toNat (aa x.1).1)∧eA x_1.2.1 (List.drop (x_1.2.2+1).toNat (aa x.1).1)=kQ (aa x.1).1)∧((↑(aa x.1).1.length:Int) - (x_1.2.2+1)).toNat<((↑(aa x.1).1.length:Int) - x_1.2.2).toNat))∧(decide (x_1.2.2<(↑(aa x.1).1.length:Int))=false→((0:Int)≤0∧0≤(↑x.2.length:Int)∧((List.drop (Int.toNat 0) x.2).all fun (x:Int)=>(aT x_1.2.1 x).isSome)=x.2.all fun (x:Int)=>(aT x_1.2.1 x).isSome)∧∀ (x_2:Int),(0≤x_2∧x_2≤(↑x.2.length:Int)∧((List.drop x_2.toNat x.2).all fun (x:Int)=>(aT x_1.2.1 x).isSome)=x.2.all fun (x:Int)=>(aT x_1.2.1 x).isSome)→(decide (x_2<(↑x.2.length:Int))=true→0≤x_2∧x_2<(↑x.2.length:Int)∧((!(aT x_1.2.1 (x.2.getD x_2.toNat 0)).isSome)=true→(decide ((5:Int)≠0)=true→([]:List Int)=(bX x.1 x.2).1∧5=(bX x.1 x.2).2∧True)∧(decide ((5:Int)≠0)=false→((0:Int)≤0∧0≤(↑x.2.length:Int)∧Seen ([]:List (Int×Bool)) ([]:List Int)∧(∀ (x_3:Int),x_3∈List.take (Int.toNat 0) x.2→x_3∈([]:List Int))∧∀ (x_3:Int),x_3∈([]:List Int)→x_3∈x.2)∧∀ (x_3:List (Int×Bool)×List Int×Int),(0≤x_3.2.2∧x_3.2.2≤(↑x.2.length:Int)∧Seen x_3.1 x_3.2.1∧(∀ (x_4:Int),x_4∈List.take x_3.2.2.toNat x.2→x_4∈x_3.2.1)∧∀ (x_4:Int),x_4∈x_3.2.1→x_4∈x.2)→(decide (x_3.2.2<(↑x.2.length:Int))=true→0≤x_3.2.2∧x_3.2.2<(↑x.2.length:Int)∧∀ (_:Array Value),((!(aT x_3.1 (x.2.getD x_3.2.2.toNat 0)).getD false)=true→(x_3.2.1.length+[x.2.getD x_3.2.2.toNat 0].length) * 8≤aA∧ak .i64 (x_3.2.2+1)∧(0≤x_3.2.2+1∧x_3.2.2+1≤(↑x.2.length:Int)∧Seen (eg x_3.1 (x.2.getD x_3.2.2.toNat 0) true) (x_3.2.1++[x.2.getD x_3.2.2.toNat 0])∧(∀ (x_4:Int),x_4∈List.take (x_3.2.2+1).toNat x.2→x_4∈x_3.2.1++[x.2.getD x_3.2.2.toNat 0])∧∀ (x_4:Int),x_4∈x_3.2.1++[x.2.getD x_3.2.2.toNat 0]→x_4∈x.2)∧((↑x.2.length:Int) - (x_3.2.2+1)).toNat<((↑x.2.length:Int) - x_3.2.2).toNat)∧((!(aT x_3.1 (x.2.getD x_3.2.2.toNat 0)).getD false)=false→ak .i64 (x_3.2.2+1)∧(0≤x_3.2.2+1∧x_3.2.2+1≤(↑x.2.length:Int)∧Seen x_3.1 x_3.2.1∧(∀ (x_4:Int),x_4∈List.take (x_3.2.2+1).toNat x.2→x_4∈x_3.2.1)∧∀ (x_4:Int),x_4∈x_3.2.1→x_4∈x.2)∧((↑x.2.length:Int) - (x_3.2.2+1)).toNat<((↑x.2.length:Int) - x_3.2.2).toNat))∧(decide (x_3.2.2<(↑x.2.length:Int))=false→((0:Int)≤0∧0≤(↑x_3.2.1.length:Int)∧Seen x_3.1 x_3.2.1∧(∀ (x_4:Int),x_4∈x.2→x_4∈x_3.2.1)∧(∀ (x_4:Int),x_4∈x_3.2.1→Rch x.1 x.2 x_4)∧∀ (x_4:Int),x_4∈List.take (Int.toNat 0) x_3.2.1→∀ (y:Int),y∈dI x.1 x_4→y∈x_3.2.1)∧∀ (x_4:List (Int×Bool)×List Int×Int),(0≤x_4.2.2∧x_4.2.2≤(↑x_4.2.1.length:Int)∧Seen x_4.1 x_4.2.1∧(∀ (x_5:Int),x_5∈x.2→x_5∈x_4.2.1)∧(∀ (x_5:Int),x_5∈x_4.2.1→Rch x.1 x.2 x_5)∧∀ (x_5:Int),x_5∈List.take x_4.2.2.toNat x_4.2.1→∀ (y:Int),y∈dI x.1 x_5→y∈x_4.2.1)→(decide (x_4.2.2<(↑x_4.2.1.length:Int))=true→0≤x_4.2.2∧x_4.2.2<(↑x_4.2.1.length:Int)∧x_4.2.2.toNat<x_4.2.1.length∧∀ (_:Array Value),False)∧(decide (x_4.2.2<(↑x_4.2.1.length:Int))=false→True∧eb x_4.2.1=(bX x.1 x.2).1∧0=(bX x.1 x.2).2∧True))))∧((!(aT x_1.2.1 (x.2.getD x_2.toNat 0)).isSome)=false→ak .i64 (x_2+1)∧(0≤x_2+1∧x_2+1≤(↑x.2.length:Int)∧((List.drop (x_2+1).toNat x.2).all fun (x:Int)=>(aT x_1.2.1 x).isSome)=x.2.all fun (x:Int)=>(aT x_1.2.1 x).isSome)∧((↑x.2.length:Int) - (x_2+1)).toNat<((↑x.2.length:Int) - x_2).toNat))∧(decide (x_2<(↑x.2.length:Int))=false→(decide ((0:Int)≠0)=true→([]:List Int)=(bX x.1 x.2).1∧0=(bX x.1 x.2).2∧True)∧(decide ((0:Int)≠0)=false→((0:Int)≤0∧0≤(↑x.2.length:Int)∧Seen ([]:List (Int×Bool)) ([]:List Int)∧(∀ (x_3:Int),x_3∈List.take (Int.toNat 0) x.2→x_3∈([]:List Int))∧∀ (x_3:Int),x_3∈([]:List Int)→x_3∈x.2)∧∀ (x_3:List (Int×Bool)×List Int×Int),(0≤x_3.2.2∧x_3.2.2≤(↑x.2.length:Int)∧Seen x_3.1 x_3.2.1∧(∀ (x_4:Int),x_4∈List.take x_3.2.2.toNat x.2→x_4∈x_3.2.1)∧∀ (x_4:Int),x_4∈x_3.2.1→x_4∈x.2)→(decide (x_3.2.2<(↑x.2.length:Int))=true→0≤x_3.2.2∧x_3.2.2<(↑x.2.length:Int)∧∀ (_:Array Value),((!(aT x_3.1 (x.2.getD x_3.2.2.toNat 0)).getD false)=true→(x_3.2.1.length+[x.2.getD x_3.2.2.toNat 0].length) * 8≤aA∧ak .i64 (x_3.2.2+1)∧(0≤x_3.2.2+1∧x_3.2.2+1≤(↑x.2.length:Int)∧Seen (eg x_3.1 (x.2.getD x_3.2.2.toNat 0) true) (x_3.2.1++[x.2.getD x_3.2.2.toNat 0])∧(∀ (x_4:Int),x_4∈List.take (x_3.2.2+1).toNat x.2→x_4∈x_3.2.1++[x.2.getD x_3.2.2.toNat 0])∧∀ (x_4:Int),x_4∈x_3.2.1++[x.2.getD x_3.2.2.toNat 0]→x_4∈x.2)∧((↑x.2.length:Int) - (x_3.2.2+1)).toNat<((↑x.2.length:Int) - x_3.2.2).toNat)∧((!(aT x_3.1 (x.2.getD x_3.2.2.toNat 0)).getD false)=false→ak .i64 (x_3.2.2+1)∧(0≤x_3.2.2+1∧x_3.2.2+1≤(↑x.2.length:Int)∧Seen x_3.1 x_3.2.1∧(∀ (x_4:Int),x_4∈List.take (x_3.2.2+1).toNat x.2→x_4∈x_3.2.1)∧∀ (x_4:Int),x_4∈x_3.2.1→x_4∈x.2)∧((↑x.2.length:Int) - (x_3.2.2+1)).toNat<((↑x.2.length:Int) - x_3.2.2).toNat))∧(decide (x_3.2.2<(↑x.2.length:Int))=false→((0:Int)≤0∧0≤(↑x_3.2.1.length:Int)∧Seen x_3.1 x_3.2.1∧(∀ (x_4:Int),x_4∈x.2→x_4∈x_3.2.1)∧(∀ (x_4:Int),x_4∈x_3.2.1→Rch x.1 x.2 x_4)∧∀ (x_4:Int),x_4∈List.take (Int.toNat 0) x_3.2.1→∀ (y:Int),y∈dI x.1 x_4→y∈x_3.2.1)∧∀ (x_4:List (Int×Bool)×List Int×Int),(0≤x_4.2.2∧x_4.2.2≤(↑x_4.2.1.length:Int)∧Seen x_4.1 x_4.2.1∧(∀ (x_5:Int),x_5∈x.2→x_5∈x_4.2.1)∧(∀ (x_5:Int),x_5∈x_4.2.1→Rch x.1 x.2 x_5)∧∀ (x_5:Int),x_5∈List.take x_4.2.2.toNat x_4.2.1→∀ (y:Int),y∈dI x.1 x_5→y∈x_4.2.1)→(decide (x_4.2.2<(↑x_4.2.1.length:Int))=true→0≤x_4.2.2∧x_4.2.2<(↑x_4.2.1.length:Int)∧x_4.2.2.toNat<x_4.2.1.length∧∀ (_:Array Value),ak .i64 (x_4.2.1.getD x_4.2.2.toNat 0+1)∧ak .i64 (x_4.2.1.getD x_4.2.2.toNat 0+1)∧ak .i64 (x_4.2.1.getD x_4.2.2.toNat 0+1+((aT x_1.2.1 (x_4.2.1.getD x_4.2.2.toNat 0)).getD (0,0,0,false)).1)∧0≤x_4.2.1.getD x_4.2.2.toNat 0+1∧x_4.2.1.getD x_4.2.2.toNat 0+1≤x_4.2.1.getD x_4.2.2.toNat 0+1+((aT x_1.2.1 (x_4.2.1.getD x_4.2.2.toNat 0)).getD (0,0,0,false)).1∧x_4.2.1.getD x_4.2.2.toNat 0+1+((aT x_1.2.1 (x_4.2.1.getD x_4.2.2.toNat 0)).getD (0,0,0,false)).1≤(↑x_1.1.1.length:Int)∧((0:Int)≤0∧0≤(↑(List.drop (x_4.2.1.getD x_4.2.2.toNat 0+1).toNat (List.take (x_4.2.1.getD x_4.2.2.toNat 0+1+((aT x_1.2.1 (x_4.2.1.getD x_4.2.2.toNat 0)).getD (0,0,0,false)).1).toNat x_1.1.1)).length:Int)∧Seen x_4.1 x_4.2.1∧(∃ (k:List Int),x_4.2.1=x_4.2.1++k∧∀ (x:Int),x∈k→x+1∈List.drop (x_4.2.1.getD x_4.2.2.toNat 0+1).toNat (List.take (x_4.2.1.getD x_4.2.2.toNat 0+1+((aT x_1.2.1 (x_4.2.1.getD x_4.2.2.toNat 0)).getD (0,0,0,false)).1).toNat x_1.1.1)∧x+1≠0)∧∀ (v:Int),v∈List.take (Int.toNat 0) (List.drop (x_4.2.1.getD x_4.2.2.toNat 0+1).toNat (List.take (x_4.2.1.getD x_4.2.2.toNat 0+1+((aT x_1.2.1 (x_4.2.1.getD x_4.2.2.toNat 0)).getD (0,0,0,false)).1).toNat x_1.1.1))→v≠0→v - 1∈x_4.2.1)∧∀ (x_5:List (Int×Bool)×List Int×Int),(0≤x_5.2.2∧x_5.2.2≤(↑(List.drop (x_4.2.1.getD x_4.2.2.toNat 0+1).toNat (List.take (x_4.2.1.getD x_4.2.2.toNat 0+1+((aT x_1.2.1 (x_4.2.1.getD x_4.2.2.toNat 0)).getD (0,0,0,false)).1).toNat x_1.1.1)).length:Int)∧Seen x_5.1 x_5.2.1∧(∃ (k:List Int),x_5.2.1=x_4.2.1++k∧∀ (x:Int),x∈k→x+1∈List.drop (x_4.2.1.getD x_4.2.2.toNat 0+1).toNat (List.take (x_4.2.1.getD x_4.2.2.toNat 0+1+((aT x_1.2.1 (x_4.2.1.getD x_4.2.2.toNat 0)).getD (0,0,0,false)).1).toNat x_1.1.1)∧x+1≠0)∧∀ (v:Int),v∈List.take x_5.2.2.toNat (List.drop (x_4.2.1.getD x_4.2.2.toNat 0+1).toNat (List.take (x_4.2.1.getD x_4.2.2.toNat 0+1+((aT x_1.2.1 (x_4.2.1.getD x_4.2.2.toNat 0)).getD (0,0,0,false)).1).toNat x_1.1.1))→v≠0→v - 1∈x_5.2.1)→(decide (x_5.2.2<(↑(List.drop (x_4.2.1.getD x_4.2.2.toNat 0+1).toNat (List.take (x_4.2.1.getD x_4.2.2.toNat 0+1+((aT x_1.2.1 (x_4.2.1.getD x_4.2.2.toNat 0)).getD (0,0,0,false)).1).toNat x_1.1.1)).length:Int))=true→0≤x_5.2.2∧x_5.2.2<(↑(List.drop (x_4.2.1.getD x_4.2.2.toNat 0+1).toNat (List.take (x_4.2.1.getD x_4.2.2.toNat 0+1+((aT x_1.2.1 (x_4.2.1.getD x_4.2.2.toNat 0)).getD (0,0,0,false)).1).toNat x_1.1.1)).length:Int)∧(decide ((List.drop (x_4.2.1.getD x_4.2.2.toNat 0+1).toNat (List.take (x_4.2.1.getD x_4.2.2.toNat 0+1+((aT x_1.2.1 (x_4.2.1.getD x_4.2.2.toNat 0)).getD (0,0,0,false)).1).toNat x_1.1.1)).getD x_5.2.2.toNat (0:Int)≠0)=true→ak .i64 (IntKind.i64.wrap ((List.drop (x_4.2.1.getD x_4.2.2.toNat 0+1).toNat (List.take (x_4.2.1.getD x_4.2.2.toNat 0+1+((aT x_1.2.1 (x_4.2.1.getD x_4.2.2.toNat 0)).getD (0,0,0,false)).1).toNat x_1.1.1)).getD x_5.2.2.toNat 0) - 1)∧∀ (_:Array Value),((!(aT x_5.1 (IntKind.i64.wrap ((List.drop (x_4.2.1.getD x_4.2.2.toNat 0+1).toNat (List.take (x_4.2.1.getD x_4.2.2.toNat 0+1+((aT x_1.2.1 (x_4.2.1.getD x_4.2.2.toNat 0)).getD (0,0,0,false)).1).toNat x_1.1.1)).getD x_5.2.2.toNat 0) - 1)).getD false)=true→(x_5.2.1.length+[IntKind.i64.wrap ((List.drop (x_4.2.1.getD x_4.2.2.toNat 0+1).toNat (List.take (x_4.2.1.getD x_4.2.2.toNat 0+1+((aT x_1.2.1 (x_4.2.1.getD x_4.2.2.toNat 0)).getD (0,0,0,false)).1).toNat x_1.1.1)).getD x_5.2.2.toNat 0) - 1].length) * 8≤aA∧ak .i64 (x_5.2.2+1)∧(0≤x_5.2.2+1∧x_5.2.2+1≤(↑(List.drop (x_4.2.1.getD x_4.2.2.toNat 0+1).toNat (List.take (x_4.2.1.getD x_4.2.2.toNat 0+1+((aT x_1.2.1 (x_4.2.1.getD x_4.2.2.toNat 0)).getD (0,0,0,false)).1).toNat x_1.1.1)).length:Int)∧Seen (eg x_5.1 (IntKind.i64.wrap ((List.drop (x_4.2.1.getD x_4.2.2.toNat 0+1).toNat (List.take (x_4.2.1.getD x_4.2.2.toNat 0+1+((aT x_1.2.1 (x_4.2.1.getD x_4.2.2.toNat 0)).getD (0,0,0,false)).1).toNat x_1.1.1)).getD x_5.2.2.toNat 0) - 1) true) (x_5.2.1++[IntKind.i64.wrap ((List.drop (x_4.2.1.getD x_4.2.2.toNat 0+1).toNat (List.take (x_4.2.1.getD x_4.2.2.toNat 0+1+((aT x_1.2.1 (x_4.2.1.getD x_4.2.2.toNat 0)).getD (0,0,0,false)).1).toNat x_1.1.1)).getD x_5.2.2.toNat 0) - 1])∧(∃ (k:List Int),x_5.2.1++[IntKind.i64.wrap ((List.drop (x_4.2.1.getD x_4.2.2.toNat 0+1).toNat (List.take (x_4.2.1.getD x_4.2.2.toNat 0+1+((aT x_1.2.1 (x_4.2.1.getD x_4.2.2.toNat 0)).getD (0,0,0,false)).1).toNat x_1.1.1)).getD x_5.2.2.toNat 0) - 1]=x_4.2.1++k∧∀ (x:Int),x∈k→x+1∈List.drop (x_4.2.1.getD x_4.2.2.toNat 0+1).toNat (List.take (x_4.2.1.getD x_4.2.2.toNat 0+1+((aT x_1.2.1 (x_4.2.1.getD x_4.2.2.toNat 0)).getD (0,0,0,false)).1).toNat x_1.1.1)∧x+1≠0)∧∀ (v:Int),v∈List.take (x_5.2.2+1).toNat (List.drop (x_4.2.1.getD x_4.2.2.toNat 0+1).toNat (List.take (x_4.2.1.getD x_4.2.2.toNat 0+1+((aT x_1.2.1 (x_4.2.1.getD x_4.2.2.toNat 0)).getD (0,0,0,false)).1).toNat x_1.1.1))→v≠0→v - 1∈x_5.2.1++[IntKind.i64.wrap ((List.drop (x_4.2.1.getD x_4.2.2.toNat 0+1).toNat (List.take (x_4.2.1.getD x_4.2.2.toNat 0+1+((aT x_1.2.1 (x_4.2.1.getD x_4.2.2.toNat 0)).getD (0,0,0,false)).1).toNat x_1.1.1)).getD x_5.2.2.toNat 0) - 1])∧((↑(List.drop (x_4.2.1.getD x_4.2.2.toNat 0+1).toNat (List.take (x_4.2.1.getD x_4.2.2.toNat 0+1+((aT x_1.2.1 (x_4.2.1.getD x_4.2.2.toNat 0)).getD (0,0,0,false)).1).toNat x_1.1.1)).length:Int) - (x_5.2.2+1)).toNat<((↑(List.drop (x_4.2.1.getD x_4.2.2.toNat 0+1).toNat (List.take (x_4.2.1.getD x_4.2.2.toNat 0+1+((aT x_1.2.1 (x_4.2.1.getD x_4.2.2.toNat 0)).getD (0,0,0,false)).1).toNat x_1.1.1)).length:Int) - x_5.2.2).toNat)∧((!(aT x_5.1 (IntKind.i64.wrap ((List.drop (x_4.2.1.getD x_4.2.2.toNat 0+1).toNat (List.take (x_4.2.1.getD x_4.2.2.toNat 0+1+((aT x_1.2.1 (x_4.2.1.getD x_4.2.2.toNat 0)).getD (0,0,0,false)).1).toNat x_1.1.1)).getD x_5.2.2.toNat 0) - 1)).getD false)=false→ak .i64 (x_5.2.2+1)∧(0≤x_5.2.2+1∧x_5.2.2+1≤(↑(List.drop (x_4.2.1.getD x_4.2.2.toNat 0+1).toNat (List.take (x_4.2.1.getD x_4.2.2.toNat 0+1+((aT x_1.2.1 (x_4.2.1.getD x_4.2.2.toNat 0)).getD (0,0,0,false)).1).toNat x_1.1.1)).length:Int)∧Seen x_5.1 x_5.2.1∧(∃ (k:List Int),x_5.2.1=x_4.2.1++k∧∀ (x:Int),x∈k→x+1∈List.drop (x_4.2.1.getD x_4.2.2.toNat 0+1).toNat (List.take (x_4.2.1.getD x_4.2.2.toNat 0+1+((aT x_1.2.1 (x_4.2.1.getD x_4.2.2.toNat 0)).getD (0,0,0,false)).1).toNat x_1.1.1)∧x+1≠0)∧∀ (v:Int),v∈List.take (x_5.2.2+1).toNat (List.drop (x_4.2.1.getD x_4.2.2.toNat 0+1).toNat (List.take (x_4.2.1.getD x_4.2.2.toNat 0+1+((aT x_1.2.1 (x_4.2.1.getD x_4.2.2.toNat 0)).getD (0,0,0,false)).1).toNat x_1.1.1))→v≠0→v - 1∈x_5.2.1)∧((↑(List.drop (x_4.2.1.getD x_4.2.2.toNat 0+1).toNat (List.take (x_4.2.1.getD x_4.2.2.toNat 0+1+((aT x_1.2.1 (x_4.2.1.getD x_4.2.2.toNat 0)).getD (0,0,0,false)).1).toNat x_1.1.1)).length:Int) - (x_5.2.2+1)).toNat<((↑(List.drop (x_4.2.1.getD x_4.2.2.toNat 0+1).toNat (List.take (x_4.2.1.getD x_4.2.2.toNat 0+1+((aT x_1.2.1 (x_4.2.1.getD x_4.2.2.toNat 0)).getD (0,0,0,false)).1).toNat x_1.1.1)).length:Int) - x_5.2.2).toNat))∧(decide ((List.drop (x_4.2.1.getD x_4.2.2.toNat 0+1).toNat (List.take (x_4.2.1.getD x_4.2.2.toNat 0+1+((aT x_1.2.1 (x_4.2.1.getD x_4.2.2.toNat 0)).getD (0,0,0,false)).1).toNat x_1.1.1)).getD x_5.2.2.toNat (0:Int)≠0)=false→ak .i64 (x_5.2.2+1)∧(0≤x_5.2.2+1∧x_5.2.2+1≤(↑(List.drop (x_4.2.1.getD x_4.2.2.toNat 0+1).toNat (List.take (x_4.2.1.getD x_4.2.2.toNat 0+1+((aT x_1.2.1 (x_4.2.1.getD x_4.2.2.toNat 0)).getD (0,0,0,false)).1).toNat x_1.1.1)).length:Int)∧Seen x_5.1 x_5.2.1∧(∃ (k:List Int),x_5.2.1=x_4.2.1++k∧∀ (x:Int),x∈k→x+1∈List.drop (x_4.2.1.getD x_4.2.2.toNat 0+1).toNat (List.take (x_4.2.1.getD x_4.2.2.toNat 0+1+((aT x_1.2.1 (x_4.2.1.getD x_4.2.2.toNat 0)).getD (0,0,0,false)).1).toNat x_1.1.1)∧x+1≠0)∧∀ (v:Int),v∈List.take (x_5.2.2+1).toNat (List.drop (x_4.2.1.getD x_4.2.2.toNat 0+1).toNat (List.take (x_4.2.1.getD x_4.2.2.toNat 0+1+((aT x_1.2.1 (x_4.2.1.getD x_4.2.2.toNat 0)).getD (0,0,0,false)).1).toNat x_1.1.1))→v≠0→v - 1∈x_5.2.1)∧((↑(List.drop (x_4.2.1.getD x_4.2.2.toNat 0+1).toNat (List.take (x_4.2.1.getD x_4.2.2.toNat 0+1+((aT x_1.2.1 (x_4.2.1.getD x_4.2.2.toNat 0)).getD (0,0,0,false)).1).toNat x_1.1.1)).length:Int) - (x_5.2.2+1)).toNat<((↑(List.drop (x_4.2.1.getD x_4.2.2.toNat 0+1).toNat (List.take (x_4.2.1.getD x_4.2.2.toNat 0+1+((aT x_1.2.1 (x_4.2.1.getD x_4.2.2.toNat 0)).getD (0,0,0,false)).1).toNat x_1.1.1)).length:Int) - x_5.2.2).toNat))∧(decide (x_5.2.2<(↑(List.drop (x_4.2.1.getD x_4.2.2.toNat 0+1).toNat (List.take (x_4.2.1.getD x_4.2.2.toNat 0+1+((aT x_1.2.1 (x_4.2.1.getD x_4.2.2.toNat 0)).getD (0,0,0,false)).1).toNat x_1.1.1)).length:Int))=false→ak .i64 (x_4.2.2+1)∧(0≤x_4.2.2+1∧x_4.2.2+1≤(↑x_5.2.1.length:Int)∧Seen x_5.1 x_5.2.1∧(∀ (x_6:Int),x_6∈x.2→x_6∈x_5.2.1)∧(∀ (x_6:Int),x_6∈x_5.2.1→Rch x.1 x.2 x_6)∧∀ (x_6:Int),x_6∈List.take (x_4.2.2+1).toNat x_5.2.1→∀ (y:Int),y∈dI x.1 x_6→y∈x_5.2.1)∧(256 - (x_4.2.2+1)).toNat<(256 - x_4.2.2).toNat))∧(decide (x_4.2.2<(↑x_4.2.1.length:Int))=false→True∧eb x_4.2.1=(bX x.1 x.2).1∧0=(bX x.1 x.2).2∧True))))))
theorem F4:Bz:=by
 unfold Bz;intro ⟨a,f⟩ ⟨⟨hb,hw⟩,hbf,hf⟩ _ tm;unfold aA at hb hbf;simp only at hb hw hbf hf ⊢;refine ⟨trivial,fun hc=>⟨fun _=>?_,fun hn=>by rw [hc] at hn; cases hn⟩,fun hc=>?_⟩
 ·have hc:=of_decide_eq_true hc;have e:ba a f=(au a).2.2:=by unfold ba; rw [if_pos hc]
  have e2:bX a f=([],(au a).2.2):=by unfold bX; rw [e,if_pos hc]
  rw [e2];exact ⟨rfl,rfl,trivial⟩
 have hc:(au a).2.2=0:=by simpa using of_decide_eq_false hc
 obtain ⟨hal,_,_,hz,_,_,_⟩:=b7 hc;have hsl:=cD a;have hsp:=dw a;have hget:=fun x=>HB (cp a) x
 have hbl:=fJ (aa a).1;refine ⟨trivial,⟨by omega,by omega,trivial,rfl,rfl⟩,fun ⟨⟨a1,⟨⟩,out⟩,m,i⟩ ⟨i0,i1,i2,i3,i4⟩=>⟨fun hlt=>?_,fun hge=>?_⟩⟩
 ·simp only at i0 i1 i2 i3 i4 hlt ⊢;have hlt:=of_decide_eq_true hlt;have hs:=hsp _ (aI ((0,0,0,0,false):aD) i0 hlt);have ht:=bo ((0,0,0,0,false):aD) i0 hlt;rw [aW ((0,0,0,0,false):aD) i0 hlt] at i4;simp only [eA] at i4
  have hol:out.length≤256:=by
   rw [i3];have:=fJ (List.take i.toNat (aa a).1);rw [List.length_take] at this;omega
  rw [ht,ne,← i3];generalize (aa a).1.getD i.toNat (0,0,0,0,false)=s at *;simp only [ak];refine ⟨i0,hlt,by omega,fun hf0=>?_,fun hf0=>?_⟩
  ·have hf0:¬ s.2.2.2.2=true:=by simpa using hf0
   have e:ah [s]=[s.1]:=by simp only [ah]; rw [if_neg hf0]
   rw [if_neg hf0] at i4;rw [e];unfold aA;simp only [List.length_singleton];exact ⟨by omega,by omega,⟨by omega,by omega,i2,trivial,i4⟩,by omega⟩
  ·have hf0:s.2.2.2.2=true:=by simpa using hf0
   have e:ah [s]=[]:=by simp only [ah]; rw [if_pos hf0]
   rw [if_pos hf0] at i4;rw [e,List.append_nil];exact ⟨by omega,⟨by omega,by omega,i2,rfl,i4⟩,by omega⟩
 simp only at i0 i1 i2 i3 i4 hge ⊢;have hge:=of_decide_eq_false hge;rw [bt hge] at i4;have i4:m=kQ (aa a).1:=i4;subst i4 i2;have hsome:∀ x,(aT (kQ (aa a1).1) x).isSome=isB (aa a1).1 x:=fun x=>by rw [hget]; cases isB (aa a1).1 x <;> rfl
 simp only [hsome];refine ⟨⟨by omega,by omega,rfl⟩,fun j ⟨j0,j1,j2⟩=>⟨fun hlt=>?_,fun hge=>⟨fun h=>by simp at h,fun _=>?_⟩⟩⟩
 ·have hlt:=of_decide_eq_true hlt;rw [aW (0:Int) j0 hlt,List.all_cons] at j2;simp only [ak];refine ⟨j0,hlt,fun hn=>⟨fun _=>?_,fun h=>by simp at h⟩,fun hn=>⟨by omega,⟨by omega,by omega,?_⟩,by omega⟩⟩
  ·have hn:isB (aa a1).1 (f.getD j.toNat 0)=false:=by simpa using hn
   rw [hn,Bool.false_and] at j2;have e:ba a1 f=5:=by unfold ba; rw [if_neg (by omega),← j2]; rfl
   have e2:bX a1 f=([],5):=by unfold bX; rw [e]; rfl
   rw [e2];exact ⟨rfl,rfl,trivial⟩
  ·have hn:isB (aa a1).1 (f.getD j.toNat 0)=true:=by simpa using hn
   rw [hn,Bool.true_and] at j2;exact j2
 rw [bt (of_decide_eq_false hge),List.all_nil] at j2;have hfb:∀ x∈f,isB (aa a1).1 x=true:=List.all_eq_true.1 j2.symm;have e0:ba a1 f=0:=kS hc hfb;have e1:bX a1 f=(be a1 f,0):=by unfold bX; rw [e0]; rfl
 rw [e1];clear i0 i1 i3 hge j0 j1 j2;have hrch:∀ x,Rch a1 f x→0≤x∧x≤255:=fun x hx=>gE (hx.isB hw hc hfb)
 refine ⟨⟨by omega,by omega,Seen.new,fun x hx=>by simp at hx,fun x hx=>by cases hx⟩,fun ⟨m,o,i⟩ ⟨i0,i1,i2,i3,i4⟩=>⟨fun hlt=>?_,fun hge=>?_⟩⟩
 ·simp only at i0 i1 i2 i3 i4 hlt ⊢;have hlt:=of_decide_eq_true hlt;have ht:=bo (0:Int) i0 hlt;have hm:=aI (0:Int) i0 hlt;generalize f.getD i.toNat 0=x at *;have hol:=mz i2.nodup (fun y hy=>hrch y (.base (i4 y hy)));rw [ht];unfold aA;simp only [ak,List.length_singleton];refine ⟨i0,hlt,fun _=>⟨fun hn=>⟨by omega,by omega,⟨by omega,by omega,i2.add hn,fun y hy=>?_,fun y hy=>?_⟩,by omega⟩,fun hn=>⟨by omega,⟨by omega,by omega,i2,fun y hy=>?_,i4⟩,by omega⟩⟩⟩
  ·rcases List.mem_append.1 hy with hy | hy
   ·exact List.mem_append_left _ (i3 y hy)
   ·exact List.mem_append_right _ hy
  ·rcases List.mem_append.1 hy with hy | hy
   ·exact i4 y hy
   ·rw [List.mem_singleton.1 hy]; exact hm
  ·rcases List.mem_append.1 hy with hy | hy
   ·exact i3 y hy
   ·rw [List.mem_singleton.1 hy]; exact i2.mem hn
 simp only at i0 i1 i2 i3 i4 hge ⊢;rw [bF (of_decide_eq_false hge)] at i3;refine ⟨⟨by omega,by omega,i2,i3,fun x hx=>.base (i4 x hx),fun x hx=>by simp at hx⟩,fun ⟨m2,o2,k⟩ ⟨k0,k1,k2,k3,k4,k5⟩=>⟨fun hlt=>?_,fun hge=>?_⟩⟩
 ·clear i0 i1 i2 i3 i4 hge;simp only at k0 k1 k2 k3 k4 k5 hlt ⊢;have hlt:=of_decide_eq_true hlt;have ht:=bo (0:Int) k0 hlt;have hm:=aI (0:Int) k0 hlt;have hol:=mz k2.nodup (fun y hy=>hrch y (k4 y hy));generalize hat:o2.getD k.toNat 0=at_ at *;have hib:=(k4 at_ hm).isB hw hc hfb;have hh:((aT (kQ (aa a1).1) at_).getD (0,0,0,false))=dp a1 at_:=by rw [hget,if_pos hib]; rfl
  obtain ⟨l1,_,l3,l4,l5,l6⟩:=cI hib;have hrf:=nt hw hc _ (gP hib).1;have hrs:List.drop (at_+1).toNat (List.take (at_+1+(dp a1 at_).1).toNat a1)=a7 a1 at_:=rfl
  have hout:∀ y,y∈dI a1 at_ ↔ (y+1∈a7 a1 at_∧y+1≠0):=by
   intro y;unfold dI;simp only [List.mem_map,List.mem_filter,decide_eq_true_eq];constructor
   ·rintro ⟨v,⟨hv,h0⟩,rfl⟩;rw [Int.sub_add_cancel];exact ⟨hv,h0⟩
   ·rintro ⟨h1,h2⟩;exact ⟨y+1,⟨h1,h2⟩,by omega⟩
  have hstep:∀ y,y+1∈a7 a1 at_→y+1≠0→Rch a1 f y:=fun y h1 h2=>.step (k4 at_ hm) ((hout y).2 ⟨h1,h2⟩)
  rw [hh,hrs]
  have hwr:∀ v∈a7 a1 at_,IntKind.i64.wrap v=v∧0≤v∧v≤256:=fun v hv=>by
   rcases hrf v hv with e | ⟨h1,h2,_⟩
   ·subst e; exact ⟨je (by omega) (by omega),by omega,by omega⟩
   ·exact ⟨je (by omega) (by omega),by omega,by omega⟩
  generalize hrs0:a7 a1 at_=rs at *;simp only [ak];refine ⟨k0,hlt,by omega,fun _=>⟨by omega,by omega,by omega,by omega,by omega,by omega,⟨by omega,by omega,k2,⟨[],by simp,fun x hx=>by cases hx⟩,fun v hv=>by simp at hv⟩,fun ⟨m3,o3,j⟩ ⟨j0,j1,j2,⟨kk,j3,j4⟩,j5⟩=>⟨fun hj=>?_,fun hj=>?_⟩⟩⟩
  ·simp only at j0 j1 j2 j3 j4 j5 hj ⊢;have hj:=of_decide_eq_true hj;have ht2:=bo (0:Int) j0 hj;have hv:=aI (0:Int) j0 hj;generalize rs.getD j.toNat 0=v at *;obtain ⟨w1,w2,w3⟩:=hwr v hv
   have hol3:=mz j2.nodup (fun y hy=>hrch y (by
    rw [j3] at hy;rcases List.mem_append.1 hy with hy | hy
    ·exact k4 y hy
    ·exact hstep y (j4 y hy).1 (j4 y hy).2))
   rw [w1,ht2];unfold aA;simp only [List.length_singleton];refine ⟨j0,hj,fun hne=>⟨by omega,fun _=>⟨fun hn=>⟨by omega,by omega,⟨by omega,by omega,j2.add hn,⟨kk++[v - 1],by rw [j3,List.append_assoc],fun y hy=>?_⟩,fun y hy hy0=>?_⟩,by omega⟩,fun hn=>⟨by omega,⟨by omega,by omega,j2,⟨kk,j3,j4⟩,fun y hy hy0=>?_⟩,by omega⟩⟩⟩,fun hne=>⟨by omega,⟨by omega,by omega,j2,⟨kk,j3,j4⟩,fun y hy hy0=>?_⟩,by omega⟩⟩
   ·rcases List.mem_append.1 hy with hy | hy
    ·exact j4 y hy
    ·rw [List.mem_singleton.1 hy,Int.sub_add_cancel];exact ⟨hv,of_decide_eq_true hne⟩
   ·rcases List.mem_append.1 hy with hy | hy
    ·exact List.mem_append_left _ (j5 y hy hy0)
    ·rw [List.mem_singleton.1 hy]; simp
   ·rcases List.mem_append.1 hy with hy | hy
    ·exact j5 y hy hy0
    ·rw [List.mem_singleton.1 hy]; exact j2.mem hn
   ·rcases List.mem_append.1 hy with hy | hy
    ·exact j5 y hy hy0
    ·rw [List.mem_singleton.1 hy] at hy0;exact absurd hy0 (by simpa using of_decide_eq_false hne)
  ·simp only at j0 j1 j2 j3 j4 j5 hj ⊢;rw [bF (of_decide_eq_false hj)] at j5;have hlen3:o2.length≤o3.length:=by rw [j3]; simp
   have e3:o3.take (k+1).toNat=o2.take k.toNat++[at_]:=by rw [j3,List.take_append_of_le_length (by omega),ht]
   rw [e3];refine ⟨by omega,⟨by omega,by omega,j2,fun x hx=>by rw [j3]; exact List.mem_append_left _ (k3 x hx),fun x hx=>?_,fun x hx y hy=>?_⟩,by omega⟩
   ·rw [j3] at hx;rcases List.mem_append.1 hx with hx | hx
    ·exact k4 x hx
    ·exact hstep x (j4 x hx).1 (j4 x hx).2
   ·rcases List.mem_append.1 hx with hx | hx
    ·rw [j3]; exact List.mem_append_left _ (k5 x hx y hy)
    ·rw [List.mem_singleton.1 hx] at hy;obtain ⟨q1,q2⟩:=(hout y).1 hy;have:=j5 _ q1 q2
     rwa [Int.add_sub_cancel] at this
 ·simp only at k0 k1 k2 k3 k4 k5 hge ⊢;rw [bF (of_decide_eq_false hge)] at k5;exact ⟨trivial,(Full.mk k3 k4 k5).sorted hw hc hfb k2.nodup,trivial,trivial⟩
theorem I5:Iq.ok Tryz.prog 135:=aF (ann:=J7) (ae iN (ae iM (kD tU aq))) Tryz.func135 (by kernel_rfl) F4
end
section
open Go
set_option maxRecDepth 100000
set_option maxHeartbeats 1000000
def Bd:Spec:={ Ts:=[.nil,ty_I],Rs:=[.own 3 ty_I],pre:=fun ((_,n):Unit×Int)=>0≤n∧n.toNat * 8≤aA,F:=fun _=>([]:List Int) }
def rm:Prop :=
  ∀ (x:Unit×Int),True∧ak .i64 x.2→0≤x.2∧x.2.toNat * 8≤aA→(decide (x.2<0)=true→False)∧(decide (x.2<0)=false→ak .i64 (0 - 0)∧ak .i64 (x.2 - (0 - 0))∧(decide (0<x.2 - (0 - 0))=true→(0:Int)=0∧0<x.2 - (0 - 0)∧(x.2 - (0 - 0)).toNat * 8≤aA∧(0:Int)≤0∧0≤(↑(List.replicate (x.2 - (0 - 0)).toNat (0:Int)).length:Int)∧List.take (Int.toNat 0) (List.replicate (x.2 - (0 - 0)).toNat (0:Int))=([]:List Int)∧True)∧(decide (0<x.2 - (0 - 0))=false→([]:List Int)=([]:List Int)∧True))
theorem yp:rm:=by
 unfold rm;intro ⟨_,n⟩ ⟨_,hn⟩ ⟨h0,hb⟩;simp only [ak] at *;refine ⟨fun h=>?_,fun _=>⟨by omega,by omega,fun h=>⟨trivial,by have:=of_decide_eq_true h; omega,by simpa using hb,by omega,by omega,by simp,trivial⟩,fun _=>by simp⟩⟩;have:=of_decide_eq_true h;omega
theorem B8:Bd.ok Tryz.prog 151:=aF (ann:=cw) aq Tryz.func151 (by kernel_rfl) yp
def vP:Spec:={ Ts:=[.arr (.arr ty_I)],Rs:=[.own 3 ty_I],pre:=fun (xs:List (List Int))=>xs.flatten.length * 8≤aA,F:=fun (xs:List (List Int))=>xs.flatten }
def wD:Nat→Option LoopGen
 | 3=>some { rd:=[.dat 9 (.arr (.arr ty_I))],A:=fun (xs:List (List Int))=>{ cs:=[.dat 3 ty_I,.dat 11 ty_I],inv:=fun ((n,i):Int×Int)=>0≤i∧i≤xs.length∧n=((xs.take i.toNat).flatten.length:Int)∧xs.flatten.length * 8≤aA,mu:=fun ((_,i):Int×Int)=>(xs.length - i).toNat } }
 | 11=>some { rd:=[.dat 25 (.arr (.arr ty_I))],A:=fun (xs:List (List Int))=>{ cs:=[.own 6 3 ty_I,.dat 27 ty_I],inv:=fun ((out,i):List Int×Int)=>0≤i∧i≤xs.length∧out++(xs.drop i.toNat).flatten=xs.flatten,mu:=fun ((_,i):List Int×Int)=>(xs.length - i).toNat } }
 | _=>none
def mU:Prop :=
  ∀ (x:List (List Int)),(x.length * 24≤aA∧∀ (x_1:List Int),x_1∈x→x_1.length * 8≤aA∧∀ (x:Int),x∈x_1→ak .i64 x)→x.flatten.length * 8≤aA→((0:Int)≤0∧0≤(↑x.length:Int)∧0=(↑(List.take (Int.toNat 0) x).flatten.length:Int)∧x.flatten.length * 8≤aA)∧∀ (x_1:Int×Int),0≤x_1.2∧x_1.2≤(↑x.length:Int)∧x_1.1=(↑(List.take x_1.2.toNat x).flatten.length:Int)∧x.flatten.length * 8≤aA→(decide (x_1.2<(↑x.length:Int))=true→0≤x_1.2∧x_1.2<(↑x.length:Int)∧ak .i64 (x_1.1+(↑(x.getD x_1.2.toNat ([]:List Int)).length:Int))∧(decide (x_1.1+(↑(x.getD x_1.2.toNat ([]:List Int)).length:Int)<0)=true→False)∧(decide (x_1.1+(↑(x.getD x_1.2.toNat ([]:List Int)).length:Int)<0)=false→ak .i64 (x_1.2+1)∧(0≤x_1.2+1∧x_1.2+1≤(↑x.length:Int)∧x_1.1+(↑(x.getD x_1.2.toNat ([]:List Int)).length:Int)=(↑(List.take (x_1.2+1).toNat x).flatten.length:Int)∧x.flatten.length * 8≤aA)∧((↑x.length:Int) - (x_1.2+1)).toNat<((↑x.length:Int) - x_1.2).toNat))∧(decide (x_1.2<(↑x.length:Int))=false→(0≤x_1.1∧x_1.1.toNat * 8≤aA)∧((0:Int)≤0∧0≤(↑x.length:Int)∧([]:List Int)++(List.drop (Int.toNat 0) x).flatten=x.flatten)∧∀ (x_2:List Int×Int),0≤x_2.2∧x_2.2≤(↑x.length:Int)∧x_2.1++(List.drop x_2.2.toNat x).flatten=x.flatten→(decide (x_2.2<(↑x.length:Int))=true→0≤x_2.2∧x_2.2<(↑x.length:Int)∧(x_2.1.length+(x.getD x_2.2.toNat ([]:List Int)).length) * 8≤aA∧ak .i64 (x_2.2+1)∧(0≤x_2.2+1∧x_2.2+1≤(↑x.length:Int)∧x_2.1++x.getD x_2.2.toNat ([]:List Int)++(List.drop (x_2.2+1).toNat x).flatten=x.flatten)∧((↑x.length:Int) - (x_2.2+1)).toNat<((↑x.length:Int) - x_2.2).toNat)∧(decide (x_2.2<(↑x.length:Int))=false→x_2.1=x.flatten∧True))
theorem sL:mU:=by
 unfold mU;intro xs ⟨hx,_⟩ hb;simp only [ak] at *;unfold aA at *
 have hpart:∀ k,(xs.take k).flatten.length≤xs.flatten.length:=fun k=>by
  have:=congrArg List.length (congrArg List.flatten (List.take_append_drop k xs));rw [List.flatten_append,List.length_append] at this;omega
 refine ⟨⟨by omega,by omega,by simp,hb⟩,fun ⟨n,i⟩ ⟨h0,h1,h2,_⟩=>⟨fun hlt=>?_,fun hge=>?_⟩⟩
 ·have hlt:i<(xs.length:Int):=by simpa using hlt
  have e:=bo ([]:List Int) h0 hlt;have hp:=hpart (i+1).toNat;rw [e] at hp ⊢;simp only [List.flatten_append,List.length_append,List.flatten_cons,List.flatten_nil,List.append_nil] at *;refine ⟨h0,hlt,by omega,fun hc=>?_,fun _=>⟨by omega,⟨by omega,by omega,by push_cast; omega,hb⟩,by omega⟩⟩;have:=of_decide_eq_true hc;omega
 ·have hge:¬ i<(xs.length:Int):=by simpa using hge
  rw [bF hge] at h2;simp only at *;refine ⟨⟨by omega,by omega⟩,⟨by omega,by omega,by simp⟩,fun ⟨out,j⟩ ⟨g0,g1,g2⟩=>⟨fun hlt=>?_,fun hge=>?_⟩⟩
  ·have hlt:j<(xs.length:Int):=by simpa using hlt
   simp only at *;rw [aW ([]:List Int) g0 hlt,List.flatten_cons] at g2;have hl:=congrArg List.length g2;simp only [List.length_append] at hl;exact ⟨g0,hlt,by omega,by omega,⟨by omega,by omega,by rw [List.append_assoc]; exact g2⟩,by omega⟩
  ·rw [bt (by simpa using hge)] at g2;simp only [List.flatten_nil,List.append_nil] at g2;exact ⟨g2,trivial⟩
theorem m4:vP.ok Tryz.prog 124:=aF (ann:=wD) (ae B8 aq) Tryz.func124 (by kernel_rfl) sL
end
section
open Go
set_option maxRecDepth 100000
set_option maxHeartbeats 1000000
theorem iA:∀ {l:List Int},l.Pairwise (·<·)→bA l=true
 | [],_=>rfl
 | [_],_=>rfl
 | x::y::l,h=>by
  obtain ⟨h1,h2⟩:=List.pairwise_cons.1 h;simp only [bA,Bool.and_eq_true,decide_eq_true_eq];exact ⟨h1 y (by simp),iA h2⟩
theorem rS {a f p:List Int} (hw:∀ x∈a,ak .u64 x) (h:ba a (f++p)=0) (hp:bA p=true):am a (be a (f++p)) p=((be a (f++p)).map (aG (aa a).1),0):=by
 obtain ⟨h1,h2⟩:=dV h;have hr:=fun x=>gw (a:=a) (from_:=f++p) hw h1 h2 (x:=x)
 have e1:bA (be a (f++p))=true:=iA (jk _ _);have e2:(be a (f++p)).all (isB (aa a).1)=true:=List.all_eq_true.2 fun x hx=>((hr x).1 hx).isB hw h1 h2
 have e3:p.all (cP (be a (f++p)))=true:=List.all_eq_true.2 fun x hx=>cG.2 ((hr x).2 (.base (by simp [hx])))
 unfold am;rw [if_neg (by omega),e1,hp,e2,e3];simp
theorem uO {a f p:List Int} (hw:∀ x∈a,ak .u64 x) (h:ba a (f++p)=0) (to:List Int):((be a (f++p)).all fun x=>cn (be a (f++p)) to (a7 a x))=true:=by
 obtain ⟨h1,h2⟩:=dV h;have hr:=fun x=>gw (a:=a) (from_:=f++p) hw h1 h2 (x:=x)
 refine List.all_eq_true.2 fun x hx=>List.all_eq_true.2 fun v hv=>?_
 unfold gW;by_cases h0:v=0
 ·rw [if_pos h0]; rfl
 ·have h3:v - 1∈dI a x:=by
   unfold dI;exact List.mem_map.2 ⟨v,List.mem_filter.2 ⟨hv,by simpa using h0⟩,rfl⟩
  rw [if_neg h0,if_pos (cG.2 ((hr _).2 (.step ((hr _).1 hx) h3)))];rfl
def aw (a f p:List Int):List Int×List Int×Int :=
 if ba a (f++p)≠0 then ([],[],ba a (f++p)) else
 if bA p=false then ([],[],3) else
 ((cQ a (be a (f++p)) p).1,f.map fun x=>(ar (be a (f++p)) ((be a (f++p)).map (aG (aa a).1)) p).getD (bG (be a (f++p)) x).toNat 0,0)
theorem oR {l:List Int} {x:Int} (h:x∈l):0≤bG l x∧bG l x<l.length:=by
 have h1:=cW (fun y=>decide (y=x)) l 0 (by omega);have h2:=dq (fun y=>decide (y=x)) x l 0 (by omega);have h3:(l.any fun y=>decide (y=x))=true:=cG.2 h;rw [h3] at h1;exact ⟨of_decide_eq_true h1,by unfold bG; omega⟩
theorem l7 {a f p:List Int} (hw:∀ x∈a,ak .u64 x) (h:ba a (f++p)=0) (hp:bA p=true) :
  cQ a (be a (f++p)) p=((kl a (be a (f++p)) p).1,ar (be a (f++p)) ((be a (f++p)).map (aG (aa a).1)) p,0)∧(kl a (be a (f++p)) p).2=true:=by
 have e:=rS hw h hp;have hg:=uO hw h (ar (be a (f++p)) ((be a (f++p)).map (aG (aa a).1)) p);unfold cQ kl;rw [e];simp only;rw [if_neg (by omega),if_pos hg,if_pos hg];exact ⟨rfl,rfl⟩
theorem py {a f p:List Int} (h:ba a (f++p)=0) (hp:bA p=false):cQ a (be a (f++p)) p=([],[],3):=by
 obtain ⟨h1,_⟩:=dV h
 have e:am a (be a (f++p)) p=([],3):=by
  unfold am;rw [if_neg (by omega),hp,Bool.and_false,if_pos rfl]
 unfold cQ;rw [e];rfl
def Kh:Nat→Option LoopGen
 | 9=>some { rd:=[.dat 39 (.arr ty_I),.own 9 3 ty_I,.own 12 3 ty_I],A:=fun ((f,keep,to):List Int×List Int×List Int)=>{ cs:=[.own 13 3 ty_I,.dat 41 ty_I],inv:=fun ((out,i):List Int×Int)=>0≤i∧i≤f.length∧out=(f.take i.toNat).map fun x=>to.getD (bG keep x).toNat 0,mu:=fun ((_,i):List Int×Int)=>(f.length - i).toNat } }
 | _=>none
def IF:Spec:={ Ts:=[.arr bb,.arr ty_I,.arr ty_I],Rs:=[.own 29 bb,.own 3 ty_I,.dat ty_I],pre:=fun ((_,f,p):List Int×List Int×List Int)=>(f.length+p.length) * 8≤140737488355328,F:=fun ((a,f,p):List Int×List Int×List Int)=>aw a f p }
def BO:Prop :=
  ∀ (x:List Int×List Int×List Int),((x.1.length * 8≤aA∧∀ (x_1:Int),x_1∈x.1→ak .u64 x_1)∧(x.2.1.length * 8≤aA∧∀ (x_1:Int),x_1∈x.2.1→ak .i64 x_1)∧x.2.2.length * 8≤aA∧∀ (x_1:Int),x_1∈x.2.2→ak .i64 x_1)→(x.2.1.length+x.2.2.length) * 8≤140737488355328→[x.2.1,x.2.2].flatten.length * 8≤aA∧True∧(decide ((bX x.1 [x.2.1,x.2.2].flatten).2≠0)=true→([]:List Int)=(aw x.1 x.2.1 x.2.2).1∧([]:List Int)=(aw x.1 x.2.1 x.2.2).2.1∧(bX x.1 [x.2.1,x.2.2].flatten).2=(aw x.1 x.2.1 x.2.2).2.2∧True)∧(decide ((bX x.1 [x.2.1,x.2.2].flatten).2≠0)=false→True∧(decide ((cQ x.1 (bX x.1 [x.2.1,x.2.2].flatten).1 x.2.2).2.2≠0)=true→([]:List Int)=(aw x.1 x.2.1 x.2.2).1∧([]:List Int)=(aw x.1 x.2.1 x.2.2).2.1∧(cQ x.1 (bX x.1 [x.2.1,x.2.2].flatten).1 x.2.2).2.2=(aw x.1 x.2.1 x.2.2).2.2∧True)∧(decide ((cQ x.1 (bX x.1 [x.2.1,x.2.2].flatten).1 x.2.2).2.2≠0)=false→((0:Int)≤0∧0≤(↑x.2.1.length:Int)∧([]:List Int)=List.map (fun (x_1:Int)=>(cQ x.1 (bX x.1 [x.2.1,x.2.2].flatten).1 x.2.2).2.1.getD (bG (bX x.1 [x.2.1,x.2.2].flatten).1 x_1).toNat 0) (List.take (Int.toNat 0) x.2.1))∧∀ (x_1:List Int×Int),0≤x_1.2∧x_1.2≤(↑x.2.1.length:Int)∧x_1.1=List.map (fun (x_2:Int)=>(cQ x.1 (bX x.1 [x.2.1,x.2.2].flatten).1 x.2.2).2.1.getD (bG (bX x.1 [x.2.1,x.2.2].flatten).1 x_2).toNat 0) (List.take x_1.2.toNat x.2.1)→(decide (x_1.2<(↑x.2.1.length:Int))=true→0≤x_1.2∧x_1.2<(↑x.2.1.length:Int)∧True∧0≤bG (bX x.1 [x.2.1,x.2.2].flatten).1 (x.2.1.getD x_1.2.toNat 0)∧bG (bX x.1 [x.2.1,x.2.2].flatten).1 (x.2.1.getD x_1.2.toNat 0)<(↑(cQ x.1 (bX x.1 [x.2.1,x.2.2].flatten).1 x.2.2).2.1.length:Int)∧(bG (bX x.1 [x.2.1,x.2.2].flatten).1 (x.2.1.getD x_1.2.toNat 0)).toNat<(cQ x.1 (bX x.1 [x.2.1,x.2.2].flatten).1 x.2.2).2.1.length∧(x_1.1.length+[(cQ x.1 (bX x.1 [x.2.1,x.2.2].flatten).1 x.2.2).2.1.getD (bG (bX x.1 [x.2.1,x.2.2].flatten).1 (x.2.1.getD x_1.2.toNat 0)).toNat 0].length) * 8≤aA∧ak .i64 (x_1.2+1)∧(0≤x_1.2+1∧x_1.2+1≤(↑x.2.1.length:Int)∧x_1.1++[(cQ x.1 (bX x.1 [x.2.1,x.2.2].flatten).1 x.2.2).2.1.getD (bG (bX x.1 [x.2.1,x.2.2].flatten).1 (x.2.1.getD x_1.2.toNat 0)).toNat 0]=List.map (fun (x_2:Int)=>(cQ x.1 (bX x.1 [x.2.1,x.2.2].flatten).1 x.2.2).2.1.getD (bG (bX x.1 [x.2.1,x.2.2].flatten).1 x_2).toNat 0) (List.take (x_1.2+1).toNat x.2.1))∧((↑x.2.1.length:Int) - (x_1.2+1)).toNat<((↑x.2.1.length:Int) - x_1.2).toNat)∧(decide (x_1.2<(↑x.2.1.length:Int))=false→(cQ x.1 (bX x.1 [x.2.1,x.2.2].flatten).1 x.2.2).1=(aw x.1 x.2.1 x.2.2).1∧x_1.1=(aw x.1 x.2.1 x.2.2).2.1∧0=(aw x.1 x.2.1 x.2.2).2.2∧True)))
theorem Gi:BO:=by
 unfold BO;intro ⟨a,f,p⟩ ⟨⟨hb,hw⟩,⟨hbf,_⟩,hbp,_⟩ hsz;unfold aA at hb hbf hbp;simp only at hb hw hbf hbp hsz ⊢;have hfl:[f,p].flatten=f++p:=by simp
 rw [hfl];have hR:bX a (f++p)=if ba a (f++p)≠0 then ([],ba a (f++p)) else (be a (f++p),0):=rfl
 have hF:aw a f p=if ba a (f++p)≠0 then ([],[],ba a (f++p)) else if bA p=false then ([],[],3) else
  ((cQ a (be a (f++p)) p).1,f.map fun x=>(ar (be a (f++p)) ((be a (f++p)).map (aG (aa a).1)) p).getD (bG (be a (f++p)) x).toNat 0,0):=rfl
 refine ⟨by rw [List.length_append]; unfold aA; omega,trivial,fun h=>?_,fun h=>?_⟩
 ·have h:=of_decide_eq_true h;by_cases h0:ba a (f++p)≠0
  ·rw [hR,if_pos h0,hF,if_pos h0];exact ⟨by first | trivial | rfl,by first | trivial | rfl,by first | trivial | rfl,trivial⟩
  ·rw [hR,if_neg h0] at h;exact absurd rfl h
 have h:=of_decide_eq_false h
 have h0:ba a (f++p)=0:=by
  by_cases h0:ba a (f++p)≠0
  ·rw [hR,if_pos h0] at h;exact absurd h0 h
  ·omega
 rw [hR,if_neg (by omega),hF,if_neg (by omega)];simp only;refine ⟨trivial,fun h2=>?_,fun h2=>?_⟩
 ·have h2:=of_decide_eq_true h2
  have h3:bA p=false:=by
   cases h3:bA p
   ·rfl
   ·rw [(l7 hw h0 h3).1] at h2;exact absurd rfl h2
  rw [if_pos h3,py h0 h3];exact ⟨by first | trivial | rfl,by first | trivial | rfl,by first | trivial | rfl,trivial⟩
 have h3:bA p=true:=by
  cases h3:bA p
  ·rw [py h0 h3] at h2;exact absurd h2 (by decide)
  ·rfl
 rw [if_neg (by rw [h3]; simp),(l7 hw h0 h3).1];simp only;obtain ⟨k1,k2⟩:=dV h0;have hin:∀ x∈f,x∈be a (f++p):=fun x hx=>(gw hw k1 k2).2 (.base (by simp [hx]))
 have hpl:(ar (be a (f++p)) ((be a (f++p)).map (aG (aa a).1)) p).length=(be a (f++p)).length:=by simp [ar]
 generalize ar (be a (f++p)) ((be a (f++p)).map (aG (aa a).1)) p=to at *;generalize be a (f++p)=keep at *;refine ⟨⟨by omega,by omega,rfl⟩,fun ⟨out,i⟩ ⟨i0,i1,i2⟩=>⟨fun hlt=>?_,fun hge=>?_⟩⟩
 ·simp only at i0 i1 i2 hlt ⊢;have hlt:=of_decide_eq_true hlt;have hs:=bo (0:Int) i0 hlt;have hx:=oR (hin _ (aI (0:Int) i0 hlt));rw [hs,List.map_append,← i2]
  have hol:out.length≤f.length:=by
   rw [i2,List.length_map,List.length_take];omega
  simp only [ak,List.length_cons,List.length_nil];unfold aA;refine ⟨i0,hlt,trivial,hx.1,by omega,by omega,?_,by omega,⟨by omega,by omega,rfl⟩,by omega⟩
  have:out.length=i.toNat:=by
   rw [i2,List.length_map,List.length_take];omega
  omega
 ·simp only at i0 i1 i2 hge ⊢;rw [bF (of_decide_eq_false hge)] at i2;exact ⟨by first | trivial | rfl,i2,by first | trivial | rfl,trivial⟩
theorem Ca:IF.ok Tryz.prog 98:=aF (ann:=Kh) (ae m4 (ae I5 (ae I2 (ae Fy aq)))) Tryz.func98 (by kernel_rfl) Gi
end
section
open Go
set_option maxRecDepth 100000
set_option maxHeartbeats 1000000
def refWord (bs:List Int) (k:Int):Int:=if k=-1 then 0 else bs.getD k.toNat 0+1
def dU (k:Int):List Int:=if 0<k then a6 (0,k - 1,0,true)::List.replicate (k - 1).toNat 0 else []
end
section
open Go
theorem Ci {h:du} (h0:af h=0):aS (a6 h)=h∧aQ (a6 h)=true:=by
 obtain ⟨h1,h2,h3,h4,h5,h6⟩:=bj h0
 have e:aS (a6 h)=h:=by
  obtain ⟨a,b,c,d⟩:=h;simp only at h1 h2 h3 h4 h5;simp only [a6,aS];cases d
  ·simp only [Bool.false_eq_true,if_false,Prod.mk.injEq];refine ⟨by omega,by omega,by omega,decide_eq_false (by omega)⟩
  ·simp only [if_true,Prod.mk.injEq];refine ⟨by omega,by omega,by omega,decide_eq_true (by omega)⟩
 refine ⟨e,?_⟩;unfold aQ;rw [e,h0]
 have:a6 h / 281474976710656≤1:=by
  unfold a6;cases h.2.2.2 <;> simp <;> omega
 simp [this]
theorem cZ (k:Int):(dU k).length=k.toNat:=by
 unfold dU;split
 ·simp only [List.length_cons,List.length_replicate]; omega
 ·simp only [List.length_nil]; omega
def oa (a keep to pinned long:List Int):Nat→List Int
 | 0=>[]
 | i+1=>oa a keep to pinned long i++(dU (cT pinned keep long i - a8 pinned keep long i)++gM a keep to (keep.getD i 0))
def aV (at_ k:Int):aD:=(at_,0,k - 1,0,true)
def r5 (a keep pinned long:List Int):Nat→List aD
 | 0=>[]
 | i+1=>r5 a keep pinned long i++((if a8 pinned keep long i<cT pinned keep long i then [aV (a8 pinned keep long i) (cT pinned keep long i - a8 pinned keep long i)] else [])++[(cT pinned keep long i,dp a (keep.getD i 0))])
section
variable {a keep pinned long:List Int}
theorem it (to:List Int) (hP:Plan a keep pinned long):∀ i:Nat,i≤keep.length→((oa a keep to pinned long i).length:Int)=a8 pinned keep long i
 | 0,_=>by simp [oa,a8]
 | i+1,hi=>by
  have ih:=it to hP i (by omega);have h1:=hP.le i (by omega);have h2:=hP.lg i (by omega);have h3:=jY (a:=a) (keep:=keep) (to:=to) (hP.isb _ (ga (i:=i) (by omega)));have e:a8 pinned keep long (i+1)=cT pinned keep long i+long.getD i 0:=rfl;rw [e];simp only [oa,List.length_append,cZ];omega
theorem Fd (to:List Int) (hP:Plan a keep pinned long):∀ (i:Nat) (R:List Int),i≤keep.length→(eS pinned keep long i).foldl fq (cf a keep to pinned long i++R)=oa a keep to pinned long i++R
 | 0,R,_=>rfl
 | i+1,R,hi=>by
  have hl:=it to hP i (by omega);have h1:=hP.le i (by omega)
  have e:cf a keep to pinned long (i+1)++R=cf a keep to pinned long i++(ib pinned keep long i++(gM a keep to (keep.getD i 0)++R)):=by
   simp only [cf,List.append_assoc]
  rw [e];simp only [eS,List.foldl_append];rw [Fd to hP i _ (by omega)];simp only [oa,List.append_assoc];unfold ib;have e0:(0:Int)≤a8 pinned keep long i:=by omega
  generalize cT pinned keep long i=t at *;generalize a8 pinned keep long i=s at *;by_cases hc:s<t
  ·rw [if_pos hc];simp only [List.foldl_cons,List.foldl_nil,fq,dU];rw [if_pos (by omega),show (t - s).toNat=(t - s - 1).toNat+1 by omega,List.replicate_succ,List.cons_append,kH _ (by omega)];rfl
  ·rw [if_neg hc];have:t - s=0:=by omega
   rw [this];rfl
theorem s9 (to:List Int) (hP:Plan a keep pinned long):kj a keep to pinned long (bV a.length keep long pinned)=oa a keep to pinned long keep.length++dU ((a.length:Int) - a8 pinned keep long keep.length):=by
 have hl:=it to hP keep.length (Nat.le_refl _);have he:=hP.en;unfold kj bV;rw [List.foldl_append,Fd to hP _ _ (Nat.le_refl _)];generalize a8 pinned keep long keep.length=s at *;by_cases hc:s<(a.length:Int)
 ·rw [if_pos hc];simp only [List.foldl_cons,List.foldl_nil,fq,dU];rw [if_pos (by omega),show ((a.length:Int) - s).toNat=((a.length:Int) - s - 1).toNat+1 by omega,List.replicate_succ,kH _ (by omega)]
 ·rw [if_neg hc];have:(a.length:Int) - s=0:=by omega
  rw [this];rfl
theorem kF {at_ v:Int} {r R:List Int} (h:aQ v=true) (hl:ac (aS v)=1+(r.length:Int)):spotsS at_ (v::r++R)=(spotsS (at_+ac (aS v)) R).map ((at_,aS v)::·):=by
 rw [List.cons_append,eJ h (by simp only [List.length_cons,List.length_append]; omega)];congr 2;rw [hl,show (1+(r.length:Int)).toNat=r.length+1 by omega,List.drop_succ_cons,List.drop_left]
theorem Cu {k:Int} (h1:1≤k) (h2:k≤256):af (0,k - 1,0,true)=0:=by
 simp [af,ac]; omega
theorem lw {at_ k:Int} {R:List Int} (h2:k≤256):spotsS at_ (dU k++R)=if 0<k then (spotsS (at_+k) R).map (aV at_ k::·) else spotsS at_ R:=by
 unfold dU;by_cases h:0<k
 ·rw [if_pos h,if_pos h];obtain ⟨e1,e2⟩:=Ci (Cu (k:=k) (by omega) h2);have e3:ac (aS (a6 (0,k - 1,0,true)))=k:=by rw [e1]; simp [ac]; omega
  rw [kF e2 (by rw [e3,List.length_replicate]; omega),e3,e1];rfl
 ·rw [if_neg h,if_neg h];rfl
theorem sX (to:List Int) (hP:Plan a keep pinned long):∀ (i:Nat) (R:List Int),i≤keep.length→spotsS 0 (oa a keep to pinned long i++R)=(spotsS (a8 pinned keep long i) R).map (r5 a keep pinned long i++·)
 | 0,R,_=>by
  simp only [oa,r5,a8,List.nil_append];cases spotsS 0 R <;> rfl
 | i+1,R,hi=>by
  have h1:=hP.le i (by omega);have h2:=hP.lg i (by omega);have hb:=hP.isb _ (ga (i:=i) (by omega:i<keep.length));obtain ⟨_,_,_,o4,o5,_⟩:=gP hb;have h3:=jY (a:=a) (keep:=keep) (to:=to) hb;have hal:=hP.al;have e:a8 pinned keep long (i+1)=cT pinned keep long i+long.getD i 0:=rfl;have e0:=(cg pinned hP.pre i (by omega)).1;have hl:ac (aS (a.getD (keep.getD i 0).toNat 0))=long.getD i 0:=by rw [← o4,h2]; rfl
  have hpc:∀ s,spotsS s (gM a keep to (keep.getD i 0)++R)=(spotsS (s+long.getD i 0) R).map ((s,dp a (keep.getD i 0))::·):=fun s=>by
   unfold gM at h3 ⊢;rw [kF o5 (by rw [hl,h2]; simp only [List.length_cons] at h3; omega),hl,← o4]
  simp only [oa,r5,List.append_assoc];rw [sX to hP i _ (by omega),lw (by omega),e];by_cases hc:a8 pinned keep long i<cT pinned keep long i
  ·rw [if_pos hc,if_pos (by omega),show a8 pinned keep long i+(cT pinned keep long i - a8 pinned keep long i)=cT pinned keep long i by omega,hpc];cases spotsS (cT pinned keep long i+long.getD i 0) R <;> simp
  ·rw [if_neg hc,if_neg (by omega),show a8 pinned keep long i=cT pinned keep long i by omega,hpc];cases spotsS (cT pinned keep long i+long.getD i 0) R <;> simp
def ly (a keep pinned long:List Int):List aD:=r5 a keep pinned long keep.length++(if a8 pinned keep long keep.length<(a.length:Int) then [aV (a8 pinned keep long keep.length) ((a.length:Int) - a8 pinned keep long keep.length)] else [])
theorem n0 (to:List Int) (hP:Plan a keep pinned long):(kj a keep to pinned long (bV a.length keep long pinned)).length=a.length:=by
 have hl:=it to hP keep.length (Nat.le_refl _);have he:=hP.en;rw [s9 to hP,List.length_append,cZ];omega
theorem s8 (to:List Int) (hP:Plan a keep pinned long):aa (kj a keep to pinned long (bV a.length keep long pinned))=(ly a keep pinned long,0):=by
 have hl:=n0 to hP;have hal:=hP.al;have he:=hP.en;have e0:=(cg pinned hP.pre keep.length (Nat.le_refl _)).1;unfold aa;rw [if_neg (by omega),s9 to hP,sX to hP _ _ (Nat.le_refl _)]
 have:spotsS (a8 pinned keep long keep.length) (dU ((a.length:Int) - a8 pinned keep long keep.length))=some (if a8 pinned keep long keep.length<(a.length:Int) then [aV (a8 pinned keep long keep.length) ((a.length:Int) - a8 pinned keep long keep.length)] else []):=by
  have h:=lw (at_:=a8 pinned keep long keep.length) (k:=(a.length:Int) - a8 pinned keep long keep.length) (R:=[]) (by omega);rw [List.append_nil] at h;rw [h];by_cases hc:a8 pinned keep long keep.length<(a.length:Int)
  ·rw [if_pos hc,if_pos (by omega),spotsS]; rfl
  ·rw [if_neg hc,if_neg (by omega),spotsS]
 rw [this];rfl
theorem II (to:List Int) (hP:Plan a keep pinned long) (T:List Int) {i:Nat}:∀ (n:Nat),i<n→n≤keep.length→∃ X Y,oa a keep to pinned long n++T=X++(gM a keep to (keep.getD i 0)++Y)∧(X.length:Int)=cT pinned keep long i
 | n+1,hi,hn=>by
  by_cases h:i=n
  ·subst h;have h1:=hP.le i (by omega);have hl:=it to hP i (by omega);refine ⟨oa a keep to pinned long i++dU (cT pinned keep long i - a8 pinned keep long i),T,?_,?_⟩
   ·simp only [oa,List.append_assoc]
   ·rw [List.length_append,cZ]; omega
  ·obtain ⟨X,Y,e,hx⟩:=II (i:=i) to hP (dU (cT pinned keep long n - a8 pinned keep long n)++(gM a keep to (keep.getD n 0)++T)) n (by omega) (by omega);exact ⟨X,Y,by simp only [oa,List.append_assoc]; exact e,hx⟩
theorem Bl {s:aD}:∀ (n:Nat),s∈r5 a keep pinned long n→s.2.2.2.2=true∧s.2.1=0∨∃ i,i<n∧s=(cT pinned keep long i,dp a (keep.getD i 0))
 | 0,h=>by cases h
 | n+1,h=>by
  simp only [r5,List.mem_append] at h;rcases h with h | h | h
  ·rcases Bl n h with h | ⟨i,hi,e⟩
   ·exact .inl h
   ·exact .inr ⟨i,by omega,e⟩
  ·split at h
   ·rw [List.mem_singleton.1 h]; exact .inl ⟨rfl,rfl⟩
   ·cases h
  ·exact .inr ⟨n,by omega,List.mem_singleton.1 h⟩
theorem Bm {i:Nat}:∀ (n:Nat),i<n→(cT pinned keep long i,dp a (keep.getD i 0))∈r5 a keep pinned long n
 | n+1,hi=>by
  simp only [r5,List.mem_append,List.mem_singleton];by_cases h:i=n
  ·subst h; exact .inr (.inr rfl)
  ·exact .inl (Bm n (by omega))
theorem GV {s:aD} (h:s∈ly a keep pinned long):s.2.2.2.2=true∧s.2.1=0∨∃ i,i<keep.length∧s=(cT pinned keep long i,dp a (keep.getD i 0)):=by
 unfold ly at h;rcases List.mem_append.1 h with h | h
 ·exact Bl _ h
 ·split at h
  ·rw [List.mem_singleton.1 h]; exact .inl ⟨rfl,rfl⟩
  ·cases h
theorem xl {i:Nat} (hi:i<keep.length):(ar keep long pinned).getD i 0=cT pinned keep long i:=by
 unfold ar;rw [List.getD_eq_getElem?_getD,List.getElem?_map,List.getElem?_range hi];rfl
theorem uR:∀ {l:List aD} {t:Int} {h:du},(t,h)∈l→h.2.2.2=false→t∈ah l
 | s::l,t,h,hm,hf=>by
  simp only [ah];rcases List.mem_cons.1 hm with e | hm
  ·subst e;rw [if_neg (by rw [hf]; simp)];exact List.mem_cons_self
  ·have ih:=uR hm hf;split
   ·exact ih
   ·exact List.mem_cons_of_mem _ ih
theorem D4 (hP:Plan a keep pinned long) (hg:(keep.all fun x=>cn keep (ar keep long pinned) (a7 a x))=true):au (kj a keep (ar keep long pinned) pinned long (bV a.length keep long pinned))=(ly a keep pinned long,bJ (ly a keep pinned long),0):=by
 have hs:=s8 (ar keep long pinned) hP;have hw:=s9 (ar keep long pinned) hP;obtain ⟨A,hA⟩:∃ A,A=kj a keep (ar keep long pinned) pinned long (bV a.length keep long pinned):=⟨_,rfl⟩;rw [← hA] at hs hw ⊢;have hsort:=cp A;rw [hs] at hsort;unfold au;rw [hs,if_neg (by simp),if_pos];refine List.all_eq_true.2 fun s hm=>List.all_eq_true.2 fun v hv=>?_
 rcases GV hm with ⟨_,h0⟩ | ⟨i,hi,e⟩
 ·unfold aJ at hv;rw [h0,Int.add_zero,List.drop_of_length_le (by rw [List.length_take]; omega)] at hv;cases hv
 ·have hb:=hP.isb _ (ga (i:=i) hi);obtain ⟨l1,l2,l3,l4,l5,l6⟩:=cI hb;have h1:=hP.le i hi;have e0:=(cg pinned hP.pre i (by omega)).1;obtain ⟨X,Y,eW,hX⟩:=II (ar keep long pinned) hP (dU ((a.length:Int) - a8 pinned keep long keep.length)) keep.length hi (Nat.le_refl _)
  have hr:aJ A s=(a7 a (keep.getD i 0)).map (ee keep (ar keep long pinned)):=by
   unfold aJ;rw [e,hw,eW];simp only;generalize cT pinned keep long i=t at *;obtain ⟨n,rfl⟩:∃ n:Nat,t=n:=⟨X.length,hX.symm⟩;have hn:n=X.length:=by omega
   subst hn;have e1:((X.length:Int)+1+(dp a (keep.getD i 0)).1).toNat=X.length+(1+(a7 a (keep.getD i 0)).length):=by omega
   have e2:((X.length:Int)+1).toNat=X.length+1:=by omega
   rw [e1,e2,List.take_append,List.drop_append];rw [List.drop_of_length_le (by rw [List.length_take]; omega),List.nil_append,show X.length+(1+(a7 a (keep.getD i 0)).length) - X.length=1+(a7 a (keep.getD i 0)).length by omega];rw [List.take_of_length_le (by omega:X.length≤_),show X.length+1 - X.length=1 by omega];unfold gM;rw [Nat.add_comm 1,List.cons_append,List.take_succ_cons,List.drop_succ_cons,List.drop_zero,List.append_assoc,List.take_append_of_le_length (by simp),List.take_of_length_le (by simp)]
  rw [hr] at hv;obtain ⟨u,hu,rfl⟩:=List.mem_map.1 hv;have hgu:=List.all_eq_true.1 (List.all_eq_true.1 hg _ (ga (i:=i) hi)) u hu;unfold bJ;rw [jm _ _ _ 0 hsort];have e3:ee keep (ar keep long pinned) u=(gW keep (ar keep long pinned) u).getD 0:=rfl;by_cases h0:u=0
  ·have:ee keep (ar keep long pinned) u=0:=by rw [e3]; unfold gW; rw [if_pos h0]; rfl
   rw [this];cases mG 0 0 (ly a keep pinned long) <;> rfl
  ·by_cases h2:cP keep (u - 1)=true
   ·have hp:=oR (cG.1 h2)
    have e4:ee keep (ar keep long pinned) u=cT pinned keep long (bG keep (u - 1)).toNat+1:=by
     rw [e3];unfold gW;rw [if_neg h0,if_pos h2,xl (by omega)];rfl
    have hj:(bG keep (u - 1)).toNat<keep.length:=by omega
    rw [e4]
    have e5:(mG (cT pinned keep long (bG keep (u - 1)).toNat+1) 0 (ly a keep pinned long)).isSome=true:=by
     rw [ko,show cT pinned keep long (bG keep (u - 1)).toNat+1 - 1=cT pinned keep long (bG keep (u - 1)).toNat by omega,cG];exact uR (List.mem_append_left _ (Bm (pinned:=pinned) (long:=long) (a:=a) keep.length hj)) (gP (hP.isb _ (ga hj))).2.2.2.2.2
    cases hx:mG (cT pinned keep long (bG keep (u - 1)).toNat+1) 0 (ly a keep pinned long) with
    | none=>rw [hx] at e5; cases e5
    | some k=>rfl
   ·unfold gW at hgu;rw [if_neg h0,if_neg h2] at hgu;cases hgu
def ep (l:List bY):Int:=(l.map (·.2)).sum
def DG:List aD→Int
 | []=>0
 | s::l=>(if s.2.2.2.2=true then ac s.2 else 0)+DG l
def kE:List aD→Int
 | []=>0
 | s::l=>(if s.2.2.2.2=true then 0 else ac s.2)+kE l
theorem mh (l:List bY) (r:bY):ep (l++[r])=ep l+r.2:=by simp [ep]
theorem Gk:∀ (l:List bY) (n:Int),0<l.length→ep (fT l n)=ep l+n:=by
 intro l n h
 obtain ⟨l',r,rfl⟩:∃ l' r,l=l'++[r]:=by
  refine ⟨l.dropLast,l.getLast (by intro e; rw [e] at h; cases h),?_⟩;exact (List.dropLast_concat_getLast _).symm
 unfold fT;have e:(l'++[r]).length - 1=l'.length:=by simp
 have e2:(l'++[r]).getD l'.length (0,0)=r:=by simp
 have e3:∀ x,(l'++[r]).set l'.length x=l'++[x]:=fun x=>by simp
 rw [e,e2,e3,mh,mh];simp only;omega
theorem mi:∀ (l:List aD) (p:Bool) (out:List bY),(p=true→0<out.length)→ep (aU p out l)=ep out+DG l
 | [],_,out,_=>by simp [aU,DG]
 | s::l,p,out,h=>by
  simp only [aU,DG];cases hf:s.2.2.2.2
  ·simp only [Bool.false_eq_true,if_false];rw [mi l false out (fun h=>by cases h)];omega
  ·simp only [if_true];cases hp:p
   ·simp only [Bool.false_eq_true,if_false];rw [mi l true _ (fun _=>by simp),mh];simp only;omega
   ·simp only [if_true];rw [mi l true _ (fun _=>by rw [dj]; exact h hp),Gk _ _ (h hp)];omega
theorem me:∀ {l:List aD} {s e:Int},ft s e l→s+DG l+kE l=e
 | [],s,e,h=>by simp only [ft] at h; simp only [DG,kE]; omega
 | x::l,s,e,⟨_,_,h⟩=>by
  have:=me h;simp only [DG,kE];cases x.2.2.2.2 <;> simp <;> omega
theorem jE:∀ (l k:List aD),kE (l++k)=kE l+kE k
 | [],k=>by simp [kE]
 | s::l,k=>by
  have:=jE l k;simp only [List.cons_append,kE];omega
theorem sV {l:List Int} {n:Nat} (h:n<l.length):l.take (n+1)=l.take n++[l.getD n 0]:=by
 have:=bo (0:Int) (xs:=l) (i:=(n:Int)) (by omega) (by omega);simpa using this
theorem Bk (hb:∀ x∈keep,isB (aa a).1 x=true):∀ n:Nat,n≤keep.length→kE (r5 a keep pinned long n)=((keep.take n).map (aG (aa a).1)).sum
 | 0,_=>by simp [r5,kE]
 | n+1,h=>by
  have ih:=Bk hb n (by omega);rw [sV (by omega)];simp only [r5];rw [jE,jE,ih,List.map_append,List.sum_append];have hf:=(gP (hb _ (ga (i:=n) (by omega)))).2.2.2.2.2
  have e1:kE (if a8 pinned keep long n<cT pinned keep long n then [aV (a8 pinned keep long n) (cT pinned keep long n - a8 pinned keep long n)] else [])=0:=by
   split <;> simp [kE,aV]
  have e2:kE [(cT pinned keep long n,dp a (keep.getD n 0))]=aG (aa a).1 (keep.getD n 0):=by
   simp only [kE,hf];simp [aG,dp]
  rw [e1,e2];simp
theorem GU (hb:∀ x∈keep,isB (aa a).1 x=true):kE (ly a keep pinned long)=(keep.map (aG (aa a).1)).sum:=by
 unfold ly;rw [jE,Bk hb _ (Nat.le_refl _),List.take_length]
 have:kE (if a8 pinned keep long keep.length<(a.length:Int) then [aV (a8 pinned keep long keep.length) ((a.length:Int) - a8 pinned keep long keep.length)] else [])=0:=by
  split <;> simp [kE,aV]
 omega
end
theorem Ju {b:List Int} (h:(aa b).2=0):ep (aU false [] (aa b).1)+kE (aa b).1=b.length:=by
 have:=me (gI h);rw [mi _ _ _ (fun h=>by cases h)];simp only [ep,List.map_nil,List.sum_nil];omega
end
section
open Go
set_option maxRecDepth 100000
set_option maxHeartbeats 1000000
abbrev DA:Ty:=.pair ty_I ty_I
def b6 (n:Int):Int→List (Int×Int)→List Int
 | _,[]=>[]
 | k,r::l=>if n≤r.2 then k::b6 n (k+1) l else b6 n (k+1) l
def dW (l:List (Int×Int)):Bool:=l.any fun r=>decide (r.1<0)||decide (r.2<1)
def eC (l:List (Int×Int)) (n:Int):List Int×Int:=if n<1 then ([],1) else if dW l then ([],4) else if b6 n 0 l=[] then ([],7) else (b6 n 0 l,0)
def bN (l:List (Int×Int)) (n:Int):Int×Int:=if (eC l n).2≠0 then (0,(eC l n).2) else ((eC l n).1.getD 0 0,0)
theorem zI (r:Int×Int) (l:List (Int×Int)):dW (r::l)=(decide (r.1<0)||decide (r.2<1)||dW l):=by
 simp [dW]
def Lc:Nat→Option LoopGen
 | 5=>some { rd:=[.dat 11 (.arr DA),.dat 1 ty_I],A:=fun ((l,n):List (Int×Int)×Int)=>{ cs:=[.own 6 3 ty_I,.dat 13 ty_I],inv:=fun ((out,i):List Int×Int)=>0≤i∧i≤l.length∧1≤n∧out.length≤i∧dW (l.drop i.toNat)=dW l∧out++b6 n i (l.drop i.toNat)=b6 n 0 l,mu:=fun ((_,i):List Int×Int)=>(l.length - i).toNat } }
 | _=>none
def Ky:Spec:={ Ts:=[.arr DA,ty_I],Rs:=[.own 3 ty_I,.dat ty_I],pre:=fun _=>True,F:=fun ((l,n):List (Int×Int)×Int)=>eC l n }
def Fl:Prop :=
  ∀ (x:List (Int×Int)×Int),(x.1.length * (8+8)≤aA∧∀ (x_1:Int×Int),x_1∈x.1→ak .i64 x_1.1∧ak .i64 x_1.2)∧ak .i64 x.2→True→(decide (x.2<1)=true→([]:List Int)=(eC x.1 x.2).1∧1=(eC x.1 x.2).2∧True)∧(decide (x.2<1)=false→((0:Int)≤0∧0≤(↑x.1.length:Int)∧1≤x.2∧(↑(0:Nat):Int)≤0∧dW (List.drop (Int.toNat 0) x.1)=dW x.1∧([]:List Int)++b6 x.2 0 (List.drop (Int.toNat 0) x.1)=b6 x.2 0 x.1)∧∀ (x_1:List Int×Int),0≤x_1.2∧x_1.2≤(↑x.1.length:Int)∧1≤x.2∧(↑x_1.1.length:Int)≤x_1.2∧dW (List.drop x_1.2.toNat x.1)=dW x.1∧x_1.1++b6 x.2 x_1.2 (List.drop x_1.2.toNat x.1)=b6 x.2 0 x.1→(decide (x_1.2<(↑x.1.length:Int))=true→0≤x_1.2∧x_1.2<(↑x.1.length:Int)∧((decide ((x.1.getD x_1.2.toNat (0,0)).1<0)||decide ((x.1.getD x_1.2.toNat (0,0)).2<1))=true→([]:List Int)=(eC x.1 x.2).1∧4=(eC x.1 x.2).2∧True)∧((decide ((x.1.getD x_1.2.toNat (0,0)).1<0)||decide ((x.1.getD x_1.2.toNat (0,0)).2<1))=false→(decide (x.2≤(x.1.getD x_1.2.toNat (0,0)).2)=true→(x_1.1.length+[x_1.2].length) * 8≤aA∧ak .i64 (x_1.2+1)∧(0≤x_1.2+1∧x_1.2+1≤(↑x.1.length:Int)∧1≤x.2∧(↑(x_1.1++[x_1.2]).length:Int)≤x_1.2+1∧dW (List.drop (x_1.2+1).toNat x.1)=dW x.1∧x_1.1++[x_1.2]++b6 x.2 (x_1.2+1) (List.drop (x_1.2+1).toNat x.1)=b6 x.2 0 x.1)∧((↑x.1.length:Int) - (x_1.2+1)).toNat<((↑x.1.length:Int) - x_1.2).toNat)∧(decide (x.2≤(x.1.getD x_1.2.toNat (0,0)).2)=false→ak .i64 (x_1.2+1)∧(0≤x_1.2+1∧x_1.2+1≤(↑x.1.length:Int)∧1≤x.2∧(↑x_1.1.length:Int)≤x_1.2+1∧dW (List.drop (x_1.2+1).toNat x.1)=dW x.1∧x_1.1++b6 x.2 (x_1.2+1) (List.drop (x_1.2+1).toNat x.1)=b6 x.2 0 x.1)∧((↑x.1.length:Int) - (x_1.2+1)).toNat<((↑x.1.length:Int) - x_1.2).toNat)))∧(decide (x_1.2<(↑x.1.length:Int))=false→(decide ((↑x_1.1.length:Int)=0)=true→([]:List Int)=(eC x.1 x.2).1∧7=(eC x.1 x.2).2∧True)∧(decide ((↑x_1.1.length:Int)=0)=false→x_1.1=(eC x.1 x.2).1∧0=(eC x.1 x.2).2∧True)))
theorem H8:Fl:=by
 unfold Fl;intro ⟨l,n⟩ ⟨⟨hl,_⟩,hn⟩ _;unfold aA at *;have hb0:dW []=false:=rfl;have hf0:∀ k,b6 n k []=[]:=fun _=>rfl
 refine ⟨fun h=>?_,fun h=>⟨⟨by omega,by grind,by grind,by simp,by simp,by simp⟩,fun ⟨out,i⟩ ⟨h0,h1,h2,h3,h4,h5⟩=>⟨fun hlt=>?_,fun hge=>?_⟩⟩⟩
 ·simp only [eC]; grind
 ·have hlt:i<(l.length:Int):=by simpa using hlt
  have e:=aW ((0,0):Int×Int) h0 hlt;simp only at *;simp only [e,zI,b6] at h4 h5;simp only [eC,ak,List.length_append,List.length_cons,List.length_nil]
  repeat' (first | apply And.intro | intro _)
  all_goals grind
 ·simp only at *;rw [bt (by simpa using hge),hb0] at h4;rw [bt (by simpa using hge),hf0,List.append_nil] at h5;simp only [eC,← h4,← h5];by_cases ho:out=[]
  ·subst ho;have:¬ n<1:=by omega
   simp [this]
  ·have:¬ n<1:=by omega
   simp [this,ho]
theorem KN:Ky.ok Tryz.prog 129:=aF (ann:=Lc) aq Tryz.func129 (by kernel_rfl) H8
def ID:Spec:={ Ts:=[.arr DA,ty_I],Rs:=[.dat ty_I,.dat ty_I],pre:=fun _=>True,F:=fun ((l,n):List (Int×Int)×Int)=>bN l n }
def BM:Prop :=
  ∀ (x:List (Int×Int)×Int),(x.1.length * (8+8)≤aA∧∀ (x_1:Int×Int),x_1∈x.1→ak .i64 x_1.1∧ak .i64 x_1.2)∧ak .i64 x.2→True→True∧(decide ((eC x.1 x.2).2≠0)=true→0=(bN x.1 x.2).1∧(eC x.1 x.2).2=(bN x.1 x.2).2∧True)∧(decide ((eC x.1 x.2).2≠0)=false→(0:Int)≤0∧0<(↑(eC x.1 x.2).1.length:Int)∧Int.toNat 0<(eC x.1 x.2).1.length∧(eC x.1 x.2).1.getD (Int.toNat 0) 0=(bN x.1 x.2).1∧0=(bN x.1 x.2).2∧True)
theorem Gg:BM:=by
 unfold BM;intro ⟨l,n⟩ _ _;have h:(eC l n).2=0→(eC l n).1≠[]:=by unfold eC; grind
 simp only [bN];cases hc:(eC l n).1 <;> grind
theorem Je:ID.ok Tryz.prog 95:=aF (ann:=cw) (ae KN aq) Tryz.func95 (by kernel_rfl) Gg
end
section
open Go
theorem bZ (t k:Int):ac (aV t k).2=k:=by simp [aV,ac]; omega
def bS:List aD→List aD
 | []=>[]
 | x::l=>if x.2.2.2.2=true then (match bS l with
   | []=>[aV x.1 (ac x.2)]
   | y::r=>if y.2.2.2.2=true then aV x.1 (ac x.2+ac y.2)::r else aV x.1 (ac x.2)::y::r) else x::bS l
def iq (a:List Int):List aD→List Int
 | []=>[]
 | s::l=>(if s.2.2.2.2=true then dU (ac s.2) else (a.drop s.1.toNat).take (ac s.2).toNat)++iq a l
def go:List aD→List bY
 | []=>[]
 | s::l=>if s.2.2.2.2=true then (s.1,ac s.2)::go l else go l
theorem Hx (x:aD) (l:List aD) (h:x.2.2.2.2=true):bS (x::l)=bS (aV x.1 (ac x.2)::l):=by
 simp only [bS];rw [if_pos h,if_pos (show (aV x.1 (ac x.2)).2.2.2.2=true from rfl),bZ];rfl
theorem Jn (t n:Int) (x:aD) (l:List aD) (h:x.2.2.2.2=true):bS (aV t n::x::l)=bS (aV t (n+ac x.2)::l):=by
 have e:∀ m,bS (aV t m::l)=match bS l with
   | []=>[aV t m]
   | y::r=>if y.2.2.2.2=true then aV t (m+ac y.2)::r else aV t m::y::r:=fun m=>by
  simp only [bS];rw [if_pos (show (aV t m).2.2.2.2=true from rfl),bZ];rfl
 have e2:bS (aV t n::x::l)=match bS (x::l) with
   | []=>[aV t n]
   | y::r=>if y.2.2.2.2=true then aV t (n+ac y.2)::r else aV t n::y::r:=by
  rw [bS];rw [if_pos (show (aV t n).2.2.2.2=true from rfl),bZ];rfl
 rw [e2,e];simp only [bS];rw [if_pos h];cases hj:bS l with
 | nil =>
  simp only;rw [if_pos (show (aV x.1 (ac x.2)).2.2.2.2=true from rfl),bZ]
 | cons y r =>
  simp only;by_cases hy:y.2.2.2.2=true
  ·rw [if_pos hy,if_pos hy];simp only;rw [if_pos (show (aV x.1 (ac x.2+ac y.2)).2.2.2.2=true from rfl),bZ,Int.add_assoc]
  ·rw [if_neg hy,if_neg hy];simp only;rw [if_pos (show (aV x.1 (ac x.2)).2.2.2.2=true from rfl),bZ]
theorem lO (x:aD) (l:List aD) (h:¬ x.2.2.2.2=true):bS (x::l)=x::bS l:=by
 simp only [bS]; rw [if_neg h]
theorem wb (t n:Int) (x:aD) (l:List aD) (h:¬ x.2.2.2.2=true):bS (aV t n::x::l)=aV t n::x::bS l:=by
 rw [bS,lO x l h];rw [if_pos (show (aV t n).2.2.2.2=true from rfl),bZ];simp only;rw [if_neg h];rfl
theorem xF:∀ (l:List aD),(∀ out,aU false out l=out++go (bS l))∧∀ out t n,aU true (out++[(t,n)]) l=out++go (bS (aV t n::l))
 | []=>by
  refine ⟨fun out=>by simp [aU,bS,go],fun out t n=>?_⟩
  have e:bS [aV t n]=[aV t n]:=by
   rw [bS,if_pos (show (aV t n).2.2.2.2=true from rfl),bZ];rfl
  rw [e];simp only [aU,go];rw [if_pos (show (aV t n).2.2.2.2=true from rfl),bZ];rfl
 | x::l=>by
  obtain ⟨h1,h2⟩:=xF l;by_cases hx:x.2.2.2.2=true
  ·refine ⟨fun out=>?_,fun out t n=>?_⟩
   ·simp only [aU];rw [hx];simp only [if_true,Bool.false_eq_true,if_false];rw [h2,Hx x l hx]
   ·simp only [aU];rw [hx];simp only [if_true];rw [qx,h2,Jn t n x l hx]
  ·have hf:x.2.2.2.2=false:=by simpa using hx
   refine ⟨fun out=>?_,fun out t n=>?_⟩
   ·simp only [aU];rw [hf];simp only [Bool.false_eq_true,if_false];rw [h1,lO x l hx];simp only [go];rw [if_neg hx]
   ·simp only [aU];rw [hf];simp only [Bool.false_eq_true,if_false];rw [h1,wb t n x l hx];simp only [go];rw [if_pos (show (aV t n).2.2.2.2=true from rfl),if_neg hx,bZ];simp [aV]
theorem nV:∀ {l:List aD} {s e:Int},ft s e l→s≤e
 | [],s,e,h=>by simp only [ft] at h; omega
 | x::l,s,e,⟨_,h1,h2⟩=>by have:=nV h2; omega
theorem ui:∀ {l:List aD} {s e:Int},ft s e l→ft s e (bS l)
 | [],s,e,h=>h
 | x::l,s,e,⟨h0,h1,h2⟩=>by
  have ih:=ui h2;by_cases hx:x.2.2.2.2=true
  ·simp only [bS];rw [if_pos hx];cases hj:bS l with
   | nil =>
    rw [hj] at ih;simp only [ft] at ih ⊢;rw [bZ];exact ⟨h0,h1,ih⟩
   | cons y r =>
    rw [hj] at ih;obtain ⟨i0,i1,i2⟩:=ih;simp only;by_cases hy:y.2.2.2.2=true
    ·rw [if_pos hy];simp only [ft];rw [bZ];exact ⟨h0,by omega,by rw [← Int.add_assoc]; exact i2⟩
    ·rw [if_neg hy];simp only [ft];rw [bZ];exact ⟨h0,h1,i0,i1,i2⟩
  ·rw [lO x l hx];exact ⟨h0,h1,ih⟩
theorem uj:∀ {l:List aD} {s:aD},s∈bS l→(s=aV s.1 (ac s.2))∨(s∈l∧s.2.2.2.2=false)
 | x::l,s,h=>by
  have ih:=fun (h:s∈bS l)=>uj h
  have fs:∀ t n,aV t n=aV (aV t n).1 (ac (aV t n).2):=fun t n=>by rw [bZ]; rfl
  by_cases hx:x.2.2.2.2=true
  ·simp only [bS] at h;rw [if_pos hx] at h;cases hj:bS l with
   | nil =>
    rw [hj] at h;rw [List.mem_singleton.1 h];exact .inl (fs _ _)
   | cons y r =>
    rw [hj] at h ih;simp only at h;split at h
    ·rcases List.mem_cons.1 h with e | h
     ·rw [e]; exact .inl (fs _ _)
     ·rcases ih (List.mem_cons_of_mem _ h) with h | h
      ·exact .inl h
      ·exact .inr ⟨List.mem_cons_of_mem _ h.1,h.2⟩
    ·rcases List.mem_cons.1 h with e | h
     ·rw [e]; exact .inl (fs _ _)
     ·rcases ih h with h | h
      ·exact .inl h
      ·exact .inr ⟨List.mem_cons_of_mem _ h.1,h.2⟩
  ·rw [lO x l hx] at h;rcases List.mem_cons.1 h with e | h
   ·rw [e]; exact .inr ⟨List.mem_cons_self,by simpa using hx⟩
   ·rcases ih h with h | h
    ·exact .inl h
    ·exact .inr ⟨List.mem_cons_of_mem _ h.1,h.2⟩
theorem rT:∀ (l:List aD),ah (bS l)=ah l
 | []=>rfl
 | x::l=>by
  have ih:=rT l;have fs:∀ t n,(aV t n).2.2.2.2=true:=fun _ _=>rfl
  by_cases hx:x.2.2.2.2=true
  ·simp only [bS,ah];rw [if_pos hx,if_pos hx];cases hj:bS l with
   | nil =>
    rw [hj] at ih;simp only [ah];rw [if_pos (fs _ _)];exact ih
   | cons y r =>
    rw [hj] at ih;simp only;by_cases hy:y.2.2.2.2=true
    ·simp only [ah] at ih;rw [if_pos hy] at ih;rw [if_pos hy];simp only [ah];rw [if_pos (fs _ _)];exact ih
    ·rw [if_neg hy]
     have:ah (aV x.1 (ac x.2)::y::r)=ah (y::r):=by
      rw [ah,if_pos (fs _ _)]
     rw [this,ih]
  ·rw [lO x l hx];simp only [ah];rw [if_neg hx,if_neg hx,ih]
theorem uI {P R:List Int} {s L:Int} (hp:P.length=s.toNat) (h0:0≤s) (h1:0<L) (h2:L.toNat≤R.length):aR (P++R) s L=P++(dU L++R.drop L.toNat):=by
 unfold aR dA lj dU;rw [if_pos h1,if_pos h1,← hp,List.take_left,List.take_of_length_le (by simp)];have e:(P++R).drop (P.length+L.toNat)=R.drop L.toNat:=by rw [← List.drop_drop,List.drop_left]
 rw [e,show L.toNat=(L - 1).toNat+1 by omega,List.replicate_succ,List.cons_append,kH _ rfl];rfl
theorem qd {a:List Int}:∀ (k:List aD) (s:Int) (P:List Int),ft s a.length k→0≤s→P.length=s.toNat→(go k).foldl (fun a r=>aR a r.1 r.2) (P++a.drop s.toNat)=P++iq a k
 | [],s,P,h,h0,hp=>by
  simp only [ft] at h;simp only [go,List.foldl_nil,iq];rw [List.drop_of_length_le (by omega)]
 | x::k,s,P,⟨e0,h1,h2⟩,h0,hp=>by
  have hle:=nV h2;subst e0;simp only [go,iq];by_cases hx:x.2.2.2.2=true
  ·rw [if_pos hx,if_pos hx];simp only [List.foldl_cons];rw [uI hp h0 (by omega) (by rw [List.length_drop]; omega),List.drop_drop,← List.append_assoc,← List.append_assoc,show x.1.toNat+(ac x.2).toNat=(x.1+ac x.2).toNat by omega];exact qd k (x.1+ac x.2) _ h2 (by omega) (by rw [List.length_append,cZ]; omega)
  ·rw [if_neg hx,if_neg hx]
   have e:P++a.drop x.1.toNat=(P++(a.drop x.1.toNat).take (ac x.2).toNat)++a.drop (x.1+ac x.2).toNat:=by
    rw [List.append_assoc,show (x.1+ac x.2).toNat=x.1.toNat+(ac x.2).toNat by omega,← List.drop_drop,List.take_append_drop]
   rw [e,← List.append_assoc];exact qd k (x.1+ac x.2) _ h2 (by omega) (by rw [List.length_append,List.length_take,List.length_drop]; omega)
theorem qy {a:List Int} (hal:a.length≤256):∀ (k:List aD) (s:Int),ft s a.length k→0≤s→(∀ x∈k,x.2.2.2.2=false→x.2=aS (a.getD x.1.toNat 0)∧aQ (a.getD x.1.toNat 0)=true)→(∀ x∈k,x.2.2.2.2=true→x=aV x.1 (ac x.2))→spotsS s (iq a k)=some k
 | [],s,_,_,_,_=>by rw [iq,spotsS]
 | x::k,s,⟨e0,h1,h2⟩,h0,hn,hf=>by
  have hle:=nV h2;have ih:=qy hal k (s+ac x.2) h2 (by omega) (fun y hy=>hn y (List.mem_cons_of_mem _ hy)) (fun y hy=>hf y (List.mem_cons_of_mem _ hy));subst e0;simp only [iq];by_cases hx:x.2.2.2.2=true
  ·rw [if_pos hx,lw (by omega),if_pos (by omega),ih,Option.map_some,← hf x List.mem_cons_self hx]
  ·rw [if_neg hx];obtain ⟨e1,e2⟩:=hn x List.mem_cons_self (by simpa using hx)
   have e3:(a.drop x.1.toNat).take (ac x.2).toNat=a.getD x.1.toNat 0::(a.drop (x.1.toNat+1)).take ((ac x.2).toNat - 1):=by
    have hlt:x.1.toNat<a.length:=by omega
    rw [List.drop_eq_getElem_cons hlt,show (ac x.2).toNat=((ac x.2).toNat - 1)+1 by omega,List.take_succ_cons];simp [List.getD_eq_getElem?_getD,hlt]
   rw [e3,kF e2 (by rw [← e1,List.length_take,List.length_drop]; omega),← e1,ih];rfl
theorem sz {a:List Int}:∀ (k:List aD) (s:Int) {x:aD},ft s a.length k→0≤s→x∈k→∃ X Y,iq a k=X++((if x.2.2.2.2=true then dU (ac x.2) else (a.drop x.1.toNat).take (ac x.2).toNat)++Y)∧(X.length:Int)=x.1 - s∧0≤x.1∧1≤ac x.2∧x.1+ac x.2≤a.length
 | y::k,s,x,⟨e0,h1,h2⟩,h0,hm=>by
  have hle:=nV h2;rcases List.mem_cons.1 hm with e | hm
  ·subst e;exact ⟨[],iq a k,rfl,by simp; omega,by omega,h1,by omega⟩
  ·obtain ⟨X,Y,e,hx,p1,p2,p3⟩:=sz k (s+ac y.2) h2 (by omega) hm;refine ⟨(if y.2.2.2.2=true then dU (ac y.2) else (a.drop y.1.toNat).take (ac y.2).toNat)++X,Y,?_,?_,p1,p2,p3⟩
   ·rw [iq,e,List.append_assoc]
   ·rw [List.length_append];split
    ·rw [cZ]; omega
    ·rw [List.length_take,List.length_drop]; omega
theorem G0 {a b:List Int} {x:aD} (h0:0≤x.1) (h1:0≤x.2.1) (h:∀ j:Nat,x.1+1≤j→(j:Int)<x.1+1+x.2.1→b[j]?=a[j]?):aJ b x=aJ a x:=by
 unfold aJ;apply List.ext_getElem?;intro j;rw [List.getElem?_drop,List.getElem?_drop,List.getElem?_take,List.getElem?_take];split
 ·exact h _ (by omega) (by omega)
 ·rfl
theorem Gn {a:List Int} {l:List aD} (h1:a.length≤256) (h2:spotsS 0 a=some l):aa a=(l,0):=by
 unfold aa;rw [if_neg (by omega),h2]
theorem Ew {a:List Int} (hc:(au a).2.2=0):au (dm a).1=(bS (aa a).1,bJ (bS (aa a).1),0)∧(dm a).1=iq a (bS (aa a).1)∧ft 0 a.length (bS (aa a).1)∧(dm a).1.length=a.length∧aU false [] (aa a).1=go (bS (aa a).1):=by
 obtain ⟨hal,_,_,h0,_,hr,_⟩:=b7 hc;have ht:=gI h0;have hj:=ui ht;have hg:aU false [] (aa a).1=go (bS (aa a).1):=by rw [(xF _).1]; rfl
 have hw:(dm a).1=iq a (bS (aa a).1):=by
  unfold dm;rw [if_neg (by omega),hg];have:=qd (a:=a) (bS (aa a).1) 0 [] hj (by omega) rfl;simpa using this
 have hfr:∀ x∈bS (aa a).1,x.2.2.2.2=true→x=aV x.1 (ac x.2):=fun x hx hf=>by
  rcases uj hx with h | h
  ·exact h
  ·rw [h.2] at hf; cases hf
 have hnf:∀ x∈bS (aa a).1,x.2.2.2.2=false→x∈(aa a).1:=fun x hx hf=>by
  rcases uj hx with h | h
  ·rw [h] at hf; cases hf
  ·exact h.1
 have hsp:=qy hal (bS (aa a).1) 0 hj (by omega) (fun x hx hf=>qD x (hnf x hx hf)) hfr
 have hlen:(iq a (bS (aa a).1)).length=a.length:=by
  have:=nX 0 _ _ hsp;have h1:=me this;have h2:=me hj;omega
 have hS:aa (iq a (bS (aa a).1))=(bS (aa a).1,0):=Gn (by omega) hsp;have hsort:=cp (iq a (bS (aa a).1));rw [hS] at hsort;refine ⟨?_,hw,hj,by rw [hw]; exact hlen,hg⟩;rw [hw];unfold au;rw [hS,if_neg (by simp),if_pos];refine List.all_eq_true.2 fun s hs=>?_
 cases hf:s.2.2.2.2
 ·have hm:=hnf s hs hf;obtain ⟨_,hin,_⟩:=dw a s hm;obtain ⟨X,Y,e,hX,p1,p2,p3⟩:=sz _ 0 hj (by omega) hs;rw [if_neg (by rw [hf]; simp)] at e;have hL:ac s.2=1+s.2.1+s.2.2.1:=rfl;unfold cm at hin
  have er:aJ (iq a (bS (aa a).1)) s=aJ a s:=by
   refine G0 p1 hin.2.1 fun j j1 j2=>?_
   rw [e,List.getElem?_append_right (by omega),List.getElem?_append_left (by rw [List.length_take,List.length_drop]; omega),List.getElem?_take,if_pos (by omega),List.getElem?_drop];congr 1;omega
  rw [er];have h3:=List.all_eq_true.1 hr s hm;refine List.all_eq_true.2 fun v hv=>?_
  have h4:=List.all_eq_true.1 h3 v hv;unfold bJ at h4 ⊢;rw [jm _ _ _ 0 (cp a)] at h4;rw [jm _ _ _ 0 hsort];have e1:(mG v 0 (bS (aa a).1)).isSome=(mG v 0 (aa a).1).isSome:=by rw [ko,ko,rT]
  cases h5:mG v 0 (aa a).1 with
  | none =>
   rw [h5] at h4 e1;cases h6:mG v 0 (bS (aa a).1) with
   | none=>exact h4
   | some k=>rfl
  | some k =>
   rw [h5] at e1;cases h6:mG v 0 (bS (aa a).1) with
   | none=>rw [h6] at e1; cases e1
   | some k=>rfl
 ·rw [hfr s hs hf]
  have:aJ (iq a (bS (aa a).1)) (aV s.1 (ac s.2))=[]:=by
   unfold aJ aV;simp only [Int.add_zero];exact List.drop_of_length_le (by rw [List.length_take]; omega)
  rw [this];rfl
theorem nF:∀ {l:List aD} {r:bY},r∈go l→∃ s∈l,s.2.2.2.2=true∧r=(s.1,ac s.2)
 | x::l,r,h=>by
  simp only [go] at h;split at h
  ·rename_i hx;rcases List.mem_cons.1 h with e | h
   ·exact ⟨x,List.mem_cons_self,hx,e⟩
   ·obtain ⟨s,hs,h⟩:=nF h;exact ⟨s,List.mem_cons_of_mem _ hs,h⟩
  ·obtain ⟨s,hs,h⟩:=nF h;exact ⟨s,List.mem_cons_of_mem _ hs,h⟩
def zf (a:List Int) (r:bY) (h:du):List Int:=(aR (dm a).1 (r.1+ac h) (r.2 - ac h)).set r.1.toNat (a6 h)
theorem Ed {a:List Int} (hc:(au a).2.2=0) {r:bY} {h:du} (hr:r∈aU false [] (aa a).1) (h0:af h=0) (hf:h.2.2.2=false) (hl:ac h≤r.2):eo (dm a).1 r.1 h=(zf a r h,0):=by
 obtain ⟨h1,h2,h3,h4,h5⟩:=Ew hc;obtain ⟨hal,_⟩:=b7 hc;rw [h5] at hr;obtain ⟨s,hs,hsf,e⟩:=nF hr;have hz:(au (dm a).1).2.2=0:=by rw [h1]
 have hsp:(aa (dm a).1).1=bS (aa a).1:=by
  have:=(b7 hz).2.2.1;rw [h1] at this;exact this.symm
 obtain ⟨X,Y,eW,hX,p1,p2,p3⟩:=sz _ 0 h3 (by omega) hs;rw [if_pos hsf] at eW;have e1:r.1=s.1:=by rw [e]
 have e2:r.2=ac s.2:=by rw [e]
 obtain ⟨g1,g2⟩:=DE hz r.1 h;have hsort:=cp (dm a).1;rw [hsp] at g1 g2 hsort;have hrm:iH r.1 0 (bS (aa a).1)=r.2:=by rw [e2]; exact tj _ 0 s hsort hs e1.symm hsf
 have hn:=bj h0;have hL:ac h=1+h.1+h.2.1:=rfl;have e0:sg h=0:=by unfold sg; rw [hf,if_neg (by simp),h0]
 have ez:fL (sg h) r.2 (ac h)=0:=by unfold fL; rw [e0,if_neg (by omega),if_neg (by omega),if_neg (by omega)]
 rw [hrm,ez,if_neg (by omega)] at g1;have hlp:dy (dm a).1 r.1 r.2:=⟨by omega,by omega,by omega,by omega⟩;obtain ⟨t1,_⟩:=DD hlp (n:=ac h) (by omega) hl (a6 h);rw [g1,← t1]
 have hi:aR (dm a).1 r.1 r.2=(dm a).1:=by
  rw [h2,eW,e1,e2,uI (by omega) p1 (by omega) (by rw [List.length_append,cZ]; omega),List.drop_append_of_le_length (by rw [cZ]; omega),List.drop_of_length_le (by rw [cZ]; omega),List.nil_append]
 rw [hi];rfl
theorem xJ (n:Int):∀ (l:List bY) (k:Int),match l.find? (fun r=>decide (n≤r.2)) with
  | none=>b6 n k l=[]
  | some r=>∃ i,0≤i∧i<(l.length:Int)∧l.getD i.toNat (0,0)=r∧b6 n k l≠[]∧(b6 n k l).getD 0 0=k+i
 | [],k=>rfl
 | r::l,k=>by
  have ih:=xJ n l (k+1);by_cases h:n≤r.2
  ·rw [List.find?_cons_of_pos (by simpa using h)];simp only [b6];rw [if_pos h];exact ⟨0,by omega,by simp,rfl,by simp,by simp⟩
  ·rw [List.find?_cons_of_neg (by simpa using h)];simp only [b6];rw [if_neg h];cases hf:l.find? (fun r=>decide (n≤r.2)) with
   | none=>rw [hf] at ih; exact ih
   | some q =>
    rw [hf] at ih;obtain ⟨i,i0,i1,i2,i3,i4⟩:=ih;refine ⟨i+1,by omega,by simp only [List.length_cons]; omega,?_,i3,by omega⟩;rw [show (i+1).toNat=i.toNat+1 by omega];exact i2
def ir (a:List Int) (h:du):List Int×Int×Bool:=match (aU false [] (aa a).1).find? (fun r=>decide (ac h≤r.2)) with
 | none=>([],0,false)
 | some r=>(zf a r h,r.1,true)
theorem HD {n:Int} {l:List bY} (hn:1≤n) (hg:∀ r∈l,0≤r.1∧1≤r.2):bN l n=if b6 n 0 l=[] then (0,7) else ((b6 n 0 l).getD 0 0,0):=by
 have hb:dW l=false:=by
  unfold dW;rw [List.any_eq_false];intro r hr;have:=hg r hr;simp;omega
 have e:eC l n=if b6 n 0 l=[] then ([],7) else (b6 n 0 l,0):=by
  unfold eC;rw [if_neg (show ¬ n<1 by omega),hb,if_neg (by simp)]
 unfold bN;rw [e];by_cases h:b6 n 0 l=[]
 ·rw [if_pos h,if_pos h];rfl
 ·rw [if_neg h,if_neg h];rfl
end
section
open Go
set_option maxRecDepth 100000
set_option maxHeartbeats 1000000
def uM (o:List Int) (x:Int):List Int:=if cP o x=true then o else o++[x]
theorem qt:∀ (l o:List Int),∃ k,l.foldl uM o=o++k∧∀ x∈k,x∈l
 | [],o=>⟨[],by simp,fun x hx=>by cases hx⟩
 | y::l,o=>by
  obtain ⟨k,h1,h2⟩:=qt l (uM o y);rw [List.foldl_cons,h1];unfold uM;split
  ·exact ⟨k,rfl,fun x hx=>List.mem_cons_of_mem _ (h2 x hx)⟩
  ·refine ⟨y::k,by simp,fun x hx=>?_⟩;rcases List.mem_cons.1 hx with rfl | hx
   ·simp
   ·exact List.mem_cons_of_mem _ (h2 x hx)
theorem lZ:∀ (l o:List Int),o.Nodup→(l.foldl uM o).Nodup
 | [],_,h=>h
 | y::l,o,h=>by
  rw [List.foldl_cons];refine lZ l _ ?_;unfold uM;split
  ·exact h
  ·rename_i hn;rw [List.nodup_append];refine ⟨h,by simp,fun x hx z hz=>?_⟩;rw [List.mem_singleton.1 hz];rintro rfl;exact hn (cG.2 hx)
structure Came (a f o:List Int):Prop where
 nodup:o.Nodup
 only:∀ x∈o,Rch a f x
theorem Came.length {a f o:List Int} (hw:∀ x∈a,ak .u64 x) (hc:(au a).2.2=0) (hf:∀ x∈f,isB (aa a).1 x=true) (h:Came a f o):o.length≤256 :=
 mz h.nodup fun x hx=>gE ((h.only x hx).isB hw hc hf)
theorem Came.first {a f:List Int} {l:List Int} (h:∀ x∈l,x∈f):Came a f (l.foldl uM []):=by
 refine ⟨lZ _ _ List.nodup_nil,fun x hx=>?_⟩;obtain ⟨k,h1,h2⟩:=qt l [];rw [h1,List.nil_append] at hx;exact .base (h x (h2 x hx))
theorem wI:∀ {l:List aD} {s t:aD},l.Pairwise (fun s t=>s.1<t.1)→s∈l→t∈l→s.1=t.1→s=t
 | u::l,s,t,h,hs,ht,e=>by
  obtain ⟨h1,h2⟩:=List.pairwise_cons.1 h;rcases List.mem_cons.1 hs with e1 | hs2 <;> rcases List.mem_cons.1 ht with e2 | ht2
  ·rw [e1,e2]
  ·have:=h1 t ht2; rw [← e1] at this; omega
  ·have:=h1 s hs2; rw [← e2] at this; omega
  ·exact wI h2 hs2 ht2 e
theorem J2 {a:List Int} (hc:(au a).2.2=0) {x:Int} (hx:isB (aa a).1 x=true):0≤ai (fun s:aD=>decide (s.1=x)) 0 (au a).1∧(au a).1.getD (ai (fun s:aD=>decide (s.1=x)) 0 (au a).1).toNat (0,0,0,0,false)=(x,dp a x)∧db a x=(gO a (x,dp a x) (au a).2.1,0):=by
 obtain ⟨_,_,e1,_,_,_,_⟩:=b7 hc;have hm:=(gP hx).1
 have hge:0≤ai (fun s:aD=>decide (s.1=x)) 0 (au a).1:=by
  have h:=cW (fun s:aD=>decide (s.1=x)) (au a).1 0 (by omega);rw [e1] at h ⊢;refine of_decide_eq_true (h.trans (List.any_eq_true.2 ⟨_,hm,by simp⟩))
 have hlt:=dq (fun s:aD=>decide (s.1=x)) (0,0,0,0,false) (au a).1 0 (by omega)
 have hg:(au a).1.getD (ai (fun s:aD=>decide (s.1=x)) 0 (au a).1).toNat (0,0,0,0,false)=(x,dp a x):=by
  have h1:=gH (fun s:aD=>decide (s.1=x)) (0,0,0,0,false) (au a).1 0 hge (by omega);rw [Int.sub_zero] at h1;have h2:=aI ((0,0,0,0,false):aD) hge (by omega:ai (fun s:aD=>decide (s.1=x)) 0 (au a).1<((au a).1.length:Int));rw [e1] at h1 h2 ⊢;exact wI (cp a) h2 hm (of_decide_eq_true h1)
 refine ⟨hge,hg,?_⟩;unfold db;rw [if_neg (by omega),if_neg (by omega),hg]
theorem Cq {a f:List Int} (hw:∀ x∈a,ak .u64 x):rN a [f]=ba a f:=by
 unfold rN ba;rw [rV hw];by_cases h:(au a).2.2≠0
 ·rw [if_pos h,if_pos h]
 ·rw [if_neg h,if_neg h]
  have:([f].all fun l=>l.all (cP (ah (aa a).1)))=f.all (isB (aa a).1):=by
   simp only [List.all_cons,List.all_nil,Bool.and_true];congr 1;funext x;exact hZ x _
  rw [this]
end
end Go.Proofs.YtglchojglcobjaaGreatDoor
