
import Derived.Test.YtglchojglcobjaaGreatInts
import Derived.Test.YtglchojglcobjaaGreatRowSort
namespace Go.Proofs.YtglchojglcobjaaGreat
open Go
set_option maxRecDepth 100000
set_option maxHeartbeats 1000000
def bW (v n:Int):Bool:=decide (-1≤v)&&decide (v<n)
def ay (r:List Int) (n:Int):Int:=if n<0∨256<n then 4 else if 32<r.length then 2 else if (r.any fun v=>!bW v n)=true then 4 else 0
def bz (r:List Int) (n:Int):List Int×Int :=
 if ay r n≠0 then ([],ay r n) else (eY (dN (r.filter fun v=>!decide (v<0))),0)
def lM (to:List Int) (v:Int):Int:=if 0≤v then to.getD v.toNat 0 else v
def bw (r:List Int) (n:Int) (to:List Int):List Int×Int :=
 if ay r n≠0 then ([],ay r n) else if (to.length:Int)≠n then ([],3) else if (to.any fun v=>!bW v n)=true then ([],4) else (r.map (lM to),0)
theorem wk {r:List Int} {n v:Int} (h:(r.any fun v=>!bW v n)=false) (hv:v∈r):-1≤v∧v<n:=by
 have:=List.any_eq_false.1 h v hv
 simpa [bW] using this
theorem lP {r:List Int} {n:Int} (h:ay r n=0):(r.any fun v=>!bW v n)=false:=by
 unfold ay at h
 cases hr:r.any fun v=>!bW v n
 ·rfl
 ·rw [hr] at h
  simp only [if_true] at h
  split at h
  ·omega
  ·split at h <;> omega
theorem gU {α:Type} (f:α→Bool):∀ (l:List α) (k:Int),0≤k→(aj f k l=-1∧l.filter (fun x=>!f x)=l) ∨
  ∃ j:Nat,aj f k l=k+j∧j<l.length∧(l.take (j+1)).filter (fun x=>!f x)=l.take j
 | [],k,_=>.inl ⟨rfl,rfl⟩
 | x::l,k,hk=>by
  simp only [aj]
  cases hx:f x
  ·rw [if_neg (by simp)]
   rcases gU f l (k+1) (by omega) with ⟨h1,h2⟩ | ⟨j,h1,h2,h3⟩
   ·exact .inl ⟨h1,by rw [List.filter_cons_of_pos (by simp [hx]),h2]⟩
   ·exact .inr ⟨j+1,by omega,by simp; omega,by rw [List.take_succ_cons,List.filter_cons_of_pos (by simp [hx]),h3,List.take_succ_cons]⟩
  ·rw [if_pos rfl]
   exact .inr ⟨0,by omega,by simp,by simp [hx]⟩
theorem Gs {α:Type} (d:α) {p:α→Bool} {xs row:List α} {i j:Nat} (hij:i<j) (hj:j<xs.length) (hl:row.length=xs.length) (ht:row.take i=(xs.take j).filter p) (hd:row.drop j=xs.drop j) :
  (p (row.getD j d)=true→(row.set i (row.getD j d)).take (i+1)=(xs.take (j+1)).filter p∧(row.set i (row.getD j d)).drop (j+1)=xs.drop (j+1)) ∧
  (p (row.getD j d)=false→row.take i=(xs.take (j+1)).filter p∧row.drop (j+1)=xs.drop (j+1)):=by
 have he:row.getD j d=xs.getD j d:=by
  have:=congrArg (fun l=>l.getD 0 d) hd
  simpa [List.getD,List.getElem?_drop] using this
 have h1:row.drop (j+1)=xs.drop (j+1):=by
  have:=congrArg (List.drop 1) hd
  simpa [List.drop_drop,Nat.add_comm] using this
 have hx:xs.take (j+1)=xs.take j++[xs.getD j d]:=by
  rw [List.take_succ_eq_append_getElem hj]
  simp [List.getD,hj]
 rw [he,hx,List.filter_append]
 refine ⟨fun hp=>⟨?_,?_⟩,fun hp=>⟨?_,h1⟩⟩
 ·rw [List.take_set,← ht,List.filter_cons_of_pos hp,List.filter_nil]
  have hi:i<row.length:=by omega
  rw [List.take_succ_eq_append_getElem hi,List.set_append_right _ _ (by simp; omega)]
  simp [Nat.min_eq_left (Nat.le_of_lt hi)]
 ·rw [List.drop_set_of_lt (by omega),h1]
 ·rw [ht,List.filter_cons_of_neg (by rw [hp]; simp)]
  simp
def xa:Spec:={ Ts:=[.arr ty_I],Rs:=[.own 3 ty_I],pre:=fun _=>True,F:=fun (x:List Int)=>x }
def nP:Prop :=
  ∀ (x:List Int),(x.length * 8≤az∧∀ (x_1:Int),x_1∈x→ak IntKind.i64 x_1)→True→(x=([]:List Int)→([]:List Int)=x∧True)∧(True→(0+x.length) * 8≤az∧([]:List Int)++x=x∧True)
theorem tU:nP:=by
 unfold nP
 intro x ⟨hb,_⟩ _
 simp [hb]
theorem jP:xa.ok Tryz.prog 97:=aI (ann:=cT) ap Tryz.func97 (by kernel_rfl) tU
def DE:Spec:={ Ts:=[ty_I,ty_I],Rs:=[.dat .bool],pre:=fun _=>True,F:=fun ((v,n):Int×Int)=>bW v n }
def u9:Prop :=
  ∀ (x:Int×Int),ak IntKind.i64 x.1∧ak IntKind.i64 x.2→True→(decide ((-1)≤x.1)&&decide (x.1<x.2))=bW x.1 x.2∧True
theorem AZ:u9:=by
 unfold u9
 intro ⟨v,n⟩ _ _
 simp only [bW]
 grind
theorem vI:DE.ok Tryz.prog 126:=aI (ann:=cT) ap Tryz.func126 (by kernel_rfl) AZ
def DK:Spec:={ Ts:=[ty_I,.ref ty_I],Rs:=[.dat .bool],pre:=fun _=>True,F:=fun ((v,n):Int×Int)=>!bW v n }
def vj:Prop :=
  ∀ (x:Int×Int),ak IntKind.i64 x.1∧ak IntKind.i64 x.2→True→True∧(!bW x.1 x.2)=!bW x.1 x.2∧True
theorem A5:vj:=by
 unfold vj
 intro ⟨v,n⟩ _ _
 simp
theorem Ee:DK.ok Tryz.prog 125:=aI (ann:=cT) (ae vI ap) Tryz.func125 (by kernel_rfl) A5
def DJ:Spec:={ Ts:=[ty_I,.ref ty_I],Rs:=[.dat .bool],pre:=fun _=>True,F:=fun ((v,n):Int×Int)=>!bW v n }
def vh:Prop :=
  ∀ (x:Int×Int),ak IntKind.i64 x.1∧ak IntKind.i64 x.2→True→True∧(!bW x.1 x.2)=!bW x.1 x.2∧True
theorem A4:vh:=by
 unfold vh
 intro ⟨v,n⟩ _ _
 simp
theorem Ed:DJ.ok Tryz.prog 140:=aI (ann:=cT) (ae vI ap) Tryz.func140 (by kernel_rfl) A4
def DI:Spec:={ Ts:=[ty_I],Rs:=[.dat .bool],pre:=fun _=>True,F:=fun (v:Int)=>decide (v<0) }
def vg:Prop :=
  ∀ (x:Int),ak IntKind.i64 x→True→decide (x<0)=decide (x<0)∧True
theorem A3:vg:=by
 unfold vg
 intro v _ _
 simp
theorem Ec:DI.ok Tryz.prog 152:=aI (ann:=cT) ap Tryz.func152 (by kernel_rfl) A3
def wT:Spec:={ Ts:=[.arr ty_I,ty_I],Rs:=[.dat ty_I],pre:=fun _=>True,F:=fun ((r,n):List Int×Int)=>ay r n }
def nB:Prop :=
  ∀ (x:List Int×Int),(x.1.length * 8≤az∧∀ (x_1:Int),x_1∈x.1→ak IntKind.i64 x_1)∧ak IntKind.i64 x.2→True→((decide (x.2<0)||decide (256<x.2))=true→4=ay x.1 x.2∧True)∧((decide (x.2<0)||decide (256<x.2))=false→(decide (32<(↑x.1.length:Int))=true→2=ay x.1 x.2∧True)∧(decide (32<(↑x.1.length:Int))=false→(∀ (s:Int),s∈x.1→(fun (_:Int)=>True,fun (x_1:Int)=>!bW x_1 x.2).1 s)∧((x.1.any fun (x_1:Int)=>!bW x_1 x.2)=true→4=ay x.1 x.2∧True)∧((x.1.any fun (x_1:Int)=>!bW x_1 x.2)=false→0=ay x.1 x.2∧True)))
theorem tG:nB:=by
 unfold nB
 intro ⟨r,n⟩ ⟨⟨hb,_⟩,hn⟩ _
 simp only [ay]
 grind
theorem jN:wT.ok Tryz.prog 91:=aI (ann:=cT) (ae xC (ae Ee ap)) Tryz.func91 (by kernel_rfl) tG
def yk:Nat→Option LoopGen
 | 3000151=>some gi
 | 3000152=>some gi
 | 15200000005=>some { rd:=[.own 0 3 ty_I],wr:=[0],A:=fun (xs:List Int)=>{ cs:=[.own 0 3 ty_I,.dat 5 ty_I,.dat 6 ty_I],inv:=fun ((row,i,j):List Int×Int×Int)=>0≤i∧i<j∧j≤xs.length∧row.length=xs.length∧row.take i.toNat=(xs.take j.toNat).filter (fun v=>!decide (v<0))∧row.drop j.toNat=xs.drop j.toNat,mu:=fun ((_,_,j):List Int×Int×Int)=>(xs.length - j).toNat } }
 | _=>none
def wS:Spec:={ Ts:=[.arr ty_I,ty_I],Rs:=[.own 3 ty_I,.dat ty_I],pre:=fun _=>True,F:=fun ((r,n):List Int×Int)=>bz r n }
def nA:Prop :=
  ∀ (x:List Int×Int),(x.1.length * 8≤az∧∀ (x_1:Int),x_1∈x.1→ak IntKind.i64 x_1)∧ak IntKind.i64 x.2→True→True∧(decide (ay x.1 x.2≠0)=true→([]:List Int)=(bz x.1 x.2).1∧ay x.1 x.2=(bz x.1 x.2).2∧True)∧(decide (ay x.1 x.2≠0)=false→True∧∀ (_:Array Value),(∀ (s:Int),s∈x.1→(fun (_:Int)=>True,fun (x:Int)=>decide (x<0)).1 s)∧(decide (aj (fun (x:Int)=>decide (x<0)) 0 x.1=(-1))=true→True∧True∧eY (dN x.1)=(bz x.1 x.2).1∧0=(bz x.1 x.2).2∧True)∧(decide (aj (fun (x:Int)=>decide (x<0)) 0 x.1=(-1))=false→ak IntKind.i64 (aj (fun (x:Int)=>decide (x<0)) 0 x.1+1)∧(0≤aj (fun (x:Int)=>decide (x<0)) 0 x.1∧aj (fun (x:Int)=>decide (x<0)) 0 x.1<aj (fun (x:Int)=>decide (x<0)) 0 x.1+1∧aj (fun (x:Int)=>decide (x<0)) 0 x.1+1≤(↑x.1.length:Int)∧x.1.length=x.1.length∧List.take (aj (fun (x:Int)=>decide (x<0)) 0 x.1).toNat x.1=List.filter (fun (v:Int)=>!decide (v<0)) (List.take (aj (fun (x:Int)=>decide (x<0)) 0 x.1+1).toNat x.1)∧List.drop (aj (fun (x:Int)=>decide (x<0)) 0 x.1+1).toNat x.1=List.drop (aj (fun (x:Int)=>decide (x<0)) 0 x.1+1).toNat x.1)∧∀ (x_1:List Int×Int×Int),0≤x_1.2.1∧x_1.2.1<x_1.2.2∧x_1.2.2≤(↑x.1.length:Int)∧x_1.1.length=x.1.length∧List.take x_1.2.1.toNat x_1.1=List.filter (fun (v:Int)=>!decide (v<0)) (List.take x_1.2.2.toNat x.1)∧List.drop x_1.2.2.toNat x_1.1=List.drop x_1.2.2.toNat x.1→(decide (x_1.2.2<(↑x_1.1.length:Int))=true→0≤x_1.2.2∧x_1.2.2<(↑x_1.1.length:Int)∧x_1.2.2.toNat<x_1.1.length∧∀ (_:Array Value),((!decide (x_1.1.getD x_1.2.2.toNat (0:Int)<0))=true→0≤x_1.2.1∧x_1.2.1<(↑x_1.1.length:Int)∧x_1.2.1.toNat<x_1.1.length∧ak IntKind.i64 (x_1.2.1+1)∧ak IntKind.i64 (x_1.2.2+1)∧(0≤x_1.2.1+1∧x_1.2.1+1<x_1.2.2+1∧x_1.2.2+1≤(↑x.1.length:Int)∧(x_1.1.set x_1.2.1.toNat (x_1.1.getD x_1.2.2.toNat 0)).length=x.1.length∧List.take (x_1.2.1+1).toNat (x_1.1.set x_1.2.1.toNat (x_1.1.getD x_1.2.2.toNat 0))=List.filter (fun (v:Int)=>!decide (v<0)) (List.take (x_1.2.2+1).toNat x.1)∧List.drop (x_1.2.2+1).toNat (x_1.1.set x_1.2.1.toNat (x_1.1.getD x_1.2.2.toNat 0))=List.drop (x_1.2.2+1).toNat x.1)∧((↑x.1.length:Int) - (x_1.2.2+1)).toNat<((↑x.1.length:Int) - x_1.2.2).toNat)∧((!decide (x_1.1.getD x_1.2.2.toNat (0:Int)<0))=false→ak IntKind.i64 (x_1.2.2+1)∧(0≤x_1.2.1∧x_1.2.1<x_1.2.2+1∧x_1.2.2+1≤(↑x.1.length:Int)∧x_1.1.length=x.1.length∧List.take x_1.2.1.toNat x_1.1=List.filter (fun (v:Int)=>!decide (v<0)) (List.take (x_1.2.2+1).toNat x.1)∧List.drop (x_1.2.2+1).toNat x_1.1=List.drop (x_1.2.2+1).toNat x.1)∧((↑x.1.length:Int) - (x_1.2.2+1)).toNat<((↑x.1.length:Int) - x_1.2.2).toNat))∧(decide (x_1.2.2<(↑x_1.1.length:Int))=false→0≤x_1.2.1∧x_1.2.1≤(↑x_1.1.length:Int)∧x_1.2.1.toNat+(x_1.1.length - x_1.2.1.toNat)≤x_1.1.length∧0≤x_1.2.1∧x_1.2.1≤(↑(List.take x_1.2.1.toNat x_1.1++(List.replicate (x_1.1.length - x_1.2.1.toNat) 0++List.drop (x_1.2.1.toNat+(x_1.1.length - x_1.2.1.toNat)) x_1.1)).length:Int)∧True∧True∧eY (dN (List.take x_1.2.1.toNat (List.take x_1.2.1.toNat x_1.1++(List.replicate (x_1.1.length - x_1.2.1.toNat) 0++List.drop (x_1.2.1.toNat+(x_1.1.length - x_1.2.1.toNat)) x_1.1))))=(bz x.1 x.2).1∧0=(bz x.1 x.2).2∧True)))
theorem tF:nA:=by
 unfold nA
 intro ⟨r,n⟩ ⟨⟨hb,_⟩,_⟩ _
 unfold az at hb
 simp only at hb ⊢
 refine ⟨trivial,fun h=>?_,fun h=>⟨trivial,fun _=>⟨fun _ _=>trivial,fun h2=>?_,fun h2=>?_⟩⟩⟩
 ·simp only [bz]
  rw [if_pos (of_decide_eq_true h)]
  exact ⟨rfl,rfl,trivial⟩
 ·have h2:=of_decide_eq_true h2
  refine ⟨trivial,trivial,?_⟩
  simp only [bz]
  rw [if_neg (of_decide_eq_false h)]
  rcases gU (fun x:Int=>decide (x<0)) r 0 (by omega) with ⟨_,h3⟩ | ⟨j,h3,_⟩
  ·rw [h3]
   exact ⟨rfl,rfl,trivial⟩
  ·omega
 have h2:=of_decide_eq_false h2
 rcases gU (fun x:Int=>decide (x<0)) r 0 (by omega) with ⟨h3,_⟩ | ⟨j,h3,h4,h5⟩
 ·exact absurd h3 h2
 rw [h3]
 refine ⟨by simp only [ak]; omega,⟨by omega,by omega,by omega,trivial,?_,trivial⟩,fun ⟨row,i,j⟩ ⟨k0,k1,k2,k3,k4,k5⟩=>⟨fun hlt=>?_,fun hge=>?_⟩⟩
 ·rw [show (0+(j:Int)+1).toNat=j+1 by omega,show (0+(j:Int)).toNat=j by omega,h5]
 ·simp only at k0 k1 k2 k3 k4 k5 hlt ⊢
  have hlt:=of_decide_eq_true hlt
  have hs:=Gs (0:Int) (p:=fun v=>!decide (v<0)) (xs:=r) (row:=row) (i:=i.toNat) (j:=j.toNat) (by omega) (by omega) k3 k4 k5
  refine ⟨by omega,by omega,by omega,fun _=>⟨fun hp=>?_,fun hp=>?_⟩⟩
  ·obtain ⟨q1,q2⟩:=hs.1 hp
   refine ⟨by omega,by omega,by omega,by simp only [ak]; omega,by simp only [ak]; omega,⟨by omega,by omega,by omega,by simpa using k3,?_,?_⟩,by omega⟩
   ·rw [show (i+1).toNat=i.toNat+1 by omega,show (j+1).toNat=j.toNat+1 by omega]
    exact q1
   ·rw [show (j+1).toNat=j.toNat+1 by omega]
    exact q2
  ·obtain ⟨q1,q2⟩:=hs.2 hp
   refine ⟨by simp only [ak]; omega,⟨by omega,by omega,by omega,k3,?_,?_⟩,by omega⟩
   ·rw [show (j+1).toNat=j.toNat+1 by omega]
    exact q1
   ·rw [show (j+1).toNat=j.toNat+1 by omega]
    exact q2
 ·simp only at k0 k1 k2 k3 k4 k5 hge ⊢
  have hge:=of_decide_eq_false hge
  have hj:j.toNat=r.length:=by omega
  have e1:List.take i.toNat (List.take i.toNat row++(List.replicate (row.length - i.toNat) 0++List.drop (i.toNat+(row.length - i.toNat)) row))=List.take i.toNat row:=by
   rw [List.take_append_of_le_length (by simp; omega),List.take_take,Nat.min_self]
  refine ⟨by omega,by omega,by omega,by omega,by simp; omega,trivial,trivial,?_⟩
  rw [e1,k4,hj,List.take_of_length_le (Nat.le_refl _)]
  simp only [bz]
  rw [if_neg (of_decide_eq_false h)]
  exact ⟨rfl,rfl,trivial⟩
theorem xx:wS.ok Tryz.prog 128:=aI (ann:=yk) (ae jN (ae jP (ae Ec (ae zV (ne sk (ne ql ap)))))) Tryz.func128 (by kernel_rfl) tF
def AJ:Nat→Option LoopGen
 | 10=>some { rd:=[.dat 2 (.arr ty_I),.dat 0 (.arr ty_I)],wr:=[9,30],A:=fun ((to,r):List Int×List Int)=>{ cs:=[.own 9 3 ty_I,.same 30 9,.dat 32 ty_I],inv:=fun ((out,_,i):List Int×Unit×Int)=>0≤i∧i≤r.length∧(∀ v∈r,v<to.length)∧out=(r.take i.toNat).map (lM to)++r.drop i.toNat,mu:=fun ((_,_,i):List Int×Unit×Int)=>(r.length - i).toNat } }
 | _=>none
def yU:Spec:={ Ts:=[.arr ty_I,ty_I,.arr ty_I],Rs:=[.own 3 ty_I,.dat ty_I],pre:=fun _=>True,F:=fun ((r,n,to):List Int×Int×List Int)=>bw r n to }
def pL:Prop :=
  ∀ (x:List Int×Int×List Int),((x.1.length * 8≤az∧∀ (x_1:Int),x_1∈x.1→ak IntKind.i64 x_1)∧ak IntKind.i64 x.2.1∧x.2.2.length * 8≤az∧∀ (x_1:Int),x_1∈x.2.2→ak IntKind.i64 x_1)→True→True∧(decide (ay x.1 x.2.1≠0)=true→([]:List Int)=(bw x.1 x.2.1 x.2.2).1∧ay x.1 x.2.1=(bw x.1 x.2.1 x.2.2).2∧True)∧(decide (ay x.1 x.2.1≠0)=false→(decide ((↑x.2.2.length:Int)≠x.2.1)=true→([]:List Int)=(bw x.1 x.2.1 x.2.2).1∧3=(bw x.1 x.2.1 x.2.2).2∧True)∧(decide ((↑x.2.2.length:Int)≠x.2.1)=false→(∀ (s:Int),s∈x.2.2→(fun (_:Int)=>True,fun (x_1:Int)=>!bW x_1 x.2.1).1 s)∧((x.2.2.any fun (x_1:Int)=>!bW x_1 x.2.1)=true→([]:List Int)=(bw x.1 x.2.1 x.2.2).1∧4=(bw x.1 x.2.1 x.2.2).2∧True)∧((x.2.2.any fun (x_1:Int)=>!bW x_1 x.2.1)=false→True∧((0:Int)≤0∧0≤(↑x.1.length:Int)∧(∀ (v:Int),v∈x.1→v<(↑x.2.2.length:Int))∧x.1=List.map (lM x.2.2) (List.take (Int.toNat 0) x.1)++List.drop (Int.toNat 0) x.1)∧∀ (x_1:List Int×Unit×Int),0≤x_1.2.2∧x_1.2.2≤(↑x.1.length:Int)∧(∀ (v:Int),v∈x.1→v<(↑x.2.2.length:Int))∧x_1.1=List.map (lM x.2.2) (List.take x_1.2.2.toNat x.1)++List.drop x_1.2.2.toNat x.1→(decide (x_1.2.2<(↑x.1.length:Int))=true→0≤x_1.2.2∧x_1.2.2<(↑x_1.1.length:Int)∧x_1.2.2.toNat<x_1.1.length∧(decide (0≤x_1.1.getD x_1.2.2.toNat 0)=true→0≤x_1.1.getD x_1.2.2.toNat 0∧x_1.1.getD x_1.2.2.toNat 0<(↑x.2.2.length:Int)∧0≤x_1.2.2∧x_1.2.2<(↑x_1.1.length:Int)∧x_1.2.2.toNat<x_1.1.length∧ak IntKind.i64 (x_1.2.2+1)∧(0≤x_1.2.2+1∧x_1.2.2+1≤(↑x.1.length:Int)∧(∀ (v:Int),v∈x.1→v<(↑x.2.2.length:Int))∧x_1.1.set x_1.2.2.toNat (x.2.2.getD (x_1.1.getD x_1.2.2.toNat 0).toNat 0)=List.map (lM x.2.2) (List.take (x_1.2.2+1).toNat x.1)++List.drop (x_1.2.2+1).toNat x.1)∧((↑x.1.length:Int) - (x_1.2.2+1)).toNat<((↑x.1.length:Int) - x_1.2.2).toNat)∧(decide (0≤x_1.1.getD x_1.2.2.toNat 0)=false→ak IntKind.i64 (x_1.2.2+1)∧(0≤x_1.2.2+1∧x_1.2.2+1≤(↑x.1.length:Int)∧(∀ (v:Int),v∈x.1→v<(↑x.2.2.length:Int))∧x_1.1=List.map (lM x.2.2) (List.take (x_1.2.2+1).toNat x.1)++List.drop (x_1.2.2+1).toNat x.1)∧((↑x.1.length:Int) - (x_1.2.2+1)).toNat<((↑x.1.length:Int) - x_1.2.2).toNat))∧(decide (x_1.2.2<(↑x.1.length:Int))=false→x_1.1=(bw x.1 x.2.1 x.2.2).1∧0=(bw x.1 x.2.1 x.2.2).2∧True))))
theorem wq:pL:=by
 unfold pL
 intro ⟨r,n,to⟩ ⟨⟨hb,_⟩,_⟩ _
 unfold az at hb
 simp only at hb ⊢
 refine ⟨trivial,fun h=>?_,fun h=>⟨fun h2=>?_,fun h2=>⟨fun _ _=>trivial,fun h3=>?_,fun h3=>⟨trivial,?_,fun ⟨out,_,i⟩ ⟨k0,k1,k2,k3⟩=>?_⟩⟩⟩⟩
 ·simp only [bw]
  rw [if_pos (of_decide_eq_true h)]
  exact ⟨rfl,rfl,trivial⟩
 ·simp only [bw]
  rw [if_neg (of_decide_eq_false h),if_pos (of_decide_eq_true h2)]
  exact ⟨rfl,rfl,trivial⟩
 ·simp only [bw]
  rw [if_neg (of_decide_eq_false h),if_neg (of_decide_eq_false h2),if_pos h3]
  exact ⟨rfl,rfl,trivial⟩
 ·have h:=of_decide_eq_false h
  have h2:=of_decide_eq_false h2
  have hf:ay r n=0:=by omega
  have hr:(r.any fun v=>!bW v n)=false:=lP hf
  refine ⟨by omega,by omega,fun v hv=>?_,by simp⟩
  have:=(wk hr hv).2
  omega
 ·simp only at k0 k1 k2 k3 ⊢
  refine ⟨fun hlt=>?_,fun hge=>?_⟩
  ·have hlt:=of_decide_eq_true hlt
   have hgd:out.getD i.toNat 0=r.getD i.toNat 0:=by
    rw [k3]
    simp only [List.getD_eq_getElem?_getD]
    rw [List.getElem?_append_right (by simp; omega)]
    simp only [List.length_map,List.length_take,List.getElem?_drop]
    congr 2
    omega
   have hol:out.length=r.length:=by rw [k3]; simp; omega
   have hrd:r.drop i.toNat=r.getD i.toNat 0::r.drop (i+1).toNat:=aS 0 k0 hlt
   have htk:r.take (i+1).toNat=r.take i.toNat++[r.getD i.toNat 0]:=by
    rw [show (i+1).toNat=i.toNat+1 by omega,List.take_succ_eq_append_getElem (by omega)]
    simp [List.getD,show i.toNat<r.length by omega]
   have hset:∀ y,out.set i.toNat y=(r.take i.toNat).map (lM to)++y::r.drop (i+1).toNat:=by
    intro y
    rw [k3,hrd,List.set_append_right _ _ (by simp; omega)]
    simp [Nat.min_eq_left (show i.toNat≤r.length by omega)]
   have hmem:=k2 _ (aD (0:Int) k0 hlt)
   rw [hgd]
   refine ⟨k0,by omega,by omega,fun hc=>?_,fun hc=>?_⟩
   ·have hc:=of_decide_eq_true hc
    refine ⟨hc,hmem,k0,by omega,by omega,by simp only [ak]; omega,⟨by omega,by omega,k2,?_⟩,by omega⟩
    have e1:lM to (r.getD i.toNat 0)=to.getD (r.getD i.toNat 0).toNat 0:=if_pos hc
    rw [hset,htk,List.map_append,← e1]
    simp
   ·have hc:=of_decide_eq_false hc
    refine ⟨by simp only [ak]; omega,⟨by omega,by omega,k2,?_⟩,by omega⟩
    have e1:lM to (r.getD i.toNat 0)=r.getD i.toNat 0:=if_neg hc
    rw [k3,hrd,htk,List.map_append,List.map_singleton,e1]
    simp
  ·have hge:=of_decide_eq_false hge
   have hi:i.toNat=r.length:=by omega
   simp only [bw]
   rw [if_neg (of_decide_eq_false h),if_neg (of_decide_eq_false h2),if_neg (by rw [h3]; simp),k3,hi]
   simp
theorem qh:yU.ok Tryz.prog 105:=aI (ann:=AJ) (ae jN (ae jP (ae xC (ae Ed ap)))) Tryz.func105 (by kernel_rfl) wq
def EQ:Nat→Option LoopGen
 | 6=>some { rd:=[.dat 0 (.arr ty_I),.dat 1 ty_I],A:=fun ((r,n):List Int×Int)=>{ cs:=[.dat 18 ty_I],inv:=fun (i:Int)=>0≤i∧i≤r.length∧¬ (n<0∨256<n)∧¬ 32<r.length∧((r.drop i.toNat).any fun v=>!bW v n)=r.any fun v=>!bW v n,mu:=fun (i:Int)=>(r.length - i).toNat } }
 | _=>none
def DN:Spec:={ Ts:=[.arr ty_I,ty_I],Rs:=[.dat ty_I],pre:=fun _=>True,F:=fun ((r,n):List Int×Int)=>ay r n }
def vn:Prop :=
  ∀ (x:List Int×Int),(x.1.length * 8≤az∧∀ (x_1:Int),x_1∈x.1→ak IntKind.i64 x_1)∧ak IntKind.i64 x.2→True→((decide (x.2<0)||decide (256<x.2))=true→4=ay x.1 x.2∧True)∧((decide (x.2<0)||decide (256<x.2))=false→(decide (32<(↑x.1.length:Int))=true→2=ay x.1 x.2∧True)∧(decide (32<(↑x.1.length:Int))=false→((0:Int)≤0∧0≤(↑x.1.length:Int)∧¬(x.2<0∨256<x.2)∧¬32<x.1.length∧((List.drop (Int.toNat 0) x.1).any fun (v:Int)=>!bW v x.2)=x.1.any fun (v:Int)=>!bW v x.2)∧∀ (x_1:Int),(0≤x_1∧x_1≤(↑x.1.length:Int)∧¬(x.2<0∨256<x.2)∧¬32<x.1.length∧((List.drop x_1.toNat x.1).any fun (v:Int)=>!bW v x.2)=x.1.any fun (v:Int)=>!bW v x.2)→(decide (x_1<(↑x.1.length:Int))=true→0≤x_1∧x_1<(↑x.1.length:Int)∧((decide (x.1.getD x_1.toNat (0:Int) < -1)||decide (x.2≤x.1.getD x_1.toNat 0))=true→4=ay x.1 x.2∧True)∧((decide (x.1.getD x_1.toNat (0:Int) < -1)||decide (x.2≤x.1.getD x_1.toNat 0))=false→ak IntKind.i64 (x_1+1)∧(0≤x_1+1∧x_1+1≤(↑x.1.length:Int)∧¬(x.2<0∨256<x.2)∧¬32<x.1.length∧((List.drop (x_1+1).toNat x.1).any fun (v:Int)=>!bW v x.2)=x.1.any fun (v:Int)=>!bW v x.2)∧((↑x.1.length:Int) - (x_1+1)).toNat<((↑x.1.length:Int) - x_1).toNat))∧(decide (x_1<(↑x.1.length:Int))=false→0=ay x.1 x.2∧True)))
theorem A8:vn:=by
 unfold vn
 intro ⟨r,n⟩ ⟨⟨hb,_⟩,hn⟩ _
 unfold az at hb
 simp only at hb ⊢
 refine ⟨fun h=>?_,fun h=>⟨fun h2=>?_,fun h2=>⟨⟨by omega,by omega,by grind,by grind,by simp⟩,fun i ⟨k0,k1,k2,k3,k4⟩=>⟨fun hlt=>?_,fun hge=>?_⟩⟩⟩⟩
 ·simp only [ay]
  rw [if_pos (by grind)]
  exact ⟨rfl,trivial⟩
 ·simp only [ay]
  rw [if_neg (by grind),if_pos (by grind)]
  exact ⟨rfl,trivial⟩
 ·have hlt:=of_decide_eq_true hlt
  rw [aS (0:Int) k0 hlt,List.any_cons] at k4
  refine ⟨k0,hlt,fun hc=>?_,fun hc=>?_⟩
  ·simp only [ay]
   rw [if_neg k2,if_neg k3,← k4,if_pos (by simp only [bW]; grind)]
   exact ⟨rfl,trivial⟩
  ·have hw:bW (r.getD i.toNat 0) n=true:=by simp only [bW]; grind
   rw [hw] at k4
   simp only [Bool.not_true,Bool.false_or] at k4
   exact ⟨by simp only [ak]; omega,⟨by omega,by omega,k2,k3,k4⟩,by omega⟩
 ·have hge:=of_decide_eq_false hge
  rw [bn hge,List.any_nil] at k4
  simp only [ay]
  rw [if_neg k2,if_neg k3,← k4]
  simp
theorem Eg:DN.ok Tryz.prog 37:=aI (ann:=EQ) ap Tryz.func37 (by kernel_rfl) A8
def a6 (l:List Int) (m:Nat):List Int:=((List.range m).map Int.ofNat).filter (cD l)
def Cs:Nat→Option LoopGen
 | 3=>some { rd:=[.dat 0 (.arr ty_I)],A:=fun (l:List Int)=>{ cs:=[.own 3 3 ty_I,.dat 5 ty_I],inv:=fun ((out,i):List Int×Int)=>0≤i∧i≤256∧out=a6 l i.toNat,mu:=fun ((_,i):List Int×Int)=>(256 - i).toNat } }
 | _=>none
def Bs:Spec:={ Ts:=[.arr ty_I],Rs:=[.own 3 ty_I],pre:=fun _=>True,F:=fun (l:List Int)=>a6 l 256 }
def rT:Prop :=
  ∀ (x:List Int),(x.length * 8≤az∧∀ (x_1:Int),x_1∈x→ak IntKind.i64 x_1)→True→((0:Int)≤0∧(0:Int)≤256∧([]:List Int)=a6 x (Int.toNat 0))∧∀ (x_1:List Int×Int),0≤x_1.2∧x_1.2≤256∧x_1.1=a6 x x_1.2.toNat→(decide (x_1.2<256)=true→True∧(cD x x_1.2=true→(x_1.1.length+[x_1.2].length) * 8≤az∧ak IntKind.i64 (x_1.2+1)∧(0≤x_1.2+1∧x_1.2+1≤256∧x_1.1++[x_1.2]=a6 x (x_1.2+1).toNat)∧(256 - (x_1.2+1)).toNat<(256 - x_1.2).toNat)∧(cD x x_1.2=false→ak IntKind.i64 (x_1.2+1)∧(0≤x_1.2+1∧x_1.2+1≤256∧x_1.1=a6 x (x_1.2+1).toNat)∧(256 - (x_1.2+1)).toNat<(256 - x_1.2).toNat))∧(decide (x_1.2<256)=false→x_1.1=a6 x 256∧True)
theorem yu:rT:=by
 unfold rT
 intro l _ _
 refine ⟨⟨by omega,by omega,rfl⟩,fun ⟨out,i⟩ ⟨k0,k1,k2⟩=>?_⟩
 simp only at k0 k1 k2 ⊢
 have hs:a6 l (i+1).toNat=if cD l i=true then out++[i] else out:=by
  rw [k2,show (i+1).toNat=i.toNat+1 by omega]
  simp only [a6,List.range_succ,List.map_append,List.map_cons,List.map_nil,List.filter_append]
  rw [show Int.ofNat i.toNat=i from Int.toNat_of_nonneg k0]
  cases hc:cD l i <;> simp [hc]
 have hl:out.length≤i.toNat:=by
  rw [k2,a6]
  refine Nat.le_trans (List.length_filter_le _ _) ?_
  simp
 refine ⟨fun hlt=>⟨trivial,fun hc=>?_,fun hc=>?_⟩,fun hge=>?_⟩
 ·have hlt:=of_decide_eq_true hlt
  rw [hc] at hs
  refine ⟨by simp only [List.length_singleton,az]; omega,by simp only [ak]; omega,⟨by omega,by omega,?_⟩,by omega⟩
  rw [hs]; rfl
 ·have hlt:=of_decide_eq_true hlt
  rw [hc] at hs
  refine ⟨by simp only [ak]; omega,⟨by omega,by omega,?_⟩,by omega⟩
  rw [hs]; rfl
 ·have hge:=of_decide_eq_false hge
  rw [k2,show i.toNat=256 by omega]
  exact ⟨rfl,trivial⟩
theorem sm:Bs.ok Tryz.prog 46:=aI (ann:=Cs) (ae so ap) Tryz.func46 (by kernel_rfl) yu
