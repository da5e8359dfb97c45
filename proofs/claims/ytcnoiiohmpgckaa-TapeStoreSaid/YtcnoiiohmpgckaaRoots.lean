
import Derived.Test.YtcnoiiohmpgckaaInts
import Derived.Test.YtcnoiiohmpgckaaRowSort
namespace Go.Proofs.Ytcnoiiohmpgckaa
open Go
set_option maxRecDepth 100000
set_option maxHeartbeats 1000000
def bW (v n:Int):Bool:=decide (-1≤v)&&decide (v<n)
def ao (r:List Int) (n:Int):Int:=if n<0∨256<n then 4 else if 32<r.length then 2 else if (r.any fun v=>!bW v n)=true then 4 else 0
def aN (r:List Int) (n:Int):List Int×Int :=
 if ao r n≠0 then ([],ao r n) else (dr (dG (r.filter fun v=>!decide (v<0))),0)
theorem yl {r:List Int} {n v:Int} (h:(r.any fun v=>!bW v n)=false) (hv:v∈r):-1≤v∧v<n:=by
 have:=List.any_eq_false.1 h v hv
 simpa [bW] using this
theorem re {r:List Int} {n:Int} (h:ao r n=0):(r.any fun v=>!bW v n)=false:=by
 unfold ao at h
 cases hr:r.any fun v=>!bW v n
 ·rfl
 ·rw [hr] at h
  simp only [if_true] at h
  split at h
  ·omega
  ·split at h <;> omega
theorem fo {α:Type} (f:α→Bool):∀ (l:List α) (k:Int),0≤k→(ag f k l=-1∧l.filter (fun x=>!f x)=l) ∨
  ∃ j:Nat,ag f k l=k+j∧j<l.length∧(l.take (j+1)).filter (fun x=>!f x)=l.take j
 | [],k,_=>.inl ⟨rfl,rfl⟩
 | x::l,k,hk=>by
  simp only [ag]
  cases hx:f x
  ·rw [if_neg (by simp)]
   rcases fo f l (k+1) (by omega) with ⟨h1,h2⟩ | ⟨j,h1,h2,h3⟩
   ·exact .inl ⟨h1,by rw [List.filter_cons_of_pos (by simp [hx]),h2]⟩
   ·exact .inr ⟨j+1,by omega,by simp; omega,by rw [List.take_succ_cons,List.filter_cons_of_pos (by simp [hx]),h3,List.take_succ_cons]⟩
  ·rw [if_pos rfl]
   exact .inr ⟨0,by omega,by simp,by simp [hx]⟩
theorem Bf {α:Type} (d:α) {p:α→Bool} {xs row:List α} {i j:Nat} (hij:i<j) (hj:j<xs.length) (hl:row.length=xs.length) (ht:row.take i=(xs.take j).filter p) (hd:row.drop j=xs.drop j) :
  (p (row.getD j d)=true→(row.set i (row.getD j d)).take (i+1)=(xs.take (j+1)).filter p∧(row.set i (row.getD j d)).drop (j+1)=xs.drop (j+1)) ∧
  (p (row.getD j d)=false→row.take i=(xs.take (j+1)).filter p∧row.drop (j+1)=xs.drop (j+1)):=by
 have he:row.getD j d=xs.getD j d:=by
  have:=congrArg (fun l=>l.getD 0 d) hd
  simpa [List.getD,List.getElem?_drop] using this
 have h1:row.drop (j+1)=xs.drop (j+1):=by
  have:=congrArg (List.drop 1) hd
  simpa [List.drop_drop,Nat.add_comm] using this
 have hx:xs.take (j+1)=xs.take j++[xs.getD j d]:=by
  rw [List.take_succ_eq_append_getElem hj]
  simp [List.getD,hj]
 rw [he,hx,List.filter_append]
 refine ⟨fun hp=>⟨?_,?_⟩,fun hp=>⟨?_,h1⟩⟩
 ·rw [List.take_set,← ht,List.filter_cons_of_pos hp,List.filter_nil]
  have hi:i<row.length:=by omega
  rw [List.take_succ_eq_append_getElem hi,List.set_append_right _ _ (by simp; omega)]
  simp [Nat.min_eq_left (Nat.le_of_lt hi)]
 ·rw [List.drop_set_of_lt (by omega),h1]
 ·rw [ht,List.filter_cons_of_neg (by rw [hp]; simp)]
  simp
def tD:Spec:={ Ts:=[.arr ty_I],Rs:=[.own 3 ty_I],pre:=fun _=>True,F:=fun (x:List Int)=>x }
def lu:Prop :=
  ∀ (x:List Int),(x.length * 8≤aC∧∀ (x_1:Int),x_1∈x→am .i64 x_1)→True→(x=([]:List Int)→([]:List Int)=x∧True)∧(True→(0+x.length) * 8≤aC∧([]:List Int)++x=x∧True)
theorem qM:lu:=by
 unfold lu
 intro x ⟨hb,_⟩ _
 simp [hb]
theorem uc:tD.ok Try.prog 68:=aQ (ann:=ew) ax Try.func68 (by kernel_rfl) qM
def y3:Spec:={ Ts:=[ty_I,ty_I],Rs:=[.dat .bool],pre:=fun _=>True,F:=fun ((v,n):Int×Int)=>bW v n }
def sj:Prop :=
  ∀ (x:Int×Int),am .i64 x.1∧am .i64 x.2→True→(decide ((-1)≤x.1)&&decide (x.1<x.2))=bW x.1 x.2∧True
theorem w6:sj:=by
 unfold sj
 intro ⟨v,n⟩ _ _
 simp only [bW]
 grind
theorem zq:y3.ok Try.prog 190:=aQ (ann:=ew) ax Try.func190 (by kernel_rfl) w6
def y7:Spec:={ Ts:=[ty_I,.ref ty_I],Rs:=[.dat .bool],pre:=fun _=>True,F:=fun ((v,n):Int×Int)=>!bW v n }
def sq:Prop :=
  ∀ (x:Int×Int),am .i64 x.1∧am .i64 x.2→True→True∧(!bW x.1 x.2)=!bW x.1 x.2∧True
theorem xa:sq:=by
 unfold sq
 intro ⟨v,n⟩ _ _
 simp
theorem zv:y7.ok Try.prog 189:=aQ (ann:=ew) (ai zq ax) Try.func189 (by kernel_rfl) xa
def y6:Spec:={ Ts:=[ty_I],Rs:=[.dat .bool],pre:=fun _=>True,F:=fun (v:Int)=>decide (v<0) }
def so:Prop :=
  ∀ (x:Int),am .i64 x→True→decide (x<0)=decide (x<0)∧True
theorem w9:so:=by
 unfold so
 intro v _ _
 simp
theorem zu:y6.ok Try.prog 210:=aQ (ann:=ew) ax Try.func210 (by kernel_rfl) w9
def tt:Spec:={ Ts:=[.arr ty_I,ty_I],Rs:=[.dat ty_I],pre:=fun _=>True,F:=fun ((r,n):List Int×Int)=>ao r n }
def k9:Prop :=
  ∀ (x:List Int×Int),(x.1.length * 8≤aC∧∀ (x_1:Int),x_1∈x.1→am .i64 x_1)∧am .i64 x.2→True→((decide (x.2<0)||decide (256<x.2))=true→4=ao x.1 x.2∧True)∧((decide (x.2<0)||decide (256<x.2))=false→(decide (32<(↑x.1.length:Int))=true→2=ao x.1 x.2∧True)∧(decide (32<(↑x.1.length:Int))=false→(∀ (s:Int),s∈x.1→(fun (_:Int)=>True,fun (x_1:Int)=>!bW x_1 x.2).1 s)∧((x.1.any fun (x_1:Int)=>!bW x_1 x.2)=true→4=ao x.1 x.2∧True)∧((x.1.any fun (x_1:Int)=>!bW x_1 x.2)=false→0=ao x.1 x.2∧True)))
theorem qC:k9:=by
 unfold k9
 intro ⟨r,n⟩ ⟨⟨hb,_⟩,hn⟩ _
 simp only [ao]
 grind
theorem lx:tt.ok Try.prog 160:=aQ (ann:=ew) (ai BE (ai zv ax)) Try.func160 (by kernel_rfl) qC
def uP:Nat→Option LoopGen
 | 3000209=>some gv
 | 3000210=>some gv
 | 21000000005=>some { rd:=[.own 0 3 ty_I],wr:=[0],A:=fun (xs:List Int)=>{ cs:=[.own 0 3 ty_I,.dat 5 ty_I,.dat 6 ty_I],inv:=fun ((row,i,j):List Int×Int×Int)=>0≤i∧i<j∧j≤xs.length∧row.length=xs.length∧row.take i.toNat=(xs.take j.toNat).filter (fun v=>!decide (v<0))∧row.drop j.toNat=xs.drop j.toNat,mu:=fun ((_,_,j):List Int×Int×Int)=>(xs.length - j).toNat } }
 | _=>none
def tr:Spec:={ Ts:=[.arr ty_I,ty_I],Rs:=[.own 3 ty_I,.dat ty_I],pre:=fun _=>True,F:=fun ((r,n):List Int×Int)=>aN r n }
def kZ:Prop :=
  ∀ (x:List Int×Int),(x.1.length * 8≤aC∧∀ (x_1:Int),x_1∈x.1→am .i64 x_1)∧am .i64 x.2→True→True∧(decide (ao x.1 x.2≠0)=true→([]:List Int)=(aN x.1 x.2).1∧ao x.1 x.2=(aN x.1 x.2).2∧True)∧(decide (ao x.1 x.2≠0)=false→True∧∀ (_:Array Value),(∀ (s:Int),s∈x.1→(fun (_:Int)=>True,fun (x:Int)=>decide (x<0)).1 s)∧(decide (ag (fun (x:Int)=>decide (x<0)) 0 x.1=(-1))=true→True∧True∧dr (dG x.1)=(aN x.1 x.2).1∧0=(aN x.1 x.2).2∧True)∧(decide (ag (fun (x:Int)=>decide (x<0)) 0 x.1=(-1))=false→am .i64 (ag (fun (x:Int)=>decide (x<0)) 0 x.1+1)∧(0≤ag (fun (x:Int)=>decide (x<0)) 0 x.1∧ag (fun (x:Int)=>decide (x<0)) 0 x.1<ag (fun (x:Int)=>decide (x<0)) 0 x.1+1∧ag (fun (x:Int)=>decide (x<0)) 0 x.1+1≤(↑x.1.length:Int)∧x.1.length=x.1.length∧List.take (ag (fun (x:Int)=>decide (x<0)) 0 x.1).toNat x.1=List.filter (fun (v:Int)=>!decide (v<0)) (List.take (ag (fun (x:Int)=>decide (x<0)) 0 x.1+1).toNat x.1)∧List.drop (ag (fun (x:Int)=>decide (x<0)) 0 x.1+1).toNat x.1=List.drop (ag (fun (x:Int)=>decide (x<0)) 0 x.1+1).toNat x.1)∧∀ (x_1:List Int×Int×Int),0≤x_1.2.1∧x_1.2.1<x_1.2.2∧x_1.2.2≤(↑x.1.length:Int)∧x_1.1.length=x.1.length∧List.take x_1.2.1.toNat x_1.1=List.filter (fun (v:Int)=>!decide (v<0)) (List.take x_1.2.2.toNat x.1)∧List.drop x_1.2.2.toNat x_1.1=List.drop x_1.2.2.toNat x.1→(decide (x_1.2.2<(↑x_1.1.length:Int))=true→0≤x_1.2.2∧x_1.2.2<(↑x_1.1.length:Int)∧x_1.2.2.toNat<x_1.1.length∧∀ (_:Array Value),((!decide (x_1.1.getD x_1.2.2.toNat (0:Int)<0))=true→0≤x_1.2.1∧x_1.2.1<(↑x_1.1.length:Int)∧x_1.2.1.toNat<x_1.1.length∧am .i64 (x_1.2.1+1)∧am .i64 (x_1.2.2+1)∧(0≤x_1.2.1+1∧x_1.2.1+1<x_1.2.2+1∧x_1.2.2+1≤(↑x.1.length:Int)∧(x_1.1.set x_1.2.1.toNat (x_1.1.getD x_1.2.2.toNat 0)).length=x.1.length∧List.take (x_1.2.1+1).toNat (x_1.1.set x_1.2.1.toNat (x_1.1.getD x_1.2.2.toNat 0))=List.filter (fun (v:Int)=>!decide (v<0)) (List.take (x_1.2.2+1).toNat x.1)∧List.drop (x_1.2.2+1).toNat (x_1.1.set x_1.2.1.toNat (x_1.1.getD x_1.2.2.toNat 0))=List.drop (x_1.2.2+1).toNat x.1)∧((↑x.1.length:Int) - (x_1.2.2+1)).toNat<((↑x.1.length:Int) - x_1.2.2).toNat)∧((!decide (x_1.1.getD x_1.2.2.toNat (0:Int)<0))=false→am .i64 (x_1.2.2+1)∧(0≤x_1.2.1∧x_1.2.1<x_1.2.2+1∧x_1.2.2+1≤(↑x.1.length:Int)∧x_1.1.length=x.1.length∧List.take x_1.2.1.toNat x_1.1=List.filter (fun (v:Int)=>!decide (v<0)) (List.take (x_1.2.2+1).toNat x.1)∧List.drop (x_1.2.2+1).toNat x_1.1=List.drop (x_1.2.2+1).toNat x.1)∧((↑x.1.length:Int) - (x_1.2.2+1)).toNat<((↑x.1.length:Int) - x_1.2.2).toNat))∧(decide (x_1.2.2<(↑x_1.1.length:Int))=false→0≤x_1.2.1∧x_1.2.1≤(↑x_1.1.length:Int)∧x_1.2.1.toNat+(x_1.1.length - x_1.2.1.toNat)≤x_1.1.length∧0≤x_1.2.1∧x_1.2.1≤(↑(List.take x_1.2.1.toNat x_1.1++(List.replicate (x_1.1.length - x_1.2.1.toNat) (0:Int)++List.drop (x_1.2.1.toNat+(x_1.1.length - x_1.2.1.toNat)) x_1.1)).length:Int)∧True∧True∧dr (dG (List.take x_1.2.1.toNat (List.take x_1.2.1.toNat x_1.1++(List.replicate (x_1.1.length - x_1.2.1.toNat) (0:Int)++List.drop (x_1.2.1.toNat+(x_1.1.length - x_1.2.1.toNat)) x_1.1))))=(aN x.1 x.2).1∧0=(aN x.1 x.2).2∧True)))
theorem qB:kZ:=by
 unfold kZ
 intro ⟨r,n⟩ ⟨⟨hb,_⟩,_⟩ _
 unfold aC at hb
 simp only at hb ⊢
 refine ⟨trivial,fun h=>?_,fun h=>⟨trivial,fun _=>⟨fun _ _=>trivial,fun h2=>?_,fun h2=>?_⟩⟩⟩
 ·simp only [aN]
  rw [if_pos (of_decide_eq_true h)]
  exact ⟨rfl,rfl,trivial⟩
 ·have h2:=of_decide_eq_true h2
  refine ⟨trivial,trivial,?_⟩
  simp only [aN]
  rw [if_neg (of_decide_eq_false h)]
  rcases fo (fun x:Int=>decide (x<0)) r 0 (by omega) with ⟨_,h3⟩ | ⟨j,h3,_⟩
  ·rw [h3]
   exact ⟨rfl,rfl,trivial⟩
  ·omega
 have h2:=of_decide_eq_false h2
 rcases fo (fun x:Int=>decide (x<0)) r 0 (by omega) with ⟨h3,_⟩ | ⟨j,h3,h4,h5⟩
 ·exact absurd h3 h2
 rw [h3]
 refine ⟨by simp only [am]; omega,⟨by omega,by omega,by omega,trivial,?_,trivial⟩,fun ⟨row,i,j⟩ ⟨k0,k1,k2,k3,k4,k5⟩=>⟨fun hlt=>?_,fun hge=>?_⟩⟩
 ·rw [show (0+(j:Int)+1).toNat=j+1 by omega,show (0+(j:Int)).toNat=j by omega,h5]
 ·simp only at k0 k1 k2 k3 k4 k5 hlt ⊢
  have hlt:=of_decide_eq_true hlt
  have hs:=Bf (0:Int) (p:=fun v=>!decide (v<0)) (xs:=r) (row:=row) (i:=i.toNat) (j:=j.toNat) (by omega) (by omega) k3 k4 k5
  refine ⟨by omega,by omega,by omega,fun _=>⟨fun hp=>?_,fun hp=>?_⟩⟩
  ·obtain ⟨q1,q2⟩:=hs.1 hp
   refine ⟨by omega,by omega,by omega,by simp only [am]; omega,by simp only [am]; omega,⟨by omega,by omega,by omega,by simpa using k3,?_,?_⟩,by omega⟩
   ·rw [show (i+1).toNat=i.toNat+1 by omega,show (j+1).toNat=j.toNat+1 by omega]
    exact q1
   ·rw [show (j+1).toNat=j.toNat+1 by omega]
    exact q2
  ·obtain ⟨q1,q2⟩:=hs.2 hp
   refine ⟨by simp only [am]; omega,⟨by omega,by omega,by omega,k3,?_,?_⟩,by omega⟩
   ·rw [show (j+1).toNat=j.toNat+1 by omega]
    exact q1
   ·rw [show (j+1).toNat=j.toNat+1 by omega]
    exact q2
 ·simp only at k0 k1 k2 k3 k4 k5 hge ⊢
  have hge:=of_decide_eq_false hge
  have hj:j.toNat=r.length:=by omega
  have e1:List.take i.toNat (List.take i.toNat row++(List.replicate (row.length - i.toNat) 0++List.drop (i.toNat+(row.length - i.toNat)) row))=List.take i.toNat row:=by
   rw [List.take_append_of_le_length (by simp; omega),List.take_take,Nat.min_self]
  refine ⟨by omega,by omega,by omega,by omega,by simp; omega,trivial,trivial,?_⟩
  rw [e1,k4,hj,List.take_of_length_le (Nat.le_refl _)]
  simp only [aN]
  rw [if_neg (of_decide_eq_false h)]
  exact ⟨rfl,rfl,trivial⟩
theorem tW:tr.ok Try.prog 193:=aQ (ann:=uP) (ai lx (ai uc (ai zu (ai v6 (kG vV (kG nu ax)))))) Try.func193 (by kernel_rfl) qB
def zZ:Nat→Option LoopGen
 | 6=>some { rd:=[.dat 0 (.arr ty_I),.dat 1 ty_I],A:=fun ((r,n):List Int×Int)=>{ cs:=[.dat 18 ty_I],inv:=fun (i:Int)=>0≤i∧i≤r.length∧¬ (n<0∨256<n)∧¬ 32<r.length∧((r.drop i.toNat).any fun v=>!bW v n)=r.any fun v=>!bW v n,mu:=fun (i:Int)=>(r.length - i).toNat } }
 | _=>none
def y9:Spec:={ Ts:=[.arr ty_I,ty_I],Rs:=[.dat ty_I],pre:=fun _=>True,F:=fun ((r,n):List Int×Int)=>ao r n }
def su:Prop :=
  ∀ (x:List Int×Int),(x.1.length * 8≤aC∧∀ (x_1:Int),x_1∈x.1→am .i64 x_1)∧am .i64 x.2→True→((decide (x.2<0)||decide (256<x.2))=true→4=ao x.1 x.2∧True)∧((decide (x.2<0)||decide (256<x.2))=false→(decide (32<(↑x.1.length:Int))=true→2=ao x.1 x.2∧True)∧(decide (32<(↑x.1.length:Int))=false→((0:Int)≤0∧0≤(↑x.1.length:Int)∧¬(x.2<0∨256<x.2)∧¬32<x.1.length∧((List.drop (Int.toNat 0) x.1).any fun (v:Int)=>!bW v x.2)=x.1.any fun (v:Int)=>!bW v x.2)∧∀ (x_1:Int),(0≤x_1∧x_1≤(↑x.1.length:Int)∧¬(x.2<0∨256<x.2)∧¬32<x.1.length∧((List.drop x_1.toNat x.1).any fun (v:Int)=>!bW v x.2)=x.1.any fun (v:Int)=>!bW v x.2)→(decide (x_1<(↑x.1.length:Int))=true→0≤x_1∧x_1<(↑x.1.length:Int)∧((decide (x.1.getD x_1.toNat (0:Int) < -1)||decide (x.2≤x.1.getD x_1.toNat 0))=true→4=ao x.1 x.2∧True)∧((decide (x.1.getD x_1.toNat (0:Int) < -1)||decide (x.2≤x.1.getD x_1.toNat 0))=false→am .i64 (x_1+1)∧(0≤x_1+1∧x_1+1≤(↑x.1.length:Int)∧¬(x.2<0∨256<x.2)∧¬32<x.1.length∧((List.drop (x_1+1).toNat x.1).any fun (v:Int)=>!bW v x.2)=x.1.any fun (v:Int)=>!bW v x.2)∧((↑x.1.length:Int) - (x_1+1)).toNat<((↑x.1.length:Int) - x_1).toNat))∧(decide (x_1<(↑x.1.length:Int))=false→0=ao x.1 x.2∧True)))
theorem xc:su:=by
 unfold su
 intro ⟨r,n⟩ ⟨⟨hb,_⟩,hn⟩ _
 unfold aC at hb
 simp only at hb ⊢
 refine ⟨fun h=>?_,fun h=>⟨fun h2=>?_,fun h2=>⟨⟨by omega,by omega,by grind,by grind,by simp⟩,fun i ⟨k0,k1,k2,k3,k4⟩=>⟨fun hlt=>?_,fun hge=>?_⟩⟩⟩⟩
 ·simp only [ao]
  rw [if_pos (by grind)]
  exact ⟨rfl,trivial⟩
 ·simp only [ao]
  rw [if_neg (by grind),if_pos (by grind)]
  exact ⟨rfl,trivial⟩
 ·have hlt:=of_decide_eq_true hlt
  rw [aY (0:Int) k0 hlt,List.any_cons] at k4
  refine ⟨k0,hlt,fun hc=>?_,fun hc=>?_⟩
  ·simp only [ao]
   rw [if_neg k2,if_neg k3,← k4,if_pos (by simp only [bW]; grind)]
   exact ⟨rfl,trivial⟩
  ·have hw:bW (r.getD i.toNat 0) n=true:=by simp only [bW]; grind
   rw [hw] at k4
   simp only [Bool.not_true,Bool.false_or] at k4
   exact ⟨by simp only [am]; omega,⟨by omega,by omega,k2,k3,k4⟩,by omega⟩
 ·have hge:=of_decide_eq_false hge
  rw [bt hge,List.any_nil] at k4
  simp only [ao]
  rw [if_neg k2,if_neg k3,← k4]
  simp
theorem zw:y9.ok Try.prog 126:=aQ (ann:=zZ) ax Try.func126 (by kernel_rfl) xc
def bz (l:List Int) (m:Nat):List Int:=((List.range m).map Int.ofNat).filter (dw l)
def yg:Nat→Option LoopGen
 | 3=>some { rd:=[.dat 0 (.arr ty_I)],A:=fun (l:List Int)=>{ cs:=[.own 3 3 ty_I,.dat 5 ty_I],inv:=fun ((out,i):List Int×Int)=>0≤i∧i≤256∧out=bz l i.toNat,mu:=fun ((_,i):List Int×Int)=>(256 - i).toNat } }
 | _=>none
def xm:Spec:={ Ts:=[.arr ty_I],Rs:=[.own 3 ty_I],pre:=fun _=>True,F:=fun (l:List Int)=>bz l 256 }
def pj:Prop :=
  ∀ (x:List Int),(x.length * 8≤aC∧∀ (x_1:Int),x_1∈x→am .i64 x_1)→True→((0:Int)≤0∧(0:Int)≤256∧([]:List Int)=bz x (Int.toNat 0))∧∀ (x_1:List Int×Int),0≤x_1.2∧x_1.2≤256∧x_1.1=bz x x_1.2.toNat→(decide (x_1.2<256)=true→True∧(dw x x_1.2=true→(x_1.1.length+[x_1.2].length) * 8≤aC∧am .i64 (x_1.2+1)∧(0≤x_1.2+1∧x_1.2+1≤256∧x_1.1++[x_1.2]=bz x (x_1.2+1).toNat)∧(256 - (x_1.2+1)).toNat<(256 - x_1.2).toNat)∧(dw x x_1.2=false→am .i64 (x_1.2+1)∧(0≤x_1.2+1∧x_1.2+1≤256∧x_1.1=bz x (x_1.2+1).toNat)∧(256 - (x_1.2+1)).toNat<(256 - x_1.2).toNat))∧(decide (x_1.2<256)=false→x_1.1=bz x 256∧True)
theorem u5:pj:=by
 unfold pj
 intro l _ _
 refine ⟨⟨by omega,by omega,rfl⟩,fun ⟨out,i⟩ ⟨k0,k1,k2⟩=>?_⟩
 simp only at k0 k1 k2 ⊢
 have hs:bz l (i+1).toNat=if dw l i=true then out++[i] else out:=by
  rw [k2,show (i+1).toNat=i.toNat+1 by omega]
  simp only [bz,List.range_succ,List.map_append,List.map_cons,List.map_nil,List.filter_append]
  rw [show Int.ofNat i.toNat=i from Int.toNat_of_nonneg k0]
  cases hc:dw l i <;> simp [hc]
 have hl:out.length≤i.toNat:=by
  rw [k2,bz]
  refine Nat.le_trans (List.length_filter_le _ _) ?_
  simp
 refine ⟨fun hlt=>⟨trivial,fun hc=>?_,fun hc=>?_⟩,fun hge=>?_⟩
 ·have hlt:=of_decide_eq_true hlt
  rw [hc] at hs
  refine ⟨by simp only [List.length_singleton,aC]; omega,by simp only [am]; omega,⟨by omega,by omega,?_⟩,by omega⟩
  rw [hs]; rfl
 ·have hlt:=of_decide_eq_true hlt
  rw [hc] at hs
  refine ⟨by simp only [am]; omega,⟨by omega,by omega,?_⟩,by omega⟩
  rw [hs]; rfl
 ·have hge:=of_decide_eq_false hge
  rw [k2,show i.toNat=256 by omega]
  exact ⟨rfl,trivial⟩
theorem xH:xm.ok Try.prog 48:=aQ (ann:=yg) (ai xI ax) Try.func48 (by kernel_rfl) u5
