
import Derived.Test.YtglchojglcobjaaGreatInts
import Derived.Test.YtglchojglcobjaaGreatRowSort
namespace Go.Proofs.YtglchojglcobjaaGreat
open Go
set_option maxRecDepth 100000
set_option maxHeartbeats 1000000
def within (v n:Int):Bool:=decide (-1≤v)&&decide (v<n)
def rootFault (r:List Int) (n:Int):Int:=if n<0∨256<n then 4 else if 32<r.length then 2 else if (r.any fun v=>!within v n)=true then 4 else 0
def rootNamedF (r:List Int) (n:Int):List Int×Int :=
 if rootFault r n≠0 then ([],rootFault r n) else (compactI (sortI (r.filter fun v=>!decide (v<0))),0)
theorem withinI {r:List Int} {n v:Int} (h:(r.any fun v=>!within v n)=false) (hv:v∈r):-1≤v∧v<n:=by
 have:=List.any_eq_false.1 h v hv
 simpa [within] using this
theorem rootFault_any {r:List Int} {n:Int} (h:rootFault r n=0):(r.any fun v=>!within v n)=false:=by
 unfold rootFault at h
 cases hr:r.any fun v=>!within v n
 ·rfl
 ·rw [hr] at h
  simp only [if_true] at h
  split at h
  ·omega
  ·split at h <;> omega
theorem findFrom_filter {α:Type} (f:α→Bool):∀ (l:List α) (k:Int),0≤k→(findFrom f k l=-1∧l.filter (fun x=>!f x)=l) ∨
  ∃ j:Nat,findFrom f k l=k+j∧j<l.length∧(l.take (j+1)).filter (fun x=>!f x)=l.take j
 | [],k,_=>.inl ⟨rfl,rfl⟩
 | x::l,k,hk=>by
  simp only [findFrom]
  cases hx:f x
  ·rw [if_neg (by simp)]
   rcases findFrom_filter f l (k+1) (by omega) with ⟨h1,h2⟩ | ⟨j,h1,h2,h3⟩
   ·exact .inl ⟨h1,by rw [List.filter_cons_of_pos (by simp [hx]),h2]⟩
   ·exact .inr ⟨j+1,by omega,by simp; omega,by rw [List.take_succ_cons,List.filter_cons_of_pos (by simp [hx]),h3,List.take_succ_cons]⟩
  ·rw [if_pos rfl]
   exact .inr ⟨0,by omega,by simp,by simp [hx]⟩
theorem del_step {α:Type} (d:α) {p:α→Bool} {xs row:List α} {i j:Nat} (hij:i<j) (hj:j<xs.length) (hl:row.length=xs.length) (ht:row.take i=(xs.take j).filter p) (hd:row.drop j=xs.drop j) :
  (p (row.getD j d)=true→(row.set i (row.getD j d)).take (i+1)=(xs.take (j+1)).filter p∧(row.set i (row.getD j d)).drop (j+1)=xs.drop (j+1)) ∧
  (p (row.getD j d)=false→row.take i=(xs.take (j+1)).filter p∧row.drop (j+1)=xs.drop (j+1)):=by
 have he:row.getD j d=xs.getD j d:=by
  have:=congrArg (fun l=>l.getD 0 d) hd
  simpa [List.getD,List.getElem?_drop] using this
 have h1:row.drop (j+1)=xs.drop (j+1):=by
  have:=congrArg (List.drop 1) hd
  simpa [List.drop_drop,Nat.add_comm] using this
 have hx:xs.take (j+1)=xs.take j++[xs.getD j d]:=by
  rw [List.take_succ_eq_append_getElem hj]
  simp [List.getD,hj]
 rw [he,hx,List.filter_append]
 refine ⟨fun hp=>⟨?_,?_⟩,fun hp=>⟨?_,h1⟩⟩
 ·rw [List.take_set,← ht,List.filter_cons_of_pos hp,List.filter_nil]
  have hi:i<row.length:=by omega
  rw [List.take_succ_eq_append_getElem hi,List.set_append_right _ _ (by simp; omega)]
  simp [Nat.min_eq_left (Nat.le_of_lt hi)]
 ·rw [List.drop_set_of_lt (by omega),h1]
 ·rw [ht,List.filter_cons_of_neg (by rw [hp]; simp)]
  simp
def sp_cloneInts:Spec:={ Ts:=[.arr ty_I],Rs:=[.own 3 ty_I],pre:=fun _=>True,F:=fun (x:List Int)=>x }
def pv_cloneInts:Prop :=
  ∀ (x:List Int),(x.length * (8:Nat)≤big∧∀ (x_1:Int),x_1∈x→InR IntKind.i64 x_1)→True→(x=([]:List Int)→([]:List Int)=x∧True)∧(True→((0:Nat)+x.length) * (8:Nat)≤big∧([]:List Int)++x=x∧True)
theorem vcp_cloneInts:pv_cloneInts:=by
 unfold pv_cloneInts
 intro x ⟨hb,_⟩ _
 simp [hb]
theorem e_cloneInts:pv_cloneInts=(fnVC Tryz.prog (tbl []) an_0 Tryz.f97 sp_cloneInts):=by kernel_rfl
theorem vc_cloneInts:fnVC Tryz.prog (tbl []) an_0 Tryz.f97 sp_cloneInts:=@Eq.mp _ _ @e_cloneInts @vcp_cloneInts
theorem ok_cloneInts:sp_cloneInts.ok Tryz.prog 97:=fn_sound (P:=Tryz.prog) (ss:=tbl []) (ann:=an_0) (f:=97) (fn:=Tryz.f97) (s:=sp_cloneInts) tbl_nil Tryz.func97 @vc_cloneInts
def sp_within:Spec:={ Ts:=[ty_I,ty_I],Rs:=[.dat .bool],pre:=fun _=>True,F:=fun ((v,n):Int×Int)=>within v n }
def pv_within:Prop :=
  ∀ (x:Int×Int),InR IntKind.i64 x.1∧InR IntKind.i64 x.2→True→(decide ((-1:Int)≤x.1)&&decide (x.1<x.2))=within x.1 x.2∧True
theorem vcp_within:pv_within:=by
 unfold pv_within
 intro ⟨v,n⟩ _ _
 simp only [within]
 grind
theorem e_within:pv_within=(fnVC Tryz.prog (tbl []) an_0 Tryz.f126 sp_within):=by kernel_rfl
theorem vc_within:fnVC Tryz.prog (tbl []) an_0 Tryz.f126 sp_within:=@Eq.mp _ _ @e_within @vcp_within
theorem ok_within:sp_within.ok Tryz.prog 126:=fn_sound (P:=Tryz.prog) (ss:=tbl []) (ann:=an_0) (f:=126) (fn:=Tryz.f126) (s:=sp_within) tbl_nil Tryz.func126 @vc_within
def sp_rootC1:Spec:={ Ts:=[ty_I,.ref ty_I],Rs:=[.dat .bool],pre:=fun _=>True,F:=fun ((v,n):Int×Int)=>!within v n }
def pv_rootC1:Prop :=
  ∀ (x:Int×Int),InR IntKind.i64 x.1∧InR IntKind.i64 x.2→True→True∧(!within x.1 x.2)=!within x.1 x.2∧True
theorem vcp_rootC1:pv_rootC1:=by
 unfold pv_rootC1
 intro ⟨v,n⟩ _ _
 simp
theorem e_rootC1:pv_rootC1=(fnVC Tryz.prog (tbl [(126,sp_within)]) an_0 Tryz.f125 sp_rootC1):=by kernel_rfl
theorem vc_rootC1:fnVC Tryz.prog (tbl [(126,sp_within)]) an_0 Tryz.f125 sp_rootC1:=@Eq.mp _ _ @e_rootC1 @vcp_rootC1
theorem ok_rootC1:sp_rootC1.ok Tryz.prog 125:=fn_sound (P:=Tryz.prog) (ss:=tbl [(126,sp_within)]) (ann:=an_0) (f:=125) (fn:=Tryz.f125) (s:=sp_rootC1) (tbl_cons ok_within tbl_nil) Tryz.func125 @vc_rootC1
def sp_rootC3:Spec:={ Ts:=[ty_I],Rs:=[.dat .bool],pre:=fun _=>True,F:=fun (v:Int)=>decide (v<0) }
def pv_rootC3:Prop :=
  ∀ (x:Int),InR IntKind.i64 x→True→decide (x<(0:Int))=decide (x<(0:Int))∧True
theorem vcp_rootC3:pv_rootC3:=by
 unfold pv_rootC3
 intro v _ _
 simp
theorem e_rootC3:pv_rootC3=(fnVC Tryz.prog (tbl []) an_0 Tryz.f152 sp_rootC3):=by kernel_rfl
theorem vc_rootC3:fnVC Tryz.prog (tbl []) an_0 Tryz.f152 sp_rootC3:=@Eq.mp _ _ @e_rootC3 @vcp_rootC3
theorem ok_rootC3:sp_rootC3.ok Tryz.prog 152:=fn_sound (P:=Tryz.prog) (ss:=tbl []) (ann:=an_0) (f:=152) (fn:=Tryz.f152) (s:=sp_rootC3) tbl_nil Tryz.func152 @vc_rootC3
def sp_rootCheck:Spec:={ Ts:=[.arr ty_I,ty_I],Rs:=[.dat ty_I],pre:=fun _=>True,F:=fun ((r,n):List Int×Int)=>rootFault r n }
def pv_rootCheck:Prop :=
  ∀ (x:List Int×Int),(x.1.length * (8:Nat)≤big∧∀ (x_1:Int),x_1∈x.1→InR IntKind.i64 x_1)∧InR IntKind.i64 x.2→True→((decide (x.2<(0:Int))||decide ((256:Int)<x.2))=true→(4:Int)=rootFault x.1 x.2∧True)∧((decide (x.2<(0:Int))||decide ((256:Int)<x.2))=false→(decide ((32:Int)<(↑x.1.length:Int))=true→(2:Int)=rootFault x.1 x.2∧True)∧(decide ((32:Int)<(↑x.1.length:Int))=false→(∀ (s:Int),s∈x.1→(fun (_:Int)=>True,fun (x_1:Int)=>!within x_1 x.2).1 s)∧((x.1.any fun (x_1:Int)=>!within x_1 x.2)=true→(4:Int)=rootFault x.1 x.2∧True)∧((x.1.any fun (x_1:Int)=>!within x_1 x.2)=false→(0:Int)=rootFault x.1 x.2∧True)))
theorem vcp_rootCheck:pv_rootCheck:=by
 unfold pv_rootCheck
 intro ⟨r,n⟩ ⟨⟨hb,_⟩,hn⟩ _
 simp only [rootFault]
 grind
theorem e_rootCheck:pv_rootCheck=(fnVC Tryz.prog (tbl [(124,sp_anyI),(125,sp_rootC1)]) an_0 Tryz.f91 sp_rootCheck):=by kernel_rfl
theorem vc_rootCheck:fnVC Tryz.prog (tbl [(124,sp_anyI),(125,sp_rootC1)]) an_0 Tryz.f91 sp_rootCheck:=@Eq.mp _ _ @e_rootCheck @vcp_rootCheck
theorem ok_rootCheck:sp_rootCheck.ok Tryz.prog 91:=fn_sound (P:=Tryz.prog) (ss:=tbl [(124,sp_anyI),(125,sp_rootC1)]) (ann:=an_0) (f:=91) (fn:=Tryz.f91) (s:=sp_rootCheck) (tbl_cons ok_anyI (tbl_cons ok_rootC1 tbl_nil)) Tryz.func91 @vc_rootCheck
def an_rootNamed:Nat→Option LoopGen
 | 3000151=>some an_in
 | 3000152=>some an_in
 | 15200000005=>some { rd:=[.own 0 3 ty_I],wr:=[0],A:=fun (xs:List Int)=>{ cs:=[.own 0 3 ty_I,.dat 5 ty_I,.dat 6 ty_I],inv:=fun ((row,i,j):List Int×Int×Int)=>0≤i∧i<j∧j≤xs.length∧row.length=xs.length∧row.take i.toNat=(xs.take j.toNat).filter (fun v=>!decide (v<0))∧row.drop j.toNat=xs.drop j.toNat,mu:=fun ((_,_,j):List Int×Int×Int)=>(xs.length - j).toNat } }
 | _=>none
def sp_rootNamed:Spec:={ Ts:=[.arr ty_I,ty_I],Rs:=[.own 3 ty_I,.dat ty_I],pre:=fun _=>True,F:=fun ((r,n):List Int×Int)=>rootNamedF r n }
def pv_rootNamed:Prop :=
  ∀ (x:List Int×Int),(x.1.length * (8:Nat)≤big∧∀ (x_1:Int),x_1∈x.1→InR IntKind.i64 x_1)∧InR IntKind.i64 x.2→True→True∧(decide (rootFault x.1 x.2≠(0:Int))=true→([]:List Int)=(rootNamedF x.1 x.2).1∧rootFault x.1 x.2=(rootNamedF x.1 x.2).2∧True)∧(decide (rootFault x.1 x.2≠(0:Int))=false→True∧∀ (_:Array Value),(∀ (s:Int),s∈x.1→(fun (_:Int)=>True,fun (x:Int)=>decide (x<(0:Int))).1 s)∧(decide (findFrom (fun (x:Int)=>decide (x<(0:Int))) (0:Int) x.1=(-1:Int))=true→True∧True∧compactI (sortI x.1)=(rootNamedF x.1 x.2).1∧(0:Int)=(rootNamedF x.1 x.2).2∧True)∧(decide (findFrom (fun (x:Int)=>decide (x<(0:Int))) (0:Int) x.1=(-1:Int))=false→InR IntKind.i64 (findFrom (fun (x:Int)=>decide (x<(0:Int))) (0:Int) x.1+(1:Int))∧((0:Int)≤findFrom (fun (x:Int)=>decide (x<(0:Int))) (0:Int) x.1∧findFrom (fun (x:Int)=>decide (x<(0:Int))) (0:Int) x.1<findFrom (fun (x:Int)=>decide (x<(0:Int))) (0:Int) x.1+(1:Int)∧findFrom (fun (x:Int)=>decide (x<(0:Int))) (0:Int) x.1+(1:Int)≤(↑x.1.length:Int)∧x.1.length=x.1.length∧List.take (findFrom (fun (x:Int)=>decide (x<(0:Int))) (0:Int) x.1).toNat x.1=List.filter (fun (v:Int)=>!decide (v<(0:Int))) (List.take (findFrom (fun (x:Int)=>decide (x<(0:Int))) (0:Int) x.1+(1:Int)).toNat x.1)∧List.drop (findFrom (fun (x:Int)=>decide (x<(0:Int))) (0:Int) x.1+(1:Int)).toNat x.1=List.drop (findFrom (fun (x:Int)=>decide (x<(0:Int))) (0:Int) x.1+(1:Int)).toNat x.1)∧∀ (x_1:List Int×Int×Int),(0:Int)≤x_1.2.1∧x_1.2.1<x_1.2.2∧x_1.2.2≤(↑x.1.length:Int)∧x_1.1.length=x.1.length∧List.take x_1.2.1.toNat x_1.1=List.filter (fun (v:Int)=>!decide (v<(0:Int))) (List.take x_1.2.2.toNat x.1)∧List.drop x_1.2.2.toNat x_1.1=List.drop x_1.2.2.toNat x.1→(decide (x_1.2.2<(↑x_1.1.length:Int))=true→(0:Int)≤x_1.2.2∧x_1.2.2<(↑x_1.1.length:Int)∧x_1.2.2.toNat<x_1.1.length∧∀ (_:Array Value),((!decide (x_1.1.getD x_1.2.2.toNat (0:Int)<(0:Int)))=true→(0:Int)≤x_1.2.1∧x_1.2.1<(↑x_1.1.length:Int)∧x_1.2.1.toNat<x_1.1.length∧InR IntKind.i64 (x_1.2.1+(1:Int))∧InR IntKind.i64 (x_1.2.2+(1:Int))∧((0:Int)≤x_1.2.1+(1:Int)∧x_1.2.1+(1:Int)<x_1.2.2+(1:Int)∧x_1.2.2+(1:Int)≤(↑x.1.length:Int)∧(x_1.1.set x_1.2.1.toNat (x_1.1.getD x_1.2.2.toNat (0:Int))).length=x.1.length∧List.take (x_1.2.1+(1:Int)).toNat (x_1.1.set x_1.2.1.toNat (x_1.1.getD x_1.2.2.toNat (0:Int)))=List.filter (fun (v:Int)=>!decide (v<(0:Int))) (List.take (x_1.2.2+(1:Int)).toNat x.1)∧List.drop (x_1.2.2+(1:Int)).toNat (x_1.1.set x_1.2.1.toNat (x_1.1.getD x_1.2.2.toNat (0:Int)))=List.drop (x_1.2.2+(1:Int)).toNat x.1)∧((↑x.1.length:Int) - (x_1.2.2+(1:Int))).toNat<((↑x.1.length:Int) - x_1.2.2).toNat)∧((!decide (x_1.1.getD x_1.2.2.toNat (0:Int)<(0:Int)))=false→InR IntKind.i64 (x_1.2.2+(1:Int))∧((0:Int)≤x_1.2.1∧x_1.2.1<x_1.2.2+(1:Int)∧x_1.2.2+(1:Int)≤(↑x.1.length:Int)∧x_1.1.length=x.1.length∧List.take x_1.2.1.toNat x_1.1=List.filter (fun (v:Int)=>!decide (v<(0:Int))) (List.take (x_1.2.2+(1:Int)).toNat x.1)∧List.drop (x_1.2.2+(1:Int)).toNat x_1.1=List.drop (x_1.2.2+(1:Int)).toNat x.1)∧((↑x.1.length:Int) - (x_1.2.2+(1:Int))).toNat<((↑x.1.length:Int) - x_1.2.2).toNat))∧(decide (x_1.2.2<(↑x_1.1.length:Int))=false→(0:Int)≤x_1.2.1∧x_1.2.1≤(↑x_1.1.length:Int)∧x_1.2.1.toNat+(x_1.1.length - x_1.2.1.toNat)≤x_1.1.length∧(0:Int)≤x_1.2.1∧x_1.2.1≤(↑(List.take x_1.2.1.toNat x_1.1++(List.replicate (x_1.1.length - x_1.2.1.toNat) (0:Int)++List.drop (x_1.2.1.toNat+(x_1.1.length - x_1.2.1.toNat)) x_1.1)).length:Int)∧True∧True∧compactI (sortI (List.take x_1.2.1.toNat (List.take x_1.2.1.toNat x_1.1++(List.replicate (x_1.1.length - x_1.2.1.toNat) (0:Int)++List.drop (x_1.2.1.toNat+(x_1.1.length - x_1.2.1.toNat)) x_1.1))))=(rootNamedF x.1 x.2).1∧(0:Int)=(rootNamedF x.1 x.2).2∧True)))
theorem vcp_rootNamed:pv_rootNamed:=by
 unfold pv_rootNamed
 intro ⟨r,n⟩ ⟨⟨hb,_⟩,_⟩ _
 unfold big at hb
 simp only at hb ⊢
 refine ⟨trivial,fun h=>?_,fun h=>⟨trivial,fun _=>⟨fun _ _=>trivial,fun h2=>?_,fun h2=>?_⟩⟩⟩
 ·simp only [rootNamedF]
  rw [if_pos (of_decide_eq_true h)]
  exact ⟨rfl,rfl,trivial⟩
 ·have h2:=of_decide_eq_true h2
  refine ⟨trivial,trivial,?_⟩
  simp only [rootNamedF]
  rw [if_neg (of_decide_eq_false h)]
  rcases findFrom_filter (fun x:Int=>decide (x<0)) r 0 (by omega) with ⟨_,h3⟩ | ⟨j,h3,_⟩
  ·rw [h3]
   exact ⟨rfl,rfl,trivial⟩
  ·omega
 have h2:=of_decide_eq_false h2
 rcases findFrom_filter (fun x:Int=>decide (x<0)) r 0 (by omega) with ⟨h3,_⟩ | ⟨j,h3,h4,h5⟩
 ·exact absurd h3 h2
 rw [h3]
 refine ⟨by simp only [InR]; omega,⟨by omega,by omega,by omega,trivial,?_,trivial⟩,fun ⟨row,i,j⟩ ⟨k0,k1,k2,k3,k4,k5⟩=>⟨fun hlt=>?_,fun hge=>?_⟩⟩
 ·rw [show (0+(j:Int)+1).toNat=j+1 by omega,show (0+(j:Int)).toNat=j by omega,h5]
 ·simp only at k0 k1 k2 k3 k4 k5 hlt ⊢
  have hlt:=of_decide_eq_true hlt
  have hs:=del_step (0:Int) (p:=fun v=>!decide (v<0)) (xs:=r) (row:=row) (i:=i.toNat) (j:=j.toNat) (by omega) (by omega) k3 k4 k5
  refine ⟨by omega,by omega,by omega,fun _=>⟨fun hp=>?_,fun hp=>?_⟩⟩
  ·obtain ⟨q1,q2⟩:=hs.1 hp
   refine ⟨by omega,by omega,by omega,by simp only [InR]; omega,by simp only [InR]; omega,⟨by omega,by omega,by omega,by simpa using k3,?_,?_⟩,by omega⟩
   ·rw [show (i+1).toNat=i.toNat+1 by omega,show (j+1).toNat=j.toNat+1 by omega]
    exact q1
   ·rw [show (j+1).toNat=j.toNat+1 by omega]
    exact q2
  ·obtain ⟨q1,q2⟩:=hs.2 hp
   refine ⟨by simp only [InR]; omega,⟨by omega,by omega,by omega,k3,?_,?_⟩,by omega⟩
   ·rw [show (j+1).toNat=j.toNat+1 by omega]
    exact q1
   ·rw [show (j+1).toNat=j.toNat+1 by omega]
    exact q2
 ·simp only at k0 k1 k2 k3 k4 k5 hge ⊢
  have hge:=of_decide_eq_false hge
  have hj:j.toNat=r.length:=by omega
  have e1:List.take i.toNat (List.take i.toNat row++(List.replicate (row.length - i.toNat) 0++List.drop (i.toNat+(row.length - i.toNat)) row))=List.take i.toNat row:=by
   rw [List.take_append_of_le_length (by simp; omega),List.take_take,Nat.min_self]
  refine ⟨by omega,by omega,by omega,by omega,by simp; omega,trivial,trivial,?_⟩
  rw [e1,k4,hj,List.take_of_length_le (Nat.le_refl _)]
  simp only [rootNamedF]
  rw [if_neg (of_decide_eq_false h)]
  exact ⟨rfl,rfl,trivial⟩
theorem e_rootNamed:pv_rootNamed=(fnVC Tryz.prog (tbl [(91,sp_rootCheck),(97,sp_cloneInts),(152,sp_rootC3),(150,sp_idxIF)] [(130,sp_sortI),(131,sp_compactI)]) an_rootNamed Tryz.f128 sp_rootNamed):=by kernel_rfl
theorem vc_rootNamed:fnVC Tryz.prog (tbl [(91,sp_rootCheck),(97,sp_cloneInts),(152,sp_rootC3),(150,sp_idxIF)] [(130,sp_sortI),(131,sp_compactI)]) an_rootNamed Tryz.f128 sp_rootNamed:=@Eq.mp _ _ @e_rootNamed @vcp_rootNamed
theorem ok_rootNamed:sp_rootNamed.ok Tryz.prog 128:=fn_sound (P:=Tryz.prog) (ss:=tbl [(91,sp_rootCheck),(97,sp_cloneInts),(152,sp_rootC3),(150,sp_idxIF)] [(130,sp_sortI),(131,sp_compactI)]) (ann:=an_rootNamed) (f:=128) (fn:=Tryz.f128) (s:=sp_rootNamed) (tbl_cons ok_rootCheck (tbl_cons ok_cloneInts (tbl_cons ok_rootC3 (tbl_cons ok_idxIF (tbl_row ok_sortI (tbl_row ok_compactI tbl_nil)))))) Tryz.func128 @vc_rootNamed
def an_rRoots:Nat→Option LoopGen
 | 6=>some { rd:=[.dat 0 (.arr ty_I),.dat 1 ty_I],A:=fun ((r,n):List Int×Int)=>{ cs:=[.dat 18 ty_I],inv:=fun (i:Int)=>0≤i∧i≤r.length∧¬ (n<0∨256<n)∧¬ 32<r.length∧((r.drop i.toNat).any fun v=>!within v n)=r.any fun v=>!within v n,mu:=fun (i:Int)=>(r.length - i).toNat } }
 | _=>none
def sp_rRoots:Spec:={ Ts:=[.arr ty_I,ty_I],Rs:=[.dat ty_I],pre:=fun _=>True,F:=fun ((r,n):List Int×Int)=>rootFault r n }
def pv_rRoots:Prop :=
  ∀ (x:List Int×Int),(x.1.length * (8:Nat)≤big∧∀ (x_1:Int),x_1∈x.1→InR IntKind.i64 x_1)∧InR IntKind.i64 x.2→True→((decide (x.2<(0:Int))||decide ((256:Int)<x.2))=true→(4:Int)=rootFault x.1 x.2∧True)∧((decide (x.2<(0:Int))||decide ((256:Int)<x.2))=false→(decide ((32:Int)<(↑x.1.length:Int))=true→(2:Int)=rootFault x.1 x.2∧True)∧(decide ((32:Int)<(↑x.1.length:Int))=false→((0:Int)≤(0:Int)∧(0:Int)≤(↑x.1.length:Int)∧¬(x.2<(0:Int)∨(256:Int)<x.2)∧¬(32:Nat)<x.1.length∧((List.drop (Int.toNat (0:Int)) x.1).any fun (v:Int)=>!within v x.2)=x.1.any fun (v:Int)=>!within v x.2)∧∀ (x_1:Int),((0:Int)≤x_1∧x_1≤(↑x.1.length:Int)∧¬(x.2<(0:Int)∨(256:Int)<x.2)∧¬(32:Nat)<x.1.length∧((List.drop x_1.toNat x.1).any fun (v:Int)=>!within v x.2)=x.1.any fun (v:Int)=>!within v x.2)→(decide (x_1<(↑x.1.length:Int))=true→(0:Int)≤x_1∧x_1<(↑x.1.length:Int)∧((decide (x.1.getD x_1.toNat (0:Int)<(-1:Int))||decide (x.2≤x.1.getD x_1.toNat (0:Int)))=true→(4:Int)=rootFault x.1 x.2∧True)∧((decide (x.1.getD x_1.toNat (0:Int)<(-1:Int))||decide (x.2≤x.1.getD x_1.toNat (0:Int)))=false→InR IntKind.i64 (x_1+(1:Int))∧((0:Int)≤x_1+(1:Int)∧x_1+(1:Int)≤(↑x.1.length:Int)∧¬(x.2<(0:Int)∨(256:Int)<x.2)∧¬(32:Nat)<x.1.length∧((List.drop (x_1+(1:Int)).toNat x.1).any fun (v:Int)=>!within v x.2)=x.1.any fun (v:Int)=>!within v x.2)∧((↑x.1.length:Int) - (x_1+(1:Int))).toNat<((↑x.1.length:Int) - x_1).toNat))∧(decide (x_1<(↑x.1.length:Int))=false→(0:Int)=rootFault x.1 x.2∧True)))
theorem vcp_rRoots:pv_rRoots:=by
 unfold pv_rRoots
 intro ⟨r,n⟩ ⟨⟨hb,_⟩,hn⟩ _
 unfold big at hb
 simp only at hb ⊢
 refine ⟨fun h=>?_,fun h=>⟨fun h2=>?_,fun h2=>⟨⟨by omega,by omega,by grind,by grind,by simp⟩,fun i ⟨k0,k1,k2,k3,k4⟩=>⟨fun hlt=>?_,fun hge=>?_⟩⟩⟩⟩
 ·simp only [rootFault]
  rw [if_pos (by grind)]
  exact ⟨rfl,trivial⟩
 ·simp only [rootFault]
  rw [if_neg (by grind),if_pos (by grind)]
  exact ⟨rfl,trivial⟩
 ·have hlt:=of_decide_eq_true hlt
  rw [drop_cons (0:Int) k0 hlt,List.any_cons] at k4
  refine ⟨k0,hlt,fun hc=>?_,fun hc=>?_⟩
  ·simp only [rootFault]
   rw [if_neg k2,if_neg k3,← k4,if_pos (by simp only [within]; grind)]
   exact ⟨rfl,trivial⟩
  ·have hw:within (r.getD i.toNat 0) n=true:=by simp only [within]; grind
   rw [hw] at k4
   simp only [Bool.not_true,Bool.false_or] at k4
   exact ⟨by simp only [InR]; omega,⟨by omega,by omega,k2,k3,k4⟩,by omega⟩
 ·have hge:=of_decide_eq_false hge
  rw [drop_end hge,List.any_nil] at k4
  simp only [rootFault]
  rw [if_neg k2,if_neg k3,← k4]
  simp
theorem e_rRoots:pv_rRoots=(fnVC Tryz.prog (tbl []) an_rRoots Tryz.f37 sp_rRoots):=by kernel_rfl
theorem vc_rRoots:fnVC Tryz.prog (tbl []) an_rRoots Tryz.f37 sp_rRoots:=@Eq.mp _ _ @e_rRoots @vcp_rRoots
theorem ok_rRoots:sp_rRoots.ok Tryz.prog 37:=fn_sound (P:=Tryz.prog) (ss:=tbl []) (ann:=an_rRoots) (f:=37) (fn:=Tryz.f37) (s:=sp_rRoots) tbl_nil Tryz.func37 @vc_rRoots
def risingL (l:List Int) (m:Nat):List Int:=((List.range m).map Int.ofNat).filter (inL l)
def an_rRising:Nat→Option LoopGen
 | 3=>some { rd:=[.dat 0 (.arr ty_I)],A:=fun (l:List Int)=>{ cs:=[.own 3 3 ty_I,.dat 5 ty_I],inv:=fun ((out,i):List Int×Int)=>0≤i∧i≤256∧out=risingL l i.toNat,mu:=fun ((_,i):List Int×Int)=>(256 - i).toNat } }
 | _=>none
def sp_rRising:Spec:={ Ts:=[.arr ty_I],Rs:=[.own 3 ty_I],pre:=fun _=>True,F:=fun (l:List Int)=>risingL l 256 }
def pv_rRising:Prop :=
  ∀ (x:List Int),(x.length * (8:Nat)≤big∧∀ (x_1:Int),x_1∈x→InR IntKind.i64 x_1)→True→((0:Int)≤(0:Int)∧(0:Int)≤(256:Int)∧([]:List Int)=risingL x (Int.toNat (0:Int)))∧∀ (x_1:List Int×Int),(0:Int)≤x_1.2∧x_1.2≤(256:Int)∧x_1.1=risingL x x_1.2.toNat→(decide (x_1.2<(256:Int))=true→True∧(inL x x_1.2=true→(x_1.1.length+[x_1.2].length) * (8:Nat)≤big∧InR IntKind.i64 (x_1.2+(1:Int))∧((0:Int)≤x_1.2+(1:Int)∧x_1.2+(1:Int)≤(256:Int)∧x_1.1++[x_1.2]=risingL x (x_1.2+(1:Int)).toNat)∧((256:Int) - (x_1.2+(1:Int))).toNat<((256:Int) - x_1.2).toNat)∧(inL x x_1.2=false→InR IntKind.i64 (x_1.2+(1:Int))∧((0:Int)≤x_1.2+(1:Int)∧x_1.2+(1:Int)≤(256:Int)∧x_1.1=risingL x (x_1.2+(1:Int)).toNat)∧((256:Int) - (x_1.2+(1:Int))).toNat<((256:Int) - x_1.2).toNat))∧(decide (x_1.2<(256:Int))=false→x_1.1=risingL x (256:Nat)∧True)
theorem vcp_rRising:pv_rRising:=by
 unfold pv_rRising
 intro l _ _
 refine ⟨⟨by omega,by omega,rfl⟩,fun ⟨out,i⟩ ⟨k0,k1,k2⟩=>?_⟩
 simp only at k0 k1 k2 ⊢
 have hs:risingL l (i+1).toNat=if inL l i=true then out++[i] else out:=by
  rw [k2,show (i+1).toNat=i.toNat+1 by omega]
  simp only [risingL,List.range_succ,List.map_append,List.map_cons,List.map_nil,List.filter_append]
  rw [show Int.ofNat i.toNat=i from Int.toNat_of_nonneg k0]
  cases hc:inL l i <;> simp [hc]
 have hl:out.length≤i.toNat:=by
  rw [k2,risingL]
  refine Nat.le_trans (List.length_filter_le _ _) ?_
  simp
 refine ⟨fun hlt=>⟨trivial,fun hc=>?_,fun hc=>?_⟩,fun hge=>?_⟩
 ·have hlt:=of_decide_eq_true hlt
  rw [hc] at hs
  refine ⟨by simp only [List.length_singleton,big]; omega,by simp only [InR]; omega,⟨by omega,by omega,?_⟩,by omega⟩
  rw [hs]; rfl
 ·have hlt:=of_decide_eq_true hlt
  rw [hc] at hs
  refine ⟨by simp only [InR]; omega,⟨by omega,by omega,?_⟩,by omega⟩
  rw [hs]; rfl
 ·have hge:=of_decide_eq_false hge
  rw [k2,show i.toNat=256 by omega]
  exact ⟨rfl,trivial⟩
theorem e_rRising:pv_rRising=(fnVC Tryz.prog (tbl [(44,sp_rIn)]) an_rRising Tryz.f46 sp_rRising):=by kernel_rfl
theorem vc_rRising:fnVC Tryz.prog (tbl [(44,sp_rIn)]) an_rRising Tryz.f46 sp_rRising:=@Eq.mp _ _ @e_rRising @vcp_rRising
theorem ok_rRising:sp_rRising.ok Tryz.prog 46:=fn_sound (P:=Tryz.prog) (ss:=tbl [(44,sp_rIn)]) (ann:=an_rRising) (f:=46) (fn:=Tryz.f46) (s:=sp_rRising) (tbl_cons ok_rIn tbl_nil) Tryz.func46 @vc_rRising
