
import Derived.Test.YtglchojglcobjaaGreatCames
import Derived.Test.YtglchojglcobjaaGreatRObjects
import Derived.Test.YtglchojglcobjaaGreatConcats
import Derived.Test.YtglchojglcobjaaGreatRoots
import Derived.Test.YtglchojglcobjaaGreatPins
import Derived.Test.YtglchojglcobjaaGreatHands
namespace Go.Proofs.YtglchojglcobjaaGreat
open Go
set_option maxRecDepth 100000
set_option maxHeartbeats 1000000
abbrev ty_Store:Ty:=.pair (.arr ty_W) (.pair (.arr ty_I) (.pair (.arr ty_Pin) (.arr ty_Slot)))
abbrev StoreD:=List Int×List Int×List Pin×List Slot
def openS (h:List Slot):List Int:=(h.filter fun s=>s.2.1).map (·.2.2)
def namesS (s:StoreD):List Int:=(s.2.1.filter fun v=>decide (0≤v))++openS s.2.2.2++s.2.2.1.map (·.1)
def fromS (s:StoreD):List Int:=compactI (sortI ((rootNamedF s.2.1 s.1.length).1++openS s.2.2.2++s.2.2.1.map (·.1)))
def storeF (s:StoreD):Int :=
 if (checkF s.1).2.2≠0 then (checkF s.1).2.2 else if rootFault s.2.1 s.1.length≠0 then rootFault s.2.1 s.1.length else if pinsF s.2.2.1≠0 then pinsF s.2.2.1 else if handsF s.2.2.2≠0 then handsF s.2.2.2 else fromFault s.1 (namesS s)
theorem rootNamed_len (r:List Int) (n:Int):(rootNamedF r n).1.length≤r.length:=by
 unfold rootNamedF
 split
 ·simp
 ·have h1:(compactI (sortI (r.filter fun v=>!decide (v<0)))).length≤_:=compact_len _
  have h2:=List.length_filter_le (fun v:Int=>!decide (v<0)) r
  rw [sortI_length] at h1
  simp only
  omega
theorem openS_len (h:List Slot):(openS h).length≤h.length:=by
 unfold openS
 rw [List.length_map]
 exact List.length_filter_le _ _
theorem openS_snoc (h:List Slot) (x:Slot):openS (h++[x])=if x.2.1=true then openS h++[x.2.2] else openS h:=by
 unfold openS
 rw [List.filter_append,List.map_append]
 by_cases hx:x.2.1=true
 ·rw [if_pos hx,List.filter_cons_of_pos (by simpa using hx)]; simp
 ·rw [if_neg hx,List.filter_cons_of_neg (by simpa using hx)]; simp
theorem compactS_mem {l:List Int} {x:Int}:x∈compactI (sortI l) ↔ x∈l:=by
 rw [(compactI_sorted (sortI_sorted l)).2 x,sortI_mem]
theorem fromS_mem {s:StoreD} (h:rootFault s.2.1 s.1.length=0) {x:Int}:x∈fromS s ↔ x∈namesS s:=by
 unfold fromS namesS
 rw [compactS_mem,List.mem_append,List.mem_append,List.mem_append,List.mem_append]
 have:x∈(rootNamedF s.2.1 s.1.length).1 ↔ x∈s.2.1.filter fun v=>decide (0≤v):=by
  unfold rootNamedF
  rw [if_neg (by omega)]
  simp only
  rw [compactS_mem,List.mem_filter,List.mem_filter]
  simp
 rw [this]
theorem pin_range:∀ (l:List Pin) (q:Int),pinScan q l=0→∀ x∈l,0≤x.1∧x.1≤255
 | [],_,_,x,hx=>by cases hx
 | y::l,q,h,x,hx=>by
  simp only [pinScan] at h
  split at h
  ·omega
  ·rename_i hb
   split at h
   ·omega
   ·rcases List.mem_cons.1 hx with rfl | hx
    ·unfold badPin at hb
     simp only [Bool.or_eq_true,decide_eq_true_eq,not_or] at hb
     omega
    ·exact pin_range l _ h x hx
theorem slot_range:∀ (l:List Slot),slotsFault l=0→∀ x∈l,0≤x.2.2∧x.2.2≤255
 | [],_,x,hx=>by cases hx
 | y::l,h,x,hx=>by
  simp only [slotsFault] at h
  split at h
  ·rename_i hb; omega
  ·rename_i hb
   rcases List.mem_cons.1 hx with rfl | hx
   ·have hb:slotBad x=0:=by omega
    unfold slotBad at hb
    split at hb
    ·omega
    ·omega
   ·exact slot_range l h x hx
theorem names_range {s:StoreD} (h1:rootFault s.2.1 s.1.length=0) (h2:pinsF s.2.2.1=0) (h3:handsF s.2.2.2=0):∀ x∈namesS s,0≤x∧x≤255:=by
 intro x hx
 unfold namesS at hx
 rcases List.mem_append.1 hx with hx | hx
 ·rcases List.mem_append.1 hx with hx | hx
  ·obtain ⟨hx,h0⟩:=List.mem_filter.1 hx
   have h0:=of_decide_eq_true h0
   unfold rootFault at h1
   split at h1
   ·omega
   ·split at h1
    ·omega
    ·split at h1
     ·omega
     ·rename_i hn _ ha
      have:=withinI (by simpa using ha) hx
      omega
  ·unfold openS at hx
   obtain ⟨y,hy,rfl⟩:=List.mem_map.1 hx
   unfold handsF at h3
   split at h3
   ·omega
   ·exact slot_range _ h3 y (List.mem_filter.1 hy).1
 ·obtain ⟨y,hy,rfl⟩:=List.mem_map.1 hx
  unfold pinsF at h2
  split at h2
  ·omega
  ·exact pin_range _ _ h2 y hy
theorem store_small {s:StoreD} (h1:rootFault s.2.1 s.1.length=0) (h2:pinsF s.2.2.1=0) (h3:handsF s.2.2.2=0):s.2.1.length≤32∧s.2.2.1.length≤16∧s.2.2.2.length≤16:=by
 unfold rootFault at h1
 unfold pinsF at h2
 unfold handsF at h3
 refine ⟨?_,?_,?_⟩
 ·split at h1
  ·omega
  ·split at h1 <;> omega
 ·split at h2 <;> omega
 ·split at h3 <;> omega
theorem at_free {a:List Int} (hc:(checkF a).2.2=0) (x:Int):(decide ((atF a x).2≠0)||(atF a x).1.2.2.2)=!isB (spotsF a).1 x:=by
 by_cases hx:isB (spotsF a).1 x=true
 ·obtain ⟨_,_,e⟩:=at_obj hc hx
  have hf:=(objA_in hx).2.2.2.2.2
  rw [e,hx]
  simp only [objectF,hf]
  simp
 ·obtain ⟨_,_,e1,_,_,_,_⟩:=checkF_in hc
  have hx2:isB (spotsF a).1 x=false:=by simpa using hx
  rw [hx2]
  unfold atF
  rw [if_neg (by omega)]
  by_cases hl:findFrom (fun s:Spot=>decide (s.1=x)) 0 (checkF a).1<0
  ·rw [if_pos hl]; simp
  ·rw [if_neg hl]
   have h1:=findFrom_is (fun s:Spot=>decide (s.1=x)) (0,0,0,0,false) (checkF a).1 0 (by omega) (by omega)
   have h2:=findFrom_lt (fun s:Spot=>decide (s.1=x)) (0,0,0,0,false) (checkF a).1 0 (by omega)
   rw [Int.sub_zero] at h1
   have h3:=getD_mem (xs:=(checkF a).1) ((0,0,0,0,false):Spot) (by omega:0≤findFrom (fun s:Spot=>decide (s.1=x)) 0 (checkF a).1) (by omega)
   simp only
   generalize (checkF a).1.getD (findFrom (fun s:Spot=>decide (s.1=x)) 0 (checkF a).1).toNat (0,0,0,0,false)=t at *
   have h1:=of_decide_eq_true h1
   rw [e1] at h3
   have:t.2.2.2.2=true:=by
    cases hf:t.2.2.2.2
    ·exfalso
     apply hx
     have:=headAtL_of (spotsF_sorted a) h3 hf
     unfold isB
     rw [← h1,this]
    ·rfl
   simp only [objectF,this]
   simp
def an_stPinned:Nat→Option LoopGen
 | 3=>some { rd:=[.dat 7 (.arr ty_Pin)],A:=fun (p:List Pin)=>{ cs:=[.own 3 3 ty_I,.dat 9 ty_I],inv:=fun ((o,i):List Int×Int)=>0≤i∧i≤p.length∧o=(p.take i.toNat).map (·.1),mu:=fun ((_,i):List Int×Int)=>(p.length - i).toNat } }
 | _=>none
def sp_stPinned:Spec:={ Ts:=[ty_Store],Rs:=[.own 3 ty_I],pre:=fun _=>True,F:=fun (s:StoreD)=>s.2.2.1.map (·.1) }
def pv_stPinned:Prop :=
  ∀ (x:List Int×List Int×List (Int×Int)×List (Int×Bool×Int)),((x.1.length * (8:Nat)≤big∧∀ (x_1:Int),x_1∈x.1→InR IntKind.u64 x_1)∧(x.2.1.length * (8:Nat)≤big∧∀ (x_1:Int),x_1∈x.2.1→InR IntKind.i64 x_1)∧(x.2.2.1.length * ((8:Nat)+(8:Nat))≤big∧∀ (x_1:Int×Int),x_1∈x.2.2.1→InR IntKind.i64 x_1.1∧InR IntKind.i64 x_1.2)∧x.2.2.2.length * ((8:Nat)+((8:Nat)+(8:Nat)))≤big∧∀ (x_1:Int×Bool×Int),x_1∈x.2.2.2→InR IntKind.i64 x_1.1∧True∧InR IntKind.i64 x_1.2.2)→True→((0:Int)≤(0:Int)∧(0:Int)≤(↑x.2.2.1.length:Int)∧([]:List Int)=List.map (fun (x:Pin)=>x.1) (List.take (Int.toNat (0:Int)) x.2.2.1))∧∀ (x_1:List Int×Int),(0:Int)≤x_1.2∧x_1.2≤(↑x.2.2.1.length:Int)∧x_1.1=List.map (fun (x:Pin)=>x.1) (List.take x_1.2.toNat x.2.2.1)→(decide (x_1.2<(↑x.2.2.1.length:Int))=true→(0:Int)≤x_1.2∧x_1.2<(↑x.2.2.1.length:Int)∧(x_1.1.length+[(x.2.2.1.getD x_1.2.toNat ((0:Int),(0:Int))).1].length) * (8:Nat)≤big∧InR IntKind.i64 (x_1.2+(1:Int))∧((0:Int)≤x_1.2+(1:Int)∧x_1.2+(1:Int)≤(↑x.2.2.1.length:Int)∧x_1.1++[(x.2.2.1.getD x_1.2.toNat ((0:Int),(0:Int))).1]=List.map (fun (x:Pin)=>x.1) (List.take (x_1.2+(1:Int)).toNat x.2.2.1))∧((↑x.2.2.1.length:Int) - (x_1.2+(1:Int))).toNat<((↑x.2.2.1.length:Int) - x_1.2).toNat)∧(decide (x_1.2<(↑x.2.2.1.length:Int))=false→x_1.1=List.map (fun (x:Pin)=>x.1) x.2.2.1∧True)
theorem vcp_stPinned:pv_stPinned:=by
 unfold pv_stPinned
 intro ⟨a,r,p,h⟩ ⟨_,_,⟨hbp,_⟩,_⟩ _
 unfold big at hbp
 simp only at hbp ⊢
 refine ⟨⟨by omega,by omega,by simp⟩,fun ⟨o,i⟩ ⟨i0,i1,i2⟩=>⟨fun hlt=>?_,fun hge=>?_⟩⟩
 ·simp only at i0 i1 i2 hlt ⊢
  have hlt:=of_decide_eq_true hlt
  have ht:=take_snoc ((0,0):Pin) i0 hlt
  have hl:o.length=i.toNat:=by rw [i2]; simp; omega
  rw [ht,List.map_append,← i2]
  unfold big
  simp only [InR,List.length_singleton]
  exact ⟨i0,hlt,by omega,by omega,⟨by omega,by omega,by first | rfl | trivial⟩,by omega⟩
 ·simp only at i0 i1 i2 hge ⊢
  rw [take_end (of_decide_eq_false hge)] at i2
  exact ⟨i2,trivial⟩
theorem e_stPinned:pv_stPinned=(fnVC Tryz.prog (tbl []) an_stPinned Tryz.f82 sp_stPinned):=by kernel_rfl
theorem vc_stPinned:fnVC Tryz.prog (tbl []) an_stPinned Tryz.f82 sp_stPinned:=@Eq.mp _ _ @e_stPinned @vcp_stPinned
theorem ok_stPinned:sp_stPinned.ok Tryz.prog 82:=fn_sound (P:=Tryz.prog) (ss:=tbl []) (ann:=an_stPinned) (f:=82) (fn:=Tryz.f82) (s:=sp_stPinned) tbl_nil Tryz.func82 @vc_stPinned
def an_stFrom:Nat→Option LoopGen
 | 3=>some { rd:=[.dat 17 (.arr ty_Slot),.own 3 3 ty_I],A:=fun ((h,l0):List Slot×List Int)=>{ cs:=[.own 3 3 ty_I,.dat 19 ty_I],inv:=fun ((o,i):List Int×Int)=>0≤i∧i≤h.length∧o=l0++openS (h.take i.toNat),mu:=fun ((_,i):List Int×Int)=>(h.length - i).toNat } }
 | _=>none
def sp_stFrom:Spec:={ Ts:=[ty_Store],Rs:=[.own 3 ty_I],pre:=fun (s:StoreD)=>s.2.1.length≤32∧s.2.2.1.length≤16∧s.2.2.2.length≤16,F:=fromS }
def pv_stFrom:Prop :=
  ∀ (x:List Int×List Int×List (Int×Int)×List (Int×Bool×Int)),((x.1.length * (8:Nat)≤big∧∀ (x_1:Int),x_1∈x.1→InR IntKind.u64 x_1)∧(x.2.1.length * (8:Nat)≤big∧∀ (x_1:Int),x_1∈x.2.1→InR IntKind.i64 x_1)∧(x.2.2.1.length * ((8:Nat)+(8:Nat))≤big∧∀ (x_1:Int×Int),x_1∈x.2.2.1→InR IntKind.i64 x_1.1∧InR IntKind.i64 x_1.2)∧x.2.2.2.length * ((8:Nat)+((8:Nat)+(8:Nat)))≤big∧∀ (x_1:Int×Bool×Int),x_1∈x.2.2.2→InR IntKind.i64 x_1.1∧True∧InR IntKind.i64 x_1.2.2)→x.2.1.length≤(32:Nat)∧x.2.2.1.length≤(16:Nat)∧x.2.2.2.length≤(16:Nat)→True∧((0:Int)≤(0:Int)∧(0:Int)≤(↑x.2.2.2.length:Int)∧(rootNamedF x.2.1 (↑x.1.length:Int)).1=(rootNamedF x.2.1 (↑x.1.length:Int)).1++openS (List.take (Int.toNat (0:Int)) x.2.2.2))∧∀ (x_1:List Int×Int),(0:Int)≤x_1.2∧x_1.2≤(↑x.2.2.2.length:Int)∧x_1.1=(rootNamedF x.2.1 (↑x.1.length:Int)).1++openS (List.take x_1.2.toNat x.2.2.2)→(decide (x_1.2<(↑x.2.2.2.length:Int))=true→(0:Int)≤x_1.2∧x_1.2<(↑x.2.2.2.length:Int)∧((x.2.2.2.getD x_1.2.toNat ((0:Int),false,(0:Int))).2.1=true→(x_1.1.length+[(x.2.2.2.getD x_1.2.toNat ((0:Int),false,(0:Int))).2.2].length) * (8:Nat)≤big∧InR IntKind.i64 (x_1.2+(1:Int))∧((0:Int)≤x_1.2+(1:Int)∧x_1.2+(1:Int)≤(↑x.2.2.2.length:Int)∧x_1.1++[(x.2.2.2.getD x_1.2.toNat ((0:Int),false,(0:Int))).2.2]=(rootNamedF x.2.1 (↑x.1.length:Int)).1++openS (List.take (x_1.2+(1:Int)).toNat x.2.2.2))∧((↑x.2.2.2.length:Int) - (x_1.2+(1:Int))).toNat<((↑x.2.2.2.length:Int) - x_1.2).toNat)∧((x.2.2.2.getD x_1.2.toNat ((0:Int),false,(0:Int))).2.1=false→InR IntKind.i64 (x_1.2+(1:Int))∧((0:Int)≤x_1.2+(1:Int)∧x_1.2+(1:Int)≤(↑x.2.2.2.length:Int)∧x_1.1=(rootNamedF x.2.1 (↑x.1.length:Int)).1++openS (List.take (x_1.2+(1:Int)).toNat x.2.2.2))∧((↑x.2.2.2.length:Int) - (x_1.2+(1:Int))).toNat<((↑x.2.2.2.length:Int) - x_1.2).toNat))∧(decide (x_1.2<(↑x.2.2.2.length:Int))=false→True∧[x_1.1,List.map (fun (x:Pin)=>x.1) x.2.2.1].flatten.length * (8:Nat)≤big∧True∧True∧compactI (sortI [x_1.1,List.map (fun (x:Pin)=>x.1) x.2.2.1].flatten)=fromS x∧True)
theorem vcp_stFrom:pv_stFrom:=by
 unfold pv_stFrom
 intro ⟨a,r,p,h⟩ _ ⟨h1,h2,h3⟩
 simp only at h1 h2 h3 ⊢
 have hF:fromS (a,r,p,h)=compactI (sortI ((rootNamedF r a.length).1++openS h++p.map (·.1))):=rfl
 have hrl:=rootNamed_len r a.length
 generalize (rootNamedF r a.length).1=l0 at *
 refine ⟨trivial,⟨by omega,by omega,by simp [openS]⟩,fun ⟨o,i⟩ ⟨i0,i1,i2⟩=>⟨fun hlt=>?_,fun hge=>?_⟩⟩
 ·simp only at i0 i1 i2 hlt ⊢
  have hlt:=of_decide_eq_true hlt
  have ht:=take_snoc ((0,false,0):Slot) i0 hlt
  have hl:o.length≤32+i.toNat:=by
   have:=openS_len (h.take i.toNat)
   rw [List.length_take] at this
   rw [i2,List.length_append]; omega
  rw [ht,openS_snoc]
  generalize h.getD i.toNat (0,false,0)=x at *
  unfold big
  simp only [InR,List.length_singleton]
  refine ⟨i0,hlt,fun hx=>?_,fun hx=>?_⟩
  ·rw [if_pos hx,← List.append_assoc,← i2]
   exact ⟨by omega,by omega,⟨by omega,by omega,by first | rfl | trivial⟩,by omega⟩
  ·rw [if_neg (by rw [hx]; simp),← i2]
   exact ⟨by omega,⟨by omega,by omega,by first | rfl | trivial⟩,by omega⟩
 ·simp only at i0 i1 i2 hge ⊢
  rw [take_end (of_decide_eq_false hge)] at i2
  have hl:=openS_len h
  have hc:[o,p.map (·.1)].flatten=l0++openS h++p.map (·.1):=by rw [i2]; simp
  rw [hc,hF]
  unfold big
  simp only [List.length_append,List.length_map]
  exact ⟨trivial,by omega,trivial,trivial,by first | rfl | trivial,trivial⟩
theorem e_stFrom:pv_stFrom=(fnVC Tryz.prog (tbl [(128,sp_rootNamed),(82,sp_stPinned),(129,sp_concatInts)] [(130,sp_sortI),(131,sp_compactI)]) an_stFrom Tryz.f94 sp_stFrom):=by kernel_rfl
theorem vc_stFrom:fnVC Tryz.prog (tbl [(128,sp_rootNamed),(82,sp_stPinned),(129,sp_concatInts)] [(130,sp_sortI),(131,sp_compactI)]) an_stFrom Tryz.f94 sp_stFrom:=@Eq.mp _ _ @e_stFrom @vcp_stFrom
theorem ok_stFrom:sp_stFrom.ok Tryz.prog 94:=fn_sound (P:=Tryz.prog) (ss:=tbl [(128,sp_rootNamed),(82,sp_stPinned),(129,sp_concatInts)] [(130,sp_sortI),(131,sp_compactI)]) (ann:=an_stFrom) (f:=94) (fn:=Tryz.f94) (s:=sp_stFrom) (tbl_cons ok_rootNamed (tbl_cons ok_stPinned (tbl_cons ok_concatInts (tbl_row ok_sortI (tbl_row ok_compactI tbl_nil))))) Tryz.func94 @vc_stFrom
def an_stCheck:Nat→Option LoopGen
 | 2=>some { rd:=[.dat 24 (.arr ty_I)],A:=fun (l:List Int)=>{ cs:=[.dat 26 ty_I],inv:=fun (i:Int)=>0≤i∧i≤l.length∧∀ x∈l.take i.toNat,x=0,mu:=fun (i:Int)=>(l.length - i).toNat } }
 | 8=>some { rd:=[.own 35 3 ty_I,.box 1 ty_Store],A:=fun ((l,s):List Int×StoreD)=>{ cs:=[.dat 37 ty_I],inv:=fun (i:Int)=>0≤i∧i≤l.length∧∀ x∈l.take i.toNat,isB (spotsF s.1).1 x=true,mu:=fun (i:Int)=>(l.length - i).toNat } }
 | _=>none
def sp_stCheck:Spec:={ Ts:=[ty_Store],Rs:=[.dat ty_I],pre:=fun _=>True,F:=storeF }
def pv_stCheck:Prop :=
  ∀ (x:List Int×List Int×List (Int×Int)×List (Int×Bool×Int)),((x.1.length * (8:Nat)≤big∧∀ (x_1:Int),x_1∈x.1→InR IntKind.u64 x_1)∧(x.2.1.length * (8:Nat)≤big∧∀ (x_1:Int),x_1∈x.2.1→InR IntKind.i64 x_1)∧(x.2.2.1.length * ((8:Nat)+(8:Nat))≤big∧∀ (x_1:Int×Int),x_1∈x.2.2.1→InR IntKind.i64 x_1.1∧InR IntKind.i64 x_1.2)∧x.2.2.2.length * ((8:Nat)+((8:Nat)+(8:Nat)))≤big∧∀ (x_1:Int×Bool×Int),x_1∈x.2.2.2→InR IntKind.i64 x_1.1∧True∧InR IntKind.i64 x_1.2.2)→True→True∧True∧True∧True∧((0:Int)≤(0:Int)∧(0:Int)≤(↑[(checkF x.1).2.2,rootFault x.2.1 (↑x.1.length:Int),pinsF x.2.2.1,handsF x.2.2.2].length:Int)∧∀ (x_1:Int),x_1∈List.take (Int.toNat (0:Int)) [(checkF x.1).2.2,rootFault x.2.1 (↑x.1.length:Int),pinsF x.2.2.1,handsF x.2.2.2]→x_1=(0:Int))∧∀ (x_1:Int),((0:Int)≤x_1∧x_1≤(↑[(checkF x.1).2.2,rootFault x.2.1 (↑x.1.length:Int),pinsF x.2.2.1,handsF x.2.2.2].length:Int)∧∀ (x_2:Int),x_2∈List.take x_1.toNat [(checkF x.1).2.2,rootFault x.2.1 (↑x.1.length:Int),pinsF x.2.2.1,handsF x.2.2.2]→x_2=(0:Int))→(decide (x_1<(↑[(checkF x.1).2.2,rootFault x.2.1 (↑x.1.length:Int),pinsF x.2.2.1,handsF x.2.2.2].length:Int))=true→(0:Int)≤x_1∧x_1<(↑[(checkF x.1).2.2,rootFault x.2.1 (↑x.1.length:Int),pinsF x.2.2.1,handsF x.2.2.2].length:Int)∧(decide ([(checkF x.1).2.2,rootFault x.2.1 (↑x.1.length:Int),pinsF x.2.2.1,handsF x.2.2.2].getD x_1.toNat (0:Int)≠(0:Int))=true→[(checkF x.1).2.2,rootFault x.2.1 (↑x.1.length:Int),pinsF x.2.2.1,handsF x.2.2.2].getD x_1.toNat (0:Int)=storeF x∧True)∧(decide ([(checkF x.1).2.2,rootFault x.2.1 (↑x.1.length:Int),pinsF x.2.2.1,handsF x.2.2.2].getD x_1.toNat (0:Int)≠(0:Int))=false→InR IntKind.i64 (x_1+(1:Int))∧((0:Int)≤x_1+(1:Int)∧x_1+(1:Int)≤(↑[(checkF x.1).2.2,rootFault x.2.1 (↑x.1.length:Int),pinsF x.2.2.1,handsF x.2.2.2].length:Int)∧∀ (x_2:Int),x_2∈List.take (x_1+(1:Int)).toNat [(checkF x.1).2.2,rootFault x.2.1 (↑x.1.length:Int),pinsF x.2.2.1,handsF x.2.2.2]→x_2=(0:Int))∧((↑[(checkF x.1).2.2,rootFault x.2.1 (↑x.1.length:Int),pinsF x.2.2.1,handsF x.2.2.2].length:Int) - (x_1+(1:Int))).toNat<((↑[(checkF x.1).2.2,rootFault x.2.1 (↑x.1.length:Int),pinsF x.2.2.1,handsF x.2.2.2].length:Int) - x_1).toNat))∧(decide (x_1<(↑[(checkF x.1).2.2,rootFault x.2.1 (↑x.1.length:Int),pinsF x.2.2.1,handsF x.2.2.2].length:Int))=false→(x.2.1.length≤(32:Nat)∧x.2.2.1.length≤(16:Nat)∧x.2.2.2.length≤(16:Nat))∧((0:Int)≤(0:Int)∧(0:Int)≤(↑(fromS x).length:Int)∧∀ (x_2:Int),x_2∈List.take (Int.toNat (0:Int)) (fromS x)→isB (spotsF x.1).1 x_2=true)∧∀ (x_2:Int),((0:Int)≤x_2∧x_2≤(↑(fromS x).length:Int)∧∀ (x_3:Int),x_3∈List.take x_2.toNat (fromS x)→isB (spotsF x.1).1 x_3=true)→(decide (x_2<(↑(fromS x).length:Int))=true→(0:Int)≤x_2∧x_2<(↑(fromS x).length:Int)∧x_2.toNat<(fromS x).length∧True∧((decide ((atF x.1 ((fromS x).getD x_2.toNat (0:Int))).2≠(0:Int))||(atF x.1 ((fromS x).getD x_2.toNat (0:Int))).1.2.2.2)=true→(5:Int)=storeF x∧True)∧((decide ((atF x.1 ((fromS x).getD x_2.toNat (0:Int))).2≠(0:Int))||(atF x.1 ((fromS x).getD x_2.toNat (0:Int))).1.2.2.2)=false→InR IntKind.i64 (x_2+(1:Int))∧((0:Int)≤x_2+(1:Int)∧x_2+(1:Int)≤(↑(fromS x).length:Int)∧∀ (x_3:Int),x_3∈List.take (x_2+(1:Int)).toNat (fromS x)→isB (spotsF x.1).1 x_3=true)∧((↑(fromS x).length:Int) - (x_2+(1:Int))).toNat<((↑(fromS x).length:Int) - x_2).toNat))∧(decide (x_2<(↑(fromS x).length:Int))=false→(0:Int)=storeF x∧True))
theorem vcp_stCheck:pv_stCheck:=by
 unfold pv_stCheck
 intro s hx _
 have hF:storeF s=if (checkF s.1).2.2≠0 then (checkF s.1).2.2 else if rootFault s.2.1 s.1.length≠0 then rootFault s.2.1 s.1.length else if pinsF s.2.2.1≠0 then pinsF s.2.2.1 else if handsF s.2.2.2≠0 then handsF s.2.2.2 else fromFault s.1 (namesS s):=rfl
 have hsm:=fun a b c=>store_small (s:=s) a b c
 have hmem:=fun a x=>fromS_mem (s:=s) a (x:=x)
 have hfree:=fun a x=>at_free (a:=s.1) a x
 have hfl:(fromS s).length≤(fromS s).length:=Nat.le_refl _
 have hlen:(checkF s.1).2.2=0→rootFault s.2.1 s.1.length=0→pinsF s.2.2.1=0→handsF s.2.2.2=0→(fromS s).length≤64:=fun _ a b c=>by
  obtain ⟨q1,q2,q3⟩:=hsm a b c
  have e1:=rootNamed_len s.2.1 s.1.length
  have e2:=openS_len s.2.2.2
  have e3:(fromS s).length≤(sortI ((rootNamedF s.2.1 s.1.length).1++openS s.2.2.2++s.2.2.1.map (·.1))).length:=compact_len _
  rw [sortI_length] at e3
  simp only [List.length_append,List.length_map] at e3
  omega
 generalize hc0:(checkF s.1).2.2=c0 at *
 generalize rootFault s.2.1 s.1.length=c1 at *
 generalize pinsF s.2.2.1=c2 at *
 generalize handsF s.2.2.2=c3 at *
 have hl4:([c0,c1,c2,c3].length:Int)=4:=rfl
 refine ⟨trivial,trivial,trivial,trivial,⟨by omega,by omega,fun x hx=>by simp at hx⟩,fun i ⟨i0,i1,i2⟩=>⟨fun hlt=>?_,fun hge=>?_⟩⟩
 ·have hlt:=of_decide_eq_true hlt
  have ht:=take_snoc (0:Int) i0 hlt
  refine ⟨i0,hlt,fun hn=>⟨?_,trivial⟩,fun hn=>⟨by simp only [InR]; omega,⟨by omega,by omega,fun x hx=>?_⟩,by omega⟩⟩
  ·have hn:=of_decide_eq_true hn
   rw [hF]
   have h4:i=0∨i=1∨i=2∨i=3:=by omega
   rcases h4 with rfl | rfl | rfl | rfl
   ·exact (if_pos hn).symm
   ·have e0:=i2 c0 (by simp)
    rw [if_neg (by omega)]
    exact (if_pos hn).symm
   ·have e0:=i2 c0 (by simp)
    have e1:=i2 c1 (by simp)
    rw [if_neg (by omega),if_neg (by omega)]
    exact (if_pos hn).symm
   ·have e0:=i2 c0 (by simp)
    have e1:=i2 c1 (by simp)
    have e2:=i2 c2 (by simp)
    rw [if_neg (by omega),if_neg (by omega),if_neg (by omega)]
    exact (if_pos hn).symm
  ·have hn:[c0,c1,c2,c3].getD i.toNat 0=0:=by simpa using of_decide_eq_false hn
   rw [ht] at hx
   rcases List.mem_append.1 hx with hx | hx
   ·exact i2 x hx
   ·rw [List.mem_singleton.1 hx,hn]
 ·have hge:=of_decide_eq_false hge
  rw [take_end hge] at i2
  have e0:=i2 c0 (by simp)
  have e1:=i2 c1 (by simp)
  have e2:=i2 c2 (by simp)
  have e3:=i2 c3 (by simp)
  have hS:storeF s=fromFault s.1 (namesS s):=by rw [hF,if_neg (by omega),if_neg (by omega),if_neg (by omega),if_neg (by omega)]
  have hfr:=hfree e0
  have hln:=hlen e0 e1 e2 e3
  have hmm:=hmem e1
  have hFF:fromFault s.1 (namesS s)=if (namesS s).all (isB (spotsF s.1).1)=true then 0 else 5:=by
   unfold fromFault
   rw [if_neg (by omega)]
  rw [hS,hFF]
  refine ⟨hsm e1 e2 e3,⟨by omega,by omega,fun x hx=>by simp at hx⟩,fun j ⟨j0,j1,j2⟩=>⟨fun hj=>?_,fun hj=>?_⟩⟩
  ·have hj:=of_decide_eq_true hj
   have ht:=take_snoc (0:Int) j0 hj
   have hm:=getD_mem (0:Int) j0 hj
   rw [hfr,ht]
   generalize (fromS s).getD j.toNat 0=y at *
   refine ⟨j0,hj,by omega,trivial,fun hn=>⟨?_,trivial⟩,fun hn=>⟨by simp only [InR]; omega,⟨by omega,by omega,fun x hx=>?_⟩,by omega⟩⟩
   ·rw [if_neg (fun hall=>?_)]
    have:=List.all_eq_true.1 hall y ((hmm y).1 hm)
    rw [this] at hn
    cases hn
   ·rcases List.mem_append.1 hx with hx | hx
    ·exact j2 x hx
    ·rw [List.mem_singleton.1 hx]
     simpa using hn
  ·have hj:=of_decide_eq_false hj
   rw [take_end hj] at j2
   refine ⟨?_,trivial⟩
   rw [if_pos (List.all_eq_true.2 fun x hx=>j2 x ((hmm x).2 hx))]
theorem e_stCheck:pv_stCheck=(fnVC Tryz.prog (tbl [(90,sp_walkCheck),(91,sp_rootCheck),(92,sp_pinCheck),(93,sp_handCheck),(94,sp_stFrom),(83,sp_walkAt)]) an_stCheck Tryz.f54 sp_stCheck):=by kernel_rfl
theorem vc_stCheck:fnVC Tryz.prog (tbl [(90,sp_walkCheck),(91,sp_rootCheck),(92,sp_pinCheck),(93,sp_handCheck),(94,sp_stFrom),(83,sp_walkAt)]) an_stCheck Tryz.f54 sp_stCheck:=@Eq.mp _ _ @e_stCheck @vcp_stCheck
theorem ok_stCheck:sp_stCheck.ok Tryz.prog 54:=fn_sound (P:=Tryz.prog) (ss:=tbl [(90,sp_walkCheck),(91,sp_rootCheck),(92,sp_pinCheck),(93,sp_handCheck),(94,sp_stFrom),(83,sp_walkAt)]) (ann:=an_stCheck) (f:=54) (fn:=Tryz.f54) (s:=sp_stCheck) (tbl_cons ok_walkCheck (tbl_cons ok_rootCheck (tbl_cons ok_pinCheck (tbl_cons ok_handCheck (tbl_cons ok_stFrom (tbl_cons ok_walkAt tbl_nil)))))) Tryz.func54 @vc_stCheck
def an_rStoreFrom:Nat→Option LoopGen
 | 3=>some { rd:=[.dat 11 (.arr ty_I)],A:=fun (r:List Int)=>{ cs:=[.own 3 3 ty_I,.dat 13 ty_I],inv:=fun ((o,i):List Int×Int)=>0≤i∧i≤r.length∧o=(r.take i.toNat).filter fun v=>decide (0≤v),mu:=fun ((_,i):List Int×Int)=>(r.length - i).toNat } }
 | 9=>some { rd:=[.dat 25 (.arr ty_Slot),.own 3 3 ty_I],A:=fun ((h,l0):List Slot×List Int)=>{ cs:=[.own 3 3 ty_I,.dat 27 ty_I],inv:=fun ((o,i):List Int×Int)=>0≤i∧i≤h.length∧o=l0++openS (h.take i.toNat),mu:=fun ((_,i):List Int×Int)=>(h.length - i).toNat } }
 | 15=>some { rd:=[.dat 40 (.arr ty_Pin),.own 3 3 ty_I],A:=fun ((p,l0):List Pin×List Int)=>{ cs:=[.own 3 3 ty_I,.dat 42 ty_I],inv:=fun ((o,i):List Int×Int)=>0≤i∧i≤p.length∧o=l0++(p.take i.toNat).map (·.1),mu:=fun ((_,i):List Int×Int)=>(p.length - i).toNat } }
 | _=>none
def sp_rStoreFrom:Spec:={ Ts:=[ty_Store],Rs:=[.own 3 ty_I],pre:=fun (s:StoreD)=>s.2.1.length≤32∧s.2.2.1.length≤16∧s.2.2.2.length≤16,F:=fun (s:StoreD)=>risingL (namesS s) 256 }
def pv_rStoreFrom:Prop :=
  ∀ (x:List Int×List Int×List (Int×Int)×List (Int×Bool×Int)),((x.1.length * (8:Nat)≤big∧∀ (x_1:Int),x_1∈x.1→InR IntKind.u64 x_1)∧(x.2.1.length * (8:Nat)≤big∧∀ (x_1:Int),x_1∈x.2.1→InR IntKind.i64 x_1)∧(x.2.2.1.length * ((8:Nat)+(8:Nat))≤big∧∀ (x_1:Int×Int),x_1∈x.2.2.1→InR IntKind.i64 x_1.1∧InR IntKind.i64 x_1.2)∧x.2.2.2.length * ((8:Nat)+((8:Nat)+(8:Nat)))≤big∧∀ (x_1:Int×Bool×Int),x_1∈x.2.2.2→InR IntKind.i64 x_1.1∧True∧InR IntKind.i64 x_1.2.2)→x.2.1.length≤(32:Nat)∧x.2.2.1.length≤(16:Nat)∧x.2.2.2.length≤(16:Nat)→((0:Int)≤(0:Int)∧(0:Int)≤(↑x.2.1.length:Int)∧([]:List Int)=List.filter (fun (v:Int)=>decide ((0:Int)≤v)) (List.take (Int.toNat (0:Int)) x.2.1))∧∀ (x_1:List Int×Int),(0:Int)≤x_1.2∧x_1.2≤(↑x.2.1.length:Int)∧x_1.1=List.filter (fun (v:Int)=>decide ((0:Int)≤v)) (List.take x_1.2.toNat x.2.1)→(decide (x_1.2<(↑x.2.1.length:Int))=true→(0:Int)≤x_1.2∧x_1.2<(↑x.2.1.length:Int)∧(decide ((0:Int)≤x.2.1.getD x_1.2.toNat (0:Int))=true→(x_1.1.length+[x.2.1.getD x_1.2.toNat (0:Int)].length) * (8:Nat)≤big∧InR IntKind.i64 (x_1.2+(1:Int))∧((0:Int)≤x_1.2+(1:Int)∧x_1.2+(1:Int)≤(↑x.2.1.length:Int)∧x_1.1++[x.2.1.getD x_1.2.toNat (0:Int)]=List.filter (fun (v:Int)=>decide ((0:Int)≤v)) (List.take (x_1.2+(1:Int)).toNat x.2.1))∧((↑x.2.1.length:Int) - (x_1.2+(1:Int))).toNat<((↑x.2.1.length:Int) - x_1.2).toNat)∧(decide ((0:Int)≤x.2.1.getD x_1.2.toNat (0:Int))=false→InR IntKind.i64 (x_1.2+(1:Int))∧((0:Int)≤x_1.2+(1:Int)∧x_1.2+(1:Int)≤(↑x.2.1.length:Int)∧x_1.1=List.filter (fun (v:Int)=>decide ((0:Int)≤v)) (List.take (x_1.2+(1:Int)).toNat x.2.1))∧((↑x.2.1.length:Int) - (x_1.2+(1:Int))).toNat<((↑x.2.1.length:Int) - x_1.2).toNat))∧(decide (x_1.2<(↑x.2.1.length:Int))=false→((0:Int)≤(0:Int)∧(0:Int)≤(↑x.2.2.2.length:Int)∧x_1.1=x_1.1++openS (List.take (Int.toNat (0:Int)) x.2.2.2))∧∀ (x_2:List Int×Int),(0:Int)≤x_2.2∧x_2.2≤(↑x.2.2.2.length:Int)∧x_2.1=x_1.1++openS (List.take x_2.2.toNat x.2.2.2)→(decide (x_2.2<(↑x.2.2.2.length:Int))=true→(0:Int)≤x_2.2∧x_2.2<(↑x.2.2.2.length:Int)∧((x.2.2.2.getD x_2.2.toNat ((0:Int),false,(0:Int))).2.1=true→(x_2.1.length+[(x.2.2.2.getD x_2.2.toNat ((0:Int),false,(0:Int))).2.2].length) * (8:Nat)≤big∧InR IntKind.i64 (x_2.2+(1:Int))∧((0:Int)≤x_2.2+(1:Int)∧x_2.2+(1:Int)≤(↑x.2.2.2.length:Int)∧x_2.1++[(x.2.2.2.getD x_2.2.toNat ((0:Int),false,(0:Int))).2.2]=x_1.1++openS (List.take (x_2.2+(1:Int)).toNat x.2.2.2))∧((↑x.2.2.2.length:Int) - (x_2.2+(1:Int))).toNat<((↑x.2.2.2.length:Int) - x_2.2).toNat)∧((x.2.2.2.getD x_2.2.toNat ((0:Int),false,(0:Int))).2.1=false→InR IntKind.i64 (x_2.2+(1:Int))∧((0:Int)≤x_2.2+(1:Int)∧x_2.2+(1:Int)≤(↑x.2.2.2.length:Int)∧x_2.1=x_1.1++openS (List.take (x_2.2+(1:Int)).toNat x.2.2.2))∧((↑x.2.2.2.length:Int) - (x_2.2+(1:Int))).toNat<((↑x.2.2.2.length:Int) - x_2.2).toNat))∧(decide (x_2.2<(↑x.2.2.2.length:Int))=false→((0:Int)≤(0:Int)∧(0:Int)≤(↑x.2.2.1.length:Int)∧x_2.1=x_2.1++List.map (fun (x:Pin)=>x.1) (List.take (Int.toNat (0:Int)) x.2.2.1))∧∀ (x_3:List Int×Int),(0:Int)≤x_3.2∧x_3.2≤(↑x.2.2.1.length:Int)∧x_3.1=x_2.1++List.map (fun (x:Pin)=>x.1) (List.take x_3.2.toNat x.2.2.1)→(decide (x_3.2<(↑x.2.2.1.length:Int))=true→(0:Int)≤x_3.2∧x_3.2<(↑x.2.2.1.length:Int)∧(x_3.1.length+[(x.2.2.1.getD x_3.2.toNat ((0:Int),(0:Int))).1].length) * (8:Nat)≤big∧InR IntKind.i64 (x_3.2+(1:Int))∧((0:Int)≤x_3.2+(1:Int)∧x_3.2+(1:Int)≤(↑x.2.2.1.length:Int)∧x_3.1++[(x.2.2.1.getD x_3.2.toNat ((0:Int),(0:Int))).1]=x_2.1++List.map (fun (x:Pin)=>x.1) (List.take (x_3.2+(1:Int)).toNat x.2.2.1))∧((↑x.2.2.1.length:Int) - (x_3.2+(1:Int))).toNat<((↑x.2.2.1.length:Int) - x_3.2).toNat)∧(decide (x_3.2<(↑x.2.2.1.length:Int))=false→True∧risingL x_3.1 (256:Nat)=risingL (namesS x) (256:Nat)∧True)))
theorem vcp_rStoreFrom:pv_rStoreFrom:=by
 unfold pv_rStoreFrom
 intro ⟨a,r,p,h⟩ _ ⟨h1,h2,h3⟩
 simp only at h1 h2 h3 ⊢
 have hN:namesS (a,r,p,h)=(r.filter fun v=>decide (0≤v))++openS h++p.map (·.1):=rfl
 rw [hN]
 refine ⟨⟨by omega,by omega,by simp⟩,fun ⟨o,i⟩ ⟨i0,i1,i2⟩=>⟨fun hlt=>?_,fun hge=>?_⟩⟩
 ·simp only at i0 i1 i2 hlt ⊢
  have hlt:=of_decide_eq_true hlt
  have ht:=take_snoc (0:Int) i0 hlt
  have hl:o.length≤i.toNat:=by
   have:=List.length_filter_le (fun v:Int=>decide (0≤v)) (r.take i.toNat)
   rw [List.length_take] at this
   rw [i2]; omega
  rw [ht,List.filter_append,← i2]
  generalize r.getD i.toNat 0=x at *
  unfold big
  simp only [InR,List.length_singleton]
  refine ⟨i0,hlt,fun hx=>?_,fun hx=>?_⟩
  ·rw [List.filter_cons_of_pos (p:=fun v:Int=>decide (0≤v)) hx,List.filter_nil]
   exact ⟨by omega,by omega,⟨by omega,by omega,by first | rfl | trivial⟩,by omega⟩
  ·rw [List.filter_cons_of_neg (p:=fun v:Int=>decide (0≤v)) (by rw [hx]; simp),List.filter_nil,List.append_nil]
   exact ⟨by omega,⟨by omega,by omega,by first | rfl | trivial⟩,by omega⟩
 simp only at i0 i1 i2 hge ⊢
 rw [take_end (of_decide_eq_false hge)] at i2
 have hol:o.length≤32:=by
  have:=List.length_filter_le (fun v:Int=>decide (0≤v)) r
  rw [i2]; omega
 rw [← i2]
 refine ⟨⟨by omega,by omega,by simp [openS]⟩,fun ⟨o2,k⟩ ⟨k0,k1,k2⟩=>⟨fun hlt=>?_,fun hge=>?_⟩⟩
 ·simp only at k0 k1 k2 hlt ⊢
  have hlt:=of_decide_eq_true hlt
  have ht:=take_snoc ((0,false,0):Slot) k0 hlt
  have hl:o2.length≤32+k.toNat:=by
   have:=openS_len (h.take k.toNat)
   rw [List.length_take] at this
   rw [k2,List.length_append]; omega
  rw [ht,openS_snoc]
  generalize h.getD k.toNat (0,false,0)=x at *
  unfold big
  simp only [InR,List.length_singleton]
  refine ⟨k0,hlt,fun hx=>?_,fun hx=>?_⟩
  ·rw [if_pos hx,← List.append_assoc,← k2]
   exact ⟨by omega,by omega,⟨by omega,by omega,by first | rfl | trivial⟩,by omega⟩
  ·rw [if_neg (by rw [hx]; simp),← k2]
   exact ⟨by omega,⟨by omega,by omega,by first | rfl | trivial⟩,by omega⟩
 simp only at k0 k1 k2 hge ⊢
 rw [take_end (of_decide_eq_false hge)] at k2
 have hol2:o2.length≤48:=by
  have:=openS_len h
  rw [k2,List.length_append]; omega
 rw [← k2]
 refine ⟨⟨by omega,by omega,by simp⟩,fun ⟨o3,m⟩ ⟨m0,m1,m2⟩=>⟨fun hlt=>?_,fun hge=>?_⟩⟩
 ·simp only at m0 m1 m2 hlt ⊢
  have hlt:=of_decide_eq_true hlt
  have ht:=take_snoc ((0,0):Pin) m0 hlt
  have hl:o3.length≤48+m.toNat:=by rw [m2,List.length_append,List.length_map,List.length_take]; omega
  rw [ht,List.map_append,← List.append_assoc,← m2]
  unfold big
  simp only [InR,List.length_singleton]
  exact ⟨m0,hlt,by omega,by omega,⟨by omega,by omega,by first | rfl | trivial⟩,by omega⟩
 ·simp only at m0 m1 m2 hge ⊢
  rw [take_end (of_decide_eq_false hge)] at m2
  rw [m2]
  exact ⟨trivial,by first | rfl | trivial,trivial⟩
theorem e_rStoreFrom:pv_rStoreFrom=(fnVC Tryz.prog (tbl [(46,sp_rRising)]) an_rStoreFrom Tryz.f13 sp_rStoreFrom):=by kernel_rfl
theorem vc_rStoreFrom:fnVC Tryz.prog (tbl [(46,sp_rRising)]) an_rStoreFrom Tryz.f13 sp_rStoreFrom:=@Eq.mp _ _ @e_rStoreFrom @vcp_rStoreFrom
theorem ok_rStoreFrom:sp_rStoreFrom.ok Tryz.prog 13:=fn_sound (P:=Tryz.prog) (ss:=tbl [(46,sp_rRising)]) (ann:=an_rStoreFrom) (f:=13) (fn:=Tryz.f13) (s:=sp_rStoreFrom) (tbl_cons ok_rRising tbl_nil) Tryz.func13 @vc_rStoreFrom
def sp_rStoreFault:Spec:={ Ts:=[ty_Store],Rs:=[.dat ty_I],pre:=fun _=>True,F:=storeF }
def pv_rStoreFault:Prop :=
  ∀ (x:List Int×List Int×List (Int×Int)×List (Int×Bool×Int)),((x.1.length * (8:Nat)≤big∧∀ (x_1:Int),x_1∈x.1→InR IntKind.u64 x_1)∧(x.2.1.length * (8:Nat)≤big∧∀ (x_1:Int),x_1∈x.2.1→InR IntKind.i64 x_1)∧(x.2.2.1.length * ((8:Nat)+(8:Nat))≤big∧∀ (x_1:Int×Int),x_1∈x.2.2.1→InR IntKind.i64 x_1.1∧InR IntKind.i64 x_1.2)∧x.2.2.2.length * ((8:Nat)+((8:Nat)+(8:Nat)))≤big∧∀ (x_1:Int×Bool×Int),x_1∈x.2.2.2→InR IntKind.i64 x_1.1∧True∧InR IntKind.i64 x_1.2.2)→True→True∧(decide (arenaF x.1≠(0:Int))=true→arenaF x.1=storeF x∧True)∧(decide (arenaF x.1≠(0:Int))=false→True∧(decide (rootFault x.2.1 (↑x.1.length:Int)≠(0:Int))=true→rootFault x.2.1 (↑x.1.length:Int)=storeF x∧True)∧(decide (rootFault x.2.1 (↑x.1.length:Int)≠(0:Int))=false→True∧(decide (pinsF x.2.2.1≠(0:Int))=true→pinsF x.2.2.1=storeF x∧True)∧(decide (pinsF x.2.2.1≠(0:Int))=false→True∧(decide (handsF x.2.2.2≠(0:Int))=true→handsF x.2.2.2=storeF x∧True)∧(decide (handsF x.2.2.2≠(0:Int))=false→(x.2.1.length≤(32:Nat)∧x.2.2.1.length≤(16:Nat)∧x.2.2.2.length≤(16:Nat))∧True∧fromF x.1 [risingL (namesS x) (256:Nat)]=storeF x∧True))))
theorem vcp_rStoreFault:pv_rStoreFault:=by
 unfold pv_rStoreFault
 intro s ⟨⟨_,hw⟩,_⟩ _
 have hF:storeF s=if (checkF s.1).2.2≠0 then (checkF s.1).2.2 else if rootFault s.2.1 s.1.length≠0 then rootFault s.2.1 s.1.length else if pinsF s.2.2.1≠0 then pinsF s.2.2.1 else if handsF s.2.2.2≠0 then handsF s.2.2.2 else fromFault s.1 (namesS s):=rfl
 rw [from_single hw,arena_check hw]
 refine ⟨trivial,fun h0=>⟨?_,trivial⟩,fun h0=>⟨trivial,fun h1=>⟨?_,trivial⟩,fun h1=>⟨trivial,fun h2=>⟨?_,trivial⟩,fun h2=>⟨trivial,fun h3=>⟨?_,trivial⟩,fun h3=>?_⟩⟩⟩⟩
 ·rw [hF,if_pos (of_decide_eq_true h0)]
 all_goals have h0:(checkF s.1).2.2=0:=by simpa using of_decide_eq_false h0
 ·rw [hF,if_neg (by omega),if_pos (of_decide_eq_true h1)]
 all_goals have h1:rootFault s.2.1 s.1.length=0:=by simpa using of_decide_eq_false h1
 ·rw [hF,if_neg (by omega),if_neg (by omega),if_pos (of_decide_eq_true h2)]
 all_goals have h2:pinsF s.2.2.1=0:=by simpa using of_decide_eq_false h2
 ·rw [hF,if_neg (by omega),if_neg (by omega),if_neg (by omega),if_pos (of_decide_eq_true h3)]
 have h3:handsF s.2.2.2=0:=by simpa using of_decide_eq_false h3
 refine ⟨store_small h1 h2 h3,trivial,?_,trivial⟩
 rw [hF,if_neg (by omega),if_neg (by omega),if_neg (by omega),if_neg (by omega)]
 have hr:=names_range h1 h2 h3
 have he:(risingL (namesS s) 256).all (isB (spotsF s.1).1)=(namesS s).all (isB (spotsF s.1).1):=by
  apply Bool.eq_iff_iff.2
  rw [List.all_eq_true,List.all_eq_true]
  constructor
  ·intro h x hx
   exact h x (rising_mem.2 ⟨(hr x hx).1,by have:=(hr x hx).2; omega,hx⟩)
  ·intro h x hx
   exact h x (rising_mem.1 hx).2.2
 unfold fromFault
 rw [he]
theorem e_rStoreFault:pv_rStoreFault=(fnVC Tryz.prog (tbl [(36,sp_rArenaFault),(37,sp_rRoots),(38,sp_pinsFault),(39,sp_handsFault),(13,sp_rStoreFrom),(40,sp_rFrom)]) an_0 Tryz.f10 sp_rStoreFault):=by kernel_rfl
theorem vc_rStoreFault:fnVC Tryz.prog (tbl [(36,sp_rArenaFault),(37,sp_rRoots),(38,sp_pinsFault),(39,sp_handsFault),(13,sp_rStoreFrom),(40,sp_rFrom)]) an_0 Tryz.f10 sp_rStoreFault:=@Eq.mp _ _ @e_rStoreFault @vcp_rStoreFault
theorem ok_rStoreFault:sp_rStoreFault.ok Tryz.prog 10:=fn_sound (P:=Tryz.prog) (ss:=tbl [(36,sp_rArenaFault),(37,sp_rRoots),(38,sp_pinsFault),(39,sp_handsFault),(13,sp_rStoreFrom),(40,sp_rFrom)]) (ann:=an_0) (f:=10) (fn:=Tryz.f10) (s:=sp_rStoreFault) (tbl_cons ok_rArenaFault (tbl_cons ok_rRoots (tbl_cons ok_pinsFault (tbl_cons ok_handsFault (tbl_cons ok_rStoreFrom (tbl_cons ok_rFrom tbl_nil)))))) Tryz.func10 @vc_rStoreFault
def sp_rSameStore:Spec:={ Ts:=[ty_Store,ty_Store],Rs:=[.dat .bool],pre:=fun _=>True,F:=fun (x:StoreD×StoreD)=>decide (x.1=x.2) }
def pv_rSameStore:Prop :=
  ∀ (x:(List Int×List Int×List (Int×Int)×List (Int×Bool×Int))×List Int×List Int×List (Int×Int)×List (Int×Bool×Int)),(((x.1.1.length * (8:Nat)≤big∧∀ (x_1:Int),x_1∈x.1.1→InR IntKind.u64 x_1)∧(x.1.2.1.length * (8:Nat)≤big∧∀ (x_1:Int),x_1∈x.1.2.1→InR IntKind.i64 x_1)∧(x.1.2.2.1.length * ((8:Nat)+(8:Nat))≤big∧∀ (x_1:Int×Int),x_1∈x.1.2.2.1→InR IntKind.i64 x_1.1∧InR IntKind.i64 x_1.2)∧x.1.2.2.2.length * ((8:Nat)+((8:Nat)+(8:Nat)))≤big∧∀ (x_1:Int×Bool×Int),x_1∈x.1.2.2.2→InR IntKind.i64 x_1.1∧True∧InR IntKind.i64 x_1.2.2)∧(x.2.1.length * (8:Nat)≤big∧∀ (x_1:Int),x_1∈x.2.1→InR IntKind.u64 x_1)∧(x.2.2.1.length * (8:Nat)≤big∧∀ (x_1:Int),x_1∈x.2.2.1→InR IntKind.i64 x_1)∧(x.2.2.2.1.length * ((8:Nat)+(8:Nat))≤big∧∀ (x_1:Int×Int),x_1∈x.2.2.2.1→InR IntKind.i64 x_1.1∧InR IntKind.i64 x_1.2)∧x.2.2.2.2.length * ((8:Nat)+((8:Nat)+(8:Nat)))≤big∧∀ (x_1:Int×Bool×Int),x_1∈x.2.2.2.2→InR IntKind.i64 x_1.1∧True∧InR IntKind.i64 x_1.2.2)→True→True∧(decide (x.1.1=x.2.1)=true→True)∧((decide (x.1.1=x.2.1)&&decide (x.1.2.1=x.2.2.1))=true→True)∧((decide (x.1.1=x.2.1)&&decide (x.1.2.1=x.2.2.1)&&decide (x.1.2.2.1=x.2.2.2.1))=true→True)∧(decide (x.1.1=x.2.1)&&decide (x.1.2.1=x.2.2.1)&&decide (x.1.2.2.1=x.2.2.2.1)&&decide (x.1.2.2.2=x.2.2.2.2))=decide (x.1=x.2)∧True
theorem vcp_rSameStore:pv_rSameStore:=by
 unfold pv_rSameStore
 intro ⟨⟨a1,a2,a3,a4⟩,b1,b2,b3,b4⟩ _ _
 refine ⟨trivial,fun _=>trivial,fun _=>trivial,fun _=>trivial,?_,trivial⟩
 apply Bool.eq_iff_iff.2
 simp only [Bool.and_eq_true,decide_eq_true_eq,Prod.mk.injEq]
 grind
theorem e_rSameStore:pv_rSameStore=(fnVC Tryz.prog (tbl [(68,sp_rSameWords),(69,sp_rSameInts),(70,sp_samePins),(71,sp_sameHands)]) an_0 Tryz.f21 sp_rSameStore):=by kernel_rfl
theorem vc_rSameStore:fnVC Tryz.prog (tbl [(68,sp_rSameWords),(69,sp_rSameInts),(70,sp_samePins),(71,sp_sameHands)]) an_0 Tryz.f21 sp_rSameStore:=@Eq.mp _ _ @e_rSameStore @vcp_rSameStore
theorem ok_rSameStore:sp_rSameStore.ok Tryz.prog 21:=fn_sound (P:=Tryz.prog) (ss:=tbl [(68,sp_rSameWords),(69,sp_rSameInts),(70,sp_samePins),(71,sp_sameHands)]) (ann:=an_0) (f:=21) (fn:=Tryz.f21) (s:=sp_rSameStore) (tbl_cons ok_rSameWords (tbl_cons ok_rSameInts (tbl_cons ok_samePins (tbl_cons ok_sameHands tbl_nil)))) Tryz.func21 @vc_rSameStore
end Go.Proofs.YtglchojglcobjaaGreat
