
import Derived.Test.YtglchojglcobjaaGreatLists
import Derived.Test.YtglchojglcobjaaGreatGapsSame
namespace Go.Proofs.YtglchojglcobjaaGreat
open Go
set_option maxRecDepth 100000
set_option maxHeartbeats 1000000
def lgOf (l:List Spot) (at_:Int):Int:=headLong (headAtL at_ l).1
def longsF (a keep pinned:List Int):List Int×Int :=
 if (checkF a).2.2≠0 then ([],(checkF a).2.2) else if (risesL keep&&risesL pinned)=false then ([],3)
 else if (keep.all (isB (spotsF a).1))=false then ([],5) else if (pinned.all (inL keep))=false then ([],5) else (keep.map (lgOf (spotsF a).1),0)
def endS (pinned keep long:List Int):Nat→Int
 | 0=>0
 | i+1=>(if inL pinned (keep.getD i 0)=true then keep.getD i 0 else endS pinned keep long i)+long.getD i 0
def toS (pinned keep long:List Int) (i:Nat):Int:=if inL pinned (keep.getD i 0)=true then keep.getD i 0 else endS pinned keep long i
def planS (keep long pinned:List Int):List Int:=(List.range keep.length).map (toS pinned keep long)
def planPre (keep long:List Int):Prop:=long.length=keep.length∧keep.length≤256∧(∀ x∈keep,0≤x∧x≤255)∧∀ n∈long,1≤n∧n≤256
theorem endS_range {keep long:List Int} (pinned:List Int) (h:planPre keep long):∀ i:Nat,i≤keep.length→0≤endS pinned keep long i∧endS pinned keep long i≤512 * i
 | 0,_=>by simp [endS]
 | i+1,hi=>by
  have ih:=endS_range pinned h i (by omega)
  obtain ⟨h1,h2,h3,h4⟩:=h
  have k1:=h3 _ (getD_mem (0:Int) (xs:=keep) (i:=i) (by omega) (by omega))
  have k2:=h4 _ (getD_mem (0:Int) (xs:=long) (i:=i) (by omega) (by omega))
  simp only [Int.toNat_natCast] at k1 k2
  simp only [endS]
  split <;> omega
theorem toS_range {keep long:List Int} (pinned:List Int) (h:planPre keep long) {i:Nat} (hi:i<keep.length):0≤toS pinned keep long i∧toS pinned keep long i≤512 * i+255:=by
 have h0:=endS_range pinned h i (by omega)
 have k1:=h.2.2.1 _ (getD_mem (0:Int) (xs:=keep) (i:=i) (by omega) (by omega))
 simp only [Int.toNat_natCast] at k1
 unfold toS
 split <;> omega
theorem risesL_pairwise:∀ {l:List Int},risesL l=true→l.Pairwise (·<·)
 | [],_=>List.Pairwise.nil
 | [x],_=>by simp
 | x::y::l,h=>by
  simp only [risesL,Bool.and_eq_true,decide_eq_true_eq] at h
  have ih:=risesL_pairwise h.2
  refine List.pairwise_cons.2 ⟨fun z hz=>?_,ih⟩
  rcases List.mem_cons.1 hz with rfl | hz
  ·exact h.1
  ·have:=(List.pairwise_cons.1 ih).1 z hz
   omega
theorem pairwise_length:∀ {l:List Int} {s:Int},l.Pairwise (·<·)→(∀ x∈l,s≤x∧x≤255)→s≤256→(l.length:Int)≤256 - s
 | [],s,_,_,h=>by simp; omega
 | x::l,s,hp,hr,_=>by
  obtain ⟨h1,h2⟩:=List.pairwise_cons.1 hp
  have h3:=hr x (by simp)
  have ih:=pairwise_length (s:=x+1) h2 (fun y hy=>by have:=h1 y hy; have:=hr y (by simp [hy]); omega) (by omega)
  simp only [List.length_cons]
  omega
theorem isB_in {a:List Int} {at_:Int} (h:isB (spotsF a).1 at_=true):∃ s∈(spotsF a).1,s.1=at_∧s.2.2.2.2=false∧lgOf (spotsF a).1 at_=headLong s.2:=by
 unfold isB lgOf at *
 rcases headAtL_in at_ (spotsF a).1 with e | ⟨s,h1,h2,h3,e⟩
 ·rw [e] at h; cases h
 ·exact ⟨s,h1,h2,h3,by rw [e]⟩
theorem longs_ok {a keep pinned:List Int} (h:(longsF a keep pinned).2=0):(checkF a).2.2=0∧risesL keep=true∧risesL pinned=true∧(∀ x∈keep,isB (spotsF a).1 x=true)∧(∀ x∈pinned,inL keep x=true)∧(longsF a keep pinned).1=keep.map (lgOf (spotsF a).1):=by
 unfold longsF at *
 by_cases h1:(checkF a).2.2≠0
 ·rw [if_pos h1] at h; exact absurd h h1
 rw [if_neg h1] at h ⊢
 by_cases h2:(risesL keep&&risesL pinned)=false
 ·rw [if_pos h2] at h; simp at h
 rw [if_neg h2] at h ⊢
 by_cases h3:(keep.all (isB (spotsF a).1))=false
 ·rw [if_pos h3] at h; simp at h
 rw [if_neg h3] at h ⊢
 by_cases h4:(pinned.all (inL keep))=false
 ·rw [if_pos h4] at h; simp at h
 rw [if_neg h4]
 have h2:risesL keep=true∧risesL pinned=true:=by simpa using h2
 have h3:keep.all (isB (spotsF a).1)=true:=by simpa using h3
 have h4:pinned.all (inL keep)=true:=by simpa using h4
 exact ⟨by omega,h2.1,h2.2,fun x hx=>List.all_eq_true.1 h3 x hx,fun x hx=>List.all_eq_true.1 h4 x hx,rfl⟩
theorem longs_pre {a keep pinned:List Int} (h:(longsF a keep pinned).2=0):planPre keep (longsF a keep pinned).1:=by
 obtain ⟨_,h2,_,h4,_,h6⟩:=longs_ok h
 have hr:∀ x∈keep,0≤x∧x≤255:=fun x hx=>by
  obtain ⟨s,h1,h2,_⟩:=isB_in (h4 x hx)
  have:=spots_range s h1
  omega
 have hl:=pairwise_length (risesL_pairwise h2) hr (by omega)
 refine ⟨by rw [h6]; simp,by omega,hr,fun n hn=>?_⟩
 rw [h6] at hn
 obtain ⟨x,hx,rfl⟩:=List.mem_map.1 hn
 obtain ⟨s,h1,_,_,e⟩:=isB_in (h4 x hx)
 have hz:=headFault_zero (spotsF_in2 a s h1).2.2
 rw [e]
 unfold headLong
 omega
def gapsUp (pinned keep long:List Int):Nat→List Gap
 | 0=>[]
 | i+1=>gapsUp pinned keep long i++(if endS pinned keep long i<toS pinned keep long i then [(endS pinned keep long i,toS pinned keep long i - endS pinned keep long i)] else [])
theorem gapsUp_length (pinned keep long:List Int):∀ i,(gapsUp pinned keep long i).length≤i
 | 0=>by simp [gapsUp]
 | i+1=>by
  have:=gapsUp_length pinned keep long i
  simp only [gapsUp,List.length_append]
  split <;> simp <;> omega
def planGapsL (n:Int) (keep long pinned:List Int):List Gap:=gapsUp pinned keep long keep.length++(if endS pinned keep long keep.length<n then [(endS pinned keep long keep.length,n - endS pinned keep long keep.length)] else [])
theorem headAt_ok (a:List Int) (at_:Int):headFault (headAtL at_ (spotsF a).1).1=0:=by
 rcases headAtL_in at_ (spotsF a).1 with e | ⟨s,h1,_,_,e⟩
 ·rw [e]; rfl
 ·rw [e]; exact (spotsF_in2 a s h1).2.2
def an_planned:Nat→Option LoopGen
 | 3=>some { rd:=[.dat 0 (.arr ty_W),.dat 13 (.arr ty_I),.dat 2 (.arr ty_I)],A:=fun ((a,keep,pinned):List Int×List Int×List Int)=>{ cs:=[.own 7 3 ty_I,.dat 15 ty_I],inv:=fun ((out,i):List Int×Int)=>0≤i∧i≤keep.length∧out=(List.range i.toNat).map (toS pinned keep (keep.map (lgOf (spotsF a).1))),mu:=fun ((_,i):List Int×Int)=>(keep.length - i).toNat } }
 | 9=>some { rd:=[.dat 0 (.arr ty_W),.dat 1 (.arr ty_I),.dat 2 (.arr ty_I),.dat 8 ty_I],A:=fun ((a,keep,pinned,i):List Int×List Int×List Int×Int)=>{ cs:=[.dat 9 ty_I,.dat 10 ty_I],inv:=fun ((s,k):Int×Int)=>-1≤k∧k<i∧0≤s∧s+endS pinned keep (keep.map (lgOf (spotsF a).1)) (k+1).toNat=endS pinned keep (keep.map (lgOf (spotsF a).1)) i.toNat,mu:=fun ((_,k):Int×Int)=>(k+1).toNat } }
 | _=>none
def sp_planned:Spec:={ Ts:=[.arr ty_W,.arr ty_I,.arr ty_I],Rs:=[.own 3 ty_I],pre:=fun ((a,keep,_):List Int×List Int×List Int)=>planPre keep (keep.map (lgOf (spotsF a).1)),F:=fun ((a,keep,pinned):List Int×List Int×List Int)=>planS keep (keep.map (lgOf (spotsF a).1)) pinned }
def pv_planned:Prop :=
  ∀ (x:List Int×List Int×List Int),((x.1.length * (8:Nat)≤big∧∀ (x_1:Int),x_1∈x.1→InR IntKind.u64 x_1)∧(x.2.1.length * (8:Nat)≤big∧∀ (x_1:Int),x_1∈x.2.1→InR IntKind.i64 x_1)∧x.2.2.length * (8:Nat)≤big∧∀ (x_1:Int),x_1∈x.2.2→InR IntKind.i64 x_1)→planPre x.2.1 (List.map (lgOf (spotsF x.1).1) x.2.1)→((0:Int)≤(0:Int)∧(0:Int)≤(↑x.2.1.length:Int)∧([]:List Int)=List.map (toS x.2.2 x.2.1 (List.map (lgOf (spotsF x.1).1) x.2.1)) (List.range (Int.toNat (0:Int))))∧∀ (x_1:List Int×Int),(0:Int)≤x_1.2∧x_1.2≤(↑x.2.1.length:Int)∧x_1.1=List.map (toS x.2.2 x.2.1 (List.map (lgOf (spotsF x.1).1) x.2.1)) (List.range x_1.2.toNat)→(decide (x_1.2<(↑x.2.1.length:Int))=true→(0:Int)≤x_1.2∧x_1.2<(↑x.2.1.length:Int)∧True∧(inL x.2.2 (x.2.1.getD x_1.2.toNat (0:Int))=true→(0:Int)≤x_1.2∧x_1.2<(↑x.2.1.length:Int)∧(x_1.1.length+[x.2.1.getD x_1.2.toNat (0:Int)].length) * (8:Nat)≤big∧InR IntKind.i64 (x_1.2+(1:Int))∧((0:Int)≤x_1.2+(1:Int)∧x_1.2+(1:Int)≤(↑x.2.1.length:Int)∧x_1.1++[x.2.1.getD x_1.2.toNat (0:Int)]=List.map (toS x.2.2 x.2.1 (List.map (lgOf (spotsF x.1).1) x.2.1)) (List.range (x_1.2+(1:Int)).toNat))∧((↑x.2.1.length:Int) - (x_1.2+(1:Int))).toNat<((↑x.2.1.length:Int) - x_1.2).toNat)∧(inL x.2.2 (x.2.1.getD x_1.2.toNat (0:Int))=false→InR IntKind.i64 (x_1.2 - (1:Int))∧((-1:Int)≤x_1.2 - (1:Int)∧x_1.2 - (1:Int)<x_1.2∧(0:Int)≤(0:Int)∧(0:Int)+endS x.2.2 x.2.1 (List.map (lgOf (spotsF x.1).1) x.2.1) (x_1.2 - (1:Int)+(1:Int)).toNat=endS x.2.2 x.2.1 (List.map (lgOf (spotsF x.1).1) x.2.1) x_1.2.toNat)∧∀ (x_2:Int×Int),(-1:Int)≤x_2.2∧x_2.2<x_1.2∧(0:Int)≤x_2.1∧x_2.1+endS x.2.2 x.2.1 (List.map (lgOf (spotsF x.1).1) x.2.1) (x_2.2+(1:Int)).toNat=endS x.2.2 x.2.1 (List.map (lgOf (spotsF x.1).1) x.2.1) x_1.2.toNat→(decide ((0:Int)≤x_2.2)=true→(0:Int)≤x_2.2∧x_2.2<(↑x.2.1.length:Int)∧True∧(InR IntKind.i64 ((1:Int)+(headAtL (x.2.1.getD x_2.2.toNat (0:Int)) (spotsF x.1).1).1.1)∧InR IntKind.i64 ((1:Int)+(headAtL (x.2.1.getD x_2.2.toNat (0:Int)) (spotsF x.1).1).1.1+(headAtL (x.2.1.getD x_2.2.toNat (0:Int)) (spotsF x.1).1).1.2.1))∧InR IntKind.i64 (x_2.1+headLong (headAtL (x.2.1.getD x_2.2.toNat (0:Int)) (spotsF x.1).1).1)∧(0:Int)≤x_2.2∧x_2.2<(↑x.2.1.length:Int)∧True∧(inL x.2.2 (x.2.1.getD x_2.2.toNat (0:Int))=true→(0:Int)≤x_2.2∧x_2.2<(↑x.2.1.length:Int)∧InR IntKind.i64 (x_2.1+headLong (headAtL (x.2.1.getD x_2.2.toNat (0:Int)) (spotsF x.1).1).1+x.2.1.getD x_2.2.toNat (0:Int))∧(x_1.1.length+[x_2.1+headLong (headAtL (x.2.1.getD x_2.2.toNat (0:Int)) (spotsF x.1).1).1+x.2.1.getD x_2.2.toNat (0:Int)].length) * (8:Nat)≤big∧InR IntKind.i64 (x_1.2+(1:Int))∧((0:Int)≤x_1.2+(1:Int)∧x_1.2+(1:Int)≤(↑x.2.1.length:Int)∧x_1.1++[x_2.1+headLong (headAtL (x.2.1.getD x_2.2.toNat (0:Int)) (spotsF x.1).1).1+x.2.1.getD x_2.2.toNat (0:Int)]=List.map (toS x.2.2 x.2.1 (List.map (lgOf (spotsF x.1).1) x.2.1)) (List.range (x_1.2+(1:Int)).toNat))∧((↑x.2.1.length:Int) - (x_1.2+(1:Int))).toNat<((↑x.2.1.length:Int) - x_1.2).toNat)∧(inL x.2.2 (x.2.1.getD x_2.2.toNat (0:Int))=false→InR IntKind.i64 (x_2.2 - (1:Int))∧((-1:Int)≤x_2.2 - (1:Int)∧x_2.2 - (1:Int)<x_1.2∧(0:Int)≤x_2.1+headLong (headAtL (x.2.1.getD x_2.2.toNat (0:Int)) (spotsF x.1).1).1∧x_2.1+headLong (headAtL (x.2.1.getD x_2.2.toNat (0:Int)) (spotsF x.1).1).1+endS x.2.2 x.2.1 (List.map (lgOf (spotsF x.1).1) x.2.1) (x_2.2 - (1:Int)+(1:Int)).toNat=endS x.2.2 x.2.1 (List.map (lgOf (spotsF x.1).1) x.2.1) x_1.2.toNat)∧(x_2.2 - (1:Int)+(1:Int)).toNat<(x_2.2+(1:Int)).toNat))∧(decide ((0:Int)≤x_2.2)=false→(x_1.1.length+[x_2.1].length) * (8:Nat)≤big∧InR IntKind.i64 (x_1.2+(1:Int))∧((0:Int)≤x_1.2+(1:Int)∧x_1.2+(1:Int)≤(↑x.2.1.length:Int)∧x_1.1++[x_2.1]=List.map (toS x.2.2 x.2.1 (List.map (lgOf (spotsF x.1).1) x.2.1)) (List.range (x_1.2+(1:Int)).toNat))∧((↑x.2.1.length:Int) - (x_1.2+(1:Int))).toNat<((↑x.2.1.length:Int) - x_1.2).toNat)))∧(decide (x_1.2<(↑x.2.1.length:Int))=false→x_1.1=planS x.2.1 (List.map (lgOf (spotsF x.1).1) x.2.1) x.2.2∧True)
theorem vcp_planned:pv_planned:=by
 unfold pv_planned
 intro ⟨a,keep,pinned⟩ _ hp
 have hp':=hp
 obtain ⟨p1,p2,p3,p4⟩:=hp'
 simp only at p1 p2 p3 p4 hp ⊢
 have hG:∀ k:Nat,k<keep.length→(keep.map (lgOf (spotsF a).1)).getD k 0=headLong (headAtL (keep.getD k 0) (spotsF a).1).1:=by
  intro k hk
  rw [List.getD_eq_getElem?_getD,List.getElem?_map,List.getD_eq_getElem?_getD,List.getElem?_eq_getElem hk]
  rfl
 have hH:=fun x=>headFault_zero (headAt_ok a x)
 have hrg:=fun i hi=>endS_range (i:=i) pinned hp hi
 have hE:∀ i:Nat,endS pinned keep (keep.map (lgOf (spotsF a).1)) (i+1)=toS pinned keep (keep.map (lgOf (spotsF a).1)) i+(keep.map (lgOf (spotsF a).1)).getD i 0:=fun _=>rfl
 have hT:∀ i:Nat,toS pinned keep (keep.map (lgOf (spotsF a).1)) i=if inL pinned (keep.getD i 0)=true then keep.getD i 0 else endS pinned keep (keep.map (lgOf (spotsF a).1)) i:=fun _=>rfl
 have hP:planS keep (keep.map (lgOf (spotsF a).1)) pinned=(List.range keep.length).map (toS pinned keep (keep.map (lgOf (spotsF a).1))):=rfl
 rw [hP]
 clear hP
 generalize keep.map (lgOf (spotsF a).1)=long at *
 unfold big
 simp only [InR]
 refine ⟨⟨by omega,by omega,rfl⟩,fun ⟨out,i⟩ ⟨h0,h1,h2⟩=>⟨fun hlt=>?_,fun hge=>?_⟩⟩
 ·have hlt':i<(keep.length:Int):=of_decide_eq_true hlt
  simp only at h0 h1 h2 ⊢
  have hl:out.length=i.toNat:=by rw [h2]; simp
  have hs:(List.range (i+1).toNat).map (toS pinned keep long)=out++[toS pinned keep long i.toNat]:=by
   rw [show (i+1).toNat=i.toNat+1 by omega,List.range_succ,List.map_append,← h2]
   rfl
  have hri:=hrg i.toNat (by omega)
  rw [hs,hT]
  simp only [List.length_cons,List.length_nil]
  refine ⟨h0,hlt',trivial,fun hc=>?_,fun hc=>?_⟩
  ·rw [if_pos hc]
   exact ⟨h0,hlt',by omega,by omega,⟨by omega,by omega,rfl⟩,by omega⟩
  ·rw [if_neg (by rw [hc]; simp)]
   refine ⟨by omega,⟨by omega,by omega,by omega,by rw [show i - 1+1=i by omega]; omega⟩,fun ⟨s,k⟩ ⟨k0,k1,k2,k3⟩=>⟨fun hk=>?_,fun hk=>?_⟩⟩
   ·have hk:0≤k:=of_decide_eq_true hk
    simp only at k0 k1 k2 k3 ⊢
    have hh:=hH (keep.getD k.toNat 0)
    have hx:=p3 _ (getD_mem (0:Int) (xs:=keep) (i:=k) hk (by omega))
    have hrk:=hrg (k+1).toNat (by omega)
    have hrk0:=hrg k.toNat (by omega)
    rw [show (k+1).toNat=k.toNat+1 by omega,hE,hT,hG k.toNat (by omega)] at k3 hrk
    have hLd:headLong (headAtL (keep.getD k.toNat 0) (spotsF a).1).1=1+(headAtL (keep.getD k.toNat 0) (spotsF a).1).1.1+(headAtL (keep.getD k.toNat 0) (spotsF a).1).1.2.1:=rfl
    generalize headLong (headAtL (keep.getD k.toNat 0) (spotsF a).1).1=n at *
    generalize (headAtL (keep.getD k.toNat 0) (spotsF a).1).1=hd at *
    rw [show k - 1+1=k by omega]
    refine ⟨hk,by omega,trivial,⟨by omega,by omega⟩,by omega,hk,by omega,trivial,fun hp1=>?_,fun hp1=>?_⟩
    ·rw [if_pos hp1] at k3 hrk
     refine ⟨hk,by omega,by omega,by omega,by omega,⟨by omega,by omega,?_⟩,by omega⟩
     rw [show s+n+keep.getD k.toNat 0=endS pinned keep long i.toNat by omega]
    ·rw [if_neg (by rw [hp1]; simp)] at k3 hrk
     exact ⟨by omega,⟨by omega,by omega,by omega,by omega⟩,by omega⟩
   ·have hk:¬ 0≤k:=of_decide_eq_false hk
    simp only at k0 k1 k2 k3 ⊢
    have e0:endS pinned keep long 0=0:=rfl
    rw [show (k+1).toNat=0 by omega,e0] at k3
    refine ⟨by omega,by omega,⟨by omega,by omega,?_⟩,by omega⟩
    rw [show s=endS pinned keep long i.toNat by omega]
 ·have hge:¬ i<(keep.length:Int):=of_decide_eq_false hge
  simp only at h0 h1 h2
  rw [h2,show i.toNat=keep.length by omega]
  exact ⟨rfl,trivial⟩
theorem e_planned:pv_planned=(fnVC Tryz.prog (tbl [(44,sp_rIn),(41,sp_rHeadAt),(42,sp_rHeadLong)]) an_planned Tryz.f50 sp_planned):=by kernel_rfl
theorem vc_planned:fnVC Tryz.prog (tbl [(44,sp_rIn),(41,sp_rHeadAt),(42,sp_rHeadLong)]) an_planned Tryz.f50 sp_planned:=@Eq.mp _ _ @e_planned @vcp_planned
theorem ok_planned:sp_planned.ok Tryz.prog 50:=fn_sound (P:=Tryz.prog) (ss:=tbl [(44,sp_rIn),(41,sp_rHeadAt),(42,sp_rHeadLong)]) (ann:=an_planned) (f:=50) (fn:=Tryz.f50) (s:=sp_planned) (tbl_cons ok_rIn (tbl_cons ok_rHeadAt (tbl_cons ok_rHeadLong tbl_nil))) Tryz.func50 @vc_planned
def covS (l:List Spot) (keep to:List Int) (k:Int):Bool:=(List.range keep.length).any fun i=>decide (to.getD i 0≤k)&&decide (k<to.getD i 0+lgOf l (keep.getD i 0))
def an_planFree:Nat→Option LoopGen
 | 2=>some { rd:=[.dat 0 ty_I,.dat 10 (.arr ty_I),.dat 2 (.ref (.arr ty_W)),.dat 3 (.ref (.arr ty_I))],A:=fun ((k,keep,a,to):Int×List Int×List Int×List Int)=>{ cs:=[.dat 12 ty_I],inv:=fun (i:Int)=>0≤i∧i≤keep.length∧((List.range i.toNat).any fun i=>decide (to.getD i 0≤k)&&decide (k<to.getD i 0+lgOf (spotsF a).1 (keep.getD i 0)))=false,mu:=fun (i:Int)=>(keep.length - i).toNat } }
 | _=>none
def sp_planFree:Spec:={ Ts:=[ty_I,.ref (.arr ty_I),.ref (.arr ty_W),.ref (.arr ty_I)],Rs:=[.dat .bool],pre:=fun ((_,keep,_,to):Int×List Int×List Int×List Int)=>to.length=keep.length∧keep.length≤256∧∀ x∈to,0≤x∧x≤200000,F:=fun ((k,keep,a,to):Int×List Int×List Int×List Int)=>!covS (spotsF a).1 keep to k }
def pv_planFree:Prop :=
  ∀ (x:Int×List Int×List Int×List Int),(InR IntKind.i64 x.1∧(x.2.1.length * (8:Nat)≤big∧∀ (x_1:Int),x_1∈x.2.1→InR IntKind.i64 x_1)∧(x.2.2.1.length * (8:Nat)≤big∧∀ (x_1:Int),x_1∈x.2.2.1→InR IntKind.u64 x_1)∧x.2.2.2.length * (8:Nat)≤big∧∀ (x_1:Int),x_1∈x.2.2.2→InR IntKind.i64 x_1)→(x.2.2.2.length=x.2.1.length∧x.2.1.length≤(256:Nat)∧∀ (x_1:Int),x_1∈x.2.2.2→(0:Int)≤x_1∧x_1≤(200000:Int))→((0:Int)≤(0:Int)∧(0:Int)≤(↑x.2.1.length:Int)∧((List.range (Int.toNat (0:Int))).any fun (i:Nat)=>decide (x.2.2.2.getD i (0:Int)≤x.1)&&decide (x.1<x.2.2.2.getD i (0:Int)+lgOf (spotsF x.2.2.1).1 (x.2.1.getD i (0:Int))))=false)∧∀ (x_1:Int),(0:Int)≤x_1∧x_1≤(↑x.2.1.length:Int)∧((List.range x_1.toNat).any fun (i:Nat)=>decide (x.2.2.2.getD i (0:Int)≤x.1)&&decide (x.1<x.2.2.2.getD i (0:Int)+lgOf (spotsF x.2.2.1).1 (x.2.1.getD i (0:Int))))=false→(decide (x_1<(↑x.2.1.length:Int))=true→(0:Int)≤x_1∧x_1<(↑x.2.1.length:Int)∧True∧(0:Int)≤x_1∧x_1<(↑x.2.2.2.length:Int)∧(decide (x.2.2.2.getD x_1.toNat (0:Int)≤x.1)=true→(0:Int)≤x_1)∧(decide (x.2.2.2.getD x_1.toNat (0:Int)≤x.1)=true→x_1<(↑x.2.2.2.length:Int))∧(decide (x.2.2.2.getD x_1.toNat (0:Int)≤x.1)=true→InR IntKind.i64 ((1:Int)+(headAtL (x.2.1.getD x_1.toNat (0:Int)) (spotsF x.2.2.1).1).1.1)∧InR IntKind.i64 ((1:Int)+(headAtL (x.2.1.getD x_1.toNat (0:Int)) (spotsF x.2.2.1).1).1.1+(headAtL (x.2.1.getD x_1.toNat (0:Int)) (spotsF x.2.2.1).1).1.2.1))∧(decide (x.2.2.2.getD x_1.toNat (0:Int)≤x.1)=true→InR IntKind.i64 (x.2.2.2.getD x_1.toNat (0:Int)+headLong (headAtL (x.2.1.getD x_1.toNat (0:Int)) (spotsF x.2.2.1).1).1))∧((decide (x.2.2.2.getD x_1.toNat (0:Int)≤x.1)&&decide (x.1<x.2.2.2.getD x_1.toNat (0:Int)+headLong (headAtL (x.2.1.getD x_1.toNat (0:Int)) (spotsF x.2.2.1).1).1))=true→false=!covS (spotsF x.2.2.1).1 x.2.1 x.2.2.2 x.1∧True)∧((decide (x.2.2.2.getD x_1.toNat (0:Int)≤x.1)&&decide (x.1<x.2.2.2.getD x_1.toNat (0:Int)+headLong (headAtL (x.2.1.getD x_1.toNat (0:Int)) (spotsF x.2.2.1).1).1))=false→InR IntKind.i64 (x_1+(1:Int))∧((0:Int)≤x_1+(1:Int)∧x_1+(1:Int)≤(↑x.2.1.length:Int)∧((List.range (x_1+(1:Int)).toNat).any fun (i:Nat)=>decide (x.2.2.2.getD i (0:Int)≤x.1)&&decide (x.1<x.2.2.2.getD i (0:Int)+lgOf (spotsF x.2.2.1).1 (x.2.1.getD i (0:Int))))=false)∧((↑x.2.1.length:Int) - (x_1+(1:Int))).toNat<((↑x.2.1.length:Int) - x_1).toNat))∧(decide (x_1<(↑x.2.1.length:Int))=false→true=!covS (spotsF x.2.2.1).1 x.2.1 x.2.2.2 x.1∧True)
theorem vcp_planFree:pv_planFree:=by
 unfold pv_planFree
 intro ⟨k,keep,a,to⟩ _ ⟨p1,p2,p3⟩
 simp only at p1 p2 p3 ⊢
 have hC:covS (spotsF a).1 keep to k=(List.range keep.length).any fun i=>decide (to.getD i 0≤k)&&decide (k<to.getD i 0+lgOf (spotsF a).1 (keep.getD i 0)):=rfl
 rw [hC]
 generalize hf:(fun i:Nat=>decide (to.getD i 0≤k)&&decide (k<to.getD i 0+lgOf (spotsF a).1 (keep.getD i 0)))=f
 simp only [InR]
 refine ⟨⟨by omega,by omega,rfl⟩,fun i ⟨h0,h1,h2⟩=>⟨fun hlt=>?_,fun hge=>?_⟩⟩
 ·have hlt:i<(keep.length:Int):=of_decide_eq_true hlt
  have hh:=headFault_zero (headAt_ok a (keep.getD i.toNat 0))
  have hx:=p3 _ (getD_mem (0:Int) (xs:=to) h0 (by omega))
  have hfi:f i.toNat=(decide (to.getD i.toNat 0≤k)&&decide (k<to.getD i.toNat 0+headLong (headAtL (keep.getD i.toNat 0) (spotsF a).1).1)):=by rw [← hf]; rfl
  have hLd:headLong (headAtL (keep.getD i.toNat 0) (spotsF a).1).1=1+(headAtL (keep.getD i.toNat 0) (spotsF a).1).1.1+(headAtL (keep.getD i.toNat 0) (spotsF a).1).1.2.1:=rfl
  rw [← hfi]
  refine ⟨h0,hlt,trivial,h0,by omega,fun _=>h0,fun _=>by omega,fun _=>⟨by omega,by omega⟩,fun _=>by omega,fun hc=>?_,fun hc=>⟨by omega,⟨by omega,by omega,?_⟩,by omega⟩⟩
  ·have:(List.range keep.length).any f=true:=List.any_eq_true.2 ⟨i.toNat,List.mem_range.2 (by omega),hc⟩
   rw [this]
   exact ⟨rfl,trivial⟩
  ·rw [show (i+1).toNat=i.toNat+1 by omega,List.range_succ,List.any_append,h2]
   simpa using hc
 ·have hge:¬ i<(keep.length:Int):=of_decide_eq_false hge
  rw [show keep.length=i.toNat by omega,h2]
  exact ⟨rfl,trivial⟩
theorem e_planFree:pv_planFree=(fnVC Tryz.prog (tbl [(41,sp_rHeadAt),(42,sp_rHeadLong)]) an_planFree Tryz.f123 sp_planFree):=by kernel_rfl
theorem vc_planFree:fnVC Tryz.prog (tbl [(41,sp_rHeadAt),(42,sp_rHeadLong)]) an_planFree Tryz.f123 sp_planFree:=@Eq.mp _ _ @e_planFree @vcp_planFree
theorem ok_planFree:sp_planFree.ok Tryz.prog 123:=fn_sound (P:=Tryz.prog) (ss:=tbl [(41,sp_rHeadAt),(42,sp_rHeadLong)]) (ann:=an_planFree) (f:=123) (fn:=Tryz.f123) (s:=sp_planFree) (tbl_cons ok_rHeadAt (tbl_cons ok_rHeadLong tbl_nil)) Tryz.func123 @vc_planFree
def sp_rPlanGaps:Spec:={ Ts:=[.arr ty_W,.arr ty_I,.arr ty_I],Rs:=[.own 42 ty_Gap],pre:=fun ((a,keep,_):List Int×List Int×List Int)=>a.length≤256∧planPre keep (keep.map (lgOf (spotsF a).1)),F:=fun ((a,keep,pinned):List Int×List Int×List Int)=>runsGo (fun k=>!covS (spotsF a).1 keep (planS keep (keep.map (lgOf (spotsF a).1)) pinned) k) a.length 0 [] }
def pv_rPlanGaps:Prop :=
  ∀ (x:List Int×List Int×List Int),((x.1.length * (8:Nat)≤big∧∀ (x_1:Int),x_1∈x.1→InR IntKind.u64 x_1)∧(x.2.1.length * (8:Nat)≤big∧∀ (x_1:Int),x_1∈x.2.1→InR IntKind.i64 x_1)∧x.2.2.length * (8:Nat)≤big∧∀ (x_1:Int),x_1∈x.2.2→InR IntKind.i64 x_1)→x.1.length≤(256:Nat)∧planPre x.2.1 (List.map (lgOf (spotsF x.1).1) x.2.1)→planPre x.2.1 (List.map (lgOf (spotsF x.1).1) x.2.1)∧((0:Int)≤(↑x.1.length:Int)∧(↑x.1.length:Int)≤(300:Int)∧∀ (i:Int),(0:Int)≤i→i<(↑x.1.length:Int)→(fun (x_1:Int)=>(planS x.2.1 (List.map (lgOf (spotsF x.1).1) x.2.1) x.2.2).length=x.2.1.length∧x.2.1.length≤(256:Nat)∧∀ (x_2:Int),x_2∈planS x.2.1 (List.map (lgOf (spotsF x.1).1) x.2.1) x.2.2→(0:Int)≤x_2∧x_2≤(200000:Int),fun (x_1:Int)=>!covS (spotsF x.1).1 x.2.1 (planS x.2.1 (List.map (lgOf (spotsF x.1).1) x.2.1) x.2.2) x_1).1 i)∧runsGo (fun (x_1:Int)=>!covS (spotsF x.1).1 x.2.1 (planS x.2.1 (List.map (lgOf (spotsF x.1).1) x.2.1) x.2.2) x_1) (↑x.1.length:Int).toNat (0:Int) ([]:List Gap)=runsGo (fun (k:Int)=>!covS (spotsF x.1).1 x.2.1 (planS x.2.1 (List.map (lgOf (spotsF x.1).1) x.2.1) x.2.2) k) x.1.length (0:Int) ([]:List Gap)∧True
theorem vcp_rPlanGaps:pv_rPlanGaps:=by
 unfold pv_rPlanGaps
 intro ⟨a,keep,pinned⟩ _ ⟨hal,hp⟩
 simp only at hal hp ⊢
 refine ⟨hp,⟨by omega,by omega,fun _ _ _=>⟨by simp [planS],hp.2.1,fun x hx=>?_⟩⟩,rfl,trivial⟩
 unfold planS at hx
 obtain ⟨i,hi,rfl⟩:=List.mem_map.1 hx
 have hi:=List.mem_range.1 hi
 have:=toS_range pinned hp hi
 have:=hp.2.1
 omega
theorem e_rPlanGaps:pv_rPlanGaps=(fnVC Tryz.prog (tbl [(50,sp_planned),(123,sp_planFree),(48,sp_rRuns)]) an_0 Tryz.f88 sp_rPlanGaps):=by kernel_rfl
theorem vc_rPlanGaps:fnVC Tryz.prog (tbl [(50,sp_planned),(123,sp_planFree),(48,sp_rRuns)]) an_0 Tryz.f88 sp_rPlanGaps:=@Eq.mp _ _ @e_rPlanGaps @vcp_rPlanGaps
theorem ok_rPlanGaps:sp_rPlanGaps.ok Tryz.prog 88:=fn_sound (P:=Tryz.prog) (ss:=tbl [(50,sp_planned),(123,sp_planFree),(48,sp_rRuns)]) (ann:=an_0) (f:=88) (fn:=Tryz.f88) (s:=sp_rPlanGaps) (tbl_cons ok_planned (tbl_cons ok_planFree (tbl_cons ok_rRuns tbl_nil))) Tryz.func88 @vc_rPlanGaps
end Go.Proofs.YtglchojglcobjaaGreat
