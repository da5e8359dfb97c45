
import Derived.Test.YtcnoiiohmpgckaaYoungGrow
namespace Go.Proofs.Ytcnoiiohmpgckaa
open Go
set_option maxRecDepth 100000
set_option maxHeartbeats 1000000
def kC:Nat→Option LoopGen
 | 4000011=>some ut
 | 4000017=>some ut
 | 13=>some { rd:=[.own 80 3 ty_I,.box 2 bb,.boxS 11 [.own 76 bB,.own 3 ty_I,.own 3 ty_I]],A:=fun ((bs,g,w0):List Int×cE×cE)=>{ cs:=[.boxS 11 [.own 76 bB,.own 3 ty_I,.own 3 ty_I],.dat 82 ty_I],inv:=fun ((w,i):cE×Int)=>0≤i∧i≤bs.length∧w.2=w0.2∧w.1=cT g.1 ((bs.take i.toNat).filter fun y=>!aI w0.2.1 y),mu:=fun ((_,i):cE×Int)=>(bs.length - i).toNat } }
 | _=>none
def jX:Spec:=tS [bb,.arr ty_I]
def ft:Prop :=
  ∀ (x:(List Int×List Int×List Int)×List Int),(((x.1.1.length * (8:Nat)≤aC∧∀ (x_1:Int),x_1∈x.1.1→ai IntKind.u64 x_1)∧(x.1.2.1.length * (8:Nat)≤aC∧∀ (x_1:Int),x_1∈x.1.2.1→ai IntKind.i64 x_1)∧x.1.2.2.length * (8:Nat)≤aC∧∀ (x_1:Int),x_1∈x.1.2.2→ai IntKind.i64 x_1)∧x.2.length * (8:Nat)≤aC∧∀ (x_1:Int),x_1∈x.2→ai IntKind.i64 x_1)→((((x.1.1.length * (8:Nat)≤(140737488351232:Nat)∧∀ (x_1:Int),x_1∈x.1.1→da bB x_1)∧(x.1.2.1.length * (8:Nat)≤(140737488351232:Nat)∧∀ (x_1:Int),x_1∈x.1.2.1→da ty_I x_1)∧x.1.2.2.length * (8:Nat)≤(140737488351232:Nat)∧∀ (x_1:Int),x_1∈x.1.2.2→da ty_I x_1)∧x.2.length * (8:Nat)≤(140737488351232:Nat)∧∀ (x_1:Int),x_1∈x.2→da ty_I x_1)∧((x.1.1.length≤(1048576:Nat)∧∀ (x_1:Int),x_1∈x.1.1→ck (1048576:Nat) bB x_1)∧(x.1.2.1.length≤(1048576:Nat)∧∀ (x_1:Int),x_1∈x.1.2.1→ck (1048576:Nat) ty_I x_1)∧x.1.2.2.length≤(1048576:Nat)∧∀ (x_1:Int),x_1∈x.1.2.2→ck (1048576:Nat) ty_I x_1)∧x.2.length≤(1048576:Nat)∧∀ (x_1:Int),x_1∈x.2→ck (1048576:Nat) ty_I x_1)→True∧(x.1.2.1.length+(256:Nat)) * (8:Nat)≤(140737488355328:Nat)∧True∧(decide (a8 x.1=(0:Int))=true→True∧(decide (ed x.1.1 [x.2]≠(0:Int))=true→((decide ((↑(aE x.1 x.2).1.length:Int)=(0:Int))&&decide ((aE x.1 x.2).2=ed x.1.1 [x.2]))=true→True)∧(decide ((↑(aE x.1 x.2).1.length:Int)=(0:Int))&&decide ((aE x.1 x.2).2=ed x.1.1 [x.2])&&decide ((dJ x.1 x.2).1=(([]:List Int),([]:List Int),([]:List Int)))&&decide ((dJ x.1 x.2).2=ed x.1.1 [x.2]))=true∧True)∧(decide (ed x.1.1 [x.2]≠(0:Int))=false→(a8 x.1=(0:Int)∧(∀ (x_1:Int),x_1∈x.2→isB (aa x.1.1).1 x_1=true)∧(x.1.2.2.length+(256:Nat)) * (8:Nat)≤(140737488355328:Nat))∧(decide ((aE x.1 x.2).2≠(0:Int))=false→True)∧((decide ((aE x.1 x.2).2≠(0:Int))||!decide ((aE x.1 x.2).1=aF x.1 x.2))=true→false=true∧True)∧((decide ((aE x.1 x.2).2≠(0:Int))||!decide ((aE x.1 x.2).1=aF x.1 x.2))=false→True∧[x.1.2.1,aF x.1 x.2].flatten.length * (8:Nat)≤aC∧True∧x.1.2.1=x.1.2.1∧[x.1.2.1,aF x.1 x.2]=[x.1.2.1,aF x.1 x.2]∧false=false∧false=false∧false=false∧True∧((0:Int)≤(0:Int)∧(0:Int)≤(↑(ab (aa x.1.1).1).length:Int)∧(aA [x.1.2.1,aF x.1 x.2].flatten (256:Nat),([]:List Int))=(aA [x.1.2.1,aF x.1 x.2].flatten (256:Nat),([]:List Int))∧x.1.1=cT x.1.1 (List.filter (fun (y:Int)=>!aI (aA [x.1.2.1,aF x.1 x.2].flatten (256:Nat),([]:List Int)).1 y) (List.take (Int.toNat (0:Int)) (ab (aa x.1.1).1))))∧∀ (x_1:(List Int×List Int×List Int)×Int),(0:Int)≤x_1.2∧x_1.2≤(↑(ab (aa x.1.1).1).length:Int)∧x_1.1.2=(aA [x.1.2.1,aF x.1 x.2].flatten (256:Nat),([]:List Int))∧x_1.1.1=cT x.1.1 (List.filter (fun (y:Int)=>!aI (aA [x.1.2.1,aF x.1 x.2].flatten (256:Nat),([]:List Int)).1 y) (List.take x_1.2.toNat (ab (aa x.1.1).1)))→(decide (x_1.2<(↑(ab (aa x.1.1).1).length:Int))=true→(0:Int)≤x_1.2∧x_1.2<(↑(ab (aa x.1.1).1).length:Int)∧x_1.2.toNat<(ab (aa x.1.1).1).length∧True∧((!aI x_1.1.2.1 ((ab (aa x.1.1).1).getD x_1.2.toNat (0:Int)))=true→True∧(ai IntKind.i64 ((1:Int)+(ac ((ab (aa x.1.1).1).getD x_1.2.toNat (0:Int)) (aa x.1.1).1).1.1)∧ai IntKind.i64 ((1:Int)+(ac ((ab (aa x.1.1).1).getD x_1.2.toNat (0:Int)) (aa x.1.1).1).1.1+(ac ((ab (aa x.1.1).1).getD x_1.2.toNat (0:Int)) (aa x.1.1).1).1.2.1))∧eh x_1.1.1 ((ab (aa x.1.1).1).getD x_1.2.toNat (0:Int)) (ah (ac ((ab (aa x.1.1).1).getD x_1.2.toNat (0:Int)) (aa x.1.1).1).1)∧ai IntKind.i64 (x_1.2+(1:Int))∧((0:Int)≤x_1.2+(1:Int)∧x_1.2+(1:Int)≤(↑(ab (aa x.1.1).1).length:Int)∧x_1.1.2=(aA [x.1.2.1,aF x.1 x.2].flatten (256:Nat),([]:List Int))∧bn x_1.1.1 ((ab (aa x.1.1).1).getD x_1.2.toNat (0:Int)) (ah (ac ((ab (aa x.1.1).1).getD x_1.2.toNat (0:Int)) (aa x.1.1).1).1)=cT x.1.1 (List.filter (fun (y:Int)=>!aI (aA [x.1.2.1,aF x.1 x.2].flatten (256:Nat),([]:List Int)).1 y) (List.take (x_1.2+(1:Int)).toNat (ab (aa x.1.1).1))))∧((↑(ab (aa x.1.1).1).length:Int) - (x_1.2+(1:Int))).toNat<((↑(ab (aa x.1.1).1).length:Int) - x_1.2).toNat)∧((!aI x_1.1.2.1 ((ab (aa x.1.1).1).getD x_1.2.toNat (0:Int)))=false→ai IntKind.i64 (x_1.2+(1:Int))∧((0:Int)≤x_1.2+(1:Int)∧x_1.2+(1:Int)≤(↑(ab (aa x.1.1).1).length:Int)∧x_1.1.2=(aA [x.1.2.1,aF x.1 x.2].flatten (256:Nat),([]:List Int))∧x_1.1.1=cT x.1.1 (List.filter (fun (y:Int)=>!aI (aA [x.1.2.1,aF x.1 x.2].flatten (256:Nat),([]:List Int)).1 y) (List.take (x_1.2+(1:Int)).toNat (ab (aa x.1.1).1))))∧((↑(ab (aa x.1.1).1).length:Int) - (x_1.2+(1:Int))).toNat<((↑(ab (aa x.1.1).1).length:Int) - x_1.2).toNat))∧(decide (x_1.2<(↑(ab (aa x.1.1).1).length:Int))=false→(decide ((dJ x.1 x.2).2=(0:Int))=true→True)∧(decide ((dJ x.1 x.2).2=(0:Int))&&decide ((dJ x.1 x.2).1=x_1.1))=true∧True))))∧(decide (a8 x.1=(0:Int))=false→(decide (a8 x.1≠(0:Int))=true→((decide ((↑(aE x.1 x.2).1.length:Int)=(0:Int))&&decide ((aE x.1 x.2).2=a8 x.1))=true→True)∧(decide ((↑(aE x.1 x.2).1.length:Int)=(0:Int))&&decide ((aE x.1 x.2).2=a8 x.1)&&decide ((dJ x.1 x.2).1=(([]:List Int),([]:List Int),([]:List Int)))&&decide ((dJ x.1 x.2).2=a8 x.1))=true∧True)∧(decide (a8 x.1≠(0:Int))=false→(a8 x.1=(0:Int)∧(∀ (x_1:Int),x_1∈x.2→isB (aa x.1.1).1 x_1=true)∧(x.1.2.2.length+(256:Nat)) * (8:Nat)≤(140737488355328:Nat))∧(decide ((aE x.1 x.2).2≠(0:Int))=false→True)∧((decide ((aE x.1 x.2).2≠(0:Int))||!decide ((aE x.1 x.2).1=aF x.1 x.2))=true→false=true∧True)∧((decide ((aE x.1 x.2).2≠(0:Int))||!decide ((aE x.1 x.2).1=aF x.1 x.2))=false→True∧[x.1.2.1,aF x.1 x.2].flatten.length * (8:Nat)≤aC∧True∧x.1.2.1=x.1.2.1∧[x.1.2.1,aF x.1 x.2]=[x.1.2.1,aF x.1 x.2]∧false=false∧false=false∧false=false∧True∧((0:Int)≤(0:Int)∧(0:Int)≤(↑(ab (aa x.1.1).1).length:Int)∧(aA [x.1.2.1,aF x.1 x.2].flatten (256:Nat),([]:List Int))=(aA [x.1.2.1,aF x.1 x.2].flatten (256:Nat),([]:List Int))∧x.1.1=cT x.1.1 (List.filter (fun (y:Int)=>!aI (aA [x.1.2.1,aF x.1 x.2].flatten (256:Nat),([]:List Int)).1 y) (List.take (Int.toNat (0:Int)) (ab (aa x.1.1).1))))∧∀ (x_1:(List Int×List Int×List Int)×Int),(0:Int)≤x_1.2∧x_1.2≤(↑(ab (aa x.1.1).1).length:Int)∧x_1.1.2=(aA [x.1.2.1,aF x.1 x.2].flatten (256:Nat),([]:List Int))∧x_1.1.1=cT x.1.1 (List.filter (fun (y:Int)=>!aI (aA [x.1.2.1,aF x.1 x.2].flatten (256:Nat),([]:List Int)).1 y) (List.take x_1.2.toNat (ab (aa x.1.1).1)))→(decide (x_1.2<(↑(ab (aa x.1.1).1).length:Int))=true→(0:Int)≤x_1.2∧x_1.2<(↑(ab (aa x.1.1).1).length:Int)∧x_1.2.toNat<(ab (aa x.1.1).1).length∧True∧((!aI x_1.1.2.1 ((ab (aa x.1.1).1).getD x_1.2.toNat (0:Int)))=true→True∧(ai IntKind.i64 ((1:Int)+(ac ((ab (aa x.1.1).1).getD x_1.2.toNat (0:Int)) (aa x.1.1).1).1.1)∧ai IntKind.i64 ((1:Int)+(ac ((ab (aa x.1.1).1).getD x_1.2.toNat (0:Int)) (aa x.1.1).1).1.1+(ac ((ab (aa x.1.1).1).getD x_1.2.toNat (0:Int)) (aa x.1.1).1).1.2.1))∧eh x_1.1.1 ((ab (aa x.1.1).1).getD x_1.2.toNat (0:Int)) (ah (ac ((ab (aa x.1.1).1).getD x_1.2.toNat (0:Int)) (aa x.1.1).1).1)∧ai IntKind.i64 (x_1.2+(1:Int))∧((0:Int)≤x_1.2+(1:Int)∧x_1.2+(1:Int)≤(↑(ab (aa x.1.1).1).length:Int)∧x_1.1.2=(aA [x.1.2.1,aF x.1 x.2].flatten (256:Nat),([]:List Int))∧bn x_1.1.1 ((ab (aa x.1.1).1).getD x_1.2.toNat (0:Int)) (ah (ac ((ab (aa x.1.1).1).getD x_1.2.toNat (0:Int)) (aa x.1.1).1).1)=cT x.1.1 (List.filter (fun (y:Int)=>!aI (aA [x.1.2.1,aF x.1 x.2].flatten (256:Nat),([]:List Int)).1 y) (List.take (x_1.2+(1:Int)).toNat (ab (aa x.1.1).1))))∧((↑(ab (aa x.1.1).1).length:Int) - (x_1.2+(1:Int))).toNat<((↑(ab (aa x.1.1).1).length:Int) - x_1.2).toNat)∧((!aI x_1.1.2.1 ((ab (aa x.1.1).1).getD x_1.2.toNat (0:Int)))=false→ai IntKind.i64 (x_1.2+(1:Int))∧((0:Int)≤x_1.2+(1:Int)∧x_1.2+(1:Int)≤(↑(ab (aa x.1.1).1).length:Int)∧x_1.1.2=(aA [x.1.2.1,aF x.1 x.2].flatten (256:Nat),([]:List Int))∧x_1.1.1=cT x.1.1 (List.filter (fun (y:Int)=>!aI (aA [x.1.2.1,aF x.1 x.2].flatten (256:Nat),([]:List Int)).1 y) (List.take (x_1.2+(1:Int)).toNat (ab (aa x.1.1).1))))∧((↑(ab (aa x.1.1).1).length:Int) - (x_1.2+(1:Int))).toNat<((↑(ab (aa x.1.1).1).length:Int) - x_1.2).toNat))∧(decide (x_1.2<(↑(ab (aa x.1.1).1).length:Int))=false→(decide ((dJ x.1 x.2).2=(0:Int))=true→True)∧(decide ((dJ x.1 x.2).2=(0:Int))&&decide ((dJ x.1 x.2).1=x_1.1))=true∧True))))
theorem iM:ft:=by
 unfold ft
 intro ⟨⟨a,old,nt⟩,f⟩ ⟨⟨⟨hb,hw⟩,_⟩,_⟩ ⟨_,⟨_,⟨hso,_⟩,hsn,_⟩,_⟩
 simp only at hb hw hso hsn ⊢
 rw [r8 hw]
 have hK:aE (a,old,nt) f=if a8 (a,old,nt)≠0 then ([],a8 (a,old,nt)) else if f.all (isB (aa a).1)=true then (aF (a,old,nt) f,0) else ([],5):=rfl
 have hG:dJ (a,old,nt) f=if (aE (a,old,nt) f).2≠0 then (([],[],[]),(aE (a,old,nt) f).2) else ((cT a (jq a (aU (old++(aE (a,old,nt) f).1))),aU (old++(aE (a,old,nt) f).1),[]),0):=rfl
 refine ⟨trivial,by omega,trivial,fun hA=>?_,fun hA=>⟨fun _=>?_,fun h=>absurd (by simpa using of_decide_eq_false h) (of_decide_eq_false hA)⟩⟩
 rotate_left
 ·have hA:=of_decide_eq_false hA
  rw [if_pos hA] at hK
  rw [hK,if_pos hA] at hG
  rw [hK,hG]
  exact ⟨fun _=>trivial,by simp,trivial⟩
 have hA:=of_decide_eq_true hA
 obtain ⟨hc,ho,hn⟩:=jP hA
 have hff:cQ a f=if f.all (isB (aa a).1)=true then 0 else 5:=by unfold cQ; rw [if_neg (by omega)]
 rw [if_neg (by omega)] at hK
 by_cases h2:f.all (isB (aa a).1)=true
 rotate_left
 ·rw [if_neg h2] at hK hff
  rw [hK,if_pos (by decide)] at hG
  rw [hff,hK,hG]
  exact ⟨trivial,fun _=>⟨fun _=>trivial,by simp,trivial⟩,fun h=>by simp at h⟩
 rw [if_pos h2] at hK hff
 obtain ⟨hl,hm,hnd⟩:=o5 hw (by rw [hK]:(aE (a,old,nt) f).2=0)
 rw [hK] at hl hm hnd
 rw [hK,if_neg (by simp)] at hG
 simp only at hl hm hnd hG
 have hor:=ry (tP hA).1
 have hE:aU (old++aF (a,old,nt) f)=aA (old++aF (a,old,nt) f) 256:=by
  have hd:(old++aF (a,old,nt) f).Nodup:=by
   rw [List.nodup_append]
   exact ⟨hor,hnd,fun x hx y hy e=>(hm y hy).2 (e ▸ hx)⟩
  refine eC ?_ (d9 _ _) (fun x=>?_)
  ·have h1:=ep (old++aF (a,old,nt) f)
   have h2:(aU (old++aF (a,old,nt) f)).Nodup:=(List.mergeSort_perm _ _).nodup_iff.2 hd
   exact (h1.and h2).imp (fun ⟨x,y⟩=>by omega)
  ·rw [gK,eJ]
   refine ⟨fun h=>?_,fun h=>h.2.2⟩
   have hx:isB (aa a).1 x=true:=(List.mem_append.1 h).elim (ho x) fun h=>(hm x h).1
   have:=co hx
   exact ⟨by omega,by omega,h⟩
 have e:[old,aF (a,old,nt) f].flatten=old++aF (a,old,nt) f:=by simp
 rw [hE] at hG
 rw [e,hK,hff]
 have hbB:∀ x∈ab (aa a).1,isB (aa a).1 x=true:=fun x hx=>by rw [← ce]; exact aP.2 hx
 have hbn:(ab (aa a).1).Nodup:=(dt (br a)).imp fun h=>by omega
 have hbl:(ab (aa a).1).length≤1000:=by
  have h1:=dN (aa a).1
  have h2:=bM a
  omega
 have hL:jq a (aA (old++aF (a,old,nt) f) 256)=(ab (aa a).1).filter fun y=>!aI (aA (old++aF (a,old,nt) f) 256) y:=rfl
 rw [hL] at hG
 have hfl:(old++aF (a,old,nt) f).length * 8≤aC:=by rw [List.length_append]; unfold aC; omega
 generalize aA (old++aF (a,old,nt) f) 256=R at *
 simp only
 refine ⟨trivial,fun h=>by simp at h,fun _=>⟨⟨hA,List.all_eq_true.1 h2,by omega⟩,fun _=>trivial,fun h=>by simp at h,fun _=>⟨trivial,hfl,trivial,trivial,trivial,trivial,trivial,trivial,trivial,⟨by omega,by omega,trivial,by simp [cT]⟩,fun ⟨w,i⟩ ⟨i0,i1,i2,i3⟩=>⟨fun hlt=>?_,fun hge=>?_⟩⟩⟩⟩
 ·have hlt:=of_decide_eq_true hlt
  simp only at i0 i1 i2 i3 hlt ⊢
  have ht:=cN (0:Int) i0 hlt
  have hmm:=bz (0:Int) i0 hlt
  have hsub:((ab (aa a).1).take i.toNat).filter (fun y=>!aI R y) ⊆ ab (aa a).1:=fun y hy=>List.mem_of_mem_take (List.mem_filter.1 hy).1
  have hnd2:(((ab (aa a).1).take i.toNat).filter (fun y=>!aI R y)).Nodup:=(hbn.sublist (List.take_sublist _ _)).sublist List.filter_sublist
  have hwl:=(sB hc (fun x hx=>hbB x (hsub hx)) hnd2).len
  rw [← i3] at hwl
  generalize (ab (aa a).1).getD i.toNat 0=x at *
  have hx:=hbB x hmm
  obtain ⟨hp,h1,hf0,hs⟩:=qk hwl hx
  have hs2:ah (ac x (aa a).1).1=cH a x:=rfl
  have hz:=bj hf0
  have hh:(ac x (aa a).1).1=jQ a x:=rfl
  rw [ht,i2,hs2,hh]
  simp only [ai]
  have hor2:=hz.1
  refine ⟨i0,hlt,by omega,trivial,fun hq=>⟨trivial,⟨⟨by omega,by omega⟩,⟨by omega,by omega⟩⟩,hp,by omega,⟨by omega,by omega,trivial,?_⟩,by omega⟩,fun hq=>⟨by omega,⟨by omega,by omega,trivial,?_⟩,by omega⟩⟩
  ·rw [List.filter_append,List.filter_cons_of_pos (p:=fun y=>!aI R y) hq,List.filter_nil,tJ,i3]
  ·rw [List.filter_append,List.filter_cons_of_neg (p:=fun y=>!aI R y) (by rw [hq]; simp),List.filter_nil,List.append_nil,i3]
 ·have hge:=of_decide_eq_false hge
  simp only at i2 i3 hge ⊢
  rw [d7 hge] at i3
  rw [hG]
  refine ⟨fun _=>trivial,?_,trivial⟩
  rw [← i3,← i2]
  simp
theorem kg:jX.ok Try.prog 8:=aQ (ann:=kC) (af rM (af vW (af vY (af rP (af qg (af nQ (af uY (af kU (af nS (af mt (af fJ (af kf (af mv (af jk (af rQ ar))))))))))))))) Try.func8 (by kernel_rfl) iM
end Go.Proofs.Ytcnoiiohmpgckaa
