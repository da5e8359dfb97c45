
import Derived.Test.YtglchojglcobjaaGreatLists
import Derived.Test.YtglchojglcobjaaGreatGapsSame
namespace Go.Proofs.YtglchojglcobjaaGreat
open Go
set_option maxRecDepth 100000
set_option maxHeartbeats 1000000
def ax (l:List aw) (at_:Int):Int:=ab (ah at_ l).1
def ai (a keep pinned:List Int):List Int×Int :=
 if (ao a).2.2≠0 then ([],(ao a).2.2) else if (bv keep&&bv pinned)=false then ([],3)
 else if (keep.all (isB (aa a).1))=false then ([],5) else if (pinned.all (cD keep))=false then ([],5) else (keep.map (ax (aa a).1),0)
theorem F0 {l:List aw} (hs:l.Pairwise (fun s t=>s.1<t.1)) (at_:Int) :
  (aj (fun s:aw=>decide (s.1=at_)&&!s.2.2.2.2) 0 l<0→isB l at_=false) ∧
  (¬ aj (fun s:aw=>decide (s.1=at_)&&!s.2.2.2.2) 0 l<0→isB l at_=true∧aj (fun s:aw=>decide (s.1=at_)&&!s.2.2.2.2) 0 l<(l.length:Int) ∧
   (l.getD (aj (fun s:aw=>decide (s.1=at_)&&!s.2.2.2.2) 0 l).toNat (0,0,0,0,false)).2=(ah at_ l).1∧l.getD (aj (fun s:aw=>decide (s.1=at_)&&!s.2.2.2.2) 0 l).toNat (0,0,0,0,false)∈l):=by
 have hf:(fun s:aw=>decide (s.1=at_)&&!s.2.2.2.2)=(fun s:aw=>decide (s.1=at_)&&s.2.2.2.2 == false):=by
  funext s
  cases s.2.2.2.2 <;> rfl
 obtain ⟨k1,k2⟩:=xL hs at_
 have hlt:=dG (fun s:aw=>decide (s.1=at_)&&s.2.2.2.2 == false) (0,0,0,0,false) l 0 (by omega)
 rw [hf]
 unfold isB
 refine ⟨fun h=>?_,fun h=>?_⟩
 ·rw [k1]
  unfold br
  rw [if_pos h]
 ·have e:br l at_ false=(l.getD (aj (fun s:aw=>decide (s.1=at_)&&s.2.2.2.2 == false) 0 l).toNat (0,0,0,0,false),true):=by
   unfold br
   rw [if_neg h]
  have k3:=k2 (by rw [e])
  rw [k1,k3,e]
  exact ⟨rfl,by omega,rfl,aD _ (by omega) (by omega)⟩
def DS:Spec:={ Ts:=[bS,.ref ty_I],Rs:=[.dat .bool],pre:=fun _=>True,F:=fun ((s,at_):aw×Int)=>decide (s.1=at_)&&!s.2.2.2.2 }
def vt:Prop :=
  ∀ (x:(Int×Int×Int×Int×Bool)×Int),(ak IntKind.i64 x.1.1∧ak IntKind.i64 x.1.2.1∧ak IntKind.i64 x.1.2.2.1∧ak IntKind.i64 x.1.2.2.2.1∧True)∧ak IntKind.i64 x.2→True→(decide (x.1.1=x.2)&&!x.1.2.2.2.2)=(decide (x.1.1=x.2)&&!x.1.2.2.2.2)∧True
theorem Bd:vt:=by
 unfold vt
 intro ⟨s,at_⟩ _ _
 simp
theorem Ej:DS.ok Tryz.prog 187:=aI (ann:=cT) ap Tryz.func187 (by kernel_rfl) Bd
def Bz:Spec:={ Ts:=[ty_I,.ref (.arr ty_I)],Rs:=[.dat .bool],pre:=fun _=>True,F:=fun ((at_,keep):Int×List Int)=>!cD keep at_ }
def r5:Prop :=
  ∀ (x:Int×List Int),(ak IntKind.i64 x.1∧x.2.length * 8≤az∧∀ (x_1:Int),x_1∈x.2→ak IntKind.i64 x_1)→True→True∧(!cD x.2 x.1)=!cD x.2 x.1∧True
theorem yB:r5:=by
 unfold r5
 intro _ _ _
 exact ⟨trivial,rfl,trivial⟩
theorem BU:Bz.ok Tryz.prog 188:=aI (ann:=cT) (ae C0 ap) Tryz.func188 (by kernel_rfl) yB
def GL:Nat→Option LoopGen
 | 9=>some { rd:=[.own 9 95 bS,.dat 35 (.arr ty_I)],A:=fun ((l,keep):List aw×List Int)=>{ cs:=[.own 11 3 ty_I,.dat 37 ty_I],inv:=fun ((out,i):List Int×Int)=>0≤i∧i≤keep.length∧(keep.drop i.toNat).all (isB l)=keep.all (isB l)∧out=(keep.take i.toNat).map (ax l),mu:=fun ((_,i):List Int×Int)=>(keep.length - i).toNat } }
 | _=>none
def Fk:Spec:={ Ts:=[.arr be,.arr ty_I,.arr ty_I],Rs:=[.own 3 ty_I,.dat ty_I],pre:=fun _=>True,F:=fun ((a,keep,pinned):List Int×List Int×List Int)=>ai a keep pinned }
def zC:Prop :=
  ∀ (x:List Int×List Int×List Int),((x.1.length * 8≤az∧∀ (x_1:Int),x_1∈x.1→ak IntKind.u64 x_1)∧(x.2.1.length * 8≤az∧∀ (x_1:Int),x_1∈x.2.1→ak IntKind.i64 x_1)∧x.2.2.length * 8≤az∧∀ (x_1:Int),x_1∈x.2.2→ak IntKind.i64 x_1)→True→True∧(decide ((ao x.1).2.2≠0)=true→([]:List Int)=(ai x.1 x.2.1 x.2.2).1∧(ao x.1).2.2=(ai x.1 x.2.1 x.2.2).2∧True)∧(decide ((ao x.1).2.2≠0)=false→True∧((!bv x.2.1)=false→True)∧((!bv x.2.1||!bv x.2.2)=true→([]:List Int)=(ai x.1 x.2.1 x.2.2).1∧3=(ai x.1 x.2.1 x.2.2).2∧True)∧((!bv x.2.1||!bv x.2.2)=false→True∧((0:Int)≤0∧0≤(↑x.2.1.length:Int)∧(List.drop (Int.toNat 0) x.2.1).all (isB (aa x.1).1)=x.2.1.all (isB (aa x.1).1)∧([]:List Int)=List.map (ax (aa x.1).1) (List.take (Int.toNat 0) x.2.1))∧∀ (x_1:List Int×Int),0≤x_1.2∧x_1.2≤(↑x.2.1.length:Int)∧(List.drop x_1.2.toNat x.2.1).all (isB (aa x.1).1)=x.2.1.all (isB (aa x.1).1)∧x_1.1=List.map (ax (aa x.1).1) (List.take x_1.2.toNat x.2.1)→(decide (x_1.2<(↑x.2.1.length:Int))=true→0≤x_1.2∧x_1.2<(↑x.2.1.length:Int)∧(∀ (s:aw),s∈(aa x.1).1→(fun (_:Int×Int×Int×Int×Bool)=>True,fun (x_2:Int×Int×Int×Int×Bool)=>decide (x_2.1=x.2.1.getD x_1.2.toNat 0)&&!x_2.2.2.2.2).1 s)∧(decide (aj (fun (x_2:Int×Int×Int×Int×Bool)=>decide (x_2.1=x.2.1.getD x_1.2.toNat 0)&&!x_2.2.2.2.2) 0 (aa x.1).1<0)=true→([]:List Int)=(ai x.1 x.2.1 x.2.2).1∧5=(ai x.1 x.2.1 x.2.2).2∧True)∧(decide (aj (fun (x_2:Int×Int×Int×Int×Bool)=>decide (x_2.1=x.2.1.getD x_1.2.toNat 0)&&!x_2.2.2.2.2) 0 (aa x.1).1<0)=false→0≤aj (fun (x_2:Int×Int×Int×Int×Bool)=>decide (x_2.1=x.2.1.getD x_1.2.toNat 0)&&!x_2.2.2.2.2) 0 (aa x.1).1∧aj (fun (x_2:Int×Int×Int×Int×Bool)=>decide (x_2.1=x.2.1.getD x_1.2.toNat 0)&&!x_2.2.2.2.2) 0 (aa x.1).1<(↑(aa x.1).1.length:Int)∧(aj (fun (x_2:Int×Int×Int×Int×Bool)=>decide (x_2.1=x.2.1.getD x_1.2.toNat 0)&&!x_2.2.2.2.2) 0 (aa x.1).1).toNat<(aa x.1).1.length∧True∧(x_1.1.length+[if ac ((aa x.1).1.getD (aj (fun (x_2:Int×Int×Int×Int×Bool)=>decide (x_2.1=x.2.1.getD x_1.2.toNat 0)&&!x_2.2.2.2.2) 0 (aa x.1).1).toNat (0,0,0,0,false)).2=0 then ab ((aa x.1).1.getD (aj (fun (x_2:Int×Int×Int×Int×Bool)=>decide (x_2.1=x.2.1.getD x_1.2.toNat 0)&&!x_2.2.2.2.2) 0 (aa x.1).1).toNat (0,0,0,0,false)).2 else 0].length) * 8≤az∧ak IntKind.i64 (x_1.2+1)∧(0≤x_1.2+1∧x_1.2+1≤(↑x.2.1.length:Int)∧(List.drop (x_1.2+1).toNat x.2.1).all (isB (aa x.1).1)=x.2.1.all (isB (aa x.1).1)∧x_1.1++[if ac ((aa x.1).1.getD (aj (fun (x_2:Int×Int×Int×Int×Bool)=>decide (x_2.1=x.2.1.getD x_1.2.toNat 0)&&!x_2.2.2.2.2) 0 (aa x.1).1).toNat (0,0,0,0,false)).2=0 then ab ((aa x.1).1.getD (aj (fun (x_2:Int×Int×Int×Int×Bool)=>decide (x_2.1=x.2.1.getD x_1.2.toNat 0)&&!x_2.2.2.2.2) 0 (aa x.1).1).toNat (0,0,0,0,false)).2 else 0]=List.map (ax (aa x.1).1) (List.take (x_1.2+1).toNat x.2.1))∧((↑x.2.1.length:Int) - (x_1.2+1)).toNat<((↑x.2.1.length:Int) - x_1.2).toNat))∧(decide (x_1.2<(↑x.2.1.length:Int))=false→(∀ (s:Int),s∈x.2.2→(fun (_:Int)=>True,fun (x_2:Int)=>!cD x.2.1 x_2).1 s)∧((x.2.2.any fun (x_2:Int)=>!cD x.2.1 x_2)=true→([]:List Int)=(ai x.1 x.2.1 x.2.2).1∧5=(ai x.1 x.2.1 x.2.2).2∧True)∧((x.2.2.any fun (x_2:Int)=>!cD x.2.1 x_2)=false→x_1.1=(ai x.1 x.2.1 x.2.2).1∧0=(ai x.1 x.2.1 x.2.2).2∧True))))
theorem Du:zC:=by
 unfold zC
 intro ⟨a,keep,pinned⟩ ⟨_,⟨hb,_⟩,_⟩ _
 unfold az at hb
 simp only at hb ⊢
 have hF:ai a keep pinned=if (ao a).2.2≠0 then ([],(ao a).2.2) else if (bv keep&&bv pinned)=false then ([],3)
  else if (keep.all (isB (aa a).1))=false then ([],5) else if (pinned.all (cD keep))=false then ([],5) else (keep.map (ax (aa a).1),0):=rfl
 rw [hF]
 refine ⟨trivial,fun hc=>?_,fun hc=>⟨trivial,fun _=>trivial,fun hr=>?_,fun hr=>⟨trivial,⟨by omega,by omega,rfl,rfl⟩,fun ⟨out,i⟩ ⟨h0,h1,h2,h3⟩=>⟨fun hlt=>?_,fun hge=>?_⟩⟩⟩⟩
 ·rw [if_pos (of_decide_eq_true hc)]
  exact ⟨rfl,rfl,trivial⟩
 ·rw [if_neg (of_decide_eq_false hc),if_pos (by revert hr; cases bv keep <;> cases bv pinned <;> simp)]
  exact ⟨rfl,rfl,trivial⟩
 ·have hlt:i<(keep.length:Int):=of_decide_eq_true hlt
  simp only at h0 h1 h2 h3 ⊢
  rw [if_neg (of_decide_eq_false hc),if_neg (by revert hr; cases bv keep <;> cases bv pinned <;> simp)]
  rw [aS (0:Int) h0 hlt,List.all_cons] at h2
  have hts:=bj (0:Int) h0 hlt
  obtain ⟨f1,f2⟩:=F0 (b6 a) (keep.getD i.toNat 0)
  rw [hts]
  generalize keep.getD i.toNat 0=at_ at *
  refine ⟨h0,hlt,fun _ _=>trivial,fun hn=>?_,fun hn=>?_⟩
  ·rw [f1 (of_decide_eq_true hn),Bool.false_and] at h2
   rw [if_pos h2.symm]
   exact ⟨rfl,rfl,trivial⟩
  ·obtain ⟨g1,g2,g3,g4⟩:=f2 (of_decide_eq_false hn)
   have hn:¬ aj (fun s:aw=>decide (s.1=at_)&&!s.2.2.2.2) 0 (aa a).1<0:=of_decide_eq_false hn
   rw [g1,Bool.true_and] at h2
   have hh:=(dc a _ g4).2.2
   rw [g3] at hh ⊢
   rw [if_pos hh]
   have hl:out.length=i.toNat:=by rw [h3,List.length_map,List.length_take]; omega
   unfold az
   simp only [ak,List.length_cons,List.length_nil]
   refine ⟨Int.not_lt.1 hn,g2,(Int.toNat_lt (Int.not_lt.1 hn)).2 g2,trivial,by omega,by omega,⟨by omega,by omega,h2,?_⟩,by omega⟩
   rw [List.map_append,← h3]
   rfl
 ·have hge:¬ i<(keep.length:Int):=of_decide_eq_false hge
  simp only at h2 h3 ⊢
  rw [bn hge,List.all_nil] at h2
  rw [bE hge] at h3
  rw [if_neg (of_decide_eq_false hc),if_neg (by revert hr; cases bv keep <;> cases bv pinned <;> simp),if_neg (by rw [← h2]; simp)]
  have e:(pinned.any fun at_=>!cD keep at_)=!(pinned.all (cD keep)):=by rw [List.not_all_eq_any_not]
  refine ⟨fun _ _=>trivial,fun hp=>?_,fun hp=>?_⟩
  ·rw [e] at hp
   rw [if_pos (by simpa using hp)]
   exact ⟨rfl,rfl,trivial⟩
  ·rw [e] at hp
   rw [if_neg (by simpa using hp)]
   exact ⟨h3,rfl,trivial⟩
theorem zU:Fk.ok Tryz.prog 177:=aI (ann:=GL) (ae hY (ae FH (ae hI (ae mM (ae Ej (ae hZ (ae xC (ae BU ap)))))))) Tryz.func177 (by kernel_rfl) Du
def aW (pinned keep long:List Int):Nat→Int
 | 0=>0
 | i+1=>(if cD pinned (keep.getD i 0)=true then keep.getD i 0 else aW pinned keep long i)+long.getD i 0
def cB (pinned keep long:List Int) (i:Nat):Int:=if cD pinned (keep.getD i 0)=true then keep.getD i 0 else aW pinned keep long i
def an (keep long pinned:List Int):List Int:=(List.range keep.length).map (cB pinned keep long)
def dm (keep long:List Int):Prop:=long.length=keep.length∧keep.length≤256∧(∀ x∈keep,0≤x∧x≤255)∧∀ n∈long,1≤n∧n≤256
theorem bR {keep long:List Int} (pinned:List Int) (h:dm keep long):∀ i:Nat,i≤keep.length→0≤aW pinned keep long i∧aW pinned keep long i≤512 * i
 | 0,_=>by simp [aW]
 | i+1,hi=>by
  have ih:=bR pinned h i (by omega)
  obtain ⟨h1,h2,h3,h4⟩:=h
  have k1:=h3 _ (aD (0:Int) (xs:=keep) (i:=i) (by omega) (by omega))
  have k2:=h4 _ (aD (0:Int) (xs:=long) (i:=i) (by omega) (by omega))
  simp only [Int.toNat_natCast] at k1 k2
  simp only [aW]
  split <;> omega
theorem jq {keep long:List Int} (pinned:List Int) (h:dm keep long) {i:Nat} (hi:i<keep.length):0≤cB pinned keep long i∧cB pinned keep long i≤512 * i+255:=by
 have h0:=bR pinned h i (by omega)
 have k1:=h.2.2.1 _ (aD (0:Int) (xs:=keep) (i:=i) (by omega) (by omega))
 simp only [Int.toNat_natCast] at k1
 unfold cB
 split <;> omega
def Hr:Nat→Option LoopGen
 | 4=>some { rd:=[.dat 11 (.arr ty_I),.dat 1 (.arr ty_I),.dat 2 (.arr ty_I)],A:=fun ((keep,long,pinned):List Int×List Int×List Int)=>{ cs:=[.own 7 3 ty_I,.dat 8 ty_I,.dat 13 ty_I],inv:=fun ((out,e,i):List Int×Int×Int)=>0≤i∧i≤keep.length∧out=(List.range i.toNat).map (cB pinned keep long)∧e=aW pinned keep long i.toNat,mu:=fun ((_,_,i):List Int×Int×Int)=>(keep.length - i).toNat } }
 | _=>none
def GY:Spec:={ Ts:=[.arr ty_I,.arr ty_I,.arr ty_I],Rs:=[.own 3 ty_I],pre:=fun ((keep,long,_):List Int×List Int×List Int)=>dm keep long,F:=fun ((keep,long,pinned):List Int×List Int×List Int)=>an keep long pinned }
def CK:Prop :=
  ∀ (x:List Int×List Int×List Int),((x.1.length * 8≤az∧∀ (x_1:Int),x_1∈x.1→ak IntKind.i64 x_1)∧(x.2.1.length * 8≤az∧∀ (x_1:Int),x_1∈x.2.1→ak IntKind.i64 x_1)∧x.2.2.length * 8≤az∧∀ (x_1:Int),x_1∈x.2.2→ak IntKind.i64 x_1)→dm x.1 x.2.1→((0:Int)≤0∧0≤(↑x.1.length:Int)∧([]:List Int)=List.map (cB x.2.2 x.1 x.2.1) (List.range (Int.toNat 0))∧0=aW x.2.2 x.1 x.2.1 (Int.toNat 0))∧∀ (x_1:List Int×Int×Int),0≤x_1.2.2∧x_1.2.2≤(↑x.1.length:Int)∧x_1.1=List.map (cB x.2.2 x.1 x.2.1) (List.range x_1.2.2.toNat)∧x_1.2.1=aW x.2.2 x.1 x.2.1 x_1.2.2.toNat→(decide (x_1.2.2<(↑x.1.length:Int))=true→0≤x_1.2.2∧x_1.2.2<(↑x.1.length:Int)∧True∧((!cD x.2.2 (x.1.getD x_1.2.2.toNat 0))=true→(x_1.1.length+[x_1.2.1].length) * 8≤az∧0≤x_1.2.2∧x_1.2.2<(↑x.2.1.length:Int)∧ak IntKind.i64 (x_1.2.1+x.2.1.getD x_1.2.2.toNat 0)∧ak IntKind.i64 (x_1.2.2+1)∧(0≤x_1.2.2+1∧x_1.2.2+1≤(↑x.1.length:Int)∧x_1.1++[x_1.2.1]=List.map (cB x.2.2 x.1 x.2.1) (List.range (x_1.2.2+1).toNat)∧x_1.2.1+x.2.1.getD x_1.2.2.toNat 0=aW x.2.2 x.1 x.2.1 (x_1.2.2+1).toNat)∧((↑x.1.length:Int) - (x_1.2.2+1)).toNat<((↑x.1.length:Int) - x_1.2.2).toNat)∧((!cD x.2.2 (x.1.getD x_1.2.2.toNat 0))=false→(x_1.1.length+[x.1.getD x_1.2.2.toNat 0].length) * 8≤az∧0≤x_1.2.2∧x_1.2.2<(↑x.2.1.length:Int)∧ak IntKind.i64 (x.1.getD x_1.2.2.toNat 0+x.2.1.getD x_1.2.2.toNat 0)∧ak IntKind.i64 (x_1.2.2+1)∧(0≤x_1.2.2+1∧x_1.2.2+1≤(↑x.1.length:Int)∧x_1.1++[x.1.getD x_1.2.2.toNat 0]=List.map (cB x.2.2 x.1 x.2.1) (List.range (x_1.2.2+1).toNat)∧x.1.getD x_1.2.2.toNat 0+x.2.1.getD x_1.2.2.toNat 0=aW x.2.2 x.1 x.2.1 (x_1.2.2+1).toNat)∧((↑x.1.length:Int) - (x_1.2.2+1)).toNat<((↑x.1.length:Int) - x_1.2.2).toNat))∧(decide (x_1.2.2<(↑x.1.length:Int))=false→x_1.1=an x.1 x.2.1 x.2.2∧True)
theorem EY:CK:=by
 unfold CK
 intro ⟨keep,long,pinned⟩ _ hp
 have hp':=hp
 obtain ⟨p1,p2,p3,p4⟩:=hp'
 simp only at p1 p2 p3 p4 hp ⊢
 refine ⟨⟨by omega,by omega,rfl,rfl⟩,fun ⟨out,e,i⟩ ⟨h0,h1,h2,h3⟩=>⟨fun hlt=>?_,fun hge=>?_⟩⟩
 ·have hlt':i<(keep.length:Int):=of_decide_eq_true hlt
  simp only at h0 h1 h2 h3 ⊢
  have ht:=jq pinned hp (i:=i.toNat) (by omega)
  have he:=bR pinned hp (i.toNat+1) (by omega)
  have k1:=p3 _ (aD (0:Int) h0 hlt')
  have k2:=p4 _ (aD (0:Int) (xs:=long) h0 (by omega))
  have hs:out++[cB pinned keep long i.toNat]=(List.range (i+1).toNat).map (cB pinned keep long):=by
   rw [show (i+1).toNat=i.toNat+1 by omega,List.range_succ,List.map_append,← h2]
   rfl
  have hE:aW pinned keep long (i+1).toNat=cB pinned keep long i.toNat+long.getD i.toNat 0:=by
   rw [show (i+1).toNat=i.toNat+1 by omega]
   rfl
  have hl:out.length=i.toNat:=by rw [h2]; simp
  rw [hE,← hs]
  subst h3
  unfold az
  simp only [ak,List.length_cons,List.length_nil]
  have hT:cB pinned keep long i.toNat=if cD pinned (keep.getD i.toNat 0)=true then keep.getD i.toNat 0 else aW pinned keep long i.toNat:=rfl
  have hE':aW pinned keep long (i.toNat+1)=cB pinned keep long i.toNat+long.getD i.toNat 0:=rfl
  rw [hE'] at he
  refine ⟨h0,hlt',trivial,fun hc=>?_,fun hc=>?_⟩
  ·have hc:cD pinned (keep.getD i.toNat 0)=false:=by simpa using hc
   rw [if_neg (by rw [hc]; simp)] at hT
   rw [hT] at he ⊢
   exact ⟨by omega,h0,by omega,by omega,by omega,⟨by omega,by omega,rfl,rfl⟩,by omega⟩
  ·have hc:cD pinned (keep.getD i.toNat 0)=true:=by simpa using hc
   rw [if_pos hc] at hT
   rw [hT] at he ⊢
   exact ⟨by omega,h0,by omega,by omega,by omega,⟨by omega,by omega,rfl,rfl⟩,by omega⟩
 ·have hge:¬ i<(keep.length:Int):=of_decide_eq_false hge
  simp only at h0 h1 h2
  rw [h2,show i.toNat=keep.length by omega]
  exact ⟨rfl,trivial⟩
theorem CY:GY.ok Tryz.prog 178:=aI (ann:=Hr) (ae C0 ap) Tryz.func178 (by kernel_rfl) EY
def DQ:Spec:={ Ts:=[.arr be,.arr ty_I,.arr ty_I],Rs:=[.own 3 ty_I,.dat ty_I],pre:=fun _=>True,F:=fun ((a,keep,pinned):List Int×List Int×List Int)=>((if (ai a keep pinned).2≠0 then [] else an keep (ai a keep pinned).1 pinned,(ai a keep pinned).2):List Int×Int) }
theorem fE:∀ {l:List Int},bv l=true→l.Pairwise (·<·)
 | [],_=>List.Pairwise.nil
 | [x],_=>by simp
 | x::y::l,h=>by
  simp only [bv,Bool.and_eq_true,decide_eq_true_eq] at h
  have ih:=fE h.2
  refine List.pairwise_cons.2 ⟨fun z hz=>?_,ih⟩
  rcases List.mem_cons.1 hz with rfl | hz
  ·exact h.1
  ·have:=(List.pairwise_cons.1 ih).1 z hz
   omega
theorem gR:∀ {l:List Int} {s:Int},l.Pairwise (·<·)→(∀ x∈l,s≤x∧x≤255)→s≤256→(l.length:Int)≤256 - s
 | [],s,_,_,h=>by simp; omega
 | x::l,s,hp,hr,_=>by
  obtain ⟨h1,h2⟩:=List.pairwise_cons.1 hp
  have h3:=hr x (by simp)
  have ih:=gR (s:=x+1) h2 (fun y hy=>by have:=h1 y hy; have:=hr y (by simp [hy]); omega) (by omega)
  simp only [List.length_cons]
  omega
theorem sL {a:List Int} {at_:Int} (h:isB (aa a).1 at_=true):∃ s∈(aa a).1,s.1=at_∧s.2.2.2.2=false∧ax (aa a).1 at_=ab s.2:=by
 unfold isB ax at *
 rcases fL at_ (aa a).1 with e | ⟨s,h1,h2,h3,e⟩
 ·rw [e] at h; cases h
 ·exact ⟨s,h1,h2,h3,by rw [e]⟩
theorem kL {a keep pinned:List Int} (h:(ai a keep pinned).2=0):(ao a).2.2=0∧bv keep=true∧bv pinned=true∧(∀ x∈keep,isB (aa a).1 x=true)∧(∀ x∈pinned,cD keep x=true)∧(ai a keep pinned).1=keep.map (ax (aa a).1):=by
 unfold ai at *
 by_cases h1:(ao a).2.2≠0
 ·rw [if_pos h1] at h; exact absurd h h1
 rw [if_neg h1] at h ⊢
 by_cases h2:(bv keep&&bv pinned)=false
 ·rw [if_pos h2] at h; simp at h
 rw [if_neg h2] at h ⊢
 by_cases h3:(keep.all (isB (aa a).1))=false
 ·rw [if_pos h3] at h; simp at h
 rw [if_neg h3] at h ⊢
 by_cases h4:(pinned.all (cD keep))=false
 ·rw [if_pos h4] at h; simp at h
 rw [if_neg h4]
 have h2:bv keep=true∧bv pinned=true:=by simpa using h2
 have h3:keep.all (isB (aa a).1)=true:=by simpa using h3
 have h4:pinned.all (cD keep)=true:=by simpa using h4
 exact ⟨by omega,h2.1,h2.2,fun x hx=>List.all_eq_true.1 h3 x hx,fun x hx=>List.all_eq_true.1 h4 x hx,rfl⟩
theorem lH {a keep pinned:List Int} (h:(ai a keep pinned).2=0):dm keep (ai a keep pinned).1:=by
 obtain ⟨_,h2,_,h4,_,h6⟩:=kL h
 have hr:∀ x∈keep,0≤x∧x≤255:=fun x hx=>by
  obtain ⟨s,h1,h2,_⟩:=sL (h4 x hx)
  have:=fP s h1
  omega
 have hl:=gR (fE h2) hr (by omega)
 refine ⟨by rw [h6]; simp,by omega,hr,fun n hn=>?_⟩
 rw [h6] at hn
 obtain ⟨x,hx,rfl⟩:=List.mem_map.1 hn
 obtain ⟨s,h1,_,_,e⟩:=sL (h4 x hx)
 have hz:=a8 (dc a s h1).2.2
 rw [e]
 unfold ab
 omega
def vq:Prop :=
  ∀ (x:List Int×List Int×List Int),((x.1.length * 8≤az∧∀ (x_1:Int),x_1∈x.1→ak IntKind.u64 x_1)∧(x.2.1.length * 8≤az∧∀ (x_1:Int),x_1∈x.2.1→ak IntKind.i64 x_1)∧x.2.2.length * 8≤az∧∀ (x_1:Int),x_1∈x.2.2→ak IntKind.i64 x_1)→True→True∧(decide ((ai x.1 x.2.1 x.2.2).2≠0)=true→(([]:List Int)=if (ai x.1 x.2.1 x.2.2).2≠0 then ([]:List Int) else an x.2.1 (ai x.1 x.2.1 x.2.2).1 x.2.2)∧(ai x.1 x.2.1 x.2.2).2=(ai x.1 x.2.1 x.2.2).2∧True)∧(decide ((ai x.1 x.2.1 x.2.2).2≠0)=false→dm x.2.1 (ai x.1 x.2.1 x.2.2).1∧(an x.2.1 (ai x.1 x.2.1 x.2.2).1 x.2.2=if (ai x.1 x.2.1 x.2.2).2≠0 then ([]:List Int) else an x.2.1 (ai x.1 x.2.1 x.2.2).1 x.2.2)∧0=(ai x.1 x.2.1 x.2.2).2∧True)
theorem Bb:vq:=by
 unfold vq
 intro ⟨a,keep,pinned⟩ _ _
 simp only
 refine ⟨trivial,fun hc=>?_,fun hc=>?_⟩
 ·rw [if_pos (of_decide_eq_true hc)]
  exact ⟨rfl,trivial,trivial⟩
 ·have hz:(ai a keep pinned).2=0:=by simpa using of_decide_eq_false hc
  rw [if_neg (by omega)]
  exact ⟨lH hz,rfl,hz.symm,trivial⟩
theorem Eh:DQ.ok Tryz.prog 161:=aI (ann:=cT) (ae zU (ae CY ap)) Tryz.func161 (by kernel_rfl) Bb
def eo (pinned keep long:List Int):Nat→List bK
 | 0=>[]
 | i+1=>eo pinned keep long i++(if aW pinned keep long i<cB pinned keep long i then [(aW pinned keep long i,cB pinned keep long i - aW pinned keep long i)] else [])
theorem gD (pinned keep long:List Int):∀ i,(eo pinned keep long i).length≤i
 | 0=>by simp [eo]
 | i+1=>by
  have:=gD pinned keep long i
  simp only [eo,List.length_append]
  split <;> simp <;> omega
def bI (n:Int) (keep long pinned:List Int):List bK:=eo pinned keep long keep.length++(if aW pinned keep long keep.length<n then [(aW pinned keep long keep.length,n - aW pinned keep long keep.length)] else [])
def bi (a keep pinned:List Int):List bK×Int:=(if (ai a keep pinned).2≠0 then [] else bI a.length keep (ai a keep pinned).1 pinned,(ai a keep pinned).2)
def AN:Nat→Option LoopGen
 | 3000179=>some gi
 | 8=>some { rd:=[.own 8 3 ty_I,.own 29 3 ty_I,.dat 1 (.arr ty_I),.dat 2 (.arr ty_I)],A:=fun ((long,to,keep,pinned):List Int×List Int×List Int×List Int)=>{ cs:=[.boxS 10 [.own 42 eP],.box 11 ty_I,.dat 31 ty_I],inv:=fun ((out,e,i):List bK×Int×Int)=>0≤i∧i≤keep.length∧to=an keep long pinned∧out=eo pinned keep long i.toNat∧e=aW pinned keep long i.toNat,mu:=fun ((_,_,i):List bK×Int×Int)=>(keep.length - i).toNat } }
 | _=>none
def yZ:Spec:={ Ts:=[.arr be,.arr ty_I,.arr ty_I],Rs:=[.own 42 eP,.dat ty_I],pre:=fun _=>True,F:=fun ((a,keep,pinned):List Int×List Int×List Int)=>bi a keep pinned }
def pQ:Prop :=
  ∀ (x:List Int×List Int×List Int),((x.1.length * 8≤az∧∀ (x_1:Int),x_1∈x.1→ak IntKind.u64 x_1)∧(x.2.1.length * 8≤az∧∀ (x_1:Int),x_1∈x.2.1→ak IntKind.i64 x_1)∧x.2.2.length * 8≤az∧∀ (x_1:Int),x_1∈x.2.2→ak IntKind.i64 x_1)→True→True∧(decide ((ai x.1 x.2.1 x.2.2).2≠0)=true→([]:List (Int×Int))=(bi x.1 x.2.1 x.2.2).1∧(ai x.1 x.2.1 x.2.2).2=(bi x.1 x.2.1 x.2.2).2∧True)∧(decide ((ai x.1 x.2.1 x.2.2).2≠0)=false→dm x.2.1 (ai x.1 x.2.1 x.2.2).1∧((0:Int)≤0∧0≤(↑x.2.1.length:Int)∧an x.2.1 (ai x.1 x.2.1 x.2.2).1 x.2.2=an x.2.1 (ai x.1 x.2.1 x.2.2).1 x.2.2∧([]:List (Int×Int))=eo x.2.2 x.2.1 (ai x.1 x.2.1 x.2.2).1 (Int.toNat 0)∧0=aW x.2.2 x.2.1 (ai x.1 x.2.1 x.2.2).1 (Int.toNat 0))∧∀ (x_1:List (Int×Int)×Int×Int),0≤x_1.2.2∧x_1.2.2≤(↑x.2.1.length:Int)∧an x.2.1 (ai x.1 x.2.1 x.2.2).1 x.2.2=an x.2.1 (ai x.1 x.2.1 x.2.2).1 x.2.2∧x_1.1=eo x.2.2 x.2.1 (ai x.1 x.2.1 x.2.2).1 x_1.2.2.toNat∧x_1.2.1=aW x.2.2 x.2.1 (ai x.1 x.2.1 x.2.2).1 x_1.2.2.toNat→(decide (x_1.2.2<(↑(an x.2.1 (ai x.1 x.2.1 x.2.2).1 x.2.2).length:Int))=true→0≤x_1.2.2∧x_1.2.2<(↑(an x.2.1 (ai x.1 x.2.1 x.2.2).1 x.2.2).length:Int)∧x_1.2.2.toNat<(an x.2.1 (ai x.1 x.2.1 x.2.2).1 x.2.2).length∧∀ (_:Array Value),(decide (x_1.2.1<(an x.2.1 (ai x.1 x.2.1 x.2.2).1 x.2.2).getD x_1.2.2.toNat 0)=true→ak IntKind.i64 ((an x.2.1 (ai x.1 x.2.1 x.2.2).1 x.2.2).getD x_1.2.2.toNat 0 - x_1.2.1)∧(x_1.1.length+[(x_1.2.1,(an x.2.1 (ai x.1 x.2.1 x.2.2).1 x.2.2).getD x_1.2.2.toNat 0 - x_1.2.1)].length) * (8+8)≤az∧0≤x_1.2.2∧x_1.2.2<(↑(ai x.1 x.2.1 x.2.2).1.length:Int)∧x_1.2.2.toNat<(ai x.1 x.2.1 x.2.2).1.length∧ak IntKind.i64 ((an x.2.1 (ai x.1 x.2.1 x.2.2).1 x.2.2).getD x_1.2.2.toNat 0+(ai x.1 x.2.1 x.2.2).1.getD x_1.2.2.toNat 0)∧ak IntKind.i64 (x_1.2.2+1)∧(0≤x_1.2.2+1∧x_1.2.2+1≤(↑x.2.1.length:Int)∧an x.2.1 (ai x.1 x.2.1 x.2.2).1 x.2.2=an x.2.1 (ai x.1 x.2.1 x.2.2).1 x.2.2∧x_1.1++[(x_1.2.1,(an x.2.1 (ai x.1 x.2.1 x.2.2).1 x.2.2).getD x_1.2.2.toNat 0 - x_1.2.1)]=eo x.2.2 x.2.1 (ai x.1 x.2.1 x.2.2).1 (x_1.2.2+1).toNat∧(an x.2.1 (ai x.1 x.2.1 x.2.2).1 x.2.2).getD x_1.2.2.toNat 0+(ai x.1 x.2.1 x.2.2).1.getD x_1.2.2.toNat 0=aW x.2.2 x.2.1 (ai x.1 x.2.1 x.2.2).1 (x_1.2.2+1).toNat)∧((↑x.2.1.length:Int) - (x_1.2.2+1)).toNat<((↑x.2.1.length:Int) - x_1.2.2).toNat)∧(decide (x_1.2.1<(an x.2.1 (ai x.1 x.2.1 x.2.2).1 x.2.2).getD x_1.2.2.toNat 0)=false→0≤x_1.2.2∧x_1.2.2<(↑(ai x.1 x.2.1 x.2.2).1.length:Int)∧x_1.2.2.toNat<(ai x.1 x.2.1 x.2.2).1.length∧ak IntKind.i64 ((an x.2.1 (ai x.1 x.2.1 x.2.2).1 x.2.2).getD x_1.2.2.toNat 0+(ai x.1 x.2.1 x.2.2).1.getD x_1.2.2.toNat 0)∧ak IntKind.i64 (x_1.2.2+1)∧(0≤x_1.2.2+1∧x_1.2.2+1≤(↑x.2.1.length:Int)∧an x.2.1 (ai x.1 x.2.1 x.2.2).1 x.2.2=an x.2.1 (ai x.1 x.2.1 x.2.2).1 x.2.2∧x_1.1=eo x.2.2 x.2.1 (ai x.1 x.2.1 x.2.2).1 (x_1.2.2+1).toNat∧(an x.2.1 (ai x.1 x.2.1 x.2.2).1 x.2.2).getD x_1.2.2.toNat 0+(ai x.1 x.2.1 x.2.2).1.getD x_1.2.2.toNat 0=aW x.2.2 x.2.1 (ai x.1 x.2.1 x.2.2).1 (x_1.2.2+1).toNat)∧((↑x.2.1.length:Int) - (x_1.2.2+1)).toNat<((↑x.2.1.length:Int) - x_1.2.2).toNat))∧(decide (x_1.2.2<(↑(an x.2.1 (ai x.1 x.2.1 x.2.2).1 x.2.2).length:Int))=false→∀ (_:Array Value),(decide (x_1.2.1<(↑x.1.length:Int))=true→ak IntKind.i64 ((↑x.1.length:Int) - x_1.2.1)∧(x_1.1.length+[(x_1.2.1,(↑x.1.length:Int) - x_1.2.1)].length) * (8+8)≤az∧x_1.1++[(x_1.2.1,(↑x.1.length:Int) - x_1.2.1)]=(bi x.1 x.2.1 x.2.2).1∧0=(bi x.1 x.2.1 x.2.2).2∧True)∧(decide (x_1.2.1<(↑x.1.length:Int))=false→x_1.1=(bi x.1 x.2.1 x.2.2).1∧0=(bi x.1 x.2.1 x.2.2).2∧True)))
theorem ww:pQ:=by
 unfold pQ
 intro ⟨a,keep,pinned⟩ ⟨⟨ha,_⟩,_⟩ _
 unfold az at ha
 simp only at ha ⊢
 have hF:bi a keep pinned=(if (ai a keep pinned).2≠0 then [] else bI a.length keep (ai a keep pinned).1 pinned,(ai a keep pinned).2):=rfl
 rw [hF]
 refine ⟨trivial,fun hc=>?_,fun hc=>?_⟩
 ·rw [if_pos (of_decide_eq_true hc)]
  exact ⟨rfl,rfl,trivial⟩
 have hz:(ai a keep pinned).2=0:=by simpa using of_decide_eq_false hc
 have hp:=lH hz
 rw [if_neg (by omega),hz]
 generalize (ai a keep pinned).1=long at *
 have hlen:(an keep long pinned).length=keep.length:=by simp [an]
 have hp':=hp
 obtain ⟨p1,p2,p3,p4⟩:=hp'
 rw [hlen]
 refine ⟨hp,⟨by omega,by omega,trivial,rfl,rfl⟩,fun ⟨out,e,i⟩ ⟨h0,h1,_,h2,h3⟩=>⟨fun hlt=>?_,fun hge=>?_⟩⟩
 ·have hlt':i<(keep.length:Int):=of_decide_eq_true hlt
  simp only at h0 h1 h2 h3 ⊢
  have ht:=jq pinned hp (i:=i.toNat) (by omega)
  have he:=bR pinned hp i.toNat (by omega)
  have he':=bR pinned hp (i.toNat+1) (by omega)
  have hE':aW pinned keep long (i.toNat+1)=cB pinned keep long i.toNat+long.getD i.toNat 0:=rfl
  have hg:(an keep long pinned).getD i.toNat 0=cB pinned keep long i.toNat:=by
   unfold an
   rw [List.getD_eq_getElem?_getD,List.getElem?_map,List.getElem?_range (by omega)]
   rfl
  have hl:=gD pinned keep long i.toNat
  rw [← h2] at hl
  have hs:(i+1).toNat=i.toNat+1:=by omega
  have hG:eo pinned keep long (i.toNat+1)=out++(if aW pinned keep long i.toNat<cB pinned keep long i.toNat then [(aW pinned keep long i.toNat,cB pinned keep long i.toNat - aW pinned keep long i.toNat)] else []):=by
   rw [h2]
   rfl
  rw [hg,hs,hG,hE',← h3]
  rw [hE'] at he'
  rw [← h3] at he
  unfold az
  simp only [ak,List.length_cons,List.length_nil]
  refine ⟨h0,hlt',by omega,fun _=>⟨fun hc=>?_,fun hc=>?_⟩⟩
  ·rw [if_pos (of_decide_eq_true hc)]
   exact ⟨by omega,by omega,h0,by omega,by omega,by omega,by omega,⟨by omega,by omega,trivial,rfl,trivial⟩,by omega⟩
  ·rw [if_neg (of_decide_eq_false hc),List.append_nil]
   exact ⟨h0,by omega,by omega,by omega,by omega,⟨by omega,by omega,trivial,rfl,trivial⟩,by omega⟩
 ·have hge:¬ i<(keep.length:Int):=of_decide_eq_false hge
  simp only at h0 h1 h2 h3 ⊢
  have hi:i.toNat=keep.length:=by omega
  rw [hi] at h2 h3
  have he:=bR pinned hp keep.length (by omega)
  have hl:=gD pinned keep long keep.length
  have hP:bI a.length keep long pinned=out++(if aW pinned keep long keep.length<a.length then [(aW pinned keep long keep.length,a.length - aW pinned keep long keep.length)] else []):=by
   rw [h2]
   rfl
  rw [← h2] at hl
  rw [hP,← h3]
  rw [← h3] at he
  unfold az
  simp only [ak,List.length_cons,List.length_nil]
  refine fun _=>⟨fun hc=>?_,fun hc=>?_⟩
  ·rw [if_pos (of_decide_eq_true hc)]
   exact ⟨by omega,by omega,rfl,trivial,trivial⟩
  ·rw [if_neg (of_decide_eq_false hc),List.append_nil]
   exact ⟨rfl,trivial,trivial⟩
theorem zP:yZ.ok Tryz.prog 162:=aI (ann:=AN) (ae zU (ae CY ap)) Tryz.func162 (by kernel_rfl) ww
theorem vT (a:List Int) (at_:Int):ac (ah at_ (aa a).1).1=0:=by
 rcases fL at_ (aa a).1 with e | ⟨s,h1,_,_,e⟩
 ·rw [e]; rfl
 ·rw [e]; exact (dc a s h1).2.2
def Cx:Nat→Option LoopGen
 | 3=>some { rd:=[.dat 0 (.arr be),.dat 13 (.arr ty_I),.dat 2 (.arr ty_I)],A:=fun ((a,keep,pinned):List Int×List Int×List Int)=>{ cs:=[.own 7 3 ty_I,.dat 15 ty_I],inv:=fun ((out,i):List Int×Int)=>0≤i∧i≤keep.length∧out=(List.range i.toNat).map (cB pinned keep (keep.map (ax (aa a).1))),mu:=fun ((_,i):List Int×Int)=>(keep.length - i).toNat } }
 | 9=>some { rd:=[.dat 0 (.arr be),.dat 1 (.arr ty_I),.dat 2 (.arr ty_I),.dat 8 ty_I],A:=fun ((a,keep,pinned,i):List Int×List Int×List Int×Int)=>{ cs:=[.dat 9 ty_I,.dat 10 ty_I],inv:=fun ((s,k):Int×Int)=>-1≤k∧k<i∧0≤s∧s+aW pinned keep (keep.map (ax (aa a).1)) (k+1).toNat=aW pinned keep (keep.map (ax (aa a).1)) i.toNat,mu:=fun ((_,k):Int×Int)=>(k+1).toNat } }
 | _=>none
def Bx:Spec:={ Ts:=[.arr be,.arr ty_I,.arr ty_I],Rs:=[.own 3 ty_I],pre:=fun ((a,keep,_):List Int×List Int×List Int)=>dm keep (keep.map (ax (aa a).1)),F:=fun ((a,keep,pinned):List Int×List Int×List Int)=>an keep (keep.map (ax (aa a).1)) pinned }
def rY:Prop :=
  ∀ (x:List Int×List Int×List Int),((x.1.length * 8≤az∧∀ (x_1:Int),x_1∈x.1→ak IntKind.u64 x_1)∧(x.2.1.length * 8≤az∧∀ (x_1:Int),x_1∈x.2.1→ak IntKind.i64 x_1)∧x.2.2.length * 8≤az∧∀ (x_1:Int),x_1∈x.2.2→ak IntKind.i64 x_1)→dm x.2.1 (List.map (ax (aa x.1).1) x.2.1)→((0:Int)≤0∧0≤(↑x.2.1.length:Int)∧([]:List Int)=List.map (cB x.2.2 x.2.1 (List.map (ax (aa x.1).1) x.2.1)) (List.range (Int.toNat 0)))∧∀ (x_1:List Int×Int),0≤x_1.2∧x_1.2≤(↑x.2.1.length:Int)∧x_1.1=List.map (cB x.2.2 x.2.1 (List.map (ax (aa x.1).1) x.2.1)) (List.range x_1.2.toNat)→(decide (x_1.2<(↑x.2.1.length:Int))=true→0≤x_1.2∧x_1.2<(↑x.2.1.length:Int)∧True∧(cD x.2.2 (x.2.1.getD x_1.2.toNat 0)=true→0≤x_1.2∧x_1.2<(↑x.2.1.length:Int)∧(x_1.1.length+[x.2.1.getD x_1.2.toNat 0].length) * 8≤az∧ak IntKind.i64 (x_1.2+1)∧(0≤x_1.2+1∧x_1.2+1≤(↑x.2.1.length:Int)∧x_1.1++[x.2.1.getD x_1.2.toNat 0]=List.map (cB x.2.2 x.2.1 (List.map (ax (aa x.1).1) x.2.1)) (List.range (x_1.2+1).toNat))∧((↑x.2.1.length:Int) - (x_1.2+1)).toNat<((↑x.2.1.length:Int) - x_1.2).toNat)∧(cD x.2.2 (x.2.1.getD x_1.2.toNat 0)=false→ak IntKind.i64 (x_1.2 - 1)∧((-1)≤x_1.2 - 1∧x_1.2 - 1<x_1.2∧(0:Int)≤0∧0+aW x.2.2 x.2.1 (List.map (ax (aa x.1).1) x.2.1) (x_1.2 - 1+1).toNat=aW x.2.2 x.2.1 (List.map (ax (aa x.1).1) x.2.1) x_1.2.toNat)∧∀ (x_2:Int×Int),(-1)≤x_2.2∧x_2.2<x_1.2∧0≤x_2.1∧x_2.1+aW x.2.2 x.2.1 (List.map (ax (aa x.1).1) x.2.1) (x_2.2+1).toNat=aW x.2.2 x.2.1 (List.map (ax (aa x.1).1) x.2.1) x_1.2.toNat→(decide (0≤x_2.2)=true→0≤x_2.2∧x_2.2<(↑x.2.1.length:Int)∧True∧(ak IntKind.i64 (1+(ah (x.2.1.getD x_2.2.toNat 0) (aa x.1).1).1.1)∧ak IntKind.i64 (1+(ah (x.2.1.getD x_2.2.toNat 0) (aa x.1).1).1.1+(ah (x.2.1.getD x_2.2.toNat 0) (aa x.1).1).1.2.1))∧ak IntKind.i64 (x_2.1+ab (ah (x.2.1.getD x_2.2.toNat 0) (aa x.1).1).1)∧0≤x_2.2∧x_2.2<(↑x.2.1.length:Int)∧True∧(cD x.2.2 (x.2.1.getD x_2.2.toNat 0)=true→0≤x_2.2∧x_2.2<(↑x.2.1.length:Int)∧ak IntKind.i64 (x_2.1+ab (ah (x.2.1.getD x_2.2.toNat 0) (aa x.1).1).1+x.2.1.getD x_2.2.toNat 0)∧(x_1.1.length+[x_2.1+ab (ah (x.2.1.getD x_2.2.toNat 0) (aa x.1).1).1+x.2.1.getD x_2.2.toNat 0].length) * 8≤az∧ak IntKind.i64 (x_1.2+1)∧(0≤x_1.2+1∧x_1.2+1≤(↑x.2.1.length:Int)∧x_1.1++[x_2.1+ab (ah (x.2.1.getD x_2.2.toNat 0) (aa x.1).1).1+x.2.1.getD x_2.2.toNat 0]=List.map (cB x.2.2 x.2.1 (List.map (ax (aa x.1).1) x.2.1)) (List.range (x_1.2+1).toNat))∧((↑x.2.1.length:Int) - (x_1.2+1)).toNat<((↑x.2.1.length:Int) - x_1.2).toNat)∧(cD x.2.2 (x.2.1.getD x_2.2.toNat 0)=false→ak IntKind.i64 (x_2.2 - 1)∧((-1)≤x_2.2 - 1∧x_2.2 - 1<x_1.2∧0≤x_2.1+ab (ah (x.2.1.getD x_2.2.toNat 0) (aa x.1).1).1∧x_2.1+ab (ah (x.2.1.getD x_2.2.toNat 0) (aa x.1).1).1+aW x.2.2 x.2.1 (List.map (ax (aa x.1).1) x.2.1) (x_2.2 - 1+1).toNat=aW x.2.2 x.2.1 (List.map (ax (aa x.1).1) x.2.1) x_1.2.toNat)∧(x_2.2 - 1+1).toNat<(x_2.2+1).toNat))∧(decide (0≤x_2.2)=false→(x_1.1.length+[x_2.1].length) * 8≤az∧ak IntKind.i64 (x_1.2+1)∧(0≤x_1.2+1∧x_1.2+1≤(↑x.2.1.length:Int)∧x_1.1++[x_2.1]=List.map (cB x.2.2 x.2.1 (List.map (ax (aa x.1).1) x.2.1)) (List.range (x_1.2+1).toNat))∧((↑x.2.1.length:Int) - (x_1.2+1)).toNat<((↑x.2.1.length:Int) - x_1.2).toNat)))∧(decide (x_1.2<(↑x.2.1.length:Int))=false→x_1.1=an x.2.1 (List.map (ax (aa x.1).1) x.2.1) x.2.2∧True)
theorem yz:rY:=by
 unfold rY
 intro ⟨a,keep,pinned⟩ _ hp
 have hp':=hp
 obtain ⟨p1,p2,p3,p4⟩:=hp'
 simp only at p1 p2 p3 p4 hp ⊢
 have hG:∀ k:Nat,k<keep.length→(keep.map (ax (aa a).1)).getD k 0=ab (ah (keep.getD k 0) (aa a).1).1:=by
  intro k hk
  rw [List.getD_eq_getElem?_getD,List.getElem?_map,List.getD_eq_getElem?_getD,List.getElem?_eq_getElem hk]
  rfl
 have hH:=fun x=>a8 (vT a x)
 have hrg:=fun i hi=>bR (i:=i) pinned hp hi
 have hE:∀ i:Nat,aW pinned keep (keep.map (ax (aa a).1)) (i+1)=cB pinned keep (keep.map (ax (aa a).1)) i+(keep.map (ax (aa a).1)).getD i 0:=fun _=>rfl
 have hT:∀ i:Nat,cB pinned keep (keep.map (ax (aa a).1)) i=if cD pinned (keep.getD i 0)=true then keep.getD i 0 else aW pinned keep (keep.map (ax (aa a).1)) i:=fun _=>rfl
 have hP:an keep (keep.map (ax (aa a).1)) pinned=(List.range keep.length).map (cB pinned keep (keep.map (ax (aa a).1))):=rfl
 rw [hP]
 clear hP
 generalize keep.map (ax (aa a).1)=long at *
 unfold az
 simp only [ak]
 refine ⟨⟨by omega,by omega,rfl⟩,fun ⟨out,i⟩ ⟨h0,h1,h2⟩=>⟨fun hlt=>?_,fun hge=>?_⟩⟩
 ·have hlt':i<(keep.length:Int):=of_decide_eq_true hlt
  simp only at h0 h1 h2 ⊢
  have hl:out.length=i.toNat:=by rw [h2]; simp
  have hs:(List.range (i+1).toNat).map (cB pinned keep long)=out++[cB pinned keep long i.toNat]:=by
   rw [show (i+1).toNat=i.toNat+1 by omega,List.range_succ,List.map_append,← h2]
   rfl
  have hri:=hrg i.toNat (by omega)
  rw [hs,hT]
  simp only [List.length_cons,List.length_nil]
  refine ⟨h0,hlt',trivial,fun hc=>?_,fun hc=>?_⟩
  ·rw [if_pos hc]
   exact ⟨h0,hlt',by omega,by omega,⟨by omega,by omega,rfl⟩,by omega⟩
  ·rw [if_neg (by rw [hc]; simp)]
   refine ⟨by omega,⟨by omega,by omega,by omega,by rw [show i - 1+1=i by omega]; omega⟩,fun ⟨s,k⟩ ⟨k0,k1,k2,k3⟩=>⟨fun hk=>?_,fun hk=>?_⟩⟩
   ·have hk:0≤k:=of_decide_eq_true hk
    simp only at k0 k1 k2 k3 ⊢
    have hh:=hH (keep.getD k.toNat 0)
    have hx:=p3 _ (aD (0:Int) (xs:=keep) (i:=k) hk (by omega))
    have hrk:=hrg (k+1).toNat (by omega)
    have hrk0:=hrg k.toNat (by omega)
    rw [show (k+1).toNat=k.toNat+1 by omega,hE,hT,hG k.toNat (by omega)] at k3 hrk
    have hLd:ab (ah (keep.getD k.toNat 0) (aa a).1).1=1+(ah (keep.getD k.toNat 0) (aa a).1).1.1+(ah (keep.getD k.toNat 0) (aa a).1).1.2.1:=rfl
    generalize ab (ah (keep.getD k.toNat 0) (aa a).1).1=n at *
    generalize (ah (keep.getD k.toNat 0) (aa a).1).1=hd at *
    rw [show k - 1+1=k by omega]
    refine ⟨hk,by omega,trivial,⟨by omega,by omega⟩,by omega,hk,by omega,trivial,fun hp1=>?_,fun hp1=>?_⟩
    ·rw [if_pos hp1] at k3 hrk
     refine ⟨hk,by omega,by omega,by omega,by omega,⟨by omega,by omega,?_⟩,by omega⟩
     rw [show s+n+keep.getD k.toNat 0=aW pinned keep long i.toNat by omega]
    ·rw [if_neg (by rw [hp1]; simp)] at k3 hrk
     exact ⟨by omega,⟨by omega,by omega,by omega,by omega⟩,by omega⟩
   ·have hk:¬ 0≤k:=of_decide_eq_false hk
    simp only at k0 k1 k2 k3 ⊢
    have e0:aW pinned keep long 0=0:=rfl
    rw [show (k+1).toNat=0 by omega,e0] at k3
    refine ⟨by omega,by omega,⟨by omega,by omega,?_⟩,by omega⟩
    rw [show s=aW pinned keep long i.toNat by omega]
 ·have hge:¬ i<(keep.length:Int):=of_decide_eq_false hge
  simp only at h0 h1 h2
  rw [h2,show i.toNat=keep.length by omega]
  exact ⟨rfl,trivial⟩
theorem mL:Bx.ok Tryz.prog 50:=aI (ann:=Cx) (ae so (ae gq (ae ga ap))) Tryz.func50 (by kernel_rfl) yz
def fO (l:List aw) (keep to:List Int) (k:Int):Bool:=(List.range keep.length).any fun i=>decide (to.getD i 0≤k)&&decide (k<to.getD i 0+ax l (keep.getD i 0))
def AO:Nat→Option LoopGen
 | 2=>some { rd:=[.dat 0 ty_I,.dat 10 (.arr ty_I),.dat 2 (.ref (.arr be)),.dat 3 (.ref (.arr ty_I))],A:=fun ((k,keep,a,to):Int×List Int×List Int×List Int)=>{ cs:=[.dat 12 ty_I],inv:=fun (i:Int)=>0≤i∧i≤keep.length∧((List.range i.toNat).any fun i=>decide (to.getD i 0≤k)&&decide (k<to.getD i 0+ax (aa a).1 (keep.getD i 0)))=false,mu:=fun (i:Int)=>(keep.length - i).toNat } }
 | _=>none
def y0:Spec:={ Ts:=[ty_I,.ref (.arr ty_I),.ref (.arr be),.ref (.arr ty_I)],Rs:=[.dat .bool],pre:=fun ((_,keep,_,to):Int×List Int×List Int×List Int)=>to.length=keep.length∧keep.length≤256∧∀ x∈to,0≤x∧x≤200000,F:=fun ((k,keep,a,to):Int×List Int×List Int×List Int)=>!fO (aa a).1 keep to k }
def pR:Prop :=
  ∀ (x:Int×List Int×List Int×List Int),(ak IntKind.i64 x.1∧(x.2.1.length * 8≤az∧∀ (x_1:Int),x_1∈x.2.1→ak IntKind.i64 x_1)∧(x.2.2.1.length * 8≤az∧∀ (x_1:Int),x_1∈x.2.2.1→ak IntKind.u64 x_1)∧x.2.2.2.length * 8≤az∧∀ (x_1:Int),x_1∈x.2.2.2→ak IntKind.i64 x_1)→(x.2.2.2.length=x.2.1.length∧x.2.1.length≤256∧∀ (x_1:Int),x_1∈x.2.2.2→0≤x_1∧x_1≤200000)→((0:Int)≤0∧0≤(↑x.2.1.length:Int)∧((List.range (Int.toNat 0)).any fun (i:Nat)=>decide (x.2.2.2.getD i 0≤x.1)&&decide (x.1<x.2.2.2.getD i 0+ax (aa x.2.2.1).1 (x.2.1.getD i 0)))=false)∧∀ (x_1:Int),0≤x_1∧x_1≤(↑x.2.1.length:Int)∧((List.range x_1.toNat).any fun (i:Nat)=>decide (x.2.2.2.getD i 0≤x.1)&&decide (x.1<x.2.2.2.getD i 0+ax (aa x.2.2.1).1 (x.2.1.getD i 0)))=false→(decide (x_1<(↑x.2.1.length:Int))=true→0≤x_1∧x_1<(↑x.2.1.length:Int)∧True∧0≤x_1∧x_1<(↑x.2.2.2.length:Int)∧(decide (x.2.2.2.getD x_1.toNat 0≤x.1)=true→0≤x_1)∧(decide (x.2.2.2.getD x_1.toNat 0≤x.1)=true→x_1<(↑x.2.2.2.length:Int))∧(decide (x.2.2.2.getD x_1.toNat 0≤x.1)=true→ak IntKind.i64 (1+(ah (x.2.1.getD x_1.toNat 0) (aa x.2.2.1).1).1.1)∧ak IntKind.i64 (1+(ah (x.2.1.getD x_1.toNat 0) (aa x.2.2.1).1).1.1+(ah (x.2.1.getD x_1.toNat 0) (aa x.2.2.1).1).1.2.1))∧(decide (x.2.2.2.getD x_1.toNat 0≤x.1)=true→ak IntKind.i64 (x.2.2.2.getD x_1.toNat 0+ab (ah (x.2.1.getD x_1.toNat 0) (aa x.2.2.1).1).1))∧((decide (x.2.2.2.getD x_1.toNat 0≤x.1)&&decide (x.1<x.2.2.2.getD x_1.toNat 0+ab (ah (x.2.1.getD x_1.toNat 0) (aa x.2.2.1).1).1))=true→false=!fO (aa x.2.2.1).1 x.2.1 x.2.2.2 x.1∧True)∧((decide (x.2.2.2.getD x_1.toNat 0≤x.1)&&decide (x.1<x.2.2.2.getD x_1.toNat 0+ab (ah (x.2.1.getD x_1.toNat 0) (aa x.2.2.1).1).1))=false→ak IntKind.i64 (x_1+1)∧(0≤x_1+1∧x_1+1≤(↑x.2.1.length:Int)∧((List.range (x_1+1).toNat).any fun (i:Nat)=>decide (x.2.2.2.getD i 0≤x.1)&&decide (x.1<x.2.2.2.getD i 0+ax (aa x.2.2.1).1 (x.2.1.getD i 0)))=false)∧((↑x.2.1.length:Int) - (x_1+1)).toNat<((↑x.2.1.length:Int) - x_1).toNat))∧(decide (x_1<(↑x.2.1.length:Int))=false→true=!fO (aa x.2.2.1).1 x.2.1 x.2.2.2 x.1∧True)
theorem wx:pR:=by
 unfold pR
 intro ⟨k,keep,a,to⟩ _ ⟨p1,p2,p3⟩
 simp only at p1 p2 p3 ⊢
 have hC:fO (aa a).1 keep to k=(List.range keep.length).any fun i=>decide (to.getD i 0≤k)&&decide (k<to.getD i 0+ax (aa a).1 (keep.getD i 0)):=rfl
 rw [hC]
 generalize hf:(fun i:Nat=>decide (to.getD i 0≤k)&&decide (k<to.getD i 0+ax (aa a).1 (keep.getD i 0)))=f
 simp only [ak]
 refine ⟨⟨by omega,by omega,rfl⟩,fun i ⟨h0,h1,h2⟩=>⟨fun hlt=>?_,fun hge=>?_⟩⟩
 ·have hlt:i<(keep.length:Int):=of_decide_eq_true hlt
  have hh:=a8 (vT a (keep.getD i.toNat 0))
  have hx:=p3 _ (aD (0:Int) (xs:=to) h0 (by omega))
  have hfi:f i.toNat=(decide (to.getD i.toNat 0≤k)&&decide (k<to.getD i.toNat 0+ab (ah (keep.getD i.toNat 0) (aa a).1).1)):=by rw [← hf]; rfl
  have hLd:ab (ah (keep.getD i.toNat 0) (aa a).1).1=1+(ah (keep.getD i.toNat 0) (aa a).1).1.1+(ah (keep.getD i.toNat 0) (aa a).1).1.2.1:=rfl
  rw [← hfi]
  refine ⟨h0,hlt,trivial,h0,by omega,fun _=>h0,fun _=>by omega,fun _=>⟨by omega,by omega⟩,fun _=>by omega,fun hc=>?_,fun hc=>⟨by omega,⟨by omega,by omega,?_⟩,by omega⟩⟩
  ·have:(List.range keep.length).any f=true:=List.any_eq_true.2 ⟨i.toNat,List.mem_range.2 (by omega),hc⟩
   rw [this]
   exact ⟨rfl,trivial⟩
  ·rw [show (i+1).toNat=i.toNat+1 by omega,List.range_succ,List.any_append,h2]
   simpa using hc
 ·have hge:¬ i<(keep.length:Int):=of_decide_eq_false hge
  rw [show keep.length=i.toNat by omega,h2]
  exact ⟨rfl,trivial⟩
theorem zQ:y0.ok Tryz.prog 123:=aI (ann:=AO) (ae gq (ae ga ap)) Tryz.func123 (by kernel_rfl) wx
def wV:Spec:={ Ts:=[.arr be,.arr ty_I,.arr ty_I],Rs:=[.own 42 eP],pre:=fun ((a,keep,_):List Int×List Int×List Int)=>a.length≤256∧dm keep (keep.map (ax (aa a).1)),F:=fun ((a,keep,pinned):List Int×List Int×List Int)=>bb (fun k=>!fO (aa a).1 keep (an keep (keep.map (ax (aa a).1)) pinned) k) a.length 0 [] }
def nD:Prop :=
  ∀ (x:List Int×List Int×List Int),((x.1.length * 8≤az∧∀ (x_1:Int),x_1∈x.1→ak IntKind.u64 x_1)∧(x.2.1.length * 8≤az∧∀ (x_1:Int),x_1∈x.2.1→ak IntKind.i64 x_1)∧x.2.2.length * 8≤az∧∀ (x_1:Int),x_1∈x.2.2→ak IntKind.i64 x_1)→x.1.length≤256∧dm x.2.1 (List.map (ax (aa x.1).1) x.2.1)→dm x.2.1 (List.map (ax (aa x.1).1) x.2.1)∧(0≤(↑x.1.length:Int)∧(↑x.1.length:Int)≤300∧∀ (i:Int),0≤i→i<(↑x.1.length:Int)→(fun (x_1:Int)=>(an x.2.1 (List.map (ax (aa x.1).1) x.2.1) x.2.2).length=x.2.1.length∧x.2.1.length≤256∧∀ (x_2:Int),x_2∈an x.2.1 (List.map (ax (aa x.1).1) x.2.1) x.2.2→0≤x_2∧x_2≤200000,fun (x_1:Int)=>!fO (aa x.1).1 x.2.1 (an x.2.1 (List.map (ax (aa x.1).1) x.2.1) x.2.2) x_1).1 i)∧bb (fun (x_1:Int)=>!fO (aa x.1).1 x.2.1 (an x.2.1 (List.map (ax (aa x.1).1) x.2.1) x.2.2) x_1) (↑x.1.length:Int).toNat 0 ([]:List bK)=bb (fun (k:Int)=>!fO (aa x.1).1 x.2.1 (an x.2.1 (List.map (ax (aa x.1).1) x.2.1) x.2.2) k) x.1.length 0 ([]:List bK)∧True
theorem tI:nD:=by
 unfold nD
 intro ⟨a,keep,pinned⟩ _ ⟨hal,hp⟩
 simp only at hal hp ⊢
 refine ⟨hp,⟨by omega,by omega,fun _ _ _=>⟨by simp [an],hp.2.1,fun x hx=>?_⟩⟩,rfl,trivial⟩
 unfold an at hx
 obtain ⟨i,hi,rfl⟩:=List.mem_map.1 hx
 have hi:=List.mem_range.1 hi
 have:=jq pinned hp hi
 have:=hp.2.1
 omega
theorem xz:wV.ok Tryz.prog 88:=aI (ann:=cT) (ae mL (ae zQ (ae zM ap))) Tryz.func88 (by kernel_rfl) tI
end Go.Proofs.YtglchojglcobjaaGreat
