
import Derived.Test.YtcnoiiohmpgckaaReach
namespace Go.Proofs.Ytcnoiiohmpgckaa
open Go
set_option maxRecDepth 100000
set_option maxHeartbeats 1000000
theorem vS {l:List Int} {x:Int} (h:(!bf l x)=true):¬ x∈l:=fun hx=>by rw [dg.2 hx] at h; cases h
theorem vR {l:List Int} {x:Int} (h:(!bf l x)=false):x∈l:=dg.1 (by cases hx:bf l x <;> simp_all)
theorem qY {a:List Int} (hw:∀ x∈a,ah .u64 x) (hc:(ar a).2.2=0) {x:Int} (hx:isB (aa a).1 x=true) {y:Int}:(y∈ap a x (ac x (aa a).1).1∧0≤y) ↔ y∈bc a x:=by
 have e:ap a x (ac x (aa a).1).1=(d5 a x).map nameOf:=rfl
 rw [e]
 unfold bc
 have hr:=eZ hw hc _ (io hx).1
 simp only [List.mem_map,List.mem_filter,decide_eq_true_eq]
 constructor
 ·rintro ⟨⟨v,hv,rfl⟩,h0⟩
  rcases hr v hv with rfl | ⟨h1,h2,_⟩
  ·simp [nameOf] at h0
  ·exact ⟨v,⟨hv,by omega⟩,by unfold nameOf; rw [if_neg (by omega)]⟩
 ·rintro ⟨v,⟨hv,h0⟩,rfl⟩
  rcases hr v hv with e | ⟨h1,h2,_⟩
  ·exact absurd e h0
  ·exact ⟨⟨v,hv,by unfold nameOf; rw [if_neg (by omega)]⟩,by omega⟩
structure InReach (a f l:List Int):Prop where
 has:∀ x∈f,x∈l
 only:∀ x∈l,Rch a f x
 len:l.length+rq f≤f.length+rq l
def aT (m:List (Int×dj)):List aJ→List (Int×dj)
 | []=>m
 | s::l=>aT (if s.2.2.2.2=true then m else dI m s.1 s.2) l
def a6 (l:List aJ):List (Int×dj):=aT [] l
theorem gt (x:Int):∀ (l:List aJ) (m:List (Int×dj)),l.Pairwise (fun s t=>s.1<t.1)→aw (aT m l) x=if isB l x=true then some (ac x l).1 else aw m x
 | [],m,_=>rfl
 | s::l,m,h=>by
  obtain ⟨h1,h2⟩:=List.pairwise_cons.1 h
  have e0:aT m (s::l)=aT (if s.2.2.2.2=true then m else dI m s.1 s.2) l:=rfl
  rw [e0,gt x l _ h2]
  by_cases hx:s.1=x∧s.2.2.2.2=false
  ·have e1:ac x (s::l)=(s.2,true):=if_pos hx
   have e2:isB (s::l) x=true:=by unfold isB; rw [e1]
   have hn:¬ isB l x=true:=by
    rw [← d8,dg]
    intro hm
    have:∃ t∈l,t.1=x:=by
     clear h h2 hx e0 e1 e2
     induction l with
     | nil=>cases hm
     | cons t l ih =>
      simp only [ab] at hm
      split at hm
      ·obtain ⟨u,hu,e⟩:=ih (fun y hy=>h1 y (by simp [hy])) hm
       exact ⟨u,by simp [hu],e⟩
      ·rcases List.mem_cons.1 hm with hm | hm
       ·exact ⟨t,by simp,hm.symm⟩
       ·obtain ⟨u,hu,e⟩:=ih (fun y hy=>h1 y (by simp [hy])) hm
        exact ⟨u,by simp [hu],e⟩
    obtain ⟨t,ht,e⟩:=this
    have:=h1 t ht
    omega
   rw [if_neg hn,if_pos e2,e1,if_neg (by rw [hx.2]; simp),eP,if_pos hx.1.symm]
  ·have e1:ac x (s::l)=ac x l:=if_neg hx
   have e2:isB (s::l) x=isB l x:=by unfold isB; rw [e1]
   rw [e2,e1]
   by_cases hb:isB l x=true
   ·rw [if_pos hb,if_pos hb]
   ·rw [if_neg hb,if_neg hb]
    by_cases hf:s.2.2.2.2=true
    ·rw [if_pos hf]
    ·rw [if_neg hf,eP,if_neg (fun e=>hx ⟨e.symm,by simpa using hf⟩)]
theorem nj {l:List aJ} (h:l.Pairwise (fun s t=>s.1<t.1)) (x:Int):aw (a6 l) x=if isB l x=true then some (ac x l).1 else none:=gt x l [] h
theorem gy:∀ (l k:List aJ),ab (l++k)=ab l++ab k
 | [],_=>rfl
 | s::l,k=>by
  have:=gy l k
  simp only [List.cons_append,ab,this]
  split <;> simp
structure Seen (m:List (Int×Bool)) (o:List Int):Prop where
 nodup:o.Nodup
 is:∀ x,(aw m x).getD false=bf o x
theorem Seen.new:Seen [] []:=⟨List.nodup_nil,fun _=>rfl⟩
theorem Seen.add {m:List (Int×Bool)} {o:List Int} {x:Int} (h:Seen m o) (hn:(!(aw m x).getD false)=true):Seen (dI m x true) (o++[x]):=by
 rw [h.is] at hn
 refine ⟨?_,fun y=>?_⟩
 ·rw [List.nodup_append]
  exact ⟨h.nodup,by simp,fun y hy z hz=>by rw [List.mem_singleton.1 hz]; rintro rfl; exact vS hn hy⟩
 ·rw [eP]
  by_cases hy:y=x
  ·subst hy
   rw [if_pos rfl]
   exact (dg.2 (by simp)).symm
  ·rw [if_neg hy,h.is]
   unfold bf
   rw [List.any_append]
   simp [Ne.symm hy]
theorem Seen.mem {m:List (Int×Bool)} {o:List Int} {x:Int} (h:Seen m o) (hn:(!(aw m x).getD false)=false):x∈o:=by
 rw [h.is] at hn
 exact vR hn
theorem gc {o:List Int} (hd:o.Nodup) (hr:∀ x∈o,0≤x∧x≤255):o.length≤256:=by
 have h1:=eX o
 have h2:(br o).Nodup:=(List.mergeSort_perm o _).nodup_iff.2 hd
 have h3:(br o).Pairwise (·<·):=(h1.and h2).imp (fun ⟨x,y⟩=>by omega)
 have h4:=fq (s:=0) h3 (fun x hx=>hr x (iT.1 hx)) (by omega)
 rw [nU] at h4
 omega
def ut:LoopGen:={ rd:=[.own 30 158 cJ,.dat 0 (.arr bZ)],A:=fun ((l,a):List aJ×List Int)=>{ cs:=[.boxS 24 [.dat (.arr bZ),.mpc 22,.own 3 ty_I],.map 22 .i64 bS,.dat 32 ty_I],inv:=fun ((b,m,i):(List Int×Unit×List Int)×List (Int×dj)×Int)=>0≤i∧i≤l.length∧b.1=a∧b.2.2=ab (l.take i.toNat)∧aT m (l.drop i.toNat)=a6 l,mu:=fun ((_,_,i):(List Int×Unit×List Int)×List (Int×dj)×Int)=>(l.length - i).toNat } }
def us:LoopGen:={ rd:=[.dat 60 (.arr ty_I),.map 22 .i64 bS],A:=fun ((f,m):List Int×List (Int×dj))=>{ cs:=[.dat 62 ty_I],inv:=fun (i:Int)=>0≤i∧i≤f.length∧((f.drop i.toNat).all fun x=>(aw m x).isSome)=(f.all fun x=>(aw m x).isSome),mu:=fun (i:Int)=>(f.length - i).toNat } }
def un:Nat→Option LoopGen
 | 3000089=>some uq
 | 3000091=>some uq
 | 3000090=>some uq
 | 9000000007=>some ut
 | 9000000014=>some us
 | 8=>some { rd:=[.dat 25 (.arr ty_I)],A:=fun (f:List Int)=>{ cs:=[.map 23 .i64 .bool,.boxS 9 [.own 3 ty_I],.dat 27 ty_I],inv:=fun ((m,o,i):List (Int×Bool)×List Int×Int)=>0≤i∧i≤f.length∧Seen m o∧(∀ x∈f.take i.toNat,x∈o)∧(∀ x∈o,x∈f),mu:=fun ((_,_,i):List (Int×Bool)×List Int×Int)=>(f.length - i).toNat } }
 | 13=>some { rd:=[.dat 0 (.arr bZ),.dat 1 (.arr ty_I)],A:=fun ((a,f):List Int×List Int)=>{ cs:=[.map 23 .i64 .bool,.boxS 9 [.own 3 ty_I],.dat 13 ty_I],inv:=fun ((m,o,i):List (Int×Bool)×List Int×Int)=>0≤i∧i≤o.length∧Seen m o∧(∀ x∈f,x∈o)∧(∀ x∈o,Rch a f x)∧(∀ x∈o.take i.toNat,∀ y∈bc a x,y∈o),mu:=fun ((_,_,i):List (Int×Bool)×List Int×Int)=>(256 - i).toNat } }
 | 9200000001=>some { rd:=[.dat 24 (.arr bZ),.boxS 9900000 [.own 3 ty_I]],A:=fun ((rs,o0):List Int×List Int)=>{ cs:=[.map 23900000 .i64 .bool,.boxS 9900000 [.own 3 ty_I],.dat 26 ty_I],inv:=fun ((m,o,j):List (Int×Bool)×List Int×Int)=>0≤j∧j≤rs.length∧Seen m o∧(∃ k,o=o0++k∧∀ x∈k,x+1∈rs∧x+1≠0)∧(∀ v∈rs.take j.toNat,v≠0→v - 1∈o),mu:=fun ((_,_,j):List (Int×Bool)×List Int×Int)=>(rs.length - j).toNat } }
 | _=>none
def tt:Spec:={ Ts:=[.arr bZ,.arr ty_I],Rs:=[.own 3 ty_I,.dat ty_I],pre:=fun _=>True,F:=fun ((a,f):List Int×List Int)=>bj a f }
def py:Prop :=
  ∀ (x:List Int×List Int),((x.1.length * 8≤aE∧∀ (x_1:Int),x_1∈x.1→ah .u64 x_1)∧x.2.length * 8≤aE∧∀ (x_1:Int),x_1∈x.2→ah .i64 x_1)→True→∀ (_:Array Value),True∧(decide ((ar x.1).2.2≠0)=true→(decide ((ar x.1).2.2≠0)=true→([]:List Int)=(bj x.1 x.2).1∧(ar x.1).2.2=(bj x.1 x.2).2∧True)∧(decide ((ar x.1).2.2≠0)=false→((0:Int)≤0∧0≤(↑x.2.length:Int)∧Seen ([]:List (Int×Bool)) ([]:List Int)∧(∀ (x_1:Int),x_1∈List.take (Int.toNat 0) x.2→x_1∈([]:List Int))∧∀ (x_1:Int),x_1∈([]:List Int)→x_1∈x.2)∧∀ (x_1:List (Int×Bool)×List Int×Int),(0≤x_1.2.2∧x_1.2.2≤(↑x.2.length:Int)∧Seen x_1.1 x_1.2.1∧(∀ (x_2:Int),x_2∈List.take x_1.2.2.toNat x.2→x_2∈x_1.2.1)∧∀ (x_2:Int),x_2∈x_1.2.1→x_2∈x.2)→(decide (x_1.2.2<(↑x.2.length:Int))=true→0≤x_1.2.2∧x_1.2.2<(↑x.2.length:Int)∧∀ (_:Array Value),((!(aw x_1.1 (x.2.getD x_1.2.2.toNat 0)).getD false)=true→(x_1.2.1.length+[x.2.getD x_1.2.2.toNat 0].length) * 8≤aE∧ah .i64 (x_1.2.2+1)∧(0≤x_1.2.2+1∧x_1.2.2+1≤(↑x.2.length:Int)∧Seen (dI x_1.1 (x.2.getD x_1.2.2.toNat 0) true) (x_1.2.1++[x.2.getD x_1.2.2.toNat 0])∧(∀ (x_2:Int),x_2∈List.take (x_1.2.2+1).toNat x.2→x_2∈x_1.2.1++[x.2.getD x_1.2.2.toNat 0])∧∀ (x_2:Int),x_2∈x_1.2.1++[x.2.getD x_1.2.2.toNat 0]→x_2∈x.2)∧((↑x.2.length:Int) - (x_1.2.2+1)).toNat<((↑x.2.length:Int) - x_1.2.2).toNat)∧((!(aw x_1.1 (x.2.getD x_1.2.2.toNat 0)).getD false)=false→ah .i64 (x_1.2.2+1)∧(0≤x_1.2.2+1∧x_1.2.2+1≤(↑x.2.length:Int)∧Seen x_1.1 x_1.2.1∧(∀ (x_2:Int),x_2∈List.take (x_1.2.2+1).toNat x.2→x_2∈x_1.2.1)∧∀ (x_2:Int),x_2∈x_1.2.1→x_2∈x.2)∧((↑x.2.length:Int) - (x_1.2.2+1)).toNat<((↑x.2.length:Int) - x_1.2.2).toNat))∧(decide (x_1.2.2<(↑x.2.length:Int))=false→((0:Int)≤0∧0≤(↑x_1.2.1.length:Int)∧Seen x_1.1 x_1.2.1∧(∀ (x_2:Int),x_2∈x.2→x_2∈x_1.2.1)∧(∀ (x_2:Int),x_2∈x_1.2.1→Rch x.1 x.2 x_2)∧∀ (x_2:Int),x_2∈List.take (Int.toNat 0) x_1.2.1→∀ (y:Int),y∈bc x.1 x_2→y∈x_1.2.1)∧∀ (x_2:List (Int×Bool)×List Int×Int),(0≤x_2.2.2∧x_2.2.2≤(↑x_2.2.1.length:Int)∧Seen x_2.1 x_2.2.1∧(∀ (x_3:Int),x_3∈x.2→x_3∈x_2.2.1)∧(∀ (x_3:Int),x_3∈x_2.2.1→Rch x.1 x.2 x_3)∧∀ (x_3:Int),x_3∈List.take x_2.2.2.toNat x_2.2.1→∀ (y:Int),y∈bc x.1 x_3→y∈x_2.2.1)→(decide (x_2.2.2<(↑x_2.2.1.length:Int))=true→0≤x_2.2.2∧x_2.2.2<(↑x_2.2.1.length:Int)∧x_2.2.2.toNat<x_2.2.1.length∧∀ (_:Array Value),False)∧(decide (x_2.2.2<(↑x_2.2.1.length:Int))=false→True∧br x_2.2.1=(bj x.1 x.2).1∧0=(bj x.1 x.2).2∧True))))∧(decide ((ar x.1).2.2≠0)=false→True∧((0:Int)≤0∧0≤(↑(aa x.1).1.length:Int)∧x.1=x.1∧((),([]:List Int)).2=ab (List.take (Int.toNat 0) (aa x.1).1)∧aT ([]:List (Int×Int×Int×Int×Bool)) (List.drop (Int.toNat 0) (aa x.1).1)=a6 (aa x.1).1)∧∀ (x_1:(List Int×Unit×List Int)×List (Int×Int×Int×Int×Bool)×Int),0≤x_1.2.2∧x_1.2.2≤(↑(aa x.1).1.length:Int)∧x_1.1.1=x.1∧x_1.1.2.2=ab (List.take x_1.2.2.toNat (aa x.1).1)∧aT x_1.2.1 (List.drop x_1.2.2.toNat (aa x.1).1)=a6 (aa x.1).1→(decide (x_1.2.2<(↑(aa x.1).1.length:Int))=true→0≤x_1.2.2∧x_1.2.2<(↑(aa x.1).1.length:Int)∧x_1.2.2.toNat<(aa x.1).1.length∧((!((aa x.1).1.getD x_1.2.2.toNat (0,0,0,0,false)).2.2.2.2)=true→(x_1.1.2.2.length+[((aa x.1).1.getD x_1.2.2.toNat (0,0,0,0,false)).1].length) * 8≤aE∧ah .i64 (x_1.2.2+1)∧(0≤x_1.2.2+1∧x_1.2.2+1≤(↑(aa x.1).1.length:Int)∧x_1.1.1=x.1∧((),x_1.1.2.2++[((aa x.1).1.getD x_1.2.2.toNat (0,0,0,0,false)).1]).2=ab (List.take (x_1.2.2+1).toNat (aa x.1).1)∧aT (dI x_1.2.1 ((aa x.1).1.getD x_1.2.2.toNat (0,0,0,0,false)).1 ((aa x.1).1.getD x_1.2.2.toNat (0,0,0,0,false)).2) (List.drop (x_1.2.2+1).toNat (aa x.1).1)=a6 (aa x.1).1)∧((↑(aa x.1).1.length:Int) - (x_1.2.2+1)).toNat<((↑(aa x.1).1.length:Int) - x_1.2.2).toNat)∧((!((aa x.1).1.getD x_1.2.2.toNat (0,0,0,0,false)).2.2.2.2)=false→ah .i64 (x_1.2.2+1)∧(0≤x_1.2.2+1∧x_1.2.2+1≤(↑(aa x.1).1.length:Int)∧x_1.1.1=x.1∧((),x_1.1.2.2).2=ab (List.take (x_1.2.2+1).toNat (aa x.1).1)∧aT x_1.2.1 (List.drop (x_1.2.2+1).toNat (aa x.1).1)=a6 (aa x.1).1)∧((↑(aa x.1).1.length:Int) - (x_1.2.2+1)).toNat<((↑(aa x.1).1.length:Int) - x_1.2.2).toNat))∧(decide (x_1.2.2<(↑(aa x.1).1.length:Int))=false→((0:Int)≤0∧0≤(↑x.2.length:Int)∧((List.drop (Int.toNat 0) x.2).all fun (x:Int)=>(aw x_1.2.1 x).isSome)=x.2.all fun (x:Int)=>(aw x_1.2.1 x).isSome)∧∀ (x_2:Int),(0≤x_2∧x_2≤(↑x.2.length:Int)∧((List.drop x_2.toNat x.2).all fun (x:Int)=>(aw x_1.2.1 x).isSome)=x.2.all fun (x:Int)=>(aw x_1.2.1 x).isSome)→(decide (x_2<(↑x.2.length:Int))=true→0≤x_2∧x_2<(↑x.2.length:Int)∧((!(aw x_1.2.1 (x.2.getD x_2.toNat 0)).isSome)=true→(decide ((5:Int)≠0)=true→([]:List Int)=(bj x.1 x.2).1∧5=(bj x.1 x.2).2∧True)∧(decide ((5:Int)≠0)=false→((0:Int)≤0∧0≤(↑x.2.length:Int)∧Seen ([]:List (Int×Bool)) ([]:List Int)∧(∀ (x_3:Int),x_3∈List.take (Int.toNat 0) x.2→x_3∈([]:List Int))∧∀ (x_3:Int),x_3∈([]:List Int)→x_3∈x.2)∧∀ (x_3:List (Int×Bool)×List Int×Int),(0≤x_3.2.2∧x_3.2.2≤(↑x.2.length:Int)∧Seen x_3.1 x_3.2.1∧(∀ (x_4:Int),x_4∈List.take x_3.2.2.toNat x.2→x_4∈x_3.2.1)∧∀ (x_4:Int),x_4∈x_3.2.1→x_4∈x.2)→(decide (x_3.2.2<(↑x.2.length:Int))=true→0≤x_3.2.2∧x_3.2.2<(↑x.2.length:Int)∧∀ (_:Array Value),((!(aw x_3.1 (x.2.getD x_3.2.2.toNat 0)).getD false)=true→(x_3.2.1.length+[x.2.getD x_3.2.2.toNat 0].length) * 8≤aE∧ah .i64 (x_3.2.2+1)∧(0≤x_3.2.2+1∧x_3.2.2+1≤(↑x.2.length:Int)∧Seen (dI x_3.1 (x.2.getD x_3.2.2.toNat 0) true) (x_3.2.1++[x.2.getD x_3.2.2.toNat 0])∧(∀ (x_4:Int),x_4∈List.take (x_3.2.2+1).toNat x.2→x_4∈x_3.2.1++[x.2.getD x_3.2.2.toNat 0])∧∀ (x_4:Int),x_4∈x_3.2.1++[x.2.getD x_3.2.2.toNat 0]→x_4∈x.2)∧((↑x.2.length:Int) - (x_3.2.2+1)).toNat<((↑x.2.length:Int) - x_3.2.2).toNat)∧((!(aw x_3.1 (x.2.getD x_3.2.2.toNat 0)).getD false)=false→ah .i64 (x_3.2.2+1)∧(0≤x_3.2.2+1∧x_3.2.2+1≤(↑x.2.length:Int)∧Seen x_3.1 x_3.2.1∧(∀ (x_4:Int),x_4∈List.take (x_3.2.2+1).toNat x.2→x_4∈x_3.2.1)∧∀ (x_4:Int),x_4∈x_3.2.1→x_4∈x.2)∧((↑x.2.length:Int) - (x_3.2.2+1)).toNat<((↑x.2.length:Int) - x_3.2.2).toNat))∧(decide (x_3.2.2<(↑x.2.length:Int))=false→((0:Int)≤0∧0≤(↑x_3.2.1.length:Int)∧Seen x_3.1 x_3.2.1∧(∀ (x_4:Int),x_4∈x.2→x_4∈x_3.2.1)∧(∀ (x_4:Int),x_4∈x_3.2.1→Rch x.1 x.2 x_4)∧∀ (x_4:Int),x_4∈List.take (Int.toNat 0) x_3.2.1→∀ (y:Int),y∈bc x.1 x_4→y∈x_3.2.1)∧∀ (x_4:List (Int×Bool)×List Int×Int),(0≤x_4.2.2∧x_4.2.2≤(↑x_4.2.1.length:Int)∧Seen x_4.1 x_4.2.1∧(∀ (x_5:Int),x_5∈x.2→x_5∈x_4.2.1)∧(∀ (x_5:Int),x_5∈x_4.2.1→Rch x.1 x.2 x_5)∧∀ (x_5:Int),x_5∈List.take x_4.2.2.toNat x_4.2.1→∀ (y:Int),y∈bc x.1 x_5→y∈x_4.2.1)→(decide (x_4.2.2<(↑x_4.2.1.length:Int))=true→0≤x_4.2.2∧x_4.2.2<(↑x_4.2.1.length:Int)∧x_4.2.2.toNat<x_4.2.1.length∧∀ (_:Array Value),False)∧(decide (x_4.2.2<(↑x_4.2.1.length:Int))=false→True∧br x_4.2.1=(bj x.1 x.2).1∧0=(bj x.1 x.2).2∧True))))∧((!(aw x_1.2.1 (x.2.getD x_2.toNat 0)).isSome)=false→ah .i64 (x_2+1)∧(0≤x_2+1∧x_2+1≤(↑x.2.length:Int)∧((List.drop (x_2+1).toNat x.2).all fun (x:Int)=>(aw x_1.2.1 x).isSome)=x.2.all fun (x:Int)=>(aw x_1.2.1 x).isSome)∧((↑x.2.length:Int) - (x_2+1)).toNat<((↑x.2.length:Int) - x_2).toNat))∧(decide (x_2<(↑x.2.length:Int))=false→(decide ((0:Int)≠0)=true→([]:List Int)=(bj x.1 x.2).1∧0=(bj x.1 x.2).2∧True)∧(decide ((0:Int)≠0)=false→((0:Int)≤0∧0≤(↑x.2.length:Int)∧Seen ([]:List (Int×Bool)) ([]:List Int)∧(∀ (x_3:Int),x_3∈List.take (Int.toNat 0) x.2→x_3∈([]:List Int))∧∀ (x_3:Int),x_3∈([]:List Int)→x_3∈x.2)∧∀ (x_3:List (Int×Bool)×List Int×Int),(0≤x_3.2.2∧x_3.2.2≤(↑x.2.length:Int)∧Seen x_3.1 x_3.2.1∧(∀ (x_4:Int),x_4∈List.take x_3.2.2.toNat x.2→x_4∈x_3.2.1)∧∀ (x_4:Int),x_4∈x_3.2.1→x_4∈x.2)→(decide (x_3.2.2<(↑x.2.length:Int))=true→0≤x_3.2.2∧x_3.2.2<(↑x.2.length:Int)∧∀ (_:Array Value),((!(aw x_3.1 (x.2.getD x_3.2.2.toNat 0)).getD false)=true→(x_3.2.1.length+[x.2.getD x_3.2.2.toNat 0].length) * 8≤aE∧ah .i64 (x_3.2.2+1)∧(0≤x_3.2.2+1∧x_3.2.2+1≤(↑x.2.length:Int)∧Seen (dI x_3.1 (x.2.getD x_3.2.2.toNat 0) true) (x_3.2.1++[x.2.getD x_3.2.2.toNat 0])∧(∀ (x_4:Int),x_4∈List.take (x_3.2.2+1).toNat x.2→x_4∈x_3.2.1++[x.2.getD x_3.2.2.toNat 0])∧∀ (x_4:Int),x_4∈x_3.2.1++[x.2.getD x_3.2.2.toNat 0]→x_4∈x.2)∧((↑x.2.length:Int) - (x_3.2.2+1)).toNat<((↑x.2.length:Int) - x_3.2.2).toNat)∧((!(aw x_3.1 (x.2.getD x_3.2.2.toNat 0)).getD false)=false→ah .i64 (x_3.2.2+1)∧(0≤x_3.2.2+1∧x_3.2.2+1≤(↑x.2.length:Int)∧Seen x_3.1 x_3.2.1∧(∀ (x_4:Int),x_4∈List.take (x_3.2.2+1).toNat x.2→x_4∈x_3.2.1)∧∀ (x_4:Int),x_4∈x_3.2.1→x_4∈x.2)∧((↑x.2.length:Int) - (x_3.2.2+1)).toNat<((↑x.2.length:Int) - x_3.2.2).toNat))∧(decide (x_3.2.2<(↑x.2.length:Int))=false→((0:Int)≤0∧0≤(↑x_3.2.1.length:Int)∧Seen x_3.1 x_3.2.1∧(∀ (x_4:Int),x_4∈x.2→x_4∈x_3.2.1)∧(∀ (x_4:Int),x_4∈x_3.2.1→Rch x.1 x.2 x_4)∧∀ (x_4:Int),x_4∈List.take (Int.toNat 0) x_3.2.1→∀ (y:Int),y∈bc x.1 x_4→y∈x_3.2.1)∧∀ (x_4:List (Int×Bool)×List Int×Int),(0≤x_4.2.2∧x_4.2.2≤(↑x_4.2.1.length:Int)∧Seen x_4.1 x_4.2.1∧(∀ (x_5:Int),x_5∈x.2→x_5∈x_4.2.1)∧(∀ (x_5:Int),x_5∈x_4.2.1→Rch x.1 x.2 x_5)∧∀ (x_5:Int),x_5∈List.take x_4.2.2.toNat x_4.2.1→∀ (y:Int),y∈bc x.1 x_5→y∈x_4.2.1)→(decide (x_4.2.2<(↑x_4.2.1.length:Int))=true→0≤x_4.2.2∧x_4.2.2<(↑x_4.2.1.length:Int)∧x_4.2.2.toNat<x_4.2.1.length∧∀ (_:Array Value),ah .i64 (x_4.2.1.getD x_4.2.2.toNat 0+1)∧ah .i64 (x_4.2.1.getD x_4.2.2.toNat 0+1)∧ah .i64 (x_4.2.1.getD x_4.2.2.toNat 0+1+((aw x_1.2.1 (x_4.2.1.getD x_4.2.2.toNat 0)).getD (0,0,0,false)).1)∧0≤x_4.2.1.getD x_4.2.2.toNat 0+1∧x_4.2.1.getD x_4.2.2.toNat 0+1≤x_4.2.1.getD x_4.2.2.toNat 0+1+((aw x_1.2.1 (x_4.2.1.getD x_4.2.2.toNat 0)).getD (0,0,0,false)).1∧x_4.2.1.getD x_4.2.2.toNat 0+1+((aw x_1.2.1 (x_4.2.1.getD x_4.2.2.toNat 0)).getD (0,0,0,false)).1≤(↑x_1.1.1.length:Int)∧((0:Int)≤0∧0≤(↑(List.drop (x_4.2.1.getD x_4.2.2.toNat 0+1).toNat (List.take (x_4.2.1.getD x_4.2.2.toNat 0+1+((aw x_1.2.1 (x_4.2.1.getD x_4.2.2.toNat 0)).getD (0,0,0,false)).1).toNat x_1.1.1)).length:Int)∧Seen x_4.1 x_4.2.1∧(∃ (k:List Int),x_4.2.1=x_4.2.1++k∧∀ (x:Int),x∈k→x+1∈List.drop (x_4.2.1.getD x_4.2.2.toNat 0+1).toNat (List.take (x_4.2.1.getD x_4.2.2.toNat 0+1+((aw x_1.2.1 (x_4.2.1.getD x_4.2.2.toNat 0)).getD (0,0,0,false)).1).toNat x_1.1.1)∧x+1≠0)∧∀ (v:Int),v∈List.take (Int.toNat 0) (List.drop (x_4.2.1.getD x_4.2.2.toNat 0+1).toNat (List.take (x_4.2.1.getD x_4.2.2.toNat 0+1+((aw x_1.2.1 (x_4.2.1.getD x_4.2.2.toNat 0)).getD (0,0,0,false)).1).toNat x_1.1.1))→v≠0→v - 1∈x_4.2.1)∧∀ (x_5:List (Int×Bool)×List Int×Int),(0≤x_5.2.2∧x_5.2.2≤(↑(List.drop (x_4.2.1.getD x_4.2.2.toNat 0+1).toNat (List.take (x_4.2.1.getD x_4.2.2.toNat 0+1+((aw x_1.2.1 (x_4.2.1.getD x_4.2.2.toNat 0)).getD (0,0,0,false)).1).toNat x_1.1.1)).length:Int)∧Seen x_5.1 x_5.2.1∧(∃ (k:List Int),x_5.2.1=x_4.2.1++k∧∀ (x:Int),x∈k→x+1∈List.drop (x_4.2.1.getD x_4.2.2.toNat 0+1).toNat (List.take (x_4.2.1.getD x_4.2.2.toNat 0+1+((aw x_1.2.1 (x_4.2.1.getD x_4.2.2.toNat 0)).getD (0,0,0,false)).1).toNat x_1.1.1)∧x+1≠0)∧∀ (v:Int),v∈List.take x_5.2.2.toNat (List.drop (x_4.2.1.getD x_4.2.2.toNat 0+1).toNat (List.take (x_4.2.1.getD x_4.2.2.toNat 0+1+((aw x_1.2.1 (x_4.2.1.getD x_4.2.2.toNat 0)).getD (0,0,0,false)).1).toNat x_1.1.1))→v≠0→v - 1∈x_5.2.1)→(decide (x_5.2.2<(↑(List.drop (x_4.2.1.getD x_4.2.2.toNat 0+1).toNat (List.take (x_4.2.1.getD x_4.2.2.toNat 0+1+((aw x_1.2.1 (x_4.2.1.getD x_4.2.2.toNat 0)).getD (0,0,0,false)).1).toNat x_1.1.1)).length:Int))=true→0≤x_5.2.2∧x_5.2.2<(↑(List.drop (x_4.2.1.getD x_4.2.2.toNat 0+1).toNat (List.take (x_4.2.1.getD x_4.2.2.toNat 0+1+((aw x_1.2.1 (x_4.2.1.getD x_4.2.2.toNat 0)).getD (0,0,0,false)).1).toNat x_1.1.1)).length:Int)∧(decide ((List.drop (x_4.2.1.getD x_4.2.2.toNat 0+1).toNat (List.take (x_4.2.1.getD x_4.2.2.toNat 0+1+((aw x_1.2.1 (x_4.2.1.getD x_4.2.2.toNat 0)).getD (0,0,0,false)).1).toNat x_1.1.1)).getD x_5.2.2.toNat (0:Int)≠0)=true→ah .i64 (IntKind.i64.wrap ((List.drop (x_4.2.1.getD x_4.2.2.toNat 0+1).toNat (List.take (x_4.2.1.getD x_4.2.2.toNat 0+1+((aw x_1.2.1 (x_4.2.1.getD x_4.2.2.toNat 0)).getD (0,0,0,false)).1).toNat x_1.1.1)).getD x_5.2.2.toNat 0) - 1)∧∀ (_:Array Value),((!(aw x_5.1 (IntKind.i64.wrap ((List.drop (x_4.2.1.getD x_4.2.2.toNat 0+1).toNat (List.take (x_4.2.1.getD x_4.2.2.toNat 0+1+((aw x_1.2.1 (x_4.2.1.getD x_4.2.2.toNat 0)).getD (0,0,0,false)).1).toNat x_1.1.1)).getD x_5.2.2.toNat 0) - 1)).getD false)=true→(x_5.2.1.length+[IntKind.i64.wrap ((List.drop (x_4.2.1.getD x_4.2.2.toNat 0+1).toNat (List.take (x_4.2.1.getD x_4.2.2.toNat 0+1+((aw x_1.2.1 (x_4.2.1.getD x_4.2.2.toNat 0)).getD (0,0,0,false)).1).toNat x_1.1.1)).getD x_5.2.2.toNat 0) - 1].length) * 8≤aE∧ah .i64 (x_5.2.2+1)∧(0≤x_5.2.2+1∧x_5.2.2+1≤(↑(List.drop (x_4.2.1.getD x_4.2.2.toNat 0+1).toNat (List.take (x_4.2.1.getD x_4.2.2.toNat 0+1+((aw x_1.2.1 (x_4.2.1.getD x_4.2.2.toNat 0)).getD (0,0,0,false)).1).toNat x_1.1.1)).length:Int)∧Seen (dI x_5.1 (IntKind.i64.wrap ((List.drop (x_4.2.1.getD x_4.2.2.toNat 0+1).toNat (List.take (x_4.2.1.getD x_4.2.2.toNat 0+1+((aw x_1.2.1 (x_4.2.1.getD x_4.2.2.toNat 0)).getD (0,0,0,false)).1).toNat x_1.1.1)).getD x_5.2.2.toNat 0) - 1) true) (x_5.2.1++[IntKind.i64.wrap ((List.drop (x_4.2.1.getD x_4.2.2.toNat 0+1).toNat (List.take (x_4.2.1.getD x_4.2.2.toNat 0+1+((aw x_1.2.1 (x_4.2.1.getD x_4.2.2.toNat 0)).getD (0,0,0,false)).1).toNat x_1.1.1)).getD x_5.2.2.toNat 0) - 1])∧(∃ (k:List Int),x_5.2.1++[IntKind.i64.wrap ((List.drop (x_4.2.1.getD x_4.2.2.toNat 0+1).toNat (List.take (x_4.2.1.getD x_4.2.2.toNat 0+1+((aw x_1.2.1 (x_4.2.1.getD x_4.2.2.toNat 0)).getD (0,0,0,false)).1).toNat x_1.1.1)).getD x_5.2.2.toNat 0) - 1]=x_4.2.1++k∧∀ (x:Int),x∈k→x+1∈List.drop (x_4.2.1.getD x_4.2.2.toNat 0+1).toNat (List.take (x_4.2.1.getD x_4.2.2.toNat 0+1+((aw x_1.2.1 (x_4.2.1.getD x_4.2.2.toNat 0)).getD (0,0,0,false)).1).toNat x_1.1.1)∧x+1≠0)∧∀ (v:Int),v∈List.take (x_5.2.2+1).toNat (List.drop (x_4.2.1.getD x_4.2.2.toNat 0+1).toNat (List.take (x_4.2.1.getD x_4.2.2.toNat 0+1+((aw x_1.2.1 (x_4.2.1.getD x_4.2.2.toNat 0)).getD (0,0,0,false)).1).toNat x_1.1.1))→v≠0→v - 1∈x_5.2.1++[IntKind.i64.wrap ((List.drop (x_4.2.1.getD x_4.2.2.toNat 0+1).toNat (List.take (x_4.2.1.getD x_4.2.2.toNat 0+1+((aw x_1.2.1 (x_4.2.1.getD x_4.2.2.toNat 0)).getD (0,0,0,false)).1).toNat x_1.1.1)).getD x_5.2.2.toNat 0) - 1])∧((↑(List.drop (x_4.2.1.getD x_4.2.2.toNat 0+1).toNat (List.take (x_4.2.1.getD x_4.2.2.toNat 0+1+((aw x_1.2.1 (x_4.2.1.getD x_4.2.2.toNat 0)).getD (0,0,0,false)).1).toNat x_1.1.1)).length:Int) - (x_5.2.2+1)).toNat<((↑(List.drop (x_4.2.1.getD x_4.2.2.toNat 0+1).toNat (List.take (x_4.2.1.getD x_4.2.2.toNat 0+1+((aw x_1.2.1 (x_4.2.1.getD x_4.2.2.toNat 0)).getD (0,0,0,false)).1).toNat x_1.1.1)).length:Int) - x_5.2.2).toNat)∧((!(aw x_5.1 (IntKind.i64.wrap ((List.drop (x_4.2.1.getD x_4.2.2.toNat 0+1).toNat (List.take (x_4.2.1.getD x_4.2.2.toNat 0+1+((aw x_1.2.1 (x_4.2.1.getD x_4.2.2.toNat 0)).getD (0,0,0,false)).1).toNat x_1.1.1)).getD x_5.2.2.toNat 0) - 1)).getD false)=false→ah .i64 (x_5.2.2+1)∧(0≤x_5.2.2+1∧x_5.2.2+1≤(↑(List.drop (x_4.2.1.getD x_4.2.2.toNat 0+1).toNat (List.take (x_4.2.1.getD x_4.2.2.toNat 0+1+((aw x_1.2.1 (x_4.2.1.getD x_4.2.2.toNat 0)).getD (0,0,0,false)).1).toNat x_1.1.1)).length:Int)∧Seen x_5.1 x_5.2.1∧(∃ (k:List Int),x_5.2.1=x_4.2.1++k∧∀ (x:Int),x∈k→x+1∈List.drop (x_4.2.1.getD x_4.2.2.toNat 0+1).toNat (List.take (x_4.2.1.getD x_4.2.2.toNat 0+1+((aw x_1.2.1 (x_4.2.1.getD x_4.2.2.toNat 0)).getD (0,0,0,false)).1).toNat x_1.1.1)∧x+1≠0)∧∀ (v:Int),v∈List.take (x_5.2.2+1).toNat (List.drop (x_4.2.1.getD x_4.2.2.toNat 0+1).toNat (List.take (x_4.2.1.getD x_4.2.2.toNat 0+1+((aw x_1.2.1 (x_4.2.1.getD x_4.2.2.toNat 0)).getD (0,0,0,false)).1).toNat x_1.1.1))→v≠0→v - 1∈x_5.2.1)∧((↑(List.drop (x_4.2.1.getD x_4.2.2.toNat 0+1).toNat (List.take (x_4.2.1.getD x_4.2.2.toNat 0+1+((aw x_1.2.1 (x_4.2.1.getD x_4.2.2.toNat 0)).getD (0,0,0,false)).1).toNat x_1.1.1)).length:Int) - (x_5.2.2+1)).toNat<((↑(List.drop (x_4.2.1.getD x_4.2.2.toNat 0+1).toNat (List.take (x_4.2.1.getD x_4.2.2.toNat 0+1+((aw x_1.2.1 (x_4.2.1.getD x_4.2.2.toNat 0)).getD (0,0,0,false)).1).toNat x_1.1.1)).length:Int) - x_5.2.2).toNat))∧(decide ((List.drop (x_4.2.1.getD x_4.2.2.toNat 0+1).toNat (List.take (x_4.2.1.getD x_4.2.2.toNat 0+1+((aw x_1.2.1 (x_4.2.1.getD x_4.2.2.toNat 0)).getD (0,0,0,false)).1).toNat x_1.1.1)).getD x_5.2.2.toNat (0:Int)≠0)=false→ah .i64 (x_5.2.2+1)∧(0≤x_5.2.2+1∧x_5.2.2+1≤(↑(List.drop (x_4.2.1.getD x_4.2.2.toNat 0+1).toNat (List.take (x_4.2.1.getD x_4.2.2.toNat 0+1+((aw x_1.2.1 (x_4.2.1.getD x_4.2.2.toNat 0)).getD (0,0,0,false)).1).toNat x_1.1.1)).length:Int)∧Seen x_5.1 x_5.2.1∧(∃ (k:List Int),x_5.2.1=x_4.2.1++k∧∀ (x:Int),x∈k→x+1∈List.drop (x_4.2.1.getD x_4.2.2.toNat 0+1).toNat (List.take (x_4.2.1.getD x_4.2.2.toNat 0+1+((aw x_1.2.1 (x_4.2.1.getD x_4.2.2.toNat 0)).getD (0,0,0,false)).1).toNat x_1.1.1)∧x+1≠0)∧∀ (v:Int),v∈List.take (x_5.2.2+1).toNat (List.drop (x_4.2.1.getD x_4.2.2.toNat 0+1).toNat (List.take (x_4.2.1.getD x_4.2.2.toNat 0+1+((aw x_1.2.1 (x_4.2.1.getD x_4.2.2.toNat 0)).getD (0,0,0,false)).1).toNat x_1.1.1))→v≠0→v - 1∈x_5.2.1)∧((↑(List.drop (x_4.2.1.getD x_4.2.2.toNat 0+1).toNat (List.take (x_4.2.1.getD x_4.2.2.toNat 0+1+((aw x_1.2.1 (x_4.2.1.getD x_4.2.2.toNat 0)).getD (0,0,0,false)).1).toNat x_1.1.1)).length:Int) - (x_5.2.2+1)).toNat<((↑(List.drop (x_4.2.1.getD x_4.2.2.toNat 0+1).toNat (List.take (x_4.2.1.getD x_4.2.2.toNat 0+1+((aw x_1.2.1 (x_4.2.1.getD x_4.2.2.toNat 0)).getD (0,0,0,false)).1).toNat x_1.1.1)).length:Int) - x_5.2.2).toNat))∧(decide (x_5.2.2<(↑(List.drop (x_4.2.1.getD x_4.2.2.toNat 0+1).toNat (List.take (x_4.2.1.getD x_4.2.2.toNat 0+1+((aw x_1.2.1 (x_4.2.1.getD x_4.2.2.toNat 0)).getD (0,0,0,false)).1).toNat x_1.1.1)).length:Int))=false→ah .i64 (x_4.2.2+1)∧(0≤x_4.2.2+1∧x_4.2.2+1≤(↑x_5.2.1.length:Int)∧Seen x_5.1 x_5.2.1∧(∀ (x_6:Int),x_6∈x.2→x_6∈x_5.2.1)∧(∀ (x_6:Int),x_6∈x_5.2.1→Rch x.1 x.2 x_6)∧∀ (x_6:Int),x_6∈List.take (x_4.2.2+1).toNat x_5.2.1→∀ (y:Int),y∈bc x.1 x_6→y∈x_5.2.1)∧(256 - (x_4.2.2+1)).toNat<(256 - x_4.2.2).toNat))∧(decide (x_4.2.2<(↑x_4.2.1.length:Int))=false→True∧br x_4.2.1=(bj x.1 x.2).1∧0=(bj x.1 x.2).2∧True))))))
theorem si:py:=by
 unfold py
 intro ⟨a,f⟩ ⟨⟨hb,hw⟩,hbf,hf⟩ _ tm
 unfold aE at hb hbf
 simp only at hb hw hbf hf ⊢
 refine ⟨trivial,fun hc=>⟨fun _=>?_,fun hn=>by rw [hc] at hn; cases hn⟩,fun hc=>?_⟩
 ·have hc:=of_decide_eq_true hc
  have e:aH a f=(ar a).2.2:=by unfold aH; rw [if_pos hc]
  have e2:bj a f=([],(ar a).2.2):=by unfold bj; rw [e,if_pos hc]
  rw [e2]
  exact ⟨rfl,rfl,trivial⟩
 have hc:(ar a).2.2=0:=by simpa using of_decide_eq_false hc
 obtain ⟨hal,_,_,hz,_,_,_⟩:=nq hc
 have hsl:=bP a
 have hsp:=dX a
 have hget:=fun x=>nj (dv a) x
 have hbl:=di (aa a).1
 refine ⟨trivial,⟨by omega,by omega,trivial,rfl,rfl⟩,fun ⟨⟨a1,⟨⟩,out⟩,m,i⟩ ⟨i0,i1,i2,i3,i4⟩=>⟨fun hlt=>?_,fun hge=>?_⟩⟩
 ·simp only at i0 i1 i2 i3 i4 hlt ⊢
  have hlt:=of_decide_eq_true hlt
  have hs:=hsp _ (bW ((0,0,0,0,false):aJ) i0 hlt)
  have ht:=dl ((0,0,0,0,false):aJ) i0 hlt
  rw [az ((0,0,0,0,false):aJ) i0 hlt] at i4
  simp only [aT] at i4
  have hol:out.length≤256:=by
   rw [i3]
   have:=di (List.take i.toNat (aa a).1)
   rw [List.length_take] at this
   omega
  rw [ht,gy,← i3]
  generalize (aa a).1.getD i.toNat (0,0,0,0,false)=s at *
  simp only [ah]
  refine ⟨i0,hlt,by omega,fun hf0=>?_,fun hf0=>?_⟩
  ·have hf0:¬ s.2.2.2.2=true:=by simpa using hf0
   have e:ab [s]=[s.1]:=by simp only [ab]; rw [if_neg hf0]
   rw [if_neg hf0] at i4
   rw [e]
   unfold aE
   simp only [List.length_singleton]
   exact ⟨by omega,by omega,⟨by omega,by omega,i2,trivial,i4⟩,by omega⟩
  ·have hf0:s.2.2.2.2=true:=by simpa using hf0
   have e:ab [s]=[]:=by simp only [ab]; rw [if_pos hf0]
   rw [if_pos hf0] at i4
   rw [e,List.append_nil]
   exact ⟨by omega,⟨by omega,by omega,i2,rfl,i4⟩,by omega⟩
 simp only at i0 i1 i2 i3 i4 hge ⊢
 have hge:=of_decide_eq_false hge
 rw [aL hge] at i4
 have i4:m=a6 (aa a).1:=i4
 subst i4 i2
 have hsome:∀ x,(aw (a6 (aa a1).1) x).isSome=isB (aa a1).1 x:=fun x=>by rw [hget]; cases isB (aa a1).1 x <;> rfl
 simp only [hsome]
 refine ⟨⟨by omega,by omega,rfl⟩,fun j ⟨j0,j1,j2⟩=>⟨fun hlt=>?_,fun hge=>⟨fun h=>by simp at h,fun _=>?_⟩⟩⟩
 ·have hlt:=of_decide_eq_true hlt
  rw [az (0:Int) j0 hlt,List.all_cons] at j2
  simp only [ah]
  refine ⟨j0,hlt,fun hn=>⟨fun _=>?_,fun h=>by simp at h⟩,fun hn=>⟨by omega,⟨by omega,by omega,?_⟩,by omega⟩⟩
  ·have hn:isB (aa a1).1 (f.getD j.toNat 0)=false:=by simpa using hn
   rw [hn,Bool.false_and] at j2
   have e:aH a1 f=5:=by unfold aH; rw [if_neg (by omega),← j2]; rfl
   have e2:bj a1 f=([],5):=by unfold bj; rw [e]; rfl
   rw [e2]
   exact ⟨rfl,rfl,trivial⟩
  ·have hn:isB (aa a1).1 (f.getD j.toNat 0)=true:=by simpa using hn
   rw [hn,Bool.true_and] at j2
   exact j2
 rw [aL (of_decide_eq_false hge),List.all_nil] at j2
 have hfb:∀ x∈f,isB (aa a1).1 x=true:=List.all_eq_true.1 j2.symm
 have e0:aH a1 f=0:=oo hc hfb
 have e1:bj a1 f=(i5 a1 f,0):=by unfold bj; rw [e0]; rfl
 rw [e1]
 clear i0 i1 i3 hge j0 j1 j2
 have hrch:∀ x,Rch a1 f x→0≤x∧x≤255:=fun x hx=>eQ (hx.isB hw hc hfb)
 refine ⟨⟨by omega,by omega,Seen.new,fun x hx=>by simp at hx,fun x hx=>by cases hx⟩,fun ⟨m,o,i⟩ ⟨i0,i1,i2,i3,i4⟩=>⟨fun hlt=>?_,fun hge=>?_⟩⟩
 ·simp only at i0 i1 i2 i3 i4 hlt ⊢
  have hlt:=of_decide_eq_true hlt
  have ht:=dl (0:Int) i0 hlt
  have hm:=bW (0:Int) i0 hlt
  generalize f.getD i.toNat 0=x at *
  have hol:=gc i2.nodup (fun y hy=>hrch y (.base (i4 y hy)))
  rw [ht]
  unfold aE
  simp only [ah,List.length_singleton]
  refine ⟨i0,hlt,fun _=>⟨fun hn=>⟨by omega,by omega,⟨by omega,by omega,i2.add hn,fun y hy=>?_,fun y hy=>?_⟩,by omega⟩,fun hn=>⟨by omega,⟨by omega,by omega,i2,fun y hy=>?_,i4⟩,by omega⟩⟩⟩
  ·rcases List.mem_append.1 hy with hy | hy
   ·exact List.mem_append_left _ (i3 y hy)
   ·exact List.mem_append_right _ hy
  ·rcases List.mem_append.1 hy with hy | hy
   ·exact i4 y hy
   ·rw [List.mem_singleton.1 hy]; exact hm
  ·rcases List.mem_append.1 hy with hy | hy
   ·exact i3 y hy
   ·rw [List.mem_singleton.1 hy]; exact i2.mem hn
 simp only at i0 i1 i2 i3 i4 hge ⊢
 rw [gX (of_decide_eq_false hge)] at i3
 refine ⟨⟨by omega,by omega,i2,i3,fun x hx=>.base (i4 x hx),fun x hx=>by simp at hx⟩,fun ⟨m2,o2,k⟩ ⟨k0,k1,k2,k3,k4,k5⟩=>⟨fun hlt=>?_,fun hge=>?_⟩⟩
 ·clear i0 i1 i2 i3 i4 hge
  simp only at k0 k1 k2 k3 k4 k5 hlt ⊢
  have hlt:=of_decide_eq_true hlt
  have ht:=dl (0:Int) k0 hlt
  have hm:=bW (0:Int) k0 hlt
  have hol:=gc k2.nodup (fun y hy=>hrch y (k4 y hy))
  generalize hat:o2.getD k.toNat 0=at_ at *
  have hib:=(k4 at_ hm).isB hw hc hfb
  have hh:((aw (a6 (aa a1).1) at_).getD (0,0,0,false))=lK a1 at_:=by rw [hget,if_pos hib]; rfl
  obtain ⟨l1,_,l3,l4,l5,l6⟩:=jH hib
  have hrf:=eZ hw hc _ (io hib).1
  have hrs:List.drop (at_+1).toNat (List.take (at_+1+(lK a1 at_).1).toNat a1)=d5 a1 at_:=rfl
  have hout:∀ y,y∈bc a1 at_ ↔ (y+1∈d5 a1 at_∧y+1≠0):=by
   intro y
   unfold bc
   simp only [List.mem_map,List.mem_filter,decide_eq_true_eq]
   constructor
   ·rintro ⟨v,⟨hv,h0⟩,rfl⟩
    rw [Int.sub_add_cancel]
    exact ⟨hv,h0⟩
   ·rintro ⟨h1,h2⟩
    exact ⟨y+1,⟨h1,h2⟩,by omega⟩
  have hstep:∀ y,y+1∈d5 a1 at_→y+1≠0→Rch a1 f y:=fun y h1 h2=>.step (k4 at_ hm) ((hout y).2 ⟨h1,h2⟩)
  rw [hh,hrs]
  have hwr:∀ v∈d5 a1 at_,IntKind.i64.wrap v=v∧0≤v∧v≤256:=fun v hv=>by
   rcases hrf v hv with e | ⟨h1,h2,_⟩
   ·subst e; exact ⟨fv (by omega) (by omega),by omega,by omega⟩
   ·exact ⟨fv (by omega) (by omega),by omega,by omega⟩
  generalize hrs0:d5 a1 at_=rs at *
  simp only [ah]
  refine ⟨k0,hlt,by omega,fun _=>⟨by omega,by omega,by omega,by omega,by omega,by omega,⟨by omega,by omega,k2,⟨[],by simp,fun x hx=>by cases hx⟩,fun v hv=>by simp at hv⟩,fun ⟨m3,o3,j⟩ ⟨j0,j1,j2,⟨kk,j3,j4⟩,j5⟩=>⟨fun hj=>?_,fun hj=>?_⟩⟩⟩
  ·simp only at j0 j1 j2 j3 j4 j5 hj ⊢
   have hj:=of_decide_eq_true hj
   have ht2:=dl (0:Int) j0 hj
   have hv:=bW (0:Int) j0 hj
   generalize rs.getD j.toNat 0=v at *
   obtain ⟨w1,w2,w3⟩:=hwr v hv
   have hol3:=gc j2.nodup (fun y hy=>hrch y (by
    rw [j3] at hy
    rcases List.mem_append.1 hy with hy | hy
    ·exact k4 y hy
    ·exact hstep y (j4 y hy).1 (j4 y hy).2))
   rw [w1,ht2]
   unfold aE
   simp only [List.length_singleton]
   refine ⟨j0,hj,fun hne=>⟨by omega,fun _=>⟨fun hn=>⟨by omega,by omega,⟨by omega,by omega,j2.add hn,⟨kk++[v - 1],by rw [j3,List.append_assoc],fun y hy=>?_⟩,fun y hy hy0=>?_⟩,by omega⟩,fun hn=>⟨by omega,⟨by omega,by omega,j2,⟨kk,j3,j4⟩,fun y hy hy0=>?_⟩,by omega⟩⟩⟩,fun hne=>⟨by omega,⟨by omega,by omega,j2,⟨kk,j3,j4⟩,fun y hy hy0=>?_⟩,by omega⟩⟩
   ·rcases List.mem_append.1 hy with hy | hy
    ·exact j4 y hy
    ·rw [List.mem_singleton.1 hy,Int.sub_add_cancel]
     exact ⟨hv,of_decide_eq_true hne⟩
   ·rcases List.mem_append.1 hy with hy | hy
    ·exact List.mem_append_left _ (j5 y hy hy0)
    ·rw [List.mem_singleton.1 hy]; simp
   ·rcases List.mem_append.1 hy with hy | hy
    ·exact j5 y hy hy0
    ·rw [List.mem_singleton.1 hy]; exact j2.mem hn
   ·rcases List.mem_append.1 hy with hy | hy
    ·exact j5 y hy hy0
    ·rw [List.mem_singleton.1 hy] at hy0
     exact absurd hy0 (by simpa using of_decide_eq_false hne)
  ·simp only at j0 j1 j2 j3 j4 j5 hj ⊢
   rw [gX (of_decide_eq_false hj)] at j5
   have hlen3:o2.length≤o3.length:=by rw [j3]; simp
   have e3:o3.take (k+1).toNat=o2.take k.toNat++[at_]:=by rw [j3,List.take_append_of_le_length (by omega),ht]
   rw [e3]
   refine ⟨by omega,⟨by omega,by omega,j2,fun x hx=>by rw [j3]; exact List.mem_append_left _ (k3 x hx),fun x hx=>?_,fun x hx y hy=>?_⟩,by omega⟩
   ·rw [j3] at hx
    rcases List.mem_append.1 hx with hx | hx
    ·exact k4 x hx
    ·exact hstep x (j4 x hx).1 (j4 x hx).2
   ·rcases List.mem_append.1 hx with hx | hx
    ·rw [j3]; exact List.mem_append_left _ (k5 x hx y hy)
    ·rw [List.mem_singleton.1 hx] at hy
     obtain ⟨q1,q2⟩:=(hout y).1 hy
     have:=j5 _ q1 q2
     rwa [Int.add_sub_cancel] at this
 ·simp only at k0 k1 k2 k3 k4 k5 hge ⊢
  rw [gX (of_decide_eq_false hge)] at k5
  exact ⟨trivial,(Full.mk k3 k4 k5).sorted hw hc hfb k2.nodup,trivial,trivial⟩
theorem tI:tt.ok Try.prog 38:=aQ (ann:=un) (af il (af fb (rB tH au))) Try.func38 (by kernel_rfl) si
end Go.Proofs.Ytcnoiiohmpgckaa
