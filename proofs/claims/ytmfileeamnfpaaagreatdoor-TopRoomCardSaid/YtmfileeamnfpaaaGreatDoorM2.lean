import Derived.Test.YtmfileeamnfpaaaGreatDoorM1
import Derived.WalkKit
import Derived.KernelRfl
import Derived.Lib.AppendZeros
import Derived.Lib.AppendZerosOnto
import Derived.Lib.Overlaps
import Derived.Laws.Externs
import Derived.Laws.IdiomCopy
import Derived.Laws.CopyRow
import Derived.Shelf.RegionOpenPlain
import Derived.Shelf.Spec.SlicesInsert
import Derived.Deep.Upon
namespace Go.Proofs.YtmfileeamnfpaaaGreatDoor
open Go
set_option maxRecDepth 100000
set_option maxHeartbeats 1000000
section
theorem Nv {l:List Int} {x:Int} (h:(!fx l x)=true):¬ x∈l:=fun hx=>by rw [cu.2 hx] at h; cases h
theorem Nu {l:List Int} {x:Int} (h:(!fx l x)=false):x∈l:=cu.1 (by cases hx:fx l x <;> simp_all)
structure InReach (a f l:List Int):Prop where
 has:∀ x∈f,x∈l
 only:∀ x∈l,Rch a f x
 len:l.length+EZ f<=f.length+EZ l
def ew (m:List (Int×dI)):List aw->List (Int×dI)
 | []=>m
 | s::l=>ew (if s.2.2.2.2=true then m else fW m s.1 s.2) l
def ln (l:List aw):List (Int×dI):=ew [] l
theorem no (x:Int):∀ (l:List aw) (m:List (Int×dI)),l.Pairwise (fun s t=>s.1<t.1)->bq (ew m l) x=if isB l x=true then some (bU x l).1 else bq m x
 | [],m,_=>rfl
 | s::l,m,h=>by
  obtain ⟨h1,h2⟩:=Oc.1 h;have e0:ew m (s::l)=ew (if s.2.2.2.2=true then m else fW m s.1 s.2) l:=rfl;rw [e0,no x l _ h2];by_cases hx:s.1=x/\s.2.2.2.2=false
  ·have e1:bU x (s::l)=(s.2,true):=if_pos hx;have e2:isB (s::l) x=true:=by unfold isB; rw [e1]
   have hn:¬ isB l x=true:=by
    rw [<- fw,cu];intro hm
    have:∃ t∈l,t.1=x:=by
     clear h h2 hx e0 e1 e2
     induction l with
     | nil=>cases hm
     | cons t l ih =>
      simp only [aY] at hm;split at hm
      ·obtain ⟨u,hu,e⟩:=ih (fun y hy=>h1 y (by simp [hy])) hm;exact ⟨u,by simp [hu],e⟩
      ·rcases NG.1 hm with hm | hm
       ·exact ⟨t,by simp,hm.symm⟩
       ·obtain ⟨u,hu,e⟩:=ih (fun y hy=>h1 y (by simp [hy])) hm;exact ⟨u,by simp [hu],e⟩
    obtain ⟨t,ht,e⟩:=this;have:=h1 t ht;omega
   rw [if_neg hn,if_pos e2,e1,if_neg (by rw [hx.2]; simp),ji,if_pos hx.1.symm]
  ·have e1:bU x (s::l)=bU x l:=if_neg hx;have e2:isB (s::l) x=isB l x:=by unfold isB; rw [e1]
   rw [e2,e1];by_cases hb:isB l x=true
   ·rw [if_pos hb,if_pos hb]
   ·rw [if_neg hb,if_neg hb];by_cases hf:s.2.2.2.2=true
    ·rw [if_pos hf]
    ·rw [if_neg hf,ji,if_neg (fun e=>hx ⟨e.symm,by simpa using hf⟩)]
theorem HQ {l:List aw} (h:l.Pairwise (fun s t=>s.1<t.1)) (x:Int):bq (ln l) x=if isB l x=true then some (bU x l).1 else none:=no x l [] h
theorem nu:∀ (l k:List aw),aY (l++k)=aY l++aY k
 | [],_=>rfl
 | s::l,k=>by
  have:=nu l k;simp only [Oq,aY,this];split <;> simp
structure Seen (m:List (Int×Bool)) (o:List Int):Prop where
 nodup:o.Nodup
 is:∀ x,(bq m x).getD false=fx o x
theorem Seen.new:Seen [] []:=⟨List.nodup_nil,fun _=>rfl⟩
theorem Seen.add {m:List (Int×Bool)} {o:List Int} {x:Int} (h:Seen m o) (hn:(!(bq m x).getD false)=true):Seen (fW m x true) (o++[x]):=by
 rw [h.is] at hn;refine ⟨?_,fun y=>?_⟩
 ·rw [Qg];exact ⟨h.nodup,by simp,fun y hy z hz=>by rw [NL.1 hz]; rintro rfl; exact Nv hn hy⟩
 ·rw [ji];by_cases hy:y=x
  ·subst hy;rw [if_pos rfl];exact (cu.2 (by simp)).symm
  ·rw [if_neg hy,h.is];unfold fx;rw [List.any_append];simp [Ne.symm hy]
theorem Seen.mem {m:List (Int×Bool)} {o:List Int} {x:Int} (h:Seen m o) (hn:(!(bq m x).getD false)=false):x∈o:=by
 rw [h.is] at hn;exact Nu hn
theorem mS {o:List Int} (hd:o.Nodup) (hr:∀ x∈o,0<=x/\x<=255):o.length<=256:=by
 have h1:=kZ o;have h2:(d8 o).Nodup:=(List.mergeSort_perm o _).nodup_iff.2 hd;have h3:(d8 o).Pairwise (·<·):=(h1.and h2).imp (fun ⟨x,y⟩=>by omega);have h4:=iM (s:=0) h3 (fun x hx=>hr x (p8.1 hx)) (by omega);rw [iW] at h4;omega
def Kx:LoopGen:={ rd:=[.own 30 202 cE,.dat 0 (.arr bJ)],A:=fun ((l,a):List aw×List Int)=>{ cs:=[.boxS 24 [.dat (.arr bJ),.mpc 22,.own 3 ty_I],.map 22 .i64 gc,.dat 32 ty_I],inv:=fun ((b,m,i):(List Int×Unit×List Int)×List (Int×dI)×Int)=>0<=i/\i<=l.length/\b.1=a/\b.2.2=aY (l.take i.toNat)/\ew m (l.drop i.toNat)=ln l,mu:=fun ((_,_,i):(List Int×Unit×List Int)×List (Int×dI)×Int)=>(l.length - i).toNat } }
def Kw:LoopGen:={ rd:=[.dat 60 (.arr ty_I),.map 22 .i64 gc],A:=fun ((f,m):List Int×List (Int×dI))=>{ cs:=[.dat 62 ty_I],inv:=fun (i:Int)=>0<=i/\i<=f.length/\((f.drop i.toNat).all fun x=>(bq m x).isSome)=(f.all fun x=>(bq m x).isSome),mu:=fun (i:Int)=>(f.length - i).toNat } }
def Ks:Nat->Option LoopGen
 | 3000089=>some d9
 | 3000091=>some d9
 | 3000090=>some d9
 | 9000000007=>some Kx
 | 9000000014=>some Kw
 | 8=>some { rd:=[.dat 25 (.arr ty_I)],A:=fun (f:List Int)=>{ cs:=[.map 23 .i64 .bool,.boxS 9 [.own 3 ty_I],.dat 27 ty_I],inv:=fun ((m,o,i):List (Int×Bool)×List Int×Int)=>0<=i/\i<=f.length/\Seen m o/\(∀ x∈f.take i.toNat,x∈o)/\(∀ x∈o,x∈f),mu:=fun ((_,_,i):List (Int×Bool)×List Int×Int)=>(f.length - i).toNat } }
 | 13=>some { rd:=[.dat 0 (.arr bJ),.dat 1 (.arr ty_I)],A:=fun ((a,f):List Int×List Int)=>{ cs:=[.map 23 .i64 .bool,.boxS 9 [.own 3 ty_I],.dat 13 ty_I],inv:=fun ((m,o,i):List (Int×Bool)×List Int×Int)=>0<=i/\i<=o.length/\Seen m o/\(∀ x∈f,x∈o)/\(∀ x∈o,Rch a f x)/\(∀ x∈o.take i.toNat,∀ y∈fu a x,y∈o),mu:=fun ((_,_,i):List (Int×Bool)×List Int×Int)=>(256 - i).toNat } }
 | 9200000001=>some { rd:=[.dat 24 (.arr bJ),.boxS 9900000 [.own 3 ty_I]],A:=fun ((rs,o0):List Int×List Int)=>{ cs:=[.map 23900000 .i64 .bool,.boxS 9900000 [.own 3 ty_I],.dat 26 ty_I],inv:=fun ((m,o,j):List (Int×Bool)×List Int×Int)=>0<=j/\j<=rs.length/\Seen m o/\(∃ k,o=o0++k/\∀ x∈k,x+1∈rs/\x+1≠0)/\(∀ v∈rs.take j.toNat,v≠0->v - 1∈o),mu:=fun ((_,_,j):List (Int×Bool)×List Int×Int)=>(rs.length - j).toNat } }
 | _=>none
def IR:Spec:={ Ts:=[.arr bJ,.arr ty_I],Rs:=[.own 3 ty_I,.dat ty_I],pre:=fun _=>True,F:=fun ((a,f):List Int×List Int)=>dG a f }
def BC:Prop :=
  ∀ (x:List Int×List Int),((x.1.length * 8<=aL/\∀ (x_1:Int),x_1∈x.1->am .u64 x_1)/\x.2.length * 8<=aL/\∀ (x_1:Int),x_1∈x.2->am .i64 x_1)->True->∀ (_:Array Value),True/\(decide ((ak x.1).2.2≠0)=true->(decide ((ak x.1).2.2≠0)=true->([]:List Int)=(dG x.1 x.2).1/\(ak x.1).2.2=(dG x.1 x.2).2/\True)/\(decide ((ak x.1).2.2≠0)=false->((0:Int)<=0/\0<=(x.2.length:Int)/\Seen ([]:List (Int×Bool)) ([]:List Int)/\(∀ (x_1:Int),x_1∈List.take (Int.toNat 0) x.2->x_1∈([]:List Int))/\∀ (x_1:Int),x_1∈([]:List Int)->x_1∈x.2)/\∀ (x_1:List (Int×Bool)×List Int×Int),(0<=x_1.2.2/\x_1.2.2<=(x.2.length:Int)/\Seen x_1.1 x_1.2.1/\(∀ (x_2:Int),x_2∈List.take x_1.2.2.toNat x.2->x_2∈x_1.2.1)/\∀ (x_2:Int),x_2∈x_1.2.1->x_2∈x.2)->(decide (x_1.2.2<(x.2.length:Int))=true->0<=x_1.2.2/\x_1.2.2<(x.2.length:Int)/\∀ (_:Array Value),((!(bq x_1.1 (x.2.getD x_1.2.2.toNat 0)).getD false)=true->(x_1.2.1.length+[x.2.getD x_1.2.2.toNat 0].length) * 8<=aL/\am .i64 (x_1.2.2+1)/\(0<=x_1.2.2+1/\x_1.2.2+1<=(x.2.length:Int)/\Seen (fW x_1.1 (x.2.getD x_1.2.2.toNat 0) true) (x_1.2.1++[x.2.getD x_1.2.2.toNat 0])/\(∀ (x_2:Int),x_2∈List.take (x_1.2.2+1).toNat x.2->x_2∈x_1.2.1++[x.2.getD x_1.2.2.toNat 0])/\∀ (x_2:Int),x_2∈x_1.2.1++[x.2.getD x_1.2.2.toNat 0]->x_2∈x.2)/\((x.2.length:Int) - (x_1.2.2+1)).toNat<((x.2.length:Int) - x_1.2.2).toNat)/\((!(bq x_1.1 (x.2.getD x_1.2.2.toNat 0)).getD false)=false->am .i64 (x_1.2.2+1)/\(0<=x_1.2.2+1/\x_1.2.2+1<=(x.2.length:Int)/\Seen x_1.1 x_1.2.1/\(∀ (x_2:Int),x_2∈List.take (x_1.2.2+1).toNat x.2->x_2∈x_1.2.1)/\∀ (x_2:Int),x_2∈x_1.2.1->x_2∈x.2)/\((x.2.length:Int) - (x_1.2.2+1)).toNat<((x.2.length:Int) - x_1.2.2).toNat))/\(decide (x_1.2.2<(x.2.length:Int))=false->((0:Int)<=0/\0<=(x_1.2.1.length:Int)/\Seen x_1.1 x_1.2.1/\(∀ (x_2:Int),x_2∈x.2->x_2∈x_1.2.1)/\(∀ (x_2:Int),x_2∈x_1.2.1->Rch x.1 x.2 x_2)/\∀ (x_2:Int),x_2∈List.take (Int.toNat 0) x_1.2.1->∀ (y:Int),y∈fu x.1 x_2->y∈x_1.2.1)/\∀ (x_2:List (Int×Bool)×List Int×Int),(0<=x_2.2.2/\x_2.2.2<=(x_2.2.1.length:Int)/\Seen x_2.1 x_2.2.1/\(∀ (x_3:Int),x_3∈x.2->x_3∈x_2.2.1)/\(∀ (x_3:Int),x_3∈x_2.2.1->Rch x.1 x.2 x_3)/\∀ (x_3:Int),x_3∈List.take x_2.2.2.toNat x_2.2.1->∀ (y:Int),y∈fu x.1 x_3->y∈x_2.2.1)->(decide (x_2.2.2<(x_2.2.1.length:Int))=true->0<=x_2.2.2/\x_2.2.2<(x_2.2.1.length:Int)/\x_2.2.2.toNat<x_2.2.1.length/\∀ (_:Array Value),False)/\(decide (x_2.2.2<(x_2.2.1.length:Int))=false->True/\d8 x_2.2.1=(dG x.1 x.2).1/\0=(dG x.1 x.2).2/\True))))/\(decide ((ak x.1).2.2≠0)=false->True/\((0:Int)<=0/\0<=(↑(ac x.1).1.length:Int)/\x.1=x.1/\((),([]:List Int)).2=aY (List.take (Int.toNat 0) (ac x.1).1)/\ew ([]:List (Int×Int×Int×Int×Bool)) (List.drop (Int.toNat 0) (ac x.1).1)=ln (ac x.1).1)/\∀ (x_1:(List Int×Unit×List Int)×List (Int×Int×Int×Int×Bool)×Int),0<=x_1.2.2/\x_1.2.2<=(↑(ac x.1).1.length:Int)/\x_1.1.1=x.1/\x_1.1.2.2=aY (List.take x_1.2.2.toNat (ac x.1).1)/\ew x_1.2.1 (List.drop x_1.2.2.toNat (ac x.1).1)=ln (ac x.1).1->(decide (x_1.2.2<(↑(ac x.1).1.length:Int))=true->0<=x_1.2.2/\x_1.2.2<(↑(ac x.1).1.length:Int)/\x_1.2.2.toNat<(ac x.1).1.length/\((!((ac x.1).1.getD x_1.2.2.toNat (0,0,0,0,false)).2.2.2.2)=true->(x_1.1.2.2.length+[((ac x.1).1.getD x_1.2.2.toNat (0,0,0,0,false)).1].length) * 8<=aL/\am .i64 (x_1.2.2+1)/\(0<=x_1.2.2+1/\x_1.2.2+1<=(↑(ac x.1).1.length:Int)/\x_1.1.1=x.1/\((),x_1.1.2.2++[((ac x.1).1.getD x_1.2.2.toNat (0,0,0,0,false)).1]).2=aY (List.take (x_1.2.2+1).toNat (ac x.1).1)/\ew (fW x_1.2.1 ((ac x.1).1.getD x_1.2.2.toNat (0,0,0,0,false)).1 ((ac x.1).1.getD x_1.2.2.toNat (0,0,0,0,false)).2) (List.drop (x_1.2.2+1).toNat (ac x.1).1)=ln (ac x.1).1)/\((↑(ac x.1).1.length:Int) - (x_1.2.2+1)).toNat<((↑(ac x.1).1.length:Int) - x_1.2.2).toNat)/\((!((ac x.1).1.getD x_1.2.2.toNat (0,0,0,0,false)).2.2.2.2)=false->am .i64 (x_1.2.2+1)/\(0<=x_1.2.2+1/\x_1.2.2+1<=(↑(ac x.1).1.length:Int)/\x_1.1.1=x.1/\((),x_1.1.2.2).2=aY (List.take (x_1.2.2+1).toNat (ac x.1).1)/\ew x_1.2.1 (List.drop (x_1.2.2+1).toNat (ac x.1).1)=ln (ac x.1).1)/\((↑(ac x.1).1.length:Int) - (x_1.2.2+1)).toNat<((↑(ac x.1).1.length:Int) - x_1.2.2).toNat))/\(decide (x_1.2.2<(↑(ac x.1).1.length:Int))=false->((0:Int)<=0/\0<=(x.2.length:Int)/\((List.drop (Int.toNat 0) x.2).all fun (x:Int)=>(bq x_1.2.1 x).isSome)=x.2.all fun (x:Int)=>(bq x_1.2.1 x).isSome)/\∀ (x_2:Int),(0<=x_2/\x_2<=(x.2.length:Int)/\((List.drop x_2.toNat x.2).all fun (x:Int)=>(bq x_1.2.1 x).isSome)=x.2.all fun (x:Int)=>(bq x_1.2.1 x).isSome)->(decide (x_2<(x.2.length:Int))=true->0<=x_2/\x_2<(x.2.length:Int)/\((!(bq x_1.2.1 (x.2.getD x_2.toNat 0)).isSome)=true->(decide ((5:Int)≠0)=true->([]:List Int)=(dG x.1 x.2).1/\5=(dG x.1 x.2).2/\True)/\(decide ((5:Int)≠0)=false->((0:Int)<=0/\0<=(x.2.length:Int)/\Seen ([]:List (Int×Bool)) ([]:List Int)/\(∀ (x_3:Int),x_3∈List.take (Int.toNat 0) x.2->x_3∈([]:List Int))/\∀ (x_3:Int),x_3∈([]:List Int)->x_3∈x.2)/\∀ (x_3:List (Int×Bool)×List Int×Int),(0<=x_3.2.2/\x_3.2.2<=(x.2.length:Int)/\Seen x_3.1 x_3.2.1/\(∀ (x_4:Int),x_4∈List.take x_3.2.2.toNat x.2->x_4∈x_3.2.1)/\∀ (x_4:Int),x_4∈x_3.2.1->x_4∈x.2)->(decide (x_3.2.2<(x.2.length:Int))=true->0<=x_3.2.2/\x_3.2.2<(x.2.length:Int)/\∀ (_:Array Value),((!(bq x_3.1 (x.2.getD x_3.2.2.toNat 0)).getD false)=true->(x_3.2.1.length+[x.2.getD x_3.2.2.toNat 0].length) * 8<=aL/\am .i64 (x_3.2.2+1)/\(0<=x_3.2.2+1/\x_3.2.2+1<=(x.2.length:Int)/\Seen (fW x_3.1 (x.2.getD x_3.2.2.toNat 0) true) (x_3.2.1++[x.2.getD x_3.2.2.toNat 0])/\(∀ (x_4:Int),x_4∈List.take (x_3.2.2+1).toNat x.2->x_4∈x_3.2.1++[x.2.getD x_3.2.2.toNat 0])/\∀ (x_4:Int),x_4∈x_3.2.1++[x.2.getD x_3.2.2.toNat 0]->x_4∈x.2)/\((x.2.length:Int) - (x_3.2.2+1)).toNat<((x.2.length:Int) - x_3.2.2).toNat)/\((!(bq x_3.1 (x.2.getD x_3.2.2.toNat 0)).getD false)=false->am .i64 (x_3.2.2+1)/\(0<=x_3.2.2+1/\x_3.2.2+1<=(x.2.length:Int)/\Seen x_3.1 x_3.2.1/\(∀ (x_4:Int),x_4∈List.take (x_3.2.2+1).toNat x.2->x_4∈x_3.2.1)/\∀ (x_4:Int),x_4∈x_3.2.1->x_4∈x.2)/\((x.2.length:Int) - (x_3.2.2+1)).toNat<((x.2.length:Int) - x_3.2.2).toNat))/\(decide (x_3.2.2<(x.2.length:Int))=false->((0:Int)<=0/\0<=(x_3.2.1.length:Int)/\Seen x_3.1 x_3.2.1/\(∀ (x_4:Int),x_4∈x.2->x_4∈x_3.2.1)/\(∀ (x_4:Int),x_4∈x_3.2.1->Rch x.1 x.2 x_4)/\∀ (x_4:Int),x_4∈List.take (Int.toNat 0) x_3.2.1->∀ (y:Int),y∈fu x.1 x_4->y∈x_3.2.1)/\∀ (x_4:List (Int×Bool)×List Int×Int),(0<=x_4.2.2/\x_4.2.2<=(x_4.2.1.length:Int)/\Seen x_4.1 x_4.2.1/\(∀ (x_5:Int),x_5∈x.2->x_5∈x_4.2.1)/\(∀ (x_5:Int),x_5∈x_4.2.1->Rch x.1 x.2 x_5)/\∀ (x_5:Int),x_5∈List.take x_4.2.2.toNat x_4.2.1->∀ (y:Int),y∈fu x.1 x_5->y∈x_4.2.1)->(decide (x_4.2.2<(x_4.2.1.length:Int))=true->0<=x_4.2.2/\x_4.2.2<(x_4.2.1.length:Int)/\x_4.2.2.toNat<x_4.2.1.length/\∀ (_:Array Value),False)/\(decide (x_4.2.2<(x_4.2.1.length:Int))=false->True/\d8 x_4.2.1=(dG x.1 x.2).1/\0=(dG x.1 x.2).2/\True))))/\((!(bq x_1.2.1 (x.2.getD x_2.toNat 0)).isSome)=false->am .i64 (x_2+1)/\(0<=x_2+1/\x_2+1<=(x.2.length:Int)/\((List.drop (x_2+1).toNat x.2).all fun (x:Int)=>(bq x_1.2.1 x).isSome)=x.2.all fun (x:Int)=>(bq x_1.2.1 x).isSome)/\((x.2.length:Int) - (x_2+1)).toNat<((x.2.length:Int) - x_2).toNat))/\(decide (x_2<(x.2.length:Int))=false->(decide ((0:Int)≠0)=true->([]:List Int)=(dG x.1 x.2).1/\0=(dG x.1 x.2).2/\True)/\(decide ((0:Int)≠0)=false->((0:Int)<=0/\0<=(x.2.length:Int)/\Seen ([]:List (Int×Bool)) ([]:List Int)/\(∀ (x_3:Int),x_3∈List.take (Int.toNat 0) x.2->x_3∈([]:List Int))/\∀ (x_3:Int),x_3∈([]:List Int)->x_3∈x.2)/\∀ (x_3:List (Int×Bool)×List Int×Int),(0<=x_3.2.2/\x_3.2.2<=(x.2.length:Int)/\Seen x_3.1 x_3.2.1/\(∀ (x_4:Int),x_4∈List.take x_3.2.2.toNat x.2->x_4∈x_3.2.1)/\∀ (x_4:Int),x_4∈x_3.2.1->x_4∈x.2)->(decide (x_3.2.2<(x.2.length:Int))=true->0<=x_3.2.2/\x_3.2.2<(x.2.length:Int)/\∀ (_:Array Value),((!(bq x_3.1 (x.2.getD x_3.2.2.toNat 0)).getD false)=true->(x_3.2.1.length+[x.2.getD x_3.2.2.toNat 0].length) * 8<=aL/\am .i64 (x_3.2.2+1)/\(0<=x_3.2.2+1/\x_3.2.2+1<=(x.2.length:Int)/\Seen (fW x_3.1 (x.2.getD x_3.2.2.toNat 0) true) (x_3.2.1++[x.2.getD x_3.2.2.toNat 0])/\(∀ (x_4:Int),x_4∈List.take (x_3.2.2+1).toNat x.2->x_4∈x_3.2.1++[x.2.getD x_3.2.2.toNat 0])/\∀ (x_4:Int),x_4∈x_3.2.1++[x.2.getD x_3.2.2.toNat 0]->x_4∈x.2)/\((x.2.length:Int) - (x_3.2.2+1)).toNat<((x.2.length:Int) - x_3.2.2).toNat)/\((!(bq x_3.1 (x.2.getD x_3.2.2.toNat 0)).getD false)=false->am .i64 (x_3.2.2+1)/\(0<=x_3.2.2+1/\x_3.2.2+1<=(x.2.length:Int)/\Seen x_3.1 x_3.2.1/\(∀ (x_4:Int),x_4∈List.take (x_3.2.2+1).toNat x.2->x_4∈x_3.2.1)/\∀ (x_4:Int),x_4∈x_3.2.1->x_4∈x.2)/\((x.2.length:Int) - (x_3.2.2+1)).toNat<((x.2.length:Int) - x_3.2.2).toNat))/\(decide (x_3.2.2<(x.2.length:Int))=false->((0:Int)<=0/\0<=(x_3.2.1.length:Int)/\Seen x_3.1 x_3.2.1/\(∀ (x_4:Int),x_4∈x.2->x_4∈x_3.2.1)/\(∀ (x_4:Int),x_4∈x_3.2.1->Rch x.1 x.2 x_4)/\∀ (x_4:Int),x_4∈List.take (Int.toNat 0) x_3.2.1->∀ (y:Int),y∈fu x.1 x_4->y∈x_3.2.1)/\∀ (x_4:List (Int×Bool)×List Int×Int),(fun (v3:type_of% ((bq x_1.2.1 (x_4.2.1.getD x_4.2.2.toNat 0)).getD (0,0,0,false)))=>(fun (v2:type_of% (x_4.2.1.getD x_4.2.2.toNat 0+1))=>(fun (v1:type_of% (List.take (x_4.2.1.getD x_4.2.2.toNat 0+1+v3.1).toNat x_1.1.1))=>(fun (v0:type_of% (List.drop v2.toNat v1))=>(0<=x_4.2.2/\x_4.2.2<=(x_4.2.1.length:Int)/\Seen x_4.1 x_4.2.1/\(∀ (x_5:Int),x_5∈x.2->x_5∈x_4.2.1)/\(∀ (x_5:Int),x_5∈x_4.2.1->Rch x.1 x.2 x_5)/\∀ (x_5:Int),x_5∈List.take x_4.2.2.toNat x_4.2.1->∀ (y:Int),y∈fu x.1 x_5->y∈x_4.2.1)->(decide (x_4.2.2<(x_4.2.1.length:Int))=true->0<=x_4.2.2/\x_4.2.2<(x_4.2.1.length:Int)/\x_4.2.2.toNat<x_4.2.1.length/\∀ (_:Array Value),am .i64 v2/\am .i64 v2/\am .i64 (x_4.2.1.getD x_4.2.2.toNat 0+1+v3.1)/\0<=x_4.2.1.getD x_4.2.2.toNat 0+1/\x_4.2.1.getD x_4.2.2.toNat 0+1<=x_4.2.1.getD x_4.2.2.toNat 0+1+v3.1/\x_4.2.1.getD x_4.2.2.toNat 0+1+v3.1<=(x_1.1.1.length:Int)/\((0:Int)<=0/\0<=(v0.length:Int)/\Seen x_4.1 x_4.2.1/\(∃ (k:List Int),x_4.2.1=x_4.2.1++k/\∀ (x:Int),x∈k->x+1∈List.drop v2.toNat v1/\x+1≠0)/\∀ (v:Int),v∈List.take (Int.toNat 0) v0->v≠0->v - 1∈x_4.2.1)/\∀ (x_5:List (Int×Bool)×List Int×Int),(fun (v4:type_of% (v0.getD x_5.2.2.toNat 0))=>(0<=x_5.2.2/\x_5.2.2<=(v0.length:Int)/\Seen x_5.1 x_5.2.1/\(∃ (k:List Int),x_5.2.1=x_4.2.1++k/\∀ (x:Int),x∈k->x+1∈List.drop v2.toNat v1/\x+1≠0)/\∀ (v:Int),v∈List.take x_5.2.2.toNat v0->v≠0->v - 1∈x_5.2.1)->(decide (x_5.2.2<(v0.length:Int))=true->0<=x_5.2.2/\x_5.2.2<(v0.length:Int)/\(decide (v0.getD x_5.2.2.toNat (0:Int)≠0)=true->am .i64 (IntKind.i64.wrap v4 - 1)/\∀ (_:Array Value),((!(bq x_5.1 (IntKind.i64.wrap v4 - 1)).getD false)=true->(x_5.2.1.length+[IntKind.i64.wrap v4 - 1].length) * 8<=aL/\am .i64 (x_5.2.2+1)/\(0<=x_5.2.2+1/\x_5.2.2+1<=(v0.length:Int)/\Seen (fW x_5.1 (IntKind.i64.wrap v4 - 1) true) (x_5.2.1++[IntKind.i64.wrap v4 - 1])/\(∃ (k:List Int),x_5.2.1++[IntKind.i64.wrap v4 - 1]=x_4.2.1++k/\∀ (x:Int),x∈k->x+1∈List.drop v2.toNat v1/\x+1≠0)/\∀ (v:Int),v∈List.take (x_5.2.2+1).toNat v0->v≠0->v - 1∈x_5.2.1++[IntKind.i64.wrap v4 - 1])/\((v0.length:Int) - (x_5.2.2+1)).toNat<((v0.length:Int) - x_5.2.2).toNat)/\((!(bq x_5.1 (IntKind.i64.wrap v4 - 1)).getD false)=false->am .i64 (x_5.2.2+1)/\(0<=x_5.2.2+1/\x_5.2.2+1<=(v0.length:Int)/\Seen x_5.1 x_5.2.1/\(∃ (k:List Int),x_5.2.1=x_4.2.1++k/\∀ (x:Int),x∈k->x+1∈List.drop v2.toNat v1/\x+1≠0)/\∀ (v:Int),v∈List.take (x_5.2.2+1).toNat v0->v≠0->v - 1∈x_5.2.1)/\((v0.length:Int) - (x_5.2.2+1)).toNat<((v0.length:Int) - x_5.2.2).toNat))/\(decide (v0.getD x_5.2.2.toNat (0:Int)≠0)=false->am .i64 (x_5.2.2+1)/\(0<=x_5.2.2+1/\x_5.2.2+1<=(v0.length:Int)/\Seen x_5.1 x_5.2.1/\(∃ (k:List Int),x_5.2.1=x_4.2.1++k/\∀ (x:Int),x∈k->x+1∈List.drop v2.toNat v1/\x+1≠0)/\∀ (v:Int),v∈List.take (x_5.2.2+1).toNat v0->v≠0->v - 1∈x_5.2.1)/\((v0.length:Int) - (x_5.2.2+1)).toNat<((v0.length:Int) - x_5.2.2).toNat))/\(decide (x_5.2.2<(v0.length:Int))=false->am .i64 (x_4.2.2+1)/\(0<=x_4.2.2+1/\x_4.2.2+1<=(x_5.2.1.length:Int)/\Seen x_5.1 x_5.2.1/\(∀ (x_6:Int),x_6∈x.2->x_6∈x_5.2.1)/\(∀ (x_6:Int),x_6∈x_5.2.1->Rch x.1 x.2 x_6)/\∀ (x_6:Int),x_6∈List.take (x_4.2.2+1).toNat x_5.2.1->∀ (y:Int),y∈fu x.1 x_6->y∈x_5.2.1)/\(256 - (x_4.2.2+1)).toNat<(256 - x_4.2.2).toNat)) (v0.getD x_5.2.2.toNat 0))/\(decide (x_4.2.2<(x_4.2.1.length:Int))=false->True/\d8 x_4.2.1=(dG x.1 x.2).1/\0=(dG x.1 x.2).2/\True)) (List.drop v2.toNat v1)) (List.take (x_4.2.1.getD x_4.2.2.toNat 0+1+v3.1).toNat x_1.1.1)) (x_4.2.1.getD x_4.2.2.toNat 0+1)) ((bq x_1.2.1 (x_4.2.1.getD x_4.2.2.toNat 0)).getD (0,0,0,false)))))))
theorem Gl:BC:=by
 unfold BC;intro ⟨a,f⟩ ⟨⟨hb,hw⟩,hbf,hf⟩ _ tm;unfold aL at hb hbf;simp only at hb hw hbf hf |-;refine ⟨trivial,fun hc=>⟨fun _=>?_,fun hn=>by rw [hc] at hn; cases hn⟩,fun hc=>?_⟩
 ·have hc:=Nw hc;have e:aZ a f=(ak a).2.2:=by unfold aZ; rw [if_pos hc]
  have e2:dG a f=([],(ak a).2.2):=by unfold dG; rw [e,if_pos hc]
  rw [e2];exact ⟨rfl,rfl,trivial⟩
 have hc:(ak a).2.2=0:=by simpa using Nx hc
 obtain ⟨hal,_,_,hz,_,_,_⟩:=bg hc;have hsl:=eZ a;have hsp:=eJ a;have hget:=fun x=>HQ (bV a) x
 have hbl:=jG (ac a).1;refine ⟨trivial,⟨by omega,by omega,trivial,rfl,rfl⟩,fun ⟨⟨a1,⟨⟩,out⟩,m,i⟩ ⟨i0,i1,i2,i3,i4⟩=>⟨fun hlt=>?_,fun hge=>?_⟩⟩
 ·simp only at i0 i1 i2 i3 i4 hlt |-;have hlt:=Nw hlt;have hs:=hsp _ (aH ((0,0,0,0,false):aw) i0 hlt);have ht:=bx ((0,0,0,0,false):aw) i0 hlt;rw [bz ((0,0,0,0,false):aw) i0 hlt] at i4;simp only [ew] at i4
  have hol:out.length<=256:=by
   rw [i3];have:=jG (List.take i.toNat (ac a).1);rw [NN] at this;omega
  rw [ht,nu,<- i3];generalize (ac a).1.getD i.toNat (0,0,0,0,false)=s at *;simp only [am];refine ⟨i0,hlt,by omega,fun hf0=>?_,fun hf0=>?_⟩
  ·have hf0:¬ s.2.2.2.2=true:=by simpa using hf0
   have e:aY [s]=[s.1]:=by simp only [aY]; rw [if_neg hf0]
   rw [if_neg hf0] at i4;rw [e];unfold aL;simp only [Pk];exact ⟨by omega,by omega,⟨by omega,by omega,i2,trivial,i4⟩,by omega⟩
  ·have hf0:s.2.2.2.2=true:=by simpa using hf0
   have e:aY [s]=[]:=by simp only [aY]; rw [if_pos hf0]
   rw [if_pos hf0] at i4;rw [e,Om];exact ⟨by omega,⟨by omega,by omega,i2,rfl,i4⟩,by omega⟩
 simp only at i0 i1 i2 i3 i4 hge |-;have hge:=Nx hge;rw [cq hge] at i4;have i4:m=ln (ac a).1:=i4;subst i4 i2;have hsome:∀ x,(bq (ln (ac a1).1) x).isSome=isB (ac a1).1 x:=fun x=>by rw [hget]; cases isB (ac a1).1 x <;> rfl
 simp only [hsome];refine ⟨⟨by omega,by omega,rfl⟩,fun j ⟨j0,j1,j2⟩=>⟨fun hlt=>?_,fun hge=>⟨fun h=>by simp at h,fun _=>?_⟩⟩⟩
 ·have hlt:=Nw hlt;rw [bz (0:Int) j0 hlt,OB] at j2;simp only [am];refine ⟨j0,hlt,fun hn=>⟨fun _=>?_,fun h=>by simp at h⟩,fun hn=>⟨by omega,⟨by omega,by omega,?_⟩,by omega⟩⟩
  ·have hn:isB (ac a1).1 (f.getD j.toNat 0)=false:=by simpa using hn
   rw [hn,Py] at j2;have e:aZ a1 f=5:=by unfold aZ; rw [if_neg (by omega),<- j2]; rfl
   have e2:dG a1 f=([],5):=by unfold dG; rw [e]; rfl
   rw [e2];exact ⟨rfl,rfl,trivial⟩
  ·have hn:isB (ac a1).1 (f.getD j.toNat 0)=true:=by simpa using hn
   rw [hn,OU] at j2;exact j2
 rw [cq (Nx hge),P8] at j2;have hfb:∀ x∈f,isB (ac a1).1 x=true:=NH.1 j2.symm;have e0:aZ a1 f=0:=jc hc hfb;have e1:dG a1 f=(bF a1 f,0):=by unfold dG; rw [e0]; rfl
 rw [e1];clear i0 i1 i3 hge j0 j1 j2;have hrch:∀ x,Rch a1 f x->0<=x/\x<=255:=fun x hx=>gF (hx.isB hw hc hfb)
 refine ⟨⟨by omega,by omega,Seen.new,fun x hx=>by simp at hx,fun x hx=>by cases hx⟩,fun ⟨m,o,i⟩ ⟨i0,i1,i2,i3,i4⟩=>⟨fun hlt=>?_,fun hge=>?_⟩⟩
 ·simp only at i0 i1 i2 i3 i4 hlt |-;have hlt:=Nw hlt;have ht:=bx (0:Int) i0 hlt;have hm:=aH (0:Int) i0 hlt;generalize f.getD i.toNat 0=x at *;have hol:=mS i2.nodup (fun y hy=>hrch y (.base (i4 y hy)));rw [ht];unfold aL;simp only [am,Pk];refine ⟨i0,hlt,fun _=>⟨fun hn=>⟨by omega,by omega,⟨by omega,by omega,i2.add hn,fun y hy=>?_,fun y hy=>?_⟩,by omega⟩,fun hn=>⟨by omega,⟨by omega,by omega,i2,fun y hy=>?_,i4⟩,by omega⟩⟩⟩
  ·rcases NI.1 hy with hy | hy
   ·exact ND _ (i3 y hy)
   ·exact NF _ hy
  ·rcases NI.1 hy with hy | hy
   ·exact i4 y hy
   ·rw [NL.1 hy]; exact hm
  ·rcases NI.1 hy with hy | hy
   ·exact i3 y hy
   ·rw [NL.1 hy]; exact i2.mem hn
 simp only at i0 i1 i2 i3 i4 hge |-;rw [cn (Nx hge)] at i3;refine ⟨⟨by omega,by omega,i2,i3,fun x hx=>.base (i4 x hx),fun x hx=>by simp at hx⟩,fun ⟨m2,o2,k⟩ ⟨k0,k1,k2,k3,k4,k5⟩=>⟨fun hlt=>?_,fun hge=>?_⟩⟩
 ·clear i0 i1 i2 i3 i4 hge;simp only at k0 k1 k2 k3 k4 k5 hlt |-;have hlt:=Nw hlt;have ht:=bx (0:Int) k0 hlt;have hm:=aH (0:Int) k0 hlt;have hol:=mS k2.nodup (fun y hy=>hrch y (k4 y hy));generalize hat:o2.getD k.toNat 0=at_ at *;have hib:=(k4 at_ hm).isB hw hc hfb;have hh:((bq (ln (ac a1).1) at_).getD (0,0,0,false))=eG a1 at_:=by rw [hget,if_pos hib]; rfl
  obtain ⟨l1,_,l3,l4,l5,l6⟩:=bW hib;have hrf:=nG hw hc _ (fj hib).1;have hrs:List.drop (at_+1).toNat (List.take (at_+1+(eG a1 at_).1).toNat a1)=bH a1 at_:=rfl
  have hout:∀ y,y∈fu a1 at_ ↔ (y+1∈bH a1 at_/\y+1≠0):=by
   intro y;unfold fu;simp only [NZ,OC,N5];constructor
   ·rintro ⟨v,⟨hv,h0⟩,rfl⟩;rw [Int.sub_add_cancel];exact ⟨hv,h0⟩
   ·rintro ⟨h1,h2⟩;exact ⟨y+1,⟨h1,h2⟩,by omega⟩
  have hstep:∀ y,y+1∈bH a1 at_->y+1≠0->Rch a1 f y:=fun y h1 h2=>.step (k4 at_ hm) ((hout y).2 ⟨h1,h2⟩)
  rw [hh,hrs]
  have hwr:∀ v∈bH a1 at_,IntKind.i64.wrap v=v/\0<=v/\v<=256:=fun v hv=>by
   rcases hrf v hv with e | ⟨h1,h2,_⟩
   ·subst e; exact ⟨m4 (by omega) (by omega),by omega,by omega⟩
   ·exact ⟨m4 (by omega) (by omega),by omega,by omega⟩
  generalize hrs0:bH a1 at_=rs at *;simp only [am];refine ⟨k0,hlt,by omega,fun _=>⟨by omega,by omega,by omega,by omega,by omega,by omega,⟨by omega,by omega,k2,⟨[],by simp,fun x hx=>by cases hx⟩,fun v hv=>by simp at hv⟩,fun ⟨m3,o3,j⟩ ⟨j0,j1,j2,⟨kk,j3,j4⟩,j5⟩=>⟨fun hj=>?_,fun hj=>?_⟩⟩⟩
  ·simp only at j0 j1 j2 j3 j4 j5 hj |-;have hj:=Nw hj;have ht2:=bx (0:Int) j0 hj;have hv:=aH (0:Int) j0 hj;generalize rs.getD j.toNat 0=v at *;obtain ⟨w1,w2,w3⟩:=hwr v hv
   have hol3:=mS j2.nodup (fun y hy=>hrch y (by
    rw [j3] at hy;rcases NI.1 hy with hy | hy
    ·exact k4 y hy
    ·exact hstep y (j4 y hy).1 (j4 y hy).2))
   rw [w1,ht2];unfold aL;simp only [Pk];refine ⟨j0,hj,fun hne=>⟨by omega,fun _=>⟨fun hn=>⟨by omega,by omega,⟨by omega,by omega,j2.add hn,⟨kk++[v - 1],by rw [j3,List.append_assoc],fun y hy=>?_⟩,fun y hy hy0=>?_⟩,by omega⟩,fun hn=>⟨by omega,⟨by omega,by omega,j2,⟨kk,j3,j4⟩,fun y hy hy0=>?_⟩,by omega⟩⟩⟩,fun hne=>⟨by omega,⟨by omega,by omega,j2,⟨kk,j3,j4⟩,fun y hy hy0=>?_⟩,by omega⟩⟩
   ·rcases NI.1 hy with hy | hy
    ·exact j4 y hy
    ·rw [NL.1 hy,Int.sub_add_cancel];exact ⟨hv,Nw hne⟩
   ·rcases NI.1 hy with hy | hy
    ·exact ND _ (j5 y hy hy0)
    ·rw [NL.1 hy]; simp
   ·rcases NI.1 hy with hy | hy
    ·exact j5 y hy hy0
    ·rw [NL.1 hy]; exact j2.mem hn
   ·rcases NI.1 hy with hy | hy
    ·exact j5 y hy hy0
    ·rw [NL.1 hy] at hy0;exact absurd hy0 (by simpa using Nx hne)
  ·simp only at j0 j1 j2 j3 j4 j5 hj |-;rw [cn (Nx hj)] at j5;have hlen3:o2.length<=o3.length:=by rw [j3]; simp
   have e3:o3.take (k+1).toNat=o2.take k.toNat++[at_]:=by rw [j3,N6 (by omega),ht]
   rw [e3];refine ⟨by omega,⟨by omega,by omega,j2,fun x hx=>by rw [j3]; exact ND _ (k3 x hx),fun x hx=>?_,fun x hx y hy=>?_⟩,by omega⟩
   ·rw [j3] at hx;rcases NI.1 hx with hx | hx
    ·exact k4 x hx
    ·exact hstep x (j4 x hx).1 (j4 x hx).2
   ·rcases NI.1 hx with hx | hx
    ·rw [j3]; exact ND _ (k5 x hx y hy)
    ·rw [NL.1 hx] at hy;obtain ⟨q1,q2⟩:=(hout y).1 hy;have:=j5 _ q1 q2
     rwa [Int.add_sub_cancel] at this
 ·simp only at k0 k1 k2 k3 k4 k5 hge |-;rw [cn (Nx hge)] at k5;exact ⟨trivial,(Full.mk k3 k4 k5).sorted hw hc hfb k2.nodup,trivial,trivial⟩
theorem Jq:IR.ok Tryz.prog 29:=aF (ann:=Ks) (ae i6 (ae iZ (kY tY ap))) Tryz.func29 (by kernel_rfl) Gl
end
section
def A7:Spec:={ Ts:=[.nil,ty_I],Rs:=[.own 3 ty_I],pre:=fun ((_,n):Unit×Int)=>0<=n/\n.toNat * 8<=aL,F:=fun _=>([]:List Int) }
def ry:Prop :=
  ∀ (x:Unit×Int),True/\am .i64 x.2->0<=x.2/\x.2.toNat * 8<=aL->(decide (x.2<0)=true->False)/\(decide (x.2<0)=false->am .i64 (0 - 0)/\am .i64 (x.2 - (0 - 0))/\(decide (0<x.2 - (0 - 0))=true->(0:Int)=0/\0<x.2 - (0 - 0)/\(x.2 - (0 - 0)).toNat * 8<=aL/\(0:Int)<=0/\0<=(↑(List.replicate (x.2 - (0 - 0)).toNat (0:Int)).length:Int)/\List.take (Int.toNat 0) (List.replicate (x.2 - (0 - 0)).toNat (0:Int))=([]:List Int)/\True)/\(decide (0<x.2 - (0 - 0))=false->([]:List Int)=([]:List Int)/\True))
theorem yb:ry:=by
 unfold ry;intro ⟨_,n⟩ ⟨_,hn⟩ ⟨h0,hb⟩;simp only [am] at *;refine ⟨fun h=>?_,fun _=>⟨by omega,by omega,fun h=>⟨trivial,by have:=Nw h; omega,by simpa using hb,by omega,by omega,by simp,trivial⟩,fun _=>by simp⟩⟩;have:=Nw h;omega
theorem B4:A7.ok Tryz.prog 226:=aF (ann:=cr) ap Tryz.func226 (by kernel_rfl) yb
def vI:Spec:={ Ts:=[.arr (.arr ty_I)],Rs:=[.own 3 ty_I],pre:=fun (xs:List (List Int))=>xs.flatten.length * 8<=aL,F:=fun (xs:List (List Int))=>xs.flatten }
def wu:Nat->Option LoopGen
 | 3=>some { rd:=[.dat 9 (.arr (.arr ty_I))],A:=fun (xs:List (List Int))=>{ cs:=[.dat 3 ty_I,.dat 11 ty_I],inv:=fun ((n,i):Int×Int)=>0<=i/\i<=xs.length/\n=((xs.take i.toNat).flatten.length:Int)/\xs.flatten.length * 8<=aL,mu:=fun ((_,i):Int×Int)=>(xs.length - i).toNat } }
 | 11=>some { rd:=[.dat 25 (.arr (.arr ty_I))],A:=fun (xs:List (List Int))=>{ cs:=[.own 6 3 ty_I,.dat 27 ty_I],inv:=fun ((out,i):List Int×Int)=>0<=i/\i<=xs.length/\out++(xs.drop i.toNat).flatten=xs.flatten,mu:=fun ((_,i):List Int×Int)=>(xs.length - i).toNat } }
 | _=>none
def nc:Prop :=
  ∀ (x:List (List Int)),(x.length * 24<=aL/\∀ (x_1:List Int),x_1∈x->x_1.length * 8<=aL/\∀ (x:Int),x∈x_1->am .i64 x)->x.flatten.length * 8<=aL->((0:Int)<=0/\0<=(x.length:Int)/\0=(↑(List.take (Int.toNat 0) x).flatten.length:Int)/\x.flatten.length * 8<=aL)/\∀ (x_1:Int×Int),0<=x_1.2/\x_1.2<=(x.length:Int)/\x_1.1=(↑(List.take x_1.2.toNat x).flatten.length:Int)/\x.flatten.length * 8<=aL->(decide (x_1.2<(x.length:Int))=true->0<=x_1.2/\x_1.2<(x.length:Int)/\am .i64 (x_1.1+(↑(x.getD x_1.2.toNat ([]:List Int)).length:Int))/\(decide (x_1.1+(↑(x.getD x_1.2.toNat ([]:List Int)).length:Int)<0)=true->False)/\(decide (x_1.1+(↑(x.getD x_1.2.toNat ([]:List Int)).length:Int)<0)=false->am .i64 (x_1.2+1)/\(0<=x_1.2+1/\x_1.2+1<=(x.length:Int)/\x_1.1+(↑(x.getD x_1.2.toNat ([]:List Int)).length:Int)=(↑(List.take (x_1.2+1).toNat x).flatten.length:Int)/\x.flatten.length * 8<=aL)/\((x.length:Int) - (x_1.2+1)).toNat<((x.length:Int) - x_1.2).toNat))/\(decide (x_1.2<(x.length:Int))=false->(0<=x_1.1/\x_1.1.toNat * 8<=aL)/\((0:Int)<=0/\0<=(x.length:Int)/\([]:List Int)++(List.drop (Int.toNat 0) x).flatten=x.flatten)/\∀ (x_2:List Int×Int),0<=x_2.2/\x_2.2<=(x.length:Int)/\x_2.1++(List.drop x_2.2.toNat x).flatten=x.flatten->(decide (x_2.2<(x.length:Int))=true->0<=x_2.2/\x_2.2<(x.length:Int)/\(x_2.1.length+(x.getD x_2.2.toNat ([]:List Int)).length) * 8<=aL/\am .i64 (x_2.2+1)/\(0<=x_2.2+1/\x_2.2+1<=(x.length:Int)/\x_2.1++x.getD x_2.2.toNat ([]:List Int)++(List.drop (x_2.2+1).toNat x).flatten=x.flatten)/\((x.length:Int) - (x_2.2+1)).toNat<((x.length:Int) - x_2.2).toNat)/\(decide (x_2.2<(x.length:Int))=false->x_2.1=x.flatten/\True))
theorem sS:nc:=by
 unfold nc;intro xs ⟨hx,_⟩ hb;simp only [am] at *;unfold aL at *
 have hpart:∀ k,(xs.take k).flatten.length<=xs.flatten.length:=fun k=>by
  have:=congrArg List.length (congrArg List.flatten (OD k xs));rw [List.flatten_append,NE] at this;omega
 refine ⟨⟨by omega,by omega,by simp,hb⟩,fun ⟨n,i⟩ ⟨h0,h1,h2,_⟩=>⟨fun hlt=>?_,fun hge=>?_⟩⟩
 ·have hlt:i<(xs.length:Int):=by simpa using hlt
  have e:=bx ([]:List Int) h0 hlt;have hp:=hpart (i+1).toNat;rw [e] at hp |-;simp only [List.flatten_append,NE,List.flatten_cons,List.flatten_nil,Om] at *;refine ⟨h0,hlt,by omega,fun hc=>?_,fun _=>⟨by omega,⟨by omega,by omega,by push_cast; omega,hb⟩,by omega⟩⟩;have:=Nw hc;omega
 ·have hge:¬ i<(xs.length:Int):=by simpa using hge
  rw [cn hge] at h2;simp only at *;refine ⟨⟨by omega,by omega⟩,⟨by omega,by omega,by simp⟩,fun ⟨out,j⟩ ⟨g0,g1,g2⟩=>⟨fun hlt=>?_,fun hge=>?_⟩⟩
  ·have hlt:j<(xs.length:Int):=by simpa using hlt
   simp only at *;rw [bz ([]:List Int) g0 hlt,List.flatten_cons] at g2;have hl:=congrArg List.length g2;simp only [NE] at hl;exact ⟨g0,hlt,by omega,by omega,⟨by omega,by omega,by rw [List.append_assoc]; exact g2⟩,by omega⟩
  ·rw [cq (by simpa using hge)] at g2;simp only [List.flatten_nil,Om] at g2;exact ⟨g2,trivial⟩
theorem nj:vI.ok Tryz.prog 169:=aF (ann:=wu) (ae B4 ap) Tryz.func169 (by kernel_rfl) sS
end
section
theorem iL:∀ {l:List Int},l.Pairwise (·<·)->bb l=true
 | [],_=>rfl
 | [_],_=>rfl
 | x::y::l,h=>by
  obtain ⟨h1,h2⟩:=Oc.1 h;simp only [bb,NA,N5];exact ⟨h1 y (by simp),iL h2⟩
theorem r8 {a f p:List Int} (hw:∀ x∈a,am .u64 x) (h:aZ a (f++p)=0) (hp:bb p=true):aS a (bF a (f++p)) p=((bF a (f++p)).map (df (ac a).1),0):=by
 obtain ⟨h1,h2⟩:=eN h;have hr:=fun x=>ia (a:=a) (from_:=f++p) hw h1 h2 (x:=x)
 have e1:bb (bF a (f++p))=true:=iL (k9 _ _);have e2:(bF a (f++p)).all (isB (ac a).1)=true:=NH.2 fun x hx=>((hr x).1 hx).isB hw h1 h2
 have e3:p.all (fx (bF a (f++p)))=true:=NH.2 fun x hx=>cu.2 ((hr x).2 (.base (by simp [hx])))
 unfold aS;rw [if_neg (by omega),e1,hp,e2,e3];simp
theorem uZ {a f p:List Int} (hw:∀ x∈a,am .u64 x) (h:aZ a (f++p)=0) (to:List Int):((bF a (f++p)).all fun x=>eV (bF a (f++p)) to (bH a x))=true:=by
 obtain ⟨h1,h2⟩:=eN h;have hr:=fun x=>ia (a:=a) (from_:=f++p) hw h1 h2 (x:=x)
 refine NH.2 fun x hx=>NH.2 fun v hv=>?_
 unfold kJ;by_cases h0:v=0
 ·rw [if_pos h0]; rfl
 ·have h3:v - 1∈fu a x:=by
   unfold fu;exact NZ.2 ⟨v,OC.2 ⟨hv,by simpa using h0⟩,rfl⟩
  rw [if_neg h0,if_pos (cu.2 ((hr _).2 (.step ((hr _).1 hx) h3)))];rfl
def aq (a f p:List Int):List Int×List Int×Int :=
 if aZ a (f++p)≠0 then ([],[],aZ a (f++p)) else
 if bb p=false then ([],[],3) else
 ((dZ a (bF a (f++p)) p).1,f.map fun x=>(aA (bF a (f++p)) ((bF a (f++p)).map (df (ac a).1)) p).getD (cC (bF a (f++p)) x).toNat 0,0)
theorem jv {l:List Int} {x:Int} (h:x∈l):0<=cC l x/\cC l x<l.length:=by
 have h1:=dX (fun y=>decide (y=x)) l 0 (by omega);have h2:=dV (fun y=>decide (y=x)) x l 0 (by omega);have h3:(l.any fun y=>decide (y=x))=true:=cu.2 h;rw [h3] at h1;exact ⟨Nw h1,by unfold cC; omega⟩
theorem mD {a f p:List Int} (hw:∀ x∈a,am .u64 x) (h:aZ a (f++p)=0) (hp:bb p=true) :
  dZ a (bF a (f++p)) p=((Bi a (bF a (f++p)) p).1,aA (bF a (f++p)) ((bF a (f++p)).map (df (ac a).1)) p,0)/\(Bi a (bF a (f++p)) p).2=true:=by
 have e:=r8 hw h hp;have hg:=uZ hw h (aA (bF a (f++p)) ((bF a (f++p)).map (df (ac a).1)) p);unfold dZ Bi;rw [e];simp only;rw [if_neg (by omega),if_pos hg,if_pos hg];exact ⟨rfl,rfl⟩
theorem pO {a f p:List Int} (h:aZ a (f++p)=0) (hp:bb p=false):dZ a (bF a (f++p)) p=([],[],3):=by
 obtain ⟨h1,_⟩:=eN h
 have e:aS a (bF a (f++p)) p=([],3):=by
  unfold aS;rw [if_neg (by omega),hp,Bool.and_false,if_pos rfl]
 unfold dZ;rw [e];rfl
def Ky:Nat->Option LoopGen
 | 9=>some { rd:=[.dat 39 (.arr ty_I),.own 9 3 ty_I,.own 12 3 ty_I],A:=fun ((f,keep,to):List Int×List Int×List Int)=>{ cs:=[.own 13 3 ty_I,.dat 41 ty_I],inv:=fun ((out,i):List Int×Int)=>0<=i/\i<=f.length/\out=(f.take i.toNat).map fun x=>to.getD (cC keep x).toNat 0,mu:=fun ((_,i):List Int×Int)=>(f.length - i).toNat } }
 | _=>none
def I1:Spec:={ Ts:=[.arr bJ,.arr ty_I,.arr ty_I],Rs:=[.own 45 bJ,.own 3 ty_I,.dat ty_I],pre:=fun ((_,f,p):List Int×List Int×List Int)=>(f.length+p.length) * 8<=140737488355328,F:=fun ((a,f,p):List Int×List Int×List Int)=>aq a f p }
def BN:Prop :=
  ∀ (x:List Int×List Int×List Int),(fun (v1:type_of% (aq x.1 x.2.1 x.2.2))=>(fun (v0:type_of% (dG x.1 [x.2.1,x.2.2].flatten))=>((x.1.length * 8<=aL/\∀ (x_1:Int),x_1∈x.1->am .u64 x_1)/\(x.2.1.length * 8<=aL/\∀ (x_1:Int),x_1∈x.2.1->am .i64 x_1)/\x.2.2.length * 8<=aL/\∀ (x_1:Int),x_1∈x.2.2->am .i64 x_1)->(x.2.1.length+x.2.2.length) * 8<=140737488355328->[x.2.1,x.2.2].flatten.length * 8<=aL/\True/\(decide (v0.2≠0)=true->([]:List Int)=v1.1/\([]:List Int)=v1.2.1/\v0.2=v1.2.2/\True)/\(decide (v0.2≠0)=false->True/\(decide ((dZ x.1 v0.1 x.2.2).2.2≠0)=true->([]:List Int)=v1.1/\([]:List Int)=v1.2.1/\(dZ x.1 v0.1 x.2.2).2.2=v1.2.2/\True)/\(decide ((dZ x.1 v0.1 x.2.2).2.2≠0)=false->((0:Int)<=0/\0<=(x.2.1.length:Int)/\([]:List Int)=List.map (fun (x_1:Int)=>(dZ x.1 v0.1 x.2.2).2.1.getD (cC v0.1 x_1).toNat 0) (List.take (Int.toNat 0) x.2.1))/\∀ (x_1:List Int×Int),0<=x_1.2/\x_1.2<=(x.2.1.length:Int)/\x_1.1=List.map (fun (x_2:Int)=>(dZ x.1 v0.1 x.2.2).2.1.getD (cC v0.1 x_2).toNat 0) (List.take x_1.2.toNat x.2.1)->(decide (x_1.2<(x.2.1.length:Int))=true->0<=x_1.2/\x_1.2<(x.2.1.length:Int)/\True/\0<=cC v0.1 (x.2.1.getD x_1.2.toNat 0)/\cC v0.1 (x.2.1.getD x_1.2.toNat 0)<(↑(dZ x.1 v0.1 x.2.2).2.1.length:Int)/\(cC v0.1 (x.2.1.getD x_1.2.toNat 0)).toNat<(dZ x.1 v0.1 x.2.2).2.1.length/\(x_1.1.length+[(dZ x.1 v0.1 x.2.2).2.1.getD (cC v0.1 (x.2.1.getD x_1.2.toNat 0)).toNat 0].length) * 8<=aL/\am .i64 (x_1.2+1)/\(0<=x_1.2+1/\x_1.2+1<=(x.2.1.length:Int)/\x_1.1++[(dZ x.1 v0.1 x.2.2).2.1.getD (cC v0.1 (x.2.1.getD x_1.2.toNat 0)).toNat 0]=List.map (fun (x_2:Int)=>(dZ x.1 v0.1 x.2.2).2.1.getD (cC v0.1 x_2).toNat 0) (List.take (x_1.2+1).toNat x.2.1))/\((x.2.1.length:Int) - (x_1.2+1)).toNat<((x.2.1.length:Int) - x_1.2).toNat)/\(decide (x_1.2<(x.2.1.length:Int))=false->(dZ x.1 v0.1 x.2.2).1=v1.1/\x_1.1=v1.2.1/\0=v1.2.2/\True)))) (dG x.1 [x.2.1,x.2.2].flatten)) (aq x.1 x.2.1 x.2.2)
theorem Gw:BN:=by
 unfold BN;intro ⟨a,f,p⟩ ⟨⟨hb,hw⟩,⟨hbf,_⟩,hbp,_⟩ hsz;unfold aL at hb hbf hbp;simp only at hb hw hbf hbp hsz |-;have hfl:[f,p].flatten=f++p:=by simp
 rw [hfl];have hR:dG a (f++p)=if aZ a (f++p)≠0 then ([],aZ a (f++p)) else (bF a (f++p),0):=rfl
 have hF:aq a f p=if aZ a (f++p)≠0 then ([],[],aZ a (f++p)) else if bb p=false then ([],[],3) else
  ((dZ a (bF a (f++p)) p).1,f.map fun x=>(aA (bF a (f++p)) ((bF a (f++p)).map (df (ac a).1)) p).getD (cC (bF a (f++p)) x).toNat 0,0):=rfl
 refine ⟨by rw [NE]; unfold aL; omega,trivial,fun h=>?_,fun h=>?_⟩
 ·have h:=Nw h;by_cases h0:aZ a (f++p)≠0
  ·rw [hR,if_pos h0,hF,if_pos h0];exact ⟨by first | trivial | rfl,by first | trivial | rfl,by first | trivial | rfl,trivial⟩
  ·rw [hR,if_neg h0] at h;exact absurd rfl h
 have h:=Nx h
 have h0:aZ a (f++p)=0:=by
  by_cases h0:aZ a (f++p)≠0
  ·rw [hR,if_pos h0] at h;exact absurd h0 h
  ·omega
 rw [hR,if_neg (by omega),hF,if_neg (by omega)];simp only;refine ⟨trivial,fun h2=>?_,fun h2=>?_⟩
 ·have h2:=Nw h2
  have h3:bb p=false:=by
   cases h3:bb p
   ·rfl
   ·rw [(mD hw h0 h3).1] at h2;exact absurd rfl h2
  rw [if_pos h3,pO h0 h3];exact ⟨by first | trivial | rfl,by first | trivial | rfl,by first | trivial | rfl,trivial⟩
 have h3:bb p=true:=by
  cases h3:bb p
  ·rw [pO h0 h3] at h2;exact absurd h2 (by decide)
  ·rfl
 rw [if_neg (by rw [h3]; simp),(mD hw h0 h3).1];simp only;obtain ⟨k1,k2⟩:=eN h0;have hin:∀ x∈f,x∈bF a (f++p):=fun x hx=>(ia hw k1 k2).2 (.base (by simp [hx]))
 have hpl:(aA (bF a (f++p)) ((bF a (f++p)).map (df (ac a).1)) p).length=(bF a (f++p)).length:=by simp [aA]
 generalize aA (bF a (f++p)) ((bF a (f++p)).map (df (ac a).1)) p=to at *;generalize bF a (f++p)=keep at *;refine ⟨⟨by omega,by omega,rfl⟩,fun ⟨out,i⟩ ⟨i0,i1,i2⟩=>⟨fun hlt=>?_,fun hge=>?_⟩⟩
 ·simp only at i0 i1 i2 hlt |-;have hlt:=Nw hlt;have hs:=bx (0:Int) i0 hlt;have hx:=jv (hin _ (aH (0:Int) i0 hlt));rw [hs,Ot,<- i2]
  have hol:out.length<=f.length:=by
   rw [i2,Oh,NN];omega
  simp only [am,NC,N8];unfold aL;refine ⟨i0,hlt,trivial,hx.1,by omega,by omega,?_,by omega,⟨by omega,by omega,rfl⟩,by omega⟩
  have:out.length=i.toNat:=by
   rw [i2,Oh,NN];omega
  omega
 ·simp only at i0 i1 i2 hge |-;rw [cn (Nx hge)] at i2;exact ⟨by first | trivial | rfl,i2,by first | trivial | rfl,trivial⟩
theorem B8:I1.ok Tryz.prog 158:=aF (ann:=Ky) (ae nj (ae Jq (ae Jn (ae FL ap)))) Tryz.func158 (by kernel_rfl) Gw
end
section
def refWord (bs:List Int) (k:Int):Int:=if k=-1 then 0 else bs.getD k.toNat 0+1
def bI (k:Int):List Int:=if 0<k then aB (0,k - 1,0,true)::List.replicate (k - 1).toNat 0 else []
end
section
theorem rV {h:dI} (h0:af h=0):aU (aB h)=h/\a8 (aB h)=true:=by
 obtain ⟨h1,h2,h3,h4,h5,h6⟩:=aW h0
 have e:aU (aB h)=h:=by
  obtain ⟨a,b,c,d⟩:=h;simp only at h1 h2 h3 h4 h5;simp only [aB,aU];cases d
  ·simp only [NJ,N4,Ny];refine ⟨by omega,by omega,by omega,OP (by omega)⟩
  ·simp only [if_true,Ny];refine ⟨by omega,by omega,by omega,OI (by omega)⟩
 refine ⟨e,?_⟩;unfold a8;rw [e,h0]
 have:aB h / 281474976710656<=1:=by
  unfold aB;cases h.2.2.2 <;> simp <;> omega
 simp [this]
theorem bA (k:Int):(bI k).length=k.toNat:=by
 unfold bI;split
 ·simp only [NC,N0]; omega
 ·simp only [N8]; omega
def mY (a keep to pinned long:List Int):Nat->List Int
 | 0=>[]
 | i+1=>mY a keep to pinned long i++(bI (fg pinned keep long i - bo pinned keep long i)++gS a keep to (keep.getD i 0))
def aC (at_ k:Int):aw:=(at_,0,k - 1,0,true)
def nC (a keep pinned long:List Int):Nat->List aw
 | 0=>[]
 | i+1=>nC a keep pinned long i++((if bo pinned keep long i<fg pinned keep long i then [aC (bo pinned keep long i) (fg pinned keep long i - bo pinned keep long i)] else [])++[(fg pinned keep long i,eG a (keep.getD i 0))])
section
variable {a keep pinned long:List Int}
theorem iz (to:List Int) (hP:Plan a keep pinned long):∀ i:Nat,i<=keep.length->((mY a keep to pinned long i).length:Int)=bo pinned keep long i
 | 0,_=>by simp [mY,bo]
 | i+1,hi=>by
  have ih:=iz to hP i (by omega);have h1:=hP.le i (by omega);have h2:=hP.lg i (by omega);have h3:=ki (a:=a) (keep:=keep) (to:=to) (hP.isb _ (dQ (i:=i) (by omega)));have e:bo pinned keep long (i+1)=fg pinned keep long i+long.getD i 0:=rfl;rw [e];simp only [mY,NE,bA];omega
theorem Fl (to:List Int) (hP:Plan a keep pinned long):∀ (i:Nat) (R:List Int),i<=keep.length->(gm pinned keep long i).foldl jd (eo a keep to pinned long i++R)=mY a keep to pinned long i++R
 | 0,R,_=>rfl
 | i+1,R,hi=>by
  have hl:=iz to hP i (by omega);have h1:=hP.le i (by omega)
  have e:eo a keep to pinned long (i+1)++R=eo a keep to pinned long i++(qx pinned keep long i++(gS a keep to (keep.getD i 0)++R)):=by
   simp only [eo,List.append_assoc]
  rw [e];simp only [gm,Qh];rw [Fl to hP i _ (by omega)];simp only [mY,List.append_assoc];unfold qx;have e0:(0:Int)<=bo pinned keep long i:=by omega
  generalize fg pinned keep long i=t at *;generalize bo pinned keep long i=s at *;by_cases hc:s<t
  ·rw [if_pos hc];simp only [Po,List.foldl_nil,jd,bI];rw [if_pos (by omega),show (t - s).toNat=(t - s - 1).toNat+1 by omega,Pu,Oq,oD _ (by omega)];rfl
  ·rw [if_neg hc];have:t - s=0:=by omega
   rw [this];rfl
theorem oC (to:List Int) (hP:Plan a keep pinned long):lI a keep to pinned long (b8 a.length keep long pinned)=mY a keep to pinned long keep.length++bI ((a.length:Int) - bo pinned keep long keep.length):=by
 have hl:=iz to hP keep.length (NR _);have he:=hP.en;unfold lI b8;rw [Qh,Fl to hP _ _ (NR _)];generalize bo pinned keep long keep.length=s at *;by_cases hc:s<(a.length:Int)
 ·rw [if_pos hc];simp only [Po,List.foldl_nil,jd,bI];rw [if_pos (by omega),show ((a.length:Int) - s).toNat=((a.length:Int) - s - 1).toNat+1 by omega,Pu,oD _ (by omega)]
 ·rw [if_neg hc];have:(a.length:Int) - s=0:=by omega
  rw [this];rfl
theorem gN {at_ v:Int} {r R:List Int} (h:a8 v=true) (hl:aa (aU v)=1+(r.length:Int)):spotsS at_ (v::r++R)=(spotsS (at_+aa (aU v)) R).map ((at_,aU v)::·):=by
 rw [Oq,cK h (by simp only [NC,NE]; omega)];congr 2;rw [hl,show (1+(r.length:Int)).toNat=r.length+1 by omega,O5,List.drop_left]
theorem Cs {k:Int} (h1:1<=k) (h2:k<=256):af (0,k - 1,0,true)=0:=by
 simp [af,aa]; omega
theorem gv {at_ k:Int} {R:List Int} (h2:k<=256):spotsS at_ (bI k++R)=if 0<k then (spotsS (at_+k) R).map (aC at_ k::·) else spotsS at_ R:=by
 unfold bI;by_cases h:0<k
 ·rw [if_pos h,if_pos h];obtain ⟨e1,e2⟩:=rV (Cs (k:=k) (by omega) h2);have e3:aa (aU (aB (0,k - 1,0,true)))=k:=by rw [e1]; simp [aa]; omega
  rw [gN e2 (by rw [e3,N0]; omega),e3,e1];rfl
 ·rw [if_neg h,if_neg h];rfl
theorem ta (to:List Int) (hP:Plan a keep pinned long):∀ (i:Nat) (R:List Int),i<=keep.length->spotsS 0 (mY a keep to pinned long i++R)=(spotsS (bo pinned keep long i) R).map (nC a keep pinned long i++·)
 | 0,R,_=>by
  simp only [mY,nC,bo,Oa];cases spotsS 0 R <;> rfl
 | i+1,R,hi=>by
  have h1:=hP.le i (by omega);have h2:=hP.lg i (by omega);have hb:=hP.isb _ (dQ (i:=i) (by omega:i<keep.length));obtain ⟨_,_,_,o4,o5,_⟩:=fj hb;have h3:=ki (a:=a) (keep:=keep) (to:=to) hb;have hal:=hP.al;have e:bo pinned keep long (i+1)=fg pinned keep long i+long.getD i 0:=rfl;have e0:=(cf pinned hP.pre i (by omega)).1;have hl:aa (aU (a.getD (keep.getD i 0).toNat 0))=long.getD i 0:=by rw [<- o4,h2]; rfl
  have hpc:∀ s,spotsS s (gS a keep to (keep.getD i 0)++R)=(spotsS (s+long.getD i 0) R).map ((s,eG a (keep.getD i 0))::·):=fun s=>by
   unfold gS at h3 |-;rw [gN o5 (by rw [hl,h2]; simp only [NC] at h3; omega),hl,<- o4]
  simp only [mY,nC,List.append_assoc];rw [ta to hP i _ (by omega),gv (by omega),e];by_cases hc:bo pinned keep long i<fg pinned keep long i
  ·rw [if_pos hc,if_pos (by omega),show bo pinned keep long i+(fg pinned keep long i - bo pinned keep long i)=fg pinned keep long i by omega,hpc];cases spotsS (fg pinned keep long i+long.getD i 0) R <;> simp
  ·rw [if_neg hc,if_neg (by omega),show bo pinned keep long i=fg pinned keep long i by omega,hpc];cases spotsS (fg pinned keep long i+long.getD i 0) R <;> simp
def jN (a keep pinned long:List Int):List aw:=nC a keep pinned long keep.length++(if bo pinned keep long keep.length<(a.length:Int) then [aC (bo pinned keep long keep.length) ((a.length:Int) - bo pinned keep long keep.length)] else [])
theorem oB (to:List Int) (hP:Plan a keep pinned long):(lI a keep to pinned long (b8 a.length keep long pinned)).length=a.length:=by
 have hl:=iz to hP keep.length (NR _);have he:=hP.en;rw [oC to hP,NE,bA];omega
theorem tf (to:List Int) (hP:Plan a keep pinned long):ac (lI a keep to pinned long (b8 a.length keep long pinned))=(jN a keep pinned long,0):=by
 have hl:=oB to hP;have hal:=hP.al;have he:=hP.en;have e0:=(cf pinned hP.pre keep.length (NR _)).1;unfold ac;rw [if_neg (by omega),oC to hP,ta to hP _ _ (NR _)]
 have:spotsS (bo pinned keep long keep.length) (bI ((a.length:Int) - bo pinned keep long keep.length))=some (if bo pinned keep long keep.length<(a.length:Int) then [aC (bo pinned keep long keep.length) ((a.length:Int) - bo pinned keep long keep.length)] else []):=by
  have h:=gv (at_:=bo pinned keep long keep.length) (k:=(a.length:Int) - bo pinned keep long keep.length) (R:=[]) (by omega);rw [Om] at h;rw [h];by_cases hc:bo pinned keep long keep.length<(a.length:Int)
  ·rw [if_pos hc,if_pos (by omega),spotsS]; rfl
  ·rw [if_neg hc,if_neg (by omega),spotsS]
 rw [this];rfl
theorem I3 (to:List Int) (hP:Plan a keep pinned long) (T:List Int) {i:Nat}:∀ (n:Nat),i<n->n<=keep.length->∃ X Y,mY a keep to pinned long n++T=X++(gS a keep to (keep.getD i 0)++Y)/\(X.length:Int)=fg pinned keep long i
 | n+1,hi,hn=>by
  by_cases h:i=n
  ·subst h;have h1:=hP.le i (by omega);have hl:=iz to hP i (by omega);refine ⟨mY a keep to pinned long i++bI (fg pinned keep long i - bo pinned keep long i),T,?_,?_⟩
   ·simp only [mY,List.append_assoc]
   ·rw [NE,bA]; omega
  ·obtain ⟨X,Y,e,hx⟩:=I3 (i:=i) to hP (bI (fg pinned keep long n - bo pinned keep long n)++(gS a keep to (keep.getD n 0)++T)) n (by omega) (by omega);exact ⟨X,Y,by simp only [mY,List.append_assoc]; exact e,hx⟩
theorem Bk {s:aw}:∀ (n:Nat),s∈nC a keep pinned long n->s.2.2.2.2=true/\s.2.1=0\/∃ i,i<n/\s=(fg pinned keep long i,eG a (keep.getD i 0))
 | 0,h=>by cases h
 | n+1,h=>by
  simp only [nC,NI] at h;rcases h with h | h | h
  ·rcases Bk n h with h | ⟨i,hi,e⟩
   ·exact .inl h
   ·exact .inr ⟨i,by omega,e⟩
  ·split at h
   ·rw [NL.1 h]; exact .inl ⟨rfl,rfl⟩
   ·cases h
  ·exact .inr ⟨n,by omega,NL.1 h⟩
theorem th {i:Nat}:∀ (n:Nat),i<n->(fg pinned keep long i,eG a (keep.getD i 0))∈nC a keep pinned long n
 | n+1,hi=>by
  simp only [nC,NI,NL];by_cases h:i=n
  ·subst h; exact .inr (.inr rfl)
  ·exact .inl (th n (by omega))
theorem G6 {s:aw} (h:s∈jN a keep pinned long):s.2.2.2.2=true/\s.2.1=0\/∃ i,i<keep.length/\s=(fg pinned keep long i,eG a (keep.getD i 0)):=by
 unfold jN at h;rcases NI.1 h with h | h
 ·exact Bk _ h
 ·split at h
  ·rw [NL.1 h]; exact .inl ⟨rfl,rfl⟩
  ·cases h
theorem kK {i:Nat} (hi:i<keep.length):(aA keep long pinned).getD i 0=fg pinned keep long i:=by
 unfold aA;rw [List.getD_eq_getElem?_getD,List.getElem?_map,List.getElem?_range hi];rfl
theorem lB:∀ {l:List aw} {t:Int} {h:dI},(t,h)∈l->h.2.2.2=false->t∈aY l
 | s::l,t,h,hm,hf=>by
  simp only [aY];rcases NG.1 hm with e | hm
  ·subst e;rw [if_neg (by rw [hf]; simp)];exact NS
  ·have ih:=lB hm hf;split
   ·exact ih
   ·exact NT _ ih
theorem D2 (hP:Plan a keep pinned long) (hg:(keep.all fun x=>eV keep (aA keep long pinned) (bH a x))=true):ak (lI a keep (aA keep long pinned) pinned long (b8 a.length keep long pinned))=(jN a keep pinned long,cA (jN a keep pinned long),0):=by
 have hs:=tf (aA keep long pinned) hP;have hw:=oC (aA keep long pinned) hP;obtain ⟨A,hA⟩:∃ A,A=lI a keep (aA keep long pinned) pinned long (b8 a.length keep long pinned):=⟨_,rfl⟩;rw [<- hA] at hs hw |-;have hsort:=bV A;rw [hs] at hsort;unfold ak;rw [hs,if_neg (by simp),if_pos];refine NH.2 fun s hm=>NH.2 fun v hv=>?_
 rcases G6 hm with ⟨_,h0⟩ | ⟨i,hi,e⟩
 ·unfold aO at hv;rw [h0,Int.add_zero,N9 (by rw [NN]; omega)] at hv;cases hv
 ·have hb:=hP.isb _ (dQ (i:=i) hi);obtain ⟨l1,l2,l3,l4,l5,l6⟩:=bW hb;have h1:=hP.le i hi;have e0:=(cf pinned hP.pre i (by omega)).1;obtain ⟨X,Y,eW,hX⟩:=I3 (aA keep long pinned) hP (bI ((a.length:Int) - bo pinned keep long keep.length)) keep.length hi (NR _)
  have hr:aO A s=(bH a (keep.getD i 0)).map (jX keep (aA keep long pinned)):=by
   unfold aO;rw [e,hw,eW];simp only;generalize fg pinned keep long i=t at *;obtain ⟨n,rfl⟩:∃ n:Nat,t=n:=⟨X.length,hX.symm⟩;have hn:n=X.length:=by omega
   subst hn;have e1:((X.length:Int)+1+(eG a (keep.getD i 0)).1).toNat=X.length+(1+(bH a (keep.getD i 0)).length):=by omega
   have e2:((X.length:Int)+1).toNat=X.length+1:=by omega
   rw [e1,e2,PJ,Ph];rw [N9 (by rw [NN]; omega),Oa,show X.length+(1+(bH a (keep.getD i 0)).length) - X.length=1+(bH a (keep.getD i 0)).length by omega];rw [NP (by omega:X.length<=_),show X.length+1 - X.length=1 by omega];unfold gS;rw [Nat.add_comm 1,Oq,OR,O5,PQ,List.append_assoc,N6 (by simp),NP (by simp)]
  rw [hr] at hv;obtain ⟨u,hu,rfl⟩:=NZ.1 hv;have hgu:=NH.1 (NH.1 hg _ (dQ (i:=i) hi)) u hu;unfold cA;rw [ju _ _ _ 0 hsort];have e3:jX keep (aA keep long pinned) u=(kJ keep (aA keep long pinned) u).getD 0:=rfl;by_cases h0:u=0
  ·have:jX keep (aA keep long pinned) u=0:=by rw [e3]; unfold kJ; rw [if_pos h0]; rfl
   rw [this];cases mZ 0 0 (jN a keep pinned long) <;> rfl
  ·by_cases h2:fx keep (u - 1)=true
   ·have hp:=jv (cu.1 h2)
    have e4:jX keep (aA keep long pinned) u=fg pinned keep long (cC keep (u - 1)).toNat+1:=by
     rw [e3];unfold kJ;rw [if_neg h0,if_pos h2,kK (by omega)];rfl
    have hj:(cC keep (u - 1)).toNat<keep.length:=by omega
    rw [e4]
    have e5:(mZ (fg pinned keep long (cC keep (u - 1)).toNat+1) 0 (jN a keep pinned long)).isSome=true:=by
     rw [kL,show fg pinned keep long (cC keep (u - 1)).toNat+1 - 1=fg pinned keep long (cC keep (u - 1)).toNat by omega,cu];exact lB (ND _ (th (pinned:=pinned) (long:=long) (a:=a) keep.length hj)) (fj (hP.isb _ (dQ hj))).2.2.2.2.2
    cases hx:mZ (fg pinned keep long (cC keep (u - 1)).toNat+1) 0 (jN a keep pinned long) with
    | none=>rw [hx] at e5; cases e5
    | some k=>rfl
   ·unfold kJ at hgu;rw [if_neg h0,if_neg h2] at hgu;cases hgu
def dC (l:List cR):Int:=(l.map (·.2)).sum
def DE:List aw->Int
 | []=>0
 | s::l=>(if s.2.2.2.2=true then aa s.2 else 0)+DE l
def iU:List aw->Int
 | []=>0
 | s::l=>(if s.2.2.2.2=true then 0 else aa s.2)+iU l
theorem mM (l:List cR) (r:cR):dC (l++[r])=dC l+r.2:=by simp [dC]
theorem GA:∀ (l:List cR) (n:Int),0<l.length->dC (lN l n)=dC l+n:=by
 intro l n h
 obtain ⟨l',r,rfl⟩:∃ l' r,l=l'++[r]:=by
  refine ⟨l.dropLast,l.getLast (by intro e; rw [e] at h; cases h),?_⟩;exact (List.dropLast_concat_getLast _).symm
 unfold lN;have e:(l'++[r]).length - 1=l'.length:=by simp
 have e2:(l'++[r]).getD l'.length (0,0)=r:=by simp
 have e3:∀ x,(l'++[r]).set l'.length x=l'++[x]:=fun x=>by simp
 rw [e,e2,e3,mM,mM];simp only;omega
theorem mN:∀ (l:List aw) (p:Bool) (out:List cR),(p=true->0<out.length)->dC (aM p out l)=dC out+DE l
 | [],_,out,_=>by simp [aM,DE]
 | s::l,p,out,h=>by
  simp only [aM,DE];cases hf:s.2.2.2.2
  ·simp only [NJ,N4];rw [mN l false out (fun h=>by cases h)];omega
  ·simp only [if_true];cases hp:p
   ·simp only [NJ,N4];rw [mN l true _ (fun _=>by simp),mM];simp only;omega
   ·simp only [if_true];rw [mN l true _ (fun _=>by rw [fN]; exact h hp),GA _ _ (h hp)];omega
theorem mL:∀ {l:List aw} {s e:Int},fl s e l->s+DE l+iU l=e
 | [],s,e,h=>by simp only [fl] at h; simp only [DE,iU]; omega
 | x::l,s,e,⟨_,_,h⟩=>by
  have:=mL h;simp only [DE,iU];cases x.2.2.2.2 <;> simp <;> omega
theorem jM:∀ (l k:List aw),iU (l++k)=iU l+iU k
 | [],k=>by simp [iU]
 | s::l,k=>by
  have:=jM l k;simp only [Oq,iU];omega
theorem s6 {l:List Int} {n:Nat} (h:n<l.length):l.take (n+1)=l.take n++[l.getD n 0]:=by
 have:=bx (0:Int) (xs:=l) (i:=(n:Int)) (by omega) (by omega);simpa using this
theorem Bj (hb:∀ x∈keep,isB (ac a).1 x=true):∀ n:Nat,n<=keep.length->iU (nC a keep pinned long n)=((keep.take n).map (df (ac a).1)).sum
 | 0,_=>by simp [nC,iU]
 | n+1,h=>by
  have ih:=Bj hb n (by omega);rw [s6 (by omega)];simp only [nC];rw [jM,jM,ih,Ot,List.sum_append];have hf:=(fj (hb _ (dQ (i:=n) (by omega)))).2.2.2.2.2
  have e1:iU (if bo pinned keep long n<fg pinned keep long n then [aC (bo pinned keep long n) (fg pinned keep long n - bo pinned keep long n)] else [])=0:=by
   split <;> simp [iU,aC]
  have e2:iU [(fg pinned keep long n,eG a (keep.getD n 0))]=df (ac a).1 (keep.getD n 0):=by
   simp only [iU,hf];simp [df,eG]
  rw [e1,e2];simp
theorem G5 (hb:∀ x∈keep,isB (ac a).1 x=true):iU (jN a keep pinned long)=(keep.map (df (ac a).1)).sum:=by
 unfold jN;rw [jM,Bj hb _ (NR _),PW]
 have:iU (if bo pinned keep long keep.length<(a.length:Int) then [aC (bo pinned keep long keep.length) ((a.length:Int) - bo pinned keep long keep.length)] else [])=0:=by
  split <;> simp [iU,aC]
 omega
end
theorem Cq {b:List Int} (h:(ac b).2=0):dC (aM false [] (ac b).1)+iU (ac b).1=b.length:=by
 have:=mL (fG h);rw [mN _ _ _ (fun h=>by cases h)];simp only [dC,Pa,List.sum_nil];omega
end
section
abbrev Dz:Ty:=.pair ty_I ty_I
def bN (n:Int):Int->List (Int×Int)->List Int
 | _,[]=>[]
 | k,r::l=>if n<=r.2 then k::bN n (k+1) l else bN n (k+1) l
def dU (l:List (Int×Int)):Bool:=l.any fun r=>decide (r.1<0)||decide (r.2<1)
def eA (l:List (Int×Int)) (n:Int):List Int×Int:=if n<1 then ([],1) else if dU l then ([],4) else if bN n 0 l=[] then ([],7) else (bN n 0 l,0)
def bu (l:List (Int×Int)) (n:Int):Int×Int:=if (eA l n).2≠0 then (0,(eA l n).2) else ((eA l n).1.getD 0 0,0)
theorem zq (r:Int×Int) (l:List (Int×Int)):dU (r::l)=(decide (r.1<0)||decide (r.2<1)||dU l):=by
 simp [dU]
def LO:Nat->Option LoopGen
 | 5=>some { rd:=[.dat 11 (.arr Dz),.dat 1 ty_I],A:=fun ((l,n):List (Int×Int)×Int)=>{ cs:=[.own 6 3 ty_I,.dat 13 ty_I],inv:=fun ((out,i):List Int×Int)=>0<=i/\i<=l.length/\1<=n/\out.length<=i/\dU (l.drop i.toNat)=dU l/\out++bN n i (l.drop i.toNat)=bN n 0 l,mu:=fun ((_,i):List Int×Int)=>(l.length - i).toNat } }
 | _=>none
def KV:Spec:={ Ts:=[.arr Dz,ty_I],Rs:=[.own 3 ty_I,.dat ty_I],pre:=fun _=>True,F:=fun ((l,n):List (Int×Int)×Int)=>eA l n }
def Fy:Prop :=
  ∀ (x:List (Int×Int)×Int),(x.1.length * (8+8)<=aL/\∀ (x_1:Int×Int),x_1∈x.1->am .i64 x_1.1/\am .i64 x_1.2)/\am .i64 x.2->True->(decide (x.2<1)=true->([]:List Int)=(eA x.1 x.2).1/\1=(eA x.1 x.2).2/\True)/\(decide (x.2<1)=false->((0:Int)<=0/\0<=(x.1.length:Int)/\1<=x.2/\(↑(0:Nat):Int)<=0/\dU (List.drop (Int.toNat 0) x.1)=dU x.1/\([]:List Int)++bN x.2 0 (List.drop (Int.toNat 0) x.1)=bN x.2 0 x.1)/\∀ (x_1:List Int×Int),0<=x_1.2/\x_1.2<=(x.1.length:Int)/\1<=x.2/\(x_1.1.length:Int)<=x_1.2/\dU (List.drop x_1.2.toNat x.1)=dU x.1/\x_1.1++bN x.2 x_1.2 (List.drop x_1.2.toNat x.1)=bN x.2 0 x.1->(decide (x_1.2<(x.1.length:Int))=true->0<=x_1.2/\x_1.2<(x.1.length:Int)/\((decide ((x.1.getD x_1.2.toNat (0,0)).1<0)||decide ((x.1.getD x_1.2.toNat (0,0)).2<1))=true->([]:List Int)=(eA x.1 x.2).1/\4=(eA x.1 x.2).2/\True)/\((decide ((x.1.getD x_1.2.toNat (0,0)).1<0)||decide ((x.1.getD x_1.2.toNat (0,0)).2<1))=false->(decide (x.2<=(x.1.getD x_1.2.toNat (0,0)).2)=true->(x_1.1.length+[x_1.2].length) * 8<=aL/\am .i64 (x_1.2+1)/\(0<=x_1.2+1/\x_1.2+1<=(x.1.length:Int)/\1<=x.2/\(↑(x_1.1++[x_1.2]).length:Int)<=x_1.2+1/\dU (List.drop (x_1.2+1).toNat x.1)=dU x.1/\x_1.1++[x_1.2]++bN x.2 (x_1.2+1) (List.drop (x_1.2+1).toNat x.1)=bN x.2 0 x.1)/\((x.1.length:Int) - (x_1.2+1)).toNat<((x.1.length:Int) - x_1.2).toNat)/\(decide (x.2<=(x.1.getD x_1.2.toNat (0,0)).2)=false->am .i64 (x_1.2+1)/\(0<=x_1.2+1/\x_1.2+1<=(x.1.length:Int)/\1<=x.2/\(x_1.1.length:Int)<=x_1.2+1/\dU (List.drop (x_1.2+1).toNat x.1)=dU x.1/\x_1.1++bN x.2 (x_1.2+1) (List.drop (x_1.2+1).toNat x.1)=bN x.2 0 x.1)/\((x.1.length:Int) - (x_1.2+1)).toNat<((x.1.length:Int) - x_1.2).toNat)))/\(decide (x_1.2<(x.1.length:Int))=false->(decide ((x_1.1.length:Int)=0)=true->([]:List Int)=(eA x.1 x.2).1/\7=(eA x.1 x.2).2/\True)/\(decide ((x_1.1.length:Int)=0)=false->x_1.1=(eA x.1 x.2).1/\0=(eA x.1 x.2).2/\True)))
theorem It:Fy:=by
 unfold Fy;intro ⟨l,n⟩ ⟨⟨hl,_⟩,hn⟩ _;unfold aL at *;have hb0:dU []=false:=rfl;have hf0:∀ k,bN n k []=[]:=fun _=>rfl
 refine ⟨fun h=>?_,fun h=>⟨⟨by omega,by grind,by grind,by simp,by simp,by simp⟩,fun ⟨out,i⟩ ⟨h0,h1,h2,h3,h4,h5⟩=>⟨fun hlt=>?_,fun hge=>?_⟩⟩⟩
 ·simp only [eA]; grind
 ·have hlt:i<(l.length:Int):=by simpa using hlt
  have e:=bz ((0,0):Int×Int) h0 hlt;simp only at *;simp only [e,zq,bN] at h4 h5;simp only [eA,am,NE,NC,N8]
  repeat' (first | apply And.intro | intro _)
  all_goals grind
 ·simp only at *;rw [cq (by simpa using hge),hb0] at h4;rw [cq (by simpa using hge),hf0,Om] at h5;simp only [eA,<- h4,<- h5];by_cases ho:out=[]
  ·subst ho;have:¬ n<1:=by omega
   simp [this]
  ·have:¬ n<1:=by omega
   simp [this,ho]
theorem Le:KV.ok Tryz.prog 214:=aF (ann:=LO) ap Tryz.func214 (by kernel_rfl) It
def IZ:Spec:={ Ts:=[.arr Dz,ty_I],Rs:=[.dat ty_I,.dat ty_I],pre:=fun _=>True,F:=fun ((l,n):List (Int×Int)×Int)=>bu l n }
def BL:Prop :=
  ∀ (x:List (Int×Int)×Int),(x.1.length * (8+8)<=aL/\∀ (x_1:Int×Int),x_1∈x.1->am .i64 x_1.1/\am .i64 x_1.2)/\am .i64 x.2->True->True/\(decide ((eA x.1 x.2).2≠0)=true->0=(bu x.1 x.2).1/\(eA x.1 x.2).2=(bu x.1 x.2).2/\True)/\(decide ((eA x.1 x.2).2≠0)=false->(0:Int)<=0/\0<(↑(eA x.1 x.2).1.length:Int)/\Int.toNat 0<(eA x.1 x.2).1.length/\(eA x.1 x.2).1.getD (Int.toNat 0) 0=(bu x.1 x.2).1/\0=(bu x.1 x.2).2/\True)
theorem Gu:BL:=by
 unfold BL;intro ⟨l,n⟩ _ _;have h:(eA l n).2=0->(eA l n).1≠[]:=by unfold eA; grind
 simp only [bu];cases hc:(eA l n).1 <;> grind
theorem Jx:IZ.ok Tryz.prog 155:=aF (ann:=cr) (ae Le ap) Tryz.func155 (by kernel_rfl) Gu
end
section
theorem bL (t k:Int):aa (aC t k).2=k:=by simp [aC,aa]; omega
def bB:List aw->List aw
 | []=>[]
 | x::l=>if x.2.2.2.2=true then (match bB l with
   | []=>[aC x.1 (aa x.2)]
   | y::r=>if y.2.2.2.2=true then aC x.1 (aa x.2+aa y.2)::r else aC x.1 (aa x.2)::y::r) else x::bB l
def gK (a:List Int):List aw->List Int
 | []=>[]
 | s::l=>(if s.2.2.2.2=true then bI (aa s.2) else (a.drop s.1.toNat).take (aa s.2).toNat)++gK a l
def gn:List aw->List cR
 | []=>[]
 | s::l=>if s.2.2.2.2=true then (s.1,aa s.2)::gn l else gn l
theorem HM (x:aw) (l:List aw) (h:x.2.2.2.2=true):bB (x::l)=bB (aC x.1 (aa x.2)::l):=by
 simp only [bB];rw [if_pos h,if_pos (show (aC x.1 (aa x.2)).2.2.2.2=true from rfl),bL];rfl
theorem JK (t n:Int) (x:aw) (l:List aw) (h:x.2.2.2.2=true):bB (aC t n::x::l)=bB (aC t (n+aa x.2)::l):=by
 have e:∀ m,bB (aC t m::l)=match bB l with
   | []=>[aC t m]
   | y::r=>if y.2.2.2.2=true then aC t (m+aa y.2)::r else aC t m::y::r:=fun m=>by
  simp only [bB];rw [if_pos (show (aC t m).2.2.2.2=true from rfl),bL];rfl
 have e2:bB (aC t n::x::l)=match bB (x::l) with
   | []=>[aC t n]
   | y::r=>if y.2.2.2.2=true then aC t (n+aa y.2)::r else aC t n::y::r:=by
  rw [bB];rw [if_pos (show (aC t n).2.2.2.2=true from rfl),bL];rfl
 rw [e2,e];simp only [bB];rw [if_pos h];cases hj:bB l with
 | nil =>
  simp only;rw [if_pos (show (aC x.1 (aa x.2)).2.2.2.2=true from rfl),bL]
 | cons y r =>
  simp only;by_cases hy:y.2.2.2.2=true
  ·rw [if_pos hy,if_pos hy];simp only;rw [if_pos (show (aC x.1 (aa x.2+aa y.2)).2.2.2.2=true from rfl),bL,Int.add_assoc]
  ·rw [if_neg hy,if_neg hy];simp only;rw [if_pos (show (aC x.1 (aa x.2)).2.2.2.2=true from rfl),bL]
theorem mm (x:aw) (l:List aw) (h:¬ x.2.2.2.2=true):bB (x::l)=x::bB l:=by
 simp only [bB]; rw [if_neg h]
theorem vV (t n:Int) (x:aw) (l:List aw) (h:¬ x.2.2.2.2=true):bB (aC t n::x::l)=aC t n::x::bB l:=by
 rw [bB,mm x l h];rw [if_pos (show (aC t n).2.2.2.2=true from rfl),bL];simp only;rw [if_neg h];rfl
theorem xy:∀ (l:List aw),(∀ out,aM false out l=out++gn (bB l))/\∀ out t n,aM true (out++[(t,n)]) l=out++gn (bB (aC t n::l))
 | []=>by
  refine ⟨fun out=>by simp [aM,bB,gn],fun out t n=>?_⟩
  have e:bB [aC t n]=[aC t n]:=by
   rw [bB,if_pos (show (aC t n).2.2.2.2=true from rfl),bL];rfl
  rw [e];simp only [aM,gn];rw [if_pos (show (aC t n).2.2.2.2=true from rfl),bL];rfl
 | x::l=>by
  obtain ⟨h1,h2⟩:=xy l;by_cases hx:x.2.2.2.2=true
  ·refine ⟨fun out=>?_,fun out t n=>?_⟩
   ·simp only [aM];rw [hx];simp only [if_true,NJ,N4];rw [h2,HM x l hx]
   ·simp only [aM];rw [hx];simp only [if_true];rw [H8,h2,JK t n x l hx]
  ·have hf:x.2.2.2.2=false:=by simpa using hx
   refine ⟨fun out=>?_,fun out t n=>?_⟩
   ·simp only [aM];rw [hf];simp only [NJ,N4];rw [h1,mm x l hx];simp only [gn];rw [if_neg hx]
   ·simp only [aM];rw [hf];simp only [NJ,N4];rw [h1,vV t n x l hx];simp only [gn];rw [if_pos (show (aC t n).2.2.2.2=true from rfl),if_neg hx,bL];simp [aC]
theorem ou:∀ {l:List aw} {s e:Int},fl s e l->s<=e
 | [],s,e,h=>by simp only [fl] at h; omega
 | x::l,s,e,⟨_,h1,h2⟩=>by have:=ou h2; omega
theorem uk:∀ {l:List aw} {s e:Int},fl s e l->fl s e (bB l)
 | [],s,e,h=>h
 | x::l,s,e,⟨h0,h1,h2⟩=>by
  have ih:=uk h2;by_cases hx:x.2.2.2.2=true
  ·simp only [bB];rw [if_pos hx];cases hj:bB l with
   | nil =>
    rw [hj] at ih;simp only [fl] at ih |-;rw [bL];exact ⟨h0,h1,ih⟩
   | cons y r =>
    rw [hj] at ih;obtain ⟨i0,i1,i2⟩:=ih;simp only;by_cases hy:y.2.2.2.2=true
    ·rw [if_pos hy];simp only [fl];rw [bL];exact ⟨h0,by omega,by rw [<- Int.add_assoc]; exact i2⟩
    ·rw [if_neg hy];simp only [fl];rw [bL];exact ⟨h0,h1,i0,i1,i2⟩
  ·rw [mm x l hx];exact ⟨h0,h1,ih⟩
theorem um:∀ {l:List aw} {s:aw},s∈bB l->(s=aC s.1 (aa s.2))\/(s∈l/\s.2.2.2.2=false)
 | x::l,s,h=>by
  have ih:=fun (h:s∈bB l)=>um h
  have fs:∀ t n,aC t n=aC (aC t n).1 (aa (aC t n).2):=fun t n=>by rw [bL]; rfl
  by_cases hx:x.2.2.2.2=true
  ·simp only [bB] at h;rw [if_pos hx] at h;cases hj:bB l with
   | nil =>
    rw [hj] at h;rw [NL.1 h];exact .inl (fs _ _)
   | cons y r =>
    rw [hj] at h ih;simp only at h;split at h
    ·rcases NG.1 h with e | h
     ·rw [e]; exact .inl (fs _ _)
     ·rcases ih (NT _ h) with h | h
      ·exact .inl h
      ·exact .inr ⟨NT _ h.1,h.2⟩
    ·rcases NG.1 h with e | h
     ·rw [e]; exact .inl (fs _ _)
     ·rcases ih h with h | h
      ·exact .inl h
      ·exact .inr ⟨NT _ h.1,h.2⟩
  ·rw [mm x l hx] at h;rcases NG.1 h with e | h
   ·rw [e]; exact .inr ⟨NS,by simpa using hx⟩
   ·rcases ih h with h | h
    ·exact .inl h
    ·exact .inr ⟨NT _ h.1,h.2⟩
theorem mG:∀ (l:List aw),aY (bB l)=aY l
 | []=>rfl
 | x::l=>by
  have ih:=mG l;have fs:∀ t n,(aC t n).2.2.2.2=true:=fun _ _=>rfl
  by_cases hx:x.2.2.2.2=true
  ·simp only [bB,aY];rw [if_pos hx,if_pos hx];cases hj:bB l with
   | nil =>
    rw [hj] at ih;simp only [aY];rw [if_pos (fs _ _)];exact ih
   | cons y r =>
    rw [hj] at ih;simp only;by_cases hy:y.2.2.2.2=true
    ·simp only [aY] at ih;rw [if_pos hy] at ih;rw [if_pos hy];simp only [aY];rw [if_pos (fs _ _)];exact ih
    ·rw [if_neg hy]
     have:aY (aC x.1 (aa x.2)::y::r)=aY (y::r):=by
      rw [aY,if_pos (fs _ _)]
     rw [this,ih]
  ·rw [mm x l hx];simp only [aY];rw [if_neg hx,if_neg hx,ih]
theorem oc {P R:List Int} {s L:Int} (hp:P.length=s.toNat) (_h0:0<=s) (h1:0<L) (_h2:L.toNat<=R.length):aT (P++R) s L=P++(bI L++R.drop L.toNat):=by
 unfold aT eC lJ bI;rw [if_pos h1,if_pos h1,<- hp,List.take_left,NP (by simp)];have e:(P++R).drop (P.length+L.toNat)=R.drop L.toNat:=by rw [<- OT,List.drop_left]
 rw [e,show L.toNat=(L - 1).toNat+1 by omega,Pu,Oq,oD _ rfl];rfl
theorem qr {a:List Int}:∀ (k:List aw) (s:Int) (P:List Int),fl s a.length k->0<=s->P.length=s.toNat->(gn k).foldl (fun a r=>aT a r.1 r.2) (P++a.drop s.toNat)=P++gK a k
 | [],s,P,h,h0,hp=>by
  simp only [fl] at h;simp only [gn,List.foldl_nil,gK];rw [N9 (by omega)]
 | x::k,s,P,⟨e0,h1,h2⟩,h0,hp=>by
  have hle:=ou h2;subst e0;simp only [gn,gK];by_cases hx:x.2.2.2.2=true
  ·rw [if_pos hx,if_pos hx];simp only [Po];rw [oc hp h0 (by omega) (by rw [NY]; omega),OT,<- List.append_assoc,<- List.append_assoc,show x.1.toNat+(aa x.2).toNat=(x.1+aa x.2).toNat by omega];exact qr k (x.1+aa x.2) _ h2 (by omega) (by rw [NE,bA]; omega)
  ·rw [if_neg hx,if_neg hx]
   have e:P++a.drop x.1.toNat=(P++(a.drop x.1.toNat).take (aa x.2).toNat)++a.drop (x.1+aa x.2).toNat:=by
    rw [List.append_assoc,show (x.1+aa x.2).toNat=x.1.toNat+(aa x.2).toNat by omega,<- OT,OD]
   rw [e,<- List.append_assoc];exact qr k (x.1+aa x.2) _ h2 (by omega) (by rw [NE,NN,NY]; omega)
theorem qP {a:List Int} (hal:a.length<=256):∀ (k:List aw) (s:Int),fl s a.length k->0<=s->(∀ x∈k,x.2.2.2.2=false->x.2=aU (a.getD x.1.toNat 0)/\a8 (a.getD x.1.toNat 0)=true)->(∀ x∈k,x.2.2.2.2=true->x=aC x.1 (aa x.2))->spotsS s (gK a k)=some k
 | [],s,_,_,_,_=>by rw [gK,spotsS]
 | x::k,s,⟨e0,h1,h2⟩,h0,hn,hf=>by
  have hle:=ou h2;have ih:=qP hal k (s+aa x.2) h2 (by omega) (fun y hy=>hn y (NT _ hy)) (fun y hy=>hf y (NT _ hy));subst e0;simp only [gK];by_cases hx:x.2.2.2.2=true
  ·rw [if_pos hx,gv (by omega),if_pos (by omega),ih,Od,<- hf x NS hx]
  ·rw [if_neg hx];obtain ⟨e1,e2⟩:=hn x NS (by simpa using hx)
   have e3:(a.drop x.1.toNat).take (aa x.2).toNat=a.getD x.1.toNat 0::(a.drop (x.1.toNat+1)).take ((aa x.2).toNat - 1):=by
    have hlt:x.1.toNat<a.length:=by omega
    rw [OH hlt,show (aa x.2).toNat=((aa x.2).toNat - 1)+1 by omega,OR];simp [List.getD_eq_getElem?_getD,hlt]
   rw [e3,gN e2 (by rw [<- e1,NN,NY]; omega),<- e1,ih];rfl
theorem lR {a:List Int}:∀ (k:List aw) (s:Int) {x:aw},fl s a.length k->0<=s->x∈k->∃ X Y,gK a k=X++((if x.2.2.2.2=true then bI (aa x.2) else (a.drop x.1.toNat).take (aa x.2).toNat)++Y)/\(X.length:Int)=x.1 - s/\0<=x.1/\1<=aa x.2/\x.1+aa x.2<=a.length
 | y::k,s,x,⟨e0,h1,h2⟩,h0,hm=>by
  have hle:=ou h2;rcases NG.1 hm with e | hm
  ·subst e;exact ⟨[],gK a k,rfl,by simp; omega,by omega,h1,by omega⟩
  ·obtain ⟨X,Y,e,hx,p1,p2,p3⟩:=lR k (s+aa y.2) h2 (by omega) hm;refine ⟨(if y.2.2.2.2=true then bI (aa y.2) else (a.drop y.1.toNat).take (aa y.2).toNat)++X,Y,?_,?_,p1,p2,p3⟩
   ·rw [gK,e,List.append_assoc]
   ·rw [NE];split
    ·rw [bA]; omega
    ·rw [NN,NY]; omega
theorem qj {a b:List Int} {x:aw} (h0:0<=x.1) (h1:0<=x.2.1) (h:∀ j:Nat,x.1+1<=j->(j:Int)<x.1+1+x.2.1->b[j]?=a[j]?):aO b x=aO a x:=by
 unfold aO;apply Pr;intro j;rw [List.getElem?_drop,List.getElem?_drop,List.getElem?_take,List.getElem?_take];split
 ·exact h _ (by omega) (by omega)
 ·rfl
theorem kF {a:List Int} {l:List aw} (h1:a.length<=256) (h2:spotsS 0 a=some l):ac a=(l,0):=by
 unfold ac;rw [if_neg (by omega),h2]
theorem un {a:List Int} (hc:(ak a).2.2=0):ak (cD a).1=(bB (ac a).1,cA (bB (ac a).1),0)/\(cD a).1=gK a (bB (ac a).1)/\fl 0 a.length (bB (ac a).1)/\(cD a).1.length=a.length/\aM false [] (ac a).1=gn (bB (ac a).1):=by
 obtain ⟨hal,_,_,h0,_,hr,_⟩:=bg hc;have ht:=fG h0;have hj:=uk ht;have hg:aM false [] (ac a).1=gn (bB (ac a).1):=by rw [(xy _).1]; rfl
 have hw:(cD a).1=gK a (bB (ac a).1):=by
  unfold cD;rw [if_neg (by omega),hg];have:=qr (a:=a) (bB (ac a).1) 0 [] hj (by omega) rfl;simpa using this
 have hfr:∀ x∈bB (ac a).1,x.2.2.2.2=true->x=aC x.1 (aa x.2):=fun x hx hf=>by
  rcases um hx with h | h
  ·exact h
  ·rw [h.2] at hf; cases hf
 have hnf:∀ x∈bB (ac a).1,x.2.2.2.2=false->x∈(ac a).1:=fun x hx hf=>by
  rcases um hx with h | h
  ·rw [h] at hf; cases hf
  ·exact h.1
 have hsp:=qP hal (bB (ac a).1) 0 hj (by omega) (fun x hx hf=>qT x (hnf x hx hf)) hfr
 have hlen:(gK a (bB (ac a).1)).length=a.length:=by
  have:=oz 0 _ _ hsp;have h1:=mL this;have h2:=mL hj;omega
 have hS:ac (gK a (bB (ac a).1))=(bB (ac a).1,0):=kF (by omega) hsp;have hsort:=bV (gK a (bB (ac a).1));rw [hS] at hsort;refine ⟨?_,hw,hj,by rw [hw]; exact hlen,hg⟩;rw [hw];unfold ak;rw [hS,if_neg (by simp),if_pos];refine NH.2 fun s hs=>?_
 cases hf:s.2.2.2.2
 ·have hm:=hnf s hs hf;obtain ⟨_,hin,_⟩:=eJ a s hm;obtain ⟨X,Y,e,hX,p1,p2,p3⟩:=lR _ 0 hj (by omega) hs;rw [if_neg (by rw [hf]; simp)] at e;have hL:aa s.2=1+s.2.1+s.2.2.1:=rfl;unfold dd at hin
  have er:aO (gK a (bB (ac a).1)) s=aO a s:=by
   refine qj p1 hin.2.1 fun j j1 j2=>?_
   rw [e,List.getElem?_append_right (by omega),List.getElem?_append_left (by rw [NN,NY]; omega),List.getElem?_take,if_pos (by omega),List.getElem?_drop];congr 1;omega
  rw [er];have h3:=NH.1 hr s hm;refine NH.2 fun v hv=>?_
  have h4:=NH.1 h3 v hv;unfold cA at h4 |-;rw [ju _ _ _ 0 (bV a)] at h4;rw [ju _ _ _ 0 hsort];have e1:(mZ v 0 (bB (ac a).1)).isSome=(mZ v 0 (ac a).1).isSome:=by rw [kL,kL,mG]
  cases h5:mZ v 0 (ac a).1 with
  | none =>
   rw [h5] at h4 e1;cases h6:mZ v 0 (bB (ac a).1) with
   | none=>exact h4
   | some k=>rfl
  | some k =>
   rw [h5] at e1;cases h6:mZ v 0 (bB (ac a).1) with
   | none=>rw [h6] at e1; cases e1
   | some k=>rfl
 ·rw [hfr s hs hf]
  have:aO (gK a (bB (ac a).1)) (aC s.1 (aa s.2))=[]:=by
   unfold aO aC;simp only [Int.add_zero];exact N9 (by rw [NN]; omega)
  rw [this];rfl
theorem lp:∀ {l:List aw} {r:cR},r∈gn l->∃ s∈l,s.2.2.2.2=true/\r=(s.1,aa s.2)
 | x::l,r,h=>by
  simp only [gn] at h;split at h
  ·rename_i hx;rcases NG.1 h with e | h
   ·exact ⟨x,NS,hx,e⟩
   ·obtain ⟨s,hs,h⟩:=lp h;exact ⟨s,NT _ hs,h⟩
  ·obtain ⟨s,hs,h⟩:=lp h;exact ⟨s,NT _ hs,h⟩
def fc (a:List Int) (r:cR) (h:dI):List Int:=(aT (cD a).1 (r.1+aa h) (r.2 - aa h)).set r.1.toNat (aB h)
theorem Ed {a:List Int} (hc:(ak a).2.2=0) {r:cR} {h:dI} (hr:r∈aM false [] (ac a).1) (h0:af h=0) (hf:h.2.2.2=false) (hl:aa h<=r.2):ix (cD a).1 r.1 h=(fc a r h,0):=by
 obtain ⟨h1,h2,h3,h4,h5⟩:=un hc;obtain ⟨hal,_⟩:=bg hc;rw [h5] at hr;obtain ⟨s,hs,hsf,e⟩:=lp hr;have hz:(ak (cD a).1).2.2=0:=by rw [h1]
 have hsp:(ac (cD a).1).1=bB (ac a).1:=by
  have:=(bg hz).2.2.1;rw [h1] at this;exact this.symm
 obtain ⟨X,Y,eW,hX,p1,p2,p3⟩:=lR _ 0 h3 (by omega) hs;rw [if_pos hsf] at eW;have e1:r.1=s.1:=by rw [e]
 have e2:r.2=aa s.2:=by rw [e]
 obtain ⟨g1,g2⟩:=DC hz r.1 h;have hsort:=bV (cD a).1;rw [hsp] at g1 g2 hsort;have hrm:iR r.1 0 (bB (ac a).1)=r.2:=by rw [e2]; exact tv _ 0 s hsort hs e1.symm hsf
 have hn:=aW h0;have hL:aa h=1+h.1+h.2.1:=rfl;have e0:sr h=0:=by unfold sr; rw [hf,if_neg (by simp),h0]
 have ez:fF (sr h) r.2 (aa h)=0:=by unfold fF; rw [e0,if_neg (by omega),if_neg (by omega),if_neg (by omega)]
 rw [hrm,ez,if_neg (by omega)] at g1;have hlp:ie (cD a).1 r.1 r.2:=⟨by omega,by omega,by omega,by omega⟩;obtain ⟨t1,_⟩:=DB hlp (n:=aa h) (by omega) hl (aB h);rw [g1,<- t1]
 have hi:aT (cD a).1 r.1 r.2=(cD a).1:=by
  rw [h2,eW,e1,e2,oc (by omega) p1 (by omega) (by rw [NE,bA]; omega),List.drop_append_of_le_length (by rw [bA]; omega),N9 (by rw [bA]; omega),Oa]
 rw [hi];rfl
theorem xB (n:Int):∀ (l:List cR) (k:Int),match l.find? (fun r=>decide (n<=r.2)) with
  | none=>bN n k l=[]
  | some r=>∃ i,0<=i/\i<(l.length:Int)/\l.getD i.toNat (0,0)=r/\bN n k l≠[]/\(bN n k l).getD 0 0=k+i
 | [],k=>rfl
 | r::l,k=>by
  have ih:=xB n l (k+1);by_cases h:n<=r.2
  ·rw [List.find?_cons_of_pos (by simpa using h)];simp only [bN];rw [if_pos h];exact ⟨0,by omega,by simp,rfl,by simp,by simp⟩
  ·rw [List.find?_cons_of_neg (by simpa using h)];simp only [bN];rw [if_neg h];cases hf:l.find? (fun r=>decide (n<=r.2)) with
   | none=>rw [hf] at ih; exact ih
   | some q =>
    rw [hf] at ih;obtain ⟨i,i0,i1,i2,i3,i4⟩:=ih;refine ⟨i+1,by omega,by simp only [NC]; omega,?_,i3,by omega⟩;rw [show (i+1).toNat=i.toNat+1 by omega];exact i2
def gL (a:List Int) (h:dI):List Int×Int×Bool:=match (aM false [] (ac a).1).find? (fun r=>decide (aa h<=r.2)) with
 | none=>([],0,false)
 | some r=>(fc a r h,r.1,true)
theorem HU {n:Int} {l:List cR} (hn:1<=n) (hg:∀ r∈l,0<=r.1/\1<=r.2):bu l n=if bN n 0 l=[] then (0,7) else ((bN n 0 l).getD 0 0,0):=by
 have hb:dU l=false:=by
  unfold dU;rw [PR];intro r hr;have:=hg r hr;simp;omega
 have e:eA l n=if bN n 0 l=[] then ([],7) else (bN n 0 l,0):=by
  unfold eA;rw [if_neg (show ¬ n<1 by omega),hb,if_neg (by simp)]
 unfold bu;rw [e];by_cases h:bN n 0 l=[]
 ·rw [if_pos h,if_pos h];rfl
 ·rw [if_neg h,if_neg h];rfl
end
section
def uX (o:List Int) (x:Int):List Int:=if fx o x=true then o else o++[x]
theorem qM:∀ (l o:List Int),∃ k,l.foldl uX o=o++k/\∀ x∈k,x∈l
 | [],o=>⟨[],by simp,fun x hx=>by cases hx⟩
 | y::l,o=>by
  obtain ⟨k,h1,h2⟩:=qM l (uX o y);rw [Po,h1];unfold uX;split
  ·exact ⟨k,rfl,fun x hx=>NT _ (h2 x hx)⟩
  ·refine ⟨y::k,by simp,fun x hx=>?_⟩;rcases NG.1 hx with rfl | hx
   ·simp
   ·exact NT _ (h2 x hx)
theorem mC:∀ (l o:List Int),o.Nodup->(l.foldl uX o).Nodup
 | [],_,h=>h
 | y::l,o,h=>by
  rw [Po];refine mC l _ ?_;unfold uX;split
  ·exact h
  ·rename_i hn;rw [Qg];refine ⟨h,by simp,fun x hx z hz=>?_⟩;rw [NL.1 hz];rintro rfl;exact hn (cu.2 hx)
structure Came (a f o:List Int):Prop where
 nodup:o.Nodup
 only:∀ x∈o,Rch a f x
theorem Came.length {a f o:List Int} (hw:∀ x∈a,am .u64 x) (hc:(ak a).2.2=0) (hf:∀ x∈f,isB (ac a).1 x=true) (h:Came a f o):o.length<=256 :=
 mS h.nodup fun x hx=>gF ((h.only x hx).isB hw hc hf)
theorem Came.first {a f:List Int} {l:List Int} (h:∀ x∈l,x∈f):Came a f (l.foldl uX []):=by
 refine ⟨mC _ _ List.nodup_nil,fun x hx=>?_⟩;obtain ⟨k,h1,h2⟩:=qM l [];rw [h1,Oa] at hx;exact .base (h x (h2 x hx))
theorem wA:∀ {l:List aw} {s t:aw},l.Pairwise (fun s t=>s.1<t.1)->s∈l->t∈l->s.1=t.1->s=t
 | u::l,s,t,h,hs,ht,e=>by
  obtain ⟨h1,h2⟩:=Oc.1 h;rcases NG.1 hs with e1 | hs2 <;> rcases NG.1 ht with e2 | ht2
  ·rw [e1,e2]
  ·have:=h1 t ht2; rw [<- e1] at this; omega
  ·have:=h1 s hs2; rw [<- e2] at this; omega
  ·exact wA h2 hs2 ht2 e
theorem Kn {a:List Int} (hc:(ak a).2.2=0) {x:Int} (hx:isB (ac a).1 x=true):0<=ag (fun s:aw=>decide (s.1=x)) 0 (ak a).1/\(ak a).1.getD (ag (fun s:aw=>decide (s.1=x)) 0 (ak a).1).toNat (0,0,0,0,false)=(x,eG a x)/\g9 a x=(gU a (x,eG a x) (ak a).2.1,0):=by
 obtain ⟨_,_,e1,_,_,_,_⟩:=bg hc;have hm:=(fj hx).1
 have hge:0<=ag (fun s:aw=>decide (s.1=x)) 0 (ak a).1:=by
  have h:=dX (fun s:aw=>decide (s.1=x)) (ak a).1 0 (by omega);rw [e1] at h |-;refine Nw (h.trans (OK.2 ⟨_,hm,by simp⟩))
 have hlt:=dV (fun s:aw=>decide (s.1=x)) (0,0,0,0,false) (ak a).1 0 (by omega)
 have hg:(ak a).1.getD (ag (fun s:aw=>decide (s.1=x)) 0 (ak a).1).toNat (0,0,0,0,false)=(x,eG a x):=by
  have h1:=dW (fun s:aw=>decide (s.1=x)) (0,0,0,0,false) (ak a).1 0 hge (by omega);rw [Ps] at h1;have h2:=aH ((0,0,0,0,false):aw) hge (by omega:ag (fun s:aw=>decide (s.1=x)) 0 (ak a).1<((ak a).1.length:Int));rw [e1] at h1 h2 |-;exact wA (bV a) h2 hm (Nw h1)
 refine ⟨hge,hg,?_⟩;unfold g9;rw [if_neg (by omega),if_neg (by omega),hg]
end
section
open Go Go.RowKit Go.Lib
theorem mO {P:Program} (w:World) (dT sT ty elem:TypeId) (K g o n dLen dCap:Nat) (a:Addr) (sLen sCap:Nat) (cur:Array Value) (t:TypeId) (cs:List Value)
  (hu:P.underlying dT=some (.slice elem)) (hs:(P.info? elem).map (·.size)=some K) (hg:w.heap[g]?=some (.cells cur t (0,0))) (hn:n=Nat.min sLen dLen) (hl:cs.length=n * K)
  (hsrc:∀ j v,cs[j]?=some v->w.cell? (a.add j)=some v) (hfit:o+n * K<=cur.size) (h1:∀ v∈cs,v.oneCell'=true) :
  (Builtin.copy_ #[dT,sT] ty #[.slice (some ⟨g,o,none⟩) dLen dCap,.slice (some a) sLen sCap]).run P w =
   .ok (goInt (n:Nat)) (w.setRow g (cur.toList.take o++cs++cur.toList.drop (o+n * K)).toArray):=by
 have hl':=run_loadCells_list (P:=P) w a cs hsrc;have hst:=run_storeCells_at P g o t cs 0 cur w hg (by omega) h1;rw [hl] at hl';rw [hl] at hst;cases hq:P.info? elem with
 | none=>simp [hq] at hs
 | some i =>
  have hi:i.size=K:=by simpa [hq] using hs
  simp [Builtin.copy_,NV hu,Builtin.lenOf,Builtin.firstCells,sizeOf,typeInfo,hq,hi,<- hn,hl',hst]
theorem GF (cur l l2:List Value) {a b c:Nat} (h:cur.take c=l) (ha:a<=c) (hfit:c+b<=cur.length) (h2:l2.length=b) {c1:List Value} (h1:c1=cur.take (a+b)++l.drop a++cur.drop (a+b+(c - a))) :
  c1.length=cur.length/\(c1.take a++l2++c1.drop (a+b)).length=cur.length/\(c1.take a++l2++c1.drop (a+b)).take (c+b)=l.take a++l2++l.drop a:=by
 have hl:l.length=c:=by rw [<- h]; simp; omega
 have e1:(cur.take (a+b)).length=a+b:=by simp; omega
 have e2:c1.length=cur.length:=by rw [h1]; simp; omega
 have e3:c1.take a=l.take a:=by
  rw [h1,List.append_assoc,N6 (by omega),O4,OV (by omega),<- h,O4,OV ha]
 have e4:c1.drop (a+b)=l.drop a++cur.drop (a+b+(c - a)):=by
  rw [h1,List.append_assoc,List.drop_append_of_le_length (by omega),N9 (by omega),Oa]
 refine ⟨e2,?_,?_⟩
 ·rw [e3,e4]; simp; omega
 ·rw [e3,e4,<- List.append_assoc,N6 (by simp; omega),NP (by simp; omega)]
theorem DI (l l2 z:List Value) {a b c G:Nat} (hl:l.length=c) (ha:a<=c) (h2:l2.length=b) (hz:a+z.length=G) (hG:c+b<=G) {c0 c1:List Value} (h0:c0=l.take a++z)
  (h1:c1=c0.take a++l2++c0.drop (a+b)) :
  c0.length=G/\c1.length=G/\(c1.take (a+b)++l.drop a++c1.drop (a+b+(c - a))).length=G/\(c1.take (a+b)++l.drop a++c1.drop (a+b+(c - a))).take (c+b)=l.take a++l2++l.drop a:=by
 have e0:c0.length=G:=by rw [h0]; simp; omega
 have e1:c0.take a=l.take a:=by rw [h0,N6 (by simp; omega),O4,Nat.min_self]
 have e2:c1.length=G:=by rw [h1]; simp; omega
 have e3:c1.take (a+b)=l.take a++l2:=by
  rw [h1,e1,N6 (by simp; omega),NP (by simp; omega)]
 refine ⟨e0,e2,by rw [e3]; simp; omega,?_⟩;rw [e3,N6 (by simp; omega),NP (by simp; omega)]
theorem lG {P:Program} {ops:Array Oper} {o:Oper} {a:Act} {w:World} {K:Act->World->Prop} {Q:Exit->Act->World->Prop} {E:Prop}
  (hg:o.guard=none) (d x:Operand) (t tn:TypeId) (hop:o.op=Op.call { callee:=Callee.builtin Builtin.append,args:=#[d,x],argTypes:=#[t,tn] })
  (v u:Value) (hd:a.eval d=v) (hx:a.eval x=u) {v':Value} {w':World} (hr:(Builtin.append_ #[t,tn] o.type #[v,u]).run P w=.ok v' w') (hK:K (a.put o.dst v') w') :
  if Region.wanted o (yielded ops a.tmps)=true then Oper.wp P o a w K Q else E:=by
 have hw:Region.wanted o (yielded ops a.tmps)=true:=by simp [Region.wanted,hg]
 rw [if_pos hw];exact Lib.wp_append_run w d x t tn hop v u hd hx v' w' hr hK
theorem kx {P:Program} (w:World) {ops:Array Oper} {rest:List Oper} {o:Oper} {a:Act} {Q:Exit->Act->World->Prop} (hgd:o.guard=none) (x:Operand) (t:TypeId)
  (ho:o.op=.call { callee:=.builtin .clear,args:=#[x],argTypes:=#[t] }) (vx:Value) (hx:a.eval x=vx)
  (v':Value) (w':World) (hr:(Builtin.clear_ #[t] o.type #[vx]).run P w=.ok v' w') (h:wpList P ops Q rest (a.put o.dst v') w'):wpList P ops Q (o::rest) a w :=
 wpList_plain hgd fun _ hK=>by
  unfold Oper.wp execOp;simp only [ho,resolve,invoke,builtin,NU,N3,NM,O8,Oi,Pa,hx,hr];exact hK _ _ h
def zd {α:Type} (xs ys:List α) (i:Int):List α:=xs.take i.toNat++ys++xs.drop i.toNat
def CR {α:Type} (xs:List α) (i j:Int):List α:=xs.take i.toNat++xs.drop j.toNat
theorem fJ (w:World) {g:Nat} (cs:Array Value) {cur:Array Value} {t:TypeId} (h:w.heap[g]?=some (.cells cur t (0,0))):w.grownBy (w.setRow g cs) (some g):=by
 obtain ⟨_,h2,h3,h4,h5,h6⟩:=bY w g cs h;exact ⟨h2,h3,h4,by omega,fun k _ hk=>h6 k (fun e=>hk (by rw [e]))⟩
theorem jY (w:World) (row:Option Nat):w.grownBy w.drew row:=⟨rfl,rfl,rfl,NR _,fun _ _ _=>rfl⟩
theorem zh (w:World) (o:Go.Obj) (row:Option Nat):w.grownBy (w.alloc o) row:=⟨rfl,rfl,rfl,by simp,fun k hk _=>heap_alloc_old w o hk⟩
theorem ur {w w1 w2:World} {N:Nat} {row:Option Nat} (h:w.grownBy w1 row) (k:w1.grownBy w2 (some N)) (hN:w.heap.size<=N):w.grownBy w2 row :=
 ⟨k.os.trans h.os,k.tape.trans h.tape,k.output.trans h.output,Oe h.size k.size,fun i hi hne=>(k.block i (OA hi h.size) (fun e=>by injection e; omega)).trans (h.block i hi hne)⟩
def C7 (P:Program) (F:FuncId) (S:TypeId) (Z:Nat):Prop :=
 ∀ (w W1 W2:World) (g n c i vb m vc:Nat) (tA tB:TypeId) (kA kB:Nat),i<n->0<m->n+m<=c->c<=9223372036854775807->vb≠g ->
  w.shape? vb=some (tA,kA)->w.shape? g=some (tB,kB)->kB≠0->w.frozen? ⟨vb,0,none⟩=false->w.frozen? ⟨vb,kA,none⟩=false ->
  (∀ ty (d1 d2 d3 d4:Nat),d1=n - i->d2=n+m - i->(Builtin.copy_ #[S,S] ty #[.slice (some ⟨g,(i+m) * Z,none⟩) d1 d3,.slice (some ⟨g,i * Z,none⟩) d2 d4]).run P w.drew=.ok (goInt (n - i:Nat)) W1) ->
  (∀ ty (d1 d3:Nat),d1=n+m - i->(Builtin.copy_ #[S,S] ty #[.slice (some ⟨g,i * Z,none⟩) d1 d3,.slice (some ⟨vb,0,none⟩) m vc]).run P W1=.ok (goInt (m:Nat)) W2) ->
  Calls P F #[.slice (some ⟨g,0,none⟩) n c,.int .i64 i,.slice (some ⟨vb,0,none⟩) m vc] w fun e w'=>e=.returned (.slice (some ⟨g,0,none⟩) (n+m) c)/\w'=W2
def Gb (P:Program) (F:FuncId) (S I:TypeId) (Z:Nat):Prop :=
 ∀ (w W0 W1 W2:World) (g N n c i vb m vc G:Nat),i<n->0<m->n<=c->c<n+m->n+m<=G->n+m<=9223372036854775807->G<=9223372036854775807 ->
  (∀ ty,(Builtin.append_ #[S,I] ty #[.slice (some ⟨g,0,none⟩) i c,.int .i64 ((n:Int)+(m:Int) - (i:Int))]).run P w=.ok (.slice (some ⟨N,0,none⟩) (n+m) G) W0) ->
  (∀ ty (d1 d3:Nat),d1=n+m - i->(Builtin.copy_ #[S,S] ty #[.slice (some ⟨N,i * Z,none⟩) d1 d3,.slice (some ⟨vb,0,none⟩) m vc]).run P W0=.ok (goInt (m:Nat)) W1) ->
  (∀ ty (d1 d2 d3 d4:Nat),d1=n - i->d2=n - i->(Builtin.copy_ #[S,S] ty #[.slice (some ⟨N,(i+m) * Z,none⟩) d1 d3,.slice (some ⟨g,i * Z,none⟩) d2 d4]).run P W1.drew=.ok (goInt (n - i:Nat)) W2) ->
  Calls P F #[.slice (some ⟨g,0,none⟩) n c,.int .i64 i,.slice (some ⟨vb,0,none⟩) m vc] w fun e w'=>e=.returned (.slice (some ⟨N,0,none⟩) (n+m) G)/\w'=W2
def KC (P:Program) (F:FuncId) (S:TypeId):Prop :=
 ∀ (w W:World) (A:Option Addr) (n c vb m vc:Nat) (v':Value),0<m->n<=c->(A=none->n=0/\c=0)->(∀ a,A=some a->a.off=0/\a.spot=none) ->
  (Builtin.append_ #[S,S] S #[.slice A n c,.slice (some ⟨vb,0,none⟩) m vc]).run P w=.ok v' W ->
  Calls P F #[.slice A n c,.int .i64 n,.slice (some ⟨vb,0,none⟩) m vc] w fun e w'=>e=.returned v'/\w'=W
def ge (E:TypeId) (T:Ty):RowFn:={ e:=E,T:=T,Ts:=[ty_I],out:=true,tail:=true,pre:=fun (xs ys:List T.den) (i:Int)=>0<ys.length/\0<=i/\i<=xs.length/\(xs.length+ys.length) * T.bytes<=aL,F:=fun (xs ys:List T.den) (i:Int)=>zd xs ys i }
theorem Lm {P:Program} {T:Ty} {F:FuncId} {S E I:TypeId} (hS:P.underlying S=some (.slice E)) (hI:P.underlying I=some (.int .i64)) (hf:eX P E T=true)
  (shift:C7 P F S T.size) (grow:Gb P F S I T.size) (end_:KC P F S):(ge E T).ok P F:=by
 intro p w v (xs:List T.den) l v2 (ys:List T.den) l2 vs (i:Int) _ _ hA hown hl hbig hp hown2 hl2 hne hargs hpre;obtain ⟨hm,hi0,hi1,hb⟩:0<ys.length/\0<=i/\i<=xs.length/\(xs.length+ys.length) * T.bytes<=aL:=hpre;obtain ⟨v1,rfl,hv1⟩:=hargs;have hv1:[v1]=[Value.int .i64 i]/\am .i64 i:=hv1;obtain ⟨hv1,_⟩:=hv1;injection hv1 with hv1
 subst hv1;obtain ⟨k,rfl⟩:∃ k:Nat,i=k:=⟨i.toNat,by omega⟩;have hk:k<=xs.length:=by omega
 have hown:w.ownsRow 0 E T.size v xs.length l:=hown;have hown2:w.ownsRow 0 E T.size v2 ys.length l2:=hown2;have hl:aK (T.holds p) xs l:=hl;have hl2:aK (T.holds p) ys l2:=hl2;have hbig:xs.length * T.bytes<=aL:=hbig;obtain ⟨inf,z,hinf,hsz,hby,hz,hzs⟩:=dn hf;have hlen:l.length=xs.length * T.size:=hown.1;have hlen2:l2.length=ys.length * T.size:=hown2.1;have h1l:∀ u∈l,u.oneCell'=true:=fq (fun x cs h=>dm T x cs h) xs l hl;have h1l2:∀ u∈l2,u.oneCell'=true:=fq (fun x cs h=>dm T x cs h) ys l2 hl2;have hszE:(P.info? E).map (·.size)=some T.size:=by rw [hinf]; simp [hsz]
 have hpos:=Ty.size_pos T;have eF:((ge E T).F xs ys (k:Int):List T.den)=xs.take k++ys++xs.drop k:=by show zd xs ys k=_; simp [zd]
 have hFl:(xs.take k++ys++xs.drop k).length=xs.length+ys.length:=by simp; omega
 have hrow:aK (T.holds p) (xs.take k++ys++xs.drop k) (l.take (k * T.size)++l2++l.drop (k * T.size)) :=
  co _ _ _ _ (co _ _ _ _ (di (fun x cs h=>Ty.holds_length T x cs h) k xs l hl) hl2) (eK (fun x cs h=>Ty.holds_length T x cs h) k xs l hl)
 have hb8:(xs.take k++ys++xs.drop k).length * T.bytes<=aL:=by rw [hFl]; exact hb
 have hb8e:=fa T
 have h63:xs.length+ys.length<=maxLen:=by
  have h2:(xs.length+ys.length) * 8<=(xs.length+ys.length) * T.bytes:=Ow _ hb8e;simp only [aL,maxLen] at *;omega
 have done:∀ (v':Value) (w':World) (e:Ending),e=.returned v'->w.grownBy w' v.ownBlock->w'.ownsRow 0 E T.size v' (xs.length+ys.length) (l.take (k * T.size)++l2++l.drop (k * T.size))->(∀ b,v'.ownBlock=some b->v.ownBlock=some b\/w.heap.size<=b) ->
   ∃ (v':Value) (l':List Value),e=.returned (if (ge E T).out then v' else .tuple #[])/\((ge E T).out=false->v'=v)/\w.grownBy w' v.ownBlock /\
   w'.ownsRow 0 (ge E T).e (ge E T).T.size v' ((ge E T).F xs ys (k:Int):List T.den).length l'/\aK ((ge E T).T.holds p) ((ge E T).F xs ys (k:Int)) l'/\((ge E T).F xs ys (k:Int):List T.den).length * (ge E T).T.bytes<=aL /\
   ∀ b,v'.ownBlock=some b->v.ownBlock=some b\/w.heap.size<=b:=by
  intro v' w' e he hg ho hbk;rw [eF];refine ⟨v',_,he,fun h=>(by cases h),hg,?_,hrow,hb8,hbk⟩;show w'.ownsRow 0 E T.size v' (xs.take k++ys++xs.drop k).length _;rw [hFl];exact ho
 rcases hown2.2 with ⟨_,h0⟩ | ⟨g2,cap2,cur2,rfl,_,hb2,h21,h22,h23,h24⟩
 ·omega
 have hvs:∀ (j:Nat) (u:Value),l2[j]?=some u->w.cell? ⟨g2,0+j,none⟩=some u:=by
  intro j u hj
  have:cur2.toList[j]?=some u:=by
   rw [<- h24,List.getElem?_take] at hj;split at hj
   ·exact hj
   ·cases hj
  simp only [World.cell?,hb2,Ox];simpa using this
 show Calls P F #[v,.int .i64 k,.slice (some ⟨g2,0,none⟩) ys.length cap2] w _;by_cases hkn:k=xs.length
 ·
  obtain ⟨v',w',r1,r2,r3,r4⟩:=lE (ty:=S) hS hf hown hl2 (A:=some ⟨g2,0,none⟩) (c:=cap2) (fun _=>⟨g2,0,rfl,hvs⟩) hb
  have el:l.take (k * T.size)++l2++l.drop (k * T.size)=l++l2:=by
   rw [hkn,NP (by omega),N9 (by omega),Om]
  have main:∀ (A:Option Addr) (n c:Nat),v=.slice A n c->xs.length=n->n<=c->(A=none->n=0/\c=0)->(∀ a,A=some a->a.off=0/\a.spot=none) ->
    Calls P F #[v,.int .i64 (xs.length:Int),.slice (some ⟨g2,0,none⟩) ys.length cap2] w fun e W=>e=.returned v'/\W=w':=by
   intro A n c hv hn h1 h2 h3;have h:=end_ w w' A n c g2 ys.length cap2 v' hm h1 h2 h3 (by rw [<- hv]; exact r1);rw [<- hv,<- hn] at h;exact h
  have hcall:Calls P F #[v,.int .i64 (xs.length:Int),.slice (some ⟨g2,0,none⟩) ys.length cap2] w fun e W=>e=.returned v'/\W=w':=by
   rcases hown.2 with ⟨hv,h0⟩ | ⟨g,cap,cur,hv,_,hbg,h1,h2,h3,h4⟩
   ·exact main none 0 0 hv h0 (NR _) (fun _=>⟨rfl,rfl⟩) (fun a h=>by cases h)
   ·exact main (some ⟨g,0,none⟩) xs.length cap hv rfl h1 (fun h=>by cases h) (fun a h=>by injection h with h; subst h; exact ⟨rfl,rfl⟩)
  subst hkn;refine hcall.mono fun e W h=>?_
  obtain ⟨rfl,rfl⟩:=h
  exact done v' _ _ rfl r3 (by rw [el]; exact r2) (fun b hb'=>by
   rcases r4 with r4 | r4
   ·exact .inl (by rw [<- r4]; exact hb')
   ·rw [r4] at hb';injection hb' with hb'
    exact .inr (by omega))
 have hkl:k<xs.length:=by omega
 rcases hown.2 with ⟨_,h0⟩ | ⟨g,cap,cur,rfl,_,hbg,h1,h2,h3,h4⟩
 ·omega
 have hgs:g<w.heap.size:=(Array.getElem?_eq_some_iff.1 hbg).1;have hvb:g2≠g:=fun e=>hne g rfl (by rw [e]; rfl)
 have hcap:cap<=9223372036854775807:=by unfold maxLen at h2; omega
 have hkz:(k+ys.length) * T.size=k * T.size+ys.length * T.size:=Pz _ _ _;have hnz:(xs.length+ys.length) * T.size=xs.length * T.size+ys.length * T.size:=Pz _ _ _;have hkn':k * T.size<=xs.length * T.size:=Ob _ hk;have hdz:(xs.length - k) * T.size=xs.length * T.size - k * T.size:=Nat.sub_mul _ _ _;have hdrop:((l.drop (k * T.size)).length)=(xs.length - k) * T.size:=by rw [NY,hlen,hdz]
 have hlc:cur.toList.length=cap * T.size:=by simpa using h3
 have hsrc:∀ (j:Nat) (u:Value),(l.drop (k * T.size))[j]?=some u->w.cell? ⟨g,k * T.size+j,none⟩=some u:=by
  intro j u hj;rw [List.getElem?_drop] at hj
  have:cur.toList[k * T.size+j]?=some u:=by
   rw [<- h4,List.getElem?_take] at hj;split at hj
   ·exact hj
   ·cases hj
  simp only [World.cell?,hbg];simpa using this
 by_cases hroom:xs.length+ys.length<=cap
 ·
  have hfit:xs.length * T.size+ys.length * T.size<=cur.toList.length:=by
   rw [hlc,<- hnz];exact Ob _ hroom
  have hkB:cur.size≠0:=by
   have:0<xs.length * T.size:=Nat.mul_pos (by omega) hpos;have:cur.toList.length=cur.size:=by simp
   omega
  have hgd:w.drew.heap[g]?=some (.cells cur E (0,0)):=hbg
  have hcp1:=fun ty (d1 d2 d3 d4:Nat) (e1:d1=xs.length - k) (e2:d2=xs.length+ys.length - k)=>mO (P:=P) w.drew S S ty E T.size g ((k+ys.length) * T.size) (xs.length - k) d1 d3 ⟨g,k * T.size,none⟩ d2 d4 cur E (l.drop (k * T.size)) hS hszE hgd
   (by rw [e1,e2]; simp only [Nat.min_def]; split <;> omega) hdrop (fun j u hj=>by rw [P9]; exact hsrc j u hj) (by
    have:cur.toList.length=cur.size:=by simp
    rw [hkz,hdz]; omega) (fun u hu=>h1l u (O0 hu))
  obtain ⟨C1,hC1⟩:∃ C1:List Value,C1=cur.toList.take ((k+ys.length) * T.size)++l.drop (k * T.size)++cur.toList.drop ((k+ys.length) * T.size+(xs.length - k) * T.size):=⟨_,rfl⟩;rw [<- hC1] at hcp1;obtain ⟨s1,s2,s3⟩:=GF cur.toList l l2 (a:=k * T.size) (b:=ys.length * T.size) (c:=xs.length * T.size) h4 hkn' hfit hlen2 (c1:=C1) (by rw [hC1,hkz,hdz]);have hg1:(w.drew.setRow g C1.toArray).heap[g]?=some (.cells C1.toArray E (0,0)):=(bY w.drew g C1.toArray hgd).1;have ho1:∀ b,b≠g->(w.drew.setRow g C1.toArray).heap[b]?=w.heap[b]?:=(bY w.drew g C1.toArray hgd).2.2.2.2.2
  have hcp2:=fun ty (d1 d3:Nat) (e1:d1=xs.length+ys.length - k)=>mO (P:=P) (w.drew.setRow g C1.toArray) S S ty E T.size g (k * T.size) ys.length d1 d3 ⟨g2,0,none⟩ ys.length cap2 C1.toArray E l2 hS hszE hg1
   (by rw [e1]; simp only [Nat.min_def]; split <;> omega) hlen2 (fun j u hj=>by
    rw [P9];have:=hvs j u hj;simp only [World.cell?,ho1 g2 hvb] at this |-;exact this) (by simp only [ON,s1]; omega) h1l2
  refine (shift w _ _ g xs.length cap k g2 ys.length cap2 E E cur2.size cur.size hkl hm hroom hcap hvb (by simp [World.shape?,hb2]) (by simp [World.shape?,hbg]) hkB (by simp [World.frozen?,hb2]) (by simp [World.frozen?,hb2]) hcp1 hcp2).mono ?_;rintro e w' ⟨rfl,rfl⟩;have hg2:=(bY (w.drew.setRow g C1.toArray) g ((C1.take (k * T.size)++l2++C1.drop (k * T.size+ys.length * T.size)).toArray) hg1).1;simp only at hg2 |-;refine done _ _ _ rfl (((jY w _).trans (fJ w.drew _ hgd)).trans (fJ _ _ hg1)) ⟨?_,.inr ⟨g,cap,_,rfl,Of _,hg2,hroom,h2,?_,?_⟩⟩ (fun b h=>.inl h)
  ·simp only [NE,NN,NY,hlen,hlen2,hnz];omega
  ·rw [ON,s2,hlc]
  ·rw [List.toList_toArray,hnz,s3]
 ·
  have hroom:cap<xs.length+ys.length:=by omega
  have grow0:=grownCap_ge w (xs.length+ys.length) cap E;have growM:=grownCap_le_maxLen w (xs.length+ys.length) cap E h63;have hbi:(xs.length+ys.length) * inf.bytes<=140737488355328:=Oe (Ow _ hby) hb;have hkk:(xs.length:Int)+(ys.length:Int) - (k:Int)=((xs.length+ys.length - k:Nat):Int):=by omega
  have hik:k+(xs.length+ys.length - k)=xs.length+ys.length:=by omega
  have hold:(Builtin.firstCells inf.size k (.slice (some ⟨g,0,none⟩) k cap)).run P w.drew=.ok (l.take (k * T.size)).toArray w.drew:=by
   rw [hsz];refine run_firstCells_some w.drew T.size k ⟨g,0,none⟩ k cap (l.take (k * T.size)) (by rw [NN,hlen]; omega) (fun j u hj=>?_);rw [P9];rw [List.getElem?_take] at hj;split at hj
   ·have:cur.toList[j]?=some u:=by
     rw [<- h4,List.getElem?_take] at hj;split at hj
     ·exact hj
     ·cases hj
    show w.cell? _=_;simp only [World.cell?,hbg,Ox];simpa using this
   ·cases hj
  have hap:∀ ty,(Builtin.append_ #[S,I] ty #[.slice (some ⟨g,0,none⟩) k cap,.int .i64 ((xs.length:Int)+(ys.length:Int) - (k:Int))]).run P w=.ok (.slice (some ⟨w.heap.size,0,none⟩) (xs.length+ys.length) (grownCap w (xs.length+ys.length) cap E)) (w.drew.alloc (.cells ((l.take (k * T.size)).toArray++Builtin.zeroCells z.cells (xs.length+ys.length - k)++Builtin.zeroCells z.cells (grownCap w (xs.length+ys.length) cap E - (xs.length+ys.length))) E)):=fun ty=>by
   have h:=Lib.run_append_grow_zeros (P:=P) w S I ty E inf z .i64 .i64 hS hI hinf hz (some ⟨g,0,none⟩) k cap (l.take (k * T.size)) hold (xs.length+ys.length - k) (by omega) (by omega) (by omega)
    (by rw [hik]; unfold maxLen at h63; omega) (by
     have:(xs.length+ys.length - k) * inf.bytes<=(xs.length+ys.length) * inf.bytes:=Ob _ (by omega);omega) (by rw [hik]; exact growslice_fits hroom hbi)
   rw [hik] at h;rw [hkk];exact h
  obtain ⟨G,hG⟩:∃ G,G=grownCap w (xs.length+ys.length) cap E:=⟨_,rfl⟩;rw [<- hG] at hap grow0 growM;obtain ⟨ROW,hROW⟩:∃ ROW:Array Value,ROW=(l.take (k * T.size)).toArray++Builtin.zeroCells z.cells (xs.length+ys.length - k)++Builtin.zeroCells z.cells (G - (xs.length+ys.length)):=⟨_,rfl⟩;rw [<- hROW] at hap;have hGz:(xs.length+ys.length) * T.size<=G * T.size:=Ob _ grow0;have hRl:ROW.toList=l.take (k * T.size)++((Builtin.zeroCells z.cells (xs.length+ys.length - k)).toList++(Builtin.zeroCells z.cells (G - (xs.length+ys.length))).toList):=by rw [hROW]; simp
  have hzl:((Builtin.zeroCells z.cells (xs.length+ys.length - k)).toList++(Builtin.zeroCells z.cells (G - (xs.length+ys.length))).toList).length=G * T.size - k * T.size:=by
   have zl:∀ n,(Builtin.zeroCells z.cells n).toList.length=n * T.size:=fun n=>by rw [OE,size_zeroCells,hzs]
   rw [NE,zl,zl,Nat.sub_mul,Nat.sub_mul];omega
  have hN:(w.drew.alloc (.cells ROW E)).heap[w.heap.size]?=some (.cells ROW E (0,0)):=O3 w.drew _;have hold2:∀ b,b<w.heap.size->(w.drew.alloc (.cells ROW E)).heap[b]?=w.heap[b]?:=fun b hb=>heap_alloc_old w.drew _ hb
  have hg2s:g2<w.heap.size:=(Array.getElem?_eq_some_iff.1 hb2).1;obtain ⟨C1,hC1⟩:∃ C1:List Value,C1=ROW.toList.take (k * T.size)++l2++ROW.toList.drop (k * T.size+ys.length * T.size):=⟨_,rfl⟩;obtain ⟨s0,s1,s2,s3⟩:=DI l l2 _ (a:=k * T.size) (b:=ys.length * T.size) (c:=xs.length * T.size) (G:=G * T.size) hlen hkn' hlen2 (by rw [hzl]; omega) (by omega) (c0:=ROW.toList) hRl (c1:=C1) hC1;have hRs:ROW.size=G * T.size:=by simpa using s0
  have hcp1:=fun ty (d1 d3:Nat) (e1:d1=xs.length+ys.length - k)=>mO (P:=P) (w.drew.alloc (.cells ROW E)) S S ty E T.size w.heap.size (k * T.size) ys.length d1 d3 ⟨g2,0,none⟩ ys.length cap2 ROW E l2 hS hszE hN
   (by rw [e1]; simp only [Nat.min_def]; split <;> omega) hlen2 (fun j u hj=>by
    rw [P9];have:=hvs j u hj;simp only [World.cell?,hold2 g2 hg2s] at this |-;exact this) (by rw [hRs]; omega) h1l2
  rw [<- hC1] at hcp1;have hN1:((w.drew.alloc (.cells ROW E)).setRow w.heap.size C1.toArray).drew.heap[w.heap.size]?=some (.cells C1.toArray E (0,0)):=(bY _ w.heap.size C1.toArray hN).1;have ho1:∀ b,b<w.heap.size->((w.drew.alloc (.cells ROW E)).setRow w.heap.size C1.toArray).drew.heap[b]?=w.heap[b]?:=fun b hb=>((bY _ w.heap.size C1.toArray hN).2.2.2.2.2 b (by omega)).trans (hold2 b hb)
  have hcp2:=fun ty (d1 d2 d3 d4:Nat) (e1:d1=xs.length - k) (e2:d2=xs.length - k)=>mO (P:=P) ((w.drew.alloc (.cells ROW E)).setRow w.heap.size C1.toArray).drew S S ty E T.size w.heap.size ((k+ys.length) * T.size) (xs.length - k) d1 d3 ⟨g,k * T.size,none⟩ d2 d4 C1.toArray E (l.drop (k * T.size)) hS hszE hN1
   (by rw [e1,e2]; simp only [Nat.min_def]; split <;> omega) hdrop (fun j u hj=>by
    rw [P9];have:=hsrc j u hj;simp only [World.cell?,ho1 g hgs] at this |-;exact this) (by simp only [ON,s1]; rw [hkz,hdz]; omega) (fun u hu=>h1l u (O0 hu))
  refine (grow w _ _ _ g w.heap.size xs.length cap k g2 ys.length cap2 G hkl hm h1 hroom grow0 (by unfold maxLen at h63; omega) (by unfold maxLen at growM; omega) hap hcp1 hcp2).mono ?_;rintro e w' ⟨rfl,rfl⟩;simp only;have hN2:=(bY ((w.drew.alloc (.cells ROW E)).setRow w.heap.size C1.toArray).drew w.heap.size ((C1.take ((k+ys.length) * T.size)++l.drop (k * T.size)++C1.drop ((k+ys.length) * T.size+(xs.length - k) * T.size)).toArray) hN1).1;rw [hkz,hdz] at hN2 |-;refine done _ _ _ rfl (ur ((ur ((jY w _).trans (zh w.drew _ _)) (fJ _ _ hN) (NR _)).trans (jY _ _)) (fJ _ _ hN1) (NR _)) ⟨?_,.inr ⟨w.heap.size,G,_,rfl,Of _,hN2,grow0,growM,?_,?_⟩⟩ (fun b h=>.inr (by have h:some w.heap.size=some b:=h; injection h with h; omega))
  ·simp only [NE,NN,NY,hlen,hlen2,hnz];omega
  ·rw [ON,s2]
  ·rw [List.toList_toArray,hnz,s3]
def Fc (P:Program) (E:TypeId):Bool:=match P.info? E with
 | some i=>match i.zero with
  | some z=>z.cells.toList.all fun u=>u.oneCell'
  | none=>false
 | none=>false
theorem Jk {P:Program} {E:TypeId} (h:Fc P E=true) {i:TypeInfo} {z:Value} (hi:P.info? E=some i) (hz:i.zero=some z):∀ u∈z.cells.toList,u.oneCell'=true:=by
 unfold Fc at h;rw [hi] at h;simp only [hz] at h;exact NH.1 h
def Gd (P:Program) (F:FuncId) (S:TypeId) (Z:Nat):Prop :=
 ∀ (w W1 W2:World) (g n c i j:Nat),i<j->j<=n->n<=c->c<=9223372036854775807 ->
  (∀ ty a d4,(j=n\/a=(⟨g,j * Z,none⟩:Addr))->(Builtin.append_ #[S,S] ty #[.slice (some ⟨g,0,none⟩) i c,.slice (some a) (n - j) d4]).run P w.drew=.ok (.slice (some ⟨g,0,none⟩) (i+(n - j)) c) W1) ->
  (∀ ty d4,(Builtin.clear_ #[S] ty #[.slice (some ⟨g,(i+(n - j)) * Z,none⟩) (j - i) d4]).run P W1=.ok (.tuple #[]) W2) ->
  Calls P F #[.slice (some ⟨g,0,none⟩) n c,.int .i64 i,.int .i64 j] w fun e w'=>e=.returned (.slice (some ⟨g,0,none⟩) (i+(n - j)) c)/\w'=W2
def gf (E:TypeId) (T:Ty):RowFn:={ e:=E,T:=T,Ts:=[ty_I,ty_I],out:=true,pre:=fun (xs _:List T.den) ((i,j):Int×Int)=>0<=i/\i<j/\j<=xs.length,F:=fun (xs _:List T.den) ((i,j):Int×Int)=>CR xs i j }
theorem LC {P:Program} {T:Ty} {F:FuncId} {S E:TypeId} (hS:P.underlying S=some (.slice E)) (hf:eX P E T=true)
  (hz1:∀ i z,P.info? E=some i->i.zero=some z->∀ u∈z.cells.toList,u.oneCell'=true) (walk:Gd P F S T.size):(gf E T).ok P F:=by
 intro p w v (xs:List T.den) l v2 (ys:List T.den) l2 vs (x:Int×Int) _ _ hA hown hl hbig hp _ _ _ hargs hpre;obtain ⟨i,j⟩:=x;obtain ⟨hi0,hij,hj⟩:0<=i/\i<j/\j<=xs.length:=hpre;obtain ⟨v1,rest,rfl,hv1,v3,rfl,hv3⟩:=hargs;have hv1:[v1]=[Value.int .i64 i]/\am .i64 i:=hv1;have hv3:[v3]=[Value.int .i64 j]/\am .i64 j:=hv3;obtain ⟨hv1,_⟩:=hv1;obtain ⟨hv3,_⟩:=hv3;injection hv1 with hv1
 injection hv3 with hv3
 subst hv1 hv3;obtain ⟨i,rfl⟩:∃ k:Nat,i=k:=⟨i.toNat,by omega⟩;obtain ⟨j,rfl⟩:∃ k:Nat,j=k:=⟨j.toNat,by omega⟩;have hown:w.ownsRow 0 E T.size v xs.length l:=hown;have hl:aK (T.holds p) xs l:=hl;have hbig:xs.length * T.bytes<=aL:=hbig;obtain ⟨inf,z,hinf,hsz,hby,hz,hzs⟩:=dn hf;have hlen:l.length=xs.length * T.size:=hown.1;have h1l:∀ u∈l,u.oneCell'=true:=fq (fun x cs h=>dm T x cs h) xs l hl;have hpos:=Ty.size_pos T;have hij':i<j:=by omega
 have hj':j<=xs.length:=by omega
 have eF:((gf E T).F xs ys ((i:Int),(j:Int)):List T.den)=xs.take i++xs.drop j:=by show CR xs i j=_; simp [CR]
 have hFl:(xs.take i++xs.drop j).length=i+(xs.length - j):=by simp; omega
 have hrow:aK (T.holds p) (xs.take i++xs.drop j) (l.take (i * T.size)++l.drop (j * T.size)) :=
  co _ _ _ _ (di (fun x cs h=>Ty.holds_length T x cs h) i xs l hl) (eK (fun x cs h=>Ty.holds_length T x cs h) j xs l hl)
 rcases hown.2 with ⟨_,h0⟩ | ⟨g,cap,cur,rfl,_,hbg,h1,h2,h3,h4⟩
 ·omega
 have hcap:cap<=9223372036854775807:=by unfold maxLen at h2; omega
 have hiz:i * T.size<=xs.length * T.size:=Ob _ (by omega);have hjz:j * T.size<=xs.length * T.size:=Ob _ hj';have hijz:i * T.size<=j * T.size:=Ob _ (by omega);have hnz:xs.length * T.size<=cap * T.size:=Ob _ h1;have hdz:(xs.length - j) * T.size=xs.length * T.size - j * T.size:=Nat.sub_mul _ _ _;have hoz:(i+(xs.length - j)) * T.size=i * T.size+(xs.length * T.size - j * T.size):=by rw [Pz,hdz]
 have hcz:(j - i) * T.size=j * T.size - i * T.size:=Nat.sub_mul _ _ _;have hlc:cur.toList.length=cap * T.size:=by simpa using h3
 have hdrop:((l.drop (j * T.size)).length)=(xs.length - j) * T.size:=by rw [NY,hlen,hdz]
 have hsrc:∀ (k:Nat) (u:Value),(l.drop (j * T.size))[k]?=some u->w.cell? ⟨g,j * T.size+k,none⟩=some u:=by
  intro k u hk;rw [List.getElem?_drop] at hk
  have:cur.toList[j * T.size+k]?=some u:=by
   rw [<- h4,List.getElem?_take] at hk;split at hk
   ·exact hk
   ·cases hk
  simp only [World.cell?,hbg];simpa using this
 have hgd:w.drew.heap[g]?=some (.cells cur E (0,0)):=hbg;obtain ⟨C1,hC1⟩:∃ C1:List Value,C1=cur.toList.take (i * T.size)++l.drop (j * T.size)++cur.toList.drop (i * T.size+(xs.length * T.size - j * T.size)):=⟨_,rfl⟩
 have hC1l:C1.length=cap * T.size:=by
  rw [hC1];simp only [NE,NN,NY,hlen,hlc];omega
 have hap:=fun ty (a:Addr) d4 (ha:j=xs.length\/a=⟨g,j * T.size,none⟩)=>run_append_room (P:=P) w.drew S ty E inf hS hinf g i cap cur hgd a (xs.length - j) d4 (l.drop (j * T.size)) (by rw [hsz]; exact hdrop)
  (fun k u hk=>by
   rcases ha with ha | rfl
   ·rw [N9 (by rw [ha]; omega)] at hk;simp at hk
   ·rw [P9]; exact hsrc k u hk) (fun u hu=>h1l u (O0 hu)) (by omega) (by
    have:cur.toList.length=cur.size:=by simp
    rw [hsz,hdrop,hdz]; omega)
 rw [hsz,hdrop,hdz,<- hC1] at hap;have hg1:(w.drew.setRow g C1.toArray).heap[g]?=some (.cells C1.toArray E (0,0)):=(bY w.drew g C1.toArray hgd).1;have hzr:∀ w,(zeroValue E).run P w=.ok z w:=fun w=>by simp [zeroValue,typeInfo,hinf,hz]
 have hzc:z.cells.size=T.size:=hzs
 have hcl:=fun ty d4=>wD (P:=P) (w:=w.drew.setRow g C1.toArray) hS hzr ty (b:=g) (o:=(i+(xs.length - j)) * T.size) (n:=j - i) (c:=d4) (cur:=C1.toArray) (ct:=E) (by omega) hg1 (fun u hu=>by
  rw [et z.cells (by omega)] at hu;obtain ⟨y,hy,hu⟩:=List.mem_flatten.1 hu;rw [OJ hy] at hu
  exact hz1 inf z hinf hz u hu) (by
   have e1:C1.toArray.size=cap * T.size:=by simpa using hC1l
   have e2:(j - i) * z.cells.size=j * T.size - i * T.size:=by rw [hzc,hcz]
   rw [e1,e2,hoz];omega)
 refine (walk w _ _ g xs.length cap i j hij' hj' h1 hcap hap hcl).mono ?_;rintro e w' ⟨rfl,rfl⟩;have hg2:=(bY (w.drew.setRow g C1.toArray) g ((C1.take ((i+(xs.length - j)) * T.size)++(madeCells z.cells ((j - i) * z.cells.size)).toList++C1.drop ((i+(xs.length - j)) * T.size+(j - i) * z.cells.size)).toArray) hg1).1;simp only
 have hml:(madeCells z.cells ((j - i) * z.cells.size)).toList.length=j * T.size - i * T.size:=by
  rw [OE,OS,hzc,hcz]
 have done:∀ (W:World),w.grownBy W (some g)->W.ownsRow 0 E T.size (.slice (some ⟨g,0,none⟩) (i+(xs.length - j)) cap) (i+(xs.length - j)) (l.take (i * T.size)++l.drop (j * T.size)) ->
   ∃ (v':Value) (l':List Value),Ending.returned (.slice (some ⟨g,0,none⟩) (i+(xs.length - j)) cap)=.returned (if (gf E T).out then v' else .tuple #[])/\((gf E T).out=false->v'=.slice (some ⟨g,0,none⟩) xs.length cap)/\w.grownBy W (Value.slice (some ⟨g,0,none⟩) xs.length cap).ownBlock /\
   W.ownsRow 0 (gf E T).e (gf E T).T.size v' ((gf E T).F xs ys ((i:Int),(j:Int)):List T.den).length l'/\aK ((gf E T).T.holds p) ((gf E T).F xs ys ((i:Int),(j:Int))) l'/\((gf E T).F xs ys ((i:Int),(j:Int)):List T.den).length * (gf E T).T.bytes<=aL /\
   ∀ b,v'.ownBlock=some b->(Value.slice (some ⟨g,0,none⟩) xs.length cap).ownBlock=some b\/w.heap.size<=b:=by
  intro W hg ho;rw [eF];refine ⟨_,l.take (i * T.size)++l.drop (j * T.size),rfl,fun h=>(by cases h),hg,?_,hrow,?_,fun b h=>.inl h⟩
  ·show W.ownsRow 0 E T.size _ (xs.take i++xs.drop j).length _;rw [hFl];exact ho
  ·show (xs.take i++xs.drop j).length * T.bytes<=aL;rw [hFl];exact Oe (Ob _ (by omega)) hbig
 refine done _ (((jY w _).trans (fJ w.drew _ hgd)).trans (fJ _ _ hg1)) ⟨?_,.inr ⟨g,cap,_,rfl,Of _,hg2,by omega,h2,?_,?_⟩⟩
 ·simp only [NE,NN,NY,hlen,hoz];omega
 ·rw [ON,NE,NE,NN,NY,hml,hC1l,hzc,hoz,hcz];omega
 ·rw [List.toList_toArray,List.append_assoc,N6 (by rw [NN,hC1l,hoz]; omega),O4,Nat.min_self,hC1,hoz];rw [N6 (by simp only [NE,NN,NY,hlen,hlc]; omega),NP (by simp only [NE,NN,NY,hlen,hlc]; omega)];congr 1;rw [<- h4,O4,OV hiz]
end
section
def GW:Spec:={ Ts:=[ty_I],Rs:=[.dat .bool],pre:=fun _=>True,F:=fun _=>false }
def wZ:Prop :=
  ∀ (x:Int),am .i64 x->True->decide (x≠x)=false/\True
theorem Ds:wZ:=by
 unfold wZ;intro x _ _;simp
theorem Hs:GW.ok Tryz.prog 235:=aF (ann:=cr) ap Tryz.func235 (by kernel_rfl) Ds
def HE (l:List Int) (x:Int):Int:=((l.filter fun y=>decide (y<x)).length:Int)
theorem Mv {l:List Int} {x:Int} {lo:Nat} (hlo:lo<=l.length) (h1:∀ j:Nat,j<lo->l.getD j 0<x) (h2:∀ j:Nat,lo<=j->j<l.length->x<=l.getD j 0):HE l x=lo:=by
 unfold HE
 have e:l.filter (fun y=>decide (y<x))=l.take lo:=by
  have e1:l=l.take lo++l.drop lo:=(OD lo l).symm
  have e2:(l.take lo).filter (fun y=>decide (y<x))=l.take lo:=by
   rw [List.filter_eq_self];intro y hy;obtain ⟨j,hj,rfl⟩:=PZ.1 hy;have hj2:j<lo/\j<l.length:=by simp at hj; omega
   have:=h1 j hj2.1;rw [List.getD_eq_getElem?_getD,List.getElem?_eq_getElem hj2.2] at this;simpa using this
  have e3:(l.drop lo).filter (fun y=>decide (y<x))=[]:=by
   rw [List.filter_eq_nil_iff];intro y hy;obtain ⟨j,hj,rfl⟩:=PZ.1 hy;have hj2:lo+j<l.length:=by simp at hj; omega
   have:=h2 (lo+j) (by omega) hj2;rw [List.getD_eq_getElem?_getD,List.getElem?_eq_getElem hj2] at this;simp at this |-;omega
  conv=>lhs; rw [e1]
  rw [PO,e2,e3,Om]
 rw [e,NN,OV hlo]
theorem Mw {l:List Int} {x:Int} {lo:Nat} (hs:l.Pairwise (·<=·)) (h1:∀ j:Nat,j<lo->l.getD j 0<x) (h2:∀ j:Nat,lo<=j->j<l.length->x<=l.getD j 0):fx l x=(decide (lo<l.length)&&decide (l.getD lo 0=x)):=by
 by_cases h:lo<l.length/\l.getD lo 0=x
 ·rw [OI h.1,OI h.2];refine cu.2 ?_;rw [<- h.2,List.getD_eq_getElem?_getD,List.getElem?_eq_getElem h.1];simp
 ·have e:(decide (lo<l.length)&&decide (l.getD lo 0=x))=false:=by
   by_cases h3:lo<l.length
   ·by_cases h4:l.getD lo 0=x
    ·exact absurd ⟨h3,h4⟩ h
    ·rw [OP h4,Bool.and_false]
   ·rw [OP h3,Py]
  rw [e];cases hx:fx l x
  ·rfl
  ·exfalso;obtain ⟨j,hj,e2⟩:=PZ.1 (cu.1 hx);have ej:l.getD j 0=x:=by rw [List.getD_eq_getElem?_getD,List.getElem?_eq_getElem hj]; simpa using e2
   rcases NW j lo with hlt | hge
   ·have:=h1 j hlt; omega
   ·have hlo:lo<l.length:=by omega
    have h5:=h2 lo (NR _) hlo
    have h6:l.getD lo 0<=l.getD j 0:=by
     rcases NW lo j with h7 | h7
     ·have:=Pm.1 hs lo j hlo hj h7;rw [List.getD_eq_getElem?_getD,List.getElem?_eq_getElem hlo,List.getD_eq_getElem?_getD,List.getElem?_eq_getElem hj];simpa using this
     ·have:j=lo:=by omega
      subst this;exact O1 _
    exact h ⟨hlo,by omega⟩
theorem qW {l:List Int} (hs:l.Pairwise (·<=·)) {i j:Nat} (h:i<=j) (hj:j<l.length):l.getD i 0<=l.getD j 0:=by
 rcases NW i j with h7 | h7
 ·have:=Pm.1 hs i j (by omega) hj h7;rw [List.getD_eq_getElem?_getD,List.getElem?_eq_getElem (show i<l.length by omega),List.getD_eq_getElem?_getD,List.getElem?_eq_getElem hj];simpa using this
 ·have:j=i:=by omega
  subst this;exact O1 _
end
section
abbrev fo:Ty:=.pair ty_I ty_I
abbrev bj:=Int×Int
def lC (x:bj):Bool:=decide (x.1<0)||decide (255<x.1)||decide (x.2<1)||decide (1000000<x.2)
def cL:Int->List bj->Int
 | _,[]=>0
 | q,x::l=>if lC x=true then 4 else if x.1<=q then 3 else cL x.1 l
def bM (p:List bj):Int:=if 16<p.length then 2 else cL (-1) p
def ahead (p:List bj) (i:Int):Int:=if 0<i then (p.getD (i - 1).toNat (0,0)).1 else -1
theorem tW:∀ {p:List bj} {q:Int},cL q p=0->p.Pairwise (fun x y=>x.1<y.1)/\(∀ x∈p,q<x.1/\0<=x.1/\x.1<=255/\1<=x.2/\x.2<=1000000)
 | [],_,_=>⟨List.Pairwise.nil,fun _ h=>by cases h⟩
 | x::l,q,h=>by
  unfold cL at h;split at h
  ·omega
  ·rename_i hb;split at h
   ·omega
   ·rename_i hq;obtain ⟨h1,h2⟩:=tW h;have hb:lC x=false:=by simpa using hb
    simp only [lC,OG,Ou] at hb;refine ⟨Oc.2 ⟨fun y hy=>(h2 y hy).1,h1⟩,fun y hy=>?_⟩;rcases NG.1 hy with rfl | hy
    ·omega
    ·have:=h2 y hy; omega
theorem oZ {p:List bj} (h:bM p=0):p.length<=16/\p.Pairwise (fun x y=>x.1<y.1)/\∀ x∈p,0<=x.1/\x.1<=255/\1<=x.2/\x.2<=1000000:=by
 unfold bM at h;split at h
 ·omega
 ·obtain ⟨h1,h2⟩:=tW h;exact ⟨by omega,h1,fun x hx=>(h2 x hx).2⟩
theorem ua:∀ {m:List bj} {k v:Int},bq m k=some v->(k,v)∈m
 | [],_,_,h=>by cases h
 | x::m,k,v,h=>by
  unfold bq at h;split at h
  ·rename_i hx;injection h with h
   subst h hx;simp
  ·exact NT _ (ua h)
theorem Cc:∀ {m:List bj} {x:bj},m.Pairwise (fun x y=>x.1<y.1)->x∈m->bq m x.1=some x.2
 | [],_,_,h=>by cases h
 | y::m,x,hp,h=>by
  obtain ⟨h1,h2⟩:=Oc.1 hp;unfold bq;rcases NG.1 h with rfl | h
  ·rw [if_pos rfl]
  ·have:=h1 x h;rw [if_neg (by omega)];exact Cc h2 h
def fk (m:List bj) (k:Int):Int:=(bq m k).getD 0
def kj (p:List bj) (k:Int):Int:=HE (p.map Prod.fst) k
def nP (p:List bj) (k:Int):Bool:=fx (p.map Prod.fst) k
theorem Ci {p:List bj} (hp:p.Pairwise (fun x y=>x.1<y.1)) {k:Int}:nP p k=(bq p k).isSome:=by
 apply PM.2;unfold nP;rw [cu,NZ];constructor
 ·rintro ⟨x,hx,rfl⟩;rw [Cc hp hx];rfl
 ·intro h;obtain ⟨v,hv⟩:=O9.1 h;exact ⟨_,ua hv,rfl⟩
theorem JT (p:List bj) (i:Nat):(p.map Prod.fst).getD i 0=(p.getD i (0,0)).1:=by
 rw [List.getD_eq_getElem?_getD,List.getD_eq_getElem?_getD,List.getElem?_map];cases p[i]? <;> rfl
theorem HD {p:List bj} (hp:p.Pairwise (fun x y=>x.1<y.1)) (k:Int):∃ A B:List bj,(∀ x∈A,x.1<k)/\(∀ x∈B,k<x.1)/\kj p k=A.length /\
  ((bq p k=none/\p=A++B)\/∃ v,bq p k=some v/\p=A++(k,v)::B):=by
 induction p with
 | nil=>exact ⟨[],[],(fun _ h=>by cases h),(fun _ h=>by cases h),rfl,.inl ⟨rfl,rfl⟩⟩
 | cons y p ih =>
  obtain ⟨h1,h2⟩:=Oc.1 hp
  have e:kj (y::p) k=(if y.1<k then 1 else 0)+kj p k:=by
   unfold kj HE;rw [Oi,List.filter_cons];by_cases hy:y.1<k
   ·rw [if_pos (OI hy),if_pos hy,NC];omega
   ·rw [if_neg (by simpa using hy),if_neg hy];omega
  have e0:k<=y.1->kj p k=0:=fun hk=>by
   unfold kj HE
   have:(p.map Prod.fst).filter (fun z=>decide (z<k))=[]:=by
    rw [List.filter_eq_nil_iff];intro z hz;obtain ⟨x,hx,rfl⟩:=NZ.1 hz;have:=h1 x hx;simp;omega
   rw [this];rfl
  rcases Int.lt_trichotomy y.1 k with hy | hy | hy
  ·obtain ⟨A,B,a1,a2,a3,a4⟩:=ih h2;refine ⟨y::A,B,fun x hx=>?_,a2,?_,?_⟩
   ·rcases NG.1 hx with rfl | hx
    ·exact hy
    ·exact a1 x hx
   ·rw [e,if_pos hy,a3,NC];omega
   ·unfold bq;rw [if_neg (by omega)];rcases a4 with ⟨b1,b2⟩ | ⟨v,b1,b2⟩
    ·exact .inl ⟨b1,by rw [b2]; rfl⟩
    ·exact .inr ⟨v,b1,by rw [b2]; rfl⟩
  ·refine ⟨[],p,(fun x hx=>by cases hx),(fun x hx=>by have:=h1 x hx; omega),?_,.inr ⟨y.2,?_,?_⟩⟩
   ·rw [e,if_neg (by omega),e0 (by omega)];rfl
   ·unfold bq;rw [if_pos hy]
   ·rw [<- hy];rfl
  ·refine ⟨[],y::p,(fun x hx=>by cases hx),fun x hx=>?_,?_,.inl ⟨?_,rfl⟩⟩
   ·rcases NG.1 hx with rfl | hx
    ·exact hy
    ·have:=h1 x hx; omega
   ·rw [e,if_neg (by omega),e0 (by omega)];rfl
   ·cases h:bq (y::p) k with
    | none=>rfl
    | some v =>
     have:=ua h;rcases NG.1 this with h3 | h3
     ·rw [<- h3] at hy; simp at hy
     ·have:=h1 _ h3; simp at this; omega
end
section
open Go Go.RowKit Go.Lib
set_option maxHeartbeats 4000000 in
set_option maxRecDepth 100000 in
theorem yE:C7 Tryz.prog 203 32 2:=by
 intro w W1 W2 g n c i vb m vc tA tB kA kB hi hm hroom hc63 hvb hsa hsb hkB hfa hfe hcp1 hcp2
 have hov:∀ o lb cb,(callFunc 248 #[.slice (some ⟨vb,0,none⟩) m vc,.slice (some ⟨g,o,none⟩) lb cb]).run Tryz.prog w=.ok (.value (.bool false)) w:=fun o lb cb=>by
  rw [run_callFunc_extern Tryz.func248 (by kernel_rfl) (by kernel_rfl) (by kernel_rfl) (e:=Extern.SlicesOverlaps.overlaps #[32,32] #[4]) (by kernel_rfl),
   Lib.run_overlaps_apart w 32 4 157 (by kernel_rfl) 2 (fun _=>by kernel_rfl) ⟨vb,0,none⟩ ⟨g,o,none⟩ m vc lb cb hvb tA tB kA kB hsa hsb hkB hfa hfe]
  rfl
 have hz1:¬ ((m:Int)=0):=by omega
 have hz2:¬ ((i:Int)=(n:Int)):=by omega
 have mixed:Tryz.prog.follows .mixedOrders=true:=by kernel_rfl
 have hw1:IntKind.i64.wrap ((i:Int)+(m:Int))=(i:Int)+(m:Int):=by rw [IntKind.wrap_i64]; omega
 have hb1:(0:Int)<=(i:Int)+(m:Int):=by omega
 have hin:i<=n:=by omega
 have htn:((i:Int)+(m:Int)).toNat=i+m:=by omega
 have hb2:¬ (c=i+m):=by omega
 have hb3:(i:Int)<=(n:Int)+(m:Int):=by omega
 have hb4:¬ (c=i):=by omega
 go_enter Tryz.func203,Tryz.ntmps203
 go_wp2_with (simp only [hov])
 go_region_law_o (refine step_copy_runI rfl _ _ 32 32 rfl (.slice (some ⟨g,(i+m) * 2,none⟩) (n+m - (i+m)) (c - (i+m))) (.slice (some ⟨g,i * 2,none⟩) (n+m - i) (c - i)) (by simp [Act.eval,Act.put]) (by simp [Act.eval,Act.put]) (hcp1 _ _ _ _ _ (by omega) rfl) ?_)
 go_wp2_with (at_builtin; refine wpList_copy_runI _ rfl _ _ 32 32 rfl _ _ rfl rfl (hcp2 _ _ _ (by omega)) ?_)
 go_ret
 exact ⟨rfl,rfl⟩
set_option maxHeartbeats 4000000 in
set_option maxRecDepth 100000 in
theorem Cj:Gb Tryz.prog 203 32 3 2:=by
 intro w W0 W1 W2 g N n c i vb m vc G hi hm hn hroom hG h63 hG63 hrz hcp1 hcp2;have hz1:¬ ((m:Int)=0):=by omega
 have hz2:¬ ((i:Int)=(n:Int)):=by omega
 have hz3:(c:Int)<(n:Int)+(m:Int):=by omega
 have mixed:Tryz.prog.follows .mixedOrders=true:=by kernel_rfl
 have hGi:¬ (G=i):=by omega
 have hGim:¬ (G=i+m):=by omega
 have hci:¬ (c=i):=by omega
 have hw1:IntKind.i64.wrap ((i:Int)+(m:Int))=(i:Int)+(m:Int):=by rw [IntKind.wrap_i64]; omega
 have hb1:(0:Int)<=(i:Int)+(m:Int):=by omega
 have hin:i<=n:=by omega
 have htn:((i:Int)+(m:Int)).toNat=i+m:=by omega
 have hb3:(i:Int)<=(n:Int):=by omega
 go_enter Tryz.func203,Tryz.ntmps203
 go_wp2_with (first
  | (at_builtin; refine Lib.wpList_append_run _ rfl _ _ _ _ rfl _ _ rfl rfl _ _ (hrz _) ?_)
  | (at_builtin; refine wpList_copy_runI _ rfl _ _ 32 32 rfl _ _ rfl rfl (hcp1 _ _ _ rfl) ?_))
 go_region_law_o (refine step_copy_runI rfl _ _ 32 32 rfl (.slice (some ⟨N,(i+m) * 2,none⟩) (n+m - (i+m)) (G - (i+m))) (.slice (some ⟨g,i * 2,none⟩) (n - i) (c - i)) (by simp [Act.eval,Act.put]) (by simp [Act.eval,Act.put]) (hcp2 _ _ _ _ _ (by omega) rfl) ?_)
 go_wp2
 go_ret
 exact ⟨rfl,rfl⟩
set_option maxHeartbeats 4000000 in
set_option maxRecDepth 100000 in
theorem EQ:KC Tryz.prog 203 32:=by
 intro w W A n c vb m vc v' hm hnc hnil hsome hr;have mixed:Tryz.prog.follows .mixedOrders=true:=by kernel_rfl
 have hz1:¬ ((m:Int)=0):=by omega
 cases A with
 | none =>
  obtain ⟨rfl,rfl⟩:=hnil rfl
  go_enter Tryz.func203,Tryz.ntmps203
  go_wp2_with (at_builtin; refine Lib.wpList_append_run _ rfl _ _ _ _ rfl _ _ rfl rfl _ _ hr ?_)
  go_ret
  exact ⟨rfl,rfl⟩
 | some ad =>
  obtain ⟨ab,ao,asp⟩:=ad;obtain ⟨e1,e2⟩:=hsome _ rfl;simp only at e1 e2;subst e1 e2
  go_enter Tryz.func203,Tryz.ntmps203
  go_wp2_with (at_builtin; refine Lib.wpList_append_run _ rfl _ _ _ _ rfl _ _ rfl rfl _ _ hr ?_)
  all_goals (go_ret; exact ⟨rfl,rfl⟩)
def GX:RowFn:=ge 157 fo
theorem Ht:GX.ok Tryz.prog 203:=Lm (P:=Tryz.prog) (S:=32) (E:=157) (I:=3) (by kernel_rfl) (by kernel_rfl) (by kernel_rfl) yE Cj EQ
set_option maxHeartbeats 4000000 in
set_option maxRecDepth 100000 in
theorem Ab:Gd Tryz.prog 204 32 2:=by
 intro w W1 W2 g n c i j hij hj hn hc63 hap hcl;have mixed:Tryz.prog.follows .mixedOrders=true:=by kernel_rfl
 have hz1:¬ ((i:Int)=(j:Int)):=by omega
 have hb1:i<=j:=by omega
 have hb2:j<=c:=by omega
 have hb3:i<=c:=by omega
 have hb4:i<=n:=by omega
 have hb5:¬ (c=i+(n - j)):=by omega
 have hb6:i+(n - j)<=n:=by omega
 have e1:n - (i+(n - j))=j - i:=by omega
 have hcl':=fun ty d4=>hcl ty d4
 simp only [<- e1] at hcl';by_cases hcj:c=j
 ·subst hcj;have hnj:n=c:=by omega
  subst hnj;simp only [P7,OW] at hcl' |-
  go_enter Tryz.func204,Tryz.ntmps204
  go_wp2
  go_region_law_o (refine lG rfl _ _ 32 32 rfl (.slice (some ⟨g,0,none⟩) i n) (.slice (some ⟨g,0,none⟩) (n - n) (n - n)) (by simp [Act.eval,Act.put]) (by simp [Act.eval,Act.put]) (hap _ _ _ (.inl trivial)) ?_)
  go_wp2_with (at_builtin; refine kx _ rfl _ _ rfl _ rfl _ _ (hcl' _ _) ?_)
  go_ret
  exact ⟨rfl,rfl⟩
 ·go_enter Tryz.func204,Tryz.ntmps204
  go_wp2
  go_region_law_o (refine lG rfl _ _ 32 32 rfl (.slice (some ⟨g,0,none⟩) i c) (.slice (some ⟨g,j * 2,none⟩) (n - j) (c - j)) (by simp [Act.eval,Act.put]) (by simp [Act.eval,Act.put]) (hap _ _ _ (.inr rfl)) ?_)
  go_wp2_with (at_builtin; refine kx _ rfl _ _ rfl _ rfl _ _ (hcl' _ _) ?_)
  go_ret
  exact ⟨rfl,rfl⟩
def G1:RowFn:=gf 157 fo
theorem Hx:G1.ok Tryz.prog 204:=LC (P:=Tryz.prog) (S:=32) (E:=157) (by kernel_rfl) (by kernel_rfl) (fun i z hi hz u hu=>Jk (by kernel_rfl) hi hz u hu) Ab
end
section
theorem Fa {p:List bj} {i:Int} (h0:0<=i) (h:i<p.length):cL (ahead p i) (p.drop i.toNat)=if lC (p.getD i.toNat (0,0))=true then 4 else if (p.getD i.toNat (0,0)).1<=ahead p i then 3 else cL (ahead p (i+1)) (p.drop (i+1).toNat):=by
 rw [bz ((0,0):bj) h0 h]
 have e:ahead p (i+1)=(p.getD i.toNat (0,0)).1:=by
  unfold ahead;rw [if_pos (by omega),show (i+1 - 1)=i by omega]
 rw [e];rfl
def AP:Spec:={ Ts:=[ty_I],Rs:=[.dat .bool],pre:=fun _=>True,F:=fun (v:Int)=>decide (0<=v)&&decide (v<256) }
def rj:Prop :=
  ∀ (x:Int),am .i64 x->True->(decide (0<=x)&&decide (x<256))=(decide (0<=x)&&decide (x<256))/\True
theorem xV:rj:=by
 unfold rj;intro v _ _;simp
theorem rK:AP.ok Tryz.prog 210:=aF (ann:=cr) ap Tryz.func210 (by kernel_rfl) xV
def CZ:Nat->Option LoopGen
 | 4=>some { rd:=[.dat 8 (.arr fo)],A:=fun (p:List bj)=>{ cs:=[.dat 10 ty_I],inv:=fun (i:Int)=>0<=i/\i<=p.length/\cL (ahead p i) (p.drop i.toNat)=cL (-1) p,mu:=fun (i:Int)=>(p.length - i).toNat } }
 | _=>none
def AQ:Spec:={ Ts:=[.arr fo],Rs:=[.dat ty_I],pre:=fun _=>True,F:=fun (p:List bj)=>bM p }
def rk:Prop :=
  ∀ (x:List (Int×Int)),(x.length * (8+8)<=aL/\∀ (x_1:Int×Int),x_1∈x->am .i64 x_1.1/\am .i64 x_1.2)->True->(decide (16<(x.length:Int))=true->2=bM x/\True)/\(decide (16<(x.length:Int))=false->((0:Int)<=0/\0<=(x.length:Int)/\cL (ahead x 0) (List.drop (Int.toNat 0) x)=cL (-1) x)/\∀ (x_1:Int),0<=x_1/\x_1<=(x.length:Int)/\cL (ahead x x_1) (List.drop x_1.toNat x)=cL (-1) x->(decide (x_1<(x.length:Int))=true->0<=x_1/\x_1<(x.length:Int)/\True/\((!(decide (0<=(x.getD x_1.toNat (0,0)).1)&&decide ((x.getD x_1.toNat (0,0)).1<256))||decide ((x.getD x_1.toNat (0,0)).2<1)||decide (1000000<(x.getD x_1.toNat (0,0)).2))=true->4=bM x/\True)/\((!(decide (0<=(x.getD x_1.toNat (0,0)).1)&&decide ((x.getD x_1.toNat (0,0)).1<256))||decide ((x.getD x_1.toNat (0,0)).2<1)||decide (1000000<(x.getD x_1.toNat (0,0)).2))=false->(decide (0<x_1)=true->am .i64 (x_1 - 1))/\(decide (0<x_1)=true->0<=x_1 - 1)/\(decide (0<x_1)=true->x_1 - 1<(x.length:Int))/\((decide (0<x_1)&&decide ((x.getD x_1.toNat (0,0)).1<=(x.getD (x_1 - 1).toNat (0,0)).1))=true->3=bM x/\True)/\((decide (0<x_1)&&decide ((x.getD x_1.toNat (0,0)).1<=(x.getD (x_1 - 1).toNat (0,0)).1))=false->am .i64 (x_1+1)/\(0<=x_1+1/\x_1+1<=(x.length:Int)/\cL (ahead x (x_1+1)) (List.drop (x_1+1).toNat x)=cL (-1) x)/\((x.length:Int) - (x_1+1)).toNat<((x.length:Int) - x_1).toNat)))/\(decide (x_1<(x.length:Int))=false->0=bM x/\True))
theorem xW:rk:=by
 unfold rk;intro p ⟨hb,_⟩ _;unfold aL at hb;have hF:bM p=if 16<p.length then 2 else cL (-1) p:=rfl
 refine ⟨fun h=>?_,fun h=>?_⟩
 ·rw [hF,if_pos (by have:=Nw h; omega)];exact ⟨rfl,trivial⟩
 have hl:¬ 16<p.length:=by have:=Nx h; omega
 rw [hF,if_neg hl];refine ⟨⟨by omega,by omega,rfl⟩,fun i ⟨i0,i1,i2⟩=>⟨fun hlt=>?_,fun hge=>?_⟩⟩
 ·have hlt:=Nw hlt;rw [Fa i0 hlt] at i2;have hp:0<i->ahead p i=(p.getD (i - 1).toNat (0,0)).1:=fun h=>if_pos h
  have hn:¬ 0<i->ahead p i=-1:=fun h=>if_neg h
  generalize p.getD i.toNat (0,0)=x at *;generalize p.getD (i - 1).toNat (0,0)=y at *;generalize ahead p i=q at *
  have hbad:(!(decide (0<=x.1)&&decide (x.1<256))||decide (x.2<1)||decide (1000000<x.2))=lC x:=by
   unfold lC
   grind
  rw [hbad];refine ⟨i0,hlt,trivial,fun hc=>?_,fun hc=>⟨fun _=>by simp only [am]; omega,fun h=>by have:=Nw h; omega,fun _=>by omega,fun h2=>?_,fun h2=>⟨by simp only [am]; omega,⟨by omega,by omega,?_⟩,by omega⟩⟩⟩
  ·rw [if_pos hc] at i2;exact ⟨i2,trivial⟩
  ·rw [if_neg (by rw [hc]; simp)] at i2;simp only [NA,N5] at h2;rw [if_pos (by rw [hp h2.1]; exact h2.2)] at i2;exact ⟨i2,trivial⟩
  ·rw [if_neg (by rw [hc]; simp)] at i2
   have hx:0<=x.1:=by
    simp only [lC,OG,Ou] at hc;omega
   rw [if_neg] at i2
   ·exact i2
   ·intro h3;by_cases h4:0<i
    ·rw [hp h4] at h3;have:(decide (0<i)&&decide (x.1<=y.1))=true:=by simp [h4,h3]
     rw [this] at h2;cases h2
    ·rw [hn h4] at h3;omega
 ·rw [cq (Nx hge)] at i2;exact ⟨i2,trivial⟩
theorem rL:AQ.ok Tryz.prog 150:=aF (ann:=CZ) (ae rK ap) Tryz.func150 (by kernel_rfl) xW
def kv (x y:Int):Int:=if x<y then -1 else if y<x then 1 else 0
def KY:Spec:={ Ts:=[ty_I,ty_I],Rs:=[.dat ty_I],pre:=fun _=>True,F:=fun ((x,y):Int×Int)=>kv x y }
def FB:Prop :=
  ∀ (x:Int×Int),am .i64 x.1/\am .i64 x.2->True->True/\True/\(false=true->(false=true->0=kv x.1 x.2/\True)/\(false=false->(-1)=kv x.1 x.2/\True))/\(false=false->(false=true->1=kv x.1 x.2/\True)/\(false=false->(decide (x.1<x.2)=true->(-1)=kv x.1 x.2/\True)/\(decide (x.1<x.2)=false->(decide (x.2<x.1)=true->1=kv x.1 x.2/\True)/\(decide (x.2<x.1)=false->0=kv x.1 x.2/\True))))
theorem Iw:FB:=by
 unfold FB;intro ⟨x,y⟩ _ _;simp only [kv]
 grind
theorem Lg:KY.ok Tryz.prog 247:=aF (ann:=cr) (ae Hs ap) Tryz.func247 (by kernel_rfl) Iw
def I0:Spec:={ Ts:=[fo,ty_I],Rs:=[.dat ty_I],pre:=fun _=>True,F:=fun ((x,y):bj×Int)=>kv x.1 y }
def BM:Prop :=
  ∀ (x:(Int×Int)×Int),(am .i64 x.1.1/\am .i64 x.1.2)/\am .i64 x.2->True->True/\kv x.1.1 x.2=kv x.1.1 x.2/\True
theorem Gv:BM:=by
 unfold BM;intro ⟨x,y⟩ _ _;exact ⟨trivial,rfl,trivial⟩
theorem Jy:I0.ok Tryz.prog 246:=aF (ann:=cr) (ae Lg ap) Tryz.func246 (by kernel_rfl) Gv
theorem LG (x y:Int):decide (kv x y<0)=decide (x<y):=by
 unfold kv
 grind
theorem LH (x y:Int):decide (kv x y=0)=decide (x=y):=by
 unfold kv
 grind
def aD (p:List bj) (k:Int):Int×Bool×Int:=if bM p≠0 then (0,false,bM p) else if (decide (0<=k)&&decide (k<256))=false then (0,false,4) else (kj p k,nP p k,0)
def LP:Nat->Option LoopGen
 | 3000245=>some d9
 | 24600000003=>some { rd:=[.dat 0 (.arr fo),.dat 1 ty_I],A:=fun ((p,x):List bj×Int)=>{ cs:=[.dat 9 ty_I,.dat 10 ty_I],inv:=fun ((lo,hi):Int×Int)=>0<=lo/\lo<=hi/\hi<=p.length/\(∀ j:Nat,(j:Int)<lo->(p.map Prod.fst).getD j 0<x)/\(∀ j:Nat,hi<=j->j<p.length->x<=(p.map Prod.fst).getD j 0),mu:=fun ((lo,hi):Int×Int)=>(hi - lo).toNat } }
 | _=>none
def KW:Spec:={ Ts:=[.arr fo,ty_I],Rs:=[.dat ty_I,.dat .bool,.dat ty_I],pre:=fun _=>True,F:=fun ((p,k):List bj×Int)=>aD p k }
def Fz:Prop :=
  ∀ (x:List (Int×Int)×Int),(fun (v2:type_of% (List.map Prod.fst x.1))=>(x.1.length * (8+8)<=aL/\∀ (x_1:Int×Int),x_1∈x.1->am .i64 x_1.1/\am .i64 x_1.2)/\am .i64 x.2->True->True/\(decide (bM x.1=0)=true->True)/\((decide (bM x.1=0)&&!(decide (0<=x.2)&&decide (x.2<256)))=true->(decide ((4:Int)≠0)=true->0=(aD x.1 x.2).1/\false=(aD x.1 x.2).2.1/\4=(aD x.1 x.2).2.2/\True)/\(decide ((4:Int)≠0)=false->∀ (_:Array Value),((0:Int)<=0/\0<=(x.1.length:Int)/\(x.1.length:Int)<=(x.1.length:Int)/\(∀ (j:Nat),(↑j:Int)<0->v2.getD j 0<x.2)/\∀ (j:Nat),(x.1.length:Int)<=(↑j:Int)->j<x.1.length->x.2<=v2.getD j 0)/\∀ (x_1:Int×Int),(fun (v0:type_of% (IntKind.u64.wrap (x_1.1+x_1.2) / 2 ^ Int.toNat 1))=>(0<=x_1.1/\x_1.1<=x_1.2/\x_1.2<=(x.1.length:Int)/\(∀ (j:Nat),(↑j:Int)<x_1.1->v2.getD j 0<x.2)/\∀ (j:Nat),x_1.2<=(↑j:Int)->j<x.1.length->x.2<=v2.getD j 0)->(decide (x_1.1<x_1.2)=true->am .i64 (x_1.1+x_1.2)/\(0:Int)<=1/\1<(↑IntKind.u64.bits:Int)/\0<=IntKind.i64.wrap v0/\IntKind.i64.wrap v0<(x.1.length:Int)/\True/\(decide (kv (x.1.getD (IntKind.i64.wrap v0).toNat (0,0)).1 x.2<0)=true->am .i64 (IntKind.i64.wrap v0+1)/\(0<=IntKind.i64.wrap v0+1/\IntKind.i64.wrap v0+1<=x_1.2/\x_1.2<=(x.1.length:Int)/\(∀ (j:Nat),(↑j:Int)<IntKind.i64.wrap v0+1->v2.getD j 0<x.2)/\∀ (j:Nat),x_1.2<=(↑j:Int)->j<x.1.length->x.2<=v2.getD j 0)/\(x_1.2 - (IntKind.i64.wrap v0+1)).toNat<(x_1.2 - x_1.1).toNat)/\(decide (kv (x.1.getD (IntKind.i64.wrap v0).toNat (0,0)).1 x.2<0)=false->(0<=x_1.1/\x_1.1<=IntKind.i64.wrap v0/\IntKind.i64.wrap v0<=(x.1.length:Int)/\(∀ (j:Nat),(↑j:Int)<x_1.1->v2.getD j 0<x.2)/\∀ (j:Nat),IntKind.i64.wrap v0<=(↑j:Int)->j<x.1.length->x.2<=v2.getD j 0)/\(IntKind.i64.wrap v0 - x_1.1).toNat<(x_1.2 - x_1.1).toNat))/\(decide (x_1.1<x_1.2)=false->(decide (x_1.1<(x.1.length:Int))=true->0<=x_1.1)/\(decide (x_1.1<(x.1.length:Int))=true->x_1.1<(x.1.length:Int))/\(decide (x_1.1<(x.1.length:Int))=true->True)/\x_1.1=(aD x.1 x.2).1/\(decide (x_1.1<(x.1.length:Int))&&decide (kv (x.1.getD x_1.1.toNat (0,0)).1 x.2=0))=(aD x.1 x.2).2.1/\0=(aD x.1 x.2).2.2/\True)) (IntKind.u64.wrap (x_1.1+x_1.2) / 2 ^ Int.toNat 1)))/\((decide (bM x.1=0)&&!(decide (0<=x.2)&&decide (x.2<256)))=false->(decide (bM x.1≠0)=true->0=(aD x.1 x.2).1/\false=(aD x.1 x.2).2.1/\bM x.1=(aD x.1 x.2).2.2/\True)/\(decide (bM x.1≠0)=false->∀ (_:Array Value),((0:Int)<=0/\0<=(x.1.length:Int)/\(x.1.length:Int)<=(x.1.length:Int)/\(∀ (j:Nat),(↑j:Int)<0->v2.getD j 0<x.2)/\∀ (j:Nat),(x.1.length:Int)<=(↑j:Int)->j<x.1.length->x.2<=v2.getD j 0)/\∀ (x_1:Int×Int),(fun (v1:type_of% (IntKind.u64.wrap (x_1.1+x_1.2) / 2 ^ Int.toNat 1))=>(0<=x_1.1/\x_1.1<=x_1.2/\x_1.2<=(x.1.length:Int)/\(∀ (j:Nat),(↑j:Int)<x_1.1->v2.getD j 0<x.2)/\∀ (j:Nat),x_1.2<=(↑j:Int)->j<x.1.length->x.2<=v2.getD j 0)->(decide (x_1.1<x_1.2)=true->am .i64 (x_1.1+x_1.2)/\(0:Int)<=1/\1<(↑IntKind.u64.bits:Int)/\0<=IntKind.i64.wrap v1/\IntKind.i64.wrap v1<(x.1.length:Int)/\True/\(decide (kv (x.1.getD (IntKind.i64.wrap v1).toNat (0,0)).1 x.2<0)=true->am .i64 (IntKind.i64.wrap v1+1)/\(0<=IntKind.i64.wrap v1+1/\IntKind.i64.wrap v1+1<=x_1.2/\x_1.2<=(x.1.length:Int)/\(∀ (j:Nat),(↑j:Int)<IntKind.i64.wrap v1+1->v2.getD j 0<x.2)/\∀ (j:Nat),x_1.2<=(↑j:Int)->j<x.1.length->x.2<=v2.getD j 0)/\(x_1.2 - (IntKind.i64.wrap v1+1)).toNat<(x_1.2 - x_1.1).toNat)/\(decide (kv (x.1.getD (IntKind.i64.wrap v1).toNat (0,0)).1 x.2<0)=false->(0<=x_1.1/\x_1.1<=IntKind.i64.wrap v1/\IntKind.i64.wrap v1<=(x.1.length:Int)/\(∀ (j:Nat),(↑j:Int)<x_1.1->v2.getD j 0<x.2)/\∀ (j:Nat),IntKind.i64.wrap v1<=(↑j:Int)->j<x.1.length->x.2<=v2.getD j 0)/\(IntKind.i64.wrap v1 - x_1.1).toNat<(x_1.2 - x_1.1).toNat))/\(decide (x_1.1<x_1.2)=false->(decide (x_1.1<(x.1.length:Int))=true->0<=x_1.1)/\(decide (x_1.1<(x.1.length:Int))=true->x_1.1<(x.1.length:Int))/\(decide (x_1.1<(x.1.length:Int))=true->True)/\x_1.1=(aD x.1 x.2).1/\(decide (x_1.1<(x.1.length:Int))&&decide (kv (x.1.getD x_1.1.toNat (0,0)).1 x.2=0))=(aD x.1 x.2).2.1/\0=(aD x.1 x.2).2.2/\True)) (IntKind.u64.wrap (x_1.1+x_1.2) / 2 ^ Int.toNat 1)))) (List.map Prod.fst x.1)
theorem Iu:Fz:=by
 unfold Fz;intro ⟨p,k⟩ ⟨⟨hb,_⟩,hk⟩ _;unfold aL at hb;simp only at hb hk |-;have hF:aD p k=if bM p≠0 then (0,false,bM p) else if (decide (0<=k)&&decide (k<256))=false then (0,false,4) else (kj p k,nP p k,0):=rfl
 rw [hF];refine ⟨trivial,fun _=>trivial,fun h=>⟨fun _=>?_,fun h4=>absurd h4 (by decide)⟩,fun h=>⟨fun h1=>?_,fun h1 tm=>?_⟩⟩
 ·simp only [NA,N5,NX] at h;rw [if_neg (by omega),if_pos h.2];refine ⟨?_,?_,?_,trivial⟩ <;> first | trivial | rfl
 ·rw [if_pos (Nw h1)];refine ⟨?_,?_,?_,trivial⟩ <;> first | trivial | rfl
 have h0:bM p=0:=by simpa using Nx h1
 have hth:(decide (0<=k)&&decide (k<256))=true:=by
  rw [OI h0,OU,Bool.not_eq_false'] at h;exact h
 rw [if_neg (by omega),if_neg (by rw [hth]; simp)];obtain ⟨_,hp,_⟩:=oZ h0;have hs:(p.map Prod.fst).Pairwise (·<=·):=List.pairwise_map.2 (hp.imp fun h=>Int.le_of_lt h);have hll:(p.map Prod.fst).length=p.length:=Oh _;simp only [LG,LH,<- JT];obtain ⟨l,hl⟩:∃ l,l=p.map Prod.fst:=⟨_,rfl⟩;have hlo:kj p k=HE l k:=by rw [hl]; rfl
 have hha:nP p k=fx l k:=by rw [hl]; rfl
 rw [hlo,hha];rw [<- hl] at hs hll |-;rw [<- hll] at hb |-;refine ⟨⟨by omega,by omega,by omega,fun j hj=>by omega,fun j h2 h3=>by omega⟩,fun ⟨lo,hi⟩ ⟨q1,q2,q3,q4,q5⟩=>⟨fun hlt=>?_,fun hge=>?_⟩⟩
 ·simp only at q1 q2 q3 q4 q5 hlt |-;have hlt:=Nw hlt
  have hm:IntKind.i64.wrap (IntKind.u64.wrap (lo+hi) / 2 ^ Int.toNat 1)=(lo+hi) / 2:=by
   rw [fP (by omega) (by omega),show (2:Int) ^ Int.toNat 1=2 from rfl,m4 (by omega) (by omega)]
  simp only [hm];have hm1:lo<=(lo+hi) / 2/\(lo+hi) / 2<hi:=by omega
  generalize (lo+hi) / 2=m at *;simp only [am];refine ⟨by omega,by omega,by decide,by omega,by omega,trivial,fun hc=>⟨by omega,⟨by omega,by omega,by omega,fun j hj=>?_,q5⟩,by omega⟩,fun hc=>⟨⟨by omega,by omega,by omega,q4,fun j h1 h2=>?_⟩,by omega⟩⟩
  ·have hc:=Nw hc;have:=qW hs (i:=j) (j:=m.toNat) (by omega) (by omega);omega
  ·have hc:=Nx hc;have:=qW hs (i:=m.toNat) (j:=j) (by omega) (by omega);omega
 ·simp only at q1 q2 q3 q4 q5 hge |-;have hge:=Nx hge;have he:hi=lo:=by omega
  subst he;obtain ⟨n,rfl⟩:∃ n:Nat,hi=n:=⟨hi.toNat,by omega⟩;have h1:∀ j:Nat,j<n->l.getD j 0<k:=fun j hj=>q4 j (by omega)
  have h2:∀ j:Nat,n<=j->j<l.length->k<=l.getD j 0:=fun j h1 h2=>q5 j (by omega) h2
  rw [Mv (by omega) h1 h2,Mw hs h1 h2];refine ⟨fun _=>by omega,fun h=>Nw h,fun _=>trivial,by first | trivial | rfl,?_,by first | trivial | rfl,trivial⟩;simp
theorem FM:KW.ok Tryz.prog 202:=aF (ann:=LP) (ae rL (ae rK (ae Jy ap))) Tryz.func202 (by kernel_rfl) Iu
theorem uz {p:List bj} {k:Int} (h:(aD p k).2.2=0):bM p=0/\0<=k/\k<=255/\aD p k=(kj p k,nP p k,0):=by
 unfold aD at h |-;split at h
 ·rename_i h1; exact absurd h h1
 ·rename_i h1;split at h
  ·cases h
  ·rename_i h2;rw [if_neg h1,if_neg h2];have h2:(decide (0<=k)&&decide (k<256))=true:=by simpa using h2
   simp only [NA,N5] at h2;exact ⟨by omega,h2.1,by omega,rfl⟩
theorem lq {p:List bj} {k:Int} (h:(aD p k).2.2=0):∃ A B:List bj,aD p k=((A.length:Int),nP p k,0)/\kj p k=A.length/\p.length<=16/\(∀ x∈A,x.1<k)/\(∀ x∈B,k<x.1) /\
  ((nP p k=false/\fk p k=0/\p=A++B)\/(nP p k=true/\1<=fk p k/\fk p k<=1000000/\p=A++(k,fk p k)::B)):=by
 obtain ⟨h1,h2,h3,h4⟩:=uz h;obtain ⟨h5,h6,h7⟩:=oZ h1;obtain ⟨A,B,a1,a2,a3,a4⟩:=HD h6 k;refine ⟨A,B,by rw [h4,a3],a3,h5,a1,a2,?_⟩;rcases a4 with ⟨b1,b2⟩ | ⟨v,b1,b2⟩
 ·refine .inl ⟨?_,?_,b2⟩
  ·rw [Ci h6,b1]; rfl
  ·unfold fk; rw [b1]; rfl
 ·have hm:fk p k=v:=by unfold fk; rw [b1]; rfl
  have hv:=h7 (k,v) (by rw [b2]; simp);refine .inr ⟨?_,?_,?_,by rw [hm]; exact b2⟩
  ·rw [Ci h6,b1]; rfl
  ·rw [hm]; exact hv.2.2.1
  ·rw [hm]; exact hv.2.2.2
theorem qw {A B:List bj} {x:bj}:(A++x::B).getD ((A.length:Int)).toNat (0,0)=x:=by simp
theorem tg {A B:List bj} {x:bj} (y:bj):(A++x::B).set ((A.length:Int)).toNat y=A++y::B:=by simp
theorem ED {A B:List bj} (x:bj):zd (A++B) [x] (A.length:Int)=A++x::B:=by simp [zd]
theorem EW {A B:List bj} {x:bj}:CR (A++x::B) (A.length:Int) ((A.length:Int)+1)=A++B:=by
 unfold CR;rw [show ((A.length:Int)+1).toNat=A.length+1 by omega];simp
def yB:Spec:={ Ts:=[.arr fo],Rs:=[.own 157 fo],pre:=fun _=>True,F:=fun (x:List bj)=>x }
def oW:Prop :=
  ∀ (x:List (Int×Int)),(x.length * (8+8)<=aL/\∀ (x_1:Int×Int),x_1∈x->am .i64 x_1.1/\am .i64 x_1.2)->True->(x=([]:List (Int×Int))->([]:List (Int×Int))=x/\True)/\(True->(0+x.length) * (8+8)<=aL/\([]:List (Int×Int))++x=x/\True)
theorem vv:oW:=by
 unfold oW;intro x ⟨hb,_⟩ _;simp [hb]
theorem bP:yB.ok Tryz.prog 152:=aF (ann:=cr) ap Tryz.func152 (by kernel_rfl) vv
def gq (p:List bj) (k:Int):List bj×Int×Int :=
 if (aD p k).2.2≠0 then ([],0,(aD p k).2.2) else if fk p k=1000000\/(nP p k=false/\p.length=16) then ([],0,7)
 else ((if nP p k=true then p.set (kj p k).toNat (k,fk p k+1) else zd p [(k,1)] (kj p k)),fk p k+1,0)
def Md:Spec:={ Ts:=[.arr fo,ty_I],Rs:=[.own 157 fo,.dat ty_I,.dat ty_I],pre:=fun _=>True,F:=fun ((p,k):List bj×Int)=>gq p k }
def Jb:Prop :=
  ∀ (x:List (Int×Int)×Int),(fun (v1:type_of% (x.1.getD (aD x.1 x.2).1.toNat (0,0)))=>(fun (v0:type_of% (zd x.1 [(x.2,0)] (aD x.1 x.2).1))=>(x.1.length * (8+8)<=aL/\∀ (x_1:Int×Int),x_1∈x.1->am .i64 x_1.1/\am .i64 x_1.2)/\am .i64 x.2->True->True/\(decide ((aD x.1 x.2).2.2≠0)=true->([]:List (Int×Int))=(gq x.1 x.2).1/\0=(gq x.1 x.2).2.1/\(aD x.1 x.2).2.2=(gq x.1 x.2).2.2/\True)/\(decide ((aD x.1 x.2).2.2≠0)=false->((aD x.1 x.2).2.1=true->0<=(aD x.1 x.2).1)/\((aD x.1 x.2).2.1=true->(aD x.1 x.2).1<(x.1.length:Int))/\(((aD x.1 x.2).2.1&&decide (v1.2=1000000)||!(aD x.1 x.2).2.1&&decide ((x.1.length:Int)=16))=true->([]:List (Int×Int))=(gq x.1 x.2).1/\0=(gq x.1 x.2).2.1/\7=(gq x.1 x.2).2.2/\True)/\(((aD x.1 x.2).2.1&&decide (v1.2=1000000)||!(aD x.1 x.2).2.1&&decide ((x.1.length:Int)=16))=false->True/\((!(aD x.1 x.2).2.1)=true->(0<[(x.2,0)].length/\0<=(aD x.1 x.2).1/\(aD x.1 x.2).1<=(x.1.length:Int)/\(x.1.length+[(x.2,0)].length) * (8+8)<=aL)/\0<=(aD x.1 x.2).1/\(aD x.1 x.2).1<(v0.length:Int)/\(aD x.1 x.2).1.toNat<v0.length/\am .i64 ((v0.getD (aD x.1 x.2).1.toNat (0,0)).2+1)/\0<=(aD x.1 x.2).1/\(aD x.1 x.2).1<(v0.length:Int)/\(aD x.1 x.2).1.toNat<v0.length/\0<=(aD x.1 x.2).1/\(aD x.1 x.2).1<(↑(v0.set (aD x.1 x.2).1.toNat ((v0.getD (aD x.1 x.2).1.toNat (0,0)).1,(v0.getD (aD x.1 x.2).1.toNat (0,0)).2+1)).length:Int)/\(aD x.1 x.2).1.toNat<(v0.set (aD x.1 x.2).1.toNat ((v0.getD (aD x.1 x.2).1.toNat (0,0)).1,(v0.getD (aD x.1 x.2).1.toNat (0,0)).2+1)).length/\v0.set (aD x.1 x.2).1.toNat ((v0.getD (aD x.1 x.2).1.toNat (0,0)).1,(v0.getD (aD x.1 x.2).1.toNat (0,0)).2+1)=(gq x.1 x.2).1/\((v0.set (aD x.1 x.2).1.toNat ((v0.getD (aD x.1 x.2).1.toNat (0,0)).1,(v0.getD (aD x.1 x.2).1.toNat (0,0)).2+1)).getD (aD x.1 x.2).1.toNat (0,0)).2=(gq x.1 x.2).2.1/\0=(gq x.1 x.2).2.2/\True)/\((!(aD x.1 x.2).2.1)=false->0<=(aD x.1 x.2).1/\(aD x.1 x.2).1<(x.1.length:Int)/\(aD x.1 x.2).1.toNat<x.1.length/\am .i64 (v1.2+1)/\0<=(aD x.1 x.2).1/\(aD x.1 x.2).1<(x.1.length:Int)/\(aD x.1 x.2).1.toNat<x.1.length/\0<=(aD x.1 x.2).1/\(aD x.1 x.2).1<(↑(x.1.set (aD x.1 x.2).1.toNat (v1.1,v1.2+1)).length:Int)/\(aD x.1 x.2).1.toNat<(x.1.set (aD x.1 x.2).1.toNat (v1.1,v1.2+1)).length/\x.1.set (aD x.1 x.2).1.toNat (v1.1,v1.2+1)=(gq x.1 x.2).1/\((x.1.set (aD x.1 x.2).1.toNat (v1.1,v1.2+1)).getD (aD x.1 x.2).1.toNat (0,0)).2=(gq x.1 x.2).2.1/\0=(gq x.1 x.2).2.2/\True)))) (zd x.1 [(x.2,0)] (aD x.1 x.2).1)) (x.1.getD (aD x.1 x.2).1.toNat (0,0))
theorem KH:Jb:=by
 unfold Jb;intro ⟨p,k⟩ ⟨⟨hb,_⟩,_⟩ _;unfold aL at hb;simp only at hb |-
 have hF:gq p k=if (aD p k).2.2≠0 then ([],0,(aD p k).2.2) else if fk p k=1000000\/(nP p k=false/\p.length=16) then ([],0,7)
  else ((if nP p k=true then p.set (kj p k).toNat (k,fk p k+1) else zd p [(k,1)] (kj p k)),fk p k+1,0):=rfl
 rw [hF];refine ⟨trivial,fun h=>?_,fun h=>?_⟩
 ·rw [if_pos (Nw h)];exact ⟨by first | trivial | rfl,by first | trivial | rfl,by first | trivial | rfl,trivial⟩
 have h0:(aD p k).2.2=0:=by simpa using Nx h
 rw [if_neg (by omega)];obtain ⟨A,B,e,e2,hl,_,_,h1⟩:=lq h0;rw [e,e2];simp only;rcases h1 with ⟨h1,h2,h3⟩ | ⟨h1,h2,h2',h3⟩
 ·rw [h1,h2];subst h3;refine ⟨(fun h=>by cases h),(fun h=>by cases h),fun h=>?_,fun h=>⟨trivial,fun _=>?_,(fun h=>by cases h)⟩⟩
  ·have h:(A++B).length=16:=by
    have:(((A++B).length:Nat):Int)=16:=by simpa using h
    omega
   rw [if_pos (.inr ⟨rfl,h⟩)];exact ⟨by first | trivial | rfl,by first | trivial | rfl,by first | trivial | rfl,trivial⟩
  ·have h:¬ (A++B).length=16:=by
    intro h4;simp only [Qc,OU,Py,Pt,Ou] at h;exact h (by omega)
   have hno:¬ ((0:Int)=1000000\/(false=false/\(A++B).length=16)):=by
    rintro (h4 | h4)
    ·omega
    ·exact h h4.2
   rw [if_neg hno,if_neg (by simp),ED,ED,qw,tg,qw];simp only [am,NE,NC,N8] at *;unfold aL;refine ⟨⟨by omega,by omega,by omega,by omega⟩,by omega,by omega,by omega,by omega,by omega,by omega,by omega,by omega,by omega,by omega,?_,?_,trivial,trivial⟩ <;> first | trivial | rfl
 ·rw [h1];generalize fk p k=v at *;subst h3;rw [qw];refine ⟨fun _=>by omega,fun _=>by simp; omega,fun h=>?_,fun h=>⟨trivial,(fun h=>by cases h),fun _=>?_⟩⟩
  ·have h:v=1000000:=by simpa using h
   rw [if_pos (.inl h)];exact ⟨by first | trivial | rfl,by first | trivial | rfl,by first | trivial | rfl,trivial⟩
  ·have h:v≠1000000:=by simpa using h
   have hno:¬ (v=1000000\/(true=false/\(A++(k,v)::B).length=16)):=by
    rintro (h4 | h4)
    ·exact h h4
    ·exact absurd h4.1 (by simp)
   rw [if_neg hno,if_pos rfl,tg,qw];simp only [am,NE,NC] at *;refine ⟨by omega,by omega,by omega,by omega,by omega,by omega,by omega,by omega,by omega,by omega,?_,?_,trivial,trivial⟩ <;> first | trivial | rfl
theorem Mr:Md.ok Tryz.prog 140:=aF (ann:=cr) (ae FM (ae bP (kY Ht ap))) Tryz.func140 (by kernel_rfl) KH
def dz (p:List bj) (k:Int):List bj×Int×Int :=
 if (aD p k).2.2≠0 then ([],0,(aD p k).2.2) else if nP p k=false then ([],0,5)
 else ((if fk p k=1 then CR p (kj p k) (kj p k+1) else p.set (kj p k).toNat (k,fk p k - 1)),fk p k - 1,0)
def KX:Spec:={ Ts:=[.arr fo,ty_I],Rs:=[.own 157 fo,.dat ty_I,.dat ty_I],pre:=fun _=>True,F:=fun ((p,k):List bj×Int)=>dz p k }
def FA:Prop :=
  ∀ (x:List (Int×Int)×Int),(fun (v1:type_of% (x.1.getD (aD x.1 x.2).1.toNat (0,0)))=>(fun (v0:type_of% (x.1.set (aD x.1 x.2).1.toNat (v1.1,v1.2 - 1)))=>(x.1.length * (8+8)<=aL/\∀ (x_1:Int×Int),x_1∈x.1->am .i64 x_1.1/\am .i64 x_1.2)/\am .i64 x.2->True->True/\(decide ((aD x.1 x.2).2.2≠0)=true->([]:List (Int×Int))=(dz x.1 x.2).1/\0=(dz x.1 x.2).2.1/\(aD x.1 x.2).2.2=(dz x.1 x.2).2.2/\True)/\(decide ((aD x.1 x.2).2.2≠0)=false->((!(aD x.1 x.2).2.1)=true->([]:List (Int×Int))=(dz x.1 x.2).1/\0=(dz x.1 x.2).2.1/\5=(dz x.1 x.2).2.2/\True)/\((!(aD x.1 x.2).2.1)=false->True/\0<=(aD x.1 x.2).1/\(aD x.1 x.2).1<(x.1.length:Int)/\(aD x.1 x.2).1.toNat<x.1.length/\am .i64 (v1.2 - 1)/\0<=(aD x.1 x.2).1/\(aD x.1 x.2).1<(x.1.length:Int)/\(aD x.1 x.2).1.toNat<x.1.length/\0<=(aD x.1 x.2).1/\(aD x.1 x.2).1<(v0.length:Int)/\(aD x.1 x.2).1.toNat<v0.length/\(decide ((v0.getD (aD x.1 x.2).1.toNat (0,0)).2=0)=true->am .i64 ((aD x.1 x.2).1+1)/\(0<=(aD x.1 x.2).1/\(aD x.1 x.2).1<(aD x.1 x.2).1+1/\(aD x.1 x.2).1+1<=(v0.length:Int))/\CR v0 (aD x.1 x.2).1 ((aD x.1 x.2).1+1)=(dz x.1 x.2).1/\(v0.getD (aD x.1 x.2).1.toNat (0,0)).2=(dz x.1 x.2).2.1/\0=(dz x.1 x.2).2.2/\True)/\(decide ((v0.getD (aD x.1 x.2).1.toNat (0,0)).2=0)=false->x.1.set (aD x.1 x.2).1.toNat (v1.1,v1.2 - 1)=(dz x.1 x.2).1/\(v0.getD (aD x.1 x.2).1.toNat (0,0)).2=(dz x.1 x.2).2.1/\0=(dz x.1 x.2).2.2/\True)))) (x.1.set (aD x.1 x.2).1.toNat (v1.1,v1.2 - 1))) (x.1.getD (aD x.1 x.2).1.toNat (0,0))
theorem Iv:FA:=by
 unfold FA;intro ⟨p,k⟩ ⟨⟨hb,_⟩,_⟩ _;unfold aL at hb;simp only at hb |-
 have hF:dz p k=if (aD p k).2.2≠0 then ([],0,(aD p k).2.2) else if nP p k=false then ([],0,5)
  else ((if fk p k=1 then CR p (kj p k) (kj p k+1) else p.set (kj p k).toNat (k,fk p k - 1)),fk p k - 1,0):=rfl
 rw [hF];refine ⟨trivial,fun h=>?_,fun h=>?_⟩
 ·rw [if_pos (Nw h)];exact ⟨by first | trivial | rfl,by first | trivial | rfl,by first | trivial | rfl,trivial⟩
 have h0:(aD p k).2.2=0:=by simpa using Nx h
 rw [if_neg (by omega)];obtain ⟨A,B,e,e2,hl,_,_,h1⟩:=lq h0;rw [e,e2];simp only;rcases h1 with ⟨h1,h2,h3⟩ | ⟨h1,h2,h2',h3⟩
 ·rw [h1,if_pos rfl];exact ⟨fun _=>⟨by first | trivial | rfl,by first | trivial | rfl,by first | trivial | rfl,trivial⟩,fun h=>by cases h⟩
 ·rw [h1,if_neg (by simp)];generalize fk p k=v at *;subst h3;rw [qw,tg,qw,EW,EW];simp only [am,NE,NC] at *;refine ⟨(fun h=>by cases h),fun _=>⟨trivial,by omega,by omega,by omega,by omega,by omega,by omega,by omega,by omega,by omega,by omega,fun h=>?_,fun h=>?_⟩⟩
  ·have h:v - 1=0:=Nw h;rw [if_pos (by omega)];exact ⟨by omega,⟨by omega,by omega,by omega⟩,by first | trivial | rfl,by first | trivial | rfl,by first | trivial | rfl,trivial⟩
  ·have h:¬ v - 1=0:=Nx h;rw [if_neg (by omega)];exact ⟨by first | trivial | rfl,by first | trivial | rfl,by first | trivial | rfl,trivial⟩
theorem Lf:KX.ok Tryz.prog 141:=aF (ann:=cr) (ae FM (ae bP (kY Hx ap))) Tryz.func141 (by kernel_rfl) Iv
end
section
abbrev ca:Ty:=.pair ty_I (.pair .bool ty_I)
abbrev be:=Int×Bool×Int
def DV:Spec:={ Ts:=[.arr ca,.fn ca .bool],Rs:=[.dat ty_I],pre:=fun ((l,g):List be×(be->Prop)×(be->Bool))=>∀ s∈l,g.1 s,F:=fun ((l,g):List be×(be->Prop)×(be->Bool))=>ag g.2 0 l }
def E7:Nat->Option LoopGen
 | 2=>some { rd:=[.dat 0 (.arr ca),.dat 1 (.fn ca .bool)],A:=fun ((l,g):List be×(be->Prop)×(be->Bool))=>{ cs:=[.dat 8 ty_I],inv:=fun (i:Int)=>0<=i/\i<=l.length/\ag g.2 i (l.drop i.toNat)=ag g.2 0 l,mu:=fun (i:Int)=>(l.length - i).toNat } }
 | _=>none
def tN:Prop :=
  ∀ (x:List (Int×Bool×Int)×(Int×Bool×Int->Prop)×(Int×Bool×Int->Bool)),(x.1.length * (8+(8+8))<=aL/\∀ (x_1:Int×Bool×Int),x_1∈x.1->am .i64 x_1.1/\True/\am .i64 x_1.2.2)/\True->(∀ (s:be),s∈x.1->x.2.1 s)->((0:Int)<=0/\0<=(x.1.length:Int)/\ag x.2.2 0 (List.drop (Int.toNat 0) x.1)=ag x.2.2 0 x.1)/\∀ (x_1:Int),0<=x_1/\x_1<=(x.1.length:Int)/\ag x.2.2 x_1 (List.drop x_1.toNat x.1)=ag x.2.2 0 x.1->(decide (x_1<(x.1.length:Int))=true->0<=x_1/\x_1<(x.1.length:Int)/\x.2.1 (x.1.getD x_1.toNat (0,false,0))/\(x.2.2 (x.1.getD x_1.toNat (0,false,0))=true->x_1=ag x.2.2 0 x.1/\True)/\(x.2.2 (x.1.getD x_1.toNat (0,false,0))=false->am .i64 (x_1+1)/\(0<=x_1+1/\x_1+1<=(x.1.length:Int)/\ag x.2.2 (x_1+1) (List.drop (x_1+1).toNat x.1)=ag x.2.2 0 x.1)/\((x.1.length:Int) - (x_1+1)).toNat<((x.1.length:Int) - x_1).toNat))/\(decide (x_1<(x.1.length:Int))=false->(-1)=ag x.2.2 0 x.1/\True)
theorem Am:tN:=by
 unfold tN;intro ⟨l,g⟩ ⟨⟨hl,_⟩,_⟩ hp;unfold aL at *;refine ⟨⟨by omega,by omega,by simp⟩,fun i ⟨h0,h1,h2⟩=>⟨fun hlt=>?_,fun hge=>?_⟩⟩
 ·have hlt:i<(l.length:Int):=by simpa using hlt
  have e:=bz ((0,false,0):be) h0 hlt;have hm:=hp _ (aH ((0,false,0):be) h0 hlt);simp only at *;rw [e] at h2;simp only [ag] at h2;refine ⟨h0,hlt,hm,fun hc=>?_,fun hc=>?_⟩
  ·rw [if_pos hc] at h2;exact ⟨h2,trivial⟩
  ·rw [if_neg (by rw [hc]; simp)] at h2;exact ⟨by simp only [am]; omega,⟨by omega,by omega,h2⟩,by omega⟩
 ·rw [cq (by simpa using hge)] at h2;exact ⟨h2,trivial⟩
theorem Ep:DV.ok Tryz.prog 205:=aF (ann:=E7) ap Tryz.func205 (by kernel_rfl) Am
def GY:Spec:={ Ts:=[.arr ty_I,.fn ty_I .bool],Rs:=[.dat ty_I],pre:=fun ((l,g):List Int×(Int->Prop)×(Int->Bool))=>∀ s∈l,g.1 s,F:=fun ((l,g):List Int×(Int->Prop)×(Int->Bool))=>ag g.2 0 l }
def Ig:Nat->Option LoopGen
 | 2=>some { rd:=[.dat 0 (.arr ty_I),.dat 1 (.fn ty_I .bool)],A:=fun ((l,g):List Int×(Int->Prop)×(Int->Bool))=>{ cs:=[.dat 8 ty_I],inv:=fun (i:Int)=>0<=i/\i<=l.length/\ag g.2 i (l.drop i.toNat)=ag g.2 0 l,mu:=fun (i:Int)=>(l.length - i).toNat } }
 | _=>none
def w5:Prop :=
  ∀ (x:List Int×(Int->Prop)×(Int->Bool)),(x.1.length * 8<=aL/\∀ (x_1:Int),x_1∈x.1->am .i64 x_1)/\True->(∀ (s:Int),s∈x.1->x.2.1 s)->((0:Int)<=0/\0<=(x.1.length:Int)/\ag x.2.2 0 (List.drop (Int.toNat 0) x.1)=ag x.2.2 0 x.1)/\∀ (x_1:Int),0<=x_1/\x_1<=(x.1.length:Int)/\ag x.2.2 x_1 (List.drop x_1.toNat x.1)=ag x.2.2 0 x.1->(decide (x_1<(x.1.length:Int))=true->0<=x_1/\x_1<(x.1.length:Int)/\x.2.1 (x.1.getD x_1.toNat 0)/\(x.2.2 (x.1.getD x_1.toNat 0)=true->x_1=ag x.2.2 0 x.1/\True)/\(x.2.2 (x.1.getD x_1.toNat 0)=false->am .i64 (x_1+1)/\(0<=x_1+1/\x_1+1<=(x.1.length:Int)/\ag x.2.2 (x_1+1) (List.drop (x_1+1).toNat x.1)=ag x.2.2 0 x.1)/\((x.1.length:Int) - (x_1+1)).toNat<((x.1.length:Int) - x_1).toNat))/\(decide (x_1<(x.1.length:Int))=false->(-1)=ag x.2.2 0 x.1/\True)
theorem Dt:w5:=by
 unfold w5;intro ⟨l,g⟩ ⟨⟨hl,_⟩,_⟩ hp;unfold aL at *;refine ⟨⟨by omega,by omega,by simp⟩,fun i ⟨h0,h1,h2⟩=>⟨fun hlt=>?_,fun hge=>?_⟩⟩
 ·have hlt:i<(l.length:Int):=by simpa using hlt
  have e:=bz (0:Int) h0 hlt;have hm:=hp _ (aH (0:Int) h0 hlt);simp only at *;rw [e] at h2;simp only [ag] at h2;refine ⟨h0,hlt,hm,fun hc=>?_,fun hc=>?_⟩
  ·rw [if_pos hc] at h2;exact ⟨h2,trivial⟩
  ·rw [if_neg (by rw [hc]; simp)] at h2;exact ⟨by simp only [am]; omega,⟨by omega,by omega,h2⟩,by omega⟩
 ·rw [cq (by simpa using hge)] at h2;exact ⟨h2,trivial⟩
theorem Hu:GY.ok Tryz.prog 107:=aF (ann:=Ig) ap Tryz.func107 (by kernel_rfl) Dt
def G3:Spec:={ Ts:=[.arr ty_I,.fn ty_I .bool],Rs:=[.dat .bool],pre:=fun ((l,g):List Int×(Int->Prop)×(Int->Bool))=>∀ s∈l,g.1 s,F:=fun ((l,g):List Int×(Int->Prop)×(Int->Bool))=>l.any g.2 }
def w9:Prop :=
  ∀ (x:List Int×(Int->Prop)×(Int->Bool)),(x.1.length * 8<=aL/\∀ (x_1:Int),x_1∈x.1->am .i64 x_1)/\True->(∀ (s:Int),s∈x.1->x.2.1 s)->(∀ (s:Int),s∈x.1->x.2.1 s)/\decide (0<=ag x.2.2 0 x.1)=x.1.any x.2.2/\True
theorem Dx:w9:=by
 unfold w9;intro ⟨l,g⟩ _ hp;exact ⟨hp,dX g.2 l 0 (by omega),trivial⟩
theorem Hz:G3.ok Tryz.prog 37:=aF (ann:=cr) (ae Hu ap) Tryz.func37 (by kernel_rfl) Dx
def vK:Spec:={ Ts:=[.arr ca],Rs:=[.own 135 ca],pre:=fun _=>True,F:=fun (x:List be)=>x }
def ne:Prop :=
  ∀ (x:List (Int×Bool×Int)),(x.length * (8+(8+8))<=aL/\∀ (x_1:Int×Bool×Int),x_1∈x->am .i64 x_1.1/\True/\am .i64 x_1.2.2)->True->(x=([]:List (Int×Bool×Int))->([]:List (Int×Bool×Int))=x/\True)/\(True->(0+x.length) * (8+(8+8))<=aL/\([]:List (Int×Bool×Int))++x=x/\True)
theorem sV:ne:=by
 unfold ne;intro x ⟨hb,_⟩ _;simp [hb]
theorem bD:vK.ok Tryz.prog 153:=aF (ann:=cr) ap Tryz.func153 (by kernel_rfl) sV
def eQ (v:Int):Bool:=decide (0<=v)&&decide (v<256)
def yy:Spec:={ Ts:=[ty_I],Rs:=[.dat .bool],pre:=fun _=>True,F:=eQ }
def oT:Prop :=
  ∀ (x:Int),am .i64 x->True->(decide (0<=x)&&decide (x<256))=eQ x/\True
theorem vr:oT:=by
 unfold oT;intro v _ _;simp [eQ]
theorem li:yy.ok Tryz.prog 147:=aF (ann:=cr) ap Tryz.func147 (by kernel_rfl) vr
def AR:Spec:={ Ts:=[ty_I],Rs:=[.dat .bool],pre:=fun _=>True,F:=fun (v:Int)=>!eQ v }
def rl:Prop :=
  ∀ (x:Int),am .i64 x->True->True/\(!eQ x)=!eQ x/\True
theorem xX:rl:=by
 unfold rl;intro v _ _;simp
theorem BX:AR.ok Tryz.prog 221:=aF (ann:=cr) (ae li ap) Tryz.func221 (by kernel_rfl) xX
def az (s:be):Bool:=!s.2.1&&decide (s.1<65535)
def Ba:Spec:={ Ts:=[ca],Rs:=[.dat .bool],pre:=fun _=>True,F:=az }
def rB:Prop :=
  ∀ (x:Int×Bool×Int),am .i64 x.1/\True/\am .i64 x.2.2->True->(!x.2.1&&decide (x.1<65535))=az x/\True
theorem ye:rB:=by
 unfold rB;intro s _ _;simp [az]
theorem B5:Ba.ok Tryz.prog 206:=aF (ann:=cr) ap Tryz.func206 (by kernel_rfl) ye
def ee (s:be):Int:=if s.1<0\/65535<s.1\/s.2.2<0\/255<s.2.2 then 4 else if (s.2.1=true/\s.1=0)\/(s.2.1=false/\s.2.2≠0) then 3 else 0
def bp:List be->Int
 | []=>0
 | s::l=>if ee s≠0 then ee s else bp l
def aJ (h:List be):Int:=if 16<h.length then 2 else bp h
def yA:Spec:={ Ts:=[.arr ca],Rs:=[.dat ty_I],pre:=fun _=>True,F:=aJ }
def zX:Nat->Option LoopGen
 | 4=>some { rd:=[.dat 8 (.arr ca)],A:=fun (h:List be)=>{ cs:=[.dat 10 ty_I],inv:=fun (i:Int)=>0<=i/\i<=h.length/\h.length<=16/\bp (h.drop i.toNat)=bp h,mu:=fun (i:Int)=>(h.length - i).toNat } }
 | _=>none
def oV:Prop :=
  ∀ (x:List (Int×Bool×Int)),(x.length * (8+(8+8))<=aL/\∀ (x_1:Int×Bool×Int),x_1∈x->am .i64 x_1.1/\True/\am .i64 x_1.2.2)->True->(decide (16<(x.length:Int))=true->2=aJ x/\True)/\(decide (16<(x.length:Int))=false->((0:Int)<=0/\0<=(x.length:Int)/\x.length<=16/\bp (List.drop (Int.toNat 0) x)=bp x)/\∀ (x_1:Int),(fun (v0:type_of% (x.getD x_1.toNat (0,false,0)))=>0<=x_1/\x_1<=(x.length:Int)/\x.length<=16/\bp (List.drop x_1.toNat x)=bp x->(decide (x_1<(x.length:Int))=true->0<=x_1/\x_1<(x.length:Int)/\((decide (v0.1<0)||decide (65535<v0.1))=false->True)/\((decide (v0.1<0)||decide (65535<v0.1)||!eQ v0.2.2)=true->4=aJ x/\True)/\((decide (v0.1<0)||decide (65535<v0.1)||!eQ v0.2.2)=false->((v0.2.1&&decide (v0.1=0)||!v0.2.1&&decide (v0.2.2≠0))=true->3=aJ x/\True)/\((v0.2.1&&decide (v0.1=0)||!v0.2.1&&decide (v0.2.2≠0))=false->am .i64 (x_1+1)/\(0<=x_1+1/\x_1+1<=(x.length:Int)/\x.length<=16/\bp (List.drop (x_1+1).toNat x)=bp x)/\((x.length:Int) - (x_1+1)).toNat<((x.length:Int) - x_1).toNat)))/\(decide (x_1<(x.length:Int))=false->0=aJ x/\True)) (x.getD x_1.toNat (0,false,0)))
theorem vu:oV:=by
 unfold oV;intro h ⟨hb,hw⟩ _;unfold aL at *;refine ⟨fun hl=>?_,fun hl=>⟨⟨by omega,by omega,by have:=Nx hl; omega,by simp⟩,fun i ⟨h0,h1,h2,h3⟩=>⟨fun hlt=>?_,fun hge=>?_⟩⟩⟩
 ·have:=Nw hl;unfold aJ;rw [if_pos (by omega)];exact ⟨rfl,trivial⟩
 ·have hlt:i<(h.length:Int):=by simpa using hlt
  have e:=bz ((0,false,0):be) h0 hlt;have hF:aJ h=bp h:=by unfold aJ; rw [if_neg (by omega)]
  rw [hF,<- h3,e];simp only [bp,ee,eQ,am];generalize h.getD i.toNat (0,false,0)=s at *;obtain ⟨g,o,a⟩:=s;simp only;cases o <;> grind
 ·have hF:aJ h=bp h:=by unfold aJ; rw [if_neg (by omega)]
  rw [cq (by simpa using hge)] at h3;rw [hF,<- h3];exact ⟨rfl,trivial⟩
theorem ja:yA.ok Tryz.prog 75:=aF (ann:=zX) (ae li ap) Tryz.func75 (by kernel_rfl) vu
def dS (i:Int) (s:be):Int:=i+65536 * s.1
def A4:Spec:={ Ts:=[ty_I,ca],Rs:=[.dat bJ],pre:=fun ((i,s):Int×be)=>0<=i/\i<65536/\0<=s.1/\s.1<=65535,F:=fun ((i,s):Int×be)=>dS i s }
def ru:Prop :=
  ∀ (x:Int×Int×Bool×Int),am .i64 x.1/\am .i64 x.2.1/\True/\am .i64 x.2.2.2->0<=x.1/\x.1<65536/\0<=x.2.1/\x.2.1<=65535->(0:Int)<=16/\16<(↑IntKind.u64.bits:Int)/\(↑((IntKind.u64.wrap x.1).toNat ||| (IntKind.u64.wrap (IntKind.u64.wrap x.2.1 * 2 ^ Int.toNat 16)).toNat):Int)=dS x.1 x.2/\True
theorem x8:ru:=by
 unfold ru;intro ⟨i,s⟩ _ ⟨h0,h1,h2,h3⟩;simp only at *;refine ⟨by omega,by rw [Nc]; omega,?_,trivial⟩;have e:(2:Int) ^ Int.toNat 16=65536:=rfl;have e3:(2:Int) ^ 16=65536:=rfl;have k:=sD (a:=i) (b:=s.1) (i:=16) h0 h2 (by rw [e3]; omega);rw [e3] at k;rw [fP (n:=i) (by omega) (by omega),fP (n:=s.1) h2 (by omega),e,fP (n:=s.1 * 65536) (by omega) (by omega),k];simp only [dS];omega
theorem rP:A4.ok Tryz.prog 76:=aF (ann:=cr) ap Tryz.func76 (by kernel_rfl) x8
theorem lH:∀ {h:List be},bp h=0->∀ s∈h,ee s=0
 | [],_=>by simp
 | x::l,h=>by
  simp only [bp] at h;split at h
  ·omega
  ·intro s hs;rcases NG.1 hs with rfl | hs
   ·omega
   ·exact lH h s hs
theorem mq {h:List be} (hf:aJ h=0):h.length<=16/\∀ s∈h,0<=s.1/\s.1<=65535/\0<=s.2.2/\s.2.2<=255:=by
 unfold aJ at hf;split at hf
 ·omega
 ·refine ⟨by omega,fun s hs=>?_⟩;have:=lH hf s hs;unfold ee at this;split at this <;> omega
def ce (h:List be) (n:Int):Int×Int :=
 if aJ h≠0 then (0,aJ h) else if n % 65536<h.length/\(h.getD (n % 65536).toNat (0,false,0)).2.1=true/\dS (n % 65536) (h.getD (n % 65536).toNat (0,false,0))=n then (n % 65536,0) else (0,9)
def A6:Spec:={ Ts:=[.arr ca,bJ],Rs:=[.dat ty_I,.dat ty_I],pre:=fun _=>True,F:=fun ((h,n):List be×Int)=>ce h n }
def rx:Prop :=
  ∀ (x:List (Int×Bool×Int)×Int),(x.1.length * (8+(8+8))<=aL/\∀ (x_1:Int×Bool×Int),x_1∈x.1->am .i64 x_1.1/\True/\am .i64 x_1.2.2)/\am .u64 x.2->True->True/\(decide (aJ x.1≠0)=true->0=(ce x.1 x.2).1/\aJ x.1=(ce x.1 x.2).2/\True)/\(decide (aJ x.1≠0)=false->(decide (IntKind.u64.wrap (x.1.length:Int)<=(↑(x.2.toNat &&& Int.toNat 65535):Int))=false->0<=(↑(x.2.toNat &&& Int.toNat 65535):Int))/\(decide (IntKind.u64.wrap (x.1.length:Int)<=(↑(x.2.toNat &&& Int.toNat 65535):Int))=false->(↑(x.2.toNat &&& Int.toNat 65535):Int)<(x.1.length:Int))/\((decide (IntKind.u64.wrap (x.1.length:Int)<=(↑(x.2.toNat &&& Int.toNat 65535):Int))||!(x.1.getD (↑(x.2.toNat &&& Int.toNat 65535):Int).toNat (0,false,0)).2.1)=false->0<=(↑(x.2.toNat &&& Int.toNat 65535):Int))/\((decide (IntKind.u64.wrap (x.1.length:Int)<=(↑(x.2.toNat &&& Int.toNat 65535):Int))||!(x.1.getD (↑(x.2.toNat &&& Int.toNat 65535):Int).toNat (0,false,0)).2.1)=false->(↑(x.2.toNat &&& Int.toNat 65535):Int)<(x.1.length:Int))/\((decide (IntKind.u64.wrap (x.1.length:Int)<=(↑(x.2.toNat &&& Int.toNat 65535):Int))||!(x.1.getD (↑(x.2.toNat &&& Int.toNat 65535):Int).toNat (0,false,0)).2.1)=false->0<=IntKind.i64.wrap (↑(x.2.toNat &&& Int.toNat 65535):Int)/\IntKind.i64.wrap (↑(x.2.toNat &&& Int.toNat 65535):Int)<65536/\0<=(x.1.getD (↑(x.2.toNat &&& Int.toNat 65535):Int).toNat (0,false,0)).1/\(x.1.getD (↑(x.2.toNat &&& Int.toNat 65535):Int).toNat (0,false,0)).1<=65535)/\((decide (IntKind.u64.wrap (x.1.length:Int)<=(↑(x.2.toNat &&& Int.toNat 65535):Int))||!(x.1.getD (↑(x.2.toNat &&& Int.toNat 65535):Int).toNat (0,false,0)).2.1||decide (dS (IntKind.i64.wrap (↑(x.2.toNat &&& Int.toNat 65535):Int)) (x.1.getD (↑(x.2.toNat &&& Int.toNat 65535):Int).toNat (0,false,0))≠x.2))=true->0=(ce x.1 x.2).1/\9=(ce x.1 x.2).2/\True)/\((decide (IntKind.u64.wrap (x.1.length:Int)<=(↑(x.2.toNat &&& Int.toNat 65535):Int))||!(x.1.getD (↑(x.2.toNat &&& Int.toNat 65535):Int).toNat (0,false,0)).2.1||decide (dS (IntKind.i64.wrap (↑(x.2.toNat &&& Int.toNat 65535):Int)) (x.1.getD (↑(x.2.toNat &&& Int.toNat 65535):Int).toNat (0,false,0))≠x.2))=false->IntKind.i64.wrap (↑(x.2.toNat &&& Int.toNat 65535):Int)=(ce x.1 x.2).1/\0=(ce x.1 x.2).2/\True))
theorem ya:rx:=by
 unfold rx;intro ⟨h,n⟩ ⟨⟨hb,hw⟩,hn⟩ _;simp only [am] at hn
 have hand:((n.toNat &&& Int.toNat 65535:Nat):Int)=n % 65536:=by
  have:=ml hn.1 16;simpa using this
 simp only at *;rw [hand];have h0:0<=n % 65536:=by omega
 have h1:n % 65536<65536:=by omega
 rw [m4 (n:=n % 65536) (by omega) (by omega)];have hl:IntKind.u64.wrap (h.length:Int)=h.length:=fP (by omega) (by unfold aL at hb; omega);rw [hl];simp only [ce];refine ⟨trivial,fun hf=>by grind,fun hf=>?_⟩;have hf:aJ h=0:=by simpa using hf
 obtain ⟨z1,z2⟩:=mq hf
 have hm:n % 65536<h.length->0<=(h.getD (n % 65536).toNat (0,false,0)).1/\(h.getD (n % 65536).toNat (0,false,0)).1<=65535:=fun hlt=>by
  have:=z2 _ (aH (0,false,0) h0 hlt);omega
 generalize h.getD (n % 65536).toNat (0,false,0)=s at *;generalize n % 65536=i at *;simp only [hf,dS];obtain ⟨g,o,a⟩:=s;cases o <;> simp only at * <;> grind
theorem rQ:A6.ok Tryz.prog 207:=aF (ann:=cr) (ae ja (ae rP ap)) Tryz.func207 (by kernel_rfl) ya
def gW (h:List be) (n:Int):Int×Int:=if (ce h n).2≠0 then (0,(ce h n).2) else ((h.getD (ce h n).1.toNat (0,false,0)).2.2,0)
def A5:Spec:={ Ts:=[.arr ca,bJ],Rs:=[.dat ty_I,.dat ty_I],pre:=fun _=>True,F:=fun ((h,n):List be×Int)=>gW h n }
def rv:Prop :=
  ∀ (x:List (Int×Bool×Int)×Int),(x.1.length * (8+(8+8))<=aL/\∀ (x_1:Int×Bool×Int),x_1∈x.1->am .i64 x_1.1/\True/\am .i64 x_1.2.2)/\am .u64 x.2->True->True/\(decide ((ce x.1 x.2).2≠0)=true->0=(gW x.1 x.2).1/\(ce x.1 x.2).2=(gW x.1 x.2).2/\True)/\(decide ((ce x.1 x.2).2≠0)=false->0<=(ce x.1 x.2).1/\(ce x.1 x.2).1<(x.1.length:Int)/\(x.1.getD (ce x.1 x.2).1.toNat (0,false,0)).2.2=(gW x.1 x.2).1/\0=(gW x.1 x.2).2/\True)
theorem x9:rv:=by
 unfold rv;intro ⟨h,n⟩ ⟨_,hn⟩ _;simp only [am] at hn
 have hr:(ce h n).2=0->0<=(ce h n).1/\(ce h n).1<h.length:=by
  unfold ce
  grind
 simp only [gW] at *;generalize ce h n=f at *
 grind
theorem B3:A5.ok Tryz.prog 145:=aF (ann:=cr) (ae rQ ap) Tryz.func145 (by kernel_rfl) x9
def closeF (h:List be) (n:Int):List be×Int:=if (ce h n).2≠0 then ([],(ce h n).2) else (h.set (ce h n).1.toNat ((h.getD (ce h n).1.toNat (0,false,0)).1,false,0),0)
def yz:Spec:={ Ts:=[.arr ca,bJ],Rs:=[.own 135 ca,.dat ty_I],pre:=fun _=>True,F:=fun ((h,n):List be×Int)=>closeF h n }
def oU:Prop :=
  ∀ (x:List (Int×Bool×Int)×Int),(x.1.length * (8+(8+8))<=aL/\∀ (x_1:Int×Bool×Int),x_1∈x.1->am .i64 x_1.1/\True/\am .i64 x_1.2.2)/\am .u64 x.2->True->True/\(decide ((ce x.1 x.2).2≠0)=true->([]:List (Int×Bool×Int))=(closeF x.1 x.2).1/\(ce x.1 x.2).2=(closeF x.1 x.2).2/\True)/\(decide ((ce x.1 x.2).2≠0)=false->True/\0<=(ce x.1 x.2).1/\(ce x.1 x.2).1<(x.1.length:Int)/\0<=(ce x.1 x.2).1/\(ce x.1 x.2).1<(x.1.length:Int)/\(ce x.1 x.2).1.toNat<x.1.length/\x.1.set (ce x.1 x.2).1.toNat ((x.1.getD (ce x.1 x.2).1.toNat (0,false,0)).1,false,0)=(closeF x.1 x.2).1/\0=(closeF x.1 x.2).2/\True)
theorem vt:oU:=by
 unfold oU;intro ⟨h,n⟩ ⟨_,hn⟩ _;simp only [am] at hn
 have hr:(ce h n).2=0->0<=(ce h n).1/\(ce h n).1<h.length:=by
  unfold ce
  grind
 simp only [closeF] at *;generalize ce h n=f at *
 grind
theorem yY:yz.ok Tryz.prog 146:=aF (ann:=cr) (ae rQ (ae bD ap)) Tryz.func146 (by kernel_rfl) vt
def dK (n:Int):List be×Int:=if n<0\/16<n then ([],4) else (List.replicate n.toNat (0,false,0),0)
def DW:Spec:={ Ts:=[ty_I],Rs:=[.own 135 ca,.dat ty_I],pre:=fun _=>True,F:=dK }
def tO:Prop :=
  ∀ (x:Int),am .i64 x->True->((decide (x<0)||decide (16<x))=true->([]:List (Int×Bool×Int))=(dK x).1/\4=(dK x).2/\True)/\((decide (x<0)||decide (16<x))=false->0<=x/\x.toNat * (8+(8+8))<=aL/\List.replicate x.toNat (0,false,0)=(dK x).1/\0=(dK x).2/\True)
theorem An:tO:=by
 unfold tO;intro n hw _;simp only [am,dK,aL] at *
 grind
theorem Eq:DW.ok Tryz.prog 55:=aF (ann:=cr) ap Tryz.func55 (by kernel_rfl) An
def lc (h:List be) (i at_:Int):be:=((h.getD i.toNat (0,false,0)).1+1,true,at_)
def openF (h:List be) (at_:Int):List be×Int×Int :=
 if aJ h≠0 then ([],0,aJ h) else if eQ at_=false then ([],0,4) else if ag az 0 h<0 then ([],0,7)
 else (h.set (ag az 0 h).toNat (lc h (ag az 0 h) at_),dS (ag az 0 h) (lc h (ag az 0 h) at_),0)
def C2:Nat->Option LoopGen
 | 1000003=>some { rd:=[.dat 0 (.arr ca),.dat 1 ty_I],A:=fun ((h,at_):List be×Int)=>{ cs:=[.dat 7 ty_I],inv:=fun (e:Int)=>e=if aJ h≠0 then aJ h else if eQ at_=false then 4 else 0,mu:=fun _=>0 } }
 | _=>none
def A0:Spec:={ Ts:=[.arr ca,ty_I],Rs:=[.own 135 ca,.dat bJ,.dat ty_I],pre:=fun _=>True,F:=fun ((h,at_):List be×Int)=>openF h at_ }
def rt:Prop :=
  ∀ (x:List (Int×Bool×Int)×Int),(x.1.length * (8+(8+8))<=aL/\∀ (x_1:Int×Bool×Int),x_1∈x.1->am .i64 x_1.1/\True/\am .i64 x_1.2.2)/\am .i64 x.2->True->True/\(decide (aJ x.1=0)=true->True)/\(((decide (aJ x.1=0)&&!eQ x.2)=true->(4:Int)=if aJ x.1≠0 then aJ x.1 else if eQ x.2=false then (4:Int) else (0:Int))/\((decide (aJ x.1=0)&&!eQ x.2)=false->aJ x.1=if aJ x.1≠0 then aJ x.1 else if eQ x.2=false then (4:Int) else (0:Int)))/\∀ (x_1:Int),(x_1=if aJ x.1≠0 then aJ x.1 else if eQ x.2=false then (4:Int) else (0:Int))->(decide (x_1≠0)=true->([]:List (Int×Bool×Int))=(openF x.1 x.2).1/\0=(openF x.1 x.2).2.1/\x_1=(openF x.1 x.2).2.2/\True)/\(decide (x_1≠0)=false->(∀ (s:be),s∈x.1->(fun (_:Int×Bool×Int)=>True,fun (x:Int×Bool×Int)=>az x).1 s)/\(decide (ag (fun (x:Int×Bool×Int)=>az x) 0 x.1<0)=true->([]:List (Int×Bool×Int))=(openF x.1 x.2).1/\0=(openF x.1 x.2).2.1/\7=(openF x.1 x.2).2.2/\True)/\(decide (ag (fun (x:Int×Bool×Int)=>az x) 0 x.1<0)=false->True/\0<=ag (fun (x:Int×Bool×Int)=>az x) 0 x.1/\ag (fun (x:Int×Bool×Int)=>az x) 0 x.1<(x.1.length:Int)/\am .i64 ((x.1.getD (ag (fun (x:Int×Bool×Int)=>az x) 0 x.1).toNat (0,false,0)).1+1)/\0<=ag (fun (x:Int×Bool×Int)=>az x) 0 x.1/\ag (fun (x:Int×Bool×Int)=>az x) 0 x.1<(x.1.length:Int)/\(ag (fun (x:Int×Bool×Int)=>az x) 0 x.1).toNat<x.1.length/\0<=ag (fun (x:Int×Bool×Int)=>az x) 0 x.1/\ag (fun (x:Int×Bool×Int)=>az x) 0 x.1<(↑(x.1.set (ag (fun (x:Int×Bool×Int)=>az x) 0 x.1).toNat ((x.1.getD (ag (fun (x:Int×Bool×Int)=>az x) 0 x.1).toNat (0,false,0)).1+1,true,x.2)).length:Int)/\(ag (fun (x:Int×Bool×Int)=>az x) 0 x.1).toNat<(x.1.set (ag (fun (x:Int×Bool×Int)=>az x) 0 x.1).toNat ((x.1.getD (ag (fun (x:Int×Bool×Int)=>az x) 0 x.1).toNat (0,false,0)).1+1,true,x.2)).length/\(0<=ag (fun (x:Int×Bool×Int)=>az x) 0 x.1/\ag (fun (x:Int×Bool×Int)=>az x) 0 x.1<65536/\0<=((x.1.set (ag (fun (x:Int×Bool×Int)=>az x) 0 x.1).toNat ((x.1.getD (ag (fun (x:Int×Bool×Int)=>az x) 0 x.1).toNat (0,false,0)).1+1,true,x.2)).getD (ag (fun (x:Int×Bool×Int)=>az x) 0 x.1).toNat (0,false,0)).1/\((x.1.set (ag (fun (x:Int×Bool×Int)=>az x) 0 x.1).toNat ((x.1.getD (ag (fun (x:Int×Bool×Int)=>az x) 0 x.1).toNat (0,false,0)).1+1,true,x.2)).getD (ag (fun (x:Int×Bool×Int)=>az x) 0 x.1).toNat (0,false,0)).1<=65535)/\x.1.set (ag (fun (x:Int×Bool×Int)=>az x) 0 x.1).toNat ((x.1.getD (ag (fun (x:Int×Bool×Int)=>az x) 0 x.1).toNat (0,false,0)).1+1,true,x.2)=(openF x.1 x.2).1/\dS (ag (fun (x:Int×Bool×Int)=>az x) 0 x.1) ((x.1.set (ag (fun (x:Int×Bool×Int)=>az x) 0 x.1).toNat ((x.1.getD (ag (fun (x:Int×Bool×Int)=>az x) 0 x.1).toNat (0,false,0)).1+1,true,x.2)).getD (ag (fun (x:Int×Bool×Int)=>az x) 0 x.1).toNat (0,false,0))=(openF x.1 x.2).2.1/\0=(openF x.1 x.2).2.2/\True))
theorem x7:rt:=by
 unfold rt;intro ⟨h,at_⟩ ⟨⟨_,hw⟩,ha⟩ _;simp only at *;refine ⟨trivial,fun _=>trivial,⟨fun hc=>by grind,fun hc=>by grind⟩,fun e he=>⟨fun hz=>by unfold openF; grind,fun hz=>?_⟩⟩;have hz:e=0:=by simpa using hz
 have hf:aJ h=0:=by grind
 have ht:eQ at_=true:=by grind
 obtain ⟨z1,z2⟩:=mq hf
 have hO:openF h at_=if ag az 0 h<0 then ([],0,7) else (h.set (ag az 0 h).toNat (lc h (ag az 0 h) at_),dS (ag az 0 h) (lc h (ag az 0 h) at_),0):=by
  unfold openF;simp [hf,ht]
 rw [hO];have hk:=dV az ((0,false,0):be) h 0 (by omega);have hr:=eB az h 0;have hg:=fun q=>dW az ((0,false,0):be) h 0 q (by omega)
 generalize ag az 0 h=i at *;refine ⟨fun _ _=>trivial,fun hi=>by rw [if_pos (Nw hi)]; exact ⟨rfl,rfl,rfl,trivial⟩,fun hi=>?_⟩;have hi:0<=i:=by have:=Nx hi; omega
 have hlt:i<h.length:=by omega
 have hgi:=hg hi;have hm:=z2 _ (aH ((0,false,0):be) hi hlt);simp only [Ps] at hgi;rw [if_neg (by omega)];have hgs:∀ v:be,(h.set i.toNat v).getD i.toNat (0,false,0)=v:=fun v=>by simp [show i.toNat<h.length by omega]
 simp only [hgs,O7,lc];unfold az at hgi;generalize h.getD i.toNat (0,false,0)=s at *;simp only [NA,N5] at hgi;refine ⟨trivial,by omega,by omega,by simp only [am]; omega,by omega,by omega,by omega,by omega,by omega,by omega,⟨by omega,by omega,by omega,by omega⟩,by simp⟩
theorem B2:A0.ok Tryz.prog 143:=aF (ann:=C2) (ae ja (ae li (ae Ep (ae bD (ae rP (ae B5 ap)))))) Tryz.func143 (by kernel_rfl) x7
theorem qn {α:Type} (f:α->α) (h:List α) (i:Nat):((h.take i).map f++h.drop i).length=h.length:=by simp; omega
theorem xp {α:Type} (f:α->α) (h:List α) (d:α) (i:Nat) (hi:i<h.length):((h.take i).map f++h.drop i).getD i d=h.getD i d:=by
 simp only [List.getD_eq_getElem?_getD];rw [List.getElem?_append_right (by simp; omega)];simp [show min i h.length=i by omega]
theorem xo {α:Type} (f:α->α) (h:List α) (d:α) (i:Nat) (hi:i<h.length):((h.take i).map f++h.drop i).set i (f (h.getD i d))=(h.take (i+1)).map f++h.drop (i+1):=by
 have l1:((h.take i).map f).length=i:=by simp; omega
 rw [Pj _ _ (by omega),l1,P7,OH hi,List.set_cons_zero,Ol hi,Ot,List.append_assoc];simp [hi]
theorem Ey {α:Type} (f:α->α) (h:List α) (d:α) (i:Nat) (hi:i<h.length) (hf:f (h.getD i d)=h.getD i d):(h.take i).map f++h.drop i=(h.take (i+1)).map f++h.drop (i+1):=by
 rw [<- xo f h d i hi,hf];apply Pr;intro j;rw [List.getElem?_set];split
 ·rename_i e;subst e;have:=xp f h d i hi;rw [if_pos (by rw [qn]; exact hi)];simp only [List.getD_eq_getElem?_getD] at this;have hl:i<((h.take i).map f++h.drop i).length:=by rw [qn]; exact hi
  rw [List.getElem?_eq_getElem hl] at this |-;simp only [PI] at this;rw [this];simp [hi]
 ·rfl
def dv (to:List Int) (s:be):be:=if s.2.1=true then (s.1,s.2.1,to.getD s.2.2.toNat 0) else s
def fU (h:List be) (to:List Int):List be×Int:=if aJ h≠0 then ([],aJ h) else if to.length≠256 then ([],3) else if (to.any fun v=>!eQ v)=true then ([],4) else (h.map (dv to),0)
def AZ:Spec:={ Ts:=[.arr ca,.arr ty_I],Rs:=[.own 135 ca,.dat ty_I],pre:=fun _=>True,F:=fun ((h,to):List be×List Int)=>fU h to }
def C0:Nat->Option LoopGen
 | 10=>some { rd:=[.dat 0 (.arr ca),.dat 1 (.arr ty_I)],wr:=[7,25],A:=fun ((h,to):List be×List Int)=>{ cs:=[.own 7 135 ca,.same 25 7,.dat 27 ty_I],inv:=fun ((out,_,i):List be×Unit×Int)=>0<=i/\i<=h.length/\aJ h=0/\to.length=256/\out=(h.take i.toNat).map (dv to)++h.drop i.toNat,mu:=fun ((_,_,i):List be×Unit×Int)=>(h.length - i).toNat } }
 | 1000013=>some { rd:=[.dat 0 (.arr ca),.dat 1 (.arr ty_I),.dat 27 ty_I],wr:=[7,25],A:=fun ((h,to,i):List be×List Int×Int)=>{ cs:=[.own 7 135 ca,.same 25 7],inv:=fun ((out,_):List be×Unit)=>out=(h.take (i.toNat+1)).map (dv to)++h.drop (i.toNat+1),mu:=fun _=>0 } }
 | _=>none
def rr:Prop :=
  ∀ (x:List (Int×Bool×Int)×List Int),((x.1.length * (8+(8+8))<=aL/\∀ (x_1:Int×Bool×Int),x_1∈x.1->am .i64 x_1.1/\True/\am .i64 x_1.2.2)/\x.2.length * 8<=aL/\∀ (x_1:Int),x_1∈x.2->am .i64 x_1)->True->True/\(decide (aJ x.1≠0)=true->([]:List (Int×Bool×Int))=(fU x.1 x.2).1/\aJ x.1=(fU x.1 x.2).2/\True)/\(decide (aJ x.1≠0)=false->(decide ((x.2.length:Int)≠256)=true->([]:List (Int×Bool×Int))=(fU x.1 x.2).1/\3=(fU x.1 x.2).2/\True)/\(decide ((x.2.length:Int)≠256)=false->(∀ (s:Int),s∈x.2->(fun (_:Int)=>True,fun (x:Int)=>!eQ x).1 s)/\((x.2.any fun (x:Int)=>!eQ x)=true->([]:List (Int×Bool×Int))=(fU x.1 x.2).1/\4=(fU x.1 x.2).2/\True)/\((x.2.any fun (x:Int)=>!eQ x)=false->True/\((0:Int)<=0/\0<=(x.1.length:Int)/\aJ x.1=0/\x.2.length=256/\x.1=List.map (dv x.2) (List.take (Int.toNat 0) x.1)++List.drop (Int.toNat 0) x.1)/\∀ (x_1:List (Int×Bool×Int)×Unit×Int),0<=x_1.2.2/\x_1.2.2<=(x.1.length:Int)/\aJ x.1=0/\x.2.length=256/\x_1.1=List.map (dv x.2) (List.take x_1.2.2.toNat x.1)++List.drop x_1.2.2.toNat x.1->(decide (x_1.2.2<(x.1.length:Int))=true->0<=x_1.2.2/\x_1.2.2<(x_1.1.length:Int)/\x_1.2.2.toNat<x_1.1.length/\(((x_1.1.getD x_1.2.2.toNat (0,false,0)).2.1=true->0<=(x_1.1.getD x_1.2.2.toNat (0,false,0)).2.2/\(x_1.1.getD x_1.2.2.toNat (0,false,0)).2.2<(x.2.length:Int)/\0<=x_1.2.2/\x_1.2.2<(x_1.1.length:Int)/\x_1.2.2.toNat<x_1.1.length/\x_1.1.set x_1.2.2.toNat ((x_1.1.getD x_1.2.2.toNat (0,false,0)).1,(x_1.1.getD x_1.2.2.toNat (0,false,0)).2.1,x.2.getD (x_1.1.getD x_1.2.2.toNat (0,false,0)).2.2.toNat 0)=List.map (dv x.2) (List.take (x_1.2.2.toNat+1) x.1)++List.drop (x_1.2.2.toNat+1) x.1)/\((x_1.1.getD x_1.2.2.toNat (0,false,0)).2.1=false->x_1.1=List.map (dv x.2) (List.take (x_1.2.2.toNat+1) x.1)++List.drop (x_1.2.2.toNat+1) x.1))/\∀ (x_2:List (Int×Bool×Int)×Unit),x_2.1=List.map (dv x.2) (List.take (x_1.2.2.toNat+1) x.1)++List.drop (x_1.2.2.toNat+1) x.1->am .i64 (x_1.2.2+1)/\(0<=x_1.2.2+1/\x_1.2.2+1<=(x.1.length:Int)/\aJ x.1=0/\x.2.length=256/\x_2.1=List.map (dv x.2) (List.take (x_1.2.2+1).toNat x.1)++List.drop (x_1.2.2+1).toNat x.1)/\((x.1.length:Int) - (x_1.2.2+1)).toNat<((x.1.length:Int) - x_1.2.2).toNat)/\(decide (x_1.2.2<(x.1.length:Int))=false->x_1.1=(fU x.1 x.2).1/\0=(fU x.1 x.2).2/\True))))
theorem x6:rr:=by
 unfold rr;intro ⟨h,to⟩ ⟨⟨_,hw⟩,hto,_⟩ _;simp only at *;refine ⟨trivial,fun hf=>by unfold fU; grind,fun hf=>⟨fun hl=>by unfold fU; grind,fun hl=>⟨fun _ _=>trivial,fun ha=>by unfold fU; grind,fun ha=>?_⟩⟩⟩;have hf:aJ h=0:=by simpa using hf
 have hl:to.length=256:=by
  have:((to.length:Nat):Int)=256:=by simpa using hl
  omega
 obtain ⟨z1,z2⟩:=mq hf;have hS:fU h to=(h.map (dv to),0):=by unfold fU; rw [if_neg (by omega),if_neg (by omega),if_neg (by rw [ha]; simp)]
 refine ⟨trivial,⟨by omega,by omega,hf,hl,by simp⟩,fun ⟨out,u,i⟩ ⟨h0,h1,_,_,h4⟩=>⟨fun hlt=>?_,fun hge=>?_⟩⟩
 ·have hlt:i<(h.length:Int):=by simpa using hlt
  simp only at *;have hm:=z2 _ (aH ((0,false,0):be) h0 hlt);have hlen:out.length=h.length:=by rw [h4]; exact qn _ _ _
  have hget:out.getD i.toNat (0,false,0)=h.getD i.toNat (0,false,0):=by rw [h4]; exact xp _ _ _ _ (by omega)
  have hset:=xo (dv to) h ((0,false,0):be) i.toNat (by omega);have hkeep:=Ey (dv to) h ((0,false,0):be) i.toNat (by omega);rw [<- h4] at hset hkeep;rw [hget];refine ⟨h0,by omega,by omega,⟨fun ho=>⟨by omega,by omega,h0,by omega,by omega,?_⟩,fun ho=>?_⟩,fun ⟨o2,_⟩ e2=>⟨by simp only [am]; omega,⟨by omega,by omega,hf,hl,?_⟩,by omega⟩⟩
  ·rw [<- hset];unfold dv;rw [if_pos ho]
  ·apply hkeep;unfold dv;rw [if_neg (by rw [ho]; simp)]
  ·rw [show (i+1).toNat=i.toNat+1 by omega];exact e2
 ·have hge:¬ i<(h.length:Int):=by simpa using hge
  simp only at *;rw [hS,h4,NP (by omega),N9 (by omega)];simp
theorem rO:AZ.ok Tryz.prog 160:=aF (ann:=C0) (ae ja (ae Hz (ae BX (ae bD ap)))) Tryz.func160 (by kernel_rfl) x6
def gY:Int->List be->List Int
 | _,[]=>[]
 | k,s::l=>if s.2.1=true then dS k s::gY (k+1) l else gY (k+1) l
def LU (h:List be):List Int×Int:=if aJ h≠0 then ([],aJ h) else (gY 0 h,0)
end
section
abbrev aG:Ty:=.pair (.arr bJ) (.pair (.arr ty_I) (.pair (.arr fo) (.arr ca)))
abbrev ah:=List Int×List Int×List bj×List be
abbrev ol (s:ah):Prop:=(s.1.length * 8<=aL/\∀ x∈s.1,am .u64 x)/\(s.2.1.length * 8<=aL/\∀ x∈s.2.1,am .i64 x)/\(s.2.2.1.length * (8+8)<=aL/\∀ x∈s.2.2.1,am .i64 x.1/\am .i64 x.2)/\s.2.2.2.length * (8+(8+8))<=aL/\∀ x∈s.2.2.2,am .i64 x.1/\True/\am .i64 x.2.2
def gB (h:List be):List Int:=(h.filter fun s=>s.2.1).map (·.2.2)
def cB (s:ah):List Int:=(s.2.1.filter fun v=>decide (0<=v))++gB s.2.2.2++s.2.2.1.map (·.1)
def ai (s:ah):List Int:=fC (d8 ((bh s.2.1 s.1.length).1++gB s.2.2.2++s.2.2.1.map (·.1)))
def au (s:ah):Int :=
 if (ak s.1).2.2≠0 then (ak s.1).2.2 else if aE s.2.1 s.1.length≠0 then aE s.2.1 s.1.length else if bM s.2.2.1≠0 then bM s.2.2.1 else if aJ s.2.2.2≠0 then aJ s.2.2.2 else aZ s.1 (cB s)
theorem kf (r:List Int) (n:Int):(bh r n).1.length<=r.length:=by
 unfold bh;split
 ·simp
 ·have h1:(fC (d8 (r.filter fun v=>!decide (v<0)))).length<=_:=j9 _;have h2:=PS (fun v:Int=>!decide (v<0)) r;rw [iW] at h1;simp only;omega
theorem mQ (h:List be):(gB h).length<=h.length:=by
 unfold gB;rw [Oh];exact PS _ _
theorem Ef (h:List be) (x:be):gB (h++[x])=if x.2.1=true then gB h++[x.2.2] else gB h:=by
 unfold gB;rw [PO,Ot];by_cases hx:x.2.1=true
 ·rw [if_pos hx,Ov (by simpa using hx)]; simp
 ·rw [if_neg hx,OO (by simpa using hx)]; simp
theorem pM {l:List Int} {x:Int}:x∈fC (d8 l) ↔ x∈l:=by
 rw [(sy (kZ l)).2 x,p8]
theorem gG {s:ah} (h:aE s.2.1 s.1.length=0) {x:Int}:x∈ai s ↔ x∈cB s:=by
 unfold ai cB;rw [pM,NI,NI,NI,NI]
 have:x∈(bh s.2.1 s.1.length).1 ↔ x∈s.2.1.filter fun v=>decide (0<=v):=by
  unfold bh;rw [if_neg (by omega)];simp only;rw [pM,OC,OC];simp
 rw [this]
theorem xe:∀ (l:List bj) (q:Int),cL q l=0->∀ x∈l,0<=x.1/\x.1<=255
 | [],_,_,x,hx=>by cases hx
 | y::l,q,h,x,hx=>by
  simp only [cL] at h;split at h
  ·omega
  ·rename_i hb;split at h
   ·omega
   ·rcases NG.1 hx with rfl | hx
    ·unfold lC at hb;simp only [Oj,N5,not_or] at hb;omega
    ·exact xe l _ h x hx
theorem td:∀ (l:List be),bp l=0->∀ x∈l,0<=x.2.2/\x.2.2<=255
 | [],_,x,hx=>by cases hx
 | y::l,h,x,hx=>by
  simp only [bp] at h;split at h
  ·rename_i hb; omega
  ·rename_i hb;rcases NG.1 hx with rfl | hx
   ·have hb:ee x=0:=by omega
    unfold ee at hb;split at hb
    ·omega
    ·omega
   ·exact td l h x hx
theorem Cb {s:ah} (h1:aE s.2.1 s.1.length=0) (h2:bM s.2.2.1=0) (h3:aJ s.2.2.2=0):∀ x∈cB s,0<=x/\x<=255:=by
 intro x hx;unfold cB at hx;rcases NI.1 hx with hx | hx
 ·rcases NI.1 hx with hx | hx
  ·obtain ⟨hx,h0⟩:=OC.1 hx;have h0:=Nw h0;unfold aE at h1;split at h1
   ·omega
   ·split at h1
    ·omega
    ·split at h1
     ·omega
     ·rename_i hn _ ha;have:=sz (by simpa using ha) hx;omega
  ·unfold gB at hx;obtain ⟨y,hy,rfl⟩:=NZ.1 hx;unfold aJ at h3;split at h3
   ·omega
   ·exact td _ h3 y (OC.1 hy).1
 ·obtain ⟨y,hy,rfl⟩:=NZ.1 hx;unfold bM at h2;split at h2
  ·omega
  ·exact xe _ _ h2 y hy
theorem lW {s:ah} (h1:aE s.2.1 s.1.length=0) (h2:bM s.2.2.1=0) (h3:aJ s.2.2.2=0):s.2.1.length<=32/\s.2.2.1.length<=16/\s.2.2.2.length<=16:=by
 unfold aE at h1;unfold bM at h2;unfold aJ at h3;refine ⟨?_,?_,?_⟩
 ·split at h1
  ·omega
  ·split at h1 <;> omega
 ·split at h2 <;> omega
 ·split at h3 <;> omega
theorem LJ {a:List Int} (hc:(ak a).2.2=0) (x:Int):(decide ((g9 a x).2≠0)||(g9 a x).1.2.2.2)=!isB (ac a).1 x:=by
 by_cases hx:isB (ac a).1 x=true
 ·obtain ⟨_,_,e⟩:=Kn hc hx;have hf:=(fj hx).2.2.2.2.2;rw [e,hx];simp only [gU,hf];simp
 ·obtain ⟨_,_,e1,_,_,_,_⟩:=bg hc;have hx2:isB (ac a).1 x=false:=by simpa using hx
  rw [hx2];unfold g9;rw [if_neg (by omega)];by_cases hl:ag (fun s:aw=>decide (s.1=x)) 0 (ak a).1<0
  ·rw [if_pos hl]; simp
  ·rw [if_neg hl];have h1:=dW (fun s:aw=>decide (s.1=x)) (0,0,0,0,false) (ak a).1 0 (by omega) (by omega);have h2:=dV (fun s:aw=>decide (s.1=x)) (0,0,0,0,false) (ak a).1 0 (by omega);rw [Ps] at h1;have h3:=aH (xs:=(ak a).1) ((0,0,0,0,false):aw) (by omega:0<=ag (fun s:aw=>decide (s.1=x)) 0 (ak a).1) (by omega);simp only;generalize (ak a).1.getD (ag (fun s:aw=>decide (s.1=x)) 0 (ak a).1).toNat (0,0,0,0,false)=t at *;have h1:=Nw h1;rw [e1] at h3
   have:t.2.2.2.2=true:=by
    cases hf:t.2.2.2.2
    ·exfalso;apply hx;have:=nO (bV a) h3 hf;unfold isB;rw [<- h1,this]
    ·rfl
   simp only [gU,this];simp
def CV:Nat->Option LoopGen
 | 3=>some { rd:=[.dat 7 (.arr fo)],A:=fun (p:List bj)=>{ cs:=[.own 3 3 ty_I,.dat 9 ty_I],inv:=fun ((o,i):List Int×Int)=>0<=i/\i<=p.length/\o=(p.take i.toNat).map (·.1),mu:=fun ((_,i):List Int×Int)=>(p.length - i).toNat } }
 | _=>none
def AK:Spec:={ Ts:=[aG],Rs:=[.own 3 ty_I],pre:=fun _=>True,F:=fun (s:ah)=>s.2.2.1.map (·.1) }
def rf:Prop :=
  ∀ (x:List Int×List Int×List (Int×Int)×List (Int×Bool×Int)),(ol x)->True->((0:Int)<=0/\0<=(x.2.2.1.length:Int)/\([]:List Int)=List.map (fun (x:bj)=>x.1) (List.take (Int.toNat 0) x.2.2.1))/\∀ (x_1:List Int×Int),0<=x_1.2/\x_1.2<=(x.2.2.1.length:Int)/\x_1.1=List.map (fun (x:bj)=>x.1) (List.take x_1.2.toNat x.2.2.1)->(decide (x_1.2<(x.2.2.1.length:Int))=true->0<=x_1.2/\x_1.2<(x.2.2.1.length:Int)/\(x_1.1.length+[(x.2.2.1.getD x_1.2.toNat (0,0)).1].length) * 8<=aL/\am .i64 (x_1.2+1)/\(0<=x_1.2+1/\x_1.2+1<=(x.2.2.1.length:Int)/\x_1.1++[(x.2.2.1.getD x_1.2.toNat (0,0)).1]=List.map (fun (x:bj)=>x.1) (List.take (x_1.2+1).toNat x.2.2.1))/\((x.2.2.1.length:Int) - (x_1.2+1)).toNat<((x.2.2.1.length:Int) - x_1.2).toNat)/\(decide (x_1.2<(x.2.2.1.length:Int))=false->x_1.1=List.map (fun (x:bj)=>x.1) x.2.2.1/\True)
theorem xR:rf:=by
 unfold rf;intro ⟨a,r,p,h⟩ ⟨_,_,⟨hbp,_⟩,_⟩ _;unfold aL at hbp;simp only at hbp |-;refine ⟨⟨by omega,by omega,by simp⟩,fun ⟨o,i⟩ ⟨i0,i1,i2⟩=>⟨fun hlt=>?_,fun hge=>?_⟩⟩
 ·simp only at i0 i1 i2 hlt |-;have hlt:=Nw hlt;have ht:=bx ((0,0):bj) i0 hlt;have hl:o.length=i.toNat:=by rw [i2]; simp; omega
  rw [ht,Ot,<- i2];unfold aL;simp only [am,Pk];exact ⟨i0,hlt,by omega,by omega,⟨by omega,by omega,by first | rfl | trivial⟩,by omega⟩
 ·simp only at i0 i1 i2 hge |-;rw [cn (Nx hge)] at i2;exact ⟨i2,trivial⟩
theorem jT:AK.ok Tryz.prog 142:=aF (ann:=CV) ap Tryz.func142 (by kernel_rfl) xR
def If:Nat->Option LoopGen
 | 3=>some { rd:=[.dat 17 (.arr ca),.own 3 3 ty_I],A:=fun ((h,l0):List be×List Int)=>{ cs:=[.own 3 3 ty_I,.dat 19 ty_I],inv:=fun ((o,i):List Int×Int)=>0<=i/\i<=h.length/\o=l0++gB (h.take i.toNat),mu:=fun ((_,i):List Int×Int)=>(h.length - i).toNat } }
 | _=>none
def GP:Spec:={ Ts:=[aG],Rs:=[.own 3 ty_I],pre:=fun (s:ah)=>s.2.1.length<=32/\s.2.2.1.length<=16/\s.2.2.2.length<=16,F:=ai }
def wS:Prop :=
  ∀ (x:List Int×List Int×List (Int×Int)×List (Int×Bool×Int)),(ol x)->x.2.1.length<=32/\x.2.2.1.length<=16/\x.2.2.2.length<=16->True/\((0:Int)<=0/\0<=(x.2.2.2.length:Int)/\(bh x.2.1 (x.1.length:Int)).1=(bh x.2.1 (x.1.length:Int)).1++gB (List.take (Int.toNat 0) x.2.2.2))/\∀ (x_1:List Int×Int),0<=x_1.2/\x_1.2<=(x.2.2.2.length:Int)/\x_1.1=(bh x.2.1 (x.1.length:Int)).1++gB (List.take x_1.2.toNat x.2.2.2)->(decide (x_1.2<(x.2.2.2.length:Int))=true->0<=x_1.2/\x_1.2<(x.2.2.2.length:Int)/\((x.2.2.2.getD x_1.2.toNat (0,false,0)).2.1=true->(x_1.1.length+[(x.2.2.2.getD x_1.2.toNat (0,false,0)).2.2].length) * 8<=aL/\am .i64 (x_1.2+1)/\(0<=x_1.2+1/\x_1.2+1<=(x.2.2.2.length:Int)/\x_1.1++[(x.2.2.2.getD x_1.2.toNat (0,false,0)).2.2]=(bh x.2.1 (x.1.length:Int)).1++gB (List.take (x_1.2+1).toNat x.2.2.2))/\((x.2.2.2.length:Int) - (x_1.2+1)).toNat<((x.2.2.2.length:Int) - x_1.2).toNat)/\((x.2.2.2.getD x_1.2.toNat (0,false,0)).2.1=false->am .i64 (x_1.2+1)/\(0<=x_1.2+1/\x_1.2+1<=(x.2.2.2.length:Int)/\x_1.1=(bh x.2.1 (x.1.length:Int)).1++gB (List.take (x_1.2+1).toNat x.2.2.2))/\((x.2.2.2.length:Int) - (x_1.2+1)).toNat<((x.2.2.2.length:Int) - x_1.2).toNat))/\(decide (x_1.2<(x.2.2.2.length:Int))=false->True/\[x_1.1,List.map (fun (x:bj)=>x.1) x.2.2.1].flatten.length * 8<=aL/\True/\True/\fC (d8 [x_1.1,List.map (fun (x:bj)=>x.1) x.2.2.1].flatten)=ai x/\True)
theorem Dl:wS:=by
 unfold wS;intro ⟨a,r,p,h⟩ _ ⟨h1,h2,h3⟩;simp only at h1 h2 h3 |-;have hF:ai (a,r,p,h)=fC (d8 ((bh r a.length).1++gB h++p.map (·.1))):=rfl;have hrl:=kf r a.length;generalize (bh r a.length).1=l0 at *;refine ⟨trivial,⟨by omega,by omega,by simp [gB]⟩,fun ⟨o,i⟩ ⟨i0,i1,i2⟩=>⟨fun hlt=>?_,fun hge=>?_⟩⟩
 ·simp only at i0 i1 i2 hlt |-;have hlt:=Nw hlt;have ht:=bx ((0,false,0):be) i0 hlt
  have hl:o.length<=32+i.toNat:=by
   have:=mQ (h.take i.toNat);rw [NN] at this;rw [i2,NE]; omega
  rw [ht,Ef];generalize h.getD i.toNat (0,false,0)=x at *;unfold aL;simp only [am,Pk];refine ⟨i0,hlt,fun hx=>?_,fun hx=>?_⟩
  ·rw [if_pos hx,<- List.append_assoc,<- i2];exact ⟨by omega,by omega,⟨by omega,by omega,by first | rfl | trivial⟩,by omega⟩
  ·rw [if_neg (by rw [hx]; simp),<- i2];exact ⟨by omega,⟨by omega,by omega,by first | rfl | trivial⟩,by omega⟩
 ·simp only at i0 i1 i2 hge |-;rw [cn (Nx hge)] at i2;have hl:=mQ h;have hc:[o,p.map (·.1)].flatten=l0++gB h++p.map (·.1):=by rw [i2]; simp
  rw [hc,hF];unfold aL;simp only [NE,Oh];exact ⟨trivial,by omega,trivial,trivial,by first | rfl | trivial,trivial⟩
theorem ql:GP.ok Tryz.prog 151:=aF (ann:=If) (ae yW (ae jT (ae nj (kY tY (kY rR ap))))) Tryz.func151 (by kernel_rfl) Dl
def E4:Nat->Option LoopGen
 | 2=>some { rd:=[.dat 24 (.arr ty_I)],A:=fun (l:List Int)=>{ cs:=[.dat 26 ty_I],inv:=fun (i:Int)=>0<=i/\i<=l.length/\∀ x∈l.take i.toNat,x=0,mu:=fun (i:Int)=>(l.length - i).toNat } }
 | 8=>some { rd:=[.own 35 3 ty_I,.box 1 aG],A:=fun ((l,s):List Int×ah)=>{ cs:=[.dat 37 ty_I],inv:=fun (i:Int)=>0<=i/\i<=l.length/\∀ x∈l.take i.toNat,isB (ac s.1).1 x=true,mu:=fun (i:Int)=>(l.length - i).toNat } }
 | _=>none
def DO:Spec:={ Ts:=[aG],Rs:=[.dat ty_I],pre:=fun _=>True,F:=au }
def tI:Prop :=
  ∀ (x:List Int×List Int×List (Int×Int)×List (Int×Bool×Int)),(ol x)->True->True/\True/\True/\True/\((0:Int)<=0/\0<=(↑[(ak x.1).2.2,aE x.2.1 (x.1.length:Int),bM x.2.2.1,aJ x.2.2.2].length:Int)/\∀ (x_1:Int),x_1∈List.take (Int.toNat 0) [(ak x.1).2.2,aE x.2.1 (x.1.length:Int),bM x.2.2.1,aJ x.2.2.2]->x_1=0)/\∀ (x_1:Int),(0<=x_1/\x_1<=(↑[(ak x.1).2.2,aE x.2.1 (x.1.length:Int),bM x.2.2.1,aJ x.2.2.2].length:Int)/\∀ (x_2:Int),x_2∈List.take x_1.toNat [(ak x.1).2.2,aE x.2.1 (x.1.length:Int),bM x.2.2.1,aJ x.2.2.2]->x_2=0)->(decide (x_1<(↑[(ak x.1).2.2,aE x.2.1 (x.1.length:Int),bM x.2.2.1,aJ x.2.2.2].length:Int))=true->0<=x_1/\x_1<(↑[(ak x.1).2.2,aE x.2.1 (x.1.length:Int),bM x.2.2.1,aJ x.2.2.2].length:Int)/\(decide ([(ak x.1).2.2,aE x.2.1 (x.1.length:Int),bM x.2.2.1,aJ x.2.2.2].getD x_1.toNat (0:Int)≠0)=true->[(ak x.1).2.2,aE x.2.1 (x.1.length:Int),bM x.2.2.1,aJ x.2.2.2].getD x_1.toNat 0=au x/\True)/\(decide ([(ak x.1).2.2,aE x.2.1 (x.1.length:Int),bM x.2.2.1,aJ x.2.2.2].getD x_1.toNat (0:Int)≠0)=false->am .i64 (x_1+1)/\(0<=x_1+1/\x_1+1<=(↑[(ak x.1).2.2,aE x.2.1 (x.1.length:Int),bM x.2.2.1,aJ x.2.2.2].length:Int)/\∀ (x_2:Int),x_2∈List.take (x_1+1).toNat [(ak x.1).2.2,aE x.2.1 (x.1.length:Int),bM x.2.2.1,aJ x.2.2.2]->x_2=0)/\((↑[(ak x.1).2.2,aE x.2.1 (x.1.length:Int),bM x.2.2.1,aJ x.2.2.2].length:Int) - (x_1+1)).toNat<((↑[(ak x.1).2.2,aE x.2.1 (x.1.length:Int),bM x.2.2.1,aJ x.2.2.2].length:Int) - x_1).toNat))/\(decide (x_1<(↑[(ak x.1).2.2,aE x.2.1 (x.1.length:Int),bM x.2.2.1,aJ x.2.2.2].length:Int))=false->(x.2.1.length<=32/\x.2.2.1.length<=16/\x.2.2.2.length<=16)/\((0:Int)<=0/\0<=(↑(ai x).length:Int)/\∀ (x_2:Int),x_2∈List.take (Int.toNat 0) (ai x)->isB (ac x.1).1 x_2=true)/\∀ (x_2:Int),(0<=x_2/\x_2<=(↑(ai x).length:Int)/\∀ (x_3:Int),x_3∈List.take x_2.toNat (ai x)->isB (ac x.1).1 x_3=true)->(decide (x_2<(↑(ai x).length:Int))=true->0<=x_2/\x_2<(↑(ai x).length:Int)/\x_2.toNat<(ai x).length/\True/\((decide ((g9 x.1 ((ai x).getD x_2.toNat 0)).2≠0)||(g9 x.1 ((ai x).getD x_2.toNat 0)).1.2.2.2)=true->5=au x/\True)/\((decide ((g9 x.1 ((ai x).getD x_2.toNat 0)).2≠0)||(g9 x.1 ((ai x).getD x_2.toNat 0)).1.2.2.2)=false->am .i64 (x_2+1)/\(0<=x_2+1/\x_2+1<=(↑(ai x).length:Int)/\∀ (x_3:Int),x_3∈List.take (x_2+1).toNat (ai x)->isB (ac x.1).1 x_3=true)/\((↑(ai x).length:Int) - (x_2+1)).toNat<((↑(ai x).length:Int) - x_2).toNat))/\(decide (x_2<(↑(ai x).length:Int))=false->0=au x/\True))
theorem Ah:tI:=by
 unfold tI;intro s hx _;have hF:au s=if (ak s.1).2.2≠0 then (ak s.1).2.2 else if aE s.2.1 s.1.length≠0 then aE s.2.1 s.1.length else if bM s.2.2.1≠0 then bM s.2.2.1 else if aJ s.2.2.2≠0 then aJ s.2.2.2 else aZ s.1 (cB s):=rfl
 have hsm:=fun a b c=>lW (s:=s) a b c
 have hmem:=fun a x=>gG (s:=s) a (x:=x)
 have hfree:=fun a x=>LJ (a:=s.1) a x
 have hfl:(ai s).length<=(ai s).length:=NR _
 have hlen:(ak s.1).2.2=0->aE s.2.1 s.1.length=0->bM s.2.2.1=0->aJ s.2.2.2=0->(ai s).length<=64:=fun _ a b c=>by
  obtain ⟨q1,q2,q3⟩:=hsm a b c;have e1:=kf s.2.1 s.1.length;have e2:=mQ s.2.2.2;have e3:(ai s).length<=(d8 ((bh s.2.1 s.1.length).1++gB s.2.2.2++s.2.2.1.map (·.1))).length:=j9 _;rw [iW] at e3;simp only [NE,Oh] at e3;omega
 generalize hc0:(ak s.1).2.2=c0 at *;generalize aE s.2.1 s.1.length=c1 at *;generalize bM s.2.2.1=c2 at *;generalize aJ s.2.2.2=c3 at *;have hl4:([c0,c1,c2,c3].length:Int)=4:=rfl;refine ⟨trivial,trivial,trivial,trivial,⟨by omega,by omega,fun x hx=>by simp at hx⟩,fun i ⟨i0,i1,i2⟩=>⟨fun hlt=>?_,fun hge=>?_⟩⟩
 ·have hlt:=Nw hlt;have ht:=bx (0:Int) i0 hlt;refine ⟨i0,hlt,fun hn=>⟨?_,trivial⟩,fun hn=>⟨by simp only [am]; omega,⟨by omega,by omega,fun x hx=>?_⟩,by omega⟩⟩
  ·have hn:=Nw hn;rw [hF];have h4:i=0\/i=1\/i=2\/i=3:=by omega
   rcases h4 with rfl | rfl | rfl | rfl
   ·exact (if_pos hn).symm
   ·have e0:=i2 c0 (by simp);rw [if_neg (by omega)];exact (if_pos hn).symm
   ·have e0:=i2 c0 (by simp);have e1:=i2 c1 (by simp);rw [if_neg (by omega),if_neg (by omega)];exact (if_pos hn).symm
   ·have e0:=i2 c0 (by simp);have e1:=i2 c1 (by simp);have e2:=i2 c2 (by simp);rw [if_neg (by omega),if_neg (by omega),if_neg (by omega)];exact (if_pos hn).symm
  ·have hn:[c0,c1,c2,c3].getD i.toNat 0=0:=by simpa using Nx hn
   rw [ht] at hx;rcases NI.1 hx with hx | hx
   ·exact i2 x hx
   ·rw [NL.1 hx,hn]
 ·have hge:=Nx hge;rw [cn hge] at i2;have e0:=i2 c0 (by simp);have e1:=i2 c1 (by simp);have e2:=i2 c2 (by simp);have e3:=i2 c3 (by simp);have hS:au s=aZ s.1 (cB s):=by rw [hF,if_neg (by omega),if_neg (by omega),if_neg (by omega),if_neg (by omega)]
  have hfr:=hfree e0;have hln:=hlen e0 e1 e2 e3;have hmm:=hmem e1
  have hFF:aZ s.1 (cB s)=if (cB s).all (isB (ac s.1).1)=true then 0 else 5:=by
   unfold aZ;rw [if_neg (by omega)]
  rw [hS,hFF];refine ⟨hsm e1 e2 e3,⟨by omega,by omega,fun x hx=>by simp at hx⟩,fun j ⟨j0,j1,j2⟩=>⟨fun hj=>?_,fun hj=>?_⟩⟩
  ·have hj:=Nw hj;have ht:=bx (0:Int) j0 hj;have hm:=aH (0:Int) j0 hj;rw [hfr,ht];generalize (ai s).getD j.toNat 0=y at *;refine ⟨j0,hj,by omega,trivial,fun hn=>⟨?_,trivial⟩,fun hn=>⟨by simp only [am]; omega,⟨by omega,by omega,fun x hx=>?_⟩,by omega⟩⟩
   ·rw [if_neg (fun hall=>?_)];have:=NH.1 hall y ((hmm y).1 hm);rw [this] at hn;cases hn
   ·rcases NI.1 hx with hx | hx
    ·exact j2 x hx
    ·rw [NL.1 hx];simpa using hn
  ·have hj:=Nx hj;rw [cn hj] at j2;refine ⟨?_,trivial⟩;rw [if_pos (NH.2 fun x hx=>j2 x ((hmm x).2 hx))]
theorem fv:DO.ok Tryz.prog 80:=aF (ann:=E4) (ae i6 (ae lf (ae rL (ae ja (ae ql (ae mR ap)))))) Tryz.func80 (by kernel_rfl) Ah
end
section
def ay:ah:=([],[],[],[])
def cG (s:ah):List Int:=s.2.2.1.map (·.1)
def dx (s:ah):List Int:=bF s.1 (ai s++cG s)
def pg (s:ah):List Int:=(dx s).map (df (ac s.1).1)
def kV (s:ah) (x:Int):Int:=(aA (dx s) (pg s) (cG s)).getD (cC (dx s) x).toNat 0
def dw (s:ah):List Int:=(Bi s.1 (dx s) (cG s)).1
def ke (s:ah) (v:Int):Int:=if 0<=v then kV s v else v
def mr (s:ah) (h:be):be:=if h.2.1=true then (h.1,h.2.1,kV s h.2.2) else h
def gM (s:ah):ah:=(dw s,s.2.1.map (ke s),s.2.2.1,s.2.2.2.map (mr s))
def ga (s:ah):Int:=dC (aM false [] (ac (dw s)).1)
def cW (s:ah):ah×Int:=(gM s,ga s)
structure Right (s:ah):Prop where
 w:∀ x∈s.1,am .u64 x
 chk:(ak s.1).2.2=0
 root:aE s.2.1 s.1.length=0
 pin:bM s.2.2.1=0
 hand:aJ s.2.2.2=0
 nam:∀ x∈cB s,isB (ac s.1).1 x=true
theorem gQ {s:ah} (hw:∀ x∈s.1,am .u64 x) (h:au s=0):Right s:=by
 unfold au at h;split at h
 ·omega
 rename_i h0;split at h
 ·omega
 rename_i h1;split at h
 ·omega
 rename_i h2;split at h
 ·omega
 rename_i h3;exact ⟨hw,by omega,by omega,by omega,by omega,(eN h).2⟩
section
variable {s:ah}
theorem Right.pinsRise (h:Right s):(cG s).Pairwise (·<·):=List.pairwise_map.2 (oZ h.pin).2.1
theorem Right.pinsIn (_h:Right s):∀ x∈cG s,x∈cB s:=fun _x hx=>NF _ hx
theorem Right.froms (h:Right s):∀ x∈ai s++cG s,x∈cB s:=fun x hx=>by
 rcases NI.1 hx with hx | hx
 ·exact (gG h.root).1 hx
 ·exact h.pinsIn x hx
theorem Right.fault (h:Right s):aZ s.1 (ai s++cG s)=0:=jc h.chk fun x hx=>h.nam x (h.froms x hx)
theorem Right.keep (h:Right s):bb (cG s)=true:=iL h.pinsRise
theorem Right.longs (h:Right s):aS s.1 (dx s) (cG s)=(pg s,0):=r8 h.w h.fault h.keep
theorem Right.plan (h:Right s):Plan s.1 (dx s) (cG s) (pg s):=by
 have:=FF (a:=s.1) (keep:=dx s) (pinned:=cG s) (by rw [h.longs]);rw [h.longs] at this;exact this
theorem Right.good (h:Right s) (to:List Int):((dx s).all fun x=>eV (dx s) to (bH s.1 x))=true:=uZ h.w h.fault to
theorem Right.clean (h:Right s):aq s.1 (ai s) (cG s)=(dw s,(ai s).map (kV s),0):=by
 unfold aq;rw [if_neg (by rw [h.fault]; simp),if_neg (by rw [h.keep]; simp),(mD h.w h.fault h.keep).1];rfl
theorem Right.slid (h:Right s):dw s=lI s.1 (dx s) (aA (dx s) (pg s) (cG s)) (cG s) (pg s) (b8 s.1.length (dx s) (pg s) (cG s)):=by
 have hg:=h.good (aA (dx s) ((dx s).map (df (ac s.1).1)) (cG s));unfold dw Bi;rw [if_pos hg];rfl
theorem Right.slidOK (h:Right s):(ak (dw s)).2.2=0/\(dw s).length=s.1.length/\(ac (dw s)).1=jN s.1 (dx s) (cG s) (pg s):=by
 rw [h.slid,D2 h.plan (h.good _)];exact ⟨rfl,oB _ h.plan,by rw [tf _ h.plan]⟩
theorem Right.keepIn (h:Right s) {x:Int} (hx:x∈cB s):x∈dx s:=by
 obtain ⟨k1,k2⟩:=eN h.fault;exact (ia h.w k1 k2).2 (.base (ND _ ((gG h.root).2 hx)))
theorem Right.toIn (h:Right s) {x:Int} (hx:x∈cB s):0<=kV s x/\kV s x<s.1.length:=by
 have hp:=jv (h.keepIn hx);have hP:=h.plan;have hi:(cC (dx s) x).toNat<(dx s).length:=by omega
 unfold kV;rw [kK hi];have h1:=hP.le _ hi;have h2:=(cf (cG s) hP.pre _ (Nat.le_of_lt hi)).1;have h3:=hP.lg _ hi;obtain ⟨_,_,_,_,l5,l6⟩:=bW (hP.isb _ (dQ hi));omega
theorem Right.nameIn (h:Right s) {x:Int} (hx:x∈cB s):0<=x/\x<s.1.length:=by
 obtain ⟨_,_,l3,l4,l5,l6⟩:=bW (h.nam x hx);omega
theorem Right.al (h:Right s):s.1.length<=256:=(bg h.chk).1
theorem Right.reached (h:Right s):bF s.1 (io (cB s) 256)=dx s:=by
 have hr:=Cb h.root h.pin h.hand
 have hm:∀ x,x∈io (cB s) 256 ↔ x∈cB s:=fun x=>by
  rw [tz];exact ⟨fun h=>h.2.2,fun hx=>⟨(hr x hx).1,by have:=(hr x hx).2; omega,hx⟩⟩
 obtain ⟨k1,k2⟩:=eN h.fault;refine qh (k9 _ _) (k9 _ _) fun x=>?_
 rw [ia h.w h.chk (fun y hy=>h.nam y ((hm y).1 hy)),dx,ia h.w k1 k2];exact ⟨fun hx=>hx.mono fun y hy=>.base (ND _ ((gG h.root).2 ((hm y).1 hy))),fun hx=>hx.mono fun y hy=>.base ((hm y).2 (h.froms y hy))⟩
theorem Right.free (h:Right s):ga s+((dx s).map (df (ac s.1).1)).sum=s.1.length:=by
 obtain ⟨h1,h2,h3⟩:=h.slidOK;have h4:=Cq (bg h1).2.2.2.1;unfold ga;rw [<- h2,<- G5 (pinned:=cG s) (long:=pg s) h.plan.isb,<- h3];exact h4
end
def bR (arr f:List Int) (g:Int->Int):List Int:=f.foldl (fun r x=>r.set x.toNat (g x)) arr
theorem jO (arr f:List Int) (x:Int) (g:Int->Int):bR arr (f++[x]) g=(bR arr f g).set x.toNat (g x):=by simp [bR]
theorem d5 (g:Int->Int):∀ (f arr:List Int),(bR arr f g).length=arr.length
 | [],_=>rfl
 | x::f,arr=>by
  have:=d5 g f (arr.set x.toNat (g x));simp only [bR,Po] at this |-;rw [this,O7]
theorem nB (g:Int->Int) {k:Int} (h0:0<=k):∀ (f arr:List Int),(∀ x∈f,0<=x)->k<arr.length->(bR arr f g).getD k.toNat 0=if k∈f then g k else arr.getD k.toNat 0
 | [],arr,_,_=>by simp [bR]
 | x::f,arr,hf,hk=>by
  have ih:=nB g h0 f (arr.set x.toNat (g x)) (fun y hy=>hf y (NT _ hy)) (by rw [O7]; exact hk);have hx:=hf x NS;have e:bR arr (x::f) g=bR (arr.set x.toNat (g x)) f g:=rfl;rw [e,ih];by_cases h1:k∈f
  ·rw [if_pos h1,if_pos (NT _ h1)]
  ·rw [if_neg h1];by_cases h2:x=k
   ·subst h2;rw [if_pos NS,List.getD_eq_getElem?_getD,List.getElem?_set,if_pos rfl,if_pos (by omega)];rfl
   ·rw [if_neg (by simp [h1,Ne.symm h2]),List.getD_eq_getElem?_getD,List.getElem?_set_ne (by omega),<- List.getD_eq_getElem?_getD]
theorem nA (g:Int->Int) {v:Int}:∀ (f arr:List Int),v∈bR arr f g->v∈arr\/∃ x∈f,v=g x
 | [],_,h=>.inl h
 | x::f,arr,h=>by
  rcases nA g f _ h with h | ⟨y,hy,e⟩
  ·rcases Og h with h | h
   ·exact .inl h
   ·exact .inr ⟨x,NS,h⟩
  ·exact .inr ⟨y,NT _ hy,e⟩
section
variable {s:ah}
theorem Right.swapRoots (h:Right s):bf s.2.1 s.1.length (bR (List.replicate s.1.length 0) (ai s) (kV s))=(s.2.1.map (ke s),0):=by
 have hfm:=fun x=>(gG (s:=s) h.root (x:=x))
 unfold bf;rw [if_neg (by rw [h.root]; simp),if_neg (by rw [d5,N0]; simp),if_neg]
 ·refine congrArg (·,(0:Int)) (OL fun v hv=>?_);unfold m5 ke;by_cases h0:0<=v
  ·rw [if_pos h0,if_pos h0];have hn:v∈cB s:=ND _ (ND _ (OC.2 ⟨hv,by simpa using h0⟩));rw [nB _ h0 _ _ (fun x hx=>(h.nameIn ((hfm x).1 hx)).1) (by rw [N0]; exact (h.nameIn hn).2),if_pos ((hfm v).2 hn)]
  ·rw [if_neg h0,if_neg h0]
 ·intro hc;obtain ⟨v,hv,hb⟩:=OK.1 hc;rcases nA _ _ _ hv with hv | ⟨x,hx,rfl⟩
  ·have:=(List.mem_replicate.1 hv);have h2:=this.2;have h1:=this.1;subst h2;unfold db at hb;simp only [NX,PD,Ou] at hb;omega
  ·have:=h.toIn ((hfm x).1 hx);unfold db at hb;simp only [NX,PD,Ou] at hb;omega
theorem Right.swapHands (h:Right s):fU s.2.2.2 (bR (List.replicate 256 0) (ai s) (kV s))=(s.2.2.2.map (mr s),0):=by
 have hfm:=fun x=>(gG (s:=s) h.root (x:=x))
 have hal:=h.al;unfold fU;rw [if_neg (by rw [h.hand]; simp),if_neg (by rw [d5,N0]; simp),if_neg]
 ·refine congrArg (·,(0:Int)) (OL fun v hv=>?_);unfold dv mr;by_cases h0:v.2.1=true
  ·rw [if_pos h0,if_pos h0];have hn:v.2.2∈cB s:=ND _ (NF _ (NZ.2 ⟨v,OC.2 ⟨hv,by simpa using h0⟩,rfl⟩));have h2:=h.nameIn hn;rw [nB _ h2.1 _ _ (fun x hx=>(h.nameIn ((hfm x).1 hx)).1) (by rw [N0]; omega),if_pos ((hfm _).2 hn)]
  ·rw [if_neg h0,if_neg h0]
 ·intro hc;obtain ⟨v,hv,hb⟩:=OK.1 hc;rcases nA _ _ _ hv with hv | ⟨x,hx,rfl⟩
  ·have h2:=(List.mem_replicate.1 hv).2;subst h2;simp [eQ] at hb
  ·have:=h.toIn ((hfm x).1 hx);simp [eQ] at hb;omega
end
theorem Right.fromLen {s:ah} (h:Right s):(ai s).length<=64:=by
 obtain ⟨q1,q2,q3⟩:=lW h.root h.pin h.hand;have e1:=kf s.2.1 s.1.length;have e2:=mQ s.2.2.2;have e3:(ai s).length<=(d8 ((bh s.2.1 s.1.length).1++gB s.2.2.2++s.2.2.1.map (·.1))).length:=j9 _;rw [iW] at e3;simp only [NE,Oh] at e3;omega
theorem Right.small {s:ah} (h:Right s):s.2.1.length<=32/\s.2.2.1.length<=16/\s.2.2.2.length<=16:=lW h.root h.pin h.hand
theorem Right.gaps {s:ah} (h:Right s):an (dw s)=(aM false [] (ac (dw s)).1,0)/\(∀ r∈aM false [] (ac (dw s)).1,0<=r.1/\1<=r.2/\r.2<=256)/\(aM false [] (ac (dw s)).1).length<=256:=by
 obtain ⟨hz,hl,_⟩:=h.slidOK;obtain ⟨g1,g2⟩:=mU (bg hz).2.2.2.1;have hal:=h.al;refine ⟨by unfold an; rw [if_neg (by omega)],fun r hr=>?_,g2⟩;have:=g1 r hr;omega
theorem Cd {f:List Int} {g:Int->Int} {i:Int} (h0:0<=i) (h1:i<f.length):(f.map g).getD i.toNat 0=g (f.getD i.toNat 0):=by
 have:i.toNat<f.length:=by omega
 simp [List.getD_eq_getElem?_getD,this]
theorem wx {l:List cR} {i:Int} (h0:0<=i) (h1:i<l.length):dC (l.take (i+1).toNat)=dC (l.take i.toNat)+(l.getD i.toNat (0,0)).2:=by
 rw [bx ((0,0):cR) h0 h1,mM]
structure ObjAt (s:ah) (x:Int):Prop where
 isb:isB (ac s.1).1 x=true
 at_:g9 s.1 x=(gU s.1 (x,eG s.1 x) (ak s.1).2.1,0)
 refs:((g9 s.1 x).1.2.1.length:Int)=(eG s.1 x).1
 body:((g9 s.1 x).1.2.2.1.length:Int)=(eG s.1 x).2.1
 x0:0<=x
 r0:0<=(eG s.1 x).1
 b0:0<=(eG s.1 x).2.1
 fit:x+1+(eG s.1 x).1+(eG s.1 x).2.1<=s.1.length
theorem Right.obj {s:ah} (h:Right s) {x:Int} (hx:x∈cB s):ObjAt s x:=by
 have hb:=h.nam x hx;obtain ⟨_,_,e⟩:=Kn h.chk hb;obtain ⟨l1,l2,l3,l4,l5,l6⟩:=bW hb;obtain ⟨k1,k2⟩:=F7 h.chk hb;exact ⟨hb,e,by omega,by omega,l3,l5,l6,l4⟩
theorem Right.rootIn {s:ah} (h:Right s) {k:Int} (h0:0<=k) (h1:k<s.2.1.length):-1<=s.2.1.getD k.toNat 0/\s.2.1.getD k.toNat 0<s.1.length:=sz (kg h.root) (aH (0:Int) h0 h1)
theorem Right.rootNam {s:ah} (_h:Right s) {k:Int} (h0:0<=k) (h1:k<s.2.1.length) (h2:0<=s.2.1.getD k.toNat 0):s.2.1.getD k.toNat 0∈cB s :=
 ND _ (ND _ (OC.2 ⟨aH (0:Int) h0 h1,by simpa using h2⟩))
theorem Right.refWord {s:ah} (h:Right s) {x k:Int} (hx:isB (ac s.1).1 x=true) (h0:0<=k) (h1:k<(eG s.1 x).1):0<=s.1.getD (x+1+k).toNat 0/\s.1.getD (x+1+k).toNat 0<=256:=by
 obtain ⟨l1,l2,l3,l4,l5,l6⟩:=bW hx
 have hm:s.1.getD (x+1+k).toNat 0∈bH s.1 x:=by
  unfold bH aO;have hlt:(x+1+k).toNat<s.1.length:=by omega
  rw [List.mem_iff_getElem?];refine ⟨k.toNat,?_⟩;rw [List.getElem?_drop,List.getElem?_take,if_pos (by simp only; omega),show (x+1).toNat+k.toNat=(x+1+k).toNat by omega];simp [List.getD_eq_getElem?_getD,hlt]
 have hw:=h.w _ (aH (0:Int) (xs:=s.1) (i:=x+1+k) (by omega) (by omega));have hw0:0<=s.1.getD (x+1+k).toNat 0:=hw.1;by_cases hz:s.1.getD (x+1+k).toNat 0=0
 ·omega
 ·have ho:s.1.getD (x+1+k).toNat 0 - 1∈fu s.1 x:=NZ.2 ⟨_,OC.2 ⟨hm,by simpa using hz⟩,rfl⟩;have:=gF (qk h.w h.chk hx ho);omega
end
end Go.Proofs.YtmfileeamnfpaaaGreatDoor
