import Derived.Test.YtmfileeamnfpaaaGreatDoorM1
import Derived.WalkKit
import Derived.KernelRfl
import Derived.Lib.AppendZeros
import Derived.Lib.AppendZerosOnto
import Derived.Lib.Overlaps
import Derived.Laws.Externs
import Derived.Laws.IdiomCopy
import Derived.Laws.CopyRow
import Derived.Shelf.RegionOpenPlain
import Derived.Shelf.Spec.SlicesInsert
import Derived.Deep.Upon
namespace Go.Proofs.YtmfileeamnfpaaaGreatDoor
open Go
set_option maxRecDepth 100000
set_option maxHeartbeats 1000000
section
theorem Qv {l:List Int} {x:Int} (h:(!fR l x)=true):¬ x∈l:=fun hx=>by rw [cG.2 hx] at h; cases h
theorem Qu {l:List Int} {x:Int} (h:(!fR l x)=false):x∈l:=cG.1 (by cases hx:fR l x <;> simp_all)
structure InReach (a f l:List Int):Prop where
 has:∀ x∈f,x∈l
 only:∀ x∈l,Rch a f x
 len:l.length+Hs f<=f.length+Hs l
def eQ (m:List (Int×dY)):List aw->List (Int×dY)
 | []=>m
 | s::l=>eQ (if s.2.2.2.2=true then m else gp m s.1 s.2) l
def ml (l:List aw):List (Int×dY):=eQ [] l
theorem oL (x:Int):∀ (l:List aw) (m:List (Int×dY)),l.Pairwise (fun s t=>s.1<t.1)->bA (eQ m l) x=if isB l x=true then some (b9 x l).1 else bA m x
 | [],m,_=>rfl
 | s::l,m,h=>by
  obtain ⟨h1,h2⟩:=Q9.1 h;have e0:eQ m (s::l)=eQ (if s.2.2.2.2=true then m else gp m s.1 s.2) l:=rfl;rw [e0,oL x l _ h2];by_cases hx:s.1=x/\s.2.2.2.2=false
  ·have e1:b9 x (s::l)=(s.2,true):=if_pos hx;have e2:isB (s::l) x=true:=by unfold isB; rw [e1]
   have hn:¬ isB l x=true:=by
    rw [<- fQ,cG];intro hm
    have:∃ t∈l,t.1=x:=by
     clear h h2 hx e0 e1 e2
     induction l with
     | nil=>cases hm
     | cons t l ih =>
      simp only [ba] at hm;split at hm
      ·obtain ⟨u,hu,e⟩:=ih (fun y hy=>h1 y (by simp [hy])) hm;exact ⟨u,by simp [hu],e⟩
      ·rcases Qs.1 hm with hm | hm
       ·exact ⟨t,by simp,hm.symm⟩
       ·obtain ⟨u,hu,e⟩:=ih (fun y hy=>h1 y (by simp [hy])) hm;exact ⟨u,by simp [hu],e⟩
    obtain ⟨t,ht,e⟩:=this;have:=h1 t ht;omega
   rw [if_neg hn,if_pos e2,e1,if_neg (by rw [hx.2]; simp),jO,if_pos hx.1.symm]
  ·have e1:b9 x (s::l)=b9 x l:=if_neg hx;have e2:isB (s::l) x=isB l x:=by unfold isB; rw [e1]
   rw [e2,e1];by_cases hb:isB l x=true
   ·rw [if_pos hb,if_pos hb]
   ·rw [if_neg hb,if_neg hb];by_cases hf:s.2.2.2.2=true
    ·rw [if_pos hf]
    ·rw [if_neg hf,jO,if_neg (fun e=>hx ⟨e.symm,by simpa using hf⟩)]
theorem Kv {l:List aw} (h:l.Pairwise (fun s t=>s.1<t.1)) (x:Int):bA (ml l) x=if isB l x=true then some (b9 x l).1 else none:=oL x l [] h
theorem oR:∀ (l k:List aw),ba (l++k)=ba l++ba k
 | [],_=>rfl
 | s::l,k=>by
  have:=oR l k;simp only [Rf,ba,this];split <;> simp
structure Seen (m:List (Int×Bool)) (o:List Int):Prop where
 nodup:o.Nodup
 is:∀ x,(bA m x).getD false=fR o x
theorem Seen.new:Seen [] []:=⟨List.nodup_nil,fun _=>rfl⟩
theorem Seen.add {m:List (Int×Bool)} {o:List Int} {x:Int} (h:Seen m o) (hn:(!(bA m x).getD false)=true):Seen (gp m x true) (o++[x]):=by
 rw [h.is] at hn;refine ⟨?_,fun y=>?_⟩
 ·rw [Tk];exact ⟨h.nodup,by simp,fun y hy z hz=>by rw [QA.1 hz]; rintro rfl; exact Qv hn hy⟩
 ·rw [jO];by_cases hy:y=x
  ·subst hy;rw [if_pos rfl];exact (cG.2 (by simp)).symm
  ·rw [if_neg hy,h.is];unfold fR;rw [List.any_append];simp [Ne.symm hy]
theorem Seen.mem {m:List (Int×Bool)} {o:List Int} {x:Int} (h:Seen m o) (hn:(!(bA m x).getD false)=false):x∈o:=by
 rw [h.is] at hn;exact Qu hn
theorem nW {o:List Int} (hd:o.Nodup) (hr:∀ x∈o,0<=x/\x<=255):o.length<=256:=by
 have h1:=l9 o;have h2:(eC o).Nodup:=(List.mergeSort_perm o _).nodup_iff.2 hd;have h3:(eC o).Pairwise (·<·):=(h1.and h2).imp (fun ⟨x,y⟩=>by omega);have h4:=jl (s:=0) h3 (fun x hx=>hr x (rF.1 hx)) (by omega);rw [jv] at h4;omega
def Np:LoopGen:={ rd:=[.own 30 202 cM,.dat 0 (.arr bi)],A:=fun ((l,a):List aw×List Int)=>{ cs:=[.boxS 24 [.dat (.arr bi),.mpc 22,.own 3 ty_I],.map 22 .i64 ia,.dat 32 ty_I],inv:=fun ((b,m,i):(List Int×Unit×List Int)×List (Int×dY)×Int)=>0<=i/\i<=l.length/\b.1=a/\b.2.2=ba (l.take i.toNat)/\eQ m (l.drop i.toNat)=ml l,mu:=fun ((_,_,i):(List Int×Unit×List Int)×List (Int×dY)×Int)=>(l.length - i).toNat } }
def No:LoopGen:={ rd:=[.dat 60 (.arr ty_I),.map 22 .i64 ia],A:=fun ((f,m):List Int×List (Int×dY))=>{ cs:=[.dat 62 ty_I],inv:=fun (i:Int)=>0<=i/\i<=f.length/\((f.drop i.toNat).all fun x=>(bA m x).isSome)=(f.all fun x=>(bA m x).isSome),mu:=fun (i:Int)=>(f.length - i).toNat } }
def Nk:Nat->Option LoopGen
 | 3000089=>some cY
 | 3000091=>some cY
 | 3000090=>some cY
 | 9000000007=>some Np
 | 9000000014=>some No
 | 8=>some { rd:=[.dat 25 (.arr ty_I)],A:=fun (f:List Int)=>{ cs:=[.map 23 .i64 .bool,.boxS 9 [.own 3 ty_I],.dat 27 ty_I],inv:=fun ((m,o,i):List (Int×Bool)×List Int×Int)=>0<=i/\i<=f.length/\Seen m o/\(∀ x∈f.take i.toNat,x∈o)/\(∀ x∈o,x∈f),mu:=fun ((_,_,i):List (Int×Bool)×List Int×Int)=>(f.length - i).toNat } }
 | 13=>some { rd:=[.dat 0 (.arr bi),.dat 1 (.arr ty_I)],A:=fun ((a,f):List Int×List Int)=>{ cs:=[.map 23 .i64 .bool,.boxS 9 [.own 3 ty_I],.dat 13 ty_I],inv:=fun ((m,o,i):List (Int×Bool)×List Int×Int)=>0<=i/\i<=o.length/\Seen m o/\(∀ x∈f,x∈o)/\(∀ x∈o,Rch a f x)/\(∀ x∈o.take i.toNat,∀ y∈fO a x,y∈o),mu:=fun ((_,_,i):List (Int×Bool)×List Int×Int)=>(256 - i).toNat } }
 | 9200000001=>some { rd:=[.dat 24 (.arr bi),.boxS 9900000 [.own 3 ty_I]],A:=fun ((rs,o0):List Int×List Int)=>{ cs:=[.map 23900000 .i64 .bool,.boxS 9900000 [.own 3 ty_I],.dat 26 ty_I],inv:=fun ((m,o,j):List (Int×Bool)×List Int×Int)=>0<=j/\j<=rs.length/\Seen m o/\(∃ k,o=o0++k/\∀ x∈k,x+1∈rs/\x+1≠0)/\(∀ v∈rs.take j.toNat,v≠0->v - 1∈o),mu:=fun ((_,_,j):List (Int×Bool)×List Int×Int)=>(rs.length - j).toNat } }
 | _=>none
def Ly:Spec:={ Ts:=[.arr bi,.arr ty_I],Rs:=[.own 3 ty_I,.dat ty_I],pre:=fun _=>True,F:=fun ((a,f):List Int×List Int)=>dW a f }
def DH:Prop :=
  ∀ (x:List Int×List Int),((x.1.length * 8<=aK/\∀ (x_1:Int),x_1∈x.1->ak .u64 x_1)/\x.2.length * 8<=aK/\∀ (x_1:Int),x_1∈x.2->ak .i64 x_1)->True->∀ (_:Array Value),True/\(decide ((am x.1).2.2≠0)=true->(decide ((am x.1).2.2≠0)=true->([]:List Int)=(dW x.1 x.2).1/\(am x.1).2.2=(dW x.1 x.2).2/\True)/\(decide ((am x.1).2.2≠0)=false->((0:Int)<=0/\0<=(x.2.length:Int)/\Seen ([]:List (Int×Bool)) ([]:List Int)/\(∀ (x_1:Int),x_1∈List.take (Int.toNat 0) x.2->x_1∈([]:List Int))/\∀ (x_1:Int),x_1∈([]:List Int)->x_1∈x.2)/\∀ (x_1:List (Int×Bool)×List Int×Int),(0<=x_1.2.2/\x_1.2.2<=(x.2.length:Int)/\Seen x_1.1 x_1.2.1/\(∀ (x_2:Int),x_2∈List.take x_1.2.2.toNat x.2->x_2∈x_1.2.1)/\∀ (x_2:Int),x_2∈x_1.2.1->x_2∈x.2)->(decide (x_1.2.2<(x.2.length:Int))=true->0<=x_1.2.2/\x_1.2.2<(x.2.length:Int)/\∀ (_:Array Value),((!(bA x_1.1 (x.2.getD x_1.2.2.toNat 0)).getD false)=true->(x_1.2.1.length+[x.2.getD x_1.2.2.toNat 0].length) * 8<=aK/\ak .i64 (x_1.2.2+1)/\(0<=x_1.2.2+1/\x_1.2.2+1<=(x.2.length:Int)/\Seen (gp x_1.1 (x.2.getD x_1.2.2.toNat 0) true) (x_1.2.1++[x.2.getD x_1.2.2.toNat 0])/\(∀ (x_2:Int),x_2∈List.take (x_1.2.2+1).toNat x.2->x_2∈x_1.2.1++[x.2.getD x_1.2.2.toNat 0])/\∀ (x_2:Int),x_2∈x_1.2.1++[x.2.getD x_1.2.2.toNat 0]->x_2∈x.2)/\((x.2.length:Int) - (x_1.2.2+1)).toNat<((x.2.length:Int) - x_1.2.2).toNat)/\((!(bA x_1.1 (x.2.getD x_1.2.2.toNat 0)).getD false)=false->ak .i64 (x_1.2.2+1)/\(0<=x_1.2.2+1/\x_1.2.2+1<=(x.2.length:Int)/\Seen x_1.1 x_1.2.1/\(∀ (x_2:Int),x_2∈List.take (x_1.2.2+1).toNat x.2->x_2∈x_1.2.1)/\∀ (x_2:Int),x_2∈x_1.2.1->x_2∈x.2)/\((x.2.length:Int) - (x_1.2.2+1)).toNat<((x.2.length:Int) - x_1.2.2).toNat))/\(decide (x_1.2.2<(x.2.length:Int))=false->((0:Int)<=0/\0<=(x_1.2.1.length:Int)/\Seen x_1.1 x_1.2.1/\(∀ (x_2:Int),x_2∈x.2->x_2∈x_1.2.1)/\(∀ (x_2:Int),x_2∈x_1.2.1->Rch x.1 x.2 x_2)/\∀ (x_2:Int),x_2∈List.take (Int.toNat 0) x_1.2.1->∀ (y:Int),y∈fO x.1 x_2->y∈x_1.2.1)/\∀ (x_2:List (Int×Bool)×List Int×Int),(0<=x_2.2.2/\x_2.2.2<=(x_2.2.1.length:Int)/\Seen x_2.1 x_2.2.1/\(∀ (x_3:Int),x_3∈x.2->x_3∈x_2.2.1)/\(∀ (x_3:Int),x_3∈x_2.2.1->Rch x.1 x.2 x_3)/\∀ (x_3:Int),x_3∈List.take x_2.2.2.toNat x_2.2.1->∀ (y:Int),y∈fO x.1 x_3->y∈x_2.2.1)->(decide (x_2.2.2<(x_2.2.1.length:Int))=true->0<=x_2.2.2/\x_2.2.2<(x_2.2.1.length:Int)/\x_2.2.2.toNat<x_2.2.1.length/\∀ (_:Array Value),False)/\(decide (x_2.2.2<(x_2.2.1.length:Int))=false->True/\eC x_2.2.1=(dW x.1 x.2).1/\0=(dW x.1 x.2).2/\True))))/\(decide ((am x.1).2.2≠0)=false->True/\((0:Int)<=0/\0<=(↑(ac x.1).1.length:Int)/\x.1=x.1/\((),([]:List Int)).2=ba (List.take (Int.toNat 0) (ac x.1).1)/\eQ ([]:List (Int×Int×Int×Int×Bool)) (List.drop (Int.toNat 0) (ac x.1).1)=ml (ac x.1).1)/\∀ (x_1:(List Int×Unit×List Int)×List (Int×Int×Int×Int×Bool)×Int),0<=x_1.2.2/\x_1.2.2<=(↑(ac x.1).1.length:Int)/\x_1.1.1=x.1/\x_1.1.2.2=ba (List.take x_1.2.2.toNat (ac x.1).1)/\eQ x_1.2.1 (List.drop x_1.2.2.toNat (ac x.1).1)=ml (ac x.1).1->(decide (x_1.2.2<(↑(ac x.1).1.length:Int))=true->0<=x_1.2.2/\x_1.2.2<(↑(ac x.1).1.length:Int)/\x_1.2.2.toNat<(ac x.1).1.length/\((!((ac x.1).1.getD x_1.2.2.toNat (0,0,0,0,false)).2.2.2.2)=true->(x_1.1.2.2.length+[((ac x.1).1.getD x_1.2.2.toNat (0,0,0,0,false)).1].length) * 8<=aK/\ak .i64 (x_1.2.2+1)/\(0<=x_1.2.2+1/\x_1.2.2+1<=(↑(ac x.1).1.length:Int)/\x_1.1.1=x.1/\((),x_1.1.2.2++[((ac x.1).1.getD x_1.2.2.toNat (0,0,0,0,false)).1]).2=ba (List.take (x_1.2.2+1).toNat (ac x.1).1)/\eQ (gp x_1.2.1 ((ac x.1).1.getD x_1.2.2.toNat (0,0,0,0,false)).1 ((ac x.1).1.getD x_1.2.2.toNat (0,0,0,0,false)).2) (List.drop (x_1.2.2+1).toNat (ac x.1).1)=ml (ac x.1).1)/\((↑(ac x.1).1.length:Int) - (x_1.2.2+1)).toNat<((↑(ac x.1).1.length:Int) - x_1.2.2).toNat)/\((!((ac x.1).1.getD x_1.2.2.toNat (0,0,0,0,false)).2.2.2.2)=false->ak .i64 (x_1.2.2+1)/\(0<=x_1.2.2+1/\x_1.2.2+1<=(↑(ac x.1).1.length:Int)/\x_1.1.1=x.1/\((),x_1.1.2.2).2=ba (List.take (x_1.2.2+1).toNat (ac x.1).1)/\eQ x_1.2.1 (List.drop (x_1.2.2+1).toNat (ac x.1).1)=ml (ac x.1).1)/\((↑(ac x.1).1.length:Int) - (x_1.2.2+1)).toNat<((↑(ac x.1).1.length:Int) - x_1.2.2).toNat))/\(decide (x_1.2.2<(↑(ac x.1).1.length:Int))=false->((0:Int)<=0/\0<=(x.2.length:Int)/\((List.drop (Int.toNat 0) x.2).all fun (x:Int)=>(bA x_1.2.1 x).isSome)=x.2.all fun (x:Int)=>(bA x_1.2.1 x).isSome)/\∀ (x_2:Int),(0<=x_2/\x_2<=(x.2.length:Int)/\((List.drop x_2.toNat x.2).all fun (x:Int)=>(bA x_1.2.1 x).isSome)=x.2.all fun (x:Int)=>(bA x_1.2.1 x).isSome)->(decide (x_2<(x.2.length:Int))=true->0<=x_2/\x_2<(x.2.length:Int)/\((!(bA x_1.2.1 (x.2.getD x_2.toNat 0)).isSome)=true->(decide ((5:Int)≠0)=true->([]:List Int)=(dW x.1 x.2).1/\5=(dW x.1 x.2).2/\True)/\(decide ((5:Int)≠0)=false->((0:Int)<=0/\0<=(x.2.length:Int)/\Seen ([]:List (Int×Bool)) ([]:List Int)/\(∀ (x_3:Int),x_3∈List.take (Int.toNat 0) x.2->x_3∈([]:List Int))/\∀ (x_3:Int),x_3∈([]:List Int)->x_3∈x.2)/\∀ (x_3:List (Int×Bool)×List Int×Int),(0<=x_3.2.2/\x_3.2.2<=(x.2.length:Int)/\Seen x_3.1 x_3.2.1/\(∀ (x_4:Int),x_4∈List.take x_3.2.2.toNat x.2->x_4∈x_3.2.1)/\∀ (x_4:Int),x_4∈x_3.2.1->x_4∈x.2)->(decide (x_3.2.2<(x.2.length:Int))=true->0<=x_3.2.2/\x_3.2.2<(x.2.length:Int)/\∀ (_:Array Value),((!(bA x_3.1 (x.2.getD x_3.2.2.toNat 0)).getD false)=true->(x_3.2.1.length+[x.2.getD x_3.2.2.toNat 0].length) * 8<=aK/\ak .i64 (x_3.2.2+1)/\(0<=x_3.2.2+1/\x_3.2.2+1<=(x.2.length:Int)/\Seen (gp x_3.1 (x.2.getD x_3.2.2.toNat 0) true) (x_3.2.1++[x.2.getD x_3.2.2.toNat 0])/\(∀ (x_4:Int),x_4∈List.take (x_3.2.2+1).toNat x.2->x_4∈x_3.2.1++[x.2.getD x_3.2.2.toNat 0])/\∀ (x_4:Int),x_4∈x_3.2.1++[x.2.getD x_3.2.2.toNat 0]->x_4∈x.2)/\((x.2.length:Int) - (x_3.2.2+1)).toNat<((x.2.length:Int) - x_3.2.2).toNat)/\((!(bA x_3.1 (x.2.getD x_3.2.2.toNat 0)).getD false)=false->ak .i64 (x_3.2.2+1)/\(0<=x_3.2.2+1/\x_3.2.2+1<=(x.2.length:Int)/\Seen x_3.1 x_3.2.1/\(∀ (x_4:Int),x_4∈List.take (x_3.2.2+1).toNat x.2->x_4∈x_3.2.1)/\∀ (x_4:Int),x_4∈x_3.2.1->x_4∈x.2)/\((x.2.length:Int) - (x_3.2.2+1)).toNat<((x.2.length:Int) - x_3.2.2).toNat))/\(decide (x_3.2.2<(x.2.length:Int))=false->((0:Int)<=0/\0<=(x_3.2.1.length:Int)/\Seen x_3.1 x_3.2.1/\(∀ (x_4:Int),x_4∈x.2->x_4∈x_3.2.1)/\(∀ (x_4:Int),x_4∈x_3.2.1->Rch x.1 x.2 x_4)/\∀ (x_4:Int),x_4∈List.take (Int.toNat 0) x_3.2.1->∀ (y:Int),y∈fO x.1 x_4->y∈x_3.2.1)/\∀ (x_4:List (Int×Bool)×List Int×Int),(0<=x_4.2.2/\x_4.2.2<=(x_4.2.1.length:Int)/\Seen x_4.1 x_4.2.1/\(∀ (x_5:Int),x_5∈x.2->x_5∈x_4.2.1)/\(∀ (x_5:Int),x_5∈x_4.2.1->Rch x.1 x.2 x_5)/\∀ (x_5:Int),x_5∈List.take x_4.2.2.toNat x_4.2.1->∀ (y:Int),y∈fO x.1 x_5->y∈x_4.2.1)->(decide (x_4.2.2<(x_4.2.1.length:Int))=true->0<=x_4.2.2/\x_4.2.2<(x_4.2.1.length:Int)/\x_4.2.2.toNat<x_4.2.1.length/\∀ (_:Array Value),False)/\(decide (x_4.2.2<(x_4.2.1.length:Int))=false->True/\eC x_4.2.1=(dW x.1 x.2).1/\0=(dW x.1 x.2).2/\True))))/\((!(bA x_1.2.1 (x.2.getD x_2.toNat 0)).isSome)=false->ak .i64 (x_2+1)/\(0<=x_2+1/\x_2+1<=(x.2.length:Int)/\((List.drop (x_2+1).toNat x.2).all fun (x:Int)=>(bA x_1.2.1 x).isSome)=x.2.all fun (x:Int)=>(bA x_1.2.1 x).isSome)/\((x.2.length:Int) - (x_2+1)).toNat<((x.2.length:Int) - x_2).toNat))/\(decide (x_2<(x.2.length:Int))=false->(decide ((0:Int)≠0)=true->([]:List Int)=(dW x.1 x.2).1/\0=(dW x.1 x.2).2/\True)/\(decide ((0:Int)≠0)=false->((0:Int)<=0/\0<=(x.2.length:Int)/\Seen ([]:List (Int×Bool)) ([]:List Int)/\(∀ (x_3:Int),x_3∈List.take (Int.toNat 0) x.2->x_3∈([]:List Int))/\∀ (x_3:Int),x_3∈([]:List Int)->x_3∈x.2)/\∀ (x_3:List (Int×Bool)×List Int×Int),(0<=x_3.2.2/\x_3.2.2<=(x.2.length:Int)/\Seen x_3.1 x_3.2.1/\(∀ (x_4:Int),x_4∈List.take x_3.2.2.toNat x.2->x_4∈x_3.2.1)/\∀ (x_4:Int),x_4∈x_3.2.1->x_4∈x.2)->(decide (x_3.2.2<(x.2.length:Int))=true->0<=x_3.2.2/\x_3.2.2<(x.2.length:Int)/\∀ (_:Array Value),((!(bA x_3.1 (x.2.getD x_3.2.2.toNat 0)).getD false)=true->(x_3.2.1.length+[x.2.getD x_3.2.2.toNat 0].length) * 8<=aK/\ak .i64 (x_3.2.2+1)/\(0<=x_3.2.2+1/\x_3.2.2+1<=(x.2.length:Int)/\Seen (gp x_3.1 (x.2.getD x_3.2.2.toNat 0) true) (x_3.2.1++[x.2.getD x_3.2.2.toNat 0])/\(∀ (x_4:Int),x_4∈List.take (x_3.2.2+1).toNat x.2->x_4∈x_3.2.1++[x.2.getD x_3.2.2.toNat 0])/\∀ (x_4:Int),x_4∈x_3.2.1++[x.2.getD x_3.2.2.toNat 0]->x_4∈x.2)/\((x.2.length:Int) - (x_3.2.2+1)).toNat<((x.2.length:Int) - x_3.2.2).toNat)/\((!(bA x_3.1 (x.2.getD x_3.2.2.toNat 0)).getD false)=false->ak .i64 (x_3.2.2+1)/\(0<=x_3.2.2+1/\x_3.2.2+1<=(x.2.length:Int)/\Seen x_3.1 x_3.2.1/\(∀ (x_4:Int),x_4∈List.take (x_3.2.2+1).toNat x.2->x_4∈x_3.2.1)/\∀ (x_4:Int),x_4∈x_3.2.1->x_4∈x.2)/\((x.2.length:Int) - (x_3.2.2+1)).toNat<((x.2.length:Int) - x_3.2.2).toNat))/\(decide (x_3.2.2<(x.2.length:Int))=false->((0:Int)<=0/\0<=(x_3.2.1.length:Int)/\Seen x_3.1 x_3.2.1/\(∀ (x_4:Int),x_4∈x.2->x_4∈x_3.2.1)/\(∀ (x_4:Int),x_4∈x_3.2.1->Rch x.1 x.2 x_4)/\∀ (x_4:Int),x_4∈List.take (Int.toNat 0) x_3.2.1->∀ (y:Int),y∈fO x.1 x_4->y∈x_3.2.1)/\∀ (x_4:List (Int×Bool)×List Int×Int),(fun (v3:type_of% ((bA x_1.2.1 (x_4.2.1.getD x_4.2.2.toNat 0)).getD (0,0,0,false)))=>(fun (v2:type_of% (x_4.2.1.getD x_4.2.2.toNat 0+1))=>(fun (v1:type_of% (List.take (x_4.2.1.getD x_4.2.2.toNat 0+1+v3.1).toNat x_1.1.1))=>(fun (v0:type_of% (List.drop v2.toNat v1))=>(0<=x_4.2.2/\x_4.2.2<=(x_4.2.1.length:Int)/\Seen x_4.1 x_4.2.1/\(∀ (x_5:Int),x_5∈x.2->x_5∈x_4.2.1)/\(∀ (x_5:Int),x_5∈x_4.2.1->Rch x.1 x.2 x_5)/\∀ (x_5:Int),x_5∈List.take x_4.2.2.toNat x_4.2.1->∀ (y:Int),y∈fO x.1 x_5->y∈x_4.2.1)->(decide (x_4.2.2<(x_4.2.1.length:Int))=true->0<=x_4.2.2/\x_4.2.2<(x_4.2.1.length:Int)/\x_4.2.2.toNat<x_4.2.1.length/\∀ (_:Array Value),ak .i64 v2/\ak .i64 v2/\ak .i64 (x_4.2.1.getD x_4.2.2.toNat 0+1+v3.1)/\0<=x_4.2.1.getD x_4.2.2.toNat 0+1/\x_4.2.1.getD x_4.2.2.toNat 0+1<=x_4.2.1.getD x_4.2.2.toNat 0+1+v3.1/\x_4.2.1.getD x_4.2.2.toNat 0+1+v3.1<=(x_1.1.1.length:Int)/\((0:Int)<=0/\0<=(v0.length:Int)/\Seen x_4.1 x_4.2.1/\(∃ (k:List Int),x_4.2.1=x_4.2.1++k/\∀ (x:Int),x∈k->x+1∈List.drop v2.toNat v1/\x+1≠0)/\∀ (v:Int),v∈List.take (Int.toNat 0) v0->v≠0->v - 1∈x_4.2.1)/\∀ (x_5:List (Int×Bool)×List Int×Int),(fun (v4:type_of% (v0.getD x_5.2.2.toNat 0))=>(0<=x_5.2.2/\x_5.2.2<=(v0.length:Int)/\Seen x_5.1 x_5.2.1/\(∃ (k:List Int),x_5.2.1=x_4.2.1++k/\∀ (x:Int),x∈k->x+1∈List.drop v2.toNat v1/\x+1≠0)/\∀ (v:Int),v∈List.take x_5.2.2.toNat v0->v≠0->v - 1∈x_5.2.1)->(decide (x_5.2.2<(v0.length:Int))=true->0<=x_5.2.2/\x_5.2.2<(v0.length:Int)/\(decide (v0.getD x_5.2.2.toNat (0:Int)≠0)=true->ak .i64 (IntKind.i64.wrap v4 - 1)/\∀ (_:Array Value),((!(bA x_5.1 (IntKind.i64.wrap v4 - 1)).getD false)=true->(x_5.2.1.length+[IntKind.i64.wrap v4 - 1].length) * 8<=aK/\ak .i64 (x_5.2.2+1)/\(0<=x_5.2.2+1/\x_5.2.2+1<=(v0.length:Int)/\Seen (gp x_5.1 (IntKind.i64.wrap v4 - 1) true) (x_5.2.1++[IntKind.i64.wrap v4 - 1])/\(∃ (k:List Int),x_5.2.1++[IntKind.i64.wrap v4 - 1]=x_4.2.1++k/\∀ (x:Int),x∈k->x+1∈List.drop v2.toNat v1/\x+1≠0)/\∀ (v:Int),v∈List.take (x_5.2.2+1).toNat v0->v≠0->v - 1∈x_5.2.1++[IntKind.i64.wrap v4 - 1])/\((v0.length:Int) - (x_5.2.2+1)).toNat<((v0.length:Int) - x_5.2.2).toNat)/\((!(bA x_5.1 (IntKind.i64.wrap v4 - 1)).getD false)=false->ak .i64 (x_5.2.2+1)/\(0<=x_5.2.2+1/\x_5.2.2+1<=(v0.length:Int)/\Seen x_5.1 x_5.2.1/\(∃ (k:List Int),x_5.2.1=x_4.2.1++k/\∀ (x:Int),x∈k->x+1∈List.drop v2.toNat v1/\x+1≠0)/\∀ (v:Int),v∈List.take (x_5.2.2+1).toNat v0->v≠0->v - 1∈x_5.2.1)/\((v0.length:Int) - (x_5.2.2+1)).toNat<((v0.length:Int) - x_5.2.2).toNat))/\(decide (v0.getD x_5.2.2.toNat (0:Int)≠0)=false->ak .i64 (x_5.2.2+1)/\(0<=x_5.2.2+1/\x_5.2.2+1<=(v0.length:Int)/\Seen x_5.1 x_5.2.1/\(∃ (k:List Int),x_5.2.1=x_4.2.1++k/\∀ (x:Int),x∈k->x+1∈List.drop v2.toNat v1/\x+1≠0)/\∀ (v:Int),v∈List.take (x_5.2.2+1).toNat v0->v≠0->v - 1∈x_5.2.1)/\((v0.length:Int) - (x_5.2.2+1)).toNat<((v0.length:Int) - x_5.2.2).toNat))/\(decide (x_5.2.2<(v0.length:Int))=false->ak .i64 (x_4.2.2+1)/\(0<=x_4.2.2+1/\x_4.2.2+1<=(x_5.2.1.length:Int)/\Seen x_5.1 x_5.2.1/\(∀ (x_6:Int),x_6∈x.2->x_6∈x_5.2.1)/\(∀ (x_6:Int),x_6∈x_5.2.1->Rch x.1 x.2 x_6)/\∀ (x_6:Int),x_6∈List.take (x_4.2.2+1).toNat x_5.2.1->∀ (y:Int),y∈fO x.1 x_6->y∈x_5.2.1)/\(256 - (x_4.2.2+1)).toNat<(256 - x_4.2.2).toNat)) (v0.getD x_5.2.2.toNat 0))/\(decide (x_4.2.2<(x_4.2.1.length:Int))=false->True/\eC x_4.2.1=(dW x.1 x.2).1/\0=(dW x.1 x.2).2/\True)) (List.drop v2.toNat v1)) (List.take (x_4.2.1.getD x_4.2.2.toNat 0+1+v3.1).toNat x_1.1.1)) (x_4.2.1.getD x_4.2.2.toNat 0+1)) ((bA x_1.2.1 (x_4.2.1.getD x_4.2.2.toNat 0)).getD (0,0,0,false)))))))
theorem IV:DH:=by
 unfold DH;intro ⟨a,f⟩ ⟨⟨hb,hw⟩,hbf,hf⟩ _ tm;unfold aK at hb hbf;simp only at hb hw hbf hf |-;refine ⟨trivial,fun hc=>⟨fun _=>?_,fun hn=>by rw [hc] at hn; cases hn⟩,fun hc=>?_⟩
 ·have hc:=tM hc;have e:bb a f=(am a).2.2:=by unfold bb; rw [if_pos hc]
  have e2:dW a f=([],(am a).2.2):=by unfold dW; rw [e,if_pos hc]
  rw [e2];exact ⟨rfl,rfl,trivial⟩
 have hc:(am a).2.2=0:=by simpa using uZ hc
 obtain ⟨hal,_,_,hz,_,_,_⟩:=bp hc;have hsl:=fw a;have hsp:=fb a;have hget:=fun x=>Kv (ca a) x
 have hbl:=kv (ac a).1;refine ⟨trivial,⟨by omega,by omega,trivial,rfl,rfl⟩,fun ⟨⟨a1,⟨⟩,out⟩,m,i⟩ ⟨i0,i1,i2,i3,i4⟩=>⟨fun hlt=>?_,fun hge=>?_⟩⟩
 ·simp only at i0 i1 i2 i3 i4 hlt |-;have hlt:=tM hlt;have hs:=hsp _ (aI ((0,0,0,0,false):aw) i0 hlt);have ht:=a8 ((0,0,0,0,false):aw) i0 hlt;rw [bI ((0,0,0,0,false):aw) i0 hlt] at i4;simp only [eQ] at i4
  have hol:out.length<=256:=by
   rw [i3];have:=kv (List.take i.toNat (ac a).1);rw [QD] at this;omega
  rw [ht,oR,<- i3];generalize (ac a).1.getD i.toNat (0,0,0,0,false)=s at *;simp only [ak];refine ⟨i0,hlt,by omega,fun hf0=>?_,fun hf0=>?_⟩
  ·have hf0:¬ s.2.2.2.2=true:=by simpa using hf0
   have e:ba [s]=[s.1]:=by simp only [ba]; rw [if_neg hf0]
   rw [if_neg hf0] at i4;rw [e];unfold aK;simp only [Rv];exact ⟨by omega,by omega,⟨by omega,by omega,i2,trivial,i4⟩,by omega⟩
  ·have hf0:s.2.2.2.2=true:=by simpa using hf0
   have e:ba [s]=[]:=by simp only [ba]; rw [if_pos hf0]
   rw [if_pos hf0] at i4;rw [e,Q8];exact ⟨by omega,⟨by omega,by omega,i2,rfl,i4⟩,by omega⟩
 simp only at i0 i1 i2 i3 i4 hge |-;have hge:=uZ hge;rw [cE hge] at i4;have i4:m=ml (ac a).1:=i4;subst i4 i2;have hsome:∀ x,(bA (ml (ac a1).1) x).isSome=isB (ac a1).1 x:=fun x=>by rw [hget]; cases isB (ac a1).1 x <;> rfl
 simp only [hsome];refine ⟨⟨by omega,by omega,rfl⟩,fun j ⟨j0,j1,j2⟩=>⟨fun hlt=>?_,fun hge=>⟨fun h=>by simp at h,fun _=>?_⟩⟩⟩
 ·have hlt:=tM hlt;rw [bI (0:Int) j0 hlt,Rt] at j2;simp only [ak];refine ⟨j0,hlt,fun hn=>⟨fun _=>?_,fun h=>by simp at h⟩,fun hn=>⟨by omega,⟨by omega,by omega,?_⟩,by omega⟩⟩
  ·have hn:isB (ac a1).1 (f.getD j.toNat 0)=false:=by simpa using hn
   rw [hn,SA] at j2;have e:bb a1 f=5:=by unfold bb; rw [if_neg (by omega),<- j2]; rfl
   have e2:dW a1 f=([],5):=by unfold dW; rw [e]; rfl
   rw [e2];exact ⟨rfl,rfl,trivial⟩
  ·have hn:isB (ac a1).1 (f.getD j.toNat 0)=true:=by simpa using hn
   rw [hn,RN] at j2;exact j2
 rw [cE (uZ hge),Tb] at j2;have hfb:∀ x∈f,isB (ac a1).1 x=true:=Qy.1 j2.symm;have e0:bb a1 f=0:=jF hc hfb;have e1:dW a1 f=(bN a1 f,0):=by unfold dW; rw [e0]; rfl
 rw [e1];clear i0 i1 i3 hge j0 j1 j2;have hrch:∀ x,Rch a1 f x->0<=x/\x<=255:=fun x hx=>gY (hx.isB hw hc hfb)
 refine ⟨⟨by omega,by omega,Seen.new,fun x hx=>by simp at hx,fun x hx=>by cases hx⟩,fun ⟨m,o,i⟩ ⟨i0,i1,i2,i3,i4⟩=>⟨fun hlt=>?_,fun hge=>?_⟩⟩
 ·simp only at i0 i1 i2 i3 i4 hlt |-;have hlt:=tM hlt;have ht:=a8 (0:Int) i0 hlt;have hm:=aI (0:Int) i0 hlt;generalize f.getD i.toNat 0=x at *;have hol:=nW i2.nodup (fun y hy=>hrch y (.base (i4 y hy)));rw [ht];unfold aK;simp only [ak,Rv];refine ⟨i0,hlt,fun _=>⟨fun hn=>⟨by omega,by omega,⟨by omega,by omega,i2.add hn,fun y hy=>?_,fun y hy=>?_⟩,by omega⟩,fun hn=>⟨by omega,⟨by omega,by omega,i2,fun y hy=>?_,i4⟩,by omega⟩⟩⟩
  ·rcases Qx.1 hy with hy | hy
   ·exact L3 _ (i3 y hy)
   ·exact Qw _ hy
  ·rcases Qx.1 hy with hy | hy
   ·exact i4 y hy
   ·rw [QA.1 hy]; exact hm
  ·rcases Qx.1 hy with hy | hy
   ·exact i3 y hy
   ·rw [QA.1 hy]; exact i2.mem hn
 simp only at i0 i1 i2 i3 i4 hge |-;rw [bT (uZ hge)] at i3;refine ⟨⟨by omega,by omega,i2,i3,fun x hx=>.base (i4 x hx),fun x hx=>by simp at hx⟩,fun ⟨m2,o2,k⟩ ⟨k0,k1,k2,k3,k4,k5⟩=>⟨fun hlt=>?_,fun hge=>?_⟩⟩
 ·clear i0 i1 i2 i3 i4 hge;simp only at k0 k1 k2 k3 k4 k5 hlt |-;have hlt:=tM hlt;have ht:=a8 (0:Int) k0 hlt;have hm:=aI (0:Int) k0 hlt;have hol:=nW k2.nodup (fun y hy=>hrch y (k4 y hy));generalize hat:o2.getD k.toNat 0=at_ at *;have hib:=(k4 at_ hm).isB hw hc hfb;have hh:((bA (ml (ac a1).1) at_).getD (0,0,0,false))=eX a1 at_:=by rw [hget,if_pos hib]; rfl
  obtain ⟨l1,_,l3,l4,l5,l6⟩:=cd hib;have hrf:=pb hw hc _ (fG hib).1;have hrs:List.drop (at_+1).toNat (List.take (at_+1+(eX a1 at_).1).toNat a1)=bP a1 at_:=rfl
  have hout:∀ y,y∈fO a1 at_ ↔ (y+1∈bP a1 at_/\y+1≠0):=by
   intro y;unfold fO;simp only [QR,Rx,QP];constructor
   ·rintro ⟨v,⟨hv,h0⟩,rfl⟩;rw [Int.sub_add_cancel];exact ⟨hv,h0⟩
   ·rintro ⟨h1,h2⟩;exact ⟨y+1,⟨h1,h2⟩,by omega⟩
  have hstep:∀ y,y+1∈bP a1 at_->y+1≠0->Rch a1 f y:=fun y h1 h2=>.step (k4 at_ hm) ((hout y).2 ⟨h1,h2⟩)
  rw [hh,hrs]
  have hwr:∀ v∈bP a1 at_,IntKind.i64.wrap v=v/\0<=v/\v<=256:=fun v hv=>by
   rcases hrf v hv with e | ⟨h1,h2,_⟩
   ·subst e; exact ⟨jT (by omega) (by omega),by omega,by omega⟩
   ·exact ⟨jT (by omega) (by omega),by omega,by omega⟩
  generalize hrs0:bP a1 at_=rs at *;simp only [ak];refine ⟨k0,hlt,by omega,fun _=>⟨by omega,by omega,by omega,by omega,by omega,by omega,⟨by omega,by omega,k2,⟨[],by simp,fun x hx=>by cases hx⟩,fun v hv=>by simp at hv⟩,fun ⟨m3,o3,j⟩ ⟨j0,j1,j2,⟨kk,j3,j4⟩,j5⟩=>⟨fun hj=>?_,fun hj=>?_⟩⟩⟩
  ·simp only at j0 j1 j2 j3 j4 j5 hj |-;have hj:=tM hj;have ht2:=a8 (0:Int) j0 hj;have hv:=aI (0:Int) j0 hj;generalize rs.getD j.toNat 0=v at *;obtain ⟨w1,w2,w3⟩:=hwr v hv
   have hol3:=nW j2.nodup (fun y hy=>hrch y (by
    rw [j3] at hy;rcases Qx.1 hy with hy | hy
    ·exact k4 y hy
    ·exact hstep y (j4 y hy).1 (j4 y hy).2))
   rw [w1,ht2];unfold aK;simp only [Rv];refine ⟨j0,hj,fun hne=>⟨by omega,fun _=>⟨fun hn=>⟨by omega,by omega,⟨by omega,by omega,j2.add hn,⟨kk++[v - 1],by rw [j3,List.append_assoc],fun y hy=>?_⟩,fun y hy hy0=>?_⟩,by omega⟩,fun hn=>⟨by omega,⟨by omega,by omega,j2,⟨kk,j3,j4⟩,fun y hy hy0=>?_⟩,by omega⟩⟩⟩,fun hne=>⟨by omega,⟨by omega,by omega,j2,⟨kk,j3,j4⟩,fun y hy hy0=>?_⟩,by omega⟩⟩
   ·rcases Qx.1 hy with hy | hy
    ·exact j4 y hy
    ·rw [QA.1 hy,Int.sub_add_cancel];exact ⟨hv,tM hne⟩
   ·rcases Qx.1 hy with hy | hy
    ·exact L3 _ (j5 y hy hy0)
    ·rw [QA.1 hy]; simp
   ·rcases Qx.1 hy with hy | hy
    ·exact j5 y hy hy0
    ·rw [QA.1 hy]; exact j2.mem hn
   ·rcases Qx.1 hy with hy | hy
    ·exact j5 y hy hy0
    ·rw [QA.1 hy] at hy0;exact absurd hy0 (by simpa using uZ hne)
  ·simp only at j0 j1 j2 j3 j4 j5 hj |-;rw [bT (uZ hj)] at j5;have hlen3:o2.length<=o3.length:=by rw [j3]; simp
   have e3:o3.take (k+1).toNat=o2.take k.toNat++[at_]:=by rw [j3,QY (by omega),ht]
   rw [e3];refine ⟨by omega,⟨by omega,by omega,j2,fun x hx=>by rw [j3]; exact L3 _ (k3 x hx),fun x hx=>?_,fun x hx y hy=>?_⟩,by omega⟩
   ·rw [j3] at hx;rcases Qx.1 hx with hx | hx
    ·exact k4 x hx
    ·exact hstep x (j4 x hx).1 (j4 x hx).2
   ·rcases Qx.1 hx with hx | hx
    ·rw [j3]; exact L3 _ (k5 x hx y hy)
    ·rw [QA.1 hx] at hy;obtain ⟨q1,q2⟩:=(hout y).1 hy;have:=j5 _ q1 q2
     rwa [Int.add_sub_cancel] at this
 ·simp only at k0 k1 k2 k3 k4 k5 hge |-;rw [bT (uZ hge)] at k5;exact ⟨trivial,(Full.mk k3 k4 k5).sorted hw hc hfb k2.nodup,trivial,trivial⟩
theorem Mg:Ly.ok Tryz.prog 29:=aD (ann:=Nk) (ae jA (ae jz (kF vT ap))) Tryz.func29 (by kernel_rfl) IV
end
section
def Db:Spec:={ Ts:=[.nil,ty_I],Rs:=[.own 3 ty_I],pre:=fun ((_,n):Unit×Int)=>0<=n/\n.toNat * 8<=aK,F:=fun _=>([]:List Int) }
def td:Prop :=
  ∀ (x:Unit×Int),True/\ak .i64 x.2->0<=x.2/\x.2.toNat * 8<=aK->(decide (x.2<0)=true->False)/\(decide (x.2<0)=false->ak .i64 (0 - 0)/\ak .i64 (x.2 - (0 - 0))/\(decide (0<x.2 - (0 - 0))=true->(0:Int)=0/\0<x.2 - (0 - 0)/\(x.2 - (0 - 0)).toNat * 8<=aK/\(0:Int)<=0/\0<=(↑(List.replicate (x.2 - (0 - 0)).toNat (0:Int)).length:Int)/\List.take (Int.toNat 0) (List.replicate (x.2 - (0 - 0)).toNat (0:Int))=([]:List Int)/\True)/\(decide (0<x.2 - (0 - 0))=false->([]:List Int)=([]:List Int)/\True))
theorem Ag:td:=by
 unfold td;intro ⟨_,n⟩ ⟨_,hn⟩ ⟨h0,hb⟩;simp only [ak] at *;refine ⟨fun h=>?_,fun _=>⟨by omega,by omega,fun h=>⟨trivial,by have:=tM h; omega,by simpa using hb,by omega,by omega,by simp,trivial⟩,fun _=>by simp⟩⟩;have:=tM h;omega
theorem Ea:Db.ok Tryz.prog 226:=aD (ann:=cF) ap Tryz.func226 (by kernel_rfl) Ag
def xL:Spec:={ Ts:=[.arr (.arr ty_I)],Rs:=[.own 3 ty_I],pre:=fun (xs:List (List Int))=>xs.flatten.length * 8<=aK,F:=fun (xs:List (List Int))=>xs.flatten }
def yn:Nat->Option LoopGen
 | 3=>some { rd:=[.dat 9 (.arr (.arr ty_I))],A:=fun (xs:List (List Int))=>{ cs:=[.dat 3 ty_I,.dat 11 ty_I],inv:=fun ((n,i):Int×Int)=>0<=i/\i<=xs.length/\n=((xs.take i.toNat).flatten.length:Int)/\xs.flatten.length * 8<=aK,mu:=fun ((_,i):Int×Int)=>(xs.length - i).toNat } }
 | 11=>some { rd:=[.dat 25 (.arr (.arr ty_I))],A:=fun (xs:List (List Int))=>{ cs:=[.own 6 3 ty_I,.dat 27 ty_I],inv:=fun ((out,i):List Int×Int)=>0<=i/\i<=xs.length/\out++(xs.drop i.toNat).flatten=xs.flatten,mu:=fun ((_,i):List Int×Int)=>(xs.length - i).toNat } }
 | _=>none
def oz:Prop :=
  ∀ (x:List (List Int)),(x.length * 24<=aK/\∀ (x_1:List Int),x_1∈x->x_1.length * 8<=aK/\∀ (x:Int),x∈x_1->ak .i64 x)->x.flatten.length * 8<=aK->((0:Int)<=0/\0<=(x.length:Int)/\0=(↑(List.take (Int.toNat 0) x).flatten.length:Int)/\x.flatten.length * 8<=aK)/\∀ (x_1:Int×Int),0<=x_1.2/\x_1.2<=(x.length:Int)/\x_1.1=(↑(List.take x_1.2.toNat x).flatten.length:Int)/\x.flatten.length * 8<=aK->(decide (x_1.2<(x.length:Int))=true->0<=x_1.2/\x_1.2<(x.length:Int)/\ak .i64 (x_1.1+(↑(x.getD x_1.2.toNat ([]:List Int)).length:Int))/\(decide (x_1.1+(↑(x.getD x_1.2.toNat ([]:List Int)).length:Int)<0)=true->False)/\(decide (x_1.1+(↑(x.getD x_1.2.toNat ([]:List Int)).length:Int)<0)=false->ak .i64 (x_1.2+1)/\(0<=x_1.2+1/\x_1.2+1<=(x.length:Int)/\x_1.1+(↑(x.getD x_1.2.toNat ([]:List Int)).length:Int)=(↑(List.take (x_1.2+1).toNat x).flatten.length:Int)/\x.flatten.length * 8<=aK)/\((x.length:Int) - (x_1.2+1)).toNat<((x.length:Int) - x_1.2).toNat))/\(decide (x_1.2<(x.length:Int))=false->(0<=x_1.1/\x_1.1.toNat * 8<=aK)/\((0:Int)<=0/\0<=(x.length:Int)/\([]:List Int)++(List.drop (Int.toNat 0) x).flatten=x.flatten)/\∀ (x_2:List Int×Int),0<=x_2.2/\x_2.2<=(x.length:Int)/\x_2.1++(List.drop x_2.2.toNat x).flatten=x.flatten->(decide (x_2.2<(x.length:Int))=true->0<=x_2.2/\x_2.2<(x.length:Int)/\(x_2.1.length+(x.getD x_2.2.toNat ([]:List Int)).length) * 8<=aK/\ak .i64 (x_2.2+1)/\(0<=x_2.2+1/\x_2.2+1<=(x.length:Int)/\x_2.1++x.getD x_2.2.toNat ([]:List Int)++(List.drop (x_2.2+1).toNat x).flatten=x.flatten)/\((x.length:Int) - (x_2.2+1)).toNat<((x.length:Int) - x_2.2).toNat)/\(decide (x_2.2<(x.length:Int))=false->x_2.1=x.flatten/\True))
theorem uD:oz:=by
 unfold oz;intro xs ⟨hx,_⟩ hb;simp only [ak] at *;unfold aK at *
 have hpart:∀ k,(xs.take k).flatten.length<=xs.flatten.length:=fun k=>by
  have:=congrArg List.length (congrArg List.flatten (Ru k xs));rw [List.flatten_append,KK] at this;omega
 refine ⟨⟨by omega,by omega,by simp,hb⟩,fun ⟨n,i⟩ ⟨h0,h1,h2,_⟩=>⟨fun hlt=>?_,fun hge=>?_⟩⟩
 ·have hlt:i<(xs.length:Int):=by simpa using hlt
  have e:=a8 ([]:List Int) h0 hlt;have hp:=hpart (i+1).toNat;rw [e] at hp |-;simp only [List.flatten_append,KK,List.flatten_cons,List.flatten_nil,Q8] at *;refine ⟨h0,hlt,by omega,fun hc=>?_,fun _=>⟨by omega,⟨by omega,by omega,by push_cast; omega,hb⟩,by omega⟩⟩;have:=tM hc;omega
 ·have hge:¬ i<(xs.length:Int):=by simpa using hge
  rw [bT hge] at h2;simp only at *;refine ⟨⟨by omega,by omega⟩,⟨by omega,by omega,by simp⟩,fun ⟨out,j⟩ ⟨g0,g1,g2⟩=>⟨fun hlt=>?_,fun hge=>?_⟩⟩
  ·have hlt:j<(xs.length:Int):=by simpa using hlt
   simp only at *;rw [bI ([]:List Int) g0 hlt,List.flatten_cons] at g2;have hl:=congrArg List.length g2;simp only [KK] at hl;exact ⟨g0,hlt,by omega,by omega,⟨by omega,by omega,by rw [List.append_assoc]; exact g2⟩,by omega⟩
  ·rw [cE (by simpa using hge)] at g2;simp only [List.flatten_nil,Q8] at g2;exact ⟨g2,trivial⟩
theorem oH:xL.ok Tryz.prog 169:=aD (ann:=yn) (ae Ea ap) Tryz.func169 (by kernel_rfl) uD
end
section
theorem jk:∀ {l:List Int},l.Pairwise (·<·)->bk l=true
 | [],_=>rfl
 | [_],_=>rfl
 | x::y::l,h=>by
  obtain ⟨h1,h2⟩:=Q9.1 h;simp only [bk,CF,QP];exact ⟨h1 y (by simp),jk h2⟩
theorem tT {a f p:List Int} (hw:∀ x∈a,ak .u64 x) (h:bb a (f++p)=0) (hp:bk p=true):aU a (bN a (f++p)) p=((bN a (f++p)).map (dw (ac a).1),0):=by
 obtain ⟨h1,h2⟩:=fg h;have hr:=fun x=>iC (a:=a) (from_:=f++p) hw h1 h2 (x:=x)
 have e1:bk (bN a (f++p))=true:=jk (mb _ _);have e2:(bN a (f++p)).all (isB (ac a).1)=true:=Qy.2 fun x hx=>((hr x).1 hx).isB hw h1 h2
 have e3:p.all (fR (bN a (f++p)))=true:=Qy.2 fun x hx=>cG.2 ((hr x).2 (.base (by simp [hx])))
 unfold aU;rw [if_neg (by omega),e1,hp,e2,e3];simp
theorem xd {a f p:List Int} (hw:∀ x∈a,ak .u64 x) (h:bb a (f++p)=0) (to:List Int):((bN a (f++p)).all fun x=>fq (bN a (f++p)) to (bP a x))=true:=by
 obtain ⟨h1,h2⟩:=fg h;have hr:=fun x=>iC (a:=a) (from_:=f++p) hw h1 h2 (x:=x)
 refine Qy.2 fun x hx=>Qy.2 fun v hv=>?_
 unfold lI;by_cases h0:v=0
 ·rw [if_pos h0]; rfl
 ·have h3:v - 1∈fO a x:=by
   unfold fO;exact QR.2 ⟨v,Rx.2 ⟨hv,by simpa using h0⟩,rfl⟩
  rw [if_neg h0,if_pos (cG.2 ((hr _).2 (.step ((hr _).1 hx) h3)))];rfl
def aq (a f p:List Int):List Int×List Int×Int :=
 if bb a (f++p)≠0 then ([],[],bb a (f++p)) else
 if bk p=false then ([],[],3) else
 ((et a (bN a (f++p)) p).1,f.map fun x=>(aA (bN a (f++p)) ((bN a (f++p)).map (dw (ac a).1)) p).getD (cK (bN a (f++p)) x).toNat 0,0)
theorem ka {l:List Int} {x:Int} (h:x∈l):0<=cK l x/\cK l x<l.length:=by
 have h1:=ep (fun y=>decide (y=x)) l 0 (by omega);have h2:=em (fun y=>decide (y=x)) x l 0 (by omega);have h3:(l.any fun y=>decide (y=x))=true:=cG.2 h;rw [h3] at h1;exact ⟨tM h1,by unfold cK; omega⟩
theorem nB {a f p:List Int} (hw:∀ x∈a,ak .u64 x) (h:bb a (f++p)=0) (hp:bk p=true) :
  et a (bN a (f++p)) p=((Dn a (bN a (f++p)) p).1,aA (bN a (f++p)) ((bN a (f++p)).map (dw (ac a).1)) p,0)/\(Dn a (bN a (f++p)) p).2=true:=by
 have e:=tT hw h hp;have hg:=xd hw h (aA (bN a (f++p)) ((bN a (f++p)).map (dw (ac a).1)) p);unfold et Dn;rw [e];simp only;rw [if_neg (by omega),if_pos hg,if_pos hg];exact ⟨rfl,rfl⟩
theorem rp {a f p:List Int} (h:bb a (f++p)=0) (hp:bk p=false):et a (bN a (f++p)) p=([],[],3):=by
 obtain ⟨h1,_⟩:=fg h
 have e:aU a (bN a (f++p)) p=([],3):=by
  unfold aU;rw [if_neg (by omega),hp,Bool.and_false,if_pos rfl]
 unfold et;rw [e];rfl
def Nq:Nat->Option LoopGen
 | 9=>some { rd:=[.dat 39 (.arr ty_I),.own 9 3 ty_I,.own 12 3 ty_I],A:=fun ((f,keep,to):List Int×List Int×List Int)=>{ cs:=[.own 13 3 ty_I,.dat 41 ty_I],inv:=fun ((out,i):List Int×Int)=>0<=i/\i<=f.length/\out=(f.take i.toNat).map fun x=>to.getD (cK keep x).toNat 0,mu:=fun ((_,i):List Int×Int)=>(f.length - i).toNat } }
 | _=>none
def LJ:Spec:={ Ts:=[.arr bi,.arr ty_I,.arr ty_I],Rs:=[.own 45 bi,.own 3 ty_I,.dat ty_I],pre:=fun ((_,f,p):List Int×List Int×List Int)=>(f.length+p.length) * 8<=140737488355328,F:=fun ((a,f,p):List Int×List Int×List Int)=>aq a f p }
def DR:Prop :=
  ∀ (x:List Int×List Int×List Int),(fun (v1:type_of% (aq x.1 x.2.1 x.2.2))=>(fun (v0:type_of% (dW x.1 [x.2.1,x.2.2].flatten))=>((x.1.length * 8<=aK/\∀ (x_1:Int),x_1∈x.1->ak .u64 x_1)/\(x.2.1.length * 8<=aK/\∀ (x_1:Int),x_1∈x.2.1->ak .i64 x_1)/\x.2.2.length * 8<=aK/\∀ (x_1:Int),x_1∈x.2.2->ak .i64 x_1)->(x.2.1.length+x.2.2.length) * 8<=140737488355328->[x.2.1,x.2.2].flatten.length * 8<=aK/\True/\(decide (v0.2≠0)=true->([]:List Int)=v1.1/\([]:List Int)=v1.2.1/\v0.2=v1.2.2/\True)/\(decide (v0.2≠0)=false->True/\(decide ((et x.1 v0.1 x.2.2).2.2≠0)=true->([]:List Int)=v1.1/\([]:List Int)=v1.2.1/\(et x.1 v0.1 x.2.2).2.2=v1.2.2/\True)/\(decide ((et x.1 v0.1 x.2.2).2.2≠0)=false->((0:Int)<=0/\0<=(x.2.1.length:Int)/\([]:List Int)=List.map (fun (x_1:Int)=>(et x.1 v0.1 x.2.2).2.1.getD (cK v0.1 x_1).toNat 0) (List.take (Int.toNat 0) x.2.1))/\∀ (x_1:List Int×Int),0<=x_1.2/\x_1.2<=(x.2.1.length:Int)/\x_1.1=List.map (fun (x_2:Int)=>(et x.1 v0.1 x.2.2).2.1.getD (cK v0.1 x_2).toNat 0) (List.take x_1.2.toNat x.2.1)->(decide (x_1.2<(x.2.1.length:Int))=true->0<=x_1.2/\x_1.2<(x.2.1.length:Int)/\True/\0<=cK v0.1 (x.2.1.getD x_1.2.toNat 0)/\cK v0.1 (x.2.1.getD x_1.2.toNat 0)<(↑(et x.1 v0.1 x.2.2).2.1.length:Int)/\(cK v0.1 (x.2.1.getD x_1.2.toNat 0)).toNat<(et x.1 v0.1 x.2.2).2.1.length/\(x_1.1.length+[(et x.1 v0.1 x.2.2).2.1.getD (cK v0.1 (x.2.1.getD x_1.2.toNat 0)).toNat 0].length) * 8<=aK/\ak .i64 (x_1.2+1)/\(0<=x_1.2+1/\x_1.2+1<=(x.2.1.length:Int)/\x_1.1++[(et x.1 v0.1 x.2.2).2.1.getD (cK v0.1 (x.2.1.getD x_1.2.toNat 0)).toNat 0]=List.map (fun (x_2:Int)=>(et x.1 v0.1 x.2.2).2.1.getD (cK v0.1 x_2).toNat 0) (List.take (x_1.2+1).toNat x.2.1))/\((x.2.1.length:Int) - (x_1.2+1)).toNat<((x.2.1.length:Int) - x_1.2).toNat)/\(decide (x_1.2<(x.2.1.length:Int))=false->(et x.1 v0.1 x.2.2).1=v1.1/\x_1.1=v1.2.1/\0=v1.2.2/\True)))) (dW x.1 [x.2.1,x.2.2].flatten)) (aq x.1 x.2.1 x.2.2)
theorem I5:DR:=by
 unfold DR;intro ⟨a,f,p⟩ ⟨⟨hb,hw⟩,⟨hbf,_⟩,hbp,_⟩ hsz;unfold aK at hb hbf hbp;simp only at hb hw hbf hbp hsz |-;have hfl:[f,p].flatten=f++p:=by simp
 rw [hfl];have hR:dW a (f++p)=if bb a (f++p)≠0 then ([],bb a (f++p)) else (bN a (f++p),0):=rfl
 have hF:aq a f p=if bb a (f++p)≠0 then ([],[],bb a (f++p)) else if bk p=false then ([],[],3) else
  ((et a (bN a (f++p)) p).1,f.map fun x=>(aA (bN a (f++p)) ((bN a (f++p)).map (dw (ac a).1)) p).getD (cK (bN a (f++p)) x).toNat 0,0):=rfl
 refine ⟨by rw [KK]; unfold aK; omega,trivial,fun h=>?_,fun h=>?_⟩
 ·have h:=tM h;by_cases h0:bb a (f++p)≠0
  ·rw [hR,if_pos h0,hF,if_pos h0];exact ⟨by first | trivial | rfl,by first | trivial | rfl,by first | trivial | rfl,trivial⟩
  ·rw [hR,if_neg h0] at h;exact absurd rfl h
 have h:=uZ h
 have h0:bb a (f++p)=0:=by
  by_cases h0:bb a (f++p)≠0
  ·rw [hR,if_pos h0] at h;exact absurd h0 h
  ·omega
 rw [hR,if_neg (by omega),hF,if_neg (by omega)];simp only;refine ⟨trivial,fun h2=>?_,fun h2=>?_⟩
 ·have h2:=tM h2
  have h3:bk p=false:=by
   cases h3:bk p
   ·rfl
   ·rw [(nB hw h0 h3).1] at h2;exact absurd rfl h2
  rw [if_pos h3,rp h0 h3];exact ⟨by first | trivial | rfl,by first | trivial | rfl,by first | trivial | rfl,trivial⟩
 have h3:bk p=true:=by
  cases h3:bk p
  ·rw [rp h0 h3] at h2;exact absurd h2 (by decide)
  ·rfl
 rw [if_neg (by rw [h3]; simp),(nB hw h0 h3).1];simp only;obtain ⟨k1,k2⟩:=fg h0;have hin:∀ x∈f,x∈bN a (f++p):=fun x hx=>(iC hw k1 k2).2 (.base (by simp [hx]))
 have hpl:(aA (bN a (f++p)) ((bN a (f++p)).map (dw (ac a).1)) p).length=(bN a (f++p)).length:=by simp [aA]
 generalize aA (bN a (f++p)) ((bN a (f++p)).map (dw (ac a).1)) p=to at *;generalize bN a (f++p)=keep at *;refine ⟨⟨by omega,by omega,rfl⟩,fun ⟨out,i⟩ ⟨i0,i1,i2⟩=>⟨fun hlt=>?_,fun hge=>?_⟩⟩
 ·simp only at i0 i1 i2 hlt |-;have hlt:=tM hlt;have hs:=a8 (0:Int) i0 hlt;have hx:=ka (hin _ (aI (0:Int) i0 hlt));rw [hs,Rg,<- i2]
  have hol:out.length<=f.length:=by
   rw [i2,Q3,QD];omega
  simp only [ak,HN,QQ];unfold aK;refine ⟨i0,hlt,trivial,hx.1,by omega,by omega,?_,by omega,⟨by omega,by omega,rfl⟩,by omega⟩
  have:out.length=i.toNat:=by
   rw [i2,Q3,QD];omega
  omega
 ·simp only at i0 i1 i2 hge |-;rw [bT (uZ hge)] at i2;exact ⟨by first | trivial | rfl,i2,by first | trivial | rfl,trivial⟩
theorem Ee:LJ.ok Tryz.prog 158:=aD (ann:=Nq) (ae oH (ae Mg (ae Md (ae Ig ap)))) Tryz.func158 (by kernel_rfl) I5
end
section
def refWord (bs:List Int) (k:Int):Int:=if k=-1 then 0 else bs.getD k.toNat 0+1
def bY (k:Int):List Int:=if 0<k then aC (0,k - 1,0,true)::List.replicate (k - 1).toNat 0 else []
end
section
theorem tK {h:dY} (h0:af h=0):aW (aC h)=h/\bg (aC h)=true:=by
 obtain ⟨h1,h2,h3,h4,h5,h6⟩:=a7 h0
 have e:aW (aC h)=h:=by
  obtain ⟨a,b,c,d⟩:=h;simp only at h1 h2 h3 h4 h5;simp only [aC,aW];cases d
  ·simp only [Qz,QW,zn];refine ⟨by omega,by omega,by omega,Rz (by omega)⟩
  ·simp only [if_true,zn];refine ⟨by omega,by omega,by omega,Rm (by omega)⟩
 refine ⟨e,?_⟩;unfold bg;rw [e,h0]
 have:aC h / 281474976710656<=1:=by
  unfold aC;cases h.2.2.2 <;> simp <;> omega
 simp [this]
theorem bQ (k:Int):(bY k).length=k.toNat:=by
 unfold bY;split
 ·simp only [HN,QV]; omega
 ·simp only [QQ]; omega
def og (a keep to pinned long:List Int):Nat->List Int
 | 0=>[]
 | i+1=>og a keep to pinned long i++(bY (fD pinned keep long i - bx pinned keep long i)++il a keep to (keep.getD i 0))
def aE (at_ k:Int):aw:=(at_,0,k - 1,0,true)
def o6 (a keep pinned long:List Int):Nat->List aw
 | 0=>[]
 | i+1=>o6 a keep pinned long i++((if bx pinned keep long i<fD pinned keep long i then [aE (bx pinned keep long i) (fD pinned keep long i - bx pinned keep long i)] else [])++[(fD pinned keep long i,eX a (keep.getD i 0))])
section
variable {a keep pinned long:List Int}
theorem iY (to:List Int) (hP:Plan a keep pinned long):∀ i:Nat,i<=keep.length->((og a keep to pinned long i).length:Int)=bx pinned keep long i
 | 0,_=>by simp [og,bx]
 | i+1,hi=>by
  have ih:=iY to hP i (by omega);have h1:=hP.le i (by omega);have h2:=hP.lg i (by omega);have h3:=ll (a:=a) (keep:=keep) (to:=to) (hP.isb _ (ef (i:=i) (by omega)));have e:bx pinned keep long (i+1)=fD pinned keep long i+long.getD i 0:=rfl;rw [e];simp only [og,KK,bQ];omega
theorem HR (to:List Int) (hP:Plan a keep pinned long):∀ (i:Nat) (R:List Int),i<=keep.length->(gG pinned keep long i).foldl jG (eM a keep to pinned long i++R)=og a keep to pinned long i++R
 | 0,R,_=>rfl
 | i+1,R,hi=>by
  have hl:=iY to hP i (by omega);have h1:=hP.le i (by omega)
  have e:eM a keep to pinned long (i+1)++R=eM a keep to pinned long i++(r6 pinned keep long i++(il a keep to (keep.getD i 0)++R)):=by
   simp only [eM,List.append_assoc]
  rw [e];simp only [gG,Tl];rw [HR to hP i _ (by omega)];simp only [og,List.append_assoc];unfold r6;have e0:(0:Int)<=bx pinned keep long i:=by omega
  generalize fD pinned keep long i=t at *;generalize bx pinned keep long i=s at *;by_cases hc:s<t
  ·rw [if_pos hc];simp only [Sn,List.foldl_nil,jG,bY];rw [if_pos (by omega),show (t - s).toNat=(t - s - 1).toNat+1 by omega,Sc,Rf,pZ _ (by omega)];rfl
  ·rw [if_neg hc];have:t - s=0:=by omega
   rw [this];rfl
theorem pY (to:List Int) (hP:Plan a keep pinned long):mI a keep to pinned long (ck a.length keep long pinned)=og a keep to pinned long keep.length++bY ((a.length:Int) - bx pinned keep long keep.length):=by
 have hl:=iY to hP keep.length (QI _);have he:=hP.en;unfold mI ck;rw [Tl,HR to hP _ _ (QI _)];generalize bx pinned keep long keep.length=s at *;by_cases hc:s<(a.length:Int)
 ·rw [if_pos hc];simp only [Sn,List.foldl_nil,jG,bY];rw [if_pos (by omega),show ((a.length:Int) - s).toNat=((a.length:Int) - s - 1).toNat+1 by omega,Sc,pZ _ (by omega)]
 ·rw [if_neg hc];have:(a.length:Int) - s=0:=by omega
  rw [this];rfl
theorem ii {at_ v:Int} {r R:List Int} (h:bg v=true) (hl:aa (aW v)=1+(r.length:Int)):spotsS at_ (v::r++R)=(spotsS (at_+aa (aW v)) R).map ((at_,aW v)::·):=by
 rw [Rf,cT h (by simp only [HN,KK]; omega)];congr 2;rw [hl,show (1+(r.length:Int)).toNat=r.length+1 by omega,RK,List.drop_left]
theorem EB {k:Int} (h1:1<=k) (h2:k<=256):af (0,k - 1,0,true)=0:=by
 simp [af,aa]; omega
theorem gO {at_ k:Int} {R:List Int} (h2:k<=256):spotsS at_ (bY k++R)=if 0<k then (spotsS (at_+k) R).map (aE at_ k::·) else spotsS at_ R:=by
 unfold bY;by_cases h:0<k
 ·rw [if_pos h,if_pos h];obtain ⟨e1,e2⟩:=tK (EB (k:=k) (by omega) h2);have e3:aa (aW (aC (0,k - 1,0,true)))=k:=by rw [e1]; simp [aa]; omega
  rw [ii e2 (by rw [e3,QV]; omega),e3,e1];rfl
 ·rw [if_neg h,if_neg h];rfl
theorem uQ (to:List Int) (hP:Plan a keep pinned long):∀ (i:Nat) (R:List Int),i<=keep.length->spotsS 0 (og a keep to pinned long i++R)=(spotsS (bx pinned keep long i) R).map (o6 a keep pinned long i++·)
 | 0,R,_=>by
  simp only [og,o6,bx,Q0];cases spotsS 0 R <;> rfl
 | i+1,R,hi=>by
  have h1:=hP.le i (by omega);have h2:=hP.lg i (by omega);have hb:=hP.isb _ (ef (i:=i) (by omega:i<keep.length));obtain ⟨_,_,_,o4,o5,_⟩:=fG hb;have h3:=ll (a:=a) (keep:=keep) (to:=to) hb;have hal:=hP.al;have e:bx pinned keep long (i+1)=fD pinned keep long i+long.getD i 0:=rfl;have e0:=(cq pinned hP.pre i (by omega)).1;have hl:aa (aW (a.getD (keep.getD i 0).toNat 0))=long.getD i 0:=by rw [<- o4,h2]; rfl
  have hpc:∀ s,spotsS s (il a keep to (keep.getD i 0)++R)=(spotsS (s+long.getD i 0) R).map ((s,eX a (keep.getD i 0))::·):=fun s=>by
   unfold il at h3 |-;rw [ii o5 (by rw [hl,h2]; simp only [HN] at h3; omega),hl,<- o4]
  simp only [og,o6,List.append_assoc];rw [uQ to hP i _ (by omega),gO (by omega),e];by_cases hc:bx pinned keep long i<fD pinned keep long i
  ·rw [if_pos hc,if_pos (by omega),show bx pinned keep long i+(fD pinned keep long i - bx pinned keep long i)=fD pinned keep long i by omega,hpc];cases spotsS (fD pinned keep long i+long.getD i 0) R <;> simp
  ·rw [if_neg hc,if_neg (by omega),show bx pinned keep long i=fD pinned keep long i by omega,hpc];cases spotsS (fD pinned keep long i+long.getD i 0) R <;> simp
def kI (a keep pinned long:List Int):List aw:=o6 a keep pinned long keep.length++(if bx pinned keep long keep.length<(a.length:Int) then [aE (bx pinned keep long keep.length) ((a.length:Int) - bx pinned keep long keep.length)] else [])
theorem pX (to:List Int) (hP:Plan a keep pinned long):(mI a keep to pinned long (ck a.length keep long pinned)).length=a.length:=by
 have hl:=iY to hP keep.length (QI _);have he:=hP.en;rw [pY to hP,KK,bQ];omega
theorem uW (to:List Int) (hP:Plan a keep pinned long):ac (mI a keep to pinned long (ck a.length keep long pinned))=(kI a keep pinned long,0):=by
 have hl:=pX to hP;have hal:=hP.al;have he:=hP.en;have e0:=(cq pinned hP.pre keep.length (QI _)).1;unfold ac;rw [if_neg (by omega),pY to hP,uQ to hP _ _ (QI _)]
 have:spotsS (bx pinned keep long keep.length) (bY ((a.length:Int) - bx pinned keep long keep.length))=some (if bx pinned keep long keep.length<(a.length:Int) then [aE (bx pinned keep long keep.length) ((a.length:Int) - bx pinned keep long keep.length)] else []):=by
  have h:=gO (at_:=bx pinned keep long keep.length) (k:=(a.length:Int) - bx pinned keep long keep.length) (R:=[]) (by omega);rw [Q8] at h;rw [h];by_cases hc:bx pinned keep long keep.length<(a.length:Int)
  ·rw [if_pos hc,if_pos (by omega),spotsS]; rfl
  ·rw [if_neg hc,if_neg (by omega),spotsS]
 rw [this];rfl
theorem LL (to:List Int) (hP:Plan a keep pinned long) (T:List Int) {i:Nat}:∀ (n:Nat),i<n->n<=keep.length->∃ X Y,og a keep to pinned long n++T=X++(il a keep to (keep.getD i 0)++Y)/\(X.length:Int)=fD pinned keep long i
 | n+1,hi,hn=>by
  by_cases h:i=n
  ·subst h;have h1:=hP.le i (by omega);have hl:=iY to hP i (by omega);refine ⟨og a keep to pinned long i++bY (fD pinned keep long i - bx pinned keep long i),T,?_,?_⟩
   ·simp only [og,List.append_assoc]
   ·rw [KK,bQ]; omega
  ·obtain ⟨X,Y,e,hx⟩:=LL (i:=i) to hP (bY (fD pinned keep long n - bx pinned keep long n)++(il a keep to (keep.getD n 0)++T)) n (by omega) (by omega);exact ⟨X,Y,by simp only [og,List.append_assoc]; exact e,hx⟩
theorem Dp {s:aw}:∀ (n:Nat),s∈o6 a keep pinned long n->s.2.2.2.2=true/\s.2.1=0\/∃ i,i<n/\s=(fD pinned keep long i,eX a (keep.getD i 0))
 | 0,h=>by cases h
 | n+1,h=>by
  simp only [o6,Qx] at h;rcases h with h | h | h
  ·rcases Dp n h with h | ⟨i,hi,e⟩
   ·exact .inl h
   ·exact .inr ⟨i,by omega,e⟩
  ·split at h
   ·rw [QA.1 h]; exact .inl ⟨rfl,rfl⟩
   ·cases h
  ·exact .inr ⟨n,by omega,QA.1 h⟩
theorem uY {i:Nat}:∀ (n:Nat),i<n->(fD pinned keep long i,eX a (keep.getD i 0))∈o6 a keep pinned long n
 | n+1,hi=>by
  simp only [o6,Qx,QA];by_cases h:i=n
  ·subst h; exact .inr (.inr rfl)
  ·exact .inl (uY n (by omega))
theorem JE {s:aw} (h:s∈kI a keep pinned long):s.2.2.2.2=true/\s.2.1=0\/∃ i,i<keep.length/\s=(fD pinned keep long i,eX a (keep.getD i 0)):=by
 unfold kI at h;rcases Qx.1 h with h | h
 ·exact Dp _ h
 ·split at h
  ·rw [QA.1 h]; exact .inl ⟨rfl,rfl⟩
  ·cases h
theorem lK {i:Nat} (hi:i<keep.length):(aA keep long pinned).getD i 0=fD pinned keep long i:=by
 unfold aA;rw [List.getD_eq_getElem?_getD,List.getElem?_map,List.getElem?_range hi];rfl
theorem mB:∀ {l:List aw} {t:Int} {h:dY},(t,h)∈l->h.2.2.2=false->t∈ba l
 | s::l,t,h,hm,hf=>by
  simp only [ba];rcases Qs.1 hm with e | hm
  ·subst e;rw [if_neg (by rw [hf]; simp)];exact QJ
  ·have ih:=mB hm hf;split
   ·exact ih
   ·exact QK _ ih
theorem Gk (hP:Plan a keep pinned long) (hg:(keep.all fun x=>fq keep (aA keep long pinned) (bP a x))=true):am (mI a keep (aA keep long pinned) pinned long (ck a.length keep long pinned))=(kI a keep pinned long,cI (kI a keep pinned long),0):=by
 have hs:=uW (aA keep long pinned) hP;have hw:=pY (aA keep long pinned) hP;obtain ⟨A,hA⟩:∃ A,A=mI a keep (aA keep long pinned) pinned long (ck a.length keep long pinned):=⟨_,rfl⟩;rw [<- hA] at hs hw |-;have hsort:=ca A;rw [hs] at hsort;unfold am;rw [hs,if_neg (by simp),if_pos];refine Qy.2 fun s hm=>Qy.2 fun v hv=>?_
 rcases JE hm with ⟨_,h0⟩ | ⟨i,hi,e⟩
 ·unfold aQ at hv;rw [h0,Int.add_zero,QX (by rw [QD]; omega)] at hv;cases hv
 ·have hb:=hP.isb _ (ef (i:=i) hi);obtain ⟨l1,l2,l3,l4,l5,l6⟩:=cd hb;have h1:=hP.le i hi;have e0:=(cq pinned hP.pre i (by omega)).1;obtain ⟨X,Y,eW,hX⟩:=LL (aA keep long pinned) hP (bY ((a.length:Int) - bx pinned keep long keep.length)) keep.length hi (QI _)
  have hr:aQ A s=(bP a (keep.getD i 0)).map (kS keep (aA keep long pinned)):=by
   unfold aQ;rw [e,hw,eW];simp only;generalize fD pinned keep long i=t at *;obtain ⟨n,rfl⟩:∃ n:Nat,t=n:=⟨X.length,hX.symm⟩;have hn:n=X.length:=by omega
   subst hn;have e1:((X.length:Int)+1+(eX a (keep.getD i 0)).1).toNat=X.length+(1+(bP a (keep.getD i 0)).length):=by omega
   have e2:((X.length:Int)+1).toNat=X.length+1:=by omega
   rw [e1,e2,SL,Sh];rw [QX (by rw [QD]; omega),Q0,show X.length+(1+(bP a (keep.getD i 0)).length) - X.length=1+(bP a (keep.getD i 0)).length by omega];rw [QG (by omega:X.length<=_),show X.length+1 - X.length=1 by omega];unfold il;rw [Nat.add_comm 1,Rf,RC,RK,SJ,List.append_assoc,QY (by simp),QG (by simp)]
  rw [hr] at hv;obtain ⟨u,hu,rfl⟩:=QR.1 hv;have hgu:=Qy.1 (Qy.1 hg _ (ef (i:=i) hi)) u hu;unfold cI;rw [j9 _ _ _ 0 hsort];have e3:kS keep (aA keep long pinned) u=(lI keep (aA keep long pinned) u).getD 0:=rfl;by_cases h0:u=0
  ·have:kS keep (aA keep long pinned) u=0:=by rw [e3]; unfold lI; rw [if_pos h0]; rfl
   rw [this];cases oh 0 0 (kI a keep pinned long) <;> rfl
  ·by_cases h2:fR keep (u - 1)=true
   ·have hp:=ka (cG.1 h2)
    have e4:kS keep (aA keep long pinned) u=fD pinned keep long (cK keep (u - 1)).toNat+1:=by
     rw [e3];unfold lI;rw [if_neg h0,if_pos h2,lK (by omega)];rfl
    have hj:(cK keep (u - 1)).toNat<keep.length:=by omega
    rw [e4]
    have e5:(oh (fD pinned keep long (cK keep (u - 1)).toNat+1) 0 (kI a keep pinned long)).isSome=true:=by
     rw [lL,show fD pinned keep long (cK keep (u - 1)).toNat+1 - 1=fD pinned keep long (cK keep (u - 1)).toNat by omega,cG];exact mB (L3 _ (uY (pinned:=pinned) (long:=long) (a:=a) keep.length hj)) (fG (hP.isb _ (ef hj))).2.2.2.2.2
    cases hx:oh (fD pinned keep long (cK keep (u - 1)).toNat+1) 0 (kI a keep pinned long) with
    | none=>rw [hx] at e5; cases e5
    | some k=>rfl
   ·unfold lI at hgu;rw [if_neg h0,if_neg h2] at hgu;cases hgu
def dR (l:List db):Int:=(l.map (·.2)).sum
def FS:List aw->Int
 | []=>0
 | s::l=>(if s.2.2.2.2=true then aa s.2 else 0)+FS l
def jt:List aw->Int
 | []=>0
 | s::l=>(if s.2.2.2.2=true then 0 else aa s.2)+jt l
theorem nO (l:List db) (r:db):dR (l++[r])=dR l+r.2:=by simp [dR]
theorem I8:∀ (l:List db) (n:Int),0<l.length->dR (mM l n)=dR l+n:=by
 intro l n h
 obtain ⟨l',r,rfl⟩:∃ l' r,l=l'++[r]:=by
  refine ⟨l.dropLast,l.getLast (by intro e; rw [e] at h; cases h),?_⟩;exact (SE _).symm
 unfold mM;have e:(l'++[r]).length - 1=l'.length:=by simp
 have e2:(l'++[r]).getD l'.length (0,0)=r:=by simp
 have e3:∀ x,(l'++[r]).set l'.length x=l'++[x]:=fun x=>by simp
 rw [e,e2,e3,nO,nO];simp only;omega
theorem nP:∀ (l:List aw) (p:Bool) (out:List db),(p=true->0<out.length)->dR (aO p out l)=dR out+FS l
 | [],_,out,_=>by simp [aO,FS]
 | s::l,p,out,h=>by
  simp only [aO,FS];cases hf:s.2.2.2.2
  ·simp only [Qz,QW];rw [nP l false out (fun h=>by cases h)];omega
  ·simp only [if_true];cases hp:p
   ·simp only [Qz,QW];rw [nP l true _ (fun _=>by simp),nO];simp only;omega
   ·simp only [if_true];rw [nP l true _ (fun _=>by rw [gg]; exact h hp),I8 _ _ (h hp)];omega
theorem nN:∀ {l:List aw} {s e:Int},fI s e l->s+FS l+jt l=e
 | [],s,e,h=>by simp only [fI] at h; simp only [FS,jt]; omega
 | x::l,s,e,⟨_,_,h⟩=>by
  have:=nN h;simp only [FS,jt];cases x.2.2.2.2 <;> simp <;> omega
theorem kG:∀ (l k:List aw),jt (l++k)=jt l+jt k
 | [],k=>by simp [jt]
 | s::l,k=>by
  have:=kG l k;simp only [Rf,jt];omega
theorem uL {l:List Int} {n:Nat} (h:n<l.length):l.take (n+1)=l.take n++[l.getD n 0]:=by
 have:=a8 (0:Int) (xs:=l) (i:=(n:Int)) (by omega) (by omega);simpa using this
theorem Do (hb:∀ x∈keep,isB (ac a).1 x=true):∀ n:Nat,n<=keep.length->jt (o6 a keep pinned long n)=((keep.take n).map (dw (ac a).1)).sum
 | 0,_=>by simp [o6,jt]
 | n+1,h=>by
  have ih:=Do hb n (by omega);rw [uL (by omega)];simp only [o6];rw [kG,kG,ih,Rg,List.sum_append];have hf:=(fG (hb _ (ef (i:=n) (by omega)))).2.2.2.2.2
  have e1:jt (if bx pinned keep long n<fD pinned keep long n then [aE (bx pinned keep long n) (fD pinned keep long n - bx pinned keep long n)] else [])=0:=by
   split <;> simp [jt,aE]
  have e2:jt [(fD pinned keep long n,eX a (keep.getD n 0))]=dw (ac a).1 (keep.getD n 0):=by
   simp only [jt,hf];simp [dw,eX]
  rw [e1,e2];simp
theorem JD (hb:∀ x∈keep,isB (ac a).1 x=true):jt (kI a keep pinned long)=(keep.map (dw (ac a).1)).sum:=by
 unfold kI;rw [kG,Do hb _ (QI _),List.take_length]
 have:jt (if bx pinned keep long keep.length<(a.length:Int) then [aE (bx pinned keep long keep.length) ((a.length:Int) - bx pinned keep long keep.length)] else [])=0:=by
  split <;> simp [jt,aE]
 omega
end
theorem EA {b:List Int} (h:(ac b).2=0):dR (aO false [] (ac b).1)+jt (ac b).1=b.length:=by
 have:=nN (fZ h);rw [nP _ _ _ (fun h=>by cases h)];simp only [dR,RR,List.sum_nil];omega
end
section
abbrev FN:Ty:=.pair ty_I ty_I
def bV (n:Int):Int->List (Int×Int)->List Int
 | _,[]=>[]
 | k,r::l=>if n<=r.2 then k::bV n (k+1) l else bV n (k+1) l
def ei (l:List (Int×Int)):Bool:=l.any fun r=>decide (r.1<0)||decide (r.2<1)
def eR (l:List (Int×Int)) (n:Int):List Int×Int:=if n<1 then ([],1) else if ei l then ([],4) else if bV n 0 l=[] then ([],7) else (bV n 0 l,0)
def bD (l:List (Int×Int)) (n:Int):Int×Int:=if (eR l n).2≠0 then (0,(eR l n).2) else ((eR l n).1.getD 0 0,0)
theorem Bu (r:Int×Int) (l:List (Int×Int)):ei (r::l)=(decide (r.1<0)||decide (r.2<1)||ei l):=by
 simp [ei]
def OL:Nat->Option LoopGen
 | 5=>some { rd:=[.dat 11 (.arr FN),.dat 1 ty_I],A:=fun ((l,n):List (Int×Int)×Int)=>{ cs:=[.own 6 3 ty_I,.dat 13 ty_I],inv:=fun ((out,i):List Int×Int)=>0<=i/\i<=l.length/\1<=n/\out.length<=i/\ei (l.drop i.toNat)=ei l/\out++bV n i (l.drop i.toNat)=bV n 0 l,mu:=fun ((_,i):List Int×Int)=>(l.length - i).toNat } }
 | _=>none
def NO:Spec:={ Ts:=[.arr FN,ty_I],Rs:=[.own 3 ty_I,.dat ty_I],pre:=fun _=>True,F:=fun ((l,n):List (Int×Int)×Int)=>eR l n }
def H3:Prop :=
  ∀ (x:List (Int×Int)×Int),(x.1.length * (8+8)<=aK/\∀ (x_1:Int×Int),x_1∈x.1->ak .i64 x_1.1/\ak .i64 x_1.2)/\ak .i64 x.2->True->(decide (x.2<1)=true->([]:List Int)=(eR x.1 x.2).1/\1=(eR x.1 x.2).2/\True)/\(decide (x.2<1)=false->((0:Int)<=0/\0<=(x.1.length:Int)/\1<=x.2/\(↑(0:Nat):Int)<=0/\ei (List.drop (Int.toNat 0) x.1)=ei x.1/\([]:List Int)++bV x.2 0 (List.drop (Int.toNat 0) x.1)=bV x.2 0 x.1)/\∀ (x_1:List Int×Int),0<=x_1.2/\x_1.2<=(x.1.length:Int)/\1<=x.2/\(x_1.1.length:Int)<=x_1.2/\ei (List.drop x_1.2.toNat x.1)=ei x.1/\x_1.1++bV x.2 x_1.2 (List.drop x_1.2.toNat x.1)=bV x.2 0 x.1->(decide (x_1.2<(x.1.length:Int))=true->0<=x_1.2/\x_1.2<(x.1.length:Int)/\((decide ((x.1.getD x_1.2.toNat (0,0)).1<0)||decide ((x.1.getD x_1.2.toNat (0,0)).2<1))=true->([]:List Int)=(eR x.1 x.2).1/\4=(eR x.1 x.2).2/\True)/\((decide ((x.1.getD x_1.2.toNat (0,0)).1<0)||decide ((x.1.getD x_1.2.toNat (0,0)).2<1))=false->(decide (x.2<=(x.1.getD x_1.2.toNat (0,0)).2)=true->(x_1.1.length+[x_1.2].length) * 8<=aK/\ak .i64 (x_1.2+1)/\(0<=x_1.2+1/\x_1.2+1<=(x.1.length:Int)/\1<=x.2/\(↑(x_1.1++[x_1.2]).length:Int)<=x_1.2+1/\ei (List.drop (x_1.2+1).toNat x.1)=ei x.1/\x_1.1++[x_1.2]++bV x.2 (x_1.2+1) (List.drop (x_1.2+1).toNat x.1)=bV x.2 0 x.1)/\((x.1.length:Int) - (x_1.2+1)).toNat<((x.1.length:Int) - x_1.2).toNat)/\(decide (x.2<=(x.1.getD x_1.2.toNat (0,0)).2)=false->ak .i64 (x_1.2+1)/\(0<=x_1.2+1/\x_1.2+1<=(x.1.length:Int)/\1<=x.2/\(x_1.1.length:Int)<=x_1.2+1/\ei (List.drop (x_1.2+1).toNat x.1)=ei x.1/\x_1.1++bV x.2 (x_1.2+1) (List.drop (x_1.2+1).toNat x.1)=bV x.2 0 x.1)/\((x.1.length:Int) - (x_1.2+1)).toNat<((x.1.length:Int) - x_1.2).toNat)))/\(decide (x_1.2<(x.1.length:Int))=false->(decide ((x_1.1.length:Int)=0)=true->([]:List Int)=(eR x.1 x.2).1/\7=(eR x.1 x.2).2/\True)/\(decide ((x_1.1.length:Int)=0)=false->x_1.1=(eR x.1 x.2).1/\0=(eR x.1 x.2).2/\True)))
theorem K9:H3:=by
 unfold H3;intro ⟨l,n⟩ ⟨⟨hl,_⟩,hn⟩ _;unfold aK at *;have hb0:ei []=false:=rfl;have hf0:∀ k,bV n k []=[]:=fun _=>rfl
 refine ⟨fun h=>?_,fun h=>⟨⟨by omega,by grind,by grind,by simp,by simp,by simp⟩,fun ⟨out,i⟩ ⟨h0,h1,h2,h3,h4,h5⟩=>⟨fun hlt=>?_,fun hge=>?_⟩⟩⟩
 ·simp only [eR]; grind
 ·have hlt:i<(l.length:Int):=by simpa using hlt
  have e:=bI ((0,0):Int×Int) h0 hlt;simp only at *;simp only [e,Bu,bV] at h4 h5;simp only [eR,ak,KK,HN,QQ]
  repeat' (first | apply And.intro | intro _)
  all_goals grind
 ·simp only at *;rw [cE (by simpa using hge),hb0] at h4;rw [cE (by simpa using hge),hf0,Q8] at h5;simp only [eR,<- h4,<- h5];by_cases ho:out=[]
  ·subst ho;have:¬ n<1:=by omega
   simp [this]
  ·have:¬ n<1:=by omega
   simp [this,ho]
theorem N7:NO.ok Tryz.prog 214:=aD (ann:=OL) ap Tryz.func214 (by kernel_rfl) K9
def LH:Spec:={ Ts:=[.arr FN,ty_I],Rs:=[.dat ty_I,.dat ty_I],pre:=fun _=>True,F:=fun ((l,n):List (Int×Int)×Int)=>bD l n }
def DP:Prop :=
  ∀ (x:List (Int×Int)×Int),(x.1.length * (8+8)<=aK/\∀ (x_1:Int×Int),x_1∈x.1->ak .i64 x_1.1/\ak .i64 x_1.2)/\ak .i64 x.2->True->True/\(decide ((eR x.1 x.2).2≠0)=true->0=(bD x.1 x.2).1/\(eR x.1 x.2).2=(bD x.1 x.2).2/\True)/\(decide ((eR x.1 x.2).2≠0)=false->(0:Int)<=0/\0<(↑(eR x.1 x.2).1.length:Int)/\Int.toNat 0<(eR x.1 x.2).1.length/\(eR x.1 x.2).1.getD (Int.toNat 0) 0=(bD x.1 x.2).1/\0=(bD x.1 x.2).2/\True)
theorem I3:DP:=by
 unfold DP;intro ⟨l,n⟩ _ _;have h:(eR l n).2=0->(eR l n).1≠[]:=by unfold eR; grind
 simp only [bD];cases hc:(eR l n).1 <;> grind
theorem Mn:LH.ok Tryz.prog 155:=aD (ann:=cF) (ae N7 ap) Tryz.func155 (by kernel_rfl) I3
end
section
theorem bS (t k:Int):aa (aE t k).2=k:=by simp [aE,aa]; omega
def bJ:List aw->List aw
 | []=>[]
 | x::l=>if x.2.2.2.2=true then (match bJ l with
   | []=>[aE x.1 (aa x.2)]
   | y::r=>if y.2.2.2.2=true then aE x.1 (aa x.2+aa y.2)::r else aE x.1 (aa x.2)::y::r) else x::bJ l
def ic (a:List Int):List aw->List Int
 | []=>[]
 | s::l=>(if s.2.2.2.2=true then bY (aa s.2) else (a.drop s.1.toNat).take (aa s.2).toNat)++ic a l
def gH:List aw->List db
 | []=>[]
 | s::l=>if s.2.2.2.2=true then (s.1,aa s.2)::gH l else gH l
theorem Kq (x:aw) (l:List aw) (h:x.2.2.2.2=true):bJ (x::l)=bJ (aE x.1 (aa x.2)::l):=by
 simp only [bJ];rw [if_pos h,if_pos (show (aE x.1 (aa x.2)).2.2.2.2=true from rfl),bS];rfl
theorem Mz (t n:Int) (x:aw) (l:List aw) (h:x.2.2.2.2=true):bJ (aE t n::x::l)=bJ (aE t (n+aa x.2)::l):=by
 have e:∀ m,bJ (aE t m::l)=match bJ l with
   | []=>[aE t m]
   | y::r=>if y.2.2.2.2=true then aE t (m+aa y.2)::r else aE t m::y::r:=fun m=>by
  simp only [bJ];rw [if_pos (show (aE t m).2.2.2.2=true from rfl),bS];rfl
 have e2:bJ (aE t n::x::l)=match bJ (x::l) with
   | []=>[aE t n]
   | y::r=>if y.2.2.2.2=true then aE t (n+aa y.2)::r else aE t n::y::r:=by
  rw [bJ];rw [if_pos (show (aE t n).2.2.2.2=true from rfl),bS];rfl
 rw [e2,e];simp only [bJ];rw [if_pos h];cases hj:bJ l with
 | nil =>
  simp only;rw [if_pos (show (aE x.1 (aa x.2)).2.2.2.2=true from rfl),bS]
 | cons y r =>
  simp only;by_cases hy:y.2.2.2.2=true
  ·rw [if_pos hy,if_pos hy];simp only;rw [if_pos (show (aE x.1 (aa x.2+aa y.2)).2.2.2.2=true from rfl),bS,Int.add_assoc]
  ·rw [if_neg hy,if_neg hy];simp only;rw [if_pos (show (aE x.1 (aa x.2)).2.2.2.2=true from rfl),bS]
theorem no (x:aw) (l:List aw) (h:¬ x.2.2.2.2=true):bJ (x::l)=x::bJ l:=by
 simp only [bJ]; rw [if_neg h]
theorem xX (t n:Int) (x:aw) (l:List aw) (h:¬ x.2.2.2.2=true):bJ (aE t n::x::l)=aE t n::x::bJ l:=by
 rw [bJ,no x l h];rw [if_pos (show (aE t n).2.2.2.2=true from rfl),bS];simp only;rw [if_neg h];rfl
theorem zz:∀ (l:List aw),(∀ out,aO false out l=out++gH (bJ l))/\∀ out t n,aO true (out++[(t,n)]) l=out++gH (bJ (aE t n::l))
 | []=>by
  refine ⟨fun out=>by simp [aO,bJ,gH],fun out t n=>?_⟩
  have e:bJ [aE t n]=[aE t n]:=by
   rw [bJ,if_pos (show (aE t n).2.2.2.2=true from rfl),bS];rfl
  rw [e];simp only [aO,gH];rw [if_pos (show (aE t n).2.2.2.2=true from rfl),bS];rfl
 | x::l=>by
  obtain ⟨h1,h2⟩:=zz l;by_cases hx:x.2.2.2.2=true
  ·refine ⟨fun out=>?_,fun out t n=>?_⟩
   ·simp only [aO];rw [hx];simp only [if_true,Qz,QW];rw [h2,Kq x l hx]
   ·simp only [aO];rw [hx];simp only [if_true];rw [KN,h2,Mz t n x l hx]
  ·have hf:x.2.2.2.2=false:=by simpa using hx
   refine ⟨fun out=>?_,fun out t n=>?_⟩
   ·simp only [aO];rw [hf];simp only [Qz,QW];rw [h1,no x l hx];simp only [gH];rw [if_neg hx]
   ·simp only [aO];rw [hf];simp only [Qz,QW];rw [h1,xX t n x l hx];simp only [gH];rw [if_pos (show (aE t n).2.2.2.2=true from rfl),if_neg hx,bS];simp [aE]
theorem pQ:∀ {l:List aw} {s e:Int},fI s e l->s<=e
 | [],s,e,h=>by simp only [fI] at h; omega
 | x::l,s,e,⟨_,h1,h2⟩=>by have:=pQ h2; omega
theorem ws:∀ {l:List aw} {s e:Int},fI s e l->fI s e (bJ l)
 | [],s,e,h=>h
 | x::l,s,e,⟨h0,h1,h2⟩=>by
  have ih:=ws h2;by_cases hx:x.2.2.2.2=true
  ·simp only [bJ];rw [if_pos hx];cases hj:bJ l with
   | nil =>
    rw [hj] at ih;simp only [fI] at ih |-;rw [bS];exact ⟨h0,h1,ih⟩
   | cons y r =>
    rw [hj] at ih;obtain ⟨i0,i1,i2⟩:=ih;simp only;by_cases hy:y.2.2.2.2=true
    ·rw [if_pos hy];simp only [fI];rw [bS];exact ⟨h0,by omega,by rw [<- Int.add_assoc]; exact i2⟩
    ·rw [if_neg hy];simp only [fI];rw [bS];exact ⟨h0,h1,i0,i1,i2⟩
  ·rw [no x l hx];exact ⟨h0,h1,ih⟩
theorem wu:∀ {l:List aw} {s:aw},s∈bJ l->(s=aE s.1 (aa s.2))\/(s∈l/\s.2.2.2.2=false)
 | x::l,s,h=>by
  have ih:=fun (h:s∈bJ l)=>wu h
  have fs:∀ t n,aE t n=aE (aE t n).1 (aa (aE t n).2):=fun t n=>by rw [bS]; rfl
  by_cases hx:x.2.2.2.2=true
  ·simp only [bJ] at h;rw [if_pos hx] at h;cases hj:bJ l with
   | nil =>
    rw [hj] at h;rw [QA.1 h];exact .inl (fs _ _)
   | cons y r =>
    rw [hj] at h ih;simp only at h;split at h
    ·rcases Qs.1 h with e | h
     ·rw [e]; exact .inl (fs _ _)
     ·rcases ih (QK _ h) with h | h
      ·exact .inl h
      ·exact .inr ⟨QK _ h.1,h.2⟩
    ·rcases Qs.1 h with e | h
     ·rw [e]; exact .inl (fs _ _)
     ·rcases ih h with h | h
      ·exact .inl h
      ·exact .inr ⟨QK _ h.1,h.2⟩
  ·rw [no x l hx] at h;rcases Qs.1 h with e | h
   ·rw [e]; exact .inr ⟨QJ,by simpa using hx⟩
   ·rcases ih h with h | h
    ·exact .inl h
    ·exact .inr ⟨QK _ h.1,h.2⟩
theorem nE:∀ (l:List aw),ba (bJ l)=ba l
 | []=>rfl
 | x::l=>by
  have ih:=nE l;have fs:∀ t n,(aE t n).2.2.2.2=true:=fun _ _=>rfl
  by_cases hx:x.2.2.2.2=true
  ·simp only [bJ,ba];rw [if_pos hx,if_pos hx];cases hj:bJ l with
   | nil =>
    rw [hj] at ih;simp only [ba];rw [if_pos (fs _ _)];exact ih
   | cons y r =>
    rw [hj] at ih;simp only;by_cases hy:y.2.2.2.2=true
    ·simp only [ba] at ih;rw [if_pos hy] at ih;rw [if_pos hy];simp only [ba];rw [if_pos (fs _ _)];exact ih
    ·rw [if_neg hy]
     have:ba (aE x.1 (aa x.2)::y::r)=ba (y::r):=by
      rw [ba,if_pos (fs _ _)]
     rw [this,ih]
  ·rw [no x l hx];simp only [ba];rw [if_neg hx,if_neg hx,ih]
theorem pE {P R:List Int} {s L:Int} (hp:P.length=s.toNat) (_h0:0<=s) (h1:0<L) (_h2:L.toNat<=R.length):aV (P++R) s L=P++(bY L++R.drop L.toNat):=by
 unfold aV eT mJ bY;rw [if_pos h1,if_pos h1,<- hp,List.take_left,QG (by simp)];have e:(P++R).drop (P.length+L.toNat)=R.drop L.toNat:=by rw [<- RM,List.drop_left]
 rw [e,show L.toNat=(L - 1).toNat+1 by omega,Sc,Rf,pZ _ rfl];rfl
theorem rW {a:List Int}:∀ (k:List aw) (s:Int) (P:List Int),fI s a.length k->0<=s->P.length=s.toNat->(gH k).foldl (fun a r=>aV a r.1 r.2) (P++a.drop s.toNat)=P++ic a k
 | [],s,P,h,h0,hp=>by
  simp only [fI] at h;simp only [gH,List.foldl_nil,ic];rw [QX (by omega)]
 | x::k,s,P,⟨e0,h1,h2⟩,h0,hp=>by
  have hle:=pQ h2;subst e0;simp only [gH,ic];by_cases hx:x.2.2.2.2=true
  ·rw [if_pos hx,if_pos hx];simp only [Sn];rw [pE hp h0 (by omega) (by rw [QH]; omega),RM,<- List.append_assoc,<- List.append_assoc,show x.1.toNat+(aa x.2).toNat=(x.1+aa x.2).toNat by omega];exact rW k (x.1+aa x.2) _ h2 (by omega) (by rw [KK,bQ]; omega)
  ·rw [if_neg hx,if_neg hx]
   have e:P++a.drop x.1.toNat=(P++(a.drop x.1.toNat).take (aa x.2).toNat)++a.drop (x.1+aa x.2).toNat:=by
    rw [List.append_assoc,show (x.1+aa x.2).toNat=x.1.toNat+(aa x.2).toNat by omega,<- RM,Ru]
   rw [e,<- List.append_assoc];exact rW k (x.1+aa x.2) _ h2 (by omega) (by rw [KK,QD,QH]; omega)
theorem sz {a:List Int} (hal:a.length<=256):∀ (k:List aw) (s:Int),fI s a.length k->0<=s->(∀ x∈k,x.2.2.2.2=false->x.2=aW (a.getD x.1.toNat 0)/\bg (a.getD x.1.toNat 0)=true)->(∀ x∈k,x.2.2.2.2=true->x=aE x.1 (aa x.2))->spotsS s (ic a k)=some k
 | [],s,_,_,_,_=>by rw [ic,spotsS]
 | x::k,s,⟨e0,h1,h2⟩,h0,hn,hf=>by
  have hle:=pQ h2;have ih:=sz hal k (s+aa x.2) h2 (by omega) (fun y hy=>hn y (QK _ hy)) (fun y hy=>hf y (QK _ hy));subst e0;simp only [ic];by_cases hx:x.2.2.2.2=true
  ·rw [if_pos hx,gO (by omega),if_pos (by omega),ih,Q6,<- hf x QJ hx]
  ·rw [if_neg hx];obtain ⟨e1,e2⟩:=hn x QJ (by simpa using hx)
   have e3:(a.drop x.1.toNat).take (aa x.2).toNat=a.getD x.1.toNat 0::(a.drop (x.1.toNat+1)).take ((aa x.2).toNat - 1):=by
    have hlt:x.1.toNat<a.length:=by omega
    rw [Rq hlt,show (aa x.2).toNat=((aa x.2).toNat - 1)+1 by omega,RC];simp [List.getD_eq_getElem?_getD,hlt]
   rw [e3,ii e2 (by rw [<- e1,QD,QH]; omega),<- e1,ih];rfl
theorem mR {a:List Int}:∀ (k:List aw) (s:Int) {x:aw},fI s a.length k->0<=s->x∈k->∃ X Y,ic a k=X++((if x.2.2.2.2=true then bY (aa x.2) else (a.drop x.1.toNat).take (aa x.2).toNat)++Y)/\(X.length:Int)=x.1 - s/\0<=x.1/\1<=aa x.2/\x.1+aa x.2<=a.length
 | y::k,s,x,⟨e0,h1,h2⟩,h0,hm=>by
  have hle:=pQ h2;rcases Qs.1 hm with e | hm
  ·subst e;exact ⟨[],ic a k,rfl,by simp; omega,by omega,h1,by omega⟩
  ·obtain ⟨X,Y,e,hx,p1,p2,p3⟩:=mR k (s+aa y.2) h2 (by omega) hm;refine ⟨(if y.2.2.2.2=true then bY (aa y.2) else (a.drop y.1.toNat).take (aa y.2).toNat)++X,Y,?_,?_,p1,p2,p3⟩
   ·rw [ic,e,List.append_assoc]
   ·rw [KK];split
    ·rw [bQ]; omega
    ·rw [QD,QH]; omega
theorem rN {a b:List Int} {x:aw} (h0:0<=x.1) (h1:0<=x.2.1) (h:∀ j:Nat,x.1+1<=j->(j:Int)<x.1+1+x.2.1->b[j]?=a[j]?):aQ b x=aQ a x:=by
 unfold aQ;apply Sq;intro j;rw [List.getElem?_drop,List.getElem?_drop,List.getElem?_take,List.getElem?_take];split
 ·exact h _ (by omega) (by omega)
 ·rfl
theorem lE {a:List Int} {l:List aw} (h1:a.length<=256) (h2:spotsS 0 a=some l):ac a=(l,0):=by
 unfold ac;rw [if_neg (by omega),h2]
theorem wv {a:List Int} (hc:(am a).2.2=0):am (cL a).1=(bJ (ac a).1,cI (bJ (ac a).1),0)/\(cL a).1=ic a (bJ (ac a).1)/\fI 0 a.length (bJ (ac a).1)/\(cL a).1.length=a.length/\aO false [] (ac a).1=gH (bJ (ac a).1):=by
 obtain ⟨hal,_,_,h0,_,hr,_⟩:=bp hc;have ht:=fZ h0;have hj:=ws ht;have hg:aO false [] (ac a).1=gH (bJ (ac a).1):=by rw [(zz _).1]; rfl
 have hw:(cL a).1=ic a (bJ (ac a).1):=by
  unfold cL;rw [if_neg (by omega),hg];have:=rW (a:=a) (bJ (ac a).1) 0 [] hj (by omega) rfl;simpa using this
 have hfr:∀ x∈bJ (ac a).1,x.2.2.2.2=true->x=aE x.1 (aa x.2):=fun x hx hf=>by
  rcases wu hx with h | h
  ·exact h
  ·rw [h.2] at hf; cases hf
 have hnf:∀ x∈bJ (ac a).1,x.2.2.2.2=false->x∈(ac a).1:=fun x hx hf=>by
  rcases wu hx with h | h
  ·rw [h] at hf; cases hf
  ·exact h.1
 have hsp:=sz hal (bJ (ac a).1) 0 hj (by omega) (fun x hx hf=>sD x (hnf x hx hf)) hfr
 have hlen:(ic a (bJ (ac a).1)).length=a.length:=by
  have:=pU 0 _ _ hsp;have h1:=nN this;have h2:=nN hj;omega
 have hS:ac (ic a (bJ (ac a).1))=(bJ (ac a).1,0):=lE (by omega) hsp;have hsort:=ca (ic a (bJ (ac a).1));rw [hS] at hsort;refine ⟨?_,hw,hj,by rw [hw]; exact hlen,hg⟩;rw [hw];unfold am;rw [hS,if_neg (by simp),if_pos];refine Qy.2 fun s hs=>?_
 cases hf:s.2.2.2.2
 ·have hm:=hnf s hs hf;obtain ⟨_,hin,_⟩:=fb a s hm;obtain ⟨X,Y,e,hX,p1,p2,p3⟩:=mR _ 0 hj (by omega) hs;rw [if_neg (by rw [hf]; simp)] at e;have hL:aa s.2=1+s.2.1+s.2.2.1:=rfl;unfold du at hin
  have er:aQ (ic a (bJ (ac a).1)) s=aQ a s:=by
   refine rN p1 hin.2.1 fun j j1 j2=>?_
   rw [e,List.getElem?_append_right (by omega),List.getElem?_append_left (by rw [QD,QH]; omega),List.getElem?_take,if_pos (by omega),List.getElem?_drop];congr 1;omega
  rw [er];have h3:=Qy.1 hr s hm;refine Qy.2 fun v hv=>?_
  have h4:=Qy.1 h3 v hv;unfold cI at h4 |-;rw [j9 _ _ _ 0 (ca a)] at h4;rw [j9 _ _ _ 0 hsort];have e1:(oh v 0 (bJ (ac a).1)).isSome=(oh v 0 (ac a).1).isSome:=by rw [lL,lL,nE]
  cases h5:oh v 0 (ac a).1 with
  | none =>
   rw [h5] at h4 e1;cases h6:oh v 0 (bJ (ac a).1) with
   | none=>exact h4
   | some k=>rfl
  | some k =>
   rw [h5] at e1;cases h6:oh v 0 (bJ (ac a).1) with
   | none=>rw [h6] at e1; cases e1
   | some k=>rfl
 ·rw [hfr s hs hf]
  have:aQ (ic a (bJ (ac a).1)) (aE s.1 (aa s.2))=[]:=by
   unfold aQ aE;simp only [Int.add_zero];exact QX (by rw [QD]; omega)
  rw [this];rfl
theorem mm:∀ {l:List aw} {r:db},r∈gH l->∃ s∈l,s.2.2.2.2=true/\r=(s.1,aa s.2)
 | x::l,r,h=>by
  simp only [gH] at h;split at h
  ·rename_i hx;rcases Qs.1 h with e | h
   ·exact ⟨x,QJ,hx,e⟩
   ·obtain ⟨s,hs,h⟩:=mm h;exact ⟨s,QK _ hs,h⟩
  ·obtain ⟨s,hs,h⟩:=mm h;exact ⟨s,QK _ hs,h⟩
def fA (a:List Int) (r:db) (h:dY):List Int:=(aV (cL a).1 (r.1+aa h) (r.2 - aa h)).set r.1.toNat (aC h)
theorem Gy {a:List Int} (hc:(am a).2.2=0) {r:db} {h:dY} (hr:r∈aO false [] (ac a).1) (h0:af h=0) (hf:h.2.2.2=false) (hl:aa h<=r.2):iW (cL a).1 r.1 h=(fA a r h,0):=by
 obtain ⟨h1,h2,h3,h4,h5⟩:=wv hc;obtain ⟨hal,_⟩:=bp hc;rw [h5] at hr;obtain ⟨s,hs,hsf,e⟩:=mm hr;have hz:(am (cL a).1).2.2=0:=by rw [h1]
 have hsp:(ac (cL a).1).1=bJ (ac a).1:=by
  have:=(bp hz).2.2.1;rw [h1] at this;exact this.symm
 obtain ⟨X,Y,eW,hX,p1,p2,p3⟩:=mR _ 0 h3 (by omega) hs;rw [if_pos hsf] at eW;have e1:r.1=s.1:=by rw [e]
 have e2:r.2=aa s.2:=by rw [e]
 obtain ⟨g1,g2⟩:=FQ hz r.1 h;have hsort:=ca (cL a).1;rw [hsp] at g1 g2 hsort;have hrm:jq r.1 0 (bJ (ac a).1)=r.2:=by rw [e2]; exact vh _ 0 s hsort hs e1.symm hsf
 have hn:=a7 h0;have hL:aa h=1+h.1+h.2.1:=rfl;have e0:ue h=0:=by unfold ue; rw [hf,if_neg (by simp),h0]
 have ez:fY (ue h) r.2 (aa h)=0:=by unfold fY; rw [e0,if_neg (by omega),if_neg (by omega),if_neg (by omega)]
 rw [hrm,ez,if_neg (by omega)] at g1;have hlp:iF (cL a).1 r.1 r.2:=⟨by omega,by omega,by omega,by omega⟩;obtain ⟨t1,_⟩:=FP hlp (n:=aa h) (by omega) hl (aC h);rw [g1,<- t1]
 have hi:aV (cL a).1 r.1 r.2=(cL a).1:=by
  rw [h2,eW,e1,e2,pE (by omega) p1 (by omega) (by rw [KK,bQ]; omega),List.drop_append_of_le_length (by rw [bQ]; omega),QX (by rw [bQ]; omega),Q0]
 rw [hi];rfl
theorem zC (n:Int):∀ (l:List db) (k:Int),match l.find? (fun r=>decide (n<=r.2)) with
  | none=>bV n k l=[]
  | some r=>∃ i,0<=i/\i<(l.length:Int)/\l.getD i.toNat (0,0)=r/\bV n k l≠[]/\(bV n k l).getD 0 0=k+i
 | [],k=>rfl
 | r::l,k=>by
  have ih:=zC n l (k+1);by_cases h:n<=r.2
  ·rw [List.find?_cons_of_pos (by simpa using h)];simp only [bV];rw [if_pos h];exact ⟨0,by omega,by simp,rfl,by simp,by simp⟩
  ·rw [List.find?_cons_of_neg (by simpa using h)];simp only [bV];rw [if_neg h];cases hf:l.find? (fun r=>decide (n<=r.2)) with
   | none=>rw [hf] at ih; exact ih
   | some q =>
    rw [hf] at ih;obtain ⟨i,i0,i1,i2,i3,i4⟩:=ih;refine ⟨i+1,by omega,by simp only [HN]; omega,?_,i3,by omega⟩;rw [show (i+1).toNat=i.toNat+1 by omega];exact i2
def ie (a:List Int) (h:dY):List Int×Int×Bool:=match (aO false [] (ac a).1).find? (fun r=>decide (aa h<=r.2)) with
 | none=>([],0,false)
 | some r=>(fA a r h,r.1,true)
theorem Kz {n:Int} {l:List db} (hn:1<=n) (hg:∀ r∈l,0<=r.1/\1<=r.2):bD l n=if bV n 0 l=[] then (0,7) else ((bV n 0 l).getD 0 0,0):=by
 have hb:ei l=false:=by
  unfold ei;rw [SQ];intro r hr;have:=hg r hr;simp;omega
 have e:eR l n=if bV n 0 l=[] then ([],7) else (bV n 0 l,0):=by
  unfold eR;rw [if_neg (show ¬ n<1 by omega),hb,if_neg (by simp)]
 unfold bD;rw [e];by_cases h:bV n 0 l=[]
 ·rw [if_pos h,if_pos h];rfl
 ·rw [if_neg h,if_neg h];rfl
end
section
def xa (o:List Int) (x:Int):List Int:=if fR o x=true then o else o++[x]
theorem su:∀ (l o:List Int),∃ k,l.foldl xa o=o++k/\∀ x∈k,x∈l
 | [],o=>⟨[],by simp,fun x hx=>by cases hx⟩
 | y::l,o=>by
  obtain ⟨k,h1,h2⟩:=su l (xa o y);rw [Sn,h1];unfold xa;split
  ·exact ⟨k,rfl,fun x hx=>QK _ (h2 x hx)⟩
  ·refine ⟨y::k,by simp,fun x hx=>?_⟩;rcases Qs.1 hx with rfl | hx
   ·simp
   ·exact QK _ (h2 x hx)
theorem nA:∀ (l o:List Int),o.Nodup->(l.foldl xa o).Nodup
 | [],_,h=>h
 | y::l,o,h=>by
  rw [Sn];refine nA l _ ?_;unfold xa;split
  ·exact h
  ·rename_i hn;rw [Tk];refine ⟨h,by simp,fun x hx z hz=>?_⟩;rw [QA.1 hz];rintro rfl;exact hn (cG.2 hx)
structure Came (a f o:List Int):Prop where
 nodup:o.Nodup
 only:∀ x∈o,Rch a f x
theorem Came.length {a f o:List Int} (hw:∀ x∈a,ak .u64 x) (hc:(am a).2.2=0) (hf:∀ x∈f,isB (ac a).1 x=true) (h:Came a f o):o.length<=256 :=
 nW h.nodup fun x hx=>gY ((h.only x hx).isB hw hc hf)
theorem Came.first {a f:List Int} {l:List Int} (h:∀ x∈l,x∈f):Came a f (l.foldl xa []):=by
 refine ⟨nA _ _ List.nodup_nil,fun x hx=>?_⟩;obtain ⟨k,h1,h2⟩:=su l [];rw [h1,Q0] at hx;exact .base (h x (h2 x hx))
theorem yw:∀ {l:List aw} {s t:aw},l.Pairwise (fun s t=>s.1<t.1)->s∈l->t∈l->s.1=t.1->s=t
 | u::l,s,t,h,hs,ht,e=>by
  obtain ⟨h1,h2⟩:=Q9.1 h;rcases Qs.1 hs with e1 | hs2 <;> rcases Qs.1 ht with e2 | ht2
  ·rw [e1,e2]
  ·have:=h1 t ht2; rw [<- e1] at this; omega
  ·have:=h1 s hs2; rw [<- e2] at this; omega
  ·exact yw h2 hs2 ht2 e
theorem Nc {a:List Int} (hc:(am a).2.2=0) {x:Int} (hx:isB (ac a).1 x=true):0<=ag (fun s:aw=>decide (s.1=x)) 0 (am a).1/\(am a).1.getD (ag (fun s:aw=>decide (s.1=x)) 0 (am a).1).toNat (0,0,0,0,false)=(x,eX a x)/\iy a x=(im a (x,eX a x) (am a).2.1,0):=by
 obtain ⟨_,_,e1,_,_,_,_⟩:=bp hc;have hm:=(fG hx).1
 have hge:0<=ag (fun s:aw=>decide (s.1=x)) 0 (am a).1:=by
  have h:=ep (fun s:aw=>decide (s.1=x)) (am a).1 0 (by omega);rw [e1] at h |-;refine tM (h.trans (RI.2 ⟨_,hm,by simp⟩))
 have hlt:=em (fun s:aw=>decide (s.1=x)) (0,0,0,0,false) (am a).1 0 (by omega)
 have hg:(am a).1.getD (ag (fun s:aw=>decide (s.1=x)) 0 (am a).1).toNat (0,0,0,0,false)=(x,eX a x):=by
  have h1:=eo (fun s:aw=>decide (s.1=x)) (0,0,0,0,false) (am a).1 0 hge (by omega);rw [Su] at h1;have h2:=aI ((0,0,0,0,false):aw) hge (by omega:ag (fun s:aw=>decide (s.1=x)) 0 (am a).1<((am a).1.length:Int));rw [e1] at h1 h2 |-;exact yw (ca a) h2 hm (tM h1)
 refine ⟨hge,hg,?_⟩;unfold iy;rw [if_neg (by omega),if_neg (by omega),hg]
end
section
open Go Go.RowKit Go.Lib
theorem nQ {P:Program} (w:World) (dT sT ty elem:TypeId) (K g o n dLen dCap:Nat) (a:Addr) (sLen sCap:Nat) (cur:Array Value) (t:TypeId) (cs:List Value)
  (hu:P.underlying dT=some (.slice elem)) (hs:(P.info? elem).map (·.size)=some K) (hg:w.heap[g]?=some (.cells cur t (0,0))) (hn:n=Nat.min sLen dLen) (hl:cs.length=n * K)
  (hsrc:∀ j v,cs[j]?=some v->w.cell? (a.add j)=some v) (hfit:o+n * K<=cur.size) (h1:∀ v∈cs,v.oneCell'=true) :
  (Builtin.copy_ #[dT,sT] ty #[.slice (some ⟨g,o,none⟩) dLen dCap,.slice (some a) sLen sCap]).run P w =
   .ok (goInt (n:Nat)) (w.setRow g (cur.toList.take o++cs++cur.toList.drop (o+n * K)).toArray):=by
 have hl':=run_loadCells_list (P:=P) w a cs hsrc;have hst:=run_storeCells_at P g o t cs 0 cur w hg (by omega) h1;rw [hl] at hl';rw [hl] at hst;cases hq:P.info? elem with
 | none=>simp [hq] at hs
 | some i =>
  have hi:i.size=K:=by simpa [hq] using hs
  simp [Builtin.copy_,QM hu,Builtin.lenOf,Builtin.firstCells,sizeOf,typeInfo,hq,hi,<- hn,hl',hst]
theorem Jd (cur l l2:List Value) {a b c:Nat} (h:cur.take c=l) (ha:a<=c) (hfit:c+b<=cur.length) (h2:l2.length=b) {c1:List Value} (h1:c1=cur.take (a+b)++l.drop a++cur.drop (a+b+(c - a))) :
  c1.length=cur.length/\(c1.take a++l2++c1.drop (a+b)).length=cur.length/\(c1.take a++l2++c1.drop (a+b)).take (c+b)=l.take a++l2++l.drop a:=by
 have hl:l.length=c:=by rw [<- h]; simp; omega
 have e1:(cur.take (a+b)).length=a+b:=by simp; omega
 have e2:c1.length=cur.length:=by rw [h1]; simp; omega
 have e3:c1.take a=l.take a:=by
  rw [h1,List.append_assoc,QY (by omega),R2,RO (by omega),<- h,R2,RO ha]
 have e4:c1.drop (a+b)=l.drop a++cur.drop (a+b+(c - a)):=by
  rw [h1,List.append_assoc,List.drop_append_of_le_length (by omega),QX (by omega),Q0]
 refine ⟨e2,?_,?_⟩
 ·rw [e3,e4]; simp; omega
 ·rw [e3,e4,<- List.append_assoc,QY (by simp; omega),QG (by simp; omega)]
theorem FW (l l2 z:List Value) {a b c G:Nat} (hl:l.length=c) (ha:a<=c) (h2:l2.length=b) (hz:a+z.length=G) (hG:c+b<=G) {c0 c1:List Value} (h0:c0=l.take a++z)
  (h1:c1=c0.take a++l2++c0.drop (a+b)) :
  c0.length=G/\c1.length=G/\(c1.take (a+b)++l.drop a++c1.drop (a+b+(c - a))).length=G/\(c1.take (a+b)++l.drop a++c1.drop (a+b+(c - a))).take (c+b)=l.take a++l2++l.drop a:=by
 have e0:c0.length=G:=by rw [h0]; simp; omega
 have e1:c0.take a=l.take a:=by rw [h0,QY (by simp; omega),R2,Nat.min_self]
 have e2:c1.length=G:=by rw [h1]; simp; omega
 have e3:c1.take (a+b)=l.take a++l2:=by
  rw [h1,e1,QY (by simp; omega),QG (by simp; omega)]
 refine ⟨e0,e2,by rw [e3]; simp; omega,?_⟩;rw [e3,QY (by simp; omega),QG (by simp; omega)]
theorem mG {P:Program} {ops:Array Oper} {o:Oper} {a:Act} {w:World} {K:Act->World->Prop} {Q:Exit->Act->World->Prop} {E:Prop}
  (hg:o.guard=none) (d x:Operand) (t tn:TypeId) (hop:o.op=Op.call { callee:=Callee.builtin Builtin.append,args:=#[d,x],argTypes:=#[t,tn] })
  (v u:Value) (hd:a.eval d=v) (hx:a.eval x=u) {v':Value} {w':World} (hr:(Builtin.append_ #[t,tn] o.type #[v,u]).run P w=.ok v' w') (hK:K (a.put o.dst v') w') :
  if Region.wanted o (yielded ops a.tmps)=true then Oper.wp P o a w K Q else E:=by
 have hw:Region.wanted o (yielded ops a.tmps)=true:=by simp [Region.wanted,hg]
 rw [if_pos hw];exact Lib.wp_append_run w d x t tn hop v u hd hx v' w' hr hK
theorem ly {P:Program} (w:World) {ops:Array Oper} {rest:List Oper} {o:Oper} {a:Act} {Q:Exit->Act->World->Prop} (hgd:o.guard=none) (x:Operand) (t:TypeId)
  (ho:o.op=.call { callee:=.builtin .clear,args:=#[x],argTypes:=#[t] }) (vx:Value) (hx:a.eval x=vx)
  (v':Value) (w':World) (hr:(Builtin.clear_ #[t] o.type #[vx]).run P w=.ok v' w') (h:wpList P ops Q rest (a.put o.dst v') w'):wpList P ops Q (o::rest) a w :=
 wpList_plain hgd fun _ hK=>by
  unfold Oper.wp execOp;simp only [ho,resolve,invoke,builtin,QL,QU,QC,R8,Q1,RR,hx,hr];exact hK _ _ h
def Bi {α:Type} (xs ys:List α) (i:Int):List α:=xs.take i.toNat++ys++xs.drop i.toNat
def E2 {α:Type} (xs:List α) (i j:Int):List α:=xs.take i.toNat++xs.drop j.toNat
theorem gb (w:World) {g:Nat} (cs:Array Value) {cur:Array Value} {t:TypeId} (h:w.heap[g]?=some (.cells cur t (0,0))):w.grownBy (w.setRow g cs) (some g):=by
 obtain ⟨_,h2,h3,h4,h5,h6⟩:=cf w g cs h;exact ⟨h2,h3,h4,by omega,fun k _ hk=>h6 k (fun e=>hk (by rw [e]))⟩
theorem kU (w:World) (row:Option Nat):w.grownBy w.drew row:=⟨rfl,rfl,rfl,QI _,fun _ _ _=>rfl⟩
theorem Bl (w:World) (o:Go.Obj) (row:Option Nat):w.grownBy (w.alloc o) row:=⟨rfl,rfl,rfl,by simp,fun k hk _=>heap_alloc_old w o hk⟩
theorem wy {w w1 w2:World} {N:Nat} {row:Option Nat} (h:w.grownBy w1 row) (k:w1.grownBy w2 (some N)) (hN:w.heap.size<=N):w.grownBy w2 row :=
 ⟨k.os.trans h.os,k.tape.trans h.tape,k.output.trans h.output,Ra h.size k.size,fun i hi hne=>(k.block i (Rp hi h.size) (fun e=>by injection e; omega)).trans (h.block i hi hne)⟩
def Fk (P:Program) (F:FuncId) (S:TypeId) (Z:Nat):Prop :=
 ∀ (w W1 W2:World) (g n c i vb m vc:Nat) (tA tB:TypeId) (kA kB:Nat),i<n->0<m->n+m<=c->c<=9223372036854775807->vb≠g ->
  w.shape? vb=some (tA,kA)->w.shape? g=some (tB,kB)->kB≠0->w.frozen? ⟨vb,0,none⟩=false->w.frozen? ⟨vb,kA,none⟩=false ->
  (∀ ty (d1 d2 d3 d4:Nat),d1=n - i->d2=n+m - i->(Builtin.copy_ #[S,S] ty #[.slice (some ⟨g,(i+m) * Z,none⟩) d1 d3,.slice (some ⟨g,i * Z,none⟩) d2 d4]).run P w.drew=.ok (goInt (n - i:Nat)) W1) ->
  (∀ ty (d1 d3:Nat),d1=n+m - i->(Builtin.copy_ #[S,S] ty #[.slice (some ⟨g,i * Z,none⟩) d1 d3,.slice (some ⟨vb,0,none⟩) m vc]).run P W1=.ok (goInt (m:Nat)) W2) ->
  Calls P F #[.slice (some ⟨g,0,none⟩) n c,.int .i64 i,.slice (some ⟨vb,0,none⟩) m vc] w fun e w'=>e=.returned (.slice (some ⟨g,0,none⟩) (n+m) c)/\w'=W2
def IL (P:Program) (F:FuncId) (S I:TypeId) (Z:Nat):Prop :=
 ∀ (w W0 W1 W2:World) (g N n c i vb m vc G:Nat),i<n->0<m->n<=c->c<n+m->n+m<=G->n+m<=9223372036854775807->G<=9223372036854775807 ->
  (∀ ty,(Builtin.append_ #[S,I] ty #[.slice (some ⟨g,0,none⟩) i c,.int .i64 ((n:Int)+(m:Int) - (i:Int))]).run P w=.ok (.slice (some ⟨N,0,none⟩) (n+m) G) W0) ->
  (∀ ty (d1 d3:Nat),d1=n+m - i->(Builtin.copy_ #[S,S] ty #[.slice (some ⟨N,i * Z,none⟩) d1 d3,.slice (some ⟨vb,0,none⟩) m vc]).run P W0=.ok (goInt (m:Nat)) W1) ->
  (∀ ty (d1 d2 d3 d4:Nat),d1=n - i->d2=n - i->(Builtin.copy_ #[S,S] ty #[.slice (some ⟨N,(i+m) * Z,none⟩) d1 d3,.slice (some ⟨g,i * Z,none⟩) d2 d4]).run P W1.drew=.ok (goInt (n - i:Nat)) W2) ->
  Calls P F #[.slice (some ⟨g,0,none⟩) n c,.int .i64 i,.slice (some ⟨vb,0,none⟩) m vc] w fun e w'=>e=.returned (.slice (some ⟨N,0,none⟩) (n+m) G)/\w'=W2
def Nu (P:Program) (F:FuncId) (S:TypeId):Prop :=
 ∀ (w W:World) (A:Option Addr) (n c vb m vc:Nat) (v':Value),0<m->n<=c->(A=none->n=0/\c=0)->(∀ a,A=some a->a.off=0/\a.spot=none) ->
  (Builtin.append_ #[S,S] S #[.slice A n c,.slice (some ⟨vb,0,none⟩) m vc]).run P w=.ok v' W ->
  Calls P F #[.slice A n c,.int .i64 n,.slice (some ⟨vb,0,none⟩) m vc] w fun e w'=>e=.returned v'/\w'=W
def gw (E:TypeId) (T:Ty):RowFn:={ e:=E,T:=T,Ts:=[ty_I],out:=true,tail:=true,pre:=fun (xs ys:List T.den) (i:Int)=>0<ys.length/\0<=i/\i<=xs.length/\(xs.length+ys.length) * T.bytes<=aK,F:=fun (xs ys:List T.den) (i:Int)=>Bi xs ys i }
theorem Oh {P:Program} {T:Ty} {F:FuncId} {S E I:TypeId} (hS:P.underlying S=some (.slice E)) (hI:P.underlying I=some (.int .i64)) (hf:ft P E T=true)
  (shift:Fk P F S T.size) (grow:IL P F S I T.size) (end_:Nu P F S):(gw E T).ok P F:=by
 intro p w v (xs:List T.den) l v2 (ys:List T.den) l2 vs (i:Int) _ _ hA hown hl hbig hp hown2 hl2 hne hargs hpre;obtain ⟨hm,hi0,hi1,hb⟩:0<ys.length/\0<=i/\i<=xs.length/\(xs.length+ys.length) * T.bytes<=aK:=hpre;obtain ⟨v1,rfl,hv1⟩:=hargs;have hv1:[v1]=[Value.int .i64 i]/\ak .i64 i:=hv1;obtain ⟨hv1,_⟩:=hv1;injection hv1 with hv1
 subst hv1;obtain ⟨k,rfl⟩:∃ k:Nat,i=k:=⟨i.toNat,by omega⟩;have hk:k<=xs.length:=by omega
 have hown:w.ownsRow 0 E T.size v xs.length l:=hown;have hown2:w.ownsRow 0 E T.size v2 ys.length l2:=hown2;have hl:aN (T.holds p) xs l:=hl;have hl2:aN (T.holds p) ys l2:=hl2;have hbig:xs.length * T.bytes<=aK:=hbig;obtain ⟨inf,z,hinf,hsz,hby,hz,hzs⟩:=dE hf;have hlen:l.length=xs.length * T.size:=hown.1;have hlen2:l2.length=ys.length * T.size:=hown2.1;have h1l:∀ u∈l,u.oneCell'=true:=fM (fun x cs h=>dD T x cs h) xs l hl;have h1l2:∀ u∈l2,u.oneCell'=true:=fM (fun x cs h=>dD T x cs h) ys l2 hl2;have hszE:(P.info? E).map (·.size)=some T.size:=by rw [hinf]; simp [hsz]
 have hpos:=Ty.size_pos T;have eF:((gw E T).F xs ys (k:Int):List T.den)=xs.take k++ys++xs.drop k:=by show Bi xs ys k=_; simp [Bi]
 have hFl:(xs.take k++ys++xs.drop k).length=xs.length+ys.length:=by simp; omega
 have hrow:aN (T.holds p) (xs.take k++ys++xs.drop k) (l.take (k * T.size)++l2++l.drop (k * T.size)) :=
  cC _ _ _ _ (cC _ _ _ _ (dz (fun x cs h=>Ty.holds_length T x cs h) k xs l hl) hl2) (fc (fun x cs h=>Ty.holds_length T x cs h) k xs l hl)
 have hb8:(xs.take k++ys++xs.drop k).length * T.bytes<=aK:=by rw [hFl]; exact hb
 have hb8e:=fx T
 have h63:xs.length+ys.length<=maxLen:=by
  have h2:(xs.length+ys.length) * 8<=(xs.length+ys.length) * T.bytes:=Rk _ hb8e;simp only [aK,maxLen] at *;omega
 have done:∀ (v':Value) (w':World) (e:Ending),e=.returned v'->w.grownBy w' v.ownBlock->w'.ownsRow 0 E T.size v' (xs.length+ys.length) (l.take (k * T.size)++l2++l.drop (k * T.size))->(∀ b,v'.ownBlock=some b->v.ownBlock=some b\/w.heap.size<=b) ->
   ∃ (v':Value) (l':List Value),e=.returned (if (gw E T).out then v' else .tuple #[])/\((gw E T).out=false->v'=v)/\w.grownBy w' v.ownBlock /\
   w'.ownsRow 0 (gw E T).e (gw E T).T.size v' ((gw E T).F xs ys (k:Int):List T.den).length l'/\aN ((gw E T).T.holds p) ((gw E T).F xs ys (k:Int)) l'/\((gw E T).F xs ys (k:Int):List T.den).length * (gw E T).T.bytes<=aK /\
   ∀ b,v'.ownBlock=some b->v.ownBlock=some b\/w.heap.size<=b:=by
  intro v' w' e he hg ho hbk;rw [eF];refine ⟨v',_,he,fun h=>(by cases h),hg,?_,hrow,hb8,hbk⟩;show w'.ownsRow 0 E T.size v' (xs.take k++ys++xs.drop k).length _;rw [hFl];exact ho
 rcases hown2.2 with ⟨_,h0⟩ | ⟨g2,cap2,cur2,rfl,_,hb2,h21,h22,h23,h24⟩
 ·omega
 have hvs:∀ (j:Nat) (u:Value),l2[j]?=some u->w.cell? ⟨g2,0+j,none⟩=some u:=by
  intro j u hj
  have:cur2.toList[j]?=some u:=by
   rw [<- h24,List.getElem?_take] at hj;split at hj
   ·exact hj
   ·cases hj
  simp only [World.cell?,hb2,Rl];simpa using this
 show Calls P F #[v,.int .i64 k,.slice (some ⟨g2,0,none⟩) ys.length cap2] w _;by_cases hkn:k=xs.length
 ·
  obtain ⟨v',w',r1,r2,r3,r4⟩:=mE (ty:=S) hS hf hown hl2 (A:=some ⟨g2,0,none⟩) (c:=cap2) (fun _=>⟨g2,0,rfl,hvs⟩) hb
  have el:l.take (k * T.size)++l2++l.drop (k * T.size)=l++l2:=by
   rw [hkn,QG (by omega),QX (by omega),Q8]
  have main:∀ (A:Option Addr) (n c:Nat),v=.slice A n c->xs.length=n->n<=c->(A=none->n=0/\c=0)->(∀ a,A=some a->a.off=0/\a.spot=none) ->
    Calls P F #[v,.int .i64 (xs.length:Int),.slice (some ⟨g2,0,none⟩) ys.length cap2] w fun e W=>e=.returned v'/\W=w':=by
   intro A n c hv hn h1 h2 h3;have h:=end_ w w' A n c g2 ys.length cap2 v' hm h1 h2 h3 (by rw [<- hv]; exact r1);rw [<- hv,<- hn] at h;exact h
  have hcall:Calls P F #[v,.int .i64 (xs.length:Int),.slice (some ⟨g2,0,none⟩) ys.length cap2] w fun e W=>e=.returned v'/\W=w':=by
   rcases hown.2 with ⟨hv,h0⟩ | ⟨g,cap,cur,hv,_,hbg,h1,h2,h3,h4⟩
   ·exact main none 0 0 hv h0 (QI _) (fun _=>⟨rfl,rfl⟩) (fun a h=>by cases h)
   ·exact main (some ⟨g,0,none⟩) xs.length cap hv rfl h1 (fun h=>by cases h) (fun a h=>by injection h with h; subst h; exact ⟨rfl,rfl⟩)
  subst hkn;refine hcall.mono fun e W h=>?_
  obtain ⟨rfl,rfl⟩:=h
  exact done v' _ _ rfl r3 (by rw [el]; exact r2) (fun b hb'=>by
   rcases r4 with r4 | r4
   ·exact .inl (by rw [<- r4]; exact hb')
   ·rw [r4] at hb';injection hb' with hb'
    exact .inr (by omega))
 have hkl:k<xs.length:=by omega
 rcases hown.2 with ⟨_,h0⟩ | ⟨g,cap,cur,rfl,_,hbg,h1,h2,h3,h4⟩
 ·omega
 have hgs:g<w.heap.size:=(Array.getElem?_eq_some_iff.1 hbg).1;have hvb:g2≠g:=fun e=>hne g rfl (by rw [e]; rfl)
 have hcap:cap<=9223372036854775807:=by unfold maxLen at h2; omega
 have hkz:(k+ys.length) * T.size=k * T.size+ys.length * T.size:=SB _ _ _;have hnz:(xs.length+ys.length) * T.size=xs.length * T.size+ys.length * T.size:=SB _ _ _;have hkn':k * T.size<=xs.length * T.size:=Q2 _ hk;have hdz:(xs.length - k) * T.size=xs.length * T.size - k * T.size:=Nat.sub_mul _ _ _;have hdrop:((l.drop (k * T.size)).length)=(xs.length - k) * T.size:=by rw [QH,hlen,hdz]
 have hlc:cur.toList.length=cap * T.size:=by simpa using h3
 have hsrc:∀ (j:Nat) (u:Value),(l.drop (k * T.size))[j]?=some u->w.cell? ⟨g,k * T.size+j,none⟩=some u:=by
  intro j u hj;rw [List.getElem?_drop] at hj
  have:cur.toList[k * T.size+j]?=some u:=by
   rw [<- h4,List.getElem?_take] at hj;split at hj
   ·exact hj
   ·cases hj
  simp only [World.cell?,hbg];simpa using this
 by_cases hroom:xs.length+ys.length<=cap
 ·
  have hfit:xs.length * T.size+ys.length * T.size<=cur.toList.length:=by
   rw [hlc,<- hnz];exact Q2 _ hroom
  have hkB:cur.size≠0:=by
   have:0<xs.length * T.size:=Nat.mul_pos (by omega) hpos;have:cur.toList.length=cur.size:=by simp
   omega
  have hgd:w.drew.heap[g]?=some (.cells cur E (0,0)):=hbg
  have hcp1:=fun ty (d1 d2 d3 d4:Nat) (e1:d1=xs.length - k) (e2:d2=xs.length+ys.length - k)=>nQ (P:=P) w.drew S S ty E T.size g ((k+ys.length) * T.size) (xs.length - k) d1 d3 ⟨g,k * T.size,none⟩ d2 d4 cur E (l.drop (k * T.size)) hS hszE hgd
   (by rw [e1,e2]; simp only [Nat.min_def]; split <;> omega) hdrop (fun j u hj=>by rw [Tc]; exact hsrc j u hj) (by
    have:cur.toList.length=cur.size:=by simp
    rw [hkz,hdz]; omega) (fun u hu=>h1l u (RW hu))
  obtain ⟨C1,hC1⟩:∃ C1:List Value,C1=cur.toList.take ((k+ys.length) * T.size)++l.drop (k * T.size)++cur.toList.drop ((k+ys.length) * T.size+(xs.length - k) * T.size):=⟨_,rfl⟩;rw [<- hC1] at hcp1;obtain ⟨s1,s2,s3⟩:=Jd cur.toList l l2 (a:=k * T.size) (b:=ys.length * T.size) (c:=xs.length * T.size) h4 hkn' hfit hlen2 (c1:=C1) (by rw [hC1,hkz,hdz]);have hg1:(w.drew.setRow g C1.toArray).heap[g]?=some (.cells C1.toArray E (0,0)):=(cf w.drew g C1.toArray hgd).1;have ho1:∀ b,b≠g->(w.drew.setRow g C1.toArray).heap[b]?=w.heap[b]?:=(cf w.drew g C1.toArray hgd).2.2.2.2.2
  have hcp2:=fun ty (d1 d3:Nat) (e1:d1=xs.length+ys.length - k)=>nQ (P:=P) (w.drew.setRow g C1.toArray) S S ty E T.size g (k * T.size) ys.length d1 d3 ⟨g2,0,none⟩ ys.length cap2 C1.toArray E l2 hS hszE hg1
   (by rw [e1]; simp only [Nat.min_def]; split <;> omega) hlen2 (fun j u hj=>by
    rw [Tc];have:=hvs j u hj;simp only [World.cell?,ho1 g2 hvb] at this |-;exact this) (by simp only [RE,s1]; omega) h1l2
  refine (shift w _ _ g xs.length cap k g2 ys.length cap2 E E cur2.size cur.size hkl hm hroom hcap hvb (by simp [World.shape?,hb2]) (by simp [World.shape?,hbg]) hkB (by simp [World.frozen?,hb2]) (by simp [World.frozen?,hb2]) hcp1 hcp2).mono ?_;rintro e w' ⟨rfl,rfl⟩;have hg2:=(cf (w.drew.setRow g C1.toArray) g ((C1.take (k * T.size)++l2++C1.drop (k * T.size+ys.length * T.size)).toArray) hg1).1;simp only at hg2 |-;refine done _ _ _ rfl (((kU w _).trans (gb w.drew _ hgd)).trans (gb _ _ hg1)) ⟨?_,.inr ⟨g,cap,_,rfl,Re _,hg2,hroom,h2,?_,?_⟩⟩ (fun b h=>.inl h)
  ·simp only [KK,QD,QH,hlen,hlen2,hnz];omega
  ·rw [RE,s2,hlc]
  ·rw [List.toList_toArray,hnz,s3]
 ·
  have hroom:cap<xs.length+ys.length:=by omega
  have grow0:=grownCap_ge w (xs.length+ys.length) cap E;have growM:=grownCap_le_maxLen w (xs.length+ys.length) cap E h63;have hbi:(xs.length+ys.length) * inf.bytes<=140737488355328:=Ra (Rk _ hby) hb;have hkk:(xs.length:Int)+(ys.length:Int) - (k:Int)=((xs.length+ys.length - k:Nat):Int):=by omega
  have hik:k+(xs.length+ys.length - k)=xs.length+ys.length:=by omega
  have hold:(Builtin.firstCells inf.size k (.slice (some ⟨g,0,none⟩) k cap)).run P w.drew=.ok (l.take (k * T.size)).toArray w.drew:=by
   rw [hsz];refine run_firstCells_some w.drew T.size k ⟨g,0,none⟩ k cap (l.take (k * T.size)) (by rw [QD,hlen]; omega) (fun j u hj=>?_);rw [Tc];rw [List.getElem?_take] at hj;split at hj
   ·have:cur.toList[j]?=some u:=by
     rw [<- h4,List.getElem?_take] at hj;split at hj
     ·exact hj
     ·cases hj
    show w.cell? _=_;simp only [World.cell?,hbg,Rl];simpa using this
   ·cases hj
  have hap:∀ ty,(Builtin.append_ #[S,I] ty #[.slice (some ⟨g,0,none⟩) k cap,.int .i64 ((xs.length:Int)+(ys.length:Int) - (k:Int))]).run P w=.ok (.slice (some ⟨w.heap.size,0,none⟩) (xs.length+ys.length) (grownCap w (xs.length+ys.length) cap E)) (w.drew.alloc (.cells ((l.take (k * T.size)).toArray++Builtin.zeroCells z.cells (xs.length+ys.length - k)++Builtin.zeroCells z.cells (grownCap w (xs.length+ys.length) cap E - (xs.length+ys.length))) E)):=fun ty=>by
   have h:=Lib.run_append_grow_zeros (P:=P) w S I ty E inf z .i64 .i64 hS hI hinf hz (some ⟨g,0,none⟩) k cap (l.take (k * T.size)) hold (xs.length+ys.length - k) (by omega) (by omega) (by omega)
    (by rw [hik]; unfold maxLen at h63; omega) (by
     have:(xs.length+ys.length - k) * inf.bytes<=(xs.length+ys.length) * inf.bytes:=Q2 _ (by omega);omega) (by rw [hik]; exact growslice_fits hroom hbi)
   rw [hik] at h;rw [hkk];exact h
  obtain ⟨G,hG⟩:∃ G,G=grownCap w (xs.length+ys.length) cap E:=⟨_,rfl⟩;rw [<- hG] at hap grow0 growM;obtain ⟨ROW,hROW⟩:∃ ROW:Array Value,ROW=(l.take (k * T.size)).toArray++Builtin.zeroCells z.cells (xs.length+ys.length - k)++Builtin.zeroCells z.cells (G - (xs.length+ys.length)):=⟨_,rfl⟩;rw [<- hROW] at hap;have hGz:(xs.length+ys.length) * T.size<=G * T.size:=Q2 _ grow0;have hRl:ROW.toList=l.take (k * T.size)++((Builtin.zeroCells z.cells (xs.length+ys.length - k)).toList++(Builtin.zeroCells z.cells (G - (xs.length+ys.length))).toList):=by rw [hROW]; simp
  have hzl:((Builtin.zeroCells z.cells (xs.length+ys.length - k)).toList++(Builtin.zeroCells z.cells (G - (xs.length+ys.length))).toList).length=G * T.size - k * T.size:=by
   have zl:∀ n,(Builtin.zeroCells z.cells n).toList.length=n * T.size:=fun n=>by rw [Rw,size_zeroCells,hzs]
   rw [KK,zl,zl,Nat.sub_mul,Nat.sub_mul];omega
  have hN:(w.drew.alloc (.cells ROW E)).heap[w.heap.size]?=some (.cells ROW E (0,0)):=RZ w.drew _;have hold2:∀ b,b<w.heap.size->(w.drew.alloc (.cells ROW E)).heap[b]?=w.heap[b]?:=fun b hb=>heap_alloc_old w.drew _ hb
  have hg2s:g2<w.heap.size:=(Array.getElem?_eq_some_iff.1 hb2).1;obtain ⟨C1,hC1⟩:∃ C1:List Value,C1=ROW.toList.take (k * T.size)++l2++ROW.toList.drop (k * T.size+ys.length * T.size):=⟨_,rfl⟩;obtain ⟨s0,s1,s2,s3⟩:=FW l l2 _ (a:=k * T.size) (b:=ys.length * T.size) (c:=xs.length * T.size) (G:=G * T.size) hlen hkn' hlen2 (by rw [hzl]; omega) (by omega) (c0:=ROW.toList) hRl (c1:=C1) hC1;have hRs:ROW.size=G * T.size:=by simpa using s0
  have hcp1:=fun ty (d1 d3:Nat) (e1:d1=xs.length+ys.length - k)=>nQ (P:=P) (w.drew.alloc (.cells ROW E)) S S ty E T.size w.heap.size (k * T.size) ys.length d1 d3 ⟨g2,0,none⟩ ys.length cap2 ROW E l2 hS hszE hN
   (by rw [e1]; simp only [Nat.min_def]; split <;> omega) hlen2 (fun j u hj=>by
    rw [Tc];have:=hvs j u hj;simp only [World.cell?,hold2 g2 hg2s] at this |-;exact this) (by rw [hRs]; omega) h1l2
  rw [<- hC1] at hcp1;have hN1:((w.drew.alloc (.cells ROW E)).setRow w.heap.size C1.toArray).drew.heap[w.heap.size]?=some (.cells C1.toArray E (0,0)):=(cf _ w.heap.size C1.toArray hN).1;have ho1:∀ b,b<w.heap.size->((w.drew.alloc (.cells ROW E)).setRow w.heap.size C1.toArray).drew.heap[b]?=w.heap[b]?:=fun b hb=>((cf _ w.heap.size C1.toArray hN).2.2.2.2.2 b (by omega)).trans (hold2 b hb)
  have hcp2:=fun ty (d1 d2 d3 d4:Nat) (e1:d1=xs.length - k) (e2:d2=xs.length - k)=>nQ (P:=P) ((w.drew.alloc (.cells ROW E)).setRow w.heap.size C1.toArray).drew S S ty E T.size w.heap.size ((k+ys.length) * T.size) (xs.length - k) d1 d3 ⟨g,k * T.size,none⟩ d2 d4 C1.toArray E (l.drop (k * T.size)) hS hszE hN1
   (by rw [e1,e2]; simp only [Nat.min_def]; split <;> omega) hdrop (fun j u hj=>by
    rw [Tc];have:=hsrc j u hj;simp only [World.cell?,ho1 g hgs] at this |-;exact this) (by simp only [RE,s1]; rw [hkz,hdz]; omega) (fun u hu=>h1l u (RW hu))
  refine (grow w _ _ _ g w.heap.size xs.length cap k g2 ys.length cap2 G hkl hm h1 hroom grow0 (by unfold maxLen at h63; omega) (by unfold maxLen at growM; omega) hap hcp1 hcp2).mono ?_;rintro e w' ⟨rfl,rfl⟩;simp only;have hN2:=(cf ((w.drew.alloc (.cells ROW E)).setRow w.heap.size C1.toArray).drew w.heap.size ((C1.take ((k+ys.length) * T.size)++l.drop (k * T.size)++C1.drop ((k+ys.length) * T.size+(xs.length - k) * T.size)).toArray) hN1).1;rw [hkz,hdz] at hN2 |-;refine done _ _ _ rfl (wy ((wy ((kU w _).trans (Bl w.drew _ _)) (gb _ _ hN) (QI _)).trans (kU _ _)) (gb _ _ hN1) (QI _)) ⟨?_,.inr ⟨w.heap.size,G,_,rfl,Re _,hN2,grow0,growM,?_,?_⟩⟩ (fun b h=>.inr (by have h:some w.heap.size=some b:=h; injection h with h; omega))
  ·simp only [KK,QD,QH,hlen,hlen2,hnz];omega
  ·rw [RE,s2]
  ·rw [List.toList_toArray,hnz,s3]
def HK (P:Program) (E:TypeId):Bool:=match P.info? E with
 | some i=>match i.zero with
  | some z=>z.cells.toList.all fun u=>u.oneCell'
  | none=>false
 | none=>false
theorem Ma {P:Program} {E:TypeId} (h:HK P E=true) {i:TypeInfo} {z:Value} (hi:P.info? E=some i) (hz:i.zero=some z):∀ u∈z.cells.toList,u.oneCell'=true:=by
 unfold HK at h;rw [hi] at h;simp only [hz] at h;exact Qy.1 h
def IN (P:Program) (F:FuncId) (S:TypeId) (Z:Nat):Prop :=
 ∀ (w W1 W2:World) (g n c i j:Nat),i<j->j<=n->n<=c->c<=9223372036854775807 ->
  (∀ ty a d4,(j=n\/a=(⟨g,j * Z,none⟩:Addr))->(Builtin.append_ #[S,S] ty #[.slice (some ⟨g,0,none⟩) i c,.slice (some a) (n - j) d4]).run P w.drew=.ok (.slice (some ⟨g,0,none⟩) (i+(n - j)) c) W1) ->
  (∀ ty d4,(Builtin.clear_ #[S] ty #[.slice (some ⟨g,(i+(n - j)) * Z,none⟩) (j - i) d4]).run P W1=.ok (.tuple #[]) W2) ->
  Calls P F #[.slice (some ⟨g,0,none⟩) n c,.int .i64 i,.int .i64 j] w fun e w'=>e=.returned (.slice (some ⟨g,0,none⟩) (i+(n - j)) c)/\w'=W2
def gx (E:TypeId) (T:Ty):RowFn:={ e:=E,T:=T,Ts:=[ty_I,ty_I],out:=true,pre:=fun (xs _:List T.den) ((i,j):Int×Int)=>0<=i/\i<j/\j<=xs.length,F:=fun (xs _:List T.den) ((i,j):Int×Int)=>E2 xs i j }
theorem OA {P:Program} {T:Ty} {F:FuncId} {S E:TypeId} (hS:P.underlying S=some (.slice E)) (hf:ft P E T=true)
  (hz1:∀ i z,P.info? E=some i->i.zero=some z->∀ u∈z.cells.toList,u.oneCell'=true) (walk:IN P F S T.size):(gx E T).ok P F:=by
 intro p w v (xs:List T.den) l v2 (ys:List T.den) l2 vs (x:Int×Int) _ _ hA hown hl hbig hp _ _ _ hargs hpre;obtain ⟨i,j⟩:=x;obtain ⟨hi0,hij,hj⟩:0<=i/\i<j/\j<=xs.length:=hpre;obtain ⟨v1,rest,rfl,hv1,v3,rfl,hv3⟩:=hargs;have hv1:[v1]=[Value.int .i64 i]/\ak .i64 i:=hv1;have hv3:[v3]=[Value.int .i64 j]/\ak .i64 j:=hv3;obtain ⟨hv1,_⟩:=hv1;obtain ⟨hv3,_⟩:=hv3;injection hv1 with hv1
 injection hv3 with hv3
 subst hv1 hv3;obtain ⟨i,rfl⟩:∃ k:Nat,i=k:=⟨i.toNat,by omega⟩;obtain ⟨j,rfl⟩:∃ k:Nat,j=k:=⟨j.toNat,by omega⟩;have hown:w.ownsRow 0 E T.size v xs.length l:=hown;have hl:aN (T.holds p) xs l:=hl;have hbig:xs.length * T.bytes<=aK:=hbig;obtain ⟨inf,z,hinf,hsz,hby,hz,hzs⟩:=dE hf;have hlen:l.length=xs.length * T.size:=hown.1;have h1l:∀ u∈l,u.oneCell'=true:=fM (fun x cs h=>dD T x cs h) xs l hl;have hpos:=Ty.size_pos T;have hij':i<j:=by omega
 have hj':j<=xs.length:=by omega
 have eF:((gx E T).F xs ys ((i:Int),(j:Int)):List T.den)=xs.take i++xs.drop j:=by show E2 xs i j=_; simp [E2]
 have hFl:(xs.take i++xs.drop j).length=i+(xs.length - j):=by simp; omega
 have hrow:aN (T.holds p) (xs.take i++xs.drop j) (l.take (i * T.size)++l.drop (j * T.size)) :=
  cC _ _ _ _ (dz (fun x cs h=>Ty.holds_length T x cs h) i xs l hl) (fc (fun x cs h=>Ty.holds_length T x cs h) j xs l hl)
 rcases hown.2 with ⟨_,h0⟩ | ⟨g,cap,cur,rfl,_,hbg,h1,h2,h3,h4⟩
 ·omega
 have hcap:cap<=9223372036854775807:=by unfold maxLen at h2; omega
 have hiz:i * T.size<=xs.length * T.size:=Q2 _ (by omega);have hjz:j * T.size<=xs.length * T.size:=Q2 _ hj';have hijz:i * T.size<=j * T.size:=Q2 _ (by omega);have hnz:xs.length * T.size<=cap * T.size:=Q2 _ h1;have hdz:(xs.length - j) * T.size=xs.length * T.size - j * T.size:=Nat.sub_mul _ _ _;have hoz:(i+(xs.length - j)) * T.size=i * T.size+(xs.length * T.size - j * T.size):=by rw [SB,hdz]
 have hcz:(j - i) * T.size=j * T.size - i * T.size:=Nat.sub_mul _ _ _;have hlc:cur.toList.length=cap * T.size:=by simpa using h3
 have hdrop:((l.drop (j * T.size)).length)=(xs.length - j) * T.size:=by rw [QH,hlen,hdz]
 have hsrc:∀ (k:Nat) (u:Value),(l.drop (j * T.size))[k]?=some u->w.cell? ⟨g,j * T.size+k,none⟩=some u:=by
  intro k u hk;rw [List.getElem?_drop] at hk
  have:cur.toList[j * T.size+k]?=some u:=by
   rw [<- h4,List.getElem?_take] at hk;split at hk
   ·exact hk
   ·cases hk
  simp only [World.cell?,hbg];simpa using this
 have hgd:w.drew.heap[g]?=some (.cells cur E (0,0)):=hbg;obtain ⟨C1,hC1⟩:∃ C1:List Value,C1=cur.toList.take (i * T.size)++l.drop (j * T.size)++cur.toList.drop (i * T.size+(xs.length * T.size - j * T.size)):=⟨_,rfl⟩
 have hC1l:C1.length=cap * T.size:=by
  rw [hC1];simp only [KK,QD,QH,hlen,hlc];omega
 have hap:=fun ty (a:Addr) d4 (ha:j=xs.length\/a=⟨g,j * T.size,none⟩)=>run_append_room (P:=P) w.drew S ty E inf hS hinf g i cap cur hgd a (xs.length - j) d4 (l.drop (j * T.size)) (by rw [hsz]; exact hdrop)
  (fun k u hk=>by
   rcases ha with ha | rfl
   ·rw [QX (by rw [ha]; omega)] at hk;simp at hk
   ·rw [Tc]; exact hsrc k u hk) (fun u hu=>h1l u (RW hu)) (by omega) (by
    have:cur.toList.length=cur.size:=by simp
    rw [hsz,hdrop,hdz]; omega)
 rw [hsz,hdrop,hdz,<- hC1] at hap;have hg1:(w.drew.setRow g C1.toArray).heap[g]?=some (.cells C1.toArray E (0,0)):=(cf w.drew g C1.toArray hgd).1;have hzr:∀ w,(zeroValue E).run P w=.ok z w:=fun w=>by simp [zeroValue,typeInfo,hinf,hz]
 have hzc:z.cells.size=T.size:=hzs
 have hcl:=fun ty d4=>yz (P:=P) (w:=w.drew.setRow g C1.toArray) hS hzr ty (b:=g) (o:=(i+(xs.length - j)) * T.size) (n:=j - i) (c:=d4) (cur:=C1.toArray) (ct:=E) (by omega) hg1 (fun u hu=>by
  rw [eP z.cells (by omega)] at hu;obtain ⟨y,hy,hu⟩:=List.mem_flatten.1 hu;rw [RB hy] at hu
  exact hz1 inf z hinf hz u hu) (by
   have e1:C1.toArray.size=cap * T.size:=by simpa using hC1l
   have e2:(j - i) * z.cells.size=j * T.size - i * T.size:=by rw [hzc,hcz]
   rw [e1,e2,hoz];omega)
 refine (walk w _ _ g xs.length cap i j hij' hj' h1 hcap hap hcl).mono ?_;rintro e w' ⟨rfl,rfl⟩;have hg2:=(cf (w.drew.setRow g C1.toArray) g ((C1.take ((i+(xs.length - j)) * T.size)++(madeCells z.cells ((j - i) * z.cells.size)).toList++C1.drop ((i+(xs.length - j)) * T.size+(j - i) * z.cells.size)).toArray) hg1).1;simp only
 have hml:(madeCells z.cells ((j - i) * z.cells.size)).toList.length=j * T.size - i * T.size:=by
  rw [Rw,RL,hzc,hcz]
 have done:∀ (W:World),w.grownBy W (some g)->W.ownsRow 0 E T.size (.slice (some ⟨g,0,none⟩) (i+(xs.length - j)) cap) (i+(xs.length - j)) (l.take (i * T.size)++l.drop (j * T.size)) ->
   ∃ (v':Value) (l':List Value),Ending.returned (.slice (some ⟨g,0,none⟩) (i+(xs.length - j)) cap)=.returned (if (gx E T).out then v' else .tuple #[])/\((gx E T).out=false->v'=.slice (some ⟨g,0,none⟩) xs.length cap)/\w.grownBy W (Value.slice (some ⟨g,0,none⟩) xs.length cap).ownBlock /\
   W.ownsRow 0 (gx E T).e (gx E T).T.size v' ((gx E T).F xs ys ((i:Int),(j:Int)):List T.den).length l'/\aN ((gx E T).T.holds p) ((gx E T).F xs ys ((i:Int),(j:Int))) l'/\((gx E T).F xs ys ((i:Int),(j:Int)):List T.den).length * (gx E T).T.bytes<=aK /\
   ∀ b,v'.ownBlock=some b->(Value.slice (some ⟨g,0,none⟩) xs.length cap).ownBlock=some b\/w.heap.size<=b:=by
  intro W hg ho;rw [eF];refine ⟨_,l.take (i * T.size)++l.drop (j * T.size),rfl,fun h=>(by cases h),hg,?_,hrow,?_,fun b h=>.inl h⟩
  ·show W.ownsRow 0 E T.size _ (xs.take i++xs.drop j).length _;rw [hFl];exact ho
  ·show (xs.take i++xs.drop j).length * T.bytes<=aK;rw [hFl];exact Ra (Q2 _ (by omega)) hbig
 refine done _ (((kU w _).trans (gb w.drew _ hgd)).trans (gb _ _ hg1)) ⟨?_,.inr ⟨g,cap,_,rfl,Re _,hg2,by omega,h2,?_,?_⟩⟩
 ·simp only [KK,QD,QH,hlen,hoz];omega
 ·rw [RE,KK,KK,QD,QH,hml,hC1l,hzc,hoz,hcz];omega
 ·rw [List.toList_toArray,List.append_assoc,QY (by rw [QD,hC1l,hoz]; omega),R2,Nat.min_self,hC1,hoz];rw [QY (by simp only [KK,QD,QH,hlen,hlc]; omega),QG (by simp only [KK,QD,QH,hlen,hlc]; omega)];congr 1;rw [<- h4,R2,RO hiz]
end
section
def Ju:Spec:={ Ts:=[ty_I],Rs:=[.dat .bool],pre:=fun _=>True,F:=fun _=>false }
def yV:Prop :=
  ∀ (x:Int),ak .i64 x->True->decide (x≠x)=false/\True
theorem FG:yV:=by
 unfold yV;intro x _ _;simp
theorem J5:Ju.ok Tryz.prog 235:=aD (ann:=cF) ap Tryz.func235 (by kernel_rfl) FG
def Ki (l:List Int) (x:Int):Int:=((l.filter fun y=>decide (y<x)).length:Int)
theorem Pt {l:List Int} {x:Int} {lo:Nat} (hlo:lo<=l.length) (h1:∀ j:Nat,j<lo->l.getD j 0<x) (h2:∀ j:Nat,lo<=j->j<l.length->x<=l.getD j 0):Ki l x=lo:=by
 unfold Ki
 have e:l.filter (fun y=>decide (y<x))=l.take lo:=by
  have e1:l=l.take lo++l.drop lo:=(Ru lo l).symm
  have e2:(l.take lo).filter (fun y=>decide (y<x))=l.take lo:=by
   rw [List.filter_eq_self];intro y hy;obtain ⟨j,hj,rfl⟩:=SZ.1 hy;have hj2:j<lo/\j<l.length:=by simp at hj; omega
   have:=h1 j hj2.1;rw [List.getD_eq_getElem?_getD,List.getElem?_eq_getElem hj2.2] at this;simpa using this
  have e3:(l.drop lo).filter (fun y=>decide (y<x))=[]:=by
   rw [List.filter_eq_nil_iff];intro y hy;obtain ⟨j,hj,rfl⟩:=SZ.1 hy;have hj2:lo+j<l.length:=by simp at hj; omega
   have:=h2 (lo+j) (by omega) hj2;rw [List.getD_eq_getElem?_getD,List.getElem?_eq_getElem hj2] at this;simp at this |-;omega
  conv=>lhs; rw [e1]
  rw [SO,e2,e3,Q8]
 rw [e,QD,RO hlo]
theorem Pu {l:List Int} {x:Int} {lo:Nat} (hs:l.Pairwise (·<=·)) (h1:∀ j:Nat,j<lo->l.getD j 0<x) (h2:∀ j:Nat,lo<=j->j<l.length->x<=l.getD j 0):fR l x=(decide (lo<l.length)&&decide (l.getD lo 0=x)):=by
 by_cases h:lo<l.length/\l.getD lo 0=x
 ·rw [Rm h.1,Rm h.2];refine cG.2 ?_;rw [<- h.2,List.getD_eq_getElem?_getD,List.getElem?_eq_getElem h.1];simp
 ·have e:(decide (lo<l.length)&&decide (l.getD lo 0=x))=false:=by
   by_cases h3:lo<l.length
   ·by_cases h4:l.getD lo 0=x
    ·exact absurd ⟨h3,h4⟩ h
    ·rw [Rz h4,Bool.and_false]
   ·rw [Rz h3,SA]
  rw [e];cases hx:fR l x
  ·rfl
  ·exfalso;obtain ⟨j,hj,e2⟩:=SZ.1 (cG.1 hx);have ej:l.getD j 0=x:=by rw [List.getD_eq_getElem?_getD,List.getElem?_eq_getElem hj]; simpa using e2
   rcases QO j lo with hlt | hge
   ·have:=h1 j hlt; omega
   ·have hlo:lo<l.length:=by omega
    have h5:=h2 lo (QI _) hlo
    have h6:l.getD lo 0<=l.getD j 0:=by
     rcases QO lo j with h7 | h7
     ·have:=Sl.1 hs lo j hlo hj h7;rw [List.getD_eq_getElem?_getD,List.getElem?_eq_getElem hlo,List.getD_eq_getElem?_getD,List.getElem?_eq_getElem hj];simpa using this
     ·have:j=lo:=by omega
      subst this;exact RX _
    exact h ⟨hlo,by omega⟩
theorem sG {l:List Int} (hs:l.Pairwise (·<=·)) {i j:Nat} (h:i<=j) (hj:j<l.length):l.getD i 0<=l.getD j 0:=by
 rcases QO i j with h7 | h7
 ·have:=Sl.1 hs i j (by omega) hj h7;rw [List.getD_eq_getElem?_getD,List.getElem?_eq_getElem (show i<l.length by omega),List.getD_eq_getElem?_getD,List.getElem?_eq_getElem hj];simpa using this
 ·have:j=i:=by omega
  subst this;exact RX _
end
section
abbrev dr:Ty:=.pair ty_I ty_I
abbrev bh:=Int×Int
def mC (x:bh):Bool:=decide (x.1<0)||decide (255<x.1)||decide (x.2<1)||decide (1000000<x.2)
def cV:Int->List bh->Int
 | _,[]=>0
 | q,x::l=>if mC x=true then 4 else if x.1<=q then 3 else cV x.1 l
def bU (p:List bh):Int:=if 16<p.length then 2 else cV (-1) p
def ahead (p:List bh) (i:Int):Int:=if 0<i then (p.getD (i - 1).toNat (0,0)).1 else -1
theorem vP:∀ {p:List bh} {q:Int},cV q p=0->p.Pairwise (fun x y=>x.1<y.1)/\(∀ x∈p,q<x.1/\0<=x.1/\x.1<=255/\1<=x.2/\x.2<=1000000)
 | [],_,_=>⟨List.Pairwise.nil,fun _ h=>by cases h⟩
 | x::l,q,h=>by
  unfold cV at h;split at h
  ·omega
  ·rename_i hb;split at h
   ·omega
   ·rename_i hq;obtain ⟨h1,h2⟩:=vP h;have hb:mC x=false:=by simpa using hb
    simp only [mC,Rn,Rh] at hb;refine ⟨Q9.2 ⟨fun y hy=>(h2 y hy).1,h1⟩,fun y hy=>?_⟩;rcases Qs.1 hy with rfl | hy
    ·omega
    ·have:=h2 y hy; omega
theorem nR {p:List bh} (h:bU p=0):p.length<=16/\p.Pairwise (fun x y=>x.1<y.1)/\∀ x∈p,0<=x.1/\x.1<=255/\1<=x.2/\x.2<=1000000:=by
 unfold bU at h;split at h
 ·omega
 ·obtain ⟨h1,h2⟩:=vP h;exact ⟨by omega,h1,fun x hx=>(h2 x hx).2⟩
theorem wd:∀ {m:List bh} {k v:Int},bA m k=some v->(k,v)∈m
 | [],_,_,h=>by cases h
 | x::m,k,v,h=>by
  unfold bA at h;split at h
  ·rename_i hx;injection h with h
   subst h hx;simp
  ·exact QK _ (wd h)
theorem El:∀ {m:List bh} {x:bh},m.Pairwise (fun x y=>x.1<y.1)->x∈m->bA m x.1=some x.2
 | [],_,_,h=>by cases h
 | y::m,x,hp,h=>by
  obtain ⟨h1,h2⟩:=Q9.1 hp;unfold bA;rcases Qs.1 h with rfl | h
  ·rw [if_pos rfl]
  ·have:=h1 x h;rw [if_neg (by omega)];exact El h2 h
def fH (m:List bh) (k:Int):Int:=(bA m k).getD 0
def lm (p:List bh) (k:Int):Int:=Ki (p.map Prod.fst) k
def po (p:List bh) (k:Int):Bool:=fR (p.map Prod.fst) k
theorem Es {p:List bh} (hp:p.Pairwise (fun x y=>x.1<y.1)) {k:Int}:po p k=(bA p k).isSome:=by
 apply Ry.2;unfold po;rw [cG,QR];constructor
 ·rintro ⟨x,hx,rfl⟩;rw [El hp hx];rfl
 ·intro h;obtain ⟨v,hv⟩:=R9.1 h;exact ⟨_,wd hv,rfl⟩
theorem MJ (p:List bh) (i:Nat):(p.map Prod.fst).getD i 0=(p.getD i (0,0)).1:=by
 rw [List.getD_eq_getElem?_getD,List.getD_eq_getElem?_getD,List.getElem?_map];cases p[i]? <;> rfl
theorem Kh {p:List bh} (hp:p.Pairwise (fun x y=>x.1<y.1)) (k:Int):∃ A B:List bh,(∀ x∈A,x.1<k)/\(∀ x∈B,k<x.1)/\lm p k=A.length /\
  ((bA p k=none/\p=A++B)\/∃ v,bA p k=some v/\p=A++(k,v)::B):=by
 induction p with
 | nil=>exact ⟨[],[],(fun _ h=>by cases h),(fun _ h=>by cases h),rfl,.inl ⟨rfl,rfl⟩⟩
 | cons y p ih =>
  obtain ⟨h1,h2⟩:=Q9.1 hp
  have e:lm (y::p) k=(if y.1<k then 1 else 0)+lm p k:=by
   unfold lm Ki;rw [Q1,List.filter_cons];by_cases hy:y.1<k
   ·rw [if_pos (Rm hy),if_pos hy,HN];omega
   ·rw [if_neg (by simpa using hy),if_neg hy];omega
  have e0:k<=y.1->lm p k=0:=fun hk=>by
   unfold lm Ki
   have:(p.map Prod.fst).filter (fun z=>decide (z<k))=[]:=by
    rw [List.filter_eq_nil_iff];intro z hz;obtain ⟨x,hx,rfl⟩:=QR.1 hz;have:=h1 x hx;simp;omega
   rw [this];rfl
  rcases Int.lt_trichotomy y.1 k with hy | hy | hy
  ·obtain ⟨A,B,a1,a2,a3,a4⟩:=ih h2;refine ⟨y::A,B,fun x hx=>?_,a2,?_,?_⟩
   ·rcases Qs.1 hx with rfl | hx
    ·exact hy
    ·exact a1 x hx
   ·rw [e,if_pos hy,a3,HN];omega
   ·unfold bA;rw [if_neg (by omega)];rcases a4 with ⟨b1,b2⟩ | ⟨v,b1,b2⟩
    ·exact .inl ⟨b1,by rw [b2]; rfl⟩
    ·exact .inr ⟨v,b1,by rw [b2]; rfl⟩
  ·refine ⟨[],p,(fun x hx=>by cases hx),(fun x hx=>by have:=h1 x hx; omega),?_,.inr ⟨y.2,?_,?_⟩⟩
   ·rw [e,if_neg (by omega),e0 (by omega)];rfl
   ·unfold bA;rw [if_pos hy]
   ·rw [<- hy];rfl
  ·refine ⟨[],y::p,(fun x hx=>by cases hx),fun x hx=>?_,?_,.inl ⟨?_,rfl⟩⟩
   ·rcases Qs.1 hx with rfl | hx
    ·exact hy
    ·have:=h1 x hx; omega
   ·rw [e,if_neg (by omega),e0 (by omega)];rfl
   ·cases h:bA (y::p) k with
    | none=>rfl
    | some v =>
     have:=wd h;rcases Qs.1 this with h3 | h3
     ·rw [<- h3] at hy; simp at hy
     ·have:=h1 _ h3; simp at this; omega
end
section
open Go Go.RowKit Go.Lib
set_option maxHeartbeats 4000000 in
set_option maxRecDepth 100000 in
theorem AL:Fk Tryz.prog 203 32 2:=by
 intro w W1 W2 g n c i vb m vc tA tB kA kB hi hm hroom hc63 hvb hsa hsb hkB hfa hfe hcp1 hcp2
 have hov:∀ o lb cb,(callFunc 248 #[.slice (some ⟨vb,0,none⟩) m vc,.slice (some ⟨g,o,none⟩) lb cb]).run Tryz.prog w=.ok (.value (.bool false)) w:=fun o lb cb=>by
  rw [run_callFunc_extern Tryz.func248 (by kernel_rfl) (by kernel_rfl) (by kernel_rfl) (e:=Extern.SlicesOverlaps.overlaps #[32,32] #[4]) (by kernel_rfl),
   Lib.run_overlaps_apart w 32 4 157 (by kernel_rfl) 2 (fun _=>by kernel_rfl) ⟨vb,0,none⟩ ⟨g,o,none⟩ m vc lb cb hvb tA tB kA kB hsa hsb hkB hfa hfe]
  rfl
 have hz1:¬ ((m:Int)=0):=by omega
 have hz2:¬ ((i:Int)=(n:Int)):=by omega
 have mixed:Tryz.prog.follows .mixedOrders=true:=by kernel_rfl
 have hw1:IntKind.i64.wrap ((i:Int)+(m:Int))=(i:Int)+(m:Int):=by rw [IntKind.wrap_i64]; omega
 have hb1:(0:Int)<=(i:Int)+(m:Int):=by omega
 have hin:i<=n:=by omega
 have htn:((i:Int)+(m:Int)).toNat=i+m:=by omega
 have hb2:¬ (c=i+m):=by omega
 have hb3:(i:Int)<=(n:Int)+(m:Int):=by omega
 have hb4:¬ (c=i):=by omega
 go_enter Tryz.func203,Tryz.ntmps203
 go_wp2_with (simp only [hov])
 go_region_law_o (refine step_copy_runI rfl _ _ 32 32 rfl (.slice (some ⟨g,(i+m) * 2,none⟩) (n+m - (i+m)) (c - (i+m))) (.slice (some ⟨g,i * 2,none⟩) (n+m - i) (c - i)) (by simp [Act.eval,Act.put]) (by simp [Act.eval,Act.put]) (hcp1 _ _ _ _ _ (by omega) rfl) ?_)
 go_wp2_with (at_builtin; refine wpList_copy_runI _ rfl _ _ 32 32 rfl _ _ rfl rfl (hcp2 _ _ _ (by omega)) ?_)
 go_ret
 exact ⟨rfl,rfl⟩
set_option maxHeartbeats 4000000 in
set_option maxRecDepth 100000 in
theorem Et:IL Tryz.prog 203 32 3 2:=by
 intro w W0 W1 W2 g N n c i vb m vc G hi hm hn hroom hG h63 hG63 hrz hcp1 hcp2;have hz1:¬ ((m:Int)=0):=by omega
 have hz2:¬ ((i:Int)=(n:Int)):=by omega
 have hz3:(c:Int)<(n:Int)+(m:Int):=by omega
 have mixed:Tryz.prog.follows .mixedOrders=true:=by kernel_rfl
 have hGi:¬ (G=i):=by omega
 have hGim:¬ (G=i+m):=by omega
 have hci:¬ (c=i):=by omega
 have hw1:IntKind.i64.wrap ((i:Int)+(m:Int))=(i:Int)+(m:Int):=by rw [IntKind.wrap_i64]; omega
 have hb1:(0:Int)<=(i:Int)+(m:Int):=by omega
 have hin:i<=n:=by omega
 have htn:((i:Int)+(m:Int)).toNat=i+m:=by omega
 have hb3:(i:Int)<=(n:Int):=by omega
 go_enter Tryz.func203,Tryz.ntmps203
 go_wp2_with (first
  | (at_builtin; refine Lib.wpList_append_run _ rfl _ _ _ _ rfl _ _ rfl rfl _ _ (hrz _) ?_)
  | (at_builtin; refine wpList_copy_runI _ rfl _ _ 32 32 rfl _ _ rfl rfl (hcp1 _ _ _ rfl) ?_))
 go_region_law_o (refine step_copy_runI rfl _ _ 32 32 rfl (.slice (some ⟨N,(i+m) * 2,none⟩) (n+m - (i+m)) (G - (i+m))) (.slice (some ⟨g,i * 2,none⟩) (n - i) (c - i)) (by simp [Act.eval,Act.put]) (by simp [Act.eval,Act.put]) (hcp2 _ _ _ _ _ (by omega) rfl) ?_)
 go_wp2
 go_ret
 exact ⟨rfl,rfl⟩
set_option maxHeartbeats 4000000 in
set_option maxRecDepth 100000 in
theorem Hi:Nu Tryz.prog 203 32:=by
 intro w W A n c vb m vc v' hm hnc hnil hsome hr;have mixed:Tryz.prog.follows .mixedOrders=true:=by kernel_rfl
 have hz1:¬ ((m:Int)=0):=by omega
 cases A with
 | none =>
  obtain ⟨rfl,rfl⟩:=hnil rfl
  go_enter Tryz.func203,Tryz.ntmps203
  go_wp2_with (at_builtin; refine Lib.wpList_append_run _ rfl _ _ _ _ rfl _ _ rfl rfl _ _ hr ?_)
  go_ret
  exact ⟨rfl,rfl⟩
 | some ad =>
  obtain ⟨ab,ao,asp⟩:=ad;obtain ⟨e1,e2⟩:=hsome _ rfl;simp only at e1 e2;subst e1 e2
  go_enter Tryz.func203,Tryz.ntmps203
  go_wp2_with (at_builtin; refine Lib.wpList_append_run _ rfl _ _ _ _ rfl _ _ rfl rfl _ _ hr ?_)
  all_goals (go_ret; exact ⟨rfl,rfl⟩)
def Jv:RowFn:=gw 157 dr
theorem J6:Jv.ok Tryz.prog 203:=Oh (P:=Tryz.prog) (S:=32) (E:=157) (I:=3) (by kernel_rfl) (by kernel_rfl) (by kernel_rfl) AL Et Hi
set_option maxHeartbeats 4000000 in
set_option maxRecDepth 100000 in
theorem B9:IN Tryz.prog 204 32 2:=by
 intro w W1 W2 g n c i j hij hj hn hc63 hap hcl;have mixed:Tryz.prog.follows .mixedOrders=true:=by kernel_rfl
 have hz1:¬ ((i:Int)=(j:Int)):=by omega
 have hb1:i<=j:=by omega
 have hb2:j<=c:=by omega
 have hb3:i<=c:=by omega
 have hb4:i<=n:=by omega
 have hb5:¬ (c=i+(n - j)):=by omega
 have hb6:i+(n - j)<=n:=by omega
 have e1:n - (i+(n - j))=j - i:=by omega
 have hcl':=fun ty d4=>hcl ty d4
 simp only [<- e1] at hcl';by_cases hcj:c=j
 ·subst hcj;have hnj:n=c:=by omega
  subst hnj;simp only [SC,RQ] at hcl' |-
  go_enter Tryz.func204,Tryz.ntmps204
  go_wp2
  go_region_law_o (refine mG rfl _ _ 32 32 rfl (.slice (some ⟨g,0,none⟩) i n) (.slice (some ⟨g,0,none⟩) (n - n) (n - n)) (by simp [Act.eval,Act.put]) (by simp [Act.eval,Act.put]) (hap _ _ _ (.inl trivial)) ?_)
  go_wp2_with (at_builtin; refine ly _ rfl _ _ rfl _ rfl _ _ (hcl' _ _) ?_)
  go_ret
  exact ⟨rfl,rfl⟩
 ·go_enter Tryz.func204,Tryz.ntmps204
  go_wp2
  go_region_law_o (refine mG rfl _ _ 32 32 rfl (.slice (some ⟨g,0,none⟩) i c) (.slice (some ⟨g,j * 2,none⟩) (n - j) (c - j)) (by simp [Act.eval,Act.put]) (by simp [Act.eval,Act.put]) (hap _ _ _ (.inr rfl)) ?_)
  go_wp2_with (at_builtin; refine ly _ rfl _ _ rfl _ rfl _ _ (hcl' _ _) ?_)
  go_ret
  exact ⟨rfl,rfl⟩
def Jz:RowFn:=gx 157 dr
theorem Ka:Jz.ok Tryz.prog 204:=OA (P:=Tryz.prog) (S:=32) (E:=157) (by kernel_rfl) (by kernel_rfl) (fun i z hi hz u hu=>Ma (by kernel_rfl) hi hz u hu) B9
end
section
theorem HI {p:List bh} {i:Int} (h0:0<=i) (h:i<p.length):cV (ahead p i) (p.drop i.toNat)=if mC (p.getD i.toNat (0,0))=true then 4 else if (p.getD i.toNat (0,0)).1<=ahead p i then 3 else cV (ahead p (i+1)) (p.drop (i+1).toNat):=by
 rw [bI ((0,0):bh) h0 h]
 have e:ahead p (i+1)=(p.getD i.toNat (0,0)).1:=by
  unfold ahead;rw [if_pos (by omega),show (i+1 - 1)=i by omega]
 rw [e];rfl
def CW:Spec:={ Ts:=[ty_I],Rs:=[.dat .bool],pre:=fun _=>True,F:=fun (v:Int)=>decide (0<=v)&&decide (v<256) }
def sU:Prop :=
  ∀ (x:Int),ak .i64 x->True->(decide (0<=x)&&decide (x<256))=(decide (0<=x)&&decide (x<256))/\True
theorem zW:sU:=by
 unfold sU;intro v _ _;simp
theorem tx:CW.ok Tryz.prog 210:=aD (ann:=cF) ap Tryz.func210 (by kernel_rfl) zW
def Fc:Nat->Option LoopGen
 | 4=>some { rd:=[.dat 8 (.arr dr)],A:=fun (p:List bh)=>{ cs:=[.dat 10 ty_I],inv:=fun (i:Int)=>0<=i/\i<=p.length/\cV (ahead p i) (p.drop i.toNat)=cV (-1) p,mu:=fun (i:Int)=>(p.length - i).toNat } }
 | _=>none
def CX:Spec:={ Ts:=[.arr dr],Rs:=[.dat ty_I],pre:=fun _=>True,F:=fun (p:List bh)=>bU p }
def sV:Prop :=
  ∀ (x:List (Int×Int)),(x.length * (8+8)<=aK/\∀ (x_1:Int×Int),x_1∈x->ak .i64 x_1.1/\ak .i64 x_1.2)->True->(decide (16<(x.length:Int))=true->2=bU x/\True)/\(decide (16<(x.length:Int))=false->((0:Int)<=0/\0<=(x.length:Int)/\cV (ahead x 0) (List.drop (Int.toNat 0) x)=cV (-1) x)/\∀ (x_1:Int),0<=x_1/\x_1<=(x.length:Int)/\cV (ahead x x_1) (List.drop x_1.toNat x)=cV (-1) x->(decide (x_1<(x.length:Int))=true->0<=x_1/\x_1<(x.length:Int)/\True/\((!(decide (0<=(x.getD x_1.toNat (0,0)).1)&&decide ((x.getD x_1.toNat (0,0)).1<256))||decide ((x.getD x_1.toNat (0,0)).2<1)||decide (1000000<(x.getD x_1.toNat (0,0)).2))=true->4=bU x/\True)/\((!(decide (0<=(x.getD x_1.toNat (0,0)).1)&&decide ((x.getD x_1.toNat (0,0)).1<256))||decide ((x.getD x_1.toNat (0,0)).2<1)||decide (1000000<(x.getD x_1.toNat (0,0)).2))=false->(decide (0<x_1)=true->ak .i64 (x_1 - 1))/\(decide (0<x_1)=true->0<=x_1 - 1)/\(decide (0<x_1)=true->x_1 - 1<(x.length:Int))/\((decide (0<x_1)&&decide ((x.getD x_1.toNat (0,0)).1<=(x.getD (x_1 - 1).toNat (0,0)).1))=true->3=bU x/\True)/\((decide (0<x_1)&&decide ((x.getD x_1.toNat (0,0)).1<=(x.getD (x_1 - 1).toNat (0,0)).1))=false->ak .i64 (x_1+1)/\(0<=x_1+1/\x_1+1<=(x.length:Int)/\cV (ahead x (x_1+1)) (List.drop (x_1+1).toNat x)=cV (-1) x)/\((x.length:Int) - (x_1+1)).toNat<((x.length:Int) - x_1).toNat)))/\(decide (x_1<(x.length:Int))=false->0=bU x/\True))
theorem zX:sV:=by
 unfold sV;intro p ⟨hb,_⟩ _;unfold aK at hb;have hF:bU p=if 16<p.length then 2 else cV (-1) p:=rfl
 refine ⟨fun h=>?_,fun h=>?_⟩
 ·rw [hF,if_pos (by have:=tM h; omega)];exact ⟨rfl,trivial⟩
 have hl:¬ 16<p.length:=by have:=uZ h; omega
 rw [hF,if_neg hl];refine ⟨⟨by omega,by omega,rfl⟩,fun i ⟨i0,i1,i2⟩=>⟨fun hlt=>?_,fun hge=>?_⟩⟩
 ·have hlt:=tM hlt;rw [HI i0 hlt] at i2;have hp:0<i->ahead p i=(p.getD (i - 1).toNat (0,0)).1:=fun h=>if_pos h
  have hn:¬ 0<i->ahead p i=-1:=fun h=>if_neg h
  generalize p.getD i.toNat (0,0)=x at *;generalize p.getD (i - 1).toNat (0,0)=y at *;generalize ahead p i=q at *
  have hbad:(!(decide (0<=x.1)&&decide (x.1<256))||decide (x.2<1)||decide (1000000<x.2))=mC x:=by
   unfold mC
   grind
  rw [hbad];refine ⟨i0,hlt,trivial,fun hc=>?_,fun hc=>⟨fun _=>by simp only [ak]; omega,fun h=>by have:=tM h; omega,fun _=>by omega,fun h2=>?_,fun h2=>⟨by simp only [ak]; omega,⟨by omega,by omega,?_⟩,by omega⟩⟩⟩
  ·rw [if_pos hc] at i2;exact ⟨i2,trivial⟩
  ·rw [if_neg (by rw [hc]; simp)] at i2;simp only [CF,QP] at h2;rw [if_pos (by rw [hp h2.1]; exact h2.2)] at i2;exact ⟨i2,trivial⟩
  ·rw [if_neg (by rw [hc]; simp)] at i2
   have hx:0<=x.1:=by
    simp only [mC,Rn,Rh] at hc;omega
   rw [if_neg] at i2
   ·exact i2
   ·intro h3;by_cases h4:0<i
    ·rw [hp h4] at h3;have:(decide (0<i)&&decide (x.1<=y.1))=true:=by simp [h4,h3]
     rw [this] at h2;cases h2
    ·rw [hn h4] at h3;omega
 ·rw [cE (uZ hge)] at i2;exact ⟨i2,trivial⟩
theorem tz:CX.ok Tryz.prog 150:=aD (ann:=Fc) (ae tx ap) Tryz.func150 (by kernel_rfl) zX
def lv (x y:Int):Int:=if x<y then -1 else if y<x then 1 else 0
def NR:Spec:={ Ts:=[ty_I,ty_I],Rs:=[.dat ty_I],pre:=fun _=>True,F:=fun ((x,y):Int×Int)=>lv x y }
def H6:Prop :=
  ∀ (x:Int×Int),ak .i64 x.1/\ak .i64 x.2->True->True/\True/\(false=true->(false=true->0=lv x.1 x.2/\True)/\(false=false->(-1)=lv x.1 x.2/\True))/\(false=false->(false=true->1=lv x.1 x.2/\True)/\(false=false->(decide (x.1<x.2)=true->(-1)=lv x.1 x.2/\True)/\(decide (x.1<x.2)=false->(decide (x.2<x.1)=true->1=lv x.1 x.2/\True)/\(decide (x.2<x.1)=false->0=lv x.1 x.2/\True))))
theorem Lc:H6:=by
 unfold H6;intro ⟨x,y⟩ _ _;simp only [lv]
 grind
theorem N9:NR.ok Tryz.prog 247:=aD (ann:=cF) (ae J5 ap) Tryz.func247 (by kernel_rfl) Lc
def LI:Spec:={ Ts:=[dr,ty_I],Rs:=[.dat ty_I],pre:=fun _=>True,F:=fun ((x,y):bh×Int)=>lv x.1 y }
def DQ:Prop :=
  ∀ (x:(Int×Int)×Int),(ak .i64 x.1.1/\ak .i64 x.1.2)/\ak .i64 x.2->True->True/\lv x.1.1 x.2=lv x.1.1 x.2/\True
theorem I4:DQ:=by
 unfold DQ;intro ⟨x,y⟩ _ _;exact ⟨trivial,rfl,trivial⟩
theorem Mo:LI.ok Tryz.prog 246:=aD (ann:=cF) (ae N9 ap) Tryz.func246 (by kernel_rfl) I4
theorem OD (x y:Int):decide (lv x y<0)=decide (x<y):=by
 unfold lv
 grind
theorem OE (x y:Int):decide (lv x y=0)=decide (x=y):=by
 unfold lv
 grind
def aF (p:List bh) (k:Int):Int×Bool×Int:=if bU p≠0 then (0,false,bU p) else if (decide (0<=k)&&decide (k<256))=false then (0,false,4) else (lm p k,po p k,0)
def OM:Nat->Option LoopGen
 | 3000245=>some cY
 | 24600000003=>some { rd:=[.dat 0 (.arr dr),.dat 1 ty_I],A:=fun ((p,x):List bh×Int)=>{ cs:=[.dat 9 ty_I,.dat 10 ty_I],inv:=fun ((lo,hi):Int×Int)=>0<=lo/\lo<=hi/\hi<=p.length/\(∀ j:Nat,(j:Int)<lo->(p.map Prod.fst).getD j 0<x)/\(∀ j:Nat,hi<=j->j<p.length->x<=(p.map Prod.fst).getD j 0),mu:=fun ((lo,hi):Int×Int)=>(hi - lo).toNat } }
 | _=>none
def NP:Spec:={ Ts:=[.arr dr,ty_I],Rs:=[.dat ty_I,.dat .bool,.dat ty_I],pre:=fun _=>True,F:=fun ((p,k):List bh×Int)=>aF p k }
def H4:Prop :=
  ∀ (x:List (Int×Int)×Int),(fun (v2:type_of% (List.map Prod.fst x.1))=>(x.1.length * (8+8)<=aK/\∀ (x_1:Int×Int),x_1∈x.1->ak .i64 x_1.1/\ak .i64 x_1.2)/\ak .i64 x.2->True->True/\(decide (bU x.1=0)=true->True)/\((decide (bU x.1=0)&&!(decide (0<=x.2)&&decide (x.2<256)))=true->(decide ((4:Int)≠0)=true->0=(aF x.1 x.2).1/\false=(aF x.1 x.2).2.1/\4=(aF x.1 x.2).2.2/\True)/\(decide ((4:Int)≠0)=false->∀ (_:Array Value),((0:Int)<=0/\0<=(x.1.length:Int)/\(x.1.length:Int)<=(x.1.length:Int)/\(∀ (j:Nat),(↑j:Int)<0->v2.getD j 0<x.2)/\∀ (j:Nat),(x.1.length:Int)<=(↑j:Int)->j<x.1.length->x.2<=v2.getD j 0)/\∀ (x_1:Int×Int),(fun (v0:type_of% (IntKind.u64.wrap (x_1.1+x_1.2) / 2 ^ Int.toNat 1))=>(0<=x_1.1/\x_1.1<=x_1.2/\x_1.2<=(x.1.length:Int)/\(∀ (j:Nat),(↑j:Int)<x_1.1->v2.getD j 0<x.2)/\∀ (j:Nat),x_1.2<=(↑j:Int)->j<x.1.length->x.2<=v2.getD j 0)->(decide (x_1.1<x_1.2)=true->ak .i64 (x_1.1+x_1.2)/\(0:Int)<=1/\1<(↑IntKind.u64.bits:Int)/\0<=IntKind.i64.wrap v0/\IntKind.i64.wrap v0<(x.1.length:Int)/\True/\(decide (lv (x.1.getD (IntKind.i64.wrap v0).toNat (0,0)).1 x.2<0)=true->ak .i64 (IntKind.i64.wrap v0+1)/\(0<=IntKind.i64.wrap v0+1/\IntKind.i64.wrap v0+1<=x_1.2/\x_1.2<=(x.1.length:Int)/\(∀ (j:Nat),(↑j:Int)<IntKind.i64.wrap v0+1->v2.getD j 0<x.2)/\∀ (j:Nat),x_1.2<=(↑j:Int)->j<x.1.length->x.2<=v2.getD j 0)/\(x_1.2 - (IntKind.i64.wrap v0+1)).toNat<(x_1.2 - x_1.1).toNat)/\(decide (lv (x.1.getD (IntKind.i64.wrap v0).toNat (0,0)).1 x.2<0)=false->(0<=x_1.1/\x_1.1<=IntKind.i64.wrap v0/\IntKind.i64.wrap v0<=(x.1.length:Int)/\(∀ (j:Nat),(↑j:Int)<x_1.1->v2.getD j 0<x.2)/\∀ (j:Nat),IntKind.i64.wrap v0<=(↑j:Int)->j<x.1.length->x.2<=v2.getD j 0)/\(IntKind.i64.wrap v0 - x_1.1).toNat<(x_1.2 - x_1.1).toNat))/\(decide (x_1.1<x_1.2)=false->(decide (x_1.1<(x.1.length:Int))=true->0<=x_1.1)/\(decide (x_1.1<(x.1.length:Int))=true->x_1.1<(x.1.length:Int))/\(decide (x_1.1<(x.1.length:Int))=true->True)/\x_1.1=(aF x.1 x.2).1/\(decide (x_1.1<(x.1.length:Int))&&decide (lv (x.1.getD x_1.1.toNat (0,0)).1 x.2=0))=(aF x.1 x.2).2.1/\0=(aF x.1 x.2).2.2/\True)) (IntKind.u64.wrap (x_1.1+x_1.2) / 2 ^ Int.toNat 1)))/\((decide (bU x.1=0)&&!(decide (0<=x.2)&&decide (x.2<256)))=false->(decide (bU x.1≠0)=true->0=(aF x.1 x.2).1/\false=(aF x.1 x.2).2.1/\bU x.1=(aF x.1 x.2).2.2/\True)/\(decide (bU x.1≠0)=false->∀ (_:Array Value),((0:Int)<=0/\0<=(x.1.length:Int)/\(x.1.length:Int)<=(x.1.length:Int)/\(∀ (j:Nat),(↑j:Int)<0->v2.getD j 0<x.2)/\∀ (j:Nat),(x.1.length:Int)<=(↑j:Int)->j<x.1.length->x.2<=v2.getD j 0)/\∀ (x_1:Int×Int),(fun (v1:type_of% (IntKind.u64.wrap (x_1.1+x_1.2) / 2 ^ Int.toNat 1))=>(0<=x_1.1/\x_1.1<=x_1.2/\x_1.2<=(x.1.length:Int)/\(∀ (j:Nat),(↑j:Int)<x_1.1->v2.getD j 0<x.2)/\∀ (j:Nat),x_1.2<=(↑j:Int)->j<x.1.length->x.2<=v2.getD j 0)->(decide (x_1.1<x_1.2)=true->ak .i64 (x_1.1+x_1.2)/\(0:Int)<=1/\1<(↑IntKind.u64.bits:Int)/\0<=IntKind.i64.wrap v1/\IntKind.i64.wrap v1<(x.1.length:Int)/\True/\(decide (lv (x.1.getD (IntKind.i64.wrap v1).toNat (0,0)).1 x.2<0)=true->ak .i64 (IntKind.i64.wrap v1+1)/\(0<=IntKind.i64.wrap v1+1/\IntKind.i64.wrap v1+1<=x_1.2/\x_1.2<=(x.1.length:Int)/\(∀ (j:Nat),(↑j:Int)<IntKind.i64.wrap v1+1->v2.getD j 0<x.2)/\∀ (j:Nat),x_1.2<=(↑j:Int)->j<x.1.length->x.2<=v2.getD j 0)/\(x_1.2 - (IntKind.i64.wrap v1+1)).toNat<(x_1.2 - x_1.1).toNat)/\(decide (lv (x.1.getD (IntKind.i64.wrap v1).toNat (0,0)).1 x.2<0)=false->(0<=x_1.1/\x_1.1<=IntKind.i64.wrap v1/\IntKind.i64.wrap v1<=(x.1.length:Int)/\(∀ (j:Nat),(↑j:Int)<x_1.1->v2.getD j 0<x.2)/\∀ (j:Nat),IntKind.i64.wrap v1<=(↑j:Int)->j<x.1.length->x.2<=v2.getD j 0)/\(IntKind.i64.wrap v1 - x_1.1).toNat<(x_1.2 - x_1.1).toNat))/\(decide (x_1.1<x_1.2)=false->(decide (x_1.1<(x.1.length:Int))=true->0<=x_1.1)/\(decide (x_1.1<(x.1.length:Int))=true->x_1.1<(x.1.length:Int))/\(decide (x_1.1<(x.1.length:Int))=true->True)/\x_1.1=(aF x.1 x.2).1/\(decide (x_1.1<(x.1.length:Int))&&decide (lv (x.1.getD x_1.1.toNat (0,0)).1 x.2=0))=(aF x.1 x.2).2.1/\0=(aF x.1 x.2).2.2/\True)) (IntKind.u64.wrap (x_1.1+x_1.2) / 2 ^ Int.toNat 1)))) (List.map Prod.fst x.1)
theorem La:H4:=by
 unfold H4;intro ⟨p,k⟩ ⟨⟨hb,_⟩,hk⟩ _;unfold aK at hb;simp only at hb hk |-;have hF:aF p k=if bU p≠0 then (0,false,bU p) else if (decide (0<=k)&&decide (k<256))=false then (0,false,4) else (lm p k,po p k,0):=rfl
 rw [hF];refine ⟨trivial,fun _=>trivial,fun h=>⟨fun _=>?_,fun h4=>absurd h4 (by decide)⟩,fun h=>⟨fun h1=>?_,fun h1 tm=>?_⟩⟩
 ·simp only [CF,QP,QN] at h;rw [if_neg (by omega),if_pos h.2];refine ⟨?_,?_,?_,trivial⟩ <;> first | trivial | rfl
 ·rw [if_pos (tM h1)];refine ⟨?_,?_,?_,trivial⟩ <;> first | trivial | rfl
 have h0:bU p=0:=by simpa using uZ h1
 have hth:(decide (0<=k)&&decide (k<256))=true:=by
  rw [Rm h0,RN,Bool.not_eq_false'] at h;exact h
 rw [if_neg (by omega),if_neg (by rw [hth]; simp)];obtain ⟨_,hp,_⟩:=nR h0;have hs:(p.map Prod.fst).Pairwise (·<=·):=List.pairwise_map.2 (hp.imp fun h=>Int.le_of_lt h);have hll:(p.map Prod.fst).length=p.length:=Q3 _;simp only [OD,OE,<- MJ];obtain ⟨l,hl⟩:∃ l,l=p.map Prod.fst:=⟨_,rfl⟩;have hlo:lm p k=Ki l k:=by rw [hl]; rfl
 have hha:po p k=fR l k:=by rw [hl]; rfl
 rw [hlo,hha];rw [<- hl] at hs hll |-;rw [<- hll] at hb |-;refine ⟨⟨by omega,by omega,by omega,fun j hj=>by omega,fun j h2 h3=>by omega⟩,fun ⟨lo,hi⟩ ⟨q1,q2,q3,q4,q5⟩=>⟨fun hlt=>?_,fun hge=>?_⟩⟩
 ·simp only at q1 q2 q3 q4 q5 hlt |-;have hlt:=tM hlt
  have hm:IntKind.i64.wrap (IntKind.u64.wrap (lo+hi) / 2 ^ Int.toNat 1)=(lo+hi) / 2:=by
   rw [eY (by omega) (by omega),show (2:Int) ^ Int.toNat 1=2 from rfl,jT (by omega) (by omega)]
  simp only [hm];have hm1:lo<=(lo+hi) / 2/\(lo+hi) / 2<hi:=by omega
  generalize (lo+hi) / 2=m at *;simp only [ak];refine ⟨by omega,by omega,by decide,by omega,by omega,trivial,fun hc=>⟨by omega,⟨by omega,by omega,by omega,fun j hj=>?_,q5⟩,by omega⟩,fun hc=>⟨⟨by omega,by omega,by omega,q4,fun j h1 h2=>?_⟩,by omega⟩⟩
  ·have hc:=tM hc;have:=sG hs (i:=j) (j:=m.toNat) (by omega) (by omega);omega
  ·have hc:=uZ hc;have:=sG hs (i:=m.toNat) (j:=j) (by omega) (by omega);omega
 ·simp only at q1 q2 q3 q4 q5 hge |-;have hge:=uZ hge;have he:hi=lo:=by omega
  subst he;obtain ⟨n,rfl⟩:∃ n:Nat,hi=n:=⟨hi.toNat,by omega⟩;have h1:∀ j:Nat,j<n->l.getD j 0<k:=fun j hj=>q4 j (by omega)
  have h2:∀ j:Nat,n<=j->j<l.length->k<=l.getD j 0:=fun j h1 h2=>q5 j (by omega) h2
  rw [Pt (by omega) h1 h2,Pu hs h1 h2];refine ⟨fun _=>by omega,fun h=>tM h,fun _=>trivial,by first | trivial | rfl,?_,by first | trivial | rfl,trivial⟩;simp
theorem Ih:NP.ok Tryz.prog 202:=aD (ann:=OM) (ae tz (ae tx (ae Mo ap))) Tryz.func202 (by kernel_rfl) La
theorem wH {p:List bh} {k:Int} (h:(aF p k).2.2=0):bU p=0/\0<=k/\k<=255/\aF p k=(lm p k,po p k,0):=by
 unfold aF at h |-;split at h
 ·rename_i h1; exact absurd h h1
 ·rename_i h1;split at h
  ·cases h
  ·rename_i h2;rw [if_neg h1,if_neg h2];have h2:(decide (0<=k)&&decide (k<256))=true:=by simpa using h2
   simp only [CF,QP] at h2;exact ⟨by omega,h2.1,by omega,rfl⟩
theorem mn {p:List bh} {k:Int} (h:(aF p k).2.2=0):∃ A B:List bh,aF p k=((A.length:Int),po p k,0)/\lm p k=A.length/\p.length<=16/\(∀ x∈A,x.1<k)/\(∀ x∈B,k<x.1) /\
  ((po p k=false/\fH p k=0/\p=A++B)\/(po p k=true/\1<=fH p k/\fH p k<=1000000/\p=A++(k,fH p k)::B)):=by
 obtain ⟨h1,h2,h3,h4⟩:=wH h;obtain ⟨h5,h6,h7⟩:=nR h1;obtain ⟨A,B,a1,a2,a3,a4⟩:=Kh h6 k;refine ⟨A,B,by rw [h4,a3],a3,h5,a1,a2,?_⟩;rcases a4 with ⟨b1,b2⟩ | ⟨v,b1,b2⟩
 ·refine .inl ⟨?_,?_,b2⟩
  ·rw [Es h6,b1]; rfl
  ·unfold fH; rw [b1]; rfl
 ·have hm:fH p k=v:=by unfold fH; rw [b1]; rfl
  have hv:=h7 (k,v) (by rw [b2]; simp);refine .inr ⟨?_,?_,?_,by rw [hm]; exact b2⟩
  ·rw [Es h6,b1]; rfl
  ·rw [hm]; exact hv.2.2.1
  ·rw [hm]; exact hv.2.2.2
theorem r5 {A B:List bh} {x:bh}:(A++x::B).getD ((A.length:Int)).toNat (0,0)=x:=by simp
theorem uX {A B:List bh} {x:bh} (y:bh):(A++x::B).set ((A.length:Int)).toNat y=A++y::B:=by simp
theorem G5 {A B:List bh} (x:bh):Bi (A++B) [x] (A.length:Int)=A++x::B:=by simp [Bi]
theorem Ho {A B:List bh} {x:bh}:E2 (A++x::B) (A.length:Int) ((A.length:Int)+1)=A++B:=by
 unfold E2;rw [show ((A.length:Int)+1).toNat=A.length+1 by omega];simp
def AI:Spec:={ Ts:=[.arr dr],Rs:=[.own 157 dr],pre:=fun _=>True,F:=fun (x:List bh)=>x }
def qw:Prop :=
  ∀ (x:List (Int×Int)),(x.length * (8+8)<=aK/\∀ (x_1:Int×Int),x_1∈x->ak .i64 x_1.1/\ak .i64 x_1.2)->True->(x=([]:List (Int×Int))->([]:List (Int×Int))=x/\True)/\(True->(0+x.length) * (8+8)<=aK/\([]:List (Int×Int))++x=x/\True)
theorem xB:qw:=by
 unfold qw;intro x ⟨hb,_⟩ _;simp [hb]
theorem bX:AI.ok Tryz.prog 152:=aD (ann:=cF) ap Tryz.func152 (by kernel_rfl) xB
def gK (p:List bh) (k:Int):List bh×Int×Int :=
 if (aF p k).2.2≠0 then ([],0,(aF p k).2.2) else if fH p k=1000000\/(po p k=false/\p.length=16) then ([],0,7)
 else ((if po p k=true then p.set (lm p k).toNat (k,fH p k+1) else Bi p [(k,1)] (lm p k)),fH p k+1,0)
def O8:Spec:={ Ts:=[.arr dr,ty_I],Rs:=[.own 157 dr,.dat ty_I,.dat ty_I],pre:=fun _=>True,F:=fun ((p,k):List bh×Int)=>gK p k }
def LV:Prop :=
  ∀ (x:List (Int×Int)×Int),(fun (v1:type_of% (x.1.getD (aF x.1 x.2).1.toNat (0,0)))=>(fun (v0:type_of% (Bi x.1 [(x.2,0)] (aF x.1 x.2).1))=>(x.1.length * (8+8)<=aK/\∀ (x_1:Int×Int),x_1∈x.1->ak .i64 x_1.1/\ak .i64 x_1.2)/\ak .i64 x.2->True->True/\(decide ((aF x.1 x.2).2.2≠0)=true->([]:List (Int×Int))=(gK x.1 x.2).1/\0=(gK x.1 x.2).2.1/\(aF x.1 x.2).2.2=(gK x.1 x.2).2.2/\True)/\(decide ((aF x.1 x.2).2.2≠0)=false->((aF x.1 x.2).2.1=true->0<=(aF x.1 x.2).1)/\((aF x.1 x.2).2.1=true->(aF x.1 x.2).1<(x.1.length:Int))/\(((aF x.1 x.2).2.1&&decide (v1.2=1000000)||!(aF x.1 x.2).2.1&&decide ((x.1.length:Int)=16))=true->([]:List (Int×Int))=(gK x.1 x.2).1/\0=(gK x.1 x.2).2.1/\7=(gK x.1 x.2).2.2/\True)/\(((aF x.1 x.2).2.1&&decide (v1.2=1000000)||!(aF x.1 x.2).2.1&&decide ((x.1.length:Int)=16))=false->True/\((!(aF x.1 x.2).2.1)=true->(0<[(x.2,0)].length/\0<=(aF x.1 x.2).1/\(aF x.1 x.2).1<=(x.1.length:Int)/\(x.1.length+[(x.2,0)].length) * (8+8)<=aK)/\0<=(aF x.1 x.2).1/\(aF x.1 x.2).1<(v0.length:Int)/\(aF x.1 x.2).1.toNat<v0.length/\ak .i64 ((v0.getD (aF x.1 x.2).1.toNat (0,0)).2+1)/\0<=(aF x.1 x.2).1/\(aF x.1 x.2).1<(v0.length:Int)/\(aF x.1 x.2).1.toNat<v0.length/\0<=(aF x.1 x.2).1/\(aF x.1 x.2).1<(↑(v0.set (aF x.1 x.2).1.toNat ((v0.getD (aF x.1 x.2).1.toNat (0,0)).1,(v0.getD (aF x.1 x.2).1.toNat (0,0)).2+1)).length:Int)/\(aF x.1 x.2).1.toNat<(v0.set (aF x.1 x.2).1.toNat ((v0.getD (aF x.1 x.2).1.toNat (0,0)).1,(v0.getD (aF x.1 x.2).1.toNat (0,0)).2+1)).length/\v0.set (aF x.1 x.2).1.toNat ((v0.getD (aF x.1 x.2).1.toNat (0,0)).1,(v0.getD (aF x.1 x.2).1.toNat (0,0)).2+1)=(gK x.1 x.2).1/\((v0.set (aF x.1 x.2).1.toNat ((v0.getD (aF x.1 x.2).1.toNat (0,0)).1,(v0.getD (aF x.1 x.2).1.toNat (0,0)).2+1)).getD (aF x.1 x.2).1.toNat (0,0)).2=(gK x.1 x.2).2.1/\0=(gK x.1 x.2).2.2/\True)/\((!(aF x.1 x.2).2.1)=false->0<=(aF x.1 x.2).1/\(aF x.1 x.2).1<(x.1.length:Int)/\(aF x.1 x.2).1.toNat<x.1.length/\ak .i64 (v1.2+1)/\0<=(aF x.1 x.2).1/\(aF x.1 x.2).1<(x.1.length:Int)/\(aF x.1 x.2).1.toNat<x.1.length/\0<=(aF x.1 x.2).1/\(aF x.1 x.2).1<(↑(x.1.set (aF x.1 x.2).1.toNat (v1.1,v1.2+1)).length:Int)/\(aF x.1 x.2).1.toNat<(x.1.set (aF x.1 x.2).1.toNat (v1.1,v1.2+1)).length/\x.1.set (aF x.1 x.2).1.toNat (v1.1,v1.2+1)=(gK x.1 x.2).1/\((x.1.set (aF x.1 x.2).1.toNat (v1.1,v1.2+1)).getD (aF x.1 x.2).1.toNat (0,0)).2=(gK x.1 x.2).2.1/\0=(gK x.1 x.2).2.2/\True)))) (Bi x.1 [(x.2,0)] (aF x.1 x.2).1)) (x.1.getD (aF x.1 x.2).1.toNat (0,0))
theorem Nz:LV:=by
 unfold LV;intro ⟨p,k⟩ ⟨⟨hb,_⟩,_⟩ _;unfold aK at hb;simp only at hb |-
 have hF:gK p k=if (aF p k).2.2≠0 then ([],0,(aF p k).2.2) else if fH p k=1000000\/(po p k=false/\p.length=16) then ([],0,7)
  else ((if po p k=true then p.set (lm p k).toNat (k,fH p k+1) else Bi p [(k,1)] (lm p k)),fH p k+1,0):=rfl
 rw [hF];refine ⟨trivial,fun h=>?_,fun h=>?_⟩
 ·rw [if_pos (tM h)];exact ⟨by first | trivial | rfl,by first | trivial | rfl,by first | trivial | rfl,trivial⟩
 have h0:(aF p k).2.2=0:=by simpa using uZ h
 rw [if_neg (by omega)];obtain ⟨A,B,e,e2,hl,_,_,h1⟩:=mn h0;rw [e,e2];simp only;rcases h1 with ⟨h1,h2,h3⟩ | ⟨h1,h2,h2',h3⟩
 ·rw [h1,h2];subst h3;refine ⟨(fun h=>by cases h),(fun h=>by cases h),fun h=>?_,fun h=>⟨trivial,fun _=>?_,(fun h=>by cases h)⟩⟩
  ·have h:(A++B).length=16:=by
    have:(((A++B).length:Nat):Int)=16:=by simpa using h
    omega
   rw [if_pos (.inr ⟨rfl,h⟩)];exact ⟨by first | trivial | rfl,by first | trivial | rfl,by first | trivial | rfl,trivial⟩
  ·have h:¬ (A++B).length=16:=by
    intro h4;simp only [Tg,RN,SA,Sv,Rh] at h;exact h (by omega)
   have hno:¬ ((0:Int)=1000000\/(false=false/\(A++B).length=16)):=by
    rintro (h4 | h4)
    ·omega
    ·exact h h4.2
   rw [if_neg hno,if_neg (by simp),G5,G5,r5,uX,r5];simp only [ak,KK,HN,QQ] at *;unfold aK;refine ⟨⟨by omega,by omega,by omega,by omega⟩,by omega,by omega,by omega,by omega,by omega,by omega,by omega,by omega,by omega,by omega,?_,?_,trivial,trivial⟩ <;> first | trivial | rfl
 ·rw [h1];generalize fH p k=v at *;subst h3;rw [r5];refine ⟨fun _=>by omega,fun _=>by simp; omega,fun h=>?_,fun h=>⟨trivial,(fun h=>by cases h),fun _=>?_⟩⟩
  ·have h:v=1000000:=by simpa using h
   rw [if_pos (.inl h)];exact ⟨by first | trivial | rfl,by first | trivial | rfl,by first | trivial | rfl,trivial⟩
  ·have h:v≠1000000:=by simpa using h
   have hno:¬ (v=1000000\/(true=false/\(A++(k,v)::B).length=16)):=by
    rintro (h4 | h4)
    ·exact h h4
    ·exact absurd h4.1 (by simp)
   rw [if_neg hno,if_pos rfl,uX,r5];simp only [ak,KK,HN] at *;refine ⟨by omega,by omega,by omega,by omega,by omega,by omega,by omega,by omega,by omega,by omega,?_,?_,trivial,trivial⟩ <;> first | trivial | rfl
theorem Pp:O8.ok Tryz.prog 140:=aD (ann:=cF) (ae Ih (ae bX (kF J6 ap))) Tryz.func140 (by kernel_rfl) Nz
def dO (p:List bh) (k:Int):List bh×Int×Int :=
 if (aF p k).2.2≠0 then ([],0,(aF p k).2.2) else if po p k=false then ([],0,5)
 else ((if fH p k=1 then E2 p (lm p k) (lm p k+1) else p.set (lm p k).toNat (k,fH p k - 1)),fH p k - 1,0)
def NQ:Spec:={ Ts:=[.arr dr,ty_I],Rs:=[.own 157 dr,.dat ty_I,.dat ty_I],pre:=fun _=>True,F:=fun ((p,k):List bh×Int)=>dO p k }
def H5:Prop :=
  ∀ (x:List (Int×Int)×Int),(fun (v1:type_of% (x.1.getD (aF x.1 x.2).1.toNat (0,0)))=>(fun (v0:type_of% (x.1.set (aF x.1 x.2).1.toNat (v1.1,v1.2 - 1)))=>(x.1.length * (8+8)<=aK/\∀ (x_1:Int×Int),x_1∈x.1->ak .i64 x_1.1/\ak .i64 x_1.2)/\ak .i64 x.2->True->True/\(decide ((aF x.1 x.2).2.2≠0)=true->([]:List (Int×Int))=(dO x.1 x.2).1/\0=(dO x.1 x.2).2.1/\(aF x.1 x.2).2.2=(dO x.1 x.2).2.2/\True)/\(decide ((aF x.1 x.2).2.2≠0)=false->((!(aF x.1 x.2).2.1)=true->([]:List (Int×Int))=(dO x.1 x.2).1/\0=(dO x.1 x.2).2.1/\5=(dO x.1 x.2).2.2/\True)/\((!(aF x.1 x.2).2.1)=false->True/\0<=(aF x.1 x.2).1/\(aF x.1 x.2).1<(x.1.length:Int)/\(aF x.1 x.2).1.toNat<x.1.length/\ak .i64 (v1.2 - 1)/\0<=(aF x.1 x.2).1/\(aF x.1 x.2).1<(x.1.length:Int)/\(aF x.1 x.2).1.toNat<x.1.length/\0<=(aF x.1 x.2).1/\(aF x.1 x.2).1<(v0.length:Int)/\(aF x.1 x.2).1.toNat<v0.length/\(decide ((v0.getD (aF x.1 x.2).1.toNat (0,0)).2=0)=true->ak .i64 ((aF x.1 x.2).1+1)/\(0<=(aF x.1 x.2).1/\(aF x.1 x.2).1<(aF x.1 x.2).1+1/\(aF x.1 x.2).1+1<=(v0.length:Int))/\E2 v0 (aF x.1 x.2).1 ((aF x.1 x.2).1+1)=(dO x.1 x.2).1/\(v0.getD (aF x.1 x.2).1.toNat (0,0)).2=(dO x.1 x.2).2.1/\0=(dO x.1 x.2).2.2/\True)/\(decide ((v0.getD (aF x.1 x.2).1.toNat (0,0)).2=0)=false->x.1.set (aF x.1 x.2).1.toNat (v1.1,v1.2 - 1)=(dO x.1 x.2).1/\(v0.getD (aF x.1 x.2).1.toNat (0,0)).2=(dO x.1 x.2).2.1/\0=(dO x.1 x.2).2.2/\True)))) (x.1.set (aF x.1 x.2).1.toNat (v1.1,v1.2 - 1))) (x.1.getD (aF x.1 x.2).1.toNat (0,0))
theorem Lb:H5:=by
 unfold H5;intro ⟨p,k⟩ ⟨⟨hb,_⟩,_⟩ _;unfold aK at hb;simp only at hb |-
 have hF:dO p k=if (aF p k).2.2≠0 then ([],0,(aF p k).2.2) else if po p k=false then ([],0,5)
  else ((if fH p k=1 then E2 p (lm p k) (lm p k+1) else p.set (lm p k).toNat (k,fH p k - 1)),fH p k - 1,0):=rfl
 rw [hF];refine ⟨trivial,fun h=>?_,fun h=>?_⟩
 ·rw [if_pos (tM h)];exact ⟨by first | trivial | rfl,by first | trivial | rfl,by first | trivial | rfl,trivial⟩
 have h0:(aF p k).2.2=0:=by simpa using uZ h
 rw [if_neg (by omega)];obtain ⟨A,B,e,e2,hl,_,_,h1⟩:=mn h0;rw [e,e2];simp only;rcases h1 with ⟨h1,h2,h3⟩ | ⟨h1,h2,h2',h3⟩
 ·rw [h1,if_pos rfl];exact ⟨fun _=>⟨by first | trivial | rfl,by first | trivial | rfl,by first | trivial | rfl,trivial⟩,fun h=>by cases h⟩
 ·rw [h1,if_neg (by simp)];generalize fH p k=v at *;subst h3;rw [r5,uX,r5,Ho,Ho];simp only [ak,KK,HN] at *;refine ⟨(fun h=>by cases h),fun _=>⟨trivial,by omega,by omega,by omega,by omega,by omega,by omega,by omega,by omega,by omega,by omega,fun h=>?_,fun h=>?_⟩⟩
  ·have h:v - 1=0:=tM h;rw [if_pos (by omega)];exact ⟨by omega,⟨by omega,by omega,by omega⟩,by first | trivial | rfl,by first | trivial | rfl,by first | trivial | rfl,trivial⟩
  ·have h:¬ v - 1=0:=uZ h;rw [if_neg (by omega)];exact ⟨by first | trivial | rfl,by first | trivial | rfl,by first | trivial | rfl,trivial⟩
theorem N8:NQ.ok Tryz.prog 141:=aD (ann:=cF) (ae Ih (ae bX (kF Ka ap))) Tryz.func141 (by kernel_rfl) Lb
end
section
abbrev bF:Ty:=.pair ty_I (.pair .bool ty_I)
abbrev a6:=Int×Bool×Int
def Gc:Spec:={ Ts:=[.arr bF,.fn bF .bool],Rs:=[.dat ty_I],pre:=fun ((l,g):List a6×(a6->Prop)×(a6->Bool))=>∀ s∈l,g.1 s,F:=fun ((l,g):List a6×(a6->Prop)×(a6->Bool))=>ag g.2 0 l }
def HE:Nat->Option LoopGen
 | 2=>some { rd:=[.dat 0 (.arr bF),.dat 1 (.fn bF .bool)],A:=fun ((l,g):List a6×(a6->Prop)×(a6->Bool))=>{ cs:=[.dat 8 ty_I],inv:=fun (i:Int)=>0<=i/\i<=l.length/\ag g.2 i (l.drop i.toNat)=ag g.2 0 l,mu:=fun (i:Int)=>(l.length - i).toNat } }
 | _=>none
def vF:Prop :=
  ∀ (x:List (Int×Bool×Int)×(Int×Bool×Int->Prop)×(Int×Bool×Int->Bool)),(x.1.length * (8+(8+8))<=aK/\∀ (x_1:Int×Bool×Int),x_1∈x.1->ak .i64 x_1.1/\True/\ak .i64 x_1.2.2)/\True->(∀ (s:a6),s∈x.1->x.2.1 s)->((0:Int)<=0/\0<=(x.1.length:Int)/\ag x.2.2 0 (List.drop (Int.toNat 0) x.1)=ag x.2.2 0 x.1)/\∀ (x_1:Int),0<=x_1/\x_1<=(x.1.length:Int)/\ag x.2.2 x_1 (List.drop x_1.toNat x.1)=ag x.2.2 0 x.1->(decide (x_1<(x.1.length:Int))=true->0<=x_1/\x_1<(x.1.length:Int)/\x.2.1 (x.1.getD x_1.toNat (0,false,0))/\(x.2.2 (x.1.getD x_1.toNat (0,false,0))=true->x_1=ag x.2.2 0 x.1/\True)/\(x.2.2 (x.1.getD x_1.toNat (0,false,0))=false->ak .i64 (x_1+1)/\(0<=x_1+1/\x_1+1<=(x.1.length:Int)/\ag x.2.2 (x_1+1) (List.drop (x_1+1).toNat x.1)=ag x.2.2 0 x.1)/\((x.1.length:Int) - (x_1+1)).toNat<((x.1.length:Int) - x_1).toNat))/\(decide (x_1<(x.1.length:Int))=false->(-1)=ag x.2.2 0 x.1/\True)
theorem Cn:vF:=by
 unfold vF;intro ⟨l,g⟩ ⟨⟨hl,_⟩,_⟩ hp;unfold aK at *;refine ⟨⟨by omega,by omega,by simp⟩,fun i ⟨h0,h1,h2⟩=>⟨fun hlt=>?_,fun hge=>?_⟩⟩
 ·have hlt:i<(l.length:Int):=by simpa using hlt
  have e:=bI ((0,false,0):a6) h0 hlt;have hm:=hp _ (aI ((0,false,0):a6) h0 hlt);simp only at *;rw [e] at h2;simp only [ag] at h2;refine ⟨h0,hlt,hm,fun hc=>?_,fun hc=>?_⟩
  ·rw [if_pos hc] at h2;exact ⟨h2,trivial⟩
  ·rw [if_neg (by rw [hc]; simp)] at h2;exact ⟨by simp only [ak]; omega,⟨by omega,by omega,h2⟩,by omega⟩
 ·rw [cE (by simpa using hge)] at h2;exact ⟨h2,trivial⟩
theorem GO:Gc.ok Tryz.prog 205:=aD (ann:=HE) ap Tryz.func205 (by kernel_rfl) Cn
def Jw:Spec:={ Ts:=[.arr ty_I,.fn ty_I .bool],Rs:=[.dat ty_I],pre:=fun ((l,g):List Int×(Int->Prop)×(Int->Bool))=>∀ s∈l,g.1 s,F:=fun ((l,g):List Int×(Int->Prop)×(Int->Bool))=>ag g.2 0 l }
def KV:Nat->Option LoopGen
 | 2=>some { rd:=[.dat 0 (.arr ty_I),.dat 1 (.fn ty_I .bool)],A:=fun ((l,g):List Int×(Int->Prop)×(Int->Bool))=>{ cs:=[.dat 8 ty_I],inv:=fun (i:Int)=>0<=i/\i<=l.length/\ag g.2 i (l.drop i.toNat)=ag g.2 0 l,mu:=fun (i:Int)=>(l.length - i).toNat } }
 | _=>none
def yW:Prop :=
  ∀ (x:List Int×(Int->Prop)×(Int->Bool)),(x.1.length * 8<=aK/\∀ (x_1:Int),x_1∈x.1->ak .i64 x_1)/\True->(∀ (s:Int),s∈x.1->x.2.1 s)->((0:Int)<=0/\0<=(x.1.length:Int)/\ag x.2.2 0 (List.drop (Int.toNat 0) x.1)=ag x.2.2 0 x.1)/\∀ (x_1:Int),0<=x_1/\x_1<=(x.1.length:Int)/\ag x.2.2 x_1 (List.drop x_1.toNat x.1)=ag x.2.2 0 x.1->(decide (x_1<(x.1.length:Int))=true->0<=x_1/\x_1<(x.1.length:Int)/\x.2.1 (x.1.getD x_1.toNat 0)/\(x.2.2 (x.1.getD x_1.toNat 0)=true->x_1=ag x.2.2 0 x.1/\True)/\(x.2.2 (x.1.getD x_1.toNat 0)=false->ak .i64 (x_1+1)/\(0<=x_1+1/\x_1+1<=(x.1.length:Int)/\ag x.2.2 (x_1+1) (List.drop (x_1+1).toNat x.1)=ag x.2.2 0 x.1)/\((x.1.length:Int) - (x_1+1)).toNat<((x.1.length:Int) - x_1).toNat))/\(decide (x_1<(x.1.length:Int))=false->(-1)=ag x.2.2 0 x.1/\True)
theorem FH:yW:=by
 unfold yW;intro ⟨l,g⟩ ⟨⟨hl,_⟩,_⟩ hp;unfold aK at *;refine ⟨⟨by omega,by omega,by simp⟩,fun i ⟨h0,h1,h2⟩=>⟨fun hlt=>?_,fun hge=>?_⟩⟩
 ·have hlt:i<(l.length:Int):=by simpa using hlt
  have e:=bI (0:Int) h0 hlt;have hm:=hp _ (aI (0:Int) h0 hlt);simp only at *;rw [e] at h2;simp only [ag] at h2;refine ⟨h0,hlt,hm,fun hc=>?_,fun hc=>?_⟩
  ·rw [if_pos hc] at h2;exact ⟨h2,trivial⟩
  ·rw [if_neg (by rw [hc]; simp)] at h2;exact ⟨by simp only [ak]; omega,⟨by omega,by omega,h2⟩,by omega⟩
 ·rw [cE (by simpa using hge)] at h2;exact ⟨h2,trivial⟩
theorem J7:Jw.ok Tryz.prog 107:=aD (ann:=KV) ap Tryz.func107 (by kernel_rfl) FH
def JB:Spec:={ Ts:=[.arr ty_I,.fn ty_I .bool],Rs:=[.dat .bool],pre:=fun ((l,g):List Int×(Int->Prop)×(Int->Bool))=>∀ s∈l,g.1 s,F:=fun ((l,g):List Int×(Int->Prop)×(Int->Bool))=>l.any g.2 }
def y5:Prop :=
  ∀ (x:List Int×(Int->Prop)×(Int->Bool)),(x.1.length * 8<=aK/\∀ (x_1:Int),x_1∈x.1->ak .i64 x_1)/\True->(∀ (s:Int),s∈x.1->x.2.1 s)->(∀ (s:Int),s∈x.1->x.2.1 s)/\decide (0<=ag x.2.2 0 x.1)=x.1.any x.2.2/\True
theorem FL:y5:=by
 unfold y5;intro ⟨l,g⟩ _ hp;exact ⟨hp,ep g.2 l 0 (by omega),trivial⟩
theorem Kc:JB.ok Tryz.prog 37:=aD (ann:=cF) (ae J7 ap) Tryz.func37 (by kernel_rfl) FL
def xN:Spec:={ Ts:=[.arr bF],Rs:=[.own 135 bF],pre:=fun _=>True,F:=fun (x:List a6)=>x }
def oB:Prop :=
  ∀ (x:List (Int×Bool×Int)),(x.length * (8+(8+8))<=aK/\∀ (x_1:Int×Bool×Int),x_1∈x->ak .i64 x_1.1/\True/\ak .i64 x_1.2.2)->True->(x=([]:List (Int×Bool×Int))->([]:List (Int×Bool×Int))=x/\True)/\(True->(0+x.length) * (8+(8+8))<=aK/\([]:List (Int×Bool×Int))++x=x/\True)
theorem uF:oB:=by
 unfold oB;intro x ⟨hb,_⟩ _;simp [hb]
theorem bL:xN.ok Tryz.prog 153:=aD (ann:=cF) ap Tryz.func153 (by kernel_rfl) uF
def fj (v:Int):Bool:=decide (0<=v)&&decide (v<256)
def AF:Spec:={ Ts:=[ty_I],Rs:=[.dat .bool],pre:=fun _=>True,F:=fj }
def qr:Prop :=
  ∀ (x:Int),ak .i64 x->True->(decide (0<=x)&&decide (x<256))=fj x/\True
theorem xy:qr:=by
 unfold qr;intro v _ _;simp [fj]
theorem mg:AF.ok Tryz.prog 147:=aD (ann:=cF) ap Tryz.func147 (by kernel_rfl) xy
def CY:Spec:={ Ts:=[ty_I],Rs:=[.dat .bool],pre:=fun _=>True,F:=fun (v:Int)=>!fj v }
def sW:Prop :=
  ∀ (x:Int),ak .i64 x->True->True/\(!fj x)=!fj x/\True
theorem zY:sW:=by
 unfold sW;intro v _ _;simp
theorem D2:CY.ok Tryz.prog 221:=aD (ann:=cF) (ae mg ap) Tryz.func221 (by kernel_rfl) zY
def az (s:a6):Bool:=!s.2.1&&decide (s.1<65535)
def De:Spec:={ Ts:=[bF],Rs:=[.dat .bool],pre:=fun _=>True,F:=az }
def th:Prop :=
  ∀ (x:Int×Bool×Int),ak .i64 x.1/\True/\ak .i64 x.2.2->True->(!x.2.1&&decide (x.1<65535))=az x/\True
theorem Aj:th:=by
 unfold th;intro s _ _;simp [az]
theorem Eb:De.ok Tryz.prog 206:=aD (ann:=cF) ap Tryz.func206 (by kernel_rfl) Aj
def eE (s:a6):Int:=if s.1<0\/65535<s.1\/s.2.2<0\/255<s.2.2 then 4 else if (s.2.1=true/\s.1=0)\/(s.2.1=false/\s.2.2≠0) then 3 else 0
def bz:List a6->Int
 | []=>0
 | s::l=>if eE s≠0 then eE s else bz l
def aM (h:List a6):Int:=if 16<h.length then 2 else bz h
def AH:Spec:={ Ts:=[.arr bF],Rs:=[.dat ty_I],pre:=fun _=>True,F:=aM }
def B3:Nat->Option LoopGen
 | 4=>some { rd:=[.dat 8 (.arr bF)],A:=fun (h:List a6)=>{ cs:=[.dat 10 ty_I],inv:=fun (i:Int)=>0<=i/\i<=h.length/\h.length<=16/\bz (h.drop i.toNat)=bz h,mu:=fun (i:Int)=>(h.length - i).toNat } }
 | _=>none
def qu:Prop :=
  ∀ (x:List (Int×Bool×Int)),(x.length * (8+(8+8))<=aK/\∀ (x_1:Int×Bool×Int),x_1∈x->ak .i64 x_1.1/\True/\ak .i64 x_1.2.2)->True->(decide (16<(x.length:Int))=true->2=aM x/\True)/\(decide (16<(x.length:Int))=false->((0:Int)<=0/\0<=(x.length:Int)/\x.length<=16/\bz (List.drop (Int.toNat 0) x)=bz x)/\∀ (x_1:Int),(fun (v0:type_of% (x.getD x_1.toNat (0,false,0)))=>0<=x_1/\x_1<=(x.length:Int)/\x.length<=16/\bz (List.drop x_1.toNat x)=bz x->(decide (x_1<(x.length:Int))=true->0<=x_1/\x_1<(x.length:Int)/\((decide (v0.1<0)||decide (65535<v0.1))=false->True)/\((decide (v0.1<0)||decide (65535<v0.1)||!fj v0.2.2)=true->4=aM x/\True)/\((decide (v0.1<0)||decide (65535<v0.1)||!fj v0.2.2)=false->((v0.2.1&&decide (v0.1=0)||!v0.2.1&&decide (v0.2.2≠0))=true->3=aM x/\True)/\((v0.2.1&&decide (v0.1=0)||!v0.2.1&&decide (v0.2.2≠0))=false->ak .i64 (x_1+1)/\(0<=x_1+1/\x_1+1<=(x.length:Int)/\x.length<=16/\bz (List.drop (x_1+1).toNat x)=bz x)/\((x.length:Int) - (x_1+1)).toNat<((x.length:Int) - x_1).toNat)))/\(decide (x_1<(x.length:Int))=false->0=aM x/\True)) (x.getD x_1.toNat (0,false,0)))
theorem xA:qu:=by
 unfold qu;intro h ⟨hb,hw⟩ _;unfold aK at *;refine ⟨fun hl=>?_,fun hl=>⟨⟨by omega,by omega,by have:=uZ hl; omega,by simp⟩,fun i ⟨h0,h1,h2,h3⟩=>⟨fun hlt=>?_,fun hge=>?_⟩⟩⟩
 ·have:=tM hl;unfold aM;rw [if_pos (by omega)];exact ⟨rfl,trivial⟩
 ·have hlt:i<(h.length:Int):=by simpa using hlt
  have e:=bI ((0,false,0):a6) h0 hlt;have hF:aM h=bz h:=by unfold aM; rw [if_neg (by omega)]
  rw [hF,<- h3,e];simp only [bz,eE,fj,ak];generalize h.getD i.toNat (0,false,0)=s at *;obtain ⟨g,o,a⟩:=s;simp only;cases o <;> grind
 ·have hF:aM h=bz h:=by unfold aM; rw [if_neg (by omega)]
  rw [cE (by simpa using hge)] at h3;rw [hF,<- h3];exact ⟨rfl,trivial⟩
theorem jD:AH.ok Tryz.prog 75:=aD (ann:=B3) (ae mg ap) Tryz.func75 (by kernel_rfl) xA
def eh (i:Int) (s:a6):Int:=i+65536 * s.1
def C8:Spec:={ Ts:=[ty_I,bF],Rs:=[.dat bi],pre:=fun ((i,s):Int×a6)=>0<=i/\i<65536/\0<=s.1/\s.1<=65535,F:=fun ((i,s):Int×a6)=>eh i s }
def s9:Prop :=
  ∀ (x:Int×Int×Bool×Int),ak .i64 x.1/\ak .i64 x.2.1/\True/\ak .i64 x.2.2.2->0<=x.1/\x.1<65536/\0<=x.2.1/\x.2.1<=65535->(0:Int)<=16/\16<(↑IntKind.u64.bits:Int)/\(↑((IntKind.u64.wrap x.1).toNat ||| (IntKind.u64.wrap (IntKind.u64.wrap x.2.1 * 2 ^ Int.toNat 16)).toNat):Int)=eh x.1 x.2/\True
theorem Ad:s9:=by
 unfold s9;intro ⟨i,s⟩ _ ⟨h0,h1,h2,h3⟩;simp only at *;refine ⟨by omega,by rw [E5]; omega,?_,trivial⟩;have e:(2:Int) ^ Int.toNat 16=65536:=rfl;have e3:(2:Int) ^ 16=65536:=rfl;have k:=nY (a:=i) (b:=s.1) (i:=16) h0 h2 (by rw [e3]; omega);rw [e3] at k;rw [eY (n:=i) (by omega) (by omega),eY (n:=s.1) h2 (by omega),e,eY (n:=s.1 * 65536) (by omega) (by omega),k];simp only [eh];omega
theorem tE:C8.ok Tryz.prog 76:=aD (ann:=cF) ap Tryz.func76 (by kernel_rfl) Ad
theorem mH:∀ {h:List a6},bz h=0->∀ s∈h,eE s=0
 | [],_=>by simp
 | x::l,h=>by
  simp only [bz] at h;split at h
  ·omega
  ·intro s hs;rcases Qs.1 hs with rfl | hs
   ·omega
   ·exact mH h s hs
theorem nr {h:List a6} (hf:aM h=0):h.length<=16/\∀ s∈h,0<=s.1/\s.1<=65535/\0<=s.2.2/\s.2.2<=255:=by
 unfold aM at hf;split at hf
 ·omega
 ·refine ⟨by omega,fun s hs=>?_⟩;have:=mH hf s hs;unfold eE at this;split at this <;> omega
def cp (h:List a6) (n:Int):Int×Int :=
 if aM h≠0 then (0,aM h) else if n % 65536<h.length/\(h.getD (n % 65536).toNat (0,false,0)).2.1=true/\eh (n % 65536) (h.getD (n % 65536).toNat (0,false,0))=n then (n % 65536,0) else (0,9)
def Da:Spec:={ Ts:=[.arr bF,bi],Rs:=[.dat ty_I,.dat ty_I],pre:=fun _=>True,F:=fun ((h,n):List a6×Int)=>cp h n }
def tc:Prop :=
  ∀ (x:List (Int×Bool×Int)×Int),(x.1.length * (8+(8+8))<=aK/\∀ (x_1:Int×Bool×Int),x_1∈x.1->ak .i64 x_1.1/\True/\ak .i64 x_1.2.2)/\ak .u64 x.2->True->True/\(decide (aM x.1≠0)=true->0=(cp x.1 x.2).1/\aM x.1=(cp x.1 x.2).2/\True)/\(decide (aM x.1≠0)=false->(decide (IntKind.u64.wrap (x.1.length:Int)<=(↑(x.2.toNat &&& Int.toNat 65535):Int))=false->0<=(↑(x.2.toNat &&& Int.toNat 65535):Int))/\(decide (IntKind.u64.wrap (x.1.length:Int)<=(↑(x.2.toNat &&& Int.toNat 65535):Int))=false->(↑(x.2.toNat &&& Int.toNat 65535):Int)<(x.1.length:Int))/\((decide (IntKind.u64.wrap (x.1.length:Int)<=(↑(x.2.toNat &&& Int.toNat 65535):Int))||!(x.1.getD (↑(x.2.toNat &&& Int.toNat 65535):Int).toNat (0,false,0)).2.1)=false->0<=(↑(x.2.toNat &&& Int.toNat 65535):Int))/\((decide (IntKind.u64.wrap (x.1.length:Int)<=(↑(x.2.toNat &&& Int.toNat 65535):Int))||!(x.1.getD (↑(x.2.toNat &&& Int.toNat 65535):Int).toNat (0,false,0)).2.1)=false->(↑(x.2.toNat &&& Int.toNat 65535):Int)<(x.1.length:Int))/\((decide (IntKind.u64.wrap (x.1.length:Int)<=(↑(x.2.toNat &&& Int.toNat 65535):Int))||!(x.1.getD (↑(x.2.toNat &&& Int.toNat 65535):Int).toNat (0,false,0)).2.1)=false->0<=IntKind.i64.wrap (↑(x.2.toNat &&& Int.toNat 65535):Int)/\IntKind.i64.wrap (↑(x.2.toNat &&& Int.toNat 65535):Int)<65536/\0<=(x.1.getD (↑(x.2.toNat &&& Int.toNat 65535):Int).toNat (0,false,0)).1/\(x.1.getD (↑(x.2.toNat &&& Int.toNat 65535):Int).toNat (0,false,0)).1<=65535)/\((decide (IntKind.u64.wrap (x.1.length:Int)<=(↑(x.2.toNat &&& Int.toNat 65535):Int))||!(x.1.getD (↑(x.2.toNat &&& Int.toNat 65535):Int).toNat (0,false,0)).2.1||decide (eh (IntKind.i64.wrap (↑(x.2.toNat &&& Int.toNat 65535):Int)) (x.1.getD (↑(x.2.toNat &&& Int.toNat 65535):Int).toNat (0,false,0))≠x.2))=true->0=(cp x.1 x.2).1/\9=(cp x.1 x.2).2/\True)/\((decide (IntKind.u64.wrap (x.1.length:Int)<=(↑(x.2.toNat &&& Int.toNat 65535):Int))||!(x.1.getD (↑(x.2.toNat &&& Int.toNat 65535):Int).toNat (0,false,0)).2.1||decide (eh (IntKind.i64.wrap (↑(x.2.toNat &&& Int.toNat 65535):Int)) (x.1.getD (↑(x.2.toNat &&& Int.toNat 65535):Int).toNat (0,false,0))≠x.2))=false->IntKind.i64.wrap (↑(x.2.toNat &&& Int.toNat 65535):Int)=(cp x.1 x.2).1/\0=(cp x.1 x.2).2/\True))
theorem Af:tc:=by
 unfold tc;intro ⟨h,n⟩ ⟨⟨hb,hw⟩,hn⟩ _;simp only [ak] at hn
 have hand:((n.toNat &&& Int.toNat 65535:Nat):Int)=n % 65536:=by
  have:=nn hn.1 16;simpa using this
 simp only at *;rw [hand];have h0:0<=n % 65536:=by omega
 have h1:n % 65536<65536:=by omega
 rw [jT (n:=n % 65536) (by omega) (by omega)];have hl:IntKind.u64.wrap (h.length:Int)=h.length:=eY (by omega) (by unfold aK at hb; omega);rw [hl];simp only [cp];refine ⟨trivial,fun hf=>by grind,fun hf=>?_⟩;have hf:aM h=0:=by simpa using hf
 obtain ⟨z1,z2⟩:=nr hf
 have hm:n % 65536<h.length->0<=(h.getD (n % 65536).toNat (0,false,0)).1/\(h.getD (n % 65536).toNat (0,false,0)).1<=65535:=fun hlt=>by
  have:=z2 _ (aI (0,false,0) h0 hlt);omega
 generalize h.getD (n % 65536).toNat (0,false,0)=s at *;generalize n % 65536=i at *;simp only [hf,eh];obtain ⟨g,o,a⟩:=s;cases o <;> simp only at * <;> grind
theorem tF:Da.ok Tryz.prog 207:=aD (ann:=cF) (ae jD (ae tE ap)) Tryz.func207 (by kernel_rfl) Af
def iq (h:List a6) (n:Int):Int×Int:=if (cp h n).2≠0 then (0,(cp h n).2) else ((h.getD (cp h n).1.toNat (0,false,0)).2.2,0)
def C9:Spec:={ Ts:=[.arr bF,bi],Rs:=[.dat ty_I,.dat ty_I],pre:=fun _=>True,F:=fun ((h,n):List a6×Int)=>iq h n }
def ta:Prop :=
  ∀ (x:List (Int×Bool×Int)×Int),(x.1.length * (8+(8+8))<=aK/\∀ (x_1:Int×Bool×Int),x_1∈x.1->ak .i64 x_1.1/\True/\ak .i64 x_1.2.2)/\ak .u64 x.2->True->True/\(decide ((cp x.1 x.2).2≠0)=true->0=(iq x.1 x.2).1/\(cp x.1 x.2).2=(iq x.1 x.2).2/\True)/\(decide ((cp x.1 x.2).2≠0)=false->0<=(cp x.1 x.2).1/\(cp x.1 x.2).1<(x.1.length:Int)/\(x.1.getD (cp x.1 x.2).1.toNat (0,false,0)).2.2=(iq x.1 x.2).1/\0=(iq x.1 x.2).2/\True)
theorem Ae:ta:=by
 unfold ta;intro ⟨h,n⟩ ⟨_,hn⟩ _;simp only [ak] at hn
 have hr:(cp h n).2=0->0<=(cp h n).1/\(cp h n).1<h.length:=by
  unfold cp
  grind
 simp only [iq] at *;generalize cp h n=f at *
 grind
theorem D9:C9.ok Tryz.prog 145:=aD (ann:=cF) (ae tF ap) Tryz.func145 (by kernel_rfl) Ae
def closeF (h:List a6) (n:Int):List a6×Int:=if (cp h n).2≠0 then ([],(cp h n).2) else (h.set (cp h n).1.toNat ((h.getD (cp h n).1.toNat (0,false,0)).1,false,0),0)
def AG:Spec:={ Ts:=[.arr bF,bi],Rs:=[.own 135 bF,.dat ty_I],pre:=fun _=>True,F:=fun ((h,n):List a6×Int)=>closeF h n }
def qt:Prop :=
  ∀ (x:List (Int×Bool×Int)×Int),(x.1.length * (8+(8+8))<=aK/\∀ (x_1:Int×Bool×Int),x_1∈x.1->ak .i64 x_1.1/\True/\ak .i64 x_1.2.2)/\ak .u64 x.2->True->True/\(decide ((cp x.1 x.2).2≠0)=true->([]:List (Int×Bool×Int))=(closeF x.1 x.2).1/\(cp x.1 x.2).2=(closeF x.1 x.2).2/\True)/\(decide ((cp x.1 x.2).2≠0)=false->True/\0<=(cp x.1 x.2).1/\(cp x.1 x.2).1<(x.1.length:Int)/\0<=(cp x.1 x.2).1/\(cp x.1 x.2).1<(x.1.length:Int)/\(cp x.1 x.2).1.toNat<x.1.length/\x.1.set (cp x.1 x.2).1.toNat ((x.1.getD (cp x.1 x.2).1.toNat (0,false,0)).1,false,0)=(closeF x.1 x.2).1/\0=(closeF x.1 x.2).2/\True)
theorem xz:qt:=by
 unfold qt;intro ⟨h,n⟩ ⟨_,hn⟩ _;simp only [ak] at hn
 have hr:(cp h n).2=0->0<=(cp h n).1/\(cp h n).1<h.length:=by
  unfold cp
  grind
 simp only [closeF] at *;generalize cp h n=f at *
 grind
theorem A8:AG.ok Tryz.prog 146:=aD (ann:=cF) (ae tF (ae bL ap)) Tryz.func146 (by kernel_rfl) xz
def d5 (n:Int):List a6×Int:=if n<0\/16<n then ([],4) else (List.replicate n.toNat (0,false,0),0)
def Gd:Spec:={ Ts:=[ty_I],Rs:=[.own 135 bF,.dat ty_I],pre:=fun _=>True,F:=d5 }
def vG:Prop :=
  ∀ (x:Int),ak .i64 x->True->((decide (x<0)||decide (16<x))=true->([]:List (Int×Bool×Int))=(d5 x).1/\4=(d5 x).2/\True)/\((decide (x<0)||decide (16<x))=false->0<=x/\x.toNat * (8+(8+8))<=aK/\List.replicate x.toNat (0,false,0)=(d5 x).1/\0=(d5 x).2/\True)
theorem Co:vG:=by
 unfold vG;intro n hw _;simp only [ak,d5,aK] at *
 grind
theorem GP:Gd.ok Tryz.prog 55:=aD (ann:=cF) ap Tryz.func55 (by kernel_rfl) Co
def mc (h:List a6) (i at_:Int):a6:=((h.getD i.toNat (0,false,0)).1+1,true,at_)
def openF (h:List a6) (at_:Int):List a6×Int×Int :=
 if aM h≠0 then ([],0,aM h) else if fj at_=false then ([],0,4) else if ag az 0 h<0 then ([],0,7)
 else (h.set (ag az 0 h).toNat (mc h (ag az 0 h) at_),eh (ag az 0 h) (mc h (ag az 0 h) at_),0)
def Fe:Nat->Option LoopGen
 | 1000003=>some { rd:=[.dat 0 (.arr bF),.dat 1 ty_I],A:=fun ((h,at_):List a6×Int)=>{ cs:=[.dat 7 ty_I],inv:=fun (e:Int)=>e=if aM h≠0 then aM h else if fj at_=false then 4 else 0,mu:=fun _=>0 } }
 | _=>none
def C7:Spec:={ Ts:=[.arr bF,ty_I],Rs:=[.own 135 bF,.dat bi,.dat ty_I],pre:=fun _=>True,F:=fun ((h,at_):List a6×Int)=>openF h at_ }
def s8:Prop :=
  ∀ (x:List (Int×Bool×Int)×Int),(x.1.length * (8+(8+8))<=aK/\∀ (x_1:Int×Bool×Int),x_1∈x.1->ak .i64 x_1.1/\True/\ak .i64 x_1.2.2)/\ak .i64 x.2->True->True/\(decide (aM x.1=0)=true->True)/\(((decide (aM x.1=0)&&!fj x.2)=true->(4:Int)=if aM x.1≠0 then aM x.1 else if fj x.2=false then (4:Int) else (0:Int))/\((decide (aM x.1=0)&&!fj x.2)=false->aM x.1=if aM x.1≠0 then aM x.1 else if fj x.2=false then (4:Int) else (0:Int)))/\∀ (x_1:Int),(x_1=if aM x.1≠0 then aM x.1 else if fj x.2=false then (4:Int) else (0:Int))->(decide (x_1≠0)=true->([]:List (Int×Bool×Int))=(openF x.1 x.2).1/\0=(openF x.1 x.2).2.1/\x_1=(openF x.1 x.2).2.2/\True)/\(decide (x_1≠0)=false->(∀ (s:a6),s∈x.1->(fun (_:Int×Bool×Int)=>True,fun (x:Int×Bool×Int)=>az x).1 s)/\(decide (ag (fun (x:Int×Bool×Int)=>az x) 0 x.1<0)=true->([]:List (Int×Bool×Int))=(openF x.1 x.2).1/\0=(openF x.1 x.2).2.1/\7=(openF x.1 x.2).2.2/\True)/\(decide (ag (fun (x:Int×Bool×Int)=>az x) 0 x.1<0)=false->True/\0<=ag (fun (x:Int×Bool×Int)=>az x) 0 x.1/\ag (fun (x:Int×Bool×Int)=>az x) 0 x.1<(x.1.length:Int)/\ak .i64 ((x.1.getD (ag (fun (x:Int×Bool×Int)=>az x) 0 x.1).toNat (0,false,0)).1+1)/\0<=ag (fun (x:Int×Bool×Int)=>az x) 0 x.1/\ag (fun (x:Int×Bool×Int)=>az x) 0 x.1<(x.1.length:Int)/\(ag (fun (x:Int×Bool×Int)=>az x) 0 x.1).toNat<x.1.length/\0<=ag (fun (x:Int×Bool×Int)=>az x) 0 x.1/\ag (fun (x:Int×Bool×Int)=>az x) 0 x.1<(↑(x.1.set (ag (fun (x:Int×Bool×Int)=>az x) 0 x.1).toNat ((x.1.getD (ag (fun (x:Int×Bool×Int)=>az x) 0 x.1).toNat (0,false,0)).1+1,true,x.2)).length:Int)/\(ag (fun (x:Int×Bool×Int)=>az x) 0 x.1).toNat<(x.1.set (ag (fun (x:Int×Bool×Int)=>az x) 0 x.1).toNat ((x.1.getD (ag (fun (x:Int×Bool×Int)=>az x) 0 x.1).toNat (0,false,0)).1+1,true,x.2)).length/\(0<=ag (fun (x:Int×Bool×Int)=>az x) 0 x.1/\ag (fun (x:Int×Bool×Int)=>az x) 0 x.1<65536/\0<=((x.1.set (ag (fun (x:Int×Bool×Int)=>az x) 0 x.1).toNat ((x.1.getD (ag (fun (x:Int×Bool×Int)=>az x) 0 x.1).toNat (0,false,0)).1+1,true,x.2)).getD (ag (fun (x:Int×Bool×Int)=>az x) 0 x.1).toNat (0,false,0)).1/\((x.1.set (ag (fun (x:Int×Bool×Int)=>az x) 0 x.1).toNat ((x.1.getD (ag (fun (x:Int×Bool×Int)=>az x) 0 x.1).toNat (0,false,0)).1+1,true,x.2)).getD (ag (fun (x:Int×Bool×Int)=>az x) 0 x.1).toNat (0,false,0)).1<=65535)/\x.1.set (ag (fun (x:Int×Bool×Int)=>az x) 0 x.1).toNat ((x.1.getD (ag (fun (x:Int×Bool×Int)=>az x) 0 x.1).toNat (0,false,0)).1+1,true,x.2)=(openF x.1 x.2).1/\eh (ag (fun (x:Int×Bool×Int)=>az x) 0 x.1) ((x.1.set (ag (fun (x:Int×Bool×Int)=>az x) 0 x.1).toNat ((x.1.getD (ag (fun (x:Int×Bool×Int)=>az x) 0 x.1).toNat (0,false,0)).1+1,true,x.2)).getD (ag (fun (x:Int×Bool×Int)=>az x) 0 x.1).toNat (0,false,0))=(openF x.1 x.2).2.1/\0=(openF x.1 x.2).2.2/\True))
theorem Ac:s8:=by
 unfold s8;intro ⟨h,at_⟩ ⟨⟨_,hw⟩,ha⟩ _;simp only at *;refine ⟨trivial,fun _=>trivial,⟨fun hc=>by grind,fun hc=>by grind⟩,fun e he=>⟨fun hz=>by unfold openF; grind,fun hz=>?_⟩⟩;have hz:e=0:=by simpa using hz
 have hf:aM h=0:=by grind
 have ht:fj at_=true:=by grind
 obtain ⟨z1,z2⟩:=nr hf
 have hO:openF h at_=if ag az 0 h<0 then ([],0,7) else (h.set (ag az 0 h).toNat (mc h (ag az 0 h) at_),eh (ag az 0 h) (mc h (ag az 0 h) at_),0):=by
  unfold openF;simp [hf,ht]
 rw [hO];have hk:=em az ((0,false,0):a6) h 0 (by omega);have hr:=eS az h 0;have hg:=fun q=>eo az ((0,false,0):a6) h 0 q (by omega)
 generalize ag az 0 h=i at *;refine ⟨fun _ _=>trivial,fun hi=>by rw [if_pos (tM hi)]; exact ⟨rfl,rfl,rfl,trivial⟩,fun hi=>?_⟩;have hi:0<=i:=by have:=uZ hi; omega
 have hlt:i<h.length:=by omega
 have hgi:=hg hi;have hm:=z2 _ (aI ((0,false,0):a6) hi hlt);simp only [Su] at hgi;rw [if_neg (by omega)];have hgs:∀ v:a6,(h.set i.toNat v).getD i.toNat (0,false,0)=v:=fun v=>by simp [show i.toNat<h.length by omega]
 simp only [hgs,R4,mc];unfold az at hgi;generalize h.getD i.toNat (0,false,0)=s at *;simp only [CF,QP] at hgi;refine ⟨trivial,by omega,by omega,by simp only [ak]; omega,by omega,by omega,by omega,by omega,by omega,by omega,⟨by omega,by omega,by omega,by omega⟩,by simp⟩
theorem D8:C7.ok Tryz.prog 143:=aD (ann:=Fe) (ae jD (ae mg (ae GO (ae bL (ae tE (ae Eb ap)))))) Tryz.func143 (by kernel_rfl) Ac
theorem rT {α:Type} (f:α->α) (h:List α) (i:Nat):((h.take i).map f++h.drop i).length=h.length:=by simp; omega
theorem zp {α:Type} (f:α->α) (h:List α) (d:α) (i:Nat) (hi:i<h.length):((h.take i).map f++h.drop i).getD i d=h.getD i d:=by
 simp only [List.getD_eq_getElem?_getD];rw [List.getElem?_append_right (by simp; omega)];simp [show min i h.length=i by omega]
theorem zo {α:Type} (f:α->α) (h:List α) (d:α) (i:Nat) (hi:i<h.length):((h.take i).map f++h.drop i).set i (f (h.getD i d))=(h.take (i+1)).map f++h.drop (i+1):=by
 have l1:((h.take i).map f).length=i:=by simp; omega
 rw [R5 _ _ (by omega),l1,SC,Rq hi,List.set_cons_zero,Q4 hi,Rg,List.append_assoc];simp [hi]
theorem G0 {α:Type} (f:α->α) (h:List α) (d:α) (i:Nat) (hi:i<h.length) (hf:f (h.getD i d)=h.getD i d):(h.take i).map f++h.drop i=(h.take (i+1)).map f++h.drop (i+1):=by
 rw [<- zo f h d i hi,hf];apply Sq;intro j;rw [List.getElem?_set];split
 ·rename_i e;subst e;have:=zp f h d i hi;rw [if_pos (by rw [rT]; exact hi)];simp only [List.getD_eq_getElem?_getD] at this;have hl:i<((h.take i).map f++h.drop i).length:=by rw [rT]; exact hi
  rw [List.getElem?_eq_getElem hl] at this |-;simp only [SK] at this;rw [this];simp [hi]
 ·rfl
def dK (to:List Int) (s:a6):a6:=if s.2.1=true then (s.1,s.2.1,to.getD s.2.2.toNat 0) else s
def gn (h:List a6) (to:List Int):List a6×Int:=if aM h≠0 then ([],aM h) else if to.length≠256 then ([],3) else if (to.any fun v=>!fj v)=true then ([],4) else (h.map (dK to),0)
def C6:Spec:={ Ts:=[.arr bF,.arr ty_I],Rs:=[.own 135 bF,.dat ty_I],pre:=fun _=>True,F:=fun ((h,to):List a6×List Int)=>gn h to }
def Fd:Nat->Option LoopGen
 | 10=>some { rd:=[.dat 0 (.arr bF),.dat 1 (.arr ty_I)],wr:=[7,25],A:=fun ((h,to):List a6×List Int)=>{ cs:=[.own 7 135 bF,.same 25 7,.dat 27 ty_I],inv:=fun ((out,_,i):List a6×Unit×Int)=>0<=i/\i<=h.length/\aM h=0/\to.length=256/\out=(h.take i.toNat).map (dK to)++h.drop i.toNat,mu:=fun ((_,_,i):List a6×Unit×Int)=>(h.length - i).toNat } }
 | 1000013=>some { rd:=[.dat 0 (.arr bF),.dat 1 (.arr ty_I),.dat 27 ty_I],wr:=[7,25],A:=fun ((h,to,i):List a6×List Int×Int)=>{ cs:=[.own 7 135 bF,.same 25 7],inv:=fun ((out,_):List a6×Unit)=>out=(h.take (i.toNat+1)).map (dK to)++h.drop (i.toNat+1),mu:=fun _=>0 } }
 | _=>none
def s7:Prop :=
  ∀ (x:List (Int×Bool×Int)×List Int),((x.1.length * (8+(8+8))<=aK/\∀ (x_1:Int×Bool×Int),x_1∈x.1->ak .i64 x_1.1/\True/\ak .i64 x_1.2.2)/\x.2.length * 8<=aK/\∀ (x_1:Int),x_1∈x.2->ak .i64 x_1)->True->True/\(decide (aM x.1≠0)=true->([]:List (Int×Bool×Int))=(gn x.1 x.2).1/\aM x.1=(gn x.1 x.2).2/\True)/\(decide (aM x.1≠0)=false->(decide ((x.2.length:Int)≠256)=true->([]:List (Int×Bool×Int))=(gn x.1 x.2).1/\3=(gn x.1 x.2).2/\True)/\(decide ((x.2.length:Int)≠256)=false->(∀ (s:Int),s∈x.2->(fun (_:Int)=>True,fun (x:Int)=>!fj x).1 s)/\((x.2.any fun (x:Int)=>!fj x)=true->([]:List (Int×Bool×Int))=(gn x.1 x.2).1/\4=(gn x.1 x.2).2/\True)/\((x.2.any fun (x:Int)=>!fj x)=false->True/\((0:Int)<=0/\0<=(x.1.length:Int)/\aM x.1=0/\x.2.length=256/\x.1=List.map (dK x.2) (List.take (Int.toNat 0) x.1)++List.drop (Int.toNat 0) x.1)/\∀ (x_1:List (Int×Bool×Int)×Unit×Int),0<=x_1.2.2/\x_1.2.2<=(x.1.length:Int)/\aM x.1=0/\x.2.length=256/\x_1.1=List.map (dK x.2) (List.take x_1.2.2.toNat x.1)++List.drop x_1.2.2.toNat x.1->(decide (x_1.2.2<(x.1.length:Int))=true->0<=x_1.2.2/\x_1.2.2<(x_1.1.length:Int)/\x_1.2.2.toNat<x_1.1.length/\(((x_1.1.getD x_1.2.2.toNat (0,false,0)).2.1=true->0<=(x_1.1.getD x_1.2.2.toNat (0,false,0)).2.2/\(x_1.1.getD x_1.2.2.toNat (0,false,0)).2.2<(x.2.length:Int)/\0<=x_1.2.2/\x_1.2.2<(x_1.1.length:Int)/\x_1.2.2.toNat<x_1.1.length/\x_1.1.set x_1.2.2.toNat ((x_1.1.getD x_1.2.2.toNat (0,false,0)).1,(x_1.1.getD x_1.2.2.toNat (0,false,0)).2.1,x.2.getD (x_1.1.getD x_1.2.2.toNat (0,false,0)).2.2.toNat 0)=List.map (dK x.2) (List.take (x_1.2.2.toNat+1) x.1)++List.drop (x_1.2.2.toNat+1) x.1)/\((x_1.1.getD x_1.2.2.toNat (0,false,0)).2.1=false->x_1.1=List.map (dK x.2) (List.take (x_1.2.2.toNat+1) x.1)++List.drop (x_1.2.2.toNat+1) x.1))/\∀ (x_2:List (Int×Bool×Int)×Unit),x_2.1=List.map (dK x.2) (List.take (x_1.2.2.toNat+1) x.1)++List.drop (x_1.2.2.toNat+1) x.1->ak .i64 (x_1.2.2+1)/\(0<=x_1.2.2+1/\x_1.2.2+1<=(x.1.length:Int)/\aM x.1=0/\x.2.length=256/\x_2.1=List.map (dK x.2) (List.take (x_1.2.2+1).toNat x.1)++List.drop (x_1.2.2+1).toNat x.1)/\((x.1.length:Int) - (x_1.2.2+1)).toNat<((x.1.length:Int) - x_1.2.2).toNat)/\(decide (x_1.2.2<(x.1.length:Int))=false->x_1.1=(gn x.1 x.2).1/\0=(gn x.1 x.2).2/\True))))
theorem Ab:s7:=by
 unfold s7;intro ⟨h,to⟩ ⟨⟨_,hw⟩,hto,_⟩ _;simp only at *;refine ⟨trivial,fun hf=>by unfold gn; grind,fun hf=>⟨fun hl=>by unfold gn; grind,fun hl=>⟨fun _ _=>trivial,fun ha=>by unfold gn; grind,fun ha=>?_⟩⟩⟩;have hf:aM h=0:=by simpa using hf
 have hl:to.length=256:=by
  have:((to.length:Nat):Int)=256:=by simpa using hl
  omega
 obtain ⟨z1,z2⟩:=nr hf;have hS:gn h to=(h.map (dK to),0):=by unfold gn; rw [if_neg (by omega),if_neg (by omega),if_neg (by rw [ha]; simp)]
 refine ⟨trivial,⟨by omega,by omega,hf,hl,by simp⟩,fun ⟨out,u,i⟩ ⟨h0,h1,_,_,h4⟩=>⟨fun hlt=>?_,fun hge=>?_⟩⟩
 ·have hlt:i<(h.length:Int):=by simpa using hlt
  simp only at *;have hm:=z2 _ (aI ((0,false,0):a6) h0 hlt);have hlen:out.length=h.length:=by rw [h4]; exact rT _ _ _
  have hget:out.getD i.toNat (0,false,0)=h.getD i.toNat (0,false,0):=by rw [h4]; exact zp _ _ _ _ (by omega)
  have hset:=zo (dK to) h ((0,false,0):a6) i.toNat (by omega);have hkeep:=G0 (dK to) h ((0,false,0):a6) i.toNat (by omega);rw [<- h4] at hset hkeep;rw [hget];refine ⟨h0,by omega,by omega,⟨fun ho=>⟨by omega,by omega,h0,by omega,by omega,?_⟩,fun ho=>?_⟩,fun ⟨o2,_⟩ e2=>⟨by simp only [ak]; omega,⟨by omega,by omega,hf,hl,?_⟩,by omega⟩⟩
  ·rw [<- hset];unfold dK;rw [if_pos ho]
  ·apply hkeep;unfold dK;rw [if_neg (by rw [ho]; simp)]
  ·rw [show (i+1).toNat=i.toNat+1 by omega];exact e2
 ·have hge:¬ i<(h.length:Int):=by simpa using hge
  simp only at *;rw [hS,h4,QG (by omega),QX (by omega)];simp
theorem tD:C6.ok Tryz.prog 160:=aD (ann:=Fd) (ae jD (ae Kc (ae D2 (ae bL ap)))) Tryz.func160 (by kernel_rfl) Ab
def it:Int->List a6->List Int
 | _,[]=>[]
 | k,s::l=>if s.2.1=true then eh k s::it (k+1) l else it (k+1) l
def OS (h:List a6):List Int×Int:=if aM h≠0 then ([],aM h) else (it 0 h,0)
end
section
abbrev aH:Ty:=.pair (.arr bi) (.pair (.arr ty_I) (.pair (.arr dr) (.arr bF)))
abbrev ah:=List Int×List Int×List bh×List a6
abbrev oT (s:ah):Prop:=(s.1.length * 8<=aK/\∀ x∈s.1,ak .u64 x)/\(s.2.1.length * 8<=aK/\∀ x∈s.2.1,ak .i64 x)/\(s.2.2.1.length * (8+8)<=aK/\∀ x∈s.2.2.1,ak .i64 x.1/\ak .i64 x.2)/\s.2.2.2.length * (8+(8+8))<=aK/\∀ x∈s.2.2.2,ak .i64 x.1/\True/\ak .i64 x.2.2
def gU (h:List a6):List Int:=(h.filter fun s=>s.2.1).map (·.2.2)
def cJ (s:ah):List Int:=(s.2.1.filter fun v=>decide (0<=v))++gU s.2.2.2++s.2.2.1.map (·.1)
def ai (s:ah):List Int:=fV (eC ((bt s.2.1 s.1.length).1++gU s.2.2.2++s.2.2.1.map (·.1)))
def ar (s:ah):Int :=
 if (am s.1).2.2≠0 then (am s.1).2.2 else if aG s.2.1 s.1.length≠0 then aG s.2.1 s.1.length else if bU s.2.2.1≠0 then bU s.2.2.1 else if aM s.2.2.2≠0 then aM s.2.2.2 else bb s.1 (cJ s)
theorem li (r:List Int) (n:Int):(bt r n).1.length<=r.length:=by
 unfold bt;split
 ·simp
 ·have h1:(fV (eC (r.filter fun v=>!decide (v<0)))).length<=_:=kZ _;have h2:=SR (fun v:Int=>!decide (v<0)) r;rw [jv] at h1;simp only;omega
theorem nT (h:List a6):(gU h).length<=h.length:=by
 unfold gU;rw [Q3];exact SR _ _
theorem GC (h:List a6) (x:a6):gU (h++[x])=if x.2.1=true then gU h++[x.2.2] else gU h:=by
 unfold gU;rw [SO,Rg];by_cases hx:x.2.1=true
 ·rw [if_pos hx,Rj (by simpa using hx)]; simp
 ·rw [if_neg hx,RF (by simpa using hx)]; simp
theorem rn {l:List Int} {x:Int}:x∈fV (eC l) ↔ x∈l:=by
 rw [(ui (l9 l)).2 x,rF]
theorem gZ {s:ah} (h:aG s.2.1 s.1.length=0) {x:Int}:x∈ai s ↔ x∈cJ s:=by
 unfold ai cJ;rw [rn,Qx,Qx,Qx,Qx]
 have:x∈(bt s.2.1 s.1.length).1 ↔ x∈s.2.1.filter fun v=>decide (0<=v):=by
  unfold bt;rw [if_neg (by omega)];simp only;rw [rn,Rx,Rx];simp
 rw [this]
theorem zc:∀ (l:List bh) (q:Int),cV q l=0->∀ x∈l,0<=x.1/\x.1<=255
 | [],_,_,x,hx=>by cases hx
 | y::l,q,h,x,hx=>by
  simp only [cV] at h;split at h
  ·omega
  ·rename_i hb;split at h
   ·omega
   ·rcases Qs.1 hx with rfl | hx
    ·unfold mC at hb;simp only [Ri,QP,not_or] at hb;omega
    ·exact zc l _ h x hx
theorem uV:∀ (l:List a6),bz l=0->∀ x∈l,0<=x.2.2/\x.2.2<=255
 | [],_,x,hx=>by cases hx
 | y::l,h,x,hx=>by
  simp only [bz] at h;split at h
  ·rename_i hb; omega
  ·rename_i hb;rcases Qs.1 hx with rfl | hx
   ·have hb:eE x=0:=by omega
    unfold eE at hb;split at hb
    ·omega
    ·omega
   ·exact uV l h x hx
theorem Ej {s:ah} (h1:aG s.2.1 s.1.length=0) (h2:bU s.2.2.1=0) (h3:aM s.2.2.2=0):∀ x∈cJ s,0<=x/\x<=255:=by
 intro x hx;unfold cJ at hx;rcases Qx.1 hx with hx | hx
 ·rcases Qx.1 hx with hx | hx
  ·obtain ⟨hx,h0⟩:=Rx.1 hx;have h0:=tM h0;unfold aG at h1;split at h1
   ·omega
   ·split at h1
    ·omega
    ·split at h1
     ·omega
     ·rename_i hn _ ha;have:=pL (by simpa using ha) hx;omega
  ·unfold gU at hx;obtain ⟨y,hy,rfl⟩:=QR.1 hx;unfold aM at h3;split at h3
   ·omega
   ·exact uV _ h3 y (Rx.1 hy).1
 ·obtain ⟨y,hy,rfl⟩:=QR.1 hx;unfold bU at h2;split at h2
  ·omega
  ·exact zc _ _ h2 y hy
theorem kH {s:ah} (h1:aG s.2.1 s.1.length=0) (h2:bU s.2.2.1=0) (h3:aM s.2.2.2=0):s.2.1.length<=32/\s.2.2.1.length<=16/\s.2.2.2.length<=16:=by
 unfold aG at h1;unfold bU at h2;unfold aM at h3;refine ⟨?_,?_,?_⟩
 ·split at h1
  ·omega
  ·split at h1 <;> omega
 ·split at h2 <;> omega
 ·split at h3 <;> omega
theorem OG {a:List Int} (hc:(am a).2.2=0) (x:Int):(decide ((iy a x).2≠0)||(iy a x).1.2.2.2)=!isB (ac a).1 x:=by
 by_cases hx:isB (ac a).1 x=true
 ·obtain ⟨_,_,e⟩:=Nc hc hx;have hf:=(fG hx).2.2.2.2.2;rw [e,hx];simp only [im,hf];simp
 ·obtain ⟨_,_,e1,_,_,_,_⟩:=bp hc;have hx2:isB (ac a).1 x=false:=by simpa using hx
  rw [hx2];unfold iy;rw [if_neg (by omega)];by_cases hl:ag (fun s:aw=>decide (s.1=x)) 0 (am a).1<0
  ·rw [if_pos hl]; simp
  ·rw [if_neg hl];have h1:=eo (fun s:aw=>decide (s.1=x)) (0,0,0,0,false) (am a).1 0 (by omega) (by omega);have h2:=em (fun s:aw=>decide (s.1=x)) (0,0,0,0,false) (am a).1 0 (by omega);rw [Su] at h1;have h3:=aI (xs:=(am a).1) ((0,0,0,0,false):aw) (by omega:0<=ag (fun s:aw=>decide (s.1=x)) 0 (am a).1) (by omega);simp only;generalize (am a).1.getD (ag (fun s:aw=>decide (s.1=x)) 0 (am a).1).toNat (0,0,0,0,false)=t at *;have h1:=tM h1;rw [e1] at h3
   have:t.2.2.2.2=true:=by
    cases hf:t.2.2.2.2
    ·exfalso;apply hx;have:=pn (ca a) h3 hf;unfold isB;rw [<- h1,this]
    ·rfl
   simp only [im,this];simp
def E8:Nat->Option LoopGen
 | 3=>some { rd:=[.dat 7 (.arr dr)],A:=fun (p:List bh)=>{ cs:=[.own 3 3 ty_I,.dat 9 ty_I],inv:=fun ((o,i):List Int×Int)=>0<=i/\i<=p.length/\o=(p.take i.toNat).map (·.1),mu:=fun ((_,i):List Int×Int)=>(p.length - i).toNat } }
 | _=>none
def CR:Spec:={ Ts:=[aH],Rs:=[.own 3 ty_I],pre:=fun _=>True,F:=fun (s:ah)=>s.2.2.1.map (·.1) }
def sP:Prop :=
  ∀ (x:List Int×List Int×List (Int×Int)×List (Int×Bool×Int)),(oT x)->True->((0:Int)<=0/\0<=(x.2.2.1.length:Int)/\([]:List Int)=List.map (fun (x:bh)=>x.1) (List.take (Int.toNat 0) x.2.2.1))/\∀ (x_1:List Int×Int),0<=x_1.2/\x_1.2<=(x.2.2.1.length:Int)/\x_1.1=List.map (fun (x:bh)=>x.1) (List.take x_1.2.toNat x.2.2.1)->(decide (x_1.2<(x.2.2.1.length:Int))=true->0<=x_1.2/\x_1.2<(x.2.2.1.length:Int)/\(x_1.1.length+[(x.2.2.1.getD x_1.2.toNat (0,0)).1].length) * 8<=aK/\ak .i64 (x_1.2+1)/\(0<=x_1.2+1/\x_1.2+1<=(x.2.2.1.length:Int)/\x_1.1++[(x.2.2.1.getD x_1.2.toNat (0,0)).1]=List.map (fun (x:bh)=>x.1) (List.take (x_1.2+1).toNat x.2.2.1))/\((x.2.2.1.length:Int) - (x_1.2+1)).toNat<((x.2.2.1.length:Int) - x_1.2).toNat)/\(decide (x_1.2<(x.2.2.1.length:Int))=false->x_1.1=List.map (fun (x:bh)=>x.1) x.2.2.1/\True)
theorem zS:sP:=by
 unfold sP;intro ⟨a,r,p,h⟩ ⟨_,_,⟨hbp,_⟩,_⟩ _;unfold aK at hbp;simp only at hbp |-;refine ⟨⟨by omega,by omega,by simp⟩,fun ⟨o,i⟩ ⟨i0,i1,i2⟩=>⟨fun hlt=>?_,fun hge=>?_⟩⟩
 ·simp only at i0 i1 i2 hlt |-;have hlt:=tM hlt;have ht:=a8 ((0,0):bh) i0 hlt;have hl:o.length=i.toNat:=by rw [i2]; simp; omega
  rw [ht,Rg,<- i2];unfold aK;simp only [ak,Rv];exact ⟨i0,hlt,by omega,by omega,⟨by omega,by omega,by first | rfl | trivial⟩,by omega⟩
 ·simp only at i0 i1 i2 hge |-;rw [bT (uZ hge)] at i2;exact ⟨i2,trivial⟩
theorem kO:CR.ok Tryz.prog 142:=aD (ann:=E8) ap Tryz.func142 (by kernel_rfl) zS
def KU:Nat->Option LoopGen
 | 3=>some { rd:=[.dat 17 (.arr bF),.own 3 3 ty_I],A:=fun ((h,l0):List a6×List Int)=>{ cs:=[.own 3 3 ty_I,.dat 19 ty_I],inv:=fun ((o,i):List Int×Int)=>0<=i/\i<=h.length/\o=l0++gU (h.take i.toNat),mu:=fun ((_,i):List Int×Int)=>(h.length - i).toNat } }
 | _=>none
def Jn:Spec:={ Ts:=[aH],Rs:=[.own 3 ty_I],pre:=fun (s:ah)=>s.2.1.length<=32/\s.2.2.1.length<=16/\s.2.2.2.length<=16,F:=ai }
def yO:Prop :=
  ∀ (x:List Int×List Int×List (Int×Int)×List (Int×Bool×Int)),(oT x)->x.2.1.length<=32/\x.2.2.1.length<=16/\x.2.2.2.length<=16->True/\((0:Int)<=0/\0<=(x.2.2.2.length:Int)/\(bt x.2.1 (x.1.length:Int)).1=(bt x.2.1 (x.1.length:Int)).1++gU (List.take (Int.toNat 0) x.2.2.2))/\∀ (x_1:List Int×Int),0<=x_1.2/\x_1.2<=(x.2.2.2.length:Int)/\x_1.1=(bt x.2.1 (x.1.length:Int)).1++gU (List.take x_1.2.toNat x.2.2.2)->(decide (x_1.2<(x.2.2.2.length:Int))=true->0<=x_1.2/\x_1.2<(x.2.2.2.length:Int)/\((x.2.2.2.getD x_1.2.toNat (0,false,0)).2.1=true->(x_1.1.length+[(x.2.2.2.getD x_1.2.toNat (0,false,0)).2.2].length) * 8<=aK/\ak .i64 (x_1.2+1)/\(0<=x_1.2+1/\x_1.2+1<=(x.2.2.2.length:Int)/\x_1.1++[(x.2.2.2.getD x_1.2.toNat (0,false,0)).2.2]=(bt x.2.1 (x.1.length:Int)).1++gU (List.take (x_1.2+1).toNat x.2.2.2))/\((x.2.2.2.length:Int) - (x_1.2+1)).toNat<((x.2.2.2.length:Int) - x_1.2).toNat)/\((x.2.2.2.getD x_1.2.toNat (0,false,0)).2.1=false->ak .i64 (x_1.2+1)/\(0<=x_1.2+1/\x_1.2+1<=(x.2.2.2.length:Int)/\x_1.1=(bt x.2.1 (x.1.length:Int)).1++gU (List.take (x_1.2+1).toNat x.2.2.2))/\((x.2.2.2.length:Int) - (x_1.2+1)).toNat<((x.2.2.2.length:Int) - x_1.2).toNat))/\(decide (x_1.2<(x.2.2.2.length:Int))=false->True/\[x_1.1,List.map (fun (x:bh)=>x.1) x.2.2.1].flatten.length * 8<=aK/\True/\True/\fV (eC [x_1.1,List.map (fun (x:bh)=>x.1) x.2.2.1].flatten)=ai x/\True)
theorem Fz:yO:=by
 unfold yO;intro ⟨a,r,p,h⟩ _ ⟨h1,h2,h3⟩;simp only at h1 h2 h3 |-;have hF:ai (a,r,p,h)=fV (eC ((bt r a.length).1++gU h++p.map (·.1))):=rfl;have hrl:=li r a.length;generalize (bt r a.length).1=l0 at *;refine ⟨trivial,⟨by omega,by omega,by simp [gU]⟩,fun ⟨o,i⟩ ⟨i0,i1,i2⟩=>⟨fun hlt=>?_,fun hge=>?_⟩⟩
 ·simp only at i0 i1 i2 hlt |-;have hlt:=tM hlt;have ht:=a8 ((0,false,0):a6) i0 hlt
  have hl:o.length<=32+i.toNat:=by
   have:=nT (h.take i.toNat);rw [QD] at this;rw [i2,KK]; omega
  rw [ht,GC];generalize h.getD i.toNat (0,false,0)=x at *;unfold aK;simp only [ak,Rv];refine ⟨i0,hlt,fun hx=>?_,fun hx=>?_⟩
  ·rw [if_pos hx,<- List.append_assoc,<- i2];exact ⟨by omega,by omega,⟨by omega,by omega,by first | rfl | trivial⟩,by omega⟩
  ·rw [if_neg (by rw [hx]; simp),<- i2];exact ⟨by omega,⟨by omega,by omega,by first | rfl | trivial⟩,by omega⟩
 ·simp only at i0 i1 i2 hge |-;rw [bT (uZ hge)] at i2;have hl:=nT h;have hc:[o,p.map (·.1)].flatten=l0++gU h++p.map (·.1):=by rw [i2]; simp
  rw [hc,hF];unfold aK;simp only [KK,Q3];exact ⟨trivial,by omega,trivial,trivial,by first | rfl | trivial,trivial⟩
theorem rQ:Jn.ok Tryz.prog 151:=aD (ann:=KU) (ae A6 (ae kO (ae oH (kF vT (kF tG ap))))) Tryz.func151 (by kernel_rfl) Fz
def HB:Nat->Option LoopGen
 | 2=>some { rd:=[.dat 24 (.arr ty_I)],A:=fun (l:List Int)=>{ cs:=[.dat 26 ty_I],inv:=fun (i:Int)=>0<=i/\i<=l.length/\∀ x∈l.take i.toNat,x=0,mu:=fun (i:Int)=>(l.length - i).toNat } }
 | 8=>some { rd:=[.own 35 3 ty_I,.box 1 aH],A:=fun ((l,s):List Int×ah)=>{ cs:=[.dat 37 ty_I],inv:=fun (i:Int)=>0<=i/\i<=l.length/\∀ x∈l.take i.toNat,isB (ac s.1).1 x=true,mu:=fun (i:Int)=>(l.length - i).toNat } }
 | _=>none
def F5:Spec:={ Ts:=[aH],Rs:=[.dat ty_I],pre:=fun _=>True,F:=ar }
def vA:Prop :=
  ∀ (x:List Int×List Int×List (Int×Int)×List (Int×Bool×Int)),(oT x)->True->True/\True/\True/\True/\((0:Int)<=0/\0<=(↑[(am x.1).2.2,aG x.2.1 (x.1.length:Int),bU x.2.2.1,aM x.2.2.2].length:Int)/\∀ (x_1:Int),x_1∈List.take (Int.toNat 0) [(am x.1).2.2,aG x.2.1 (x.1.length:Int),bU x.2.2.1,aM x.2.2.2]->x_1=0)/\∀ (x_1:Int),(0<=x_1/\x_1<=(↑[(am x.1).2.2,aG x.2.1 (x.1.length:Int),bU x.2.2.1,aM x.2.2.2].length:Int)/\∀ (x_2:Int),x_2∈List.take x_1.toNat [(am x.1).2.2,aG x.2.1 (x.1.length:Int),bU x.2.2.1,aM x.2.2.2]->x_2=0)->(decide (x_1<(↑[(am x.1).2.2,aG x.2.1 (x.1.length:Int),bU x.2.2.1,aM x.2.2.2].length:Int))=true->0<=x_1/\x_1<(↑[(am x.1).2.2,aG x.2.1 (x.1.length:Int),bU x.2.2.1,aM x.2.2.2].length:Int)/\(decide ([(am x.1).2.2,aG x.2.1 (x.1.length:Int),bU x.2.2.1,aM x.2.2.2].getD x_1.toNat (0:Int)≠0)=true->[(am x.1).2.2,aG x.2.1 (x.1.length:Int),bU x.2.2.1,aM x.2.2.2].getD x_1.toNat 0=ar x/\True)/\(decide ([(am x.1).2.2,aG x.2.1 (x.1.length:Int),bU x.2.2.1,aM x.2.2.2].getD x_1.toNat (0:Int)≠0)=false->ak .i64 (x_1+1)/\(0<=x_1+1/\x_1+1<=(↑[(am x.1).2.2,aG x.2.1 (x.1.length:Int),bU x.2.2.1,aM x.2.2.2].length:Int)/\∀ (x_2:Int),x_2∈List.take (x_1+1).toNat [(am x.1).2.2,aG x.2.1 (x.1.length:Int),bU x.2.2.1,aM x.2.2.2]->x_2=0)/\((↑[(am x.1).2.2,aG x.2.1 (x.1.length:Int),bU x.2.2.1,aM x.2.2.2].length:Int) - (x_1+1)).toNat<((↑[(am x.1).2.2,aG x.2.1 (x.1.length:Int),bU x.2.2.1,aM x.2.2.2].length:Int) - x_1).toNat))/\(decide (x_1<(↑[(am x.1).2.2,aG x.2.1 (x.1.length:Int),bU x.2.2.1,aM x.2.2.2].length:Int))=false->(x.2.1.length<=32/\x.2.2.1.length<=16/\x.2.2.2.length<=16)/\((0:Int)<=0/\0<=(↑(ai x).length:Int)/\∀ (x_2:Int),x_2∈List.take (Int.toNat 0) (ai x)->isB (ac x.1).1 x_2=true)/\∀ (x_2:Int),(0<=x_2/\x_2<=(↑(ai x).length:Int)/\∀ (x_3:Int),x_3∈List.take x_2.toNat (ai x)->isB (ac x.1).1 x_3=true)->(decide (x_2<(↑(ai x).length:Int))=true->0<=x_2/\x_2<(↑(ai x).length:Int)/\x_2.toNat<(ai x).length/\True/\((decide ((iy x.1 ((ai x).getD x_2.toNat 0)).2≠0)||(iy x.1 ((ai x).getD x_2.toNat 0)).1.2.2.2)=true->5=ar x/\True)/\((decide ((iy x.1 ((ai x).getD x_2.toNat 0)).2≠0)||(iy x.1 ((ai x).getD x_2.toNat 0)).1.2.2.2)=false->ak .i64 (x_2+1)/\(0<=x_2+1/\x_2+1<=(↑(ai x).length:Int)/\∀ (x_3:Int),x_3∈List.take (x_2+1).toNat (ai x)->isB (ac x.1).1 x_3=true)/\((↑(ai x).length:Int) - (x_2+1)).toNat<((↑(ai x).length:Int) - x_2).toNat))/\(decide (x_2<(↑(ai x).length:Int))=false->0=ar x/\True))
theorem Ci:vA:=by
 unfold vA;intro s hx _;have hF:ar s=if (am s.1).2.2≠0 then (am s.1).2.2 else if aG s.2.1 s.1.length≠0 then aG s.2.1 s.1.length else if bU s.2.2.1≠0 then bU s.2.2.1 else if aM s.2.2.2≠0 then aM s.2.2.2 else bb s.1 (cJ s):=rfl
 have hsm:=fun a b c=>kH (s:=s) a b c
 have hmem:=fun a x=>gZ (s:=s) a (x:=x)
 have hfree:=fun a x=>OG (a:=s.1) a x
 have hfl:(ai s).length<=(ai s).length:=QI _
 have hlen:(am s.1).2.2=0->aG s.2.1 s.1.length=0->bU s.2.2.1=0->aM s.2.2.2=0->(ai s).length<=64:=fun _ a b c=>by
  obtain ⟨q1,q2,q3⟩:=hsm a b c;have e1:=li s.2.1 s.1.length;have e2:=nT s.2.2.2;have e3:(ai s).length<=(eC ((bt s.2.1 s.1.length).1++gU s.2.2.2++s.2.2.1.map (·.1))).length:=kZ _;rw [jv] at e3;simp only [KK,Q3] at e3;omega
 generalize hc0:(am s.1).2.2=c0 at *;generalize aG s.2.1 s.1.length=c1 at *;generalize bU s.2.2.1=c2 at *;generalize aM s.2.2.2=c3 at *;have hl4:([c0,c1,c2,c3].length:Int)=4:=rfl;refine ⟨trivial,trivial,trivial,trivial,⟨by omega,by omega,fun x hx=>by simp at hx⟩,fun i ⟨i0,i1,i2⟩=>⟨fun hlt=>?_,fun hge=>?_⟩⟩
 ·have hlt:=tM hlt;have ht:=a8 (0:Int) i0 hlt;refine ⟨i0,hlt,fun hn=>⟨?_,trivial⟩,fun hn=>⟨by simp only [ak]; omega,⟨by omega,by omega,fun x hx=>?_⟩,by omega⟩⟩
  ·have hn:=tM hn;rw [hF];have h4:i=0\/i=1\/i=2\/i=3:=by omega
   rcases h4 with rfl | rfl | rfl | rfl
   ·exact (if_pos hn).symm
   ·have e0:=i2 c0 (by simp);rw [if_neg (by omega)];exact (if_pos hn).symm
   ·have e0:=i2 c0 (by simp);have e1:=i2 c1 (by simp);rw [if_neg (by omega),if_neg (by omega)];exact (if_pos hn).symm
   ·have e0:=i2 c0 (by simp);have e1:=i2 c1 (by simp);have e2:=i2 c2 (by simp);rw [if_neg (by omega),if_neg (by omega),if_neg (by omega)];exact (if_pos hn).symm
  ·have hn:[c0,c1,c2,c3].getD i.toNat 0=0:=by simpa using uZ hn
   rw [ht] at hx;rcases Qx.1 hx with hx | hx
   ·exact i2 x hx
   ·rw [QA.1 hx,hn]
 ·have hge:=uZ hge;rw [bT hge] at i2;have e0:=i2 c0 (by simp);have e1:=i2 c1 (by simp);have e2:=i2 c2 (by simp);have e3:=i2 c3 (by simp);have hS:ar s=bb s.1 (cJ s):=by rw [hF,if_neg (by omega),if_neg (by omega),if_neg (by omega),if_neg (by omega)]
  have hfr:=hfree e0;have hln:=hlen e0 e1 e2 e3;have hmm:=hmem e1
  have hFF:bb s.1 (cJ s)=if (cJ s).all (isB (ac s.1).1)=true then 0 else 5:=by
   unfold bb;rw [if_neg (by omega)]
  rw [hS,hFF];refine ⟨hsm e1 e2 e3,⟨by omega,by omega,fun x hx=>by simp at hx⟩,fun j ⟨j0,j1,j2⟩=>⟨fun hj=>?_,fun hj=>?_⟩⟩
  ·have hj:=tM hj;have ht:=a8 (0:Int) j0 hj;have hm:=aI (0:Int) j0 hj;rw [hfr,ht];generalize (ai s).getD j.toNat 0=y at *;refine ⟨j0,hj,by omega,trivial,fun hn=>⟨?_,trivial⟩,fun hn=>⟨by simp only [ak]; omega,⟨by omega,by omega,fun x hx=>?_⟩,by omega⟩⟩
   ·rw [if_neg (fun hall=>?_)];have:=Qy.1 hall y ((hmm y).1 hm);rw [this] at hn;cases hn
   ·rcases Qx.1 hx with hx | hx
    ·exact j2 x hx
    ·rw [QA.1 hx];simpa using hn
  ·have hj:=uZ hj;rw [bT hj] at j2;refine ⟨?_,trivial⟩;rw [if_pos (Qy.2 fun x hx=>j2 x ((hmm x).2 hx))]
theorem eA:F5.ok Tryz.prog 80:=aD (ann:=HB) (ae jA (ae mf (ae tz (ae jD (ae rQ (ae nU ap)))))) Tryz.func80 (by kernel_rfl) Ci
end
section
def ay:ah:=([],[],[],[])
def cO (s:ah):List Int:=s.2.2.1.map (·.1)
def dM (s:ah):List Int:=bN s.1 (ai s++cO s)
def qK (s:ah):List Int:=(dM s).map (dw (ac s.1).1)
def lZ (s:ah) (x:Int):Int:=(aA (dM s) (qK s) (cO s)).getD (cK (dM s) x).toNat 0
def dL (s:ah):List Int:=(Dn s.1 (dM s) (cO s)).1
def lf (s:ah) (v:Int):Int:=if 0<=v then lZ s v else v
def ns (s:ah) (h:a6):a6:=if h.2.1=true then (h.1,h.2.1,lZ s h.2.2) else h
def ig (s:ah):ah:=(dL s,s.2.1.map (lf s),s.2.2.1,s.2.2.2.map (ns s))
def iw (s:ah):Int:=dR (aO false [] (ac (dL s)).1)
def dg (s:ah):ah×Int:=(ig s,iw s)
structure Right (s:ah):Prop where
 w:∀ x∈s.1,ak .u64 x
 chk:(am s.1).2.2=0
 root:aG s.2.1 s.1.length=0
 pin:bU s.2.2.1=0
 hand:aM s.2.2.2=0
 nam:∀ x∈cJ s,isB (ac s.1).1 x=true
theorem go {s:ah} (hw:∀ x∈s.1,ak .u64 x) (h:ar s=0):Right s:=by
 unfold ar at h;split at h
 ·omega
 rename_i h0;split at h
 ·omega
 rename_i h1;split at h
 ·omega
 rename_i h2;split at h
 ·omega
 rename_i h3;exact ⟨hw,by omega,by omega,by omega,by omega,(fg h).2⟩
section
variable {s:ah}
theorem Right.pinsRise (h:Right s):(cO s).Pairwise (·<·):=List.pairwise_map.2 (nR h.pin).2.1
theorem Right.pinsIn (_h:Right s):∀ x∈cO s,x∈cJ s:=fun _x hx=>Qw _ hx
theorem Right.froms (h:Right s):∀ x∈ai s++cO s,x∈cJ s:=fun x hx=>by
 rcases Qx.1 hx with hx | hx
 ·exact (gZ h.root).1 hx
 ·exact h.pinsIn x hx
theorem Right.fault (h:Right s):bb s.1 (ai s++cO s)=0:=jF h.chk fun x hx=>h.nam x (h.froms x hx)
theorem Right.keep (h:Right s):bk (cO s)=true:=jk h.pinsRise
theorem Right.longs (h:Right s):aU s.1 (dM s) (cO s)=(qK s,0):=tT h.w h.fault h.keep
theorem Right.plan (h:Right s):Plan s.1 (dM s) (cO s) (qK s):=by
 have:=Ia (a:=s.1) (keep:=dM s) (pinned:=cO s) (by rw [h.longs]);rw [h.longs] at this;exact this
theorem Right.good (h:Right s) (to:List Int):((dM s).all fun x=>fq (dM s) to (bP s.1 x))=true:=xd h.w h.fault to
theorem Right.clean (h:Right s):aq s.1 (ai s) (cO s)=(dL s,(ai s).map (lZ s),0):=by
 unfold aq;rw [if_neg (by rw [h.fault]; simp),if_neg (by rw [h.keep]; simp),(nB h.w h.fault h.keep).1];rfl
theorem Right.slid (h:Right s):dL s=mI s.1 (dM s) (aA (dM s) (qK s) (cO s)) (cO s) (qK s) (ck s.1.length (dM s) (qK s) (cO s)):=by
 have hg:=h.good (aA (dM s) ((dM s).map (dw (ac s.1).1)) (cO s));unfold dL Dn;rw [if_pos hg];rfl
theorem Right.slidOK (h:Right s):(am (dL s)).2.2=0/\(dL s).length=s.1.length/\(ac (dL s)).1=kI s.1 (dM s) (cO s) (qK s):=by
 rw [h.slid,Gk h.plan (h.good _)];exact ⟨rfl,pX _ h.plan,by rw [uW _ h.plan]⟩
theorem Right.keepIn (h:Right s) {x:Int} (hx:x∈cJ s):x∈dM s:=by
 obtain ⟨k1,k2⟩:=fg h.fault;exact (iC h.w k1 k2).2 (.base (L3 _ ((gZ h.root).2 hx)))
theorem Right.toIn (h:Right s) {x:Int} (hx:x∈cJ s):0<=lZ s x/\lZ s x<s.1.length:=by
 have hp:=ka (h.keepIn hx);have hP:=h.plan;have hi:(cK (dM s) x).toNat<(dM s).length:=by omega
 unfold lZ;rw [lK hi];have h1:=hP.le _ hi;have h2:=(cq (cO s) hP.pre _ (Nat.le_of_lt hi)).1;have h3:=hP.lg _ hi;obtain ⟨_,_,_,_,l5,l6⟩:=cd (hP.isb _ (ef hi));omega
theorem Right.nameIn (h:Right s) {x:Int} (hx:x∈cJ s):0<=x/\x<s.1.length:=by
 obtain ⟨_,_,l3,l4,l5,l6⟩:=cd (h.nam x hx);omega
theorem Right.al (h:Right s):s.1.length<=256:=(bp h.chk).1
theorem Right.reached (h:Right s):bN s.1 (iN (cJ s) 256)=dM s:=by
 have hr:=Ej h.root h.pin h.hand
 have hm:∀ x,x∈iN (cJ s) 256 ↔ x∈cJ s:=fun x=>by
  rw [vk];exact ⟨fun h=>h.2.2,fun hx=>⟨(hr x hx).1,by have:=(hr x hx).2; omega,hx⟩⟩
 obtain ⟨k1,k2⟩:=fg h.fault;refine rL (mb _ _) (mb _ _) fun x=>?_
 rw [iC h.w h.chk (fun y hy=>h.nam y ((hm y).1 hy)),dM,iC h.w k1 k2];exact ⟨fun hx=>hx.mono fun y hy=>.base (L3 _ ((gZ h.root).2 ((hm y).1 hy))),fun hx=>hx.mono fun y hy=>.base ((hm y).2 (h.froms y hy))⟩
theorem Right.free (h:Right s):iw s+((dM s).map (dw (ac s.1).1)).sum=s.1.length:=by
 obtain ⟨h1,h2,h3⟩:=h.slidOK;have h4:=EA (bp h1).2.2.2.1;unfold iw;rw [<- h2,<- JD (pinned:=cO s) (long:=qK s) h.plan.isb,<- h3];exact h4
end
def b6 (arr f:List Int) (g:Int->Int):List Int:=f.foldl (fun r x=>r.set x.toNat (g x)) arr
theorem kJ (arr f:List Int) (x:Int) (g:Int->Int):b6 arr (f++[x]) g=(b6 arr f g).set x.toNat (g x):=by simp [b6]
theorem eu (g:Int->Int):∀ (f arr:List Int),(b6 arr f g).length=arr.length
 | [],_=>rfl
 | x::f,arr=>by
  have:=eu g f (arr.set x.toNat (g x));simp only [b6,Sn] at this |-;rw [this,R4]
theorem oZ (g:Int->Int) {k:Int} (h0:0<=k):∀ (f arr:List Int),(∀ x∈f,0<=x)->k<arr.length->(b6 arr f g).getD k.toNat 0=if k∈f then g k else arr.getD k.toNat 0
 | [],arr,_,_=>by simp [b6]
 | x::f,arr,hf,hk=>by
  have ih:=oZ g h0 f (arr.set x.toNat (g x)) (fun y hy=>hf y (QK _ hy)) (by rw [R4]; exact hk);have hx:=hf x QJ;have e:b6 arr (x::f) g=b6 (arr.set x.toNat (g x)) f g:=rfl;rw [e,ih];by_cases h1:k∈f
  ·rw [if_pos h1,if_pos (QK _ h1)]
  ·rw [if_neg h1];by_cases h2:x=k
   ·subst h2;rw [if_pos QJ,List.getD_eq_getElem?_getD,List.getElem?_set,if_pos rfl,if_pos (by omega)];rfl
   ·rw [if_neg (by simp [h1,Ne.symm h2]),List.getD_eq_getElem?_getD,List.getElem?_set_ne (by omega),<- List.getD_eq_getElem?_getD]
theorem oY (g:Int->Int) {v:Int}:∀ (f arr:List Int),v∈b6 arr f g->v∈arr\/∃ x∈f,v=g x
 | [],_,h=>.inl h
 | x::f,arr,h=>by
  rcases oY g f _ h with h | ⟨y,hy,e⟩
  ·rcases Rb h with h | h
   ·exact .inl h
   ·exact .inr ⟨x,QJ,h⟩
  ·exact .inr ⟨y,QK _ hy,e⟩
section
variable {s:ah}
theorem Right.swapRoots (h:Right s):bo s.2.1 s.1.length (b6 (List.replicate s.1.length 0) (ai s) (lZ s))=(s.2.1.map (lf s),0):=by
 have hfm:=fun x=>(gZ (s:=s) h.root (x:=x))
 unfold bo;rw [if_neg (by rw [h.root]; simp),if_neg (by rw [eu,QV]; simp),if_neg]
 ·refine congrArg (·,(0:Int)) (RJ fun v hv=>?_);unfold om lf;by_cases h0:0<=v
  ·rw [if_pos h0,if_pos h0];have hn:v∈cJ s:=L3 _ (L3 _ (Rx.2 ⟨hv,by simpa using h0⟩));rw [oZ _ h0 _ _ (fun x hx=>(h.nameIn ((hfm x).1 hx)).1) (by rw [QV]; exact (h.nameIn hn).2),if_pos ((hfm v).2 hn)]
  ·rw [if_neg h0,if_neg h0]
 ·intro hc;obtain ⟨v,hv,hb⟩:=RI.1 hc;rcases oY _ _ _ hv with hv | ⟨x,hx,rfl⟩
  ·have:=(List.mem_replicate.1 hv);have h2:=this.2;have h1:=this.1;subst h2;unfold dq at hb;simp only [QN,R6,Rh] at hb;omega
  ·have:=h.toIn ((hfm x).1 hx);unfold dq at hb;simp only [QN,R6,Rh] at hb;omega
theorem Right.swapHands (h:Right s):gn s.2.2.2 (b6 (List.replicate 256 0) (ai s) (lZ s))=(s.2.2.2.map (ns s),0):=by
 have hfm:=fun x=>(gZ (s:=s) h.root (x:=x))
 have hal:=h.al;unfold gn;rw [if_neg (by rw [h.hand]; simp),if_neg (by rw [eu,QV]; simp),if_neg]
 ·refine congrArg (·,(0:Int)) (RJ fun v hv=>?_);unfold dK ns;by_cases h0:v.2.1=true
  ·rw [if_pos h0,if_pos h0];have hn:v.2.2∈cJ s:=L3 _ (Qw _ (QR.2 ⟨v,Rx.2 ⟨hv,by simpa using h0⟩,rfl⟩));have h2:=h.nameIn hn;rw [oZ _ h2.1 _ _ (fun x hx=>(h.nameIn ((hfm x).1 hx)).1) (by rw [QV]; omega),if_pos ((hfm _).2 hn)]
  ·rw [if_neg h0,if_neg h0]
 ·intro hc;obtain ⟨v,hv,hb⟩:=RI.1 hc;rcases oY _ _ _ hv with hv | ⟨x,hx,rfl⟩
  ·have h2:=(List.mem_replicate.1 hv).2;subst h2;simp [fj] at hb
  ·have:=h.toIn ((hfm x).1 hx);simp [fj] at hb;omega
end
theorem Right.fromLen {s:ah} (h:Right s):(ai s).length<=64:=by
 obtain ⟨q1,q2,q3⟩:=kH h.root h.pin h.hand;have e1:=li s.2.1 s.1.length;have e2:=nT s.2.2.2;have e3:(ai s).length<=(eC ((bt s.2.1 s.1.length).1++gU s.2.2.2++s.2.2.1.map (·.1))).length:=kZ _;rw [jv] at e3;simp only [KK,Q3] at e3;omega
theorem Right.small {s:ah} (h:Right s):s.2.1.length<=32/\s.2.2.1.length<=16/\s.2.2.2.length<=16:=kH h.root h.pin h.hand
theorem Right.gaps {s:ah} (h:Right s):an (dL s)=(aO false [] (ac (dL s)).1,0)/\(∀ r∈aO false [] (ac (dL s)).1,0<=r.1/\1<=r.2/\r.2<=256)/\(aO false [] (ac (dL s)).1).length<=256:=by
 obtain ⟨hz,hl,_⟩:=h.slidOK;obtain ⟨g1,g2⟩:=nZ (bp hz).2.2.2.1;have hal:=h.al;refine ⟨by unfold an; rw [if_neg (by omega)],fun r hr=>?_,g2⟩;have:=g1 r hr;omega
theorem Em {f:List Int} {g:Int->Int} {i:Int} (h0:0<=i) (h1:i<f.length):(f.map g).getD i.toNat 0=g (f.getD i.toNat 0):=by
 have:i.toNat<f.length:=by omega
 simp [List.getD_eq_getElem?_getD,this]
theorem yr {l:List db} {i:Int} (h0:0<=i) (h1:i<l.length):dR (l.take (i+1).toNat)=dR (l.take i.toNat)+(l.getD i.toNat (0,0)).2:=by
 rw [a8 ((0,0):db) h0 h1,nO]
structure ObjAt (s:ah) (x:Int):Prop where
 isb:isB (ac s.1).1 x=true
 at_:iy s.1 x=(im s.1 (x,eX s.1 x) (am s.1).2.1,0)
 refs:((iy s.1 x).1.2.1.length:Int)=(eX s.1 x).1
 body:((iy s.1 x).1.2.2.1.length:Int)=(eX s.1 x).2.1
 x0:0<=x
 r0:0<=(eX s.1 x).1
 b0:0<=(eX s.1 x).2.1
 fit:x+1+(eX s.1 x).1+(eX s.1 x).2.1<=s.1.length
theorem Right.obj {s:ah} (h:Right s) {x:Int} (hx:x∈cJ s):ObjAt s x:=by
 have hb:=h.nam x hx;obtain ⟨_,_,e⟩:=Nc h.chk hb;obtain ⟨l1,l2,l3,l4,l5,l6⟩:=cd hb;obtain ⟨k1,k2⟩:=IH h.chk hb;exact ⟨hb,e,by omega,by omega,l3,l5,l6,l4⟩
theorem Right.rootIn {s:ah} (h:Right s) {k:Int} (h0:0<=k) (h1:k<s.2.1.length):-1<=s.2.1.getD k.toNat 0/\s.2.1.getD k.toNat 0<s.1.length:=pL (iM h.root) (aI (0:Int) h0 h1)
theorem Right.rootNam {s:ah} (_h:Right s) {k:Int} (h0:0<=k) (h1:k<s.2.1.length) (h2:0<=s.2.1.getD k.toNat 0):s.2.1.getD k.toNat 0∈cJ s :=
 L3 _ (L3 _ (Rx.2 ⟨aI (0:Int) h0 h1,by simpa using h2⟩))
theorem Right.refWord {s:ah} (h:Right s) {x k:Int} (hx:isB (ac s.1).1 x=true) (h0:0<=k) (h1:k<(eX s.1 x).1):0<=s.1.getD (x+1+k).toNat 0/\s.1.getD (x+1+k).toNat 0<=256:=by
 obtain ⟨l1,l2,l3,l4,l5,l6⟩:=cd hx
 have hm:s.1.getD (x+1+k).toNat 0∈bP s.1 x:=by
  unfold bP aQ;have hlt:(x+1+k).toNat<s.1.length:=by omega
  rw [List.mem_iff_getElem?];refine ⟨k.toNat,?_⟩;rw [List.getElem?_drop,List.getElem?_take,if_pos (by simp only; omega),show (x+1).toNat+k.toNat=(x+1+k).toNat by omega];simp [List.getD_eq_getElem?_getD,hlt]
 have hw:=h.w _ (aI (0:Int) (xs:=s.1) (i:=x+1+k) (by omega) (by omega));have hw0:0<=s.1.getD (x+1+k).toNat 0:=hw.1;by_cases hz:s.1.getD (x+1+k).toNat 0=0
 ·omega
 ·have ho:s.1.getD (x+1+k).toNat 0 - 1∈fO s.1 x:=QR.2 ⟨_,Rx.2 ⟨hm,by simpa using hz⟩,rfl⟩;have:=gY (rO h.w h.chk hx ho);omega
end
end Go.Proofs.YtmfileeamnfpaaaGreatDoor
