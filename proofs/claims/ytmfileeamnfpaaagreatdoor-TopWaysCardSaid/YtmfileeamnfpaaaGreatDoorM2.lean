import Derived.Test.YtmfileeamnfpaaaGreatDoorM1
import Derived.WalkKit
import Derived.KernelRfl
import Derived.Lib.AppendZeros
import Derived.Lib.AppendZerosOnto
import Derived.Lib.Overlaps
import Derived.Laws.Externs
import Derived.Laws.IdiomCopy
import Derived.Laws.CopyRow
import Derived.Shelf.RegionOpenPlain
import Derived.Shelf.Spec.SlicesInsert
import Derived.Deep.Upon
namespace Go.Proofs.YtmfileeamnfpaaaGreatDoor
open Go
set_option maxRecDepth 100000
set_option maxHeartbeats 1000000
section
theorem Pr {l:List Int} {x:Int} (h:(!cu l x)=true):¬ x∈l:=fun hx=>by rw [bi.2 hx] at h; cases h
theorem Pq {l:List Int} {x:Int} (h:(!cu l x)=false):x∈l:=bi.1 (by cases hx:cu l x <;> simp_all)
structure InReach (a f l:List Int):Prop where
 has:∀ x∈f,x∈l
 only:∀ x∈l,Rch a f x
 len:l.length+F7 f<=f.length+F7 l
def cG (m:List (Int×ew)):List ax->List (Int×ew)
 | []=>m
 | s::l=>cG (if s.2.2.2.2=true then m else cR m s.1 s.2) l
def cL (l:List ax):List (Int×ew):=cG [] l
theorem nM (x:Int):∀ (l:List ax) (m:List (Int×ew)),l.Pairwise (fun s t=>s.1<t.1)->aC (cG m l) x=if isB l x=true then some (cM x l).1 else aC m x
 | [],m,_=>rfl
 | s::l,m,h=>by
  obtain ⟨h1,h2⟩:=Qe.1 h;have e0:cG m (s::l)=cG (if s.2.2.2.2=true then m else cR m s.1 s.2) l:=rfl;rw [e0,nM x l _ h2];by_cases hx:s.1=x/\s.2.2.2.2=false
  ·have e1:cM x (s::l)=(s.2,true):=if_pos hx;have e2:isB (s::l) x=true:=by unfold isB; rw [e1]
   have hn:¬ isB l x=true:=by
    rw [<- cX,bi];intro hm
    have:∃ t∈l,t.1=x:=by
     clear h h2 hx e0 e1 e2
     induction l with
     | nil=>cases hm
     | cons t l ih =>
      simp only [aB] at hm;split at hm
      ·obtain ⟨u,hu,e⟩:=ih (fun y hy=>h1 y (by simp [hy])) hm;exact ⟨u,by simp [hu],e⟩
      ·rcases PD.1 hm with hm | hm
       ·exact ⟨t,by simp,hm.symm⟩
       ·obtain ⟨u,hu,e⟩:=ih (fun y hy=>h1 y (by simp [hy])) hm;exact ⟨u,by simp [hu],e⟩
    obtain ⟨t,ht,e⟩:=this;have:=h1 t ht;omega
   rw [if_neg hn,if_pos e2,e1,if_neg (by rw [hx.2]; simp),eL,if_pos hx.1.symm]
  ·have e1:cM x (s::l)=cM x l:=if_neg hx;have e2:isB (s::l) x=isB l x:=by unfold isB; rw [e1]
   rw [e2,e1];by_cases hb:isB l x=true
   ·rw [if_pos hb,if_pos hb]
   ·rw [if_neg hb,if_neg hb];by_cases hf:s.2.2.2.2=true
    ·rw [if_pos hf]
    ·rw [if_neg hf,eL,if_neg (fun e=>hx ⟨e.symm,by simpa using hf⟩)]
theorem qR {l:List ax} (h:l.Pairwise (fun s t=>s.1<t.1)) (x:Int):aC (cL l) x=if isB l x=true then some (cM x l).1 else none:=nM x l [] h
theorem kU:∀ (l k:List ax),aB (l++k)=aB l++aB k
 | [],_=>rfl
 | s::l,k=>by
  have:=kU l k;simp only [Qs,aB,this];split <;> simp
structure Seen (m:List (Int×Bool)) (o:List Int):Prop where
 nodup:o.Nodup
 is:∀ x,(aC m x).getD false=cu o x
theorem Seen.new:Seen [] []:=⟨Sh,fun _=>rfl⟩
theorem Seen.add {m:List (Int×Bool)} {o:List Int} {x:Int} (h:Seen m o) (hn:(!(aC m x).getD false)=true):Seen (cR m x true) (o++[x]):=by
 rw [h.is] at hn;refine ⟨?_,fun y=>?_⟩
 ·rw [RS];exact ⟨h.nodup,by simp,fun y hy z hz=>by rw [PB.1 hz]; rintro rfl; exact Pr hn hy⟩
 ·rw [eL];by_cases hy:y=x
  ·subst hy;rw [if_pos rfl];exact (bi.2 (by simp)).symm
  ·rw [if_neg hy,h.is];unfold cu;rw [List.any_append];simp [Ne.symm hy]
theorem Seen.mem {m:List (Int×Bool)} {o:List Int} {x:Int} (h:Seen m o) (hn:(!(aC m x).getD false)=false):x∈o:=by
 rw [h.is] at hn;exact Pq hn
theorem iy {o:List Int} (hd:o.Nodup) (hr:∀ x∈o,0<=x/\x<=255):o.length<=256:=by
 have h1:=hZ o;have h2:(bM o).Nodup:=(List.mergeSort_perm o _).nodup_iff.2 hd;have h3:(bM o).Pairwise (·<·):=(h1.and h2).imp (fun ⟨x,y⟩=>by omega);have h4:=jd (s:=0) h3 (fun x hx=>hr x (k8.1 hx)) (by omega);rw [jn] at h4;omega
def Mp:LoopGen:={ rd:=[.own 30 202 cE,.dat 0 (.arr bo)],A:=fun ((l,a):List ax×List Int)=>{ cs:=[.boxS 24 [.dat (.arr bo),.mpc 22,.own 3 ty_I],.map 22 .i64 eX,.dat 32 ty_I],inv:=fun ((b,m,i):(List Int×Unit×List Int)×List (Int×ew)×Int)=>0<=i/\i<=l.length/\b.1=a/\b.2.2=aB (l.take i.toNat)/\cG m (l.drop i.toNat)=cL l,mu:=fun ((_,_,i):(List Int×Unit×List Int)×List (Int×ew)×Int)=>(l.length - i).toNat } }
def Mo:LoopGen:={ rd:=[.dat 60 (.arr ty_I),.map 22 .i64 eX],A:=fun ((f,m):List Int×List (Int×ew))=>{ cs:=[.dat 62 ty_I],inv:=fun (i:Int)=>0<=i/\i<=f.length/\((f.drop i.toNat).all fun x=>(aC m x).isSome)=(f.all fun x=>(aC m x).isSome),mu:=fun (i:Int)=>(f.length - i).toNat } }
def Mk:Nat->Option LoopGen
 | 3000089=>some cU
 | 3000091=>some cU
 | 3000090=>some cU
 | 9000000007=>some Mp
 | 9000000014=>some Mo
 | 8=>some { rd:=[.dat 25 (.arr ty_I)],A:=fun (f:List Int)=>{ cs:=[.map 23 .i64 .bool,.boxS 9 [.own 3 ty_I],.dat 27 ty_I],inv:=fun ((m,o,i):List (Int×Bool)×List Int×Int)=>0<=i/\i<=f.length/\Seen m o/\(∀ x∈f.take i.toNat,x∈o)/\(∀ x∈o,x∈f),mu:=fun ((_,_,i):List (Int×Bool)×List Int×Int)=>(f.length - i).toNat } }
 | 13=>some { rd:=[.dat 0 (.arr bo),.dat 1 (.arr ty_I)],A:=fun ((a,f):List Int×List Int)=>{ cs:=[.map 23 .i64 .bool,.boxS 9 [.own 3 ty_I],.dat 13 ty_I],inv:=fun ((m,o,i):List (Int×Bool)×List Int×Int)=>0<=i/\i<=o.length/\Seen m o/\(∀ x∈f,x∈o)/\(∀ x∈o,Rch a f x)/\(∀ x∈o.take i.toNat,∀ y∈a8 a x,y∈o),mu:=fun ((_,_,i):List (Int×Bool)×List Int×Int)=>(256 - i).toNat } }
 | 9200000001=>some { rd:=[.dat 24 (.arr bo),.boxS 9900000 [.own 3 ty_I]],A:=fun ((rs,o0):List Int×List Int)=>{ cs:=[.map 23900000 .i64 .bool,.boxS 9900000 [.own 3 ty_I],.dat 26 ty_I],inv:=fun ((m,o,j):List (Int×Bool)×List Int×Int)=>0<=j/\j<=rs.length/\Seen m o/\(∃ k,o=o0++k/\∀ x∈k,x+1∈rs/\x+1≠0)/\(∀ v∈rs.take j.toNat,v≠0->v - 1∈o),mu:=fun ((_,_,j):List (Int×Bool)×List Int×Int)=>(rs.length - j).toNat } }
 | _=>none
def Ks:Spec:={ Ts:=[.arr bo,.arr ty_I],Rs:=[.own 3 ty_I,.dat ty_I],pre:=fun _=>True,F:=fun ((a,f):List Int×List Int)=>bI a f }
def Cq:Prop :=
  ∀ (x:List Int×List Int),((x.1.length * 8<=aF/\∀ (x_1:Int),x_1∈x.1->am .u64 x_1)/\x.2.length * 8<=aF/\∀ (x_1:Int),x_1∈x.2->am .i64 x_1)->True->∀ (_:Array Value),True/\(decide ((ai x.1).2.2≠0)=true->(decide ((ai x.1).2.2≠0)=true->([]:List Int)=(bI x.1 x.2).1/\(ai x.1).2.2=(bI x.1 x.2).2/\True)/\(decide ((ai x.1).2.2≠0)=false->((0:Int)<=0/\0<=(x.2.length:Int)/\Seen ([]:List (Int×Bool)) ([]:List Int)/\(∀ (x_1:Int),x_1∈List.take (Int.toNat 0) x.2->x_1∈([]:List Int))/\∀ (x_1:Int),x_1∈([]:List Int)->x_1∈x.2)/\∀ (x_1:List (Int×Bool)×List Int×Int),(0<=x_1.2.2/\x_1.2.2<=(x.2.length:Int)/\Seen x_1.1 x_1.2.1/\(∀ (x_2:Int),x_2∈List.take x_1.2.2.toNat x.2->x_2∈x_1.2.1)/\∀ (x_2:Int),x_2∈x_1.2.1->x_2∈x.2)->(decide (x_1.2.2<(x.2.length:Int))=true->0<=x_1.2.2/\x_1.2.2<(x.2.length:Int)/\∀ (_:Array Value),((!(aC x_1.1 (x.2.getD x_1.2.2.toNat 0)).getD false)=true->(x_1.2.1.length+[x.2.getD x_1.2.2.toNat 0].length) * 8<=aF/\am .i64 (x_1.2.2+1)/\(0<=x_1.2.2+1/\x_1.2.2+1<=(x.2.length:Int)/\Seen (cR x_1.1 (x.2.getD x_1.2.2.toNat 0) true) (x_1.2.1++[x.2.getD x_1.2.2.toNat 0])/\(∀ (x_2:Int),x_2∈List.take (x_1.2.2+1).toNat x.2->x_2∈x_1.2.1++[x.2.getD x_1.2.2.toNat 0])/\∀ (x_2:Int),x_2∈x_1.2.1++[x.2.getD x_1.2.2.toNat 0]->x_2∈x.2)/\((x.2.length:Int) - (x_1.2.2+1)).toNat<((x.2.length:Int) - x_1.2.2).toNat)/\((!(aC x_1.1 (x.2.getD x_1.2.2.toNat 0)).getD false)=false->am .i64 (x_1.2.2+1)/\(0<=x_1.2.2+1/\x_1.2.2+1<=(x.2.length:Int)/\Seen x_1.1 x_1.2.1/\(∀ (x_2:Int),x_2∈List.take (x_1.2.2+1).toNat x.2->x_2∈x_1.2.1)/\∀ (x_2:Int),x_2∈x_1.2.1->x_2∈x.2)/\((x.2.length:Int) - (x_1.2.2+1)).toNat<((x.2.length:Int) - x_1.2.2).toNat))/\(decide (x_1.2.2<(x.2.length:Int))=false->((0:Int)<=0/\0<=(x_1.2.1.length:Int)/\Seen x_1.1 x_1.2.1/\(∀ (x_2:Int),x_2∈x.2->x_2∈x_1.2.1)/\(∀ (x_2:Int),x_2∈x_1.2.1->Rch x.1 x.2 x_2)/\∀ (x_2:Int),x_2∈List.take (Int.toNat 0) x_1.2.1->∀ (y:Int),y∈a8 x.1 x_2->y∈x_1.2.1)/\∀ (x_2:List (Int×Bool)×List Int×Int),(0<=x_2.2.2/\x_2.2.2<=(x_2.2.1.length:Int)/\Seen x_2.1 x_2.2.1/\(∀ (x_3:Int),x_3∈x.2->x_3∈x_2.2.1)/\(∀ (x_3:Int),x_3∈x_2.2.1->Rch x.1 x.2 x_3)/\∀ (x_3:Int),x_3∈List.take x_2.2.2.toNat x_2.2.1->∀ (y:Int),y∈a8 x.1 x_3->y∈x_2.2.1)->(decide (x_2.2.2<(x_2.2.1.length:Int))=true->0<=x_2.2.2/\x_2.2.2<(x_2.2.1.length:Int)/\x_2.2.2.toNat<x_2.2.1.length/\∀ (_:Array Value),False)/\(decide (x_2.2.2<(x_2.2.1.length:Int))=false->True/\bM x_2.2.1=(bI x.1 x.2).1/\0=(bI x.1 x.2).2/\True))))/\(decide ((ai x.1).2.2≠0)=false->True/\((0:Int)<=0/\0<=(↑(aa x.1).1.length:Int)/\x.1=x.1/\((),([]:List Int)).2=aB (List.take (Int.toNat 0) (aa x.1).1)/\cG ([]:List (Int×Int×Int×Int×Bool)) (List.drop (Int.toNat 0) (aa x.1).1)=cL (aa x.1).1)/\∀ (x_1:(List Int×Unit×List Int)×List (Int×Int×Int×Int×Bool)×Int),0<=x_1.2.2/\x_1.2.2<=(↑(aa x.1).1.length:Int)/\x_1.1.1=x.1/\x_1.1.2.2=aB (List.take x_1.2.2.toNat (aa x.1).1)/\cG x_1.2.1 (List.drop x_1.2.2.toNat (aa x.1).1)=cL (aa x.1).1->(decide (x_1.2.2<(↑(aa x.1).1.length:Int))=true->0<=x_1.2.2/\x_1.2.2<(↑(aa x.1).1.length:Int)/\x_1.2.2.toNat<(aa x.1).1.length/\((!((aa x.1).1.getD x_1.2.2.toNat (0,0,0,0,false)).2.2.2.2)=true->(x_1.1.2.2.length+[((aa x.1).1.getD x_1.2.2.toNat (0,0,0,0,false)).1].length) * 8<=aF/\am .i64 (x_1.2.2+1)/\(0<=x_1.2.2+1/\x_1.2.2+1<=(↑(aa x.1).1.length:Int)/\x_1.1.1=x.1/\((),x_1.1.2.2++[((aa x.1).1.getD x_1.2.2.toNat (0,0,0,0,false)).1]).2=aB (List.take (x_1.2.2+1).toNat (aa x.1).1)/\cG (cR x_1.2.1 ((aa x.1).1.getD x_1.2.2.toNat (0,0,0,0,false)).1 ((aa x.1).1.getD x_1.2.2.toNat (0,0,0,0,false)).2) (List.drop (x_1.2.2+1).toNat (aa x.1).1)=cL (aa x.1).1)/\((↑(aa x.1).1.length:Int) - (x_1.2.2+1)).toNat<((↑(aa x.1).1.length:Int) - x_1.2.2).toNat)/\((!((aa x.1).1.getD x_1.2.2.toNat (0,0,0,0,false)).2.2.2.2)=false->am .i64 (x_1.2.2+1)/\(0<=x_1.2.2+1/\x_1.2.2+1<=(↑(aa x.1).1.length:Int)/\x_1.1.1=x.1/\((),x_1.1.2.2).2=aB (List.take (x_1.2.2+1).toNat (aa x.1).1)/\cG x_1.2.1 (List.drop (x_1.2.2+1).toNat (aa x.1).1)=cL (aa x.1).1)/\((↑(aa x.1).1.length:Int) - (x_1.2.2+1)).toNat<((↑(aa x.1).1.length:Int) - x_1.2.2).toNat))/\(decide (x_1.2.2<(↑(aa x.1).1.length:Int))=false->((0:Int)<=0/\0<=(x.2.length:Int)/\((List.drop (Int.toNat 0) x.2).all fun (x:Int)=>(aC x_1.2.1 x).isSome)=x.2.all fun (x:Int)=>(aC x_1.2.1 x).isSome)/\∀ (x_2:Int),(0<=x_2/\x_2<=(x.2.length:Int)/\((List.drop x_2.toNat x.2).all fun (x:Int)=>(aC x_1.2.1 x).isSome)=x.2.all fun (x:Int)=>(aC x_1.2.1 x).isSome)->(decide (x_2<(x.2.length:Int))=true->0<=x_2/\x_2<(x.2.length:Int)/\((!(aC x_1.2.1 (x.2.getD x_2.toNat 0)).isSome)=true->(decide ((5:Int)≠0)=true->([]:List Int)=(bI x.1 x.2).1/\5=(bI x.1 x.2).2/\True)/\(decide ((5:Int)≠0)=false->((0:Int)<=0/\0<=(x.2.length:Int)/\Seen ([]:List (Int×Bool)) ([]:List Int)/\(∀ (x_3:Int),x_3∈List.take (Int.toNat 0) x.2->x_3∈([]:List Int))/\∀ (x_3:Int),x_3∈([]:List Int)->x_3∈x.2)/\∀ (x_3:List (Int×Bool)×List Int×Int),(0<=x_3.2.2/\x_3.2.2<=(x.2.length:Int)/\Seen x_3.1 x_3.2.1/\(∀ (x_4:Int),x_4∈List.take x_3.2.2.toNat x.2->x_4∈x_3.2.1)/\∀ (x_4:Int),x_4∈x_3.2.1->x_4∈x.2)->(decide (x_3.2.2<(x.2.length:Int))=true->0<=x_3.2.2/\x_3.2.2<(x.2.length:Int)/\∀ (_:Array Value),((!(aC x_3.1 (x.2.getD x_3.2.2.toNat 0)).getD false)=true->(x_3.2.1.length+[x.2.getD x_3.2.2.toNat 0].length) * 8<=aF/\am .i64 (x_3.2.2+1)/\(0<=x_3.2.2+1/\x_3.2.2+1<=(x.2.length:Int)/\Seen (cR x_3.1 (x.2.getD x_3.2.2.toNat 0) true) (x_3.2.1++[x.2.getD x_3.2.2.toNat 0])/\(∀ (x_4:Int),x_4∈List.take (x_3.2.2+1).toNat x.2->x_4∈x_3.2.1++[x.2.getD x_3.2.2.toNat 0])/\∀ (x_4:Int),x_4∈x_3.2.1++[x.2.getD x_3.2.2.toNat 0]->x_4∈x.2)/\((x.2.length:Int) - (x_3.2.2+1)).toNat<((x.2.length:Int) - x_3.2.2).toNat)/\((!(aC x_3.1 (x.2.getD x_3.2.2.toNat 0)).getD false)=false->am .i64 (x_3.2.2+1)/\(0<=x_3.2.2+1/\x_3.2.2+1<=(x.2.length:Int)/\Seen x_3.1 x_3.2.1/\(∀ (x_4:Int),x_4∈List.take (x_3.2.2+1).toNat x.2->x_4∈x_3.2.1)/\∀ (x_4:Int),x_4∈x_3.2.1->x_4∈x.2)/\((x.2.length:Int) - (x_3.2.2+1)).toNat<((x.2.length:Int) - x_3.2.2).toNat))/\(decide (x_3.2.2<(x.2.length:Int))=false->((0:Int)<=0/\0<=(x_3.2.1.length:Int)/\Seen x_3.1 x_3.2.1/\(∀ (x_4:Int),x_4∈x.2->x_4∈x_3.2.1)/\(∀ (x_4:Int),x_4∈x_3.2.1->Rch x.1 x.2 x_4)/\∀ (x_4:Int),x_4∈List.take (Int.toNat 0) x_3.2.1->∀ (y:Int),y∈a8 x.1 x_4->y∈x_3.2.1)/\∀ (x_4:List (Int×Bool)×List Int×Int),(0<=x_4.2.2/\x_4.2.2<=(x_4.2.1.length:Int)/\Seen x_4.1 x_4.2.1/\(∀ (x_5:Int),x_5∈x.2->x_5∈x_4.2.1)/\(∀ (x_5:Int),x_5∈x_4.2.1->Rch x.1 x.2 x_5)/\∀ (x_5:Int),x_5∈List.take x_4.2.2.toNat x_4.2.1->∀ (y:Int),y∈a8 x.1 x_5->y∈x_4.2.1)->(decide (x_4.2.2<(x_4.2.1.length:Int))=true->0<=x_4.2.2/\x_4.2.2<(x_4.2.1.length:Int)/\x_4.2.2.toNat<x_4.2.1.length/\∀ (_:Array Value),False)/\(decide (x_4.2.2<(x_4.2.1.length:Int))=false->True/\bM x_4.2.1=(bI x.1 x.2).1/\0=(bI x.1 x.2).2/\True))))/\((!(aC x_1.2.1 (x.2.getD x_2.toNat 0)).isSome)=false->am .i64 (x_2+1)/\(0<=x_2+1/\x_2+1<=(x.2.length:Int)/\((List.drop (x_2+1).toNat x.2).all fun (x:Int)=>(aC x_1.2.1 x).isSome)=x.2.all fun (x:Int)=>(aC x_1.2.1 x).isSome)/\((x.2.length:Int) - (x_2+1)).toNat<((x.2.length:Int) - x_2).toNat))/\(decide (x_2<(x.2.length:Int))=false->(decide ((0:Int)≠0)=true->([]:List Int)=(bI x.1 x.2).1/\0=(bI x.1 x.2).2/\True)/\(decide ((0:Int)≠0)=false->((0:Int)<=0/\0<=(x.2.length:Int)/\Seen ([]:List (Int×Bool)) ([]:List Int)/\(∀ (x_3:Int),x_3∈List.take (Int.toNat 0) x.2->x_3∈([]:List Int))/\∀ (x_3:Int),x_3∈([]:List Int)->x_3∈x.2)/\∀ (x_3:List (Int×Bool)×List Int×Int),(0<=x_3.2.2/\x_3.2.2<=(x.2.length:Int)/\Seen x_3.1 x_3.2.1/\(∀ (x_4:Int),x_4∈List.take x_3.2.2.toNat x.2->x_4∈x_3.2.1)/\∀ (x_4:Int),x_4∈x_3.2.1->x_4∈x.2)->(decide (x_3.2.2<(x.2.length:Int))=true->0<=x_3.2.2/\x_3.2.2<(x.2.length:Int)/\∀ (_:Array Value),((!(aC x_3.1 (x.2.getD x_3.2.2.toNat 0)).getD false)=true->(x_3.2.1.length+[x.2.getD x_3.2.2.toNat 0].length) * 8<=aF/\am .i64 (x_3.2.2+1)/\(0<=x_3.2.2+1/\x_3.2.2+1<=(x.2.length:Int)/\Seen (cR x_3.1 (x.2.getD x_3.2.2.toNat 0) true) (x_3.2.1++[x.2.getD x_3.2.2.toNat 0])/\(∀ (x_4:Int),x_4∈List.take (x_3.2.2+1).toNat x.2->x_4∈x_3.2.1++[x.2.getD x_3.2.2.toNat 0])/\∀ (x_4:Int),x_4∈x_3.2.1++[x.2.getD x_3.2.2.toNat 0]->x_4∈x.2)/\((x.2.length:Int) - (x_3.2.2+1)).toNat<((x.2.length:Int) - x_3.2.2).toNat)/\((!(aC x_3.1 (x.2.getD x_3.2.2.toNat 0)).getD false)=false->am .i64 (x_3.2.2+1)/\(0<=x_3.2.2+1/\x_3.2.2+1<=(x.2.length:Int)/\Seen x_3.1 x_3.2.1/\(∀ (x_4:Int),x_4∈List.take (x_3.2.2+1).toNat x.2->x_4∈x_3.2.1)/\∀ (x_4:Int),x_4∈x_3.2.1->x_4∈x.2)/\((x.2.length:Int) - (x_3.2.2+1)).toNat<((x.2.length:Int) - x_3.2.2).toNat))/\(decide (x_3.2.2<(x.2.length:Int))=false->((0:Int)<=0/\0<=(x_3.2.1.length:Int)/\Seen x_3.1 x_3.2.1/\(∀ (x_4:Int),x_4∈x.2->x_4∈x_3.2.1)/\(∀ (x_4:Int),x_4∈x_3.2.1->Rch x.1 x.2 x_4)/\∀ (x_4:Int),x_4∈List.take (Int.toNat 0) x_3.2.1->∀ (y:Int),y∈a8 x.1 x_4->y∈x_3.2.1)/\∀ (x_4:List (Int×Bool)×List Int×Int),(fun (v3:type_of% ((aC x_1.2.1 (x_4.2.1.getD x_4.2.2.toNat 0)).getD (0,0,0,false)))=>(fun (v2:type_of% (x_4.2.1.getD x_4.2.2.toNat 0+1))=>(fun (v1:type_of% (List.take (x_4.2.1.getD x_4.2.2.toNat 0+1+v3.1).toNat x_1.1.1))=>(fun (v0:type_of% (List.drop v2.toNat v1))=>(0<=x_4.2.2/\x_4.2.2<=(x_4.2.1.length:Int)/\Seen x_4.1 x_4.2.1/\(∀ (x_5:Int),x_5∈x.2->x_5∈x_4.2.1)/\(∀ (x_5:Int),x_5∈x_4.2.1->Rch x.1 x.2 x_5)/\∀ (x_5:Int),x_5∈List.take x_4.2.2.toNat x_4.2.1->∀ (y:Int),y∈a8 x.1 x_5->y∈x_4.2.1)->(decide (x_4.2.2<(x_4.2.1.length:Int))=true->0<=x_4.2.2/\x_4.2.2<(x_4.2.1.length:Int)/\x_4.2.2.toNat<x_4.2.1.length/\∀ (_:Array Value),am .i64 v2/\am .i64 v2/\am .i64 (x_4.2.1.getD x_4.2.2.toNat 0+1+v3.1)/\0<=x_4.2.1.getD x_4.2.2.toNat 0+1/\x_4.2.1.getD x_4.2.2.toNat 0+1<=x_4.2.1.getD x_4.2.2.toNat 0+1+v3.1/\x_4.2.1.getD x_4.2.2.toNat 0+1+v3.1<=(x_1.1.1.length:Int)/\((0:Int)<=0/\0<=(v0.length:Int)/\Seen x_4.1 x_4.2.1/\(∃ (k:List Int),x_4.2.1=x_4.2.1++k/\∀ (x:Int),x∈k->x+1∈List.drop v2.toNat v1/\x+1≠0)/\∀ (v:Int),v∈List.take (Int.toNat 0) v0->v≠0->v - 1∈x_4.2.1)/\∀ (x_5:List (Int×Bool)×List Int×Int),(fun (v4:type_of% (v0.getD x_5.2.2.toNat 0))=>(0<=x_5.2.2/\x_5.2.2<=(v0.length:Int)/\Seen x_5.1 x_5.2.1/\(∃ (k:List Int),x_5.2.1=x_4.2.1++k/\∀ (x:Int),x∈k->x+1∈List.drop v2.toNat v1/\x+1≠0)/\∀ (v:Int),v∈List.take x_5.2.2.toNat v0->v≠0->v - 1∈x_5.2.1)->(decide (x_5.2.2<(v0.length:Int))=true->0<=x_5.2.2/\x_5.2.2<(v0.length:Int)/\(decide (v0.getD x_5.2.2.toNat (0:Int)≠0)=true->am .i64 (IntKind.i64.wrap v4 - 1)/\∀ (_:Array Value),((!(aC x_5.1 (IntKind.i64.wrap v4 - 1)).getD false)=true->(x_5.2.1.length+[IntKind.i64.wrap v4 - 1].length) * 8<=aF/\am .i64 (x_5.2.2+1)/\(0<=x_5.2.2+1/\x_5.2.2+1<=(v0.length:Int)/\Seen (cR x_5.1 (IntKind.i64.wrap v4 - 1) true) (x_5.2.1++[IntKind.i64.wrap v4 - 1])/\(∃ (k:List Int),x_5.2.1++[IntKind.i64.wrap v4 - 1]=x_4.2.1++k/\∀ (x:Int),x∈k->x+1∈List.drop v2.toNat v1/\x+1≠0)/\∀ (v:Int),v∈List.take (x_5.2.2+1).toNat v0->v≠0->v - 1∈x_5.2.1++[IntKind.i64.wrap v4 - 1])/\((v0.length:Int) - (x_5.2.2+1)).toNat<((v0.length:Int) - x_5.2.2).toNat)/\((!(aC x_5.1 (IntKind.i64.wrap v4 - 1)).getD false)=false->am .i64 (x_5.2.2+1)/\(0<=x_5.2.2+1/\x_5.2.2+1<=(v0.length:Int)/\Seen x_5.1 x_5.2.1/\(∃ (k:List Int),x_5.2.1=x_4.2.1++k/\∀ (x:Int),x∈k->x+1∈List.drop v2.toNat v1/\x+1≠0)/\∀ (v:Int),v∈List.take (x_5.2.2+1).toNat v0->v≠0->v - 1∈x_5.2.1)/\((v0.length:Int) - (x_5.2.2+1)).toNat<((v0.length:Int) - x_5.2.2).toNat))/\(decide (v0.getD x_5.2.2.toNat (0:Int)≠0)=false->am .i64 (x_5.2.2+1)/\(0<=x_5.2.2+1/\x_5.2.2+1<=(v0.length:Int)/\Seen x_5.1 x_5.2.1/\(∃ (k:List Int),x_5.2.1=x_4.2.1++k/\∀ (x:Int),x∈k->x+1∈List.drop v2.toNat v1/\x+1≠0)/\∀ (v:Int),v∈List.take (x_5.2.2+1).toNat v0->v≠0->v - 1∈x_5.2.1)/\((v0.length:Int) - (x_5.2.2+1)).toNat<((v0.length:Int) - x_5.2.2).toNat))/\(decide (x_5.2.2<(v0.length:Int))=false->am .i64 (x_4.2.2+1)/\(0<=x_4.2.2+1/\x_4.2.2+1<=(x_5.2.1.length:Int)/\Seen x_5.1 x_5.2.1/\(∀ (x_6:Int),x_6∈x.2->x_6∈x_5.2.1)/\(∀ (x_6:Int),x_6∈x_5.2.1->Rch x.1 x.2 x_6)/\∀ (x_6:Int),x_6∈List.take (x_4.2.2+1).toNat x_5.2.1->∀ (y:Int),y∈a8 x.1 x_6->y∈x_5.2.1)/\(256 - (x_4.2.2+1)).toNat<(256 - x_4.2.2).toNat)) (v0.getD x_5.2.2.toNat 0))/\(decide (x_4.2.2<(x_4.2.1.length:Int))=false->True/\bM x_4.2.1=(bI x.1 x.2).1/\0=(bI x.1 x.2).2/\True)) (List.drop v2.toNat v1)) (List.take (x_4.2.1.getD x_4.2.2.toNat 0+1+v3.1).toNat x_1.1.1)) (x_4.2.1.getD x_4.2.2.toNat 0+1)) ((aC x_1.2.1 (x_4.2.1.getD x_4.2.2.toNat 0)).getD (0,0,0,false)))))))
theorem HI:Cq:=by
 unfold Cq;intro ⟨a,f⟩ ⟨⟨hb,hw⟩,hbf,hf⟩ _ tm;unfold aF at hb hbf;simp only at hb hw hbf hf |-;refine ⟨trivial,fun hc=>⟨fun _=>?_,fun hn=>by rw [hc] at hn; cases hn⟩,fun hc=>?_⟩
 ·have hc:=Pt hc;have e:au a f=(ai a).2.2:=by unfold au; rw [if_pos hc]
  have e2:bI a f=([],(ai a).2.2):=by unfold bI; rw [e,if_pos hc]
  rw [e2];exact ⟨rfl,rfl,trivial⟩
 have hc:(ai a).2.2=0:=by simpa using Pu hc
 obtain ⟨hal,_,_,hz,_,_,_⟩:=bJ hc;have hsl:=cI a;have hsp:=eY a;have hget:=fun x=>qR (bz a) x
 have hbl:=dM (aa a).1;refine ⟨trivial,⟨by omega,by omega,trivial,rfl,rfl⟩,fun ⟨⟨a1,⟨⟩,out⟩,m,i⟩ ⟨i0,i1,i2,i3,i4⟩=>⟨fun hlt=>?_,fun hge=>?_⟩⟩
 ·simp only at i0 i1 i2 i3 i4 hlt |-;have hlt:=Pt hlt;have hs:=hsp _ (aH ((0,0,0,0,false):ax) i0 hlt);have ht:=a7 ((0,0,0,0,false):ax) i0 hlt;rw [bg ((0,0,0,0,false):ax) i0 hlt] at i4;simp only [cG] at i4
  have hol:out.length<=256:=by
   rw [i3];have:=dM (List.take i.toNat (aa a).1);rw [PM] at this;omega
  rw [ht,kU,<- i3];generalize (aa a).1.getD i.toNat (0,0,0,0,false)=s at *;simp only [am];refine ⟨i0,hlt,by omega,fun hf0=>?_,fun hf0=>?_⟩
  ·have hf0:¬ s.2.2.2.2=true:=by simpa using hf0
   have e:aB [s]=[s.1]:=by simp only [aB]; rw [if_neg hf0]
   rw [if_neg hf0] at i4;rw [e];unfold aF;simp only [Qo];exact ⟨by omega,by omega,⟨by omega,by omega,i2,trivial,i4⟩,by omega⟩
  ·have hf0:s.2.2.2.2=true:=by simpa using hf0
   have e:aB [s]=[]:=by simp only [aB]; rw [if_pos hf0]
   rw [if_pos hf0] at i4;rw [e,Qi];exact ⟨by omega,⟨by omega,by omega,i2,rfl,i4⟩,by omega⟩
 simp only at i0 i1 i2 i3 i4 hge |-;have hge:=Pu hge;rw [b6 hge] at i4;have i4:m=cL (aa a).1:=i4;subst i4 i2;have hsome:∀ x,(aC (cL (aa a1).1) x).isSome=isB (aa a1).1 x:=fun x=>by rw [hget]; cases isB (aa a1).1 x <;> rfl
 simp only [hsome];refine ⟨⟨by omega,by omega,rfl⟩,fun j ⟨j0,j1,j2⟩=>⟨fun hlt=>?_,fun hge=>⟨fun h=>by simp at h,fun _=>?_⟩⟩⟩
 ·have hlt:=Pt hlt;rw [bg (0:Int) j0 hlt,Qv] at j2;simp only [am];refine ⟨j0,hlt,fun hn=>⟨fun _=>?_,fun h=>by simp at h⟩,fun hn=>⟨by omega,⟨by omega,by omega,?_⟩,by omega⟩⟩
  ·have hn:isB (aa a1).1 (f.getD j.toNat 0)=false:=by simpa using hn
   rw [hn,Q8] at j2;have e:au a1 f=5:=by unfold au; rw [if_neg (by omega),<- j2]; rfl
   have e2:bI a1 f=([],5):=by unfold bI; rw [e]; rfl
   rw [e2];exact ⟨rfl,rfl,trivial⟩
  ·have hn:isB (aa a1).1 (f.getD j.toNat 0)=true:=by simpa using hn
   rw [hn,QL] at j2;exact j2
 rw [b6 (Pu hge),RH] at j2;have hfb:∀ x∈f,isB (aa a1).1 x=true:=PA.1 j2.symm;have e0:au a1 f=0:=il hc hfb;have e1:bI a1 f=(br a1 f,0):=by unfold bI; rw [e0]; rfl
 rw [e1];clear i0 i1 i3 hge j0 j1 j2;have hrch:∀ x,Rch a1 f x->0<=x/\x<=255:=fun x hx=>cA (hx.isB hw hc hfb)
 refine ⟨⟨by omega,by omega,Seen.new,fun x hx=>by simp at hx,fun x hx=>by cases hx⟩,fun ⟨m,o,i⟩ ⟨i0,i1,i2,i3,i4⟩=>⟨fun hlt=>?_,fun hge=>?_⟩⟩
 ·simp only at i0 i1 i2 i3 i4 hlt |-;have hlt:=Pt hlt;have ht:=a7 (0:Int) i0 hlt;have hm:=aH (0:Int) i0 hlt;generalize f.getD i.toNat 0=x at *;have hol:=iy i2.nodup (fun y hy=>hrch y (.base (i4 y hy)));rw [ht];unfold aF;simp only [am,Qo];refine ⟨i0,hlt,fun _=>⟨fun hn=>⟨by omega,by omega,⟨by omega,by omega,i2.add hn,fun y hy=>?_,fun y hy=>?_⟩,by omega⟩,fun hn=>⟨by omega,⟨by omega,by omega,i2,fun y hy=>?_,i4⟩,by omega⟩⟩⟩
  ·rcases PI.1 hy with hy | hy
   ·exact PE _ (i3 y hy)
   ·exact PK _ hy
  ·rcases PI.1 hy with hy | hy
   ·exact i4 y hy
   ·rw [PB.1 hy]; exact hm
  ·rcases PI.1 hy with hy | hy
   ·exact i3 y hy
   ·rw [PB.1 hy]; exact i2.mem hn
 simp only at i0 i1 i2 i3 i4 hge |-;rw [bE (Pu hge)] at i3;refine ⟨⟨by omega,by omega,i2,i3,fun x hx=>.base (i4 x hx),fun x hx=>by simp at hx⟩,fun ⟨m2,o2,k⟩ ⟨k0,k1,k2,k3,k4,k5⟩=>⟨fun hlt=>?_,fun hge=>?_⟩⟩
 ·clear i0 i1 i2 i3 i4 hge;simp only at k0 k1 k2 k3 k4 k5 hlt |-;have hlt:=Pt hlt;have ht:=a7 (0:Int) k0 hlt;have hm:=aH (0:Int) k0 hlt;have hol:=iy k2.nodup (fun y hy=>hrch y (k4 y hy));generalize hat:o2.getD k.toNat 0=at_ at *;have hib:=(k4 at_ hm).isB hw hc hfb;have hh:((aC (cL (aa a1).1) at_).getD (0,0,0,false))=eN a1 at_:=by rw [hget,if_pos hib]; rfl
  obtain ⟨l1,_,l3,l4,l5,l6⟩:=bS hib;have hrf:=jM hw hc _ (fU hib).1;have hrs:List.drop (at_+1).toNat (List.take (at_+1+(eN a1 at_).1).toNat a1)=aY a1 at_:=rfl
  have hout:∀ y,y∈a8 a1 at_ ↔ (y+1∈aY a1 at_/\y+1≠0):=by
   intro y;unfold a8;simp only [P3,Qp,Qk];constructor
   ·rintro ⟨v,⟨hv,h0⟩,rfl⟩;rw [Int.sub_add_cancel];exact ⟨hv,h0⟩
   ·rintro ⟨h1,h2⟩;exact ⟨y+1,⟨h1,h2⟩,by omega⟩
  have hstep:∀ y,y+1∈aY a1 at_->y+1≠0->Rch a1 f y:=fun y h1 h2=>.step (k4 at_ hm) ((hout y).2 ⟨h1,h2⟩)
  rw [hh,hrs]
  have hwr:∀ v∈aY a1 at_,IntKind.i64.wrap v=v/\0<=v/\v<=256:=fun v hv=>by
   rcases hrf v hv with e | ⟨h1,h2,_⟩
   ·subst e; exact ⟨jF (by omega) (by omega),by omega,by omega⟩
   ·exact ⟨jF (by omega) (by omega),by omega,by omega⟩
  generalize hrs0:aY a1 at_=rs at *;simp only [am];refine ⟨k0,hlt,by omega,fun _=>⟨by omega,by omega,by omega,by omega,by omega,by omega,⟨by omega,by omega,k2,⟨[],by simp,fun x hx=>by cases hx⟩,fun v hv=>by simp at hv⟩,fun ⟨m3,o3,j⟩ ⟨j0,j1,j2,⟨kk,j3,j4⟩,j5⟩=>⟨fun hj=>?_,fun hj=>?_⟩⟩⟩
  ·simp only at j0 j1 j2 j3 j4 j5 hj |-;have hj:=Pt hj;have ht2:=a7 (0:Int) j0 hj;have hv:=aH (0:Int) j0 hj;generalize rs.getD j.toNat 0=v at *;obtain ⟨w1,w2,w3⟩:=hwr v hv
   have hol3:=iy j2.nodup (fun y hy=>hrch y (by
    rw [j3] at hy;rcases PI.1 hy with hy | hy
    ·exact k4 y hy
    ·exact hstep y (j4 y hy).1 (j4 y hy).2))
   rw [w1,ht2];unfold aF;simp only [Qo];refine ⟨j0,hj,fun hne=>⟨by omega,fun _=>⟨fun hn=>⟨by omega,by omega,⟨by omega,by omega,j2.add hn,⟨kk++[v - 1],by rw [j3,PT],fun y hy=>?_⟩,fun y hy hy0=>?_⟩,by omega⟩,fun hn=>⟨by omega,⟨by omega,by omega,j2,⟨kk,j3,j4⟩,fun y hy hy0=>?_⟩,by omega⟩⟩⟩,fun hne=>⟨by omega,⟨by omega,by omega,j2,⟨kk,j3,j4⟩,fun y hy hy0=>?_⟩,by omega⟩⟩
   ·rcases PI.1 hy with hy | hy
    ·exact j4 y hy
    ·rw [PB.1 hy,Int.sub_add_cancel];exact ⟨hv,Pt hne⟩
   ·rcases PI.1 hy with hy | hy
    ·exact PE _ (j5 y hy hy0)
    ·rw [PB.1 hy]; simp
   ·rcases PI.1 hy with hy | hy
    ·exact j5 y hy hy0
    ·rw [PB.1 hy]; exact j2.mem hn
   ·rcases PI.1 hy with hy | hy
    ·exact j5 y hy hy0
    ·rw [PB.1 hy] at hy0;exact absurd hy0 (by simpa using Pu hne)
  ·simp only at j0 j1 j2 j3 j4 j5 hj |-;rw [bE (Pu hj)] at j5;have hlen3:o2.length<=o3.length:=by rw [j3]; simp
   have e3:o3.take (k+1).toNat=o2.take k.toNat++[at_]:=by rw [j3,PQ (by omega),ht]
   rw [e3];refine ⟨by omega,⟨by omega,by omega,j2,fun x hx=>by rw [j3]; exact PE _ (k3 x hx),fun x hx=>?_,fun x hx y hy=>?_⟩,by omega⟩
   ·rw [j3] at hx;rcases PI.1 hx with hx | hx
    ·exact k4 x hx
    ·exact hstep x (j4 x hx).1 (j4 x hx).2
   ·rcases PI.1 hx with hx | hx
    ·rw [j3]; exact PE _ (k5 x hx y hy)
    ·rw [PB.1 hx] at hy;obtain ⟨q1,q2⟩:=(hout y).1 hy;have:=j5 _ q1 q2
     rwa [Int.add_sub_cancel] at this
 ·simp only at k0 k1 k2 k3 k4 k5 hge |-;rw [bE (Pu hge)] at k5;exact ⟨trivial,(Full.mk k3 k4 k5).sorted hw hc hfb k2.nodup,trivial,trivial⟩
theorem px:Ks.ok Tryz.prog 29:=aA (ann:=Mk) (ac fT (ac fS (fO mI ap))) Tryz.func29 (by kernel_rfl) HI
end
section
def BT:Spec:={ Ts:=[.nil,ty_I],Rs:=[.own 3 ty_I],pre:=fun ((_,n):Unit×Int)=>0<=n/\n.toNat * 8<=aF,F:=fun _=>([]:List Int) }
def rU:Prop :=
  ∀ (x:Unit×Int),True/\am .i64 x.2->0<=x.2/\x.2.toNat * 8<=aF->(decide (x.2<0)=true->False)/\(decide (x.2<0)=false->am .i64 (0 - 0)/\am .i64 (x.2 - (0 - 0))/\(decide (0<x.2 - (0 - 0))=true->(0:Int)=0/\0<x.2 - (0 - 0)/\(x.2 - (0 - 0)).toNat * 8<=aF/\(0:Int)<=0/\0<=(↑(List.replicate (x.2 - (0 - 0)).toNat (0:Int)).length:Int)/\List.take (Int.toNat 0) (List.replicate (x.2 - (0 - 0)).toNat (0:Int))=([]:List Int)/\True)/\(decide (0<x.2 - (0 - 0))=false->([]:List Int)=([]:List Int)/\True))
theorem yX:rU:=by
 unfold rU;intro ⟨_,n⟩ ⟨_,hn⟩ ⟨h0,hb⟩;simp only [am] at *;refine ⟨fun h=>?_,fun _=>⟨by omega,by omega,fun h=>⟨trivial,by have:=Pt h; omega,by simpa using hb,by omega,by omega,by simp,trivial⟩,fun _=>by simp⟩⟩;have:=Pt h;omega
theorem CV:BT.ok Tryz.prog 226:=aA (ann:=cn) ap Tryz.func226 (by kernel_rfl) yX
def wm:Spec:={ Ts:=[.arr (.arr ty_I)],Rs:=[.own 3 ty_I],pre:=fun (xs:List (List Int))=>xs.flatten.length * 8<=aF,F:=fun (xs:List (List Int))=>xs.flatten }
def wZ:Nat->Option LoopGen
 | 3=>some { rd:=[.dat 9 (.arr (.arr ty_I))],A:=fun (xs:List (List Int))=>{ cs:=[.dat 3 ty_I,.dat 11 ty_I],inv:=fun ((n,i):Int×Int)=>0<=i/\i<=xs.length/\n=((xs.take i.toNat).flatten.length:Int)/\xs.flatten.length * 8<=aF,mu:=fun ((_,i):Int×Int)=>(xs.length - i).toNat } }
 | 11=>some { rd:=[.dat 25 (.arr (.arr ty_I))],A:=fun (xs:List (List Int))=>{ cs:=[.own 6 3 ty_I,.dat 27 ty_I],inv:=fun ((out,i):List Int×Int)=>0<=i/\i<=xs.length/\out++(xs.drop i.toNat).flatten=xs.flatten,mu:=fun ((_,i):List Int×Int)=>(xs.length - i).toNat } }
 | _=>none
def nC:Prop :=
  ∀ (x:List (List Int)),(x.length * 24<=aF/\∀ (x_1:List Int),x_1∈x->x_1.length * 8<=aF/\∀ (x:Int),x∈x_1->am .i64 x)->x.flatten.length * 8<=aF->((0:Int)<=0/\0<=(x.length:Int)/\0=(↑(List.take (Int.toNat 0) x).flatten.length:Int)/\x.flatten.length * 8<=aF)/\∀ (x_1:Int×Int),0<=x_1.2/\x_1.2<=(x.length:Int)/\x_1.1=(↑(List.take x_1.2.toNat x).flatten.length:Int)/\x.flatten.length * 8<=aF->(decide (x_1.2<(x.length:Int))=true->0<=x_1.2/\x_1.2<(x.length:Int)/\am .i64 (x_1.1+(↑(x.getD x_1.2.toNat ([]:List Int)).length:Int))/\(decide (x_1.1+(↑(x.getD x_1.2.toNat ([]:List Int)).length:Int)<0)=true->False)/\(decide (x_1.1+(↑(x.getD x_1.2.toNat ([]:List Int)).length:Int)<0)=false->am .i64 (x_1.2+1)/\(0<=x_1.2+1/\x_1.2+1<=(x.length:Int)/\x_1.1+(↑(x.getD x_1.2.toNat ([]:List Int)).length:Int)=(↑(List.take (x_1.2+1).toNat x).flatten.length:Int)/\x.flatten.length * 8<=aF)/\((x.length:Int) - (x_1.2+1)).toNat<((x.length:Int) - x_1.2).toNat))/\(decide (x_1.2<(x.length:Int))=false->(0<=x_1.1/\x_1.1.toNat * 8<=aF)/\((0:Int)<=0/\0<=(x.length:Int)/\([]:List Int)++(List.drop (Int.toNat 0) x).flatten=x.flatten)/\∀ (x_2:List Int×Int),0<=x_2.2/\x_2.2<=(x.length:Int)/\x_2.1++(List.drop x_2.2.toNat x).flatten=x.flatten->(decide (x_2.2<(x.length:Int))=true->0<=x_2.2/\x_2.2<(x.length:Int)/\(x_2.1.length+(x.getD x_2.2.toNat ([]:List Int)).length) * 8<=aF/\am .i64 (x_2.2+1)/\(0<=x_2.2+1/\x_2.2+1<=(x.length:Int)/\x_2.1++x.getD x_2.2.toNat ([]:List Int)++(List.drop (x_2.2+1).toNat x).flatten=x.flatten)/\((x.length:Int) - (x_2.2+1)).toNat<((x.length:Int) - x_2.2).toNat)/\(decide (x_2.2<(x.length:Int))=false->x_2.1=x.flatten/\True))
theorem tp:nC:=by
 unfold nC;intro xs ⟨hx,_⟩ hb;simp only [am] at *;unfold aF at *
 have hpart:∀ k,(xs.take k).flatten.length<=xs.flatten.length:=fun k=>by
  have:=congrArg List.length (congrArg List.flatten (Qr k xs));rw [List.flatten_append,PC] at this;omega
 refine ⟨⟨by omega,by omega,by simp,hb⟩,fun ⟨n,i⟩ ⟨h0,h1,h2,_⟩=>⟨fun hlt=>?_,fun hge=>?_⟩⟩
 ·have hlt:i<(xs.length:Int):=by simpa using hlt
  have e:=a7 ([]:List Int) h0 hlt;have hp:=hpart (i+1).toNat;rw [e] at hp |-;simp only [List.flatten_append,PC,List.flatten_cons,List.flatten_nil,Qi] at *;refine ⟨h0,hlt,by omega,fun hc=>?_,fun _=>⟨by omega,⟨by omega,by omega,by push_cast; omega,hb⟩,by omega⟩⟩;have:=Pt hc;omega
 ·have hge:¬ i<(xs.length:Int):=by simpa using hge
  rw [bE hge] at h2;simp only at *;refine ⟨⟨by omega,by omega⟩,⟨by omega,by omega,by simp⟩,fun ⟨out,j⟩ ⟨g0,g1,g2⟩=>⟨fun hlt=>?_,fun hge=>?_⟩⟩
  ·have hlt:j<(xs.length:Int):=by simpa using hlt
   simp only at *;rw [bg ([]:List Int) g0 hlt,List.flatten_cons] at g2;have hl:=congrArg List.length g2;simp only [PC] at hl;exact ⟨g0,hlt,by omega,by omega,⟨by omega,by omega,by rw [PT]; exact g2⟩,by omega⟩
  ·rw [b6 (by simpa using hge)] at g2;simp only [List.flatten_nil,Qi] at g2;exact ⟨g2,trivial⟩
theorem kM:wm.ok Tryz.prog 169:=aA (ann:=wZ) (ac CV ap) Tryz.func169 (by kernel_rfl) tp
end
section
theorem fg:∀ {l:List Int},l.Pairwise (·<·)->aK l=true
 | [],_=>rfl
 | [_],_=>rfl
 | x::y::l,h=>by
  obtain ⟨h1,h2⟩:=Qe.1 h;simp only [aK,Px,Qk];exact ⟨h1 y (by simp),fg h2⟩
theorem sC {a f p:List Int} (hw:∀ x∈a,am .u64 x) (h:au a (f++p)=0) (hp:aK p=true):aX a (br a (f++p)) p=((br a (f++p)).map (ef (aa a).1),0):=by
 obtain ⟨h1,h2⟩:=bW h;have hr:=fun x=>fo (a:=a) (from_:=f++p) hw h1 h2 (x:=x)
 have e1:aK (br a (f++p))=true:=fg (jN _ _);have e2:(br a (f++p)).all (isB (aa a).1)=true:=PA.2 fun x hx=>((hr x).1 hx).isB hw h1 h2
 have e3:p.all (cu (br a (f++p)))=true:=PA.2 fun x hx=>bi.2 ((hr x).2 (.base (by simp [hx])))
 unfold aX;rw [if_neg (by omega),e1,hp,e2,e3];simp
theorem vB {a f p:List Int} (hw:∀ x∈a,am .u64 x) (h:au a (f++p)=0) (to:List Int):((br a (f++p)).all fun x=>fl (br a (f++p)) to (aY a x))=true:=by
 obtain ⟨h1,h2⟩:=bW h;have hr:=fun x=>fo (a:=a) (from_:=f++p) hw h1 h2 (x:=x)
 refine PA.2 fun x hx=>PA.2 fun v hv=>?_
 unfold lZ;by_cases h0:v=0
 ·rw [if_pos h0]; rfl
 ·have h3:v - 1∈a8 a x:=by
   unfold a8;exact P3.2 ⟨v,Qp.2 ⟨hv,by simpa using h0⟩,rfl⟩
  rw [if_neg h0,if_pos (bi.2 ((hr _).2 (.step ((hr _).1 hx) h3)))];rfl
def aw (a f p:List Int):List Int×List Int×Int :=
 if au a (f++p)≠0 then ([],[],au a (f++p)) else
 if aK p=false then ([],[],3) else
 ((eo a (br a (f++p)) p).1,f.map fun x=>(aG (br a (f++p)) ((br a (f++p)).map (ef (aa a).1)) p).getD (dq (br a (f++p)) x).toNat 0,0)
theorem ur {l:List Int} {x:Int} (h:x∈l):0<=dq l x/\dq l x<l.length:=by
 have h1:=ei (fun y=>decide (y=x)) l 0 (by omega);have h2:=eh (fun y=>decide (y=x)) x l 0 (by omega);have h3:(l.any fun y=>decide (y=x))=true:=bi.2 h;rw [h3] at h1;exact ⟨Pt h1,by unfold dq; omega⟩
theorem m4 {a f p:List Int} (hw:∀ x∈a,am .u64 x) (h:au a (f++p)=0) (hp:aK p=true) :
  eo a (br a (f++p)) p=((B2 a (br a (f++p)) p).1,aG (br a (f++p)) ((br a (f++p)).map (ef (aa a).1)) p,0)/\(B2 a (br a (f++p)) p).2=true:=by
 have e:=sC hw h hp;have hg:=vB hw h (aG (br a (f++p)) ((br a (f++p)).map (ef (aa a).1)) p);unfold eo B2;rw [e];simp only;rw [if_neg (by omega),if_pos hg,if_pos hg];exact ⟨rfl,rfl⟩
theorem qk {a f p:List Int} (h:au a (f++p)=0) (hp:aK p=false):eo a (br a (f++p)) p=([],[],3):=by
 obtain ⟨h1,_⟩:=bW h
 have e:aX a (br a (f++p)) p=([],3):=by
  unfold aX;rw [if_neg (by omega),hp,Bool.and_false,if_pos rfl]
 unfold eo;rw [e];rfl
def Mq:Nat->Option LoopGen
 | 9=>some { rd:=[.dat 39 (.arr ty_I),.own 9 3 ty_I,.own 12 3 ty_I],A:=fun ((f,keep,to):List Int×List Int×List Int)=>{ cs:=[.own 13 3 ty_I,.dat 41 ty_I],inv:=fun ((out,i):List Int×Int)=>0<=i/\i<=f.length/\out=(f.take i.toNat).map fun x=>to.getD (dq keep x).toNat 0,mu:=fun ((_,i):List Int×Int)=>(f.length - i).toNat } }
 | _=>none
def KD:Spec:={ Ts:=[.arr bo,.arr ty_I,.arr ty_I],Rs:=[.own 45 bo,.own 3 ty_I,.dat ty_I],pre:=fun ((_,f,p):List Int×List Int×List Int)=>(f.length+p.length) * 8<=140737488355328,F:=fun ((a,f,p):List Int×List Int×List Int)=>aw a f p }
def CC:Prop :=
  ∀ (x:List Int×List Int×List Int),(fun (v1:type_of% (aw x.1 x.2.1 x.2.2))=>(fun (v0:type_of% (bI x.1 [x.2.1,x.2.2].flatten))=>((x.1.length * 8<=aF/\∀ (x_1:Int),x_1∈x.1->am .u64 x_1)/\(x.2.1.length * 8<=aF/\∀ (x_1:Int),x_1∈x.2.1->am .i64 x_1)/\x.2.2.length * 8<=aF/\∀ (x_1:Int),x_1∈x.2.2->am .i64 x_1)->(x.2.1.length+x.2.2.length) * 8<=140737488355328->[x.2.1,x.2.2].flatten.length * 8<=aF/\True/\(decide (v0.2≠0)=true->([]:List Int)=v1.1/\([]:List Int)=v1.2.1/\v0.2=v1.2.2/\True)/\(decide (v0.2≠0)=false->True/\(decide ((eo x.1 v0.1 x.2.2).2.2≠0)=true->([]:List Int)=v1.1/\([]:List Int)=v1.2.1/\(eo x.1 v0.1 x.2.2).2.2=v1.2.2/\True)/\(decide ((eo x.1 v0.1 x.2.2).2.2≠0)=false->((0:Int)<=0/\0<=(x.2.1.length:Int)/\([]:List Int)=List.map (fun (x_1:Int)=>(eo x.1 v0.1 x.2.2).2.1.getD (dq v0.1 x_1).toNat 0) (List.take (Int.toNat 0) x.2.1))/\∀ (x_1:List Int×Int),0<=x_1.2/\x_1.2<=(x.2.1.length:Int)/\x_1.1=List.map (fun (x_2:Int)=>(eo x.1 v0.1 x.2.2).2.1.getD (dq v0.1 x_2).toNat 0) (List.take x_1.2.toNat x.2.1)->(decide (x_1.2<(x.2.1.length:Int))=true->0<=x_1.2/\x_1.2<(x.2.1.length:Int)/\True/\0<=dq v0.1 (x.2.1.getD x_1.2.toNat 0)/\dq v0.1 (x.2.1.getD x_1.2.toNat 0)<(↑(eo x.1 v0.1 x.2.2).2.1.length:Int)/\(dq v0.1 (x.2.1.getD x_1.2.toNat 0)).toNat<(eo x.1 v0.1 x.2.2).2.1.length/\(x_1.1.length+[(eo x.1 v0.1 x.2.2).2.1.getD (dq v0.1 (x.2.1.getD x_1.2.toNat 0)).toNat 0].length) * 8<=aF/\am .i64 (x_1.2+1)/\(0<=x_1.2+1/\x_1.2+1<=(x.2.1.length:Int)/\x_1.1++[(eo x.1 v0.1 x.2.2).2.1.getD (dq v0.1 (x.2.1.getD x_1.2.toNat 0)).toNat 0]=List.map (fun (x_2:Int)=>(eo x.1 v0.1 x.2.2).2.1.getD (dq v0.1 x_2).toNat 0) (List.take (x_1.2+1).toNat x.2.1))/\((x.2.1.length:Int) - (x_1.2+1)).toNat<((x.2.1.length:Int) - x_1.2).toNat)/\(decide (x_1.2<(x.2.1.length:Int))=false->(eo x.1 v0.1 x.2.2).1=v1.1/\x_1.1=v1.2.1/\0=v1.2.2/\True)))) (bI x.1 [x.2.1,x.2.2].flatten)) (aw x.1 x.2.1 x.2.2)
theorem HT:CC:=by
 unfold CC;intro ⟨a,f,p⟩ ⟨⟨hb,hw⟩,⟨hbf,_⟩,hbp,_⟩ hsz;unfold aF at hb hbf hbp;simp only at hb hw hbf hbp hsz |-;have hfl:[f,p].flatten=f++p:=by simp
 rw [hfl];have hR:bI a (f++p)=if au a (f++p)≠0 then ([],au a (f++p)) else (br a (f++p),0):=rfl
 have hF:aw a f p=if au a (f++p)≠0 then ([],[],au a (f++p)) else if aK p=false then ([],[],3) else
  ((eo a (br a (f++p)) p).1,f.map fun x=>(aG (br a (f++p)) ((br a (f++p)).map (ef (aa a).1)) p).getD (dq (br a (f++p)) x).toNat 0,0):=rfl
 refine ⟨by rw [PC]; unfold aF; omega,trivial,fun h=>?_,fun h=>?_⟩
 ·have h:=Pt h;by_cases h0:au a (f++p)≠0
  ·rw [hR,if_pos h0,hF,if_pos h0];exact ⟨by first | trivial | rfl,by first | trivial | rfl,by first | trivial | rfl,trivial⟩
  ·rw [hR,if_neg h0] at h;exact absurd rfl h
 have h:=Pu h
 have h0:au a (f++p)=0:=by
  by_cases h0:au a (f++p)≠0
  ·rw [hR,if_pos h0] at h;exact absurd h0 h
  ·omega
 rw [hR,if_neg (by omega),hF,if_neg (by omega)];simp only;refine ⟨trivial,fun h2=>?_,fun h2=>?_⟩
 ·have h2:=Pt h2
  have h3:aK p=false:=by
   cases h3:aK p
   ·rfl
   ·rw [(m4 hw h0 h3).1] at h2;exact absurd rfl h2
  rw [if_pos h3,qk h0 h3];exact ⟨by first | trivial | rfl,by first | trivial | rfl,by first | trivial | rfl,trivial⟩
 have h3:aK p=true:=by
  cases h3:aK p
  ·rw [qk h0 h3] at h2;exact absurd h2 (by decide)
  ·rfl
 rw [if_neg (by rw [h3]; simp),(m4 hw h0 h3).1];simp only;obtain ⟨k1,k2⟩:=bW h0;have hin:∀ x∈f,x∈br a (f++p):=fun x hx=>(fo hw k1 k2).2 (.base (by simp [hx]))
 have hpl:(aG (br a (f++p)) ((br a (f++p)).map (ef (aa a).1)) p).length=(br a (f++p)).length:=by simp [aG]
 generalize aG (br a (f++p)) ((br a (f++p)).map (ef (aa a).1)) p=to at *;generalize br a (f++p)=keep at *;refine ⟨⟨by omega,by omega,rfl⟩,fun ⟨out,i⟩ ⟨i0,i1,i2⟩=>⟨fun hlt=>?_,fun hge=>?_⟩⟩
 ·simp only at i0 i1 i2 hlt |-;have hlt:=Pt hlt;have hs:=a7 (0:Int) i0 hlt;have hx:=ur (hin _ (aH (0:Int) i0 hlt));rw [hs,Qn,<- i2]
  have hol:out.length<=f.length:=by
   rw [i2,Qc,PM];omega
  simp only [am,Pz,P4];unfold aF;refine ⟨i0,hlt,trivial,hx.1,by omega,by omega,?_,by omega,⟨by omega,by omega,rfl⟩,by omega⟩
  have:out.length=i.toNat:=by
   rw [i2,Qc,PM];omega
  omega
 ·simp only at i0 i1 i2 hge |-;rw [bE (Pu hge)] at i2;exact ⟨by first | trivial | rfl,i2,by first | trivial | rfl,trivial⟩
theorem CZ:KD.ok Tryz.prog 158:=aA (ann:=Mq) (ac kM (ac px (ac KZ (ac GW ap)))) Tryz.func158 (by kernel_rfl) HT
end
section
def refWord (bs:List Int) (k:Int):Int:=if k=-1 then 0 else bs.getD k.toNat 0+1
def dN (k:Int):List Int:=if 0<k then aR (0,k - 1,0,true)::List.replicate (k - 1).toNat 0 else []
end
section
theorem Db {h:ew} (h0:af h=0):ba (aR h)=h/\bh (aR h)=true:=by
 obtain ⟨h1,h2,h3,h4,h5,h6⟩:=bG h0
 have e:ba (aR h)=h:=by
  obtain ⟨a,b,c,d⟩:=h;simp only at h1 h2 h3 h4 h5;simp only [aR,ba];cases d
  ·simp only [PG,P5,Pv];refine ⟨by omega,by omega,by omega,QI (by omega)⟩
  ·simp only [if_true,Pv];refine ⟨by omega,by omega,by omega,QA (by omega)⟩
 refine ⟨e,?_⟩;unfold bh;rw [e,h0]
 have:aR h / 281474976710656<=1:=by
  unfold aR;cases h.2.2.2 <;> simp <;> omega
 simp [this]
theorem cK (k:Int):(dN k).length=k.toNat:=by
 unfold dN;split
 ·simp only [Pz,Qd]; omega
 ·simp only [P4]; omega
def oW (a keep to pinned long:List Int):Nat->List Int
 | 0=>[]
 | i+1=>oW a keep to pinned long i++(dN (fN pinned keep long i - bt pinned keep long i)++jb a keep to (keep.getD i 0))
def aL (at_ k:Int):ax:=(at_,0,k - 1,0,true)
def sF (a keep pinned long:List Int):Nat->List ax
 | 0=>[]
 | i+1=>sF a keep pinned long i++((if bt pinned keep long i<fN pinned keep long i then [aL (bt pinned keep long i) (fN pinned keep long i - bt pinned keep long i)] else [])++[(fN pinned keep long i,eN a (keep.getD i 0))])
section
variable {a keep pinned long:List Int}
theorem iR (to:List Int) (hP:Plan a keep pinned long):∀ i:Nat,i<=keep.length->((oW a keep to pinned long i).length:Int)=bt pinned keep long i
 | 0,_=>by simp [oW,bt]
 | i+1,hi=>by
  have ih:=iR to hP i (by omega);have h1:=hP.le i (by omega);have h2:=hP.lg i (by omega);have h3:=kL (a:=a) (keep:=keep) (to:=to) (hP.isb _ (gn (i:=i) (by omega)));have e:bt pinned keep long (i+1)=fN pinned keep long i+long.getD i 0:=rfl;rw [e];simp only [oW,PC,cK];omega
theorem Gx (to:List Int) (hP:Plan a keep pinned long):∀ (i:Nat) (R:List Int),i<=keep.length->(gE pinned keep long i).foldl jv (eI a keep to pinned long i++R)=oW a keep to pinned long i++R
 | 0,R,_=>rfl
 | i+1,R,hi=>by
  have hl:=iR to hP i (by omega);have h1:=hP.le i (by omega)
  have e:eI a keep to pinned long (i+1)++R=eI a keep to pinned long i++(qT pinned keep long i++(jb a keep to (keep.getD i 0)++R)):=by
   simp only [eI,PT]
  rw [e];simp only [gE,Rr];rw [Gx to hP i _ (by omega)];simp only [oW,PT];unfold qT;have e0:(0:Int)<=bt pinned keep long i:=by omega
  generalize fN pinned keep long i=t at *;generalize bt pinned keep long i=s at *;by_cases hc:s<t
  ·rw [if_pos hc];simp only [Q1,List.foldl_nil,jv,dN];rw [if_pos (by omega),show (t - s).toNat=(t - s - 1).toNat+1 by omega,Rv,Qs,sY _ (by omega)];rfl
  ·rw [if_neg hc];have:t - s=0:=by omega
   rw [this];rfl
theorem tL (to:List Int) (hP:Plan a keep pinned long):mw a keep to pinned long (co a.length keep long pinned)=oW a keep to pinned long keep.length++dN ((a.length:Int) - bt pinned keep long keep.length):=by
 have hl:=iR to hP keep.length (PP _);have he:=hP.en;unfold mw co;rw [Rr,Gx to hP _ _ (PP _)];generalize bt pinned keep long keep.length=s at *;by_cases hc:s<(a.length:Int)
 ·rw [if_pos hc];simp only [Q1,List.foldl_nil,jv,dN];rw [if_pos (by omega),show ((a.length:Int) - s).toNat=((a.length:Int) - s - 1).toNat+1 by omega,Rv,sY _ (by omega)]
 ·rw [if_neg hc];have:(a.length:Int) - s=0:=by omega
  rw [this];rfl
theorem lB {at_ v:Int} {r R:List Int} (h:bh v=true) (hl:ae (ba v)=1+(r.length:Int)):spotsS at_ (v::r++R)=(spotsS (at_+ae (ba v)) R).map ((at_,ba v)::·):=by
 rw [Qs,d6 h (by simp only [Pz,PC]; omega)];congr 2;rw [hl,show (1+(r.length:Int)).toNat=r.length+1 by omega,QX,List.drop_left]
theorem Dm {k:Int} (h1:1<=k) (h2:k<=256):af (0,k - 1,0,true)=0:=by
 simp [af,ae]; omega
theorem kf {at_ k:Int} {R:List Int} (h2:k<=256):spotsS at_ (dN k++R)=if 0<k then (spotsS (at_+k) R).map (aL at_ k::·) else spotsS at_ R:=by
 unfold dN;by_cases h:0<k
 ·rw [if_pos h,if_pos h];obtain ⟨e1,e2⟩:=Db (Dm (k:=k) (by omega) h2);have e3:ae (ba (aR (0,k - 1,0,true)))=k:=by rw [e1]; simp [ae]; omega
  rw [lB e2 (by rw [e3,Qd]; omega),e3,e1];rfl
 ·rw [if_neg h,if_neg h];rfl
theorem tG (to:List Int) (hP:Plan a keep pinned long):∀ (i:Nat) (R:List Int),i<=keep.length->spotsS 0 (oW a keep to pinned long i++R)=(spotsS (bt pinned keep long i) R).map (sF a keep pinned long i++·)
 | 0,R,_=>by
  simp only [oW,sF,bt,P0];cases spotsS 0 R <;> rfl
 | i+1,R,hi=>by
  have h1:=hP.le i (by omega);have h2:=hP.lg i (by omega);have hb:=hP.isb _ (gn (i:=i) (by omega:i<keep.length));obtain ⟨_,_,_,o4,o5,_⟩:=fU hb;have h3:=kL (a:=a) (keep:=keep) (to:=to) hb;have hal:=hP.al;have e:bt pinned keep long (i+1)=fN pinned keep long i+long.getD i 0:=rfl;have e0:=(cO pinned hP.pre i (by omega)).1;have hl:ae (ba (a.getD (keep.getD i 0).toNat 0))=long.getD i 0:=by rw [<- o4,h2]; rfl
  have hpc:∀ s,spotsS s (jb a keep to (keep.getD i 0)++R)=(spotsS (s+long.getD i 0) R).map ((s,eN a (keep.getD i 0))::·):=fun s=>by
   unfold jb at h3 |-;rw [lB o5 (by rw [hl,h2]; simp only [Pz] at h3; omega),hl,<- o4]
  simp only [oW,sF,PT];rw [tG to hP i _ (by omega),kf (by omega),e];by_cases hc:bt pinned keep long i<fN pinned keep long i
  ·rw [if_pos hc,if_pos (by omega),show bt pinned keep long i+(fN pinned keep long i - bt pinned keep long i)=fN pinned keep long i by omega,hpc];cases spotsS (fN pinned keep long i+long.getD i 0) R <;> simp
  ·rw [if_neg hc,if_neg (by omega),show bt pinned keep long i=fN pinned keep long i by omega,hpc];cases spotsS (fN pinned keep long i+long.getD i 0) R <;> simp
def my (a keep pinned long:List Int):List ax:=sF a keep pinned long keep.length++(if bt pinned keep long keep.length<(a.length:Int) then [aL (bt pinned keep long keep.length) ((a.length:Int) - bt pinned keep long keep.length)] else [])
theorem oV (to:List Int) (hP:Plan a keep pinned long):(mw a keep to pinned long (co a.length keep long pinned)).length=a.length:=by
 have hl:=iR to hP keep.length (PP _);have he:=hP.en;rw [tL to hP,PC,cK];omega
theorem tK (to:List Int) (hP:Plan a keep pinned long):aa (mw a keep to pinned long (co a.length keep long pinned))=(my a keep pinned long,0):=by
 have hl:=oV to hP;have hal:=hP.al;have he:=hP.en;have e0:=(cO pinned hP.pre keep.length (PP _)).1;unfold aa;rw [if_neg (by omega),tL to hP,tG to hP _ _ (PP _)]
 have:spotsS (bt pinned keep long keep.length) (dN ((a.length:Int) - bt pinned keep long keep.length))=some (if bt pinned keep long keep.length<(a.length:Int) then [aL (bt pinned keep long keep.length) ((a.length:Int) - bt pinned keep long keep.length)] else []):=by
  have h:=kf (at_:=bt pinned keep long keep.length) (k:=(a.length:Int) - bt pinned keep long keep.length) (R:=[]) (by omega);rw [Qi] at h;rw [h];by_cases hc:bt pinned keep long keep.length<(a.length:Int)
  ·rw [if_pos hc,if_pos (by omega),spotsS]; rfl
  ·rw [if_neg hc,if_neg (by omega),spotsS]
 rw [this];rfl
theorem KE (to:List Int) (hP:Plan a keep pinned long) (T:List Int) {i:Nat}:∀ (n:Nat),i<n->n<=keep.length->∃ X Y,oW a keep to pinned long n++T=X++(jb a keep to (keep.getD i 0)++Y)/\(X.length:Int)=fN pinned keep long i
 | n+1,hi,hn=>by
  by_cases h:i=n
  ·subst h;have h1:=hP.le i (by omega);have hl:=iR to hP i (by omega);refine ⟨oW a keep to pinned long i++dN (fN pinned keep long i - bt pinned keep long i),T,?_,?_⟩
   ·simp only [oW,PT]
   ·rw [PC,cK]; omega
  ·obtain ⟨X,Y,e,hx⟩:=KE (i:=i) to hP (dN (fN pinned keep long n - bt pinned keep long n)++(jb a keep to (keep.getD n 0)++T)) n (by omega) (by omega);exact ⟨X,Y,by simp only [oW,PT]; exact e,hx⟩
theorem B4 {s:ax}:∀ (n:Nat),s∈sF a keep pinned long n->s.2.2.2.2=true/\s.2.1=0\/∃ i,i<n/\s=(fN pinned keep long i,eN a (keep.getD i 0))
 | 0,h=>by cases h
 | n+1,h=>by
  simp only [sF,PI] at h;rcases h with h | h | h
  ·rcases B4 n h with h | ⟨i,hi,e⟩
   ·exact .inl h
   ·exact .inr ⟨i,by omega,e⟩
  ·split at h
   ·rw [PB.1 h]; exact .inl ⟨rfl,rfl⟩
   ·cases h
  ·exact .inr ⟨n,by omega,PB.1 h⟩
theorem B5 {i:Nat}:∀ (n:Nat),i<n->(fN pinned keep long i,eN a (keep.getD i 0))∈sF a keep pinned long n
 | n+1,hi=>by
  simp only [sF,PI,PB];by_cases h:i=n
  ·subst h; exact .inr (.inr rfl)
  ·exact .inl (B5 n (by omega))
theorem Iv {s:ax} (h:s∈my a keep pinned long):s.2.2.2.2=true/\s.2.1=0\/∃ i,i<keep.length/\s=(fN pinned keep long i,eN a (keep.getD i 0)):=by
 unfold my at h;rcases PI.1 h with h | h
 ·exact B4 _ h
 ·split at h
  ·rw [PB.1 h]; exact .inl ⟨rfl,rfl⟩
  ·cases h
theorem xP {i:Nat} (hi:i<keep.length):(aG keep long pinned).getD i 0=fN pinned keep long i:=by
 unfold aG;rw [List.getD_eq_getElem?_getD,List.getElem?_map,List.getElem?_range hi];rfl
theorem vE:∀ {l:List ax} {t:Int} {h:ew},(t,h)∈l->h.2.2.2=false->t∈aB l
 | s::l,t,h,hm,hf=>by
  simp only [aB];rcases PD.1 hm with e | hm
  ·subst e;rw [if_neg (by rw [hf]; simp)];exact PV
  ·have ih:=vE hm hf;split
   ·exact ih
   ·exact P1 _ ih
theorem E5 (hP:Plan a keep pinned long) (hg:(keep.all fun x=>fl keep (aG keep long pinned) (aY a x))=true):ai (mw a keep (aG keep long pinned) pinned long (co a.length keep long pinned))=(my a keep pinned long,cH (my a keep pinned long),0):=by
 have hs:=tK (aG keep long pinned) hP;have hw:=tL (aG keep long pinned) hP;obtain ⟨A,hA⟩:∃ A,A=mw a keep (aG keep long pinned) pinned long (co a.length keep long pinned):=⟨_,rfl⟩;rw [<- hA] at hs hw |-;have hsort:=bz A;rw [hs] at hsort;unfold ai;rw [hs,if_neg (by simp),if_pos];refine PA.2 fun s hm=>PA.2 fun v hv=>?_
 rcases Iv hm with ⟨_,h0⟩ | ⟨i,hi,e⟩
 ·unfold bc at hv;rw [h0,Int.add_zero,P7 (by rw [PM]; omega)] at hv;cases hv
 ·have hb:=hP.isb _ (gn (i:=i) hi);obtain ⟨l1,l2,l3,l4,l5,l6⟩:=bS hb;have h1:=hP.le i hi;have e0:=(cO pinned hP.pre i (by omega)).1;obtain ⟨X,Y,eW,hX⟩:=KE (aG keep long pinned) hP (dN ((a.length:Int) - bt pinned keep long keep.length)) keep.length hi (PP _)
  have hr:bc A s=(aY a (keep.getD i 0)).map (ll keep (aG keep long pinned)):=by
   unfold bc;rw [e,hw,eW];simp only;generalize fN pinned keep long i=t at *;obtain ⟨n,rfl⟩:∃ n:Nat,t=n:=⟨X.length,hX.symm⟩;have hn:n=X.length:=by omega
   subst hn;have e1:((X.length:Int)+1+(eN a (keep.getD i 0)).1).toNat=X.length+(1+(aY a (keep.getD i 0)).length):=by omega
   have e2:((X.length:Int)+1).toNat=X.length+1:=by omega
   rw [e1,e2,R1,Rx];rw [P7 (by rw [PM]; omega),P0,show X.length+(1+(aY a (keep.getD i 0)).length) - X.length=1+(aY a (keep.getD i 0)).length by omega];rw [PJ (by omega:X.length<=_),show X.length+1 - X.length=1 by omega];unfold jb;rw [Nat.add_comm 1,Qs,QV,QX,RU,PT,PQ (by simp),PJ (by simp)]
  rw [hr] at hv;obtain ⟨u,hu,rfl⟩:=P3.1 hv;have hgu:=PA.1 (PA.1 hg _ (gn (i:=i) hi)) u hu;unfold cH;rw [jO _ _ _ 0 hsort];have e3:ll keep (aG keep long pinned) u=(lZ keep (aG keep long pinned) u).getD 0:=rfl;by_cases h0:u=0
  ·have:ll keep (aG keep long pinned) u=0:=by rw [e3]; unfold lZ; rw [if_pos h0]; rfl
   rw [this];cases nr 0 0 (my a keep pinned long) <;> rfl
  ·by_cases h2:cu keep (u - 1)=true
   ·have hp:=ur (bi.1 h2)
    have e4:ll keep (aG keep long pinned) u=fN pinned keep long (dq keep (u - 1)).toNat+1:=by
     rw [e3];unfold lZ;rw [if_neg h0,if_pos h2,xP (by omega)];rfl
    have hj:(dq keep (u - 1)).toNat<keep.length:=by omega
    rw [e4]
    have e5:(nr (fN pinned keep long (dq keep (u - 1)).toNat+1) 0 (my a keep pinned long)).isSome=true:=by
     rw [li,show fN pinned keep long (dq keep (u - 1)).toNat+1 - 1=fN pinned keep long (dq keep (u - 1)).toNat by omega,bi];exact vE (PE _ (B5 (pinned:=pinned) (long:=long) (a:=a) keep.length hj)) (fU (hP.isb _ (gn hj))).2.2.2.2.2
    cases hx:nr (fN pinned keep long (dq keep (u - 1)).toNat+1) 0 (my a keep pinned long) with
    | none=>rw [hx] at e5; cases e5
    | some k=>rfl
   ·unfold lZ at hgu;rw [if_neg h0,if_neg h2] at hgu;cases hgu
def fQ (l:List dp):Int:=(l.map (·.2)).sum
def ED:List ax->Int
 | []=>0
 | s::l=>(if s.2.2.2.2=true then ae s.2 else 0)+ED l
def lA:List ax->Int
 | []=>0
 | s::l=>(if s.2.2.2.2=true then 0 else ae s.2)+lA l
theorem ne (l:List dp) (r:dp):fQ (l++[r])=fQ l+r.2:=by simp [fQ]
theorem HW:∀ (l:List dp) (n:Int),0<l.length->fQ (ma l n)=fQ l+n:=by
 intro l n h
 obtain ⟨l',r,rfl⟩:∃ l' r,l=l'++[r]:=by
  refine ⟨l.dropLast,l.getLast (by intro e; rw [e] at h; cases h),?_⟩;exact (List.dropLast_concat_getLast _).symm
 unfold ma;have e:(l'++[r]).length - 1=l'.length:=by simp
 have e2:(l'++[r]).getD l'.length (0,0)=r:=by simp
 have e3:∀ x,(l'++[r]).set l'.length x=l'++[x]:=fun x=>by simp
 rw [e,e2,e3,ne,ne];simp only;omega
theorem nf:∀ (l:List ax) (p:Bool) (out:List dp),(p=true->0<out.length)->fQ (aV p out l)=fQ out+ED l
 | [],_,out,_=>by simp [aV,ED]
 | s::l,p,out,h=>by
  simp only [aV,ED];cases hf:s.2.2.2.2
  ·simp only [PG,P5];rw [nf l false out (fun h=>by cases h)];omega
  ·simp only [if_true];cases hp:p
   ·simp only [PG,P5];rw [nf l true _ (fun _=>by simp),ne];simp only;omega
   ·simp only [if_true];rw [nf l true _ (fun _=>by rw [ip]; exact h hp),HW _ _ (h hp)];omega
theorem nc:∀ {l:List ax} {s e:Int},gv s e l->s+ED l+lA l=e
 | [],s,e,h=>by simp only [gv] at h; simp only [ED,lA]; omega
 | x::l,s,e,⟨_,_,h⟩=>by
  have:=nc h;simp only [ED,lA];cases x.2.2.2.2 <;> simp <;> omega
theorem ke:∀ (l k:List ax),lA (l++k)=lA l+lA k
 | [],k=>by simp [lA]
 | s::l,k=>by
  have:=ke l k;simp only [Qs,lA];omega
theorem tC {l:List Int} {n:Nat} (h:n<l.length):l.take (n+1)=l.take n++[l.getD n 0]:=by
 have:=a7 (0:Int) (xs:=l) (i:=(n:Int)) (by omega) (by omega);simpa using this
theorem B3 (hb:∀ x∈keep,isB (aa a).1 x=true):∀ n:Nat,n<=keep.length->lA (sF a keep pinned long n)=((keep.take n).map (ef (aa a).1)).sum
 | 0,_=>by simp [sF,lA]
 | n+1,h=>by
  have ih:=B3 hb n (by omega);rw [tC (by omega)];simp only [sF];rw [ke,ke,ih,Qn,List.sum_append];have hf:=(fU (hb _ (gn (i:=n) (by omega)))).2.2.2.2.2
  have e1:lA (if bt pinned keep long n<fN pinned keep long n then [aL (bt pinned keep long n) (fN pinned keep long n - bt pinned keep long n)] else [])=0:=by
   split <;> simp [lA,aL]
  have e2:lA [(fN pinned keep long n,eN a (keep.getD n 0))]=ef (aa a).1 (keep.getD n 0):=by
   simp only [lA,hf];simp [ef,eN]
  rw [e1,e2];simp
theorem Iu (hb:∀ x∈keep,isB (aa a).1 x=true):lA (my a keep pinned long)=(keep.map (ef (aa a).1)).sum:=by
 unfold my;rw [ke,B3 hb _ (PP _),List.take_length]
 have:lA (if bt pinned keep long keep.length<(a.length:Int) then [aL (bt pinned keep long keep.length) ((a.length:Int) - bt pinned keep long keep.length)] else [])=0:=by
  split <;> simp [lA,aL]
 omega
end
theorem Ly {b:List Int} (h:(aa b).2=0):fQ (aV false [] (aa b).1)+lA (aa b).1=b.length:=by
 have:=nc (jl h);rw [nf _ _ _ (fun h=>by cases h)];simp only [fQ,Rq,List.sum_nil];omega
end
section
abbrev Ey:Ty:=.pair ty_I ty_I
def bT (n:Int):Int->List (Int×Int)->List Int
 | _,[]=>[]
 | k,r::l=>if n<=r.2 then k::bT n (k+1) l else bT n (k+1) l
def eg (l:List (Int×Int)):Bool:=l.any fun r=>decide (r.1<0)||decide (r.2<1)
def eO (l:List (Int×Int)) (n:Int):List Int×Int:=if n<1 then ([],1) else if eg l then ([],4) else if bT n 0 l=[] then ([],7) else (bT n 0 l,0)
def bx (l:List (Int×Int)) (n:Int):Int×Int:=if (eO l n).2≠0 then (0,(eO l n).2) else ((eO l n).1.getD 0 0,0)
theorem Al (r:Int×Int) (l:List (Int×Int)):eg (r::l)=(decide (r.1<0)||decide (r.2<1)||eg l):=by
 simp [eg]
def NF:Nat->Option LoopGen
 | 5=>some { rd:=[.dat 11 (.arr Ey),.dat 1 ty_I],A:=fun ((l,n):List (Int×Int)×Int)=>{ cs:=[.own 6 3 ty_I,.dat 13 ty_I],inv:=fun ((out,i):List Int×Int)=>0<=i/\i<=l.length/\1<=n/\out.length<=i/\eg (l.drop i.toNat)=eg l/\out++bT n i (l.drop i.toNat)=bT n 0 l,mu:=fun ((_,i):List Int×Int)=>(l.length - i).toNat } }
 | _=>none
def MO:Spec:={ Ts:=[.arr Ey,ty_I],Rs:=[.own 3 ty_I,.dat ty_I],pre:=fun _=>True,F:=fun ((l,n):List (Int×Int)×Int)=>eO l n }
def GI:Prop :=
  ∀ (x:List (Int×Int)×Int),(x.1.length * (8+8)<=aF/\∀ (x_1:Int×Int),x_1∈x.1->am .i64 x_1.1/\am .i64 x_1.2)/\am .i64 x.2->True->(decide (x.2<1)=true->([]:List Int)=(eO x.1 x.2).1/\1=(eO x.1 x.2).2/\True)/\(decide (x.2<1)=false->((0:Int)<=0/\0<=(x.1.length:Int)/\1<=x.2/\(↑(0:Nat):Int)<=0/\eg (List.drop (Int.toNat 0) x.1)=eg x.1/\([]:List Int)++bT x.2 0 (List.drop (Int.toNat 0) x.1)=bT x.2 0 x.1)/\∀ (x_1:List Int×Int),0<=x_1.2/\x_1.2<=(x.1.length:Int)/\1<=x.2/\(x_1.1.length:Int)<=x_1.2/\eg (List.drop x_1.2.toNat x.1)=eg x.1/\x_1.1++bT x.2 x_1.2 (List.drop x_1.2.toNat x.1)=bT x.2 0 x.1->(decide (x_1.2<(x.1.length:Int))=true->0<=x_1.2/\x_1.2<(x.1.length:Int)/\((decide ((x.1.getD x_1.2.toNat (0,0)).1<0)||decide ((x.1.getD x_1.2.toNat (0,0)).2<1))=true->([]:List Int)=(eO x.1 x.2).1/\4=(eO x.1 x.2).2/\True)/\((decide ((x.1.getD x_1.2.toNat (0,0)).1<0)||decide ((x.1.getD x_1.2.toNat (0,0)).2<1))=false->(decide (x.2<=(x.1.getD x_1.2.toNat (0,0)).2)=true->(x_1.1.length+[x_1.2].length) * 8<=aF/\am .i64 (x_1.2+1)/\(0<=x_1.2+1/\x_1.2+1<=(x.1.length:Int)/\1<=x.2/\(↑(x_1.1++[x_1.2]).length:Int)<=x_1.2+1/\eg (List.drop (x_1.2+1).toNat x.1)=eg x.1/\x_1.1++[x_1.2]++bT x.2 (x_1.2+1) (List.drop (x_1.2+1).toNat x.1)=bT x.2 0 x.1)/\((x.1.length:Int) - (x_1.2+1)).toNat<((x.1.length:Int) - x_1.2).toNat)/\(decide (x.2<=(x.1.getD x_1.2.toNat (0,0)).2)=false->am .i64 (x_1.2+1)/\(0<=x_1.2+1/\x_1.2+1<=(x.1.length:Int)/\1<=x.2/\(x_1.1.length:Int)<=x_1.2+1/\eg (List.drop (x_1.2+1).toNat x.1)=eg x.1/\x_1.1++bT x.2 (x_1.2+1) (List.drop (x_1.2+1).toNat x.1)=bT x.2 0 x.1)/\((x.1.length:Int) - (x_1.2+1)).toNat<((x.1.length:Int) - x_1.2).toNat)))/\(decide (x_1.2<(x.1.length:Int))=false->(decide ((x_1.1.length:Int)=0)=true->([]:List Int)=(eO x.1 x.2).1/\7=(eO x.1 x.2).2/\True)/\(decide ((x_1.1.length:Int)=0)=false->x_1.1=(eO x.1 x.2).1/\0=(eO x.1 x.2).2/\True)))
theorem JZ:GI:=by
 unfold GI;intro ⟨l,n⟩ ⟨⟨hl,_⟩,hn⟩ _;unfold aF at *;have hb0:eg []=false:=rfl;have hf0:∀ k,bT n k []=[]:=fun _=>rfl
 refine ⟨fun h=>?_,fun h=>⟨⟨by omega,by grind,by grind,by simp,by simp,by simp⟩,fun ⟨out,i⟩ ⟨h0,h1,h2,h3,h4,h5⟩=>⟨fun hlt=>?_,fun hge=>?_⟩⟩⟩
 ·simp only [eO]; grind
 ·have hlt:i<(l.length:Int):=by simpa using hlt
  have e:=bg ((0,0):Int×Int) h0 hlt;simp only at *;simp only [e,Al,bT] at h4 h5;simp only [eO,am,PC,Pz,P4]
  repeat' (first | apply And.intro | intro _)
  all_goals grind
 ·simp only at *;rw [b6 (by simpa using hge),hb0] at h4;rw [b6 (by simpa using hge),hf0,Qi] at h5;simp only [eO,<- h4,<- h5];by_cases ho:out=[]
  ·subst ho;have:¬ n<1:=by omega
   simp [this]
  ·have:¬ n<1:=by omega
   simp [this,ho]
theorem M6:MO.ok Tryz.prog 214:=aA (ann:=NF) ap Tryz.func214 (by kernel_rfl) JZ
def KB:Spec:={ Ts:=[.arr Ey,ty_I],Rs:=[.dat ty_I,.dat ty_I],pre:=fun _=>True,F:=fun ((l,n):List (Int×Int)×Int)=>bx l n }
def CA:Prop :=
  ∀ (x:List (Int×Int)×Int),(x.1.length * (8+8)<=aF/\∀ (x_1:Int×Int),x_1∈x.1->am .i64 x_1.1/\am .i64 x_1.2)/\am .i64 x.2->True->True/\(decide ((eO x.1 x.2).2≠0)=true->0=(bx x.1 x.2).1/\(eO x.1 x.2).2=(bx x.1 x.2).2/\True)/\(decide ((eO x.1 x.2).2≠0)=false->(0:Int)<=0/\0<(↑(eO x.1 x.2).1.length:Int)/\Int.toNat 0<(eO x.1 x.2).1.length/\(eO x.1 x.2).1.getD (Int.toNat 0) 0=(bx x.1 x.2).1/\0=(bx x.1 x.2).2/\True)
theorem HR:CA:=by
 unfold CA;intro ⟨l,n⟩ _ _;have h:(eO l n).2=0->(eO l n).1≠[]:=by unfold eO; grind
 simp only [bx];cases hc:(eO l n).1 <;> grind
theorem K8:KB.ok Tryz.prog 155:=aA (ann:=cn) (ac M6 ap) Tryz.func155 (by kernel_rfl) HR
end
section
theorem bQ (t k:Int):ae (aL t k).2=k:=by simp [aL,ae]; omega
def bH:List ax->List ax
 | []=>[]
 | x::l=>if x.2.2.2.2=true then (match bH l with
   | []=>[aL x.1 (ae x.2)]
   | y::r=>if y.2.2.2.2=true then aL x.1 (ae x.2+ae y.2)::r else aL x.1 (ae x.2)::y::r) else x::bH l
def iO (a:List Int):List ax->List Int
 | []=>[]
 | s::l=>(if s.2.2.2.2=true then dN (ae s.2) else (a.drop s.1.toNat).take (ae s.2).toNat)++iO a l
def gF:List ax->List dp
 | []=>[]
 | s::l=>if s.2.2.2.2=true then (s.1,ae s.2)::gF l else gF l
theorem Jd (x:ax) (l:List ax) (h:x.2.2.2.2=true):bH (x::l)=bH (aL x.1 (ae x.2)::l):=by
 simp only [bH];rw [if_pos h,if_pos (show (aL x.1 (ae x.2)).2.2.2.2=true from rfl),bQ];rfl
theorem Lo (t n:Int) (x:ax) (l:List ax) (h:x.2.2.2.2=true):bH (aL t n::x::l)=bH (aL t (n+ae x.2)::l):=by
 have e:∀ m,bH (aL t m::l)=match bH l with
   | []=>[aL t m]
   | y::r=>if y.2.2.2.2=true then aL t (m+ae y.2)::r else aL t m::y::r:=fun m=>by
  simp only [bH];rw [if_pos (show (aL t m).2.2.2.2=true from rfl),bQ];rfl
 have e2:bH (aL t n::x::l)=match bH (x::l) with
   | []=>[aL t n]
   | y::r=>if y.2.2.2.2=true then aL t (n+ae y.2)::r else aL t n::y::r:=by
  rw [bH];rw [if_pos (show (aL t n).2.2.2.2=true from rfl),bQ];rfl
 rw [e2,e];simp only [bH];rw [if_pos h];cases hj:bH l with
 | nil =>
  simp only;rw [if_pos (show (aL x.1 (ae x.2)).2.2.2.2=true from rfl),bQ]
 | cons y r =>
  simp only;by_cases hy:y.2.2.2.2=true
  ·rw [if_pos hy,if_pos hy];simp only;rw [if_pos (show (aL x.1 (ae x.2+ae y.2)).2.2.2.2=true from rfl),bQ,Int.add_assoc]
  ·rw [if_neg hy,if_neg hy];simp only;rw [if_pos (show (aL x.1 (ae x.2)).2.2.2.2=true from rfl),bQ]
theorem mO (x:ax) (l:List ax) (h:¬ x.2.2.2.2=true):bH (x::l)=x::bH l:=by
 simp only [bH]; rw [if_neg h]
theorem wB (t n:Int) (x:ax) (l:List ax) (h:¬ x.2.2.2.2=true):bH (aL t n::x::l)=aL t n::x::bH l:=by
 rw [bH,mO x l h];rw [if_pos (show (aL t n).2.2.2.2=true from rfl),bQ];simp only;rw [if_neg h];rfl
theorem yj:∀ (l:List ax),(∀ out,aV false out l=out++gF (bH l))/\∀ out t n,aV true (out++[(t,n)]) l=out++gF (bH (aL t n::l))
 | []=>by
  refine ⟨fun out=>by simp [aV,bH,gF],fun out t n=>?_⟩
  have e:bH [aL t n]=[aL t n]:=by
   rw [bH,if_pos (show (aL t n).2.2.2.2=true from rfl),bQ];rfl
  rw [e];simp only [aV,gF];rw [if_pos (show (aL t n).2.2.2.2=true from rfl),bQ];rfl
 | x::l=>by
  obtain ⟨h1,h2⟩:=yj l;by_cases hx:x.2.2.2.2=true
  ·refine ⟨fun out=>?_,fun out t n=>?_⟩
   ·simp only [aV];rw [hx];simp only [if_true,PG,P5];rw [h2,Jd x l hx]
   ·simp only [aV];rw [hx];simp only [if_true];rw [JB,h2,Lo t n x l hx]
  ·have hf:x.2.2.2.2=false:=by simpa using hx
   refine ⟨fun out=>?_,fun out t n=>?_⟩
   ·simp only [aV];rw [hf];simp only [PG,P5];rw [h1,mO x l hx];simp only [gF];rw [if_neg hx]
   ·simp only [aV];rw [hf];simp only [PG,P5];rw [h1,wB t n x l hx];simp only [gF];rw [if_pos (show (aL t n).2.2.2.2=true from rfl),if_neg hx,bQ];simp [aL]
theorem oR:∀ {l:List ax} {s e:Int},gv s e l->s<=e
 | [],s,e,h=>by simp only [gv] at h; omega
 | x::l,s,e,⟨_,h1,h2⟩=>by have:=oR h2; omega
theorem uM:∀ {l:List ax} {s e:Int},gv s e l->gv s e (bH l)
 | [],s,e,h=>h
 | x::l,s,e,⟨h0,h1,h2⟩=>by
  have ih:=uM h2;by_cases hx:x.2.2.2.2=true
  ·simp only [bH];rw [if_pos hx];cases hj:bH l with
   | nil =>
    rw [hj] at ih;simp only [gv] at ih |-;rw [bQ];exact ⟨h0,h1,ih⟩
   | cons y r =>
    rw [hj] at ih;obtain ⟨i0,i1,i2⟩:=ih;simp only;by_cases hy:y.2.2.2.2=true
    ·rw [if_pos hy];simp only [gv];rw [bQ];exact ⟨h0,by omega,by rw [<- Int.add_assoc]; exact i2⟩
    ·rw [if_neg hy];simp only [gv];rw [bQ];exact ⟨h0,h1,i0,i1,i2⟩
  ·rw [mO x l hx];exact ⟨h0,h1,ih⟩
theorem uO:∀ {l:List ax} {s:ax},s∈bH l->(s=aL s.1 (ae s.2))\/(s∈l/\s.2.2.2.2=false)
 | x::l,s,h=>by
  have ih:=fun (h:s∈bH l)=>uO h
  have fs:∀ t n,aL t n=aL (aL t n).1 (ae (aL t n).2):=fun t n=>by rw [bQ]; rfl
  by_cases hx:x.2.2.2.2=true
  ·simp only [bH] at h;rw [if_pos hx] at h;cases hj:bH l with
   | nil =>
    rw [hj] at h;rw [PB.1 h];exact .inl (fs _ _)
   | cons y r =>
    rw [hj] at h ih;simp only at h;split at h
    ·rcases PD.1 h with e | h
     ·rw [e]; exact .inl (fs _ _)
     ·rcases ih (P1 _ h) with h | h
      ·exact .inl h
      ·exact .inr ⟨P1 _ h.1,h.2⟩
    ·rcases PD.1 h with e | h
     ·rw [e]; exact .inl (fs _ _)
     ·rcases ih h with h | h
      ·exact .inl h
      ·exact .inr ⟨P1 _ h.1,h.2⟩
  ·rw [mO x l hx] at h;rcases PD.1 h with e | h
   ·rw [e]; exact .inr ⟨PV,by simpa using hx⟩
   ·rcases ih h with h | h
    ·exact .inl h
    ·exact .inr ⟨P1 _ h.1,h.2⟩
theorem sD:∀ (l:List ax),aB (bH l)=aB l
 | []=>rfl
 | x::l=>by
  have ih:=sD l;have fs:∀ t n,(aL t n).2.2.2.2=true:=fun _ _=>rfl
  by_cases hx:x.2.2.2.2=true
  ·simp only [bH,aB];rw [if_pos hx,if_pos hx];cases hj:bH l with
   | nil =>
    rw [hj] at ih;simp only [aB];rw [if_pos (fs _ _)];exact ih
   | cons y r =>
    rw [hj] at ih;simp only;by_cases hy:y.2.2.2.2=true
    ·simp only [aB] at ih;rw [if_pos hy] at ih;rw [if_pos hy];simp only [aB];rw [if_pos (fs _ _)];exact ih
    ·rw [if_neg hy]
     have:aB (aL x.1 (ae x.2)::y::r)=aB (y::r):=by
      rw [aB,if_pos (fs _ _)]
     rw [this,ih]
  ·rw [mO x l hx];simp only [aB];rw [if_neg hx,if_neg hx,ih]
theorem vq {P R:List Int} {s L:Int} (hp:P.length=s.toNat) (_h0:0<=s) (h1:0<L) (_h2:L.toNat<=R.length):a6 (P++R) s L=P++(dN L++R.drop L.toNat):=by
 unfold a6 eP l7 dN;rw [if_pos h1,if_pos h1,<- hp,List.take_left,PJ (by simp)];have e:(P++R).drop (P.length+L.toNat)=R.drop L.toNat:=by rw [<- QZ,List.drop_left]
 rw [e,show L.toNat=(L - 1).toNat+1 by omega,Rv,Qs,sY _ rfl];rfl
theorem qO {a:List Int}:∀ (k:List ax) (s:Int) (P:List Int),gv s a.length k->0<=s->P.length=s.toNat->(gF k).foldl (fun a r=>a6 a r.1 r.2) (P++a.drop s.toNat)=P++iO a k
 | [],s,P,h,h0,hp=>by
  simp only [gv] at h;simp only [gF,List.foldl_nil,iO];rw [P7 (by omega)]
 | x::k,s,P,⟨e0,h1,h2⟩,h0,hp=>by
  have hle:=oR h2;subst e0;simp only [gF,iO];by_cases hx:x.2.2.2.2=true
  ·rw [if_pos hx,if_pos hx];simp only [Q1];rw [vq hp h0 (by omega) (by rw [PW]; omega),QZ,<- PT,<- PT,show x.1.toNat+(ae x.2).toNat=(x.1+ae x.2).toNat by omega];exact qO k (x.1+ae x.2) _ h2 (by omega) (by rw [PC,cK]; omega)
  ·rw [if_neg hx,if_neg hx]
   have e:P++a.drop x.1.toNat=(P++(a.drop x.1.toNat).take (ae x.2).toNat)++a.drop (x.1+ae x.2).toNat:=by
    rw [PT,show (x.1+ae x.2).toNat=x.1.toNat+(ae x.2).toNat by omega,<- QZ,Qr]
   rw [e,<- PT];exact qO k (x.1+ae x.2) _ h2 (by omega) (by rw [PC,PM,PW]; omega)
theorem rn {a:List Int} (hal:a.length<=256):∀ (k:List ax) (s:Int),gv s a.length k->0<=s->(∀ x∈k,x.2.2.2.2=false->x.2=ba (a.getD x.1.toNat 0)/\bh (a.getD x.1.toNat 0)=true)->(∀ x∈k,x.2.2.2.2=true->x=aL x.1 (ae x.2))->spotsS s (iO a k)=some k
 | [],s,_,_,_,_=>by rw [iO,spotsS]
 | x::k,s,⟨e0,h1,h2⟩,h0,hn,hf=>by
  have hle:=oR h2;have ih:=rn hal k (s+ae x.2) h2 (by omega) (fun y hy=>hn y (P1 _ hy)) (fun y hy=>hf y (P1 _ hy));subst e0;simp only [iO];by_cases hx:x.2.2.2.2=true
  ·rw [if_pos hx,kf (by omega),if_pos (by omega),ih,Qb,<- hf x PV hx]
  ·rw [if_neg hx];obtain ⟨e1,e2⟩:=hn x PV (by simpa using hx)
   have e3:(a.drop x.1.toNat).take (ae x.2).toNat=a.getD x.1.toNat 0::(a.drop (x.1.toNat+1)).take ((ae x.2).toNat - 1):=by
    have hlt:x.1.toNat<a.length:=by omega
    rw [QN hlt,show (ae x.2).toNat=((ae x.2).toNat - 1)+1 by omega,QV];simp [List.getD_eq_getElem?_getD,hlt]
   rw [e3,lB e2 (by rw [<- e1,PM,PW]; omega),<- e1,ih];rfl
theorem tf {a:List Int}:∀ (k:List ax) (s:Int) {x:ax},gv s a.length k->0<=s->x∈k->∃ X Y,iO a k=X++((if x.2.2.2.2=true then dN (ae x.2) else (a.drop x.1.toNat).take (ae x.2).toNat)++Y)/\(X.length:Int)=x.1 - s/\0<=x.1/\1<=ae x.2/\x.1+ae x.2<=a.length
 | y::k,s,x,⟨e0,h1,h2⟩,h0,hm=>by
  have hle:=oR h2;rcases PD.1 hm with e | hm
  ·subst e;exact ⟨[],iO a k,rfl,by simp; omega,by omega,h1,by omega⟩
  ·obtain ⟨X,Y,e,hx,p1,p2,p3⟩:=tf k (s+ae y.2) h2 (by omega) hm;refine ⟨(if y.2.2.2.2=true then dN (ae y.2) else (a.drop y.1.toNat).take (ae y.2).toNat)++X,Y,?_,?_,p1,p2,p3⟩
   ·rw [iO,e,PT]
   ·rw [PC];split
    ·rw [cK]; omega
    ·rw [PM,PW]; omega
theorem IB {a b:List Int} {x:ax} (h0:0<=x.1) (h1:0<=x.2.1) (h:∀ j:Nat,x.1+1<=j->(j:Int)<x.1+1+x.2.1->b[j]?=a[j]?):bc b x=bc a x:=by
 unfold bc;apply Rt;intro j;rw [List.getElem?_drop,List.getElem?_drop,List.getElem?_take,List.getElem?_take];split
 ·exact h _ (by omega) (by omega)
 ·rfl
theorem qB {a:List Int} {l:List ax} (h1:a.length<=256) (h2:spotsS 0 a=some l):aa a=(l,0):=by
 unfold aa;rw [if_neg (by omega),h2]
theorem FK {a:List Int} (hc:(ai a).2.2=0):ai (dS a).1=(bH (aa a).1,cH (bH (aa a).1),0)/\(dS a).1=iO a (bH (aa a).1)/\gv 0 a.length (bH (aa a).1)/\(dS a).1.length=a.length/\aV false [] (aa a).1=gF (bH (aa a).1):=by
 obtain ⟨hal,_,_,h0,_,hr,_⟩:=bJ hc;have ht:=jl h0;have hj:=uM ht;have hg:aV false [] (aa a).1=gF (bH (aa a).1):=by rw [(yj _).1]; rfl
 have hw:(dS a).1=iO a (bH (aa a).1):=by
  unfold dS;rw [if_neg (by omega),hg];have:=qO (a:=a) (bH (aa a).1) 0 [] hj (by omega) rfl;simpa using this
 have hfr:∀ x∈bH (aa a).1,x.2.2.2.2=true->x=aL x.1 (ae x.2):=fun x hx hf=>by
  rcases uO hx with h | h
  ·exact h
  ·rw [h.2] at hf; cases hf
 have hnf:∀ x∈bH (aa a).1,x.2.2.2.2=false->x∈(aa a).1:=fun x hx hf=>by
  rcases uO hx with h | h
  ·rw [h] at hf; cases hf
  ·exact h.1
 have hsp:=rn hal (bH (aa a).1) 0 hj (by omega) (fun x hx hf=>rr x (hnf x hx hf)) hfr
 have hlen:(iO a (bH (aa a).1)).length=a.length:=by
  have:=oT 0 _ _ hsp;have h1:=nc this;have h2:=nc hj;omega
 have hS:aa (iO a (bH (aa a).1))=(bH (aa a).1,0):=qB (by omega) hsp;have hsort:=bz (iO a (bH (aa a).1));rw [hS] at hsort;refine ⟨?_,hw,hj,by rw [hw]; exact hlen,hg⟩;rw [hw];unfold ai;rw [hS,if_neg (by simp),if_pos];refine PA.2 fun s hs=>?_
 cases hf:s.2.2.2.2
 ·have hm:=hnf s hs hf;obtain ⟨_,hin,_⟩:=eY a s hm;obtain ⟨X,Y,e,hX,p1,p2,p3⟩:=tf _ 0 hj (by omega) hs;rw [if_neg (by rw [hf]; simp)] at e;have hL:ae s.2=1+s.2.1+s.2.2.1:=rfl;unfold dm at hin
  have er:bc (iO a (bH (aa a).1)) s=bc a s:=by
   refine IB p1 hin.2.1 fun j j1 j2=>?_
   rw [e,List.getElem?_append_right (by omega),List.getElem?_append_left (by rw [PM,PW]; omega),List.getElem?_take,if_pos (by omega),List.getElem?_drop];congr 1;omega
  rw [er];have h3:=PA.1 hr s hm;refine PA.2 fun v hv=>?_
  have h4:=PA.1 h3 v hv;unfold cH at h4 |-;rw [jO _ _ _ 0 (bz a)] at h4;rw [jO _ _ _ 0 hsort];have e1:(nr v 0 (bH (aa a).1)).isSome=(nr v 0 (aa a).1).isSome:=by rw [li,li,sD]
  cases h5:nr v 0 (aa a).1 with
  | none =>
   rw [h5] at h4 e1;cases h6:nr v 0 (bH (aa a).1) with
   | none=>exact h4
   | some k=>rfl
  | some k =>
   rw [h5] at e1;cases h6:nr v 0 (bH (aa a).1) with
   | none=>rw [h6] at e1; cases e1
   | some k=>rfl
 ·rw [hfr s hs hf]
  have:bc (iO a (bH (aa a).1)) (aL s.1 (ae s.2))=[]:=by
   unfold bc aL;simp only [Int.add_zero];exact P7 (by rw [PM]; omega)
  rw [this];rfl
theorem oz:∀ {l:List ax} {r:dp},r∈gF l->∃ s∈l,s.2.2.2.2=true/\r=(s.1,ae s.2)
 | x::l,r,h=>by
  simp only [gF] at h;split at h
  ·rename_i hx;rcases PD.1 h with e | h
   ·exact ⟨x,PV,hx,e⟩
   ·obtain ⟨s,hs,h⟩:=oz h;exact ⟨s,P1 _ hs,h⟩
  ·obtain ⟨s,hs,h⟩:=oz h;exact ⟨s,P1 _ hs,h⟩
def od (a:List Int) (r:dp) (h:ew):List Int:=(a6 (dS a).1 (r.1+ae h) (r.2 - ae h)).set r.1.toNat (aR h)
theorem Ff {a:List Int} (hc:(ai a).2.2=0) {r:dp} {h:ew} (hr:r∈aV false [] (aa a).1) (h0:af h=0) (hf:h.2.2.2=false) (hl:ae h<=r.2):iQ (dS a).1 r.1 h=(od a r h,0):=by
 obtain ⟨h1,h2,h3,h4,h5⟩:=FK hc;obtain ⟨hal,_⟩:=bJ hc;rw [h5] at hr;obtain ⟨s,hs,hsf,e⟩:=oz hr;have hz:(ai (dS a).1).2.2=0:=by rw [h1]
 have hsp:(aa (dS a).1).1=bH (aa a).1:=by
  have:=(bJ hz).2.2.1;rw [h1] at this;exact this.symm
 obtain ⟨X,Y,eW,hX,p1,p2,p3⟩:=tf _ 0 h3 (by omega) hs;rw [if_pos hsf] at eW;have e1:r.1=s.1:=by rw [e]
 have e2:r.2=ae s.2:=by rw [e]
 obtain ⟨g1,g2⟩:=EB hz r.1 h;have hsort:=bz (dS a).1;rw [hsp] at g1 g2 hsort;have hrm:ji r.1 0 (bH (aa a).1)=r.2:=by rw [e2]; exact tU _ 0 s hsort hs e1.symm hsf
 have hn:=bG h0;have hL:ae h=1+h.1+h.2.1:=rfl;have e0:sR h=0:=by unfold sR; rw [hf,if_neg (by simp),h0]
 have ez:fP (sR h) r.2 (ae h)=0:=by unfold fP; rw [e0,if_neg (by omega),if_neg (by omega),if_neg (by omega)]
 rw [hrm,ez,if_neg (by omega)] at g1;have hlp:iA (dS a).1 r.1 r.2:=⟨by omega,by omega,by omega,by omega⟩;obtain ⟨t1,_⟩:=EA hlp (n:=ae h) (by omega) hl (aR h);rw [g1,<- t1]
 have hi:a6 (dS a).1 r.1 r.2=(dS a).1:=by
  rw [h2,eW,e1,e2,vq (by omega) p1 (by omega) (by rw [PC,cK]; omega),R5 (by rw [cK]; omega),P7 (by rw [cK]; omega),P0]
 rw [hi];rfl
theorem yn (n:Int):∀ (l:List dp) (k:Int),match l.find? (fun r=>decide (n<=r.2)) with
  | none=>bT n k l=[]
  | some r=>∃ i,0<=i/\i<(l.length:Int)/\l.getD i.toNat (0,0)=r/\bT n k l≠[]/\(bT n k l).getD 0 0=k+i
 | [],k=>rfl
 | r::l,k=>by
  have ih:=yn n l (k+1);by_cases h:n<=r.2
  ·rw [List.find?_cons_of_pos (by simpa using h)];simp only [bT];rw [if_pos h];exact ⟨0,by omega,by simp,rfl,by simp,by simp⟩
  ·rw [List.find?_cons_of_neg (by simpa using h)];simp only [bT];rw [if_neg h];cases hf:l.find? (fun r=>decide (n<=r.2)) with
   | none=>rw [hf] at ih; exact ih
   | some q =>
    rw [hf] at ih;obtain ⟨i,i0,i1,i2,i3,i4⟩:=ih;refine ⟨i+1,by omega,by simp only [Pz]; omega,?_,i3,by omega⟩;rw [show (i+1).toNat=i.toNat+1 by omega];exact i2
def jI (a:List Int) (h:ew):List Int×Int×Bool:=match (aV false [] (aa a).1).find? (fun r=>decide (ae h<=r.2)) with
 | none=>([],0,false)
 | some r=>(od a r h,r.1,true)
theorem Jl {n:Int} {l:List dp} (hn:1<=n) (hg:∀ r∈l,0<=r.1/\1<=r.2):bx l n=if bT n 0 l=[] then (0,7) else ((bT n 0 l).getD 0 0,0):=by
 have hb:eg l=false:=by
  unfold eg;rw [RW];intro r hr;have:=hg r hr;simp;omega
 have e:eO l n=if bT n 0 l=[] then ([],7) else (bT n 0 l,0):=by
  unfold eO;rw [if_neg (show ¬ n<1 by omega),hb,if_neg (by simp)]
 unfold bx;rw [e];by_cases h:bT n 0 l=[]
 ·rw [if_pos h,if_pos h];rfl
 ·rw [if_neg h,if_neg h];rfl
end
section
def cY (o:List Int) (x:Int):List Int:=if cu o x=true then o else o++[x]
def fG (l:List Int):List Int:=(l.filter fun v=>decide (v≠0)).map (· - 1)
def gu (a:List Int):Nat->Nat->List Int->List Int
 | 0,_,o=>o
 | n+1,i,o=>if i<o.length then gu a n (i+1) ((fG (aY a (o.getD i 0))).foldl cY o) else o
def fy (a f:List Int):List Int:=gu a 257 0 (f.foldl cY [])
theorem iF:∀ (l o:List Int),∃ k,l.foldl cY o=o++k/\∀ x∈k,x∈l
 | [],o=>⟨[],by simp,fun x hx=>by cases hx⟩
 | y::l,o=>by
  obtain ⟨k,h1,h2⟩:=iF l (cY o y);rw [Q1,h1];unfold cY;split
  ·exact ⟨k,rfl,fun x hx=>P1 _ (h2 x hx)⟩
  ·refine ⟨y::k,by simp,fun x hx=>?_⟩;rcases PD.1 hx with rfl | hx
   ·simp
   ·exact P1 _ (h2 x hx)
theorem mZ:∀ (l o:List Int),o.Nodup->(l.foldl cY o).Nodup
 | [],_,h=>h
 | y::l,o,h=>by
  rw [Q1];refine mZ l _ ?_;unfold cY;split
  ·exact h
  ·rename_i hn;rw [RS];refine ⟨h,by simp,fun x hx z hz=>?_⟩;rw [PB.1 hz];rintro rfl;exact hn (bi.2 hx)
theorem rk:∀ (l o:List Int),∀ x∈l,x∈l.foldl cY o
 | y::l,o,x,h=>by
  rw [Q1];rcases PD.1 h with rfl | h
  ·obtain ⟨k,h1,_⟩:=iF l (cY o x);rw [h1];refine PE _ ?_;unfold cY;split
   ·rename_i h; exact bi.1 h
   ·simp
  ·exact rk l _ x h
theorem vw (l o:List Int) (x:Int):(l++[x]).foldl cY o=cY (l.foldl cY o) x:=by rw [Rr]; rfl
theorem Fg (l:List Int) (v:Int):fG (l++[v])=if v=0 then fG l else fG l++[v - 1]:=by
 unfold fG;rw [Q6,Qn];by_cases h:v=0
 ·rw [if_pos h,Qy (by simp [h])]; simp
 ·rw [if_neg h,Qj (by simp [h])]; simp
structure Came (a f o:List Int):Prop where
 nodup:o.Nodup
 only:∀ x∈o,Rch a f x
theorem Came.comes {a f o:List Int} (h:Came a f o) {x:Int} (hx:x∈o) (l:List Int) (hl:∀ v∈l,v∈aY a x):Came a f ((fG l).foldl cY o):=by
 refine ⟨mZ _ _ h.nodup,fun y hy=>?_⟩;obtain ⟨k,h1,h2⟩:=iF (fG l) o;rw [h1] at hy;rcases PI.1 hy with hy | hy
 ·exact h.only y hy
 ·refine .step (h.only x hx) ?_;have:=h2 y hy;unfold fG at this;obtain ⟨v,hv,rfl⟩:=P3.1 this;obtain ⟨hv,h0⟩:=Qp.1 hv;unfold a8;exact P3.2 ⟨v,Qp.2 ⟨hl v hv,h0⟩,rfl⟩
theorem Came.length {a f o:List Int} (hw:∀ x∈a,am .u64 x) (hc:(ai a).2.2=0) (hf:∀ x∈f,isB (aa a).1 x=true) (h:Came a f o):o.length<=256 :=
 iy h.nodup fun x hx=>cA ((h.only x hx).isB hw hc hf)
theorem Came.first {a f:List Int} {l:List Int} (h:∀ x∈l,x∈f):Came a f (l.foldl cY []):=by
 refine ⟨mZ _ _ Sh,fun x hx=>?_⟩;obtain ⟨k,h1,h2⟩:=iF l [];rw [h1,P0] at hx;exact .base (h x (h2 x hx))
theorem F9 {a:List Int} {n i:Nat} {o:List Int} (h:i<o.length):gu a (n+1) i o=gu a n (i+1) ((fG (aY a (o.getD i 0))).foldl cY o):=by
 rw [gu,if_pos h]
theorem JA {a:List Int} {n i:Nat} {o:List Int} (h:¬ i<o.length):gu a n i o=o:=by
 cases n with
 | zero=>rfl
 | succ n=>rw [gu,if_neg h]
theorem yx {a f:List Int}:∀ (n i:Nat) (o:List Int),Came a f o->Came a f (gu a n i o)
 | 0,_,_,h=>h
 | n+1,i,o,h=>by
  rw [gu];split
  ·rename_i hi;refine yx n _ _ (h.comes (x:=o.getD i 0) ?_ _ fun v hv=>hv);simpa using aH (0:Int) (Int.natCast_nonneg i) (by omega:(i:Int)<(o.length:Int))
  ·exact h
theorem Hm (a f:List Int):Came a f (fy a f):=yx _ _ _ (Came.first fun _ h=>h)
theorem yw (a:List Int):∀ (n i:Nat) (o:List Int),∃ k,gu a n i o=o++k
 | 0,_,o=>⟨[],by simp [gu]⟩
 | n+1,i,o=>by
  rw [gu];split
  ·obtain ⟨k,h⟩:=yw a n (i+1) ((fG (aY a (o.getD i 0))).foldl cY o);obtain ⟨k2,h2,_⟩:=iF (fG (aY a (o.getD i 0))) o;exact ⟨k2++k,by rw [h,h2,PT]⟩
  ·exact ⟨[],by simp⟩
theorem Jz {a f:List Int} {x:Int} (h:x∈f):x∈fy a f:=by
 obtain ⟨k,h1⟩:=yw a 257 0 (f.foldl cY []);unfold fy;rw [h1];exact PE _ (rk _ _ x h)
theorem xb:∀ {l:List ax} {s t:ax},l.Pairwise (fun s t=>s.1<t.1)->s∈l->t∈l->s.1=t.1->s=t
 | u::l,s,t,h,hs,ht,e=>by
  obtain ⟨h1,h2⟩:=Qe.1 h;rcases PD.1 hs with e1 | hs2 <;> rcases PD.1 ht with e2 | ht2
  ·rw [e1,e2]
  ·have:=h1 t ht2; rw [<- e1] at this; omega
  ·have:=h1 s hs2; rw [<- e2] at this; omega
  ·exact xb h2 hs2 ht2 e
theorem Gc {a:List Int} (hc:(ai a).2.2=0) {x:Int} (hx:isB (aa a).1 x=true):0<=ah (fun s:ax=>decide (s.1=x)) 0 (ai a).1/\(ai a).1.getD (ah (fun s:ax=>decide (s.1=x)) 0 (ai a).1).toNat (0,0,0,0,false)=(x,eN a x)/\gZ a x=(gy a (x,eN a x) (ai a).2.1,0):=by
 obtain ⟨_,_,e1,_,_,_,_⟩:=bJ hc;have hm:=(fU hx).1
 have hge:0<=ah (fun s:ax=>decide (s.1=x)) 0 (ai a).1:=by
  have h:=ei (fun s:ax=>decide (s.1=x)) (ai a).1 0 (by omega);rw [e1] at h |-;refine Pt (h.trans (Qt.2 ⟨_,hm,by simp⟩))
 have hlt:=eh (fun s:ax=>decide (s.1=x)) (0,0,0,0,false) (ai a).1 0 (by omega)
 have hg:(ai a).1.getD (ah (fun s:ax=>decide (s.1=x)) 0 (ai a).1).toNat (0,0,0,0,false)=(x,eN a x):=by
  have h1:=gX (fun s:ax=>decide (s.1=x)) (0,0,0,0,false) (ai a).1 0 hge (by omega);rw [Sb] at h1;have h2:=aH ((0,0,0,0,false):ax) hge (by omega:ah (fun s:ax=>decide (s.1=x)) 0 (ai a).1<((ai a).1.length:Int));rw [e1] at h1 h2 |-;exact xb (bz a) h2 hm (Pt h1)
 refine ⟨hge,hg,?_⟩;unfold gZ;rw [if_neg (by omega),if_neg (by omega),hg]
theorem MZ {a:List Int} {x j:Int} (hx:isB (aa a).1 x=true) (h0:0<=j) (hj:j<((aY a x).length:Int)):(aY a x).getD j.toNat 0=a.getD (x+1+j).toNat 0:=by
 obtain ⟨l1,l2,l3,l4,l5,l6⟩:=bS hx;have e:aY a x=(a.take (x+1+(eN a x).1).toNat).drop (x+1).toNat:=rfl;rw [e,List.getD_eq_getElem?_getD,List.getD_eq_getElem?_getD,List.getElem?_drop,List.getElem?_take,if_pos (by omega)];congr 2;omega
theorem vH {a:List Int} (hc:(ai a).2.2=0) {x:Int} (hx:isB (aa a).1 x=true):(gZ a x).1.2.1.length=(aY a x).length:=by
 obtain ⟨_,_,e⟩:=Gc hc hx;rw [e];unfold gy aY;simp
def Ml:Nat->Option LoopGen
 | 3000092=>some cU
 | 7=>some { rd:=[.dat 27 (.arr ty_I)],A:=fun (f:List Int)=>{ cs:=[.boxS 8 [.own 3 ty_I],.dat 29 ty_I],inv:=fun ((o,i):List Int×Int)=>0<=i/\i<=f.length/\o=(f.take i.toNat).foldl cY [],mu:=fun ((_,i):List Int×Int)=>(f.length - i).toNat } }
 | 12=>some { rd:=[.dat 0 (.arr bo),.dat 1 (.arr ty_I)],A:=fun ((a,f):List Int×List Int)=>{ cs:=[.boxS 8 [.own 3 ty_I],.dat 12 ty_I],inv:=fun ((o,i):List Int×Int)=>0<=i/\i<=o.length/\Came a f o/\gu a (257 - i.toNat) i.toNat o=fy a f,mu:=fun ((_,i):List Int×Int)=>(256 - i).toNat } }
 | 16=>some { rd:=[.dat 0 (.arr bo),.dat 1 (.arr ty_I),.boxS 8 [.own 3 ty_I],.dat 12 ty_I],A:=fun ((a,_,o0,i):List Int×List Int×List Int×Int)=>{ cs:=[.boxS 8 [.own 3 ty_I],.dat 55 ty_I],inv:=fun ((o,j):List Int×Int)=>0<=j/\j<=(aY a (o0.getD i.toNat 0)).length/\o=(fG ((aY a (o0.getD i.toNat 0)).take j.toNat)).foldl cY o0,mu:=fun ((_,j):List Int×Int)=>((aY a (o0.getD i.toNat 0)).length - j).toNat } }
 | _=>none
def Kv:Spec:={ Ts:=[.arr bo,.arr ty_I],Rs:=[.own 3 ty_I,.dat ty_I],pre:=fun _=>True,F:=fun ((a,f):List Int×List Int)=>((if au a f≠0 then [] else fy a f,au a f):List Int×Int) }
def Cu:Prop :=
  ∀ (x:List Int×List Int),((x.1.length * 8<=aF/\∀ (x_1:Int),x_1∈x.1->am .u64 x_1)/\x.2.length * 8<=aF/\∀ (x_1:Int),x_1∈x.2->am .i64 x_1)->True->True/\(decide ((bI x.1 x.2).2≠0)=true->(([]:List Int)=if au x.1 x.2≠0 then ([]:List Int) else fy x.1 x.2)/\(bI x.1 x.2).2=au x.1 x.2/\True)/\(decide ((bI x.1 x.2).2≠0)=false->((0:Int)<=0/\0<=(x.2.length:Int)/\([]:List Int)=List.foldl cY ([]:List Int) (List.take (Int.toNat 0) x.2))/\∀ (x_1:List Int×Int),0<=x_1.2/\x_1.2<=(x.2.length:Int)/\x_1.1=List.foldl cY ([]:List Int) (List.take x_1.2.toNat x.2)->(decide (x_1.2<(x.2.length:Int))=true->0<=x_1.2/\x_1.2<(x.2.length:Int)/\∀ (_:Array Value),True/\((!cu x_1.1 (x.2.getD x_1.2.toNat 0))=true->(x_1.1.length+[x.2.getD x_1.2.toNat 0].length) * 8<=aF/\am .i64 (x_1.2+1)/\(0<=x_1.2+1/\x_1.2+1<=(x.2.length:Int)/\x_1.1++[x.2.getD x_1.2.toNat 0]=List.foldl cY ([]:List Int) (List.take (x_1.2+1).toNat x.2))/\((x.2.length:Int) - (x_1.2+1)).toNat<((x.2.length:Int) - x_1.2).toNat)/\((!cu x_1.1 (x.2.getD x_1.2.toNat 0))=false->am .i64 (x_1.2+1)/\(0<=x_1.2+1/\x_1.2+1<=(x.2.length:Int)/\x_1.1=List.foldl cY ([]:List Int) (List.take (x_1.2+1).toNat x.2))/\((x.2.length:Int) - (x_1.2+1)).toNat<((x.2.length:Int) - x_1.2).toNat))/\(decide (x_1.2<(x.2.length:Int))=false->((0:Int)<=0/\0<=(x_1.1.length:Int)/\Came x.1 x.2 x_1.1/\gu x.1 (257 - Int.toNat 0) (Int.toNat 0) x_1.1=fy x.1 x.2)/\∀ (x_2:List Int×Int),(fun (v0:type_of% (aY x.1 (x_2.1.getD x_2.2.toNat 0)))=>0<=x_2.2/\x_2.2<=(x_2.1.length:Int)/\Came x.1 x.2 x_2.1/\gu x.1 (257 - x_2.2.toNat) x_2.2.toNat x_2.1=fy x.1 x.2->(decide (x_2.2<(x_2.1.length:Int))=true->0<=x_2.2/\x_2.2<(x_2.1.length:Int)/\x_2.2.toNat<x_2.1.length/\True/\((0:Int)<=0/\0<=(v0.length:Int)/\x_2.1=List.foldl cY x_2.1 (fG (List.take (Int.toNat 0) v0)))/\∀ (x_3:List Int×Int),(fun (v1:type_of% (x_3.1.getD x_2.2.toNat 0+1+x_3.2))=>0<=x_3.2/\x_3.2<=(v0.length:Int)/\x_3.1=List.foldl cY x_2.1 (fG (List.take x_3.2.toNat v0))->(decide (x_3.2<(↑(gZ x.1 (x_2.1.getD x_2.2.toNat 0)).1.2.1.length:Int))=true->0<=x_2.2/\x_2.2<(x_3.1.length:Int)/\x_2.2.toNat<x_3.1.length/\am .i64 (x_3.1.getD x_2.2.toNat 0+1)/\am .i64 v1/\0<=x_3.1.getD x_2.2.toNat 0+1+x_3.2/\x_3.1.getD x_2.2.toNat 0+1+x_3.2<(x.1.length:Int)/\(decide (x.1.getD v1.toNat (0:Int)≠0)=true->am .i64 (IntKind.i64.wrap (x.1.getD v1.toNat 0) - 1)/\∀ (_:Array Value),True/\((!cu x_3.1 (IntKind.i64.wrap (x.1.getD v1.toNat 0) - 1))=true->(x_3.1.length+[IntKind.i64.wrap (x.1.getD v1.toNat 0) - 1].length) * 8<=aF/\am .i64 (x_3.2+1)/\(0<=x_3.2+1/\x_3.2+1<=(v0.length:Int)/\x_3.1++[IntKind.i64.wrap (x.1.getD v1.toNat 0) - 1]=List.foldl cY x_2.1 (fG (List.take (x_3.2+1).toNat v0)))/\((v0.length:Int) - (x_3.2+1)).toNat<((v0.length:Int) - x_3.2).toNat)/\((!cu x_3.1 (IntKind.i64.wrap (x.1.getD v1.toNat 0) - 1))=false->am .i64 (x_3.2+1)/\(0<=x_3.2+1/\x_3.2+1<=(v0.length:Int)/\x_3.1=List.foldl cY x_2.1 (fG (List.take (x_3.2+1).toNat v0)))/\((v0.length:Int) - (x_3.2+1)).toNat<((v0.length:Int) - x_3.2).toNat))/\(decide (x.1.getD v1.toNat (0:Int)≠0)=false->am .i64 (x_3.2+1)/\(0<=x_3.2+1/\x_3.2+1<=(v0.length:Int)/\x_3.1=List.foldl cY x_2.1 (fG (List.take (x_3.2+1).toNat v0)))/\((v0.length:Int) - (x_3.2+1)).toNat<((v0.length:Int) - x_3.2).toNat))/\(decide (x_3.2<(↑(gZ x.1 (x_2.1.getD x_2.2.toNat 0)).1.2.1.length:Int))=false->am .i64 (x_2.2+1)/\(0<=x_2.2+1/\x_2.2+1<=(x_3.1.length:Int)/\Came x.1 x.2 x_3.1/\gu x.1 (257 - (x_2.2+1).toNat) (x_2.2+1).toNat x_3.1=fy x.1 x.2)/\(256 - (x_2.2+1)).toNat<(256 - x_2.2).toNat)) (x_3.1.getD x_2.2.toNat 0+1+x_3.2))/\(decide (x_2.2<(x_2.1.length:Int))=false->(x_2.1=if au x.1 x.2≠0 then ([]:List Int) else fy x.1 x.2)/\0=au x.1 x.2/\True)) (aY x.1 (x_2.1.getD x_2.2.toNat 0))))
theorem HL:Cu:=by
 unfold Cu;intro ⟨a,f⟩ ⟨⟨hb,hw⟩,hbf,hf⟩ _;unfold aF at hb hbf;simp only at hb hw hbf hf |-
 have hre:(bI a f).2=au a f:=by
  unfold bI;split
  ·rfl
  ·rename_i h; simp only; omega
 rw [hre];refine ⟨trivial,fun h=>?_,fun h=>?_⟩
 ·have h:=Pt h;rw [if_pos h];exact ⟨rfl,rfl,trivial⟩
 have h:au a f=0:=by simpa using Pu h
 obtain ⟨hc,hfb⟩:=bW h;have e0:(if au a f≠0 then ([]:List Int) else fy a f)=fy a f:=if_neg (by omega);rw [e0,h];refine ⟨⟨by omega,by omega,by simp⟩,fun ⟨o,i⟩ ⟨i0,i1,i2⟩=>⟨fun hlt=>?_,fun hge=>?_⟩⟩
 ·simp only at i0 i1 i2 hlt |-;have hlt:=Pt hlt;have ht:=a7 (0:Int) i0 hlt;have hcm:Came a f o:=by rw [i2]; exact Came.first fun x hx=>QF hx
  have hol:=hcm.length hw hc hfb;have hs:(f.take (i+1).toNat).foldl cY []=cY o (f.getD i.toNat 0):=by rw [ht,vw,<- i2]
  rw [hs];generalize f.getD i.toNat 0=x at *;unfold aF cY;simp only [am,Qo];refine ⟨i0,hlt,fun _=>⟨trivial,fun hn=>?_,fun hn=>?_⟩⟩
  ·have hn:¬ cu o x=true:=by simpa using hn
   rw [if_neg hn];exact ⟨by omega,by omega,⟨by omega,by omega,rfl⟩,by omega⟩
  ·have hn:cu o x=true:=by simpa using hn
   rw [if_pos hn];exact ⟨by omega,⟨by omega,by omega,rfl⟩,by omega⟩
 simp only at i0 i1 i2 hge |-;rw [bE (Pu hge)] at i2;have hcm:Came a f o:=by rw [i2]; exact Came.first fun x hx=>hx
 refine ⟨⟨by omega,by omega,hcm,by rw [i2]; rfl⟩,fun ⟨o2,k⟩ ⟨k0,k1,k2,k3⟩=>⟨fun hlt=>?_,fun hge2=>?_⟩⟩
 ·clear i0 i1 i2 hge hcm;simp only at k0 k1 k2 k3 hlt |-;have hlt:=Pt hlt;have hm:=aH (0:Int) k0 hlt;have hol:=k2.length hw hc hfb;have hib:=(k2.only _ hm).isB hw hc hfb;have hln:=vH hc hib
  have hstep:gu a (257 - k.toNat) k.toNat o2=gu a (257 - (k+1).toNat) (k+1).toNat ((fG (aY a (o2.getD k.toNat 0))).foldl cY o2):=by
   rw [show 257 - k.toNat=(257 - (k+1).toNat)+1 by omega,show (k+1).toNat=k.toNat+1 by omega];exact F9 (by omega)
  rw [hstep] at k3
  have hget:∀ l:List Int,(l.foldl cY o2).getD k.toNat 0=o2.getD k.toNat 0/\o2.length<=(l.foldl cY o2).length:=fun l=>by
   obtain ⟨kk,e,_⟩:=iF l o2;rw [e];exact ⟨by rw [List.getD_eq_getElem?_getD,List.getElem?_append_left (by omega),<- List.getD_eq_getElem?_getD],by simp⟩
  obtain ⟨l1,l2,l3,l4,l5,l6⟩:=bS hib;have hal:=(pP hib).2.2.2.2;have hrf:=jM hw hc _ (fU hib).1;have hrs:bc a (o2.getD k.toNat 0,eN a (o2.getD k.toNat 0))=aY a (o2.getD k.toNat 0):=rfl;have hcms:=fun l hl=>k2.comes hm l hl
  have hrg:=fun j h0 hj=>MZ (j:=j) hib h0 hj
  rw [hln];clear hstep hln;generalize o2.getD k.toNat 0=x at *;rw [hrs] at hrf;refine ⟨k0,hlt,by omega,trivial,⟨by omega,by omega,by simp [fG]⟩,fun ⟨o3,j⟩ ⟨j0,j1,j2⟩=>⟨fun hj=>?_,fun hj=>?_⟩⟩
  ·simp only at j0 j1 j2 hj |-;have hj:=Pt hj;have ht:=a7 (0:Int) j0 hj;have hv:=aH (0:Int) j0 hj;have hgo:=hget (fG ((aY a x).take j.toNat));have hcm3:=hcms ((aY a x).take j.toNat) (fun v hv=>QF hv);rw [<- j2] at hgo hcm3;have hol3:=hcm3.length hw hc hfb;have hrj:=hrg j j0 hj;rw [hgo.1,<- hrj,ht,Fg];have hvr:=hrf _ hv;generalize (aY a x).getD j.toNat 0=v at *;have hwr:IntKind.i64.wrap v=v:=by rcases hvr with e | ⟨h1,h2,_⟩ <;> exact jF (by omega) (by omega)
   rw [hwr];unfold aF;simp only [am,Qo];refine ⟨k0,by omega,by omega,by omega,by omega,by omega,by omega,fun hn=>?_,fun hn=>?_⟩
   ·have hn:=Pt hn;rw [if_neg hn,vw,<- j2];unfold cY;refine ⟨by omega,fun _=>⟨trivial,fun hi=>?_,fun hi=>?_⟩⟩
    ·have hi:¬ cu o3 (v - 1)=true:=by simpa using hi
     rw [if_neg hi];exact ⟨by omega,by omega,⟨by omega,by omega,rfl⟩,by omega⟩
    ·have hi:cu o3 (v - 1)=true:=by simpa using hi
     rw [if_pos hi];exact ⟨by omega,⟨by omega,by omega,rfl⟩,by omega⟩
   ·have hn:v=0:=by simpa using Pu hn
    rw [if_pos hn];exact ⟨by omega,⟨by omega,by omega,j2⟩,by omega⟩
  ·simp only at j0 j1 j2 hj |-;rw [bE (Pu hj)] at j2;have hgo:=hget (fG (aY a x));have hcm3:=hcms (aY a x) (fun v hv=>hv);rw [<- j2] at hgo hcm3 k3;simp only [am];exact ⟨by omega,⟨by omega,by omega,hcm3,k3⟩,by omega⟩
 ·simp only at k0 k1 k2 k3 hge2 |-;rw [JA (by have:=Pu hge2; omega)] at k3;exact ⟨k3,trivial,trivial⟩
theorem K4:Kv.ok Tryz.prog 30:=aA (ann:=Ml) (ac px (ac lj (ac lG ap))) Tryz.func30 (by kernel_rfl) HL
end
section
open Go Go.RowKit Go.Lib
theorem nh {P:Program} (w:World) (dT sT ty elem:TypeId) (K g o n dLen dCap:Nat) (a:Addr) (sLen sCap:Nat) (cur:Array Value) (t:TypeId) (cs:List Value)
  (hu:P.underlying dT=some (.slice elem)) (hs:(P.info? elem).map (·.size)=some K) (hg:w.heap[g]?=some (.cells cur t (0,0))) (hn:n=Nat.min sLen dLen) (hl:cs.length=n * K)
  (hsrc:∀ j v,cs[j]?=some v->w.cell? (a.add j)=some v) (hfit:o+n * K<=cur.size) (h1:∀ v∈cs,v.oneCell'=true) :
  (Builtin.copy_ #[dT,sT] ty #[.slice (some ⟨g,o,none⟩) dLen dCap,.slice (some a) sLen sCap]).run P w =
   .ok (goInt (n:Nat)) (w.setRow g (cur.toList.take o++cs++cur.toList.drop (o+n * K)).toArray):=by
 have hl':=run_loadCells_list (P:=P) w a cs hsrc;have hst:=run_storeCells_at P g o t cs 0 cur w hg (by omega) h1;rw [hl] at hl';rw [hl] at hst;cases hq:P.info? elem with
 | none=>simp [hq] at hs
 | some i =>
  have hi:i.size=K:=by simpa [hq] using hs
  simp [Builtin.copy_,PS hu,Builtin.lenOf,Builtin.firstCells,sizeOf,typeInfo,hq,hi,<- hn,hl',hst]
theorem HZ (cur l l2:List Value) {a b c:Nat} (h:cur.take c=l) (ha:a<=c) (hfit:c+b<=cur.length) (h2:l2.length=b) {c1:List Value} (h1:c1=cur.take (a+b)++l.drop a++cur.drop (a+b+(c - a))) :
  c1.length=cur.length/\(c1.take a++l2++c1.drop (a+b)).length=cur.length/\(c1.take a++l2++c1.drop (a+b)).take (c+b)=l.take a++l2++l.drop a:=by
 have hl:l.length=c:=by rw [<- h]; simp; omega
 have e1:(cur.take (a+b)).length=a+b:=by simp; omega
 have e2:c1.length=cur.length:=by rw [h1]; simp; omega
 have e3:c1.take a=l.take a:=by
  rw [h1,PT,PQ (by omega),QQ,QP (by omega),<- h,QQ,QP ha]
 have e4:c1.drop (a+b)=l.drop a++cur.drop (a+b+(c - a)):=by
  rw [h1,PT,R5 (by omega),P7 (by omega),P0]
 refine ⟨e2,?_,?_⟩
 ·rw [e3,e4]; simp; omega
 ·rw [e3,e4,<- PT,PQ (by simp; omega),PJ (by simp; omega)]
theorem EI (l l2 z:List Value) {a b c G:Nat} (hl:l.length=c) (ha:a<=c) (h2:l2.length=b) (hz:a+z.length=G) (hG:c+b<=G) {c0 c1:List Value} (h0:c0=l.take a++z)
  (h1:c1=c0.take a++l2++c0.drop (a+b)) :
  c0.length=G/\c1.length=G/\(c1.take (a+b)++l.drop a++c1.drop (a+b+(c - a))).length=G/\(c1.take (a+b)++l.drop a++c1.drop (a+b+(c - a))).take (c+b)=l.take a++l2++l.drop a:=by
 have e0:c0.length=G:=by rw [h0]; simp; omega
 have e1:c0.take a=l.take a:=by rw [h0,PQ (by simp; omega),QQ,Nat.min_self]
 have e2:c1.length=G:=by rw [h1]; simp; omega
 have e3:c1.take (a+b)=l.take a++l2:=by
  rw [h1,e1,PQ (by simp; omega),PJ (by simp; omega)]
 refine ⟨e0,e2,by rw [e3]; simp; omega,?_⟩;rw [e3,PQ (by simp; omega),PJ (by simp; omega)]
theorem gw {P:Program} {ops:Array Oper} {o:Oper} {a:Act} {w:World} {K:Act->World->Prop} {Q:Exit->Act->World->Prop} {E:Prop}
  (hg:o.guard=none) (d x:Operand) (t tn:TypeId) (hop:o.op=Op.call { callee:=Callee.builtin Builtin.append,args:=#[d,x],argTypes:=#[t,tn] })
  (v u:Value) (hd:a.eval d=v) (hx:a.eval x=u) {v':Value} {w':World} (hr:(Builtin.append_ #[t,tn] o.type #[v,u]).run P w=.ok v' w') (hK:K (a.put o.dst v') w') :
  if Region.wanted o (yielded ops a.tmps)=true then Oper.wp P o a w K Q else E:=by
 have hw:Region.wanted o (yielded ops a.tmps)=true:=by simp [Region.wanted,hg]
 rw [if_pos hw];exact Lib.wp_append_run w d x t tn hop v u hd hx v' w' hr hK
def z7 {α:Type} (xs ys:List α) (i:Int):List α:=xs.take i.toNat++ys++xs.drop i.toNat
def g7 {α:Type} (xs:List α) (i j:Int):List α:=xs.take i.toNat++xs.drop j.toNat
theorem fX (w:World) {g:Nat} (cs:Array Value) {cur:Array Value} {t:TypeId} (h:w.heap[g]?=some (.cells cur t (0,0))):w.grownBy (w.setRow g cs) (some g):=by
 obtain ⟨_,h2,h3,h4,h5,h6⟩:=cd w g cs h;exact ⟨h2,h3,h4,by omega,fun k _ hk=>h6 k (fun e=>hk (by rw [e]))⟩
theorem kz (w:World) (row:Option Nat):w.grownBy w.drew row:=⟨rfl,rfl,rfl,PP _,fun _ _ _=>rfl⟩
theorem Ad (w:World) (o:Go.Obj) (row:Option Nat):w.grownBy (w.alloc o) row:=⟨rfl,rfl,rfl,by simp,fun k hk _=>heap_alloc_old w o hk⟩
theorem uR {w w1 w2:World} {N:Nat} {row:Option Nat} (h:w.grownBy w1 row) (k:w1.grownBy w2 (some N)) (hN:w.heap.size<=N):w.grownBy w2 row :=
 ⟨k.os.trans h.os,k.tape.trans h.tape,k.output.trans h.output,P9 h.size k.size,fun i hi hne=>(k.block i (Qz hi h.size) (fun e=>by injection e; omega)).trans (h.block i hi hne)⟩
def DX (P:Program) (F:FuncId) (S:TypeId) (Z:Nat):Prop :=
 ∀ (w W1 W2:World) (g n c i vb m vc:Nat) (tA tB:TypeId) (kA kB:Nat),i<n->0<m->n+m<=c->c<=9223372036854775807->vb≠g ->
  w.shape? vb=some (tA,kA)->w.shape? g=some (tB,kB)->kB≠0->w.frozen? ⟨vb,0,none⟩=false->w.frozen? ⟨vb,kA,none⟩=false ->
  (∀ ty (d1 d2 d3 d4:Nat),d1=n - i->d2=n+m - i->(Builtin.copy_ #[S,S] ty #[.slice (some ⟨g,(i+m) * Z,none⟩) d1 d3,.slice (some ⟨g,i * Z,none⟩) d2 d4]).run P w.drew=.ok (goInt (n - i:Nat)) W1) ->
  (∀ ty (d1 d3:Nat),d1=n+m - i->(Builtin.copy_ #[S,S] ty #[.slice (some ⟨g,i * Z,none⟩) d1 d3,.slice (some ⟨vb,0,none⟩) m vc]).run P W1=.ok (goInt (m:Nat)) W2) ->
  Calls P F #[.slice (some ⟨g,0,none⟩) n c,.int .i64 i,.slice (some ⟨vb,0,none⟩) m vc] w fun e w'=>e=.returned (.slice (some ⟨g,0,none⟩) (n+m) c)/\w'=W2
def Ht (P:Program) (F:FuncId) (S I:TypeId) (Z:Nat):Prop :=
 ∀ (w W0 W1 W2:World) (g N n c i vb m vc G:Nat),i<n->0<m->n<=c->c<n+m->n+m<=G->n+m<=9223372036854775807->G<=9223372036854775807 ->
  (∀ ty,(Builtin.append_ #[S,I] ty #[.slice (some ⟨g,0,none⟩) i c,.int .i64 ((n:Int)+(m:Int) - (i:Int))]).run P w=.ok (.slice (some ⟨N,0,none⟩) (n+m) G) W0) ->
  (∀ ty (d1 d3:Nat),d1=n+m - i->(Builtin.copy_ #[S,S] ty #[.slice (some ⟨N,i * Z,none⟩) d1 d3,.slice (some ⟨vb,0,none⟩) m vc]).run P W0=.ok (goInt (m:Nat)) W1) ->
  (∀ ty (d1 d2 d3 d4:Nat),d1=n - i->d2=n - i->(Builtin.copy_ #[S,S] ty #[.slice (some ⟨N,(i+m) * Z,none⟩) d1 d3,.slice (some ⟨g,i * Z,none⟩) d2 d4]).run P W1.drew=.ok (goInt (n - i:Nat)) W2) ->
  Calls P F #[.slice (some ⟨g,0,none⟩) n c,.int .i64 i,.slice (some ⟨vb,0,none⟩) m vc] w fun e w'=>e=.returned (.slice (some ⟨N,0,none⟩) (n+m) G)/\w'=W2
def Mu (P:Program) (F:FuncId) (S:TypeId):Prop :=
 ∀ (w W:World) (A:Option Addr) (n c vb m vc:Nat) (v':Value),0<m->n<=c->(A=none->n=0/\c=0)->(∀ a,A=some a->a.off=0/\a.spot=none) ->
  (Builtin.append_ #[S,S] S #[.slice A n c,.slice (some ⟨vb,0,none⟩) m vc]).run P w=.ok v' W ->
  Calls P F #[.slice A n c,.int .i64 n,.slice (some ⟨vb,0,none⟩) m vc] w fun e w'=>e=.returned v'/\w'=W
def gx (E:TypeId) (T:Ty):RowFn:={ e:=E,T:=T,Ts:=[ty_I],out:=true,tail:=true,pre:=fun (xs ys:List T.den) (i:Int)=>0<ys.length/\0<=i/\i<=xs.length/\(xs.length+ys.length) * T.bytes<=aF,F:=fun (xs ys:List T.den) (i:Int)=>z7 xs ys i }
theorem Nh {P:Program} {T:Ty} {F:FuncId} {S E I:TypeId} (hS:P.underlying S=some (.slice E)) (hI:P.underlying I=some (.int .i64)) (hf:fm P E T=true)
  (shift:DX P F S T.size) (grow:Ht P F S I T.size) (end_:Mu P F S):(gx E T).ok P F:=by
 intro p w v (xs:List T.den) l v2 (ys:List T.den) l2 vs (i:Int) _ _ hA hown hl hbig hp hown2 hl2 hne hargs hpre;obtain ⟨hm,hi0,hi1,hb⟩:0<ys.length/\0<=i/\i<=xs.length/\(xs.length+ys.length) * T.bytes<=aF:=hpre;obtain ⟨v1,rfl,hv1⟩:=hargs;have hv1:[v1]=[Value.int .i64 i]/\am .i64 i:=hv1;obtain ⟨hv1,_⟩:=hv1;injection hv1 with hv1
 subst hv1;obtain ⟨k,rfl⟩:∃ k:Nat,i=k:=⟨i.toNat,by omega⟩;have hk:k<=xs.length:=by omega
 have hown:w.ownsRow 0 E T.size v xs.length l:=hown;have hown2:w.ownsRow 0 E T.size v2 ys.length l2:=hown2;have hl:aM (T.holds p) xs l:=hl;have hl2:aM (T.holds p) ys l2:=hl2;have hbig:xs.length * T.bytes<=aF:=hbig;obtain ⟨inf,z,hinf,hsz,hby,hz,hzs⟩:=dB hf;have hlen:l.length=xs.length * T.size:=hown.1;have hlen2:l2.length=ys.length * T.size:=hown2.1;have h1l:∀ u∈l,u.oneCell'=true:=fD (fun x cs h=>dA T x cs h) xs l hl;have h1l2:∀ u∈l2,u.oneCell'=true:=fD (fun x cs h=>dA T x cs h) ys l2 hl2;have hszE:(P.info? E).map (·.size)=some T.size:=by rw [hinf]; simp [hsz]
 have hpos:=Ty.size_pos T;have eF:((gx E T).F xs ys (k:Int):List T.den)=xs.take k++ys++xs.drop k:=by show z7 xs ys k=_; simp [z7]
 have hFl:(xs.take k++ys++xs.drop k).length=xs.length+ys.length:=by simp; omega
 have hrow:aM (T.holds p) (xs.take k++ys++xs.drop k) (l.take (k * T.size)++l2++l.drop (k * T.size)) :=
  cB _ _ _ _ (cB _ _ _ _ (dw (fun x cs h=>Ty.holds_length T x cs h) k xs l hl) hl2) (eZ (fun x cs h=>Ty.holds_length T x cs h) k xs l hl)
 have hb8:(xs.take k++ys++xs.drop k).length * T.bytes<=aF:=by rw [hFl]; exact hb
 have hb8e:=fp T
 have h63:xs.length+ys.length<=maxLen:=by
  have h2:(xs.length+ys.length) * 8<=(xs.length+ys.length) * T.bytes:=Qu _ hb8e;simp only [aF,maxLen] at *;omega
 have done:∀ (v':Value) (w':World) (e:Ending),e=.returned v'->w.grownBy w' v.ownBlock->w'.ownsRow 0 E T.size v' (xs.length+ys.length) (l.take (k * T.size)++l2++l.drop (k * T.size))->(∀ b,v'.ownBlock=some b->v.ownBlock=some b\/w.heap.size<=b) ->
   ∃ (v':Value) (l':List Value),e=.returned (if (gx E T).out then v' else .tuple #[])/\((gx E T).out=false->v'=v)/\w.grownBy w' v.ownBlock /\
   w'.ownsRow 0 (gx E T).e (gx E T).T.size v' ((gx E T).F xs ys (k:Int):List T.den).length l'/\aM ((gx E T).T.holds p) ((gx E T).F xs ys (k:Int)) l'/\((gx E T).F xs ys (k:Int):List T.den).length * (gx E T).T.bytes<=aF /\
   ∀ b,v'.ownBlock=some b->v.ownBlock=some b\/w.heap.size<=b:=by
  intro v' w' e he hg ho hbk;rw [eF];refine ⟨v',_,he,fun h=>(by cases h),hg,?_,hrow,hb8,hbk⟩;show w'.ownsRow 0 E T.size v' (xs.take k++ys++xs.drop k).length _;rw [hFl];exact ho
 rcases hown2.2 with ⟨_,h0⟩ | ⟨g2,cap2,cur2,rfl,_,hb2,h21,h22,h23,h24⟩
 ·omega
 have hvs:∀ (j:Nat) (u:Value),l2[j]?=some u->w.cell? ⟨g2,0+j,none⟩=some u:=by
  intro j u hj
  have:cur2.toList[j]?=some u:=by
   rw [<- h24,List.getElem?_take] at hj;split at hj
   ·exact hj
   ·cases hj
  simp only [World.cell?,hb2,Qg];simpa using this
 show Calls P F #[v,.int .i64 k,.slice (some ⟨g2,0,none⟩) ys.length cap2] w _;by_cases hkn:k=xs.length
 ·
  obtain ⟨v',w',r1,r2,r3,r4⟩:=lW (ty:=S) hS hf hown hl2 (A:=some ⟨g2,0,none⟩) (c:=cap2) (fun _=>⟨g2,0,rfl,hvs⟩) hb
  have el:l.take (k * T.size)++l2++l.drop (k * T.size)=l++l2:=by
   rw [hkn,PJ (by omega),P7 (by omega),Qi]
  have main:∀ (A:Option Addr) (n c:Nat),v=.slice A n c->xs.length=n->n<=c->(A=none->n=0/\c=0)->(∀ a,A=some a->a.off=0/\a.spot=none) ->
    Calls P F #[v,.int .i64 (xs.length:Int),.slice (some ⟨g2,0,none⟩) ys.length cap2] w fun e W=>e=.returned v'/\W=w':=by
   intro A n c hv hn h1 h2 h3;have h:=end_ w w' A n c g2 ys.length cap2 v' hm h1 h2 h3 (by rw [<- hv]; exact r1);rw [<- hv,<- hn] at h;exact h
  have hcall:Calls P F #[v,.int .i64 (xs.length:Int),.slice (some ⟨g2,0,none⟩) ys.length cap2] w fun e W=>e=.returned v'/\W=w':=by
   rcases hown.2 with ⟨hv,h0⟩ | ⟨g,cap,cur,hv,_,hbg,h1,h2,h3,h4⟩
   ·exact main none 0 0 hv h0 (PP _) (fun _=>⟨rfl,rfl⟩) (fun a h=>by cases h)
   ·exact main (some ⟨g,0,none⟩) xs.length cap hv rfl h1 (fun h=>by cases h) (fun a h=>by injection h with h; subst h; exact ⟨rfl,rfl⟩)
  subst hkn;refine hcall.mono fun e W h=>?_
  obtain ⟨rfl,rfl⟩:=h
  exact done v' _ _ rfl r3 (by rw [el]; exact r2) (fun b hb'=>by
   rcases r4 with r4 | r4
   ·exact .inl (by rw [<- r4]; exact hb')
   ·rw [r4] at hb';injection hb' with hb'
    exact .inr (by omega))
 have hkl:k<xs.length:=by omega
 rcases hown.2 with ⟨_,h0⟩ | ⟨g,cap,cur,rfl,_,hbg,h1,h2,h3,h4⟩
 ·omega
 have hgs:g<w.heap.size:=(Array.getElem?_eq_some_iff.1 hbg).1;have hvb:g2≠g:=fun e=>hne g rfl (by rw [e]; rfl)
 have hcap:cap<=9223372036854775807:=by unfold maxLen at h2; omega
 have hkz:(k+ys.length) * T.size=k * T.size+ys.length * T.size:=Ry _ _ _;have hnz:(xs.length+ys.length) * T.size=xs.length * T.size+ys.length * T.size:=Ry _ _ _;have hkn':k * T.size<=xs.length * T.size:=P8 _ hk;have hdz:(xs.length - k) * T.size=xs.length * T.size - k * T.size:=Nat.sub_mul _ _ _;have hdrop:((l.drop (k * T.size)).length)=(xs.length - k) * T.size:=by rw [PW,hlen,hdz]
 have hlc:cur.toList.length=cap * T.size:=by simpa using h3
 have hsrc:∀ (j:Nat) (u:Value),(l.drop (k * T.size))[j]?=some u->w.cell? ⟨g,k * T.size+j,none⟩=some u:=by
  intro j u hj;rw [List.getElem?_drop] at hj
  have:cur.toList[k * T.size+j]?=some u:=by
   rw [<- h4,List.getElem?_take] at hj;split at hj
   ·exact hj
   ·cases hj
  simp only [World.cell?,hbg];simpa using this
 by_cases hroom:xs.length+ys.length<=cap
 ·
  have hfit:xs.length * T.size+ys.length * T.size<=cur.toList.length:=by
   rw [hlc,<- hnz];exact P8 _ hroom
  have hkB:cur.size≠0:=by
   have:0<xs.length * T.size:=Nat.mul_pos (by omega) hpos;have:cur.toList.length=cur.size:=by simp
   omega
  have hgd:w.drew.heap[g]?=some (.cells cur E (0,0)):=hbg
  have hcp1:=fun ty (d1 d2 d3 d4:Nat) (e1:d1=xs.length - k) (e2:d2=xs.length+ys.length - k)=>nh (P:=P) w.drew S S ty E T.size g ((k+ys.length) * T.size) (xs.length - k) d1 d3 ⟨g,k * T.size,none⟩ d2 d4 cur E (l.drop (k * T.size)) hS hszE hgd
   (by rw [e1,e2]; simp only [Nat.min_def]; split <;> omega) hdrop (fun j u hj=>by rw [RX]; exact hsrc j u hj) (by
    have:cur.toList.length=cur.size:=by simp
    rw [hkz,hdz]; omega) (fun u hu=>h1l u (QB hu))
  obtain ⟨C1,hC1⟩:∃ C1:List Value,C1=cur.toList.take ((k+ys.length) * T.size)++l.drop (k * T.size)++cur.toList.drop ((k+ys.length) * T.size+(xs.length - k) * T.size):=⟨_,rfl⟩;rw [<- hC1] at hcp1;obtain ⟨s1,s2,s3⟩:=HZ cur.toList l l2 (a:=k * T.size) (b:=ys.length * T.size) (c:=xs.length * T.size) h4 hkn' hfit hlen2 (c1:=C1) (by rw [hC1,hkz,hdz]);have hg1:(w.drew.setRow g C1.toArray).heap[g]?=some (.cells C1.toArray E (0,0)):=(cd w.drew g C1.toArray hgd).1;have ho1:∀ b,b≠g->(w.drew.setRow g C1.toArray).heap[b]?=w.heap[b]?:=(cd w.drew g C1.toArray hgd).2.2.2.2.2
  have hcp2:=fun ty (d1 d3:Nat) (e1:d1=xs.length+ys.length - k)=>nh (P:=P) (w.drew.setRow g C1.toArray) S S ty E T.size g (k * T.size) ys.length d1 d3 ⟨g2,0,none⟩ ys.length cap2 C1.toArray E l2 hS hszE hg1
   (by rw [e1]; simp only [Nat.min_def]; split <;> omega) hlen2 (fun j u hj=>by
    rw [RX];have:=hvs j u hj;simp only [World.cell?,ho1 g2 hvb] at this |-;exact this) (by simp only [Qx,s1]; omega) h1l2
  refine (shift w _ _ g xs.length cap k g2 ys.length cap2 E E cur2.size cur.size hkl hm hroom hcap hvb (by simp [World.shape?,hb2]) (by simp [World.shape?,hbg]) hkB (by simp [World.frozen?,hb2]) (by simp [World.frozen?,hb2]) hcp1 hcp2).mono ?_;rintro e w' ⟨rfl,rfl⟩;have hg2:=(cd (w.drew.setRow g C1.toArray) g ((C1.take (k * T.size)++l2++C1.drop (k * T.size+ys.length * T.size)).toArray) hg1).1;simp only at hg2 |-;refine done _ _ _ rfl (((kz w _).trans (fX w.drew _ hgd)).trans (fX _ _ hg1)) ⟨?_,.inr ⟨g,cap,_,rfl,Qa _,hg2,hroom,h2,?_,?_⟩⟩ (fun b h=>.inl h)
  ·simp only [PC,PM,PW,hlen,hlen2,hnz];omega
  ·rw [Qx,s2,hlc]
  ·rw [List.toList_toArray,hnz,s3]
 ·
  have hroom:cap<xs.length+ys.length:=by omega
  have grow0:=grownCap_ge w (xs.length+ys.length) cap E;have growM:=Sd w (xs.length+ys.length) cap E h63;have hbi:(xs.length+ys.length) * inf.bytes<=140737488355328:=P9 (Qu _ hby) hb;have hkk:(xs.length:Int)+(ys.length:Int) - (k:Int)=((xs.length+ys.length - k:Nat):Int):=by omega
  have hik:k+(xs.length+ys.length - k)=xs.length+ys.length:=by omega
  have hold:(Builtin.firstCells inf.size k (.slice (some ⟨g,0,none⟩) k cap)).run P w.drew=.ok (l.take (k * T.size)).toArray w.drew:=by
   rw [hsz];refine run_firstCells_some w.drew T.size k ⟨g,0,none⟩ k cap (l.take (k * T.size)) (by rw [PM,hlen]; omega) (fun j u hj=>?_);rw [RX];rw [List.getElem?_take] at hj;split at hj
   ·have:cur.toList[j]?=some u:=by
     rw [<- h4,List.getElem?_take] at hj;split at hj
     ·exact hj
     ·cases hj
    show w.cell? _=_;simp only [World.cell?,hbg,Qg];simpa using this
   ·cases hj
  have hap:∀ ty,(Builtin.append_ #[S,I] ty #[.slice (some ⟨g,0,none⟩) k cap,.int .i64 ((xs.length:Int)+(ys.length:Int) - (k:Int))]).run P w=.ok (.slice (some ⟨w.heap.size,0,none⟩) (xs.length+ys.length) (grownCap w (xs.length+ys.length) cap E)) (w.drew.alloc (.cells ((l.take (k * T.size)).toArray++Builtin.zeroCells z.cells (xs.length+ys.length - k)++Builtin.zeroCells z.cells (grownCap w (xs.length+ys.length) cap E - (xs.length+ys.length))) E)):=fun ty=>by
   have h:=Lib.run_append_grow_zeros (P:=P) w S I ty E inf z .i64 .i64 hS hI hinf hz (some ⟨g,0,none⟩) k cap (l.take (k * T.size)) hold (xs.length+ys.length - k) (by omega) (by omega) (by omega)
    (by rw [hik]; unfold maxLen at h63; omega) (by
     have:(xs.length+ys.length - k) * inf.bytes<=(xs.length+ys.length) * inf.bytes:=P8 _ (by omega);omega) (by rw [hik]; exact growslice_fits hroom hbi)
   rw [hik] at h;rw [hkk];exact h
  obtain ⟨G,hG⟩:∃ G,G=grownCap w (xs.length+ys.length) cap E:=⟨_,rfl⟩;rw [<- hG] at hap grow0 growM;obtain ⟨ROW,hROW⟩:∃ ROW:Array Value,ROW=(l.take (k * T.size)).toArray++Builtin.zeroCells z.cells (xs.length+ys.length - k)++Builtin.zeroCells z.cells (G - (xs.length+ys.length)):=⟨_,rfl⟩;rw [<- hROW] at hap;have hGz:(xs.length+ys.length) * T.size<=G * T.size:=P8 _ grow0;have hRl:ROW.toList=l.take (k * T.size)++((Builtin.zeroCells z.cells (xs.length+ys.length - k)).toList++(Builtin.zeroCells z.cells (G - (xs.length+ys.length))).toList):=by rw [hROW]; simp
  have hzl:((Builtin.zeroCells z.cells (xs.length+ys.length - k)).toList++(Builtin.zeroCells z.cells (G - (xs.length+ys.length))).toList).length=G * T.size - k * T.size:=by
   have zl:∀ n,(Builtin.zeroCells z.cells n).toList.length=n * T.size:=fun n=>by rw [QE,size_zeroCells,hzs]
   rw [PC,zl,zl,Nat.sub_mul,Nat.sub_mul];omega
  have hN:(w.drew.alloc (.cells ROW E)).heap[w.heap.size]?=some (.cells ROW E (0,0)):=QO w.drew _;have hold2:∀ b,b<w.heap.size->(w.drew.alloc (.cells ROW E)).heap[b]?=w.heap[b]?:=fun b hb=>heap_alloc_old w.drew _ hb
  have hg2s:g2<w.heap.size:=(Array.getElem?_eq_some_iff.1 hb2).1;obtain ⟨C1,hC1⟩:∃ C1:List Value,C1=ROW.toList.take (k * T.size)++l2++ROW.toList.drop (k * T.size+ys.length * T.size):=⟨_,rfl⟩;obtain ⟨s0,s1,s2,s3⟩:=EI l l2 _ (a:=k * T.size) (b:=ys.length * T.size) (c:=xs.length * T.size) (G:=G * T.size) hlen hkn' hlen2 (by rw [hzl]; omega) (by omega) (c0:=ROW.toList) hRl (c1:=C1) hC1;have hRs:ROW.size=G * T.size:=by simpa using s0
  have hcp1:=fun ty (d1 d3:Nat) (e1:d1=xs.length+ys.length - k)=>nh (P:=P) (w.drew.alloc (.cells ROW E)) S S ty E T.size w.heap.size (k * T.size) ys.length d1 d3 ⟨g2,0,none⟩ ys.length cap2 ROW E l2 hS hszE hN
   (by rw [e1]; simp only [Nat.min_def]; split <;> omega) hlen2 (fun j u hj=>by
    rw [RX];have:=hvs j u hj;simp only [World.cell?,hold2 g2 hg2s] at this |-;exact this) (by rw [hRs]; omega) h1l2
  rw [<- hC1] at hcp1;have hN1:((w.drew.alloc (.cells ROW E)).setRow w.heap.size C1.toArray).drew.heap[w.heap.size]?=some (.cells C1.toArray E (0,0)):=(cd _ w.heap.size C1.toArray hN).1;have ho1:∀ b,b<w.heap.size->((w.drew.alloc (.cells ROW E)).setRow w.heap.size C1.toArray).drew.heap[b]?=w.heap[b]?:=fun b hb=>((cd _ w.heap.size C1.toArray hN).2.2.2.2.2 b (by omega)).trans (hold2 b hb)
  have hcp2:=fun ty (d1 d2 d3 d4:Nat) (e1:d1=xs.length - k) (e2:d2=xs.length - k)=>nh (P:=P) ((w.drew.alloc (.cells ROW E)).setRow w.heap.size C1.toArray).drew S S ty E T.size w.heap.size ((k+ys.length) * T.size) (xs.length - k) d1 d3 ⟨g,k * T.size,none⟩ d2 d4 C1.toArray E (l.drop (k * T.size)) hS hszE hN1
   (by rw [e1,e2]; simp only [Nat.min_def]; split <;> omega) hdrop (fun j u hj=>by
    rw [RX];have:=hsrc j u hj;simp only [World.cell?,ho1 g hgs] at this |-;exact this) (by simp only [Qx,s1]; rw [hkz,hdz]; omega) (fun u hu=>h1l u (QB hu))
  refine (grow w _ _ _ g w.heap.size xs.length cap k g2 ys.length cap2 G hkl hm h1 hroom grow0 (by unfold maxLen at h63; omega) (by unfold maxLen at growM; omega) hap hcp1 hcp2).mono ?_;rintro e w' ⟨rfl,rfl⟩;simp only;have hN2:=(cd ((w.drew.alloc (.cells ROW E)).setRow w.heap.size C1.toArray).drew w.heap.size ((C1.take ((k+ys.length) * T.size)++l.drop (k * T.size)++C1.drop ((k+ys.length) * T.size+(xs.length - k) * T.size)).toArray) hN1).1;rw [hkz,hdz] at hN2 |-;refine done _ _ _ rfl (uR ((uR ((kz w _).trans (Ad w.drew _ _)) (fX _ _ hN) (PP _)).trans (kz _ _)) (fX _ _ hN1) (PP _)) ⟨?_,.inr ⟨w.heap.size,G,_,rfl,Qa _,hN2,grow0,growM,?_,?_⟩⟩ (fun b h=>.inr (by have h:some w.heap.size=some b:=h; injection h with h; omega))
  ·simp only [PC,PM,PW,hlen,hlen2,hnz];omega
  ·rw [Qx,s2]
  ·rw [List.toList_toArray,hnz,s3]
def Gm (P:Program) (E:TypeId):Bool:=match P.info? E with
 | some i=>match i.zero with
  | some z=>z.cells.toList.all fun u=>u.oneCell'
  | none=>false
 | none=>false
theorem CI {P:Program} {E:TypeId} (h:Gm P E=true) {i:TypeInfo} {z:Value} (hi:P.info? E=some i) (hz:i.zero=some z):∀ u∈z.cells.toList,u.oneCell'=true:=by
 unfold Gm at h;rw [hi] at h;simp only [hz] at h;exact PA.1 h
def AW (P:Program) (F:FuncId) (S:TypeId) (Z:Nat):Prop :=
 ∀ (w W1 W2:World) (g n c i j:Nat),i<j->j<=n->n<=c->c<=9223372036854775807 ->
  (∀ ty a d4,(j=n\/a=(⟨g,j * Z,none⟩:Addr))->(Builtin.append_ #[S,S] ty #[.slice (some ⟨g,0,none⟩) i c,.slice (some a) (n - j) d4]).run P w.drew=.ok (.slice (some ⟨g,0,none⟩) (i+(n - j)) c) W1) ->
  (∀ ty d4,(Builtin.clear_ #[S] ty #[.slice (some ⟨g,(i+(n - j)) * Z,none⟩) (j - i) d4]).run P W1=.ok (.tuple #[]) W2) ->
  Calls P F #[.slice (some ⟨g,0,none⟩) n c,.int .i64 i,.int .i64 j] w fun e w'=>e=.returned (.slice (some ⟨g,0,none⟩) (i+(n - j)) c)/\w'=W2
def fR (E:TypeId) (T:Ty):RowFn:={ e:=E,T:=T,Ts:=[ty_I,ty_I],out:=true,pre:=fun (xs _:List T.den) ((i,j):Int×Int)=>0<=i/\i<j/\j<=xs.length,F:=fun (xs _:List T.den) ((i,j):Int×Int)=>g7 xs i j }
theorem Hg {P:Program} {T:Ty} {F:FuncId} {S E:TypeId} (hS:P.underlying S=some (.slice E)) (hf:fm P E T=true)
  (hz1:∀ i z,P.info? E=some i->i.zero=some z->∀ u∈z.cells.toList,u.oneCell'=true) (walk:AW P F S T.size):(fR E T).ok P F:=by
 intro p w v (xs:List T.den) l v2 (ys:List T.den) l2 vs (x:Int×Int) _ _ hA hown hl hbig hp _ _ _ hargs hpre;obtain ⟨i,j⟩:=x;obtain ⟨hi0,hij,hj⟩:0<=i/\i<j/\j<=xs.length:=hpre;obtain ⟨v1,rest,rfl,hv1,v3,rfl,hv3⟩:=hargs;have hv1:[v1]=[Value.int .i64 i]/\am .i64 i:=hv1;have hv3:[v3]=[Value.int .i64 j]/\am .i64 j:=hv3;obtain ⟨hv1,_⟩:=hv1;obtain ⟨hv3,_⟩:=hv3;injection hv1 with hv1
 injection hv3 with hv3
 subst hv1 hv3;obtain ⟨i,rfl⟩:∃ k:Nat,i=k:=⟨i.toNat,by omega⟩;obtain ⟨j,rfl⟩:∃ k:Nat,j=k:=⟨j.toNat,by omega⟩;have hown:w.ownsRow 0 E T.size v xs.length l:=hown;have hl:aM (T.holds p) xs l:=hl;have hbig:xs.length * T.bytes<=aF:=hbig;obtain ⟨inf,z,hinf,hsz,hby,hz,hzs⟩:=dB hf;have hlen:l.length=xs.length * T.size:=hown.1;have h1l:∀ u∈l,u.oneCell'=true:=fD (fun x cs h=>dA T x cs h) xs l hl;have hpos:=Ty.size_pos T;have hij':i<j:=by omega
 have hj':j<=xs.length:=by omega
 have eF:((fR E T).F xs ys ((i:Int),(j:Int)):List T.den)=xs.take i++xs.drop j:=by show g7 xs i j=_; simp [g7]
 have hFl:(xs.take i++xs.drop j).length=i+(xs.length - j):=by simp; omega
 have hrow:aM (T.holds p) (xs.take i++xs.drop j) (l.take (i * T.size)++l.drop (j * T.size)) :=
  cB _ _ _ _ (dw (fun x cs h=>Ty.holds_length T x cs h) i xs l hl) (eZ (fun x cs h=>Ty.holds_length T x cs h) j xs l hl)
 rcases hown.2 with ⟨_,h0⟩ | ⟨g,cap,cur,rfl,_,hbg,h1,h2,h3,h4⟩
 ·omega
 have hcap:cap<=9223372036854775807:=by unfold maxLen at h2; omega
 have hiz:i * T.size<=xs.length * T.size:=P8 _ (by omega);have hjz:j * T.size<=xs.length * T.size:=P8 _ hj';have hijz:i * T.size<=j * T.size:=P8 _ (by omega);have hnz:xs.length * T.size<=cap * T.size:=P8 _ h1;have hdz:(xs.length - j) * T.size=xs.length * T.size - j * T.size:=Nat.sub_mul _ _ _;have hoz:(i+(xs.length - j)) * T.size=i * T.size+(xs.length * T.size - j * T.size):=by rw [Ry,hdz]
 have hcz:(j - i) * T.size=j * T.size - i * T.size:=Nat.sub_mul _ _ _;have hlc:cur.toList.length=cap * T.size:=by simpa using h3
 have hdrop:((l.drop (j * T.size)).length)=(xs.length - j) * T.size:=by rw [PW,hlen,hdz]
 have hsrc:∀ (k:Nat) (u:Value),(l.drop (j * T.size))[k]?=some u->w.cell? ⟨g,j * T.size+k,none⟩=some u:=by
  intro k u hk;rw [List.getElem?_drop] at hk
  have:cur.toList[j * T.size+k]?=some u:=by
   rw [<- h4,List.getElem?_take] at hk;split at hk
   ·exact hk
   ·cases hk
  simp only [World.cell?,hbg];simpa using this
 have hgd:w.drew.heap[g]?=some (.cells cur E (0,0)):=hbg;obtain ⟨C1,hC1⟩:∃ C1:List Value,C1=cur.toList.take (i * T.size)++l.drop (j * T.size)++cur.toList.drop (i * T.size+(xs.length * T.size - j * T.size)):=⟨_,rfl⟩
 have hC1l:C1.length=cap * T.size:=by
  rw [hC1];simp only [PC,PM,PW,hlen,hlc];omega
 have hap:=fun ty (a:Addr) d4 (ha:j=xs.length\/a=⟨g,j * T.size,none⟩)=>run_append_room (P:=P) w.drew S ty E inf hS hinf g i cap cur hgd a (xs.length - j) d4 (l.drop (j * T.size)) (by rw [hsz]; exact hdrop)
  (fun k u hk=>by
   rcases ha with ha | rfl
   ·rw [P7 (by rw [ha]; omega)] at hk;simp at hk
   ·rw [RX]; exact hsrc k u hk) (fun u hu=>h1l u (QB hu)) (by omega) (by
    have:cur.toList.length=cur.size:=by simp
    rw [hsz,hdrop,hdz]; omega)
 rw [hsz,hdrop,hdz,<- hC1] at hap;have hg1:(w.drew.setRow g C1.toArray).heap[g]?=some (.cells C1.toArray E (0,0)):=(cd w.drew g C1.toArray hgd).1;have hzr:∀ w,(zeroValue E).run P w=.ok z w:=fun w=>by simp [zeroValue,typeInfo,hinf,hz]
 have hzc:z.cells.size=T.size:=hzs
 have hcl:=fun ty d4=>xe (P:=P) (w:=w.drew.setRow g C1.toArray) hS hzr ty (b:=g) (o:=(i+(xs.length - j)) * T.size) (n:=j - i) (c:=d4) (cur:=C1.toArray) (ct:=E) (by omega) hg1 (fun u hu=>by
  rw [eM z.cells (by omega)] at hu;obtain ⟨y,hy,hu⟩:=List.mem_flatten.1 hu;rw [List.eq_of_mem_replicate hy] at hu
  exact hz1 inf z hinf hz u hu) (by
   have e1:C1.toArray.size=cap * T.size:=by simpa using hC1l
   have e2:(j - i) * z.cells.size=j * T.size - i * T.size:=by rw [hzc,hcz]
   rw [e1,e2,hoz];omega)
 refine (walk w _ _ g xs.length cap i j hij' hj' h1 hcap hap hcl).mono ?_;rintro e w' ⟨rfl,rfl⟩;have hg2:=(cd (w.drew.setRow g C1.toArray) g ((C1.take ((i+(xs.length - j)) * T.size)++(madeCells z.cells ((j - i) * z.cells.size)).toList++C1.drop ((i+(xs.length - j)) * T.size+(j - i) * z.cells.size)).toArray) hg1).1;simp only
 have hml:(madeCells z.cells ((j - i) * z.cells.size)).toList.length=j * T.size - i * T.size:=by
  rw [QE,QY,hzc,hcz]
 have done:∀ (W:World),w.grownBy W (some g)->W.ownsRow 0 E T.size (.slice (some ⟨g,0,none⟩) (i+(xs.length - j)) cap) (i+(xs.length - j)) (l.take (i * T.size)++l.drop (j * T.size)) ->
   ∃ (v':Value) (l':List Value),Ending.returned (.slice (some ⟨g,0,none⟩) (i+(xs.length - j)) cap)=.returned (if (fR E T).out then v' else .tuple #[])/\((fR E T).out=false->v'=.slice (some ⟨g,0,none⟩) xs.length cap)/\w.grownBy W (Value.slice (some ⟨g,0,none⟩) xs.length cap).ownBlock /\
   W.ownsRow 0 (fR E T).e (fR E T).T.size v' ((fR E T).F xs ys ((i:Int),(j:Int)):List T.den).length l'/\aM ((fR E T).T.holds p) ((fR E T).F xs ys ((i:Int),(j:Int))) l'/\((fR E T).F xs ys ((i:Int),(j:Int)):List T.den).length * (fR E T).T.bytes<=aF /\
   ∀ b,v'.ownBlock=some b->(Value.slice (some ⟨g,0,none⟩) xs.length cap).ownBlock=some b\/w.heap.size<=b:=by
  intro W hg ho;rw [eF];refine ⟨_,l.take (i * T.size)++l.drop (j * T.size),rfl,fun h=>(by cases h),hg,?_,hrow,?_,fun b h=>.inl h⟩
  ·show W.ownsRow 0 E T.size _ (xs.take i++xs.drop j).length _;rw [hFl];exact ho
  ·show (xs.take i++xs.drop j).length * T.bytes<=aF;rw [hFl];exact P9 (P8 _ (by omega)) hbig
 refine done _ (((kz w _).trans (fX w.drew _ hgd)).trans (fX _ _ hg1)) ⟨?_,.inr ⟨g,cap,_,rfl,Qa _,hg2,by omega,h2,?_,?_⟩⟩
 ·simp only [PC,PM,PW,hlen,hoz];omega
 ·rw [Qx,PC,PC,PM,PW,hml,hC1l,hzc,hoz,hcz];omega
 ·rw [List.toList_toArray,PT,PQ (by rw [PM,hC1l,hoz]; omega),QQ,Nat.min_self,hC1,hoz];rw [PQ (by simp only [PC,PM,PW,hlen,hlc]; omega),PJ (by simp only [PC,PM,PW,hlen,hlc]; omega)];congr 1;rw [<- h4,QQ,QP hiz]
end
section
def Ik:Spec:={ Ts:=[ty_I],Rs:=[.dat .bool],pre:=fun _=>True,F:=fun _=>false }
def xG:Prop :=
  ∀ (x:Int),am .i64 x->True->decide (x≠x)=false/\True
theorem Em:xG:=by
 unfold xG;intro x _ _;simp
theorem IT:Ik.ok Tryz.prog 227:=aA (ann:=cn) ap Tryz.func227 (by kernel_rfl) Em
def Ij:Spec:={ Ts:=[ty_I],Rs:=[.dat .bool],pre:=fun _=>True,F:=fun _=>false }
def xF:Prop :=
  ∀ (x:Int),am .i64 x->True->decide (x≠x)=false/\True
theorem El:xF:=by
 unfold xF;intro x _ _;simp
theorem xY:Ij.ok Tryz.prog 235:=aA (ann:=cn) ap Tryz.func235 (by kernel_rfl) El
def Kx:Spec:={ Ts:=[ty_I,ty_I],Rs:=[.dat .bool],pre:=fun _=>True,F:=fun ((x,y):Int×Int)=>decide (x<y) }
def Cx:Prop :=
  ∀ (x:Int×Int),am .i64 x.1/\am .i64 x.2->True->True/\(false=true->True)/\(false&&!false||decide (x.1<x.2))=decide (x.1<x.2)/\True
theorem HO:Cx:=by
 unfold Cx;intro ⟨x,y⟩ _ _;simp
theorem K6:Kx.ok Tryz.prog 180:=aA (ann:=cn) (ac xY ap) Tryz.func180 (by kernel_rfl) HO
def ii (l:List Int) (x:Int):Int:=((l.filter fun y=>decide (y<x)).length:Int)
theorem Le {l:List Int} {x:Int} {lo:Nat} (hlo:lo<=l.length) (h1:∀ j:Nat,j<lo->l.getD j 0<x) (h2:∀ j:Nat,lo<=j->j<l.length->x<=l.getD j 0):ii l x=lo:=by
 unfold ii
 have e:l.filter (fun y=>decide (y<x))=l.take lo:=by
  have e1:l=l.take lo++l.drop lo:=(Qr lo l).symm
  have e2:(l.take lo).filter (fun y=>decide (y<x))=l.take lo:=by
   rw [RK];intro y hy;obtain ⟨j,hj,rfl⟩:=R4.1 hy;have hj2:j<lo/\j<l.length:=by simp at hj; omega
   have:=h1 j hj2.1;rw [List.getD_eq_getElem?_getD,List.getElem?_eq_getElem hj2.2] at this;simpa using this
  have e3:(l.drop lo).filter (fun y=>decide (y<x))=[]:=by
   rw [List.filter_eq_nil_iff];intro y hy;obtain ⟨j,hj,rfl⟩:=R4.1 hy;have hj2:lo+j<l.length:=by simp at hj; omega
   have:=h2 (lo+j) (by omega) hj2;rw [List.getD_eq_getElem?_getD,List.getElem?_eq_getElem hj2] at this;simp at this |-;omega
  conv=>lhs; rw [e1]
  rw [Q6,e2,e3,Qi]
 rw [e,PM,QP hlo]
theorem Lf {l:List Int} {x:Int} {lo:Nat} (hs:l.Pairwise (·<=·)) (h1:∀ j:Nat,j<lo->l.getD j 0<x) (h2:∀ j:Nat,lo<=j->j<l.length->x<=l.getD j 0):cu l x=(decide (lo<l.length)&&decide (l.getD lo 0=x)):=by
 by_cases h:lo<l.length/\l.getD lo 0=x
 ·rw [QA h.1,QA h.2];refine bi.2 ?_;rw [<- h.2,List.getD_eq_getElem?_getD,List.getElem?_eq_getElem h.1];simp
 ·have e:(decide (lo<l.length)&&decide (l.getD lo 0=x))=false:=by
   by_cases h3:lo<l.length
   ·by_cases h4:l.getD lo 0=x
    ·exact absurd ⟨h3,h4⟩ h
    ·rw [QI h4,Bool.and_false]
   ·rw [QI h3,Q8]
  rw [e];cases hx:cu l x
  ·rfl
  ·exfalso;obtain ⟨j,hj,e2⟩:=R4.1 (bi.1 hx);have ej:l.getD j 0=x:=by rw [List.getD_eq_getElem?_getD,List.getElem?_eq_getElem hj]; simpa using e2
   rcases PU j lo with hlt | hge
   ·have:=h1 j hlt; omega
   ·have hlo:lo<l.length:=by omega
    have h5:=h2 lo (PP _) hlo
    have h6:l.getD lo 0<=l.getD j 0:=by
     rcases PU lo j with h7 | h7
     ·have:=Rm.1 hs lo j hlo hj h7;rw [List.getD_eq_getElem?_getD,List.getElem?_eq_getElem hlo,List.getD_eq_getElem?_getD,List.getElem?_eq_getElem hj];simpa using this
     ·have:j=lo:=by omega
      subst this;exact RQ _
    exact h ⟨hlo,by omega⟩
theorem kg {l:List Int} (hs:l.Pairwise (·<=·)) {i j:Nat} (h:i<=j) (hj:j<l.length):l.getD i 0<=l.getD j 0:=by
 rcases PU i j with h7 | h7
 ·have:=Rm.1 hs i j (by omega) hj h7;rw [List.getD_eq_getElem?_getD,List.getElem?_eq_getElem (show i<l.length by omega),List.getD_eq_getElem?_getD,List.getElem?_eq_getElem hj];simpa using this
 ·have:j=i:=by omega
  subst this;exact RQ _
def OF:Nat->Option LoopGen
 | 3=>some { rd:=[.dat 0 (.arr ty_I),.dat 1 ty_I],A:=fun ((l,x):List Int×Int)=>{ cs:=[.dat 7 ty_I,.dat 8 ty_I],inv:=fun ((lo,hi):Int×Int)=>0<=lo/\lo<=hi/\hi<=l.length/\(∀ j:Nat,(j:Int)<lo->l.getD j 0<x)/\(∀ j:Nat,hi<=j->j<l.length->x<=l.getD j 0),mu:=fun ((lo,hi):Int×Int)=>(hi - lo).toNat } }
 | _=>none
def N0:Spec:={ Ts:=[.arr ty_I,ty_I],Rs:=[.dat ty_I,.dat .bool],pre:=fun ((l,_):List Int×Int)=>l.Pairwise (·<=·),F:=fun ((l,x):List Int×Int)=>(ii l x,cu l x) }
def KM:Prop :=
  ∀ (x:List Int×Int),(x.1.length * 8<=aF/\∀ (x_1:Int),x_1∈x.1->am .i64 x_1)/\am .i64 x.2->List.Pairwise (fun (x1 x2:Int)=>x1<=x2) x.1->((0:Int)<=0/\0<=(x.1.length:Int)/\(x.1.length:Int)<=(x.1.length:Int)/\(∀ (j:Nat),(↑j:Int)<0->x.1.getD j 0<x.2)/\∀ (j:Nat),(x.1.length:Int)<=(↑j:Int)->j<x.1.length->x.2<=x.1.getD j 0)/\∀ (x_1:Int×Int),(fun (v0:type_of% (IntKind.u64.wrap (x_1.1+x_1.2) / 2 ^ Int.toNat 1))=>(0<=x_1.1/\x_1.1<=x_1.2/\x_1.2<=(x.1.length:Int)/\(∀ (j:Nat),(↑j:Int)<x_1.1->x.1.getD j 0<x.2)/\∀ (j:Nat),x_1.2<=(↑j:Int)->j<x.1.length->x.2<=x.1.getD j 0)->(decide (x_1.1<x_1.2)=true->am .i64 (x_1.1+x_1.2)/\(0:Int)<=1/\1<(↑IntKind.u64.bits:Int)/\0<=IntKind.i64.wrap v0/\IntKind.i64.wrap v0<(x.1.length:Int)/\True/\(decide (x.1.getD (IntKind.i64.wrap v0).toNat 0<x.2)=true->am .i64 (IntKind.i64.wrap v0+1)/\(0<=IntKind.i64.wrap v0+1/\IntKind.i64.wrap v0+1<=x_1.2/\x_1.2<=(x.1.length:Int)/\(∀ (j:Nat),(↑j:Int)<IntKind.i64.wrap v0+1->x.1.getD j 0<x.2)/\∀ (j:Nat),x_1.2<=(↑j:Int)->j<x.1.length->x.2<=x.1.getD j 0)/\(x_1.2 - (IntKind.i64.wrap v0+1)).toNat<(x_1.2 - x_1.1).toNat)/\(decide (x.1.getD (IntKind.i64.wrap v0).toNat 0<x.2)=false->(0<=x_1.1/\x_1.1<=IntKind.i64.wrap v0/\IntKind.i64.wrap v0<=(x.1.length:Int)/\(∀ (j:Nat),(↑j:Int)<x_1.1->x.1.getD j 0<x.2)/\∀ (j:Nat),IntKind.i64.wrap v0<=(↑j:Int)->j<x.1.length->x.2<=x.1.getD j 0)/\(IntKind.i64.wrap v0 - x_1.1).toNat<(x_1.2 - x_1.1).toNat))/\(decide (x_1.1<x_1.2)=false->(decide (x_1.1<(x.1.length:Int))=true->0<=x_1.1)/\(decide (x_1.1<(x.1.length:Int))=true->x_1.1<(x.1.length:Int))/\(decide (x.1.getD x_1.1.toNat 0=x.2)=false->decide (x_1.1<(x.1.length:Int))=true->0<=x_1.1)/\(decide (x.1.getD x_1.1.toNat 0=x.2)=false->decide (x_1.1<(x.1.length:Int))=true->x_1.1<(x.1.length:Int))/\(decide (x.1.getD x_1.1.toNat 0=x.2)=false->decide (x_1.1<(x.1.length:Int))=true->True)/\(false=true->decide (x.1.getD x_1.1.toNat 0=x.2)=false->decide (x_1.1<(x.1.length:Int))=true->True)/\x_1.1=ii x.1 x.2/\(decide (x_1.1<(x.1.length:Int))&&(decide (x.1.getD x_1.1.toNat 0=x.2)||false&&false))=cu x.1 x.2/\True)) (IntKind.u64.wrap (x_1.1+x_1.2) / 2 ^ Int.toNat 1)
theorem MA:KM:=by
 unfold KM;intro ⟨l,x⟩ ⟨⟨hb,_⟩,_⟩ hs;unfold aF at hb;simp only at hb hs |-;refine ⟨⟨by omega,by omega,by omega,fun j hj=>by omega,fun j h1 h2=>by omega⟩,fun ⟨lo,hi⟩ ⟨q1,q2,q3,q4,q5⟩=>⟨fun hlt=>?_,fun hge=>?_⟩⟩
 ·simp only at q1 q2 q3 q4 q5 hlt |-;have hlt:=Pt hlt
  have hm:IntKind.i64.wrap (IntKind.u64.wrap (lo+hi) / 2 ^ Int.toNat 1)=(lo+hi) / 2:=by
   rw [fA (by omega) (by omega),show (2:Int) ^ Int.toNat 1=2 from rfl,jF (by omega) (by omega)]
  simp only [hm];have hm1:lo<=(lo+hi) / 2/\(lo+hi) / 2<hi:=by omega
  generalize (lo+hi) / 2=m at *;simp only [am];refine ⟨by omega,by omega,by decide,by omega,by omega,trivial,fun hc=>⟨by omega,⟨by omega,by omega,by omega,fun j hj=>?_,q5⟩,by omega⟩,fun hc=>⟨⟨by omega,by omega,by omega,q4,fun j h1 h2=>?_⟩,by omega⟩⟩
  ·have hc:=Pt hc;have:=kg hs (i:=j) (j:=m.toNat) (by omega) (by omega);omega
  ·have hc:=Pu hc;have:=kg hs (i:=m.toNat) (j:=j) (by omega) (by omega);omega
 ·simp only at q1 q2 q3 q4 q5 hge |-;have hge:=Pu hge;have he:hi=lo:=by omega
  subst he;obtain ⟨n,rfl⟩:∃ n:Nat,hi=n:=⟨hi.toNat,by omega⟩;have h1:∀ j:Nat,j<n->l.getD j 0<x:=fun j hj=>q4 j (by omega)
  have h2:∀ j:Nat,n<=j->j<l.length->x<=l.getD j 0:=fun j h1 h2=>q5 j (by omega) h2
  rw [Le (by omega) h1 h2,Lf hs h1 h2];refine ⟨fun _=>by omega,fun h=>Pt h,fun _ _=>by omega,fun _ h=>Pt h,fun _ _=>trivial,fun h=>(by cases h),by first | trivial | rfl,?_,trivial⟩;simp
theorem Og:N0.ok Tryz.prog 172:=aA (ann:=OF) (ac K6 (ac IT ap)) Tryz.func172 (by kernel_rfl) MA
end
section
abbrev fB:Ty:=.pair ty_I ty_I
abbrev bu:=Int×Int
def m6 (x:bu):Bool:=decide (x.1<0)||decide (255<x.1)||decide (x.2<1)||decide (1000000<x.2)
def dg:Int->List bu->Int
 | _,[]=>0
 | q,x::l=>if m6 x=true then 4 else if x.1<=q then 3 else dg x.1 l
def ci (p:List bu):Int:=if 16<p.length then 2 else dg (-1) p
def ahead (p:List bu) (i:Int):Int:=if 0<i then (p.getD (i - 1).toNat (0,0)).1 else -1
theorem us:∀ {p:List bu} {q:Int},dg q p=0->p.Pairwise (fun x y=>x.1<y.1)/\(∀ x∈p,q<x.1/\0<=x.1/\x.1<=255/\1<=x.2/\x.2<=1000000)
 | [],_,_=>⟨List.Pairwise.nil,fun _ h=>by cases h⟩
 | x::l,q,h=>by
  unfold dg at h;split at h
  ·omega
  ·rename_i hb;split at h
   ·omega
   ·rename_i hq;obtain ⟨h1,h2⟩:=us h;have hb:m6 x=false:=by simpa using hb
    simp only [m6,QG,Qw] at hb;refine ⟨Qe.2 ⟨fun y hy=>(h2 y hy).1,h1⟩,fun y hy=>?_⟩;rcases PD.1 hy with rfl | hy
    ·omega
    ·have:=h2 y hy; omega
theorem zM {p:List bu} (h:ci p=0):p.length<=16/\p.Pairwise (fun x y=>x.1<y.1)/\∀ x∈p,0<=x.1/\x.1<=255/\1<=x.2/\x.2<=1000000:=by
 unfold ci at h;split at h
 ·omega
 ·obtain ⟨h1,h2⟩:=us h;exact ⟨by omega,h1,fun x hx=>(h2 x hx).2⟩
theorem uA:∀ {m:List bu} {k v:Int},aC m k=some v->(k,v)∈m
 | [],_,_,h=>by cases h
 | x::m,k,v,h=>by
  unfold aC at h;split at h
  ·rename_i hx;injection h with h
   subst h hx;simp
  ·exact P1 _ (uA h)
theorem C5:∀ {m:List bu} {x:bu},m.Pairwise (fun x y=>x.1<y.1)->x∈m->aC m x.1=some x.2
 | [],_,_,h=>by cases h
 | y::m,x,hp,h=>by
  obtain ⟨h1,h2⟩:=Qe.1 hp;unfold aC;rcases PD.1 h with rfl | h
  ·rw [if_pos rfl]
  ·have:=h1 x h;rw [if_neg (by omega)];exact C5 h2 h
def gk (m:List bu) (k:Int):Int:=(aC m k).getD 0
def kN (p:List bu) (k:Int):Int:=ii (p.map Prod.fst) k
def ow (p:List bu) (k:Int):Bool:=cu (p.map Prod.fst) k
theorem De {p:List bu} (hp:p.Pairwise (fun x y=>x.1<y.1)) {k:Int}:ow p k=(aC p k).isSome:=by
 apply RO.2;unfold ow;rw [bi,P3];constructor
 ·rintro ⟨x,hx,rfl⟩;rw [C5 hp hx];rfl
 ·intro h;obtain ⟨v,hv⟩:=Q7.1 h;exact ⟨_,uA hv,rfl⟩
theorem Lx (p:List bu) (i:Nat):(p.map Prod.fst).getD i 0=(p.getD i (0,0)).1:=by
 rw [List.getD_eq_getElem?_getD,List.getD_eq_getElem?_getD,List.getElem?_map];cases p[i]? <;> rfl
theorem I4 {p:List bu} (hp:p.Pairwise (fun x y=>x.1<y.1)) (k:Int):∃ A B:List bu,(∀ x∈A,x.1<k)/\(∀ x∈B,k<x.1)/\kN p k=A.length /\
  ((aC p k=none/\p=A++B)\/∃ v,aC p k=some v/\p=A++(k,v)::B):=by
 induction p with
 | nil=>exact ⟨[],[],(fun _ h=>by cases h),(fun _ h=>by cases h),rfl,.inl ⟨rfl,rfl⟩⟩
 | cons y p ih =>
  obtain ⟨h1,h2⟩:=Qe.1 hp
  have e:kN (y::p) k=(if y.1<k then 1 else 0)+kN p k:=by
   unfold kN ii;rw [Qf,List.filter_cons];by_cases hy:y.1<k
   ·rw [if_pos (QA hy),if_pos hy,Pz];omega
   ·rw [if_neg (by simpa using hy),if_neg hy];omega
  have e0:k<=y.1->kN p k=0:=fun hk=>by
   unfold kN ii
   have:(p.map Prod.fst).filter (fun z=>decide (z<k))=[]:=by
    rw [List.filter_eq_nil_iff];intro z hz;obtain ⟨x,hx,rfl⟩:=P3.1 hz;have:=h1 x hx;simp;omega
   rw [this];rfl
  rcases Int.lt_trichotomy y.1 k with hy | hy | hy
  ·obtain ⟨A,B,a1,a2,a3,a4⟩:=ih h2;refine ⟨y::A,B,fun x hx=>?_,a2,?_,?_⟩
   ·rcases PD.1 hx with rfl | hx
    ·exact hy
    ·exact a1 x hx
   ·rw [e,if_pos hy,a3,Pz];omega
   ·unfold aC;rw [if_neg (by omega)];rcases a4 with ⟨b1,b2⟩ | ⟨v,b1,b2⟩
    ·exact .inl ⟨b1,by rw [b2]; rfl⟩
    ·exact .inr ⟨v,b1,by rw [b2]; rfl⟩
  ·refine ⟨[],p,(fun x hx=>by cases hx),(fun x hx=>by have:=h1 x hx; omega),?_,.inr ⟨y.2,?_,?_⟩⟩
   ·rw [e,if_neg (by omega),e0 (by omega)];rfl
   ·unfold aC;rw [if_pos hy]
   ·rw [<- hy];rfl
  ·refine ⟨[],y::p,(fun x hx=>by cases hx),fun x hx=>?_,?_,.inl ⟨?_,rfl⟩⟩
   ·rcases PD.1 hx with rfl | hx
    ·exact hy
    ·have:=h1 x hx; omega
   ·rw [e,if_neg (by omega),e0 (by omega)];rfl
   ·cases h:aC (y::p) k with
    | none=>rfl
    | some v =>
     have:=uA h;rcases PD.1 this with h3 | h3
     ·rw [<- h3] at hy; simp at hy
     ·have:=h1 _ h3; simp at this; omega
end
section
open Go Go.RowKit Go.Lib
set_option maxHeartbeats 4000000 in
set_option maxRecDepth 100000 in
theorem zA:DX Tryz.prog 203 32 2:=by
 intro w W1 W2 g n c i vb m vc tA tB kA kB hi hm hroom hc63 hvb hsa hsb hkB hfa hfe hcp1 hcp2
 have hov:∀ o lb cb,(callFunc 248 #[.slice (some ⟨vb,0,none⟩) m vc,.slice (some ⟨g,o,none⟩) lb cb]).run Tryz.prog w=.ok (.value (.bool false)) w:=fun o lb cb=>by
  rw [run_callFunc_extern Tryz.func248 (by kernel_rfl) (by kernel_rfl) (by kernel_rfl) (e:=Extern.SlicesOverlaps.overlaps #[32,32] #[4]) (by kernel_rfl),
   Lib.run_overlaps_apart w 32 4 157 (by kernel_rfl) 2 (fun _=>by kernel_rfl) ⟨vb,0,none⟩ ⟨g,o,none⟩ m vc lb cb hvb tA tB kA kB hsa hsb hkB hfa hfe]
  rfl
 have hz1:¬ ((m:Int)=0):=by omega
 have hz2:¬ ((i:Int)=(n:Int)):=by omega
 have mixed:Tryz.prog.follows .mixedOrders=true:=by kernel_rfl
 have hw1:IntKind.i64.wrap ((i:Int)+(m:Int))=(i:Int)+(m:Int):=by rw [IntKind.wrap_i64]; omega
 have hb1:(0:Int)<=(i:Int)+(m:Int):=by omega
 have hin:i<=n:=by omega
 have htn:((i:Int)+(m:Int)).toNat=i+m:=by omega
 have hb2:¬ (c=i+m):=by omega
 have hb3:(i:Int)<=(n:Int)+(m:Int):=by omega
 have hb4:¬ (c=i):=by omega
 go_enter Tryz.func203,Tryz.ntmps203
 go_wp2_with (simp only [hov])
 go_region_law_o (refine step_copy_runI rfl _ _ 32 32 rfl (.slice (some ⟨g,(i+m) * 2,none⟩) (n+m - (i+m)) (c - (i+m))) (.slice (some ⟨g,i * 2,none⟩) (n+m - i) (c - i)) (by simp [Act.eval,Act.put]) (by simp [Act.eval,Act.put]) (hcp1 _ _ _ _ _ (by omega) rfl) ?_)
 go_wp2_with (at_builtin; refine wpList_copy_runI _ rfl _ _ 32 32 rfl _ _ rfl rfl (hcp2 _ _ _ (by omega)) ?_)
 go_ret
 exact ⟨rfl,rfl⟩
set_option maxHeartbeats 4000000 in
set_option maxRecDepth 100000 in
theorem Df:Ht Tryz.prog 203 32 3 2:=by
 intro w W0 W1 W2 g N n c i vb m vc G hi hm hn hroom hG h63 hG63 hrz hcp1 hcp2;have hz1:¬ ((m:Int)=0):=by omega
 have hz2:¬ ((i:Int)=(n:Int)):=by omega
 have hz3:(c:Int)<(n:Int)+(m:Int):=by omega
 have mixed:Tryz.prog.follows .mixedOrders=true:=by kernel_rfl
 have hGi:¬ (G=i):=by omega
 have hGim:¬ (G=i+m):=by omega
 have hci:¬ (c=i):=by omega
 have hw1:IntKind.i64.wrap ((i:Int)+(m:Int))=(i:Int)+(m:Int):=by rw [IntKind.wrap_i64]; omega
 have hb1:(0:Int)<=(i:Int)+(m:Int):=by omega
 have hin:i<=n:=by omega
 have htn:((i:Int)+(m:Int)).toNat=i+m:=by omega
 have hb3:(i:Int)<=(n:Int):=by omega
 go_enter Tryz.func203,Tryz.ntmps203
 go_wp2_with (first
  | (at_builtin; refine Lib.wpList_append_run _ rfl _ _ _ _ rfl _ _ rfl rfl _ _ (hrz _) ?_)
  | (at_builtin; refine wpList_copy_runI _ rfl _ _ 32 32 rfl _ _ rfl rfl (hcp1 _ _ _ rfl) ?_))
 go_region_law_o (refine step_copy_runI rfl _ _ 32 32 rfl (.slice (some ⟨N,(i+m) * 2,none⟩) (n+m - (i+m)) (G - (i+m))) (.slice (some ⟨g,i * 2,none⟩) (n - i) (c - i)) (by simp [Act.eval,Act.put]) (by simp [Act.eval,Act.put]) (hcp2 _ _ _ _ _ (by omega) rfl) ?_)
 go_wp2
 go_ret
 exact ⟨rfl,rfl⟩
set_option maxHeartbeats 4000000 in
set_option maxRecDepth 100000 in
theorem FY:Mu Tryz.prog 203 32:=by
 intro w W A n c vb m vc v' hm hnc hnil hsome hr;have mixed:Tryz.prog.follows .mixedOrders=true:=by kernel_rfl
 have hz1:¬ ((m:Int)=0):=by omega
 cases A with
 | none =>
  obtain ⟨rfl,rfl⟩:=hnil rfl
  go_enter Tryz.func203,Tryz.ntmps203
  go_wp2_with (at_builtin; refine Lib.wpList_append_run _ rfl _ _ _ _ rfl _ _ rfl rfl _ _ hr ?_)
  go_ret
  exact ⟨rfl,rfl⟩
 | some ad =>
  obtain ⟨ab,ao,asp⟩:=ad;obtain ⟨e1,e2⟩:=hsome _ rfl;simp only at e1 e2;subst e1 e2
  go_enter Tryz.func203,Tryz.ntmps203
  go_wp2_with (at_builtin; refine Lib.wpList_append_run _ rfl _ _ _ _ rfl _ _ rfl rfl _ _ hr ?_)
  all_goals (go_ret; exact ⟨rfl,rfl⟩)
def Il:RowFn:=gx 157 fB
theorem IU:Il.ok Tryz.prog 203:=Nh (P:=Tryz.prog) (S:=32) (E:=157) (I:=3) (by kernel_rfl) (by kernel_rfl) (by kernel_rfl) zA Df FY
set_option maxHeartbeats 4000000 in
set_option maxRecDepth 100000 in
theorem A1:AW Tryz.prog 204 32 2:=by
 intro w W1 W2 g n c i j hij hj hn hc63 hap hcl;have mixed:Tryz.prog.follows .mixedOrders=true:=by kernel_rfl
 have hz1:¬ ((i:Int)=(j:Int)):=by omega
 have hb1:i<=j:=by omega
 have hb2:j<=c:=by omega
 have hb3:i<=c:=by omega
 have hb4:i<=n:=by omega
 have hb5:¬ (c=i+(n - j)):=by omega
 have hb6:i+(n - j)<=n:=by omega
 have e1:n - (i+(n - j))=j - i:=by omega
 have hcl':=fun ty d4=>hcl ty d4
 simp only [<- e1] at hcl';by_cases hcj:c=j
 ·subst hcj;have hnj:n=c:=by omega
  subst hnj;simp only [RR,QU] at hcl' |-
  go_enter Tryz.func204,Tryz.ntmps204
  go_wp2
  go_region_law_o (refine gw rfl _ _ 32 32 rfl (.slice (some ⟨g,0,none⟩) i n) (.slice (some ⟨g,0,none⟩) (n - n) (n - n)) (by simp [Act.eval,Act.put]) (by simp [Act.eval,Act.put]) (hap _ _ _ (.inl trivial)) ?_)
  go_wp2_with (at_builtin; refine wpList_clear_run _ rfl _ _ rfl _ rfl _ _ (hcl' _ _) ?_)
  go_ret
  exact ⟨rfl,rfl⟩
 ·go_enter Tryz.func204,Tryz.ntmps204
  go_wp2
  go_region_law_o (refine gw rfl _ _ 32 32 rfl (.slice (some ⟨g,0,none⟩) i c) (.slice (some ⟨g,j * 2,none⟩) (n - j) (c - j)) (by simp [Act.eval,Act.put]) (by simp [Act.eval,Act.put]) (hap _ _ _ (.inr rfl)) ?_)
  go_wp2_with (at_builtin; refine wpList_clear_run _ rfl _ _ rfl _ rfl _ _ (hcl' _ _) ?_)
  go_ret
  exact ⟨rfl,rfl⟩
def Ir:RowFn:=fR 157 fB
theorem IZ:Ir.ok Tryz.prog 204:=Hg (P:=Tryz.prog) (S:=32) (E:=157) (by kernel_rfl) (by kernel_rfl) (fun i z hi hz u hu=>CI (by kernel_rfl) hi hz u hu) A1
end
section
theorem Gk {p:List bu} {i:Int} (h0:0<=i) (h:i<p.length):dg (ahead p i) (p.drop i.toNat)=if m6 (p.getD i.toNat (0,0))=true then 4 else if (p.getD i.toNat (0,0)).1<=ahead p i then 3 else dg (ahead p (i+1)) (p.drop (i+1).toNat):=by
 rw [bg ((0,0):bu) h0 h]
 have e:ahead p (i+1)=(p.getD i.toNat (0,0)).1:=by
  unfold ahead;rw [if_pos (by omega),show (i+1 - 1)=i by omega]
 rw [e];rfl
def BE:Spec:={ Ts:=[ty_I],Rs:=[.dat .bool],pre:=fun _=>True,F:=fun (v:Int)=>decide (0<=v)&&decide (v<256) }
def rH:Prop :=
  ∀ (x:Int),am .i64 x->True->(decide (0<=x)&&decide (x<256))=(decide (0<=x)&&decide (x<256))/\True
theorem yK:rH:=by
 unfold rH;intro v _ _;simp
theorem sf:BE.ok Tryz.prog 210:=aA (ann:=cn) ap Tryz.func210 (by kernel_rfl) yK
def DQ:Nat->Option LoopGen
 | 4=>some { rd:=[.dat 8 (.arr fB)],A:=fun (p:List bu)=>{ cs:=[.dat 10 ty_I],inv:=fun (i:Int)=>0<=i/\i<=p.length/\dg (ahead p i) (p.drop i.toNat)=dg (-1) p,mu:=fun (i:Int)=>(p.length - i).toNat } }
 | _=>none
def BG:Spec:={ Ts:=[.arr fB],Rs:=[.dat ty_I],pre:=fun _=>True,F:=fun (p:List bu)=>ci p }
def rI:Prop :=
  ∀ (x:List (Int×Int)),(x.length * (8+8)<=aF/\∀ (x_1:Int×Int),x_1∈x->am .i64 x_1.1/\am .i64 x_1.2)->True->(decide (16<(x.length:Int))=true->2=ci x/\True)/\(decide (16<(x.length:Int))=false->((0:Int)<=0/\0<=(x.length:Int)/\dg (ahead x 0) (List.drop (Int.toNat 0) x)=dg (-1) x)/\∀ (x_1:Int),0<=x_1/\x_1<=(x.length:Int)/\dg (ahead x x_1) (List.drop x_1.toNat x)=dg (-1) x->(decide (x_1<(x.length:Int))=true->0<=x_1/\x_1<(x.length:Int)/\True/\((!(decide (0<=(x.getD x_1.toNat (0,0)).1)&&decide ((x.getD x_1.toNat (0,0)).1<256))||decide ((x.getD x_1.toNat (0,0)).2<1)||decide (1000000<(x.getD x_1.toNat (0,0)).2))=true->4=ci x/\True)/\((!(decide (0<=(x.getD x_1.toNat (0,0)).1)&&decide ((x.getD x_1.toNat (0,0)).1<256))||decide ((x.getD x_1.toNat (0,0)).2<1)||decide (1000000<(x.getD x_1.toNat (0,0)).2))=false->(decide (0<x_1)=true->am .i64 (x_1 - 1))/\(decide (0<x_1)=true->0<=x_1 - 1)/\(decide (0<x_1)=true->x_1 - 1<(x.length:Int))/\((decide (0<x_1)&&decide ((x.getD x_1.toNat (0,0)).1<=(x.getD (x_1 - 1).toNat (0,0)).1))=true->3=ci x/\True)/\((decide (0<x_1)&&decide ((x.getD x_1.toNat (0,0)).1<=(x.getD (x_1 - 1).toNat (0,0)).1))=false->am .i64 (x_1+1)/\(0<=x_1+1/\x_1+1<=(x.length:Int)/\dg (ahead x (x_1+1)) (List.drop (x_1+1).toNat x)=dg (-1) x)/\((x.length:Int) - (x_1+1)).toNat<((x.length:Int) - x_1).toNat)))/\(decide (x_1<(x.length:Int))=false->0=ci x/\True))
theorem yL:rI:=by
 unfold rI;intro p ⟨hb,_⟩ _;unfold aF at hb;have hF:ci p=if 16<p.length then 2 else dg (-1) p:=rfl
 refine ⟨fun h=>?_,fun h=>?_⟩
 ·rw [hF,if_pos (by have:=Pt h; omega)];exact ⟨rfl,trivial⟩
 have hl:¬ 16<p.length:=by have:=Pu h; omega
 rw [hF,if_neg hl];refine ⟨⟨by omega,by omega,rfl⟩,fun i ⟨i0,i1,i2⟩=>⟨fun hlt=>?_,fun hge=>?_⟩⟩
 ·have hlt:=Pt hlt;rw [Gk i0 hlt] at i2;have hp:0<i->ahead p i=(p.getD (i - 1).toNat (0,0)).1:=fun h=>if_pos h
  have hn:¬ 0<i->ahead p i=-1:=fun h=>if_neg h
  generalize p.getD i.toNat (0,0)=x at *;generalize p.getD (i - 1).toNat (0,0)=y at *;generalize ahead p i=q at *
  have hbad:(!(decide (0<=x.1)&&decide (x.1<256))||decide (x.2<1)||decide (1000000<x.2))=m6 x:=by
   unfold m6
   grind
  rw [hbad];refine ⟨i0,hlt,trivial,fun hc=>?_,fun hc=>⟨fun _=>by simp only [am]; omega,fun h=>by have:=Pt h; omega,fun _=>by omega,fun h2=>?_,fun h2=>⟨by simp only [am]; omega,⟨by omega,by omega,?_⟩,by omega⟩⟩⟩
  ·rw [if_pos hc] at i2;exact ⟨i2,trivial⟩
  ·rw [if_neg (by rw [hc]; simp)] at i2;simp only [Px,Qk] at h2;rw [if_pos (by rw [hp h2.1]; exact h2.2)] at i2;exact ⟨i2,trivial⟩
  ·rw [if_neg (by rw [hc]; simp)] at i2
   have hx:0<=x.1:=by
    simp only [m6,QG,Qw] at hc;omega
   rw [if_neg] at i2
   ·exact i2
   ·intro h3;by_cases h4:0<i
    ·rw [hp h4] at h3;have:(decide (0<i)&&decide (x.1<=y.1))=true:=by simp [h4,h3]
     rw [this] at h2;cases h2
    ·rw [hn h4] at h3;omega
 ·rw [b6 (Pu hge)] at i2;exact ⟨i2,trivial⟩
theorem sg:BG.ok Tryz.prog 150:=aA (ann:=DQ) (ac sf ap) Tryz.func150 (by kernel_rfl) yL
def kS (x y:Int):Int:=if x<y then -1 else if y<x then 1 else 0
def MS:Spec:={ Ts:=[ty_I,ty_I],Rs:=[.dat ty_I],pre:=fun _=>True,F:=fun ((x,y):Int×Int)=>kS x y }
def GL:Prop :=
  ∀ (x:Int×Int),am .i64 x.1/\am .i64 x.2->True->True/\True/\(false=true->(false=true->0=kS x.1 x.2/\True)/\(false=false->(-1)=kS x.1 x.2/\True))/\(false=false->(false=true->1=kS x.1 x.2/\True)/\(false=false->(decide (x.1<x.2)=true->(-1)=kS x.1 x.2/\True)/\(decide (x.1<x.2)=false->(decide (x.2<x.1)=true->1=kS x.1 x.2/\True)/\(decide (x.2<x.1)=false->0=kS x.1 x.2/\True))))
theorem J2:GL:=by
 unfold GL;intro ⟨x,y⟩ _ _;simp only [kS]
 grind
theorem M8:MS.ok Tryz.prog 247:=aA (ann:=cn) (ac xY ap) Tryz.func247 (by kernel_rfl) J2
def KC:Spec:={ Ts:=[fB,ty_I],Rs:=[.dat ty_I],pre:=fun _=>True,F:=fun ((x,y):bu×Int)=>kS x.1 y }
def CB:Prop :=
  ∀ (x:(Int×Int)×Int),(am .i64 x.1.1/\am .i64 x.1.2)/\am .i64 x.2->True->True/\kS x.1.1 x.2=kS x.1.1 x.2/\True
theorem HS:CB:=by
 unfold CB;intro ⟨x,y⟩ _ _;exact ⟨trivial,rfl,trivial⟩
theorem K9:KC.ok Tryz.prog 246:=aA (ann:=cn) (ac M8 ap) Tryz.func246 (by kernel_rfl) HS
theorem Ny (x y:Int):decide (kS x y<0)=decide (x<y):=by
 unfold kS
 grind
theorem Nz (x y:Int):decide (kS x y=0)=decide (x=y):=by
 unfold kS
 grind
def aI (p:List bu) (k:Int):Int×Bool×Int:=if ci p≠0 then (0,false,ci p) else if (decide (0<=k)&&decide (k<256))=false then (0,false,4) else (kN p k,ow p k,0)
def NG:Nat->Option LoopGen
 | 3000245=>some cU
 | 24600000003=>some { rd:=[.dat 0 (.arr fB),.dat 1 ty_I],A:=fun ((p,x):List bu×Int)=>{ cs:=[.dat 9 ty_I,.dat 10 ty_I],inv:=fun ((lo,hi):Int×Int)=>0<=lo/\lo<=hi/\hi<=p.length/\(∀ j:Nat,(j:Int)<lo->(p.map Prod.fst).getD j 0<x)/\(∀ j:Nat,hi<=j->j<p.length->x<=(p.map Prod.fst).getD j 0),mu:=fun ((lo,hi):Int×Int)=>(hi - lo).toNat } }
 | _=>none
def MP:Spec:={ Ts:=[.arr fB,ty_I],Rs:=[.dat ty_I,.dat .bool,.dat ty_I],pre:=fun _=>True,F:=fun ((p,k):List bu×Int)=>aI p k }
def GJ:Prop :=
  ∀ (x:List (Int×Int)×Int),(fun (v2:type_of% (List.map Prod.fst x.1))=>(x.1.length * (8+8)<=aF/\∀ (x_1:Int×Int),x_1∈x.1->am .i64 x_1.1/\am .i64 x_1.2)/\am .i64 x.2->True->True/\(decide (ci x.1=0)=true->True)/\((decide (ci x.1=0)&&!(decide (0<=x.2)&&decide (x.2<256)))=true->(decide ((4:Int)≠0)=true->0=(aI x.1 x.2).1/\false=(aI x.1 x.2).2.1/\4=(aI x.1 x.2).2.2/\True)/\(decide ((4:Int)≠0)=false->∀ (_:Array Value),((0:Int)<=0/\0<=(x.1.length:Int)/\(x.1.length:Int)<=(x.1.length:Int)/\(∀ (j:Nat),(↑j:Int)<0->v2.getD j 0<x.2)/\∀ (j:Nat),(x.1.length:Int)<=(↑j:Int)->j<x.1.length->x.2<=v2.getD j 0)/\∀ (x_1:Int×Int),(fun (v0:type_of% (IntKind.u64.wrap (x_1.1+x_1.2) / 2 ^ Int.toNat 1))=>(0<=x_1.1/\x_1.1<=x_1.2/\x_1.2<=(x.1.length:Int)/\(∀ (j:Nat),(↑j:Int)<x_1.1->v2.getD j 0<x.2)/\∀ (j:Nat),x_1.2<=(↑j:Int)->j<x.1.length->x.2<=v2.getD j 0)->(decide (x_1.1<x_1.2)=true->am .i64 (x_1.1+x_1.2)/\(0:Int)<=1/\1<(↑IntKind.u64.bits:Int)/\0<=IntKind.i64.wrap v0/\IntKind.i64.wrap v0<(x.1.length:Int)/\True/\(decide (kS (x.1.getD (IntKind.i64.wrap v0).toNat (0,0)).1 x.2<0)=true->am .i64 (IntKind.i64.wrap v0+1)/\(0<=IntKind.i64.wrap v0+1/\IntKind.i64.wrap v0+1<=x_1.2/\x_1.2<=(x.1.length:Int)/\(∀ (j:Nat),(↑j:Int)<IntKind.i64.wrap v0+1->v2.getD j 0<x.2)/\∀ (j:Nat),x_1.2<=(↑j:Int)->j<x.1.length->x.2<=v2.getD j 0)/\(x_1.2 - (IntKind.i64.wrap v0+1)).toNat<(x_1.2 - x_1.1).toNat)/\(decide (kS (x.1.getD (IntKind.i64.wrap v0).toNat (0,0)).1 x.2<0)=false->(0<=x_1.1/\x_1.1<=IntKind.i64.wrap v0/\IntKind.i64.wrap v0<=(x.1.length:Int)/\(∀ (j:Nat),(↑j:Int)<x_1.1->v2.getD j 0<x.2)/\∀ (j:Nat),IntKind.i64.wrap v0<=(↑j:Int)->j<x.1.length->x.2<=v2.getD j 0)/\(IntKind.i64.wrap v0 - x_1.1).toNat<(x_1.2 - x_1.1).toNat))/\(decide (x_1.1<x_1.2)=false->(decide (x_1.1<(x.1.length:Int))=true->0<=x_1.1)/\(decide (x_1.1<(x.1.length:Int))=true->x_1.1<(x.1.length:Int))/\(decide (x_1.1<(x.1.length:Int))=true->True)/\x_1.1=(aI x.1 x.2).1/\(decide (x_1.1<(x.1.length:Int))&&decide (kS (x.1.getD x_1.1.toNat (0,0)).1 x.2=0))=(aI x.1 x.2).2.1/\0=(aI x.1 x.2).2.2/\True)) (IntKind.u64.wrap (x_1.1+x_1.2) / 2 ^ Int.toNat 1)))/\((decide (ci x.1=0)&&!(decide (0<=x.2)&&decide (x.2<256)))=false->(decide (ci x.1≠0)=true->0=(aI x.1 x.2).1/\false=(aI x.1 x.2).2.1/\ci x.1=(aI x.1 x.2).2.2/\True)/\(decide (ci x.1≠0)=false->∀ (_:Array Value),((0:Int)<=0/\0<=(x.1.length:Int)/\(x.1.length:Int)<=(x.1.length:Int)/\(∀ (j:Nat),(↑j:Int)<0->v2.getD j 0<x.2)/\∀ (j:Nat),(x.1.length:Int)<=(↑j:Int)->j<x.1.length->x.2<=v2.getD j 0)/\∀ (x_1:Int×Int),(fun (v1:type_of% (IntKind.u64.wrap (x_1.1+x_1.2) / 2 ^ Int.toNat 1))=>(0<=x_1.1/\x_1.1<=x_1.2/\x_1.2<=(x.1.length:Int)/\(∀ (j:Nat),(↑j:Int)<x_1.1->v2.getD j 0<x.2)/\∀ (j:Nat),x_1.2<=(↑j:Int)->j<x.1.length->x.2<=v2.getD j 0)->(decide (x_1.1<x_1.2)=true->am .i64 (x_1.1+x_1.2)/\(0:Int)<=1/\1<(↑IntKind.u64.bits:Int)/\0<=IntKind.i64.wrap v1/\IntKind.i64.wrap v1<(x.1.length:Int)/\True/\(decide (kS (x.1.getD (IntKind.i64.wrap v1).toNat (0,0)).1 x.2<0)=true->am .i64 (IntKind.i64.wrap v1+1)/\(0<=IntKind.i64.wrap v1+1/\IntKind.i64.wrap v1+1<=x_1.2/\x_1.2<=(x.1.length:Int)/\(∀ (j:Nat),(↑j:Int)<IntKind.i64.wrap v1+1->v2.getD j 0<x.2)/\∀ (j:Nat),x_1.2<=(↑j:Int)->j<x.1.length->x.2<=v2.getD j 0)/\(x_1.2 - (IntKind.i64.wrap v1+1)).toNat<(x_1.2 - x_1.1).toNat)/\(decide (kS (x.1.getD (IntKind.i64.wrap v1).toNat (0,0)).1 x.2<0)=false->(0<=x_1.1/\x_1.1<=IntKind.i64.wrap v1/\IntKind.i64.wrap v1<=(x.1.length:Int)/\(∀ (j:Nat),(↑j:Int)<x_1.1->v2.getD j 0<x.2)/\∀ (j:Nat),IntKind.i64.wrap v1<=(↑j:Int)->j<x.1.length->x.2<=v2.getD j 0)/\(IntKind.i64.wrap v1 - x_1.1).toNat<(x_1.2 - x_1.1).toNat))/\(decide (x_1.1<x_1.2)=false->(decide (x_1.1<(x.1.length:Int))=true->0<=x_1.1)/\(decide (x_1.1<(x.1.length:Int))=true->x_1.1<(x.1.length:Int))/\(decide (x_1.1<(x.1.length:Int))=true->True)/\x_1.1=(aI x.1 x.2).1/\(decide (x_1.1<(x.1.length:Int))&&decide (kS (x.1.getD x_1.1.toNat (0,0)).1 x.2=0))=(aI x.1 x.2).2.1/\0=(aI x.1 x.2).2.2/\True)) (IntKind.u64.wrap (x_1.1+x_1.2) / 2 ^ Int.toNat 1)))) (List.map Prod.fst x.1)
theorem J0:GJ:=by
 unfold GJ;intro ⟨p,k⟩ ⟨⟨hb,_⟩,hk⟩ _;unfold aF at hb;simp only at hb hk |-;have hF:aI p k=if ci p≠0 then (0,false,ci p) else if (decide (0<=k)&&decide (k<256))=false then (0,false,4) else (kN p k,ow p k,0):=rfl
 rw [hF];refine ⟨trivial,fun _=>trivial,fun h=>⟨fun _=>?_,fun h4=>absurd h4 (by decide)⟩,fun h=>⟨fun h1=>?_,fun h1 tm=>?_⟩⟩
 ·simp only [Px,Qk,PX] at h;rw [if_neg (by omega),if_pos h.2];refine ⟨?_,?_,?_,trivial⟩ <;> first | trivial | rfl
 ·rw [if_pos (Pt h1)];refine ⟨?_,?_,?_,trivial⟩ <;> first | trivial | rfl
 have h0:ci p=0:=by simpa using Pu h1
 have hth:(decide (0<=k)&&decide (k<256))=true:=by
  rw [QA h0,QL,Bool.not_eq_false'] at h;exact h
 rw [if_neg (by omega),if_neg (by rw [hth]; simp)];obtain ⟨_,hp,_⟩:=zM h0;have hs:(p.map Prod.fst).Pairwise (·<=·):=List.pairwise_map.2 (hp.imp fun h=>Int.le_of_lt h);have hll:(p.map Prod.fst).length=p.length:=Qc _;simp only [Ny,Nz,<- Lx];obtain ⟨l,hl⟩:∃ l,l=p.map Prod.fst:=⟨_,rfl⟩;have hlo:kN p k=ii l k:=by rw [hl]; rfl
 have hha:ow p k=cu l k:=by rw [hl]; rfl
 rw [hlo,hha];rw [<- hl] at hs hll |-;rw [<- hll] at hb |-;refine ⟨⟨by omega,by omega,by omega,fun j hj=>by omega,fun j h2 h3=>by omega⟩,fun ⟨lo,hi⟩ ⟨q1,q2,q3,q4,q5⟩=>⟨fun hlt=>?_,fun hge=>?_⟩⟩
 ·simp only at q1 q2 q3 q4 q5 hlt |-;have hlt:=Pt hlt
  have hm:IntKind.i64.wrap (IntKind.u64.wrap (lo+hi) / 2 ^ Int.toNat 1)=(lo+hi) / 2:=by
   rw [fA (by omega) (by omega),show (2:Int) ^ Int.toNat 1=2 from rfl,jF (by omega) (by omega)]
  simp only [hm];have hm1:lo<=(lo+hi) / 2/\(lo+hi) / 2<hi:=by omega
  generalize (lo+hi) / 2=m at *;simp only [am];refine ⟨by omega,by omega,by decide,by omega,by omega,trivial,fun hc=>⟨by omega,⟨by omega,by omega,by omega,fun j hj=>?_,q5⟩,by omega⟩,fun hc=>⟨⟨by omega,by omega,by omega,q4,fun j h1 h2=>?_⟩,by omega⟩⟩
  ·have hc:=Pt hc;have:=kg hs (i:=j) (j:=m.toNat) (by omega) (by omega);omega
  ·have hc:=Pu hc;have:=kg hs (i:=m.toNat) (j:=j) (by omega) (by omega);omega
 ·simp only at q1 q2 q3 q4 q5 hge |-;have hge:=Pu hge;have he:hi=lo:=by omega
  subst he;obtain ⟨n,rfl⟩:∃ n:Nat,hi=n:=⟨hi.toNat,by omega⟩;have h1:∀ j:Nat,j<n->l.getD j 0<k:=fun j hj=>q4 j (by omega)
  have h2:∀ j:Nat,n<=j->j<l.length->k<=l.getD j 0:=fun j h1 h2=>q5 j (by omega) h2
  rw [Le (by omega) h1 h2,Lf hs h1 h2];refine ⟨fun _=>by omega,fun h=>Pt h,fun _=>trivial,by first | trivial | rfl,?_,by first | trivial | rfl,trivial⟩;simp
theorem GX:MP.ok Tryz.prog 202:=aA (ann:=NG) (ac sg (ac sf (ac K9 ap))) Tryz.func202 (by kernel_rfl) J0
theorem LF {p:List bu} {k:Int} (h:(aI p k).2.2=0):ci p=0/\0<=k/\k<=255/\aI p k=(kN p k,ow p k,0):=by
 unfold aI at h |-;split at h
 ·rename_i h1; exact absurd h h1
 ·rename_i h1;split at h
  ·cases h
  ·rename_i h2;rw [if_neg h1,if_neg h2];have h2:(decide (0<=k)&&decide (k<256))=true:=by simpa using h2
   simp only [Px,Qk] at h2;exact ⟨by omega,h2.1,by omega,rfl⟩
theorem uZ {p:List bu} {k:Int} (h:(aI p k).2.2=0):∃ A B:List bu,aI p k=((A.length:Int),ow p k,0)/\kN p k=A.length/\p.length<=16/\(∀ x∈A,x.1<k)/\(∀ x∈B,k<x.1) /\
  ((ow p k=false/\gk p k=0/\p=A++B)\/(ow p k=true/\1<=gk p k/\gk p k<=1000000/\p=A++(k,gk p k)::B)):=by
 obtain ⟨h1,h2,h3,h4⟩:=LF h;obtain ⟨h5,h6,h7⟩:=zM h1;obtain ⟨A,B,a1,a2,a3,a4⟩:=I4 h6 k;refine ⟨A,B,by rw [h4,a3],a3,h5,a1,a2,?_⟩;rcases a4 with ⟨b1,b2⟩ | ⟨v,b1,b2⟩
 ·refine .inl ⟨?_,?_,b2⟩
  ·rw [De h6,b1]; rfl
  ·unfold gk; rw [b1]; rfl
 ·have hm:gk p k=v:=by unfold gk; rw [b1]; rfl
  have hv:=h7 (k,v) (by rw [b2]; simp);refine .inr ⟨?_,?_,?_,by rw [hm]; exact b2⟩
  ·rw [De h6,b1]; rfl
  ·rw [hm]; exact hv.2.2.1
  ·rw [hm]; exact hv.2.2.2
theorem qS {A B:List bu} {x:bu}:(A++x::B).getD ((A.length:Int)).toNat (0,0)=x:=by simp
theorem E6 {A B:List bu} {x:bu} (y:bu):(A++x::B).set ((A.length:Int)).toNat y=A++y::B:=by simp
theorem Lq {A B:List bu} (x:bu):z7 (A++B) [x] (A.length:Int)=A++x::B:=by simp [z7]
theorem L8 {A B:List bu} {x:bu}:g7 (A++x::B) (A.length:Int) ((A.length:Int)+1)=A++B:=by
 unfold g7;rw [show ((A.length:Int)+1).toNat=A.length+1 by omega];simp
def zx:Spec:={ Ts:=[.arr fB],Rs:=[.own 157 fB],pre:=fun _=>True,F:=fun (x:List bu)=>x }
def pq:Prop :=
  ∀ (x:List (Int×Int)),(x.length * (8+8)<=aF/\∀ (x_1:Int×Int),x_1∈x->am .i64 x_1.1/\am .i64 x_1.2)->True->(x=([]:List (Int×Int))->([]:List (Int×Int))=x/\True)/\(True->(0+x.length) * (8+8)<=aF/\([]:List (Int×Int))++x=x/\True)
theorem wa:pq:=by
 unfold pq;intro x ⟨hb,_⟩ _;simp [hb]
theorem ce:zx.ok Tryz.prog 152:=aA (ann:=cn) ap Tryz.func152 (by kernel_rfl) wa
def ja (p:List bu) (k:Int):List bu×Int×Int :=
 if (aI p k).2.2≠0 then ([],0,(aI p k).2.2) else if gk p k=1000000\/(ow p k=false/\p.length=16) then ([],0,7)
 else ((if ow p k=true then p.set (kN p k).toNat (k,gk p k+1) else z7 p [(k,1)] (kN p k)),gk p k+1,0)
def N1:Spec:={ Ts:=[.arr fB,ty_I],Rs:=[.own 157 fB,.dat ty_I,.dat ty_I],pre:=fun _=>True,F:=fun ((p,k):List bu×Int)=>ja p k }
def KN:Prop :=
  ∀ (x:List (Int×Int)×Int),(fun (v1:type_of% (x.1.getD (aI x.1 x.2).1.toNat (0,0)))=>(fun (v0:type_of% (z7 x.1 [(x.2,0)] (aI x.1 x.2).1))=>(x.1.length * (8+8)<=aF/\∀ (x_1:Int×Int),x_1∈x.1->am .i64 x_1.1/\am .i64 x_1.2)/\am .i64 x.2->True->True/\(decide ((aI x.1 x.2).2.2≠0)=true->([]:List (Int×Int))=(ja x.1 x.2).1/\0=(ja x.1 x.2).2.1/\(aI x.1 x.2).2.2=(ja x.1 x.2).2.2/\True)/\(decide ((aI x.1 x.2).2.2≠0)=false->((aI x.1 x.2).2.1=true->0<=(aI x.1 x.2).1)/\((aI x.1 x.2).2.1=true->(aI x.1 x.2).1<(x.1.length:Int))/\(((aI x.1 x.2).2.1&&decide (v1.2=1000000)||!(aI x.1 x.2).2.1&&decide ((x.1.length:Int)=16))=true->([]:List (Int×Int))=(ja x.1 x.2).1/\0=(ja x.1 x.2).2.1/\7=(ja x.1 x.2).2.2/\True)/\(((aI x.1 x.2).2.1&&decide (v1.2=1000000)||!(aI x.1 x.2).2.1&&decide ((x.1.length:Int)=16))=false->True/\((!(aI x.1 x.2).2.1)=true->(0<[(x.2,0)].length/\0<=(aI x.1 x.2).1/\(aI x.1 x.2).1<=(x.1.length:Int)/\(x.1.length+[(x.2,0)].length) * (8+8)<=aF)/\0<=(aI x.1 x.2).1/\(aI x.1 x.2).1<(v0.length:Int)/\(aI x.1 x.2).1.toNat<v0.length/\am .i64 ((v0.getD (aI x.1 x.2).1.toNat (0,0)).2+1)/\0<=(aI x.1 x.2).1/\(aI x.1 x.2).1<(v0.length:Int)/\(aI x.1 x.2).1.toNat<v0.length/\0<=(aI x.1 x.2).1/\(aI x.1 x.2).1<(↑(v0.set (aI x.1 x.2).1.toNat ((v0.getD (aI x.1 x.2).1.toNat (0,0)).1,(v0.getD (aI x.1 x.2).1.toNat (0,0)).2+1)).length:Int)/\(aI x.1 x.2).1.toNat<(v0.set (aI x.1 x.2).1.toNat ((v0.getD (aI x.1 x.2).1.toNat (0,0)).1,(v0.getD (aI x.1 x.2).1.toNat (0,0)).2+1)).length/\v0.set (aI x.1 x.2).1.toNat ((v0.getD (aI x.1 x.2).1.toNat (0,0)).1,(v0.getD (aI x.1 x.2).1.toNat (0,0)).2+1)=(ja x.1 x.2).1/\((v0.set (aI x.1 x.2).1.toNat ((v0.getD (aI x.1 x.2).1.toNat (0,0)).1,(v0.getD (aI x.1 x.2).1.toNat (0,0)).2+1)).getD (aI x.1 x.2).1.toNat (0,0)).2=(ja x.1 x.2).2.1/\0=(ja x.1 x.2).2.2/\True)/\((!(aI x.1 x.2).2.1)=false->0<=(aI x.1 x.2).1/\(aI x.1 x.2).1<(x.1.length:Int)/\(aI x.1 x.2).1.toNat<x.1.length/\am .i64 (v1.2+1)/\0<=(aI x.1 x.2).1/\(aI x.1 x.2).1<(x.1.length:Int)/\(aI x.1 x.2).1.toNat<x.1.length/\0<=(aI x.1 x.2).1/\(aI x.1 x.2).1<(↑(x.1.set (aI x.1 x.2).1.toNat (v1.1,v1.2+1)).length:Int)/\(aI x.1 x.2).1.toNat<(x.1.set (aI x.1 x.2).1.toNat (v1.1,v1.2+1)).length/\x.1.set (aI x.1 x.2).1.toNat (v1.1,v1.2+1)=(ja x.1 x.2).1/\((x.1.set (aI x.1 x.2).1.toNat (v1.1,v1.2+1)).getD (aI x.1 x.2).1.toNat (0,0)).2=(ja x.1 x.2).2.1/\0=(ja x.1 x.2).2.2/\True)))) (z7 x.1 [(x.2,0)] (aI x.1 x.2).1)) (x.1.getD (aI x.1 x.2).1.toNat (0,0))
theorem MB:KN:=by
 unfold KN;intro ⟨p,k⟩ ⟨⟨hb,_⟩,_⟩ _;unfold aF at hb;simp only at hb |-
 have hF:ja p k=if (aI p k).2.2≠0 then ([],0,(aI p k).2.2) else if gk p k=1000000\/(ow p k=false/\p.length=16) then ([],0,7)
  else ((if ow p k=true then p.set (kN p k).toNat (k,gk p k+1) else z7 p [(k,1)] (kN p k)),gk p k+1,0):=rfl
 rw [hF];refine ⟨trivial,fun h=>?_,fun h=>?_⟩
 ·rw [if_pos (Pt h)];exact ⟨by first | trivial | rfl,by first | trivial | rfl,by first | trivial | rfl,trivial⟩
 have h0:(aI p k).2.2=0:=by simpa using Pu h
 rw [if_neg (by omega)];obtain ⟨A,B,e,e2,hl,_,_,h1⟩:=uZ h0;rw [e,e2];simp only;rcases h1 with ⟨h1,h2,h3⟩ | ⟨h1,h2,h2',h3⟩
 ·rw [h1,h2];subst h3;refine ⟨(fun h=>by cases h),(fun h=>by cases h),fun h=>?_,fun h=>⟨trivial,fun _=>?_,(fun h=>by cases h)⟩⟩
  ·have h:(A++B).length=16:=by
    have:(((A++B).length:Nat):Int)=16:=by simpa using h
    omega
   rw [if_pos (.inr ⟨rfl,h⟩)];exact ⟨by first | trivial | rfl,by first | trivial | rfl,by first | trivial | rfl,trivial⟩
  ·have h:¬ (A++B).length=16:=by
    intro h4;simp only [Sk,QL,Q8,Re,Qw] at h;exact h (by omega)
   have hno:¬ ((0:Int)=1000000\/(false=false/\(A++B).length=16)):=by
    rintro (h4 | h4)
    ·omega
    ·exact h h4.2
   rw [if_neg hno,if_neg (by simp),Lq,Lq,qS,E6,qS];simp only [am,PC,Pz,P4] at *;unfold aF;refine ⟨⟨by omega,by omega,by omega,by omega⟩,by omega,by omega,by omega,by omega,by omega,by omega,by omega,by omega,by omega,by omega,?_,?_,trivial,trivial⟩ <;> first | trivial | rfl
 ·rw [h1];generalize gk p k=v at *;subst h3;rw [qS];refine ⟨fun _=>by omega,fun _=>by simp; omega,fun h=>?_,fun h=>⟨trivial,(fun h=>by cases h),fun _=>?_⟩⟩
  ·have h:v=1000000:=by simpa using h
   rw [if_pos (.inl h)];exact ⟨by first | trivial | rfl,by first | trivial | rfl,by first | trivial | rfl,trivial⟩
  ·have h:v≠1000000:=by simpa using h
   have hno:¬ (v=1000000\/(true=false/\(A++(k,v)::B).length=16)):=by
    rintro (h4 | h4)
    ·exact h h4
    ·exact absurd h4.1 (by simp)
   rw [if_neg hno,if_pos rfl,E6,qS];simp only [am,PC,Pz] at *;refine ⟨by omega,by omega,by omega,by omega,by omega,by omega,by omega,by omega,by omega,by omega,?_,?_,trivial,trivial⟩ <;> first | trivial | rfl
theorem Oh:N1.ok Tryz.prog 140:=aA (ann:=cn) (ac GX (ac ce (fO IU ap))) Tryz.func140 (by kernel_rfl) MB
def eT (p:List bu) (k:Int):List bu×Int×Int :=
 if (aI p k).2.2≠0 then ([],0,(aI p k).2.2) else if ow p k=false then ([],0,5)
 else ((if gk p k=1 then g7 p (kN p k) (kN p k+1) else p.set (kN p k).toNat (k,gk p k - 1)),gk p k - 1,0)
def MQ:Spec:={ Ts:=[.arr fB,ty_I],Rs:=[.own 157 fB,.dat ty_I,.dat ty_I],pre:=fun _=>True,F:=fun ((p,k):List bu×Int)=>eT p k }
def GK:Prop :=
  ∀ (x:List (Int×Int)×Int),(fun (v1:type_of% (x.1.getD (aI x.1 x.2).1.toNat (0,0)))=>(fun (v0:type_of% (x.1.set (aI x.1 x.2).1.toNat (v1.1,v1.2 - 1)))=>(x.1.length * (8+8)<=aF/\∀ (x_1:Int×Int),x_1∈x.1->am .i64 x_1.1/\am .i64 x_1.2)/\am .i64 x.2->True->True/\(decide ((aI x.1 x.2).2.2≠0)=true->([]:List (Int×Int))=(eT x.1 x.2).1/\0=(eT x.1 x.2).2.1/\(aI x.1 x.2).2.2=(eT x.1 x.2).2.2/\True)/\(decide ((aI x.1 x.2).2.2≠0)=false->((!(aI x.1 x.2).2.1)=true->([]:List (Int×Int))=(eT x.1 x.2).1/\0=(eT x.1 x.2).2.1/\5=(eT x.1 x.2).2.2/\True)/\((!(aI x.1 x.2).2.1)=false->True/\0<=(aI x.1 x.2).1/\(aI x.1 x.2).1<(x.1.length:Int)/\(aI x.1 x.2).1.toNat<x.1.length/\am .i64 (v1.2 - 1)/\0<=(aI x.1 x.2).1/\(aI x.1 x.2).1<(x.1.length:Int)/\(aI x.1 x.2).1.toNat<x.1.length/\0<=(aI x.1 x.2).1/\(aI x.1 x.2).1<(v0.length:Int)/\(aI x.1 x.2).1.toNat<v0.length/\(decide ((v0.getD (aI x.1 x.2).1.toNat (0,0)).2=0)=true->am .i64 ((aI x.1 x.2).1+1)/\(0<=(aI x.1 x.2).1/\(aI x.1 x.2).1<(aI x.1 x.2).1+1/\(aI x.1 x.2).1+1<=(v0.length:Int))/\g7 v0 (aI x.1 x.2).1 ((aI x.1 x.2).1+1)=(eT x.1 x.2).1/\(v0.getD (aI x.1 x.2).1.toNat (0,0)).2=(eT x.1 x.2).2.1/\0=(eT x.1 x.2).2.2/\True)/\(decide ((v0.getD (aI x.1 x.2).1.toNat (0,0)).2=0)=false->x.1.set (aI x.1 x.2).1.toNat (v1.1,v1.2 - 1)=(eT x.1 x.2).1/\(v0.getD (aI x.1 x.2).1.toNat (0,0)).2=(eT x.1 x.2).2.1/\0=(eT x.1 x.2).2.2/\True)))) (x.1.set (aI x.1 x.2).1.toNat (v1.1,v1.2 - 1))) (x.1.getD (aI x.1 x.2).1.toNat (0,0))
theorem J1:GK:=by
 unfold GK;intro ⟨p,k⟩ ⟨⟨hb,_⟩,_⟩ _;unfold aF at hb;simp only at hb |-
 have hF:eT p k=if (aI p k).2.2≠0 then ([],0,(aI p k).2.2) else if ow p k=false then ([],0,5)
  else ((if gk p k=1 then g7 p (kN p k) (kN p k+1) else p.set (kN p k).toNat (k,gk p k - 1)),gk p k - 1,0):=rfl
 rw [hF];refine ⟨trivial,fun h=>?_,fun h=>?_⟩
 ·rw [if_pos (Pt h)];exact ⟨by first | trivial | rfl,by first | trivial | rfl,by first | trivial | rfl,trivial⟩
 have h0:(aI p k).2.2=0:=by simpa using Pu h
 rw [if_neg (by omega)];obtain ⟨A,B,e,e2,hl,_,_,h1⟩:=uZ h0;rw [e,e2];simp only;rcases h1 with ⟨h1,h2,h3⟩ | ⟨h1,h2,h2',h3⟩
 ·rw [h1,if_pos rfl];exact ⟨fun _=>⟨by first | trivial | rfl,by first | trivial | rfl,by first | trivial | rfl,trivial⟩,fun h=>by cases h⟩
 ·rw [h1,if_neg (by simp)];generalize gk p k=v at *;subst h3;rw [qS,E6,qS,L8,L8];simp only [am,PC,Pz] at *;refine ⟨(fun h=>by cases h),fun _=>⟨trivial,by omega,by omega,by omega,by omega,by omega,by omega,by omega,by omega,by omega,by omega,fun h=>?_,fun h=>?_⟩⟩
  ·have h:v - 1=0:=Pt h;rw [if_pos (by omega)];exact ⟨by omega,⟨by omega,by omega,by omega⟩,by first | trivial | rfl,by first | trivial | rfl,by first | trivial | rfl,trivial⟩
  ·have h:¬ v - 1=0:=Pu h;rw [if_neg (by omega)];exact ⟨by first | trivial | rfl,by first | trivial | rfl,by first | trivial | rfl,trivial⟩
theorem M7:MQ.ok Tryz.prog 141:=aA (ann:=cn) (ac GX (ac ce (fO IZ ap))) Tryz.func141 (by kernel_rfl) J1
end
section
abbrev ck:Ty:=.pair ty_I (.pair .bool ty_I)
abbrev b9:=Int×Bool×Int
def EX:Spec:={ Ts:=[.arr ck,.fn ck .bool],Rs:=[.dat ty_I],pre:=fun ((l,g):List b9×(b9->Prop)×(b9->Bool))=>∀ s∈l,g.1 s,F:=fun ((l,g):List b9×(b9->Prop)×(b9->Bool))=>ah g.2 0 l }
def Gh:Nat->Option LoopGen
 | 2=>some { rd:=[.dat 0 (.arr ck),.dat 1 (.fn ck .bool)],A:=fun ((l,g):List b9×(b9->Prop)×(b9->Bool))=>{ cs:=[.dat 8 ty_I],inv:=fun (i:Int)=>0<=i/\i<=l.length/\ah g.2 i (l.drop i.toNat)=ah g.2 0 l,mu:=fun (i:Int)=>(l.length - i).toNat } }
 | _=>none
def ug:Prop :=
  ∀ (x:List (Int×Bool×Int)×(Int×Bool×Int->Prop)×(Int×Bool×Int->Bool)),(x.1.length * (8+(8+8))<=aF/\∀ (x_1:Int×Bool×Int),x_1∈x.1->am .i64 x_1.1/\True/\am .i64 x_1.2.2)/\True->(∀ (s:b9),s∈x.1->x.2.1 s)->((0:Int)<=0/\0<=(x.1.length:Int)/\ah x.2.2 0 (List.drop (Int.toNat 0) x.1)=ah x.2.2 0 x.1)/\∀ (x_1:Int),0<=x_1/\x_1<=(x.1.length:Int)/\ah x.2.2 x_1 (List.drop x_1.toNat x.1)=ah x.2.2 0 x.1->(decide (x_1<(x.1.length:Int))=true->0<=x_1/\x_1<(x.1.length:Int)/\x.2.1 (x.1.getD x_1.toNat (0,false,0))/\(x.2.2 (x.1.getD x_1.toNat (0,false,0))=true->x_1=ah x.2.2 0 x.1/\True)/\(x.2.2 (x.1.getD x_1.toNat (0,false,0))=false->am .i64 (x_1+1)/\(0<=x_1+1/\x_1+1<=(x.1.length:Int)/\ah x.2.2 (x_1+1) (List.drop (x_1+1).toNat x.1)=ah x.2.2 0 x.1)/\((x.1.length:Int) - (x_1+1)).toNat<((x.1.length:Int) - x_1).toNat))/\(decide (x_1<(x.1.length:Int))=false->(-1)=ah x.2.2 0 x.1/\True)
theorem Be:ug:=by
 unfold ug;intro ⟨l,g⟩ ⟨⟨hl,_⟩,_⟩ hp;unfold aF at *;refine ⟨⟨by omega,by omega,by simp⟩,fun i ⟨h0,h1,h2⟩=>⟨fun hlt=>?_,fun hge=>?_⟩⟩
 ·have hlt:i<(l.length:Int):=by simpa using hlt
  have e:=bg ((0,false,0):b9) h0 hlt;have hm:=hp _ (aH ((0,false,0):b9) h0 hlt);simp only at *;rw [e] at h2;simp only [ah] at h2;refine ⟨h0,hlt,hm,fun hc=>?_,fun hc=>?_⟩
  ·rw [if_pos hc] at h2;exact ⟨h2,trivial⟩
  ·rw [if_neg (by rw [hc]; simp)] at h2;exact ⟨by simp only [am]; omega,⟨by omega,by omega,h2⟩,by omega⟩
 ·rw [b6 (by simpa using hge)] at h2;exact ⟨h2,trivial⟩
theorem Fy:EX.ok Tryz.prog 205:=aA (ann:=Gh) ap Tryz.func205 (by kernel_rfl) Be
def Im:Spec:={ Ts:=[.arr ty_I,.fn ty_I .bool],Rs:=[.dat ty_I],pre:=fun ((l,g):List Int×(Int->Prop)×(Int->Bool))=>∀ s∈l,g.1 s,F:=fun ((l,g):List Int×(Int->Prop)×(Int->Bool))=>ah g.2 0 l }
def JL:Nat->Option LoopGen
 | 2=>some { rd:=[.dat 0 (.arr ty_I),.dat 1 (.fn ty_I .bool)],A:=fun ((l,g):List Int×(Int->Prop)×(Int->Bool))=>{ cs:=[.dat 8 ty_I],inv:=fun (i:Int)=>0<=i/\i<=l.length/\ah g.2 i (l.drop i.toNat)=ah g.2 0 l,mu:=fun (i:Int)=>(l.length - i).toNat } }
 | _=>none
def xH:Prop :=
  ∀ (x:List Int×(Int->Prop)×(Int->Bool)),(x.1.length * 8<=aF/\∀ (x_1:Int),x_1∈x.1->am .i64 x_1)/\True->(∀ (s:Int),s∈x.1->x.2.1 s)->((0:Int)<=0/\0<=(x.1.length:Int)/\ah x.2.2 0 (List.drop (Int.toNat 0) x.1)=ah x.2.2 0 x.1)/\∀ (x_1:Int),0<=x_1/\x_1<=(x.1.length:Int)/\ah x.2.2 x_1 (List.drop x_1.toNat x.1)=ah x.2.2 0 x.1->(decide (x_1<(x.1.length:Int))=true->0<=x_1/\x_1<(x.1.length:Int)/\x.2.1 (x.1.getD x_1.toNat 0)/\(x.2.2 (x.1.getD x_1.toNat 0)=true->x_1=ah x.2.2 0 x.1/\True)/\(x.2.2 (x.1.getD x_1.toNat 0)=false->am .i64 (x_1+1)/\(0<=x_1+1/\x_1+1<=(x.1.length:Int)/\ah x.2.2 (x_1+1) (List.drop (x_1+1).toNat x.1)=ah x.2.2 0 x.1)/\((x.1.length:Int) - (x_1+1)).toNat<((x.1.length:Int) - x_1).toNat))/\(decide (x_1<(x.1.length:Int))=false->(-1)=ah x.2.2 0 x.1/\True)
theorem En:xH:=by
 unfold xH;intro ⟨l,g⟩ ⟨⟨hl,_⟩,_⟩ hp;unfold aF at *;refine ⟨⟨by omega,by omega,by simp⟩,fun i ⟨h0,h1,h2⟩=>⟨fun hlt=>?_,fun hge=>?_⟩⟩
 ·have hlt:i<(l.length:Int):=by simpa using hlt
  have e:=bg (0:Int) h0 hlt;have hm:=hp _ (aH (0:Int) h0 hlt);simp only at *;rw [e] at h2;simp only [ah] at h2;refine ⟨h0,hlt,hm,fun hc=>?_,fun hc=>?_⟩
  ·rw [if_pos hc] at h2;exact ⟨h2,trivial⟩
  ·rw [if_neg (by rw [hc]; simp)] at h2;exact ⟨by simp only [am]; omega,⟨by omega,by omega,h2⟩,by omega⟩
 ·rw [b6 (by simpa using hge)] at h2;exact ⟨h2,trivial⟩
theorem IV:Im.ok Tryz.prog 107:=aA (ann:=JL) ap Tryz.func107 (by kernel_rfl) En
def It:Spec:={ Ts:=[.arr ty_I,.fn ty_I .bool],Rs:=[.dat .bool],pre:=fun ((l,g):List Int×(Int->Prop)×(Int->Bool))=>∀ s∈l,g.1 s,F:=fun ((l,g):List Int×(Int->Prop)×(Int->Bool))=>l.any g.2 }
def xM:Prop :=
  ∀ (x:List Int×(Int->Prop)×(Int->Bool)),(x.1.length * 8<=aF/\∀ (x_1:Int),x_1∈x.1->am .i64 x_1)/\True->(∀ (s:Int),s∈x.1->x.2.1 s)->(∀ (s:Int),s∈x.1->x.2.1 s)/\decide (0<=ah x.2.2 0 x.1)=x.1.any x.2.2/\True
theorem Et:xM:=by
 unfold xM;intro ⟨l,g⟩ _ hp;exact ⟨hp,ei g.2 l 0 (by omega),trivial⟩
theorem I1:It.ok Tryz.prog 37:=aA (ann:=cn) (ac IV ap) Tryz.func37 (by kernel_rfl) Et
def wo:Spec:={ Ts:=[.arr ck],Rs:=[.own 135 ck],pre:=fun _=>True,F:=fun (x:List b9)=>x }
def nE:Prop :=
  ∀ (x:List (Int×Bool×Int)),(x.length * (8+(8+8))<=aF/\∀ (x_1:Int×Bool×Int),x_1∈x->am .i64 x_1.1/\True/\am .i64 x_1.2.2)->True->(x=([]:List (Int×Bool×Int))->([]:List (Int×Bool×Int))=x/\True)/\(True->(0+x.length) * (8+(8+8))<=aF/\([]:List (Int×Bool×Int))++x=x/\True)
theorem tr:nE:=by
 unfold nE;intro x ⟨hb,_⟩ _;simp [hb]
theorem bP:wo.ok Tryz.prog 153:=aA (ann:=cn) ap Tryz.func153 (by kernel_rfl) tr
def fC (v:Int):Bool:=decide (0<=v)&&decide (v<256)
def zu:Spec:={ Ts:=[ty_I],Rs:=[.dat .bool],pre:=fun _=>True,F:=fC }
def pn:Prop :=
  ∀ (x:Int),am .i64 x->True->(decide (0<=x)&&decide (x<256))=fC x/\True
theorem vY:pn:=by
 unfold pn;intro v _ _;simp [fC]
theorem lH:zu.ok Tryz.prog 147:=aA (ann:=cn) ap Tryz.func147 (by kernel_rfl) vY
def BH:Spec:={ Ts:=[ty_I],Rs:=[.dat .bool],pre:=fun _=>True,F:=fun (v:Int)=>!fC v }
def rJ:Prop :=
  ∀ (x:Int),am .i64 x->True->True/\(!fC x)=!fC x/\True
theorem yM:rJ:=by
 unfold rJ;intro v _ _;simp
theorem CN:BH.ok Tryz.prog 221:=aA (ann:=cn) (ac lH ap) Tryz.func221 (by kernel_rfl) yM
def aS (s:b9):Bool:=!s.2.1&&decide (s.1<65535)
def BW:Spec:={ Ts:=[ck],Rs:=[.dat .bool],pre:=fun _=>True,F:=aS }
def rX:Prop :=
  ∀ (x:Int×Bool×Int),am .i64 x.1/\True/\am .i64 x.2.2->True->(!x.2.1&&decide (x.1<65535))=aS x/\True
theorem y5:rX:=by
 unfold rX;intro s _ _;simp [aS]
theorem CW:BW.ok Tryz.prog 206:=aA (ann:=cn) ap Tryz.func206 (by kernel_rfl) y5
def jo (s:b9):Int:=if s.1<0\/65535<s.1\/s.2.2<0\/255<s.2.2 then 4 else if (s.2.1=true/\s.1=0)\/(s.2.1=false/\s.2.2≠0) then 3 else 0
def bK:List b9->Int
 | []=>0
 | s::l=>if jo s≠0 then jo s else bK l
def aT (h:List b9):Int:=if 16<h.length then 2 else bK h
def zw:Spec:={ Ts:=[.arr ck],Rs:=[.dat ty_I],pre:=fun _=>True,F:=aT }
def AS:Nat->Option LoopGen
 | 4=>some { rd:=[.dat 8 (.arr ck)],A:=fun (h:List b9)=>{ cs:=[.dat 10 ty_I],inv:=fun (i:Int)=>0<=i/\i<=h.length/\h.length<=16/\bK (h.drop i.toNat)=bK h,mu:=fun (i:Int)=>(h.length - i).toNat } }
 | _=>none
def pp:Prop :=
  ∀ (x:List (Int×Bool×Int)),(x.length * (8+(8+8))<=aF/\∀ (x_1:Int×Bool×Int),x_1∈x->am .i64 x_1.1/\True/\am .i64 x_1.2.2)->True->(decide (16<(x.length:Int))=true->2=aT x/\True)/\(decide (16<(x.length:Int))=false->((0:Int)<=0/\0<=(x.length:Int)/\x.length<=16/\bK (List.drop (Int.toNat 0) x)=bK x)/\∀ (x_1:Int),(fun (v0:type_of% (x.getD x_1.toNat (0,false,0)))=>0<=x_1/\x_1<=(x.length:Int)/\x.length<=16/\bK (List.drop x_1.toNat x)=bK x->(decide (x_1<(x.length:Int))=true->0<=x_1/\x_1<(x.length:Int)/\((decide (v0.1<0)||decide (65535<v0.1))=false->True)/\((decide (v0.1<0)||decide (65535<v0.1)||!fC v0.2.2)=true->4=aT x/\True)/\((decide (v0.1<0)||decide (65535<v0.1)||!fC v0.2.2)=false->((v0.2.1&&decide (v0.1=0)||!v0.2.1&&decide (v0.2.2≠0))=true->3=aT x/\True)/\((v0.2.1&&decide (v0.1=0)||!v0.2.1&&decide (v0.2.2≠0))=false->am .i64 (x_1+1)/\(0<=x_1+1/\x_1+1<=(x.length:Int)/\x.length<=16/\bK (List.drop (x_1+1).toNat x)=bK x)/\((x.length:Int) - (x_1+1)).toNat<((x.length:Int) - x_1).toNat)))/\(decide (x_1<(x.length:Int))=false->0=aT x/\True)) (x.getD x_1.toNat (0,false,0)))
theorem v8:pp:=by
 unfold pp;intro h ⟨hb,hw⟩ _;unfold aF at *;refine ⟨fun hl=>?_,fun hl=>⟨⟨by omega,by omega,by have:=Pu hl; omega,by simp⟩,fun i ⟨h0,h1,h2,h3⟩=>⟨fun hlt=>?_,fun hge=>?_⟩⟩⟩
 ·have:=Pt hl;unfold aT;rw [if_pos (by omega)];exact ⟨rfl,trivial⟩
 ·have hlt:i<(h.length:Int):=by simpa using hlt
  have e:=bg ((0,false,0):b9) h0 hlt;have hF:aT h=bK h:=by unfold aT; rw [if_neg (by omega)]
  rw [hF,<- h3,e];simp only [bK,jo,fC,am];generalize h.getD i.toNat (0,false,0)=s at *;obtain ⟨g,o,a⟩:=s;simp only;cases o <;> grind
 ·have hF:aT h=bK h:=by unfold aT; rw [if_neg (by omega)]
  rw [b6 (by simpa using hge)] at h3;rw [hF,<- h3];exact ⟨rfl,trivial⟩
theorem jt:zw.ok Tryz.prog 75:=aA (ann:=AS) (ac lH ap) Tryz.func75 (by kernel_rfl) v8
def gp (i:Int) (s:b9):Int:=i+65536 * s.1
def BQ:Spec:={ Ts:=[ty_I,ck],Rs:=[.dat bo],pre:=fun ((i,s):Int×b9)=>0<=i/\i<65536/\0<=s.1/\s.1<=65535,F:=fun ((i,s):Int×b9)=>gp i s }
def rR:Prop :=
  ∀ (x:Int×Int×Bool×Int),am .i64 x.1/\am .i64 x.2.1/\True/\am .i64 x.2.2.2->0<=x.1/\x.1<65536/\0<=x.2.1/\x.2.1<=65535->(0:Int)<=16/\16<(↑IntKind.u64.bits:Int)/\(↑((IntKind.u64.wrap x.1).toNat ||| (IntKind.u64.wrap (IntKind.u64.wrap x.2.1 * 2 ^ Int.toNat 16)).toNat):Int)=gp x.1 x.2/\True
theorem yU:rR:=by
 unfold rR;intro ⟨i,s⟩ _ ⟨h0,h1,h2,h3⟩;simp only at *;refine ⟨by omega,by rw [O8]; omega,?_,trivial⟩;have e:(2:Int) ^ Int.toNat 16=65536:=rfl;have e3:(2:Int) ^ 16=65536:=rfl;have k:=sZ (a:=i) (b:=s.1) (i:=16) h0 h2 (by rw [e3]; omega);rw [e3] at k;rw [fA (n:=i) (by omega) (by omega),fA (n:=s.1) h2 (by omega),e,fA (n:=s.1 * 65536) (by omega) (by omega),k];simp only [gp];omega
theorem sj:BQ.ok Tryz.prog 76:=aA (ann:=cn) ap Tryz.func76 (by kernel_rfl) yU
theorem lY:∀ {h:List b9},bK h=0->∀ s∈h,jo s=0
 | [],_=>by simp
 | x::l,h=>by
  simp only [bK] at h;split at h
  ·omega
  ·intro s hs;rcases PD.1 hs with rfl | hs
   ·omega
   ·exact lY h s hs
theorem mR {h:List b9} (hf:aT h=0):h.length<=16/\∀ s∈h,0<=s.1/\s.1<=65535/\0<=s.2.2/\s.2.2<=255:=by
 unfold aT at hf;split at hf
 ·omega
 ·refine ⟨by omega,fun s hs=>?_⟩;have:=lY hf s hs;unfold jo at this;split at this <;> omega
def cD (h:List b9) (n:Int):Int×Int :=
 if aT h≠0 then (0,aT h) else if n % 65536<h.length/\(h.getD (n % 65536).toNat (0,false,0)).2.1=true/\gp (n % 65536) (h.getD (n % 65536).toNat (0,false,0))=n then (n % 65536,0) else (0,9)
def BS:Spec:={ Ts:=[.arr ck,bo],Rs:=[.dat ty_I,.dat ty_I],pre:=fun _=>True,F:=fun ((h,n):List b9×Int)=>cD h n }
def rT:Prop :=
  ∀ (x:List (Int×Bool×Int)×Int),(x.1.length * (8+(8+8))<=aF/\∀ (x_1:Int×Bool×Int),x_1∈x.1->am .i64 x_1.1/\True/\am .i64 x_1.2.2)/\am .u64 x.2->True->True/\(decide (aT x.1≠0)=true->0=(cD x.1 x.2).1/\aT x.1=(cD x.1 x.2).2/\True)/\(decide (aT x.1≠0)=false->(decide (IntKind.u64.wrap (x.1.length:Int)<=(↑(x.2.toNat &&& Int.toNat 65535):Int))=false->0<=(↑(x.2.toNat &&& Int.toNat 65535):Int))/\(decide (IntKind.u64.wrap (x.1.length:Int)<=(↑(x.2.toNat &&& Int.toNat 65535):Int))=false->(↑(x.2.toNat &&& Int.toNat 65535):Int)<(x.1.length:Int))/\((decide (IntKind.u64.wrap (x.1.length:Int)<=(↑(x.2.toNat &&& Int.toNat 65535):Int))||!(x.1.getD (↑(x.2.toNat &&& Int.toNat 65535):Int).toNat (0,false,0)).2.1)=false->0<=(↑(x.2.toNat &&& Int.toNat 65535):Int))/\((decide (IntKind.u64.wrap (x.1.length:Int)<=(↑(x.2.toNat &&& Int.toNat 65535):Int))||!(x.1.getD (↑(x.2.toNat &&& Int.toNat 65535):Int).toNat (0,false,0)).2.1)=false->(↑(x.2.toNat &&& Int.toNat 65535):Int)<(x.1.length:Int))/\((decide (IntKind.u64.wrap (x.1.length:Int)<=(↑(x.2.toNat &&& Int.toNat 65535):Int))||!(x.1.getD (↑(x.2.toNat &&& Int.toNat 65535):Int).toNat (0,false,0)).2.1)=false->0<=IntKind.i64.wrap (↑(x.2.toNat &&& Int.toNat 65535):Int)/\IntKind.i64.wrap (↑(x.2.toNat &&& Int.toNat 65535):Int)<65536/\0<=(x.1.getD (↑(x.2.toNat &&& Int.toNat 65535):Int).toNat (0,false,0)).1/\(x.1.getD (↑(x.2.toNat &&& Int.toNat 65535):Int).toNat (0,false,0)).1<=65535)/\((decide (IntKind.u64.wrap (x.1.length:Int)<=(↑(x.2.toNat &&& Int.toNat 65535):Int))||!(x.1.getD (↑(x.2.toNat &&& Int.toNat 65535):Int).toNat (0,false,0)).2.1||decide (gp (IntKind.i64.wrap (↑(x.2.toNat &&& Int.toNat 65535):Int)) (x.1.getD (↑(x.2.toNat &&& Int.toNat 65535):Int).toNat (0,false,0))≠x.2))=true->0=(cD x.1 x.2).1/\9=(cD x.1 x.2).2/\True)/\((decide (IntKind.u64.wrap (x.1.length:Int)<=(↑(x.2.toNat &&& Int.toNat 65535):Int))||!(x.1.getD (↑(x.2.toNat &&& Int.toNat 65535):Int).toNat (0,false,0)).2.1||decide (gp (IntKind.i64.wrap (↑(x.2.toNat &&& Int.toNat 65535):Int)) (x.1.getD (↑(x.2.toNat &&& Int.toNat 65535):Int).toNat (0,false,0))≠x.2))=false->IntKind.i64.wrap (↑(x.2.toNat &&& Int.toNat 65535):Int)=(cD x.1 x.2).1/\0=(cD x.1 x.2).2/\True))
theorem yW:rT:=by
 unfold rT;intro ⟨h,n⟩ ⟨⟨hb,hw⟩,hn⟩ _;simp only [am] at hn
 have hand:((n.toNat &&& Int.toNat 65535:Nat):Int)=n % 65536:=by
  have:=mN hn.1 16;simpa using this
 simp only at *;rw [hand];have h0:0<=n % 65536:=by omega
 have h1:n % 65536<65536:=by omega
 rw [jF (n:=n % 65536) (by omega) (by omega)];have hl:IntKind.u64.wrap (h.length:Int)=h.length:=fA (by omega) (by unfold aF at hb; omega);rw [hl];simp only [cD];refine ⟨trivial,fun hf=>by grind,fun hf=>?_⟩;have hf:aT h=0:=by simpa using hf
 obtain ⟨z1,z2⟩:=mR hf
 have hm:n % 65536<h.length->0<=(h.getD (n % 65536).toNat (0,false,0)).1/\(h.getD (n % 65536).toNat (0,false,0)).1<=65535:=fun hlt=>by
  have:=z2 _ (aH (0,false,0) h0 hlt);omega
 generalize h.getD (n % 65536).toNat (0,false,0)=s at *;generalize n % 65536=i at *;simp only [hf,gp];obtain ⟨g,o,a⟩:=s;cases o <;> simp only at * <;> grind
theorem sk:BS.ok Tryz.prog 207:=aA (ann:=cn) (ac jt (ac sj ap)) Tryz.func207 (by kernel_rfl) yW
def iu (h:List b9) (n:Int):Int×Int:=if (cD h n).2≠0 then (0,(cD h n).2) else ((h.getD (cD h n).1.toNat (0,false,0)).2.2,0)
def BR:Spec:={ Ts:=[.arr ck,bo],Rs:=[.dat ty_I,.dat ty_I],pre:=fun _=>True,F:=fun ((h,n):List b9×Int)=>iu h n }
def rS:Prop :=
  ∀ (x:List (Int×Bool×Int)×Int),(x.1.length * (8+(8+8))<=aF/\∀ (x_1:Int×Bool×Int),x_1∈x.1->am .i64 x_1.1/\True/\am .i64 x_1.2.2)/\am .u64 x.2->True->True/\(decide ((cD x.1 x.2).2≠0)=true->0=(iu x.1 x.2).1/\(cD x.1 x.2).2=(iu x.1 x.2).2/\True)/\(decide ((cD x.1 x.2).2≠0)=false->0<=(cD x.1 x.2).1/\(cD x.1 x.2).1<(x.1.length:Int)/\(x.1.getD (cD x.1 x.2).1.toNat (0,false,0)).2.2=(iu x.1 x.2).1/\0=(iu x.1 x.2).2/\True)
theorem yV:rS:=by
 unfold rS;intro ⟨h,n⟩ ⟨_,hn⟩ _;simp only [am] at hn
 have hr:(cD h n).2=0->0<=(cD h n).1/\(cD h n).1<h.length:=by
  unfold cD
  grind
 simp only [iu] at *;generalize cD h n=f at *
 grind
theorem CU:BR.ok Tryz.prog 145:=aA (ann:=cn) (ac sk ap) Tryz.func145 (by kernel_rfl) yV
def ft (h:List b9) (n:Int):List b9×Int:=if (cD h n).2≠0 then ([],(cD h n).2) else (h.set (cD h n).1.toNat ((h.getD (cD h n).1.toNat (0,false,0)).1,false,0),0)
def zv:Spec:={ Ts:=[.arr ck,bo],Rs:=[.own 135 ck,.dat ty_I],pre:=fun _=>True,F:=fun ((h,n):List b9×Int)=>ft h n }
def po:Prop :=
  ∀ (x:List (Int×Bool×Int)×Int),(x.1.length * (8+(8+8))<=aF/\∀ (x_1:Int×Bool×Int),x_1∈x.1->am .i64 x_1.1/\True/\am .i64 x_1.2.2)/\am .u64 x.2->True->True/\(decide ((cD x.1 x.2).2≠0)=true->([]:List (Int×Bool×Int))=(ft x.1 x.2).1/\(cD x.1 x.2).2=(ft x.1 x.2).2/\True)/\(decide ((cD x.1 x.2).2≠0)=false->True/\0<=(cD x.1 x.2).1/\(cD x.1 x.2).1<(x.1.length:Int)/\0<=(cD x.1 x.2).1/\(cD x.1 x.2).1<(x.1.length:Int)/\(cD x.1 x.2).1.toNat<x.1.length/\x.1.set (cD x.1 x.2).1.toNat ((x.1.getD (cD x.1 x.2).1.toNat (0,false,0)).1,false,0)=(ft x.1 x.2).1/\0=(ft x.1 x.2).2/\True)
theorem vZ:po:=by
 unfold po;intro ⟨h,n⟩ ⟨_,hn⟩ _;simp only [am] at hn
 have hr:(cD h n).2=0->0<=(cD h n).1/\(cD h n).1<h.length:=by
  unfold cD
  grind
 simp only [ft] at *;generalize cD h n=f at *
 grind
theorem zS:zv.ok Tryz.prog 146:=aA (ann:=cn) (ac sk (ac bP ap)) Tryz.func146 (by kernel_rfl) vZ
def dZ (n:Int):List b9×Int:=if n<0\/16<n then ([],4) else (List.replicate n.toNat (0,false,0),0)
def EY:Spec:={ Ts:=[ty_I],Rs:=[.own 135 ck,.dat ty_I],pre:=fun _=>True,F:=dZ }
def uh:Prop :=
  ∀ (x:Int),am .i64 x->True->((decide (x<0)||decide (16<x))=true->([]:List (Int×Bool×Int))=(dZ x).1/\4=(dZ x).2/\True)/\((decide (x<0)||decide (16<x))=false->0<=x/\x.toNat * (8+(8+8))<=aF/\List.replicate x.toNat (0,false,0)=(dZ x).1/\0=(dZ x).2/\True)
theorem Bf:uh:=by
 unfold uh;intro n hw _;simp only [am,dZ,aF] at *
 grind
theorem Fz:EY.ok Tryz.prog 55:=aA (ann:=cn) ap Tryz.func55 (by kernel_rfl) Bf
def uu (h:List b9) (i at_:Int):b9:=((h.getD i.toNat (0,false,0)).1+1,true,at_)
def eA (h:List b9) (at_:Int):List b9×Int×Int :=
 if aT h≠0 then ([],0,aT h) else if fC at_=false then ([],0,4) else if ah aS 0 h<0 then ([],0,7)
 else (h.set (ah aS 0 h).toNat (uu h (ah aS 0 h) at_),gp (ah aS 0 h) (uu h (ah aS 0 h) at_),0)
def DS:Nat->Option LoopGen
 | 1000003=>some { rd:=[.dat 0 (.arr ck),.dat 1 ty_I],A:=fun ((h,at_):List b9×Int)=>{ cs:=[.dat 7 ty_I],inv:=fun (e:Int)=>e=if aT h≠0 then aT h else if fC at_=false then 4 else 0,mu:=fun _=>0 } }
 | _=>none
def BP:Spec:={ Ts:=[.arr ck,ty_I],Rs:=[.own 135 ck,.dat bo,.dat ty_I],pre:=fun _=>True,F:=fun ((h,at_):List b9×Int)=>eA h at_ }
def rQ:Prop :=
  ∀ (x:List (Int×Bool×Int)×Int),(x.1.length * (8+(8+8))<=aF/\∀ (x_1:Int×Bool×Int),x_1∈x.1->am .i64 x_1.1/\True/\am .i64 x_1.2.2)/\am .i64 x.2->True->True/\(decide (aT x.1=0)=true->True)/\(((decide (aT x.1=0)&&!fC x.2)=true->(4:Int)=if aT x.1≠0 then aT x.1 else if fC x.2=false then (4:Int) else (0:Int))/\((decide (aT x.1=0)&&!fC x.2)=false->aT x.1=if aT x.1≠0 then aT x.1 else if fC x.2=false then (4:Int) else (0:Int)))/\∀ (x_1:Int),(x_1=if aT x.1≠0 then aT x.1 else if fC x.2=false then (4:Int) else (0:Int))->(decide (x_1≠0)=true->([]:List (Int×Bool×Int))=(eA x.1 x.2).1/\0=(eA x.1 x.2).2.1/\x_1=(eA x.1 x.2).2.2/\True)/\(decide (x_1≠0)=false->(∀ (s:b9),s∈x.1->(fun (_:Int×Bool×Int)=>True,fun (x:Int×Bool×Int)=>aS x).1 s)/\(decide (ah (fun (x:Int×Bool×Int)=>aS x) 0 x.1<0)=true->([]:List (Int×Bool×Int))=(eA x.1 x.2).1/\0=(eA x.1 x.2).2.1/\7=(eA x.1 x.2).2.2/\True)/\(decide (ah (fun (x:Int×Bool×Int)=>aS x) 0 x.1<0)=false->True/\0<=ah (fun (x:Int×Bool×Int)=>aS x) 0 x.1/\ah (fun (x:Int×Bool×Int)=>aS x) 0 x.1<(x.1.length:Int)/\am .i64 ((x.1.getD (ah (fun (x:Int×Bool×Int)=>aS x) 0 x.1).toNat (0,false,0)).1+1)/\0<=ah (fun (x:Int×Bool×Int)=>aS x) 0 x.1/\ah (fun (x:Int×Bool×Int)=>aS x) 0 x.1<(x.1.length:Int)/\(ah (fun (x:Int×Bool×Int)=>aS x) 0 x.1).toNat<x.1.length/\0<=ah (fun (x:Int×Bool×Int)=>aS x) 0 x.1/\ah (fun (x:Int×Bool×Int)=>aS x) 0 x.1<(↑(x.1.set (ah (fun (x:Int×Bool×Int)=>aS x) 0 x.1).toNat ((x.1.getD (ah (fun (x:Int×Bool×Int)=>aS x) 0 x.1).toNat (0,false,0)).1+1,true,x.2)).length:Int)/\(ah (fun (x:Int×Bool×Int)=>aS x) 0 x.1).toNat<(x.1.set (ah (fun (x:Int×Bool×Int)=>aS x) 0 x.1).toNat ((x.1.getD (ah (fun (x:Int×Bool×Int)=>aS x) 0 x.1).toNat (0,false,0)).1+1,true,x.2)).length/\(0<=ah (fun (x:Int×Bool×Int)=>aS x) 0 x.1/\ah (fun (x:Int×Bool×Int)=>aS x) 0 x.1<65536/\0<=((x.1.set (ah (fun (x:Int×Bool×Int)=>aS x) 0 x.1).toNat ((x.1.getD (ah (fun (x:Int×Bool×Int)=>aS x) 0 x.1).toNat (0,false,0)).1+1,true,x.2)).getD (ah (fun (x:Int×Bool×Int)=>aS x) 0 x.1).toNat (0,false,0)).1/\((x.1.set (ah (fun (x:Int×Bool×Int)=>aS x) 0 x.1).toNat ((x.1.getD (ah (fun (x:Int×Bool×Int)=>aS x) 0 x.1).toNat (0,false,0)).1+1,true,x.2)).getD (ah (fun (x:Int×Bool×Int)=>aS x) 0 x.1).toNat (0,false,0)).1<=65535)/\x.1.set (ah (fun (x:Int×Bool×Int)=>aS x) 0 x.1).toNat ((x.1.getD (ah (fun (x:Int×Bool×Int)=>aS x) 0 x.1).toNat (0,false,0)).1+1,true,x.2)=(eA x.1 x.2).1/\gp (ah (fun (x:Int×Bool×Int)=>aS x) 0 x.1) ((x.1.set (ah (fun (x:Int×Bool×Int)=>aS x) 0 x.1).toNat ((x.1.getD (ah (fun (x:Int×Bool×Int)=>aS x) 0 x.1).toNat (0,false,0)).1+1,true,x.2)).getD (ah (fun (x:Int×Bool×Int)=>aS x) 0 x.1).toNat (0,false,0))=(eA x.1 x.2).2.1/\0=(eA x.1 x.2).2.2/\True))
theorem yT:rQ:=by
 unfold rQ;intro ⟨h,at_⟩ ⟨⟨_,hw⟩,ha⟩ _;simp only at *;refine ⟨trivial,fun _=>trivial,⟨fun hc=>by grind,fun hc=>by grind⟩,fun e he=>⟨fun hz=>by unfold eA; grind,fun hz=>?_⟩⟩;have hz:e=0:=by simpa using hz
 have hf:aT h=0:=by grind
 have ht:fC at_=true:=by grind
 obtain ⟨z1,z2⟩:=mR hf
 have hO:eA h at_=if ah aS 0 h<0 then ([],0,7) else (h.set (ah aS 0 h).toNat (uu h (ah aS 0 h) at_),gp (ah aS 0 h) (uu h (ah aS 0 h) at_),0):=by
  unfold eA;simp [hf,ht]
 rw [hO];have hk:=eh aS ((0,false,0):b9) h 0 (by omega);have hr:=im aS h 0;have hg:=fun q=>gX aS ((0,false,0):b9) h 0 q (by omega)
 generalize ah aS 0 h=i at *;refine ⟨fun _ _=>trivial,fun hi=>by rw [if_pos (Pt hi)]; exact ⟨rfl,rfl,rfl,trivial⟩,fun hi=>?_⟩;have hi:0<=i:=by have:=Pu hi; omega
 have hlt:i<h.length:=by omega
 have hgi:=hg hi;have hm:=z2 _ (aH ((0,false,0):b9) hi hlt);simp only [Sb] at hgi;rw [if_neg (by omega)];have hgs:∀ v:b9,(h.set i.toNat v).getD i.toNat (0,false,0)=v:=fun v=>by simp [show i.toNat<h.length by omega]
 simp only [hgs,Ra,uu];unfold aS at hgi;generalize h.getD i.toNat (0,false,0)=s at *;simp only [Px,Qk] at hgi;refine ⟨trivial,by omega,by omega,by simp only [am]; omega,by omega,by omega,by omega,by omega,by omega,by omega,⟨by omega,by omega,by omega,by omega⟩,by simp⟩
theorem CT:BP.ok Tryz.prog 143:=aA (ann:=DS) (ac jt (ac lH (ac Fy (ac bP (ac sj (ac CW ap)))))) Tryz.func143 (by kernel_rfl) yT
theorem qK {α:Type} (f:α->α) (h:List α) (i:Nat):((h.take i).map f++h.drop i).length=h.length:=by simp; omega
theorem x6 {α:Type} (f:α->α) (h:List α) (d:α) (i:Nat) (hi:i<h.length):((h.take i).map f++h.drop i).getD i d=h.getD i d:=by
 simp only [List.getD_eq_getElem?_getD];rw [List.getElem?_append_right (by simp; omega)];simp [show min i h.length=i by omega]
theorem x5 {α:Type} (f:α->α) (h:List α) (d:α) (i:Nat) (hi:i<h.length):((h.take i).map f++h.drop i).set i (f (h.getD i d))=(h.take (i+1)).map f++h.drop (i+1):=by
 have l1:((h.take i).map f).length=i:=by simp; omega
 rw [Rl _ _ (by omega),l1,RR,QN hi,List.set_cons_zero,Qh hi,Qn,PT];simp [hi]
theorem FG {α:Type} (f:α->α) (h:List α) (d:α) (i:Nat) (hi:i<h.length) (hf:f (h.getD i d)=h.getD i d):(h.take i).map f++h.drop i=(h.take (i+1)).map f++h.drop (i+1):=by
 rw [<- x5 f h d i hi,hf];apply Rt;intro j;rw [List.getElem?_set];split
 ·rename_i e;subst e;have:=x6 f h d i hi;rw [if_pos (by rw [qK]; exact hi)];simp only [List.getD_eq_getElem?_getD] at this;have hl:i<((h.take i).map f++h.drop i).length:=by rw [qK]; exact hi
  rw [List.getElem?_eq_getElem hl] at this |-;simp only [Rg] at this;rw [this];simp [hi]
 ·rfl
def dJ (to:List Int) (s:b9):b9:=if s.2.1=true then (s.1,s.2.1,to.getD s.2.2.toNat 0) else s
def gj (h:List b9) (to:List Int):List b9×Int:=if aT h≠0 then ([],aT h) else if to.length≠256 then ([],3) else if (to.any fun v=>!fC v)=true then ([],4) else (h.map (dJ to),0)
def BO:Spec:={ Ts:=[.arr ck,.arr ty_I],Rs:=[.own 135 ck,.dat ty_I],pre:=fun _=>True,F:=fun ((h,to):List b9×List Int)=>gj h to }
def DR:Nat->Option LoopGen
 | 10=>some { rd:=[.dat 0 (.arr ck),.dat 1 (.arr ty_I)],wr:=[7,25],A:=fun ((h,to):List b9×List Int)=>{ cs:=[.own 7 135 ck,.same 25 7,.dat 27 ty_I],inv:=fun ((out,_,i):List b9×Unit×Int)=>0<=i/\i<=h.length/\aT h=0/\to.length=256/\out=(h.take i.toNat).map (dJ to)++h.drop i.toNat,mu:=fun ((_,_,i):List b9×Unit×Int)=>(h.length - i).toNat } }
 | 1000013=>some { rd:=[.dat 0 (.arr ck),.dat 1 (.arr ty_I),.dat 27 ty_I],wr:=[7,25],A:=fun ((h,to,i):List b9×List Int×Int)=>{ cs:=[.own 7 135 ck,.same 25 7],inv:=fun ((out,_):List b9×Unit)=>out=(h.take (i.toNat+1)).map (dJ to)++h.drop (i.toNat+1),mu:=fun _=>0 } }
 | _=>none
def rP:Prop :=
  ∀ (x:List (Int×Bool×Int)×List Int),((x.1.length * (8+(8+8))<=aF/\∀ (x_1:Int×Bool×Int),x_1∈x.1->am .i64 x_1.1/\True/\am .i64 x_1.2.2)/\x.2.length * 8<=aF/\∀ (x_1:Int),x_1∈x.2->am .i64 x_1)->True->True/\(decide (aT x.1≠0)=true->([]:List (Int×Bool×Int))=(gj x.1 x.2).1/\aT x.1=(gj x.1 x.2).2/\True)/\(decide (aT x.1≠0)=false->(decide ((x.2.length:Int)≠256)=true->([]:List (Int×Bool×Int))=(gj x.1 x.2).1/\3=(gj x.1 x.2).2/\True)/\(decide ((x.2.length:Int)≠256)=false->(∀ (s:Int),s∈x.2->(fun (_:Int)=>True,fun (x:Int)=>!fC x).1 s)/\((x.2.any fun (x:Int)=>!fC x)=true->([]:List (Int×Bool×Int))=(gj x.1 x.2).1/\4=(gj x.1 x.2).2/\True)/\((x.2.any fun (x:Int)=>!fC x)=false->True/\((0:Int)<=0/\0<=(x.1.length:Int)/\aT x.1=0/\x.2.length=256/\x.1=List.map (dJ x.2) (List.take (Int.toNat 0) x.1)++List.drop (Int.toNat 0) x.1)/\∀ (x_1:List (Int×Bool×Int)×Unit×Int),0<=x_1.2.2/\x_1.2.2<=(x.1.length:Int)/\aT x.1=0/\x.2.length=256/\x_1.1=List.map (dJ x.2) (List.take x_1.2.2.toNat x.1)++List.drop x_1.2.2.toNat x.1->(decide (x_1.2.2<(x.1.length:Int))=true->0<=x_1.2.2/\x_1.2.2<(x_1.1.length:Int)/\x_1.2.2.toNat<x_1.1.length/\(((x_1.1.getD x_1.2.2.toNat (0,false,0)).2.1=true->0<=(x_1.1.getD x_1.2.2.toNat (0,false,0)).2.2/\(x_1.1.getD x_1.2.2.toNat (0,false,0)).2.2<(x.2.length:Int)/\0<=x_1.2.2/\x_1.2.2<(x_1.1.length:Int)/\x_1.2.2.toNat<x_1.1.length/\x_1.1.set x_1.2.2.toNat ((x_1.1.getD x_1.2.2.toNat (0,false,0)).1,(x_1.1.getD x_1.2.2.toNat (0,false,0)).2.1,x.2.getD (x_1.1.getD x_1.2.2.toNat (0,false,0)).2.2.toNat 0)=List.map (dJ x.2) (List.take (x_1.2.2.toNat+1) x.1)++List.drop (x_1.2.2.toNat+1) x.1)/\((x_1.1.getD x_1.2.2.toNat (0,false,0)).2.1=false->x_1.1=List.map (dJ x.2) (List.take (x_1.2.2.toNat+1) x.1)++List.drop (x_1.2.2.toNat+1) x.1))/\∀ (x_2:List (Int×Bool×Int)×Unit),x_2.1=List.map (dJ x.2) (List.take (x_1.2.2.toNat+1) x.1)++List.drop (x_1.2.2.toNat+1) x.1->am .i64 (x_1.2.2+1)/\(0<=x_1.2.2+1/\x_1.2.2+1<=(x.1.length:Int)/\aT x.1=0/\x.2.length=256/\x_2.1=List.map (dJ x.2) (List.take (x_1.2.2+1).toNat x.1)++List.drop (x_1.2.2+1).toNat x.1)/\((x.1.length:Int) - (x_1.2.2+1)).toNat<((x.1.length:Int) - x_1.2.2).toNat)/\(decide (x_1.2.2<(x.1.length:Int))=false->x_1.1=(gj x.1 x.2).1/\0=(gj x.1 x.2).2/\True))))
theorem yS:rP:=by
 unfold rP;intro ⟨h,to⟩ ⟨⟨_,hw⟩,hto,_⟩ _;simp only at *;refine ⟨trivial,fun hf=>by unfold gj; grind,fun hf=>⟨fun hl=>by unfold gj; grind,fun hl=>⟨fun _ _=>trivial,fun ha=>by unfold gj; grind,fun ha=>?_⟩⟩⟩;have hf:aT h=0:=by simpa using hf
 have hl:to.length=256:=by
  have:((to.length:Nat):Int)=256:=by simpa using hl
  omega
 obtain ⟨z1,z2⟩:=mR hf;have hS:gj h to=(h.map (dJ to),0):=by unfold gj; rw [if_neg (by omega),if_neg (by omega),if_neg (by rw [ha]; simp)]
 refine ⟨trivial,⟨by omega,by omega,hf,hl,by simp⟩,fun ⟨out,u,i⟩ ⟨h0,h1,_,_,h4⟩=>⟨fun hlt=>?_,fun hge=>?_⟩⟩
 ·have hlt:i<(h.length:Int):=by simpa using hlt
  simp only at *;have hm:=z2 _ (aH ((0,false,0):b9) h0 hlt);have hlen:out.length=h.length:=by rw [h4]; exact qK _ _ _
  have hget:out.getD i.toNat (0,false,0)=h.getD i.toNat (0,false,0):=by rw [h4]; exact x6 _ _ _ _ (by omega)
  have hset:=x5 (dJ to) h ((0,false,0):b9) i.toNat (by omega);have hkeep:=FG (dJ to) h ((0,false,0):b9) i.toNat (by omega);rw [<- h4] at hset hkeep;rw [hget];refine ⟨h0,by omega,by omega,⟨fun ho=>⟨by omega,by omega,h0,by omega,by omega,?_⟩,fun ho=>?_⟩,fun ⟨o2,_⟩ e2=>⟨by simp only [am]; omega,⟨by omega,by omega,hf,hl,?_⟩,by omega⟩⟩
  ·rw [<- hset];unfold dJ;rw [if_pos ho]
  ·apply hkeep;unfold dJ;rw [if_neg (by rw [ho]; simp)]
  ·rw [show (i+1).toNat=i.toNat+1 by omega];exact e2
 ·have hge:¬ i<(h.length:Int):=by simpa using hge
  simp only at *;rw [hS,h4,PJ (by omega),P7 (by omega)];simp
theorem si:BO.ok Tryz.prog 160:=aA (ann:=DR) (ac jt (ac I1 (ac CN (ac bP ap)))) Tryz.func160 (by kernel_rfl) yS
end
section
abbrev aP:Ty:=.pair (.arr bo) (.pair (.arr ty_I) (.pair (.arr fB) (.arr ck)))
abbrev an:=List Int×List Int×List bu×List b9
abbrev qo (s:an):Prop:=(s.1.length * 8<=aF/\∀ x∈s.1,am .u64 x)/\(s.2.1.length * 8<=aF/\∀ x∈s.2.1,am .i64 x)/\(s.2.2.1.length * (8+8)<=aF/\∀ x∈s.2.2.1,am .i64 x.1/\am .i64 x.2)/\s.2.2.2.length * (8+(8+8))<=aF/\∀ x∈s.2.2.2,am .i64 x.1/\True/\am .i64 x.2.2
def ie (h:List b9):List Int:=(h.filter fun s=>s.2.1).map (·.2.2)
def cW (s:an):List Int:=(s.2.1.filter fun v=>decide (0<=v))++ie s.2.2.2++s.2.2.1.map (·.1)
def aj (s:an):List Int:=ek (bM ((bp s.2.1 s.1.length).1++ie s.2.2.2++s.2.2.1.map (·.1)))
def ay (s:an):Int :=
 if (ai s.1).2.2≠0 then (ai s.1).2.2 else if aJ s.2.1 s.1.length≠0 then aJ s.2.1 s.1.length else if ci s.2.2.1≠0 then ci s.2.2.1 else if aT s.2.2.2≠0 then aT s.2.2.2 else au s.1 (cW s)
theorem kK (r:List Int) (n:Int):(bp r n).1.length<=r.length:=by
 unfold bp;split
 ·simp
 ·have h1:(ek (bM (r.filter fun v=>!decide (v<0)))).length<=_:=kH _;have h2:=QD (fun v:Int=>!decide (v<0)) r;rw [jn] at h1;simp only;omega
theorem nk (h:List b9):(ie h).length<=h.length:=by
 unfold ie;rw [Qc];exact QD _ _
theorem Fj (h:List b9) (x:b9):ie (h++[x])=if x.2.1=true then ie h++[x.2.2] else ie h:=by
 unfold ie;rw [Q6,Qn];by_cases hx:x.2.1=true
 ·rw [if_pos hx,Qj (by simpa using hx)]; simp
 ·rw [if_neg hx,Qy (by simpa using hx)]; simp
theorem qi {l:List Int} {x:Int}:x∈ek (bM l) ↔ x∈l:=by
 rw [(l8 (hZ l)).2 x,k8]
theorem gW {s:an} (h:aJ s.2.1 s.1.length=0) {x:Int}:x∈aj s ↔ x∈cW s:=by
 unfold aj cW;rw [qi,PI,PI,PI,PI]
 have:x∈(bp s.2.1 s.1.length).1 ↔ x∈s.2.1.filter fun v=>decide (0<=v):=by
  unfold bp;rw [if_neg (by omega)];simp only;rw [qi,Qp,Qp];simp
 rw [this]
theorem xS:∀ (l:List bu) (q:Int),dg q l=0->∀ x∈l,0<=x.1/\x.1<=255
 | [],_,_,x,hx=>by cases hx
 | y::l,q,h,x,hx=>by
  simp only [dg] at h;split at h
  ·omega
  ·rename_i hb;split at h
   ·omega
   ·rcases PD.1 hx with rfl | hx
    ·unfold m6 at hb;simp only [Qq,Qk,not_or] at hb;omega
    ·exact xS l _ h x hx
theorem tJ:∀ (l:List b9),bK l=0->∀ x∈l,0<=x.2.2/\x.2.2<=255
 | [],_,x,hx=>by cases hx
 | y::l,h,x,hx=>by
  simp only [bK] at h;split at h
  ·rename_i hb; omega
  ·rename_i hb;rcases PD.1 hx with rfl | hx
   ·have hb:jo x=0:=by omega
    unfold jo at hb;split at hb
    ·omega
    ·omega
   ·exact tJ l h x hx
theorem C4 {s:an} (h1:aJ s.2.1 s.1.length=0) (h2:ci s.2.2.1=0) (h3:aT s.2.2.2=0):∀ x∈cW s,0<=x/\x<=255:=by
 intro x hx;unfold cW at hx;rcases PI.1 hx with hx | hx
 ·rcases PI.1 hx with hx | hx
  ·obtain ⟨hx,h0⟩:=Qp.1 hx;have h0:=Pt h0;unfold aJ at h1;split at h1
   ·omega
   ·split at h1
    ·omega
    ·split at h1
     ·omega
     ·rename_i hn _ ha;have:=yB (by simpa using ha) hx;omega
  ·unfold ie at hx;obtain ⟨y,hy,rfl⟩:=P3.1 hx;unfold aT at h3;split at h3
   ·omega
   ·exact tJ _ h3 y (Qp.1 hy).1
 ·obtain ⟨y,hy,rfl⟩:=P3.1 hx;unfold ci at h2;split at h2
  ·omega
  ·exact xS _ _ h2 y hy
theorem mn {s:an} (h1:aJ s.2.1 s.1.length=0) (h2:ci s.2.2.1=0) (h3:aT s.2.2.2=0):s.2.1.length<=32/\s.2.2.1.length<=16/\s.2.2.2.length<=16:=by
 unfold aJ at h1;unfold ci at h2;unfold aT at h3;refine ⟨?_,?_,?_⟩
 ·split at h1
  ·omega
  ·split at h1 <;> omega
 ·split at h2 <;> omega
 ·split at h3 <;> omega
theorem NB {a:List Int} (hc:(ai a).2.2=0) (x:Int):(decide ((gZ a x).2≠0)||(gZ a x).1.2.2.2)=!isB (aa a).1 x:=by
 by_cases hx:isB (aa a).1 x=true
 ·obtain ⟨_,_,e⟩:=Gc hc hx;have hf:=(fU hx).2.2.2.2.2;rw [e,hx];simp only [gy,hf];simp
 ·obtain ⟨_,_,e1,_,_,_,_⟩:=bJ hc;have hx2:isB (aa a).1 x=false:=by simpa using hx
  rw [hx2];unfold gZ;rw [if_neg (by omega)];by_cases hl:ah (fun s:ax=>decide (s.1=x)) 0 (ai a).1<0
  ·rw [if_pos hl]; simp
  ·rw [if_neg hl];have h1:=gX (fun s:ax=>decide (s.1=x)) (0,0,0,0,false) (ai a).1 0 (by omega) (by omega);have h2:=eh (fun s:ax=>decide (s.1=x)) (0,0,0,0,false) (ai a).1 0 (by omega);rw [Sb] at h1;have h3:=aH (xs:=(ai a).1) ((0,0,0,0,false):ax) (by omega:0<=ah (fun s:ax=>decide (s.1=x)) 0 (ai a).1) (by omega);simp only;generalize (ai a).1.getD (ah (fun s:ax=>decide (s.1=x)) 0 (ai a).1).toNat (0,0,0,0,false)=t at *;have h1:=Pt h1;rw [e1] at h3
   have:t.2.2.2.2=true:=by
    cases hf:t.2.2.2.2
    ·exfalso;apply hx;have:=ov (bz a) h3 hf;unfold isB;rw [<- h1,this]
    ·rfl
   simp only [gy,this];simp
def DL:Nat->Option LoopGen
 | 3=>some { rd:=[.dat 7 (.arr fB)],A:=fun (p:List bu)=>{ cs:=[.own 3 3 ty_I,.dat 9 ty_I],inv:=fun ((o,i):List Int×Int)=>0<=i/\i<=p.length/\o=(p.take i.toNat).map (·.1),mu:=fun ((_,i):List Int×Int)=>(p.length - i).toNat } }
 | _=>none
def Bz:Spec:={ Ts:=[aP],Rs:=[.own 3 ty_I],pre:=fun _=>True,F:=fun (s:an)=>s.2.2.1.map (·.1) }
def rD:Prop :=
  ∀ (x:List Int×List Int×List (Int×Int)×List (Int×Bool×Int)),(qo x)->True->((0:Int)<=0/\0<=(x.2.2.1.length:Int)/\([]:List Int)=List.map (fun (x:bu)=>x.1) (List.take (Int.toNat 0) x.2.2.1))/\∀ (x_1:List Int×Int),0<=x_1.2/\x_1.2<=(x.2.2.1.length:Int)/\x_1.1=List.map (fun (x:bu)=>x.1) (List.take x_1.2.toNat x.2.2.1)->(decide (x_1.2<(x.2.2.1.length:Int))=true->0<=x_1.2/\x_1.2<(x.2.2.1.length:Int)/\(x_1.1.length+[(x.2.2.1.getD x_1.2.toNat (0,0)).1].length) * 8<=aF/\am .i64 (x_1.2+1)/\(0<=x_1.2+1/\x_1.2+1<=(x.2.2.1.length:Int)/\x_1.1++[(x.2.2.1.getD x_1.2.toNat (0,0)).1]=List.map (fun (x:bu)=>x.1) (List.take (x_1.2+1).toNat x.2.2.1))/\((x.2.2.1.length:Int) - (x_1.2+1)).toNat<((x.2.2.1.length:Int) - x_1.2).toNat)/\(decide (x_1.2<(x.2.2.1.length:Int))=false->x_1.1=List.map (fun (x:bu)=>x.1) x.2.2.1/\True)
theorem yG:rD:=by
 unfold rD;intro ⟨a,r,p,h⟩ ⟨_,_,⟨hbp,_⟩,_⟩ _;unfold aF at hbp;simp only at hbp |-;refine ⟨⟨by omega,by omega,by simp⟩,fun ⟨o,i⟩ ⟨i0,i1,i2⟩=>⟨fun hlt=>?_,fun hge=>?_⟩⟩
 ·simp only at i0 i1 i2 hlt |-;have hlt:=Pt hlt;have ht:=a7 ((0,0):bu) i0 hlt;have hl:o.length=i.toNat:=by rw [i2]; simp; omega
  rw [ht,Qn,<- i2];unfold aF;simp only [am,Qo];exact ⟨i0,hlt,by omega,by omega,⟨by omega,by omega,by first | rfl | trivial⟩,by omega⟩
 ·simp only at i0 i1 i2 hge |-;rw [bE (Pu hge)] at i2;exact ⟨i2,trivial⟩
theorem ko:Bz.ok Tryz.prog 142:=aA (ann:=DL) ap Tryz.func142 (by kernel_rfl) yG
def JK:Nat->Option LoopGen
 | 3=>some { rd:=[.dat 17 (.arr ck),.own 3 3 ty_I],A:=fun ((h,l0):List b9×List Int)=>{ cs:=[.own 3 3 ty_I,.dat 19 ty_I],inv:=fun ((o,i):List Int×Int)=>0<=i/\i<=h.length/\o=l0++ie (h.take i.toNat),mu:=fun ((_,i):List Int×Int)=>(h.length - i).toNat } }
 | _=>none
def Ic:Spec:={ Ts:=[aP],Rs:=[.own 3 ty_I],pre:=fun (s:an)=>s.2.1.length<=32/\s.2.2.1.length<=16/\s.2.2.2.length<=16,F:=aj }
def xy:Prop :=
  ∀ (x:List Int×List Int×List (Int×Int)×List (Int×Bool×Int)),(qo x)->x.2.1.length<=32/\x.2.2.1.length<=16/\x.2.2.2.length<=16->True/\((0:Int)<=0/\0<=(x.2.2.2.length:Int)/\(bp x.2.1 (x.1.length:Int)).1=(bp x.2.1 (x.1.length:Int)).1++ie (List.take (Int.toNat 0) x.2.2.2))/\∀ (x_1:List Int×Int),0<=x_1.2/\x_1.2<=(x.2.2.2.length:Int)/\x_1.1=(bp x.2.1 (x.1.length:Int)).1++ie (List.take x_1.2.toNat x.2.2.2)->(decide (x_1.2<(x.2.2.2.length:Int))=true->0<=x_1.2/\x_1.2<(x.2.2.2.length:Int)/\((x.2.2.2.getD x_1.2.toNat (0,false,0)).2.1=true->(x_1.1.length+[(x.2.2.2.getD x_1.2.toNat (0,false,0)).2.2].length) * 8<=aF/\am .i64 (x_1.2+1)/\(0<=x_1.2+1/\x_1.2+1<=(x.2.2.2.length:Int)/\x_1.1++[(x.2.2.2.getD x_1.2.toNat (0,false,0)).2.2]=(bp x.2.1 (x.1.length:Int)).1++ie (List.take (x_1.2+1).toNat x.2.2.2))/\((x.2.2.2.length:Int) - (x_1.2+1)).toNat<((x.2.2.2.length:Int) - x_1.2).toNat)/\((x.2.2.2.getD x_1.2.toNat (0,false,0)).2.1=false->am .i64 (x_1.2+1)/\(0<=x_1.2+1/\x_1.2+1<=(x.2.2.2.length:Int)/\x_1.1=(bp x.2.1 (x.1.length:Int)).1++ie (List.take (x_1.2+1).toNat x.2.2.2))/\((x.2.2.2.length:Int) - (x_1.2+1)).toNat<((x.2.2.2.length:Int) - x_1.2).toNat))/\(decide (x_1.2<(x.2.2.2.length:Int))=false->True/\[x_1.1,List.map (fun (x:bu)=>x.1) x.2.2.1].flatten.length * 8<=aF/\True/\True/\ek (bM [x_1.1,List.map (fun (x:bu)=>x.1) x.2.2.1].flatten)=aj x/\True)
theorem Ee:xy:=by
 unfold xy;intro ⟨a,r,p,h⟩ _ ⟨h1,h2,h3⟩;simp only at h1 h2 h3 |-;have hF:aj (a,r,p,h)=ek (bM ((bp r a.length).1++ie h++p.map (·.1))):=rfl;have hrl:=kK r a.length;generalize (bp r a.length).1=l0 at *;refine ⟨trivial,⟨by omega,by omega,by simp [ie]⟩,fun ⟨o,i⟩ ⟨i0,i1,i2⟩=>⟨fun hlt=>?_,fun hge=>?_⟩⟩
 ·simp only at i0 i1 i2 hlt |-;have hlt:=Pt hlt;have ht:=a7 ((0,false,0):b9) i0 hlt
  have hl:o.length<=32+i.toNat:=by
   have:=nk (h.take i.toNat);rw [PM] at this;rw [i2,PC]; omega
  rw [ht,Fj];generalize h.getD i.toNat (0,false,0)=x at *;unfold aF;simp only [am,Qo];refine ⟨i0,hlt,fun hx=>?_,fun hx=>?_⟩
  ·rw [if_pos hx,<- PT,<- i2];exact ⟨by omega,by omega,⟨by omega,by omega,by first | rfl | trivial⟩,by omega⟩
  ·rw [if_neg (by rw [hx]; simp),<- i2];exact ⟨by omega,⟨by omega,by omega,by first | rfl | trivial⟩,by omega⟩
 ·simp only at i0 i1 i2 hge |-;rw [bE (Pu hge)] at i2;have hl:=nk h;have hc:[o,p.map (·.1)].flatten=l0++ie h++p.map (·.1):=by rw [i2]; simp
  rw [hc,hF];unfold aF;simp only [PC,Qc];exact ⟨trivial,by omega,trivial,trivial,by first | rfl | trivial,trivial⟩
theorem qI:Ic.ok Tryz.prog 151:=aA (ann:=JK) (ac zR (ac ko (ac kM (fO mI (fO mK ap))))) Tryz.func151 (by kernel_rfl) Ee
def Ge:Nat->Option LoopGen
 | 2=>some { rd:=[.dat 24 (.arr ty_I)],A:=fun (l:List Int)=>{ cs:=[.dat 26 ty_I],inv:=fun (i:Int)=>0<=i/\i<=l.length/\∀ x∈l.take i.toNat,x=0,mu:=fun (i:Int)=>(l.length - i).toNat } }
 | 8=>some { rd:=[.own 35 3 ty_I,.box 1 aP],A:=fun ((l,s):List Int×an)=>{ cs:=[.dat 37 ty_I],inv:=fun (i:Int)=>0<=i/\i<=l.length/\∀ x∈l.take i.toNat,isB (aa s.1).1 x=true,mu:=fun (i:Int)=>(l.length - i).toNat } }
 | _=>none
def EQ:Spec:={ Ts:=[aP],Rs:=[.dat ty_I],pre:=fun _=>True,F:=ay }
def ub:Prop :=
  ∀ (x:List Int×List Int×List (Int×Int)×List (Int×Bool×Int)),(qo x)->True->True/\True/\True/\True/\((0:Int)<=0/\0<=(↑[(ai x.1).2.2,aJ x.2.1 (x.1.length:Int),ci x.2.2.1,aT x.2.2.2].length:Int)/\∀ (x_1:Int),x_1∈List.take (Int.toNat 0) [(ai x.1).2.2,aJ x.2.1 (x.1.length:Int),ci x.2.2.1,aT x.2.2.2]->x_1=0)/\∀ (x_1:Int),(0<=x_1/\x_1<=(↑[(ai x.1).2.2,aJ x.2.1 (x.1.length:Int),ci x.2.2.1,aT x.2.2.2].length:Int)/\∀ (x_2:Int),x_2∈List.take x_1.toNat [(ai x.1).2.2,aJ x.2.1 (x.1.length:Int),ci x.2.2.1,aT x.2.2.2]->x_2=0)->(decide (x_1<(↑[(ai x.1).2.2,aJ x.2.1 (x.1.length:Int),ci x.2.2.1,aT x.2.2.2].length:Int))=true->0<=x_1/\x_1<(↑[(ai x.1).2.2,aJ x.2.1 (x.1.length:Int),ci x.2.2.1,aT x.2.2.2].length:Int)/\(decide ([(ai x.1).2.2,aJ x.2.1 (x.1.length:Int),ci x.2.2.1,aT x.2.2.2].getD x_1.toNat (0:Int)≠0)=true->[(ai x.1).2.2,aJ x.2.1 (x.1.length:Int),ci x.2.2.1,aT x.2.2.2].getD x_1.toNat 0=ay x/\True)/\(decide ([(ai x.1).2.2,aJ x.2.1 (x.1.length:Int),ci x.2.2.1,aT x.2.2.2].getD x_1.toNat (0:Int)≠0)=false->am .i64 (x_1+1)/\(0<=x_1+1/\x_1+1<=(↑[(ai x.1).2.2,aJ x.2.1 (x.1.length:Int),ci x.2.2.1,aT x.2.2.2].length:Int)/\∀ (x_2:Int),x_2∈List.take (x_1+1).toNat [(ai x.1).2.2,aJ x.2.1 (x.1.length:Int),ci x.2.2.1,aT x.2.2.2]->x_2=0)/\((↑[(ai x.1).2.2,aJ x.2.1 (x.1.length:Int),ci x.2.2.1,aT x.2.2.2].length:Int) - (x_1+1)).toNat<((↑[(ai x.1).2.2,aJ x.2.1 (x.1.length:Int),ci x.2.2.1,aT x.2.2.2].length:Int) - x_1).toNat))/\(decide (x_1<(↑[(ai x.1).2.2,aJ x.2.1 (x.1.length:Int),ci x.2.2.1,aT x.2.2.2].length:Int))=false->(x.2.1.length<=32/\x.2.2.1.length<=16/\x.2.2.2.length<=16)/\((0:Int)<=0/\0<=(↑(aj x).length:Int)/\∀ (x_2:Int),x_2∈List.take (Int.toNat 0) (aj x)->isB (aa x.1).1 x_2=true)/\∀ (x_2:Int),(0<=x_2/\x_2<=(↑(aj x).length:Int)/\∀ (x_3:Int),x_3∈List.take x_2.toNat (aj x)->isB (aa x.1).1 x_3=true)->(decide (x_2<(↑(aj x).length:Int))=true->0<=x_2/\x_2<(↑(aj x).length:Int)/\x_2.toNat<(aj x).length/\True/\((decide ((gZ x.1 ((aj x).getD x_2.toNat 0)).2≠0)||(gZ x.1 ((aj x).getD x_2.toNat 0)).1.2.2.2)=true->5=ay x/\True)/\((decide ((gZ x.1 ((aj x).getD x_2.toNat 0)).2≠0)||(gZ x.1 ((aj x).getD x_2.toNat 0)).1.2.2.2)=false->am .i64 (x_2+1)/\(0<=x_2+1/\x_2+1<=(↑(aj x).length:Int)/\∀ (x_3:Int),x_3∈List.take (x_2+1).toNat (aj x)->isB (aa x.1).1 x_3=true)/\((↑(aj x).length:Int) - (x_2+1)).toNat<((↑(aj x).length:Int) - x_2).toNat))/\(decide (x_2<(↑(aj x).length:Int))=false->0=ay x/\True))
theorem A9:ub:=by
 unfold ub;intro s hx _;have hF:ay s=if (ai s.1).2.2≠0 then (ai s.1).2.2 else if aJ s.2.1 s.1.length≠0 then aJ s.2.1 s.1.length else if ci s.2.2.1≠0 then ci s.2.2.1 else if aT s.2.2.2≠0 then aT s.2.2.2 else au s.1 (cW s):=rfl
 have hsm:=fun a b c=>mn (s:=s) a b c
 have hmem:=fun a x=>gW (s:=s) a (x:=x)
 have hfree:=fun a x=>NB (a:=s.1) a x
 have hfl:(aj s).length<=(aj s).length:=PP _
 have hlen:(ai s.1).2.2=0->aJ s.2.1 s.1.length=0->ci s.2.2.1=0->aT s.2.2.2=0->(aj s).length<=64:=fun _ a b c=>by
  obtain ⟨q1,q2,q3⟩:=hsm a b c;have e1:=kK s.2.1 s.1.length;have e2:=nk s.2.2.2;have e3:(aj s).length<=(bM ((bp s.2.1 s.1.length).1++ie s.2.2.2++s.2.2.1.map (·.1))).length:=kH _;rw [jn] at e3;simp only [PC,Qc] at e3;omega
 generalize hc0:(ai s.1).2.2=c0 at *;generalize aJ s.2.1 s.1.length=c1 at *;generalize ci s.2.2.1=c2 at *;generalize aT s.2.2.2=c3 at *;have hl4:([c0,c1,c2,c3].length:Int)=4:=rfl;refine ⟨trivial,trivial,trivial,trivial,⟨by omega,by omega,fun x hx=>by simp at hx⟩,fun i ⟨i0,i1,i2⟩=>⟨fun hlt=>?_,fun hge=>?_⟩⟩
 ·have hlt:=Pt hlt;have ht:=a7 (0:Int) i0 hlt;refine ⟨i0,hlt,fun hn=>⟨?_,trivial⟩,fun hn=>⟨by simp only [am]; omega,⟨by omega,by omega,fun x hx=>?_⟩,by omega⟩⟩
  ·have hn:=Pt hn;rw [hF];have h4:i=0\/i=1\/i=2\/i=3:=by omega
   rcases h4 with rfl | rfl | rfl | rfl
   ·exact (if_pos hn).symm
   ·have e0:=i2 c0 (by simp);rw [if_neg (by omega)];exact (if_pos hn).symm
   ·have e0:=i2 c0 (by simp);have e1:=i2 c1 (by simp);rw [if_neg (by omega),if_neg (by omega)];exact (if_pos hn).symm
   ·have e0:=i2 c0 (by simp);have e1:=i2 c1 (by simp);have e2:=i2 c2 (by simp);rw [if_neg (by omega),if_neg (by omega),if_neg (by omega)];exact (if_pos hn).symm
  ·have hn:[c0,c1,c2,c3].getD i.toNat 0=0:=by simpa using Pu hn
   rw [ht] at hx;rcases PI.1 hx with hx | hx
   ·exact i2 x hx
   ·rw [PB.1 hx,hn]
 ·have hge:=Pu hge;rw [bE hge] at i2;have e0:=i2 c0 (by simp);have e1:=i2 c1 (by simp);have e2:=i2 c2 (by simp);have e3:=i2 c3 (by simp);have hS:ay s=au s.1 (cW s):=by rw [hF,if_neg (by omega),if_neg (by omega),if_neg (by omega),if_neg (by omega)]
  have hfr:=hfree e0;have hln:=hlen e0 e1 e2 e3;have hmm:=hmem e1
  have hFF:au s.1 (cW s)=if (cW s).all (isB (aa s.1).1)=true then 0 else 5:=by
   unfold au;rw [if_neg (by omega)]
  rw [hS,hFF];refine ⟨hsm e1 e2 e3,⟨by omega,by omega,fun x hx=>by simp at hx⟩,fun j ⟨j0,j1,j2⟩=>⟨fun hj=>?_,fun hj=>?_⟩⟩
  ·have hj:=Pt hj;have ht:=a7 (0:Int) j0 hj;have hm:=aH (0:Int) j0 hj;rw [hfr,ht];generalize (aj s).getD j.toNat 0=y at *;refine ⟨j0,hj,by omega,trivial,fun hn=>⟨?_,trivial⟩,fun hn=>⟨by simp only [am]; omega,⟨by omega,by omega,fun x hx=>?_⟩,by omega⟩⟩
   ·rw [if_neg (fun hall=>?_)];have:=PA.1 hall y ((hmm y).1 hm);rw [this] at hn;cases hn
   ·rcases PI.1 hx with hx | hx
    ·exact j2 x hx
    ·rw [PB.1 hx];simpa using hn
  ·have hj:=Pu hj;rw [bE hj] at j2;refine ⟨?_,trivial⟩;rw [if_pos (PA.2 fun x hx=>j2 x ((hmm x).2 hx))]
theorem gD:EQ.ok Tryz.prog 80:=aA (ann:=Ge) (ac fT (ac lF (ac sg (ac jt (ac qI (ac lj ap)))))) Tryz.func80 (by kernel_rfl) A9
end
section
def aE:an:=([],[],[],[])
def dK (s:an):List Int:=s.2.2.1.map (·.1)
def fk (s:an):List Int:=br s.1 (aj s++dK s)
def sm (s:an):List Int:=(fk s).map (ef (aa s.1).1)
def mf (s:an) (x:Int):Int:=(aG (fk s) (sm s) (dK s)).getD (dq (fk s) x).toNat 0
def fw (s:an):List Int:=(B2 s.1 (fk s) (dK s)).1
def zE (s:an) (v:Int):Int:=if 0<=v then mf s v else v
def Ab (s:an) (h:b9):b9:=if h.2.1=true then (h.1,h.2.1,mf s h.2.2) else h
def qz (s:an):an:=(fw s,s.2.1.map (zE s),s.2.2.1,s.2.2.2.map (Ab s))
def lp (s:an):Int:=fQ (aV false [] (aa (fw s)).1)
def db (s:an):an×Int:=(qz s,lp s)
structure Right (s:an):Prop where
 w:∀ x∈s.1,am .u64 x
 chk:(ai s.1).2.2=0
 root:aJ s.2.1 s.1.length=0
 pin:ci s.2.2.1=0
 hand:aT s.2.2.2=0
 nam:∀ x∈cW s,isB (aa s.1).1 x=true
theorem ic {s:an} (hw:∀ x∈s.1,am .u64 x) (h:ay s=0):Right s:=by
 unfold ay at h;split at h
 ·omega
 rename_i h0;split at h
 ·omega
 rename_i h1;split at h
 ·omega
 rename_i h2;split at h
 ·omega
 rename_i h3;exact ⟨hw,by omega,by omega,by omega,by omega,(bW h).2⟩
section
variable {s:an}
theorem Right.pinsRise (h:Right s):(dK s).Pairwise (·<·):=List.pairwise_map.2 (zM h.pin).2.1
theorem Right.pinsIn (_h:Right s):∀ x∈dK s,x∈cW s:=fun _x hx=>PK _ hx
theorem Right.froms (h:Right s):∀ x∈aj s++dK s,x∈cW s:=fun x hx=>by
 rcases PI.1 hx with hx | hx
 ·exact (gW h.root).1 hx
 ·exact h.pinsIn x hx
theorem Right.fault (h:Right s):au s.1 (aj s++dK s)=0:=il h.chk fun x hx=>h.nam x (h.froms x hx)
theorem Right.keep (h:Right s):aK (dK s)=true:=fg h.pinsRise
theorem Right.longs (h:Right s):aX s.1 (fk s) (dK s)=(sm s,0):=sC h.w h.fault h.keep
theorem Right.plan (h:Right s):Plan s.1 (fk s) (dK s) (sm s):=by
 have:=GQ (a:=s.1) (keep:=fk s) (pinned:=dK s) (by rw [h.longs]);rw [h.longs] at this;exact this
theorem Right.good (h:Right s) (to:List Int):((fk s).all fun x=>fl (fk s) to (aY s.1 x))=true:=vB h.w h.fault to
theorem Right.clean (h:Right s):aw s.1 (aj s) (dK s)=(fw s,(aj s).map (mf s),0):=by
 unfold aw;rw [if_neg (by rw [h.fault]; simp),if_neg (by rw [h.keep]; simp),(m4 h.w h.fault h.keep).1];rfl
theorem Right.slid (h:Right s):fw s=mw s.1 (fk s) (aG (fk s) (sm s) (dK s)) (dK s) (sm s) (co s.1.length (fk s) (sm s) (dK s)):=by
 have hg:=h.good (aG (fk s) ((fk s).map (ef (aa s.1).1)) (dK s));unfold fw B2;rw [if_pos hg];rfl
theorem Right.slidOK (h:Right s):(ai (fw s)).2.2=0/\(fw s).length=s.1.length/\(aa (fw s)).1=my s.1 (fk s) (dK s) (sm s):=by
 rw [h.slid,E5 h.plan (h.good _)];exact ⟨rfl,oV _ h.plan,by rw [tK _ h.plan]⟩
theorem Right.keepIn (h:Right s) {x:Int} (hx:x∈cW s):x∈fk s:=by
 obtain ⟨k1,k2⟩:=bW h.fault;exact (fo h.w k1 k2).2 (.base (PE _ ((gW h.root).2 hx)))
theorem Right.toIn (h:Right s) {x:Int} (hx:x∈cW s):0<=mf s x/\mf s x<s.1.length:=by
 have hp:=ur (h.keepIn hx);have hP:=h.plan;have hi:(dq (fk s) x).toNat<(fk s).length:=by omega
 unfold mf;rw [xP hi];have h1:=hP.le _ hi;have h2:=(cO (dK s) hP.pre _ (Nat.le_of_lt hi)).1;have h3:=hP.lg _ hi;obtain ⟨_,_,_,_,l5,l6⟩:=bS (hP.isb _ (gn hi));omega
theorem Right.nameIn (h:Right s) {x:Int} (hx:x∈cW s):0<=x/\x<s.1.length:=by
 obtain ⟨_,_,l3,l4,l5,l6⟩:=bS (h.nam x hx);omega
theorem Right.al (h:Right s):s.1.length<=256:=(bJ h.chk).1
theorem Right.reached (h:Right s):br s.1 (fa (cW s) 256)=fk s:=by
 have hr:=C4 h.root h.pin h.hand
 have hm:∀ x,x∈fa (cW s) 256 ↔ x∈cW s:=fun x=>by
  rw [eq];exact ⟨fun h=>h.2.2,fun hx=>⟨(hr x hx).1,by have:=(hr x hx).2; omega,hx⟩⟩
 obtain ⟨k1,k2⟩:=bW h.fault;refine gP (jN _ _) (jN _ _) fun x=>?_
 rw [fo h.w h.chk (fun y hy=>h.nam y ((hm y).1 hy)),fk,fo h.w k1 k2];exact ⟨fun hx=>hx.mono fun y hy=>.base (PE _ ((gW h.root).2 ((hm y).1 hy))),fun hx=>hx.mono fun y hy=>.base ((hm y).2 (h.froms y hy))⟩
theorem Right.free (h:Right s):lp s+((fk s).map (ef (aa s.1).1)).sum=s.1.length:=by
 obtain ⟨h1,h2,h3⟩:=h.slidOK;have h4:=Ly (bJ h1).2.2.2.1;unfold lp;rw [<- h2,<- Iu (pinned:=dK s) (long:=sm s) h.plan.isb,<- h3];exact h4
end
def bY (arr f:List Int) (g:Int->Int):List Int:=f.foldl (fun r x=>r.set x.toNat (g x)) arr
theorem kh (arr f:List Int) (x:Int) (g:Int->Int):bY arr (f++[x]) g=(bY arr f g).set x.toNat (g x):=by simp [bY]
theorem ep (g:Int->Int):∀ (f arr:List Int),(bY arr f g).length=arr.length
 | [],_=>rfl
 | x::f,arr=>by
  have:=ep g f (arr.set x.toNat (g x));simp only [bY,Q1] at this |-;rw [this,Ra]
theorem nZ (g:Int->Int) {k:Int} (h0:0<=k):∀ (f arr:List Int),(∀ x∈f,0<=x)->k<arr.length->(bY arr f g).getD k.toNat 0=if k∈f then g k else arr.getD k.toNat 0
 | [],arr,_,_=>by simp [bY]
 | x::f,arr,hf,hk=>by
  have ih:=nZ g h0 f (arr.set x.toNat (g x)) (fun y hy=>hf y (P1 _ hy)) (by rw [Ra]; exact hk);have hx:=hf x PV;have e:bY arr (x::f) g=bY (arr.set x.toNat (g x)) f g:=rfl;rw [e,ih];by_cases h1:k∈f
  ·rw [if_pos h1,if_pos (P1 _ h1)]
  ·rw [if_neg h1];by_cases h2:x=k
   ·subst h2;rw [if_pos PV,List.getD_eq_getElem?_getD,List.getElem?_set,if_pos rfl,if_pos (by omega)];rfl
   ·rw [if_neg (by simp [h1,Ne.symm h2]),List.getD_eq_getElem?_getD,List.getElem?_set_ne (by omega),<- List.getD_eq_getElem?_getD]
theorem nY (g:Int->Int) {v:Int}:∀ (f arr:List Int),v∈bY arr f g->v∈arr\/∃ x∈f,v=g x
 | [],_,h=>.inl h
 | x::f,arr,h=>by
  rcases nY g f _ h with h | ⟨y,hy,e⟩
  ·rcases Sl h with h | h
   ·exact .inl h
   ·exact .inr ⟨x,PV,h⟩
  ·exact .inr ⟨y,P1 _ hy,e⟩
section
variable {s:an}
theorem Right.swapRoots (h:Right s):bn s.2.1 s.1.length (bY (List.replicate s.1.length 0) (aj s) (mf s))=(s.2.1.map (zE s),0):=by
 have hfm:=fun x=>(gW (s:=s) h.root (x:=x))
 unfold bn;rw [if_neg (by rw [h.root]; simp),if_neg (by rw [ep,Qd]; simp),if_neg]
 ·refine congrArg (·,(0:Int)) (QW fun v hv=>?_);unfold nu zE;by_cases h0:0<=v
  ·rw [if_pos h0,if_pos h0];have hn:v∈cW s:=PE _ (PE _ (Qp.2 ⟨hv,by simpa using h0⟩));rw [nZ _ h0 _ _ (fun x hx=>(h.nameIn ((hfm x).1 hx)).1) (by rw [Qd]; exact (h.nameIn hn).2),if_pos ((hfm v).2 hn)]
  ·rw [if_neg h0,if_neg h0]
 ·intro hc;obtain ⟨v,hv,hb⟩:=Qt.1 hc;rcases nY _ _ _ hv with hv | ⟨x,hx,rfl⟩
  ·have:=(List.mem_replicate.1 hv);have h2:=this.2;have h1:=this.1;subst h2;unfold du at hb;simp only [PX,Bool.and_eq_false_iff,Qw] at hb;omega
  ·have:=h.toIn ((hfm x).1 hx);unfold du at hb;simp only [PX,Bool.and_eq_false_iff,Qw] at hb;omega
theorem Right.swapHands (h:Right s):gj s.2.2.2 (bY (List.replicate 256 0) (aj s) (mf s))=(s.2.2.2.map (Ab s),0):=by
 have hfm:=fun x=>(gW (s:=s) h.root (x:=x))
 have hal:=h.al;unfold gj;rw [if_neg (by rw [h.hand]; simp),if_neg (by rw [ep,Qd]; simp),if_neg]
 ·refine congrArg (·,(0:Int)) (QW fun v hv=>?_);unfold dJ Ab;by_cases h0:v.2.1=true
  ·rw [if_pos h0,if_pos h0];have hn:v.2.2∈cW s:=PE _ (PK _ (P3.2 ⟨v,Qp.2 ⟨hv,by simpa using h0⟩,rfl⟩));have h2:=h.nameIn hn;rw [nZ _ h2.1 _ _ (fun x hx=>(h.nameIn ((hfm x).1 hx)).1) (by rw [Qd]; omega),if_pos ((hfm _).2 hn)]
  ·rw [if_neg h0,if_neg h0]
 ·intro hc;obtain ⟨v,hv,hb⟩:=Qt.1 hc;rcases nY _ _ _ hv with hv | ⟨x,hx,rfl⟩
  ·have h2:=(List.mem_replicate.1 hv).2;subst h2;simp [fC] at hb
  ·have:=h.toIn ((hfm x).1 hx);simp [fC] at hb;omega
end
theorem Right.fromLen {s:an} (h:Right s):(aj s).length<=64:=by
 obtain ⟨q1,q2,q3⟩:=mn h.root h.pin h.hand;have e1:=kK s.2.1 s.1.length;have e2:=nk s.2.2.2;have e3:(aj s).length<=(bM ((bp s.2.1 s.1.length).1++ie s.2.2.2++s.2.2.1.map (·.1))).length:=kH _;rw [jn] at e3;simp only [PC,Qc] at e3;omega
theorem Right.small {s:an} (h:Right s):s.2.1.length<=32/\s.2.2.1.length<=16/\s.2.2.2.length<=16:=mn h.root h.pin h.hand
theorem Right.gaps {s:an} (h:Right s):aq (fw s)=(aV false [] (aa (fw s)).1,0)/\(∀ r∈aV false [] (aa (fw s)).1,0<=r.1/\1<=r.2/\r.2<=256)/\(aV false [] (aa (fw s)).1).length<=256:=by
 obtain ⟨hz,hl,_⟩:=h.slidOK;obtain ⟨g1,g2⟩:=pT (bJ hz).2.2.2.1;have hal:=h.al;refine ⟨by unfold aq; rw [if_neg (by omega)],fun r hr=>?_,g2⟩;have:=g1 r hr;omega
theorem C6 {f:List Int} {g:Int->Int} {i:Int} (h0:0<=i) (h1:i<f.length):(f.map g).getD i.toNat 0=g (f.getD i.toNat 0):=by
 have:i.toNat<f.length:=by omega
 simp [List.getD_eq_getElem?_getD,this]
theorem w8 {l:List dp} {i:Int} (h0:0<=i) (h1:i<l.length):fQ (l.take (i+1).toNat)=fQ (l.take i.toNat)+(l.getD i.toNat (0,0)).2:=by
 rw [a7 ((0,0):dp) h0 h1,ne]
structure ObjAt (s:an) (x:Int):Prop where
 isb:isB (aa s.1).1 x=true
 at_:gZ s.1 x=(gy s.1 (x,eN s.1 x) (ai s.1).2.1,0)
 refs:((gZ s.1 x).1.2.1.length:Int)=(eN s.1 x).1
 body:((gZ s.1 x).1.2.2.1.length:Int)=(eN s.1 x).2.1
 x0:0<=x
 r0:0<=(eN s.1 x).1
 b0:0<=(eN s.1 x).2.1
 fit:x+1+(eN s.1 x).1+(eN s.1 x).2.1<=s.1.length
theorem Right.obj {s:an} (h:Right s) {x:Int} (hx:x∈cW s):ObjAt s x:=by
 have hb:=h.nam x hx;obtain ⟨_,_,e⟩:=Gc h.chk hb;obtain ⟨l1,l2,l3,l4,l5,l6⟩:=bS hb;obtain ⟨k1,k2⟩:=Hq h.chk hb;exact ⟨hb,e,by omega,by omega,l3,l5,l6,l4⟩
theorem Right.rootIn {s:an} (h:Right s) {k:Int} (h0:0<=k) (h1:k<s.2.1.length):-1<=s.2.1.getD k.toNat 0/\s.2.1.getD k.toNat 0<s.1.length:=yB (nw h.root) (aH (0:Int) h0 h1)
theorem Right.rootNam {s:an} (_h:Right s) {k:Int} (h0:0<=k) (h1:k<s.2.1.length) (h2:0<=s.2.1.getD k.toNat 0):s.2.1.getD k.toNat 0∈cW s :=
 PE _ (PE _ (Qp.2 ⟨aH (0:Int) h0 h1,by simpa using h2⟩))
theorem Right.refWord {s:an} (h:Right s) {x k:Int} (hx:isB (aa s.1).1 x=true) (h0:0<=k) (h1:k<(eN s.1 x).1):0<=s.1.getD (x+1+k).toNat 0/\s.1.getD (x+1+k).toNat 0<=256:=by
 obtain ⟨l1,l2,l3,l4,l5,l6⟩:=bS hx
 have hm:s.1.getD (x+1+k).toNat 0∈aY s.1 x:=by
  unfold aY bc;have hlt:(x+1+k).toNat<s.1.length:=by omega
  rw [List.mem_iff_getElem?];refine ⟨k.toNat,?_⟩;rw [List.getElem?_drop,List.getElem?_take,if_pos (by simp only; omega),show (x+1).toNat+k.toNat=(x+1+k).toNat by omega];simp [List.getD_eq_getElem?_getD,hlt]
 have hw:=h.w _ (aH (0:Int) (xs:=s.1) (i:=x+1+k) (by omega) (by omega));have hw0:0<=s.1.getD (x+1+k).toNat 0:=hw.1;by_cases hz:s.1.getD (x+1+k).toNat 0=0
 ·omega
 ·have ho:s.1.getD (x+1+k).toNat 0 - 1∈a8 s.1 x:=P3.2 ⟨_,Qp.2 ⟨hm,by simpa using hz⟩,rfl⟩;have:=cA (jA h.w h.chk hx ho);omega
end
end Go.Proofs.YtmfileeamnfpaaaGreatDoor
