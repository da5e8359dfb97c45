import Derived.Test.YtmfileeamnfpaaaGreatDoorM1
import Derived.WalkKit
import Derived.KernelRfl
import Derived.Lib.AppendZeros
import Derived.Lib.AppendZerosOnto
import Derived.Lib.Overlaps
import Derived.Laws.Externs
import Derived.Laws.IdiomCopy
import Derived.Laws.CopyRow
import Derived.Shelf.RegionOpenPlain
import Derived.Shelf.Spec.SlicesInsert
import Derived.Deep.Upon
namespace Go.Proofs.YtmfileeamnfpaaaGreatDoor
section
open Go
set_option maxRecDepth 100000
set_option maxHeartbeats 1000000
theorem Nx {l:List Int} {x:Int} (h:(!fv l x)=true):¬ x∈l:=fun hx=>by rw [cu.2 hx] at h; cases h
theorem Nw {l:List Int} {x:Int} (h:(!fv l x)=false):x∈l:=cu.1 (by cases hx:fv l x <;> simp_all)
structure InReach (a f l:List Int):Prop where
 has:∀ x∈f,x∈l
 only:∀ x∈l,Rch a f x
 len:l.length+EX f<=f.length+EX l
def eu (m:List (Int×dZ)):List au->List (Int×dZ)
 | []=>m
 | s::l=>eu (if s.2.2.2.2=true then m else fU m s.1 s.2) l
def lp (l:List au):List (Int×dZ):=eu [] l
theorem nn (x:Int):∀ (l:List au) (m:List (Int×dZ)),l.Pairwise (fun s t=>s.1<t.1)->bt (eu m l) x=if isB l x=true then some (bU x l).1 else bt m x
 | [],m,_=>rfl
 | s::l,m,h=>by
  obtain ⟨h1,h2⟩:=List.pairwise_cons.1 h;have e0:eu m (s::l)=eu (if s.2.2.2.2=true then m else fU m s.1 s.2) l:=rfl;rw [e0,nn x l _ h2];by_cases hx:s.1=x/\s.2.2.2.2=false
  ·have e1:bU x (s::l)=(s.2,true):=if_pos hx;have e2:isB (s::l) x=true:=by unfold isB; rw [e1]
   have hn:¬ isB l x=true:=by
    rw [<- fu,cu];intro hm
    have:∃ t∈l,t.1=x:=by
     clear h h2 hx e0 e1 e2
     induction l with
     | nil=>cases hm
     | cons t l ih =>
      simp only [aX] at hm;split at hm
      ·obtain ⟨u,hu,e⟩:=ih (fun y hy=>h1 y (by simp [hy])) hm;exact ⟨u,by simp [hu],e⟩
      ·rcases List.mem_cons.1 hm with hm | hm
       ·exact ⟨t,by simp,hm.symm⟩
       ·obtain ⟨u,hu,e⟩:=ih (fun y hy=>h1 y (by simp [hy])) hm;exact ⟨u,by simp [hu],e⟩
    obtain ⟨t,ht,e⟩:=this;have:=h1 t ht;omega
   rw [if_neg hn,if_pos e2,e1,if_neg (by rw [hx.2]; simp),jf,if_pos hx.1.symm]
  ·have e1:bU x (s::l)=bU x l:=if_neg hx;have e2:isB (s::l) x=isB l x:=by unfold isB; rw [e1]
   rw [e2,e1];by_cases hb:isB l x=true
   ·rw [if_pos hb,if_pos hb]
   ·rw [if_neg hb,if_neg hb];by_cases hf:s.2.2.2.2=true
    ·rw [if_pos hf]
    ·rw [if_neg hf,jf,if_neg (fun e=>hx ⟨e.symm,by simpa using hf⟩)]
theorem HR {l:List au} (h:l.Pairwise (fun s t=>s.1<t.1)) (x:Int):bt (lp l) x=if isB l x=true then some (bU x l).1 else none:=nn x l [] h
theorem nt:∀ (l k:List au),aX (l++k)=aX l++aX k
 | [],_=>rfl
 | s::l,k=>by
  have:=nt l k;simp only [List.cons_append,aX,this];split <;> simp
structure Seen (m:List (Int×Bool)) (o:List Int):Prop where
 nodup:o.Nodup
 is:∀ x,(bt m x).getD false=fv o x
theorem Seen.new:Seen [] []:=⟨List.nodup_nil,fun _=>rfl⟩
theorem Seen.add {m:List (Int×Bool)} {o:List Int} {x:Int} (h:Seen m o) (hn:(!(bt m x).getD false)=true):Seen (fU m x true) (o++[x]):=by
 rw [h.is] at hn;refine ⟨?_,fun y=>?_⟩
 ·rw [List.nodup_append];exact ⟨h.nodup,by simp,fun y hy z hz=>by rw [List.mem_singleton.1 hz]; rintro rfl; exact Nx hn hy⟩
 ·rw [jf];by_cases hy:y=x
  ·subst hy;rw [if_pos rfl];exact (cu.2 (by simp)).symm
  ·rw [if_neg hy,h.is];unfold fv;rw [List.any_append];simp [Ne.symm hy]
theorem Seen.mem {m:List (Int×Bool)} {o:List Int} {x:Int} (h:Seen m o) (hn:(!(bt m x).getD false)=false):x∈o:=by
 rw [h.is] at hn;exact Nw hn
theorem mS {o:List Int} (hd:o.Nodup) (hr:∀ x∈o,0<=x/\x<=255):o.length<=256:=by
 have h1:=k8 o;have h2:(d9 o).Nodup:=(List.mergeSort_perm o _).nodup_iff.2 hd;have h3:(d9 o).Pairwise (·<·):=(h1.and h2).imp (fun ⟨x,y⟩=>by omega);have h4:=iJ (s:=0) h3 (fun x hx=>hr x (pZ.1 hx)) (by omega);rw [iT] at h4;omega
def Ky:LoopGen:={ rd:=[.own 30 202 cF,.dat 0 (.arr bj)],A:=fun ((l,a):List au×List Int)=>{ cs:=[.boxS 24 [.dat (.arr bj),.mpc 22,.own 3 ty_I],.map 22 .i64 gF,.dat 32 ty_I],inv:=fun ((b,m,i):(List Int×Unit×List Int)×List (Int×dZ)×Int)=>0<=i/\i<=l.length/\b.1=a/\b.2.2=aX (l.take i.toNat)/\eu m (l.drop i.toNat)=lp l,mu:=fun ((_,_,i):(List Int×Unit×List Int)×List (Int×dZ)×Int)=>(l.length - i).toNat } }
def Kx:LoopGen:={ rd:=[.dat 60 (.arr ty_I),.map 22 .i64 gF],A:=fun ((f,m):List Int×List (Int×dZ))=>{ cs:=[.dat 62 ty_I],inv:=fun (i:Int)=>0<=i/\i<=f.length/\((f.drop i.toNat).all fun x=>(bt m x).isSome)=(f.all fun x=>(bt m x).isSome),mu:=fun (i:Int)=>(f.length - i).toNat } }
def Kt:Nat->Option LoopGen
 | 3000089=>some eE
 | 3000091=>some eE
 | 3000090=>some eE
 | 9000000007=>some Ky
 | 9000000014=>some Kx
 | 8=>some { rd:=[.dat 25 (.arr ty_I)],A:=fun (f:List Int)=>{ cs:=[.map 23 .i64 .bool,.boxS 9 [.own 3 ty_I],.dat 27 ty_I],inv:=fun ((m,o,i):List (Int×Bool)×List Int×Int)=>0<=i/\i<=f.length/\Seen m o/\(∀ x∈f.take i.toNat,x∈o)/\(∀ x∈o,x∈f),mu:=fun ((_,_,i):List (Int×Bool)×List Int×Int)=>(f.length - i).toNat } }
 | 13=>some { rd:=[.dat 0 (.arr bj),.dat 1 (.arr ty_I)],A:=fun ((a,f):List Int×List Int)=>{ cs:=[.map 23 .i64 .bool,.boxS 9 [.own 3 ty_I],.dat 13 ty_I],inv:=fun ((m,o,i):List (Int×Bool)×List Int×Int)=>0<=i/\i<=o.length/\Seen m o/\(∀ x∈f,x∈o)/\(∀ x∈o,Rch a f x)/\(∀ x∈o.take i.toNat,∀ y∈ft a x,y∈o),mu:=fun ((_,_,i):List (Int×Bool)×List Int×Int)=>(256 - i).toNat } }
 | 9200000001=>some { rd:=[.dat 24 (.arr bj),.boxS 9900000 [.own 3 ty_I]],A:=fun ((rs,o0):List Int×List Int)=>{ cs:=[.map 23900000 .i64 .bool,.boxS 9900000 [.own 3 ty_I],.dat 26 ty_I],inv:=fun ((m,o,j):List (Int×Bool)×List Int×Int)=>0<=j/\j<=rs.length/\Seen m o/\(∃ k,o=o0++k/\∀ x∈k,x+1∈rs/\x+1≠0)/\(∀ v∈rs.take j.toNat,v≠0->v - 1∈o),mu:=fun ((_,_,j):List (Int×Bool)×List Int×Int)=>(rs.length - j).toNat } }
 | _=>none
def IS:Spec:={ Ts:=[.arr bj,.arr ty_I],Rs:=[.own 3 ty_I,.dat ty_I],pre:=fun _=>True,F:=fun ((a,f):List Int×List Int)=>dJ a f }
def Bv:Prop :=
  ∀ (x:List Int×List Int),((x.1.length * 8<=aJ/\∀ (x_1:Int),x_1∈x.1->am .u64 x_1)/\x.2.length * 8<=aJ/\∀ (x_1:Int),x_1∈x.2->am .i64 x_1)->True->∀ (_:Array Value),True/\(decide ((ak x.1).2.2≠0)=true->(decide ((ak x.1).2.2≠0)=true->([]:List Int)=(dJ x.1 x.2).1/\(ak x.1).2.2=(dJ x.1 x.2).2/\True)/\(decide ((ak x.1).2.2≠0)=false->((0:Int)<=0/\0<=(x.2.length:Int)/\Seen ([]:List (Int×Bool)) ([]:List Int)/\(∀ (x_1:Int),x_1∈List.take (Int.toNat 0) x.2->x_1∈([]:List Int))/\∀ (x_1:Int),x_1∈([]:List Int)->x_1∈x.2)/\∀ (x_1:List (Int×Bool)×List Int×Int),(0<=x_1.2.2/\x_1.2.2<=(x.2.length:Int)/\Seen x_1.1 x_1.2.1/\(∀ (x_2:Int),x_2∈List.take x_1.2.2.toNat x.2->x_2∈x_1.2.1)/\∀ (x_2:Int),x_2∈x_1.2.1->x_2∈x.2)->(decide (x_1.2.2<(x.2.length:Int))=true->0<=x_1.2.2/\x_1.2.2<(x.2.length:Int)/\∀ (_:Array Value),((!(bt x_1.1 (x.2.getD x_1.2.2.toNat 0)).getD false)=true->(x_1.2.1.length+[x.2.getD x_1.2.2.toNat 0].length) * 8<=aJ/\am .i64 (x_1.2.2+1)/\(0<=x_1.2.2+1/\x_1.2.2+1<=(x.2.length:Int)/\Seen (fU x_1.1 (x.2.getD x_1.2.2.toNat 0) true) (x_1.2.1++[x.2.getD x_1.2.2.toNat 0])/\(∀ (x_2:Int),x_2∈List.take (x_1.2.2+1).toNat x.2->x_2∈x_1.2.1++[x.2.getD x_1.2.2.toNat 0])/\∀ (x_2:Int),x_2∈x_1.2.1++[x.2.getD x_1.2.2.toNat 0]->x_2∈x.2)/\((x.2.length:Int) - (x_1.2.2+1)).toNat<((x.2.length:Int) - x_1.2.2).toNat)/\((!(bt x_1.1 (x.2.getD x_1.2.2.toNat 0)).getD false)=false->am .i64 (x_1.2.2+1)/\(0<=x_1.2.2+1/\x_1.2.2+1<=(x.2.length:Int)/\Seen x_1.1 x_1.2.1/\(∀ (x_2:Int),x_2∈List.take (x_1.2.2+1).toNat x.2->x_2∈x_1.2.1)/\∀ (x_2:Int),x_2∈x_1.2.1->x_2∈x.2)/\((x.2.length:Int) - (x_1.2.2+1)).toNat<((x.2.length:Int) - x_1.2.2).toNat))/\(decide (x_1.2.2<(x.2.length:Int))=false->((0:Int)<=0/\0<=(x_1.2.1.length:Int)/\Seen x_1.1 x_1.2.1/\(∀ (x_2:Int),x_2∈x.2->x_2∈x_1.2.1)/\(∀ (x_2:Int),x_2∈x_1.2.1->Rch x.1 x.2 x_2)/\∀ (x_2:Int),x_2∈List.take (Int.toNat 0) x_1.2.1->∀ (y:Int),y∈ft x.1 x_2->y∈x_1.2.1)/\∀ (x_2:List (Int×Bool)×List Int×Int),(0<=x_2.2.2/\x_2.2.2<=(x_2.2.1.length:Int)/\Seen x_2.1 x_2.2.1/\(∀ (x_3:Int),x_3∈x.2->x_3∈x_2.2.1)/\(∀ (x_3:Int),x_3∈x_2.2.1->Rch x.1 x.2 x_3)/\∀ (x_3:Int),x_3∈List.take x_2.2.2.toNat x_2.2.1->∀ (y:Int),y∈ft x.1 x_3->y∈x_2.2.1)->(decide (x_2.2.2<(x_2.2.1.length:Int))=true->0<=x_2.2.2/\x_2.2.2<(x_2.2.1.length:Int)/\x_2.2.2.toNat<x_2.2.1.length/\∀ (_:Array Value),False)/\(decide (x_2.2.2<(x_2.2.1.length:Int))=false->True/\d9 x_2.2.1=(dJ x.1 x.2).1/\0=(dJ x.1 x.2).2/\True))))/\(decide ((ak x.1).2.2≠0)=false->True/\((0:Int)<=0/\0<=(↑(ac x.1).1.length:Int)/\x.1=x.1/\((),([]:List Int)).2=aX (List.take (Int.toNat 0) (ac x.1).1)/\eu ([]:List (Int×Int×Int×Int×Bool)) (List.drop (Int.toNat 0) (ac x.1).1)=lp (ac x.1).1)/\∀ (x_1:(List Int×Unit×List Int)×List (Int×Int×Int×Int×Bool)×Int),0<=x_1.2.2/\x_1.2.2<=(↑(ac x.1).1.length:Int)/\x_1.1.1=x.1/\x_1.1.2.2=aX (List.take x_1.2.2.toNat (ac x.1).1)/\eu x_1.2.1 (List.drop x_1.2.2.toNat (ac x.1).1)=lp (ac x.1).1->(decide (x_1.2.2<(↑(ac x.1).1.length:Int))=true->0<=x_1.2.2/\x_1.2.2<(↑(ac x.1).1.length:Int)/\x_1.2.2.toNat<(ac x.1).1.length/\((!((ac x.1).1.getD x_1.2.2.toNat (0,0,0,0,false)).2.2.2.2)=true->(x_1.1.2.2.length+[((ac x.1).1.getD x_1.2.2.toNat (0,0,0,0,false)).1].length) * 8<=aJ/\am .i64 (x_1.2.2+1)/\(0<=x_1.2.2+1/\x_1.2.2+1<=(↑(ac x.1).1.length:Int)/\x_1.1.1=x.1/\((),x_1.1.2.2++[((ac x.1).1.getD x_1.2.2.toNat (0,0,0,0,false)).1]).2=aX (List.take (x_1.2.2+1).toNat (ac x.1).1)/\eu (fU x_1.2.1 ((ac x.1).1.getD x_1.2.2.toNat (0,0,0,0,false)).1 ((ac x.1).1.getD x_1.2.2.toNat (0,0,0,0,false)).2) (List.drop (x_1.2.2+1).toNat (ac x.1).1)=lp (ac x.1).1)/\((↑(ac x.1).1.length:Int) - (x_1.2.2+1)).toNat<((↑(ac x.1).1.length:Int) - x_1.2.2).toNat)/\((!((ac x.1).1.getD x_1.2.2.toNat (0,0,0,0,false)).2.2.2.2)=false->am .i64 (x_1.2.2+1)/\(0<=x_1.2.2+1/\x_1.2.2+1<=(↑(ac x.1).1.length:Int)/\x_1.1.1=x.1/\((),x_1.1.2.2).2=aX (List.take (x_1.2.2+1).toNat (ac x.1).1)/\eu x_1.2.1 (List.drop (x_1.2.2+1).toNat (ac x.1).1)=lp (ac x.1).1)/\((↑(ac x.1).1.length:Int) - (x_1.2.2+1)).toNat<((↑(ac x.1).1.length:Int) - x_1.2.2).toNat))/\(decide (x_1.2.2<(↑(ac x.1).1.length:Int))=false->((0:Int)<=0/\0<=(x.2.length:Int)/\((List.drop (Int.toNat 0) x.2).all fun (x:Int)=>(bt x_1.2.1 x).isSome)=x.2.all fun (x:Int)=>(bt x_1.2.1 x).isSome)/\∀ (x_2:Int),(0<=x_2/\x_2<=(x.2.length:Int)/\((List.drop x_2.toNat x.2).all fun (x:Int)=>(bt x_1.2.1 x).isSome)=x.2.all fun (x:Int)=>(bt x_1.2.1 x).isSome)->(decide (x_2<(x.2.length:Int))=true->0<=x_2/\x_2<(x.2.length:Int)/\((!(bt x_1.2.1 (x.2.getD x_2.toNat 0)).isSome)=true->(decide ((5:Int)≠0)=true->([]:List Int)=(dJ x.1 x.2).1/\5=(dJ x.1 x.2).2/\True)/\(decide ((5:Int)≠0)=false->((0:Int)<=0/\0<=(x.2.length:Int)/\Seen ([]:List (Int×Bool)) ([]:List Int)/\(∀ (x_3:Int),x_3∈List.take (Int.toNat 0) x.2->x_3∈([]:List Int))/\∀ (x_3:Int),x_3∈([]:List Int)->x_3∈x.2)/\∀ (x_3:List (Int×Bool)×List Int×Int),(0<=x_3.2.2/\x_3.2.2<=(x.2.length:Int)/\Seen x_3.1 x_3.2.1/\(∀ (x_4:Int),x_4∈List.take x_3.2.2.toNat x.2->x_4∈x_3.2.1)/\∀ (x_4:Int),x_4∈x_3.2.1->x_4∈x.2)->(decide (x_3.2.2<(x.2.length:Int))=true->0<=x_3.2.2/\x_3.2.2<(x.2.length:Int)/\∀ (_:Array Value),((!(bt x_3.1 (x.2.getD x_3.2.2.toNat 0)).getD false)=true->(x_3.2.1.length+[x.2.getD x_3.2.2.toNat 0].length) * 8<=aJ/\am .i64 (x_3.2.2+1)/\(0<=x_3.2.2+1/\x_3.2.2+1<=(x.2.length:Int)/\Seen (fU x_3.1 (x.2.getD x_3.2.2.toNat 0) true) (x_3.2.1++[x.2.getD x_3.2.2.toNat 0])/\(∀ (x_4:Int),x_4∈List.take (x_3.2.2+1).toNat x.2->x_4∈x_3.2.1++[x.2.getD x_3.2.2.toNat 0])/\∀ (x_4:Int),x_4∈x_3.2.1++[x.2.getD x_3.2.2.toNat 0]->x_4∈x.2)/\((x.2.length:Int) - (x_3.2.2+1)).toNat<((x.2.length:Int) - x_3.2.2).toNat)/\((!(bt x_3.1 (x.2.getD x_3.2.2.toNat 0)).getD false)=false->am .i64 (x_3.2.2+1)/\(0<=x_3.2.2+1/\x_3.2.2+1<=(x.2.length:Int)/\Seen x_3.1 x_3.2.1/\(∀ (x_4:Int),x_4∈List.take (x_3.2.2+1).toNat x.2->x_4∈x_3.2.1)/\∀ (x_4:Int),x_4∈x_3.2.1->x_4∈x.2)/\((x.2.length:Int) - (x_3.2.2+1)).toNat<((x.2.length:Int) - x_3.2.2).toNat))/\(decide (x_3.2.2<(x.2.length:Int))=false->((0:Int)<=0/\0<=(x_3.2.1.length:Int)/\Seen x_3.1 x_3.2.1/\(∀ (x_4:Int),x_4∈x.2->x_4∈x_3.2.1)/\(∀ (x_4:Int),x_4∈x_3.2.1->Rch x.1 x.2 x_4)/\∀ (x_4:Int),x_4∈List.take (Int.toNat 0) x_3.2.1->∀ (y:Int),y∈ft x.1 x_4->y∈x_3.2.1)/\∀ (x_4:List (Int×Bool)×List Int×Int),(0<=x_4.2.2/\x_4.2.2<=(x_4.2.1.length:Int)/\Seen x_4.1 x_4.2.1/\(∀ (x_5:Int),x_5∈x.2->x_5∈x_4.2.1)/\(∀ (x_5:Int),x_5∈x_4.2.1->Rch x.1 x.2 x_5)/\∀ (x_5:Int),x_5∈List.take x_4.2.2.toNat x_4.2.1->∀ (y:Int),y∈ft x.1 x_5->y∈x_4.2.1)->(decide (x_4.2.2<(x_4.2.1.length:Int))=true->0<=x_4.2.2/\x_4.2.2<(x_4.2.1.length:Int)/\x_4.2.2.toNat<x_4.2.1.length/\∀ (_:Array Value),False)/\(decide (x_4.2.2<(x_4.2.1.length:Int))=false->True/\d9 x_4.2.1=(dJ x.1 x.2).1/\0=(dJ x.1 x.2).2/\True))))/\((!(bt x_1.2.1 (x.2.getD x_2.toNat 0)).isSome)=false->am .i64 (x_2+1)/\(0<=x_2+1/\x_2+1<=(x.2.length:Int)/\((List.drop (x_2+1).toNat x.2).all fun (x:Int)=>(bt x_1.2.1 x).isSome)=x.2.all fun (x:Int)=>(bt x_1.2.1 x).isSome)/\((x.2.length:Int) - (x_2+1)).toNat<((x.2.length:Int) - x_2).toNat))/\(decide (x_2<(x.2.length:Int))=false->(decide ((0:Int)≠0)=true->([]:List Int)=(dJ x.1 x.2).1/\0=(dJ x.1 x.2).2/\True)/\(decide ((0:Int)≠0)=false->((0:Int)<=0/\0<=(x.2.length:Int)/\Seen ([]:List (Int×Bool)) ([]:List Int)/\(∀ (x_3:Int),x_3∈List.take (Int.toNat 0) x.2->x_3∈([]:List Int))/\∀ (x_3:Int),x_3∈([]:List Int)->x_3∈x.2)/\∀ (x_3:List (Int×Bool)×List Int×Int),(0<=x_3.2.2/\x_3.2.2<=(x.2.length:Int)/\Seen x_3.1 x_3.2.1/\(∀ (x_4:Int),x_4∈List.take x_3.2.2.toNat x.2->x_4∈x_3.2.1)/\∀ (x_4:Int),x_4∈x_3.2.1->x_4∈x.2)->(decide (x_3.2.2<(x.2.length:Int))=true->0<=x_3.2.2/\x_3.2.2<(x.2.length:Int)/\∀ (_:Array Value),((!(bt x_3.1 (x.2.getD x_3.2.2.toNat 0)).getD false)=true->(x_3.2.1.length+[x.2.getD x_3.2.2.toNat 0].length) * 8<=aJ/\am .i64 (x_3.2.2+1)/\(0<=x_3.2.2+1/\x_3.2.2+1<=(x.2.length:Int)/\Seen (fU x_3.1 (x.2.getD x_3.2.2.toNat 0) true) (x_3.2.1++[x.2.getD x_3.2.2.toNat 0])/\(∀ (x_4:Int),x_4∈List.take (x_3.2.2+1).toNat x.2->x_4∈x_3.2.1++[x.2.getD x_3.2.2.toNat 0])/\∀ (x_4:Int),x_4∈x_3.2.1++[x.2.getD x_3.2.2.toNat 0]->x_4∈x.2)/\((x.2.length:Int) - (x_3.2.2+1)).toNat<((x.2.length:Int) - x_3.2.2).toNat)/\((!(bt x_3.1 (x.2.getD x_3.2.2.toNat 0)).getD false)=false->am .i64 (x_3.2.2+1)/\(0<=x_3.2.2+1/\x_3.2.2+1<=(x.2.length:Int)/\Seen x_3.1 x_3.2.1/\(∀ (x_4:Int),x_4∈List.take (x_3.2.2+1).toNat x.2->x_4∈x_3.2.1)/\∀ (x_4:Int),x_4∈x_3.2.1->x_4∈x.2)/\((x.2.length:Int) - (x_3.2.2+1)).toNat<((x.2.length:Int) - x_3.2.2).toNat))/\(decide (x_3.2.2<(x.2.length:Int))=false->((0:Int)<=0/\0<=(x_3.2.1.length:Int)/\Seen x_3.1 x_3.2.1/\(∀ (x_4:Int),x_4∈x.2->x_4∈x_3.2.1)/\(∀ (x_4:Int),x_4∈x_3.2.1->Rch x.1 x.2 x_4)/\∀ (x_4:Int),x_4∈List.take (Int.toNat 0) x_3.2.1->∀ (y:Int),y∈ft x.1 x_4->y∈x_3.2.1)/\∀ (x_4:List (Int×Bool)×List Int×Int),(fun (v3:type_of% ((bt x_1.2.1 (x_4.2.1.getD x_4.2.2.toNat 0)).getD (0,0,0,false)))=>(fun (v2:type_of% (x_4.2.1.getD x_4.2.2.toNat 0+1))=>(fun (v1:type_of% (List.take (x_4.2.1.getD x_4.2.2.toNat 0+1+v3.1).toNat x_1.1.1))=>(fun (v0:type_of% (List.drop v2.toNat v1))=>(0<=x_4.2.2/\x_4.2.2<=(x_4.2.1.length:Int)/\Seen x_4.1 x_4.2.1/\(∀ (x_5:Int),x_5∈x.2->x_5∈x_4.2.1)/\(∀ (x_5:Int),x_5∈x_4.2.1->Rch x.1 x.2 x_5)/\∀ (x_5:Int),x_5∈List.take x_4.2.2.toNat x_4.2.1->∀ (y:Int),y∈ft x.1 x_5->y∈x_4.2.1)->(decide (x_4.2.2<(x_4.2.1.length:Int))=true->0<=x_4.2.2/\x_4.2.2<(x_4.2.1.length:Int)/\x_4.2.2.toNat<x_4.2.1.length/\∀ (_:Array Value),am .i64 v2/\am .i64 v2/\am .i64 (x_4.2.1.getD x_4.2.2.toNat 0+1+v3.1)/\0<=x_4.2.1.getD x_4.2.2.toNat 0+1/\x_4.2.1.getD x_4.2.2.toNat 0+1<=x_4.2.1.getD x_4.2.2.toNat 0+1+v3.1/\x_4.2.1.getD x_4.2.2.toNat 0+1+v3.1<=(x_1.1.1.length:Int)/\((0:Int)<=0/\0<=(v0.length:Int)/\Seen x_4.1 x_4.2.1/\(∃ (k:List Int),x_4.2.1=x_4.2.1++k/\∀ (x:Int),x∈k->x+1∈List.drop v2.toNat v1/\x+1≠0)/\∀ (v:Int),v∈List.take (Int.toNat 0) v0->v≠0->v - 1∈x_4.2.1)/\∀ (x_5:List (Int×Bool)×List Int×Int),(fun (v4:type_of% (v0.getD x_5.2.2.toNat 0))=>(0<=x_5.2.2/\x_5.2.2<=(v0.length:Int)/\Seen x_5.1 x_5.2.1/\(∃ (k:List Int),x_5.2.1=x_4.2.1++k/\∀ (x:Int),x∈k->x+1∈List.drop v2.toNat v1/\x+1≠0)/\∀ (v:Int),v∈List.take x_5.2.2.toNat v0->v≠0->v - 1∈x_5.2.1)->(decide (x_5.2.2<(v0.length:Int))=true->0<=x_5.2.2/\x_5.2.2<(v0.length:Int)/\(decide (v0.getD x_5.2.2.toNat (0:Int)≠0)=true->am .i64 (IntKind.i64.wrap v4 - 1)/\∀ (_:Array Value),((!(bt x_5.1 (IntKind.i64.wrap v4 - 1)).getD false)=true->(x_5.2.1.length+[IntKind.i64.wrap v4 - 1].length) * 8<=aJ/\am .i64 (x_5.2.2+1)/\(0<=x_5.2.2+1/\x_5.2.2+1<=(v0.length:Int)/\Seen (fU x_5.1 (IntKind.i64.wrap v4 - 1) true) (x_5.2.1++[IntKind.i64.wrap v4 - 1])/\(∃ (k:List Int),x_5.2.1++[IntKind.i64.wrap v4 - 1]=x_4.2.1++k/\∀ (x:Int),x∈k->x+1∈List.drop v2.toNat v1/\x+1≠0)/\∀ (v:Int),v∈List.take (x_5.2.2+1).toNat v0->v≠0->v - 1∈x_5.2.1++[IntKind.i64.wrap v4 - 1])/\((v0.length:Int) - (x_5.2.2+1)).toNat<((v0.length:Int) - x_5.2.2).toNat)/\((!(bt x_5.1 (IntKind.i64.wrap v4 - 1)).getD false)=false->am .i64 (x_5.2.2+1)/\(0<=x_5.2.2+1/\x_5.2.2+1<=(v0.length:Int)/\Seen x_5.1 x_5.2.1/\(∃ (k:List Int),x_5.2.1=x_4.2.1++k/\∀ (x:Int),x∈k->x+1∈List.drop v2.toNat v1/\x+1≠0)/\∀ (v:Int),v∈List.take (x_5.2.2+1).toNat v0->v≠0->v - 1∈x_5.2.1)/\((v0.length:Int) - (x_5.2.2+1)).toNat<((v0.length:Int) - x_5.2.2).toNat))/\(decide (v0.getD x_5.2.2.toNat (0:Int)≠0)=false->am .i64 (x_5.2.2+1)/\(0<=x_5.2.2+1/\x_5.2.2+1<=(v0.length:Int)/\Seen x_5.1 x_5.2.1/\(∃ (k:List Int),x_5.2.1=x_4.2.1++k/\∀ (x:Int),x∈k->x+1∈List.drop v2.toNat v1/\x+1≠0)/\∀ (v:Int),v∈List.take (x_5.2.2+1).toNat v0->v≠0->v - 1∈x_5.2.1)/\((v0.length:Int) - (x_5.2.2+1)).toNat<((v0.length:Int) - x_5.2.2).toNat))/\(decide (x_5.2.2<(v0.length:Int))=false->am .i64 (x_4.2.2+1)/\(0<=x_4.2.2+1/\x_4.2.2+1<=(x_5.2.1.length:Int)/\Seen x_5.1 x_5.2.1/\(∀ (x_6:Int),x_6∈x.2->x_6∈x_5.2.1)/\(∀ (x_6:Int),x_6∈x_5.2.1->Rch x.1 x.2 x_6)/\∀ (x_6:Int),x_6∈List.take (x_4.2.2+1).toNat x_5.2.1->∀ (y:Int),y∈ft x.1 x_6->y∈x_5.2.1)/\(256 - (x_4.2.2+1)).toNat<(256 - x_4.2.2).toNat)) (v0.getD x_5.2.2.toNat 0))/\(decide (x_4.2.2<(x_4.2.1.length:Int))=false->True/\d9 x_4.2.1=(dJ x.1 x.2).1/\0=(dJ x.1 x.2).2/\True)) (List.drop v2.toNat v1)) (List.take (x_4.2.1.getD x_4.2.2.toNat 0+1+v3.1).toNat x_1.1.1)) (x_4.2.1.getD x_4.2.2.toNat 0+1)) ((bt x_1.2.1 (x_4.2.1.getD x_4.2.2.toNat 0)).getD (0,0,0,false)))))))
theorem Gi:Bv:=by
 unfold Bv;intro ⟨a,f⟩ ⟨⟨hb,hw⟩,hbf,hf⟩ _ tm;unfold aJ at hb hbf;simp only at hb hw hbf hf ⊢;refine ⟨trivial,fun hc=>⟨fun _=>?_,fun hn=>by rw [hc] at hn; cases hn⟩,fun hc=>?_⟩
 ·have hc:=of_decide_eq_true hc;have e:aY a f=(ak a).2.2:=by unfold aY; rw [if_pos hc]
  have e2:dJ a f=([],(ak a).2.2):=by unfold dJ; rw [e,if_pos hc]
  rw [e2];exact ⟨rfl,rfl,trivial⟩
 have hc:(ak a).2.2=0:=by simpa using of_decide_eq_false hc
 obtain ⟨hal,_,_,hz,_,_,_⟩:=bi hc;have hsl:=eY a;have hsp:=eJ a;have hget:=fun x=>HR (bV a) x
 have hbl:=jD (ac a).1;refine ⟨trivial,⟨by omega,by omega,trivial,rfl,rfl⟩,fun ⟨⟨a1,⟨⟩,out⟩,m,i⟩ ⟨i0,i1,i2,i3,i4⟩=>⟨fun hlt=>?_,fun hge=>?_⟩⟩
 ·simp only at i0 i1 i2 i3 i4 hlt ⊢;have hlt:=of_decide_eq_true hlt;have hs:=hsp _ (aH ((0,0,0,0,false):au) i0 hlt);have ht:=bB ((0,0,0,0,false):au) i0 hlt;rw [bh ((0,0,0,0,false):au) i0 hlt] at i4;simp only [eu] at i4
  have hol:out.length<=256:=by
   rw [i3];have:=jD (List.take i.toNat (ac a).1);rw [List.length_take] at this;omega
  rw [ht,nt,<- i3];generalize (ac a).1.getD i.toNat (0,0,0,0,false)=s at *;simp only [am];refine ⟨i0,hlt,by omega,fun hf0=>?_,fun hf0=>?_⟩
  ·have hf0:¬ s.2.2.2.2=true:=by simpa using hf0
   have e:aX [s]=[s.1]:=by simp only [aX]; rw [if_neg hf0]
   rw [if_neg hf0] at i4;rw [e];unfold aJ;simp only [List.length_singleton];exact ⟨by omega,by omega,⟨by omega,by omega,i2,trivial,i4⟩,by omega⟩
  ·have hf0:s.2.2.2.2=true:=by simpa using hf0
   have e:aX [s]=[]:=by simp only [aX]; rw [if_pos hf0]
   rw [if_pos hf0] at i4;rw [e,List.append_nil];exact ⟨by omega,⟨by omega,by omega,i2,rfl,i4⟩,by omega⟩
 simp only at i0 i1 i2 i3 i4 hge ⊢;have hge:=of_decide_eq_false hge;rw [b7 hge] at i4;have i4:m=lp (ac a).1:=i4;subst i4 i2;have hsome:∀ x,(bt (lp (ac a1).1) x).isSome=isB (ac a1).1 x:=fun x=>by rw [hget]; cases isB (ac a1).1 x <;> rfl
 simp only [hsome];refine ⟨⟨by omega,by omega,rfl⟩,fun j ⟨j0,j1,j2⟩=>⟨fun hlt=>?_,fun hge=>⟨fun h=>by simp at h,fun _=>?_⟩⟩⟩
 ·have hlt:=of_decide_eq_true hlt;rw [bh (0:Int) j0 hlt,List.all_cons] at j2;simp only [am];refine ⟨j0,hlt,fun hn=>⟨fun _=>?_,fun h=>by simp at h⟩,fun hn=>⟨by omega,⟨by omega,by omega,?_⟩,by omega⟩⟩
  ·have hn:isB (ac a1).1 (f.getD j.toNat 0)=false:=by simpa using hn
   rw [hn,Bool.false_and] at j2;have e:aY a1 f=5:=by unfold aY; rw [if_neg (by omega),<- j2]; rfl
   have e2:dJ a1 f=([],5):=by unfold dJ; rw [e]; rfl
   rw [e2];exact ⟨rfl,rfl,trivial⟩
  ·have hn:isB (ac a1).1 (f.getD j.toNat 0)=true:=by simpa using hn
   rw [hn,Bool.true_and] at j2;exact j2
 rw [b7 (of_decide_eq_false hge),List.all_nil] at j2;have hfb:∀ x∈f,isB (ac a1).1 x=true:=List.all_eq_true.1 j2.symm;have e0:aY a1 f=0:=i7 hc hfb;have e1:dJ a1 f=(bD a1 f,0):=by unfold dJ; rw [e0]; rfl
 rw [e1];clear i0 i1 i3 hge j0 j1 j2;have hrch:∀ x,Rch a1 f x->0<=x/\x<=255:=fun x hx=>gB (hx.isB hw hc hfb)
 refine ⟨⟨by omega,by omega,Seen.new,fun x hx=>by simp at hx,fun x hx=>by cases hx⟩,fun ⟨m,o,i⟩ ⟨i0,i1,i2,i3,i4⟩=>⟨fun hlt=>?_,fun hge=>?_⟩⟩
 ·simp only at i0 i1 i2 i3 i4 hlt ⊢;have hlt:=of_decide_eq_true hlt;have ht:=bB (0:Int) i0 hlt;have hm:=aH (0:Int) i0 hlt;generalize f.getD i.toNat 0=x at *;have hol:=mS i2.nodup (fun y hy=>hrch y (.base (i4 y hy)));rw [ht];unfold aJ;simp only [am,List.length_singleton];refine ⟨i0,hlt,fun _=>⟨fun hn=>⟨by omega,by omega,⟨by omega,by omega,i2.add hn,fun y hy=>?_,fun y hy=>?_⟩,by omega⟩,fun hn=>⟨by omega,⟨by omega,by omega,i2,fun y hy=>?_,i4⟩,by omega⟩⟩⟩
  ·rcases List.mem_append.1 hy with hy | hy
   ·exact List.mem_append_left _ (i3 y hy)
   ·exact List.mem_append_right _ hy
  ·rcases List.mem_append.1 hy with hy | hy
   ·exact i4 y hy
   ·rw [List.mem_singleton.1 hy]; exact hm
  ·rcases List.mem_append.1 hy with hy | hy
   ·exact i3 y hy
   ·rw [List.mem_singleton.1 hy]; exact i2.mem hn
 simp only at i0 i1 i2 i3 i4 hge ⊢;rw [cA (of_decide_eq_false hge)] at i3;refine ⟨⟨by omega,by omega,i2,i3,fun x hx=>.base (i4 x hx),fun x hx=>by simp at hx⟩,fun ⟨m2,o2,k⟩ ⟨k0,k1,k2,k3,k4,k5⟩=>⟨fun hlt=>?_,fun hge=>?_⟩⟩
 ·clear i0 i1 i2 i3 i4 hge;simp only at k0 k1 k2 k3 k4 k5 hlt ⊢;have hlt:=of_decide_eq_true hlt;have ht:=bB (0:Int) k0 hlt;have hm:=aH (0:Int) k0 hlt;have hol:=mS k2.nodup (fun y hy=>hrch y (k4 y hy));generalize hat:o2.getD k.toNat 0=at_ at *;have hib:=(k4 at_ hm).isB hw hc hfb;have hh:((bt (lp (ac a1).1) at_).getD (0,0,0,false))=eG a1 at_:=by rw [hget,if_pos hib]; rfl
  obtain ⟨l1,_,l3,l4,l5,l6⟩:=bW hib;have hrf:=nF hw hc _ (fi hib).1;have hrs:List.drop (at_+1).toNat (List.take (at_+1+(eG a1 at_).1).toNat a1)=bF a1 at_:=rfl
  have hout:∀ y,y∈ft a1 at_ ↔ (y+1∈bF a1 at_/\y+1≠0):=by
   intro y;unfold ft;simp only [List.mem_map,List.mem_filter,decide_eq_true_eq];constructor
   ·rintro ⟨v,⟨hv,h0⟩,rfl⟩;rw [Int.sub_add_cancel];exact ⟨hv,h0⟩
   ·rintro ⟨h1,h2⟩;exact ⟨y+1,⟨h1,h2⟩,by omega⟩
  have hstep:∀ y,y+1∈bF a1 at_->y+1≠0->Rch a1 f y:=fun y h1 h2=>.step (k4 at_ hm) ((hout y).2 ⟨h1,h2⟩)
  rw [hh,hrs]
  have hwr:∀ v∈bF a1 at_,IntKind.i64.wrap v=v/\0<=v/\v<=256:=fun v hv=>by
   rcases hrf v hv with e | ⟨h1,h2,_⟩
   ·subst e; exact ⟨m4 (by omega) (by omega),by omega,by omega⟩
   ·exact ⟨m4 (by omega) (by omega),by omega,by omega⟩
  generalize hrs0:bF a1 at_=rs at *;simp only [am];refine ⟨k0,hlt,by omega,fun _=>⟨by omega,by omega,by omega,by omega,by omega,by omega,⟨by omega,by omega,k2,⟨[],by simp,fun x hx=>by cases hx⟩,fun v hv=>by simp at hv⟩,fun ⟨m3,o3,j⟩ ⟨j0,j1,j2,⟨kk,j3,j4⟩,j5⟩=>⟨fun hj=>?_,fun hj=>?_⟩⟩⟩
  ·simp only at j0 j1 j2 j3 j4 j5 hj ⊢;have hj:=of_decide_eq_true hj;have ht2:=bB (0:Int) j0 hj;have hv:=aH (0:Int) j0 hj;generalize rs.getD j.toNat 0=v at *;obtain ⟨w1,w2,w3⟩:=hwr v hv
   have hol3:=mS j2.nodup (fun y hy=>hrch y (by
    rw [j3] at hy;rcases List.mem_append.1 hy with hy | hy
    ·exact k4 y hy
    ·exact hstep y (j4 y hy).1 (j4 y hy).2))
   rw [w1,ht2];unfold aJ;simp only [List.length_singleton];refine ⟨j0,hj,fun hne=>⟨by omega,fun _=>⟨fun hn=>⟨by omega,by omega,⟨by omega,by omega,j2.add hn,⟨kk++[v - 1],by rw [j3,List.append_assoc],fun y hy=>?_⟩,fun y hy hy0=>?_⟩,by omega⟩,fun hn=>⟨by omega,⟨by omega,by omega,j2,⟨kk,j3,j4⟩,fun y hy hy0=>?_⟩,by omega⟩⟩⟩,fun hne=>⟨by omega,⟨by omega,by omega,j2,⟨kk,j3,j4⟩,fun y hy hy0=>?_⟩,by omega⟩⟩
   ·rcases List.mem_append.1 hy with hy | hy
    ·exact j4 y hy
    ·rw [List.mem_singleton.1 hy,Int.sub_add_cancel];exact ⟨hv,of_decide_eq_true hne⟩
   ·rcases List.mem_append.1 hy with hy | hy
    ·exact List.mem_append_left _ (j5 y hy hy0)
    ·rw [List.mem_singleton.1 hy]; simp
   ·rcases List.mem_append.1 hy with hy | hy
    ·exact j5 y hy hy0
    ·rw [List.mem_singleton.1 hy]; exact j2.mem hn
   ·rcases List.mem_append.1 hy with hy | hy
    ·exact j5 y hy hy0
    ·rw [List.mem_singleton.1 hy] at hy0;exact absurd hy0 (by simpa using of_decide_eq_false hne)
  ·simp only at j0 j1 j2 j3 j4 j5 hj ⊢;rw [cA (of_decide_eq_false hj)] at j5;have hlen3:o2.length<=o3.length:=by rw [j3]; simp
   have e3:o3.take (k+1).toNat=o2.take k.toNat++[at_]:=by rw [j3,List.take_append_of_le_length (by omega),ht]
   rw [e3];refine ⟨by omega,⟨by omega,by omega,j2,fun x hx=>by rw [j3]; exact List.mem_append_left _ (k3 x hx),fun x hx=>?_,fun x hx y hy=>?_⟩,by omega⟩
   ·rw [j3] at hx;rcases List.mem_append.1 hx with hx | hx
    ·exact k4 x hx
    ·exact hstep x (j4 x hx).1 (j4 x hx).2
   ·rcases List.mem_append.1 hx with hx | hx
    ·rw [j3]; exact List.mem_append_left _ (k5 x hx y hy)
    ·rw [List.mem_singleton.1 hx] at hy;obtain ⟨q1,q2⟩:=(hout y).1 hy;have:=j5 _ q1 q2
     rwa [Int.add_sub_cancel] at this
 ·simp only at k0 k1 k2 k3 k4 k5 hge ⊢;rw [cA (of_decide_eq_false hge)] at k5;exact ⟨trivial,(Full.mk k3 k4 k5).sorted hw hc hfb k2.nodup,trivial,trivial⟩
theorem Jr:IS.ok Tryz.prog 29:=aD (ann:=Kt) (ae iX (ae iW (kZ tU ap))) Tryz.func29 (by kernel_rfl) Gi
end
section
open Go
set_option maxRecDepth 100000
set_option maxHeartbeats 1000000
def A0:Spec:={ Ts:=[.nil,ty_I],Rs:=[.own 3 ty_I],pre:=fun ((_,n):Unit×Int)=>0<=n/\n.toNat * 8<=aJ,F:=fun _=>([]:List Int) }
def rv:Prop :=
  ∀ (x:Unit×Int),True/\am .i64 x.2->0<=x.2/\x.2.toNat * 8<=aJ->(decide (x.2<0)=true->False)/\(decide (x.2<0)=false->am .i64 (0 - 0)/\am .i64 (x.2 - (0 - 0))/\(decide (0<x.2 - (0 - 0))=true->(0:Int)=0/\0<x.2 - (0 - 0)/\(x.2 - (0 - 0)).toNat * 8<=aJ/\(0:Int)<=0/\0<=(↑(List.replicate (x.2 - (0 - 0)).toNat (0:Int)).length:Int)/\List.take (Int.toNat 0) (List.replicate (x.2 - (0 - 0)).toNat (0:Int))=([]:List Int)/\True)/\(decide (0<x.2 - (0 - 0))=false->([]:List Int)=([]:List Int)/\True))
theorem x6:rv:=by
 unfold rv;intro ⟨_,n⟩ ⟨_,hn⟩ ⟨h0,hb⟩;simp only [am] at *;refine ⟨fun h=>?_,fun _=>⟨by omega,by omega,fun h=>⟨trivial,by have:=of_decide_eq_true h; omega,by simpa using hb,by omega,by omega,by simp,trivial⟩,fun _=>by simp⟩⟩;have:=of_decide_eq_true h;omega
theorem B0:A0.ok Tryz.prog 226:=aD (ann:=co) ap Tryz.func226 (by kernel_rfl) x6
def vF:Spec:={ Ts:=[.arr (.arr ty_I)],Rs:=[.own 3 ty_I],pre:=fun (xs:List (List Int))=>xs.flatten.length * 8<=aJ,F:=fun (xs:List (List Int))=>xs.flatten }
def wo:Nat->Option LoopGen
 | 3=>some { rd:=[.dat 9 (.arr (.arr ty_I))],A:=fun (xs:List (List Int))=>{ cs:=[.dat 3 ty_I,.dat 11 ty_I],inv:=fun ((n,i):Int×Int)=>0<=i/\i<=xs.length/\n=((xs.take i.toNat).flatten.length:Int)/\xs.flatten.length * 8<=aJ,mu:=fun ((_,i):Int×Int)=>(xs.length - i).toNat } }
 | 11=>some { rd:=[.dat 25 (.arr (.arr ty_I))],A:=fun (xs:List (List Int))=>{ cs:=[.own 6 3 ty_I,.dat 27 ty_I],inv:=fun ((out,i):List Int×Int)=>0<=i/\i<=xs.length/\out++(xs.drop i.toNat).flatten=xs.flatten,mu:=fun ((_,i):List Int×Int)=>(xs.length - i).toNat } }
 | _=>none
def nb:Prop :=
  ∀ (x:List (List Int)),(x.length * 24<=aJ/\∀ (x_1:List Int),x_1∈x->x_1.length * 8<=aJ/\∀ (x:Int),x∈x_1->am .i64 x)->x.flatten.length * 8<=aJ->((0:Int)<=0/\0<=(x.length:Int)/\0=(↑(List.take (Int.toNat 0) x).flatten.length:Int)/\x.flatten.length * 8<=aJ)/\∀ (x_1:Int×Int),0<=x_1.2/\x_1.2<=(x.length:Int)/\x_1.1=(↑(List.take x_1.2.toNat x).flatten.length:Int)/\x.flatten.length * 8<=aJ->(decide (x_1.2<(x.length:Int))=true->0<=x_1.2/\x_1.2<(x.length:Int)/\am .i64 (x_1.1+(↑(x.getD x_1.2.toNat ([]:List Int)).length:Int))/\(decide (x_1.1+(↑(x.getD x_1.2.toNat ([]:List Int)).length:Int)<0)=true->False)/\(decide (x_1.1+(↑(x.getD x_1.2.toNat ([]:List Int)).length:Int)<0)=false->am .i64 (x_1.2+1)/\(0<=x_1.2+1/\x_1.2+1<=(x.length:Int)/\x_1.1+(↑(x.getD x_1.2.toNat ([]:List Int)).length:Int)=(↑(List.take (x_1.2+1).toNat x).flatten.length:Int)/\x.flatten.length * 8<=aJ)/\((x.length:Int) - (x_1.2+1)).toNat<((x.length:Int) - x_1.2).toNat))/\(decide (x_1.2<(x.length:Int))=false->(0<=x_1.1/\x_1.1.toNat * 8<=aJ)/\((0:Int)<=0/\0<=(x.length:Int)/\([]:List Int)++(List.drop (Int.toNat 0) x).flatten=x.flatten)/\∀ (x_2:List Int×Int),0<=x_2.2/\x_2.2<=(x.length:Int)/\x_2.1++(List.drop x_2.2.toNat x).flatten=x.flatten->(decide (x_2.2<(x.length:Int))=true->0<=x_2.2/\x_2.2<(x.length:Int)/\(x_2.1.length+(x.getD x_2.2.toNat ([]:List Int)).length) * 8<=aJ/\am .i64 (x_2.2+1)/\(0<=x_2.2+1/\x_2.2+1<=(x.length:Int)/\x_2.1++x.getD x_2.2.toNat ([]:List Int)++(List.drop (x_2.2+1).toNat x).flatten=x.flatten)/\((x.length:Int) - (x_2.2+1)).toNat<((x.length:Int) - x_2.2).toNat)/\(decide (x_2.2<(x.length:Int))=false->x_2.1=x.flatten/\True))
theorem sN:nb:=by
 unfold nb;intro xs ⟨hx,_⟩ hb;simp only [am] at *;unfold aJ at *
 have hpart:∀ k,(xs.take k).flatten.length<=xs.flatten.length:=fun k=>by
  have:=congrArg List.length (congrArg List.flatten (List.take_append_drop k xs));rw [List.flatten_append,List.length_append] at this;omega
 refine ⟨⟨by omega,by omega,by simp,hb⟩,fun ⟨n,i⟩ ⟨h0,h1,h2,_⟩=>⟨fun hlt=>?_,fun hge=>?_⟩⟩
 ·have hlt:i<(xs.length:Int):=by simpa using hlt
  have e:=bB ([]:List Int) h0 hlt;have hp:=hpart (i+1).toNat;rw [e] at hp ⊢;simp only [List.flatten_append,List.length_append,List.flatten_cons,List.flatten_nil,List.append_nil] at *;refine ⟨h0,hlt,by omega,fun hc=>?_,fun _=>⟨by omega,⟨by omega,by omega,by push_cast; omega,hb⟩,by omega⟩⟩;have:=of_decide_eq_true hc;omega
 ·have hge:¬ i<(xs.length:Int):=by simpa using hge
  rw [cA hge] at h2;simp only at *;refine ⟨⟨by omega,by omega⟩,⟨by omega,by omega,by simp⟩,fun ⟨out,j⟩ ⟨g0,g1,g2⟩=>⟨fun hlt=>?_,fun hge=>?_⟩⟩
  ·have hlt:j<(xs.length:Int):=by simpa using hlt
   simp only at *;rw [bh ([]:List Int) g0 hlt,List.flatten_cons] at g2;have hl:=congrArg List.length g2;simp only [List.length_append] at hl;exact ⟨g0,hlt,by omega,by omega,⟨by omega,by omega,by rw [List.append_assoc]; exact g2⟩,by omega⟩
  ·rw [b7 (by simpa using hge)] at g2;simp only [List.flatten_nil,List.append_nil] at g2;exact ⟨g2,trivial⟩
theorem ni:vF.ok Tryz.prog 169:=aD (ann:=wo) (ae B0 ap) Tryz.func169 (by kernel_rfl) sN
end
section
open Go
set_option maxRecDepth 100000
set_option maxHeartbeats 1000000
theorem iI:∀ {l:List Int},l.Pairwise (·<·)->be l=true
 | [],_=>rfl
 | [_],_=>rfl
 | x::y::l,h=>by
  obtain ⟨h1,h2⟩:=List.pairwise_cons.1 h;simp only [be,Bool.and_eq_true,decide_eq_true_eq];exact ⟨h1 y (by simp),iI h2⟩
theorem rY {a f p:List Int} (hw:∀ x∈a,am .u64 x) (h:aY a (f++p)=0) (hp:be p=true):aS a (bD a (f++p)) p=((bD a (f++p)).map (di (ac a).1),0):=by
 obtain ⟨h1,h2⟩:=eM h;have hr:=fun x=>g7 (a:=a) (from_:=f++p) hw h1 h2 (x:=x)
 have e1:be (bD a (f++p))=true:=iI (lc _ _);have e2:(bD a (f++p)).all (isB (ac a).1)=true:=List.all_eq_true.2 fun x hx=>((hr x).1 hx).isB hw h1 h2
 have e3:p.all (fv (bD a (f++p)))=true:=List.all_eq_true.2 fun x hx=>cu.2 ((hr x).2 (.base (by simp [hx])))
 unfold aS;rw [if_neg (by omega),e1,hp,e2,e3];simp
theorem uW {a f p:List Int} (hw:∀ x∈a,am .u64 x) (h:aY a (f++p)=0) (to:List Int):((bD a (f++p)).all fun x=>eU (bD a (f++p)) to (bF a x))=true:=by
 obtain ⟨h1,h2⟩:=eM h;have hr:=fun x=>g7 (a:=a) (from_:=f++p) hw h1 h2 (x:=x)
 refine List.all_eq_true.2 fun x hx=>List.all_eq_true.2 fun v hv=>?_
 unfold kK;by_cases h0:v=0
 ·rw [if_pos h0]; rfl
 ·have h3:v - 1∈ft a x:=by
   unfold ft;exact List.mem_map.2 ⟨v,List.mem_filter.2 ⟨hv,by simpa using h0⟩,rfl⟩
  rw [if_neg h0,if_pos (cu.2 ((hr _).2 (.step ((hr _).1 hx) h3)))];rfl
def aq (a f p:List Int):List Int×List Int×Int :=
 if aY a (f++p)≠0 then ([],[],aY a (f++p)) else
 if be p=false then ([],[],3) else
 ((d5 a (bD a (f++p)) p).1,f.map fun x=>(az (bD a (f++p)) ((bD a (f++p)).map (di (ac a).1)) p).getD (cD (bD a (f++p)) x).toNat 0,0)
theorem jr {l:List Int} {x:Int} (h:x∈l):0<=cD l x/\cD l x<l.length:=by
 have h1:=cS (fun y=>decide (y=x)) l 0 (by omega);have h2:=dW (fun y=>decide (y=x)) x l 0 (by omega);have h3:(l.any fun y=>decide (y=x))=true:=cu.2 h;rw [h3] at h1;exact ⟨of_decide_eq_true h1,by unfold cD; omega⟩
theorem mD {a f p:List Int} (hw:∀ x∈a,am .u64 x) (h:aY a (f++p)=0) (hp:be p=true) :
  d5 a (bD a (f++p)) p=((Bb a (bD a (f++p)) p).1,az (bD a (f++p)) ((bD a (f++p)).map (di (ac a).1)) p,0)/\(Bb a (bD a (f++p)) p).2=true:=by
 have e:=rY hw h hp;have hg:=uW hw h (az (bD a (f++p)) ((bD a (f++p)).map (di (ac a).1)) p);unfold d5 Bb;rw [e];simp only;rw [if_neg (by omega),if_pos hg,if_pos hg];exact ⟨rfl,rfl⟩
theorem pK {a f p:List Int} (h:aY a (f++p)=0) (hp:be p=false):d5 a (bD a (f++p)) p=([],[],3):=by
 obtain ⟨h1,_⟩:=eM h
 have e:aS a (bD a (f++p)) p=([],3):=by
  unfold aS;rw [if_neg (by omega),hp,Bool.and_false,if_pos rfl]
 unfold d5;rw [e];rfl
def Kz:Nat->Option LoopGen
 | 9=>some { rd:=[.dat 39 (.arr ty_I),.own 9 3 ty_I,.own 12 3 ty_I],A:=fun ((f,keep,to):List Int×List Int×List Int)=>{ cs:=[.own 13 3 ty_I,.dat 41 ty_I],inv:=fun ((out,i):List Int×Int)=>0<=i/\i<=f.length/\out=(f.take i.toNat).map fun x=>to.getD (cD keep x).toNat 0,mu:=fun ((_,i):List Int×Int)=>(f.length - i).toNat } }
 | _=>none
def I2:Spec:={ Ts:=[.arr bj,.arr ty_I,.arr ty_I],Rs:=[.own 45 bj,.own 3 ty_I,.dat ty_I],pre:=fun ((_,f,p):List Int×List Int×List Int)=>(f.length+p.length) * 8<=140737488355328,F:=fun ((a,f,p):List Int×List Int×List Int)=>aq a f p }
def BG:Prop :=
  ∀ (x:List Int×List Int×List Int),(fun (v1:type_of% (aq x.1 x.2.1 x.2.2))=>(fun (v0:type_of% (dJ x.1 [x.2.1,x.2.2].flatten))=>((x.1.length * 8<=aJ/\∀ (x_1:Int),x_1∈x.1->am .u64 x_1)/\(x.2.1.length * 8<=aJ/\∀ (x_1:Int),x_1∈x.2.1->am .i64 x_1)/\x.2.2.length * 8<=aJ/\∀ (x_1:Int),x_1∈x.2.2->am .i64 x_1)->(x.2.1.length+x.2.2.length) * 8<=140737488355328->[x.2.1,x.2.2].flatten.length * 8<=aJ/\True/\(decide (v0.2≠0)=true->([]:List Int)=v1.1/\([]:List Int)=v1.2.1/\v0.2=v1.2.2/\True)/\(decide (v0.2≠0)=false->True/\(decide ((d5 x.1 v0.1 x.2.2).2.2≠0)=true->([]:List Int)=v1.1/\([]:List Int)=v1.2.1/\(d5 x.1 v0.1 x.2.2).2.2=v1.2.2/\True)/\(decide ((d5 x.1 v0.1 x.2.2).2.2≠0)=false->((0:Int)<=0/\0<=(x.2.1.length:Int)/\([]:List Int)=List.map (fun (x_1:Int)=>(d5 x.1 v0.1 x.2.2).2.1.getD (cD v0.1 x_1).toNat 0) (List.take (Int.toNat 0) x.2.1))/\∀ (x_1:List Int×Int),0<=x_1.2/\x_1.2<=(x.2.1.length:Int)/\x_1.1=List.map (fun (x_2:Int)=>(d5 x.1 v0.1 x.2.2).2.1.getD (cD v0.1 x_2).toNat 0) (List.take x_1.2.toNat x.2.1)->(decide (x_1.2<(x.2.1.length:Int))=true->0<=x_1.2/\x_1.2<(x.2.1.length:Int)/\True/\0<=cD v0.1 (x.2.1.getD x_1.2.toNat 0)/\cD v0.1 (x.2.1.getD x_1.2.toNat 0)<(↑(d5 x.1 v0.1 x.2.2).2.1.length:Int)/\(cD v0.1 (x.2.1.getD x_1.2.toNat 0)).toNat<(d5 x.1 v0.1 x.2.2).2.1.length/\(x_1.1.length+[(d5 x.1 v0.1 x.2.2).2.1.getD (cD v0.1 (x.2.1.getD x_1.2.toNat 0)).toNat 0].length) * 8<=aJ/\am .i64 (x_1.2+1)/\(0<=x_1.2+1/\x_1.2+1<=(x.2.1.length:Int)/\x_1.1++[(d5 x.1 v0.1 x.2.2).2.1.getD (cD v0.1 (x.2.1.getD x_1.2.toNat 0)).toNat 0]=List.map (fun (x_2:Int)=>(d5 x.1 v0.1 x.2.2).2.1.getD (cD v0.1 x_2).toNat 0) (List.take (x_1.2+1).toNat x.2.1))/\((x.2.1.length:Int) - (x_1.2+1)).toNat<((x.2.1.length:Int) - x_1.2).toNat)/\(decide (x_1.2<(x.2.1.length:Int))=false->(d5 x.1 v0.1 x.2.2).1=v1.1/\x_1.1=v1.2.1/\0=v1.2.2/\True)))) (dJ x.1 [x.2.1,x.2.2].flatten)) (aq x.1 x.2.1 x.2.2)
theorem Gt:BG:=by
 unfold BG;intro ⟨a,f,p⟩ ⟨⟨hb,hw⟩,⟨hbf,_⟩,hbp,_⟩ hsz;unfold aJ at hb hbf hbp;simp only at hb hw hbf hbp hsz ⊢;have hfl:[f,p].flatten=f++p:=by simp
 rw [hfl];have hR:dJ a (f++p)=if aY a (f++p)≠0 then ([],aY a (f++p)) else (bD a (f++p),0):=rfl
 have hF:aq a f p=if aY a (f++p)≠0 then ([],[],aY a (f++p)) else if be p=false then ([],[],3) else
  ((d5 a (bD a (f++p)) p).1,f.map fun x=>(az (bD a (f++p)) ((bD a (f++p)).map (di (ac a).1)) p).getD (cD (bD a (f++p)) x).toNat 0,0):=rfl
 refine ⟨by rw [List.length_append]; unfold aJ; omega,trivial,fun h=>?_,fun h=>?_⟩
 ·have h:=of_decide_eq_true h;by_cases h0:aY a (f++p)≠0
  ·rw [hR,if_pos h0,hF,if_pos h0];exact ⟨by first | trivial | rfl,by first | trivial | rfl,by first | trivial | rfl,trivial⟩
  ·rw [hR,if_neg h0] at h;exact absurd rfl h
 have h:=of_decide_eq_false h
 have h0:aY a (f++p)=0:=by
  by_cases h0:aY a (f++p)≠0
  ·rw [hR,if_pos h0] at h;exact absurd h0 h
  ·omega
 rw [hR,if_neg (by omega),hF,if_neg (by omega)];simp only;refine ⟨trivial,fun h2=>?_,fun h2=>?_⟩
 ·have h2:=of_decide_eq_true h2
  have h3:be p=false:=by
   cases h3:be p
   ·rfl
   ·rw [(mD hw h0 h3).1] at h2;exact absurd rfl h2
  rw [if_pos h3,pK h0 h3];exact ⟨by first | trivial | rfl,by first | trivial | rfl,by first | trivial | rfl,trivial⟩
 have h3:be p=true:=by
  cases h3:be p
  ·rw [pK h0 h3] at h2;exact absurd h2 (by decide)
  ·rfl
 rw [if_neg (by rw [h3]; simp),(mD hw h0 h3).1];simp only;obtain ⟨k1,k2⟩:=eM h0;have hin:∀ x∈f,x∈bD a (f++p):=fun x hx=>(g7 hw k1 k2).2 (.base (by simp [hx]))
 have hpl:(az (bD a (f++p)) ((bD a (f++p)).map (di (ac a).1)) p).length=(bD a (f++p)).length:=by simp [az]
 generalize az (bD a (f++p)) ((bD a (f++p)).map (di (ac a).1)) p=to at *;generalize bD a (f++p)=keep at *;refine ⟨⟨by omega,by omega,rfl⟩,fun ⟨out,i⟩ ⟨i0,i1,i2⟩=>⟨fun hlt=>?_,fun hge=>?_⟩⟩
 ·simp only at i0 i1 i2 hlt ⊢;have hlt:=of_decide_eq_true hlt;have hs:=bB (0:Int) i0 hlt;have hx:=jr (hin _ (aH (0:Int) i0 hlt));rw [hs,List.map_append,<- i2]
  have hol:out.length<=f.length:=by
   rw [i2,List.length_map,List.length_take];omega
  simp only [am,List.length_cons,List.length_nil];unfold aJ;refine ⟨i0,hlt,trivial,hx.1,by omega,by omega,?_,by omega,⟨by omega,by omega,rfl⟩,by omega⟩
  have:out.length=i.toNat:=by
   rw [i2,List.length_map,List.length_take];omega
  omega
 ·simp only at i0 i1 i2 hge ⊢;rw [cA (of_decide_eq_false hge)] at i2;exact ⟨by first | trivial | rfl,i2,by first | trivial | rfl,trivial⟩
theorem B4:I2.ok Tryz.prog 158:=aD (ann:=Kz) (ae ni (ae Jr (ae Jo (ae FJ ap)))) Tryz.func158 (by kernel_rfl) Gt
end
section
open Go
set_option maxRecDepth 100000
set_option maxHeartbeats 1000000
def refWord (bs:List Int) (k:Int):Int:=if k=-1 then 0 else bs.getD k.toNat 0+1
def bO (k:Int):List Int:=if 0<k then aB (0,k - 1,0,true)::List.replicate (k - 1).toNat 0 else []
end
section
open Go
theorem rQ {h:dZ} (h0:af h=0):aU (aB h)=h/\ba (aB h)=true:=by
 obtain ⟨h1,h2,h3,h4,h5,h6⟩:=aW h0
 have e:aU (aB h)=h:=by
  obtain ⟨a,b,c,d⟩:=h;simp only at h1 h2 h3 h4 h5;simp only [aB,aU];cases d
  ·simp only [Bool.false_eq_true,if_false,Prod.mk.injEq];refine ⟨by omega,by omega,by omega,decide_eq_false (by omega)⟩
  ·simp only [if_true,Prod.mk.injEq];refine ⟨by omega,by omega,by omega,decide_eq_true (by omega)⟩
 refine ⟨e,?_⟩;unfold ba;rw [e,h0]
 have:aB h / 281474976710656<=1:=by
  unfold aB;cases h.2.2.2 <;> simp <;> omega
 simp [this]
theorem bG (k:Int):(bO k).length=k.toNat:=by
 unfold bO;split
 ·simp only [List.length_cons,List.length_replicate]; omega
 ·simp only [List.length_nil]; omega
def mY (a keep to pinned long:List Int):Nat->List Int
 | 0=>[]
 | i+1=>mY a keep to pinned long i++(bO (ff pinned keep long i - bq pinned keep long i)++gM a keep to (keep.getD i 0))
def aC (at_ k:Int):au:=(at_,0,k - 1,0,true)
def nB (a keep pinned long:List Int):Nat->List au
 | 0=>[]
 | i+1=>nB a keep pinned long i++((if bq pinned keep long i<ff pinned keep long i then [aC (bq pinned keep long i) (ff pinned keep long i - bq pinned keep long i)] else [])++[(ff pinned keep long i,eG a (keep.getD i 0))])
section
variable {a keep pinned long:List Int}
theorem iu (to:List Int) (hP:Plan a keep pinned long):∀ i:Nat,i<=keep.length->((mY a keep to pinned long i).length:Int)=bq pinned keep long i
 | 0,_=>by simp [mY,bq]
 | i+1,hi=>by
  have ih:=iu to hP i (by omega);have h1:=hP.le i (by omega);have h2:=hP.lg i (by omega);have h3:=ki (a:=a) (keep:=keep) (to:=to) (hP.isb _ (dS (i:=i) (by omega)));have e:bq pinned keep long (i+1)=ff pinned keep long i+long.getD i 0:=rfl;rw [e];simp only [mY,List.length_append,bG];omega
theorem Fi (to:List Int) (hP:Plan a keep pinned long):∀ (i:Nat) (R:List Int),i<=keep.length->(gi pinned keep long i).foldl ja (eo a keep to pinned long i++R)=mY a keep to pinned long i++R
 | 0,R,_=>rfl
 | i+1,R,hi=>by
  have hl:=iu to hP i (by omega);have h1:=hP.le i (by omega)
  have e:eo a keep to pinned long (i+1)++R=eo a keep to pinned long i++(qt pinned keep long i++(gM a keep to (keep.getD i 0)++R)):=by
   simp only [eo,List.append_assoc]
  rw [e];simp only [gi,List.foldl_append];rw [Fi to hP i _ (by omega)];simp only [mY,List.append_assoc];unfold qt;have e0:(0:Int)<=bq pinned keep long i:=by omega
  generalize ff pinned keep long i=t at *;generalize bq pinned keep long i=s at *;by_cases hc:s<t
  ·rw [if_pos hc];simp only [List.foldl_cons,List.foldl_nil,ja,bO];rw [if_pos (by omega),show (t - s).toNat=(t - s - 1).toNat+1 by omega,List.replicate_succ,List.cons_append,oA _ (by omega)];rfl
  ·rw [if_neg hc];have:t - s=0:=by omega
   rw [this];rfl
theorem oz (to:List Int) (hP:Plan a keep pinned long):lJ a keep to pinned long (b9 a.length keep long pinned)=mY a keep to pinned long keep.length++bO ((a.length:Int) - bq pinned keep long keep.length):=by
 have hl:=iu to hP keep.length (Nat.le_refl _);have he:=hP.en;unfold lJ b9;rw [List.foldl_append,Fi to hP _ _ (Nat.le_refl _)];generalize bq pinned keep long keep.length=s at *;by_cases hc:s<(a.length:Int)
 ·rw [if_pos hc];simp only [List.foldl_cons,List.foldl_nil,ja,bO];rw [if_pos (by omega),show ((a.length:Int) - s).toNat=((a.length:Int) - s - 1).toNat+1 by omega,List.replicate_succ,oA _ (by omega)]
 ·rw [if_neg hc];have:(a.length:Int) - s=0:=by omega
  rw [this];rfl
theorem gI {at_ v:Int} {r R:List Int} (h:ba v=true) (hl:aa (aU v)=1+(r.length:Int)):spotsS at_ (v::r++R)=(spotsS (at_+aa (aU v)) R).map ((at_,aU v)::·):=by
 rw [List.cons_append,cL h (by simp only [List.length_cons,List.length_append]; omega)];congr 2;rw [hl,show (1+(r.length:Int)).toNat=r.length+1 by omega,List.drop_succ_cons,List.drop_left]
theorem Cn {k:Int} (h1:1<=k) (h2:k<=256):af (0,k - 1,0,true)=0:=by
 simp [af,aa]; omega
theorem gq {at_ k:Int} {R:List Int} (h2:k<=256):spotsS at_ (bO k++R)=if 0<k then (spotsS (at_+k) R).map (aC at_ k::·) else spotsS at_ R:=by
 unfold bO;by_cases h:0<k
 ·rw [if_pos h,if_pos h];obtain ⟨e1,e2⟩:=rQ (Cn (k:=k) (by omega) h2);have e3:aa (aU (aB (0,k - 1,0,true)))=k:=by rw [e1]; simp [aa]; omega
  rw [gI e2 (by rw [e3,List.length_replicate]; omega),e3,e1];rfl
 ·rw [if_neg h,if_neg h];rfl
theorem s6 (to:List Int) (hP:Plan a keep pinned long):∀ (i:Nat) (R:List Int),i<=keep.length->spotsS 0 (mY a keep to pinned long i++R)=(spotsS (bq pinned keep long i) R).map (nB a keep pinned long i++·)
 | 0,R,_=>by
  simp only [mY,nB,bq,List.nil_append];cases spotsS 0 R <;> rfl
 | i+1,R,hi=>by
  have h1:=hP.le i (by omega);have h2:=hP.lg i (by omega);have hb:=hP.isb _ (dS (i:=i) (by omega:i<keep.length));obtain ⟨_,_,_,o4,o5,_⟩:=fi hb;have h3:=ki (a:=a) (keep:=keep) (to:=to) hb;have hal:=hP.al;have e:bq pinned keep long (i+1)=ff pinned keep long i+long.getD i 0:=rfl;have e0:=(cf pinned hP.pre i (by omega)).1;have hl:aa (aU (a.getD (keep.getD i 0).toNat 0))=long.getD i 0:=by rw [<- o4,h2]; rfl
  have hpc:∀ s,spotsS s (gM a keep to (keep.getD i 0)++R)=(spotsS (s+long.getD i 0) R).map ((s,eG a (keep.getD i 0))::·):=fun s=>by
   unfold gM at h3 ⊢;rw [gI o5 (by rw [hl,h2]; simp only [List.length_cons] at h3; omega),hl,<- o4]
  simp only [mY,nB,List.append_assoc];rw [s6 to hP i _ (by omega),gq (by omega),e];by_cases hc:bq pinned keep long i<ff pinned keep long i
  ·rw [if_pos hc,if_pos (by omega),show bq pinned keep long i+(ff pinned keep long i - bq pinned keep long i)=ff pinned keep long i by omega,hpc];cases spotsS (ff pinned keep long i+long.getD i 0) R <;> simp
  ·rw [if_neg hc,if_neg (by omega),show bq pinned keep long i=ff pinned keep long i by omega,hpc];cases spotsS (ff pinned keep long i+long.getD i 0) R <;> simp
def jK (a keep pinned long:List Int):List au:=nB a keep pinned long keep.length++(if bq pinned keep long keep.length<(a.length:Int) then [aC (bq pinned keep long keep.length) ((a.length:Int) - bq pinned keep long keep.length)] else [])
theorem ow (to:List Int) (hP:Plan a keep pinned long):(lJ a keep to pinned long (b9 a.length keep long pinned)).length=a.length:=by
 have hl:=iu to hP keep.length (Nat.le_refl _);have he:=hP.en;rw [oz to hP,List.length_append,bG];omega
theorem ta (to:List Int) (hP:Plan a keep pinned long):ac (lJ a keep to pinned long (b9 a.length keep long pinned))=(jK a keep pinned long,0):=by
 have hl:=ow to hP;have hal:=hP.al;have he:=hP.en;have e0:=(cf pinned hP.pre keep.length (Nat.le_refl _)).1;unfold ac;rw [if_neg (by omega),oz to hP,s6 to hP _ _ (Nat.le_refl _)]
 have:spotsS (bq pinned keep long keep.length) (bO ((a.length:Int) - bq pinned keep long keep.length))=some (if bq pinned keep long keep.length<(a.length:Int) then [aC (bq pinned keep long keep.length) ((a.length:Int) - bq pinned keep long keep.length)] else []):=by
  have h:=gq (at_:=bq pinned keep long keep.length) (k:=(a.length:Int) - bq pinned keep long keep.length) (R:=[]) (by omega);rw [List.append_nil] at h;rw [h];by_cases hc:bq pinned keep long keep.length<(a.length:Int)
  ·rw [if_pos hc,if_pos (by omega),spotsS]; rfl
  ·rw [if_neg hc,if_neg (by omega),spotsS]
 rw [this];rfl
theorem I5 (to:List Int) (hP:Plan a keep pinned long) (T:List Int) {i:Nat}:∀ (n:Nat),i<n->n<=keep.length->∃ X Y,mY a keep to pinned long n++T=X++(gM a keep to (keep.getD i 0)++Y)/\(X.length:Int)=ff pinned keep long i
 | n+1,hi,hn=>by
  by_cases h:i=n
  ·subst h;have h1:=hP.le i (by omega);have hl:=iu to hP i (by omega);refine ⟨mY a keep to pinned long i++bO (ff pinned keep long i - bq pinned keep long i),T,?_,?_⟩
   ·simp only [mY,List.append_assoc]
   ·rw [List.length_append,bG]; omega
  ·obtain ⟨X,Y,e,hx⟩:=I5 (i:=i) to hP (bO (ff pinned keep long n - bq pinned keep long n)++(gM a keep to (keep.getD n 0)++T)) n (by omega) (by omega);exact ⟨X,Y,by simp only [mY,List.append_assoc]; exact e,hx⟩
theorem Bd {s:au}:∀ (n:Nat),s∈nB a keep pinned long n->s.2.2.2.2=true/\s.2.1=0\/∃ i,i<n/\s=(ff pinned keep long i,eG a (keep.getD i 0))
 | 0,h=>by cases h
 | n+1,h=>by
  simp only [nB,List.mem_append] at h;rcases h with h | h | h
  ·rcases Bd n h with h | ⟨i,hi,e⟩
   ·exact .inl h
   ·exact .inr ⟨i,by omega,e⟩
  ·split at h
   ·rw [List.mem_singleton.1 h]; exact .inl ⟨rfl,rfl⟩
   ·cases h
  ·exact .inr ⟨n,by omega,List.mem_singleton.1 h⟩
theorem td {i:Nat}:∀ (n:Nat),i<n->(ff pinned keep long i,eG a (keep.getD i 0))∈nB a keep pinned long n
 | n+1,hi=>by
  simp only [nB,List.mem_append,List.mem_singleton];by_cases h:i=n
  ·subst h; exact .inr (.inr rfl)
  ·exact .inl (td n (by omega))
theorem G5 {s:au} (h:s∈jK a keep pinned long):s.2.2.2.2=true/\s.2.1=0\/∃ i,i<keep.length/\s=(ff pinned keep long i,eG a (keep.getD i 0)):=by
 unfold jK at h;rcases List.mem_append.1 h with h | h
 ·exact Bd _ h
 ·split at h
  ·rw [List.mem_singleton.1 h]; exact .inl ⟨rfl,rfl⟩
  ·cases h
theorem kL {i:Nat} (hi:i<keep.length):(az keep long pinned).getD i 0=ff pinned keep long i:=by
 unfold az;rw [List.getD_eq_getElem?_getD,List.getElem?_map,List.getElem?_range hi];rfl
theorem lC:∀ {l:List au} {t:Int} {h:dZ},(t,h)∈l->h.2.2.2=false->t∈aX l
 | s::l,t,h,hm,hf=>by
  simp only [aX];rcases List.mem_cons.1 hm with e | hm
  ·subst e;rw [if_neg (by rw [hf]; simp)];exact List.mem_cons_self
  ·have ih:=lC hm hf;split
   ·exact ih
   ·exact List.mem_cons_of_mem _ ih
theorem D0 (hP:Plan a keep pinned long) (hg:(keep.all fun x=>eU keep (az keep long pinned) (bF a x))=true):ak (lJ a keep (az keep long pinned) pinned long (b9 a.length keep long pinned))=(jK a keep pinned long,cB (jK a keep pinned long),0):=by
 have hs:=ta (az keep long pinned) hP;have hw:=oz (az keep long pinned) hP;obtain ⟨A,hA⟩:∃ A,A=lJ a keep (az keep long pinned) pinned long (b9 a.length keep long pinned):=⟨_,rfl⟩;rw [<- hA] at hs hw ⊢;have hsort:=bV A;rw [hs] at hsort;unfold ak;rw [hs,if_neg (by simp),if_pos];refine List.all_eq_true.2 fun s hm=>List.all_eq_true.2 fun v hv=>?_
 rcases G5 hm with ⟨_,h0⟩ | ⟨i,hi,e⟩
 ·unfold aO at hv;rw [h0,Int.add_zero,List.drop_of_length_le (by rw [List.length_take]; omega)] at hv;cases hv
 ·have hb:=hP.isb _ (dS (i:=i) hi);obtain ⟨l1,l2,l3,l4,l5,l6⟩:=bW hb;have h1:=hP.le i hi;have e0:=(cf pinned hP.pre i (by omega)).1;obtain ⟨X,Y,eW,hX⟩:=I5 (az keep long pinned) hP (bO ((a.length:Int) - bq pinned keep long keep.length)) keep.length hi (Nat.le_refl _)
  have hr:aO A s=(bF a (keep.getD i 0)).map (jU keep (az keep long pinned)):=by
   unfold aO;rw [e,hw,eW];simp only;generalize ff pinned keep long i=t at *;obtain ⟨n,rfl⟩:∃ n:Nat,t=n:=⟨X.length,hX.symm⟩;have hn:n=X.length:=by omega
   subst hn;have e1:((X.length:Int)+1+(eG a (keep.getD i 0)).1).toNat=X.length+(1+(bF a (keep.getD i 0)).length):=by omega
   have e2:((X.length:Int)+1).toNat=X.length+1:=by omega
   rw [e1,e2,List.take_append,List.drop_append];rw [List.drop_of_length_le (by rw [List.length_take]; omega),List.nil_append,show X.length+(1+(bF a (keep.getD i 0)).length) - X.length=1+(bF a (keep.getD i 0)).length by omega];rw [List.take_of_length_le (by omega:X.length<=_),show X.length+1 - X.length=1 by omega];unfold gM;rw [Nat.add_comm 1,List.cons_append,List.take_succ_cons,List.drop_succ_cons,List.drop_zero,List.append_assoc,List.take_append_of_le_length (by simp),List.take_of_length_le (by simp)]
  rw [hr] at hv;obtain ⟨u,hu,rfl⟩:=List.mem_map.1 hv;have hgu:=List.all_eq_true.1 (List.all_eq_true.1 hg _ (dS (i:=i) hi)) u hu;unfold cB;rw [jq _ _ _ 0 hsort];have e3:jU keep (az keep long pinned) u=(kK keep (az keep long pinned) u).getD 0:=rfl;by_cases h0:u=0
  ·have:jU keep (az keep long pinned) u=0:=by rw [e3]; unfold kK; rw [if_pos h0]; rfl
   rw [this];cases mZ 0 0 (jK a keep pinned long) <;> rfl
  ·by_cases h2:fv keep (u - 1)=true
   ·have hp:=jr (cu.1 h2)
    have e4:jU keep (az keep long pinned) u=ff pinned keep long (cD keep (u - 1)).toNat+1:=by
     rw [e3];unfold kK;rw [if_neg h0,if_pos h2,kL (by omega)];rfl
    have hj:(cD keep (u - 1)).toNat<keep.length:=by omega
    rw [e4]
    have e5:(mZ (ff pinned keep long (cD keep (u - 1)).toNat+1) 0 (jK a keep pinned long)).isSome=true:=by
     rw [kM,show ff pinned keep long (cD keep (u - 1)).toNat+1 - 1=ff pinned keep long (cD keep (u - 1)).toNat by omega,cu];exact lC (List.mem_append_left _ (td (pinned:=pinned) (long:=long) (a:=a) keep.length hj)) (fi (hP.isb _ (dS hj))).2.2.2.2.2
    cases hx:mZ (ff pinned keep long (cD keep (u - 1)).toNat+1) 0 (jK a keep pinned long) with
    | none=>rw [hx] at e5; cases e5
    | some k=>rfl
   ·unfold kK at hgu;rw [if_neg h0,if_neg h2] at hgu;cases hgu
def dF (l:List cT):Int:=(l.map (·.2)).sum
def DC:List au->Int
 | []=>0
 | s::l=>(if s.2.2.2.2=true then aa s.2 else 0)+DC l
def iR:List au->Int
 | []=>0
 | s::l=>(if s.2.2.2.2=true then 0 else aa s.2)+iR l
theorem mM (l:List cT) (r:cT):dF (l++[r])=dF l+r.2:=by simp [dF]
theorem Gy:∀ (l:List cT) (n:Int),0<l.length->dF (lN l n)=dF l+n:=by
 intro l n h
 obtain ⟨l',r,rfl⟩:∃ l' r,l=l'++[r]:=by
  refine ⟨l.dropLast,l.getLast (by intro e; rw [e] at h; cases h),?_⟩;exact (List.dropLast_concat_getLast _).symm
 unfold lN;have e:(l'++[r]).length - 1=l'.length:=by simp
 have e2:(l'++[r]).getD l'.length (0,0)=r:=by simp
 have e3:∀ x,(l'++[r]).set l'.length x=l'++[x]:=fun x=>by simp
 rw [e,e2,e3,mM,mM];simp only;omega
theorem mN:∀ (l:List au) (p:Bool) (out:List cT),(p=true->0<out.length)->dF (aL p out l)=dF out+DC l
 | [],_,out,_=>by simp [aL,DC]
 | s::l,p,out,h=>by
  simp only [aL,DC];cases hf:s.2.2.2.2
  ·simp only [Bool.false_eq_true,if_false];rw [mN l false out (fun h=>by cases h)];omega
  ·simp only [if_true];cases hp:p
   ·simp only [Bool.false_eq_true,if_false];rw [mN l true _ (fun _=>by simp),mM];simp only;omega
   ·simp only [if_true];rw [mN l true _ (fun _=>by rw [fM]; exact h hp),Gy _ _ (h hp)];omega
theorem mL:∀ {l:List au} {s e:Int},fk s e l->s+DC l+iR l=e
 | [],s,e,h=>by simp only [fk] at h; simp only [DC,iR]; omega
 | x::l,s,e,⟨_,_,h⟩=>by
  have:=mL h;simp only [DC,iR];cases x.2.2.2.2 <;> simp <;> omega
theorem jJ:∀ (l k:List au),iR (l++k)=iR l+iR k
 | [],k=>by simp [iR]
 | s::l,k=>by
  have:=jJ l k;simp only [List.cons_append,iR];omega
theorem sX {l:List Int} {n:Nat} (h:n<l.length):l.take (n+1)=l.take n++[l.getD n 0]:=by
 have:=bB (0:Int) (xs:=l) (i:=(n:Int)) (by omega) (by omega);simpa using this
theorem Bc (hb:∀ x∈keep,isB (ac a).1 x=true):∀ n:Nat,n<=keep.length->iR (nB a keep pinned long n)=((keep.take n).map (di (ac a).1)).sum
 | 0,_=>by simp [nB,iR]
 | n+1,h=>by
  have ih:=Bc hb n (by omega);rw [sX (by omega)];simp only [nB];rw [jJ,jJ,ih,List.map_append,List.sum_append];have hf:=(fi (hb _ (dS (i:=n) (by omega)))).2.2.2.2.2
  have e1:iR (if bq pinned keep long n<ff pinned keep long n then [aC (bq pinned keep long n) (ff pinned keep long n - bq pinned keep long n)] else [])=0:=by
   split <;> simp [iR,aC]
  have e2:iR [(ff pinned keep long n,eG a (keep.getD n 0))]=di (ac a).1 (keep.getD n 0):=by
   simp only [iR,hf];simp [di,eG]
  rw [e1,e2];simp
theorem G4 (hb:∀ x∈keep,isB (ac a).1 x=true):iR (jK a keep pinned long)=(keep.map (di (ac a).1)).sum:=by
 unfold jK;rw [jJ,Bc hb _ (Nat.le_refl _),List.take_length]
 have:iR (if bq pinned keep long keep.length<(a.length:Int) then [aC (bq pinned keep long keep.length) ((a.length:Int) - bq pinned keep long keep.length)] else [])=0:=by
  split <;> simp [iR,aC]
 omega
end
theorem Cm {b:List Int} (h:(ac b).2=0):dF (aL false [] (ac b).1)+iR (ac b).1=b.length:=by
 have:=mL (fE h);rw [mN _ _ _ (fun h=>by cases h)];simp only [dF,List.map_nil,List.sum_nil];omega
end
section
open Go
set_option maxRecDepth 100000
set_option maxHeartbeats 1000000
abbrev Dx:Ty:=.pair ty_I ty_I
def bM (n:Int):Int->List (Int×Int)->List Int
 | _,[]=>[]
 | k,r::l=>if n<=r.2 then k::bM n (k+1) l else bM n (k+1) l
def dV (l:List (Int×Int)):Bool:=l.any fun r=>decide (r.1<0)||decide (r.2<1)
def ew (l:List (Int×Int)) (n:Int):List Int×Int:=if n<1 then ([],1) else if dV l then ([],4) else if bM n 0 l=[] then ([],7) else (bM n 0 l,0)
def bw (l:List (Int×Int)) (n:Int):Int×Int:=if (ew l n).2≠0 then (0,(ew l n).2) else ((ew l n).1.getD 0 0,0)
theorem zk (r:Int×Int) (l:List (Int×Int)):dV (r::l)=(decide (r.1<0)||decide (r.2<1)||dV l):=by
 simp [dV]
def LQ:Nat->Option LoopGen
 | 5=>some { rd:=[.dat 11 (.arr Dx),.dat 1 ty_I],A:=fun ((l,n):List (Int×Int)×Int)=>{ cs:=[.own 6 3 ty_I,.dat 13 ty_I],inv:=fun ((out,i):List Int×Int)=>0<=i/\i<=l.length/\1<=n/\out.length<=i/\dV (l.drop i.toNat)=dV l/\out++bM n i (l.drop i.toNat)=bM n 0 l,mu:=fun ((_,i):List Int×Int)=>(l.length - i).toNat } }
 | _=>none
def KX:Spec:={ Ts:=[.arr Dx,ty_I],Rs:=[.own 3 ty_I,.dat ty_I],pre:=fun _=>True,F:=fun ((l,n):List (Int×Int)×Int)=>ew l n }
def Fw:Prop :=
  ∀ (x:List (Int×Int)×Int),(x.1.length * (8+8)<=aJ/\∀ (x_1:Int×Int),x_1∈x.1->am .i64 x_1.1/\am .i64 x_1.2)/\am .i64 x.2->True->(decide (x.2<1)=true->([]:List Int)=(ew x.1 x.2).1/\1=(ew x.1 x.2).2/\True)/\(decide (x.2<1)=false->((0:Int)<=0/\0<=(x.1.length:Int)/\1<=x.2/\(↑(0:Nat):Int)<=0/\dV (List.drop (Int.toNat 0) x.1)=dV x.1/\([]:List Int)++bM x.2 0 (List.drop (Int.toNat 0) x.1)=bM x.2 0 x.1)/\∀ (x_1:List Int×Int),0<=x_1.2/\x_1.2<=(x.1.length:Int)/\1<=x.2/\(x_1.1.length:Int)<=x_1.2/\dV (List.drop x_1.2.toNat x.1)=dV x.1/\x_1.1++bM x.2 x_1.2 (List.drop x_1.2.toNat x.1)=bM x.2 0 x.1->(decide (x_1.2<(x.1.length:Int))=true->0<=x_1.2/\x_1.2<(x.1.length:Int)/\((decide ((x.1.getD x_1.2.toNat (0,0)).1<0)||decide ((x.1.getD x_1.2.toNat (0,0)).2<1))=true->([]:List Int)=(ew x.1 x.2).1/\4=(ew x.1 x.2).2/\True)/\((decide ((x.1.getD x_1.2.toNat (0,0)).1<0)||decide ((x.1.getD x_1.2.toNat (0,0)).2<1))=false->(decide (x.2<=(x.1.getD x_1.2.toNat (0,0)).2)=true->(x_1.1.length+[x_1.2].length) * 8<=aJ/\am .i64 (x_1.2+1)/\(0<=x_1.2+1/\x_1.2+1<=(x.1.length:Int)/\1<=x.2/\(↑(x_1.1++[x_1.2]).length:Int)<=x_1.2+1/\dV (List.drop (x_1.2+1).toNat x.1)=dV x.1/\x_1.1++[x_1.2]++bM x.2 (x_1.2+1) (List.drop (x_1.2+1).toNat x.1)=bM x.2 0 x.1)/\((x.1.length:Int) - (x_1.2+1)).toNat<((x.1.length:Int) - x_1.2).toNat)/\(decide (x.2<=(x.1.getD x_1.2.toNat (0,0)).2)=false->am .i64 (x_1.2+1)/\(0<=x_1.2+1/\x_1.2+1<=(x.1.length:Int)/\1<=x.2/\(x_1.1.length:Int)<=x_1.2+1/\dV (List.drop (x_1.2+1).toNat x.1)=dV x.1/\x_1.1++bM x.2 (x_1.2+1) (List.drop (x_1.2+1).toNat x.1)=bM x.2 0 x.1)/\((x.1.length:Int) - (x_1.2+1)).toNat<((x.1.length:Int) - x_1.2).toNat)))/\(decide (x_1.2<(x.1.length:Int))=false->(decide ((x_1.1.length:Int)=0)=true->([]:List Int)=(ew x.1 x.2).1/\7=(ew x.1 x.2).2/\True)/\(decide ((x_1.1.length:Int)=0)=false->x_1.1=(ew x.1 x.2).1/\0=(ew x.1 x.2).2/\True)))
theorem Iu:Fw:=by
 unfold Fw;intro ⟨l,n⟩ ⟨⟨hl,_⟩,hn⟩ _;unfold aJ at *;have hb0:dV []=false:=rfl;have hf0:∀ k,bM n k []=[]:=fun _=>rfl
 refine ⟨fun h=>?_,fun h=>⟨⟨by omega,by grind,by grind,by simp,by simp,by simp⟩,fun ⟨out,i⟩ ⟨h0,h1,h2,h3,h4,h5⟩=>⟨fun hlt=>?_,fun hge=>?_⟩⟩⟩
 ·simp only [ew]; grind
 ·have hlt:i<(l.length:Int):=by simpa using hlt
  have e:=bh ((0,0):Int×Int) h0 hlt;simp only at *;simp only [e,zk,bM] at h4 h5;simp only [ew,am,List.length_append,List.length_cons,List.length_nil]
  repeat' (first | apply And.intro | intro _)
  all_goals grind
 ·simp only at *;rw [b7 (by simpa using hge),hb0] at h4;rw [b7 (by simpa using hge),hf0,List.append_nil] at h5;simp only [ew,<- h4,<- h5];by_cases ho:out=[]
  ·subst ho;have:¬ n<1:=by omega
   simp [this]
  ·have:¬ n<1:=by omega
   simp [this,ho]
theorem Lf:KX.ok Tryz.prog 214:=aD (ann:=LQ) ap Tryz.func214 (by kernel_rfl) Iu
def I0:Spec:={ Ts:=[.arr Dx,ty_I],Rs:=[.dat ty_I,.dat ty_I],pre:=fun _=>True,F:=fun ((l,n):List (Int×Int)×Int)=>bw l n }
def BD:Prop :=
  ∀ (x:List (Int×Int)×Int),(x.1.length * (8+8)<=aJ/\∀ (x_1:Int×Int),x_1∈x.1->am .i64 x_1.1/\am .i64 x_1.2)/\am .i64 x.2->True->True/\(decide ((ew x.1 x.2).2≠0)=true->0=(bw x.1 x.2).1/\(ew x.1 x.2).2=(bw x.1 x.2).2/\True)/\(decide ((ew x.1 x.2).2≠0)=false->(0:Int)<=0/\0<(↑(ew x.1 x.2).1.length:Int)/\Int.toNat 0<(ew x.1 x.2).1.length/\(ew x.1 x.2).1.getD (Int.toNat 0) 0=(bw x.1 x.2).1/\0=(bw x.1 x.2).2/\True)
theorem Gr:BD:=by
 unfold BD;intro ⟨l,n⟩ _ _;have h:(ew l n).2=0->(ew l n).1≠[]:=by unfold ew; grind
 simp only [bw];cases hc:(ew l n).1 <;> grind
theorem Jy:I0.ok Tryz.prog 155:=aD (ann:=co) (ae Lf ap) Tryz.func155 (by kernel_rfl) Gr
end
section
open Go
theorem bK (t k:Int):aa (aC t k).2=k:=by simp [aC,aa]; omega
def bA:List au->List au
 | []=>[]
 | x::l=>if x.2.2.2.2=true then (match bA l with
   | []=>[aC x.1 (aa x.2)]
   | y::r=>if y.2.2.2.2=true then aC x.1 (aa x.2+aa y.2)::r else aC x.1 (aa x.2)::y::r) else x::bA l
def gH (a:List Int):List au->List Int
 | []=>[]
 | s::l=>(if s.2.2.2.2=true then bO (aa s.2) else (a.drop s.1.toNat).take (aa s.2).toNat)++gH a l
def gj:List au->List cT
 | []=>[]
 | s::l=>if s.2.2.2.2=true then (s.1,aa s.2)::gj l else gj l
theorem HN (x:au) (l:List au) (h:x.2.2.2.2=true):bA (x::l)=bA (aC x.1 (aa x.2)::l):=by
 simp only [bA];rw [if_pos h,if_pos (show (aC x.1 (aa x.2)).2.2.2.2=true from rfl),bK];rfl
theorem JL (t n:Int) (x:au) (l:List au) (h:x.2.2.2.2=true):bA (aC t n::x::l)=bA (aC t (n+aa x.2)::l):=by
 have e:∀ m,bA (aC t m::l)=match bA l with
   | []=>[aC t m]
   | y::r=>if y.2.2.2.2=true then aC t (m+aa y.2)::r else aC t m::y::r:=fun m=>by
  simp only [bA];rw [if_pos (show (aC t m).2.2.2.2=true from rfl),bK];rfl
 have e2:bA (aC t n::x::l)=match bA (x::l) with
   | []=>[aC t n]
   | y::r=>if y.2.2.2.2=true then aC t (n+aa y.2)::r else aC t n::y::r:=by
  rw [bA];rw [if_pos (show (aC t n).2.2.2.2=true from rfl),bK];rfl
 rw [e2,e];simp only [bA];rw [if_pos h];cases hj:bA l with
 | nil =>
  simp only;rw [if_pos (show (aC x.1 (aa x.2)).2.2.2.2=true from rfl),bK]
 | cons y r =>
  simp only;by_cases hy:y.2.2.2.2=true
  ·rw [if_pos hy,if_pos hy];simp only;rw [if_pos (show (aC x.1 (aa x.2+aa y.2)).2.2.2.2=true from rfl),bK,Int.add_assoc]
  ·rw [if_neg hy,if_neg hy];simp only;rw [if_pos (show (aC x.1 (aa x.2)).2.2.2.2=true from rfl),bK]
theorem mo (x:au) (l:List au) (h:¬ x.2.2.2.2=true):bA (x::l)=x::bA l:=by
 simp only [bA]; rw [if_neg h]
theorem vR (t n:Int) (x:au) (l:List au) (h:¬ x.2.2.2.2=true):bA (aC t n::x::l)=aC t n::x::bA l:=by
 rw [bA,mo x l h];rw [if_pos (show (aC t n).2.2.2.2=true from rfl),bK];simp only;rw [if_neg h];rfl
theorem xt:∀ (l:List au),(∀ out,aL false out l=out++gj (bA l))/\∀ out t n,aL true (out++[(t,n)]) l=out++gj (bA (aC t n::l))
 | []=>by
  refine ⟨fun out=>by simp [aL,bA,gj],fun out t n=>?_⟩
  have e:bA [aC t n]=[aC t n]:=by
   rw [bA,if_pos (show (aC t n).2.2.2.2=true from rfl),bK];rfl
  rw [e];simp only [aL,gj];rw [if_pos (show (aC t n).2.2.2.2=true from rfl),bK];rfl
 | x::l=>by
  obtain ⟨h1,h2⟩:=xt l;by_cases hx:x.2.2.2.2=true
  ·refine ⟨fun out=>?_,fun out t n=>?_⟩
   ·simp only [aL];rw [hx];simp only [if_true,Bool.false_eq_true,if_false];rw [h2,HN x l hx]
   ·simp only [aL];rw [hx];simp only [if_true];rw [H8,h2,JL t n x l hx]
  ·have hf:x.2.2.2.2=false:=by simpa using hx
   refine ⟨fun out=>?_,fun out t n=>?_⟩
   ·simp only [aL];rw [hf];simp only [Bool.false_eq_true,if_false];rw [h1,mo x l hx];simp only [gj];rw [if_neg hx]
   ·simp only [aL];rw [hf];simp only [Bool.false_eq_true,if_false];rw [h1,vR t n x l hx];simp only [gj];rw [if_pos (show (aC t n).2.2.2.2=true from rfl),if_neg hx,bK];simp [aC]
theorem om:∀ {l:List au} {s e:Int},fk s e l->s<=e
 | [],s,e,h=>by simp only [fk] at h; omega
 | x::l,s,e,⟨_,h1,h2⟩=>by have:=om h2; omega
theorem uh:∀ {l:List au} {s e:Int},fk s e l->fk s e (bA l)
 | [],s,e,h=>h
 | x::l,s,e,⟨h0,h1,h2⟩=>by
  have ih:=uh h2;by_cases hx:x.2.2.2.2=true
  ·simp only [bA];rw [if_pos hx];cases hj:bA l with
   | nil =>
    rw [hj] at ih;simp only [fk] at ih ⊢;rw [bK];exact ⟨h0,h1,ih⟩
   | cons y r =>
    rw [hj] at ih;obtain ⟨i0,i1,i2⟩:=ih;simp only;by_cases hy:y.2.2.2.2=true
    ·rw [if_pos hy];simp only [fk];rw [bK];exact ⟨h0,by omega,by rw [<- Int.add_assoc]; exact i2⟩
    ·rw [if_neg hy];simp only [fk];rw [bK];exact ⟨h0,h1,i0,i1,i2⟩
  ·rw [mo x l hx];exact ⟨h0,h1,ih⟩
theorem uj:∀ {l:List au} {s:au},s∈bA l->(s=aC s.1 (aa s.2))\/(s∈l/\s.2.2.2.2=false)
 | x::l,s,h=>by
  have ih:=fun (h:s∈bA l)=>uj h
  have fs:∀ t n,aC t n=aC (aC t n).1 (aa (aC t n).2):=fun t n=>by rw [bK]; rfl
  by_cases hx:x.2.2.2.2=true
  ·simp only [bA] at h;rw [if_pos hx] at h;cases hj:bA l with
   | nil =>
    rw [hj] at h;rw [List.mem_singleton.1 h];exact .inl (fs _ _)
   | cons y r =>
    rw [hj] at h ih;simp only at h;split at h
    ·rcases List.mem_cons.1 h with e | h
     ·rw [e]; exact .inl (fs _ _)
     ·rcases ih (List.mem_cons_of_mem _ h) with h | h
      ·exact .inl h
      ·exact .inr ⟨List.mem_cons_of_mem _ h.1,h.2⟩
    ·rcases List.mem_cons.1 h with e | h
     ·rw [e]; exact .inl (fs _ _)
     ·rcases ih h with h | h
      ·exact .inl h
      ·exact .inr ⟨List.mem_cons_of_mem _ h.1,h.2⟩
  ·rw [mo x l hx] at h;rcases List.mem_cons.1 h with e | h
   ·rw [e]; exact .inr ⟨List.mem_cons_self,by simpa using hx⟩
   ·rcases ih h with h | h
    ·exact .inl h
    ·exact .inr ⟨List.mem_cons_of_mem _ h.1,h.2⟩
theorem mG:∀ (l:List au),aX (bA l)=aX l
 | []=>rfl
 | x::l=>by
  have ih:=mG l;have fs:∀ t n,(aC t n).2.2.2.2=true:=fun _ _=>rfl
  by_cases hx:x.2.2.2.2=true
  ·simp only [bA,aX];rw [if_pos hx,if_pos hx];cases hj:bA l with
   | nil =>
    rw [hj] at ih;simp only [aX];rw [if_pos (fs _ _)];exact ih
   | cons y r =>
    rw [hj] at ih;simp only;by_cases hy:y.2.2.2.2=true
    ·simp only [aX] at ih;rw [if_pos hy] at ih;rw [if_pos hy];simp only [aX];rw [if_pos (fs _ _)];exact ih
    ·rw [if_neg hy]
     have:aX (aC x.1 (aa x.2)::y::r)=aX (y::r):=by
      rw [aX,if_pos (fs _ _)]
     rw [this,ih]
  ·rw [mo x l hx];simp only [aX];rw [if_neg hx,if_neg hx,ih]
theorem ob {P R:List Int} {s L:Int} (hp:P.length=s.toNat) (_h0:0<=s) (h1:0<L) (_h2:L.toNat<=R.length):aT (P++R) s L=P++(bO L++R.drop L.toNat):=by
 unfold aT eB lK bO;rw [if_pos h1,if_pos h1,<- hp,List.take_left,List.take_of_length_le (by simp)];have e:(P++R).drop (P.length+L.toNat)=R.drop L.toNat:=by rw [<- List.drop_drop,List.drop_left]
 rw [e,show L.toNat=(L - 1).toNat+1 by omega,List.replicate_succ,List.cons_append,oA _ rfl];rfl
theorem qn {a:List Int}:∀ (k:List au) (s:Int) (P:List Int),fk s a.length k->0<=s->P.length=s.toNat->(gj k).foldl (fun a r=>aT a r.1 r.2) (P++a.drop s.toNat)=P++gH a k
 | [],s,P,h,h0,hp=>by
  simp only [fk] at h;simp only [gj,List.foldl_nil,gH];rw [List.drop_of_length_le (by omega)]
 | x::k,s,P,⟨e0,h1,h2⟩,h0,hp=>by
  have hle:=om h2;subst e0;simp only [gj,gH];by_cases hx:x.2.2.2.2=true
  ·rw [if_pos hx,if_pos hx];simp only [List.foldl_cons];rw [ob hp h0 (by omega) (by rw [List.length_drop]; omega),List.drop_drop,<- List.append_assoc,<- List.append_assoc,show x.1.toNat+(aa x.2).toNat=(x.1+aa x.2).toNat by omega];exact qn k (x.1+aa x.2) _ h2 (by omega) (by rw [List.length_append,bG]; omega)
  ·rw [if_neg hx,if_neg hx]
   have e:P++a.drop x.1.toNat=(P++(a.drop x.1.toNat).take (aa x.2).toNat)++a.drop (x.1+aa x.2).toNat:=by
    rw [List.append_assoc,show (x.1+aa x.2).toNat=x.1.toNat+(aa x.2).toNat by omega,<- List.drop_drop,List.take_append_drop]
   rw [e,<- List.append_assoc];exact qn k (x.1+aa x.2) _ h2 (by omega) (by rw [List.length_append,List.length_take,List.length_drop]; omega)
theorem qM {a:List Int} (hal:a.length<=256):∀ (k:List au) (s:Int),fk s a.length k->0<=s->(∀ x∈k,x.2.2.2.2=false->x.2=aU (a.getD x.1.toNat 0)/\ba (a.getD x.1.toNat 0)=true)->(∀ x∈k,x.2.2.2.2=true->x=aC x.1 (aa x.2))->spotsS s (gH a k)=some k
 | [],s,_,_,_,_=>by rw [gH,spotsS]
 | x::k,s,⟨e0,h1,h2⟩,h0,hn,hf=>by
  have hle:=om h2;have ih:=qM hal k (s+aa x.2) h2 (by omega) (fun y hy=>hn y (List.mem_cons_of_mem _ hy)) (fun y hy=>hf y (List.mem_cons_of_mem _ hy));subst e0;simp only [gH];by_cases hx:x.2.2.2.2=true
  ·rw [if_pos hx,gq (by omega),if_pos (by omega),ih,Option.map_some,<- hf x List.mem_cons_self hx]
  ·rw [if_neg hx];obtain ⟨e1,e2⟩:=hn x List.mem_cons_self (by simpa using hx)
   have e3:(a.drop x.1.toNat).take (aa x.2).toNat=a.getD x.1.toNat 0::(a.drop (x.1.toNat+1)).take ((aa x.2).toNat - 1):=by
    have hlt:x.1.toNat<a.length:=by omega
    rw [List.drop_eq_getElem_cons hlt,show (aa x.2).toNat=((aa x.2).toNat - 1)+1 by omega,List.take_succ_cons];simp [List.getD_eq_getElem?_getD,hlt]
   rw [e3,gI e2 (by rw [<- e1,List.length_take,List.length_drop]; omega),<- e1,ih];rfl
theorem lR {a:List Int}:∀ (k:List au) (s:Int) {x:au},fk s a.length k->0<=s->x∈k->∃ X Y,gH a k=X++((if x.2.2.2.2=true then bO (aa x.2) else (a.drop x.1.toNat).take (aa x.2).toNat)++Y)/\(X.length:Int)=x.1 - s/\0<=x.1/\1<=aa x.2/\x.1+aa x.2<=a.length
 | y::k,s,x,⟨e0,h1,h2⟩,h0,hm=>by
  have hle:=om h2;rcases List.mem_cons.1 hm with e | hm
  ·subst e;exact ⟨[],gH a k,rfl,by simp; omega,by omega,h1,by omega⟩
  ·obtain ⟨X,Y,e,hx,p1,p2,p3⟩:=lR k (s+aa y.2) h2 (by omega) hm;refine ⟨(if y.2.2.2.2=true then bO (aa y.2) else (a.drop y.1.toNat).take (aa y.2).toNat)++X,Y,?_,?_,p1,p2,p3⟩
   ·rw [gH,e,List.append_assoc]
   ·rw [List.length_append];split
    ·rw [bG]; omega
    ·rw [List.length_take,List.length_drop]; omega
theorem qg {a b:List Int} {x:au} (h0:0<=x.1) (h1:0<=x.2.1) (h:∀ j:Nat,x.1+1<=j->(j:Int)<x.1+1+x.2.1->b[j]?=a[j]?):aO b x=aO a x:=by
 unfold aO;apply List.ext_getElem?;intro j;rw [List.getElem?_drop,List.getElem?_drop,List.getElem?_take,List.getElem?_take];split
 ·exact h _ (by omega) (by omega)
 ·rfl
theorem kG {a:List Int} {l:List au} (h1:a.length<=256) (h2:spotsS 0 a=some l):ac a=(l,0):=by
 unfold ac;rw [if_neg (by omega),h2]
theorem uk {a:List Int} (hc:(ak a).2.2=0):ak (cE a).1=(bA (ac a).1,cB (bA (ac a).1),0)/\(cE a).1=gH a (bA (ac a).1)/\fk 0 a.length (bA (ac a).1)/\(cE a).1.length=a.length/\aL false [] (ac a).1=gj (bA (ac a).1):=by
 obtain ⟨hal,_,_,h0,_,hr,_⟩:=bi hc;have ht:=fE h0;have hj:=uh ht;have hg:aL false [] (ac a).1=gj (bA (ac a).1):=by rw [(xt _).1]; rfl
 have hw:(cE a).1=gH a (bA (ac a).1):=by
  unfold cE;rw [if_neg (by omega),hg];have:=qn (a:=a) (bA (ac a).1) 0 [] hj (by omega) rfl;simpa using this
 have hfr:∀ x∈bA (ac a).1,x.2.2.2.2=true->x=aC x.1 (aa x.2):=fun x hx hf=>by
  rcases uj hx with h | h
  ·exact h
  ·rw [h.2] at hf; cases hf
 have hnf:∀ x∈bA (ac a).1,x.2.2.2.2=false->x∈(ac a).1:=fun x hx hf=>by
  rcases uj hx with h | h
  ·rw [h] at hf; cases hf
  ·exact h.1
 have hsp:=qM hal (bA (ac a).1) 0 hj (by omega) (fun x hx hf=>qQ x (hnf x hx hf)) hfr
 have hlen:(gH a (bA (ac a).1)).length=a.length:=by
  have:=ou 0 _ _ hsp;have h1:=mL this;have h2:=mL hj;omega
 have hS:ac (gH a (bA (ac a).1))=(bA (ac a).1,0):=kG (by omega) hsp;have hsort:=bV (gH a (bA (ac a).1));rw [hS] at hsort;refine ⟨?_,hw,hj,by rw [hw]; exact hlen,hg⟩;rw [hw];unfold ak;rw [hS,if_neg (by simp),if_pos];refine List.all_eq_true.2 fun s hs=>?_
 cases hf:s.2.2.2.2
 ·have hm:=hnf s hs hf;obtain ⟨_,hin,_⟩:=eJ a s hm;obtain ⟨X,Y,e,hX,p1,p2,p3⟩:=lR _ 0 hj (by omega) hs;rw [if_neg (by rw [hf]; simp)] at e;have hL:aa s.2=1+s.2.1+s.2.2.1:=rfl;unfold dg at hin
  have er:aO (gH a (bA (ac a).1)) s=aO a s:=by
   refine qg p1 hin.2.1 fun j j1 j2=>?_
   rw [e,List.getElem?_append_right (by omega),List.getElem?_append_left (by rw [List.length_take,List.length_drop]; omega),List.getElem?_take,if_pos (by omega),List.getElem?_drop];congr 1;omega
  rw [er];have h3:=List.all_eq_true.1 hr s hm;refine List.all_eq_true.2 fun v hv=>?_
  have h4:=List.all_eq_true.1 h3 v hv;unfold cB at h4 ⊢;rw [jq _ _ _ 0 (bV a)] at h4;rw [jq _ _ _ 0 hsort];have e1:(mZ v 0 (bA (ac a).1)).isSome=(mZ v 0 (ac a).1).isSome:=by rw [kM,kM,mG]
  cases h5:mZ v 0 (ac a).1 with
  | none =>
   rw [h5] at h4 e1;cases h6:mZ v 0 (bA (ac a).1) with
   | none=>exact h4
   | some k=>rfl
  | some k =>
   rw [h5] at e1;cases h6:mZ v 0 (bA (ac a).1) with
   | none=>rw [h6] at e1; cases e1
   | some k=>rfl
 ·rw [hfr s hs hf]
  have:aO (gH a (bA (ac a).1)) (aC s.1 (aa s.2))=[]:=by
   unfold aO aC;simp only [Int.add_zero];exact List.drop_of_length_le (by rw [List.length_take]; omega)
  rw [this];rfl
theorem lq:∀ {l:List au} {r:cT},r∈gj l->∃ s∈l,s.2.2.2.2=true/\r=(s.1,aa s.2)
 | x::l,r,h=>by
  simp only [gj] at h;split at h
  ·rename_i hx;rcases List.mem_cons.1 h with e | h
   ·exact ⟨x,List.mem_cons_self,hx,e⟩
   ·obtain ⟨s,hs,h⟩:=lq h;exact ⟨s,List.mem_cons_of_mem _ hs,h⟩
  ·obtain ⟨s,hs,h⟩:=lq h;exact ⟨s,List.mem_cons_of_mem _ hs,h⟩
def fb (a:List Int) (r:cT) (h:dZ):List Int:=(aT (cE a).1 (r.1+aa h) (r.2 - aa h)).set r.1.toNat (aB h)
theorem Ea {a:List Int} (hc:(ak a).2.2=0) {r:cT} {h:dZ} (hr:r∈aL false [] (ac a).1) (h0:af h=0) (hf:h.2.2.2=false) (hl:aa h<=r.2):ir (cE a).1 r.1 h=(fb a r h,0):=by
 obtain ⟨h1,h2,h3,h4,h5⟩:=uk hc;obtain ⟨hal,_⟩:=bi hc;rw [h5] at hr;obtain ⟨s,hs,hsf,e⟩:=lq hr;have hz:(ak (cE a).1).2.2=0:=by rw [h1]
 have hsp:(ac (cE a).1).1=bA (ac a).1:=by
  have:=(bi hz).2.2.1;rw [h1] at this;exact this.symm
 obtain ⟨X,Y,eW,hX,p1,p2,p3⟩:=lR _ 0 h3 (by omega) hs;rw [if_pos hsf] at eW;have e1:r.1=s.1:=by rw [e]
 have e2:r.2=aa s.2:=by rw [e]
 obtain ⟨g1,g2⟩:=DA hz r.1 h;have hsort:=bV (cE a).1;rw [hsp] at g1 g2 hsort;have hrm:iO r.1 0 (bA (ac a).1)=r.2:=by rw [e2]; exact tr _ 0 s hsort hs e1.symm hsf
 have hn:=aW h0;have hL:aa h=1+h.1+h.2.1:=rfl;have e0:sk h=0:=by unfold sk; rw [hf,if_neg (by simp),h0]
 have ez:fD (sk h) r.2 (aa h)=0:=by unfold fD; rw [e0,if_neg (by omega),if_neg (by omega),if_neg (by omega)]
 rw [hrm,ez,if_neg (by omega)] at g1;have hlp:hY (cE a).1 r.1 r.2:=⟨by omega,by omega,by omega,by omega⟩;obtain ⟨t1,_⟩:=Dz hlp (n:=aa h) (by omega) hl (aB h);rw [g1,<- t1]
 have hi:aT (cE a).1 r.1 r.2=(cE a).1:=by
  rw [h2,eW,e1,e2,ob (by omega) p1 (by omega) (by rw [List.length_append,bG]; omega),List.drop_append_of_le_length (by rw [bG]; omega),List.drop_of_length_le (by rw [bG]; omega),List.nil_append]
 rw [hi];rfl
theorem xw (n:Int):∀ (l:List cT) (k:Int),match l.find? (fun r=>decide (n<=r.2)) with
  | none=>bM n k l=[]
  | some r=>∃ i,0<=i/\i<(l.length:Int)/\l.getD i.toNat (0,0)=r/\bM n k l≠[]/\(bM n k l).getD 0 0=k+i
 | [],k=>rfl
 | r::l,k=>by
  have ih:=xw n l (k+1);by_cases h:n<=r.2
  ·rw [List.find?_cons_of_pos (by simpa using h)];simp only [bM];rw [if_pos h];exact ⟨0,by omega,by simp,rfl,by simp,by simp⟩
  ·rw [List.find?_cons_of_neg (by simpa using h)];simp only [bM];rw [if_neg h];cases hf:l.find? (fun r=>decide (n<=r.2)) with
   | none=>rw [hf] at ih; exact ih
   | some q =>
    rw [hf] at ih;obtain ⟨i,i0,i1,i2,i3,i4⟩:=ih;refine ⟨i+1,by omega,by simp only [List.length_cons]; omega,?_,i3,by omega⟩;rw [show (i+1).toNat=i.toNat+1 by omega];exact i2
def gY (a:List Int) (h:dZ):List Int×Int×Bool:=match (aL false [] (ac a).1).find? (fun r=>decide (aa h<=r.2)) with
 | none=>([],0,false)
 | some r=>(fb a r h,r.1,true)
theorem HV {n:Int} {l:List cT} (hn:1<=n) (hg:∀ r∈l,0<=r.1/\1<=r.2):bw l n=if bM n 0 l=[] then (0,7) else ((bM n 0 l).getD 0 0,0):=by
 have hb:dV l=false:=by
  unfold dV;rw [List.any_eq_false];intro r hr;have:=hg r hr;simp;omega
 have e:ew l n=if bM n 0 l=[] then ([],7) else (bM n 0 l,0):=by
  unfold ew;rw [if_neg (show ¬ n<1 by omega),hb,if_neg (by simp)]
 unfold bw;rw [e];by_cases h:bM n 0 l=[]
 ·rw [if_pos h,if_pos h];rfl
 ·rw [if_neg h,if_neg h];rfl
end
section
open Go
set_option maxRecDepth 100000
set_option maxHeartbeats 1000000
def uU (o:List Int) (x:Int):List Int:=if fv o x=true then o else o++[x]
theorem qJ:∀ (l o:List Int),∃ k,l.foldl uU o=o++k/\∀ x∈k,x∈l
 | [],o=>⟨[],by simp,fun x hx=>by cases hx⟩
 | y::l,o=>by
  obtain ⟨k,h1,h2⟩:=qJ l (uU o y);rw [List.foldl_cons,h1];unfold uU;split
  ·exact ⟨k,rfl,fun x hx=>List.mem_cons_of_mem _ (h2 x hx)⟩
  ·refine ⟨y::k,by simp,fun x hx=>?_⟩;rcases List.mem_cons.1 hx with rfl | hx
   ·simp
   ·exact List.mem_cons_of_mem _ (h2 x hx)
theorem mC:∀ (l o:List Int),o.Nodup->(l.foldl uU o).Nodup
 | [],_,h=>h
 | y::l,o,h=>by
  rw [List.foldl_cons];refine mC l _ ?_;unfold uU;split
  ·exact h
  ·rename_i hn;rw [List.nodup_append];refine ⟨h,by simp,fun x hx z hz=>?_⟩;rw [List.mem_singleton.1 hz];rintro rfl;exact hn (cu.2 hx)
structure Came (a f o:List Int):Prop where
 nodup:o.Nodup
 only:∀ x∈o,Rch a f x
theorem Came.length {a f o:List Int} (hw:∀ x∈a,am .u64 x) (hc:(ak a).2.2=0) (hf:∀ x∈f,isB (ac a).1 x=true) (h:Came a f o):o.length<=256 :=
 mS h.nodup fun x hx=>gB ((h.only x hx).isB hw hc hf)
theorem Came.first {a f:List Int} {l:List Int} (h:∀ x∈l,x∈f):Came a f (l.foldl uU []):=by
 refine ⟨mC _ _ List.nodup_nil,fun x hx=>?_⟩;obtain ⟨k,h1,h2⟩:=qJ l [];rw [h1,List.nil_append] at hx;exact .base (h x (h2 x hx))
theorem ww:∀ {l:List au} {s t:au},l.Pairwise (fun s t=>s.1<t.1)->s∈l->t∈l->s.1=t.1->s=t
 | u::l,s,t,h,hs,ht,e=>by
  obtain ⟨h1,h2⟩:=List.pairwise_cons.1 h;rcases List.mem_cons.1 hs with e1 | hs2 <;> rcases List.mem_cons.1 ht with e2 | ht2
  ·rw [e1,e2]
  ·have:=h1 t ht2; rw [<- e1] at this; omega
  ·have:=h1 s hs2; rw [<- e2] at this; omega
  ·exact ww h2 hs2 ht2 e
theorem Ko {a:List Int} (hc:(ak a).2.2=0) {x:Int} (hx:isB (ac a).1 x=true):0<=ag (fun s:au=>decide (s.1=x)) 0 (ak a).1/\(ak a).1.getD (ag (fun s:au=>decide (s.1=x)) 0 (ak a).1).toNat (0,0,0,0,false)=(x,eG a x)/\gW a x=(gO a (x,eG a x) (ak a).2.1,0):=by
 obtain ⟨_,_,e1,_,_,_,_⟩:=bi hc;have hm:=(fi hx).1
 have hge:0<=ag (fun s:au=>decide (s.1=x)) 0 (ak a).1:=by
  have h:=cS (fun s:au=>decide (s.1=x)) (ak a).1 0 (by omega);rw [e1] at h ⊢;refine of_decide_eq_true (h.trans (List.any_eq_true.2 ⟨_,hm,by simp⟩))
 have hlt:=dW (fun s:au=>decide (s.1=x)) (0,0,0,0,false) (ak a).1 0 (by omega)
 have hg:(ak a).1.getD (ag (fun s:au=>decide (s.1=x)) 0 (ak a).1).toNat (0,0,0,0,false)=(x,eG a x):=by
  have h1:=dX (fun s:au=>decide (s.1=x)) (0,0,0,0,false) (ak a).1 0 hge (by omega);rw [Int.sub_zero] at h1;have h2:=aH ((0,0,0,0,false):au) hge (by omega:ag (fun s:au=>decide (s.1=x)) 0 (ak a).1<((ak a).1.length:Int));rw [e1] at h1 h2 ⊢;exact ww (bV a) h2 hm (of_decide_eq_true h1)
 refine ⟨hge,hg,?_⟩;unfold gW;rw [if_neg (by omega),if_neg (by omega),hg]
end
section
open Go Go.RowKit Go.Lib
theorem mO {P:Program} (w:World) (dT sT ty elem:TypeId) (K g o n dLen dCap:Nat) (a:Addr) (sLen sCap:Nat) (cur:Array Value) (t:TypeId) (cs:List Value)
  (hu:P.underlying dT=some (.slice elem)) (hs:(P.info? elem).map (·.size)=some K) (hg:w.heap[g]?=some (.cells cur t (0,0))) (hn:n=Nat.min sLen dLen) (hl:cs.length=n * K)
  (hsrc:∀ j v,cs[j]?=some v->w.cell? (a.add j)=some v) (hfit:o+n * K<=cur.size) (h1:∀ v∈cs,v.oneCell'=true) :
  (Builtin.copy_ #[dT,sT] ty #[.slice (some ⟨g,o,none⟩) dLen dCap,.slice (some a) sLen sCap]).run P w =
   .ok (goInt (n:Nat)) (w.setRow g (cur.toList.take o++cs++cur.toList.drop (o+n * K)).toArray):=by
 have hl':=run_loadCells_list (P:=P) w a cs hsrc;have hst:=run_storeCells_at P g o t cs 0 cur w hg (by omega) h1;rw [hl] at hl';rw [hl] at hst;cases hq:P.info? elem with
 | none=>simp [hq] at hs
 | some i =>
  have hi:i.size=K:=by simpa [hq] using hs
  simp [Builtin.copy_,run_underlying hu,Builtin.lenOf,Builtin.firstCells,sizeOf,typeInfo,hq,hi,<- hn,hl',hst]
theorem GD (cur l l2:List Value) {a b c:Nat} (h:cur.take c=l) (ha:a<=c) (hfit:c+b<=cur.length) (h2:l2.length=b) {c1:List Value} (h1:c1=cur.take (a+b)++l.drop a++cur.drop (a+b+(c - a))) :
  c1.length=cur.length/\(c1.take a++l2++c1.drop (a+b)).length=cur.length/\(c1.take a++l2++c1.drop (a+b)).take (c+b)=l.take a++l2++l.drop a:=by
 have hl:l.length=c:=by rw [<- h]; simp; omega
 have e1:(cur.take (a+b)).length=a+b:=by simp; omega
 have e2:c1.length=cur.length:=by rw [h1]; simp; omega
 have e3:c1.take a=l.take a:=by
  rw [h1,List.append_assoc,List.take_append_of_le_length (by omega),List.take_take,Nat.min_eq_left (by omega),<- h,List.take_take,Nat.min_eq_left ha]
 have e4:c1.drop (a+b)=l.drop a++cur.drop (a+b+(c - a)):=by
  rw [h1,List.append_assoc,List.drop_append_of_le_length (by omega),List.drop_of_length_le (by omega),List.nil_append]
 refine ⟨e2,?_,?_⟩
 ·rw [e3,e4]; simp; omega
 ·rw [e3,e4,<- List.append_assoc,List.take_append_of_le_length (by simp; omega),List.take_of_length_le (by simp; omega)]
theorem DG (l l2 z:List Value) {a b c G:Nat} (hl:l.length=c) (ha:a<=c) (h2:l2.length=b) (hz:a+z.length=G) (hG:c+b<=G) {c0 c1:List Value} (h0:c0=l.take a++z)
  (h1:c1=c0.take a++l2++c0.drop (a+b)) :
  c0.length=G/\c1.length=G/\(c1.take (a+b)++l.drop a++c1.drop (a+b+(c - a))).length=G/\(c1.take (a+b)++l.drop a++c1.drop (a+b+(c - a))).take (c+b)=l.take a++l2++l.drop a:=by
 have e0:c0.length=G:=by rw [h0]; simp; omega
 have e1:c0.take a=l.take a:=by rw [h0,List.take_append_of_le_length (by simp; omega),List.take_take,Nat.min_self]
 have e2:c1.length=G:=by rw [h1]; simp; omega
 have e3:c1.take (a+b)=l.take a++l2:=by
  rw [h1,e1,List.take_append_of_le_length (by simp; omega),List.take_of_length_le (by simp; omega)]
 refine ⟨e0,e2,by rw [e3]; simp; omega,?_⟩;rw [e3,List.take_append_of_le_length (by simp; omega),List.take_of_length_le (by simp; omega)]
theorem lH {P:Program} {ops:Array Oper} {o:Oper} {a:Act} {w:World} {K:Act->World->Prop} {Q:Exit->Act->World->Prop} {E:Prop}
  (hg:o.guard=none) (d x:Operand) (t tn:TypeId) (hop:o.op=Op.call { callee:=Callee.builtin Builtin.append,args:=#[d,x],argTypes:=#[t,tn] })
  (v u:Value) (hd:a.eval d=v) (hx:a.eval x=u) {v':Value} {w':World} (hr:(Builtin.append_ #[t,tn] o.type #[v,u]).run P w=.ok v' w') (hK:K (a.put o.dst v') w') :
  if Region.wanted o (yielded ops a.tmps)=true then Oper.wp P o a w K Q else E:=by
 have hw:Region.wanted o (yielded ops a.tmps)=true:=by simp [Region.wanted,hg]
 rw [if_pos hw];exact Lib.wp_append_run w d x t tn hop v u hd hx v' w' hr hK
theorem ky {P:Program} (w:World) {ops:Array Oper} {rest:List Oper} {o:Oper} {a:Act} {Q:Exit->Act->World->Prop} (hgd:o.guard=none) (x:Operand) (t:TypeId)
  (ho:o.op=.call { callee:=.builtin .clear,args:=#[x],argTypes:=#[t] }) (vx:Value) (hx:a.eval x=vx)
  (v':Value) (w':World) (hr:(Builtin.clear_ #[t] o.type #[vx]).run P w=.ok v' w') (h:wpList P ops Q rest (a.put o.dst v') w'):wpList P ops Q (o::rest) a w :=
 wpList_plain hgd fun _ hK=>by
  unfold Oper.wp execOp;simp only [ho,resolve,invoke,builtin,Sem.run_bind,Sem.run_pure,Result.andThen_ok,List.map_toArray,List.map_cons,List.map_nil,hx,hr];exact hK _ _ h
def y8 {α:Type} (xs ys:List α) (i:Int):List α:=xs.take i.toNat++ys++xs.drop i.toNat
def CN {α:Type} (xs:List α) (i j:Int):List α:=xs.take i.toNat++xs.drop j.toNat
theorem fI (w:World) {g:Nat} (cs:Array Value) {cur:Array Value} {t:TypeId} (h:w.heap[g]?=some (.cells cur t (0,0))):w.grownBy (w.setRow g cs) (some g):=by
 obtain ⟨_,h2,h3,h4,h5,h6⟩:=bY w g cs h;exact ⟨h2,h3,h4,by omega,fun k _ hk=>h6 k (fun e=>hk (by rw [e]))⟩
theorem jY (w:World) (row:Option Nat):w.grownBy w.drew row:=⟨rfl,rfl,rfl,Nat.le_refl _,fun _ _ _=>rfl⟩
theorem zc (w:World) (o:Go.Obj) (row:Option Nat):w.grownBy (w.alloc o) row:=⟨rfl,rfl,rfl,by simp,fun k hk _=>heap_alloc_old w o hk⟩
theorem un {w w1 w2:World} {N:Nat} {row:Option Nat} (h:w.grownBy w1 row) (k:w1.grownBy w2 (some N)) (hN:w.heap.size<=N):w.grownBy w2 row :=
 ⟨k.os.trans h.os,k.tape.trans h.tape,k.output.trans h.output,Nat.le_trans h.size k.size,fun i hi hne=>(k.block i (Nat.lt_of_lt_of_le hi h.size) (fun e=>by injection e; omega)).trans (h.block i hi hne)⟩
def C4 (P:Program) (F:FuncId) (S:TypeId) (Z:Nat):Prop :=
 ∀ (w W1 W2:World) (g n c i vb m vc:Nat) (tA tB:TypeId) (kA kB:Nat),i<n->0<m->n+m<=c->c<=9223372036854775807->vb≠g ->
  w.shape? vb=some (tA,kA)->w.shape? g=some (tB,kB)->kB≠0->w.frozen? ⟨vb,0,none⟩=false->w.frozen? ⟨vb,kA,none⟩=false ->
  (∀ ty (d1 d2 d3 d4:Nat),d1=n - i->d2=n+m - i->(Builtin.copy_ #[S,S] ty #[.slice (some ⟨g,(i+m) * Z,none⟩) d1 d3,.slice (some ⟨g,i * Z,none⟩) d2 d4]).run P w.drew=.ok (goInt (n - i:Nat)) W1) ->
  (∀ ty (d1 d3:Nat),d1=n+m - i->(Builtin.copy_ #[S,S] ty #[.slice (some ⟨g,i * Z,none⟩) d1 d3,.slice (some ⟨vb,0,none⟩) m vc]).run P W1=.ok (goInt (m:Nat)) W2) ->
  Calls P F #[.slice (some ⟨g,0,none⟩) n c,.int .i64 i,.slice (some ⟨vb,0,none⟩) m vc] w fun e w'=>e=.returned (.slice (some ⟨g,0,none⟩) (n+m) c)/\w'=W2
def F8 (P:Program) (F:FuncId) (S I:TypeId) (Z:Nat):Prop :=
 ∀ (w W0 W1 W2:World) (g N n c i vb m vc G:Nat),i<n->0<m->n<=c->c<n+m->n+m<=G->n+m<=9223372036854775807->G<=9223372036854775807 ->
  (∀ ty,(Builtin.append_ #[S,I] ty #[.slice (some ⟨g,0,none⟩) i c,.int .i64 ((n:Int)+(m:Int) - (i:Int))]).run P w=.ok (.slice (some ⟨N,0,none⟩) (n+m) G) W0) ->
  (∀ ty (d1 d3:Nat),d1=n+m - i->(Builtin.copy_ #[S,S] ty #[.slice (some ⟨N,i * Z,none⟩) d1 d3,.slice (some ⟨vb,0,none⟩) m vc]).run P W0=.ok (goInt (m:Nat)) W1) ->
  (∀ ty (d1 d2 d3 d4:Nat),d1=n - i->d2=n - i->(Builtin.copy_ #[S,S] ty #[.slice (some ⟨N,(i+m) * Z,none⟩) d1 d3,.slice (some ⟨g,i * Z,none⟩) d2 d4]).run P W1.drew=.ok (goInt (n - i:Nat)) W2) ->
  Calls P F #[.slice (some ⟨g,0,none⟩) n c,.int .i64 i,.slice (some ⟨vb,0,none⟩) m vc] w fun e w'=>e=.returned (.slice (some ⟨N,0,none⟩) (n+m) G)/\w'=W2
def KD (P:Program) (F:FuncId) (S:TypeId):Prop :=
 ∀ (w W:World) (A:Option Addr) (n c vb m vc:Nat) (v':Value),0<m->n<=c->(A=none->n=0/\c=0)->(∀ a,A=some a->a.off=0/\a.spot=none) ->
  (Builtin.append_ #[S,S] S #[.slice A n c,.slice (some ⟨vb,0,none⟩) m vc]).run P w=.ok v' W ->
  Calls P F #[.slice A n c,.int .i64 n,.slice (some ⟨vb,0,none⟩) m vc] w fun e w'=>e=.returned v'/\w'=W
def fZ (E:TypeId) (T:Ty):RowFn:={ e:=E,T:=T,Ts:=[ty_I],out:=true,tail:=true,pre:=fun (xs ys:List T.den) (i:Int)=>0<ys.length/\0<=i/\i<=xs.length/\(xs.length+ys.length) * T.bytes<=aJ,F:=fun (xs ys:List T.den) (i:Int)=>y8 xs ys i }
theorem Ln {P:Program} {T:Ty} {F:FuncId} {S E I:TypeId} (hS:P.underlying S=some (.slice E)) (hI:P.underlying I=some (.int .i64)) (hf:eV P E T=true)
  (shift:C4 P F S T.size) (grow:F8 P F S I T.size) (end_:KD P F S):(fZ E T).ok P F:=by
 intro p w v (xs:List T.den) l v2 (ys:List T.den) l2 vs (i:Int) _ _ hA hown hl hbig hp hown2 hl2 hne hargs hpre;obtain ⟨hm,hi0,hi1,hb⟩:0<ys.length/\0<=i/\i<=xs.length/\(xs.length+ys.length) * T.bytes<=aJ:=hpre;obtain ⟨v1,rfl,hv1⟩:=hargs;have hv1:[v1]=[Value.int .i64 i]/\am .i64 i:=hv1;obtain ⟨hv1,_⟩:=hv1;injection hv1 with hv1
 subst hv1;obtain ⟨k,rfl⟩:∃ k:Nat,i=k:=⟨i.toNat,by omega⟩;have hk:k<=xs.length:=by omega
 have hown:w.ownsRow 0 E T.size v xs.length l:=hown;have hown2:w.ownsRow 0 E T.size v2 ys.length l2:=hown2;have hl:aK (T.holds p) xs l:=hl;have hl2:aK (T.holds p) ys l2:=hl2;have hbig:xs.length * T.bytes<=aJ:=hbig;obtain ⟨inf,z,hinf,hsz,hby,hz,hzs⟩:=dr hf;have hlen:l.length=xs.length * T.size:=hown.1;have hlen2:l2.length=ys.length * T.size:=hown2.1;have h1l:∀ u∈l,u.oneCell'=true:=fp (fun x cs h=>dq T x cs h) xs l hl;have h1l2:∀ u∈l2,u.oneCell'=true:=fp (fun x cs h=>dq T x cs h) ys l2 hl2;have hszE:(P.info? E).map (·.size)=some T.size:=by rw [hinf]; simp [hsz]
 have hpos:=Ty.size_pos T;have eF:((fZ E T).F xs ys (k:Int):List T.den)=xs.take k++ys++xs.drop k:=by show y8 xs ys k=_; simp [y8]
 have hFl:(xs.take k++ys++xs.drop k).length=xs.length+ys.length:=by simp; omega
 have hrow:aK (T.holds p) (xs.take k++ys++xs.drop k) (l.take (k * T.size)++l2++l.drop (k * T.size)) :=
  cq _ _ _ _ (cq _ _ _ _ (dl (fun x cs h=>Ty.holds_length T x cs h) k xs l hl) hl2) (eK (fun x cs h=>Ty.holds_length T x cs h) k xs l hl)
 have hb8:(xs.take k++ys++xs.drop k).length * T.bytes<=aJ:=by rw [hFl]; exact hb
 have hb8e:=eZ T
 have h63:xs.length+ys.length<=maxLen:=by
  have h2:(xs.length+ys.length) * 8<=(xs.length+ys.length) * T.bytes:=Nat.mul_le_mul_left _ hb8e;simp only [aJ,maxLen] at *;omega
 have done:∀ (v':Value) (w':World) (e:Ending),e=.returned v'->w.grownBy w' v.ownBlock->w'.ownsRow 0 E T.size v' (xs.length+ys.length) (l.take (k * T.size)++l2++l.drop (k * T.size))->(∀ b,v'.ownBlock=some b->v.ownBlock=some b\/w.heap.size<=b) ->
   ∃ (v':Value) (l':List Value),e=.returned (if (fZ E T).out then v' else .tuple #[])/\((fZ E T).out=false->v'=v)/\w.grownBy w' v.ownBlock /\
   w'.ownsRow 0 (fZ E T).e (fZ E T).T.size v' ((fZ E T).F xs ys (k:Int):List T.den).length l'/\aK ((fZ E T).T.holds p) ((fZ E T).F xs ys (k:Int)) l'/\((fZ E T).F xs ys (k:Int):List T.den).length * (fZ E T).T.bytes<=aJ /\
   ∀ b,v'.ownBlock=some b->v.ownBlock=some b\/w.heap.size<=b:=by
  intro v' w' e he hg ho hbk;rw [eF];refine ⟨v',_,he,fun h=>(by cases h),hg,?_,hrow,hb8,hbk⟩;show w'.ownsRow 0 E T.size v' (xs.take k++ys++xs.drop k).length _;rw [hFl];exact ho
 rcases hown2.2 with ⟨_,h0⟩ | ⟨g2,cap2,cur2,rfl,_,hb2,h21,h22,h23,h24⟩
 ·omega
 have hvs:∀ (j:Nat) (u:Value),l2[j]?=some u->w.cell? ⟨g2,0+j,none⟩=some u:=by
  intro j u hj
  have:cur2.toList[j]?=some u:=by
   rw [<- h24,List.getElem?_take] at hj;split at hj
   ·exact hj
   ·cases hj
  simp only [World.cell?,hb2,Nat.zero_add];simpa using this
 show Calls P F #[v,.int .i64 k,.slice (some ⟨g2,0,none⟩) ys.length cap2] w _;by_cases hkn:k=xs.length
 ·
  obtain ⟨v',w',r1,r2,r3,r4⟩:=lF (ty:=S) hS hf hown hl2 (A:=some ⟨g2,0,none⟩) (c:=cap2) (fun _=>⟨g2,0,rfl,hvs⟩) hb
  have el:l.take (k * T.size)++l2++l.drop (k * T.size)=l++l2:=by
   rw [hkn,List.take_of_length_le (by omega),List.drop_of_length_le (by omega),List.append_nil]
  have main:∀ (A:Option Addr) (n c:Nat),v=.slice A n c->xs.length=n->n<=c->(A=none->n=0/\c=0)->(∀ a,A=some a->a.off=0/\a.spot=none) ->
    Calls P F #[v,.int .i64 (xs.length:Int),.slice (some ⟨g2,0,none⟩) ys.length cap2] w fun e W=>e=.returned v'/\W=w':=by
   intro A n c hv hn h1 h2 h3;have h:=end_ w w' A n c g2 ys.length cap2 v' hm h1 h2 h3 (by rw [<- hv]; exact r1);rw [<- hv,<- hn] at h;exact h
  have hcall:Calls P F #[v,.int .i64 (xs.length:Int),.slice (some ⟨g2,0,none⟩) ys.length cap2] w fun e W=>e=.returned v'/\W=w':=by
   rcases hown.2 with ⟨hv,h0⟩ | ⟨g,cap,cur,hv,_,hbg,h1,h2,h3,h4⟩
   ·exact main none 0 0 hv h0 (Nat.le_refl _) (fun _=>⟨rfl,rfl⟩) (fun a h=>by cases h)
   ·exact main (some ⟨g,0,none⟩) xs.length cap hv rfl h1 (fun h=>by cases h) (fun a h=>by injection h with h; subst h; exact ⟨rfl,rfl⟩)
  subst hkn;refine hcall.mono fun e W h=>?_
  obtain ⟨rfl,rfl⟩:=h
  exact done v' _ _ rfl r3 (by rw [el]; exact r2) (fun b hb'=>by
   rcases r4 with r4 | r4
   ·exact .inl (by rw [<- r4]; exact hb')
   ·rw [r4] at hb';injection hb' with hb'
    exact .inr (by omega))
 have hkl:k<xs.length:=by omega
 rcases hown.2 with ⟨_,h0⟩ | ⟨g,cap,cur,rfl,_,hbg,h1,h2,h3,h4⟩
 ·omega
 have hgs:g<w.heap.size:=(Array.getElem?_eq_some_iff.1 hbg).1;have hvb:g2≠g:=fun e=>hne g rfl (by rw [e]; rfl)
 have hcap:cap<=9223372036854775807:=by unfold maxLen at h2; omega
 have hkz:(k+ys.length) * T.size=k * T.size+ys.length * T.size:=Nat.add_mul _ _ _;have hnz:(xs.length+ys.length) * T.size=xs.length * T.size+ys.length * T.size:=Nat.add_mul _ _ _;have hkn':k * T.size<=xs.length * T.size:=Nat.mul_le_mul_right _ hk;have hdz:(xs.length - k) * T.size=xs.length * T.size - k * T.size:=Nat.sub_mul _ _ _;have hdrop:((l.drop (k * T.size)).length)=(xs.length - k) * T.size:=by rw [List.length_drop,hlen,hdz]
 have hlc:cur.toList.length=cap * T.size:=by simpa using h3
 have hsrc:∀ (j:Nat) (u:Value),(l.drop (k * T.size))[j]?=some u->w.cell? ⟨g,k * T.size+j,none⟩=some u:=by
  intro j u hj;rw [List.getElem?_drop] at hj
  have:cur.toList[k * T.size+j]?=some u:=by
   rw [<- h4,List.getElem?_take] at hj;split at hj
   ·exact hj
   ·cases hj
  simp only [World.cell?,hbg];simpa using this
 by_cases hroom:xs.length+ys.length<=cap
 ·
  have hfit:xs.length * T.size+ys.length * T.size<=cur.toList.length:=by
   rw [hlc,<- hnz];exact Nat.mul_le_mul_right _ hroom
  have hkB:cur.size≠0:=by
   have:0<xs.length * T.size:=Nat.mul_pos (by omega) hpos;have:cur.toList.length=cur.size:=by simp
   omega
  have hgd:w.drew.heap[g]?=some (.cells cur E (0,0)):=hbg
  have hcp1:=fun ty (d1 d2 d3 d4:Nat) (e1:d1=xs.length - k) (e2:d2=xs.length+ys.length - k)=>mO (P:=P) w.drew S S ty E T.size g ((k+ys.length) * T.size) (xs.length - k) d1 d3 ⟨g,k * T.size,none⟩ d2 d4 cur E (l.drop (k * T.size)) hS hszE hgd
   (by rw [e1,e2]; simp only [Nat.min_def]; split <;> omega) hdrop (fun j u hj=>by rw [Addr.add_lit]; exact hsrc j u hj) (by
    have:cur.toList.length=cur.size:=by simp
    rw [hkz,hdz]; omega) (fun u hu=>h1l u (List.mem_of_mem_drop hu))
  obtain ⟨C1,hC1⟩:∃ C1:List Value,C1=cur.toList.take ((k+ys.length) * T.size)++l.drop (k * T.size)++cur.toList.drop ((k+ys.length) * T.size+(xs.length - k) * T.size):=⟨_,rfl⟩;rw [<- hC1] at hcp1;obtain ⟨s1,s2,s3⟩:=GD cur.toList l l2 (a:=k * T.size) (b:=ys.length * T.size) (c:=xs.length * T.size) h4 hkn' hfit hlen2 (c1:=C1) (by rw [hC1,hkz,hdz]);have hg1:(w.drew.setRow g C1.toArray).heap[g]?=some (.cells C1.toArray E (0,0)):=(bY w.drew g C1.toArray hgd).1;have ho1:∀ b,b≠g->(w.drew.setRow g C1.toArray).heap[b]?=w.heap[b]?:=(bY w.drew g C1.toArray hgd).2.2.2.2.2
  have hcp2:=fun ty (d1 d3:Nat) (e1:d1=xs.length+ys.length - k)=>mO (P:=P) (w.drew.setRow g C1.toArray) S S ty E T.size g (k * T.size) ys.length d1 d3 ⟨g2,0,none⟩ ys.length cap2 C1.toArray E l2 hS hszE hg1
   (by rw [e1]; simp only [Nat.min_def]; split <;> omega) hlen2 (fun j u hj=>by
    rw [Addr.add_lit];have:=hvs j u hj;simp only [World.cell?,ho1 g2 hvb] at this ⊢;exact this) (by simp only [List.size_toArray,s1]; omega) h1l2
  refine (shift w _ _ g xs.length cap k g2 ys.length cap2 E E cur2.size cur.size hkl hm hroom hcap hvb (by simp [World.shape?,hb2]) (by simp [World.shape?,hbg]) hkB (by simp [World.frozen?,hb2]) (by simp [World.frozen?,hb2]) hcp1 hcp2).mono ?_;rintro e w' ⟨rfl,rfl⟩;have hg2:=(bY (w.drew.setRow g C1.toArray) g ((C1.take (k * T.size)++l2++C1.drop (k * T.size+ys.length * T.size)).toArray) hg1).1;simp only at hg2 ⊢;refine done _ _ _ rfl (((jY w _).trans (fI w.drew _ hgd)).trans (fI _ _ hg1)) ⟨?_,.inr ⟨g,cap,_,rfl,Nat.zero_le _,hg2,hroom,h2,?_,?_⟩⟩ (fun b h=>.inl h)
  ·simp only [List.length_append,List.length_take,List.length_drop,hlen,hlen2,hnz];omega
  ·rw [List.size_toArray,s2,hlc]
  ·rw [List.toList_toArray,hnz,s3]
 ·
  have hroom:cap<xs.length+ys.length:=by omega
  have grow0:=grownCap_ge w (xs.length+ys.length) cap E;have growM:=grownCap_le_maxLen w (xs.length+ys.length) cap E h63;have hbi:(xs.length+ys.length) * inf.bytes<=140737488355328:=Nat.le_trans (Nat.mul_le_mul_left _ hby) hb;have hkk:(xs.length:Int)+(ys.length:Int) - (k:Int)=((xs.length+ys.length - k:Nat):Int):=by omega
  have hik:k+(xs.length+ys.length - k)=xs.length+ys.length:=by omega
  have hold:(Builtin.firstCells inf.size k (.slice (some ⟨g,0,none⟩) k cap)).run P w.drew=.ok (l.take (k * T.size)).toArray w.drew:=by
   rw [hsz];refine run_firstCells_some w.drew T.size k ⟨g,0,none⟩ k cap (l.take (k * T.size)) (by rw [List.length_take,hlen]; omega) (fun j u hj=>?_);rw [Addr.add_lit];rw [List.getElem?_take] at hj;split at hj
   ·have:cur.toList[j]?=some u:=by
     rw [<- h4,List.getElem?_take] at hj;split at hj
     ·exact hj
     ·cases hj
    show w.cell? _=_;simp only [World.cell?,hbg,Nat.zero_add];simpa using this
   ·cases hj
  have hap:∀ ty,(Builtin.append_ #[S,I] ty #[.slice (some ⟨g,0,none⟩) k cap,.int .i64 ((xs.length:Int)+(ys.length:Int) - (k:Int))]).run P w=.ok (.slice (some ⟨w.heap.size,0,none⟩) (xs.length+ys.length) (grownCap w (xs.length+ys.length) cap E)) (w.drew.alloc (.cells ((l.take (k * T.size)).toArray++Builtin.zeroCells z.cells (xs.length+ys.length - k)++Builtin.zeroCells z.cells (grownCap w (xs.length+ys.length) cap E - (xs.length+ys.length))) E)):=fun ty=>by
   have h:=Lib.run_append_grow_zeros (P:=P) w S I ty E inf z .i64 .i64 hS hI hinf hz (some ⟨g,0,none⟩) k cap (l.take (k * T.size)) hold (xs.length+ys.length - k) (by omega) (by omega) (by omega)
    (by rw [hik]; unfold maxLen at h63; omega) (by
     have:(xs.length+ys.length - k) * inf.bytes<=(xs.length+ys.length) * inf.bytes:=Nat.mul_le_mul_right _ (by omega);omega) (by rw [hik]; exact growslice_fits hroom hbi)
   rw [hik] at h;rw [hkk];exact h
  obtain ⟨G,hG⟩:∃ G,G=grownCap w (xs.length+ys.length) cap E:=⟨_,rfl⟩;rw [<- hG] at hap grow0 growM;obtain ⟨ROW,hROW⟩:∃ ROW:Array Value,ROW=(l.take (k * T.size)).toArray++Builtin.zeroCells z.cells (xs.length+ys.length - k)++Builtin.zeroCells z.cells (G - (xs.length+ys.length)):=⟨_,rfl⟩;rw [<- hROW] at hap;have hGz:(xs.length+ys.length) * T.size<=G * T.size:=Nat.mul_le_mul_right _ grow0;have hRl:ROW.toList=l.take (k * T.size)++((Builtin.zeroCells z.cells (xs.length+ys.length - k)).toList++(Builtin.zeroCells z.cells (G - (xs.length+ys.length))).toList):=by rw [hROW]; simp
  have hzl:((Builtin.zeroCells z.cells (xs.length+ys.length - k)).toList++(Builtin.zeroCells z.cells (G - (xs.length+ys.length))).toList).length=G * T.size - k * T.size:=by
   have zl:∀ n,(Builtin.zeroCells z.cells n).toList.length=n * T.size:=fun n=>by rw [Array.length_toList,size_zeroCells,hzs]
   rw [List.length_append,zl,zl,Nat.sub_mul,Nat.sub_mul];omega
  have hN:(w.drew.alloc (.cells ROW E)).heap[w.heap.size]?=some (.cells ROW E (0,0)):=heap_alloc_new w.drew _;have hold2:∀ b,b<w.heap.size->(w.drew.alloc (.cells ROW E)).heap[b]?=w.heap[b]?:=fun b hb=>heap_alloc_old w.drew _ hb
  have hg2s:g2<w.heap.size:=(Array.getElem?_eq_some_iff.1 hb2).1;obtain ⟨C1,hC1⟩:∃ C1:List Value,C1=ROW.toList.take (k * T.size)++l2++ROW.toList.drop (k * T.size+ys.length * T.size):=⟨_,rfl⟩;obtain ⟨s0,s1,s2,s3⟩:=DG l l2 _ (a:=k * T.size) (b:=ys.length * T.size) (c:=xs.length * T.size) (G:=G * T.size) hlen hkn' hlen2 (by rw [hzl]; omega) (by omega) (c0:=ROW.toList) hRl (c1:=C1) hC1;have hRs:ROW.size=G * T.size:=by simpa using s0
  have hcp1:=fun ty (d1 d3:Nat) (e1:d1=xs.length+ys.length - k)=>mO (P:=P) (w.drew.alloc (.cells ROW E)) S S ty E T.size w.heap.size (k * T.size) ys.length d1 d3 ⟨g2,0,none⟩ ys.length cap2 ROW E l2 hS hszE hN
   (by rw [e1]; simp only [Nat.min_def]; split <;> omega) hlen2 (fun j u hj=>by
    rw [Addr.add_lit];have:=hvs j u hj;simp only [World.cell?,hold2 g2 hg2s] at this ⊢;exact this) (by rw [hRs]; omega) h1l2
  rw [<- hC1] at hcp1;have hN1:((w.drew.alloc (.cells ROW E)).setRow w.heap.size C1.toArray).drew.heap[w.heap.size]?=some (.cells C1.toArray E (0,0)):=(bY _ w.heap.size C1.toArray hN).1;have ho1:∀ b,b<w.heap.size->((w.drew.alloc (.cells ROW E)).setRow w.heap.size C1.toArray).drew.heap[b]?=w.heap[b]?:=fun b hb=>((bY _ w.heap.size C1.toArray hN).2.2.2.2.2 b (by omega)).trans (hold2 b hb)
  have hcp2:=fun ty (d1 d2 d3 d4:Nat) (e1:d1=xs.length - k) (e2:d2=xs.length - k)=>mO (P:=P) ((w.drew.alloc (.cells ROW E)).setRow w.heap.size C1.toArray).drew S S ty E T.size w.heap.size ((k+ys.length) * T.size) (xs.length - k) d1 d3 ⟨g,k * T.size,none⟩ d2 d4 C1.toArray E (l.drop (k * T.size)) hS hszE hN1
   (by rw [e1,e2]; simp only [Nat.min_def]; split <;> omega) hdrop (fun j u hj=>by
    rw [Addr.add_lit];have:=hsrc j u hj;simp only [World.cell?,ho1 g hgs] at this ⊢;exact this) (by simp only [List.size_toArray,s1]; rw [hkz,hdz]; omega) (fun u hu=>h1l u (List.mem_of_mem_drop hu))
  refine (grow w _ _ _ g w.heap.size xs.length cap k g2 ys.length cap2 G hkl hm h1 hroom grow0 (by unfold maxLen at h63; omega) (by unfold maxLen at growM; omega) hap hcp1 hcp2).mono ?_;rintro e w' ⟨rfl,rfl⟩;simp only;have hN2:=(bY ((w.drew.alloc (.cells ROW E)).setRow w.heap.size C1.toArray).drew w.heap.size ((C1.take ((k+ys.length) * T.size)++l.drop (k * T.size)++C1.drop ((k+ys.length) * T.size+(xs.length - k) * T.size)).toArray) hN1).1;rw [hkz,hdz] at hN2 ⊢;refine done _ _ _ rfl (un ((un ((jY w _).trans (zc w.drew _ _)) (fI _ _ hN) (Nat.le_refl _)).trans (jY _ _)) (fI _ _ hN1) (Nat.le_refl _)) ⟨?_,.inr ⟨w.heap.size,G,_,rfl,Nat.zero_le _,hN2,grow0,growM,?_,?_⟩⟩ (fun b h=>.inr (by have h:some w.heap.size=some b:=h; injection h with h; omega))
  ·simp only [List.length_append,List.length_take,List.length_drop,hlen,hlen2,hnz];omega
  ·rw [List.size_toArray,s2]
  ·rw [List.toList_toArray,hnz,s3]
def Fa (P:Program) (E:TypeId):Bool:=match P.info? E with
 | some i=>match i.zero with
  | some z=>z.cells.toList.all fun u=>u.oneCell'
  | none=>false
 | none=>false
theorem Jl {P:Program} {E:TypeId} (h:Fa P E=true) {i:TypeInfo} {z:Value} (hi:P.info? E=some i) (hz:i.zero=some z):∀ u∈z.cells.toList,u.oneCell'=true:=by
 unfold Fa at h;rw [hi] at h;simp only [hz] at h;exact List.all_eq_true.1 h
def Ga (P:Program) (F:FuncId) (S:TypeId) (Z:Nat):Prop :=
 ∀ (w W1 W2:World) (g n c i j:Nat),i<j->j<=n->n<=c->c<=9223372036854775807 ->
  (∀ ty a d4,(j=n\/a=(⟨g,j * Z,none⟩:Addr))->(Builtin.append_ #[S,S] ty #[.slice (some ⟨g,0,none⟩) i c,.slice (some a) (n - j) d4]).run P w.drew=.ok (.slice (some ⟨g,0,none⟩) (i+(n - j)) c) W1) ->
  (∀ ty d4,(Builtin.clear_ #[S] ty #[.slice (some ⟨g,(i+(n - j)) * Z,none⟩) (j - i) d4]).run P W1=.ok (.tuple #[]) W2) ->
  Calls P F #[.slice (some ⟨g,0,none⟩) n c,.int .i64 i,.int .i64 j] w fun e w'=>e=.returned (.slice (some ⟨g,0,none⟩) (i+(n - j)) c)/\w'=W2
def f9 (E:TypeId) (T:Ty):RowFn:={ e:=E,T:=T,Ts:=[ty_I,ty_I],out:=true,pre:=fun (xs _:List T.den) ((i,j):Int×Int)=>0<=i/\i<j/\j<=xs.length,F:=fun (xs _:List T.den) ((i,j):Int×Int)=>CN xs i j }
theorem LF {P:Program} {T:Ty} {F:FuncId} {S E:TypeId} (hS:P.underlying S=some (.slice E)) (hf:eV P E T=true)
  (hz1:∀ i z,P.info? E=some i->i.zero=some z->∀ u∈z.cells.toList,u.oneCell'=true) (walk:Ga P F S T.size):(f9 E T).ok P F:=by
 intro p w v (xs:List T.den) l v2 (ys:List T.den) l2 vs (x:Int×Int) _ _ hA hown hl hbig hp _ _ _ hargs hpre;obtain ⟨i,j⟩:=x;obtain ⟨hi0,hij,hj⟩:0<=i/\i<j/\j<=xs.length:=hpre;obtain ⟨v1,rest,rfl,hv1,v3,rfl,hv3⟩:=hargs;have hv1:[v1]=[Value.int .i64 i]/\am .i64 i:=hv1;have hv3:[v3]=[Value.int .i64 j]/\am .i64 j:=hv3;obtain ⟨hv1,_⟩:=hv1;obtain ⟨hv3,_⟩:=hv3;injection hv1 with hv1
 injection hv3 with hv3
 subst hv1 hv3;obtain ⟨i,rfl⟩:∃ k:Nat,i=k:=⟨i.toNat,by omega⟩;obtain ⟨j,rfl⟩:∃ k:Nat,j=k:=⟨j.toNat,by omega⟩;have hown:w.ownsRow 0 E T.size v xs.length l:=hown;have hl:aK (T.holds p) xs l:=hl;have hbig:xs.length * T.bytes<=aJ:=hbig;obtain ⟨inf,z,hinf,hsz,hby,hz,hzs⟩:=dr hf;have hlen:l.length=xs.length * T.size:=hown.1;have h1l:∀ u∈l,u.oneCell'=true:=fp (fun x cs h=>dq T x cs h) xs l hl;have hpos:=Ty.size_pos T;have hij':i<j:=by omega
 have hj':j<=xs.length:=by omega
 have eF:((f9 E T).F xs ys ((i:Int),(j:Int)):List T.den)=xs.take i++xs.drop j:=by show CN xs i j=_; simp [CN]
 have hFl:(xs.take i++xs.drop j).length=i+(xs.length - j):=by simp; omega
 have hrow:aK (T.holds p) (xs.take i++xs.drop j) (l.take (i * T.size)++l.drop (j * T.size)) :=
  cq _ _ _ _ (dl (fun x cs h=>Ty.holds_length T x cs h) i xs l hl) (eK (fun x cs h=>Ty.holds_length T x cs h) j xs l hl)
 rcases hown.2 with ⟨_,h0⟩ | ⟨g,cap,cur,rfl,_,hbg,h1,h2,h3,h4⟩
 ·omega
 have hcap:cap<=9223372036854775807:=by unfold maxLen at h2; omega
 have hiz:i * T.size<=xs.length * T.size:=Nat.mul_le_mul_right _ (by omega);have hjz:j * T.size<=xs.length * T.size:=Nat.mul_le_mul_right _ hj';have hijz:i * T.size<=j * T.size:=Nat.mul_le_mul_right _ (by omega);have hnz:xs.length * T.size<=cap * T.size:=Nat.mul_le_mul_right _ h1;have hdz:(xs.length - j) * T.size=xs.length * T.size - j * T.size:=Nat.sub_mul _ _ _;have hoz:(i+(xs.length - j)) * T.size=i * T.size+(xs.length * T.size - j * T.size):=by rw [Nat.add_mul,hdz]
 have hcz:(j - i) * T.size=j * T.size - i * T.size:=Nat.sub_mul _ _ _;have hlc:cur.toList.length=cap * T.size:=by simpa using h3
 have hdrop:((l.drop (j * T.size)).length)=(xs.length - j) * T.size:=by rw [List.length_drop,hlen,hdz]
 have hsrc:∀ (k:Nat) (u:Value),(l.drop (j * T.size))[k]?=some u->w.cell? ⟨g,j * T.size+k,none⟩=some u:=by
  intro k u hk;rw [List.getElem?_drop] at hk
  have:cur.toList[j * T.size+k]?=some u:=by
   rw [<- h4,List.getElem?_take] at hk;split at hk
   ·exact hk
   ·cases hk
  simp only [World.cell?,hbg];simpa using this
 have hgd:w.drew.heap[g]?=some (.cells cur E (0,0)):=hbg;obtain ⟨C1,hC1⟩:∃ C1:List Value,C1=cur.toList.take (i * T.size)++l.drop (j * T.size)++cur.toList.drop (i * T.size+(xs.length * T.size - j * T.size)):=⟨_,rfl⟩
 have hC1l:C1.length=cap * T.size:=by
  rw [hC1];simp only [List.length_append,List.length_take,List.length_drop,hlen,hlc];omega
 have hap:=fun ty (a:Addr) d4 (ha:j=xs.length\/a=⟨g,j * T.size,none⟩)=>run_append_room (P:=P) w.drew S ty E inf hS hinf g i cap cur hgd a (xs.length - j) d4 (l.drop (j * T.size)) (by rw [hsz]; exact hdrop)
  (fun k u hk=>by
   rcases ha with ha | rfl
   ·rw [List.drop_of_length_le (by rw [ha]; omega)] at hk;simp at hk
   ·rw [Addr.add_lit]; exact hsrc k u hk) (fun u hu=>h1l u (List.mem_of_mem_drop hu)) (by omega) (by
    have:cur.toList.length=cur.size:=by simp
    rw [hsz,hdrop,hdz]; omega)
 rw [hsz,hdrop,hdz,<- hC1] at hap;have hg1:(w.drew.setRow g C1.toArray).heap[g]?=some (.cells C1.toArray E (0,0)):=(bY w.drew g C1.toArray hgd).1;have hzr:∀ w,(zeroValue E).run P w=.ok z w:=fun w=>by simp [zeroValue,typeInfo,hinf,hz]
 have hzc:z.cells.size=T.size:=hzs
 have hcl:=fun ty d4=>wz (P:=P) (w:=w.drew.setRow g C1.toArray) hS hzr ty (b:=g) (o:=(i+(xs.length - j)) * T.size) (n:=j - i) (c:=d4) (cur:=C1.toArray) (ct:=E) (by omega) hg1 (fun u hu=>by
  rw [et z.cells (by omega)] at hu;obtain ⟨y,hy,hu⟩:=List.mem_flatten.1 hu;rw [List.eq_of_mem_replicate hy] at hu
  exact hz1 inf z hinf hz u hu) (by
   have e1:C1.toArray.size=cap * T.size:=by simpa using hC1l
   have e2:(j - i) * z.cells.size=j * T.size - i * T.size:=by rw [hzc,hcz]
   rw [e1,e2,hoz];omega)
 refine (walk w _ _ g xs.length cap i j hij' hj' h1 hcap hap hcl).mono ?_;rintro e w' ⟨rfl,rfl⟩;have hg2:=(bY (w.drew.setRow g C1.toArray) g ((C1.take ((i+(xs.length - j)) * T.size)++(madeCells z.cells ((j - i) * z.cells.size)).toList++C1.drop ((i+(xs.length - j)) * T.size+(j - i) * z.cells.size)).toArray) hg1).1;simp only
 have hml:(madeCells z.cells ((j - i) * z.cells.size)).toList.length=j * T.size - i * T.size:=by
  rw [Array.length_toList,size_madeCells,hzc,hcz]
 have done:∀ (W:World),w.grownBy W (some g)->W.ownsRow 0 E T.size (.slice (some ⟨g,0,none⟩) (i+(xs.length - j)) cap) (i+(xs.length - j)) (l.take (i * T.size)++l.drop (j * T.size)) ->
   ∃ (v':Value) (l':List Value),Ending.returned (.slice (some ⟨g,0,none⟩) (i+(xs.length - j)) cap)=.returned (if (f9 E T).out then v' else .tuple #[])/\((f9 E T).out=false->v'=.slice (some ⟨g,0,none⟩) xs.length cap)/\w.grownBy W (Value.slice (some ⟨g,0,none⟩) xs.length cap).ownBlock /\
   W.ownsRow 0 (f9 E T).e (f9 E T).T.size v' ((f9 E T).F xs ys ((i:Int),(j:Int)):List T.den).length l'/\aK ((f9 E T).T.holds p) ((f9 E T).F xs ys ((i:Int),(j:Int))) l'/\((f9 E T).F xs ys ((i:Int),(j:Int)):List T.den).length * (f9 E T).T.bytes<=aJ /\
   ∀ b,v'.ownBlock=some b->(Value.slice (some ⟨g,0,none⟩) xs.length cap).ownBlock=some b\/w.heap.size<=b:=by
  intro W hg ho;rw [eF];refine ⟨_,l.take (i * T.size)++l.drop (j * T.size),rfl,fun h=>(by cases h),hg,?_,hrow,?_,fun b h=>.inl h⟩
  ·show W.ownsRow 0 E T.size _ (xs.take i++xs.drop j).length _;rw [hFl];exact ho
  ·show (xs.take i++xs.drop j).length * T.bytes<=aJ;rw [hFl];exact Nat.le_trans (Nat.mul_le_mul_right _ (by omega)) hbig
 refine done _ (((jY w _).trans (fI w.drew _ hgd)).trans (fI _ _ hg1)) ⟨?_,.inr ⟨g,cap,_,rfl,Nat.zero_le _,hg2,by omega,h2,?_,?_⟩⟩
 ·simp only [List.length_append,List.length_take,List.length_drop,hlen,hoz];omega
 ·rw [List.size_toArray,List.length_append,List.length_append,List.length_take,List.length_drop,hml,hC1l,hzc,hoz,hcz];omega
 ·rw [List.toList_toArray,List.append_assoc,List.take_append_of_le_length (by rw [List.length_take,hC1l,hoz]; omega),List.take_take,Nat.min_self,hC1,hoz];rw [List.take_append_of_le_length (by simp only [List.length_append,List.length_take,List.length_drop,hlen,hlc]; omega),List.take_of_length_le (by simp only [List.length_append,List.length_take,List.length_drop,hlen,hlc]; omega)];congr 1;rw [<- h4,List.take_take,Nat.min_eq_left hiz]
end
section
open Go
set_option maxRecDepth 100000
set_option maxHeartbeats 1000000
def GV:Spec:={ Ts:=[ty_I],Rs:=[.dat .bool],pre:=fun _=>True,F:=fun _=>false }
def wW:Prop :=
  ∀ (x:Int),am .i64 x->True->decide (x≠x)=false/\True
theorem Dq:wW:=by
 unfold wW;intro x _ _;simp
theorem Ht:GV.ok Tryz.prog 235:=aD (ann:=co) ap Tryz.func235 (by kernel_rfl) Dq
def HF (l:List Int) (x:Int):Int:=((l.filter fun y=>decide (y<x)).length:Int)
theorem Mw {l:List Int} {x:Int} {lo:Nat} (hlo:lo<=l.length) (h1:∀ j:Nat,j<lo->l.getD j 0<x) (h2:∀ j:Nat,lo<=j->j<l.length->x<=l.getD j 0):HF l x=lo:=by
 unfold HF
 have e:l.filter (fun y=>decide (y<x))=l.take lo:=by
  have e1:l=l.take lo++l.drop lo:=(List.take_append_drop lo l).symm
  have e2:(l.take lo).filter (fun y=>decide (y<x))=l.take lo:=by
   rw [List.filter_eq_self];intro y hy;obtain ⟨j,hj,rfl⟩:=List.mem_iff_getElem.1 hy;have hj2:j<lo/\j<l.length:=by simp at hj; omega
   have:=h1 j hj2.1;rw [List.getD_eq_getElem?_getD,List.getElem?_eq_getElem hj2.2] at this;simpa using this
  have e3:(l.drop lo).filter (fun y=>decide (y<x))=[]:=by
   rw [List.filter_eq_nil_iff];intro y hy;obtain ⟨j,hj,rfl⟩:=List.mem_iff_getElem.1 hy;have hj2:lo+j<l.length:=by simp at hj; omega
   have:=h2 (lo+j) (by omega) hj2;rw [List.getD_eq_getElem?_getD,List.getElem?_eq_getElem hj2] at this;simp at this ⊢;omega
  conv=>lhs; rw [e1]
  rw [List.filter_append,e2,e3,List.append_nil]
 rw [e,List.length_take,Nat.min_eq_left hlo]
theorem Mx {l:List Int} {x:Int} {lo:Nat} (hs:l.Pairwise (·<=·)) (h1:∀ j:Nat,j<lo->l.getD j 0<x) (h2:∀ j:Nat,lo<=j->j<l.length->x<=l.getD j 0):fv l x=(decide (lo<l.length)&&decide (l.getD lo 0=x)):=by
 by_cases h:lo<l.length/\l.getD lo 0=x
 ·rw [decide_eq_true h.1,decide_eq_true h.2];refine cu.2 ?_;rw [<- h.2,List.getD_eq_getElem?_getD,List.getElem?_eq_getElem h.1];simp
 ·have e:(decide (lo<l.length)&&decide (l.getD lo 0=x))=false:=by
   by_cases h3:lo<l.length
   ·by_cases h4:l.getD lo 0=x
    ·exact absurd ⟨h3,h4⟩ h
    ·rw [decide_eq_false h4,Bool.and_false]
   ·rw [decide_eq_false h3,Bool.false_and]
  rw [e];cases hx:fv l x
  ·rfl
  ·exfalso;obtain ⟨j,hj,e2⟩:=List.mem_iff_getElem.1 (cu.1 hx);have ej:l.getD j 0=x:=by rw [List.getD_eq_getElem?_getD,List.getElem?_eq_getElem hj]; simpa using e2
   rcases Nat.lt_or_ge j lo with hlt | hge
   ·have:=h1 j hlt; omega
   ·have hlo:lo<l.length:=by omega
    have h5:=h2 lo (Nat.le_refl _) hlo
    have h6:l.getD lo 0<=l.getD j 0:=by
     rcases Nat.lt_or_ge lo j with h7 | h7
     ·have:=List.pairwise_iff_getElem.1 hs lo j hlo hj h7;rw [List.getD_eq_getElem?_getD,List.getElem?_eq_getElem hlo,List.getD_eq_getElem?_getD,List.getElem?_eq_getElem hj];simpa using this
     ·have:j=lo:=by omega
      subst this;exact Int.le_refl _
    exact h ⟨hlo,by omega⟩
theorem qT {l:List Int} (hs:l.Pairwise (·<=·)) {i j:Nat} (h:i<=j) (hj:j<l.length):l.getD i 0<=l.getD j 0:=by
 rcases Nat.lt_or_ge i j with h7 | h7
 ·have:=List.pairwise_iff_getElem.1 hs i j (by omega) hj h7;rw [List.getD_eq_getElem?_getD,List.getElem?_eq_getElem (show i<l.length by omega),List.getD_eq_getElem?_getD,List.getElem?_eq_getElem hj];simpa using this
 ·have:j=i:=by omega
  subst this;exact Int.le_refl _
end
section
open Go
abbrev fm:Ty:=.pair ty_I ty_I
abbrev bo:=Int×Int
def lD (x:bo):Bool:=decide (x.1<0)||decide (255<x.1)||decide (x.2<1)||decide (1000000<x.2)
def cM:Int->List bo->Int
 | _,[]=>0
 | q,x::l=>if lD x=true then 4 else if x.1<=q then 3 else cM x.1 l
def bL (p:List bo):Int:=if 16<p.length then 2 else cM (-1) p
def ahead (p:List bo) (i:Int):Int:=if 0<i then (p.getD (i - 1).toNat (0,0)).1 else -1
theorem tS:∀ {p:List bo} {q:Int},cM q p=0->p.Pairwise (fun x y=>x.1<y.1)/\(∀ x∈p,q<x.1/\0<=x.1/\x.1<=255/\1<=x.2/\x.2<=1000000)
 | [],_,_=>⟨List.Pairwise.nil,fun _ h=>by cases h⟩
 | x::l,q,h=>by
  unfold cM at h;split at h
  ·omega
  ·rename_i hb;split at h
   ·omega
   ·rename_i hq;obtain ⟨h1,h2⟩:=tS h;have hb:lD x=false:=by simpa using hb
    simp only [lD,Bool.or_eq_false_iff,decide_eq_false_iff_not] at hb;refine ⟨List.pairwise_cons.2 ⟨fun y hy=>(h2 y hy).1,h1⟩,fun y hy=>?_⟩;rcases List.mem_cons.1 hy with rfl | hy
    ·omega
    ·have:=h2 y hy; omega
theorem oV {p:List bo} (h:bL p=0):p.length<=16/\p.Pairwise (fun x y=>x.1<y.1)/\∀ x∈p,0<=x.1/\x.1<=255/\1<=x.2/\x.2<=1000000:=by
 unfold bL at h;split at h
 ·omega
 ·obtain ⟨h1,h2⟩:=tS h;exact ⟨by omega,h1,fun x hx=>(h2 x hx).2⟩
theorem t6:∀ {m:List bo} {k v:Int},bt m k=some v->(k,v)∈m
 | [],_,_,h=>by cases h
 | x::m,k,v,h=>by
  unfold bt at h;split at h
  ·rename_i hx;injection h with h
   subst h hx;simp
  ·exact List.mem_cons_of_mem _ (t6 h)
theorem B8:∀ {m:List bo} {x:bo},m.Pairwise (fun x y=>x.1<y.1)->x∈m->bt m x.1=some x.2
 | [],_,_,h=>by cases h
 | y::m,x,hp,h=>by
  obtain ⟨h1,h2⟩:=List.pairwise_cons.1 hp;unfold bt;rcases List.mem_cons.1 h with rfl | h
  ·rw [if_pos rfl]
  ·have:=h1 x h;rw [if_neg (by omega)];exact B8 h2 h
def fj (m:List bo) (k:Int):Int:=(bt m k).getD 0
def kj (p:List bo) (k:Int):Int:=HF (p.map Prod.fst) k
def nO (p:List bo) (k:Int):Bool:=fv (p.map Prod.fst) k
theorem Ce {p:List bo} (hp:p.Pairwise (fun x y=>x.1<y.1)) {k:Int}:nO p k=(bt p k).isSome:=by
 apply Bool.eq_iff_iff.2;unfold nO;rw [cu,List.mem_map];constructor
 ·rintro ⟨x,hx,rfl⟩;rw [B8 hp hx];rfl
 ·intro h;obtain ⟨v,hv⟩:=Option.isSome_iff_exists.1 h;exact ⟨_,t6 hv,rfl⟩
theorem JU (p:List bo) (i:Nat):(p.map Prod.fst).getD i 0=(p.getD i (0,0)).1:=by
 rw [List.getD_eq_getElem?_getD,List.getD_eq_getElem?_getD,List.getElem?_map];cases p[i]? <;> rfl
theorem HE {p:List bo} (hp:p.Pairwise (fun x y=>x.1<y.1)) (k:Int):∃ A B:List bo,(∀ x∈A,x.1<k)/\(∀ x∈B,k<x.1)/\kj p k=A.length /\
  ((bt p k=none/\p=A++B)\/∃ v,bt p k=some v/\p=A++(k,v)::B):=by
 induction p with
 | nil=>exact ⟨[],[],(fun _ h=>by cases h),(fun _ h=>by cases h),rfl,.inl ⟨rfl,rfl⟩⟩
 | cons y p ih =>
  obtain ⟨h1,h2⟩:=List.pairwise_cons.1 hp
  have e:kj (y::p) k=(if y.1<k then 1 else 0)+kj p k:=by
   unfold kj HF;rw [List.map_cons,List.filter_cons];by_cases hy:y.1<k
   ·rw [if_pos (decide_eq_true hy),if_pos hy,List.length_cons];omega
   ·rw [if_neg (by simpa using hy),if_neg hy];omega
  have e0:k<=y.1->kj p k=0:=fun hk=>by
   unfold kj HF
   have:(p.map Prod.fst).filter (fun z=>decide (z<k))=[]:=by
    rw [List.filter_eq_nil_iff];intro z hz;obtain ⟨x,hx,rfl⟩:=List.mem_map.1 hz;have:=h1 x hx;simp;omega
   rw [this];rfl
  rcases Int.lt_trichotomy y.1 k with hy | hy | hy
  ·obtain ⟨A,B,a1,a2,a3,a4⟩:=ih h2;refine ⟨y::A,B,fun x hx=>?_,a2,?_,?_⟩
   ·rcases List.mem_cons.1 hx with rfl | hx
    ·exact hy
    ·exact a1 x hx
   ·rw [e,if_pos hy,a3,List.length_cons];omega
   ·unfold bt;rw [if_neg (by omega)];rcases a4 with ⟨b1,b2⟩ | ⟨v,b1,b2⟩
    ·exact .inl ⟨b1,by rw [b2]; rfl⟩
    ·exact .inr ⟨v,b1,by rw [b2]; rfl⟩
  ·refine ⟨[],p,(fun x hx=>by cases hx),(fun x hx=>by have:=h1 x hx; omega),?_,.inr ⟨y.2,?_,?_⟩⟩
   ·rw [e,if_neg (by omega),e0 (by omega)];rfl
   ·unfold bt;rw [if_pos hy]
   ·rw [<- hy];rfl
  ·refine ⟨[],y::p,(fun x hx=>by cases hx),fun x hx=>?_,?_,.inl ⟨?_,rfl⟩⟩
   ·rcases List.mem_cons.1 hx with rfl | hx
    ·exact hy
    ·have:=h1 x hx; omega
   ·rw [e,if_neg (by omega),e0 (by omega)];rfl
   ·cases h:bt (y::p) k with
    | none=>rfl
    | some v =>
     have:=t6 h;rcases List.mem_cons.1 this with h3 | h3
     ·rw [<- h3] at hy; simp at hy
     ·have:=h1 _ h3; simp at this; omega
end
section
open Go Go.RowKit Go.Lib
set_option maxHeartbeats 4000000 in
set_option maxRecDepth 100000 in
theorem yz:C4 Tryz.prog 203 32 2:=by
 intro w W1 W2 g n c i vb m vc tA tB kA kB hi hm hroom hc63 hvb hsa hsb hkB hfa hfe hcp1 hcp2
 have hov:∀ o lb cb,(callFunc 248 #[.slice (some ⟨vb,0,none⟩) m vc,.slice (some ⟨g,o,none⟩) lb cb]).run Tryz.prog w=.ok (.value (.bool false)) w:=fun o lb cb=>by
  rw [run_callFunc_extern Tryz.func248 (by kernel_rfl) (by kernel_rfl) (by kernel_rfl) (e:=Extern.SlicesOverlaps.overlaps #[32,32] #[4]) (by kernel_rfl),
   Lib.run_overlaps_apart w 32 4 157 (by kernel_rfl) 2 (fun _=>by kernel_rfl) ⟨vb,0,none⟩ ⟨g,o,none⟩ m vc lb cb hvb tA tB kA kB hsa hsb hkB hfa hfe]
  rfl
 have hz1:¬ ((m:Int)=0):=by omega
 have hz2:¬ ((i:Int)=(n:Int)):=by omega
 have mixed:Tryz.prog.follows .mixedOrders=true:=by kernel_rfl
 have hw1:IntKind.i64.wrap ((i:Int)+(m:Int))=(i:Int)+(m:Int):=by rw [IntKind.wrap_i64]; omega
 have hb1:(0:Int)<=(i:Int)+(m:Int):=by omega
 have hin:i<=n:=by omega
 have htn:((i:Int)+(m:Int)).toNat=i+m:=by omega
 have hb2:¬ (c=i+m):=by omega
 have hb3:(i:Int)<=(n:Int)+(m:Int):=by omega
 have hb4:¬ (c=i):=by omega
 go_enter Tryz.func203,Tryz.ntmps203
 go_wp2_with (simp only [hov])
 go_region_law_o (refine step_copy_runI rfl _ _ 32 32 rfl (.slice (some ⟨g,(i+m) * 2,none⟩) (n+m - (i+m)) (c - (i+m))) (.slice (some ⟨g,i * 2,none⟩) (n+m - i) (c - i)) (by simp [Act.eval,Act.put]) (by simp [Act.eval,Act.put]) (hcp1 _ _ _ _ _ (by omega) rfl) ?_)
 go_wp2_with (at_builtin; refine wpList_copy_runI _ rfl _ _ 32 32 rfl _ _ rfl rfl (hcp2 _ _ _ (by omega)) ?_)
 go_ret
 exact ⟨rfl,rfl⟩
set_option maxHeartbeats 4000000 in
set_option maxRecDepth 100000 in
theorem Cf:F8 Tryz.prog 203 32 3 2:=by
 intro w W0 W1 W2 g N n c i vb m vc G hi hm hn hroom hG h63 hG63 hrz hcp1 hcp2;have hz1:¬ ((m:Int)=0):=by omega
 have hz2:¬ ((i:Int)=(n:Int)):=by omega
 have hz3:(c:Int)<(n:Int)+(m:Int):=by omega
 have mixed:Tryz.prog.follows .mixedOrders=true:=by kernel_rfl
 have hGi:¬ (G=i):=by omega
 have hGim:¬ (G=i+m):=by omega
 have hci:¬ (c=i):=by omega
 have hw1:IntKind.i64.wrap ((i:Int)+(m:Int))=(i:Int)+(m:Int):=by rw [IntKind.wrap_i64]; omega
 have hb1:(0:Int)<=(i:Int)+(m:Int):=by omega
 have hin:i<=n:=by omega
 have htn:((i:Int)+(m:Int)).toNat=i+m:=by omega
 have hb3:(i:Int)<=(n:Int):=by omega
 go_enter Tryz.func203,Tryz.ntmps203
 go_wp2_with (first
  | (at_builtin; refine Lib.wpList_append_run _ rfl _ _ _ _ rfl _ _ rfl rfl _ _ (hrz _) ?_)
  | (at_builtin; refine wpList_copy_runI _ rfl _ _ 32 32 rfl _ _ rfl rfl (hcp1 _ _ _ rfl) ?_))
 go_region_law_o (refine step_copy_runI rfl _ _ 32 32 rfl (.slice (some ⟨N,(i+m) * 2,none⟩) (n+m - (i+m)) (G - (i+m))) (.slice (some ⟨g,i * 2,none⟩) (n - i) (c - i)) (by simp [Act.eval,Act.put]) (by simp [Act.eval,Act.put]) (hcp2 _ _ _ _ _ (by omega) rfl) ?_)
 go_wp2
 go_ret
 exact ⟨rfl,rfl⟩
set_option maxHeartbeats 4000000 in
set_option maxRecDepth 100000 in
theorem EN:KD Tryz.prog 203 32:=by
 intro w W A n c vb m vc v' hm hnc hnil hsome hr;have mixed:Tryz.prog.follows .mixedOrders=true:=by kernel_rfl
 have hz1:¬ ((m:Int)=0):=by omega
 cases A with
 | none =>
  obtain ⟨rfl,rfl⟩:=hnil rfl
  go_enter Tryz.func203,Tryz.ntmps203
  go_wp2_with (at_builtin; refine Lib.wpList_append_run _ rfl _ _ _ _ rfl _ _ rfl rfl _ _ hr ?_)
  go_ret
  exact ⟨rfl,rfl⟩
 | some ad =>
  obtain ⟨ab,ao,asp⟩:=ad;obtain ⟨e1,e2⟩:=hsome _ rfl;simp only at e1 e2;subst e1 e2
  go_enter Tryz.func203,Tryz.ntmps203
  go_wp2_with (at_builtin; refine Lib.wpList_append_run _ rfl _ _ _ _ rfl _ _ rfl rfl _ _ hr ?_)
  all_goals (go_ret; exact ⟨rfl,rfl⟩)
def GW:RowFn:=fZ 157 fm
theorem Hu:GW.ok Tryz.prog 203:=Ln (P:=Tryz.prog) (S:=32) (E:=157) (I:=3) (by kernel_rfl) (by kernel_rfl) (by kernel_rfl) yz Cf EN
set_option maxHeartbeats 4000000 in
set_option maxRecDepth 100000 in
theorem zZ:Ga Tryz.prog 204 32 2:=by
 intro w W1 W2 g n c i j hij hj hn hc63 hap hcl;have mixed:Tryz.prog.follows .mixedOrders=true:=by kernel_rfl
 have hz1:¬ ((i:Int)=(j:Int)):=by omega
 have hb1:i<=j:=by omega
 have hb2:j<=c:=by omega
 have hb3:i<=c:=by omega
 have hb4:i<=n:=by omega
 have hb5:¬ (c=i+(n - j)):=by omega
 have hb6:i+(n - j)<=n:=by omega
 have e1:n - (i+(n - j))=j - i:=by omega
 have hcl':=fun ty d4=>hcl ty d4
 simp only [<- e1] at hcl';by_cases hcj:c=j
 ·subst hcj;have hnj:n=c:=by omega
  subst hnj;simp only [Nat.sub_self,Nat.add_zero] at hcl' ⊢
  go_enter Tryz.func204,Tryz.ntmps204
  go_wp2
  go_region_law_o (refine lH rfl _ _ 32 32 rfl (.slice (some ⟨g,0,none⟩) i n) (.slice (some ⟨g,0,none⟩) (n - n) (n - n)) (by simp [Act.eval,Act.put]) (by simp [Act.eval,Act.put]) (hap _ _ _ (.inl trivial)) ?_)
  go_wp2_with (at_builtin; refine ky _ rfl _ _ rfl _ rfl _ _ (hcl' _ _) ?_)
  go_ret
  exact ⟨rfl,rfl⟩
 ·go_enter Tryz.func204,Tryz.ntmps204
  go_wp2
  go_region_law_o (refine lH rfl _ _ 32 32 rfl (.slice (some ⟨g,0,none⟩) i c) (.slice (some ⟨g,j * 2,none⟩) (n - j) (c - j)) (by simp [Act.eval,Act.put]) (by simp [Act.eval,Act.put]) (hap _ _ _ (.inr rfl)) ?_)
  go_wp2_with (at_builtin; refine ky _ rfl _ _ rfl _ rfl _ _ (hcl' _ _) ?_)
  go_ret
  exact ⟨rfl,rfl⟩
def G1:RowFn:=f9 157 fm
theorem Hy:G1.ok Tryz.prog 204:=LF (P:=Tryz.prog) (S:=32) (E:=157) (by kernel_rfl) (by kernel_rfl) (fun i z hi hz u hu=>Jl (by kernel_rfl) hi hz u hu) zZ
end
section
open Go
set_option maxRecDepth 100000
set_option maxHeartbeats 1000000
theorem E8 {p:List bo} {i:Int} (h0:0<=i) (h:i<p.length):cM (ahead p i) (p.drop i.toNat)=if lD (p.getD i.toNat (0,0))=true then 4 else if (p.getD i.toNat (0,0)).1<=ahead p i then 3 else cM (ahead p (i+1)) (p.drop (i+1).toNat):=by
 rw [bh ((0,0):bo) h0 h]
 have e:ahead p (i+1)=(p.getD i.toNat (0,0)).1:=by
  unfold ahead;rw [if_pos (by omega),show (i+1 - 1)=i by omega]
 rw [e];rfl
def AK:Spec:={ Ts:=[ty_I],Rs:=[.dat .bool],pre:=fun _=>True,F:=fun (v:Int)=>decide (0<=v)&&decide (v<256) }
def rg:Prop :=
  ∀ (x:Int),am .i64 x->True->(decide (0<=x)&&decide (x<256))=(decide (0<=x)&&decide (x<256))/\True
theorem xP:rg:=by
 unfold rg;intro v _ _;simp
theorem rH:AK.ok Tryz.prog 210:=aD (ann:=co) ap Tryz.func210 (by kernel_rfl) xP
def CV:Nat->Option LoopGen
 | 4=>some { rd:=[.dat 8 (.arr fm)],A:=fun (p:List bo)=>{ cs:=[.dat 10 ty_I],inv:=fun (i:Int)=>0<=i/\i<=p.length/\cM (ahead p i) (p.drop i.toNat)=cM (-1) p,mu:=fun (i:Int)=>(p.length - i).toNat } }
 | _=>none
def AL:Spec:={ Ts:=[.arr fm],Rs:=[.dat ty_I],pre:=fun _=>True,F:=fun (p:List bo)=>bL p }
def rh:Prop :=
  ∀ (x:List (Int×Int)),(x.length * (8+8)<=aJ/\∀ (x_1:Int×Int),x_1∈x->am .i64 x_1.1/\am .i64 x_1.2)->True->(decide (16<(x.length:Int))=true->2=bL x/\True)/\(decide (16<(x.length:Int))=false->((0:Int)<=0/\0<=(x.length:Int)/\cM (ahead x 0) (List.drop (Int.toNat 0) x)=cM (-1) x)/\∀ (x_1:Int),0<=x_1/\x_1<=(x.length:Int)/\cM (ahead x x_1) (List.drop x_1.toNat x)=cM (-1) x->(decide (x_1<(x.length:Int))=true->0<=x_1/\x_1<(x.length:Int)/\True/\((!(decide (0<=(x.getD x_1.toNat (0,0)).1)&&decide ((x.getD x_1.toNat (0,0)).1<256))||decide ((x.getD x_1.toNat (0,0)).2<1)||decide (1000000<(x.getD x_1.toNat (0,0)).2))=true->4=bL x/\True)/\((!(decide (0<=(x.getD x_1.toNat (0,0)).1)&&decide ((x.getD x_1.toNat (0,0)).1<256))||decide ((x.getD x_1.toNat (0,0)).2<1)||decide (1000000<(x.getD x_1.toNat (0,0)).2))=false->(decide (0<x_1)=true->am .i64 (x_1 - 1))/\(decide (0<x_1)=true->0<=x_1 - 1)/\(decide (0<x_1)=true->x_1 - 1<(x.length:Int))/\((decide (0<x_1)&&decide ((x.getD x_1.toNat (0,0)).1<=(x.getD (x_1 - 1).toNat (0,0)).1))=true->3=bL x/\True)/\((decide (0<x_1)&&decide ((x.getD x_1.toNat (0,0)).1<=(x.getD (x_1 - 1).toNat (0,0)).1))=false->am .i64 (x_1+1)/\(0<=x_1+1/\x_1+1<=(x.length:Int)/\cM (ahead x (x_1+1)) (List.drop (x_1+1).toNat x)=cM (-1) x)/\((x.length:Int) - (x_1+1)).toNat<((x.length:Int) - x_1).toNat)))/\(decide (x_1<(x.length:Int))=false->0=bL x/\True))
theorem xQ:rh:=by
 unfold rh;intro p ⟨hb,_⟩ _;unfold aJ at hb;have hF:bL p=if 16<p.length then 2 else cM (-1) p:=rfl
 refine ⟨fun h=>?_,fun h=>?_⟩
 ·rw [hF,if_pos (by have:=of_decide_eq_true h; omega)];exact ⟨rfl,trivial⟩
 have hl:¬ 16<p.length:=by have:=of_decide_eq_false h; omega
 rw [hF,if_neg hl];refine ⟨⟨by omega,by omega,rfl⟩,fun i ⟨i0,i1,i2⟩=>⟨fun hlt=>?_,fun hge=>?_⟩⟩
 ·have hlt:=of_decide_eq_true hlt;rw [E8 i0 hlt] at i2;have hp:0<i->ahead p i=(p.getD (i - 1).toNat (0,0)).1:=fun h=>if_pos h
  have hn:¬ 0<i->ahead p i=-1:=fun h=>if_neg h
  generalize p.getD i.toNat (0,0)=x at *;generalize p.getD (i - 1).toNat (0,0)=y at *;generalize ahead p i=q at *
  have hbad:(!(decide (0<=x.1)&&decide (x.1<256))||decide (x.2<1)||decide (1000000<x.2))=lD x:=by
   unfold lD
   grind
  rw [hbad];refine ⟨i0,hlt,trivial,fun hc=>?_,fun hc=>⟨fun _=>by simp only [am]; omega,fun h=>by have:=of_decide_eq_true h; omega,fun _=>by omega,fun h2=>?_,fun h2=>⟨by simp only [am]; omega,⟨by omega,by omega,?_⟩,by omega⟩⟩⟩
  ·rw [if_pos hc] at i2;exact ⟨i2,trivial⟩
  ·rw [if_neg (by rw [hc]; simp)] at i2;simp only [Bool.and_eq_true,decide_eq_true_eq] at h2;rw [if_pos (by rw [hp h2.1]; exact h2.2)] at i2;exact ⟨i2,trivial⟩
  ·rw [if_neg (by rw [hc]; simp)] at i2
   have hx:0<=x.1:=by
    simp only [lD,Bool.or_eq_false_iff,decide_eq_false_iff_not] at hc;omega
   rw [if_neg] at i2
   ·exact i2
   ·intro h3;by_cases h4:0<i
    ·rw [hp h4] at h3;have:(decide (0<i)&&decide (x.1<=y.1))=true:=by simp [h4,h3]
     rw [this] at h2;cases h2
    ·rw [hn h4] at h3;omega
 ·rw [b7 (of_decide_eq_false hge)] at i2;exact ⟨i2,trivial⟩
theorem rI:AL.ok Tryz.prog 150:=aD (ann:=CV) (ae rH ap) Tryz.func150 (by kernel_rfl) xQ
def kw (x y:Int):Int:=if x<y then -1 else if y<x then 1 else 0
def K0:Spec:={ Ts:=[ty_I,ty_I],Rs:=[.dat ty_I],pre:=fun _=>True,F:=fun ((x,y):Int×Int)=>kw x y }
def Fz:Prop :=
  ∀ (x:Int×Int),am .i64 x.1/\am .i64 x.2->True->True/\True/\(false=true->(false=true->0=kw x.1 x.2/\True)/\(false=false->(-1)=kw x.1 x.2/\True))/\(false=false->(false=true->1=kw x.1 x.2/\True)/\(false=false->(decide (x.1<x.2)=true->(-1)=kw x.1 x.2/\True)/\(decide (x.1<x.2)=false->(decide (x.2<x.1)=true->1=kw x.1 x.2/\True)/\(decide (x.2<x.1)=false->0=kw x.1 x.2/\True))))
theorem Ix:Fz:=by
 unfold Fz;intro ⟨x,y⟩ _ _;simp only [kw]
 grind
theorem Lh:K0.ok Tryz.prog 247:=aD (ann:=co) (ae Ht ap) Tryz.func247 (by kernel_rfl) Ix
def I1:Spec:={ Ts:=[fm,ty_I],Rs:=[.dat ty_I],pre:=fun _=>True,F:=fun ((x,y):bo×Int)=>kw x.1 y }
def BE:Prop :=
  ∀ (x:(Int×Int)×Int),(am .i64 x.1.1/\am .i64 x.1.2)/\am .i64 x.2->True->True/\kw x.1.1 x.2=kw x.1.1 x.2/\True
theorem Gs:BE:=by
 unfold BE;intro ⟨x,y⟩ _ _;exact ⟨trivial,rfl,trivial⟩
theorem Jz:I1.ok Tryz.prog 246:=aD (ann:=co) (ae Lh ap) Tryz.func246 (by kernel_rfl) Gs
theorem LI (x y:Int):decide (kw x y<0)=decide (x<y):=by
 unfold kw
 grind
theorem LJ (x y:Int):decide (kw x y=0)=decide (x=y):=by
 unfold kw
 grind
def aE (p:List bo) (k:Int):Int×Bool×Int:=if bL p≠0 then (0,false,bL p) else if (decide (0<=k)&&decide (k<256))=false then (0,false,4) else (kj p k,nO p k,0)
def LR:Nat->Option LoopGen
 | 3000245=>some eE
 | 24600000003=>some { rd:=[.dat 0 (.arr fm),.dat 1 ty_I],A:=fun ((p,x):List bo×Int)=>{ cs:=[.dat 9 ty_I,.dat 10 ty_I],inv:=fun ((lo,hi):Int×Int)=>0<=lo/\lo<=hi/\hi<=p.length/\(∀ j:Nat,(j:Int)<lo->(p.map Prod.fst).getD j 0<x)/\(∀ j:Nat,hi<=j->j<p.length->x<=(p.map Prod.fst).getD j 0),mu:=fun ((lo,hi):Int×Int)=>(hi - lo).toNat } }
 | _=>none
def KY:Spec:={ Ts:=[.arr fm,ty_I],Rs:=[.dat ty_I,.dat .bool,.dat ty_I],pre:=fun _=>True,F:=fun ((p,k):List bo×Int)=>aE p k }
def Fx:Prop :=
  ∀ (x:List (Int×Int)×Int),(fun (v2:type_of% (List.map Prod.fst x.1))=>(x.1.length * (8+8)<=aJ/\∀ (x_1:Int×Int),x_1∈x.1->am .i64 x_1.1/\am .i64 x_1.2)/\am .i64 x.2->True->True/\(decide (bL x.1=0)=true->True)/\((decide (bL x.1=0)&&!(decide (0<=x.2)&&decide (x.2<256)))=true->(decide ((4:Int)≠0)=true->0=(aE x.1 x.2).1/\false=(aE x.1 x.2).2.1/\4=(aE x.1 x.2).2.2/\True)/\(decide ((4:Int)≠0)=false->∀ (_:Array Value),((0:Int)<=0/\0<=(x.1.length:Int)/\(x.1.length:Int)<=(x.1.length:Int)/\(∀ (j:Nat),(↑j:Int)<0->v2.getD j 0<x.2)/\∀ (j:Nat),(x.1.length:Int)<=(↑j:Int)->j<x.1.length->x.2<=v2.getD j 0)/\∀ (x_1:Int×Int),(fun (v0:type_of% (IntKind.u64.wrap (x_1.1+x_1.2) / 2 ^ Int.toNat 1))=>(0<=x_1.1/\x_1.1<=x_1.2/\x_1.2<=(x.1.length:Int)/\(∀ (j:Nat),(↑j:Int)<x_1.1->v2.getD j 0<x.2)/\∀ (j:Nat),x_1.2<=(↑j:Int)->j<x.1.length->x.2<=v2.getD j 0)->(decide (x_1.1<x_1.2)=true->am .i64 (x_1.1+x_1.2)/\(0:Int)<=1/\1<(↑IntKind.u64.bits:Int)/\0<=IntKind.i64.wrap v0/\IntKind.i64.wrap v0<(x.1.length:Int)/\True/\(decide (kw (x.1.getD (IntKind.i64.wrap v0).toNat (0,0)).1 x.2<0)=true->am .i64 (IntKind.i64.wrap v0+1)/\(0<=IntKind.i64.wrap v0+1/\IntKind.i64.wrap v0+1<=x_1.2/\x_1.2<=(x.1.length:Int)/\(∀ (j:Nat),(↑j:Int)<IntKind.i64.wrap v0+1->v2.getD j 0<x.2)/\∀ (j:Nat),x_1.2<=(↑j:Int)->j<x.1.length->x.2<=v2.getD j 0)/\(x_1.2 - (IntKind.i64.wrap v0+1)).toNat<(x_1.2 - x_1.1).toNat)/\(decide (kw (x.1.getD (IntKind.i64.wrap v0).toNat (0,0)).1 x.2<0)=false->(0<=x_1.1/\x_1.1<=IntKind.i64.wrap v0/\IntKind.i64.wrap v0<=(x.1.length:Int)/\(∀ (j:Nat),(↑j:Int)<x_1.1->v2.getD j 0<x.2)/\∀ (j:Nat),IntKind.i64.wrap v0<=(↑j:Int)->j<x.1.length->x.2<=v2.getD j 0)/\(IntKind.i64.wrap v0 - x_1.1).toNat<(x_1.2 - x_1.1).toNat))/\(decide (x_1.1<x_1.2)=false->(decide (x_1.1<(x.1.length:Int))=true->0<=x_1.1)/\(decide (x_1.1<(x.1.length:Int))=true->x_1.1<(x.1.length:Int))/\(decide (x_1.1<(x.1.length:Int))=true->True)/\x_1.1=(aE x.1 x.2).1/\(decide (x_1.1<(x.1.length:Int))&&decide (kw (x.1.getD x_1.1.toNat (0,0)).1 x.2=0))=(aE x.1 x.2).2.1/\0=(aE x.1 x.2).2.2/\True)) (IntKind.u64.wrap (x_1.1+x_1.2) / 2 ^ Int.toNat 1)))/\((decide (bL x.1=0)&&!(decide (0<=x.2)&&decide (x.2<256)))=false->(decide (bL x.1≠0)=true->0=(aE x.1 x.2).1/\false=(aE x.1 x.2).2.1/\bL x.1=(aE x.1 x.2).2.2/\True)/\(decide (bL x.1≠0)=false->∀ (_:Array Value),((0:Int)<=0/\0<=(x.1.length:Int)/\(x.1.length:Int)<=(x.1.length:Int)/\(∀ (j:Nat),(↑j:Int)<0->v2.getD j 0<x.2)/\∀ (j:Nat),(x.1.length:Int)<=(↑j:Int)->j<x.1.length->x.2<=v2.getD j 0)/\∀ (x_1:Int×Int),(fun (v1:type_of% (IntKind.u64.wrap (x_1.1+x_1.2) / 2 ^ Int.toNat 1))=>(0<=x_1.1/\x_1.1<=x_1.2/\x_1.2<=(x.1.length:Int)/\(∀ (j:Nat),(↑j:Int)<x_1.1->v2.getD j 0<x.2)/\∀ (j:Nat),x_1.2<=(↑j:Int)->j<x.1.length->x.2<=v2.getD j 0)->(decide (x_1.1<x_1.2)=true->am .i64 (x_1.1+x_1.2)/\(0:Int)<=1/\1<(↑IntKind.u64.bits:Int)/\0<=IntKind.i64.wrap v1/\IntKind.i64.wrap v1<(x.1.length:Int)/\True/\(decide (kw (x.1.getD (IntKind.i64.wrap v1).toNat (0,0)).1 x.2<0)=true->am .i64 (IntKind.i64.wrap v1+1)/\(0<=IntKind.i64.wrap v1+1/\IntKind.i64.wrap v1+1<=x_1.2/\x_1.2<=(x.1.length:Int)/\(∀ (j:Nat),(↑j:Int)<IntKind.i64.wrap v1+1->v2.getD j 0<x.2)/\∀ (j:Nat),x_1.2<=(↑j:Int)->j<x.1.length->x.2<=v2.getD j 0)/\(x_1.2 - (IntKind.i64.wrap v1+1)).toNat<(x_1.2 - x_1.1).toNat)/\(decide (kw (x.1.getD (IntKind.i64.wrap v1).toNat (0,0)).1 x.2<0)=false->(0<=x_1.1/\x_1.1<=IntKind.i64.wrap v1/\IntKind.i64.wrap v1<=(x.1.length:Int)/\(∀ (j:Nat),(↑j:Int)<x_1.1->v2.getD j 0<x.2)/\∀ (j:Nat),IntKind.i64.wrap v1<=(↑j:Int)->j<x.1.length->x.2<=v2.getD j 0)/\(IntKind.i64.wrap v1 - x_1.1).toNat<(x_1.2 - x_1.1).toNat))/\(decide (x_1.1<x_1.2)=false->(decide (x_1.1<(x.1.length:Int))=true->0<=x_1.1)/\(decide (x_1.1<(x.1.length:Int))=true->x_1.1<(x.1.length:Int))/\(decide (x_1.1<(x.1.length:Int))=true->True)/\x_1.1=(aE x.1 x.2).1/\(decide (x_1.1<(x.1.length:Int))&&decide (kw (x.1.getD x_1.1.toNat (0,0)).1 x.2=0))=(aE x.1 x.2).2.1/\0=(aE x.1 x.2).2.2/\True)) (IntKind.u64.wrap (x_1.1+x_1.2) / 2 ^ Int.toNat 1)))) (List.map Prod.fst x.1)
theorem Iv:Fx:=by
 unfold Fx;intro ⟨p,k⟩ ⟨⟨hb,_⟩,hk⟩ _;unfold aJ at hb;simp only at hb hk ⊢;have hF:aE p k=if bL p≠0 then (0,false,bL p) else if (decide (0<=k)&&decide (k<256))=false then (0,false,4) else (kj p k,nO p k,0):=rfl
 rw [hF];refine ⟨trivial,fun _=>trivial,fun h=>⟨fun _=>?_,fun h4=>absurd h4 (by decide)⟩,fun h=>⟨fun h1=>?_,fun h1 tm=>?_⟩⟩
 ·simp only [Bool.and_eq_true,decide_eq_true_eq,Bool.not_eq_true'] at h;rw [if_neg (by omega),if_pos h.2];refine ⟨?_,?_,?_,trivial⟩ <;> first | trivial | rfl
 ·rw [if_pos (of_decide_eq_true h1)];refine ⟨?_,?_,?_,trivial⟩ <;> first | trivial | rfl
 have h0:bL p=0:=by simpa using of_decide_eq_false h1
 have hth:(decide (0<=k)&&decide (k<256))=true:=by
  rw [decide_eq_true h0,Bool.true_and,Bool.not_eq_false'] at h;exact h
 rw [if_neg (by omega),if_neg (by rw [hth]; simp)];obtain ⟨_,hp,_⟩:=oV h0;have hs:(p.map Prod.fst).Pairwise (·<=·):=List.pairwise_map.2 (hp.imp fun h=>Int.le_of_lt h);have hll:(p.map Prod.fst).length=p.length:=List.length_map _;simp only [LI,LJ,<- JU];obtain ⟨l,hl⟩:∃ l,l=p.map Prod.fst:=⟨_,rfl⟩;have hlo:kj p k=HF l k:=by rw [hl]; rfl
 have hha:nO p k=fv l k:=by rw [hl]; rfl
 rw [hlo,hha];rw [<- hl] at hs hll ⊢;rw [<- hll] at hb ⊢;refine ⟨⟨by omega,by omega,by omega,fun j hj=>by omega,fun j h2 h3=>by omega⟩,fun ⟨lo,hi⟩ ⟨q1,q2,q3,q4,q5⟩=>⟨fun hlt=>?_,fun hge=>?_⟩⟩
 ·simp only at q1 q2 q3 q4 q5 hlt ⊢;have hlt:=of_decide_eq_true hlt
  have hm:IntKind.i64.wrap (IntKind.u64.wrap (lo+hi) / 2 ^ Int.toNat 1)=(lo+hi) / 2:=by
   rw [fO (by omega) (by omega),show (2:Int) ^ Int.toNat 1=2 from rfl,m4 (by omega) (by omega)]
  simp only [hm];have hm1:lo<=(lo+hi) / 2/\(lo+hi) / 2<hi:=by omega
  generalize (lo+hi) / 2=m at *;simp only [am];refine ⟨by omega,by omega,by decide,by omega,by omega,trivial,fun hc=>⟨by omega,⟨by omega,by omega,by omega,fun j hj=>?_,q5⟩,by omega⟩,fun hc=>⟨⟨by omega,by omega,by omega,q4,fun j h1 h2=>?_⟩,by omega⟩⟩
  ·have hc:=of_decide_eq_true hc;have:=qT hs (i:=j) (j:=m.toNat) (by omega) (by omega);omega
  ·have hc:=of_decide_eq_false hc;have:=qT hs (i:=m.toNat) (j:=j) (by omega) (by omega);omega
 ·simp only at q1 q2 q3 q4 q5 hge ⊢;have hge:=of_decide_eq_false hge;have he:hi=lo:=by omega
  subst he;obtain ⟨n,rfl⟩:∃ n:Nat,hi=n:=⟨hi.toNat,by omega⟩;have h1:∀ j:Nat,j<n->l.getD j 0<k:=fun j hj=>q4 j (by omega)
  have h2:∀ j:Nat,n<=j->j<l.length->k<=l.getD j 0:=fun j h1 h2=>q5 j (by omega) h2
  rw [Mw (by omega) h1 h2,Mx hs h1 h2];refine ⟨fun _=>by omega,fun h=>of_decide_eq_true h,fun _=>trivial,by first | trivial | rfl,?_,by first | trivial | rfl,trivial⟩;simp
theorem FL:KY.ok Tryz.prog 202:=aD (ann:=LR) (ae rI (ae rH (ae Jz ap))) Tryz.func202 (by kernel_rfl) Iv
theorem uw {p:List bo} {k:Int} (h:(aE p k).2.2=0):bL p=0/\0<=k/\k<=255/\aE p k=(kj p k,nO p k,0):=by
 unfold aE at h ⊢;split at h
 ·rename_i h1; exact absurd h h1
 ·rename_i h1;split at h
  ·cases h
  ·rename_i h2;rw [if_neg h1,if_neg h2];have h2:(decide (0<=k)&&decide (k<256))=true:=by simpa using h2
   simp only [Bool.and_eq_true,decide_eq_true_eq] at h2;exact ⟨by omega,h2.1,by omega,rfl⟩
theorem lr {p:List bo} {k:Int} (h:(aE p k).2.2=0):∃ A B:List bo,aE p k=((A.length:Int),nO p k,0)/\kj p k=A.length/\p.length<=16/\(∀ x∈A,x.1<k)/\(∀ x∈B,k<x.1) /\
  ((nO p k=false/\fj p k=0/\p=A++B)\/(nO p k=true/\1<=fj p k/\fj p k<=1000000/\p=A++(k,fj p k)::B)):=by
 obtain ⟨h1,h2,h3,h4⟩:=uw h;obtain ⟨h5,h6,h7⟩:=oV h1;obtain ⟨A,B,a1,a2,a3,a4⟩:=HE h6 k;refine ⟨A,B,by rw [h4,a3],a3,h5,a1,a2,?_⟩;rcases a4 with ⟨b1,b2⟩ | ⟨v,b1,b2⟩
 ·refine .inl ⟨?_,?_,b2⟩
  ·rw [Ce h6,b1]; rfl
  ·unfold fj; rw [b1]; rfl
 ·have hm:fj p k=v:=by unfold fj; rw [b1]; rfl
  have hv:=h7 (k,v) (by rw [b2]; simp);refine .inr ⟨?_,?_,?_,by rw [hm]; exact b2⟩
  ·rw [Ce h6,b1]; rfl
  ·rw [hm]; exact hv.2.2.1
  ·rw [hm]; exact hv.2.2.2
theorem qr {A B:List bo} {x:bo}:(A++x::B).getD ((A.length:Int)).toNat (0,0)=x:=by simp
theorem tc {A B:List bo} {x:bo} (y:bo):(A++x::B).set ((A.length:Int)).toNat y=A++y::B:=by simp
theorem EA {A B:List bo} (x:bo):y8 (A++B) [x] (A.length:Int)=A++x::B:=by simp [y8]
theorem EU {A B:List bo} {x:bo}:CN (A++x::B) (A.length:Int) ((A.length:Int)+1)=A++B:=by
 unfold CN;rw [show ((A.length:Int)+1).toNat=A.length+1 by omega];simp
def yw:Spec:={ Ts:=[.arr fm],Rs:=[.own 157 fm],pre:=fun _=>True,F:=fun (x:List bo)=>x }
def oT:Prop :=
  ∀ (x:List (Int×Int)),(x.length * (8+8)<=aJ/\∀ (x_1:Int×Int),x_1∈x->am .i64 x_1.1/\am .i64 x_1.2)->True->(x=([]:List (Int×Int))->([]:List (Int×Int))=x/\True)/\(True->(0+x.length) * (8+8)<=aJ/\([]:List (Int×Int))++x=x/\True)
theorem vt:oT:=by
 unfold oT;intro x ⟨hb,_⟩ _;simp [hb]
theorem bZ:yw.ok Tryz.prog 152:=aD (ann:=co) ap Tryz.func152 (by kernel_rfl) vt
def gm (p:List bo) (k:Int):List bo×Int×Int :=
 if (aE p k).2.2≠0 then ([],0,(aE p k).2.2) else if fj p k=1000000\/(nO p k=false/\p.length=16) then ([],0,7)
 else ((if nO p k=true then p.set (kj p k).toNat (k,fj p k+1) else y8 p [(k,1)] (kj p k)),fj p k+1,0)
def Me:Spec:={ Ts:=[.arr fm,ty_I],Rs:=[.own 157 fm,.dat ty_I,.dat ty_I],pre:=fun _=>True,F:=fun ((p,k):List bo×Int)=>gm p k }
def Jd:Prop :=
  ∀ (x:List (Int×Int)×Int),(fun (v1:type_of% (x.1.getD (aE x.1 x.2).1.toNat (0,0)))=>(fun (v0:type_of% (y8 x.1 [(x.2,0)] (aE x.1 x.2).1))=>(x.1.length * (8+8)<=aJ/\∀ (x_1:Int×Int),x_1∈x.1->am .i64 x_1.1/\am .i64 x_1.2)/\am .i64 x.2->True->True/\(decide ((aE x.1 x.2).2.2≠0)=true->([]:List (Int×Int))=(gm x.1 x.2).1/\0=(gm x.1 x.2).2.1/\(aE x.1 x.2).2.2=(gm x.1 x.2).2.2/\True)/\(decide ((aE x.1 x.2).2.2≠0)=false->((aE x.1 x.2).2.1=true->0<=(aE x.1 x.2).1)/\((aE x.1 x.2).2.1=true->(aE x.1 x.2).1<(x.1.length:Int))/\(((aE x.1 x.2).2.1&&decide (v1.2=1000000)||!(aE x.1 x.2).2.1&&decide ((x.1.length:Int)=16))=true->([]:List (Int×Int))=(gm x.1 x.2).1/\0=(gm x.1 x.2).2.1/\7=(gm x.1 x.2).2.2/\True)/\(((aE x.1 x.2).2.1&&decide (v1.2=1000000)||!(aE x.1 x.2).2.1&&decide ((x.1.length:Int)=16))=false->True/\((!(aE x.1 x.2).2.1)=true->(0<[(x.2,0)].length/\0<=(aE x.1 x.2).1/\(aE x.1 x.2).1<=(x.1.length:Int)/\(x.1.length+[(x.2,0)].length) * (8+8)<=aJ)/\0<=(aE x.1 x.2).1/\(aE x.1 x.2).1<(v0.length:Int)/\(aE x.1 x.2).1.toNat<v0.length/\am .i64 ((v0.getD (aE x.1 x.2).1.toNat (0,0)).2+1)/\0<=(aE x.1 x.2).1/\(aE x.1 x.2).1<(v0.length:Int)/\(aE x.1 x.2).1.toNat<v0.length/\0<=(aE x.1 x.2).1/\(aE x.1 x.2).1<(↑(v0.set (aE x.1 x.2).1.toNat ((v0.getD (aE x.1 x.2).1.toNat (0,0)).1,(v0.getD (aE x.1 x.2).1.toNat (0,0)).2+1)).length:Int)/\(aE x.1 x.2).1.toNat<(v0.set (aE x.1 x.2).1.toNat ((v0.getD (aE x.1 x.2).1.toNat (0,0)).1,(v0.getD (aE x.1 x.2).1.toNat (0,0)).2+1)).length/\v0.set (aE x.1 x.2).1.toNat ((v0.getD (aE x.1 x.2).1.toNat (0,0)).1,(v0.getD (aE x.1 x.2).1.toNat (0,0)).2+1)=(gm x.1 x.2).1/\((v0.set (aE x.1 x.2).1.toNat ((v0.getD (aE x.1 x.2).1.toNat (0,0)).1,(v0.getD (aE x.1 x.2).1.toNat (0,0)).2+1)).getD (aE x.1 x.2).1.toNat (0,0)).2=(gm x.1 x.2).2.1/\0=(gm x.1 x.2).2.2/\True)/\((!(aE x.1 x.2).2.1)=false->0<=(aE x.1 x.2).1/\(aE x.1 x.2).1<(x.1.length:Int)/\(aE x.1 x.2).1.toNat<x.1.length/\am .i64 (v1.2+1)/\0<=(aE x.1 x.2).1/\(aE x.1 x.2).1<(x.1.length:Int)/\(aE x.1 x.2).1.toNat<x.1.length/\0<=(aE x.1 x.2).1/\(aE x.1 x.2).1<(↑(x.1.set (aE x.1 x.2).1.toNat (v1.1,v1.2+1)).length:Int)/\(aE x.1 x.2).1.toNat<(x.1.set (aE x.1 x.2).1.toNat (v1.1,v1.2+1)).length/\x.1.set (aE x.1 x.2).1.toNat (v1.1,v1.2+1)=(gm x.1 x.2).1/\((x.1.set (aE x.1 x.2).1.toNat (v1.1,v1.2+1)).getD (aE x.1 x.2).1.toNat (0,0)).2=(gm x.1 x.2).2.1/\0=(gm x.1 x.2).2.2/\True)))) (y8 x.1 [(x.2,0)] (aE x.1 x.2).1)) (x.1.getD (aE x.1 x.2).1.toNat (0,0))
theorem KI:Jd:=by
 unfold Jd;intro ⟨p,k⟩ ⟨⟨hb,_⟩,_⟩ _;unfold aJ at hb;simp only at hb ⊢
 have hF:gm p k=if (aE p k).2.2≠0 then ([],0,(aE p k).2.2) else if fj p k=1000000\/(nO p k=false/\p.length=16) then ([],0,7)
  else ((if nO p k=true then p.set (kj p k).toNat (k,fj p k+1) else y8 p [(k,1)] (kj p k)),fj p k+1,0):=rfl
 rw [hF];refine ⟨trivial,fun h=>?_,fun h=>?_⟩
 ·rw [if_pos (of_decide_eq_true h)];exact ⟨by first | trivial | rfl,by first | trivial | rfl,by first | trivial | rfl,trivial⟩
 have h0:(aE p k).2.2=0:=by simpa using of_decide_eq_false h
 rw [if_neg (by omega)];obtain ⟨A,B,e,e2,hl,_,_,h1⟩:=lr h0;rw [e,e2];simp only;rcases h1 with ⟨h1,h2,h3⟩ | ⟨h1,h2,h2',h3⟩
 ·rw [h1,h2];subst h3;refine ⟨(fun h=>by cases h),(fun h=>by cases h),fun h=>?_,fun h=>⟨trivial,fun _=>?_,(fun h=>by cases h)⟩⟩
  ·have h:(A++B).length=16:=by
    have:(((A++B).length:Nat):Int)=16:=by simpa using h
    omega
   rw [if_pos (.inr ⟨rfl,h⟩)];exact ⟨by first | trivial | rfl,by first | trivial | rfl,by first | trivial | rfl,trivial⟩
  ·have h:¬ (A++B).length=16:=by
    intro h4;simp only [Bool.not_false,Bool.true_and,Bool.false_and,Bool.false_or,decide_eq_false_iff_not] at h;exact h (by omega)
   have hno:¬ ((0:Int)=1000000\/(false=false/\(A++B).length=16)):=by
    rintro (h4 | h4)
    ·omega
    ·exact h h4.2
   rw [if_neg hno,if_neg (by simp),EA,EA,qr,tc,qr];simp only [am,List.length_append,List.length_cons,List.length_nil] at *;unfold aJ;refine ⟨⟨by omega,by omega,by omega,by omega⟩,by omega,by omega,by omega,by omega,by omega,by omega,by omega,by omega,by omega,by omega,?_,?_,trivial,trivial⟩ <;> first | trivial | rfl
 ·rw [h1];generalize fj p k=v at *;subst h3;rw [qr];refine ⟨fun _=>by omega,fun _=>by simp; omega,fun h=>?_,fun h=>⟨trivial,(fun h=>by cases h),fun _=>?_⟩⟩
  ·have h:v=1000000:=by simpa using h
   rw [if_pos (.inl h)];exact ⟨by first | trivial | rfl,by first | trivial | rfl,by first | trivial | rfl,trivial⟩
  ·have h:v≠1000000:=by simpa using h
   have hno:¬ (v=1000000\/(true=false/\(A++(k,v)::B).length=16)):=by
    rintro (h4 | h4)
    ·exact h h4
    ·exact absurd h4.1 (by simp)
   rw [if_neg hno,if_pos rfl,tc,qr];simp only [am,List.length_append,List.length_cons] at *;refine ⟨by omega,by omega,by omega,by omega,by omega,by omega,by omega,by omega,by omega,by omega,?_,?_,trivial,trivial⟩ <;> first | trivial | rfl
theorem Ms:Me.ok Tryz.prog 140:=aD (ann:=co) (ae FL (ae bZ (kZ Hu ap))) Tryz.func140 (by kernel_rfl) KI
def dC (p:List bo) (k:Int):List bo×Int×Int :=
 if (aE p k).2.2≠0 then ([],0,(aE p k).2.2) else if nO p k=false then ([],0,5)
 else ((if fj p k=1 then CN p (kj p k) (kj p k+1) else p.set (kj p k).toNat (k,fj p k - 1)),fj p k - 1,0)
def KZ:Spec:={ Ts:=[.arr fm,ty_I],Rs:=[.own 157 fm,.dat ty_I,.dat ty_I],pre:=fun _=>True,F:=fun ((p,k):List bo×Int)=>dC p k }
def Fy:Prop :=
  ∀ (x:List (Int×Int)×Int),(fun (v1:type_of% (x.1.getD (aE x.1 x.2).1.toNat (0,0)))=>(fun (v0:type_of% (x.1.set (aE x.1 x.2).1.toNat (v1.1,v1.2 - 1)))=>(x.1.length * (8+8)<=aJ/\∀ (x_1:Int×Int),x_1∈x.1->am .i64 x_1.1/\am .i64 x_1.2)/\am .i64 x.2->True->True/\(decide ((aE x.1 x.2).2.2≠0)=true->([]:List (Int×Int))=(dC x.1 x.2).1/\0=(dC x.1 x.2).2.1/\(aE x.1 x.2).2.2=(dC x.1 x.2).2.2/\True)/\(decide ((aE x.1 x.2).2.2≠0)=false->((!(aE x.1 x.2).2.1)=true->([]:List (Int×Int))=(dC x.1 x.2).1/\0=(dC x.1 x.2).2.1/\5=(dC x.1 x.2).2.2/\True)/\((!(aE x.1 x.2).2.1)=false->True/\0<=(aE x.1 x.2).1/\(aE x.1 x.2).1<(x.1.length:Int)/\(aE x.1 x.2).1.toNat<x.1.length/\am .i64 (v1.2 - 1)/\0<=(aE x.1 x.2).1/\(aE x.1 x.2).1<(x.1.length:Int)/\(aE x.1 x.2).1.toNat<x.1.length/\0<=(aE x.1 x.2).1/\(aE x.1 x.2).1<(v0.length:Int)/\(aE x.1 x.2).1.toNat<v0.length/\(decide ((v0.getD (aE x.1 x.2).1.toNat (0,0)).2=0)=true->am .i64 ((aE x.1 x.2).1+1)/\(0<=(aE x.1 x.2).1/\(aE x.1 x.2).1<(aE x.1 x.2).1+1/\(aE x.1 x.2).1+1<=(v0.length:Int))/\CN v0 (aE x.1 x.2).1 ((aE x.1 x.2).1+1)=(dC x.1 x.2).1/\(v0.getD (aE x.1 x.2).1.toNat (0,0)).2=(dC x.1 x.2).2.1/\0=(dC x.1 x.2).2.2/\True)/\(decide ((v0.getD (aE x.1 x.2).1.toNat (0,0)).2=0)=false->x.1.set (aE x.1 x.2).1.toNat (v1.1,v1.2 - 1)=(dC x.1 x.2).1/\(v0.getD (aE x.1 x.2).1.toNat (0,0)).2=(dC x.1 x.2).2.1/\0=(dC x.1 x.2).2.2/\True)))) (x.1.set (aE x.1 x.2).1.toNat (v1.1,v1.2 - 1))) (x.1.getD (aE x.1 x.2).1.toNat (0,0))
theorem Iw:Fy:=by
 unfold Fy;intro ⟨p,k⟩ ⟨⟨hb,_⟩,_⟩ _;unfold aJ at hb;simp only at hb ⊢
 have hF:dC p k=if (aE p k).2.2≠0 then ([],0,(aE p k).2.2) else if nO p k=false then ([],0,5)
  else ((if fj p k=1 then CN p (kj p k) (kj p k+1) else p.set (kj p k).toNat (k,fj p k - 1)),fj p k - 1,0):=rfl
 rw [hF];refine ⟨trivial,fun h=>?_,fun h=>?_⟩
 ·rw [if_pos (of_decide_eq_true h)];exact ⟨by first | trivial | rfl,by first | trivial | rfl,by first | trivial | rfl,trivial⟩
 have h0:(aE p k).2.2=0:=by simpa using of_decide_eq_false h
 rw [if_neg (by omega)];obtain ⟨A,B,e,e2,hl,_,_,h1⟩:=lr h0;rw [e,e2];simp only;rcases h1 with ⟨h1,h2,h3⟩ | ⟨h1,h2,h2',h3⟩
 ·rw [h1,if_pos rfl];exact ⟨fun _=>⟨by first | trivial | rfl,by first | trivial | rfl,by first | trivial | rfl,trivial⟩,fun h=>by cases h⟩
 ·rw [h1,if_neg (by simp)];generalize fj p k=v at *;subst h3;rw [qr,tc,qr,EU,EU];simp only [am,List.length_append,List.length_cons] at *;refine ⟨(fun h=>by cases h),fun _=>⟨trivial,by omega,by omega,by omega,by omega,by omega,by omega,by omega,by omega,by omega,by omega,fun h=>?_,fun h=>?_⟩⟩
  ·have h:v - 1=0:=of_decide_eq_true h;rw [if_pos (by omega)];exact ⟨by omega,⟨by omega,by omega,by omega⟩,by first | trivial | rfl,by first | trivial | rfl,by first | trivial | rfl,trivial⟩
  ·have h:¬ v - 1=0:=of_decide_eq_false h;rw [if_neg (by omega)];exact ⟨by first | trivial | rfl,by first | trivial | rfl,by first | trivial | rfl,trivial⟩
theorem Lg:KZ.ok Tryz.prog 141:=aD (ann:=co) (ae FL (ae bZ (kZ Hy ap))) Tryz.func141 (by kernel_rfl) Iw
end
section
open Go
set_option maxRecDepth 100000
set_option maxHeartbeats 1000000
abbrev bT:Ty:=.pair ty_I (.pair .bool ty_I)
abbrev bb:=Int×Bool×Int
def DT:Spec:={ Ts:=[.arr bT,.fn bT .bool],Rs:=[.dat ty_I],pre:=fun ((l,g):List bb×(bb->Prop)×(bb->Bool))=>∀ s∈l,g.1 s,F:=fun ((l,g):List bb×(bb->Prop)×(bb->Bool))=>ag g.2 0 l }
def E5:Nat->Option LoopGen
 | 2=>some { rd:=[.dat 0 (.arr bT),.dat 1 (.fn bT .bool)],A:=fun ((l,g):List bb×(bb->Prop)×(bb->Bool))=>{ cs:=[.dat 8 ty_I],inv:=fun (i:Int)=>0<=i/\i<=l.length/\ag g.2 i (l.drop i.toNat)=ag g.2 0 l,mu:=fun (i:Int)=>(l.length - i).toNat } }
 | _=>none
def tK:Prop :=
  ∀ (x:List (Int×Bool×Int)×(Int×Bool×Int->Prop)×(Int×Bool×Int->Bool)),(x.1.length * (8+(8+8))<=aJ/\∀ (x_1:Int×Bool×Int),x_1∈x.1->am .i64 x_1.1/\True/\am .i64 x_1.2.2)/\True->(∀ (s:bb),s∈x.1->x.2.1 s)->((0:Int)<=0/\0<=(x.1.length:Int)/\ag x.2.2 0 (List.drop (Int.toNat 0) x.1)=ag x.2.2 0 x.1)/\∀ (x_1:Int),0<=x_1/\x_1<=(x.1.length:Int)/\ag x.2.2 x_1 (List.drop x_1.toNat x.1)=ag x.2.2 0 x.1->(decide (x_1<(x.1.length:Int))=true->0<=x_1/\x_1<(x.1.length:Int)/\x.2.1 (x.1.getD x_1.toNat (0,false,0))/\(x.2.2 (x.1.getD x_1.toNat (0,false,0))=true->x_1=ag x.2.2 0 x.1/\True)/\(x.2.2 (x.1.getD x_1.toNat (0,false,0))=false->am .i64 (x_1+1)/\(0<=x_1+1/\x_1+1<=(x.1.length:Int)/\ag x.2.2 (x_1+1) (List.drop (x_1+1).toNat x.1)=ag x.2.2 0 x.1)/\((x.1.length:Int) - (x_1+1)).toNat<((x.1.length:Int) - x_1).toNat))/\(decide (x_1<(x.1.length:Int))=false->(-1)=ag x.2.2 0 x.1/\True)
theorem Ah:tK:=by
 unfold tK;intro ⟨l,g⟩ ⟨⟨hl,_⟩,_⟩ hp;unfold aJ at *;refine ⟨⟨by omega,by omega,by simp⟩,fun i ⟨h0,h1,h2⟩=>⟨fun hlt=>?_,fun hge=>?_⟩⟩
 ·have hlt:i<(l.length:Int):=by simpa using hlt
  have e:=bh ((0,false,0):bb) h0 hlt;have hm:=hp _ (aH ((0,false,0):bb) h0 hlt);simp only at *;rw [e] at h2;simp only [ag] at h2;refine ⟨h0,hlt,hm,fun hc=>?_,fun hc=>?_⟩
  ·rw [if_pos hc] at h2;exact ⟨h2,trivial⟩
  ·rw [if_neg (by rw [hc]; simp)] at h2;exact ⟨by simp only [am]; omega,⟨by omega,by omega,h2⟩,by omega⟩
 ·rw [b7 (by simpa using hge)] at h2;exact ⟨h2,trivial⟩
theorem Em:DT.ok Tryz.prog 205:=aD (ann:=E5) ap Tryz.func205 (by kernel_rfl) Ah
def GX:Spec:={ Ts:=[.arr ty_I,.fn ty_I .bool],Rs:=[.dat ty_I],pre:=fun ((l,g):List Int×(Int->Prop)×(Int->Bool))=>∀ s∈l,g.1 s,F:=fun ((l,g):List Int×(Int->Prop)×(Int->Bool))=>ag g.2 0 l }
def Ig:Nat->Option LoopGen
 | 2=>some { rd:=[.dat 0 (.arr ty_I),.dat 1 (.fn ty_I .bool)],A:=fun ((l,g):List Int×(Int->Prop)×(Int->Bool))=>{ cs:=[.dat 8 ty_I],inv:=fun (i:Int)=>0<=i/\i<=l.length/\ag g.2 i (l.drop i.toNat)=ag g.2 0 l,mu:=fun (i:Int)=>(l.length - i).toNat } }
 | _=>none
def wX:Prop :=
  ∀ (x:List Int×(Int->Prop)×(Int->Bool)),(x.1.length * 8<=aJ/\∀ (x_1:Int),x_1∈x.1->am .i64 x_1)/\True->(∀ (s:Int),s∈x.1->x.2.1 s)->((0:Int)<=0/\0<=(x.1.length:Int)/\ag x.2.2 0 (List.drop (Int.toNat 0) x.1)=ag x.2.2 0 x.1)/\∀ (x_1:Int),0<=x_1/\x_1<=(x.1.length:Int)/\ag x.2.2 x_1 (List.drop x_1.toNat x.1)=ag x.2.2 0 x.1->(decide (x_1<(x.1.length:Int))=true->0<=x_1/\x_1<(x.1.length:Int)/\x.2.1 (x.1.getD x_1.toNat 0)/\(x.2.2 (x.1.getD x_1.toNat 0)=true->x_1=ag x.2.2 0 x.1/\True)/\(x.2.2 (x.1.getD x_1.toNat 0)=false->am .i64 (x_1+1)/\(0<=x_1+1/\x_1+1<=(x.1.length:Int)/\ag x.2.2 (x_1+1) (List.drop (x_1+1).toNat x.1)=ag x.2.2 0 x.1)/\((x.1.length:Int) - (x_1+1)).toNat<((x.1.length:Int) - x_1).toNat))/\(decide (x_1<(x.1.length:Int))=false->(-1)=ag x.2.2 0 x.1/\True)
theorem Dr:wX:=by
 unfold wX;intro ⟨l,g⟩ ⟨⟨hl,_⟩,_⟩ hp;unfold aJ at *;refine ⟨⟨by omega,by omega,by simp⟩,fun i ⟨h0,h1,h2⟩=>⟨fun hlt=>?_,fun hge=>?_⟩⟩
 ·have hlt:i<(l.length:Int):=by simpa using hlt
  have e:=bh (0:Int) h0 hlt;have hm:=hp _ (aH (0:Int) h0 hlt);simp only at *;rw [e] at h2;simp only [ag] at h2;refine ⟨h0,hlt,hm,fun hc=>?_,fun hc=>?_⟩
  ·rw [if_pos hc] at h2;exact ⟨h2,trivial⟩
  ·rw [if_neg (by rw [hc]; simp)] at h2;exact ⟨by simp only [am]; omega,⟨by omega,by omega,h2⟩,by omega⟩
 ·rw [b7 (by simpa using hge)] at h2;exact ⟨h2,trivial⟩
theorem Hv:GX.ok Tryz.prog 107:=aD (ann:=Ig) ap Tryz.func107 (by kernel_rfl) Dr
def G3:Spec:={ Ts:=[.arr ty_I,.fn ty_I .bool],Rs:=[.dat .bool],pre:=fun ((l,g):List Int×(Int->Prop)×(Int->Bool))=>∀ s∈l,g.1 s,F:=fun ((l,g):List Int×(Int->Prop)×(Int->Bool))=>l.any g.2 }
def w6:Prop :=
  ∀ (x:List Int×(Int->Prop)×(Int->Bool)),(x.1.length * 8<=aJ/\∀ (x_1:Int),x_1∈x.1->am .i64 x_1)/\True->(∀ (s:Int),s∈x.1->x.2.1 s)->(∀ (s:Int),s∈x.1->x.2.1 s)/\decide (0<=ag x.2.2 0 x.1)=x.1.any x.2.2/\True
theorem Dv:w6:=by
 unfold w6;intro ⟨l,g⟩ _ hp;exact ⟨hp,cS g.2 l 0 (by omega),trivial⟩
theorem HA:G3.ok Tryz.prog 37:=aD (ann:=co) (ae Hv ap) Tryz.func37 (by kernel_rfl) Dv
def vH:Spec:={ Ts:=[.arr bT],Rs:=[.own 135 bT],pre:=fun _=>True,F:=fun (x:List bb)=>x }
def nd:Prop :=
  ∀ (x:List (Int×Bool×Int)),(x.length * (8+(8+8))<=aJ/\∀ (x_1:Int×Bool×Int),x_1∈x->am .i64 x_1.1/\True/\am .i64 x_1.2.2)->True->(x=([]:List (Int×Bool×Int))->([]:List (Int×Bool×Int))=x/\True)/\(True->(0+x.length) * (8+(8+8))<=aJ/\([]:List (Int×Bool×Int))++x=x/\True)
theorem sP:nd:=by
 unfold nd;intro x ⟨hb,_⟩ _;simp [hb]
theorem bJ:vH.ok Tryz.prog 153:=aD (ann:=co) ap Tryz.func153 (by kernel_rfl) sP
def eP (v:Int):Bool:=decide (0<=v)&&decide (v<256)
def yr:Spec:={ Ts:=[ty_I],Rs:=[.dat .bool],pre:=fun _=>True,F:=eP }
def oQ:Prop :=
  ∀ (x:Int),am .i64 x->True->(decide (0<=x)&&decide (x<256))=eP x/\True
theorem vp:oQ:=by
 unfold oQ;intro v _ _;simp [eP]
theorem lj:yr.ok Tryz.prog 147:=aD (ann:=co) ap Tryz.func147 (by kernel_rfl) vp
def AM:Spec:={ Ts:=[ty_I],Rs:=[.dat .bool],pre:=fun _=>True,F:=fun (v:Int)=>!eP v }
def ri:Prop :=
  ∀ (x:Int),am .i64 x->True->True/\(!eP x)=!eP x/\True
theorem xR:ri:=by
 unfold ri;intro v _ _;simp
theorem BR:AM.ok Tryz.prog 221:=aD (ann:=co) (ae lj ap) Tryz.func221 (by kernel_rfl) xR
def ay (s:bb):Bool:=!s.2.1&&decide (s.1<65535)
def A3:Spec:={ Ts:=[bT],Rs:=[.dat .bool],pre:=fun _=>True,F:=ay }
def rz:Prop :=
  ∀ (x:Int×Bool×Int),am .i64 x.1/\True/\am .i64 x.2.2->True->(!x.2.1&&decide (x.1<65535))=ay x/\True
theorem x9:rz:=by
 unfold rz;intro s _ _;simp [ay]
theorem B1:A3.ok Tryz.prog 206:=aD (ann:=co) ap Tryz.func206 (by kernel_rfl) x9
def ee (s:bb):Int:=if s.1<0\/65535<s.1\/s.2.2<0\/255<s.2.2 then 4 else if (s.2.1=true/\s.1=0)\/(s.2.1=false/\s.2.2≠0) then 3 else 0
def br:List bb->Int
 | []=>0
 | s::l=>if ee s≠0 then ee s else br l
def aG (h:List bb):Int:=if 16<h.length then 2 else br h
def yv:Spec:={ Ts:=[.arr bT],Rs:=[.dat ty_I],pre:=fun _=>True,F:=aG }
def zS:Nat->Option LoopGen
 | 4=>some { rd:=[.dat 8 (.arr bT)],A:=fun (h:List bb)=>{ cs:=[.dat 10 ty_I],inv:=fun (i:Int)=>0<=i/\i<=h.length/\h.length<=16/\br (h.drop i.toNat)=br h,mu:=fun (i:Int)=>(h.length - i).toNat } }
 | _=>none
def oS:Prop :=
  ∀ (x:List (Int×Bool×Int)),(x.length * (8+(8+8))<=aJ/\∀ (x_1:Int×Bool×Int),x_1∈x->am .i64 x_1.1/\True/\am .i64 x_1.2.2)->True->(decide (16<(x.length:Int))=true->2=aG x/\True)/\(decide (16<(x.length:Int))=false->((0:Int)<=0/\0<=(x.length:Int)/\x.length<=16/\br (List.drop (Int.toNat 0) x)=br x)/\∀ (x_1:Int),(fun (v0:type_of% (x.getD x_1.toNat (0,false,0)))=>0<=x_1/\x_1<=(x.length:Int)/\x.length<=16/\br (List.drop x_1.toNat x)=br x->(decide (x_1<(x.length:Int))=true->0<=x_1/\x_1<(x.length:Int)/\((decide (v0.1<0)||decide (65535<v0.1))=false->True)/\((decide (v0.1<0)||decide (65535<v0.1)||!eP v0.2.2)=true->4=aG x/\True)/\((decide (v0.1<0)||decide (65535<v0.1)||!eP v0.2.2)=false->((v0.2.1&&decide (v0.1=0)||!v0.2.1&&decide (v0.2.2≠0))=true->3=aG x/\True)/\((v0.2.1&&decide (v0.1=0)||!v0.2.1&&decide (v0.2.2≠0))=false->am .i64 (x_1+1)/\(0<=x_1+1/\x_1+1<=(x.length:Int)/\x.length<=16/\br (List.drop (x_1+1).toNat x)=br x)/\((x.length:Int) - (x_1+1)).toNat<((x.length:Int) - x_1).toNat)))/\(decide (x_1<(x.length:Int))=false->0=aG x/\True)) (x.getD x_1.toNat (0,false,0)))
theorem vr:oS:=by
 unfold oS;intro h ⟨hb,hw⟩ _;unfold aJ at *;refine ⟨fun hl=>?_,fun hl=>⟨⟨by omega,by omega,by have:=of_decide_eq_false hl; omega,by simp⟩,fun i ⟨h0,h1,h2,h3⟩=>⟨fun hlt=>?_,fun hge=>?_⟩⟩⟩
 ·have:=of_decide_eq_true hl;unfold aG;rw [if_pos (by omega)];exact ⟨rfl,trivial⟩
 ·have hlt:i<(h.length:Int):=by simpa using hlt
  have e:=bh ((0,false,0):bb) h0 hlt;have hF:aG h=br h:=by unfold aG; rw [if_neg (by omega)]
  rw [hF,<- h3,e];simp only [br,ee,eP,am];generalize h.getD i.toNat (0,false,0)=s at *;obtain ⟨g,o,a⟩:=s;simp only;cases o <;> grind
 ·have hF:aG h=br h:=by unfold aG; rw [if_neg (by omega)]
  rw [b7 (by simpa using hge)] at h3;rw [hF,<- h3];exact ⟨rfl,trivial⟩
theorem gN:yv.ok Tryz.prog 75:=aD (ann:=zS) (ae lj ap) Tryz.func75 (by kernel_rfl) vr
def cW (i:Int) (s:bb):Int:=i+65536 * s.1
def AW:Spec:={ Ts:=[ty_I,bT],Rs:=[.dat bj],pre:=fun ((i,s):Int×bb)=>0<=i/\i<65536/\0<=s.1/\s.1<=65535,F:=fun ((i,s):Int×bb)=>cW i s }
def rq:Prop :=
  ∀ (x:Int×Int×Bool×Int),am .i64 x.1/\am .i64 x.2.1/\True/\am .i64 x.2.2.2->0<=x.1/\x.1<65536/\0<=x.2.1/\x.2.1<=65535->(0:Int)<=16/\16<(↑IntKind.u64.bits:Int)/\(↑((IntKind.u64.wrap x.1).toNat ||| (IntKind.u64.wrap (IntKind.u64.wrap x.2.1 * 2 ^ Int.toNat 16)).toNat):Int)=cW x.1 x.2/\True
theorem xZ:rq:=by
 unfold rq;intro ⟨i,s⟩ _ ⟨h0,h1,h2,h3⟩;simp only at *;refine ⟨by omega,by rw [Nd]; omega,?_,trivial⟩;have e:(2:Int) ^ Int.toNat 16=65536:=rfl;have e3:(2:Int) ^ 16=65536:=rfl;have k:=sz (a:=i) (b:=s.1) (i:=16) h0 h2 (by rw [e3]; omega);rw [e3] at k;rw [fO (n:=i) (by omega) (by omega),fO (n:=s.1) h2 (by omega),e,fO (n:=s.1 * 65536) (by omega) (by omega),k];simp only [cW];omega
theorem mi:AW.ok Tryz.prog 76:=aD (ann:=co) ap Tryz.func76 (by kernel_rfl) xZ
theorem lI:∀ {h:List bb},br h=0->∀ s∈h,ee s=0
 | [],_=>by simp
 | x::l,h=>by
  simp only [br] at h;split at h
  ·omega
  ·intro s hs;rcases List.mem_cons.1 hs with rfl | hs
   ·omega
   ·exact lI h s hs
theorem jX {h:List bb} (hf:aG h=0):h.length<=16/\∀ s∈h,0<=s.1/\s.1<=65535/\0<=s.2.2/\s.2.2<=255:=by
 unfold aG at hf;split at hf
 ·omega
 ·refine ⟨by omega,fun s hs=>?_⟩;have:=lI hf s hs;unfold ee at this;split at this <;> omega
def ce (h:List bb) (n:Int):Int×Int :=
 if aG h≠0 then (0,aG h) else if n % 65536<h.length/\(h.getD (n % 65536).toNat (0,false,0)).2.1=true/\cW (n % 65536) (h.getD (n % 65536).toNat (0,false,0))=n then (n % 65536,0) else (0,9)
def AZ:Spec:={ Ts:=[.arr bT,bj],Rs:=[.dat ty_I,.dat ty_I],pre:=fun _=>True,F:=fun ((h,n):List bb×Int)=>ce h n }
def ru:Prop :=
  ∀ (x:List (Int×Bool×Int)×Int),(x.1.length * (8+(8+8))<=aJ/\∀ (x_1:Int×Bool×Int),x_1∈x.1->am .i64 x_1.1/\True/\am .i64 x_1.2.2)/\am .u64 x.2->True->True/\(decide (aG x.1≠0)=true->0=(ce x.1 x.2).1/\aG x.1=(ce x.1 x.2).2/\True)/\(decide (aG x.1≠0)=false->(decide (IntKind.u64.wrap (x.1.length:Int)<=(↑(x.2.toNat &&& Int.toNat 65535):Int))=false->0<=(↑(x.2.toNat &&& Int.toNat 65535):Int))/\(decide (IntKind.u64.wrap (x.1.length:Int)<=(↑(x.2.toNat &&& Int.toNat 65535):Int))=false->(↑(x.2.toNat &&& Int.toNat 65535):Int)<(x.1.length:Int))/\((decide (IntKind.u64.wrap (x.1.length:Int)<=(↑(x.2.toNat &&& Int.toNat 65535):Int))||!(x.1.getD (↑(x.2.toNat &&& Int.toNat 65535):Int).toNat (0,false,0)).2.1)=false->0<=(↑(x.2.toNat &&& Int.toNat 65535):Int))/\((decide (IntKind.u64.wrap (x.1.length:Int)<=(↑(x.2.toNat &&& Int.toNat 65535):Int))||!(x.1.getD (↑(x.2.toNat &&& Int.toNat 65535):Int).toNat (0,false,0)).2.1)=false->(↑(x.2.toNat &&& Int.toNat 65535):Int)<(x.1.length:Int))/\((decide (IntKind.u64.wrap (x.1.length:Int)<=(↑(x.2.toNat &&& Int.toNat 65535):Int))||!(x.1.getD (↑(x.2.toNat &&& Int.toNat 65535):Int).toNat (0,false,0)).2.1)=false->0<=IntKind.i64.wrap (↑(x.2.toNat &&& Int.toNat 65535):Int)/\IntKind.i64.wrap (↑(x.2.toNat &&& Int.toNat 65535):Int)<65536/\0<=(x.1.getD (↑(x.2.toNat &&& Int.toNat 65535):Int).toNat (0,false,0)).1/\(x.1.getD (↑(x.2.toNat &&& Int.toNat 65535):Int).toNat (0,false,0)).1<=65535)/\((decide (IntKind.u64.wrap (x.1.length:Int)<=(↑(x.2.toNat &&& Int.toNat 65535):Int))||!(x.1.getD (↑(x.2.toNat &&& Int.toNat 65535):Int).toNat (0,false,0)).2.1||decide (cW (IntKind.i64.wrap (↑(x.2.toNat &&& Int.toNat 65535):Int)) (x.1.getD (↑(x.2.toNat &&& Int.toNat 65535):Int).toNat (0,false,0))≠x.2))=true->0=(ce x.1 x.2).1/\9=(ce x.1 x.2).2/\True)/\((decide (IntKind.u64.wrap (x.1.length:Int)<=(↑(x.2.toNat &&& Int.toNat 65535):Int))||!(x.1.getD (↑(x.2.toNat &&& Int.toNat 65535):Int).toNat (0,false,0)).2.1||decide (cW (IntKind.i64.wrap (↑(x.2.toNat &&& Int.toNat 65535):Int)) (x.1.getD (↑(x.2.toNat &&& Int.toNat 65535):Int).toNat (0,false,0))≠x.2))=false->IntKind.i64.wrap (↑(x.2.toNat &&& Int.toNat 65535):Int)=(ce x.1 x.2).1/\0=(ce x.1 x.2).2/\True))
theorem x5:ru:=by
 unfold ru;intro ⟨h,n⟩ ⟨⟨hb,hw⟩,hn⟩ _;simp only [am] at hn
 have hand:((n.toNat &&& Int.toNat 65535:Nat):Int)=n % 65536:=by
  have:=mn hn.1 16;simpa using this
 simp only at *;rw [hand];have h0:0<=n % 65536:=by omega
 have h1:n % 65536<65536:=by omega
 rw [m4 (n:=n % 65536) (by omega) (by omega)];have hl:IntKind.u64.wrap (h.length:Int)=h.length:=fO (by omega) (by unfold aJ at hb; omega);rw [hl];simp only [ce];refine ⟨trivial,fun hf=>by grind,fun hf=>?_⟩;have hf:aG h=0:=by simpa using hf
 obtain ⟨z1,z2⟩:=jX hf
 have hm:n % 65536<h.length->0<=(h.getD (n % 65536).toNat (0,false,0)).1/\(h.getD (n % 65536).toNat (0,false,0)).1<=65535:=fun hlt=>by
  have:=z2 _ (aH (0,false,0) h0 hlt);omega
 generalize h.getD (n % 65536).toNat (0,false,0)=s at *;generalize n % 65536=i at *;simp only [hf,cW];obtain ⟨g,o,a⟩:=s;cases o <;> simp only at * <;> grind
theorem rL:AZ.ok Tryz.prog 207:=aD (ann:=co) (ae gN (ae mi ap)) Tryz.func207 (by kernel_rfl) x5
def gQ (h:List bb) (n:Int):Int×Int:=if (ce h n).2≠0 then (0,(ce h n).2) else ((h.getD (ce h n).1.toNat (0,false,0)).2.2,0)
def AX:Spec:={ Ts:=[.arr bT,bj],Rs:=[.dat ty_I,.dat ty_I],pre:=fun _=>True,F:=fun ((h,n):List bb×Int)=>gQ h n }
def rr:Prop :=
  ∀ (x:List (Int×Bool×Int)×Int),(x.1.length * (8+(8+8))<=aJ/\∀ (x_1:Int×Bool×Int),x_1∈x.1->am .i64 x_1.1/\True/\am .i64 x_1.2.2)/\am .u64 x.2->True->True/\(decide ((ce x.1 x.2).2≠0)=true->0=(gQ x.1 x.2).1/\(ce x.1 x.2).2=(gQ x.1 x.2).2/\True)/\(decide ((ce x.1 x.2).2≠0)=false->0<=(ce x.1 x.2).1/\(ce x.1 x.2).1<(x.1.length:Int)/\(x.1.getD (ce x.1 x.2).1.toNat (0,false,0)).2.2=(gQ x.1 x.2).1/\0=(gQ x.1 x.2).2/\True)
theorem x3:rr:=by
 unfold rr;intro ⟨h,n⟩ ⟨_,hn⟩ _;simp only [am] at hn
 have hr:(ce h n).2=0->0<=(ce h n).1/\(ce h n).1<h.length:=by
  unfold ce
  grind
 simp only [gQ] at *;generalize ce h n=f at *
 grind
theorem BY:AX.ok Tryz.prog 145:=aD (ann:=co) (ae rL ap) Tryz.func145 (by kernel_rfl) x3
def closeF (h:List bb) (n:Int):List bb×Int:=if (ce h n).2≠0 then ([],(ce h n).2) else (h.set (ce h n).1.toNat ((h.getD (ce h n).1.toNat (0,false,0)).1,false,0),0)
def yu:Spec:={ Ts:=[.arr bT,bj],Rs:=[.own 135 bT,.dat ty_I],pre:=fun _=>True,F:=fun ((h,n):List bb×Int)=>closeF h n }
def oR:Prop :=
  ∀ (x:List (Int×Bool×Int)×Int),(x.1.length * (8+(8+8))<=aJ/\∀ (x_1:Int×Bool×Int),x_1∈x.1->am .i64 x_1.1/\True/\am .i64 x_1.2.2)/\am .u64 x.2->True->True/\(decide ((ce x.1 x.2).2≠0)=true->([]:List (Int×Bool×Int))=(closeF x.1 x.2).1/\(ce x.1 x.2).2=(closeF x.1 x.2).2/\True)/\(decide ((ce x.1 x.2).2≠0)=false->True/\0<=(ce x.1 x.2).1/\(ce x.1 x.2).1<(x.1.length:Int)/\0<=(ce x.1 x.2).1/\(ce x.1 x.2).1<(x.1.length:Int)/\(ce x.1 x.2).1.toNat<x.1.length/\x.1.set (ce x.1 x.2).1.toNat ((x.1.getD (ce x.1 x.2).1.toNat (0,false,0)).1,false,0)=(closeF x.1 x.2).1/\0=(closeF x.1 x.2).2/\True)
theorem vq:oR:=by
 unfold oR;intro ⟨h,n⟩ ⟨_,hn⟩ _;simp only [am] at hn
 have hr:(ce h n).2=0->0<=(ce h n).1/\(ce h n).1<h.length:=by
  unfold ce
  grind
 simp only [closeF] at *;generalize ce h n=f at *
 grind
theorem yT:yu.ok Tryz.prog 146:=aD (ann:=co) (ae rL (ae bJ ap)) Tryz.func146 (by kernel_rfl) vq
def dM (n:Int):List bb×Int:=if n<0\/16<n then ([],4) else (List.replicate n.toNat (0,false,0),0)
def DU:Spec:={ Ts:=[ty_I],Rs:=[.own 135 bT,.dat ty_I],pre:=fun _=>True,F:=dM }
def tL:Prop :=
  ∀ (x:Int),am .i64 x->True->((decide (x<0)||decide (16<x))=true->([]:List (Int×Bool×Int))=(dM x).1/\4=(dM x).2/\True)/\((decide (x<0)||decide (16<x))=false->0<=x/\x.toNat * (8+(8+8))<=aJ/\List.replicate x.toNat (0,false,0)=(dM x).1/\0=(dM x).2/\True)
theorem Ai:tL:=by
 unfold tL;intro n hw _;simp only [am,dM,aJ] at *
 grind
theorem En:DU.ok Tryz.prog 55:=aD (ann:=co) ap Tryz.func55 (by kernel_rfl) Ai
def ld (h:List bb) (i at_:Int):bb:=((h.getD i.toNat (0,false,0)).1+1,true,at_)
def openF (h:List bb) (at_:Int):List bb×Int×Int :=
 if aG h≠0 then ([],0,aG h) else if eP at_=false then ([],0,4) else if ag ay 0 h<0 then ([],0,7)
 else (h.set (ag ay 0 h).toNat (ld h (ag ay 0 h) at_),cW (ag ay 0 h) (ld h (ag ay 0 h) at_),0)
def CX:Nat->Option LoopGen
 | 1000003=>some { rd:=[.dat 0 (.arr bT),.dat 1 ty_I],A:=fun ((h,at_):List bb×Int)=>{ cs:=[.dat 7 ty_I],inv:=fun (e:Int)=>e=if aG h≠0 then aG h else if eP at_=false then 4 else 0,mu:=fun _=>0 } }
 | _=>none
def AU:Spec:={ Ts:=[.arr bT,ty_I],Rs:=[.own 135 bT,.dat bj,.dat ty_I],pre:=fun _=>True,F:=fun ((h,at_):List bb×Int)=>openF h at_ }
def rp:Prop :=
  ∀ (x:List (Int×Bool×Int)×Int),(x.1.length * (8+(8+8))<=aJ/\∀ (x_1:Int×Bool×Int),x_1∈x.1->am .i64 x_1.1/\True/\am .i64 x_1.2.2)/\am .i64 x.2->True->True/\(decide (aG x.1=0)=true->True)/\(((decide (aG x.1=0)&&!eP x.2)=true->(4:Int)=if aG x.1≠0 then aG x.1 else if eP x.2=false then (4:Int) else (0:Int))/\((decide (aG x.1=0)&&!eP x.2)=false->aG x.1=if aG x.1≠0 then aG x.1 else if eP x.2=false then (4:Int) else (0:Int)))/\∀ (x_1:Int),(x_1=if aG x.1≠0 then aG x.1 else if eP x.2=false then (4:Int) else (0:Int))->(decide (x_1≠0)=true->([]:List (Int×Bool×Int))=(openF x.1 x.2).1/\0=(openF x.1 x.2).2.1/\x_1=(openF x.1 x.2).2.2/\True)/\(decide (x_1≠0)=false->(∀ (s:bb),s∈x.1->(fun (_:Int×Bool×Int)=>True,fun (x:Int×Bool×Int)=>ay x).1 s)/\(decide (ag (fun (x:Int×Bool×Int)=>ay x) 0 x.1<0)=true->([]:List (Int×Bool×Int))=(openF x.1 x.2).1/\0=(openF x.1 x.2).2.1/\7=(openF x.1 x.2).2.2/\True)/\(decide (ag (fun (x:Int×Bool×Int)=>ay x) 0 x.1<0)=false->True/\0<=ag (fun (x:Int×Bool×Int)=>ay x) 0 x.1/\ag (fun (x:Int×Bool×Int)=>ay x) 0 x.1<(x.1.length:Int)/\am .i64 ((x.1.getD (ag (fun (x:Int×Bool×Int)=>ay x) 0 x.1).toNat (0,false,0)).1+1)/\0<=ag (fun (x:Int×Bool×Int)=>ay x) 0 x.1/\ag (fun (x:Int×Bool×Int)=>ay x) 0 x.1<(x.1.length:Int)/\(ag (fun (x:Int×Bool×Int)=>ay x) 0 x.1).toNat<x.1.length/\0<=ag (fun (x:Int×Bool×Int)=>ay x) 0 x.1/\ag (fun (x:Int×Bool×Int)=>ay x) 0 x.1<(↑(x.1.set (ag (fun (x:Int×Bool×Int)=>ay x) 0 x.1).toNat ((x.1.getD (ag (fun (x:Int×Bool×Int)=>ay x) 0 x.1).toNat (0,false,0)).1+1,true,x.2)).length:Int)/\(ag (fun (x:Int×Bool×Int)=>ay x) 0 x.1).toNat<(x.1.set (ag (fun (x:Int×Bool×Int)=>ay x) 0 x.1).toNat ((x.1.getD (ag (fun (x:Int×Bool×Int)=>ay x) 0 x.1).toNat (0,false,0)).1+1,true,x.2)).length/\(0<=ag (fun (x:Int×Bool×Int)=>ay x) 0 x.1/\ag (fun (x:Int×Bool×Int)=>ay x) 0 x.1<65536/\0<=((x.1.set (ag (fun (x:Int×Bool×Int)=>ay x) 0 x.1).toNat ((x.1.getD (ag (fun (x:Int×Bool×Int)=>ay x) 0 x.1).toNat (0,false,0)).1+1,true,x.2)).getD (ag (fun (x:Int×Bool×Int)=>ay x) 0 x.1).toNat (0,false,0)).1/\((x.1.set (ag (fun (x:Int×Bool×Int)=>ay x) 0 x.1).toNat ((x.1.getD (ag (fun (x:Int×Bool×Int)=>ay x) 0 x.1).toNat (0,false,0)).1+1,true,x.2)).getD (ag (fun (x:Int×Bool×Int)=>ay x) 0 x.1).toNat (0,false,0)).1<=65535)/\x.1.set (ag (fun (x:Int×Bool×Int)=>ay x) 0 x.1).toNat ((x.1.getD (ag (fun (x:Int×Bool×Int)=>ay x) 0 x.1).toNat (0,false,0)).1+1,true,x.2)=(openF x.1 x.2).1/\cW (ag (fun (x:Int×Bool×Int)=>ay x) 0 x.1) ((x.1.set (ag (fun (x:Int×Bool×Int)=>ay x) 0 x.1).toNat ((x.1.getD (ag (fun (x:Int×Bool×Int)=>ay x) 0 x.1).toNat (0,false,0)).1+1,true,x.2)).getD (ag (fun (x:Int×Bool×Int)=>ay x) 0 x.1).toNat (0,false,0))=(openF x.1 x.2).2.1/\0=(openF x.1 x.2).2.2/\True))
theorem xY:rp:=by
 unfold rp;intro ⟨h,at_⟩ ⟨⟨_,hw⟩,ha⟩ _;simp only at *;refine ⟨trivial,fun _=>trivial,⟨fun hc=>by grind,fun hc=>by grind⟩,fun e he=>⟨fun hz=>by unfold openF; grind,fun hz=>?_⟩⟩;have hz:e=0:=by simpa using hz
 have hf:aG h=0:=by grind
 have ht:eP at_=true:=by grind
 obtain ⟨z1,z2⟩:=jX hf
 have hO:openF h at_=if ag ay 0 h<0 then ([],0,7) else (h.set (ag ay 0 h).toNat (ld h (ag ay 0 h) at_),cW (ag ay 0 h) (ld h (ag ay 0 h) at_),0):=by
  unfold openF;simp [hf,ht]
 rw [hO];have hk:=dW ay ((0,false,0):bb) h 0 (by omega);have hr:=eA ay h 0;have hg:=fun q=>dX ay ((0,false,0):bb) h 0 q (by omega)
 generalize ag ay 0 h=i at *;refine ⟨fun _ _=>trivial,fun hi=>by rw [if_pos (of_decide_eq_true hi)]; exact ⟨rfl,rfl,rfl,trivial⟩,fun hi=>?_⟩;have hi:0<=i:=by have:=of_decide_eq_false hi; omega
 have hlt:i<h.length:=by omega
 have hgi:=hg hi;have hm:=z2 _ (aH ((0,false,0):bb) hi hlt);simp only [Int.sub_zero] at hgi;rw [if_neg (by omega)];have hgs:∀ v:bb,(h.set i.toNat v).getD i.toNat (0,false,0)=v:=fun v=>by simp [show i.toNat<h.length by omega]
 simp only [hgs,List.length_set,ld];unfold ay at hgi;generalize h.getD i.toNat (0,false,0)=s at *;simp only [Bool.and_eq_true,decide_eq_true_eq] at hgi;refine ⟨trivial,by omega,by omega,by simp only [am]; omega,by omega,by omega,by omega,by omega,by omega,by omega,⟨by omega,by omega,by omega,by omega⟩,by simp⟩
theorem BX:AU.ok Tryz.prog 143:=aD (ann:=CX) (ae gN (ae lj (ae Em (ae bJ (ae mi (ae B1 ap)))))) Tryz.func143 (by kernel_rfl) xY
theorem qk {α:Type} (f:α->α) (h:List α) (i:Nat):((h.take i).map f++h.drop i).length=h.length:=by simp; omega
theorem xl {α:Type} (f:α->α) (h:List α) (d:α) (i:Nat) (hi:i<h.length):((h.take i).map f++h.drop i).getD i d=h.getD i d:=by
 simp only [List.getD_eq_getElem?_getD];rw [List.getElem?_append_right (by simp; omega)];simp [show min i h.length=i by omega]
theorem xk {α:Type} (f:α->α) (h:List α) (d:α) (i:Nat) (hi:i<h.length):((h.take i).map f++h.drop i).set i (f (h.getD i d))=(h.take (i+1)).map f++h.drop (i+1):=by
 have l1:((h.take i).map f).length=i:=by simp; omega
 rw [List.set_append_right _ _ (by omega),l1,Nat.sub_self,List.drop_eq_getElem_cons hi,List.set_cons_zero,List.take_succ_eq_append_getElem hi,List.map_append,List.append_assoc];simp [hi]
theorem Ev {α:Type} (f:α->α) (h:List α) (d:α) (i:Nat) (hi:i<h.length) (hf:f (h.getD i d)=h.getD i d):(h.take i).map f++h.drop i=(h.take (i+1)).map f++h.drop (i+1):=by
 rw [<- xk f h d i hi,hf];apply List.ext_getElem?;intro j;rw [List.getElem?_set];split
 ·rename_i e;subst e;have:=xl f h d i hi;rw [if_pos (by rw [qk]; exact hi)];simp only [List.getD_eq_getElem?_getD] at this;have hl:i<((h.take i).map f++h.drop i).length:=by rw [qk]; exact hi
  rw [List.getElem?_eq_getElem hl] at this ⊢;simp only [Option.getD_some] at this;rw [this];simp [hi]
 ·rfl
def dy (to:List Int) (s:bb):bb:=if s.2.1=true then (s.1,s.2.1,to.getD s.2.2.toNat 0) else s
def fT (h:List bb) (to:List Int):List bb×Int:=if aG h≠0 then ([],aG h) else if to.length≠256 then ([],3) else if (to.any fun v=>!eP v)=true then ([],4) else (h.map (dy to),0)
def AT:Spec:={ Ts:=[.arr bT,.arr ty_I],Rs:=[.own 135 bT,.dat ty_I],pre:=fun _=>True,F:=fun ((h,to):List bb×List Int)=>fT h to }
def CW:Nat->Option LoopGen
 | 10=>some { rd:=[.dat 0 (.arr bT),.dat 1 (.arr ty_I)],wr:=[7,25],A:=fun ((h,to):List bb×List Int)=>{ cs:=[.own 7 135 bT,.same 25 7,.dat 27 ty_I],inv:=fun ((out,_,i):List bb×Unit×Int)=>0<=i/\i<=h.length/\aG h=0/\to.length=256/\out=(h.take i.toNat).map (dy to)++h.drop i.toNat,mu:=fun ((_,_,i):List bb×Unit×Int)=>(h.length - i).toNat } }
 | 1000013=>some { rd:=[.dat 0 (.arr bT),.dat 1 (.arr ty_I),.dat 27 ty_I],wr:=[7,25],A:=fun ((h,to,i):List bb×List Int×Int)=>{ cs:=[.own 7 135 bT,.same 25 7],inv:=fun ((out,_):List bb×Unit)=>out=(h.take (i.toNat+1)).map (dy to)++h.drop (i.toNat+1),mu:=fun _=>0 } }
 | _=>none
def ro:Prop :=
  ∀ (x:List (Int×Bool×Int)×List Int),((x.1.length * (8+(8+8))<=aJ/\∀ (x_1:Int×Bool×Int),x_1∈x.1->am .i64 x_1.1/\True/\am .i64 x_1.2.2)/\x.2.length * 8<=aJ/\∀ (x_1:Int),x_1∈x.2->am .i64 x_1)->True->True/\(decide (aG x.1≠0)=true->([]:List (Int×Bool×Int))=(fT x.1 x.2).1/\aG x.1=(fT x.1 x.2).2/\True)/\(decide (aG x.1≠0)=false->(decide ((x.2.length:Int)≠256)=true->([]:List (Int×Bool×Int))=(fT x.1 x.2).1/\3=(fT x.1 x.2).2/\True)/\(decide ((x.2.length:Int)≠256)=false->(∀ (s:Int),s∈x.2->(fun (_:Int)=>True,fun (x:Int)=>!eP x).1 s)/\((x.2.any fun (x:Int)=>!eP x)=true->([]:List (Int×Bool×Int))=(fT x.1 x.2).1/\4=(fT x.1 x.2).2/\True)/\((x.2.any fun (x:Int)=>!eP x)=false->True/\((0:Int)<=0/\0<=(x.1.length:Int)/\aG x.1=0/\x.2.length=256/\x.1=List.map (dy x.2) (List.take (Int.toNat 0) x.1)++List.drop (Int.toNat 0) x.1)/\∀ (x_1:List (Int×Bool×Int)×Unit×Int),0<=x_1.2.2/\x_1.2.2<=(x.1.length:Int)/\aG x.1=0/\x.2.length=256/\x_1.1=List.map (dy x.2) (List.take x_1.2.2.toNat x.1)++List.drop x_1.2.2.toNat x.1->(decide (x_1.2.2<(x.1.length:Int))=true->0<=x_1.2.2/\x_1.2.2<(x_1.1.length:Int)/\x_1.2.2.toNat<x_1.1.length/\(((x_1.1.getD x_1.2.2.toNat (0,false,0)).2.1=true->0<=(x_1.1.getD x_1.2.2.toNat (0,false,0)).2.2/\(x_1.1.getD x_1.2.2.toNat (0,false,0)).2.2<(x.2.length:Int)/\0<=x_1.2.2/\x_1.2.2<(x_1.1.length:Int)/\x_1.2.2.toNat<x_1.1.length/\x_1.1.set x_1.2.2.toNat ((x_1.1.getD x_1.2.2.toNat (0,false,0)).1,(x_1.1.getD x_1.2.2.toNat (0,false,0)).2.1,x.2.getD (x_1.1.getD x_1.2.2.toNat (0,false,0)).2.2.toNat 0)=List.map (dy x.2) (List.take (x_1.2.2.toNat+1) x.1)++List.drop (x_1.2.2.toNat+1) x.1)/\((x_1.1.getD x_1.2.2.toNat (0,false,0)).2.1=false->x_1.1=List.map (dy x.2) (List.take (x_1.2.2.toNat+1) x.1)++List.drop (x_1.2.2.toNat+1) x.1))/\∀ (x_2:List (Int×Bool×Int)×Unit),x_2.1=List.map (dy x.2) (List.take (x_1.2.2.toNat+1) x.1)++List.drop (x_1.2.2.toNat+1) x.1->am .i64 (x_1.2.2+1)/\(0<=x_1.2.2+1/\x_1.2.2+1<=(x.1.length:Int)/\aG x.1=0/\x.2.length=256/\x_2.1=List.map (dy x.2) (List.take (x_1.2.2+1).toNat x.1)++List.drop (x_1.2.2+1).toNat x.1)/\((x.1.length:Int) - (x_1.2.2+1)).toNat<((x.1.length:Int) - x_1.2.2).toNat)/\(decide (x_1.2.2<(x.1.length:Int))=false->x_1.1=(fT x.1 x.2).1/\0=(fT x.1 x.2).2/\True))))
theorem xX:ro:=by
 unfold ro;intro ⟨h,to⟩ ⟨⟨_,hw⟩,hto,_⟩ _;simp only at *;refine ⟨trivial,fun hf=>by unfold fT; grind,fun hf=>⟨fun hl=>by unfold fT; grind,fun hl=>⟨fun _ _=>trivial,fun ha=>by unfold fT; grind,fun ha=>?_⟩⟩⟩;have hf:aG h=0:=by simpa using hf
 have hl:to.length=256:=by
  have:((to.length:Nat):Int)=256:=by simpa using hl
  omega
 obtain ⟨z1,z2⟩:=jX hf;have hS:fT h to=(h.map (dy to),0):=by unfold fT; rw [if_neg (by omega),if_neg (by omega),if_neg (by rw [ha]; simp)]
 refine ⟨trivial,⟨by omega,by omega,hf,hl,by simp⟩,fun ⟨out,u,i⟩ ⟨h0,h1,_,_,h4⟩=>⟨fun hlt=>?_,fun hge=>?_⟩⟩
 ·have hlt:i<(h.length:Int):=by simpa using hlt
  simp only at *;have hm:=z2 _ (aH ((0,false,0):bb) h0 hlt);have hlen:out.length=h.length:=by rw [h4]; exact qk _ _ _
  have hget:out.getD i.toNat (0,false,0)=h.getD i.toNat (0,false,0):=by rw [h4]; exact xl _ _ _ _ (by omega)
  have hset:=xk (dy to) h ((0,false,0):bb) i.toNat (by omega);have hkeep:=Ev (dy to) h ((0,false,0):bb) i.toNat (by omega);rw [<- h4] at hset hkeep;rw [hget];refine ⟨h0,by omega,by omega,⟨fun ho=>⟨by omega,by omega,h0,by omega,by omega,?_⟩,fun ho=>?_⟩,fun ⟨o2,_⟩ e2=>⟨by simp only [am]; omega,⟨by omega,by omega,hf,hl,?_⟩,by omega⟩⟩
  ·rw [<- hset];unfold dy;rw [if_pos ho]
  ·apply hkeep;unfold dy;rw [if_neg (by rw [ho]; simp)]
  ·rw [show (i+1).toNat=i.toNat+1 by omega];exact e2
 ·have hge:¬ i<(h.length:Int):=by simpa using hge
  simp only at *;rw [hS,h4,List.take_of_length_le (by omega),List.drop_of_length_le (by omega)];simp
theorem rK:AT.ok Tryz.prog 160:=aD (ann:=CW) (ae gN (ae HA (ae BR (ae bJ ap)))) Tryz.func160 (by kernel_rfl) xX
def cn:Int->List bb->List Int
 | _,[]=>[]
 | k,s::l=>if s.2.1=true then cW k s::cn (k+1) l else cn (k+1) l
def jW (h:List bb):List Int×Int:=if aG h≠0 then ([],aG h) else (cn 0 h,0)
def AY:Spec:={ Ts:=[.arr bT],Rs:=[.own 45 bj,.dat ty_I],pre:=fun _=>True,F:=jW }
def CY:Nat->Option LoopGen
 | 6=>some { rd:=[.dat 13 (.arr bT)],A:=fun (h:List bb)=>{ cs:=[.own 5 45 bj,.dat 15 ty_I],inv:=fun ((out,i):List Int×Int)=>0<=i/\i<=h.length/\aG h=0/\out.length<=i/\out++cn i (h.drop i.toNat)=cn 0 h,mu:=fun ((_,i):List Int×Int)=>(h.length - i).toNat } }
 | _=>none
def rt:Prop :=
  ∀ (x:List (Int×Bool×Int)),(x.length * (8+(8+8))<=aJ/\∀ (x_1:Int×Bool×Int),x_1∈x->am .i64 x_1.1/\True/\am .i64 x_1.2.2)->True->True/\(decide (aG x≠0)=true->([]:List Int)=(jW x).1/\aG x=(jW x).2/\True)/\(decide (aG x≠0)=false->((0:Int)<=0/\0<=(x.length:Int)/\aG x=0/\(↑(0:Nat):Int)<=0/\([]:List Int)++cn 0 (List.drop (Int.toNat 0) x)=cn 0 x)/\∀ (x_1:List Int×Int),0<=x_1.2/\x_1.2<=(x.length:Int)/\aG x=0/\(x_1.1.length:Int)<=x_1.2/\x_1.1++cn x_1.2 (List.drop x_1.2.toNat x)=cn 0 x->(decide (x_1.2<(x.length:Int))=true->0<=x_1.2/\x_1.2<(x.length:Int)/\((x.getD x_1.2.toNat (0,false,0)).2.1=true->(0<=x_1.2/\x_1.2<65536/\0<=(x.getD x_1.2.toNat (0,false,0)).1/\(x.getD x_1.2.toNat (0,false,0)).1<=65535)/\(x_1.1.length+[cW x_1.2 (x.getD x_1.2.toNat (0,false,0))].length) * 8<=aJ/\am .i64 (x_1.2+1)/\(0<=x_1.2+1/\x_1.2+1<=(x.length:Int)/\aG x=0/\(↑(x_1.1++[cW x_1.2 (x.getD x_1.2.toNat (0,false,0))]).length:Int)<=x_1.2+1/\x_1.1++[cW x_1.2 (x.getD x_1.2.toNat (0,false,0))]++cn (x_1.2+1) (List.drop (x_1.2+1).toNat x)=cn 0 x)/\((x.length:Int) - (x_1.2+1)).toNat<((x.length:Int) - x_1.2).toNat)/\((x.getD x_1.2.toNat (0,false,0)).2.1=false->am .i64 (x_1.2+1)/\(0<=x_1.2+1/\x_1.2+1<=(x.length:Int)/\aG x=0/\(x_1.1.length:Int)<=x_1.2+1/\x_1.1++cn (x_1.2+1) (List.drop (x_1.2+1).toNat x)=cn 0 x)/\((x.length:Int) - (x_1.2+1)).toNat<((x.length:Int) - x_1.2).toNat))/\(decide (x_1.2<(x.length:Int))=false->x_1.1=(jW x).1/\0=(jW x).2/\True))
theorem x4:rt:=by
 unfold rt;intro h ⟨hb,_⟩ _;refine ⟨trivial,fun hf=>by unfold jW; grind,fun hf=>?_⟩;have hf:aG h=0:=by simpa using hf
 obtain ⟨z1,z2⟩:=jX hf;have hL:jW h=(cn 0 h,0):=by unfold jW; rw [if_neg (by omega)]
 refine ⟨⟨by omega,by omega,hf,by omega,by simp⟩,fun ⟨out,i⟩ ⟨h0,h1,_,h3,h4⟩=>⟨fun hlt=>?_,fun hge=>?_⟩⟩
 ·have hlt:i<(h.length:Int):=by simpa using hlt
  simp only at *;have hm:=z2 _ (aH ((0,false,0):bb) h0 hlt);rw [bh ((0,false,0):bb) h0 hlt] at h4;simp only [cn] at h4;generalize h.getD i.toNat (0,false,0)=s at *;unfold aJ;refine ⟨h0,hlt,fun ho=>⟨⟨h0,by omega,hm.1,by omega⟩,by simp; omega,by simp only [am]; omega,⟨by omega,by omega,hf,by simp; omega,?_⟩,by omega⟩,fun ho=>⟨by simp only [am]; omega,⟨by omega,by omega,hf,by omega,?_⟩,by omega⟩⟩
  ·rw [if_pos ho] at h4;simpa using h4
  ·rw [if_neg (by rw [ho]; simp)] at h4;exact h4
 ·have hge:¬ i<(h.length:Int):=by simpa using hge
  simp only at *;rw [b7 hge] at h4;simp only [cn,List.append_nil] at h4;rw [hL,h4];simp
theorem BZ:AY.ok Tryz.prog 17:=aD (ann:=CY) (ae gN (ae mi ap)) Tryz.func17 (by kernel_rfl) x4
end
section
open Go
set_option maxRecDepth 100000
set_option maxHeartbeats 1000000
abbrev aM:Ty:=.pair (.arr bj) (.pair (.arr ty_I) (.pair (.arr fm) (.arr bT)))
abbrev aj:=List Int×List Int×List bo×List bb
abbrev pO (s:aj):Prop:=(s.1.length * 8<=aJ/\∀ x∈s.1,am .u64 x)/\(s.2.1.length * 8<=aJ/\∀ x∈s.2.1,am .i64 x)/\(s.2.2.1.length * (8+8)<=aJ/\∀ x∈s.2.2.1,am .i64 x.1/\am .i64 x.2)/\s.2.2.2.length * (8+(8+8))<=aJ/\∀ x∈s.2.2.2,am .i64 x.1/\True/\am .i64 x.2.2
def gx (h:List bb):List Int:=(h.filter fun s=>s.2.1).map (·.2.2)
def cC (s:aj):List Int:=(s.2.1.filter fun v=>decide (0<=v))++gx s.2.2.2++s.2.2.1.map (·.1)
def ah (s:aj):List Int:=fA (d9 ((bk s.2.1 s.1.length).1++gx s.2.2.2++s.2.2.1.map (·.1)))
def aw (s:aj):Int :=
 if (ak s.1).2.2≠0 then (ak s.1).2.2 else if aF s.2.1 s.1.length≠0 then aF s.2.1 s.1.length else if bL s.2.2.1≠0 then bL s.2.2.1 else if aG s.2.2.2≠0 then aG s.2.2.2 else aY s.1 (cC s)
theorem kf (r:List Int) (n:Int):(bk r n).1.length<=r.length:=by
 unfold bk;split
 ·simp
 ·have h1:(fA (d9 (r.filter fun v=>!decide (v<0)))).length<=_:=j9 _;have h2:=List.length_filter_le (fun v:Int=>!decide (v<0)) r;rw [iT] at h1;simp only;omega
theorem mQ (h:List bb):(gx h).length<=h.length:=by
 unfold gx;rw [List.length_map];exact List.length_filter_le _ _
theorem Ec (h:List bb) (x:bb):gx (h++[x])=if x.2.1=true then gx h++[x.2.2] else gx h:=by
 unfold gx;rw [List.filter_append,List.map_append];by_cases hx:x.2.1=true
 ·rw [if_pos hx,List.filter_cons_of_pos (by simpa using hx)]; simp
 ·rw [if_neg hx,List.filter_cons_of_neg (by simpa using hx)]; simp
theorem pI {l:List Int} {x:Int}:x∈fA (d9 l) ↔ x∈l:=by
 rw [(sr (k8 l)).2 x,pZ]
theorem gC {s:aj} (h:aF s.2.1 s.1.length=0) {x:Int}:x∈ah s ↔ x∈cC s:=by
 unfold ah cC;rw [pI,List.mem_append,List.mem_append,List.mem_append,List.mem_append]
 have:x∈(bk s.2.1 s.1.length).1 ↔ x∈s.2.1.filter fun v=>decide (0<=v):=by
  unfold bk;rw [if_neg (by omega)];simp only;rw [pI,List.mem_filter,List.mem_filter];simp
 rw [this]
theorem xb:∀ (l:List bo) (q:Int),cM q l=0->∀ x∈l,0<=x.1/\x.1<=255
 | [],_,_,x,hx=>by cases hx
 | y::l,q,h,x,hx=>by
  simp only [cM] at h;split at h
  ·omega
  ·rename_i hb;split at h
   ·omega
   ·rcases List.mem_cons.1 hx with rfl | hx
    ·unfold lD at hb;simp only [Bool.or_eq_true,decide_eq_true_eq,not_or] at hb;omega
    ·exact xb l _ h x hx
theorem s9:∀ (l:List bb),br l=0->∀ x∈l,0<=x.2.2/\x.2.2<=255
 | [],_,x,hx=>by cases hx
 | y::l,h,x,hx=>by
  simp only [br] at h;split at h
  ·rename_i hb; omega
  ·rename_i hb;rcases List.mem_cons.1 hx with rfl | hx
   ·have hb:ee x=0:=by omega
    unfold ee at hb;split at hb
    ·omega
    ·omega
   ·exact s9 l h x hx
theorem B7 {s:aj} (h1:aF s.2.1 s.1.length=0) (h2:bL s.2.2.1=0) (h3:aG s.2.2.2=0):∀ x∈cC s,0<=x/\x<=255:=by
 intro x hx;unfold cC at hx;rcases List.mem_append.1 hx with hx | hx
 ·rcases List.mem_append.1 hx with hx | hx
  ·obtain ⟨hx,h0⟩:=List.mem_filter.1 hx;have h0:=of_decide_eq_true h0;unfold aF at h1;split at h1
   ·omega
   ·split at h1
    ·omega
    ·split at h1
     ·omega
     ·rename_i hn _ ha;have:=su (by simpa using ha) hx;omega
  ·unfold gx at hx;obtain ⟨y,hy,rfl⟩:=List.mem_map.1 hx;unfold aG at h3;split at h3
   ·omega
   ·exact s9 _ h3 y (List.mem_filter.1 hy).1
 ·obtain ⟨y,hy,rfl⟩:=List.mem_map.1 hx;unfold bL at h2;split at h2
  ·omega
  ·exact xb _ _ h2 y hy
theorem lW {s:aj} (h1:aF s.2.1 s.1.length=0) (h2:bL s.2.2.1=0) (h3:aG s.2.2.2=0):s.2.1.length<=32/\s.2.2.1.length<=16/\s.2.2.2.length<=16:=by
 unfold aF at h1;unfold bL at h2;unfold aG at h3;refine ⟨?_,?_,?_⟩
 ·split at h1
  ·omega
  ·split at h1 <;> omega
 ·split at h2 <;> omega
 ·split at h3 <;> omega
theorem LL {a:List Int} (hc:(ak a).2.2=0) (x:Int):(decide ((gW a x).2≠0)||(gW a x).1.2.2.2)=!isB (ac a).1 x:=by
 by_cases hx:isB (ac a).1 x=true
 ·obtain ⟨_,_,e⟩:=Ko hc hx;have hf:=(fi hx).2.2.2.2.2;rw [e,hx];simp only [gO,hf];simp
 ·obtain ⟨_,_,e1,_,_,_,_⟩:=bi hc;have hx2:isB (ac a).1 x=false:=by simpa using hx
  rw [hx2];unfold gW;rw [if_neg (by omega)];by_cases hl:ag (fun s:au=>decide (s.1=x)) 0 (ak a).1<0
  ·rw [if_pos hl]; simp
  ·rw [if_neg hl];have h1:=dX (fun s:au=>decide (s.1=x)) (0,0,0,0,false) (ak a).1 0 (by omega) (by omega);have h2:=dW (fun s:au=>decide (s.1=x)) (0,0,0,0,false) (ak a).1 0 (by omega);rw [Int.sub_zero] at h1;have h3:=aH (xs:=(ak a).1) ((0,0,0,0,false):au) (by omega:0<=ag (fun s:au=>decide (s.1=x)) 0 (ak a).1) (by omega);simp only;generalize (ak a).1.getD (ag (fun s:au=>decide (s.1=x)) 0 (ak a).1).toNat (0,0,0,0,false)=t at *;have h1:=of_decide_eq_true h1;rw [e1] at h3
   have:t.2.2.2.2=true:=by
    cases hf:t.2.2.2.2
    ·exfalso;apply hx;have:=nN (bV a) h3 hf;unfold isB;rw [<- h1,this]
    ·rfl
   simp only [gO,this];simp
def CR:Nat->Option LoopGen
 | 3=>some { rd:=[.dat 7 (.arr fm)],A:=fun (p:List bo)=>{ cs:=[.own 3 3 ty_I,.dat 9 ty_I],inv:=fun ((o,i):List Int×Int)=>0<=i/\i<=p.length/\o=(p.take i.toNat).map (·.1),mu:=fun ((_,i):List Int×Int)=>(p.length - i).toNat } }
 | _=>none
def AF:Spec:={ Ts:=[aM],Rs:=[.own 3 ty_I],pre:=fun _=>True,F:=fun (s:aj)=>s.2.2.1.map (·.1) }
def rb:Prop :=
  ∀ (x:List Int×List Int×List (Int×Int)×List (Int×Bool×Int)),(pO x)->True->((0:Int)<=0/\0<=(x.2.2.1.length:Int)/\([]:List Int)=List.map (fun (x:bo)=>x.1) (List.take (Int.toNat 0) x.2.2.1))/\∀ (x_1:List Int×Int),0<=x_1.2/\x_1.2<=(x.2.2.1.length:Int)/\x_1.1=List.map (fun (x:bo)=>x.1) (List.take x_1.2.toNat x.2.2.1)->(decide (x_1.2<(x.2.2.1.length:Int))=true->0<=x_1.2/\x_1.2<(x.2.2.1.length:Int)/\(x_1.1.length+[(x.2.2.1.getD x_1.2.toNat (0,0)).1].length) * 8<=aJ/\am .i64 (x_1.2+1)/\(0<=x_1.2+1/\x_1.2+1<=(x.2.2.1.length:Int)/\x_1.1++[(x.2.2.1.getD x_1.2.toNat (0,0)).1]=List.map (fun (x:bo)=>x.1) (List.take (x_1.2+1).toNat x.2.2.1))/\((x.2.2.1.length:Int) - (x_1.2+1)).toNat<((x.2.2.1.length:Int) - x_1.2).toNat)/\(decide (x_1.2<(x.2.2.1.length:Int))=false->x_1.1=List.map (fun (x:bo)=>x.1) x.2.2.1/\True)
theorem xL:rb:=by
 unfold rb;intro ⟨a,r,p,h⟩ ⟨_,_,⟨hbp,_⟩,_⟩ _;unfold aJ at hbp;simp only at hbp ⊢;refine ⟨⟨by omega,by omega,by simp⟩,fun ⟨o,i⟩ ⟨i0,i1,i2⟩=>⟨fun hlt=>?_,fun hge=>?_⟩⟩
 ·simp only at i0 i1 i2 hlt ⊢;have hlt:=of_decide_eq_true hlt;have ht:=bB ((0,0):bo) i0 hlt;have hl:o.length=i.toNat:=by rw [i2]; simp; omega
  rw [ht,List.map_append,<- i2];unfold aJ;simp only [am,List.length_singleton];exact ⟨i0,hlt,by omega,by omega,⟨by omega,by omega,by first | rfl | trivial⟩,by omega⟩
 ·simp only at i0 i1 i2 hge ⊢;rw [cA (of_decide_eq_false hge)] at i2;exact ⟨i2,trivial⟩
theorem jQ:AF.ok Tryz.prog 142:=aD (ann:=CR) ap Tryz.func142 (by kernel_rfl) xL
def If:Nat->Option LoopGen
 | 3=>some { rd:=[.dat 17 (.arr bT),.own 3 3 ty_I],A:=fun ((h,l0):List bb×List Int)=>{ cs:=[.own 3 3 ty_I,.dat 19 ty_I],inv:=fun ((o,i):List Int×Int)=>0<=i/\i<=h.length/\o=l0++gx (h.take i.toNat),mu:=fun ((_,i):List Int×Int)=>(h.length - i).toNat } }
 | _=>none
def GN:Spec:={ Ts:=[aM],Rs:=[.own 3 ty_I],pre:=fun (s:aj)=>s.2.1.length<=32/\s.2.2.1.length<=16/\s.2.2.2.length<=16,F:=ah }
def wO:Prop :=
  ∀ (x:List Int×List Int×List (Int×Int)×List (Int×Bool×Int)),(pO x)->x.2.1.length<=32/\x.2.2.1.length<=16/\x.2.2.2.length<=16->True/\((0:Int)<=0/\0<=(x.2.2.2.length:Int)/\(bk x.2.1 (x.1.length:Int)).1=(bk x.2.1 (x.1.length:Int)).1++gx (List.take (Int.toNat 0) x.2.2.2))/\∀ (x_1:List Int×Int),0<=x_1.2/\x_1.2<=(x.2.2.2.length:Int)/\x_1.1=(bk x.2.1 (x.1.length:Int)).1++gx (List.take x_1.2.toNat x.2.2.2)->(decide (x_1.2<(x.2.2.2.length:Int))=true->0<=x_1.2/\x_1.2<(x.2.2.2.length:Int)/\((x.2.2.2.getD x_1.2.toNat (0,false,0)).2.1=true->(x_1.1.length+[(x.2.2.2.getD x_1.2.toNat (0,false,0)).2.2].length) * 8<=aJ/\am .i64 (x_1.2+1)/\(0<=x_1.2+1/\x_1.2+1<=(x.2.2.2.length:Int)/\x_1.1++[(x.2.2.2.getD x_1.2.toNat (0,false,0)).2.2]=(bk x.2.1 (x.1.length:Int)).1++gx (List.take (x_1.2+1).toNat x.2.2.2))/\((x.2.2.2.length:Int) - (x_1.2+1)).toNat<((x.2.2.2.length:Int) - x_1.2).toNat)/\((x.2.2.2.getD x_1.2.toNat (0,false,0)).2.1=false->am .i64 (x_1.2+1)/\(0<=x_1.2+1/\x_1.2+1<=(x.2.2.2.length:Int)/\x_1.1=(bk x.2.1 (x.1.length:Int)).1++gx (List.take (x_1.2+1).toNat x.2.2.2))/\((x.2.2.2.length:Int) - (x_1.2+1)).toNat<((x.2.2.2.length:Int) - x_1.2).toNat))/\(decide (x_1.2<(x.2.2.2.length:Int))=false->True/\[x_1.1,List.map (fun (x:bo)=>x.1) x.2.2.1].flatten.length * 8<=aJ/\True/\True/\fA (d9 [x_1.1,List.map (fun (x:bo)=>x.1) x.2.2.1].flatten)=ah x/\True)
theorem Di:wO:=by
 unfold wO;intro ⟨a,r,p,h⟩ _ ⟨h1,h2,h3⟩;simp only at h1 h2 h3 ⊢;have hF:ah (a,r,p,h)=fA (d9 ((bk r a.length).1++gx h++p.map (·.1))):=rfl;have hrl:=kf r a.length;generalize (bk r a.length).1=l0 at *;refine ⟨trivial,⟨by omega,by omega,by simp [gx]⟩,fun ⟨o,i⟩ ⟨i0,i1,i2⟩=>⟨fun hlt=>?_,fun hge=>?_⟩⟩
 ·simp only at i0 i1 i2 hlt ⊢;have hlt:=of_decide_eq_true hlt;have ht:=bB ((0,false,0):bb) i0 hlt
  have hl:o.length<=32+i.toNat:=by
   have:=mQ (h.take i.toNat);rw [List.length_take] at this;rw [i2,List.length_append]; omega
  rw [ht,Ec];generalize h.getD i.toNat (0,false,0)=x at *;unfold aJ;simp only [am,List.length_singleton];refine ⟨i0,hlt,fun hx=>?_,fun hx=>?_⟩
  ·rw [if_pos hx,<- List.append_assoc,<- i2];exact ⟨by omega,by omega,⟨by omega,by omega,by first | rfl | trivial⟩,by omega⟩
  ·rw [if_neg (by rw [hx]; simp),<- i2];exact ⟨by omega,⟨by omega,by omega,by first | rfl | trivial⟩,by omega⟩
 ·simp only at i0 i1 i2 hge ⊢;rw [cA (of_decide_eq_false hge)] at i2;have hl:=mQ h;have hc:[o,p.map (·.1)].flatten=l0++gx h++p.map (·.1):=by rw [i2]; simp
  rw [hc,hF];unfold aJ;simp only [List.length_append,List.length_map];exact ⟨trivial,by omega,trivial,trivial,by first | rfl | trivial,trivial⟩
theorem qi:GN.ok Tryz.prog 151:=aD (ann:=If) (ae yR (ae jQ (ae ni (kZ tU (kZ rM ap))))) Tryz.func151 (by kernel_rfl) Di
def E2:Nat->Option LoopGen
 | 2=>some { rd:=[.dat 24 (.arr ty_I)],A:=fun (l:List Int)=>{ cs:=[.dat 26 ty_I],inv:=fun (i:Int)=>0<=i/\i<=l.length/\∀ x∈l.take i.toNat,x=0,mu:=fun (i:Int)=>(l.length - i).toNat } }
 | 8=>some { rd:=[.own 35 3 ty_I,.box 1 aM],A:=fun ((l,s):List Int×aj)=>{ cs:=[.dat 37 ty_I],inv:=fun (i:Int)=>0<=i/\i<=l.length/\∀ x∈l.take i.toNat,isB (ac s.1).1 x=true,mu:=fun (i:Int)=>(l.length - i).toNat } }
 | _=>none
def DM:Spec:={ Ts:=[aM],Rs:=[.dat ty_I],pre:=fun _=>True,F:=aw }
def tF:Prop :=
  ∀ (x:List Int×List Int×List (Int×Int)×List (Int×Bool×Int)),(pO x)->True->True/\True/\True/\True/\((0:Int)<=0/\0<=(↑[(ak x.1).2.2,aF x.2.1 (x.1.length:Int),bL x.2.2.1,aG x.2.2.2].length:Int)/\∀ (x_1:Int),x_1∈List.take (Int.toNat 0) [(ak x.1).2.2,aF x.2.1 (x.1.length:Int),bL x.2.2.1,aG x.2.2.2]->x_1=0)/\∀ (x_1:Int),(0<=x_1/\x_1<=(↑[(ak x.1).2.2,aF x.2.1 (x.1.length:Int),bL x.2.2.1,aG x.2.2.2].length:Int)/\∀ (x_2:Int),x_2∈List.take x_1.toNat [(ak x.1).2.2,aF x.2.1 (x.1.length:Int),bL x.2.2.1,aG x.2.2.2]->x_2=0)->(decide (x_1<(↑[(ak x.1).2.2,aF x.2.1 (x.1.length:Int),bL x.2.2.1,aG x.2.2.2].length:Int))=true->0<=x_1/\x_1<(↑[(ak x.1).2.2,aF x.2.1 (x.1.length:Int),bL x.2.2.1,aG x.2.2.2].length:Int)/\(decide ([(ak x.1).2.2,aF x.2.1 (x.1.length:Int),bL x.2.2.1,aG x.2.2.2].getD x_1.toNat (0:Int)≠0)=true->[(ak x.1).2.2,aF x.2.1 (x.1.length:Int),bL x.2.2.1,aG x.2.2.2].getD x_1.toNat 0=aw x/\True)/\(decide ([(ak x.1).2.2,aF x.2.1 (x.1.length:Int),bL x.2.2.1,aG x.2.2.2].getD x_1.toNat (0:Int)≠0)=false->am .i64 (x_1+1)/\(0<=x_1+1/\x_1+1<=(↑[(ak x.1).2.2,aF x.2.1 (x.1.length:Int),bL x.2.2.1,aG x.2.2.2].length:Int)/\∀ (x_2:Int),x_2∈List.take (x_1+1).toNat [(ak x.1).2.2,aF x.2.1 (x.1.length:Int),bL x.2.2.1,aG x.2.2.2]->x_2=0)/\((↑[(ak x.1).2.2,aF x.2.1 (x.1.length:Int),bL x.2.2.1,aG x.2.2.2].length:Int) - (x_1+1)).toNat<((↑[(ak x.1).2.2,aF x.2.1 (x.1.length:Int),bL x.2.2.1,aG x.2.2.2].length:Int) - x_1).toNat))/\(decide (x_1<(↑[(ak x.1).2.2,aF x.2.1 (x.1.length:Int),bL x.2.2.1,aG x.2.2.2].length:Int))=false->(x.2.1.length<=32/\x.2.2.1.length<=16/\x.2.2.2.length<=16)/\((0:Int)<=0/\0<=(↑(ah x).length:Int)/\∀ (x_2:Int),x_2∈List.take (Int.toNat 0) (ah x)->isB (ac x.1).1 x_2=true)/\∀ (x_2:Int),(0<=x_2/\x_2<=(↑(ah x).length:Int)/\∀ (x_3:Int),x_3∈List.take x_2.toNat (ah x)->isB (ac x.1).1 x_3=true)->(decide (x_2<(↑(ah x).length:Int))=true->0<=x_2/\x_2<(↑(ah x).length:Int)/\x_2.toNat<(ah x).length/\True/\((decide ((gW x.1 ((ah x).getD x_2.toNat 0)).2≠0)||(gW x.1 ((ah x).getD x_2.toNat 0)).1.2.2.2)=true->5=aw x/\True)/\((decide ((gW x.1 ((ah x).getD x_2.toNat 0)).2≠0)||(gW x.1 ((ah x).getD x_2.toNat 0)).1.2.2.2)=false->am .i64 (x_2+1)/\(0<=x_2+1/\x_2+1<=(↑(ah x).length:Int)/\∀ (x_3:Int),x_3∈List.take (x_2+1).toNat (ah x)->isB (ac x.1).1 x_3=true)/\((↑(ah x).length:Int) - (x_2+1)).toNat<((↑(ah x).length:Int) - x_2).toNat))/\(decide (x_2<(↑(ah x).length:Int))=false->0=aw x/\True))
theorem Ac:tF:=by
 unfold tF;intro s hx _;have hF:aw s=if (ak s.1).2.2≠0 then (ak s.1).2.2 else if aF s.2.1 s.1.length≠0 then aF s.2.1 s.1.length else if bL s.2.2.1≠0 then bL s.2.2.1 else if aG s.2.2.2≠0 then aG s.2.2.2 else aY s.1 (cC s):=rfl
 have hsm:=fun a b c=>lW (s:=s) a b c
 have hmem:=fun a x=>gC (s:=s) a (x:=x)
 have hfree:=fun a x=>LL (a:=s.1) a x
 have hfl:(ah s).length<=(ah s).length:=Nat.le_refl _
 have hlen:(ak s.1).2.2=0->aF s.2.1 s.1.length=0->bL s.2.2.1=0->aG s.2.2.2=0->(ah s).length<=64:=fun _ a b c=>by
  obtain ⟨q1,q2,q3⟩:=hsm a b c;have e1:=kf s.2.1 s.1.length;have e2:=mQ s.2.2.2;have e3:(ah s).length<=(d9 ((bk s.2.1 s.1.length).1++gx s.2.2.2++s.2.2.1.map (·.1))).length:=j9 _;rw [iT] at e3;simp only [List.length_append,List.length_map] at e3;omega
 generalize hc0:(ak s.1).2.2=c0 at *;generalize aF s.2.1 s.1.length=c1 at *;generalize bL s.2.2.1=c2 at *;generalize aG s.2.2.2=c3 at *;have hl4:([c0,c1,c2,c3].length:Int)=4:=rfl;refine ⟨trivial,trivial,trivial,trivial,⟨by omega,by omega,fun x hx=>by simp at hx⟩,fun i ⟨i0,i1,i2⟩=>⟨fun hlt=>?_,fun hge=>?_⟩⟩
 ·have hlt:=of_decide_eq_true hlt;have ht:=bB (0:Int) i0 hlt;refine ⟨i0,hlt,fun hn=>⟨?_,trivial⟩,fun hn=>⟨by simp only [am]; omega,⟨by omega,by omega,fun x hx=>?_⟩,by omega⟩⟩
  ·have hn:=of_decide_eq_true hn;rw [hF];have h4:i=0\/i=1\/i=2\/i=3:=by omega
   rcases h4 with rfl | rfl | rfl | rfl
   ·exact (if_pos hn).symm
   ·have e0:=i2 c0 (by simp);rw [if_neg (by omega)];exact (if_pos hn).symm
   ·have e0:=i2 c0 (by simp);have e1:=i2 c1 (by simp);rw [if_neg (by omega),if_neg (by omega)];exact (if_pos hn).symm
   ·have e0:=i2 c0 (by simp);have e1:=i2 c1 (by simp);have e2:=i2 c2 (by simp);rw [if_neg (by omega),if_neg (by omega),if_neg (by omega)];exact (if_pos hn).symm
  ·have hn:[c0,c1,c2,c3].getD i.toNat 0=0:=by simpa using of_decide_eq_false hn
   rw [ht] at hx;rcases List.mem_append.1 hx with hx | hx
   ·exact i2 x hx
   ·rw [List.mem_singleton.1 hx,hn]
 ·have hge:=of_decide_eq_false hge;rw [cA hge] at i2;have e0:=i2 c0 (by simp);have e1:=i2 c1 (by simp);have e2:=i2 c2 (by simp);have e3:=i2 c3 (by simp);have hS:aw s=aY s.1 (cC s):=by rw [hF,if_neg (by omega),if_neg (by omega),if_neg (by omega),if_neg (by omega)]
  have hfr:=hfree e0;have hln:=hlen e0 e1 e2 e3;have hmm:=hmem e1
  have hFF:aY s.1 (cC s)=if (cC s).all (isB (ac s.1).1)=true then 0 else 5:=by
   unfold aY;rw [if_neg (by omega)]
  rw [hS,hFF];refine ⟨hsm e1 e2 e3,⟨by omega,by omega,fun x hx=>by simp at hx⟩,fun j ⟨j0,j1,j2⟩=>⟨fun hj=>?_,fun hj=>?_⟩⟩
  ·have hj:=of_decide_eq_true hj;have ht:=bB (0:Int) j0 hj;have hm:=aH (0:Int) j0 hj;rw [hfr,ht];generalize (ah s).getD j.toNat 0=y at *;refine ⟨j0,hj,by omega,trivial,fun hn=>⟨?_,trivial⟩,fun hn=>⟨by simp only [am]; omega,⟨by omega,by omega,fun x hx=>?_⟩,by omega⟩⟩
   ·rw [if_neg (fun hall=>?_)];have:=List.all_eq_true.1 hall y ((hmm y).1 hm);rw [this] at hn;cases hn
   ·rcases List.mem_append.1 hx with hx | hx
    ·exact j2 x hx
    ·rw [List.mem_singleton.1 hx];simpa using hn
  ·have hj:=of_decide_eq_false hj;rw [cA hj] at j2;refine ⟨?_,trivial⟩;rw [if_pos (List.all_eq_true.2 fun x hx=>j2 x ((hmm x).2 hx))]
theorem gg:DM.ok Tryz.prog 80:=aD (ann:=E2) (ae iX (ae li (ae rI (ae gN (ae qi (ae mR ap)))))) Tryz.func80 (by kernel_rfl) Ac
end
section
open Go
def aA:aj:=([],[],[],[])
def cH (s:aj):List Int:=s.2.2.1.map (·.1)
def dA (s:aj):List Int:=bD s.1 (ah s++cH s)
def pb (s:aj):List Int:=(dA s).map (di (ac s.1).1)
def kW (s:aj) (x:Int):Int:=(az (dA s) (pb s) (cH s)).getD (cD (dA s) x).toNat 0
def dz (s:aj):List Int:=(Bb s.1 (dA s) (cH s)).1
def ke (s:aj) (v:Int):Int:=if 0<=v then kW s v else v
def km (s:aj) (h:bb):bb:=if h.2.1=true then (h.1,h.2.1,kW s h.2.2) else h
def iG (s:aj):aj:=(dz s,s.2.1.map (ke s),s.2.2.1,s.2.2.2.map (km s))
def gT (s:aj):Int:=dF (aL false [] (ac (dz s)).1)
def cZ (s:aj):aj×Int:=(iG s,gT s)
structure Right (s:aj):Prop where
 w:∀ x∈s.1,am .u64 x
 chk:(ak s.1).2.2=0
 root:aF s.2.1 s.1.length=0
 pin:bL s.2.2.1=0
 hand:aG s.2.2.2=0
 nam:∀ x∈cC s,isB (ac s.1).1 x=true
theorem gL {s:aj} (hw:∀ x∈s.1,am .u64 x) (h:aw s=0):Right s:=by
 unfold aw at h;split at h
 ·omega
 rename_i h0;split at h
 ·omega
 rename_i h1;split at h
 ·omega
 rename_i h2;split at h
 ·omega
 rename_i h3;exact ⟨hw,by omega,by omega,by omega,by omega,(eM h).2⟩
section
variable {s:aj}
theorem Right.pinsRise (h:Right s):(cH s).Pairwise (·<·):=List.pairwise_map.2 (oV h.pin).2.1
theorem Right.pinsIn (_h:Right s):∀ x∈cH s,x∈cC s:=fun _x hx=>List.mem_append_right _ hx
theorem Right.froms (h:Right s):∀ x∈ah s++cH s,x∈cC s:=fun x hx=>by
 rcases List.mem_append.1 hx with hx | hx
 ·exact (gC h.root).1 hx
 ·exact h.pinsIn x hx
theorem Right.fault (h:Right s):aY s.1 (ah s++cH s)=0:=i7 h.chk fun x hx=>h.nam x (h.froms x hx)
theorem Right.keep (h:Right s):be (cH s)=true:=iI h.pinsRise
theorem Right.longs (h:Right s):aS s.1 (dA s) (cH s)=(pb s,0):=rY h.w h.fault h.keep
theorem Right.plan (h:Right s):Plan s.1 (dA s) (cH s) (pb s):=by
 have:=FD (a:=s.1) (keep:=dA s) (pinned:=cH s) (by rw [h.longs]);rw [h.longs] at this;exact this
theorem Right.good (h:Right s) (to:List Int):((dA s).all fun x=>eU (dA s) to (bF s.1 x))=true:=uW h.w h.fault to
theorem Right.clean (h:Right s):aq s.1 (ah s) (cH s)=(dz s,(ah s).map (kW s),0):=by
 unfold aq;rw [if_neg (by rw [h.fault]; simp),if_neg (by rw [h.keep]; simp),(mD h.w h.fault h.keep).1];rfl
theorem Right.slid (h:Right s):dz s=lJ s.1 (dA s) (az (dA s) (pb s) (cH s)) (cH s) (pb s) (b9 s.1.length (dA s) (pb s) (cH s)):=by
 have hg:=h.good (az (dA s) ((dA s).map (di (ac s.1).1)) (cH s));unfold dz Bb;rw [if_pos hg];rfl
theorem Right.slidOK (h:Right s):(ak (dz s)).2.2=0/\(dz s).length=s.1.length/\(ac (dz s)).1=jK s.1 (dA s) (cH s) (pb s):=by
 rw [h.slid,D0 h.plan (h.good _)];exact ⟨rfl,ow _ h.plan,by rw [ta _ h.plan]⟩
theorem Right.keepIn (h:Right s) {x:Int} (hx:x∈cC s):x∈dA s:=by
 obtain ⟨k1,k2⟩:=eM h.fault;exact (g7 h.w k1 k2).2 (.base (List.mem_append_left _ ((gC h.root).2 hx)))
theorem Right.toIn (h:Right s) {x:Int} (hx:x∈cC s):0<=kW s x/\kW s x<s.1.length:=by
 have hp:=jr (h.keepIn hx);have hP:=h.plan;have hi:(cD (dA s) x).toNat<(dA s).length:=by omega
 unfold kW;rw [kL hi];have h1:=hP.le _ hi;have h2:=(cf (cH s) hP.pre _ (Nat.le_of_lt hi)).1;have h3:=hP.lg _ hi;obtain ⟨_,_,_,_,l5,l6⟩:=bW (hP.isb _ (dS hi));omega
theorem Right.nameIn (h:Right s) {x:Int} (hx:x∈cC s):0<=x/\x<s.1.length:=by
 obtain ⟨_,_,l3,l4,l5,l6⟩:=bW (h.nam x hx);omega
theorem Right.al (h:Right s):s.1.length<=256:=(bi h.chk).1
theorem Right.reached (h:Right s):bD s.1 (ii (cC s) 256)=dA s:=by
 have hr:=B7 h.root h.pin h.hand
 have hm:∀ x,x∈ii (cC s) 256 ↔ x∈cC s:=fun x=>by
  rw [tu];exact ⟨fun h=>h.2.2,fun hx=>⟨(hr x hx).1,by have:=(hr x hx).2; omega,hx⟩⟩
 obtain ⟨k1,k2⟩:=eM h.fault;refine qe (lc _ _) (lc _ _) fun x=>?_
 rw [g7 h.w h.chk (fun y hy=>h.nam y ((hm y).1 hy)),dA,g7 h.w k1 k2];exact ⟨fun hx=>hx.mono fun y hy=>.base (List.mem_append_left _ ((gC h.root).2 ((hm y).1 hy))),fun hx=>hx.mono fun y hy=>.base ((hm y).2 (h.froms y hy))⟩
theorem Right.free (h:Right s):gT s+((dA s).map (di (ac s.1).1)).sum=s.1.length:=by
 obtain ⟨h1,h2,h3⟩:=h.slidOK;have h4:=Cm (bi h1).2.2.2.1;unfold gT;rw [<- h2,<- G4 (pinned:=cH s) (long:=pb s) h.plan.isb,<- h3];exact h4
end
def bQ (arr f:List Int) (g:Int->Int):List Int:=f.foldl (fun r x=>r.set x.toNat (g x)) arr
theorem jL (arr f:List Int) (x:Int) (g:Int->Int):bQ arr (f++[x]) g=(bQ arr f g).set x.toNat (g x):=by simp [bQ]
theorem d6 (g:Int->Int):∀ (f arr:List Int),(bQ arr f g).length=arr.length
 | [],_=>rfl
 | x::f,arr=>by
  have:=d6 g f (arr.set x.toNat (g x));simp only [bQ,List.foldl_cons] at this ⊢;rw [this,List.length_set]
theorem nA (g:Int->Int) {k:Int} (h0:0<=k):∀ (f arr:List Int),(∀ x∈f,0<=x)->k<arr.length->(bQ arr f g).getD k.toNat 0=if k∈f then g k else arr.getD k.toNat 0
 | [],arr,_,_=>by simp [bQ]
 | x::f,arr,hf,hk=>by
  have ih:=nA g h0 f (arr.set x.toNat (g x)) (fun y hy=>hf y (List.mem_cons_of_mem _ hy)) (by rw [List.length_set]; exact hk);have hx:=hf x List.mem_cons_self;have e:bQ arr (x::f) g=bQ (arr.set x.toNat (g x)) f g:=rfl;rw [e,ih];by_cases h1:k∈f
  ·rw [if_pos h1,if_pos (List.mem_cons_of_mem _ h1)]
  ·rw [if_neg h1];by_cases h2:x=k
   ·subst h2;rw [if_pos List.mem_cons_self,List.getD_eq_getElem?_getD,List.getElem?_set,if_pos rfl,if_pos (by omega)];rfl
   ·rw [if_neg (by simp [h1,Ne.symm h2]),List.getD_eq_getElem?_getD,List.getElem?_set_ne (by omega),<- List.getD_eq_getElem?_getD]
theorem nz (g:Int->Int) {v:Int}:∀ (f arr:List Int),v∈bQ arr f g->v∈arr\/∃ x∈f,v=g x
 | [],_,h=>.inl h
 | x::f,arr,h=>by
  rcases nz g f _ h with h | ⟨y,hy,e⟩
  ·rcases List.mem_or_eq_of_mem_set h with h | h
   ·exact .inl h
   ·exact .inr ⟨x,List.mem_cons_self,h⟩
  ·exact .inr ⟨y,List.mem_cons_of_mem _ hy,e⟩
section
variable {s:aj}
theorem Right.swapRoots (h:Right s):bg s.2.1 s.1.length (bQ (List.replicate s.1.length 0) (ah s) (kW s))=(s.2.1.map (ke s),0):=by
 have hfm:=fun x=>(gC (s:=s) h.root (x:=x))
 unfold bg;rw [if_neg (by rw [h.root]; simp),if_neg (by rw [d6,List.length_replicate]; simp),if_neg]
 ·refine congrArg (·,(0:Int)) (List.map_congr_left fun v hv=>?_);unfold m5 ke;by_cases h0:0<=v
  ·rw [if_pos h0,if_pos h0];have hn:v∈cC s:=List.mem_append_left _ (List.mem_append_left _ (List.mem_filter.2 ⟨hv,by simpa using h0⟩));rw [nA _ h0 _ _ (fun x hx=>(h.nameIn ((hfm x).1 hx)).1) (by rw [List.length_replicate]; exact (h.nameIn hn).2),if_pos ((hfm v).2 hn)]
  ·rw [if_neg h0,if_neg h0]
 ·intro hc;obtain ⟨v,hv,hb⟩:=List.any_eq_true.1 hc;rcases nz _ _ _ hv with hv | ⟨x,hx,rfl⟩
  ·have:=(List.mem_replicate.1 hv);have h2:=this.2;have h1:=this.1;subst h2;unfold de at hb;simp only [Bool.not_eq_true',Bool.and_eq_false_iff,decide_eq_false_iff_not] at hb;omega
  ·have:=h.toIn ((hfm x).1 hx);unfold de at hb;simp only [Bool.not_eq_true',Bool.and_eq_false_iff,decide_eq_false_iff_not] at hb;omega
theorem Right.swapHands (h:Right s):fT s.2.2.2 (bQ (List.replicate 256 0) (ah s) (kW s))=(s.2.2.2.map (km s),0):=by
 have hfm:=fun x=>(gC (s:=s) h.root (x:=x))
 have hal:=h.al;unfold fT;rw [if_neg (by rw [h.hand]; simp),if_neg (by rw [d6,List.length_replicate]; simp),if_neg]
 ·refine congrArg (·,(0:Int)) (List.map_congr_left fun v hv=>?_);unfold dy km;by_cases h0:v.2.1=true
  ·rw [if_pos h0,if_pos h0];have hn:v.2.2∈cC s:=List.mem_append_left _ (List.mem_append_right _ (List.mem_map.2 ⟨v,List.mem_filter.2 ⟨hv,by simpa using h0⟩,rfl⟩));have h2:=h.nameIn hn;rw [nA _ h2.1 _ _ (fun x hx=>(h.nameIn ((hfm x).1 hx)).1) (by rw [List.length_replicate]; omega),if_pos ((hfm _).2 hn)]
  ·rw [if_neg h0,if_neg h0]
 ·intro hc;obtain ⟨v,hv,hb⟩:=List.any_eq_true.1 hc;rcases nz _ _ _ hv with hv | ⟨x,hx,rfl⟩
  ·have h2:=(List.mem_replicate.1 hv).2;subst h2;simp [eP] at hb
  ·have:=h.toIn ((hfm x).1 hx);simp [eP] at hb;omega
end
theorem Right.fromLen {s:aj} (h:Right s):(ah s).length<=64:=by
 obtain ⟨q1,q2,q3⟩:=lW h.root h.pin h.hand;have e1:=kf s.2.1 s.1.length;have e2:=mQ s.2.2.2;have e3:(ah s).length<=(d9 ((bk s.2.1 s.1.length).1++gx s.2.2.2++s.2.2.1.map (·.1))).length:=j9 _;rw [iT] at e3;simp only [List.length_append,List.length_map] at e3;omega
theorem Right.small {s:aj} (h:Right s):s.2.1.length<=32/\s.2.2.1.length<=16/\s.2.2.2.length<=16:=lW h.root h.pin h.hand
theorem Right.gaps {s:aj} (h:Right s):an (dz s)=(aL false [] (ac (dz s)).1,0)/\(∀ r∈aL false [] (ac (dz s)).1,0<=r.1/\1<=r.2/\r.2<=256)/\(aL false [] (ac (dz s)).1).length<=256:=by
 obtain ⟨hz,hl,_⟩:=h.slidOK;obtain ⟨g1,g2⟩:=mU (bi hz).2.2.2.1;have hal:=h.al;refine ⟨by unfold an; rw [if_neg (by omega)],fun r hr=>?_,g2⟩;have:=g1 r hr;omega
theorem B9 {f:List Int} {g:Int->Int} {i:Int} (h0:0<=i) (h1:i<f.length):(f.map g).getD i.toNat 0=g (f.getD i.toNat 0):=by
 have:i.toNat<f.length:=by omega
 simp [List.getD_eq_getElem?_getD,this]
theorem wt {l:List cT} {i:Int} (h0:0<=i) (h1:i<l.length):dF (l.take (i+1).toNat)=dF (l.take i.toNat)+(l.getD i.toNat (0,0)).2:=by
 rw [bB ((0,0):cT) h0 h1,mM]
structure ObjAt (s:aj) (x:Int):Prop where
 isb:isB (ac s.1).1 x=true
 at_:gW s.1 x=(gO s.1 (x,eG s.1 x) (ak s.1).2.1,0)
 refs:((gW s.1 x).1.2.1.length:Int)=(eG s.1 x).1
 body:((gW s.1 x).1.2.2.1.length:Int)=(eG s.1 x).2.1
 x0:0<=x
 r0:0<=(eG s.1 x).1
 b0:0<=(eG s.1 x).2.1
 fit:x+1+(eG s.1 x).1+(eG s.1 x).2.1<=s.1.length
theorem Right.obj {s:aj} (h:Right s) {x:Int} (hx:x∈cC s):ObjAt s x:=by
 have hb:=h.nam x hx;obtain ⟨_,_,e⟩:=Ko h.chk hb;obtain ⟨l1,l2,l3,l4,l5,l6⟩:=bW hb;obtain ⟨k1,k2⟩:=F5 h.chk hb;exact ⟨hb,e,by omega,by omega,l3,l5,l6,l4⟩
theorem Right.rootIn {s:aj} (h:Right s) {k:Int} (h0:0<=k) (h1:k<s.2.1.length):-1<=s.2.1.getD k.toNat 0/\s.2.1.getD k.toNat 0<s.1.length:=su (kg h.root) (aH (0:Int) h0 h1)
theorem Right.rootNam {s:aj} (_h:Right s) {k:Int} (h0:0<=k) (h1:k<s.2.1.length) (h2:0<=s.2.1.getD k.toNat 0):s.2.1.getD k.toNat 0∈cC s :=
 List.mem_append_left _ (List.mem_append_left _ (List.mem_filter.2 ⟨aH (0:Int) h0 h1,by simpa using h2⟩))
theorem Right.refWord {s:aj} (h:Right s) {x k:Int} (hx:isB (ac s.1).1 x=true) (h0:0<=k) (h1:k<(eG s.1 x).1):0<=s.1.getD (x+1+k).toNat 0/\s.1.getD (x+1+k).toNat 0<=256:=by
 obtain ⟨l1,l2,l3,l4,l5,l6⟩:=bW hx
 have hm:s.1.getD (x+1+k).toNat 0∈bF s.1 x:=by
  unfold bF aO;have hlt:(x+1+k).toNat<s.1.length:=by omega
  rw [List.mem_iff_getElem?];refine ⟨k.toNat,?_⟩;rw [List.getElem?_drop,List.getElem?_take,if_pos (by simp only; omega),show (x+1).toNat+k.toNat=(x+1+k).toNat by omega];simp [List.getD_eq_getElem?_getD,hlt]
 have hw:=h.w _ (aH (0:Int) (xs:=s.1) (i:=x+1+k) (by omega) (by omega));have hw0:0<=s.1.getD (x+1+k).toNat 0:=hw.1;by_cases hz:s.1.getD (x+1+k).toNat 0=0
 ·omega
 ·have ho:s.1.getD (x+1+k).toNat 0 - 1∈ft s.1 x:=List.mem_map.2 ⟨_,List.mem_filter.2 ⟨hm,by simpa using hz⟩,rfl⟩;have:=gB (qh h.w h.chk hx ho);omega
end
end Go.Proofs.YtmfileeamnfpaaaGreatDoor
