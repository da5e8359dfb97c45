import Derived.Test.YtmfileeamnfpaaaGreatDoorM3
import Derived.ProofKit
import Derived.Deep.Slices
import Derived.SizedLaws
import GoSem.ClaimLeaving
import Derived.Test.YtmfileeamnfpaaaGreatDoorTie
import Derived.Test.YtmfileeamnfpaaaGreatDoorCards
import Derived.LaidMore
import Derived.OpenShut
import Derived.ChangeArms
import Derived.Lay
namespace Go.Proofs.YtmfileeamnfpaaaGreatDoor
open Go
set_option maxRecDepth 100000
set_option maxHeartbeats 1000000
section
abbrev yj:Ty:=.pair .bool aG
abbrev cZ:=Bool×ah
inductive Act where
 | begin
 | deed (kind v:Int) (told:Bool)
 | gaps
 | live
 | roots
def Aa (w:List UInt8):Option (Int×Bool×Act) :=
 if w=[110,101,119] then some (3,false,.begin) else
 if w=[109,97,107,101] then some (4,true,.deed 1 3 true) else
 if w=[99,111,108,108,101,99,116] then some (0,true,.deed 2 (-1) true) else
 if w=[114,101,102] then some (3,true,.deed 3 (-1) false) else
 if w=[115,101,116] then some (3,true,.deed 4 (-1) false) else
 if w=[103,101,116] then some (2,true,.deed 5 (-1) true) else
 if w=[112,117,116] then some (3,true,.deed 6 2 false) else
 if w=[112,105,110] then some (1,true,.deed 7 (-1) true) else
 if w=[117,110,112,105,110] then some (1,true,.deed 8 (-1) false) else
 if w=[112,101,101,107] then some (2,true,.deed 9 (-1) true) else
 if w=[111,112,101,110] then some (1,true,.deed 10 (-1) true) else
 if w=[117,115,101] then some (2,true,.deed 11 1 false) else
 if w=[115,104,117,116] then some (1,true,.deed 12 0 false) else
 if w=[100,114,111,112] then some (1,true,.deed 13 (-1) false) else
 if w=[103,97,112,115] then some (0,true,.gaps) else
 if w=[108,105,118,101] then some (0,true,.live) else
 if w=[114,111,111,116,115] then some (0,true,.roots) else none
def fR:List (List UInt8)->Option (List Int)
 | []=>some []
 | s::l=>if (fH s).2 then (fR l).map ((fH s).1::·) else none
def eR (v:Int) (n:List Int):List Int:=if 0<=v then n.eraseIdx v.toNat else n
def pK (d:cZ) (kind v:Int) (told:Bool) (n:List Int):(List Int×Int)×cZ :=
 if 0<=v/\n.getD v.toNat 0<0 then (([],4),d) else
 let r:=bk d.2 kind ((eR v n).getD 0 0) ((eR v n).getD 1 0) ((eR v n).getD 2 0) (if 0<=v then n.getD v.toNat 0 else 0)
 if r.2.2≠0 then (([],r.2.2),d) else ((if told then [IntKind.i64.wrap r.2.1] else [],0),(d.1,r.1))
def lQ (d:cZ) (n:List Int):Act->(List Int×Int)×cZ
 | .begin=>let r:=ar (n.getD 0 0) (n.getD 1 0) (n.getD 2 0); if r.2=0 then (([],0),(true,r.1)) else (([],r.2),d)
 | .deed kind v told=>pK d kind v told n
 | .gaps=>(((an d.2.1).1.flatMap fun g=>[g.1,g.2],(an d.2.1).2),d)
 | .live=>(([(eu d.2).1],(eu d.2).2),d)
 | .roots=>((d.2.2.1,0),d)
def aP (d:cZ) (w:List (List UInt8)):(List Int×Int)×cZ:=match Aa (w.getD 0 []) with
 | none=>(([],1),d)
 | some (many,store,a)=>if ((w.length:Nat):Int) - 1≠many then (([],3),d) else match fR w.tail with
  | none=>(([],3),d)
  | some n=>if store&&!d.1 then (([],8),d) else lQ d n a
def G0:BoxFn:={ T:=yj,Ts:=[.str],Rs:=[.dat (.arr ty_I),.dat ty_I],pre:=fun _ (line:List UInt8)=>line.length<4294967281,F:=fun (d:cZ) (line:List UInt8)=>aP d (aj line) }
def dE (k:Int):Int:=if k=1 then 3 else if k=6 then 2 else if k=11 then 1 else if k=12 then 0 else -1
def kW (k:Int) (n:List Int):L6:=(k,(eR (dE k) n).getD 0 0,(eR (dE k) n).getD 1 0,(eR (dE k) n).getD 2 0,if 0<=dE k then n.getD (dE k).toNat 0 else 0)
def E3:LoopGen:={ rd:=[],wr:=[0,0,0,0],A:=fun _=>{ cs:=[],inv:=fun _=>True,mu:=fun _=>0 } }
def Ii:Nat->Option LoopGen
 | 3000109=>some d9
 | 3000186=>some d9
 | 3000238=>some d9
 | 3000261=>some d9
 | 3000237=>some d9
 | 3000239=>some d9
 | 3000240=>some d9
 | 3000241=>some d9
 | 11000000009=>some { rd:=[.dat 34 (.arr .str)],A:=fun (w:List (List UInt8))=>{ cs:=[.own 9 3 ty_I,.dat 36 ty_I],inv:=fun ((n,i):List Int×Int)=>0<=i/\i<=(w.length:Int)/\fR (w.take i.toNat)=some n,mu:=fun ((_,i):List Int×Int)=>((w.length:Int) - i).toNat } }
 | 24000000004=>some { rd:=[.own 20 105 jp],A:=fun (g:List (Int×Int))=>{ cs:=[.own 8 3 ty_I,.dat 22 ty_I],inv:=fun ((l,i):List Int×Int)=>0<=i/\i<=(g.length:Int)/\l=(g.take i.toNat).flatMap fun x=>[x.1,x.2],mu:=fun ((_,i):List Int×Int)=>((g.length:Int) - i).toNat } }
 | 26208000004=>some E3
 | 26209000004=>some { rd:=[.box 9 oo,.own 1 3 ty_I],A:=fun ((o0,n):L6×List Int)=>{ cs:=[.box 9 oo],inv:=fun (o:L6)=>o=kW o0.1 n/\(0<=dE o0.1->0<=n.getD (dE o0.1).toNat 0),mu:=fun _=>0 } }
 | 26210000007=>some E3
 | 26210000018=>some E3
 | _=>none
theorem px (a:List Int):(an a).1.length<=256:=by
 unfold an;split
 ·simp
 ·rename_i h;exact (mU (bg (by omega)).2.2.2.1).2
theorem Jz {s:List UInt8} (h:(fH s).2=true):-1000000000000000<(fH s).1/\(fH s).1<1000000000000000:=by
 unfold fH at h |-;cases e:Lib.atoiAll s
 ·rw [e] at h;have h:=Nw h;exact ⟨h.1,h.2.1⟩
 ·rw [e] at h; cases h
 ·rw [e] at h; cases h
theorem t7:∀ (l:List (List UInt8)) (s:List UInt8) (n:List Int),fR l=some n->(fH s).2=true->fR (l++[s])=some (n++[(fH s).1])
 | [],s,n,h,hs=>by
  obtain rfl:=OF h;simp only [Oa,fR];rw [if_pos hs];rfl
 | x::l,s,n,h,hs=>by
  unfold fR at h;split at h
  ·rename_i hx;obtain ⟨m,hm,rfl⟩:=NB.1 h;simp only [Oq,fR];rw [if_pos hx,t7 l s m hm hs];rfl
  ·cases h
theorem xk:∀ (l:List (List UInt8)) (s:List UInt8),s∈l->(fH s).2=false->fR l=none
 | [],s,h,_=>by cases h
 | x::l,s,h,hs=>by
  unfold fR;split
  ·rename_i hx;rcases NG.1 h with rfl | h
   ·rw [hs] at hx; cases hx
   ·rw [xk l s h hs]; rfl
  ·rfl
theorem qm:∀ (l:List (List UInt8)) (n:List Int),fR l=some n->n.length=l.length/\∀ x∈n,-1000000000000000<x/\x<1000000000000000
 | [],n,h=>by obtain rfl:=OF h; exact ⟨rfl,fun x hx=>by cases hx⟩
 | x::l,n,h=>by
  unfold fR at h;split at h
  ·rename_i hx;obtain ⟨m,hm,rfl⟩:=NB.1 h;obtain ⟨h1,h2⟩:=qm l m hm;refine ⟨by simp [h1],fun y hy=>?_⟩;rcases NG.1 hy with rfl | hy
   ·exact Jz hx
   ·exact h2 y hy
  ·cases h
def hY (d:cZ) (w:List (List UInt8)) (many:Int) (store:Bool) (R:List Int×Int->Prop):Prop :=
  ((!true)=true->(([]:List Int),(1:Int))=(aP d w).fst/\d=(aP d w).snd) /\
  ((!true)=false->am .i64 ((w.length:Int) - 1) /\
   (decide ((w.length:Int) - 1≠many)=true->(([]:List Int),(3:Int))=(aP d w).fst/\d=(aP d w).snd) /\
   (decide ((w.length:Int) - 1≠many)=false->(0:Int)<=1/\(1:Int)<=(w.length:Int) /\
    ((0:Int)<=0/\(0:Int)<=((w.drop (Int.toNat 1)).length:Int)/\fR ((w.drop (Int.toNat 1)).take (Int.toNat 0))=some []) /\
    ∀ x:List Int×Int,(0:Int)<=x.snd/\x.snd<=((w.drop (Int.toNat 1)).length:Int)/\fR ((w.drop (Int.toNat 1)).take x.snd.toNat)=some x.fst ->
     (decide (x.snd<((w.drop (Int.toNat 1)).length:Int))=true->(0:Int)<=x.snd/\x.snd<((w.drop (Int.toNat 1)).length:Int)/\True /\
      ((!(fH ((w.drop (Int.toNat 1)).getD x.snd.toNat ([]:List UInt8))).snd)=true->(([]:List Int),(3:Int))=(aP d w).fst/\d=(aP d w).snd) /\
      ((!(fH ((w.drop (Int.toNat 1)).getD x.snd.toNat ([]:List UInt8))).snd)=false->(x.fst.length+[(fH ((w.drop (Int.toNat 1)).getD x.snd.toNat ([]:List UInt8))).fst].length) * 8<=aL/\am .i64 (x.snd+1) /\
       ((0:Int)<=x.snd+1/\x.snd+1<=((w.drop (Int.toNat 1)).length:Int)/\fR ((w.drop (Int.toNat 1)).take (x.snd+1).toNat)=some (x.fst++[(fH ((w.drop (Int.toNat 1)).getD x.snd.toNat ([]:List UInt8))).fst])) /\
       (((w.drop (Int.toNat 1)).length:Int) - (x.snd+1)).toNat<(((w.drop (Int.toNat 1)).length:Int) - x.snd).toNat)) /\
     (decide (x.snd<((w.drop (Int.toNat 1)).length:Int))=false->((store&&!d.fst)=true->(([]:List Int),(8:Int))=(aP d w).fst/\d=(aP d w).snd)/\((store&&!d.fst)=false->R x))))
abbrev z7 (k:Int) (n:List Int):Prop:=(fun (l:Int)=>((decide (0<l)=true->(0:Int)<=0/\0<l/\Int.toNat 0<n.length/\(0:Int)<=0/\0<(↑(3:Nat):Int)/\(0:Int)<=1/\1<=(↑(3:Nat):Int)/\am .i64 (0+1)/\(decide (0+1<l)=true->(0:Int)<=0+1/\0+1<l/\((0:Int)+1).toNat<n.length/\(0:Int)<=0/\0<(↑(3 - Int.toNat 1):Int)/\(0:Int)<=1/\1<=(↑(3 - Int.toNat 1):Int)/\am .i64 (0+1+1)/\(decide (0+1+1<l)=true->(0:Int)<=0+1+1/\0+1+1<l/\((0:Int)+1+1).toNat<n.length/\(0:Int)<=0/\0<(↑(3 - Int.toNat 1 - Int.toNat 1):Int)/\(0:Int)<=1/\1<=(↑(3 - Int.toNat 1 - Int.toNat 1):Int)/\am .i64 (0+1+1+1)/\(decide (0+1+1+1<l)=true->(0:Int)<=0+1+1+1/\0+1+1+1<l/\((0:Int)+1+1+1).toNat<n.length/\False)/\(decide (0+1+1+1<l)=false->(k,n.getD (Int.toNat 0) 0,n.getD ((0:Int)+1).toNat 0,n.getD ((0:Int)+1+1).toNat 0,0)=kW k n/\(0<=dE k->0<=n.getD (dE k).toNat 0)))/\(decide (0+1+1<l)=false->(k,n.getD (Int.toNat 0) 0,n.getD ((0:Int)+1).toNat 0,0,0)=kW k n/\(0<=dE k->0<=n.getD (dE k).toNat 0)))/\(decide (0+1<l)=false->(k,n.getD (Int.toNat 0) 0,0,0,0)=kW k n/\(0<=dE k->0<=n.getD (dE k).toNat 0)))/\(decide (0<l)=false->(k,0,0,0,0)=kW k n/\(0<=dE k->0<=n.getD (dE k).toNat 0)))) (n.length:Int)
abbrev Ns (x:cZ) (w:List (List UInt8)) (n:List Int):Prop:=(fun (l:Int)=>((decide (0<l)=true->(0:Int)<=0/\0<l/\Int.toNat 0<n.length/\(0:Int)<=0/\0<(↑(3:Nat):Int)/\(0:Int)<=1/\1<=(↑(3:Nat):Int)/\am .i64 (0+1)/\(decide (0+1<l)=true->(0:Int)<=0+1/\0+1<l/\((0:Int)+1).toNat<n.length/\(0:Int)<=0/\0<(↑(3 - Int.toNat 1):Int)/\(0:Int)<=1/\1<=(↑(3 - Int.toNat 1):Int)/\am .i64 (0+1+1)/\(decide (0+1+1<l)=true->(0:Int)<=0+1+1/\0+1+1<l/\((0:Int)+1+1).toNat<n.length/\(0:Int)<=0/\0<(↑(3 - Int.toNat 1 - Int.toNat 1):Int)/\(0:Int)<=1/\1<=(↑(3 - Int.toNat 1 - Int.toNat 1):Int)/\am .i64 (0+1+1+1)/\(decide (0+1+1+1<l)=true->(0:Int)<=0+1+1+1/\0+1+1+1<l/\((0:Int)+1+1+1).toNat<n.length/\(decide (n.getD ((0:Int)+1+1+1).toNat (0:Int)<0)=true->(([]:List Int),4)=(aP x w).1/\x=(aP x w).2)/\(decide (n.getD ((0:Int)+1+1+1).toNat (0:Int)<0)=false->am .i64 (0+1+1+1+1)/\(decide (0+1+1+1+1<l)=true->(0:Int)<=0+1+1+1+1/\0+1+1+1+1<l/\((0:Int)+1+1+1+1).toNat<n.length/\False)/\(decide (0+1+1+1+1<l)=false->(1,n.getD (Int.toNat 0) 0,n.getD ((0:Int)+1).toNat 0,n.getD ((0:Int)+1+1).toNat 0,IntKind.u64.wrap (n.getD ((0:Int)+1+1+1).toNat 0))=kW 1 n/\(0<=dE 1->0<=n.getD (dE 1).toNat 0))))/\(decide (0+1+1+1<l)=false->(1,n.getD (Int.toNat 0) 0,n.getD ((0:Int)+1).toNat 0,n.getD ((0:Int)+1+1).toNat 0,0)=kW 1 n/\(0<=dE 1->0<=n.getD (dE 1).toNat 0)))/\(decide (0+1+1<l)=false->(1,n.getD (Int.toNat 0) 0,n.getD ((0:Int)+1).toNat 0,0,0)=kW 1 n/\(0<=dE 1->0<=n.getD (dE 1).toNat 0)))/\(decide (0+1<l)=false->(1,n.getD (Int.toNat 0) 0,0,0,0)=kW 1 n/\(0<=dE 1->0<=n.getD (dE 1).toNat 0)))/\(decide (0<l)=false->(1,0,0,0,0)=kW 1 n/\(0<=dE 1->0<=n.getD (dE 1).toNat 0)))) (n.length:Int)
abbrev Nr (x:cZ) (w:List (List UInt8)) (n:List Int):Prop:=(fun (l:Int)=>((decide (0<l)=true->(0:Int)<=0/\0<l/\Int.toNat 0<n.length/\(0:Int)<=0/\0<(↑(3:Nat):Int)/\(0:Int)<=1/\1<=(↑(3:Nat):Int)/\am .i64 (0+1)/\(decide (0+1<l)=true->(0:Int)<=0+1/\0+1<l/\((0:Int)+1).toNat<n.length/\(0:Int)<=0/\0<(↑(3 - Int.toNat 1):Int)/\(0:Int)<=1/\1<=(↑(3 - Int.toNat 1):Int)/\am .i64 (0+1+1)/\(decide (0+1+1<l)=true->(0:Int)<=0+1+1/\0+1+1<l/\((0:Int)+1+1).toNat<n.length/\(decide (n.getD ((0:Int)+1+1).toNat (0:Int)<0)=true->(([]:List Int),4)=(aP x w).1/\x=(aP x w).2)/\(decide (n.getD ((0:Int)+1+1).toNat (0:Int)<0)=false->am .i64 (0+1+1+1)/\(decide (0+1+1+1<l)=true->(0:Int)<=0+1+1+1/\0+1+1+1<l/\((0:Int)+1+1+1).toNat<n.length/\(0:Int)<=0/\0<(↑(3 - Int.toNat 1 - Int.toNat 1):Int)/\(0:Int)<=1/\1<=(↑(3 - Int.toNat 1 - Int.toNat 1):Int)/\am .i64 (0+1+1+1+1)/\(decide (0+1+1+1+1<l)=true->(0:Int)<=0+1+1+1+1/\0+1+1+1+1<l/\((0:Int)+1+1+1+1).toNat<n.length/\False)/\(decide (0+1+1+1+1<l)=false->(6,n.getD (Int.toNat 0) 0,n.getD ((0:Int)+1).toNat 0,n.getD ((0:Int)+1+1+1).toNat 0,IntKind.u64.wrap (n.getD ((0:Int)+1+1).toNat 0))=kW 6 n/\(0<=dE 6->0<=n.getD (dE 6).toNat 0)))/\(decide (0+1+1+1<l)=false->(6,n.getD (Int.toNat 0) 0,n.getD ((0:Int)+1).toNat 0,0,IntKind.u64.wrap (n.getD ((0:Int)+1+1).toNat 0))=kW 6 n/\(0<=dE 6->0<=n.getD (dE 6).toNat 0))))/\(decide (0+1+1<l)=false->(6,n.getD (Int.toNat 0) 0,n.getD ((0:Int)+1).toNat 0,0,0)=kW 6 n/\(0<=dE 6->0<=n.getD (dE 6).toNat 0)))/\(decide (0+1<l)=false->(6,n.getD (Int.toNat 0) 0,0,0,0)=kW 6 n/\(0<=dE 6->0<=n.getD (dE 6).toNat 0)))/\(decide (0<l)=false->(6,0,0,0,0)=kW 6 n/\(0<=dE 6->0<=n.getD (dE 6).toNat 0)))) (n.length:Int)
abbrev Nf (x:cZ) (w:List (List UInt8)) (n:List Int):Prop:=(fun (l:Int)=>((decide (0<l)=true->(0:Int)<=0/\0<l/\Int.toNat 0<n.length/\(0:Int)<=0/\0<(↑(3:Nat):Int)/\(0:Int)<=1/\1<=(↑(3:Nat):Int)/\am .i64 (0+1)/\(decide (0+1<l)=true->(0:Int)<=0+1/\0+1<l/\((0:Int)+1).toNat<n.length/\(decide (n.getD ((0:Int)+1).toNat (0:Int)<0)=true->(([]:List Int),4)=(aP x w).1/\x=(aP x w).2)/\(decide (n.getD ((0:Int)+1).toNat (0:Int)<0)=false->am .i64 (0+1+1)/\(decide (0+1+1<l)=true->(0:Int)<=0+1+1/\0+1+1<l/\((0:Int)+1+1).toNat<n.length/\(0:Int)<=0/\0<(↑(3 - Int.toNat 1):Int)/\(0:Int)<=1/\1<=(↑(3 - Int.toNat 1):Int)/\am .i64 (0+1+1+1)/\(decide (0+1+1+1<l)=true->(0:Int)<=0+1+1+1/\0+1+1+1<l/\((0:Int)+1+1+1).toNat<n.length/\(0:Int)<=0/\0<(↑(3 - Int.toNat 1 - Int.toNat 1):Int)/\(0:Int)<=1/\1<=(↑(3 - Int.toNat 1 - Int.toNat 1):Int)/\am .i64 (0+1+1+1+1)/\(decide (0+1+1+1+1<l)=true->(0:Int)<=0+1+1+1+1/\0+1+1+1+1<l/\((0:Int)+1+1+1+1).toNat<n.length/\False)/\(decide (0+1+1+1+1<l)=false->(11,n.getD (Int.toNat 0) 0,n.getD ((0:Int)+1+1).toNat 0,n.getD ((0:Int)+1+1+1).toNat 0,IntKind.u64.wrap (n.getD ((0:Int)+1).toNat 0))=kW 11 n/\(0<=dE 11->0<=n.getD (dE 11).toNat 0)))/\(decide (0+1+1+1<l)=false->(11,n.getD (Int.toNat 0) 0,n.getD ((0:Int)+1+1).toNat 0,0,IntKind.u64.wrap (n.getD ((0:Int)+1).toNat 0))=kW 11 n/\(0<=dE 11->0<=n.getD (dE 11).toNat 0)))/\(decide (0+1+1<l)=false->(11,n.getD (Int.toNat 0) 0,0,0,IntKind.u64.wrap (n.getD ((0:Int)+1).toNat 0))=kW 11 n/\(0<=dE 11->0<=n.getD (dE 11).toNat 0))))/\(decide (0+1<l)=false->(11,n.getD (Int.toNat 0) 0,0,0,0)=kW 11 n/\(0<=dE 11->0<=n.getD (dE 11).toNat 0)))/\(decide (0<l)=false->(11,0,0,0,0)=kW 11 n/\(0<=dE 11->0<=n.getD (dE 11).toNat 0)))) (n.length:Int)
abbrev Nd (x:cZ) (w:List (List UInt8)) (n:List Int):Prop:=(fun (l:Int)=>((decide (0<l)=true->(0:Int)<=0/\0<l/\Int.toNat 0<n.length/\(decide (n.getD (Int.toNat 0) (0:Int)<0)=true->(([]:List Int),4)=(aP x w).1/\x=(aP x w).2)/\(decide (n.getD (Int.toNat 0) (0:Int)<0)=false->am .i64 (0+1)/\(decide (0+1<l)=true->(0:Int)<=0+1/\0+1<l/\((0:Int)+1).toNat<n.length/\(0:Int)<=0/\0<(↑(3:Nat):Int)/\(0:Int)<=1/\1<=(↑(3:Nat):Int)/\am .i64 (0+1+1)/\(decide (0+1+1<l)=true->(0:Int)<=0+1+1/\0+1+1<l/\((0:Int)+1+1).toNat<n.length/\(0:Int)<=0/\0<(↑(3 - Int.toNat 1):Int)/\(0:Int)<=1/\1<=(↑(3 - Int.toNat 1):Int)/\am .i64 (0+1+1+1)/\(decide (0+1+1+1<l)=true->(0:Int)<=0+1+1+1/\0+1+1+1<l/\((0:Int)+1+1+1).toNat<n.length/\(0:Int)<=0/\0<(↑(3 - Int.toNat 1 - Int.toNat 1):Int)/\(0:Int)<=1/\1<=(↑(3 - Int.toNat 1 - Int.toNat 1):Int)/\am .i64 (0+1+1+1+1)/\(decide (0+1+1+1+1<l)=true->(0:Int)<=0+1+1+1+1/\0+1+1+1+1<l/\((0:Int)+1+1+1+1).toNat<n.length/\False)/\(decide (0+1+1+1+1<l)=false->(12,n.getD ((0:Int)+1).toNat 0,n.getD ((0:Int)+1+1).toNat 0,n.getD ((0:Int)+1+1+1).toNat 0,IntKind.u64.wrap (n.getD (Int.toNat 0) 0))=kW 12 n/\(0<=dE 12->0<=n.getD (dE 12).toNat 0)))/\(decide (0+1+1+1<l)=false->(12,n.getD ((0:Int)+1).toNat 0,n.getD ((0:Int)+1+1).toNat 0,0,IntKind.u64.wrap (n.getD (Int.toNat 0) 0))=kW 12 n/\(0<=dE 12->0<=n.getD (dE 12).toNat 0)))/\(decide (0+1+1<l)=false->(12,n.getD ((0:Int)+1).toNat 0,0,0,IntKind.u64.wrap (n.getD (Int.toNat 0) 0))=kW 12 n/\(0<=dE 12->0<=n.getD (dE 12).toNat 0)))/\(decide (0+1<l)=false->(12,0,0,0,IntKind.u64.wrap (n.getD (Int.toNat 0) 0))=kW 12 n/\(0<=dE 12->0<=n.getD (dE 12).toNat 0))))/\(decide (0<l)=false->(12,0,0,0,0)=kW 12 n/\(0<=dE 12->0<=n.getD (dE 12).toNat 0)))) (n.length:Int)
abbrev Ik (x:cZ) (w:List (List UInt8)) (o:L6):Prop:=(fun (r:ah×Int×Int)=>True/\x.2.1=x.2.1/\x.2.2.1=x.2.2.1/\x.2.2.2.1=x.2.2.2.1/\x.2.2.2.2=x.2.2.2.2/\o.1=o.1/\o.2.1=o.2.1/\o.2.2.1=o.2.2.1/\o.2.2.2.1=o.2.2.2.1/\o.2.2.2.2=o.2.2.2.2/\True/\r.1.1=r.1.1/\r.1.2.1=r.1.2.1/\r.1.2.2.1=r.1.2.2.1/\r.1.2.2.2=r.1.2.2.2/\r.2.1=r.2.1/\r.2.2=r.2.2/\r.1.1=r.1.1/\r.1.2.1=r.1.2.1/\r.1.2.2.1=r.1.2.2.1/\r.1.2.2.2=r.1.2.2.2/\r.2.1=r.2.1/\r.2.2=r.2.2/\r.1.1=r.1.1/\r.1.2.1=r.1.2.1/\r.1.2.2.1=r.1.2.2.1/\r.1.2.2.2=r.1.2.2.2/\r.2.1=r.2.1/\r.2.1=r.2.1/\r.2.2=r.2.2/\r.2.2=r.2.2/\r.2.2=r.2.2/\(decide (r.2.2≠0)=true->(([]:List Int),r.2.2)=(aP x w).1/\x=(aP x w).2)/\(decide (r.2.2≠0)=false->([IntKind.i64.wrap r.2.1],0)=(aP x w).1/\(x.1,r.1)=(aP x w).2)) (bk x.2 o.1 o.2.1 o.2.2.1 o.2.2.2.1 o.2.2.2.2)
abbrev Gc (x:cZ) (w:List (List UInt8)) (o:L6):Prop:=(fun (r:ah×Int×Int)=>True/\x.2.1=x.2.1/\x.2.2.1=x.2.2.1/\x.2.2.2.1=x.2.2.2.1/\x.2.2.2.2=x.2.2.2.2/\o.1=o.1/\o.2.1=o.2.1/\o.2.2.1=o.2.2.1/\o.2.2.2.1=o.2.2.2.1/\o.2.2.2.2=o.2.2.2.2/\True/\r.1.1=r.1.1/\r.1.2.1=r.1.2.1/\r.1.2.2.1=r.1.2.2.1/\r.1.2.2.2=r.1.2.2.2/\r.2.1=r.2.1/\r.2.2=r.2.2/\r.1.1=r.1.1/\r.1.2.1=r.1.2.1/\r.1.2.2.1=r.1.2.2.1/\r.1.2.2.2=r.1.2.2.2/\r.2.1=r.2.1/\r.2.2=r.2.2/\r.1.1=r.1.1/\r.1.2.1=r.1.2.1/\r.1.2.2.1=r.1.2.2.1/\r.1.2.2.2=r.1.2.2.2/\r.2.1=r.2.1/\r.2.1=r.2.1/\r.2.2=r.2.2/\r.2.2=r.2.2/\r.2.2=r.2.2/\(decide (r.2.2≠0)=true->(([]:List Int),r.2.2)=(aP x w).1/\x=(aP x w).2)/\(decide (r.2.2≠0)=false->(([]:List Int),0)=(aP x w).1/\(x.1,r.1)=(aP x w).2)) (bk x.2 o.1 o.2.1 o.2.2.1 o.2.2.2.1 o.2.2.2.2)
abbrev kU (U:Prop) (D:L6->Prop) (k:Int) (n:List Int):Prop:=U/\∀ o:L6,o=kW k n/\(0<=dE k->0<=n.getD (dE k).toNat 0)->D o
theorem dP {d:cZ} {w:List (List UInt8)} {many:Int} {store:Bool} {a:Act} {R:List Int×Int->Prop} (h0:0<w.length) (hb:w.length<=4294967281) (hw:Aa (w.getD 0 [])=some (many,store,a))
  (hR:∀ x:List Int×Int,(x.1.length:Int)=many->(∀ v∈x.1,-1000000000000000<v/\v<1000000000000000)->(store&&!d.1)=false->aP d w=lQ d x.1 a->R x) :
  hY d w many store R:=by
 unfold hY;have e1:w.drop (Int.toNat 1)=w.tail:=by simp
 have hL:aP d w=if ((w.length:Nat):Int) - 1≠many then (([],3),d) else match fR w.tail with
  | none=>(([],3),d)
  | some n=>if store&&!d.1 then (([],8),d) else lQ d n a:=by unfold aP; rw [hw]
 rw [e1];have ht:w.tail.length=w.length - 1:=by simp
 refine ⟨fun h=>(by cases h),fun _=>⟨(by simp only [am]; omega),fun h=>?_,fun h=>?_⟩⟩
 ·rw [hL,if_pos (Nw h)];exact ⟨rfl,rfl⟩
 rw [if_neg (Nx h)] at hL;have h:=Nx h;refine ⟨by omega,by omega,⟨by omega,by omega,rfl⟩,fun x ⟨x0,x1,x2⟩=>⟨fun hlt=>?_,fun hge=>?_⟩⟩
 ·have hlt:=Nw hlt;have hl:=(qm _ _ x2).1;rw [NN] at hl;refine ⟨x0,hlt,trivial,fun hn=>?_,fun hn=>?_⟩
  ·have hn:(fH (w.tail.getD x.2.toNat [])).2=false:=by simpa using hn
   rw [xk w.tail _ (aH [] x0 hlt) hn] at hL;rw [hL];exact ⟨rfl,rfl⟩
  ·have hn:(fH (w.tail.getD x.2.toNat [])).2=true:=by simpa using hn
   unfold aL;simp only [NC,N8,am];refine ⟨by omega,by omega,⟨by omega,by omega,?_⟩,by omega⟩;rw [bx ([]:List UInt8) x0 hlt];exact t7 _ _ _ x2 hn
 ·have hge:=Nx hge;rw [NP (by omega)] at x2;rw [x2] at hL;obtain ⟨hl,hin⟩:=qm _ _ x2;refine ⟨fun hs=>?_,fun hs=>?_⟩
  ·simp only [hs,if_true] at hL;rw [hL];exact ⟨rfl,rfl⟩
  ·simp only [hs,NJ,N4] at hL;exact hR x (by omega) hin hs hL
theorem dh {d:cZ} {k:Int} {told:Bool} {n:List Int} (hv:0<=dE k->0<=n.getD (dE k).toNat 0) {o:L6} (ho:o=kW k n) :
  pK d k (dE k) told n=if (bk d.2 o.1 o.2.1 o.2.2.1 o.2.2.2.1 o.2.2.2.2).2.2≠0 then (([],(bk d.2 o.1 o.2.1 o.2.2.1 o.2.2.2.1 o.2.2.2.2).2.2),d) else ((if told then [IntKind.i64.wrap (bk d.2 o.1 o.2.1 o.2.2.1 o.2.2.2.1 o.2.2.2.2).2.1] else [],0),(d.1,(bk d.2 o.1 o.2.1 o.2.2.1 o.2.2.2.1 o.2.2.2.2).1)):=by
 subst ho;unfold pK;rw [if_neg (fun h=>by have:=hv h.1; omega)];rfl
theorem pJ {d:cZ} {k:Int} {told:Bool} {n:List Int} (h0:0<=dE k) (hv:n.getD (dE k).toNat 0<0):pK d k (dE k) told n=(([],4),d):=by
 unfold pK;rw [if_pos ⟨h0,hv⟩]
theorem dr {r:ah×Int×Int} {d:cZ} {x:(List Int×Int)×cZ} {l:List Int} (h:x=if r.2.2≠0 then (([],r.2.2),d) else ((l,0),(d.1,r.1))) :
  (decide (r.2.2≠0)=true->(([]:List Int),r.2.2)=x.1/\d=x.2)/\(decide (r.2.2≠0)=false->(l,(0:Int))=x.1/\(d.1,r.1)=x.2):=by
 refine ⟨fun h1=>?_,fun h1=>?_⟩
 ·rw [h,if_pos (Nw h1)];exact ⟨rfl,rfl⟩
 ·rw [h,if_neg (Nx h1)];exact ⟨rfl,rfl⟩
theorem JH {n:List Int} (h:n.length=0):n=[]:=by
 match n,h with
 | [],_=>exact rfl
theorem mj {n:List Int} (h:n.length=1):∃ n0,n=[n0]:=by
 match n,h with
 | [a0],_=>exact ⟨_,rfl⟩
theorem ug {n:List Int} (h:n.length=2):∃ n0 n1,n=[n0,n1]:=by
 match n,h with
 | [a0,a1],_=>exact ⟨_,_,rfl⟩
theorem pi {n:List Int} (h:n.length=3):∃ n0 n1 n2,n=[n0,n1,n2]:=by
 match n,h with
 | [a0,a1,a2],_=>exact ⟨_,_,_,rfl⟩
theorem JG {n:List Int} (h:n.length=4):∃ n0 n1 n2 n3,n=[n0,n1,n2,n3]:=by
 match n,h with
 | [a0,a1,a2,a3],_=>exact ⟨_,_,_,_,rfl⟩
def w7:Prop :=
  ∀ (x:Bool×List Int×List Int×List (Int×Int)×List (Int×Bool×Int)) (y:List UInt8),(True/\ol x.2)->y.length<=aL->y.length<4294967281->∀ (_:Array Value),([(32:UInt8)]=[(32:UInt8)]/\y.length<4294967281)/\(0:Int)<=0/\0<(↑(aj y).length:Int)/\∀ (_:Array Value),(decide ((aj y).getD (Int.toNat 0) ([]:List UInt8)=[(110:UInt8),(101:UInt8),(119:UInt8)])=true->hY x (aj y) 3 false (fun (x_1:List Int×Int)=>∀ (_:Array Value),(0:Int)<=0/\0<(x_1.1.length:Int)/\Int.toNat 0<x_1.1.length/\(0:Int)<=1/\1<(x_1.1.length:Int)/\Int.toNat 1<x_1.1.length/\(0:Int)<=2/\2<(x_1.1.length:Int)/\Int.toNat 2<x_1.1.length/\True/\(0:Int)<=0/\0<(x_1.1.length:Int)/\Int.toNat 0=Int.toNat 0/\Int.toNat 0<x_1.1.length/\x_1.1.getD (Int.toNat 0) 0=x_1.1.getD (Int.toNat 0) 0/\(0:Int)<=1/\1<(x_1.1.length:Int)/\Int.toNat 1=Int.toNat 1/\Int.toNat 1<x_1.1.length/\x_1.1.getD (Int.toNat 1) 0=x_1.1.getD (Int.toNat 1) 0/\(0:Int)<=2/\2<(x_1.1.length:Int)/\Int.toNat 2=Int.toNat 2/\Int.toNat 2<x_1.1.length/\x_1.1.getD (Int.toNat 2) 0=x_1.1.getD (Int.toNat 2) 0/\True/\(ar (x_1.1.getD (Int.toNat 0) 0) (x_1.1.getD (Int.toNat 1) 0) (x_1.1.getD (Int.toNat 2) 0)).1.1=(ar (x_1.1.getD (Int.toNat 0) 0) (x_1.1.getD (Int.toNat 1) 0) (x_1.1.getD (Int.toNat 2) 0)).1.1/\(ar (x_1.1.getD (Int.toNat 0) 0) (x_1.1.getD (Int.toNat 1) 0) (x_1.1.getD (Int.toNat 2) 0)).1.2.1=(ar (x_1.1.getD (Int.toNat 0) 0) (x_1.1.getD (Int.toNat 1) 0) (x_1.1.getD (Int.toNat 2) 0)).1.2.1/\(ar (x_1.1.getD (Int.toNat 0) 0) (x_1.1.getD (Int.toNat 1) 0) (x_1.1.getD (Int.toNat 2) 0)).1.2.2.1=(ar (x_1.1.getD (Int.toNat 0) 0) (x_1.1.getD (Int.toNat 1) 0) (x_1.1.getD (Int.toNat 2) 0)).1.2.2.1/\(ar (x_1.1.getD (Int.toNat 0) 0) (x_1.1.getD (Int.toNat 1) 0) (x_1.1.getD (Int.toNat 2) 0)).1.2.2.2=(ar (x_1.1.getD (Int.toNat 0) 0) (x_1.1.getD (Int.toNat 1) 0) (x_1.1.getD (Int.toNat 2) 0)).1.2.2.2/\(ar (x_1.1.getD (Int.toNat 0) 0) (x_1.1.getD (Int.toNat 1) 0) (x_1.1.getD (Int.toNat 2) 0)).2=(ar (x_1.1.getD (Int.toNat 0) 0) (x_1.1.getD (Int.toNat 1) 0) (x_1.1.getD (Int.toNat 2) 0)).2/\(ar (x_1.1.getD (Int.toNat 0) 0) (x_1.1.getD (Int.toNat 1) 0) (x_1.1.getD (Int.toNat 2) 0)).1.1=(ar (x_1.1.getD (Int.toNat 0) 0) (x_1.1.getD (Int.toNat 1) 0) (x_1.1.getD (Int.toNat 2) 0)).1.1/\(ar (x_1.1.getD (Int.toNat 0) 0) (x_1.1.getD (Int.toNat 1) 0) (x_1.1.getD (Int.toNat 2) 0)).1.2.1=(ar (x_1.1.getD (Int.toNat 0) 0) (x_1.1.getD (Int.toNat 1) 0) (x_1.1.getD (Int.toNat 2) 0)).1.2.1/\(ar (x_1.1.getD (Int.toNat 0) 0) (x_1.1.getD (Int.toNat 1) 0) (x_1.1.getD (Int.toNat 2) 0)).1.2.2.1=(ar (x_1.1.getD (Int.toNat 0) 0) (x_1.1.getD (Int.toNat 1) 0) (x_1.1.getD (Int.toNat 2) 0)).1.2.2.1/\(ar (x_1.1.getD (Int.toNat 0) 0) (x_1.1.getD (Int.toNat 1) 0) (x_1.1.getD (Int.toNat 2) 0)).1.2.2.2=(ar (x_1.1.getD (Int.toNat 0) 0) (x_1.1.getD (Int.toNat 1) 0) (x_1.1.getD (Int.toNat 2) 0)).1.2.2.2/\(ar (x_1.1.getD (Int.toNat 0) 0) (x_1.1.getD (Int.toNat 1) 0) (x_1.1.getD (Int.toNat 2) 0)).2=(ar (x_1.1.getD (Int.toNat 0) 0) (x_1.1.getD (Int.toNat 1) 0) (x_1.1.getD (Int.toNat 2) 0)).2/\(ar (x_1.1.getD (Int.toNat 0) 0) (x_1.1.getD (Int.toNat 1) 0) (x_1.1.getD (Int.toNat 2) 0)).1.1=(ar (x_1.1.getD (Int.toNat 0) 0) (x_1.1.getD (Int.toNat 1) 0) (x_1.1.getD (Int.toNat 2) 0)).1.1/\(ar (x_1.1.getD (Int.toNat 0) 0) (x_1.1.getD (Int.toNat 1) 0) (x_1.1.getD (Int.toNat 2) 0)).1.2.1=(ar (x_1.1.getD (Int.toNat 0) 0) (x_1.1.getD (Int.toNat 1) 0) (x_1.1.getD (Int.toNat 2) 0)).1.2.1/\(ar (x_1.1.getD (Int.toNat 0) 0) (x_1.1.getD (Int.toNat 1) 0) (x_1.1.getD (Int.toNat 2) 0)).1.2.2.1=(ar (x_1.1.getD (Int.toNat 0) 0) (x_1.1.getD (Int.toNat 1) 0) (x_1.1.getD (Int.toNat 2) 0)).1.2.2.1/\(ar (x_1.1.getD (Int.toNat 0) 0) (x_1.1.getD (Int.toNat 1) 0) (x_1.1.getD (Int.toNat 2) 0)).1.2.2.2=(ar (x_1.1.getD (Int.toNat 0) 0) (x_1.1.getD (Int.toNat 1) 0) (x_1.1.getD (Int.toNat 2) 0)).1.2.2.2/\(ar (x_1.1.getD (Int.toNat 0) 0) (x_1.1.getD (Int.toNat 1) 0) (x_1.1.getD (Int.toNat 2) 0)).2=(ar (x_1.1.getD (Int.toNat 0) 0) (x_1.1.getD (Int.toNat 1) 0) (x_1.1.getD (Int.toNat 2) 0)).2/\(ar (x_1.1.getD (Int.toNat 0) 0) (x_1.1.getD (Int.toNat 1) 0) (x_1.1.getD (Int.toNat 2) 0)).2=(ar (x_1.1.getD (Int.toNat 0) 0) (x_1.1.getD (Int.toNat 1) 0) (x_1.1.getD (Int.toNat 2) 0)).2/\(decide ((ar (x_1.1.getD (Int.toNat 0) 0) (x_1.1.getD (Int.toNat 1) 0) (x_1.1.getD (Int.toNat 2) 0)).2=0)=true->(([]:List Int),(ar (x_1.1.getD (Int.toNat 0) 0) (x_1.1.getD (Int.toNat 1) 0) (x_1.1.getD (Int.toNat 2) 0)).2)=(aP x (aj y)).1/\(true,(ar (x_1.1.getD (Int.toNat 0) 0) (x_1.1.getD (Int.toNat 1) 0) (x_1.1.getD (Int.toNat 2) 0)).1)=(aP x (aj y)).2)/\(decide ((ar (x_1.1.getD (Int.toNat 0) 0) (x_1.1.getD (Int.toNat 1) 0) (x_1.1.getD (Int.toNat 2) 0)).2=0)=false->(([]:List Int),(ar (x_1.1.getD (Int.toNat 0) 0) (x_1.1.getD (Int.toNat 1) 0) (x_1.1.getD (Int.toNat 2) 0)).2)=(aP x (aj y)).1/\x=(aP x (aj y)).2)))/\(decide ((aj y).getD (Int.toNat 0) ([]:List UInt8)=[(110:UInt8),(101:UInt8),(119:UInt8)])=false->(decide ((aj y).getD (Int.toNat 0) ([]:List UInt8)=[(109:UInt8),(97:UInt8),(107:UInt8),(101:UInt8)])=true->∀ (_:Array Value),hY x (aj y) 4 true (fun (x_1:List Int×Int)=>∀ (_:Array Value),kU (Ns x (aj y) x_1.1) (Ik x (aj y)) 1 x_1.1))/\(decide ((aj y).getD (Int.toNat 0) ([]:List UInt8)=[(109:UInt8),(97:UInt8),(107:UInt8),(101:UInt8)])=false->(decide ((aj y).getD (Int.toNat 0) ([]:List UInt8)=[(99:UInt8),(111:UInt8),(108:UInt8),(108:UInt8),(101:UInt8),(99:UInt8),(116:UInt8)])=true->∀ (_:Array Value),hY x (aj y) 0 true (fun (x_1:List Int×Int)=>∀ (_:Array Value),kU (z7 2 x_1.1) (Ik x (aj y)) 2 x_1.1))/\(decide ((aj y).getD (Int.toNat 0) ([]:List UInt8)=[(99:UInt8),(111:UInt8),(108:UInt8),(108:UInt8),(101:UInt8),(99:UInt8),(116:UInt8)])=false->(decide ((aj y).getD (Int.toNat 0) ([]:List UInt8)=[(114:UInt8),(101:UInt8),(102:UInt8)])=true->∀ (_:Array Value),hY x (aj y) 3 true (fun (x_1:List Int×Int)=>∀ (_:Array Value),kU (z7 3 x_1.1) (Gc x (aj y)) 3 x_1.1))/\(decide ((aj y).getD (Int.toNat 0) ([]:List UInt8)=[(114:UInt8),(101:UInt8),(102:UInt8)])=false->(decide ((aj y).getD (Int.toNat 0) ([]:List UInt8)=[(115:UInt8),(101:UInt8),(116:UInt8)])=true->∀ (_:Array Value),hY x (aj y) 3 true (fun (x_1:List Int×Int)=>∀ (_:Array Value),kU (z7 4 x_1.1) (Gc x (aj y)) 4 x_1.1))/\(decide ((aj y).getD (Int.toNat 0) ([]:List UInt8)=[(115:UInt8),(101:UInt8),(116:UInt8)])=false->(decide ((aj y).getD (Int.toNat 0) ([]:List UInt8)=[(103:UInt8),(101:UInt8),(116:UInt8)])=true->∀ (_:Array Value),hY x (aj y) 2 true (fun (x_1:List Int×Int)=>∀ (_:Array Value),kU (z7 5 x_1.1) (Ik x (aj y)) 5 x_1.1))/\(decide ((aj y).getD (Int.toNat 0) ([]:List UInt8)=[(103:UInt8),(101:UInt8),(116:UInt8)])=false->(decide ((aj y).getD (Int.toNat 0) ([]:List UInt8)=[(112:UInt8),(117:UInt8),(116:UInt8)])=true->∀ (_:Array Value),hY x (aj y) 3 true (fun (x_1:List Int×Int)=>∀ (_:Array Value),kU (Nr x (aj y) x_1.1) (Gc x (aj y)) 6 x_1.1))/\(decide ((aj y).getD (Int.toNat 0) ([]:List UInt8)=[(112:UInt8),(117:UInt8),(116:UInt8)])=false->(decide ((aj y).getD (Int.toNat 0) ([]:List UInt8)=[(112:UInt8),(105:UInt8),(110:UInt8)])=true->∀ (_:Array Value),hY x (aj y) 1 true (fun (x_1:List Int×Int)=>∀ (_:Array Value),kU (z7 7 x_1.1) (Ik x (aj y)) 7 x_1.1))/\(decide ((aj y).getD (Int.toNat 0) ([]:List UInt8)=[(112:UInt8),(105:UInt8),(110:UInt8)])=false->(decide ((aj y).getD (Int.toNat 0) ([]:List UInt8)=[(117:UInt8),(110:UInt8),(112:UInt8),(105:UInt8),(110:UInt8)])=true->∀ (_:Array Value),hY x (aj y) 1 true (fun (x_1:List Int×Int)=>∀ (_:Array Value),kU (z7 8 x_1.1) (Gc x (aj y)) 8 x_1.1))/\(decide ((aj y).getD (Int.toNat 0) ([]:List UInt8)=[(117:UInt8),(110:UInt8),(112:UInt8),(105:UInt8),(110:UInt8)])=false->(decide ((aj y).getD (Int.toNat 0) ([]:List UInt8)=[(112:UInt8),(101:UInt8),(101:UInt8),(107:UInt8)])=true->∀ (_:Array Value),hY x (aj y) 2 true (fun (x_1:List Int×Int)=>∀ (_:Array Value),kU (z7 9 x_1.1) (Ik x (aj y)) 9 x_1.1))/\(decide ((aj y).getD (Int.toNat 0) ([]:List UInt8)=[(112:UInt8),(101:UInt8),(101:UInt8),(107:UInt8)])=false->(decide ((aj y).getD (Int.toNat 0) ([]:List UInt8)=[(111:UInt8),(112:UInt8),(101:UInt8),(110:UInt8)])=true->∀ (_:Array Value),hY x (aj y) 1 true (fun (x_1:List Int×Int)=>∀ (_:Array Value),kU (z7 10 x_1.1) (Ik x (aj y)) 10 x_1.1))/\(decide ((aj y).getD (Int.toNat 0) ([]:List UInt8)=[(111:UInt8),(112:UInt8),(101:UInt8),(110:UInt8)])=false->(decide ((aj y).getD (Int.toNat 0) ([]:List UInt8)=[(117:UInt8),(115:UInt8),(101:UInt8)])=true->∀ (_:Array Value),hY x (aj y) 2 true (fun (x_1:List Int×Int)=>∀ (_:Array Value),kU (Nf x (aj y) x_1.1) (Gc x (aj y)) 11 x_1.1))/\(decide ((aj y).getD (Int.toNat 0) ([]:List UInt8)=[(117:UInt8),(115:UInt8),(101:UInt8)])=false->(decide ((aj y).getD (Int.toNat 0) ([]:List UInt8)=[(115:UInt8),(104:UInt8),(117:UInt8),(116:UInt8)])=true->∀ (_:Array Value),hY x (aj y) 1 true (fun (x_1:List Int×Int)=>∀ (_:Array Value),kU (Nd x (aj y) x_1.1) (Gc x (aj y)) 12 x_1.1))/\(decide ((aj y).getD (Int.toNat 0) ([]:List UInt8)=[(115:UInt8),(104:UInt8),(117:UInt8),(116:UInt8)])=false->(decide ((aj y).getD (Int.toNat 0) ([]:List UInt8)=[(100:UInt8),(114:UInt8),(111:UInt8),(112:UInt8)])=true->∀ (_:Array Value),hY x (aj y) 1 true (fun (x_1:List Int×Int)=>∀ (_:Array Value),kU (z7 13 x_1.1) (Gc x (aj y)) 13 x_1.1))/\(decide ((aj y).getD (Int.toNat 0) ([]:List UInt8)=[(100:UInt8),(114:UInt8),(111:UInt8),(112:UInt8)])=false->(decide ((aj y).getD (Int.toNat 0) ([]:List UInt8)=[(103:UInt8),(97:UInt8),(112:UInt8),(115:UInt8)])=true->hY x (aj y) 0 true (fun (_:List Int×Int)=>∀ (_:Array Value),True/\((0:Int)<=0/\0<=(↑(an x.2.1).1.length:Int)/\([]:List Int)=List.flatMap (fun (x:Int×Int)=>[x.1,x.2]) (List.take (Int.toNat 0) (an x.2.1).1))/\∀ (x_2:List Int×Int),0<=x_2.2/\x_2.2<=(↑(an x.2.1).1.length:Int)/\x_2.1=List.flatMap (fun (x:Int×Int)=>[x.1,x.2]) (List.take x_2.2.toNat (an x.2.1).1)->(decide (x_2.2<(↑(an x.2.1).1.length:Int))=true->0<=x_2.2/\x_2.2<(↑(an x.2.1).1.length:Int)/\x_2.2.toNat<(an x.2.1).1.length/\(x_2.1.length+[((an x.2.1).1.getD x_2.2.toNat (0,0)).1,((an x.2.1).1.getD x_2.2.toNat (0,0)).2].length) * 8<=aL/\am .i64 (x_2.2+1)/\(0<=x_2.2+1/\x_2.2+1<=(↑(an x.2.1).1.length:Int)/\x_2.1++[((an x.2.1).1.getD x_2.2.toNat (0,0)).1,((an x.2.1).1.getD x_2.2.toNat (0,0)).2]=List.flatMap (fun (x:Int×Int)=>[x.1,x.2]) (List.take (x_2.2+1).toNat (an x.2.1).1))/\((↑(an x.2.1).1.length:Int) - (x_2.2+1)).toNat<((↑(an x.2.1).1.length:Int) - x_2.2).toNat)/\(decide (x_2.2<(↑(an x.2.1).1.length:Int))=false->(x_2.1,(an x.2.1).2)=(aP x (aj y)).1/\x=(aP x (aj y)).2)))/\(decide ((aj y).getD (Int.toNat 0) ([]:List UInt8)=[(103:UInt8),(97:UInt8),(112:UInt8),(115:UInt8)])=false->(decide ((aj y).getD (Int.toNat 0) ([]:List UInt8)=[(108:UInt8),(105:UInt8),(118:UInt8),(101:UInt8)])=true->hY x (aj y) 0 true (fun (_:List Int×Int)=>∀ (_:Array Value),True/\([(eu x.2).1],(eu x.2).2)=(aP x (aj y)).1/\x=(aP x (aj y)).2))/\(decide ((aj y).getD (Int.toNat 0) ([]:List UInt8)=[(108:UInt8),(105:UInt8),(118:UInt8),(101:UInt8)])=false->(decide ((aj y).getD (Int.toNat 0) ([]:List UInt8)=[(114:UInt8),(111:UInt8),(111:UInt8),(116:UInt8),(115:UInt8)])=true->hY x (aj y) 0 true (fun (_:List Int×Int)=>∀ (_:Array Value),(x.2.2.1,0)=(aP x (aj y)).1/\x=(aP x (aj y)).2))/\(decide ((aj y).getD (Int.toNat 0) ([]:List UInt8)=[(114:UInt8),(111:UInt8),(111:UInt8),(116:UInt8),(115:UInt8)])=false->((!false)=true->(([]:List Int),1)=(aP x (aj y)).1/\x=(aP x (aj y)).2)/\((!false)=false->am .i64 ((↑(aj y).length:Int) - 1)/\(decide ((↑(aj y).length:Int) - 1≠0)=true->(([]:List Int),3)=(aP x (aj y)).1/\x=(aP x (aj y)).2)/\(decide ((↑(aj y).length:Int) - 1≠0)=false->(0:Int)<=1/\1<=(↑(aj y).length:Int)/\((0:Int)<=0/\0<=(↑(List.drop (Int.toNat 1) (aj y)).length:Int)/\fR (List.take (Int.toNat 0) (List.drop (Int.toNat 1) (aj y)))=some ([]:List Int))/\∀ (x_1:List Int×Int),0<=x_1.2/\x_1.2<=(↑(List.drop (Int.toNat 1) (aj y)).length:Int)/\fR (List.take x_1.2.toNat (List.drop (Int.toNat 1) (aj y)))=some x_1.1->(decide (x_1.2<(↑(List.drop (Int.toNat 1) (aj y)).length:Int))=true->0<=x_1.2/\x_1.2<(↑(List.drop (Int.toNat 1) (aj y)).length:Int)/\True/\((!(fH ((List.drop (Int.toNat 1) (aj y)).getD x_1.2.toNat ([]:List UInt8))).2)=true->(([]:List Int),3)=(aP x (aj y)).1/\x=(aP x (aj y)).2)/\((!(fH ((List.drop (Int.toNat 1) (aj y)).getD x_1.2.toNat ([]:List UInt8))).2)=false->(x_1.1.length+[(fH ((List.drop (Int.toNat 1) (aj y)).getD x_1.2.toNat ([]:List UInt8))).1].length) * 8<=aL/\am .i64 (x_1.2+1)/\(0<=x_1.2+1/\x_1.2+1<=(↑(List.drop (Int.toNat 1) (aj y)).length:Int)/\fR (List.take (x_1.2+1).toNat (List.drop (Int.toNat 1) (aj y)))=some (x_1.1++[(fH ((List.drop (Int.toNat 1) (aj y)).getD x_1.2.toNat ([]:List UInt8))).1]))/\((↑(List.drop (Int.toNat 1) (aj y)).length:Int) - (x_1.2+1)).toNat<((↑(List.drop (Int.toNat 1) (aj y)).length:Int) - x_1.2).toNat))/\(decide (x_1.2<(↑(List.drop (Int.toNat 1) (aj y)).length:Int))=false->((false&&!x.1)=true->(([]:List Int),8)=(aP x (aj y)).1/\x=(aP x (aj y)).2)/\((false&&!x.1)=false->False)))))))))))))))))))))
theorem Dv:w7:=by
 unfold w7;intro d line hT _ hp tm;have h0:0<(aj line).length:=List.length_pos_iff.2 (wB line)
 have hb:(aj line).length<=4294967281:=by
  have h1:=iV line;have h2:line.count 32<=line.length:=List.count_le_length;omega
 refine ⟨⟨rfl,hp⟩,by omega,by omega,fun tm=>?_⟩;generalize aj line=w at *;refine ⟨fun h=>?_,fun h1=>⟨fun h=>?_,fun h2=>⟨fun h=>?_,fun h3=>⟨fun h=>?_,fun h4=>⟨fun h=>?_,fun h5=>⟨fun h=>?_,fun h6=>⟨fun h=>?_,fun h7=>⟨fun h=>?_,fun h8=>⟨fun h=>?_,fun h9=>⟨fun h=>?_,fun h10=>⟨fun h=>?_,fun h11=>⟨fun h=>?_,fun h12=>⟨fun h=>?_,fun h13=>⟨fun h=>?_,fun h14=>⟨fun h=>?_,fun h15=>⟨fun h=>?_,fun h16=>⟨fun h=>?_,fun h17=>?_⟩⟩⟩⟩⟩⟩⟩⟩⟩⟩⟩⟩⟩⟩⟩⟩⟩
 ·refine dP (a:=.begin) h0 hb (by rw [show w.getD 0 []=[110,101,119] from Nw h]; rfl) fun ⟨n,i⟩ hn hin hs hL=>?_
  simp only at hn hin hL |-;obtain ⟨n0,n1,n2,rfl⟩:=pi (n:=n) (by omega);intro tm;rw [hL];simp [lQ];by_cases e:(ar n0 n1 n2).2=0 <;> simp [e]
 ·intro tm;refine dP (a:=.deed 1 (dE 1) true) h0 hb (by rw [show w.getD 0 []=[109,97,107,101] from Nw h]; rfl) fun ⟨n,i⟩ hn hin hs hL tm=>?_
  simp only at hn hin hL |-;obtain ⟨n0,n1,n2,n3,rfl⟩:∃ n0 n1 n2 n3,n=[n0,n1,n2,n3]:=JG (by omega);refine ⟨?_,fun o ⟨ho,hv⟩=>?_⟩
  ·simp [Ns,kW,dE,eR,am];refine ⟨fun hneg=>?_,fun h0=>⟨fP h0 (by have:=hin n3 (by simp); omega),h0⟩⟩;have hN:=pJ (d:=d) (k:=1) (told:=true) (n:=[n0,n1,n2,n3]) (by decide) hneg;rw [hL.trans hN];exact ⟨rfl,rfl⟩
  ·have hE:=dh (d:=d) (told:=true) hv ho;have hT:=dr (hL.trans hE);simpa [Ik] using hT
 ·intro tm;refine dP (a:=.deed 2 (dE 2) true) h0 hb (by rw [show w.getD 0 []=[99,111,108,108,101,99,116] from Nw h]; rfl) fun ⟨n,i⟩ hn hin hs hL tm=>?_
  simp only at hn hin hL |-;obtain rfl:n=[]:=JH (by omega);refine ⟨?_,fun o ⟨ho,hv⟩=>?_⟩
  ·simp [z7,kW,dE,eR,am]
  ·have hE:=dh (d:=d) (told:=true) hv ho;have hT:=dr (hL.trans hE);simpa [Ik] using hT
 ·intro tm;refine dP (a:=.deed 3 (dE 3) false) h0 hb (by rw [show w.getD 0 []=[114,101,102] from Nw h]; rfl) fun ⟨n,i⟩ hn hin hs hL tm=>?_
  simp only at hn hin hL |-;obtain ⟨n0,n1,n2,rfl⟩:∃ n0 n1 n2,n=[n0,n1,n2]:=pi (by omega);refine ⟨?_,fun o ⟨ho,hv⟩=>?_⟩
  ·simp [z7,kW,dE,eR,am]
  ·have hE:=dh (d:=d) (told:=false) hv ho;have hT:=dr (hL.trans hE);simpa [Gc] using hT
 ·intro tm;refine dP (a:=.deed 4 (dE 4) false) h0 hb (by rw [show w.getD 0 []=[115,101,116] from Nw h]; rfl) fun ⟨n,i⟩ hn hin hs hL tm=>?_
  simp only at hn hin hL |-;obtain ⟨n0,n1,n2,rfl⟩:∃ n0 n1 n2,n=[n0,n1,n2]:=pi (by omega);refine ⟨?_,fun o ⟨ho,hv⟩=>?_⟩
  ·simp [z7,kW,dE,eR,am]
  ·have hE:=dh (d:=d) (told:=false) hv ho;have hT:=dr (hL.trans hE);simpa [Gc] using hT
 ·intro tm;refine dP (a:=.deed 5 (dE 5) true) h0 hb (by rw [show w.getD 0 []=[103,101,116] from Nw h]; rfl) fun ⟨n,i⟩ hn hin hs hL tm=>?_
  simp only at hn hin hL |-;obtain ⟨n0,n1,rfl⟩:∃ n0 n1,n=[n0,n1]:=ug (by omega);refine ⟨?_,fun o ⟨ho,hv⟩=>?_⟩
  ·simp [z7,kW,dE,eR,am]
  ·have hE:=dh (d:=d) (told:=true) hv ho;have hT:=dr (hL.trans hE);simpa [Ik] using hT
 ·intro tm;refine dP (a:=.deed 6 (dE 6) false) h0 hb (by rw [show w.getD 0 []=[112,117,116] from Nw h]; rfl) fun ⟨n,i⟩ hn hin hs hL tm=>?_
  simp only at hn hin hL |-;obtain ⟨n0,n1,n2,rfl⟩:∃ n0 n1 n2,n=[n0,n1,n2]:=pi (by omega);refine ⟨?_,fun o ⟨ho,hv⟩=>?_⟩
  ·simp [Nr,kW,dE,eR,am];refine ⟨fun hneg=>?_,fun h0=>⟨fP h0 (by have:=hin n2 (by simp); omega),h0⟩⟩;have hN:=pJ (d:=d) (k:=6) (told:=false) (n:=[n0,n1,n2]) (by decide) hneg;rw [hL.trans hN];exact ⟨rfl,rfl⟩
  ·have hE:=dh (d:=d) (told:=false) hv ho;have hT:=dr (hL.trans hE);simpa [Gc] using hT
 ·intro tm;refine dP (a:=.deed 7 (dE 7) true) h0 hb (by rw [show w.getD 0 []=[112,105,110] from Nw h]; rfl) fun ⟨n,i⟩ hn hin hs hL tm=>?_
  simp only at hn hin hL |-;obtain ⟨n0,rfl⟩:∃ n0,n=[n0]:=mj (by omega);refine ⟨?_,fun o ⟨ho,hv⟩=>?_⟩
  ·simp [z7,kW,dE,eR,am]
  ·have hE:=dh (d:=d) (told:=true) hv ho;have hT:=dr (hL.trans hE);simpa [Ik] using hT
 ·intro tm;refine dP (a:=.deed 8 (dE 8) false) h0 hb (by rw [show w.getD 0 []=[117,110,112,105,110] from Nw h]; rfl) fun ⟨n,i⟩ hn hin hs hL tm=>?_
  simp only at hn hin hL |-;obtain ⟨n0,rfl⟩:∃ n0,n=[n0]:=mj (by omega);refine ⟨?_,fun o ⟨ho,hv⟩=>?_⟩
  ·simp [z7,kW,dE,eR,am]
  ·have hE:=dh (d:=d) (told:=false) hv ho;have hT:=dr (hL.trans hE);simpa [Gc] using hT
 ·intro tm;refine dP (a:=.deed 9 (dE 9) true) h0 hb (by rw [show w.getD 0 []=[112,101,101,107] from Nw h]; rfl) fun ⟨n,i⟩ hn hin hs hL tm=>?_
  simp only at hn hin hL |-;obtain ⟨n0,n1,rfl⟩:∃ n0 n1,n=[n0,n1]:=ug (by omega);refine ⟨?_,fun o ⟨ho,hv⟩=>?_⟩
  ·simp [z7,kW,dE,eR,am]
  ·have hE:=dh (d:=d) (told:=true) hv ho;have hT:=dr (hL.trans hE);simpa [Ik] using hT
 ·intro tm;refine dP (a:=.deed 10 (dE 10) true) h0 hb (by rw [show w.getD 0 []=[111,112,101,110] from Nw h]; rfl) fun ⟨n,i⟩ hn hin hs hL tm=>?_
  simp only at hn hin hL |-;obtain ⟨n0,rfl⟩:∃ n0,n=[n0]:=mj (by omega);refine ⟨?_,fun o ⟨ho,hv⟩=>?_⟩
  ·simp [z7,kW,dE,eR,am]
  ·have hE:=dh (d:=d) (told:=true) hv ho;have hT:=dr (hL.trans hE);simpa [Ik] using hT
 ·intro tm;refine dP (a:=.deed 11 (dE 11) false) h0 hb (by rw [show w.getD 0 []=[117,115,101] from Nw h]; rfl) fun ⟨n,i⟩ hn hin hs hL tm=>?_
  simp only at hn hin hL |-;obtain ⟨n0,n1,rfl⟩:∃ n0 n1,n=[n0,n1]:=ug (by omega);refine ⟨?_,fun o ⟨ho,hv⟩=>?_⟩
  ·simp [Nf,kW,dE,eR,am];refine ⟨fun hneg=>?_,fun h0=>⟨fP h0 (by have:=hin n1 (by simp); omega),h0⟩⟩;have hN:=pJ (d:=d) (k:=11) (told:=false) (n:=[n0,n1]) (by decide) hneg;rw [hL.trans hN];exact ⟨rfl,rfl⟩
  ·have hE:=dh (d:=d) (told:=false) hv ho;have hT:=dr (hL.trans hE);simpa [Gc] using hT
 ·intro tm;refine dP (a:=.deed 12 (dE 12) false) h0 hb (by rw [show w.getD 0 []=[115,104,117,116] from Nw h]; rfl) fun ⟨n,i⟩ hn hin hs hL tm=>?_
  simp only at hn hin hL |-;obtain ⟨n0,rfl⟩:∃ n0,n=[n0]:=mj (by omega);refine ⟨?_,fun o ⟨ho,hv⟩=>?_⟩
  ·simp [Nd,kW,dE,eR,am];refine ⟨fun hneg=>?_,fun h0=>⟨fP h0 (by have:=hin n0 (by simp); omega),h0⟩⟩;have hN:=pJ (d:=d) (k:=12) (told:=false) (n:=[n0]) (by decide) hneg;rw [hL.trans hN];exact ⟨rfl,rfl⟩
  ·have hE:=dh (d:=d) (told:=false) hv ho;have hT:=dr (hL.trans hE);simpa [Gc] using hT
 ·intro tm;refine dP (a:=.deed 13 (dE 13) false) h0 hb (by rw [show w.getD 0 []=[100,114,111,112] from Nw h]; rfl) fun ⟨n,i⟩ hn hin hs hL tm=>?_
  simp only at hn hin hL |-;obtain ⟨n0,rfl⟩:∃ n0,n=[n0]:=mj (by omega);refine ⟨?_,fun o ⟨ho,hv⟩=>?_⟩
  ·simp [z7,kW,dE,eR,am]
  ·have hE:=dh (d:=d) (told:=false) hv ho;have hT:=dr (hL.trans hE);simpa [Gc] using hT
 ·refine dP (a:=.gaps) h0 hb (by rw [show w.getD 0 []=[103,97,112,115] from Nw h]; rfl) fun ⟨n,i⟩ hn hin hs hL=>?_
  simp only at hn hin hL |-;have hg:=px d.2.1;refine fun tm=>⟨trivial,⟨by omega,by omega,rfl⟩,fun ⟨l,j⟩ ⟨j0,j1,j2⟩=>⟨fun hlt=>?_,fun hge=>?_⟩⟩
  ·have hlt:=Nw hlt;simp only at j0 j1 j2 hlt |-;have hl:=congrArg List.length j2
   have hf:∀ r:List cR,(r.flatMap fun x=>[x.1,x.2]).length=2 * r.length:=fun r=>by
    induction r with
    | nil=>rfl
    | cons a r ih=>rw [On,NE,ih,NC]; simp; omega
   rw [hf,NN] at hl;simp only [am,NC,N8];unfold aL;refine ⟨j0,hlt,by omega,by omega,by omega,⟨by omega,by omega,?_⟩,by omega⟩;rw [bx ((0,0):cR) j0 hlt,P5,<- j2];rfl
  ·have hge:=Nx hge;simp only at j0 j1 j2 hge |-;rw [cn hge] at j2;rw [hL,j2];exact ⟨rfl,rfl⟩
 ·refine dP (a:=.live) h0 hb (by rw [show w.getD 0 []=[108,105,118,101] from Nw h]; rfl) fun ⟨n,i⟩ hn hin hs hL=>?_
  simp only at hL |-;rw [hL];exact fun _=>⟨trivial,rfl,rfl⟩
 ·refine dP (a:=.roots) h0 hb (by rw [show w.getD 0 []=[114,111,111,116,115] from Nw h]; rfl) fun ⟨n,i⟩ hn hin hs hL=>?_
  simp only at hL |-;rw [hL];exact fun _=>⟨rfl,rfl⟩
 ·have hw:Aa (w.getD 0 [])=none:=by
   unfold Aa
   iterate 17 rw [if_neg (Nx (by assumption))]
  have hL:aP d w=(([],1),d):=by unfold aP; rw [hw]
  rw [hL];refine ⟨fun _=>⟨rfl,rfl⟩,fun h=>by cases h⟩
theorem Hw:G0.ok Tryz.prog 109:=Kk (ann:=Ii) (ae Ek (ae En (ae Ju (ae BV (ae jV (ae rM ap)))))) (by kernel_rfl) Dv
def lV (r:List Int×Int):List UInt8:=if r.2≠0 then [101,114,114,32]++Lib.itoa r.2 else [111,107]++r.1.flatMap fun n=>32::Lib.itoa n
def gt (d:cZ):Prop:=d.2.2.1.length<=32
theorem Ij {d:cZ} (h32:gt d) (n:List Int) (a:Act):gt (lQ d n a).2:=by
 cases a with
 | begin =>
  unfold lQ;simp only;split
  ·rename_i h; exact HB h
  ·exact h32
 | deed k v told =>
  rw [show lQ d n (.deed k v told)=pK d k v told n from rfl];unfold pK;split
  ·exact h32
  generalize (eR v n).getD 0 0=A;generalize (eR v n).getD 1 0=B;generalize (eR v n).getD 2 0=C;generalize (if 0<=v then n.getD v.toNat 0 else 0)=V;have hr:=ES (s:=d.2) (k:=k) (a:=A) (b:=B) (c:=C) (v:=V);simp only;generalize bk d.2 k A B C V=r at *;by_cases e:r.2.2≠0
  ·rw [if_pos e]; exact h32
  ·rw [if_neg e];have:=hr (by omega);unfold gt at *;simp only;omega
 | gaps=>exact h32
 | live=>exact h32
 | roots=>exact h32
theorem EB {d:cZ} (h32:gt d) (w:List (List UInt8)):gt (aP d w).2:=by
 unfold aP;split
 ·exact h32
 ·split
  ·exact h32
  ·split
   ·exact h32
   ·split
    ·exact h32
    ·exact Ij h32 _ _
theorem Kz {d:cZ} (hw:∀ x∈d.2.1,am .u64 x) (hr:∀ v∈d.2.2.1,am .i64 v) (h32:gt d) (n:List Int) (a:Act) :
  Er (lQ d n a).1.2/\(∀ v∈(lQ d n a).1.1,am .i64 v)/\(lQ d n a).1.1.length<=512:=by
 have z:∀ e:Int,Er e->Er (([]:List Int),e).2/\(∀ v∈(([]:List Int),e).1,am .i64 v)/\(([]:List Int),e).1.length<=512:=fun e he=>⟨he,fun v hv=>(by cases hv),by simp⟩
 cases a with
 | begin =>
  have he:Er (ar (n.getD 0 0) (n.getD 1 0) (n.getD 2 0)).2:=by
   unfold ar Er;split
   ·simp
   split
   ·simp
   split <;> simp
  unfold lQ;simp only;split
  ·exact z 0 (by simp [Er])
  ·exact z _ he
 | deed k v told =>
  rw [show lQ d n (.deed k v told)=pK d k v told n from rfl];unfold pK;split
  ·exact z 4 (by simp [Er])
  generalize (eR v n).getD 0 0=A;generalize (eR v n).getD 1 0=B;generalize (eR v n).getD 2 0=C;generalize (if 0<=v then n.getD v.toNat 0 else 0)=V;have hd:=Lz d.2 k A B C V;simp only;generalize bk d.2 k A B C V=r at *;by_cases e:r.2.2≠0
  ·rw [if_pos e];exact z _ hd
  ·rw [if_neg e];refine ⟨by simp [Er],fun u hu=>?_,by simp only; split <;> simp⟩;simp only at hu;split at hu
   ·rw [NL.1 hu]; exact pp _ _
   ·cases hu
 | gaps =>
  have hl:=px d.2.1
  have hf:∀ r:List cR,(r.flatMap fun x=>[x.1,x.2]).length=2 * r.length:=fun r=>by
   induction r with
   | nil=>rfl
   | cons a r ih=>rw [On,NE,ih,NC]; simp; omega
  by_cases hc:(ak d.2.1).2.2=0
  ·have hg:an d.2.1=(aM false [] (ac d.2.1).1,0):=by unfold an; rw [if_neg (by omega)]
   have hi:=(mU (bg hc).2.2.2.1).1;have h2:=(bg hc).1;unfold lQ;simp only;refine ⟨by rw [hg]; simp [Er],fun v hv=>?_,by rw [hf]; omega⟩;obtain ⟨g,hgm,hv⟩:=Px.1 hv;rw [hg] at hgm;have h1:=hi g hgm;simp only [NG,PX,or_false] at hv;simp only [am];rcases hv with rfl | rfl <;> omega
  ·have hg:an d.2.1=([],(ak d.2.1).2.2):=by unfold an; rw [if_pos hc]
   unfold lQ;simp only;rw [hg];exact z _ (uL _)
 | live =>
  unfold lQ;simp only;by_cases h0:au d.2=0
  ·have R:=gQ hw h0;have hl:=R.live;have ha:=R.al;have e:eu d.2=((d.2.1.length:Int) - ga d.2,0):=by unfold eu; rw [if_neg (by omega)]
   rw [e];refine ⟨by simp [Er],fun v hv=>?_,by simp⟩;rw [NL.1 hv];simp only [am];omega
  ·have e:eu d.2=(0,au d.2):=by unfold eu; rw [if_pos h0]
   rw [e];refine ⟨jB _,fun v hv=>?_,by simp⟩;rw [NL.1 hv];simp [am]
 | roots=>exact ⟨by simp [lQ,Er],hr,by unfold lQ; simp only; unfold gt at h32; omega⟩
theorem HG {d:cZ} (hw:∀ x∈d.2.1,am .u64 x) (hr:∀ v∈d.2.2.1,am .i64 v) (h32:gt d) (w:List (List UInt8)):Er (aP d w).1.2/\(∀ v∈(aP d w).1.1,am .i64 v)/\(aP d w).1.1.length<=512:=by
 have z:∀ e:Int,0<=e/\e<=12->Er (([]:List Int),e).2/\(∀ v∈(([]:List Int),e).1,am .i64 v)/\(([]:List Int),e).1.length<=512:=fun e he=>⟨he,fun v hv=>(by cases hv),by simp⟩
 unfold aP;split
 ·exact z 1 (by omega)
 ·split
  ·exact z 3 (by omega)
  ·split
   ·exact z 3 (by omega)
   ·split
    ·exact z 8 (by omega)
    ·exact Kz hw hr h32 _ _
def Bc:BoxFn:={ T:=yj,Ts:=[.str],Rs:=[.dat .str],pre:=fun (d:cZ) (line:List UInt8)=>gt d/\line.length<4294967281,F:=fun (d:cZ) (line:List UInt8)=>(lV (aP d (aj line)).1,(aP d (aj line)).2) }
def C4:Nat->Option LoopGen
 | 3000042=>some d9
 | 4300000006=>some { rd:=[.dat 21 (.arr ty_I)],A:=fun (l:List Int)=>{ cs:=[.dat 7 .str,.dat 23 ty_I],inv:=fun ((out,i):List UInt8×Int)=>0<=i/\i<=(l.length:Int)/\out=[111,107]++(l.take i.toNat).flatMap fun n=>32::Lib.itoa n,mu:=fun ((_,i):List UInt8×Int)=>((l.length:Int) - i).toNat } }
 | _=>none
def rD:Prop :=
  ∀ (x:Bool×List Int×List Int×List (Int×Int)×List (Int×Bool×Int)) (y:List UInt8),(True/\ol x.2)->y.length<=aL->gt x/\y.length<4294967281->∀ (_:Array Value),y.length<4294967281/\(decide ((aP x (aj y)).1.2≠0)=true->True/\[(101:UInt8),(114:UInt8),(114:UInt8),(32:UInt8)].length+(Lib.itoa (aP x (aj y)).1.2).length<=aL/\[(101:UInt8),(114:UInt8),(114:UInt8),(32:UInt8)]++Lib.itoa (aP x (aj y)).1.2=lV (aP x (aj y)).1/\(aP x (aj y)).2=(aP x (aj y)).2)/\(decide ((aP x (aj y)).1.2≠0)=false->((0:Int)<=0/\0<=(↑(aP x (aj y)).1.1.length:Int)/\[(111:UInt8),(107:UInt8)]=[(111:UInt8),(107:UInt8)]++List.flatMap (fun (n:Int)=>(32:UInt8)::Lib.itoa n) (List.take (Int.toNat 0) (aP x (aj y)).1.1))/\∀ (x_1:List UInt8×Int),0<=x_1.2/\x_1.2<=(↑(aP x (aj y)).1.1.length:Int)/\x_1.1=[(111:UInt8),(107:UInt8)]++List.flatMap (fun (n:Int)=>(32:UInt8)::Lib.itoa n) (List.take x_1.2.toNat (aP x (aj y)).1.1)->(decide (x_1.2<(↑(aP x (aj y)).1.1.length:Int))=true->0<=x_1.2/\x_1.2<(↑(aP x (aj y)).1.1.length:Int)/\True/\[(32:UInt8)].length+(Lib.itoa ((aP x (aj y)).1.1.getD x_1.2.toNat 0)).length<=aL/\x_1.1.length+([(32:UInt8)]++Lib.itoa ((aP x (aj y)).1.1.getD x_1.2.toNat 0)).length<=aL/\am .i64 (x_1.2+1)/\(0<=x_1.2+1/\x_1.2+1<=(↑(aP x (aj y)).1.1.length:Int)/\x_1.1++([(32:UInt8)]++Lib.itoa ((aP x (aj y)).1.1.getD x_1.2.toNat 0))=[(111:UInt8),(107:UInt8)]++List.flatMap (fun (n:Int)=>(32:UInt8)::Lib.itoa n) (List.take (x_1.2+1).toNat (aP x (aj y)).1.1))/\((↑(aP x (aj y)).1.1.length:Int) - (x_1.2+1)).toNat<((↑(aP x (aj y)).1.1.length:Int) - x_1.2).toNat)/\(decide (x_1.2<(↑(aP x (aj y)).1.1.length:Int))=false->x_1.1=lV (aP x (aj y)).1/\(aP x (aj y)).2=(aP x (aj y)).2))
theorem yg:rD:=by
 unfold rD;intro d line ⟨_,⟨_,hw⟩,⟨_,hr⟩,_⟩ _ ⟨R,hp⟩ tm;obtain ⟨he,hin,hl⟩:=HG hw hr R (aj line)
 have hlen:∀ v:Int,am .i64 v->(Lib.itoa v).length<=21:=fun v hv=>by
  simp only [am] at hv;exact Lib.itoa_length_le v (by omega) (by omega)
 have h1:=hlen (aP d (aj line)).1.2 (by unfold Er at he; simp only [am]; omega);generalize aP d (aj line)=r at *;have hT2:lV r.1=if r.1.2≠0 then [101,114,114,32]++Lib.itoa r.1.2 else [111,107]++r.1.1.flatMap fun n=>32::Lib.itoa n:=rfl
 refine ⟨hp,fun h=>?_,fun h=>⟨⟨by omega,by omega,rfl⟩,fun ⟨o,i⟩ ⟨i0,i1,i2⟩=>⟨fun hlt=>?_,fun hge=>?_⟩⟩⟩
 ·rw [hT2,if_pos (Nw h)];refine ⟨trivial,?_,rfl,rfl⟩;unfold aL;simp only [NC,N8];omega
 ·have hlt:=Nw hlt;simp only at i0 i1 i2 hlt |-;have hv:=hlen _ (hin _ (aH (0:Int) i0 hlt))
  have ho:o.length<=2+22 * i.toNat:=by
   have hf:∀ l:List Int,(∀ v∈l,am .i64 v)->(l.flatMap fun n=>32::Lib.itoa n).length<=22 * l.length:=fun l=>by
    induction l with
    | nil=>intro _; simp
    | cons a l ih =>
     intro h;have:=ih fun v hv=>h v (by simp [hv])
     have:=hlen a (h a (by simp));rw [On,NE,NC,NC];omega
   have:=hf (r.1.1.take i.toNat) fun v hv=>hin v (OZ hv)
   rw [i2,NE];rw [NN] at this;simp only [NC,N8];omega
  unfold aL;simp only [NE,NC,N8,am];refine ⟨i0,hlt,trivial,by omega,by omega,by omega,⟨by omega,by omega,?_⟩,by omega⟩;rw [bx (0:Int) i0 hlt,P5,i2,List.append_assoc];simp
 ·have hge:=Nx hge;simp only at i0 i1 i2 hge |-;rw [cn hge] at i2;rw [hT2,if_neg (Nx h)];exact ⟨i2,by first | exact trivial | rfl⟩
theorem B7:Bc.ok Tryz.prog 42:=Kk (ann:=C4) (ae Ld (Fg Hw ap)) (by kernel_rfl) yg
def ic (d:cZ):List (List UInt8)->List (List UInt8)
 | []=>[]
 | s::l=>lV (aP d (aj s)).1::ic (aP d (aj s)).2 l
def iH (d:cZ) (l:List (List UInt8)):cZ:=l.foldl (fun d s=>(aP d (aj s)).2) d
theorem vS (d:cZ) (l:List (List UInt8)) (s:List UInt8):iH d (l++[s])=(aP (iH d l) (aj s)).2:=by simp [iH]
theorem rS:∀ (l:List (List UInt8)) (d:cZ) (s:List UInt8),ic d (l++[s])=ic d l++[lV (aP (iH d l) (aj s)).1]
 | [],_,_=>rfl
 | x::l,d,s=>by
  simp only [Oq,ic];rw [rS l];rfl
def eE (l:List (List UInt8)):List (List UInt8)×Int:=if 100<(l.length:Int) then ([],2) else (ic (false,ay) l,0)
def Bb:Spec:={ Ts:=[.arr .str],Rs:=[.own 9 .str,.dat ty_I],pre:=fun (l:List (List UInt8))=>∀ s∈l,s.length<4294967281,F:=eE }
def C3:Nat->Option LoopGen
 | 3000041=>some d9
 | 6=>some { rd:=[.dat 12 (.arr .str)],A:=fun (l:List (List UInt8))=>{ cs:=[.own 5 9 .str,.box 102000011 yj,.dat 14 ty_I],inv:=fun ((out,d,i):List (List UInt8)×cZ×Int)=>0<=i/\i<=(l.length:Int)/\l.length<=100/\gt d/\d=iH (false,ay) (l.take i.toNat)/\out=ic (false,ay) (l.take i.toNat),mu:=fun ((_,_,i):List (List UInt8)×cZ×Int)=>((l.length:Int) - i).toNat } }
 | _=>none
def rC:Prop :=
  ∀ (x:List (List UInt8)),(x.length * 16<=aL/\∀ (x_1:List UInt8),x_1∈x->x_1.length<=aL)->(∀ (s:List UInt8),s∈x->s.length<4294967281)->(decide (100<(x.length:Int))=true->([]:List (List UInt8))=(eE x).1/\2=(eE x).2/\True)/\(decide (100<(x.length:Int))=false->∀ (_:Array Value),((0:Int)<=0/\0<=(x.length:Int)/\x.length<=100/\gt (false,([]:List Int),([]:List Int),([]:List (Int×Int)),([]:List (Int×Bool×Int)))/\(false,([]:List Int),([]:List Int),([]:List (Int×Int)),([]:List (Int×Bool×Int)))=iH (false,ay) (List.take (Int.toNat 0) x)/\([]:List (List UInt8))=ic (false,ay) (List.take (Int.toNat 0) x))/\∀ (x_1:List (List UInt8)×(Bool×List Int×List Int×List (Int×Int)×List (Int×Bool×Int))×Int),0<=x_1.2.2/\x_1.2.2<=(x.length:Int)/\x.length<=100/\gt x_1.2.1/\x_1.2.1=iH (false,ay) (List.take x_1.2.2.toNat x)/\x_1.1=ic (false,ay) (List.take x_1.2.2.toNat x)->(decide (x_1.2.2<(x.length:Int))=true->0<=x_1.2.2/\x_1.2.2<(x.length:Int)/\(gt x_1.2.1/\(x.getD x_1.2.2.toNat ([]:List UInt8)).length<4294967281)/\(x_1.1.length+[lV (aP x_1.2.1 (aj (x.getD x_1.2.2.toNat ([]:List UInt8)))).1].length) * 16<=aL/\am .i64 (x_1.2.2+1)/\(0<=x_1.2.2+1/\x_1.2.2+1<=(x.length:Int)/\x.length<=100/\gt (aP x_1.2.1 (aj (x.getD x_1.2.2.toNat ([]:List UInt8)))).2/\(aP x_1.2.1 (aj (x.getD x_1.2.2.toNat ([]:List UInt8)))).2=iH (false,ay) (List.take (x_1.2.2+1).toNat x)/\x_1.1++[lV (aP x_1.2.1 (aj (x.getD x_1.2.2.toNat ([]:List UInt8)))).1]=ic (false,ay) (List.take (x_1.2.2+1).toNat x))/\((x.length:Int) - (x_1.2.2+1)).toNat<((x.length:Int) - x_1.2.2).toNat)/\(decide (x_1.2.2<(x.length:Int))=false->x_1.1=(eE x).1/\0=(eE x).2/\True))
theorem yf:rC:=by
 unfold rC;intro l ⟨hb,_⟩ hp;have hF:eE l=if 100<(l.length:Int) then ([],2) else (ic (false,ay) l,0):=rfl
 refine ⟨fun h=>?_,fun h=>?_⟩
 ·rw [hF,if_pos (Nw h)];exact ⟨rfl,rfl,trivial⟩
 have h:=Nx h;rw [if_neg h] at hF;refine fun _=>⟨⟨by omega,by omega,by omega,Of _,rfl,rfl⟩,fun ⟨o,d,i⟩ ⟨i0,i1,i2,i3,i4,i5⟩=>⟨fun hlt=>?_,fun hge=>?_⟩⟩
 ·have hlt:=Nw hlt;simp only at i0 i1 i2 i3 i4 i5 hlt |-;have hm:=aH ([]:List UInt8) i0 hlt
  have ho:o.length=i.toNat:=by
   have hl:∀ (l:List (List UInt8)) (d:cZ),(ic d l).length=l.length:=fun l=>by
    induction l with
    | nil=>intro d; rfl
    | cons a l ih=>intro d; simp only [ic,NC,ih]
   rw [i5,hl,NN];omega
  have hR:=EB i3 (aj (l.getD i.toNat []));unfold aL;simp only [NC,N8,am];refine ⟨i0,hlt,⟨i3,hp _ hm⟩,by omega,by omega,⟨by omega,by omega,i2,hR,?_,?_⟩,by omega⟩
  ·rw [bx ([]:List UInt8) i0 hlt,vS,<- i4]
  ·rw [bx ([]:List UInt8) i0 hlt,rS,<- i4,<- i5]
 ·have hge:=Nx hge;simp only at i5 hge |-;rw [cn hge] at i5;rw [hF];exact ⟨i5,rfl,trivial⟩
theorem B6:Bb.ok Tryz.prog 8:=aF (ann:=C3) (Fg B7 ap) Tryz.func8 (by kernel_rfl) yf
end
section
def GZ:Spec:={ Ts:=[.arr .str,.arr .str],Rs:=[.dat .bool],pre:=fun _=>True,F:=fun (x:List (List UInt8)×List (List UInt8))=>decide (x.1=x.2) }
def Ih:Nat->Option LoopGen
 | 4=>some { rd:=[.dat 0 (.arr .str),.dat 1 (.arr .str)],A:=fun (g:List (List UInt8)×List (List UInt8))=>{ cs:=[.dat 13 ty_I],inv:=fun (i:Int)=>g.1.length=g.2.length/\0<=i/\i<=g.1.length/\g.1.take i.toNat=g.2.take i.toNat,mu:=fun (i:Int)=>(g.1.length - i).toNat } }
 | _=>none
def w6:Prop :=
  ∀ (x:List (List UInt8)×List (List UInt8)),((x.1.length * 16<=aL/\∀ (x_1:List UInt8),x_1∈x.1->x_1.length<=aL)/\x.2.length * 16<=aL/\∀ (x_1:List UInt8),x_1∈x.2->x_1.length<=aL)->True->(decide ((x.1.length:Int)≠(x.2.length:Int))=true->false=decide (x.1=x.2)/\True)/\(decide ((x.1.length:Int)≠(x.2.length:Int))=false->(x.1.length=x.2.length/\(0:Int)<=0/\0<=(x.1.length:Int)/\List.take (Int.toNat 0) x.1=List.take (Int.toNat 0) x.2)/\∀ (x_1:Int),x.1.length=x.2.length/\0<=x_1/\x_1<=(x.1.length:Int)/\List.take x_1.toNat x.1=List.take x_1.toNat x.2->(decide (x_1<(x.1.length:Int))=true->0<=x_1/\x_1<(x.1.length:Int)/\0<=x_1/\x_1<(x.2.length:Int)/\(decide (x.1.getD x_1.toNat ([]:List UInt8)≠x.2.getD x_1.toNat ([]:List UInt8))=true->false=decide (x.1=x.2)/\True)/\(decide (x.1.getD x_1.toNat ([]:List UInt8)≠x.2.getD x_1.toNat ([]:List UInt8))=false->am .i64 (x_1+1)/\(x.1.length=x.2.length/\0<=x_1+1/\x_1+1<=(x.1.length:Int)/\List.take (x_1+1).toNat x.1=List.take (x_1+1).toNat x.2)/\((x.1.length:Int) - (x_1+1)).toNat<((x.1.length:Int) - x_1).toNat))/\(decide (x_1<(x.1.length:Int))=false->true=decide (x.1=x.2)/\True))
theorem Du:w6:=by
 unfold w6;intro x hw _;refine ⟨fun h=>?_,fun h=>?_⟩
 ·have h:x.1.length≠x.2.length:=by have:=Nw h; omega
  have:x.1≠x.2:=fun e=>h (by rw [e])
  simp [this]
 have hl:x.1.length=x.2.length:=by have:=Nx h; omega
 refine ⟨⟨hl,by omega,by omega,by simp⟩,fun i ⟨_,h0,h1,ht⟩=>⟨fun hlt=>?_,fun hge=>?_⟩⟩
 ·have hlt:i<x.1.length:=by simpa using hlt
  refine ⟨h0,hlt,h0,by omega,fun hne=>?_,fun he=>?_⟩
  ·have hne:x.1.getD i.toNat []≠x.2.getD i.toNat []:=by simpa using hne
   have:x.1≠x.2:=fun e=>hne (by rw [e])
   simp [this]
  ·have he:x.1.getD i.toNat []=x.2.getD i.toNat []:=by simpa using he
   have hb:x.1.length * 16<=aL:=hw.1.1;unfold aL at hb;refine ⟨by simp only [am]; omega,⟨hl,by omega,by omega,?_⟩,by omega⟩;rw [show (i+1).toNat=i.toNat+1 by omega];exact Gy hl (by omega) ht he
 ·have hge:¬ i<x.1.length:=by simpa using hge
  have hi:i.toNat=x.1.length:=by omega
  rw [hi,NP (NR _),NP (by omega)] at ht;simp [ht]
theorem Hv:GZ.ok Tryz.prog 9:=aF (ann:=Ih) ap Tryz.func9 (by kernel_rfl) Du
def EA:List (List UInt8):=[[110,101,119,32,56,32,49,32,48],[109,97,107,101,32,48,32,48,32,50,32,53],[112,117,116,32,48,32,49,32,55],[103,101,116,32,48,32,49]]
def MO:List (List UInt8):=[[111,107],[111,107,32,48],[111,107],[111,107,32,55]]
def ve:ah:=(aB (0,7,0,true)::List.replicate 7 0,[-1],[],[])
def C8:ah:=([aB (0,2,5,false),0,0,aB (0,4,0,true),0,0,0,0],[0],[],[])
def Bl:ah:=([aB (0,2,5,false),0,7,aB (0,4,0,true),0,0,0,0],[0],[],[])
theorem HA {u:Nat} (h:u<10):fH [UInt8.ofNat (48+u)]=((u:Int),true):=by
 have:u=0\/u=1\/u=2\/u=3\/u=4\/u=5\/u=6\/u=7\/u=8\/u=9:=by omega
 have hi:∀ n:Nat,n<10->Lib.itoa (n:Int)=[UInt8.ofNat (48+n)]:=fun n hn=>by
  unfold Lib.itoa;rw [if_neg (by omega),Oo,Lib.decDigits,dif_pos hn]
 rcases this with rfl | rfl | rfl | rfl | rfl | rfl | rfl | rfl | rfl | rfl
 all_goals
  unfold fH;simp [Lib.atoiAll,Lib.parseMag,Lib.parseUint10]
  first | exact hi 0 (by omega) | exact hi 1 (by omega) | exact hi 2 (by omega) | exact hi 3 (by omega) | exact hi 4 (by omega) | exact hi 5 (by omega) | exact hi 6 (by omega) | exact hi 7 (by omega) | exact hi 8 (by omega) | exact hi 9 (by omega)
theorem II:ac ve.1=([aC 0 8],0):=by
 have h:=gv (at_:=0) (k:=8) (R:=[]) (by omega);rw [Om,if_pos (by omega)] at h;have e:ve.1=bI 8:=rfl;rw [e];refine kF (by rw [bA]; omega) ?_;rw [h,spotsS];rfl
theorem Nl:ar 8 1 0=(ve,0):=by
 unfold ar;rw [if_neg (by omega),if_neg (by omega),if_neg (by omega)];rfl
theorem AC {s:ah} (hc:(ak s.1).2.2=0) (hr:aE s.2.1 s.1.length=0) (hp:bM s.2.2.1=0) (hh:aJ s.2.2.2=0) (hn:∀ x∈cB s,isB (ac s.1).1 x=true):au s=0:=by
 unfold au;rw [if_neg (by omega),if_neg (by omega),if_neg (by omega),if_neg (by omega)];exact jc hc hn
theorem L3:(ak ve.1).2.2=0:=mE II fun s hs v hv=>by
 have e:aO ve.1 (aC 0 8)=[]:=by decide
 rw [NL.1 hs,e] at hv;cases hv
theorem MU:au ve=0:=AC L3 (by decide) rfl rfl fun x hx=>by
 have e:cB ve=[]:=rfl;rw [e] at hx;cases hx
theorem zH {s:ah} (R:au s=0) {k a b c v:Int} (hb:b9 k a b c v=false):bk s k a b c v=deed s k a b c v:=by
 unfold bk;rw [if_neg (by rw [hb]; simp),if_neg (by omega)]
theorem MX:bk ve 1 0 0 2 5=(C8,0,0):=by
 rw [zH MU (by decide),xI,show (5:Int) % 65536=5 from rfl];have hg:aM false [] (ac ve.1).1=[(0,8)]:=by rw [II]; rfl
 have ht:gL ve.1 (0,2,5,false)=(fc ve.1 (0,8) (0,2,5,false),0,true):=by
  unfold gL;rw [hg];rfl
 have hp:fc ve.1 (0,8) (0,2,5,false)=C8.1:=by
  unfold fc cD;rw [if_neg (by have:=L3; omega),hg];rfl
 have hm:aX ve 0 (0,2,5,false)=(C8,false,0):=by
  unfold aX fZ;rw [if_neg (by unfold bE; rw [if_neg (by have:=MU; omega)]; decide),if_neg (by decide)];rw [ht];simp only [if_true];rw [hp];rfl
 rw [hm];rfl
theorem DG (x:Int):ac [aB (0,2,5,false),0,x,aB (0,4,0,true),0,0,0,0]=([(0,0,2,5,false),(3,0,4,0,true)],0):=by
 refine kF (by simp) ?_;rw [cK (by decide) (by simp only [NC,N8]; decide)];show (spotsS 3 [aB (0,4,0,true),0,0,0,0]).map _=_;rw [cK (by decide) (by decide)];show ((spotsS 8 []).map _).map _=_;rw [spotsS];rfl
theorem ig (x:Int):eG [aB (0,2,5,false),0,x,aB (0,4,0,true),0,0,0,0] 0=(0,2,5,false):=by
 unfold eG;rw [DG];rfl
theorem MV {s:ah} (R:au s=0) (h:s.2.1=[0]):bn s 0=0:=by
 unfold bn;rw [if_neg (by omega),h];decide
theorem Nq (x:Int):au ([aB (0,2,5,false),0,x,aB (0,4,0,true),0,0,0,0],[0],[],[])=0:=by
 refine AC (mE (DG x) fun s hs v hv=>?_) (by simp only [NC,N8]; decide) rfl rfl fun y hy=>?_
 ·simp only [NG,PX,or_false] at hs;rcases hs with rfl | rfl
  ·simp [aO] at hv
  ·simp [aO] at hv
 ·have e:y=0:=by
   have:cB (([aB (0,2,5,false),0,x,aB (0,4,0,true),0,0,0,0],[0],[],[]):ah)=[0]:=rfl;rw [this] at hy;exact NL.1 hy
  rw [e];simp only;rw [DG];rfl
theorem MT:au C8=0:=Nq 0
theorem MS:au Bl=0:=Nq 7
theorem Nk:bk C8 6 0 1 0 7=(Bl,0,0):=by
 rw [zH MT (by decide),xG];have hh:eG C8.1 (ax C8 0)=(0,2,5,false):=ig 0
 have hb:aN C8 0 1=0:=by
  unfold aN;rw [MV MT rfl,if_neg (by decide),hh];decide
 have hp:js C8 0 1 7=(Bl,0):=by
  unfold js;rw [if_neg (by rw [hb]; decide)];unfold bG;rw [hh];rfl
 rw [hp]
theorem Nm:bk Bl 5 0 1 0 0=(Bl,7,0):=by
 rw [zH MS (by decide),xH];have hh:eG Bl.1 (ax Bl 0)=(0,2,5,false):=ig 7
 have hb:aN Bl 0 1=0:=by
  unfold aN;rw [MV MS rfl,if_neg (by decide),hh];decide
 rw [if_neg (by rw [hb]; decide)];unfold bG;rw [hh];rfl
theorem iF:∀ (l:List Nat),(∀ u∈l,u<10)->fR (l.map fun u=>[UInt8.ofNat (48+u)])=some (l.map fun u:Nat=>(u:Int))
 | [],_=>rfl
 | u::l,h=>by
  have ih:=iF l fun v hv=>h v (by simp [hv])
  simp only [Oi,fR];rw [HA (h u (by simp)),if_pos rfl,ih];rfl
theorem sE {d:cZ} {w:List (List UInt8)} {many:Int} {store:Bool} {a:Act} {n:List Int} (hw:Aa (w.getD 0 [])=some (many,store,a)) (hl:(w.length:Int) - 1=many) (hn:fR w.tail=some n) (hs:(store&&!d.1)=false):aP d w=lQ d n a:=by
 unfold aP;rw [hw];simp only;rw [if_neg (by omega),hn];simp only [hs];rfl
theorem w1:aP (false,ay) (aj [110,101,119,32,56,32,49,32,48])=(([],0),(true,ve)):=by
 rw [show aj [110,101,119,32,56,32,49,32,48]=[[110,101,119],[56],[49],[48]] from rfl];rw [sE (w:=[[110,101,119],[56],[49],[48]]) (many:=3) (store:=false) (a:=.begin) (n:=[8,1,0]) rfl rfl (iF [8,1,0] (by decide)) rfl];show (let r:=ar 8 1 0; if r.2=0 then (([],0),(true,r.1)) else (([],r.2),(false,ay)))=_;rw [Nl];rfl
theorem w2:aP (true,ve) (aj [109,97,107,101,32,48,32,48,32,50,32,53])=(([0],0),(true,C8)):=by
 rw [show aj [109,97,107,101,32,48,32,48,32,50,32,53]=[[109,97,107,101],[48],[48],[50],[53]] from rfl];rw [sE (w:=[[109,97,107,101],[48],[48],[50],[53]]) (many:=4) (store:=true) (a:=.deed 1 (dE 1) true) (n:=[0,0,2,5]) rfl rfl (iF [0,0,2,5] (by decide)) rfl];refine (dh (d:=(true,ve)) (k:=1) (told:=true) (n:=[0,0,2,5]) (fun _=>by decide) rfl).trans ?_;show (if (bk ve 1 0 0 2 5).2.2≠0 then _ else _)=_;have h:=MX;show (if (bk ve 1 0 0 2 5).2.2≠0 then (([],(bk ve 1 0 0 2 5).2.2),(true,ve)) else (([IntKind.i64.wrap (bk ve 1 0 0 2 5).2.1],0),(true,(bk ve 1 0 0 2 5).1)))=_;rw [h];rfl
theorem w3:aP (true,C8) (aj [112,117,116,32,48,32,49,32,55])=(([],0),(true,Bl)):=by
 rw [show aj [112,117,116,32,48,32,49,32,55]=[[112,117,116],[48],[49],[55]] from rfl];rw [sE (w:=[[112,117,116],[48],[49],[55]]) (many:=3) (store:=true) (a:=.deed 6 (dE 6) false) (n:=[0,1,7]) rfl rfl (iF [0,1,7] (by decide)) rfl];refine (dh (d:=(true,C8)) (k:=6) (told:=false) (n:=[0,1,7]) (fun _=>by decide) rfl).trans ?_;show (if (bk C8 6 0 1 0 7).2.2≠0 then (([],(bk C8 6 0 1 0 7).2.2),(true,C8)) else (([],0),(true,(bk C8 6 0 1 0 7).1)))=_;rw [Nk];rfl
theorem w4:aP (true,Bl) (aj [103,101,116,32,48,32,49])=(([7],0),(true,Bl)):=by
 rw [show aj [103,101,116,32,48,32,49]=[[103,101,116],[48],[49]] from rfl];rw [sE (w:=[[103,101,116],[48],[49]]) (many:=2) (store:=true) (a:=.deed 5 (dE 5) true) (n:=[0,1]) rfl rfl (iF [0,1] (by decide)) rfl];refine (dh (d:=(true,Bl)) (k:=5) (told:=true) (n:=[0,1]) (fun _=>by decide) rfl).trans ?_;show (if (bk Bl 5 0 1 0 0).2.2≠0 then (([],(bk Bl 5 0 1 0 0).2.2),(true,Bl)) else (([IntKind.i64.wrap (bk Bl 5 0 1 0 0).2.1],0),(true,(bk Bl 5 0 1 0 0).1)))=_;rw [Nm];rfl
theorem uo {u:Nat} (h:u<10):Lib.itoa (u:Int)=[UInt8.ofNat (48+u)]:=by
 unfold Lib.itoa;rw [if_neg (by omega),Oo,Lib.decDigits,dif_pos h]
theorem Il:eE EA=(MO,0):=by
 unfold eE EA;rw [if_neg (by decide)];simp only [ic,w1,w2,w3,w4];have h0:=uo (u:=0) (by omega);have h7:=uo (u:=7) (by omega);have e0:lV ([],0)=[111,107]:=rfl
 have e1:lV ([0],0)=[111,107,32,48]:=by
  show [111,107]++((32::Lib.itoa ((0:Nat):Int))++[])=_;rw [h0];rfl
 have e7:lV ([7],0)=[111,107,32,55]:=by
  show [111,107]++((32::Lib.itoa ((7:Nat):Int))++[])=_;rw [h7];rfl
 rw [e0,e1,e7];rfl
def IK:Spec:={ Ts:=[],Rs:=[.dat .bool],pre:=fun _=>True,F:=fun _=>true }
def Bw:Prop :=
  ∀ (_:Unit),True->True->(∀ (s:List UInt8),s∈[[(110:UInt8),(101:UInt8),(119:UInt8),(32:UInt8),(56:UInt8),(32:UInt8),(49:UInt8),(32:UInt8),(48:UInt8)],[(109:UInt8),(97:UInt8),(107:UInt8),(101:UInt8),(32:UInt8),(48:UInt8),(32:UInt8),(48:UInt8),(32:UInt8),(50:UInt8),(32:UInt8),(53:UInt8)],[(112:UInt8),(117:UInt8),(116:UInt8),(32:UInt8),(48:UInt8),(32:UInt8),(49:UInt8),(32:UInt8),(55:UInt8)],[(103:UInt8),(101:UInt8),(116:UInt8),(32:UInt8),(48:UInt8),(32:UInt8),(49:UInt8)]]->s.length<4294967281)/\(decide ((eE [[(110:UInt8),(101:UInt8),(119:UInt8),(32:UInt8),(56:UInt8),(32:UInt8),(49:UInt8),(32:UInt8),(48:UInt8)],[(109:UInt8),(97:UInt8),(107:UInt8),(101:UInt8),(32:UInt8),(48:UInt8),(32:UInt8),(48:UInt8),(32:UInt8),(50:UInt8),(32:UInt8),(53:UInt8)],[(112:UInt8),(117:UInt8),(116:UInt8),(32:UInt8),(48:UInt8),(32:UInt8),(49:UInt8),(32:UInt8),(55:UInt8)],[(103:UInt8),(101:UInt8),(116:UInt8),(32:UInt8),(48:UInt8),(32:UInt8),(49:UInt8)]]).2=0)=true->True)/\(decide ((eE [[(110:UInt8),(101:UInt8),(119:UInt8),(32:UInt8),(56:UInt8),(32:UInt8),(49:UInt8),(32:UInt8),(48:UInt8)],[(109:UInt8),(97:UInt8),(107:UInt8),(101:UInt8),(32:UInt8),(48:UInt8),(32:UInt8),(48:UInt8),(32:UInt8),(50:UInt8),(32:UInt8),(53:UInt8)],[(112:UInt8),(117:UInt8),(116:UInt8),(32:UInt8),(48:UInt8),(32:UInt8),(49:UInt8),(32:UInt8),(55:UInt8)],[(103:UInt8),(101:UInt8),(116:UInt8),(32:UInt8),(48:UInt8),(32:UInt8),(49:UInt8)]]).2=0)&&decide ((eE [[(110:UInt8),(101:UInt8),(119:UInt8),(32:UInt8),(56:UInt8),(32:UInt8),(49:UInt8),(32:UInt8),(48:UInt8)],[(109:UInt8),(97:UInt8),(107:UInt8),(101:UInt8),(32:UInt8),(48:UInt8),(32:UInt8),(48:UInt8),(32:UInt8),(50:UInt8),(32:UInt8),(53:UInt8)],[(112:UInt8),(117:UInt8),(116:UInt8),(32:UInt8),(48:UInt8),(32:UInt8),(49:UInt8),(32:UInt8),(55:UInt8)],[(103:UInt8),(101:UInt8),(116:UInt8),(32:UInt8),(48:UInt8),(32:UInt8),(49:UInt8)]]).1=[[(111:UInt8),(107:UInt8)],[(111:UInt8),(107:UInt8),(32:UInt8),(48:UInt8)],[(111:UInt8),(107:UInt8)],[(111:UInt8),(107:UInt8),(32:UInt8),(55:UInt8)]]))=true/\True
theorem Gf:Bw:=by
 unfold Bw;have h:=Il;unfold EA at h;intro _ _ _;rw [h];refine ⟨fun s hs=>?_,fun _=>trivial,rfl,trivial⟩;simp only [NG,PX,or_false] at hs;rcases hs with rfl | rfl | rfl | rfl <;> decide
theorem Jl:IK.ok Tryz.prog 14:=aF (ann:=cr) (ae B6 (ae Hv ap)) Tryz.func14 (by kernel_rfl) Gf
end
section
set_option maxHeartbeats 4000000
def vH:Spec:=IW [ty_I,ty_I,ty_I,.arr oo,ty_I,gc]
def nb:Prop :=
  ∀ (x:Int×Int×Int×List (Int×Int×Int×Int×Int)×Int×Int×Int×Int×Bool),(fun (v0:type_of% (lK (ar x.1 x.2.1 x.2.2.1).1 x.2.2.2.1))=>am .i64 x.1/\am .i64 x.2.1/\am .i64 x.2.2.1/\(x.2.2.2.1.length * (8+(8+(8+(8+8))))<=aL/\∀ (x_1:Int×Int×Int×Int×Int),x_1∈x.2.2.2.1->am .i64 x_1.1/\am .i64 x_1.2.1/\am .i64 x_1.2.2.1/\am .i64 x_1.2.2.2.1/\am .u64 x_1.2.2.2.2)/\am .i64 x.2.2.2.2.1/\am .i64 x.2.2.2.2.2.1/\am .i64 x.2.2.2.2.2.2.1/\am .i64 x.2.2.2.2.2.2.2.1/\True->True/\True/\True/\(x.2.2.2.1.length * (8+(8+(8+(8+8))))<=140737488351232/\∀ (x_1:Int×Int×Int×Int×Int),x_1∈x.2.2.2.1->im oo x_1)/\True/\True/\True/\True/\True->True/\True/\True/\((!true||decide ((ar x.1 x.2.1 x.2.2.1).2≠0)||decide (af x.2.2.2.2.2≠0)||x.2.2.2.2.2.2.2.2||decide (200<(x.2.2.2.1.length:Int))||decide (x.2.2.2.2.1<0)||decide (x.2.1<=x.2.2.2.2.1))=true->True/\true=true/\True)/\((!true||decide ((ar x.1 x.2.1 x.2.2.1).2≠0)||decide (af x.2.2.2.2.2≠0)||x.2.2.2.2.2.2.2.2||decide (200<(x.2.2.2.1.length:Int))||decide (x.2.2.2.2.1<0)||decide (x.2.1<=x.2.2.2.2.1))=false->True/\True/\True/\((decide (v0.2.2≠0)||decide ((eu v0.1).2≠0)||decide ((aX v0.1 x.2.2.2.2.1 x.2.2.2.2.2).2.2≠0)&&decide ((aX v0.1 x.2.2.2.2.1 x.2.2.2.2.2).2.2≠7))=true->false=true/\True)/\((decide (v0.2.2≠0)||decide ((eu v0.1).2≠0)||decide ((aX v0.1 x.2.2.2.2.1 x.2.2.2.2.2).2.2≠0)&&decide ((aX v0.1 x.2.2.2.2.1 x.2.2.2.2.2).2.2≠7))=false->am .i64 ((v0.1.2.2.1.length:Int)+1)/\am .i64 (((v0.1.2.2.1.length:Int)+1) * if af x.2.2.2.2.2=0 then aa x.2.2.2.2.2 else (0:Int))/\am .i64 (x.1 - (eu v0.1).1)/\((decide ((((v0.1.2.2.1.length:Int)+1) * if af x.2.2.2.2.2=0 then aa x.2.2.2.2.2 else (0:Int))<=x.1 - (eu v0.1).1)&&decide ((aX v0.1 x.2.2.2.2.1 x.2.2.2.2.2).2.2≠0))=false->am .i64 ((eu v0.1).1+if af x.2.2.2.2.2=0 then aa x.2.2.2.2.2 else (0:Int)))/\((decide ((((v0.1.2.2.1.length:Int)+1) * if af x.2.2.2.2.2=0 then aa x.2.2.2.2.2 else (0:Int))<=x.1 - (eu v0.1).1)&&decide ((aX v0.1 x.2.2.2.2.1 x.2.2.2.2.2).2.2≠0)||decide (x.1<(eu v0.1).1+if af x.2.2.2.2.2=0 then aa x.2.2.2.2.2 else (0:Int))&&decide ((aX v0.1 x.2.2.2.2.1 x.2.2.2.2.2).2.2=0))=true->false=true/\True)/\((decide ((((v0.1.2.2.1.length:Int)+1) * if af x.2.2.2.2.2=0 then aa x.2.2.2.2.2 else (0:Int))<=x.1 - (eu v0.1).1)&&decide ((aX v0.1 x.2.2.2.2.1 x.2.2.2.2.2).2.2≠0)||decide (x.1<(eu v0.1).1+if af x.2.2.2.2.2=0 then aa x.2.2.2.2.2 else (0:Int))&&decide ((aX v0.1 x.2.2.2.2.1 x.2.2.2.2.2).2.2=0))=false->(decide (0<(v0.1.2.2.1.length:Int))=false->am .i64 ((eu v0.1).1+if af x.2.2.2.2.2=0 then aa x.2.2.2.2.2 else (0:Int)))/\(decide (0<(v0.1.2.2.1.length:Int))||decide ((aX v0.1 x.2.2.2.2.1 x.2.2.2.2.2).2.2=0) == decide (((eu v0.1).1+if af x.2.2.2.2.2=0 then aa x.2.2.2.2.2 else (0:Int))<=x.1))=true/\True)))) (lK (ar x.1 x.2.1 x.2.2.1).1 x.2.2.2.1)
theorem sR:nb:=by
 unfold nb;intro ⟨w,r,hn,l,slot,h⟩ ⟨hw,hr,_,⟨_,hl⟩,_⟩ _;simp only at hw hr hl |-;refine ⟨trivial,trivial,trivial,fun _=>⟨trivial,by first | exact trivial | rfl,trivial⟩,fun hg=>?_⟩;simp only [OG,Ou] at hg;obtain ⟨⟨⟨⟨⟨⟨_,h0⟩,hf⟩,hfr⟩,h1⟩,hs0⟩,hs1⟩:=hg;have h0:(ar w r hn).2=0:=by omega
 have hf:af h=0:=by omega
 obtain ⟨R0,_⟩:=HC h0;obtain ⟨z1,z2⟩:=JC h0;obtain ⟨RP,y1,y2⟩:=Eb R0 l fun o ho=>(hl o ho).2.2.2.2
 have hP:=K6 R0 (l:=l) (by omega);rw [hP];simp only;generalize (gR (ar w r hn).1 l).1=P at *;generalize (gR (ar w r hn).1 l).2=T at *
 have hL:eu P=((P.1.length:Int) - ga P,0):=by
  unfold eu;rw [if_neg (by have:=RP.ok; omega)]
 obtain ⟨A1,A2,A3⟩:=Nj RP (slot:=slot) (h:=h) (by omega) (by omega) hf hfr;have hlive:=RP.live;have hal:=RP.al;have hps:=RP.small.2.1
 have hlong:1<=aa h/\aa h<=256:=by
  have:=aW hf;have:aa h=1+h.1+h.2.1:=rfl;omega
 rw [hL,if_pos hf];simp only;have hwl:(P.1.length:Int)=w:=by omega
 rw [hwl];generalize (aX P slot h).2.2=e at *;have hq0:P.2.2.1.length=0->((P.2.2.1.length:Int)+1) * aa h=aa h:=fun h0=>by rw [h0]; simp
 have hq1:0<=((P.2.2.1.length:Int)+1) * aa h:=Int.mul_nonneg (by omega) (by omega);have hq2:((P.2.2.1.length:Int)+1) * aa h<=17 * 256:=Int.mul_le_mul (by omega) (by omega) (by omega) (by omega);generalize ((P.2.2.1.length:Int)+1) * aa h=q at *;generalize aa h=n at *;generalize ga P=F at *;simp only [am] at hw |-;refine ⟨trivial,trivial,trivial,fun hx=>?_,fun _=>⟨by omega,by omega,by omega,fun _=>by omega,fun hx=>?_,fun _=>⟨fun _=>by omega,?_,trivial⟩⟩⟩
 ·exfalso;simp only [Oj,NA,N5] at hx;omega
 ·exfalso;simp only [Oj,NA,N5] at hx;omega
 ·rw [Oj,PN,PG,N5];by_cases hp:0<P.2.2.1.length
  ·left; omega
  ·right;have:=hq0 (by omega);constructor
   ·intro he; omega
   ·intro hle;exact A2 (by omega)
theorem vQ:vH.ok Tryz.prog 5:=aF (ann:=cr) (ae BV (ae gT (ae Jl (ae Jr (ae rM (ae xi ap)))))) Tryz.func5 (by kernel_rfl) sR
end
section
open Go Go.ChangeShapes Go.WideShapes Go.ChangeAt Go.RowKit Go.Deep
def uy (P:Program) (g:Ty->TypeId->Bool):List Field->Ty->Nat->Bool
 | [],_,_=>false
 | [f],T,off=>Nat.beq f.offset off&&Nat.beq (P.cellsOf f.type) T.size&&g T f.type
 | f::f2::fs,T,off=>match T with
  | .pair A B=>Nat.beq f.offset off&&Nat.beq (P.cellsOf f.type) A.size&&g A f.type&&uy P g (f2::fs) B (off+A.size)
  | _=>false
def ux (P:Program):Nat->Ty->TypeId->Bool
 | 0,_,_=>false
 | n+1,T,t=>match P.underlying t,T with
  | some (.int k),.int k'=>if k=k' then true else false
  | some .bool,.bool=>true
  | some .string,.str=>true
  | some (.slice e),.arr T=>Nat.beq (P.cellsOf e) T.size&&Nat.ble T.bytes (P.bytesOf e)&&ux P n T e
  | some (.struct fs),.pair A B=>Nat.beq (P.cellsOf t) (Ty.pair A B).size&&uy P (ux P n) fs.toList (.pair A B) 0
  | _,_=>false
section
variable {H:Type} {enc:TypeId×Value->H} {P:Program} {w:World}
theorem L7 {k:IntKind} {n:Int} (h:(Lit.int k n).wf=true):am k n:=by
 simp only [Lit.wf,NA,N5] at h;cases k <;> simp [am,IntKind.min,IntKind.max,IntKind.signed,IntKind.bits] at h |- <;> omega
theorem xJ {a:Addr} {v:Value} (h:w.cell? a=some v):a.spot=none/\(full w).cell a.block a.off=some v:=by
 unfold World.cell? at h;split at h
 ·rename_i c t z hb;split at h
  ·cases h
  ·rename_i hs;refine ⟨by cases hsp:a.spot <;> simp_all,?_⟩;simp [PH.cell,full,hb,h,Blk.get]
 ·cases h
theorem Kj (d:DataW H):1<=Rows.uptoBulk d:=by
 cases d with
 | lit l=>cases l <;> simp [Rows.uptoBulk]
 | nil=>simp [Rows.uptoBulk]
 | ptr d=>simp [Rows.uptoBulk]
 | slice elems spare=>simp [Rows.uptoBulk]
 | agg parts=>simp [Rows.uptoBulk]
 | iface t d=>simp [Rows.uptoBulk]
 | map entries=>simp [Rows.uptoBulk]
 | held h=>simp [Rows.uptoBulk]
theorem xK {d:DataW H} {l:List (DataW H)} (h:d∈l):Rows.uptoBulk d<=Rows.uptoBulkAll l:=by
 induction l with
 | nil=>cases h
 | cons x r ih =>
  simp only [Rows.uptoBulkAll];cases NG.1 h with
  | inl e=>subst e; omega
  | inr e=>have:=ih e; omega
theorem CT (l:List (DataW H)):l.length<=Rows.uptoBulkAll l:=by
 induction l with
 | nil=>simp [Rows.uptoBulkAll]
 | cons x r ih=>have:=Kj x; simp only [Rows.uptoBulkAll,NC]; omega
def L5 (enc:TypeId×Value->H) (P:Program) (w:World) (g:Ty->TypeId->Bool):Prop :=
 ∀ (T:Ty) (t:TypeId) (fuel:Nat) (cs:List Value) (d:DataW H) (ps:List MemPlace),g T t=true->DataW.trod enc P w 0 (fun _=>true) true fuel t cs=some (d,ps) ->
  (∀ n∈d.weights P t,n<=reachBytes)->∃ x:T.den,T.holds (full w) x cs/\im T x/\∀ B,Rows.uptoBulk d<=B->gO B T x
theorem FJ {g:Ty->TypeId->Bool} (hg:L5 enc P w g) {all:List Field} {cs:List Value} {xs:List (DataW H×List MemPlace)} {n:Nat}
  (hat:∀ (i:Nat) (f:Field),all[i]?=some f->DataW.trod enc P w 0 (fun _=>true) true n f.type ((cs.drop f.offset).take (P.cellsOf f.type))=xs[i]?)
  (hlen:xs.length=all.length) (hw:∀ m∈DataW.weightsEach P (all.map (·.type)) (xs.map (·.1)),m<=reachBytes) :
  ∀ (fs:List Field) (T:Ty) (off:Nat) (k:Nat),uy P g fs T off=true->(∀ i,fs[i]?=all[k+i]?)->cs.length=off+T.size->∃ x:T.den,T.holds (full w) x (cs.drop off)/\im T x/\∀ B,(∀ y∈xs,Rows.uptoBulk y.1<=B)->gO B T x
 | [],_,_,_,h,_,_=>by cases h
 | [f],T,off,k,h,hk,hc=>by
  simp only [uy,NA] at h;obtain ⟨⟨h1,h2⟩,h3⟩:=h;have h1:=Nz h1;have h2:=Nz h2;have e0:all[k]?=some f:=by have:=hk 0; simpa using this.symm
  have hkl:k<all.length:=by
   rcases NW k all.length with h | h
   ·exact h
   ·rw [List.getElem?_eq_none h] at e0; cases e0
  have hx:xs[k]?=some (xs[k]'(by omega)):=List.getElem?_eq_getElem (by omega);have ht:=hat k f e0;rw [hx,h1,h2] at ht;have:=hg T f.type n _ (xs[k]'(by omega)).1 (xs[k]'(by omega)).2 h3 ht (fun m hm=>hw m (DataW.weights_mem_each (j:=k) (by simp [e0]) (by simp [hx]) m hm));rw [NP (by simp; omega)] at this;obtain ⟨x,h5,h6,h7⟩:=this;exact ⟨x,h5,h6,fun B hB=>h7 B (hB _ (List.getElem_mem (by omega)))⟩
 | f::f2::fs,T,off,k,h,hk,hc=>by
  cases T with
  | pair A B =>
   simp only [uy,NA] at h;obtain ⟨⟨⟨h1,h2⟩,h3⟩,h4⟩:=h;have h1:=Nz h1;have h2:=Nz h2;have e0:all[k]?=some f:=by have:=hk 0; simpa using this.symm
   have hkl:k<all.length:=by
    rcases NW k all.length with h | h
    ·exact h
    ·rw [List.getElem?_eq_none h] at e0; cases e0
   have hx:xs[k]?=some (xs[k]'(by omega)):=List.getElem?_eq_getElem (by omega);have ht:=hat k f e0;rw [hx,h1,h2] at ht;obtain ⟨x,hx1,hx2,hx3⟩:=hg A f.type n _ (xs[k]'(by omega)).1 (xs[k]'(by omega)).2 h3 ht (fun m hm=>hw m (DataW.weights_mem_each (j:=k) (by simp [e0]) (by simp [hx]) m hm));obtain ⟨y,hy1,hy2,hy3⟩:=FJ hg hat hlen hw (f2::fs) B (off+A.size) (k+1) h4 (fun i=>by have:=hk (i+1); simp only [List.getElem?_cons_succ] at this; rw [this]; congr 1; omega) (by simp only [Ty.size] at hc; omega);refine ⟨(x,y),⟨_,_,?_,hx1,hy1⟩,⟨hx2,hy2⟩,fun B hB=>⟨hx3 B (hB _ (List.getElem_mem (by omega))),hy3 B hB⟩⟩;rw [<- OT,OD]
  | _=>cases h
theorem Ji {T:Ty} {a:Addr} {n:Nat} {bd:Nat->Nat} (hat:∀ i,i<n->∃ cs,w.cells? 0 (a.add (i * T.size)) T.size=some cs/\∃ x:T.den,T.holds (full w) x cs/\im T x/\∀ B,bd i<=B->gO B T x) :
  ∃ (xs:List T.den) (l:List Value),xs.length=n/\aK (Ty.holds T (full w)) xs l/\(∀ j u,l[j]?=some u->w.cell? (a.add j)=some u)/\∀ x∈xs,im T x/\∀ B,(∀ i,i<n->bd i<=B)->gO B T x:=by
 induction n with
 | zero=>exact ⟨[],[],rfl,rfl,fun j u h=>by simp at h,fun x h=>by cases h⟩
 | succ n ih =>
  obtain ⟨xs,l,h1,h2,h3,h4⟩:=ih (fun i hi=>hat i (by omega));obtain ⟨cs,hc,x,hx,hxr,hxs⟩:=hat n (by omega);obtain ⟨_,hl,hcell⟩:=World.cells?_some hc;have hll:l.length=n * T.size:=by rw [cS (fun x cs h=>Ty.holds_length T x cs h) xs l h2,h1]
  refine ⟨xs++[x],l++cs,by simp [h1],co _ _ _ _ h2 ⟨cs,[],by simp,hx,rfl⟩,fun j u hj=>?_,fun y hy=>?_⟩;rotate_left
  ·rcases NI.1 hy with hy | hy
   ·exact ⟨(h4 y hy).1,fun B hB=>(h4 y hy).2 B (fun i hi=>hB i (by omega))⟩
   ·rw [NL.1 hy]; exact ⟨hxr,fun B hB=>hxs B (hB n (by omega))⟩
  rcases NW j l.length with hjl | hjl
  ·rw [List.getElem?_append_left hjl] at hj;exact h3 j u hj
  ·rw [List.getElem?_append_right hjl] at hj
   have hjc:j - l.length<T.size:=by
    rcases NW (j - l.length) cs.length with h | h
    ·omega
    ·rw [List.getElem?_eq_none h] at hj; cases hj
   have:=hcell (j - l.length) hjc;rw [hj,Go.Deep.add_add] at this;rw [<- this];congr 2;omega
theorem MR (n:Nat):L5 enc P w (ux P n):=by
 induction n with
 | zero=>intro T t fuel cs d ps h; cases h
 | succ n ih =>
  intro T t fuel cs d ps h ht hw;unfold ux at h;split at h
  ·rename_i k k' hu;split at h
   ·rename_i hk;subst hk;obtain ⟨m,rfl,_,hwf⟩:=DataW.trod_int hu ht;exact ⟨m,⟨rfl,L7 hwf⟩,trivial,fun _ _=>trivial⟩
   ·cases h
  ·rename_i hu;obtain ⟨b,rfl,_⟩:=DataW.trod_bool hu ht;exact ⟨b,rfl,trivial,fun _ _=>trivial⟩
  ·rename_i hu;obtain ⟨s,rfl,hx,_⟩:=DataW.trod_string hu ht;injection hx with hx _
   subst hx;have:=hw s.data.toList.length (by simp [DataW.weights]);have e:reachBytes=140737488351232:=rfl;refine ⟨s.data.toList,⟨rfl,?_⟩,?_,fun B hB=>?_⟩
   ·unfold aL;omega
   ·show s.data.toList.length<=140737488351232;omega
   ·simp only [Rows.uptoBulk] at hB;show s.data.toList.length<=B;omega
  ·rename_i e T hu;simp only [NA] at h;obtain ⟨⟨h1,h2⟩,h3⟩:=h;have h1:=Nz h1;have h2:=NO h2;rcases open_slice hu ht with ⟨rfl,_⟩ | ⟨a,len,cap,m,n',D,Pl,rfl,_,hl,hm,hmm,hx,hi⟩
   ·exact ⟨[],⟨none,0,[],rfl,by simp,by simp,rfl,fun h=>absurd rfl h⟩,⟨by show 0 * _<=_; simp,fun x h=>by cases h⟩,fun B _=>⟨Of B,fun x h=>by cases h⟩⟩
   ·simp only [if_true] at hmm;injection hx with hx _
    subst hx;have hsz:(len+(m - len)) * P.bytesOf e<=reachBytes:=hw _ (by simp [DataW.weights,hu])
    have hweach:∀ (l:List (DataW H)) (d:DataW H),d∈l->∀ q∈d.weights P e,q∈DataW.weightsAll P e l:=by
     intro l
     induction l with
     | nil=>intro d hd; cases hd
     | cons y l ih2 =>
      intro d hd q hq;simp only [DataW.weightsAll,NI];rcases NG.1 hd with rfl | hd
      ·exact .inl hq
      ·exact .inr (ih2 d hd q hq)
    obtain ⟨xs,l,k1,k2,k3,k4⟩:=Ji (w:=w) (T:=T) (a:=a) (n:=len) (bd:=fun i=>Rows.uptoBulk (D i)) (fun i hil=>by
     obtain ⟨cs',hc,ht'⟩:=hi i (by omega);rw [h1] at hc;refine ⟨cs',hc,ih T e n' cs' (D i) (Pl i) h3 ht' (fun q hq=>hw q ?_)⟩;simp only [DataW.weights,hu,NG,NI];exact .inr (.inl (hweach _ (D i) (by simp only [NZ,PP]; exact ⟨i,hil,rfl⟩) q hq)))
    refine ⟨xs,⟨some a,cap,l,by rw [k1],by omega,?_,k2,fun hne=>?_⟩,⟨?_,fun x hx=>(k4 x hx).1⟩,fun B hB=>⟨?_,fun x hx=>(k4 x hx).2 B (fun i hi=>?_)⟩⟩;rotate_left 3
    ·have hB2:=hB;simp only [Rows.uptoBulk] at hB2;refine Oe ?_ (Oe (CT _) (Oe (Oe (Nat.le_add_right _ _) (Nat.le_add_right _ _)) hB2));show xs.length<=_;rw [k1];simp
    ·have hB2:=hB;simp only [Rows.uptoBulk] at hB2;refine Oe (xK ?_) (Oe (Oe (Nat.le_add_right _ _) (Nat.le_add_right _ _)) hB2);simp only [NZ,PP];exact ⟨i,hi,rfl⟩
    rotate_left 2
    ·have h5:len * T.bytes<=(len+(m - len)) * P.bytesOf e:=Nat.mul_le_mul (by omega) h2;have e:reachBytes=140737488351232:=rfl;show xs.length * _<=_;rw [k1];omega
    ·have h5:len * T.bytes<=(len+(m - len)) * P.bytesOf e:=Nat.mul_le_mul (by omega) h2;have e:reachBytes=140737488351232:=rfl;rw [k1];unfold aL;omega
    ·have hpos:=Ty.size_pos T
     have hlp:0<l.length:=by
      rw [cS (fun x cs h=>Ty.holds_length T x cs h) xs l k2];have:0<xs.length:=List.length_pos_iff.2 hne;exact Nat.mul_pos this hpos
     have hsp:a.spot=none:=(xJ (k3 0 _ (List.getElem?_eq_getElem hlp))).1
     refine ⟨a.block,a.off,by cases a; simp_all,fun j u hj=>by
      have h9:=(xJ (k3 j u hj)).2;by_cases hj0:j=0 <;> simp only [Addr.add,hj0,if_true,N4,OW] at h9 |- <;> exact h9⟩
  ·rename_i fs A B hu;simp only [NA] at h;obtain ⟨h1,h2⟩:=h;have h1:=Nz h1;obtain ⟨xs,n',_,hx,hlen,hxl,hat⟩:=DataW.trod_struct hu ht;injection hx with hx _
   subst hx;have:=FJ ih (all:=fs.toList) (cs:=cs) (xs:=xs) (n:=n') (fun i f hf=>hat i f (by simpa using hf)) (by simp [hxl]) (fun m hm=>hw m (by simpa [DataW.weights,hu] using hm)) fs.toList (.pair A B) 0 0 h2 (fun i=>by simp) (by omega);obtain ⟨x,h5,h6,h7⟩:=this;refine ⟨x,by simpa using h5,h6,fun C hC=>h7 C fun y hy=>Oe (xK (NZ.2 ⟨y,hy,rfl⟩)) ?_⟩;simp only [Rows.uptoBulk] at hC;exact Oe (Nat.le_succ _) hC
  ·cases h
def py (P:Program):List Ty->List TypeId->Bool
 | [],[]=>true
 | T::Ts,t::ts=>ux P 9 T t&&py P Ts ts
 | _,_=>false
theorem Jh {base:Nat} {n:Nat} {T:Ty} {t:TypeId} {v:Value} {x:T.den} (hf:ux P n T t=true) (hv:Value.okWide P w .any base t v) (hx:T.holds (full w) x v.cells.toList):T.vholds (full w) x v:=by
 cases n with
 | zero=>cases hf
 | succ n =>
  unfold ux at hf;split at hf
  ·rename_i k k' hu
   have:v.cells=#[v]:=by
    cases v <;> first | rfl | simp [Value.okWide,hu,Cell.okWide,Cell.ok] at hv
   rw [this] at hx;exact hx
  ·rename_i hu
   have:v.cells=#[v]:=by
    cases v <;> first | rfl | simp [Value.okWide,hu,Cell.okWide,Cell.ok] at hv
   rw [this] at hx;exact hx
  ·rename_i hu
   have:v.cells=#[v]:=by
    cases v <;> first | rfl | simp [Value.okWide,hu,Cell.okWide,Cell.ok] at hv
   rw [this] at hx;exact hx
  ·rename_i e T hu
   have:v.cells=#[v]:=by
    cases v <;> first | rfl | simp [Value.okWide,hu,Cell.okWide,Cell.ok] at hv
   rw [this] at hx;exact hx
  ·rename_i fs A B hu;obtain ⟨cs,rfl,_⟩:=okWide_struct hu hv;exact ⟨cs,rfl,hx⟩
  ·cases hf
theorem xf {base:Nat}:∀ (Ts:List Ty) (ts:List TypeId) (vs:List Value) (ds:List (DataW H)) (p:List MemPlace),py P Ts ts=true->DataW.TrodAll enc P w 0 (fun _=>true) true ts vs ds p ->
  (∀ (j:Nat) t v,ts[j]?=some t->vs[j]?=some v->Value.okWide P w .any base t v)->(∀ m∈DataW.weightsEach P ts ds,m<=reachBytes)->∃ x:fT Ts,cY (full w) Ts x vs/\l8 Ts x/\∀ B,Rows.uptoBulkAll ds<=B->p7 B Ts x
 | [],[],vs,ds,p,_,hA,_,_=>by
  cases vs with
  | nil=>exact ⟨(),rfl,trivial,fun _ _=>trivial⟩
  | cons v vs=>cases ds <;> exact hA.elim
 | [],t::ts,_,_,_,h,_,_,_=>by cases h
 | T::Ts,[],_,_,_,h,_,_,_=>by cases h
 | T::Ts,t::ts,[],ds,p,h,hA,hv,hw=>by cases ds <;> exact hA.elim
 | T::Ts,t::ts,v::vs,[],p,h,hA,hv,hw=>hA.elim
 | T::Ts,t::ts,v::vs,d::ds,p,h,hA,hv,hw=>by
  simp only [py,NA] at h;obtain ⟨p1,p2,⟨fuel,h1⟩,h2,_⟩:=hA;obtain ⟨x,hx,hxr,hxs⟩:=MR 9 T t fuel _ d p1 h.1 h1 (fun m hm=>hw m (by simp only [DataW.weightsEach,NI]; exact .inl hm));have hxv:=Jh h.1 (hv 0 t v rfl rfl) hx;obtain ⟨y,hy,hyr,hys⟩:=xf Ts ts vs ds p2 h.2 h2 (fun j t v a b=>hv (j+1) t v (by simpa using a) (by simpa using b)) (fun m hm=>hw m (by simp only [DataW.weightsEach,NI]; exact .inr hm));cases Ts with
  | nil =>
   simp only [cY] at hy;subst hy;exact ⟨x,⟨v,rfl,hxv⟩,hxr,fun B hB=>hxs B (by simp only [Rows.uptoBulkAll] at hB; omega)⟩
  | cons U Ts=>exact ⟨(x,y),⟨v,vs,rfl,hxv,hy⟩,⟨hxr,hyr⟩,fun B hB=>⟨hxs B (by simp only [Rows.uptoBulkAll] at hB; omega),hys B (by simp only [Rows.uptoBulkAll] at hB; omega)⟩⟩
theorem lT:∀ {ts:List TypeId} {vs:List Value} {ds:List (DataW H)} {p:List MemPlace} {b:Nat} {sp:Nat->Bool} {hd:Bool},DataW.TrodAll enc P w b sp hd ts vs ds p->ds.length=ts.length
 | [],[],[],_,_,_,_,_=>rfl
 | [],[],_::_,_,_,_,_,h=>h.elim
 | [],_::_,[],_,_,_,_,h=>h.elim
 | [],_::_,_::_,_,_,_,_,h=>h.elim
 | _::_,[],[],_,_,_,_,h=>h.elim
 | _::_,[],_::_,_,_,_,_,h=>h.elim
 | _::_,_::_,[],_,_,_,_,h=>h.elim
 | _::ts,_::vs,_::ds,_,_,_,_,h=>by
  obtain ⟨p,q,_,h2,_⟩:=h;simp [lT h2]
theorem wy (hl:laidOutB P=true) {W W':World} {sp:Nat->Bool}:∀ {ts:List TypeId} {vs:List Value} {ds:List (DataW H)} {p:List MemPlace},(ts.all fun t=>P.readableRec t&&Nat.blt t P.types.size)=true ->
  DataW.TrodAll enc P W 0 (fun _=>true) true ts vs ds p->(∀ x∈p,W.sameAt W' x)->(∀ x∈p,sp x.block=true)->DataW.TrodAll enc P W' 0 sp true ts vs ds p
 | [],[],[],_,_,h,_,_=>h
 | [],[],_::_,_,_,h,_,_=>h.elim
 | [],_::_,[],_,_,h,_,_=>h.elim
 | [],_::_,_::_,_,_,h,_,_=>h.elim
 | _::_,[],[],_,_,h,_,_=>h.elim
 | _::_,[],_::_,_,_,h,_,_=>h.elim
 | _::_,_::_,[],_,_,h,_,_=>h.elim
 | t::ts,v::vs,d::ds,_,hr,h,hs,hsp=>by
  simp only [OB,NA] at hr;obtain ⟨p,q,h1,h2,rfl⟩:=h;refine ⟨p,q,WideElems.Trod_stays hl hr.1.1 (by simpa using hr.1.2) h1 (fun x hx=>hs x (by simp [hx])) (fun x hx=>hsp x (by simp [hx])),wy hl hr.2 h2 (fun x hx=>hs x (by simp [hx])) (fun x hx=>hsp x (by simp [hx])),rfl⟩
theorem vM {f:Func} {s:ChangeSpec} {apart fresh handsOn again:Bool} {W W':World} {args:Array Value} {v:Value} {ds gs:List (DataW H)} {before pa pv:List MemPlace}
  (hW:DataW.Whole enc P f.params.toList s.vars apart W args.toList ds gs before)
  (hres:∀ (b:Nat) (sp:Nat->Bool) (hd:Bool),DataW.TrodAll enc P W' b sp hd f.resultTypes.toList (v.resultList f.resultTypes.size) (s.fn H (ds++gs)).results [])
  (hargs:∀ sp:Nat->Bool,(∀ p∈before,sp p.block=true)->DataW.TrodAll enc P W' 0 sp true f.params.toList args.toList (s.fn H (ds++gs)).args pa)
  (hvars:∀ sp:Nat->Bool,(∀ p∈before,sp p.block=true)->DataW.TrodVars enc P W' sp s.vars (s.fn H (ds++gs)).vars pv)
  (hps:before=pa++pv) (hb:Below W.heap.size W W')
  (hok:∀ (j:Nat) (t:TypeId) (r:Value),f.resultTypes[j]?=some t->(v.resultList f.resultTypes.size)[j]?=some r->Value.okWide P W' .any 0 t r) :
  s.post enc P f apart fresh handsOn again W args v W':=by
 have hlt:∀ p∈before,p.block<W.heap.size:=fun p hp=>hW.lt p hp
 have hold:∀ p∈before,(fun b=>decide (b<W.heap.size)) p.block=true:=fun p hp=>by simpa using hlt p hp
 refine ⟨ds,gs,before,[],pa,pv,hW,hres _ _ _,hargs _ hold,hvars _ hold,World.keptBut_mono (fun p hp=>⟨hp,?_⟩) (hb.frame (·∈before)),fun _=>?_⟩
 ·rw [hps,NI] at hp;exact Or.inr hp
 ·obtain ⟨_,_,_,_,_,hz,hn⟩:=hW;refine ⟨hok,_,_,([]++pa)++pv,⟨[]++pa,pv,trodAll_append (hargs _ (fun _ _=>rfl)) (hres _ _ _),hvars _ (fun _ _=>rfl),rfl,?_,?_⟩,?_⟩
  ·intro b off hp;have hin:MemPlace.cell b off∈before:=by rw [hps]; simpa using hp
   rw [hb.frozen (hlt _ hin)];exact hz b off hin
  ·intro ha;have:=hn ha;rw [hps] at this;simpa using this
  ·intro p hp _;rw [hps];simpa using hp
theorem vU {Ts:List Ty} {pre:fT Ts->Prop} {f:FuncId} {fn:Func} {r:ChangeSpec} {apart fresh handsOn again:Bool} {tb:TypeId} (hok:Spec.ok { Ts:=Ts,Rs:=[.dat .bool],pre:=pre,F:=fun _=>(true:Bool) } P f)
  (hl:laidOutB P=true) (hfit:py P Ts fn.params.toList=true) (hrec:(fn.params.toList.all fun t=>P.readableRec t&&Nat.blt t P.types.size)=true)
  (hres:fn.resultTypes=#[tb]) (htb:P.underlying tb=some .bool) (hvars:r.vars=[]) (hfn:∀ ds:List (DataW H),ds.length=fn.params.size->r.fn H ds={ results:=[.lit (.bool true)],args:=ds })
  {W:World} {base:Nat} {args:Array Value} {ds gs:List (DataW H)} {before:List MemPlace} (hval:∀ (j:Nat) t v,fn.params[j]?=some t->args[j]?=some v->Value.okWide P W .any base t v)
  (hW:DataW.Whole enc P fn.params.toList r.vars apart W args.toList ds gs before)
  (hwt:(DataW.weightsEach P (fn.params.toList++r.plain.varTypes P) (ds++gs)).all (·<=reachBytes)=true) (hLd:Laid W) (hpre:∀ x,l8 Ts x->(∀ B,Rows.uptoBulkAll (ds++gs)<=B->p7 B Ts x)->pre x) :
  Calls P f args W fun e W'=>∃ v,e=.returned v/\r.post enc P fn apart fresh handsOn again W args v W':=by
 have hW':=hW;obtain ⟨p,q,hA,hV,rfl,hfz,hnd⟩:=hW;rw [hvars] at hV;obtain ⟨rfl,rfl⟩:=trodVars_none hV
 have hwt':∀ m∈DataW.weightsEach P fn.params.toList ds,m<=reachBytes:=by
  have e:r.plain.varTypes P=[]:=by simp [ChangeSpec.plain,DataSpec.varTypes,hvars]
  rw [e,Om,Om] at hwt;intro m hm;simpa using NH.1 hwt m hm
 obtain ⟨x,hx,hxr,hxs⟩:=xf Ts fn.params.toList args.toList ds p hfit hA (fun j t v a b=>hval j t v (by simpa using a) (by simpa using b)) hwt';have hcall:=hok (full W) W args.toList x hLd (mv W) hx (hpre x hxr (by simpa using hxs));simp only [P1] at hcall;refine hcall.mono fun e W' ⟨rs,qq,he,hk,_,_,hr⟩=>?_
 subst he;have hb:Below W.heap.size W W':=⟨hk.os,hk.tape,hk.output,hk.size,fun i hi=>hk.block i hi (fun h=>h)⟩;obtain ⟨v,rfl,hv,_⟩:=hr
 have hv:v=.bool true:=by
  have h2:[v]=[.bool true]:=hv;exact (List.cons.inj h2).1
 subst hv;have hd:=lT hA
 have e1:r.fn H (ds++[])={ results:=[.lit (.bool true)],args:=ds }:=by
  rw [Om]; exact hfn ds (by simpa using hd)
 refine ⟨_,rfl,vM (pa:=p) (pv:=[]) hW' (fun b sp hd=>?_) (fun sp hsp=>?_) (fun sp _=>?_) rfl hb (fun j t v hj hv=>?_)⟩
 ·rw [e1,hres];exact trodAll_mk1 ⟨1,by simp [ck,DataW.trod,htb,Value.cells]⟩
 ·rw [e1];exact wy hl hrec hA (fun y hy=>hb.same (hW'.lt y (by simpa using hy))) (fun y hy=>hsp y (by simpa using hy))
 ·rw [e1,hvars];rfl
 ·rw [hres] at hj hv
  have:j=0:=by
   rcases j with _ | j
   ·rfl
   ·simp at hj
  subst this;simp at hj;subst hj;have:v=.bool true:=by simpa [Value.resultList,ck] using hv.symm
  subst this;simp [Value.okWide,htb,Cell.okWide,Cell.ok]
theorem zc {Ts:List Ty} {f:FuncId} {fn:Func} {r:ChangeSpec} {apart fresh handsOn again:Bool} {tb:TypeId} (hok:(IW Ts).ok P f)
  (hl:laidOutB P=true) (hfit:py P Ts fn.params.toList=true) (hrec:(fn.params.toList.all fun t=>P.readableRec t&&Nat.blt t P.types.size)=true)
  (hres:fn.resultTypes=#[tb]) (htb:P.underlying tb=some .bool) (hvars:r.vars=[]) (hfn:∀ ds:List (DataW H),ds.length=fn.params.size->r.fn H ds={ results:=[.lit (.bool true)],args:=ds })
  {W:World} {base:Nat} {args:Array Value} {ds gs:List (DataW H)} {before:List MemPlace} (hval:∀ (j:Nat) t v,fn.params[j]?=some t->args[j]?=some v->Value.okWide P W .any base t v)
  (hW:DataW.Whole enc P fn.params.toList r.vars apart W args.toList ds gs before)
  (hwt:(DataW.weightsEach P (fn.params.toList++r.plain.varTypes P) (ds++gs)).all (·<=reachBytes)=true) (hLd:Laid W) :
  Calls P f args W fun e W'=>∃ v,e=.returned v/\r.post enc P fn apart fresh handsOn again W args v W' :=
 vU (pre:=l8 Ts) hok hl hfit hrec hres htb hvars hfn hval hW hwt hLd fun _ h _=>h
end
end
section
open Go Go.ChangeShapes Go.WideShapes Go.ChangeAt Go.RowKit
abbrev pm : List (String × DataW Unit) := [("math/bits.deBruijn32tab", Rows.laid_math_bits_deBruijn32tab), ("math/bits.deBruijn64tab", Rows.laid_math_bits_deBruijn64tab), ("internal/strconv.uint64pow10", Rows.laid_internal_strconv_uint64pow10), ("unicode/utf8.acceptRanges", Rows.laid_unicode_utf8_acceptRanges), ("cairnfield/play.forms", Rows.laid_cairnfield_play_forms), ("strconv.ErrRange", Rows.laid_strconv_ErrRange), ("strconv.ErrSyntax", Rows.laid_strconv_ErrSyntax), ("unicode/utf8.first", Rows.laid_unicode_utf8_first)]
theorem Kf (os:Os) (args:Array Value):laidMetH Tryz.prog pm ((World.laidAll Tryz.prog os pm).forCall (fun _ _=>0) ⟨#[],args,[]⟩).memory:=by
 rw [MakeChecks.laidMetH_plain _ _ _ (by kernel_rfl)];exact laidMet_laidAll _ (by kernel_rfl) (by kernel_rfl)
theorem Km {H:Type} {enc:TypeId×Value->H} {P:Program} {w:World} {base:Nat} {sp:Nat->Bool} {held:Bool} {fuel:Nat} {t e:TypeId} {n:Nat} {cs:List Value} {bs:List Bool} {p:List MemPlace}
  (ht:P.underlying t=some (.array n e)) (he:P.underlying e=some .bool) (hce:P.cellsOf e=1) (hct:P.cellsOf t=n)
  (h:DataW.trod enc P w base sp held fuel t cs=some (.agg (bs.map fun b=>.lit (.bool b)),p)):cs=bs.map Value.bool:=by
 obtain ⟨xs,m,rfl,hx,hl,hn,hel⟩:=DataW.trod_array ht h
 have hxs:xs.map (·.1)=bs.map fun b=>(DataW.lit (.bool b):DataW H):=by
  have:=congrArg Prod.fst hx;simpa using this.symm
 have hbl:bs.length=n:=by
  have:=congrArg List.length hxs;simp at this;omega
 apply Pr;intro i;by_cases hi:i<n
 ·have h1:=hel i hi;rw [hce,O6,List.getElem?_eq_getElem (by omega)] at h1;obtain ⟨b,hb,he1⟩:=DataW.trod_bool he h1
  have h2:cs[i]?=some (.bool b):=by
   have:=congrArg (·[0]?) hb;simpa [List.getElem?_take,List.getElem?_drop] using this
  have h3:(xs.map (·.1))[i]?=some (DataW.lit (.bool b):DataW H):=by
   rw [List.getElem?_map,List.getElem?_eq_getElem (by omega),he1];rfl
  rw [hxs] at h3;simp only [List.getElem?_map,NB,DataW.lit.injEq,Lit.bool.injEq] at h3;obtain ⟨b',hb',rfl⟩:=h3;simp [h2,hb']
 ·rw [List.getElem?_eq_none (by omega),List.getElem?_eq_none (by simp; omega)]
theorem Ia {H:Type} {enc:TypeId×Value->H} {P:Program} {w:World} {base:Nat} {sp:Nat->Bool} {held:Bool} {fuel:Nat} {t u e:TypeId} {n k:Nat} {cs:List Value} {bss:List (List Bool)} {p:List MemPlace}
  (ht:P.underlying t=some (.array n u)) (hu:P.underlying u=some (.array k e)) (he:P.underlying e=some .bool) (hce:P.cellsOf e=1) (hcu:P.cellsOf u=k)
  (h:DataW.trod enc P w base sp held fuel t cs=some (.agg (bss.map fun bs=>.agg (bs.map fun b=>.lit (.bool b))),p)) (i:Nat) (bs:List Bool) (hi:bss[i]?=some bs):(cs.drop (i * k)).take k=bs.map Value.bool:=by
 obtain ⟨xs,m,rfl,hx,hl,hn,hel⟩:=DataW.trod_array ht h
 have hxs:xs.map (·.1)=bss.map fun bs=>(DataW.agg (bs.map fun b=>.lit (.bool b)):DataW H):=by
  have:=congrArg Prod.fst hx;simpa using this.symm
 have hbl:bss.length=n:=by
  have:=congrArg List.length hxs;simp at this;omega
 have hin:i<n:=by
  have:=(List.getElem?_eq_some_iff.1 hi).1;omega
 have h1:=hel i hin;rw [hcu,List.getElem?_eq_getElem (by omega)] at h1
 have h3:(xs[i]'(by omega)).1=DataW.agg (bs.map fun b=>.lit (.bool b)):=by
  have:(xs.map (·.1))[i]?=some (xs[i]'(by omega)).1:=by rw [List.getElem?_map,List.getElem?_eq_getElem (by omega)]; rfl
  rw [hxs,List.getElem?_map,hi] at this;simpa using this.symm
 exact Km (p:=(xs[i]'(by omega)).2) hu he hce hcu (h1.trans (by rw [<- h3]))
theorem Ll {H:Type} {enc:TypeId×Value->H} {P:Program} {w:World} {base:Nat} {sp:Nat->Bool} {held:Bool} {fuel:Nat} {t e:TypeId} {k:IntKind} {n:Nat} {cs:List Value} {vs:List Int} {p:List MemPlace}
  (ht:P.underlying t=some (.array n e)) (he:P.underlying e=some (.int k)) (hce:P.cellsOf e=1) (hct:P.cellsOf t=n)
  (h:DataW.trod enc P w base sp held fuel t cs=some (.agg (vs.map fun v=>.lit (.int k v)),p)):cs=vs.map (Value.int k):=by
 obtain ⟨xs,m,rfl,hx,hl,hn,hel⟩:=DataW.trod_array ht h
 have hxs:xs.map (·.1)=vs.map fun v=>(DataW.lit (.int k v):DataW H):=by
  have:=congrArg Prod.fst hx;simpa using this.symm
 have hbl:vs.length=n:=by
  have:=congrArg List.length hxs;simp at this;omega
 apply Pr;intro i;by_cases hi:i<n
 ·have h1:=hel i hi;rw [hce,O6,List.getElem?_eq_getElem (by omega)] at h1;obtain ⟨b,hb,he1,_⟩:=DataW.trod_int he h1
  have h2:cs[i]?=some (.int k b):=by
   have:=congrArg (·[0]?) hb;simpa [List.getElem?_take,List.getElem?_drop] using this
  have h3:(xs.map (·.1))[i]?=some (DataW.lit (.int k b):DataW H):=by
   rw [List.getElem?_map,List.getElem?_eq_getElem (by omega),he1];rfl
  rw [hxs] at h3;simp only [List.getElem?_map,NB,DataW.lit.injEq,Lit.int.injEq,Pp] at h3;obtain ⟨b',hb',rfl⟩:=h3;simp [h2,hb']
 ·rw [List.getElem?_eq_none (by omega),List.getElem?_eq_none (by simp; omega)]
theorem JO {H:Type} {enc:TypeId×Value->H} {P:Program} {w:World} {base:Nat} {sp:Nat->Bool} {held:Bool} {fuel:Nat} {t:TypeId} {ms} {cs:List Value} {nm:String} {d:DataW H} {p:List MemPlace}
  (ht:P.underlying t=some (.interface ms)) (h:DataW.trod enc P w base sp held fuel t cs=some (.iface nm d,p)):∃ u v,cs=[.iface u v]:=by
 cases fuel with
 | zero=>simp [DataW.trod] at h
 | succ n =>
  unfold DataW.trod at h;rw [ht] at h;split at h <;> simp_all
theorem DD:∀ t∈(List.zip (List.range 56) formsB.flatten).map (fun x=>((0,x.1,.bool x.2):Nat×Nat×Value)),t.1=0/\∃ i j bs b,t.2.1=4 * i+j/\j<4/\formsB[i]?=some bs/\bs[j]?=some b/\t.2.2=.bool b:=by
 intro t ht;obtain ⟨x,hx,rfl⟩:=NZ.1 ht
 have key:∀ x∈List.zip (List.range 56) formsB.flatten,∃ bs b,formsB[x.1 / 4]?=some bs/\bs[x.1 % 4]?=some b/\x.2=b:=by
  intro x hx;have hall:((List.zip (List.range 56) formsB.flatten).all fun x=>decide ((formsB[x.1 / 4]?.bind fun bs=>bs[x.1 % 4]?)=some x.2))=true:=by decide +kernel
  have:=Nw (NH.1 hall x hx);obtain ⟨bs,h1,h2⟩:=Option.bind_eq_some_iff.1 this;exact ⟨bs,x.2,h1,h2,rfl⟩
 obtain ⟨bs,b,h1,h2,h3⟩:=key x hx;exact ⟨rfl,x.1 / 4,x.1 % 4,bs,b,(by simp only; omega),Nat.mod_lt _ (by omega),h1,h2,by rw [h3]⟩
theorem IA {P:Program} {w:World} {n:String} {g:Nat} {cs:Array Value} (hg:P.globalNamed n=some g) (h:w.var? P n=some cs):∃ t fz,w.heap[g]?=some (.cells cs t fz):=by
 simp only [World.var?,hg,Pg] at h;split at h <;> simp_all
theorem Lk {W:World} (h:laidMetH Tryz.prog pm W):Laid W:=by
 rw [MakeChecks.laidMetH_plain _ _ _ (by kernel_rfl)] at h;obtain ⟨ps,⟨_,_,_,_,_,_,_,_,_,_,⟨_,_,_,_,_,_,_,_,_,_,⟨g1,t1,cs1,f1,p1,q1,hg1,ht1,hv1,ig,⟨_,_,_,_,_,_,_,_,_,_,⟨g0,t0,cs0,f0,p0,q0,hg0,ht0,hv0,hd0,⟨g4,t4,cs4,f4,p4,q4,hg4,ht4,hv4,hd4,⟨g3,t3,cs3,f3,p3,q3,hg3,ht3,hv3,hd3,_,_⟩,_⟩,_⟩,_⟩,_⟩,_⟩,_⟩,_,_⟩:=h;have k0 : Tryz.prog.globalNamed "cairnfield/play.forms" = some 0 := by kernel_rfl
 have k1 : Tryz.prog.globalNamed "internal/strconv.uint64pow10" = some 1 := by kernel_rfl
 have k3 : Tryz.prog.globalNamed "strconv.ErrSyntax" = some 3 := by kernel_rfl
 have k4 : Tryz.prog.globalNamed "strconv.ErrRange" = some 4 := by kernel_rfl
 have y0:(Tryz.prog.globals[0]?).map (·.type)=some 219:=by kernel_rfl
 have y1:(Tryz.prog.globals[1]?).map (·.type)=some 353:=by kernel_rfl
 have y3:(Tryz.prog.globals[3]?).map (·.type)=some 314:=by kernel_rfl
 have y4:(Tryz.prog.globals[4]?).map (·.type)=some 314:=by kernel_rfl
 obtain rfl:=OF (k0.symm.trans hg0);obtain rfl:=OF (y0.symm.trans ht0);obtain rfl:=OF (k1.symm.trans hg1);obtain rfl:=OF (y1.symm.trans ht1);obtain rfl:=OF (k3.symm.trans hg3);obtain rfl:=OF (y3.symm.trans ht3);obtain rfl:=OF (k4.symm.trans hg4);obtain rfl:=OF (y4.symm.trans ht4)
 have err:∀ {g:Nat} {n:String} {cs:Array Value} {f:Nat} {nm:String} {d:DataW Unit} {p:List MemPlace},Tryz.prog.globalNamed n=some g->W.var? Tryz.prog n=some cs ->
   DataW.trod (fun _=>()) Tryz.prog W 0 (fun _=>true) false f 314 cs.toList=some (.iface nm d,p)->Go.Proofs.YtmfileeamnfpaaaGreatDoor.fits W g 0 .nilIface:=fun hg hv hd=>by
  obtain ⟨u,v,e⟩:=JO Tryz.underlying314 hd;refine ⟨u,v,?_⟩;rw [World.var?_cell hg hv 0,<- Array.getElem?_toList,e];rfl
 intro t ht;rcases NI.1 ht with ht | ht
 ·obtain ⟨e0,i,j,bs,b,e1,hj,hb1,hb2,e2⟩:=DD t ht;have hk:=Ia (u:=218) (e:=4) (n:=14) (k:=4) (bss:=formsB) Tryz.underlying219 Tryz.underlying218 Pw (by kernel_rfl) (by kernel_rfl) hd0 i bs hb1;have hc:=World.var?_cell k0 hv0 (4 * i+j);have h4:=congrArg (·[j]?) hk;simp only [List.getElem?_take,List.getElem?_drop,List.getElem?_map,hb2,hj,if_true,Od] at h4;rw [e0,e1,e2];show W.cell? ⟨0,4 * i+j,none⟩=some (.bool b);rw [hc,<- Array.getElem?_toList,show 4 * i+j=i * 4+j by omega];exact h4
 ·simp only [NG,PX,or_false] at ht;rcases ht with rfl | rfl | rfl
  ·have hi:=Ll (e:=45) (k:=.u64) (n:=20) (vs:=(List.range 20).map fun i=>((10 ^ i:Nat):Int)) Tryz.underlying353 Qf (by kernel_rfl) (by kernel_rfl) ig;obtain ⟨ty,fz,e⟩:=IA k1 hv1;refine ⟨ty,fz,?_⟩;rw [e];congr 1;congr 1;apply N7.1;rw [hi];rfl
  ·exact err k3 hv3 hd3
  ·exact err k4 hv4 hd4
end
section
open Go Go.ChangeShapes Go.WideShapes Go.ChangeAt Go.RowKit
theorem topRoom_lifted (os:Os) (started:os.Started) (H:Type) (enc:TypeId×Value->H) :
  ReturnsInHanded {} Tryz.checked os 5 .any (fun w args=>(Rows.topRoomSpec.pre enc Tryz.prog Tryz.f5 Rows.topRoomRow.domain false w args/\laidMetH Tryz.prog Rows.topRoomRow.laid w)/\sizedMet enc Tryz.prog Tryz.f5 (OpenSpec.ofChange Rows.topRoomSpec) false w args) (Rows.topRoomSpec.post enc Tryz.prog Tryz.f5 false true false false):=by
 refine returnsInHanded_of_change_and (C:=Tryz.checked) (X:=fun w _=>laidMetH Tryz.prog Rows.topRoomRow.laid w) (fun _ _ _ hh h=>h.of_heap hh) (by kernel_rfl) started (by kernel_rfl) Tryz.func5
  (ChangeSpec.witness_shaped (enc:=enc) (C:=Tryz.checked) (os:=os) (X:=fun w _=>laidMetH Tryz.prog Rows.topRoomRow.laid w) false (World.laidAll Tryz.prog os pm) #[.int .i64 0,.int .i64 0,.int .i64 0,.slice none 0 0,.int .i64 0,.agg #[.int .i64 0,.int .i64 0,.int .i64 0,.bool false]] 8 (World.laidAll_os _ _ _) (World.shaped_of_ZipB (by kernel_rfl) (by kernel_rfl)) (by kernel_rfl) (by kernel_rfl) (by kernel_rfl) (Kf os _)) ?_
 intro W base args ds gs before hval hW _ hwt hL _;refine zc (P:=Tryz.prog) (fn:=Tryz.f5) (r:=Rows.topRoomSpec) (tb:=4) @vQ (by kernel_rfl) (by kernel_rfl) (by kernel_rfl) (by kernel_rfl) Pw rfl ?_ hval hW hwt (Lk hL);intro ds hd;have hd2:ds.length=6:=hd.trans (by kernel_rfl)
 match ds,hd2 with
 | [_,_,_,_,_,_],_=>rfl
theorem jf_heard:Tryz.prog.stopsHeard=true:=by kernel_rfl
theorem jf_enter:Tryz.prog.mayEnter=true:=by kernel_rfl
theorem jf_lifts:Rows.topRoomRow.lifted=Tryz.prog.liftsFinal:=by kernel_rfl
theorem jf_make:Tryz.prog.make=some Rows.topRoomRow.make:=by kernel_rfl
theorem jf_inpl:Rows.topRoomRow.inPlace=Tryz.prog.inPlace 5:=by kernel_rfl
theorem jf_unf:Rows.topRoomRow.unfollowed=Tryz.prog.unfollowed 5:=by kernel_rfl
theorem jf_rec:Rows.topRoomRow.recurses=Tryz.prog.recurses 5:=by kernel_rfl
theorem jf_named:Rows.topRoomRow.named=Tryz.prog.varsNamed 5:=by kernel_rfl
theorem jf_laid:laidOutB Tryz.prog=true:=by kernel_rfl
theorem jf_rowed:mapsRowed Tryz.prog=true:=by kernel_rfl
theorem jf_closed:joinedFacts Tryz.prog 5 Tryz.f5 Rows.topRoomSpec Rows.topRoomRow=true:=by
 unfold joinedFacts;rw [jf_heard,jf_enter,<- jf_lifts,jf_make,<- jf_inpl,<- jf_unf,<- jf_rec,<- jf_named,jf_laid,jf_rowed]
 kernel_rfl
theorem topRoom_row:Rows.TopRoomSaid :=
 OpenClaim.holds_of_wide 5 Tryz.f5 rfl rfl rfl rfl rfl rfl rfl ⟨rfl,rfl,rfl,rfl,rfl⟩ rfl rfl rfl rfl rfl (by kernel_rfl) Tryz.func5 jf_closed
  (Nw (by kernel_rfl)) (by unfold Func.isWrapper; first | (rw [if_pos (by decide +kernel)]; kernel_rfl) | (rw [if_neg (by decide +kernel)]; exact ⟨rfl,rfl⟩))
  (fun os started H enc _=>topRoom_lifted os started H enc)
theorem topRoom_holds:Rows.TopRoomCardSaid :=
 Claim7.holds_tied_plain_at .later [] [.data, .data, .data, .data, .data, .sentinel, .sentinel, .pinned] true (true, "5b5fcb088d53441a6e833e00799296d41432ec9194293cf31ae9f634430e9183") true
  topRoom_row (fun _ h=>by cases h) (by kernel_rfl) (fun _ h=>by cases h) topRoom_row_tie rfl ⟨rfl,rfl⟩ (by kernel_rfl) rfl
  (fun f fn hf hfn=>by
   obtain rfl:f=5:=OF ((show Tryz.prog.funcNamed Rows.topRoomRow.func=some 5 by kernel_rfl).symm.trans hf) |>.symm;obtain rfl:fn=Tryz.f5:=(OF (Tryz.func5.symm.trans hfn)).symm
   exact ⟨by kernel_rfl,fun j t ht=>by
    have hm:t∈Tryz.f5.params:=Array.mem_of_getElem? ht;have hall:(Tryz.f5.params.toList.all fun u=>!Tryz.prog.wantsStandIn u)=true:=by kernel_rfl
    exact (show Tryz.prog.wantsStandIn t=false by simpa using NH.1 hall t (by simpa using hm))⟩)
  (by kernel_rfl)
end
end Go.Proofs.YtmfileeamnfpaaaGreatDoor
