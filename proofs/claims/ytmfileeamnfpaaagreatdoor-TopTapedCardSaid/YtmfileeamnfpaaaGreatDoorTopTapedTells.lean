import Derived.Test.YtmfileeamnfpaaaGreatDoorM3
import Derived.ProofKit
import Derived.Deep.Slices
import Derived.SizedLaws
import GoSem.ClaimLeaving
import Derived.Test.YtmfileeamnfpaaaGreatDoorTie
import Derived.Test.YtmfileeamnfpaaaGreatDoorCards
import Derived.LaidMore
import Derived.OpenShut
import Derived.ChangeArms
import Derived.Lay
namespace Go.Proofs.YtmfileeamnfpaaaGreatDoor
open Go
set_option maxRecDepth 100000
set_option maxHeartbeats 1000000
section
abbrev Ap:Ty:=.pair .bool aH
abbrev dj:=Bool×ah
inductive Act where
 | begin
 | deed (kind v:Int) (told:Bool)
 | gaps
 | live
 | roots
def B8 (w:List UInt8):Option (Int×Bool×Act) :=
 if w=[110,101,119] then some (3,false,.begin) else
 if w=[109,97,107,101] then some (4,true,.deed 1 3 true) else
 if w=[99,111,108,108,101,99,116] then some (0,true,.deed 2 (-1) true) else
 if w=[114,101,102] then some (3,true,.deed 3 (-1) false) else
 if w=[115,101,116] then some (3,true,.deed 4 (-1) false) else
 if w=[103,101,116] then some (2,true,.deed 5 (-1) true) else
 if w=[112,117,116] then some (3,true,.deed 6 2 false) else
 if w=[112,105,110] then some (1,true,.deed 7 (-1) true) else
 if w=[117,110,112,105,110] then some (1,true,.deed 8 (-1) false) else
 if w=[112,101,101,107] then some (2,true,.deed 9 (-1) true) else
 if w=[111,112,101,110] then some (1,true,.deed 10 (-1) true) else
 if w=[117,115,101] then some (2,true,.deed 11 1 false) else
 if w=[115,104,117,116] then some (1,true,.deed 12 0 false) else
 if w=[100,114,111,112] then some (1,true,.deed 13 (-1) false) else
 if w=[103,97,112,115] then some (0,true,.gaps) else
 if w=[108,105,118,101] then some (0,true,.live) else
 if w=[114,111,111,116,115] then some (0,true,.roots) else none
def gk:List (List UInt8)->Option (List Int)
 | []=>some []
 | s::l=>if (f9 s).2 then (gk l).map ((f9 s).1::·) else none
def fl (v:Int) (n:List Int):List Int:=if 0<=v then n.eraseIdx v.toNat else n
def rk (d:dj) (kind v:Int) (told:Bool) (n:List Int):(List Int×Int)×dj :=
 if 0<=v/\n.getD v.toNat 0<0 then (([],4),d) else
 let r:=bv d.2 kind ((fl v n).getD 0 0) ((fl v n).getD 1 0) ((fl v n).getD 2 0) (if 0<=v then n.getD v.toNat 0 else 0)
 if r.2.2≠0 then (([],r.2.2),d) else ((if told then [IntKind.i64.wrap r.2.1] else [],0),(d.1,r.1))
def mQ (d:dj) (n:List Int):Act->(List Int×Int)×dj
 | .begin=>let r:=au (n.getD 0 0) (n.getD 1 0) (n.getD 2 0); if r.2=0 then (([],0),(true,r.1)) else (([],r.2),d)
 | .deed kind v told=>rk d kind v told n
 | .gaps=>(((an d.2.1).1.flatMap fun g=>[g.1,g.2],(an d.2.1).2),d)
 | .live=>(([(kT d.2).1],(kT d.2).2),d)
 | .roots=>((d.2.2.1,0),d)
def aR (d:dj) (w:List (List UInt8)):(List Int×Int)×dj:=match B8 (w.getD 0 []) with
 | none=>(([],1),d)
 | some (many,store,a)=>if ((w.length:Nat):Int) - 1≠many then (([],3),d) else match gk w.tail with
  | none=>(([],3),d)
  | some n=>if store&&!d.1 then (([],8),d) else mQ d n a
def Jy:BoxFn:={ T:=Ap,Ts:=[.str],Rs:=[.dat (.arr ty_I),.dat ty_I],pre:=fun _ (line:List UInt8)=>line.length<4294967281,F:=fun (d:dj) (line:List UInt8)=>aR d (aj line) }
def dU (k:Int):Int:=if k=1 then 3 else if k=6 then 2 else if k=11 then 1 else if k=12 then 0 else -1
def l7 (k:Int) (n:List Int):O1:=(k,(fl (dU k) n).getD 0 0,(fl (dU k) n).getD 1 0,(fl (dU k) n).getD 2 0,if 0<=dU k then n.getD (dU k).toNat 0 else 0)
def Hx:LoopGen:={ rd:=[],wr:=[0,0,0,0],A:=fun _=>{ cs:=[],inv:=fun _=>True,mu:=fun _=>0 } }
def KX:Nat->Option LoopGen
 | 3000109=>some cY
 | 3000186=>some cY
 | 3000238=>some cY
 | 3000261=>some cY
 | 3000237=>some cY
 | 3000239=>some cY
 | 3000240=>some cY
 | 3000241=>some cY
 | 11000000009=>some { rd:=[.dat 34 (.arr .str)],A:=fun (w:List (List UInt8))=>{ cs:=[.own 9 3 ty_I,.dat 36 ty_I],inv:=fun ((n,i):List Int×Int)=>0<=i/\i<=(w.length:Int)/\gk (w.take i.toNat)=some n,mu:=fun ((_,i):List Int×Int)=>((w.length:Int) - i).toNat } }
 | 24000000004=>some { rd:=[.own 20 105 jW],A:=fun (g:List (Int×Int))=>{ cs:=[.own 8 3 ty_I,.dat 22 ty_I],inv:=fun ((l,i):List Int×Int)=>0<=i/\i<=(g.length:Int)/\l=(g.take i.toNat).flatMap fun x=>[x.1,x.2],mu:=fun ((_,i):List Int×Int)=>((g.length:Int) - i).toNat } }
 | 26208000004=>some Hx
 | 26209000004=>some { rd:=[.box 9 pO,.own 1 3 ty_I],A:=fun ((o0,n):O1×List Int)=>{ cs:=[.box 9 pO],inv:=fun (o:O1)=>o=l7 o0.1 n/\(0<=dU o0.1->0<=n.getD (dU o0.1).toNat 0),mu:=fun _=>0 } }
 | 26210000007=>some Hx
 | 26210000018=>some Hx
 | _=>none
theorem qW (a:List Int):(an a).1.length<=256:=by
 unfold an;split
 ·simp
 ·rename_i h;exact (nZ (bp (by omega)).2.2.2.1).2
theorem Mp {s:List UInt8} (h:(f9 s).2=true):-1000000000000000<(f9 s).1/\(f9 s).1<1000000000000000:=by
 unfold f9 at h |-;cases e:Lib.atoiAll s
 ·rw [e] at h;have h:=tM h;exact ⟨h.1,h.2.1⟩
 ·rw [e] at h; cases h
 ·rw [e] at h; cases h
theorem vX:∀ (l:List (List UInt8)) (s:List UInt8) (n:List Int),gk l=some n->(f9 s).2=true->gk (l++[s])=some (n++[(f9 s).1])
 | [],s,n,h,hs=>by
  obtain rfl:=RA h;simp only [Q0,gk];rw [if_pos hs];rfl
 | x::l,s,n,h,hs=>by
  unfold gk at h;split at h
  ·rename_i hx;obtain ⟨m,hm,rfl⟩:=Dm.1 h;simp only [Rf,gk];rw [if_pos hx,vX l s m hm hs];rfl
  ·cases h
theorem zi:∀ (l:List (List UInt8)) (s:List UInt8),s∈l->(f9 s).2=false->gk l=none
 | [],s,h,_=>by cases h
 | x::l,s,h,hs=>by
  unfold gk;split
  ·rename_i hx;rcases Qs.1 h with rfl | h
   ·rw [hs] at hx; cases hx
   ·rw [zi l s h hs]; rfl
  ·rfl
theorem rR:∀ (l:List (List UInt8)) (n:List Int),gk l=some n->n.length=l.length/\∀ x∈n,-1000000000000000<x/\x<1000000000000000
 | [],n,h=>by obtain rfl:=RA h; exact ⟨rfl,fun x hx=>by cases hx⟩
 | x::l,n,h=>by
  unfold gk at h;split at h
  ·rename_i hx;obtain ⟨m,hm,rfl⟩:=Dm.1 h;obtain ⟨h1,h2⟩:=rR l m hm;refine ⟨by simp [h1],fun y hy=>?_⟩;rcases Qs.1 hy with rfl | hy
   ·exact Mp hx
   ·exact h2 y hy
  ·cases h
def iz (d:dj) (w:List (List UInt8)) (many:Int) (store:Bool) (R:List Int×Int->Prop):Prop :=
  ((!true)=true->(([]:List Int),(1:Int))=(aR d w).fst/\d=(aR d w).snd) /\
  ((!true)=false->ak .i64 ((w.length:Int) - 1) /\
   (decide ((w.length:Int) - 1≠many)=true->(([]:List Int),(3:Int))=(aR d w).fst/\d=(aR d w).snd) /\
   (decide ((w.length:Int) - 1≠many)=false->(0:Int)<=1/\(1:Int)<=(w.length:Int) /\
    ((0:Int)<=0/\(0:Int)<=((w.drop (Int.toNat 1)).length:Int)/\gk ((w.drop (Int.toNat 1)).take (Int.toNat 0))=some []) /\
    ∀ x:List Int×Int,(0:Int)<=x.snd/\x.snd<=((w.drop (Int.toNat 1)).length:Int)/\gk ((w.drop (Int.toNat 1)).take x.snd.toNat)=some x.fst ->
     (decide (x.snd<((w.drop (Int.toNat 1)).length:Int))=true->(0:Int)<=x.snd/\x.snd<((w.drop (Int.toNat 1)).length:Int)/\True /\
      ((!(f9 ((w.drop (Int.toNat 1)).getD x.snd.toNat ([]:List UInt8))).snd)=true->(([]:List Int),(3:Int))=(aR d w).fst/\d=(aR d w).snd) /\
      ((!(f9 ((w.drop (Int.toNat 1)).getD x.snd.toNat ([]:List UInt8))).snd)=false->(x.fst.length+[(f9 ((w.drop (Int.toNat 1)).getD x.snd.toNat ([]:List UInt8))).fst].length) * 8<=aK/\ak .i64 (x.snd+1) /\
       ((0:Int)<=x.snd+1/\x.snd+1<=((w.drop (Int.toNat 1)).length:Int)/\gk ((w.drop (Int.toNat 1)).take (x.snd+1).toNat)=some (x.fst++[(f9 ((w.drop (Int.toNat 1)).getD x.snd.toNat ([]:List UInt8))).fst])) /\
       (((w.drop (Int.toNat 1)).length:Int) - (x.snd+1)).toNat<(((w.drop (Int.toNat 1)).length:Int) - x.snd).toNat)) /\
     (decide (x.snd<((w.drop (Int.toNat 1)).length:Int))=false->((store&&!d.fst)=true->(([]:List Int),(8:Int))=(aR d w).fst/\d=(aR d w).snd)/\((store&&!d.fst)=false->R x))))
abbrev B6 (k:Int) (n:List Int):Prop:=(fun (l:Int)=>((decide (0<l)=true->(0:Int)<=0/\0<l/\Int.toNat 0<n.length/\(0:Int)<=0/\0<(↑(3:Nat):Int)/\(0:Int)<=1/\1<=(↑(3:Nat):Int)/\ak .i64 (0+1)/\(decide (0+1<l)=true->(0:Int)<=0+1/\0+1<l/\((0:Int)+1).toNat<n.length/\(0:Int)<=0/\0<(↑(3 - Int.toNat 1):Int)/\(0:Int)<=1/\1<=(↑(3 - Int.toNat 1):Int)/\ak .i64 (0+1+1)/\(decide (0+1+1<l)=true->(0:Int)<=0+1+1/\0+1+1<l/\((0:Int)+1+1).toNat<n.length/\(0:Int)<=0/\0<(↑(3 - Int.toNat 1 - Int.toNat 1):Int)/\(0:Int)<=1/\1<=(↑(3 - Int.toNat 1 - Int.toNat 1):Int)/\ak .i64 (0+1+1+1)/\(decide (0+1+1+1<l)=true->(0:Int)<=0+1+1+1/\0+1+1+1<l/\((0:Int)+1+1+1).toNat<n.length/\False)/\(decide (0+1+1+1<l)=false->(k,n.getD (Int.toNat 0) 0,n.getD ((0:Int)+1).toNat 0,n.getD ((0:Int)+1+1).toNat 0,0)=l7 k n/\(0<=dU k->0<=n.getD (dU k).toNat 0)))/\(decide (0+1+1<l)=false->(k,n.getD (Int.toNat 0) 0,n.getD ((0:Int)+1).toNat 0,0,0)=l7 k n/\(0<=dU k->0<=n.getD (dU k).toNat 0)))/\(decide (0+1<l)=false->(k,n.getD (Int.toNat 0) 0,0,0,0)=l7 k n/\(0<=dU k->0<=n.getD (dU k).toNat 0)))/\(decide (0<l)=false->(k,0,0,0,0)=l7 k n/\(0<=dU k->0<=n.getD (dU k).toNat 0)))) (n.length:Int)
abbrev Qr (x:dj) (w:List (List UInt8)) (n:List Int):Prop:=(fun (l:Int)=>((decide (0<l)=true->(0:Int)<=0/\0<l/\Int.toNat 0<n.length/\(0:Int)<=0/\0<(↑(3:Nat):Int)/\(0:Int)<=1/\1<=(↑(3:Nat):Int)/\ak .i64 (0+1)/\(decide (0+1<l)=true->(0:Int)<=0+1/\0+1<l/\((0:Int)+1).toNat<n.length/\(0:Int)<=0/\0<(↑(3 - Int.toNat 1):Int)/\(0:Int)<=1/\1<=(↑(3 - Int.toNat 1):Int)/\ak .i64 (0+1+1)/\(decide (0+1+1<l)=true->(0:Int)<=0+1+1/\0+1+1<l/\((0:Int)+1+1).toNat<n.length/\(0:Int)<=0/\0<(↑(3 - Int.toNat 1 - Int.toNat 1):Int)/\(0:Int)<=1/\1<=(↑(3 - Int.toNat 1 - Int.toNat 1):Int)/\ak .i64 (0+1+1+1)/\(decide (0+1+1+1<l)=true->(0:Int)<=0+1+1+1/\0+1+1+1<l/\((0:Int)+1+1+1).toNat<n.length/\(decide (n.getD ((0:Int)+1+1+1).toNat (0:Int)<0)=true->(([]:List Int),4)=(aR x w).1/\x=(aR x w).2)/\(decide (n.getD ((0:Int)+1+1+1).toNat (0:Int)<0)=false->ak .i64 (0+1+1+1+1)/\(decide (0+1+1+1+1<l)=true->(0:Int)<=0+1+1+1+1/\0+1+1+1+1<l/\((0:Int)+1+1+1+1).toNat<n.length/\False)/\(decide (0+1+1+1+1<l)=false->(1,n.getD (Int.toNat 0) 0,n.getD ((0:Int)+1).toNat 0,n.getD ((0:Int)+1+1).toNat 0,IntKind.u64.wrap (n.getD ((0:Int)+1+1+1).toNat 0))=l7 1 n/\(0<=dU 1->0<=n.getD (dU 1).toNat 0))))/\(decide (0+1+1+1<l)=false->(1,n.getD (Int.toNat 0) 0,n.getD ((0:Int)+1).toNat 0,n.getD ((0:Int)+1+1).toNat 0,0)=l7 1 n/\(0<=dU 1->0<=n.getD (dU 1).toNat 0)))/\(decide (0+1+1<l)=false->(1,n.getD (Int.toNat 0) 0,n.getD ((0:Int)+1).toNat 0,0,0)=l7 1 n/\(0<=dU 1->0<=n.getD (dU 1).toNat 0)))/\(decide (0+1<l)=false->(1,n.getD (Int.toNat 0) 0,0,0,0)=l7 1 n/\(0<=dU 1->0<=n.getD (dU 1).toNat 0)))/\(decide (0<l)=false->(1,0,0,0,0)=l7 1 n/\(0<=dU 1->0<=n.getD (dU 1).toNat 0)))) (n.length:Int)
abbrev Qq (x:dj) (w:List (List UInt8)) (n:List Int):Prop:=(fun (l:Int)=>((decide (0<l)=true->(0:Int)<=0/\0<l/\Int.toNat 0<n.length/\(0:Int)<=0/\0<(↑(3:Nat):Int)/\(0:Int)<=1/\1<=(↑(3:Nat):Int)/\ak .i64 (0+1)/\(decide (0+1<l)=true->(0:Int)<=0+1/\0+1<l/\((0:Int)+1).toNat<n.length/\(0:Int)<=0/\0<(↑(3 - Int.toNat 1):Int)/\(0:Int)<=1/\1<=(↑(3 - Int.toNat 1):Int)/\ak .i64 (0+1+1)/\(decide (0+1+1<l)=true->(0:Int)<=0+1+1/\0+1+1<l/\((0:Int)+1+1).toNat<n.length/\(decide (n.getD ((0:Int)+1+1).toNat (0:Int)<0)=true->(([]:List Int),4)=(aR x w).1/\x=(aR x w).2)/\(decide (n.getD ((0:Int)+1+1).toNat (0:Int)<0)=false->ak .i64 (0+1+1+1)/\(decide (0+1+1+1<l)=true->(0:Int)<=0+1+1+1/\0+1+1+1<l/\((0:Int)+1+1+1).toNat<n.length/\(0:Int)<=0/\0<(↑(3 - Int.toNat 1 - Int.toNat 1):Int)/\(0:Int)<=1/\1<=(↑(3 - Int.toNat 1 - Int.toNat 1):Int)/\ak .i64 (0+1+1+1+1)/\(decide (0+1+1+1+1<l)=true->(0:Int)<=0+1+1+1+1/\0+1+1+1+1<l/\((0:Int)+1+1+1+1).toNat<n.length/\False)/\(decide (0+1+1+1+1<l)=false->(6,n.getD (Int.toNat 0) 0,n.getD ((0:Int)+1).toNat 0,n.getD ((0:Int)+1+1+1).toNat 0,IntKind.u64.wrap (n.getD ((0:Int)+1+1).toNat 0))=l7 6 n/\(0<=dU 6->0<=n.getD (dU 6).toNat 0)))/\(decide (0+1+1+1<l)=false->(6,n.getD (Int.toNat 0) 0,n.getD ((0:Int)+1).toNat 0,0,IntKind.u64.wrap (n.getD ((0:Int)+1+1).toNat 0))=l7 6 n/\(0<=dU 6->0<=n.getD (dU 6).toNat 0))))/\(decide (0+1+1<l)=false->(6,n.getD (Int.toNat 0) 0,n.getD ((0:Int)+1).toNat 0,0,0)=l7 6 n/\(0<=dU 6->0<=n.getD (dU 6).toNat 0)))/\(decide (0+1<l)=false->(6,n.getD (Int.toNat 0) 0,0,0,0)=l7 6 n/\(0<=dU 6->0<=n.getD (dU 6).toNat 0)))/\(decide (0<l)=false->(6,0,0,0,0)=l7 6 n/\(0<=dU 6->0<=n.getD (dU 6).toNat 0)))) (n.length:Int)
abbrev Qf (x:dj) (w:List (List UInt8)) (n:List Int):Prop:=(fun (l:Int)=>((decide (0<l)=true->(0:Int)<=0/\0<l/\Int.toNat 0<n.length/\(0:Int)<=0/\0<(↑(3:Nat):Int)/\(0:Int)<=1/\1<=(↑(3:Nat):Int)/\ak .i64 (0+1)/\(decide (0+1<l)=true->(0:Int)<=0+1/\0+1<l/\((0:Int)+1).toNat<n.length/\(decide (n.getD ((0:Int)+1).toNat (0:Int)<0)=true->(([]:List Int),4)=(aR x w).1/\x=(aR x w).2)/\(decide (n.getD ((0:Int)+1).toNat (0:Int)<0)=false->ak .i64 (0+1+1)/\(decide (0+1+1<l)=true->(0:Int)<=0+1+1/\0+1+1<l/\((0:Int)+1+1).toNat<n.length/\(0:Int)<=0/\0<(↑(3 - Int.toNat 1):Int)/\(0:Int)<=1/\1<=(↑(3 - Int.toNat 1):Int)/\ak .i64 (0+1+1+1)/\(decide (0+1+1+1<l)=true->(0:Int)<=0+1+1+1/\0+1+1+1<l/\((0:Int)+1+1+1).toNat<n.length/\(0:Int)<=0/\0<(↑(3 - Int.toNat 1 - Int.toNat 1):Int)/\(0:Int)<=1/\1<=(↑(3 - Int.toNat 1 - Int.toNat 1):Int)/\ak .i64 (0+1+1+1+1)/\(decide (0+1+1+1+1<l)=true->(0:Int)<=0+1+1+1+1/\0+1+1+1+1<l/\((0:Int)+1+1+1+1).toNat<n.length/\False)/\(decide (0+1+1+1+1<l)=false->(11,n.getD (Int.toNat 0) 0,n.getD ((0:Int)+1+1).toNat 0,n.getD ((0:Int)+1+1+1).toNat 0,IntKind.u64.wrap (n.getD ((0:Int)+1).toNat 0))=l7 11 n/\(0<=dU 11->0<=n.getD (dU 11).toNat 0)))/\(decide (0+1+1+1<l)=false->(11,n.getD (Int.toNat 0) 0,n.getD ((0:Int)+1+1).toNat 0,0,IntKind.u64.wrap (n.getD ((0:Int)+1).toNat 0))=l7 11 n/\(0<=dU 11->0<=n.getD (dU 11).toNat 0)))/\(decide (0+1+1<l)=false->(11,n.getD (Int.toNat 0) 0,0,0,IntKind.u64.wrap (n.getD ((0:Int)+1).toNat 0))=l7 11 n/\(0<=dU 11->0<=n.getD (dU 11).toNat 0))))/\(decide (0+1<l)=false->(11,n.getD (Int.toNat 0) 0,0,0,0)=l7 11 n/\(0<=dU 11->0<=n.getD (dU 11).toNat 0)))/\(decide (0<l)=false->(11,0,0,0,0)=l7 11 n/\(0<=dU 11->0<=n.getD (dU 11).toNat 0)))) (n.length:Int)
abbrev Qe (x:dj) (w:List (List UInt8)) (n:List Int):Prop:=(fun (l:Int)=>((decide (0<l)=true->(0:Int)<=0/\0<l/\Int.toNat 0<n.length/\(decide (n.getD (Int.toNat 0) (0:Int)<0)=true->(([]:List Int),4)=(aR x w).1/\x=(aR x w).2)/\(decide (n.getD (Int.toNat 0) (0:Int)<0)=false->ak .i64 (0+1)/\(decide (0+1<l)=true->(0:Int)<=0+1/\0+1<l/\((0:Int)+1).toNat<n.length/\(0:Int)<=0/\0<(↑(3:Nat):Int)/\(0:Int)<=1/\1<=(↑(3:Nat):Int)/\ak .i64 (0+1+1)/\(decide (0+1+1<l)=true->(0:Int)<=0+1+1/\0+1+1<l/\((0:Int)+1+1).toNat<n.length/\(0:Int)<=0/\0<(↑(3 - Int.toNat 1):Int)/\(0:Int)<=1/\1<=(↑(3 - Int.toNat 1):Int)/\ak .i64 (0+1+1+1)/\(decide (0+1+1+1<l)=true->(0:Int)<=0+1+1+1/\0+1+1+1<l/\((0:Int)+1+1+1).toNat<n.length/\(0:Int)<=0/\0<(↑(3 - Int.toNat 1 - Int.toNat 1):Int)/\(0:Int)<=1/\1<=(↑(3 - Int.toNat 1 - Int.toNat 1):Int)/\ak .i64 (0+1+1+1+1)/\(decide (0+1+1+1+1<l)=true->(0:Int)<=0+1+1+1+1/\0+1+1+1+1<l/\((0:Int)+1+1+1+1).toNat<n.length/\False)/\(decide (0+1+1+1+1<l)=false->(12,n.getD ((0:Int)+1).toNat 0,n.getD ((0:Int)+1+1).toNat 0,n.getD ((0:Int)+1+1+1).toNat 0,IntKind.u64.wrap (n.getD (Int.toNat 0) 0))=l7 12 n/\(0<=dU 12->0<=n.getD (dU 12).toNat 0)))/\(decide (0+1+1+1<l)=false->(12,n.getD ((0:Int)+1).toNat 0,n.getD ((0:Int)+1+1).toNat 0,0,IntKind.u64.wrap (n.getD (Int.toNat 0) 0))=l7 12 n/\(0<=dU 12->0<=n.getD (dU 12).toNat 0)))/\(decide (0+1+1<l)=false->(12,n.getD ((0:Int)+1).toNat 0,0,0,IntKind.u64.wrap (n.getD (Int.toNat 0) 0))=l7 12 n/\(0<=dU 12->0<=n.getD (dU 12).toNat 0)))/\(decide (0+1<l)=false->(12,0,0,0,IntKind.u64.wrap (n.getD (Int.toNat 0) 0))=l7 12 n/\(0<=dU 12->0<=n.getD (dU 12).toNat 0))))/\(decide (0<l)=false->(12,0,0,0,0)=l7 12 n/\(0<=dU 12->0<=n.getD (dU 12).toNat 0)))) (n.length:Int)
abbrev K0 (x:dj) (w:List (List UInt8)) (o:O1):Prop:=(fun (r:ah×Int×Int)=>True/\x.2.1=x.2.1/\x.2.2.1=x.2.2.1/\x.2.2.2.1=x.2.2.2.1/\x.2.2.2.2=x.2.2.2.2/\o.1=o.1/\o.2.1=o.2.1/\o.2.2.1=o.2.2.1/\o.2.2.2.1=o.2.2.2.1/\o.2.2.2.2=o.2.2.2.2/\True/\r.1.1=r.1.1/\r.1.2.1=r.1.2.1/\r.1.2.2.1=r.1.2.2.1/\r.1.2.2.2=r.1.2.2.2/\r.2.1=r.2.1/\r.2.2=r.2.2/\r.1.1=r.1.1/\r.1.2.1=r.1.2.1/\r.1.2.2.1=r.1.2.2.1/\r.1.2.2.2=r.1.2.2.2/\r.2.1=r.2.1/\r.2.2=r.2.2/\r.1.1=r.1.1/\r.1.2.1=r.1.2.1/\r.1.2.2.1=r.1.2.2.1/\r.1.2.2.2=r.1.2.2.2/\r.2.1=r.2.1/\r.2.1=r.2.1/\r.2.2=r.2.2/\r.2.2=r.2.2/\r.2.2=r.2.2/\(decide (r.2.2≠0)=true->(([]:List Int),r.2.2)=(aR x w).1/\x=(aR x w).2)/\(decide (r.2.2≠0)=false->([IntKind.i64.wrap r.2.1],0)=(aR x w).1/\(x.1,r.1)=(aR x w).2)) (bv x.2 o.1 o.2.1 o.2.2.1 o.2.2.2.1 o.2.2.2.2)
abbrev IM (x:dj) (w:List (List UInt8)) (o:O1):Prop:=(fun (r:ah×Int×Int)=>True/\x.2.1=x.2.1/\x.2.2.1=x.2.2.1/\x.2.2.2.1=x.2.2.2.1/\x.2.2.2.2=x.2.2.2.2/\o.1=o.1/\o.2.1=o.2.1/\o.2.2.1=o.2.2.1/\o.2.2.2.1=o.2.2.2.1/\o.2.2.2.2=o.2.2.2.2/\True/\r.1.1=r.1.1/\r.1.2.1=r.1.2.1/\r.1.2.2.1=r.1.2.2.1/\r.1.2.2.2=r.1.2.2.2/\r.2.1=r.2.1/\r.2.2=r.2.2/\r.1.1=r.1.1/\r.1.2.1=r.1.2.1/\r.1.2.2.1=r.1.2.2.1/\r.1.2.2.2=r.1.2.2.2/\r.2.1=r.2.1/\r.2.2=r.2.2/\r.1.1=r.1.1/\r.1.2.1=r.1.2.1/\r.1.2.2.1=r.1.2.2.1/\r.1.2.2.2=r.1.2.2.2/\r.2.1=r.2.1/\r.2.1=r.2.1/\r.2.2=r.2.2/\r.2.2=r.2.2/\r.2.2=r.2.2/\(decide (r.2.2≠0)=true->(([]:List Int),r.2.2)=(aR x w).1/\x=(aR x w).2)/\(decide (r.2.2≠0)=false->(([]:List Int),0)=(aR x w).1/\(x.1,r.1)=(aR x w).2)) (bv x.2 o.1 o.2.1 o.2.2.1 o.2.2.2.1 o.2.2.2.2)
abbrev lY (U:Prop) (D:O1->Prop) (k:Int) (n:List Int):Prop:=U/\∀ o:O1,o=l7 k n/\(0<=dU k->0<=n.getD (dU k).toNat 0)->D o
theorem ee {d:dj} {w:List (List UInt8)} {many:Int} {store:Bool} {a:Act} {R:List Int×Int->Prop} (h0:0<w.length) (hb:w.length<=4294967281) (hw:B8 (w.getD 0 [])=some (many,store,a))
  (hR:∀ x:List Int×Int,(x.1.length:Int)=many->(∀ v∈x.1,-1000000000000000<v/\v<1000000000000000)->(store&&!d.1)=false->aR d w=mQ d x.1 a->R x) :
  iz d w many store R:=by
 unfold iz;have e1:w.drop (Int.toNat 1)=w.tail:=by simp
 have hL:aR d w=if ((w.length:Nat):Int) - 1≠many then (([],3),d) else match gk w.tail with
  | none=>(([],3),d)
  | some n=>if store&&!d.1 then (([],8),d) else mQ d n a:=by unfold aR; rw [hw]
 rw [e1];have ht:w.tail.length=w.length - 1:=by simp
 refine ⟨fun h=>(by cases h),fun _=>⟨(by simp only [ak]; omega),fun h=>?_,fun h=>?_⟩⟩
 ·rw [hL,if_pos (tM h)];exact ⟨rfl,rfl⟩
 rw [if_neg (uZ h)] at hL;have h:=uZ h;refine ⟨by omega,by omega,⟨by omega,by omega,rfl⟩,fun x ⟨x0,x1,x2⟩=>⟨fun hlt=>?_,fun hge=>?_⟩⟩
 ·have hlt:=tM hlt;have hl:=(rR _ _ x2).1;rw [QD] at hl;refine ⟨x0,hlt,trivial,fun hn=>?_,fun hn=>?_⟩
  ·have hn:(f9 (w.tail.getD x.2.toNat [])).2=false:=by simpa using hn
   rw [zi w.tail _ (aI [] x0 hlt) hn] at hL;rw [hL];exact ⟨rfl,rfl⟩
  ·have hn:(f9 (w.tail.getD x.2.toNat [])).2=true:=by simpa using hn
   unfold aK;simp only [HN,QQ,ak];refine ⟨by omega,by omega,⟨by omega,by omega,?_⟩,by omega⟩;rw [a8 ([]:List UInt8) x0 hlt];exact vX _ _ _ x2 hn
 ·have hge:=uZ hge;rw [QG (by omega)] at x2;rw [x2] at hL;obtain ⟨hl,hin⟩:=rR _ _ x2;refine ⟨fun hs=>?_,fun hs=>?_⟩
  ·simp only [hs,if_true] at hL;rw [hL];exact ⟨rfl,rfl⟩
  ·simp only [hs,Qz,QW] at hL;exact hR x (by omega) hin hs hL
theorem dy {d:dj} {k:Int} {told:Bool} {n:List Int} (hv:0<=dU k->0<=n.getD (dU k).toNat 0) {o:O1} (ho:o=l7 k n) :
  rk d k (dU k) told n=if (bv d.2 o.1 o.2.1 o.2.2.1 o.2.2.2.1 o.2.2.2.2).2.2≠0 then (([],(bv d.2 o.1 o.2.1 o.2.2.1 o.2.2.2.1 o.2.2.2.2).2.2),d) else ((if told then [IntKind.i64.wrap (bv d.2 o.1 o.2.1 o.2.2.1 o.2.2.2.1 o.2.2.2.2).2.1] else [],0),(d.1,(bv d.2 o.1 o.2.1 o.2.2.1 o.2.2.2.1 o.2.2.2.2).1)):=by
 subst ho;unfold rk;rw [if_neg (fun h=>by have:=hv h.1; omega)];rfl
theorem rj {d:dj} {k:Int} {told:Bool} {n:List Int} (h0:0<=dU k) (hv:n.getD (dU k).toNat 0<0):rk d k (dU k) told n=(([],4),d):=by
 unfold rk;rw [if_pos ⟨h0,hv⟩]
theorem dH {r:ah×Int×Int} {d:dj} {x:(List Int×Int)×dj} {l:List Int} (h:x=if r.2.2≠0 then (([],r.2.2),d) else ((l,0),(d.1,r.1))) :
  (decide (r.2.2≠0)=true->(([]:List Int),r.2.2)=x.1/\d=x.2)/\(decide (r.2.2≠0)=false->(l,(0:Int))=x.1/\(d.1,r.1)=x.2):=by
 refine ⟨fun h1=>?_,fun h1=>?_⟩
 ·rw [h,if_pos (tM h1)];exact ⟨rfl,rfl⟩
 ·rw [h,if_neg (uZ h1)];exact ⟨rfl,rfl⟩
theorem Mw {n:List Int} (h:n.length=0):n=[]:=by
 match n,h with
 | [],_=>exact rfl
theorem nl {n:List Int} (h:n.length=1):∃ n0,n=[n0]:=by
 match n,h with
 | [a0],_=>exact ⟨_,rfl⟩
theorem wk {n:List Int} (h:n.length=2):∃ n0 n1,n=[n0,n1]:=by
 match n,h with
 | [a0,a1],_=>exact ⟨_,_,rfl⟩
theorem qM {n:List Int} (h:n.length=3):∃ n0 n1 n2,n=[n0,n1,n2]:=by
 match n,h with
 | [a0,a1,a2],_=>exact ⟨_,_,_,rfl⟩
theorem Mv {n:List Int} (h:n.length=4):∃ n0 n1 n2 n3,n=[n0,n1,n2,n3]:=by
 match n,h with
 | [a0,a1,a2,a3],_=>exact ⟨_,_,_,_,rfl⟩
def yY:Prop :=
  ∀ (x:Bool×List Int×List Int×List (Int×Int)×List (Int×Bool×Int)) (y:List UInt8),(True/\oT x.2)->y.length<=aK->y.length<4294967281->∀ (_:Array Value),([(32:UInt8)]=[(32:UInt8)]/\y.length<4294967281)/\(0:Int)<=0/\0<(↑(aj y).length:Int)/\∀ (_:Array Value),(decide ((aj y).getD (Int.toNat 0) ([]:List UInt8)=[(110:UInt8),(101:UInt8),(119:UInt8)])=true->iz x (aj y) 3 false (fun (x_1:List Int×Int)=>∀ (_:Array Value),(0:Int)<=0/\0<(x_1.1.length:Int)/\Int.toNat 0<x_1.1.length/\(0:Int)<=1/\1<(x_1.1.length:Int)/\Int.toNat 1<x_1.1.length/\(0:Int)<=2/\2<(x_1.1.length:Int)/\Int.toNat 2<x_1.1.length/\True/\(0:Int)<=0/\0<(x_1.1.length:Int)/\Int.toNat 0=Int.toNat 0/\Int.toNat 0<x_1.1.length/\x_1.1.getD (Int.toNat 0) 0=x_1.1.getD (Int.toNat 0) 0/\(0:Int)<=1/\1<(x_1.1.length:Int)/\Int.toNat 1=Int.toNat 1/\Int.toNat 1<x_1.1.length/\x_1.1.getD (Int.toNat 1) 0=x_1.1.getD (Int.toNat 1) 0/\(0:Int)<=2/\2<(x_1.1.length:Int)/\Int.toNat 2=Int.toNat 2/\Int.toNat 2<x_1.1.length/\x_1.1.getD (Int.toNat 2) 0=x_1.1.getD (Int.toNat 2) 0/\True/\(au (x_1.1.getD (Int.toNat 0) 0) (x_1.1.getD (Int.toNat 1) 0) (x_1.1.getD (Int.toNat 2) 0)).1.1=(au (x_1.1.getD (Int.toNat 0) 0) (x_1.1.getD (Int.toNat 1) 0) (x_1.1.getD (Int.toNat 2) 0)).1.1/\(au (x_1.1.getD (Int.toNat 0) 0) (x_1.1.getD (Int.toNat 1) 0) (x_1.1.getD (Int.toNat 2) 0)).1.2.1=(au (x_1.1.getD (Int.toNat 0) 0) (x_1.1.getD (Int.toNat 1) 0) (x_1.1.getD (Int.toNat 2) 0)).1.2.1/\(au (x_1.1.getD (Int.toNat 0) 0) (x_1.1.getD (Int.toNat 1) 0) (x_1.1.getD (Int.toNat 2) 0)).1.2.2.1=(au (x_1.1.getD (Int.toNat 0) 0) (x_1.1.getD (Int.toNat 1) 0) (x_1.1.getD (Int.toNat 2) 0)).1.2.2.1/\(au (x_1.1.getD (Int.toNat 0) 0) (x_1.1.getD (Int.toNat 1) 0) (x_1.1.getD (Int.toNat 2) 0)).1.2.2.2=(au (x_1.1.getD (Int.toNat 0) 0) (x_1.1.getD (Int.toNat 1) 0) (x_1.1.getD (Int.toNat 2) 0)).1.2.2.2/\(au (x_1.1.getD (Int.toNat 0) 0) (x_1.1.getD (Int.toNat 1) 0) (x_1.1.getD (Int.toNat 2) 0)).2=(au (x_1.1.getD (Int.toNat 0) 0) (x_1.1.getD (Int.toNat 1) 0) (x_1.1.getD (Int.toNat 2) 0)).2/\(au (x_1.1.getD (Int.toNat 0) 0) (x_1.1.getD (Int.toNat 1) 0) (x_1.1.getD (Int.toNat 2) 0)).1.1=(au (x_1.1.getD (Int.toNat 0) 0) (x_1.1.getD (Int.toNat 1) 0) (x_1.1.getD (Int.toNat 2) 0)).1.1/\(au (x_1.1.getD (Int.toNat 0) 0) (x_1.1.getD (Int.toNat 1) 0) (x_1.1.getD (Int.toNat 2) 0)).1.2.1=(au (x_1.1.getD (Int.toNat 0) 0) (x_1.1.getD (Int.toNat 1) 0) (x_1.1.getD (Int.toNat 2) 0)).1.2.1/\(au (x_1.1.getD (Int.toNat 0) 0) (x_1.1.getD (Int.toNat 1) 0) (x_1.1.getD (Int.toNat 2) 0)).1.2.2.1=(au (x_1.1.getD (Int.toNat 0) 0) (x_1.1.getD (Int.toNat 1) 0) (x_1.1.getD (Int.toNat 2) 0)).1.2.2.1/\(au (x_1.1.getD (Int.toNat 0) 0) (x_1.1.getD (Int.toNat 1) 0) (x_1.1.getD (Int.toNat 2) 0)).1.2.2.2=(au (x_1.1.getD (Int.toNat 0) 0) (x_1.1.getD (Int.toNat 1) 0) (x_1.1.getD (Int.toNat 2) 0)).1.2.2.2/\(au (x_1.1.getD (Int.toNat 0) 0) (x_1.1.getD (Int.toNat 1) 0) (x_1.1.getD (Int.toNat 2) 0)).2=(au (x_1.1.getD (Int.toNat 0) 0) (x_1.1.getD (Int.toNat 1) 0) (x_1.1.getD (Int.toNat 2) 0)).2/\(au (x_1.1.getD (Int.toNat 0) 0) (x_1.1.getD (Int.toNat 1) 0) (x_1.1.getD (Int.toNat 2) 0)).1.1=(au (x_1.1.getD (Int.toNat 0) 0) (x_1.1.getD (Int.toNat 1) 0) (x_1.1.getD (Int.toNat 2) 0)).1.1/\(au (x_1.1.getD (Int.toNat 0) 0) (x_1.1.getD (Int.toNat 1) 0) (x_1.1.getD (Int.toNat 2) 0)).1.2.1=(au (x_1.1.getD (Int.toNat 0) 0) (x_1.1.getD (Int.toNat 1) 0) (x_1.1.getD (Int.toNat 2) 0)).1.2.1/\(au (x_1.1.getD (Int.toNat 0) 0) (x_1.1.getD (Int.toNat 1) 0) (x_1.1.getD (Int.toNat 2) 0)).1.2.2.1=(au (x_1.1.getD (Int.toNat 0) 0) (x_1.1.getD (Int.toNat 1) 0) (x_1.1.getD (Int.toNat 2) 0)).1.2.2.1/\(au (x_1.1.getD (Int.toNat 0) 0) (x_1.1.getD (Int.toNat 1) 0) (x_1.1.getD (Int.toNat 2) 0)).1.2.2.2=(au (x_1.1.getD (Int.toNat 0) 0) (x_1.1.getD (Int.toNat 1) 0) (x_1.1.getD (Int.toNat 2) 0)).1.2.2.2/\(au (x_1.1.getD (Int.toNat 0) 0) (x_1.1.getD (Int.toNat 1) 0) (x_1.1.getD (Int.toNat 2) 0)).2=(au (x_1.1.getD (Int.toNat 0) 0) (x_1.1.getD (Int.toNat 1) 0) (x_1.1.getD (Int.toNat 2) 0)).2/\(au (x_1.1.getD (Int.toNat 0) 0) (x_1.1.getD (Int.toNat 1) 0) (x_1.1.getD (Int.toNat 2) 0)).2=(au (x_1.1.getD (Int.toNat 0) 0) (x_1.1.getD (Int.toNat 1) 0) (x_1.1.getD (Int.toNat 2) 0)).2/\(decide ((au (x_1.1.getD (Int.toNat 0) 0) (x_1.1.getD (Int.toNat 1) 0) (x_1.1.getD (Int.toNat 2) 0)).2=0)=true->(([]:List Int),(au (x_1.1.getD (Int.toNat 0) 0) (x_1.1.getD (Int.toNat 1) 0) (x_1.1.getD (Int.toNat 2) 0)).2)=(aR x (aj y)).1/\(true,(au (x_1.1.getD (Int.toNat 0) 0) (x_1.1.getD (Int.toNat 1) 0) (x_1.1.getD (Int.toNat 2) 0)).1)=(aR x (aj y)).2)/\(decide ((au (x_1.1.getD (Int.toNat 0) 0) (x_1.1.getD (Int.toNat 1) 0) (x_1.1.getD (Int.toNat 2) 0)).2=0)=false->(([]:List Int),(au (x_1.1.getD (Int.toNat 0) 0) (x_1.1.getD (Int.toNat 1) 0) (x_1.1.getD (Int.toNat 2) 0)).2)=(aR x (aj y)).1/\x=(aR x (aj y)).2)))/\(decide ((aj y).getD (Int.toNat 0) ([]:List UInt8)=[(110:UInt8),(101:UInt8),(119:UInt8)])=false->(decide ((aj y).getD (Int.toNat 0) ([]:List UInt8)=[(109:UInt8),(97:UInt8),(107:UInt8),(101:UInt8)])=true->∀ (_:Array Value),iz x (aj y) 4 true (fun (x_1:List Int×Int)=>∀ (_:Array Value),lY (Qr x (aj y) x_1.1) (K0 x (aj y)) 1 x_1.1))/\(decide ((aj y).getD (Int.toNat 0) ([]:List UInt8)=[(109:UInt8),(97:UInt8),(107:UInt8),(101:UInt8)])=false->(decide ((aj y).getD (Int.toNat 0) ([]:List UInt8)=[(99:UInt8),(111:UInt8),(108:UInt8),(108:UInt8),(101:UInt8),(99:UInt8),(116:UInt8)])=true->∀ (_:Array Value),iz x (aj y) 0 true (fun (x_1:List Int×Int)=>∀ (_:Array Value),lY (B6 2 x_1.1) (K0 x (aj y)) 2 x_1.1))/\(decide ((aj y).getD (Int.toNat 0) ([]:List UInt8)=[(99:UInt8),(111:UInt8),(108:UInt8),(108:UInt8),(101:UInt8),(99:UInt8),(116:UInt8)])=false->(decide ((aj y).getD (Int.toNat 0) ([]:List UInt8)=[(114:UInt8),(101:UInt8),(102:UInt8)])=true->∀ (_:Array Value),iz x (aj y) 3 true (fun (x_1:List Int×Int)=>∀ (_:Array Value),lY (B6 3 x_1.1) (IM x (aj y)) 3 x_1.1))/\(decide ((aj y).getD (Int.toNat 0) ([]:List UInt8)=[(114:UInt8),(101:UInt8),(102:UInt8)])=false->(decide ((aj y).getD (Int.toNat 0) ([]:List UInt8)=[(115:UInt8),(101:UInt8),(116:UInt8)])=true->∀ (_:Array Value),iz x (aj y) 3 true (fun (x_1:List Int×Int)=>∀ (_:Array Value),lY (B6 4 x_1.1) (IM x (aj y)) 4 x_1.1))/\(decide ((aj y).getD (Int.toNat 0) ([]:List UInt8)=[(115:UInt8),(101:UInt8),(116:UInt8)])=false->(decide ((aj y).getD (Int.toNat 0) ([]:List UInt8)=[(103:UInt8),(101:UInt8),(116:UInt8)])=true->∀ (_:Array Value),iz x (aj y) 2 true (fun (x_1:List Int×Int)=>∀ (_:Array Value),lY (B6 5 x_1.1) (K0 x (aj y)) 5 x_1.1))/\(decide ((aj y).getD (Int.toNat 0) ([]:List UInt8)=[(103:UInt8),(101:UInt8),(116:UInt8)])=false->(decide ((aj y).getD (Int.toNat 0) ([]:List UInt8)=[(112:UInt8),(117:UInt8),(116:UInt8)])=true->∀ (_:Array Value),iz x (aj y) 3 true (fun (x_1:List Int×Int)=>∀ (_:Array Value),lY (Qq x (aj y) x_1.1) (IM x (aj y)) 6 x_1.1))/\(decide ((aj y).getD (Int.toNat 0) ([]:List UInt8)=[(112:UInt8),(117:UInt8),(116:UInt8)])=false->(decide ((aj y).getD (Int.toNat 0) ([]:List UInt8)=[(112:UInt8),(105:UInt8),(110:UInt8)])=true->∀ (_:Array Value),iz x (aj y) 1 true (fun (x_1:List Int×Int)=>∀ (_:Array Value),lY (B6 7 x_1.1) (K0 x (aj y)) 7 x_1.1))/\(decide ((aj y).getD (Int.toNat 0) ([]:List UInt8)=[(112:UInt8),(105:UInt8),(110:UInt8)])=false->(decide ((aj y).getD (Int.toNat 0) ([]:List UInt8)=[(117:UInt8),(110:UInt8),(112:UInt8),(105:UInt8),(110:UInt8)])=true->∀ (_:Array Value),iz x (aj y) 1 true (fun (x_1:List Int×Int)=>∀ (_:Array Value),lY (B6 8 x_1.1) (IM x (aj y)) 8 x_1.1))/\(decide ((aj y).getD (Int.toNat 0) ([]:List UInt8)=[(117:UInt8),(110:UInt8),(112:UInt8),(105:UInt8),(110:UInt8)])=false->(decide ((aj y).getD (Int.toNat 0) ([]:List UInt8)=[(112:UInt8),(101:UInt8),(101:UInt8),(107:UInt8)])=true->∀ (_:Array Value),iz x (aj y) 2 true (fun (x_1:List Int×Int)=>∀ (_:Array Value),lY (B6 9 x_1.1) (K0 x (aj y)) 9 x_1.1))/\(decide ((aj y).getD (Int.toNat 0) ([]:List UInt8)=[(112:UInt8),(101:UInt8),(101:UInt8),(107:UInt8)])=false->(decide ((aj y).getD (Int.toNat 0) ([]:List UInt8)=[(111:UInt8),(112:UInt8),(101:UInt8),(110:UInt8)])=true->∀ (_:Array Value),iz x (aj y) 1 true (fun (x_1:List Int×Int)=>∀ (_:Array Value),lY (B6 10 x_1.1) (K0 x (aj y)) 10 x_1.1))/\(decide ((aj y).getD (Int.toNat 0) ([]:List UInt8)=[(111:UInt8),(112:UInt8),(101:UInt8),(110:UInt8)])=false->(decide ((aj y).getD (Int.toNat 0) ([]:List UInt8)=[(117:UInt8),(115:UInt8),(101:UInt8)])=true->∀ (_:Array Value),iz x (aj y) 2 true (fun (x_1:List Int×Int)=>∀ (_:Array Value),lY (Qf x (aj y) x_1.1) (IM x (aj y)) 11 x_1.1))/\(decide ((aj y).getD (Int.toNat 0) ([]:List UInt8)=[(117:UInt8),(115:UInt8),(101:UInt8)])=false->(decide ((aj y).getD (Int.toNat 0) ([]:List UInt8)=[(115:UInt8),(104:UInt8),(117:UInt8),(116:UInt8)])=true->∀ (_:Array Value),iz x (aj y) 1 true (fun (x_1:List Int×Int)=>∀ (_:Array Value),lY (Qe x (aj y) x_1.1) (IM x (aj y)) 12 x_1.1))/\(decide ((aj y).getD (Int.toNat 0) ([]:List UInt8)=[(115:UInt8),(104:UInt8),(117:UInt8),(116:UInt8)])=false->(decide ((aj y).getD (Int.toNat 0) ([]:List UInt8)=[(100:UInt8),(114:UInt8),(111:UInt8),(112:UInt8)])=true->∀ (_:Array Value),iz x (aj y) 1 true (fun (x_1:List Int×Int)=>∀ (_:Array Value),lY (B6 13 x_1.1) (IM x (aj y)) 13 x_1.1))/\(decide ((aj y).getD (Int.toNat 0) ([]:List UInt8)=[(100:UInt8),(114:UInt8),(111:UInt8),(112:UInt8)])=false->(decide ((aj y).getD (Int.toNat 0) ([]:List UInt8)=[(103:UInt8),(97:UInt8),(112:UInt8),(115:UInt8)])=true->iz x (aj y) 0 true (fun (_:List Int×Int)=>∀ (_:Array Value),True/\((0:Int)<=0/\0<=(↑(an x.2.1).1.length:Int)/\([]:List Int)=List.flatMap (fun (x:Int×Int)=>[x.1,x.2]) (List.take (Int.toNat 0) (an x.2.1).1))/\∀ (x_2:List Int×Int),0<=x_2.2/\x_2.2<=(↑(an x.2.1).1.length:Int)/\x_2.1=List.flatMap (fun (x:Int×Int)=>[x.1,x.2]) (List.take x_2.2.toNat (an x.2.1).1)->(decide (x_2.2<(↑(an x.2.1).1.length:Int))=true->0<=x_2.2/\x_2.2<(↑(an x.2.1).1.length:Int)/\x_2.2.toNat<(an x.2.1).1.length/\(x_2.1.length+[((an x.2.1).1.getD x_2.2.toNat (0,0)).1,((an x.2.1).1.getD x_2.2.toNat (0,0)).2].length) * 8<=aK/\ak .i64 (x_2.2+1)/\(0<=x_2.2+1/\x_2.2+1<=(↑(an x.2.1).1.length:Int)/\x_2.1++[((an x.2.1).1.getD x_2.2.toNat (0,0)).1,((an x.2.1).1.getD x_2.2.toNat (0,0)).2]=List.flatMap (fun (x:Int×Int)=>[x.1,x.2]) (List.take (x_2.2+1).toNat (an x.2.1).1))/\((↑(an x.2.1).1.length:Int) - (x_2.2+1)).toNat<((↑(an x.2.1).1.length:Int) - x_2.2).toNat)/\(decide (x_2.2<(↑(an x.2.1).1.length:Int))=false->(x_2.1,(an x.2.1).2)=(aR x (aj y)).1/\x=(aR x (aj y)).2)))/\(decide ((aj y).getD (Int.toNat 0) ([]:List UInt8)=[(103:UInt8),(97:UInt8),(112:UInt8),(115:UInt8)])=false->(decide ((aj y).getD (Int.toNat 0) ([]:List UInt8)=[(108:UInt8),(105:UInt8),(118:UInt8),(101:UInt8)])=true->iz x (aj y) 0 true (fun (_:List Int×Int)=>∀ (_:Array Value),True/\([(kT x.2).1],(kT x.2).2)=(aR x (aj y)).1/\x=(aR x (aj y)).2))/\(decide ((aj y).getD (Int.toNat 0) ([]:List UInt8)=[(108:UInt8),(105:UInt8),(118:UInt8),(101:UInt8)])=false->(decide ((aj y).getD (Int.toNat 0) ([]:List UInt8)=[(114:UInt8),(111:UInt8),(111:UInt8),(116:UInt8),(115:UInt8)])=true->iz x (aj y) 0 true (fun (_:List Int×Int)=>∀ (_:Array Value),(x.2.2.1,0)=(aR x (aj y)).1/\x=(aR x (aj y)).2))/\(decide ((aj y).getD (Int.toNat 0) ([]:List UInt8)=[(114:UInt8),(111:UInt8),(111:UInt8),(116:UInt8),(115:UInt8)])=false->((!false)=true->(([]:List Int),1)=(aR x (aj y)).1/\x=(aR x (aj y)).2)/\((!false)=false->ak .i64 ((↑(aj y).length:Int) - 1)/\(decide ((↑(aj y).length:Int) - 1≠0)=true->(([]:List Int),3)=(aR x (aj y)).1/\x=(aR x (aj y)).2)/\(decide ((↑(aj y).length:Int) - 1≠0)=false->(0:Int)<=1/\1<=(↑(aj y).length:Int)/\((0:Int)<=0/\0<=(↑(List.drop (Int.toNat 1) (aj y)).length:Int)/\gk (List.take (Int.toNat 0) (List.drop (Int.toNat 1) (aj y)))=some ([]:List Int))/\∀ (x_1:List Int×Int),0<=x_1.2/\x_1.2<=(↑(List.drop (Int.toNat 1) (aj y)).length:Int)/\gk (List.take x_1.2.toNat (List.drop (Int.toNat 1) (aj y)))=some x_1.1->(decide (x_1.2<(↑(List.drop (Int.toNat 1) (aj y)).length:Int))=true->0<=x_1.2/\x_1.2<(↑(List.drop (Int.toNat 1) (aj y)).length:Int)/\True/\((!(f9 ((List.drop (Int.toNat 1) (aj y)).getD x_1.2.toNat ([]:List UInt8))).2)=true->(([]:List Int),3)=(aR x (aj y)).1/\x=(aR x (aj y)).2)/\((!(f9 ((List.drop (Int.toNat 1) (aj y)).getD x_1.2.toNat ([]:List UInt8))).2)=false->(x_1.1.length+[(f9 ((List.drop (Int.toNat 1) (aj y)).getD x_1.2.toNat ([]:List UInt8))).1].length) * 8<=aK/\ak .i64 (x_1.2+1)/\(0<=x_1.2+1/\x_1.2+1<=(↑(List.drop (Int.toNat 1) (aj y)).length:Int)/\gk (List.take (x_1.2+1).toNat (List.drop (Int.toNat 1) (aj y)))=some (x_1.1++[(f9 ((List.drop (Int.toNat 1) (aj y)).getD x_1.2.toNat ([]:List UInt8))).1]))/\((↑(List.drop (Int.toNat 1) (aj y)).length:Int) - (x_1.2+1)).toNat<((↑(List.drop (Int.toNat 1) (aj y)).length:Int) - x_1.2).toNat))/\(decide (x_1.2<(↑(List.drop (Int.toNat 1) (aj y)).length:Int))=false->((false&&!x.1)=true->(([]:List Int),8)=(aR x (aj y)).1/\x=(aR x (aj y)).2)/\((false&&!x.1)=false->False)))))))))))))))))))))
theorem FJ:yY:=by
 unfold yY;intro d line hT _ hp tm;have h0:0<(aj line).length:=Sw.2 (yx line)
 have hb:(aj line).length<=4294967281:=by
  have h1:=ju line;have h2:line.count 32<=line.length:=List.count_le_length;omega
 refine ⟨⟨rfl,hp⟩,by omega,by omega,fun tm=>?_⟩;generalize aj line=w at *;refine ⟨fun h=>?_,fun h1=>⟨fun h=>?_,fun h2=>⟨fun h=>?_,fun h3=>⟨fun h=>?_,fun h4=>⟨fun h=>?_,fun h5=>⟨fun h=>?_,fun h6=>⟨fun h=>?_,fun h7=>⟨fun h=>?_,fun h8=>⟨fun h=>?_,fun h9=>⟨fun h=>?_,fun h10=>⟨fun h=>?_,fun h11=>⟨fun h=>?_,fun h12=>⟨fun h=>?_,fun h13=>⟨fun h=>?_,fun h14=>⟨fun h=>?_,fun h15=>⟨fun h=>?_,fun h16=>⟨fun h=>?_,fun h17=>?_⟩⟩⟩⟩⟩⟩⟩⟩⟩⟩⟩⟩⟩⟩⟩⟩⟩
 ·refine ee (a:=.begin) h0 hb (by rw [show w.getD 0 []=[110,101,119] from tM h]; rfl) fun ⟨n,i⟩ hn hin hs hL=>?_
  simp only at hn hin hL |-;obtain ⟨n0,n1,n2,rfl⟩:=qM (n:=n) (by omega);intro tm;rw [hL];simp [mQ];by_cases e:(au n0 n1 n2).2=0 <;> simp [e]
 ·intro tm;refine ee (a:=.deed 1 (dU 1) true) h0 hb (by rw [show w.getD 0 []=[109,97,107,101] from tM h]; rfl) fun ⟨n,i⟩ hn hin hs hL tm=>?_
  simp only at hn hin hL |-;obtain ⟨n0,n1,n2,n3,rfl⟩:∃ n0 n1 n2 n3,n=[n0,n1,n2,n3]:=Mv (by omega);refine ⟨?_,fun o ⟨ho,hv⟩=>?_⟩
  ·simp [Qr,l7,dU,fl,ak];refine ⟨fun hneg=>?_,fun h0=>⟨eY h0 (by have:=hin n3 (by simp); omega),h0⟩⟩;have hN:=rj (d:=d) (k:=1) (told:=true) (n:=[n0,n1,n2,n3]) (by decide) hneg;rw [hL.trans hN];exact ⟨rfl,rfl⟩
  ·have hE:=dy (d:=d) (told:=true) hv ho;have hT:=dH (hL.trans hE);simpa [K0] using hT
 ·intro tm;refine ee (a:=.deed 2 (dU 2) true) h0 hb (by rw [show w.getD 0 []=[99,111,108,108,101,99,116] from tM h]; rfl) fun ⟨n,i⟩ hn hin hs hL tm=>?_
  simp only at hn hin hL |-;obtain rfl:n=[]:=Mw (by omega);refine ⟨?_,fun o ⟨ho,hv⟩=>?_⟩
  ·simp [B6,l7,dU,fl,ak]
  ·have hE:=dy (d:=d) (told:=true) hv ho;have hT:=dH (hL.trans hE);simpa [K0] using hT
 ·intro tm;refine ee (a:=.deed 3 (dU 3) false) h0 hb (by rw [show w.getD 0 []=[114,101,102] from tM h]; rfl) fun ⟨n,i⟩ hn hin hs hL tm=>?_
  simp only at hn hin hL |-;obtain ⟨n0,n1,n2,rfl⟩:∃ n0 n1 n2,n=[n0,n1,n2]:=qM (by omega);refine ⟨?_,fun o ⟨ho,hv⟩=>?_⟩
  ·simp [B6,l7,dU,fl,ak]
  ·have hE:=dy (d:=d) (told:=false) hv ho;have hT:=dH (hL.trans hE);simpa [IM] using hT
 ·intro tm;refine ee (a:=.deed 4 (dU 4) false) h0 hb (by rw [show w.getD 0 []=[115,101,116] from tM h]; rfl) fun ⟨n,i⟩ hn hin hs hL tm=>?_
  simp only at hn hin hL |-;obtain ⟨n0,n1,n2,rfl⟩:∃ n0 n1 n2,n=[n0,n1,n2]:=qM (by omega);refine ⟨?_,fun o ⟨ho,hv⟩=>?_⟩
  ·simp [B6,l7,dU,fl,ak]
  ·have hE:=dy (d:=d) (told:=false) hv ho;have hT:=dH (hL.trans hE);simpa [IM] using hT
 ·intro tm;refine ee (a:=.deed 5 (dU 5) true) h0 hb (by rw [show w.getD 0 []=[103,101,116] from tM h]; rfl) fun ⟨n,i⟩ hn hin hs hL tm=>?_
  simp only at hn hin hL |-;obtain ⟨n0,n1,rfl⟩:∃ n0 n1,n=[n0,n1]:=wk (by omega);refine ⟨?_,fun o ⟨ho,hv⟩=>?_⟩
  ·simp [B6,l7,dU,fl,ak]
  ·have hE:=dy (d:=d) (told:=true) hv ho;have hT:=dH (hL.trans hE);simpa [K0] using hT
 ·intro tm;refine ee (a:=.deed 6 (dU 6) false) h0 hb (by rw [show w.getD 0 []=[112,117,116] from tM h]; rfl) fun ⟨n,i⟩ hn hin hs hL tm=>?_
  simp only at hn hin hL |-;obtain ⟨n0,n1,n2,rfl⟩:∃ n0 n1 n2,n=[n0,n1,n2]:=qM (by omega);refine ⟨?_,fun o ⟨ho,hv⟩=>?_⟩
  ·simp [Qq,l7,dU,fl,ak];refine ⟨fun hneg=>?_,fun h0=>⟨eY h0 (by have:=hin n2 (by simp); omega),h0⟩⟩;have hN:=rj (d:=d) (k:=6) (told:=false) (n:=[n0,n1,n2]) (by decide) hneg;rw [hL.trans hN];exact ⟨rfl,rfl⟩
  ·have hE:=dy (d:=d) (told:=false) hv ho;have hT:=dH (hL.trans hE);simpa [IM] using hT
 ·intro tm;refine ee (a:=.deed 7 (dU 7) true) h0 hb (by rw [show w.getD 0 []=[112,105,110] from tM h]; rfl) fun ⟨n,i⟩ hn hin hs hL tm=>?_
  simp only at hn hin hL |-;obtain ⟨n0,rfl⟩:∃ n0,n=[n0]:=nl (by omega);refine ⟨?_,fun o ⟨ho,hv⟩=>?_⟩
  ·simp [B6,l7,dU,fl,ak]
  ·have hE:=dy (d:=d) (told:=true) hv ho;have hT:=dH (hL.trans hE);simpa [K0] using hT
 ·intro tm;refine ee (a:=.deed 8 (dU 8) false) h0 hb (by rw [show w.getD 0 []=[117,110,112,105,110] from tM h]; rfl) fun ⟨n,i⟩ hn hin hs hL tm=>?_
  simp only at hn hin hL |-;obtain ⟨n0,rfl⟩:∃ n0,n=[n0]:=nl (by omega);refine ⟨?_,fun o ⟨ho,hv⟩=>?_⟩
  ·simp [B6,l7,dU,fl,ak]
  ·have hE:=dy (d:=d) (told:=false) hv ho;have hT:=dH (hL.trans hE);simpa [IM] using hT
 ·intro tm;refine ee (a:=.deed 9 (dU 9) true) h0 hb (by rw [show w.getD 0 []=[112,101,101,107] from tM h]; rfl) fun ⟨n,i⟩ hn hin hs hL tm=>?_
  simp only at hn hin hL |-;obtain ⟨n0,n1,rfl⟩:∃ n0 n1,n=[n0,n1]:=wk (by omega);refine ⟨?_,fun o ⟨ho,hv⟩=>?_⟩
  ·simp [B6,l7,dU,fl,ak]
  ·have hE:=dy (d:=d) (told:=true) hv ho;have hT:=dH (hL.trans hE);simpa [K0] using hT
 ·intro tm;refine ee (a:=.deed 10 (dU 10) true) h0 hb (by rw [show w.getD 0 []=[111,112,101,110] from tM h]; rfl) fun ⟨n,i⟩ hn hin hs hL tm=>?_
  simp only at hn hin hL |-;obtain ⟨n0,rfl⟩:∃ n0,n=[n0]:=nl (by omega);refine ⟨?_,fun o ⟨ho,hv⟩=>?_⟩
  ·simp [B6,l7,dU,fl,ak]
  ·have hE:=dy (d:=d) (told:=true) hv ho;have hT:=dH (hL.trans hE);simpa [K0] using hT
 ·intro tm;refine ee (a:=.deed 11 (dU 11) false) h0 hb (by rw [show w.getD 0 []=[117,115,101] from tM h]; rfl) fun ⟨n,i⟩ hn hin hs hL tm=>?_
  simp only at hn hin hL |-;obtain ⟨n0,n1,rfl⟩:∃ n0 n1,n=[n0,n1]:=wk (by omega);refine ⟨?_,fun o ⟨ho,hv⟩=>?_⟩
  ·simp [Qf,l7,dU,fl,ak];refine ⟨fun hneg=>?_,fun h0=>⟨eY h0 (by have:=hin n1 (by simp); omega),h0⟩⟩;have hN:=rj (d:=d) (k:=11) (told:=false) (n:=[n0,n1]) (by decide) hneg;rw [hL.trans hN];exact ⟨rfl,rfl⟩
  ·have hE:=dy (d:=d) (told:=false) hv ho;have hT:=dH (hL.trans hE);simpa [IM] using hT
 ·intro tm;refine ee (a:=.deed 12 (dU 12) false) h0 hb (by rw [show w.getD 0 []=[115,104,117,116] from tM h]; rfl) fun ⟨n,i⟩ hn hin hs hL tm=>?_
  simp only at hn hin hL |-;obtain ⟨n0,rfl⟩:∃ n0,n=[n0]:=nl (by omega);refine ⟨?_,fun o ⟨ho,hv⟩=>?_⟩
  ·simp [Qe,l7,dU,fl,ak];refine ⟨fun hneg=>?_,fun h0=>⟨eY h0 (by have:=hin n0 (by simp); omega),h0⟩⟩;have hN:=rj (d:=d) (k:=12) (told:=false) (n:=[n0]) (by decide) hneg;rw [hL.trans hN];exact ⟨rfl,rfl⟩
  ·have hE:=dy (d:=d) (told:=false) hv ho;have hT:=dH (hL.trans hE);simpa [IM] using hT
 ·intro tm;refine ee (a:=.deed 13 (dU 13) false) h0 hb (by rw [show w.getD 0 []=[100,114,111,112] from tM h]; rfl) fun ⟨n,i⟩ hn hin hs hL tm=>?_
  simp only at hn hin hL |-;obtain ⟨n0,rfl⟩:∃ n0,n=[n0]:=nl (by omega);refine ⟨?_,fun o ⟨ho,hv⟩=>?_⟩
  ·simp [B6,l7,dU,fl,ak]
  ·have hE:=dy (d:=d) (told:=false) hv ho;have hT:=dH (hL.trans hE);simpa [IM] using hT
 ·refine ee (a:=.gaps) h0 hb (by rw [show w.getD 0 []=[103,97,112,115] from tM h]; rfl) fun ⟨n,i⟩ hn hin hs hL=>?_
  simp only at hn hin hL |-;have hg:=qW d.2.1;refine fun tm=>⟨trivial,⟨by omega,by omega,rfl⟩,fun ⟨l,j⟩ ⟨j0,j1,j2⟩=>⟨fun hlt=>?_,fun hge=>?_⟩⟩
  ·have hlt:=tM hlt;simp only at j0 j1 j2 hlt |-;have hl:=congrArg List.length j2
   have hf:∀ r:List db,(r.flatMap fun x=>[x.1,x.2]).length=2 * r.length:=fun r=>by
    induction r with
    | nil=>rfl
    | cons a r ih=>rw [Q7,KK,ih,HN]; simp; omega
   rw [hf,QD] at hl;simp only [ak,HN,QQ];unfold aK;refine ⟨j0,hlt,by omega,by omega,by omega,⟨by omega,by omega,?_⟩,by omega⟩;rw [a8 ((0,0):db) j0 hlt,Sx,<- j2];rfl
  ·have hge:=uZ hge;simp only at j0 j1 j2 hge |-;rw [bT hge] at j2;rw [hL,j2];exact ⟨rfl,rfl⟩
 ·refine ee (a:=.live) h0 hb (by rw [show w.getD 0 []=[108,105,118,101] from tM h]; rfl) fun ⟨n,i⟩ hn hin hs hL=>?_
  simp only at hL |-;rw [hL];exact fun _=>⟨trivial,rfl,rfl⟩
 ·refine ee (a:=.roots) h0 hb (by rw [show w.getD 0 []=[114,111,111,116,115] from tM h]; rfl) fun ⟨n,i⟩ hn hin hs hL=>?_
  simp only at hL |-;rw [hL];exact fun _=>⟨rfl,rfl⟩
 ·have hw:B8 (w.getD 0 [])=none:=by
   unfold B8
   iterate 17 rw [if_neg (uZ (by assumption))]
  have hL:aR d w=(([],1),d):=by unfold aR; rw [hw]
  rw [hL];refine ⟨fun _=>⟨rfl,rfl⟩,fun h=>by cases h⟩
theorem J9:Jy.ok Tryz.prog 109:=BT (ann:=KX) (ae GJ (ae GM (ae Mk (ae D0 (ae kQ (ae D5 ap)))))) (by kernel_rfl) FJ
def mW (r:List Int×Int):List UInt8:=if r.2≠0 then [101,114,114,32]++Lib.itoa r.2 else [111,107]++r.1.flatMap fun n=>32::Lib.itoa n
def gM (d:dj):Prop:=d.2.2.1.length<=32
theorem KY {d:dj} (h32:gM d) (n:List Int) (a:Act):gM (mQ d n a).2:=by
 cases a with
 | begin =>
  unfold mQ;simp only;split
  ·rename_i h; exact Kf h
  ·exact h32
 | deed k v told =>
  rw [show mQ d n (.deed k v told)=rk d k v told n from rfl];unfold rk;split
  ·exact h32
  generalize (fl v n).getD 0 0=A;generalize (fl v n).getD 1 0=B;generalize (fl v n).getD 2 0=C;generalize (if 0<=v then n.getD v.toNat 0 else 0)=V;have hr:=Hk (s:=d.2) (k:=k) (a:=A) (b:=B) (c:=C) (v:=V);simp only;generalize bv d.2 k A B C V=r at *;by_cases e:r.2.2≠0
  ·rw [if_pos e]; exact h32
  ·rw [if_neg e];have:=hr (by omega);unfold gM at *;simp only;omega
 | gaps=>exact h32
 | live=>exact h32
 | roots=>exact h32
theorem G3 {d:dj} (h32:gM d) (w:List (List UInt8)):gM (aR d w).2:=by
 unfold aR;split
 ·exact h32
 ·split
  ·exact h32
  ·split
   ·exact h32
   ·split
    ·exact h32
    ·exact KY h32 _ _
theorem Nr {d:dj} (hw:∀ x∈d.2.1,ak .u64 x) (hr:∀ v∈d.2.2.1,ak .i64 v) (h32:gM d) (n:List Int) (a:Act) :
  Er (mQ d n a).1.2/\(∀ v∈(mQ d n a).1.1,ak .i64 v)/\(mQ d n a).1.1.length<=512:=by
 have z:∀ e:Int,Er e->Er (([]:List Int),e).2/\(∀ v∈(([]:List Int),e).1,ak .i64 v)/\(([]:List Int),e).1.length<=512:=fun e he=>⟨he,fun v hv=>(by cases hv),by simp⟩
 cases a with
 | begin =>
  have he:Er (au (n.getD 0 0) (n.getD 1 0) (n.getD 2 0)).2:=by
   unfold au Er;split
   ·simp
   split
   ·simp
   split <;> simp
  unfold mQ;simp only;split
  ·exact z 0 (by simp [Er])
  ·exact z _ he
 | deed k v told =>
  rw [show mQ d n (.deed k v told)=rk d k v told n from rfl];unfold rk;split
  ·exact z 4 (by simp [Er])
  generalize (fl v n).getD 0 0=A;generalize (fl v n).getD 1 0=B;generalize (fl v n).getD 2 0=C;generalize (if 0<=v then n.getD v.toNat 0 else 0)=V;have hd:=Ox d.2 k A B C V;simp only;generalize bv d.2 k A B C V=r at *;by_cases e:r.2.2≠0
  ·rw [if_pos e];exact z _ hd
  ·rw [if_neg e];refine ⟨by simp [Er],fun u hu=>?_,by simp only; split <;> simp⟩;simp only at hu;split at hu
   ·rw [QA.1 hu]; exact fP _ _
   ·cases hu
 | gaps =>
  have hl:=qW d.2.1
  have hf:∀ r:List db,(r.flatMap fun x=>[x.1,x.2]).length=2 * r.length:=fun r=>by
   induction r with
   | nil=>rfl
   | cons a r ih=>rw [Q7,KK,ih,HN]; simp; omega
  by_cases hc:(am d.2.1).2.2=0
  ·have hg:an d.2.1=(aO false [] (ac d.2.1).1,0):=by unfold an; rw [if_neg (by omega)]
   have hi:=(nZ (bp hc).2.2.2.1).1;have h2:=(bp hc).1;unfold mQ;simp only;refine ⟨by rw [hg]; simp [Er],fun v hv=>?_,by rw [hf]; omega⟩;obtain ⟨g,hgm,hv⟩:=R7.1 hv;rw [hg] at hgm;have h1:=hi g hgm;simp only [Qs,RV,Td] at hv;simp only [ak];rcases hv with rfl | rfl <;> omega
  ·have hg:an d.2.1=([],(am d.2.1).2.2):=by unfold an; rw [if_pos hc]
   unfold mQ;simp only;rw [hg];exact z _ (wT _)
 | live =>
  unfold mQ;simp only;by_cases h0:ar d.2=0
  ·have R:=go hw h0;have hl:=R.live;have ha:=R.al;have e:kT d.2=((d.2.1.length:Int) - iw d.2,0):=by unfold kT; rw [if_neg (by omega)]
   rw [e];refine ⟨by simp [Er],fun v hv=>?_,by simp⟩;rw [QA.1 hv];simp only [ak];omega
  ·have e:kT d.2=(0,ar d.2):=by unfold kT; rw [if_pos h0]
   rw [e];refine ⟨kj _,fun v hv=>?_,by simp⟩;rw [QA.1 hv];simp [ak]
 | roots=>exact ⟨by simp [mQ,Er],hr,by unfold mQ; simp only; unfold gM at h32; omega⟩
theorem Kk {d:dj} (hw:∀ x∈d.2.1,ak .u64 x) (hr:∀ v∈d.2.2.1,ak .i64 v) (h32:gM d) (w:List (List UInt8)):Er (aR d w).1.2/\(∀ v∈(aR d w).1.1,ak .i64 v)/\(aR d w).1.1.length<=512:=by
 have z:∀ e:Int,0<=e/\e<=12->Er (([]:List Int),e).2/\(∀ v∈(([]:List Int),e).1,ak .i64 v)/\(([]:List Int),e).1.length<=512:=fun e he=>⟨he,fun v hv=>(by cases hv),by simp⟩
 unfold aR;split
 ·exact z 1 (by omega)
 ·split
  ·exact z 3 (by omega)
  ·split
   ·exact z 3 (by omega)
   ·split
    ·exact z 8 (by omega)
    ·exact Nr hw hr h32 _ _
def Dg:BoxFn:={ T:=Ap,Ts:=[.str],Rs:=[.dat .str],pre:=fun (d:dj) (line:List UInt8)=>gM d/\line.length<4294967281,F:=fun (d:dj) (line:List UInt8)=>(mW (aR d (aj line)).1,(aR d (aj line)).2) }
def Fg:Nat->Option LoopGen
 | 3000042=>some cY
 | 4300000006=>some { rd:=[.dat 21 (.arr ty_I)],A:=fun (l:List Int)=>{ cs:=[.dat 7 .str,.dat 23 ty_I],inv:=fun ((out,i):List UInt8×Int)=>0<=i/\i<=(l.length:Int)/\out=[111,107]++(l.take i.toNat).flatMap fun n=>32::Lib.itoa n,mu:=fun ((_,i):List UInt8×Int)=>((l.length:Int) - i).toNat } }
 | _=>none
def tj:Prop :=
  ∀ (x:Bool×List Int×List Int×List (Int×Int)×List (Int×Bool×Int)) (y:List UInt8),(True/\oT x.2)->y.length<=aK->gM x/\y.length<4294967281->∀ (_:Array Value),y.length<4294967281/\(decide ((aR x (aj y)).1.2≠0)=true->True/\[(101:UInt8),(114:UInt8),(114:UInt8),(32:UInt8)].length+(Lib.itoa (aR x (aj y)).1.2).length<=aK/\[(101:UInt8),(114:UInt8),(114:UInt8),(32:UInt8)]++Lib.itoa (aR x (aj y)).1.2=mW (aR x (aj y)).1/\(aR x (aj y)).2=(aR x (aj y)).2)/\(decide ((aR x (aj y)).1.2≠0)=false->((0:Int)<=0/\0<=(↑(aR x (aj y)).1.1.length:Int)/\[(111:UInt8),(107:UInt8)]=[(111:UInt8),(107:UInt8)]++List.flatMap (fun (n:Int)=>(32:UInt8)::Lib.itoa n) (List.take (Int.toNat 0) (aR x (aj y)).1.1))/\∀ (x_1:List UInt8×Int),0<=x_1.2/\x_1.2<=(↑(aR x (aj y)).1.1.length:Int)/\x_1.1=[(111:UInt8),(107:UInt8)]++List.flatMap (fun (n:Int)=>(32:UInt8)::Lib.itoa n) (List.take x_1.2.toNat (aR x (aj y)).1.1)->(decide (x_1.2<(↑(aR x (aj y)).1.1.length:Int))=true->0<=x_1.2/\x_1.2<(↑(aR x (aj y)).1.1.length:Int)/\True/\[(32:UInt8)].length+(Lib.itoa ((aR x (aj y)).1.1.getD x_1.2.toNat 0)).length<=aK/\x_1.1.length+([(32:UInt8)]++Lib.itoa ((aR x (aj y)).1.1.getD x_1.2.toNat 0)).length<=aK/\ak .i64 (x_1.2+1)/\(0<=x_1.2+1/\x_1.2+1<=(↑(aR x (aj y)).1.1.length:Int)/\x_1.1++([(32:UInt8)]++Lib.itoa ((aR x (aj y)).1.1.getD x_1.2.toNat 0))=[(111:UInt8),(107:UInt8)]++List.flatMap (fun (n:Int)=>(32:UInt8)::Lib.itoa n) (List.take (x_1.2+1).toNat (aR x (aj y)).1.1))/\((↑(aR x (aj y)).1.1.length:Int) - (x_1.2+1)).toNat<((↑(aR x (aj y)).1.1.length:Int) - x_1.2).toNat)/\(decide (x_1.2<(↑(aR x (aj y)).1.1.length:Int))=false->x_1.1=mW (aR x (aj y)).1/\(aR x (aj y)).2=(aR x (aj y)).2))
theorem Al:tj:=by
 unfold tj;intro d line ⟨_,⟨_,hw⟩,⟨_,hr⟩,_⟩ _ ⟨R,hp⟩ tm;obtain ⟨he,hin,hl⟩:=Kk hw hr R (aj line)
 have hlen:∀ v:Int,ak .i64 v->(Lib.itoa v).length<=21:=fun v hv=>by
  simp only [ak] at hv;exact Lib.itoa_length_le v (by omega) (by omega)
 have h1:=hlen (aR d (aj line)).1.2 (by unfold Er at he; simp only [ak]; omega);generalize aR d (aj line)=r at *;have hT2:mW r.1=if r.1.2≠0 then [101,114,114,32]++Lib.itoa r.1.2 else [111,107]++r.1.1.flatMap fun n=>32::Lib.itoa n:=rfl
 refine ⟨hp,fun h=>?_,fun h=>⟨⟨by omega,by omega,rfl⟩,fun ⟨o,i⟩ ⟨i0,i1,i2⟩=>⟨fun hlt=>?_,fun hge=>?_⟩⟩⟩
 ·rw [hT2,if_pos (tM h)];refine ⟨trivial,?_,rfl,rfl⟩;unfold aK;simp only [HN,QQ];omega
 ·have hlt:=tM hlt;simp only at i0 i1 i2 hlt |-;have hv:=hlen _ (hin _ (aI (0:Int) i0 hlt))
  have ho:o.length<=2+22 * i.toNat:=by
   have hf:∀ l:List Int,(∀ v∈l,ak .i64 v)->(l.flatMap fun n=>32::Lib.itoa n).length<=22 * l.length:=fun l=>by
    induction l with
    | nil=>intro _; simp
    | cons a l ih =>
     intro h;have:=ih fun v hv=>h v (by simp [hv])
     have:=hlen a (h a (by simp));rw [Q7,KK,HN,HN];omega
   have:=hf (r.1.1.take i.toNat) fun v hv=>hin v (RG hv)
   rw [i2,KK];rw [QD] at this;simp only [HN,QQ];omega
  unfold aK;simp only [KK,HN,QQ,ak];refine ⟨i0,hlt,trivial,by omega,by omega,by omega,⟨by omega,by omega,?_⟩,by omega⟩;rw [a8 (0:Int) i0 hlt,Sx,i2,List.append_assoc];simp
 ·have hge:=uZ hge;simp only at i0 i1 i2 hge |-;rw [bT hge] at i2;rw [hT2,if_neg (uZ h)];exact ⟨i2,by first | exact trivial | rfl⟩
theorem Ed:Dg.ok Tryz.prog 42:=BT (ann:=Fg) (ae N6 (pR J9 ap)) (by kernel_rfl) Al
def iE (d:dj):List (List UInt8)->List (List UInt8)
 | []=>[]
 | s::l=>mW (aR d (aj s)).1::iE (aR d (aj s)).2 l
def jg (d:dj) (l:List (List UInt8)):dj:=l.foldl (fun d s=>(aR d (aj s)).2) d
theorem xU (d:dj) (l:List (List UInt8)) (s:List UInt8):jg d (l++[s])=(aR (jg d l) (aj s)).2:=by simp [jg]
theorem tH:∀ (l:List (List UInt8)) (d:dj) (s:List UInt8),iE d (l++[s])=iE d l++[mW (aR (jg d l) (aj s)).1]
 | [],_,_=>rfl
 | x::l,d,s=>by
  simp only [Rf,iE];rw [tH l];rfl
def eV (l:List (List UInt8)):List (List UInt8)×Int:=if 100<(l.length:Int) then ([],2) else (iE (false,ay) l,0)
def Df:Spec:={ Ts:=[.arr .str],Rs:=[.own 9 .str,.dat ty_I],pre:=fun (l:List (List UInt8))=>∀ s∈l,s.length<4294967281,F:=eV }
def Ff:Nat->Option LoopGen
 | 3000041=>some cY
 | 6=>some { rd:=[.dat 12 (.arr .str)],A:=fun (l:List (List UInt8))=>{ cs:=[.own 5 9 .str,.box 102000011 Ap,.dat 14 ty_I],inv:=fun ((out,d,i):List (List UInt8)×dj×Int)=>0<=i/\i<=(l.length:Int)/\l.length<=100/\gM d/\d=jg (false,ay) (l.take i.toNat)/\out=iE (false,ay) (l.take i.toNat),mu:=fun ((_,_,i):List (List UInt8)×dj×Int)=>((l.length:Int) - i).toNat } }
 | _=>none
def ti:Prop :=
  ∀ (x:List (List UInt8)),(x.length * 16<=aK/\∀ (x_1:List UInt8),x_1∈x->x_1.length<=aK)->(∀ (s:List UInt8),s∈x->s.length<4294967281)->(decide (100<(x.length:Int))=true->([]:List (List UInt8))=(eV x).1/\2=(eV x).2/\True)/\(decide (100<(x.length:Int))=false->∀ (_:Array Value),((0:Int)<=0/\0<=(x.length:Int)/\x.length<=100/\gM (false,([]:List Int),([]:List Int),([]:List (Int×Int)),([]:List (Int×Bool×Int)))/\(false,([]:List Int),([]:List Int),([]:List (Int×Int)),([]:List (Int×Bool×Int)))=jg (false,ay) (List.take (Int.toNat 0) x)/\([]:List (List UInt8))=iE (false,ay) (List.take (Int.toNat 0) x))/\∀ (x_1:List (List UInt8)×(Bool×List Int×List Int×List (Int×Int)×List (Int×Bool×Int))×Int),0<=x_1.2.2/\x_1.2.2<=(x.length:Int)/\x.length<=100/\gM x_1.2.1/\x_1.2.1=jg (false,ay) (List.take x_1.2.2.toNat x)/\x_1.1=iE (false,ay) (List.take x_1.2.2.toNat x)->(decide (x_1.2.2<(x.length:Int))=true->0<=x_1.2.2/\x_1.2.2<(x.length:Int)/\(gM x_1.2.1/\(x.getD x_1.2.2.toNat ([]:List UInt8)).length<4294967281)/\(x_1.1.length+[mW (aR x_1.2.1 (aj (x.getD x_1.2.2.toNat ([]:List UInt8)))).1].length) * 16<=aK/\ak .i64 (x_1.2.2+1)/\(0<=x_1.2.2+1/\x_1.2.2+1<=(x.length:Int)/\x.length<=100/\gM (aR x_1.2.1 (aj (x.getD x_1.2.2.toNat ([]:List UInt8)))).2/\(aR x_1.2.1 (aj (x.getD x_1.2.2.toNat ([]:List UInt8)))).2=jg (false,ay) (List.take (x_1.2.2+1).toNat x)/\x_1.1++[mW (aR x_1.2.1 (aj (x.getD x_1.2.2.toNat ([]:List UInt8)))).1]=iE (false,ay) (List.take (x_1.2.2+1).toNat x))/\((x.length:Int) - (x_1.2.2+1)).toNat<((x.length:Int) - x_1.2.2).toNat)/\(decide (x_1.2.2<(x.length:Int))=false->x_1.1=(eV x).1/\0=(eV x).2/\True))
theorem Ak:ti:=by
 unfold ti;intro l ⟨hb,_⟩ hp;have hF:eV l=if 100<(l.length:Int) then ([],2) else (iE (false,ay) l,0):=rfl
 refine ⟨fun h=>?_,fun h=>?_⟩
 ·rw [hF,if_pos (tM h)];exact ⟨rfl,rfl,trivial⟩
 have h:=uZ h;rw [if_neg h] at hF;refine fun _=>⟨⟨by omega,by omega,by omega,Re _,rfl,rfl⟩,fun ⟨o,d,i⟩ ⟨i0,i1,i2,i3,i4,i5⟩=>⟨fun hlt=>?_,fun hge=>?_⟩⟩
 ·have hlt:=tM hlt;simp only at i0 i1 i2 i3 i4 i5 hlt |-;have hm:=aI ([]:List UInt8) i0 hlt
  have ho:o.length=i.toNat:=by
   have hl:∀ (l:List (List UInt8)) (d:dj),(iE d l).length=l.length:=fun l=>by
    induction l with
    | nil=>intro d; rfl
    | cons a l ih=>intro d; simp only [iE,HN,ih]
   rw [i5,hl,QD];omega
  have hR:=G3 i3 (aj (l.getD i.toNat []));unfold aK;simp only [HN,QQ,ak];refine ⟨i0,hlt,⟨i3,hp _ hm⟩,by omega,by omega,⟨by omega,by omega,i2,hR,?_,?_⟩,by omega⟩
  ·rw [a8 ([]:List UInt8) i0 hlt,xU,<- i4]
  ·rw [a8 ([]:List UInt8) i0 hlt,tH,<- i4,<- i5]
 ·have hge:=uZ hge;simp only at i5 hge |-;rw [bT hge] at i5;rw [hF];exact ⟨i5,rfl,trivial⟩
theorem Ec:Df.ok Tryz.prog 8:=aD (ann:=Ff) (pR Ed ap) Tryz.func8 (by kernel_rfl) Ak
end
section
def Jx:Spec:={ Ts:=[.arr .str,.arr .str],Rs:=[.dat .bool],pre:=fun _=>True,F:=fun (x:List (List UInt8)×List (List UInt8))=>decide (x.1=x.2) }
def KW:Nat->Option LoopGen
 | 4=>some { rd:=[.dat 0 (.arr .str),.dat 1 (.arr .str)],A:=fun (g:List (List UInt8)×List (List UInt8))=>{ cs:=[.dat 13 ty_I],inv:=fun (i:Int)=>g.1.length=g.2.length/\0<=i/\i<=g.1.length/\g.1.take i.toNat=g.2.take i.toNat,mu:=fun (i:Int)=>(g.1.length - i).toNat } }
 | _=>none
def yX:Prop :=
  ∀ (x:List (List UInt8)×List (List UInt8)),((x.1.length * 16<=aK/\∀ (x_1:List UInt8),x_1∈x.1->x_1.length<=aK)/\x.2.length * 16<=aK/\∀ (x_1:List UInt8),x_1∈x.2->x_1.length<=aK)->True->(decide ((x.1.length:Int)≠(x.2.length:Int))=true->false=decide (x.1=x.2)/\True)/\(decide ((x.1.length:Int)≠(x.2.length:Int))=false->(x.1.length=x.2.length/\(0:Int)<=0/\0<=(x.1.length:Int)/\List.take (Int.toNat 0) x.1=List.take (Int.toNat 0) x.2)/\∀ (x_1:Int),x.1.length=x.2.length/\0<=x_1/\x_1<=(x.1.length:Int)/\List.take x_1.toNat x.1=List.take x_1.toNat x.2->(decide (x_1<(x.1.length:Int))=true->0<=x_1/\x_1<(x.1.length:Int)/\0<=x_1/\x_1<(x.2.length:Int)/\(decide (x.1.getD x_1.toNat ([]:List UInt8)≠x.2.getD x_1.toNat ([]:List UInt8))=true->false=decide (x.1=x.2)/\True)/\(decide (x.1.getD x_1.toNat ([]:List UInt8)≠x.2.getD x_1.toNat ([]:List UInt8))=false->ak .i64 (x_1+1)/\(x.1.length=x.2.length/\0<=x_1+1/\x_1+1<=(x.1.length:Int)/\List.take (x_1+1).toNat x.1=List.take (x_1+1).toNat x.2)/\((x.1.length:Int) - (x_1+1)).toNat<((x.1.length:Int) - x_1).toNat))/\(decide (x_1<(x.1.length:Int))=false->true=decide (x.1=x.2)/\True))
theorem FI:yX:=by
 unfold yX;intro x hw _;refine ⟨fun h=>?_,fun h=>?_⟩
 ·have h:x.1.length≠x.2.length:=by have:=tM h; omega
  have:x.1≠x.2:=fun e=>h (by rw [e])
  simp [this]
 have hl:x.1.length=x.2.length:=by have:=uZ h; omega
 refine ⟨⟨hl,by omega,by omega,by simp⟩,fun i ⟨_,h0,h1,ht⟩=>⟨fun hlt=>?_,fun hge=>?_⟩⟩
 ·have hlt:i<x.1.length:=by simpa using hlt
  refine ⟨h0,hlt,h0,by omega,fun hne=>?_,fun he=>?_⟩
  ·have hne:x.1.getD i.toNat []≠x.2.getD i.toNat []:=by simpa using hne
   have:x.1≠x.2:=fun e=>hne (by rw [e])
   simp [this]
  ·have he:x.1.getD i.toNat []=x.2.getD i.toNat []:=by simpa using he
   have hb:x.1.length * 16<=aK:=hw.1.1;unfold aK at hb;refine ⟨by simp only [ak]; omega,⟨hl,by omega,by omega,?_⟩,by omega⟩;rw [show (i+1).toNat=i.toNat+1 by omega];exact yq hl (by omega) ht he
 ·have hge:¬ i<x.1.length:=by simpa using hge
  have hi:i.toNat=x.1.length:=by omega
  rw [hi,QG (QI _),QG (by omega)] at ht;simp [ht]
theorem J8:Jx.ok Tryz.prog 9:=aD (ann:=KW) ap Tryz.func9 (by kernel_rfl) FI
def G2:List (List UInt8):=[[110,101,119,32,56,32,49,32,48],[109,97,107,101,32,48,32,48,32,50,32,53],[112,117,116,32,48,32,49,32,55],[103,101,116,32,48,32,49]]
def PP:List (List UInt8):=[[111,107],[111,107,32,48],[111,107],[111,107,32,55]]
def xk:ah:=(aC (0,7,0,true)::List.replicate 7 0,[-1],[],[])
def Fl:ah:=([aC (0,2,5,false),0,0,aC (0,4,0,true),0,0,0,0],[0],[],[])
def Dq:ah:=([aC (0,2,5,false),0,7,aC (0,4,0,true),0,0,0,0],[0],[],[])
theorem Kd {u:Nat} (h:u<10):f9 [UInt8.ofNat (48+u)]=((u:Int),true):=by
 have:u=0\/u=1\/u=2\/u=3\/u=4\/u=5\/u=6\/u=7\/u=8\/u=9:=by omega
 have hi:∀ n:Nat,n<10->Lib.itoa (n:Int)=[UInt8.ofNat (48+n)]:=fun n hn=>by
  unfold Lib.itoa;rw [if_neg (by omega),Q5,Lib.decDigits,dif_pos hn]
 rcases this with rfl | rfl | rfl | rfl | rfl | rfl | rfl | rfl | rfl | rfl
 all_goals
  unfold f9;simp [Lib.atoiAll,Lib.parseMag,Lib.parseUint10]
  first | exact hi 0 (by omega) | exact hi 1 (by omega) | exact hi 2 (by omega) | exact hi 3 (by omega) | exact hi 4 (by omega) | exact hi 5 (by omega) | exact hi 6 (by omega) | exact hi 7 (by omega) | exact hi 8 (by omega) | exact hi 9 (by omega)
theorem Lp:ac xk.1=([aE 0 8],0):=by
 have h:=gO (at_:=0) (k:=8) (R:=[]) (by omega);rw [Q8,if_pos (by omega)] at h;have e:xk.1=bY 8:=rfl;rw [e];refine lE (by rw [bQ]; omega) ?_;rw [h,spotsS];rfl
theorem Qk:au 8 1 0=(xk,0):=by
 unfold au;rw [if_neg (by omega),if_neg (by omega),if_neg (by omega)];rfl
theorem CI {s:ah} (hc:(am s.1).2.2=0) (hr:aG s.2.1 s.1.length=0) (hp:bU s.2.2.1=0) (hh:aM s.2.2.2=0) (hn:∀ x∈cJ s,isB (ac s.1).1 x=true):ar s=0:=by
 unfold ar;rw [if_neg (by omega),if_neg (by omega),if_neg (by omega),if_neg (by omega)];exact jF hc hn
theorem OY:(am xk.1).2.2=0:=nC Lp fun s hs v hv=>by
 have e:aQ xk.1 (aE 0 8)=[]:=by decide
 rw [QA.1 hs,e] at hv;cases hv
theorem PV:ar xk=0:=CI OY (by decide) rfl rfl fun x hx=>by
 have e:cJ xk=[]:=rfl;rw [e] at hx;cases hx
theorem BL {s:ah} (R:ar s=0) {k a b c v:Int} (hb:cm k a b c v=false):bv s k a b c v=deed s k a b c v:=by
 unfold bv;rw [if_neg (by rw [hb]; simp),if_neg (by omega)]
theorem PY:bv xk 1 0 0 2 5=(Fl,0,0):=by
 rw [BL PV (by decide),zJ,show (5:Int) % 65536=5 from rfl];have hg:aO false [] (ac xk.1).1=[(0,8)]:=by rw [Lp]; rfl
 have ht:ie xk.1 (0,2,5,false)=(fA xk.1 (0,8) (0,2,5,false),0,true):=by
  unfold ie;rw [hg];rfl
 have hp:fA xk.1 (0,8) (0,2,5,false)=Fl.1:=by
  unfold fA cL;rw [if_neg (by have:=OY; omega),hg];rfl
 have hm:bf xk 0 (0,2,5,false)=(Fl,false,0):=by
  unfold bf gt;rw [if_neg (by unfold bM; rw [if_neg (by have:=PV; omega)]; decide),if_neg (by decide)];rw [ht];simp only [if_true];rw [hp];rfl
 rw [hm];rfl
theorem FU (x:Int):ac [aC (0,2,5,false),0,x,aC (0,4,0,true),0,0,0,0]=([(0,0,2,5,false),(3,0,4,0,true)],0):=by
 refine lE (by simp) ?_;rw [cT (by decide) (by simp only [HN,QQ]; decide)];show (spotsS 3 [aC (0,4,0,true),0,0,0,0]).map _=_;rw [cT (by decide) (by decide)];show ((spotsS 8 []).map _).map _=_;rw [spotsS];rfl
theorem hZ (x:Int):eX [aC (0,2,5,false),0,x,aC (0,4,0,true),0,0,0,0] 0=(0,2,5,false):=by
 unfold eX;rw [FU];rfl
theorem PW {s:ah} (R:ar s=0) (h:s.2.1=[0]):bw s 0=0:=by
 unfold bw;rw [if_neg (by omega),h];decide
theorem Qp (x:Int):ar ([aC (0,2,5,false),0,x,aC (0,4,0,true),0,0,0,0],[0],[],[])=0:=by
 refine CI (nC (FU x) fun s hs v hv=>?_) (by simp only [HN,QQ]; decide) rfl rfl fun y hy=>?_
 ·simp only [Qs,RV,Td] at hs;rcases hs with rfl | rfl
  ·simp [aQ] at hv
  ·simp [aQ] at hv
 ·have e:y=0:=by
   have:cJ (([aC (0,2,5,false),0,x,aC (0,4,0,true),0,0,0,0],[0],[],[]):ah)=[0]:=rfl;rw [this] at hy;exact QA.1 hy
  rw [e];simp only;rw [FU];rfl
theorem PU:ar Fl=0:=Qp 0
theorem PT:ar Dq=0:=Qp 7
theorem Qj:bv Fl 6 0 1 0 7=(Dq,0,0):=by
 rw [BL PU (by decide),zH];have hh:eX Fl.1 (ax Fl 0)=(0,2,5,false):=hZ 0
 have hb:aP Fl 0 1=0:=by
  unfold aP;rw [PW PU rfl,if_neg (by decide),hh];decide
 have hp:j7 Fl 0 1 7=(Dq,0):=by
  unfold j7;rw [if_neg (by rw [hb]; decide)];unfold bO;rw [hh];rfl
 rw [hp]
theorem Ql:bv Dq 5 0 1 0 0=(Dq,7,0):=by
 rw [BL PT (by decide),zI];have hh:eX Dq.1 (ax Dq 0)=(0,2,5,false):=hZ 7
 have hb:aP Dq 0 1=0:=by
  unfold aP;rw [PW PT rfl,if_neg (by decide),hh];decide
 rw [if_neg (by rw [hb]; decide)];unfold bO;rw [hh];rfl
theorem jd:∀ (l:List Nat),(∀ u∈l,u<10)->gk (l.map fun u=>[UInt8.ofNat (48+u)])=some (l.map fun u:Nat=>(u:Int))
 | [],_=>rfl
 | u::l,h=>by
  have ih:=jd l fun v hv=>h v (by simp [hv])
  simp only [Q1,gk];rw [Kd (h u (by simp)),if_pos rfl,ih];rfl
theorem un {d:dj} {w:List (List UInt8)} {many:Int} {store:Bool} {a:Act} {n:List Int} (hw:B8 (w.getD 0 [])=some (many,store,a)) (hl:(w.length:Int) - 1=many) (hn:gk w.tail=some n) (hs:(store&&!d.1)=false):aR d w=mQ d n a:=by
 unfold aR;rw [hw];simp only;rw [if_neg (by omega),hn];simp only [hs];rfl
theorem w1:aR (false,ay) (aj [110,101,119,32,56,32,49,32,48])=(([],0),(true,xk)):=by
 rw [show aj [110,101,119,32,56,32,49,32,48]=[[110,101,119],[56],[49],[48]] from rfl];rw [un (w:=[[110,101,119],[56],[49],[48]]) (many:=3) (store:=false) (a:=.begin) (n:=[8,1,0]) rfl rfl (jd [8,1,0] (by decide)) rfl];show (let r:=au 8 1 0; if r.2=0 then (([],0),(true,r.1)) else (([],r.2),(false,ay)))=_;rw [Qk];rfl
theorem w2:aR (true,xk) (aj [109,97,107,101,32,48,32,48,32,50,32,53])=(([0],0),(true,Fl)):=by
 rw [show aj [109,97,107,101,32,48,32,48,32,50,32,53]=[[109,97,107,101],[48],[48],[50],[53]] from rfl];rw [un (w:=[[109,97,107,101],[48],[48],[50],[53]]) (many:=4) (store:=true) (a:=.deed 1 (dU 1) true) (n:=[0,0,2,5]) rfl rfl (jd [0,0,2,5] (by decide)) rfl];refine (dy (d:=(true,xk)) (k:=1) (told:=true) (n:=[0,0,2,5]) (fun _=>by decide) rfl).trans ?_;show (if (bv xk 1 0 0 2 5).2.2≠0 then _ else _)=_;have h:=PY;show (if (bv xk 1 0 0 2 5).2.2≠0 then (([],(bv xk 1 0 0 2 5).2.2),(true,xk)) else (([IntKind.i64.wrap (bv xk 1 0 0 2 5).2.1],0),(true,(bv xk 1 0 0 2 5).1)))=_;rw [h];rfl
theorem w3:aR (true,Fl) (aj [112,117,116,32,48,32,49,32,55])=(([],0),(true,Dq)):=by
 rw [show aj [112,117,116,32,48,32,49,32,55]=[[112,117,116],[48],[49],[55]] from rfl];rw [un (w:=[[112,117,116],[48],[49],[55]]) (many:=3) (store:=true) (a:=.deed 6 (dU 6) false) (n:=[0,1,7]) rfl rfl (jd [0,1,7] (by decide)) rfl];refine (dy (d:=(true,Fl)) (k:=6) (told:=false) (n:=[0,1,7]) (fun _=>by decide) rfl).trans ?_;show (if (bv Fl 6 0 1 0 7).2.2≠0 then (([],(bv Fl 6 0 1 0 7).2.2),(true,Fl)) else (([],0),(true,(bv Fl 6 0 1 0 7).1)))=_;rw [Qj];rfl
theorem w4:aR (true,Dq) (aj [103,101,116,32,48,32,49])=(([7],0),(true,Dq)):=by
 rw [show aj [103,101,116,32,48,32,49]=[[103,101,116],[48],[49]] from rfl];rw [un (w:=[[103,101,116],[48],[49]]) (many:=2) (store:=true) (a:=.deed 5 (dU 5) true) (n:=[0,1]) rfl rfl (jd [0,1] (by decide)) rfl];refine (dy (d:=(true,Dq)) (k:=5) (told:=true) (n:=[0,1]) (fun _=>by decide) rfl).trans ?_;show (if (bv Dq 5 0 1 0 0).2.2≠0 then (([],(bv Dq 5 0 1 0 0).2.2),(true,Dq)) else (([IntKind.i64.wrap (bv Dq 5 0 1 0 0).2.1],0),(true,(bv Dq 5 0 1 0 0).1)))=_;rw [Ql];rfl
theorem ww {u:Nat} (h:u<10):Lib.itoa (u:Int)=[UInt8.ofNat (48+u)]:=by
 unfold Lib.itoa;rw [if_neg (by omega),Q5,Lib.decDigits,dif_pos h]
theorem K2:eV G2=(PP,0):=by
 unfold eV G2;rw [if_neg (by decide)];simp only [iE,w1,w2,w3,w4];have h0:=ww (u:=0) (by omega);have h7:=ww (u:=7) (by omega);have e0:mW ([],0)=[111,107]:=rfl
 have e1:mW ([0],0)=[111,107,32,48]:=by
  show [111,107]++((32::Lib.itoa ((0:Nat):Int))++[])=_;rw [h0];rfl
 have e7:mW ([7],0)=[111,107,32,55]:=by
  show [111,107]++((32::Lib.itoa ((7:Nat):Int))++[])=_;rw [h7];rfl
 rw [e0,e1,e7];rfl
def Lr:Spec:={ Ts:=[],Rs:=[.dat .bool],pre:=fun _=>True,F:=fun _=>true }
def DB:Prop :=
  ∀ (_:Unit),True->True->(∀ (s:List UInt8),s∈[[(110:UInt8),(101:UInt8),(119:UInt8),(32:UInt8),(56:UInt8),(32:UInt8),(49:UInt8),(32:UInt8),(48:UInt8)],[(109:UInt8),(97:UInt8),(107:UInt8),(101:UInt8),(32:UInt8),(48:UInt8),(32:UInt8),(48:UInt8),(32:UInt8),(50:UInt8),(32:UInt8),(53:UInt8)],[(112:UInt8),(117:UInt8),(116:UInt8),(32:UInt8),(48:UInt8),(32:UInt8),(49:UInt8),(32:UInt8),(55:UInt8)],[(103:UInt8),(101:UInt8),(116:UInt8),(32:UInt8),(48:UInt8),(32:UInt8),(49:UInt8)]]->s.length<4294967281)/\(decide ((eV [[(110:UInt8),(101:UInt8),(119:UInt8),(32:UInt8),(56:UInt8),(32:UInt8),(49:UInt8),(32:UInt8),(48:UInt8)],[(109:UInt8),(97:UInt8),(107:UInt8),(101:UInt8),(32:UInt8),(48:UInt8),(32:UInt8),(48:UInt8),(32:UInt8),(50:UInt8),(32:UInt8),(53:UInt8)],[(112:UInt8),(117:UInt8),(116:UInt8),(32:UInt8),(48:UInt8),(32:UInt8),(49:UInt8),(32:UInt8),(55:UInt8)],[(103:UInt8),(101:UInt8),(116:UInt8),(32:UInt8),(48:UInt8),(32:UInt8),(49:UInt8)]]).2=0)=true->True)/\(decide ((eV [[(110:UInt8),(101:UInt8),(119:UInt8),(32:UInt8),(56:UInt8),(32:UInt8),(49:UInt8),(32:UInt8),(48:UInt8)],[(109:UInt8),(97:UInt8),(107:UInt8),(101:UInt8),(32:UInt8),(48:UInt8),(32:UInt8),(48:UInt8),(32:UInt8),(50:UInt8),(32:UInt8),(53:UInt8)],[(112:UInt8),(117:UInt8),(116:UInt8),(32:UInt8),(48:UInt8),(32:UInt8),(49:UInt8),(32:UInt8),(55:UInt8)],[(103:UInt8),(101:UInt8),(116:UInt8),(32:UInt8),(48:UInt8),(32:UInt8),(49:UInt8)]]).2=0)&&decide ((eV [[(110:UInt8),(101:UInt8),(119:UInt8),(32:UInt8),(56:UInt8),(32:UInt8),(49:UInt8),(32:UInt8),(48:UInt8)],[(109:UInt8),(97:UInt8),(107:UInt8),(101:UInt8),(32:UInt8),(48:UInt8),(32:UInt8),(48:UInt8),(32:UInt8),(50:UInt8),(32:UInt8),(53:UInt8)],[(112:UInt8),(117:UInt8),(116:UInt8),(32:UInt8),(48:UInt8),(32:UInt8),(49:UInt8),(32:UInt8),(55:UInt8)],[(103:UInt8),(101:UInt8),(116:UInt8),(32:UInt8),(48:UInt8),(32:UInt8),(49:UInt8)]]).1=[[(111:UInt8),(107:UInt8)],[(111:UInt8),(107:UInt8),(32:UInt8),(48:UInt8)],[(111:UInt8),(107:UInt8)],[(111:UInt8),(107:UInt8),(32:UInt8),(55:UInt8)]]))=true/\True
theorem IP:DB:=by
 unfold DB;have h:=K2;unfold G2 at h;intro _ _ _;rw [h];refine ⟨fun s hs=>?_,fun _=>trivial,rfl,trivial⟩;simp only [Qs,RV,Td] at hs;rcases hs with rfl | rfl | rfl | rfl <;> decide
theorem Mb:Lr.ok Tryz.prog 14:=aD (ann:=cF) (ae Ec (ae J8 ap)) Tryz.func14 (by kernel_rfl) IP
end
section
def bG (n:Int):List Int:=if n<128 then [n] else (128+n % 128)::bG (n / 128)
termination_by n.toNat
decreasing_by omega
theorem iP {n:Int} (h:n<128):bG n=[n]:=by rw [bG,if_pos h]
theorem nV {n:Int} (h:128<=n):bG n=(128+n % 128)::bG (n / 128):=by rw [bG,if_neg (by omega)]
theorem Eg:∀ (k:Nat) (n:Int),n<128 ^ (k+1)->(bG n).length<=k+1
 | 0,n,h=>by rw [iP (by simpa using h)]; simp
 | k+1,n,h=>by
  by_cases e:n<128
  ·rw [iP e]; simp
  ·rw [nV (by omega),HN]
   have:=Eg k (n / 128) (by
    have e2:(128:Int) ^ (k+1+1)=128 ^ (k+1) * 128:=Int.pow_succ ..;omega)
   omega
theorem wa {n:Int} (h:n<18446744073709551616):(bG n).length<=10:=Eg 9 n (by
 have e:(128:Int) ^ (9+1)=1180591620717411303424:=by decide
 rw [e]; omega)
theorem qF (n:Int):0<(bG n).length:=by
 by_cases e:n<128
 ·rw [iP e]; simp
 ·rw [nV (by omega)]; simp
def dk:List UInt8->Int
 | []=>0
 | c::r=>((c.toNat % 128:Nat):Int)+128 * dk r
theorem fJ:∀ l,0<=dk l
 | []=>by simp [dk]
 | c::r=>by have:=fJ r; unfold dk; omega
theorem nL:∀ l,dk l<128 ^ l.length
 | []=>by simp [dk]
 | c::r=>by
  have:=nL r;have e2:(128:Int) ^ (c::r).length=128 ^ r.length * 128:=by rw [HN,Int.pow_succ]
  rw [e2];unfold dk;omega
theorem nK (c:UInt8):∀ l,dk (l++[c])=dk l+((c.toNat % 128:Nat):Int) * 128 ^ l.length
 | []=>by simp [dk]
 | d::r=>by
  rw [Rf,dk,nK c r,dk,HN,Int.pow_succ]
  have e:((c.toNat % 128:Nat):Int) * (128 ^ r.length * 128)=128 * (((c.toNat % 128:Nat):Int) * 128 ^ r.length):=by
   rw [<- Int.mul_assoc,Int.mul_comm]
  rw [e];omega
def jK:Nat->List UInt8->Option (List UInt8×List UInt8)
 | 0,_=>none
 | _+1,[]=>none
 | d+1,c::r=>if c.toNat<128 then some ([c],r) else (jK d r).map fun x=>(c::x.1,x.2)
def iv (p:List UInt8):Nat:=(p.getD (p.length - 1) 0).toNat
theorem wo (c:UInt8) {p:List UInt8} (h:p≠[]):iv (c::p)=iv p:=by
 unfold iv;obtain ⟨d,r,rfl⟩:=List.exists_cons_of_ne_nil h;simp
theorem iI:∀ (d:Nat) (s p q:List UInt8),jK d s=some (p,q)->s=p++q/\p≠[]/\p.length<=d/\iv p<128
 | 0,_,_,_,h=>by cases h
 | _+1,[],_,_,h=>by cases h
 | d+1,c::r,p,q,h=>by
  unfold jK at h;split at h
  ·rename_i hc;simp only [pS,zn] at h;obtain ⟨rfl,rfl⟩:=h;exact ⟨rfl,by simp,by simp,by simpa [iv] using hc⟩
  ·obtain ⟨⟨p',q'⟩,h1,h2⟩:=Dm.1 h;simp only [zn] at h2;obtain ⟨rfl,rfl⟩:=h2;obtain ⟨e1,e2,e3,e4⟩:=iI d r p' q' h1;exact ⟨by rw [e1]; rfl,by simp,by simp; omega,by rw [wo c e2]; exact e4⟩
theorem sr:∀ (d:Nat) (s p q:List UInt8),jK d s=some (p,q)->(aX (bG (dk p))=p ↔ (p.length=1\/iv p≠0))/\(dk p=0->iv p=0)
 | 0,_,_,_,h=>by cases h
 | _+1,[],_,_,h=>by cases h
 | d+1,c::r,p,q,h=>by
  unfold jK at h;split at h
  ·rename_i hc;simp only [pS,zn] at h;obtain ⟨rfl,rfl⟩:=h;have e:dk [c]=(c.toNat:Int):=by simp only [dk]; omega
   rw [e,iP (by omega)];refine ⟨?_,fun hz=>by simp only [iv,Rv,SC,List.getD_cons_zero]; omega⟩;simp [aX]
  ·rename_i hc;obtain ⟨⟨p',q'⟩,h1,h2⟩:=Dm.1 h;simp only [zn] at h2;obtain ⟨rfl,rfl⟩:=h2;obtain ⟨ih,ih0⟩:=sr d r p' q' h1;obtain ⟨_,hne,_,_⟩:=iI d r p' q' h1;have hv:=fJ p';have hl:=wo c hne;have hlen:p'.length≠0:=fun e=>hne (QF e)
   refine ⟨?_,fun hz=>?_⟩
   ·by_cases hz:dk p'=0
    ·have e:dk (c::p')=((c.toNat % 128:Nat):Int):=by rw [dk]; omega
     rw [e,iP (n:=((c.toNat % 128:Nat):Int)) (by omega),hl,ih0 hz];constructor
     ·intro hh;have:=congrArg List.length hh;simp only [aX,Q1,RR,HN,QQ] at this;omega
     ·rintro (hh | hh)
      ·simp only [HN] at hh; omega
      ·exact absurd rfl hh
    ·have ev:dk (c::p')=((c.toNat % 128:Nat):Int)+128 * dk p':=rfl
     have e:bG (dk (c::p'))=(128+((c.toNat % 128:Nat):Int))::bG (dk p'):=by
      rw [nV (by omega),show dk (c::p') % 128=((c.toNat % 128:Nat):Int) by omega,show dk (c::p') / 128=dk p' by omega]
     have hb:UInt8.ofNat (128+((c.toNat % 128:Nat):Int)).toNat=c:=by
      have hlt:=c.toNat_lt;have:(128+((c.toNat % 128:Nat):Int)).toNat=c.toNat:=by omega
      rw [this];exact UInt8.ofNat_toNat
     rw [e,hl];simp only [aX,Q1,hb,So,Sb];rw [show List.map (fun n:Int=>UInt8.ofNat n.toNat) (bG (dk p'))=aX (bG (dk p')) from rfl,ih];constructor
     ·rintro (hh | hh)
      ·right;intro h0;apply hz;obtain ⟨x,rfl⟩:=List.length_eq_one_iff.1 hh;have:x.toNat=0:=h0;simp [dk,this]
      ·exact .inr hh
     ·rintro (hh | hh)
      ·simp only [HN] at hh; omega
      ·exact .inr hh
   ·rw [hl];apply ih0;rw [dk] at hz;omega
theorem E0:∀ (d i:Nat) (s:List UInt8),(∀ c∈s.take i,128<=c.toNat)->i<s.length->(s.getD i 0).toNat<128->i<d->jK d s=some (s.take (i+1),s.drop (i+1))
 | 0,_,_,_,_,_,h=>by omega
 | _+1,_,[],_,h,_,_=>by simp at h
 | d+1,0,c::r,_,_,h,_=>by
  have h:c.toNat<128:=by simpa using h
  rw [jK,if_pos h];simp
 | d+1,i+1,c::r,ha,hl,h,hd=>by
  have hc:128<=c.toNat:=ha c (by simp);rw [jK,if_neg (by omega),E0 d i r (fun x hx=>ha x (by simp [hx])) (by simpa using hl) (by simpa using h) (by omega)];simp
theorem E1:∀ (d:Nat) (s:List UInt8),(∀ c∈s.take d,128<=c.toNat)->jK d s=none
 | 0,_,_=>rfl
 | _+1,[],_=>rfl
 | d+1,c::r,ha=>by
  have hc:128<=c.toNat:=ha c (by simp);rw [jK,if_neg (by omega),E1 d r (fun x hx=>ha x (by simp [hx]))];rfl
abbrev Rd:=List UInt8×Bool
def Hv (p:List UInt8):Bool:=(decide (iv p=0)&&decide (1<p.length))||(decide (p.length=10)&&decide (1<iv p))
def aB (r:Rd):Int×Rd :=
 match jK 10 r.1 with
 | some (p,q)=>(dk p % 18446744073709551616,q,r.2||Hv p)
 | none=>(0,r.1,true)
def pK (s:List UInt8):Int×List UInt8×Bool :=
 match jK 10 s with
 | some (p,q)=>if p.length=10/\1<iv p then (0,[],false) else (dk p,q,decide (aX (bG (dk p))=p))
 | none=>(0,[],false)
theorem wb {s:List UInt8} (h:(pK s).2.2=true):aB (s,false)=((pK s).1,(pK s).2.1,false)/\(pK s).2.1.length<s.length/\0<=(pK s).1/\(pK s).1<18446744073709551616:=by
 unfold pK aB at *;cases hc:jK 10 s with
 | none=>rw [hc] at h; cases h
 | some x =>
  obtain ⟨p,q⟩:=x;rw [hc] at h;simp only at h |-;obtain ⟨e1,e2,e3,e4⟩:=iI 10 s p q hc;obtain ⟨hcan,_⟩:=sr 10 s p q hc;have hlen:p.length≠0:=fun e=>e2 (QF e)
  split at h
  ·cases h
  ·rename_i hn;rw [if_neg hn];have hcan:=hcan.1 (tM h);have hv0:=fJ p
   have hv:dk p<18446744073709551616:=by
    have hlt:=nL p;by_cases h10:p.length=10
    ·have hl1:iv p<=1:=by omega
     have hd:p.dropLast++[p.getLast e2]=p:=SE e2
     have hlast:(p.getLast e2).toNat=iv p:=by
      unfold iv;rw [List.getLast_eq_getElem];simp [List.getD,show p.length - 1<p.length by omega]
     have:=nK (p.getLast e2) p.dropLast;rw [hd] at this;have hdl:p.dropLast.length=9:=by simp [h10]
     have h9:=nL p.dropLast;rw [hdl] at this h9;have e9:(128:Int) ^ 9=9223372036854775808:=by decide
     rw [e9] at this h9;have:(p.getLast e2).toNat % 128<=1:=by omega
     omega
    ·have h9:p.length<=9:=by omega
     have:(128:Int) ^ p.length<=128 ^ 9:=by exact_mod_cast Nat.pow_le_pow_right (n:=128) (by omega) h9
     have e9:(128:Int) ^ 9=9223372036854775808:=by decide
     omega
   refine ⟨?_,?_,hv0,hv⟩
   ·have hb:Hv p=false:=by
     unfold Hv;rw [Rn];refine ⟨?_,?_⟩
     ·rw [R6];rcases hcan with h1 | h1
      ·right; simp; omega
      ·left; simpa using h1
     ·rw [R6];by_cases h10:p.length=10
      ·right; simp; omega
      ·left; simpa using h10
    rw [hb,SH hv0 hv];rfl
   ·rw [e1,KK]; simp only; omega
theorem Ij {s:List UInt8} (h:(pK s).2.2=false):(aB (s,false)).2.2=true:=by
 unfold pK aB at *;cases hc:jK 10 s with
 | none=>rfl
 | some x =>
  obtain ⟨p,q⟩:=x;rw [hc] at h;simp only at h |-;obtain ⟨_,e2,e3,e4⟩:=iI 10 s p q hc;obtain ⟨hcan,_⟩:=sr 10 s p q hc;have hlen:p.length≠0:=fun e=>e2 (QF e)
  unfold Hv;split at h
  ·rename_i hn;rw [Rm hn.1,Rm hn.2];simp
  ·simp only [Rh] at h;have h1:p.length≠1:=fun e=>h (hcan.2 (.inl e))
   have h2:iv p=0:=Rc fun e=>h (hcan.2 (.inr e))
   rw [Rm h2,Rm (show 1<p.length by omega)];simp
theorem Ke {s:List UInt8}:(aB (s,true)).2.2=true:=by
 unfold aB;cases jK 10 (s,true).1 <;> simp
theorem v8 (r:Rd):0<=(aB r).1/\(aB r).1<18446744073709551616/\(aB r).2.1.length<=r.1.length:=by
 unfold aB;cases hc:jK 10 r.1 with
 | none=>simp
 | some x =>
  obtain ⟨p,q⟩:=x;obtain ⟨e1,_,_,_⟩:=iI 10 r.1 p q hc;simp only;refine ⟨by omega,by omega,?_⟩;rw [e1,KK]; omega
theorem GW (r:Rd) (h:(aB r).2.2=false):(aB r).2.1.length<r.1.length:=by
 unfold aB at *;cases hc:jK 10 r.1 with
 | none=>rw [hc] at h; cases h
 | some x =>
  obtain ⟨p,q⟩:=x;obtain ⟨e1,e2,_,_⟩:=iI 10 r.1 p q hc;have hlen:p.length≠0:=fun e=>e2 (QF e)
  simp only;rw [e1,KK]; omega
def aZ:Nat->Rd->List Int×Rd
 | 0,r=>([],r)
 | k+1,r=>((aZ k r).1++[(aB (aZ k r).2).1],(aB (aZ k r).2).2)
theorem jx:∀ (k:Nat) (r:Rd),(aZ k r).1.length=k
 | 0,_=>rfl
 | k+1,r=>by rw [aZ,KK,jx k r]; rfl
theorem vp:∀ (k:Nat) (r:Rd),(∀ x∈(aZ k r).1,0<=x/\x<18446744073709551616)/\(aZ k r).2.1.length<=r.1.length
 | 0,r=>⟨by simp [aZ],QI _⟩
 | k+1,r=>by
  obtain ⟨h1,h2⟩:=vp k r;obtain ⟨g1,g2,g3⟩:=v8 (aZ k r).2;rw [aZ];refine ⟨fun x hx=>?_,by simp only; omega⟩;rcases Qx.1 hx with hx | hx
  ·exact h1 x hx
  ·simp only [QA] at hx; subst hx; exact ⟨g1,g2⟩
theorem Gt:∀ (k:Nat) (r:Rd),(aZ (k+1) r).2.2=false->(aZ (k+1) r).2.1.length<r.1.length
 | k,r,h=>by
  rw [aZ] at h |-;have:=GW _ h;have:=(vp k r).2;simp only at *;omega
def KZ (r:Rd):Nat:=if r.2=true then 0 else r.1.length
theorem Ek {r:Rd} (h:r.1≠[]/\r.2=false):KZ (aZ 5 r).2<KZ r:=by
 have h1:0<r.1.length:=Sw.2 h.1;unfold KZ;rw [h.2];simp only [Qz,QW];split
 ·exact h1
 ·rename_i hb;exact Gt 4 r (by simpa using hb)
abbrev ux:=Int×Int×Int×Int×Int
def mO (n:Int):Int:=IntKind.i64.wrap n
def GZ (l:List Int):ux:=(mO (l.getD 0 0),mO (l.getD 1 0),mO (l.getD 2 0),mO (l.getD 3 0),l.getD 4 0)
def cU (r:Rd) (out:List ux):List ux×Rd :=
 if _h:r.1≠[]/\r.2=false then cU (aZ 5 r).2 (out++[GZ (aZ 5 r).1]) else (out,r)
termination_by KZ r
decreasing_by exact Ek _h
def gj (s:List UInt8):Option (List Int) :=
 if s=[] then some [] else if _h:(pK s).2.2=true then (gj (pK s).2.1).map ((pK s).1::·) else none
termination_by s.length
decreasing_by exact (wb _h).2.1
theorem jM:gj []=some []:=by rw [gj,if_pos rfl]
theorem je {s:List UInt8} (hs:s≠[]) (h:(pK s).2.2=true):gj s=(gj (pK s).2.1).map ((pK s).1::·):=by rw [gj,if_neg hs,dif_pos h]
theorem jN {s:List UInt8} (hs:s≠[]) (h:(pK s).2.2=false):gj s=none:=by rw [gj,if_neg hs,dif_neg (by rw [h]; simp)]
theorem Oc:(pK []).2.2=false:=rfl
def rZ:List Int->List ux
 | a::b::c::d::e::r=>(mO a,mO b,mO c,mO d,e)::rZ r
 | _=>[]
theorem zh:∀ (n:Nat) (s:List UInt8) (l:List Int),s.length<=n->gj s=some l->l.length<=s.length/\∀ x∈l,0<=x/\x<18446744073709551616
 | n,s,l,hn,h=>by
  by_cases hs:s=[]
  ·subst hs; rw [jM] at h; simp only [pS] at h; subst h; simp
  ·cases hb:(pK s).2.2 with
   | false=>rw [jN hs hb] at h; cases h
   | true =>
    rw [je hs hb] at h;obtain ⟨l',h1,rfl⟩:=Dm.1 h;obtain ⟨_,hlt,g0,g1⟩:=wb hb
    match n with
    | 0=>omega
    | n+1 =>
     obtain ⟨i1,i2⟩:=zh n (pK s).2.1 l' (by omega) h1;refine ⟨by simp only [HN]; omega,fun x hx=>?_⟩;rcases Qs.1 hx with rfl | hx
     ·exact ⟨g0,g1⟩
     ·exact i2 x hx
theorem vo (s:List UInt8):∀ k:Nat,
  (∀ l,gj s=some l->k<=l.length->∃ s',aZ k (s,false)=(l.take k,(s',false))/\gj s'=some (l.drop k)/\s'.length+k<=s.length) /\
  (∀ l,gj s=some l->l.length<k->(aZ k (s,false)).2.2=true) /\
  (gj s=none->(aZ k (s,false)).2.2=true\/∃ s',(aZ k (s,false)).2=(s',false)/\gj s'=none/\s'.length+k<=s.length)
 | 0=>⟨fun l h _=>⟨s,by simp [aZ],by simpa using h,by simp⟩,fun l _ h=>by omega,fun h=>.inr ⟨s,rfl,h,by simp⟩⟩
 | k+1=>by
  obtain ⟨hA,hB,hC⟩:=vo s k
  have stick:(aZ k (s,false)).2.2=true->(aZ (k+1) (s,false)).2.2=true:=fun h=>by
   rw [aZ];have e:(aZ k (s,false)).2=((aZ k (s,false)).2.1,true):=by rw [<- h]
   rw [e];exact Ke
  refine ⟨fun l h hk=>?_,fun l h hk=>?_,fun h=>?_⟩
  ·obtain ⟨s',e1,e2,e3⟩:=hA l h (by omega);have hd:l.drop k=l[k]::l.drop (k+1):=Rq (by omega);have hs:s'≠[]:=fun e=>by rw [e,jM,hd] at e2; cases e2
   cases hb:(pK s').2.2 with
   | false=>rw [jN hs hb] at e2; cases e2
   | true =>
    rw [je hs hb,hd] at e2;obtain ⟨l',h1,h2⟩:=Dm.1 e2;simp only [So] at h2;obtain ⟨g1,g2,_⟩:=wb hb;refine ⟨(pK s').2.1,?_,by rw [h1,h2.2],by omega⟩;rw [aZ,e1];simp only [g1];rw [h2.1,Q4 (by omega)]
  ·by_cases hk2:l.length<k
   ·exact stick (hB l h hk2)
   ·obtain ⟨s',e1,e2,e3⟩:=hA l h (by omega);have hl:l.drop k=[]:=by rw [List.drop_eq_nil_iff]; omega
    rw [hl] at e2
    have hs:s'=[]:=by
     refine Rc fun hs=>?_
     cases hb:(pK s').2.2 with
     | false=>rw [jN hs hb] at e2; cases e2
     | true =>
      rw [je hs hb] at e2;obtain ⟨l',_,h2⟩:=Dm.1 e2;cases h2
    subst hs;rw [aZ,e1];exact Ij Oc
  ·rcases hC h with h1 | ⟨s',e1,e2,e3⟩
   ·exact .inl (stick h1)
   ·have hs:s'≠[]:=fun e=>by rw [e,jM] at e2; cases e2
    rw [aZ,e1];cases hb:(pK s').2.2 with
    | false=>exact .inl (Ij hb)
    | true =>
     obtain ⟨g1,g2,_⟩:=wb hb;rw [je hs hb] at e2;refine .inr ⟨(pK s').2.1,by rw [g1],?_,by omega⟩;cases hn:gj (pK s').2.1 with
     | none=>rfl
     | some l=>rw [hn] at e2; cases e2
theorem tL (l:List Int) (h:5<=l.length):rZ l=GZ (l.take 5)::rZ (l.drop 5):=by
 match l,h with
 | a::b::c::d::e::r,_=>rfl
theorem ng {r:Rd} {out:List ux} (h:¬ (r.1≠[]/\r.2=false)):cU r out=(out,r):=by rw [cU,dif_neg h]
theorem tq {r:Rd} {out:List ux} (h:r.1≠[]/\r.2=false):cU r out=cU (aZ 5 r).2 (out++[GZ (aZ 5 r).1]):=by
 rw [cU,dif_pos h]
theorem vR {r:Rd} {out:List ux} (h:r.2=true):(cU r out).2.2=true:=by
 rw [ng (by rw [h]; simp)];exact h
theorem qA:∀ (n:Nat) (s:List UInt8) (out:List ux),s.length<=n ->
  (∀ l,gj s=some l->l.length % 5=0->(cU (s,false) out).1=out++rZ l/\(cU (s,false) out).2.2=false) /\
  (∀ l,gj s=some l->l.length % 5≠0->(cU (s,false) out).2.2=true)/\(gj s=none->(cU (s,false) out).2.2=true)
 | n,s,out,hn=>by
  by_cases hs:s=[]
  ·subst hs;rw [ng (by simp),jM];refine ⟨fun l h _=>?_,fun l h h2=>?_,fun h=>by cases h⟩
   ·simp only [pS] at h;subst h;simp [rZ]
   ·simp only [pS] at h;subst h;simp at h2
  ·have hpos:0<s.length:=Sw.2 hs;have hstep:cU (s,false) out=cU (aZ 5 (s,false)).2 (out++[GZ (aZ 5 (s,false)).1]):=tq ⟨hs,rfl⟩;obtain ⟨hA,hB,hC⟩:=vo s 5;rw [hstep]
   match n with
   | 0=>omega
   | n+1 =>
    have nz:∀ l,gj s=some l->l≠[]:=fun l h e=>by
     subst e;cases hb:(pK s).2.2 with
     | false=>rw [jN hs hb] at h; cases h
     | true =>
      rw [je hs hb] at h;obtain ⟨l',_,h2⟩:=Dm.1 h;cases h2
    refine ⟨fun l h h5=>?_,fun l h h5=>?_,fun h=>?_⟩
    ·have hl:5<=l.length:=by have:=Sw.2 (nz l h); omega
     obtain ⟨s',e1,e2,e3⟩:=hA l h hl;rw [e1];obtain ⟨i1,_,_⟩:=qA n s' (out++[GZ (l.take 5)]) (by omega);obtain ⟨j1,j2⟩:=i1 _ e2 (by rw [QH]; omega);refine ⟨?_,j2⟩;simp only at j1 |-;rw [j1,tL l hl,List.append_assoc];rfl
    ·by_cases hl:5<=l.length
     ·obtain ⟨s',e1,e2,e3⟩:=hA l h hl;rw [e1];exact (qA n s' (out++[GZ (l.take 5)]) (by omega)).2.1 _ e2 (by rw [QH]; omega)
     ·exact vR (hB l h (by omega))
    ·rcases hC h with h1 | ⟨s',e1,e2,e3⟩
     ·exact vR h1
     ·rw [e1];exact (qA n s' _ (by omega)).2.2 e2
end
section
abbrev mT:Ty:=.int .u8
abbrev Ao:Ty:=.pair ty_I (.pair ty_I (.pair ty_I (.pair ty_I bi)))
abbrev OQ:Ty:=.pair bi (.pair bi (.pair bi (.pair bi bi)))
abbrev iA:Ty:=.pair .str .bool
def k9 (n:Int):Int:=IntKind.u64.wrap n
def ky (g:Int×Int×Int×Int×Int):List Int:=[g.1,g.2.1,g.2.2.1,g.2.2.2.1,g.2.2.2.2]
def bq (l:List Int):List Int:=l.flatMap bG
def L8 (o:ux):List Int:=[k9 o.1,k9 o.2.1,k9 o.2.2.1,k9 o.2.2.2.1,o.2.2.2.2]
def qB (l:List ux):List Int:=l.flatMap fun o=>bq (L8 o)
theorem jY (a:List Int):(aX a).length=a.length:=by simp [aX]
theorem Lo {s:List UInt8} {i:Int} (h0:0<=i) (h:i<(s.length:Int)):s.take (i+1).toNat=s.take i.toNat++[s.getD i.toNat 0]:=a8 0 h0 h
theorem wn {s:List UInt8} {i:Int} (h0:0<=i) (h:i<(s.length:Int)):iv (s.take (i+1).toNat)=(s.getD i.toNat 0).toNat/\(s.take (i+1).toNat).length=(i+1).toNat:=by
 have hl:(s.take (i+1).toNat).length=(i+1).toNat:=by rw [QD]; omega
 refine ⟨?_,hl⟩;unfold iv;rw [hl,Lo h0 h,show (i+1).toNat - 1=i.toNat by omega];have hl2:(s.take i.toNat).length=i.toNat:=by rw [QD]; omega
 rw [List.getD_eq_getElem?_getD,List.getElem?_append_right (by omega),hl2,SC];rfl
theorem Fh {s:List UInt8} {i:Int} (h0:0<=i) (h:i<(s.length:Int)) (ha:∀ c∈s.take i.toNat,128<=c.toNat) (hc:128<=(s.getD i.toNat 0).toNat):∀ c∈s.take (i+1).toNat,128<=c.toNat:=by
 intro c hm;rw [Lo h0 h] at hm;rcases Qx.1 hm with hm | hm
 ·exact ha c hm
 ·simp only [QA] at hm;rw [hm]; exact hc
theorem IC {s:List UInt8} {i:Int} (hi:i=10\/(s.length:Int)<=i) (ha:∀ c∈s.take i.toNat,128<=c.toNat):jK 10 s=none:=by
 apply E1;intro c hc;rcases hi with rfl | hi
 ·exact ha c hc
 ·rw [QG (by omega)] at ha;exact ha c (RG hc)
theorem Gv {i:Int} (h0:0<=i) (h:i<=9):1<=(128:Int) ^ i.toNat/\(i<=8->(128:Int) ^ i.toNat<=72057594037927936)/\(128:Int) ^ i.toNat<=9223372036854775808/\(i=9->(128:Int) ^ i.toNat=9223372036854775808):=by
 have:i=0\/i=1\/i=2\/i=3\/i=4\/i=5\/i=6\/i=7\/i=8\/i=9:=by omega
 rcases this with rfl | rfl | rfl | rfl | rfl | rfl | rfl | rfl | rfl | rfl <;> decide
theorem Cx {s:List UInt8} {i:Int} (h0:0<=i) (h:i<(s.length:Int)):dk (s.take (i+1).toNat)=dk (s.take i.toNat)+((s.getD i.toNat 0).toNat:Int) % 128 * 128 ^ i.toNat/\0<=dk (s.take i.toNat)/\dk (s.take i.toNat)<128 ^ i.toNat:=by
 have hl2:(s.take i.toNat).length=i.toNat:=by rw [QD]; omega
 refine ⟨?_,fJ _,?_⟩
 ·rw [Lo h0 h,nK,hl2];congr 1
 ·have:=nL (s.take i.toNat)
  rwa [hl2] at this
theorem Ei {s:List UInt8} {i:Int} (h0:0<=i) (h:i<(s.length:Int)) (h9:i<=9) (ha:∀ c∈s.take i.toNat,128<=c.toNat) (hc:(s.getD i.toNat 0).toNat<128) :
  jK 10 s=some (s.take (i+1).toNat,s.drop (i+1).toNat):=by
 rw [show (i+1).toNat=i.toNat+1 by omega];exact E0 10 i.toNat s ha (by omega) hc (by omega)
theorem JR (l:List ux) (o:ux):qB (l++[o])=qB l++bq (L8 o):=by simp [qB]
theorem um {n:Int} (h:ak .u64 n):(bG n).length<=10:=wa (by simp only [ak] at h; omega)
theorem IE {n:Int} (_h0:0<=n):(((IntKind.u8.wrap n).toNat ||| Int.toNat 128:Nat):Int)=128+n % 128:=by
 rw [K1];have key:∀ m:Nat,m<256->m ||| 128=128+m % 128:=by decide
 have h1:=key (n % 256).toNat (by omega);rw [show Int.toNat 128=128 from rfl,h1];omega
theorem Nh (g:Int×Int×Int×Int×Int) {j:Int} (h0:0<=j) (h:j<5):(ky g).take (j+1).toNat=(ky g).take j.toNat++[(ky g).getD j.toNat 0]:=a8 0 h0 (by show j<((5:Nat):Int); omega)
theorem GV (l:List Int) (n:Int):bq (l++[n])=bq l++bG n:=by simp [bq]
def eK (l:List ux):List UInt8×Int:=if 200<l.length then ([],2) else (aX (qB l),0)
def F0:Spec:={ Ts:=[.arr Ao],Rs:=[.dat .str,.dat ty_I],pre:=fun _=>True,F:=eK }
def Hz:Nat->Option LoopGen
 | 3000086=>some cY
 | 5=>some { rd:=[.dat 12 (.arr Ao)],A:=fun (l:List ux)=>{ cs:=[.own 4 5 mT,.dat 14 ty_I],inv:=fun ((out,i):List Int×Int)=>0<=i/\i<=l.length/\l.length<=200/\out.length<=50 * i/\out=qB (l.take i.toNat),mu:=fun ((_,i):List Int×Int)=>(l.length - i).toNat } }
 | 8=>some { rd:=[.own 4 5 mT,.dat 32 OQ],A:=fun ((o0,g):List Int×Int×Int×Int×Int×Int)=>{ cs:=[.own 4 5 mT,.dat 33 ty_I],inv:=fun ((out,j):List Int×Int)=>0<=j/\j<=5/\out.length<=o0.length+10 * j/\out=o0++bq ((ky g).take j.toNat),mu:=fun ((_,j):List Int×Int)=>(5 - j).toNat } }
 | 8700000001=>some { rd:=[.own 0 5 mT,.dat 1 bi],A:=fun ((o0,n0):List Int×Int)=>{ cs:=[.own 0 5 mT,.dat 1 bi],inv:=fun ((out,n):List Int×Int)=>0<=n/\out++bG n=o0++bG n0,mu:=fun ((_,n):List Int×Int)=>n.toNat } }
 | _=>none
def vt:Prop :=
  ∀ (x:List (Int×Int×Int×Int×Int)),(x.length * (8+(8+(8+(8+8))))<=aK/\∀ (x_1:Int×Int×Int×Int×Int),x_1∈x->ak .i64 x_1.1/\ak .i64 x_1.2.1/\ak .i64 x_1.2.2.1/\ak .i64 x_1.2.2.2.1/\ak .u64 x_1.2.2.2.2)->True->(decide (200<(x.length:Int))=true->([]:List UInt8)=(eK x).1/\2=(eK x).2/\True)/\(decide (200<(x.length:Int))=false->((0:Int)<=0/\0<=(x.length:Int)/\x.length<=200/\(↑(0:Nat):Int)<=50 * 0/\([]:List Int)=qB (List.take (Int.toNat 0) x))/\∀ (x_1:List Int×Int),(fun (v0:type_of% (x.getD x_1.2.toNat (0,0,0,0,0)))=>0<=x_1.2/\x_1.2<=(x.length:Int)/\x.length<=200/\(x_1.1.length:Int)<=50 * x_1.2/\x_1.1=qB (List.take x_1.2.toNat x)->(decide (x_1.2<(x.length:Int))=true->0<=x_1.2/\x_1.2<(x.length:Int)/\((0:Int)<=0/\(0:Int)<=5/\(x_1.1.length:Int)<=(x_1.1.length:Int)+10 * 0/\x_1.1=x_1.1++bq (List.take (Int.toNat 0) (ky (IntKind.u64.wrap v0.1,IntKind.u64.wrap v0.2.1,IntKind.u64.wrap v0.2.2.1,IntKind.u64.wrap v0.2.2.2.1,v0.2.2.2.2))))/\∀ (x_2:List Int×Int),(fun (v1:type_of% ([IntKind.u64.wrap v0.1,IntKind.u64.wrap v0.2.1,IntKind.u64.wrap v0.2.2.1,IntKind.u64.wrap v0.2.2.2.1,v0.2.2.2.2].getD x_2.2.toNat 0))=>0<=x_2.2/\x_2.2<=5/\(x_2.1.length:Int)<=(x_1.1.length:Int)+10 * x_2.2/\x_2.1=x_1.1++bq (List.take x_2.2.toNat (ky (IntKind.u64.wrap v0.1,IntKind.u64.wrap v0.2.1,IntKind.u64.wrap v0.2.2.1,IntKind.u64.wrap v0.2.2.2.1,v0.2.2.2.2)))->(decide (x_2.2<5)=true->0<=x_2.2/\x_2.2<(↑[IntKind.u64.wrap v0.1,IntKind.u64.wrap v0.2.1,IntKind.u64.wrap v0.2.2.1,IntKind.u64.wrap v0.2.2.2.1,v0.2.2.2.2].length:Int)/\∀ (_:Array Value),(0<=[IntKind.u64.wrap v0.1,IntKind.u64.wrap v0.2.1,IntKind.u64.wrap v0.2.2.1,IntKind.u64.wrap v0.2.2.2.1,v0.2.2.2.2].getD x_2.2.toNat 0/\x_2.1++bG v1=x_2.1++bG v1)/\∀ (x_3:List Int×Int),0<=x_3.2/\x_3.1++bG x_3.2=x_2.1++bG v1->(decide (128<=x_3.2)=true->(x_3.1.length+[(↑((IntKind.u8.wrap x_3.2).toNat ||| Int.toNat 128):Int)].length) * 8<=aK/\(0:Int)<=7/\7<(↑IntKind.u64.bits:Int)/\(0<=x_3.2 / 2 ^ Int.toNat 7/\x_3.1++[(↑((IntKind.u8.wrap x_3.2).toNat ||| Int.toNat 128):Int)]++bG (x_3.2 / 2 ^ Int.toNat 7)=x_2.1++bG v1)/\(x_3.2 / 2 ^ Int.toNat 7).toNat<x_3.2.toNat)/\(decide (128<=x_3.2)=false->(x_3.1.length+[IntKind.u8.wrap x_3.2].length) * 8<=aK/\ak .i64 (x_2.2+1)/\(0<=x_2.2+1/\x_2.2+1<=5/\(↑(x_3.1++[IntKind.u8.wrap x_3.2]).length:Int)<=(x_1.1.length:Int)+10 * (x_2.2+1)/\x_3.1++[IntKind.u8.wrap x_3.2]=x_1.1++bq (List.take (x_2.2+1).toNat (ky (IntKind.u64.wrap v0.1,IntKind.u64.wrap v0.2.1,IntKind.u64.wrap v0.2.2.1,IntKind.u64.wrap v0.2.2.2.1,v0.2.2.2.2))))/\(5 - (x_2.2+1)).toNat<(5 - x_2.2).toNat))/\(decide (x_2.2<5)=false->ak .i64 (x_1.2+1)/\(0<=x_1.2+1/\x_1.2+1<=(x.length:Int)/\x.length<=200/\(x_2.1.length:Int)<=50 * (x_1.2+1)/\x_2.1=qB (List.take (x_1.2+1).toNat x))/\((x.length:Int) - (x_1.2+1)).toNat<((x.length:Int) - x_1.2).toNat)) ([IntKind.u64.wrap v0.1,IntKind.u64.wrap v0.2.1,IntKind.u64.wrap v0.2.2.1,IntKind.u64.wrap v0.2.2.2.1,v0.2.2.2.2].getD x_2.2.toNat 0))/\(decide (x_1.2<(x.length:Int))=false->aX x_1.1=(eK x).1/\0=(eK x).2/\True)) (x.getD x_1.2.toNat (0,0,0,0,0)))
theorem Cd:vt:=by
 unfold vt;intro l ⟨_,hl⟩ _;have hF:eK l=if 200<l.length then ([],2) else (aX (qB l),0):=rfl
 refine ⟨fun h=>?_,fun h=>?_⟩
 ·rw [if_pos (by have:=tM h; omega)] at hF;rw [hF];exact ⟨rfl,rfl,trivial⟩
 have h200:l.length<=200:=by have:=uZ h; omega
 rw [if_neg (by omega)] at hF;rw [hF];clear hF h;refine ⟨⟨by omega,by omega,h200,by simp,rfl⟩,fun ⟨out,i⟩ ⟨i0,i1,_,i2,i3⟩=>⟨fun hlt=>?_,fun hge=>?_⟩⟩
 ·have hlt:=tM hlt;simp only at i0 i1 i2 i3 hlt |-;have hm:=hl _ (aI ((0,0,0,0,0):ux) i0 hlt);rw [a8 ((0,0,0,0,0):ux) i0 hlt,JR,<- i3];generalize l.getD i.toNat (0,0,0,0,0)=o at *;obtain ⟨a,b,c,d,e⟩:=o;simp only at hm |-
  have hin:∀ x∈[IntKind.u64.wrap a,IntKind.u64.wrap b,IntKind.u64.wrap c,IntKind.u64.wrap d,e],ak .u64 x:=by
   intro x hx;simp only [Qs,RV,Td] at hx;rcases hx with rfl | rfl | rfl | rfl | rfl
   ·exact fP _ _
   ·exact fP _ _
   ·exact fP _ _
   ·exact fP _ _
   ·exact hm.2.2.2.2
  have hA:[IntKind.u64.wrap a,IntKind.u64.wrap b,IntKind.u64.wrap c,IntKind.u64.wrap d,e]=ky (IntKind.u64.wrap a,IntKind.u64.wrap b,IntKind.u64.wrap c,IntKind.u64.wrap d,e):=rfl;have hW:L8 (a,b,c,d,e)=ky (IntKind.u64.wrap a,IntKind.u64.wrap b,IntKind.u64.wrap c,IntKind.u64.wrap d,e):=rfl;rw [hA] at hin |-;rw [hW];generalize hg:(IntKind.u64.wrap a,IntKind.u64.wrap b,IntKind.u64.wrap c,IntKind.u64.wrap d,e)=g at *;have h5:(ky g).length=5:=rfl;refine ⟨i0,hlt,⟨by omega,by omega,by omega,by simp [bq]⟩,fun ⟨o2,j⟩ ⟨j0,j1,j2,j3⟩=>⟨fun hj=>?_,fun hj=>?_⟩⟩
  ·have hj:=tM hj;simp only at j0 j1 j2 j3 hj |-;have hn:=hin _ (aI (0:Int) (xs:=ky g) (i:=j) j0 (by rw [h5]; omega));rw [Nh g j0 hj,GV,<- List.append_assoc,<- j3];generalize (ky g).getD j.toNat 0=n at *;have hlen:=um hn;simp only [ak] at hn;refine ⟨j0,by rw [h5]; omega,fun _=>⟨⟨hn.1,by first | exact trivial | rfl⟩,fun ⟨o3,m⟩ ⟨m0,m1⟩=>⟨fun hmm=>?_,fun hmm=>?_⟩⟩⟩
   ·have hmm:=tM hmm;simp only at m0 m1 hmm |-;have e1:m / 2 ^ Int.toNat 7=m / 128:=rfl;have hl3:=congrArg List.length m1;have hp:=qF m;rw [IE m0,e1];simp only [KK,HN,QQ,aK,E5] at *;refine ⟨by omega,by omega,by omega,⟨by omega,?_⟩,by omega⟩;rw [<- m1,nV (n:=m) (by omega),List.append_assoc];rfl
   ·have hmm:=uZ hmm;simp only at m0 m1 hmm |-;rw [iP (n:=m) (by omega)] at m1;have hl3:=congrArg List.length m1;rw [K1,SH m0 (by omega),m1];simp only [KK,HN,QQ,aK,ak] at *;exact ⟨by omega,by omega,⟨by omega,by omega,by omega,trivial⟩,by omega⟩
  ·have hj:=uZ hj;simp only at j0 j1 j2 j3 hj |-;rw [QG (by rw [h5]; omega)] at j3;simp only [ak];exact ⟨by omega,⟨by omega,by omega,h200,by omega,j3⟩,by omega⟩
 ·have hge:=uZ hge;simp only at i3 hge |-;rw [i3,bT hge];exact ⟨rfl,by first | exact trivial | rfl,trivial⟩
theorem GF:F0.ok Tryz.prog 24:=aD (ann:=Hz) ap Tryz.func24 (by kernel_rfl) Cd
theorem PK (c:Nat):c &&& 127=c % 128:=Nat.and_two_pow_sub_one_eq_mod c 7
theorem L5 {n:Int} {c:UInt8} {i:Int} (i0:0<=i) (i9:i<=9) (n0:0<=n) (n1:n<128 ^ i.toNat) :
  ((n.toNat ||| (IntKind.u64.wrap ((((c.toNat:Int).toNat &&& Int.toNat 127:Nat):Int) * 2 ^ (7 * i).toNat)).toNat:Nat):Int)=(n+(c.toNat:Int) % 128 * 128 ^ i.toNat) % 18446744073709551616:=by
 have hc:=c.toNat_lt;rw [show Int.toNat 127=127 from rfl,Q5,PK]
 have e7:(2:Int) ^ (7 * i).toNat=128 ^ i.toNat:=by
  rw [show (7 * i).toNat=7 * i.toNat by omega,Int.pow_mul];rfl
 have hp:=Gv i0 i9;have hd:(((c.toNat % 128:Nat)):Int)=(c.toNat:Int) % 128:=by omega
 rw [hd];generalize hdd:(c.toNat:Int) % 128=d at *;have d0:0<=d:=by omega
 have d1:d<=127:=by omega
 by_cases h8:i<=8
 ·have hle:d * 128 ^ i.toNat<=127 * 128 ^ i.toNat:=Int.mul_le_mul_of_nonneg_right d1 (by omega);have hge:0<=d * 128 ^ i.toNat:=Int.mul_nonneg d0 (by omega);have h9:=hp.2.1 h8;rw [e7,eY hge (by omega),<- e7,nY n0 d0 (i:=(7 * i).toNat) (by rw [e7]; exact n1),e7,SH (by omega) (by omega)]
 ·obtain rfl:i=9:=by omega
  have e9:(128:Int) ^ (9:Int).toNat=9223372036854775808:=by decide
  have e63:(2:Int) ^ (7 * 9:Int).toNat=9223372036854775808:=by decide
  rw [e9] at n1 |-;rw [e63]
  have hw:IntKind.u64.wrap (d * 9223372036854775808)=d % 2 * 2 ^ 63:=by
   simp only [IntKind.wrap,IntKind.bits,IntKind.signed];have e3:(2:Int) ^ 63=9223372036854775808:=by decide
   simp;omega
  have e3:(2:Int) ^ 63=9223372036854775808:=by decide
  rw [hw,nY n0 (by omega) (i:=63) (by rw [e3]; exact n1),e3];omega
theorem Nf {g:Int×Int×Int×Int×Int} {vs:List Int} {j:Nat} (v:Int) (h:ky g=vs++List.replicate (5 - j) 0) (hl:vs.length=j) (hj:j<5) :
  ky (if j=0 then v else g.1,if j=0+1 then v else g.2.1,if j=0+1+1 then v else g.2.2.1,if j=0+1+1+1 then v else g.2.2.2.1,if j=0+1+1+1+1 then v else g.2.2.2.2)=(vs++[v])++List.replicate (5 - (j+1)) 0:=by
 have e:ky (if j=0 then v else g.1,if j=0+1 then v else g.2.1,if j=0+1+1 then v else g.2.2.1,if j=0+1+1+1 then v else g.2.2.2.1,if j=0+1+1+1+1 then v else g.2.2.2.2)=(ky g).set j v:=by
  have:j=0\/j=1\/j=2\/j=3\/j=4:=by omega
  rcases this with rfl | rfl | rfl | rfl | rfl <;> rfl
 rw [e,h,R5 _ _ (by omega),hl,SC,show 5 - j=(5 - (j+1))+1 by omega,Sc,List.set_cons_zero,List.append_assoc];rfl
theorem vY {r:Rd} {p q:List UInt8} (h:jK 10 r.1=some (p,q)):aB r=(dk p % 18446744073709551616,q,r.2||Hv p):=by unfold aB; rw [h]
theorem vZ {r:Rd} (h:jK 10 r.1=none):aB r=(0,r.1,true):=by unfold aB; rw [h]
def fv (s:List UInt8):List ux×Int:=if ((cU (s,false) []).2.2||decide (200<(cU (s,false) []).1.length))=true then ([],3) else ((cU (s,false) []).1,0)
def CP:Spec:={ Ts:=[.str],Rs:=[.own 47 Ao,.dat ty_I],pre:=fun (s:List UInt8)=>s.length<=20000,F:=fv }
def E7:Nat->Option LoopGen
 | 3000087=>some cY
 | 3=>some { rd:=[.box 10 iA],A:=fun (r0:Rd)=>{ cs:=[.box 10 iA,.own 5 47 Ao],inv:=fun ((r,out):Rd×List ux)=>out.length+KZ r<=20000/\r.1.length<=20000/\cU r out=cU r0 [],mu:=fun ((r,_):Rd×List ux)=>KZ r } }
 | 6=>some { rd:=[.box 10 iA],A:=fun (r0:Rd)=>{ cs:=[.box 10 iA,.box 6 OQ,.dat 23 ty_I],inv:=fun ((r,g,j):Rd×(Int×Int×Int×Int×Int)×Int)=>0<=j/\j<=5/\r=(aZ j.toNat r0).2/\ky g=(aZ j.toNat r0).1++List.replicate (5 - j.toNat) 0,mu:=fun ((_,_,j):Rd×(Int×Int×Int×Int×Int)×Int)=>(5 - j).toNat } }
 | 8800000003=>some { rd:=[.box 10900000 iA],A:=fun (r0:Rd)=>{ cs:=[.box 10900000 iA,.dat 3 bi,.dat 12 ty_I],inv:=fun ((r,n,i):Rd×Int×Int)=>r=r0/\0<=i/\i<=r0.1.length/\i<=10/\(∀ c∈r0.1.take i.toNat,128<=c.toNat)/\(i<=9->n=dk (r0.1.take i.toNat)),mu:=fun ((_,_,i):Rd×Int×Int)=>(10 - i).toNat } }
 | _=>none
def sN:Prop :=
  ∀ (x:List UInt8),x.length<=aK->x.length<=20000->(0+KZ (x,false)<=20000/\x.length<=20000/\cU (x,false) ([]:List (Int×Int×Int×Int×Int))=cU (x,false) ([]:List ux))/\∀ (x_1:(List UInt8×Bool)×List (Int×Int×Int×Int×Int)),x_1.2.length+KZ x_1.1<=20000/\x_1.1.1.length<=20000/\cU x_1.1 x_1.2=cU (x,false) ([]:List ux)->((decide (x_1.1.1≠([]:List UInt8))&&!x_1.1.2)=true->((0:Int)<=0/\(0:Int)<=5/\x_1.1=(aZ (Int.toNat 0) x_1.1).2/\ky (0,0,0,0,0)=(aZ (Int.toNat 0) x_1.1).1++List.replicate (5 - Int.toNat 0) (0:Int))/\∀ (x_2:(List UInt8×Bool)×(Int×Int×Int×Int×Int)×Int),(fun (v3:type_of% ([x_2.2.1.1,x_2.2.1.2.1,x_2.2.1.2.2.1,x_2.2.1.2.2.2.1,x_2.2.1.2.2.2.2].getD (Int.toNat 3) 0))=>(fun (v2:type_of% ([x_2.2.1.1,x_2.2.1.2.1,x_2.2.1.2.2.1,x_2.2.1.2.2.2.1,x_2.2.1.2.2.2.2].getD (Int.toNat 2) 0))=>(fun (v1:type_of% ([x_2.2.1.1,x_2.2.1.2.1,x_2.2.1.2.2.1,x_2.2.1.2.2.2.1,x_2.2.1.2.2.2.2].getD (Int.toNat 1) 0))=>(fun (v0:type_of% ([x_2.2.1.1,x_2.2.1.2.1,x_2.2.1.2.2.1,x_2.2.1.2.2.2.1,x_2.2.1.2.2.2.2].getD (Int.toNat 0) 0))=>0<=x_2.2.2/\x_2.2.2<=5/\x_2.1=(aZ x_2.2.2.toNat x_1.1).2/\ky x_2.2.1=(aZ x_2.2.2.toNat x_1.1).1++List.replicate (5 - x_2.2.2.toNat) (0:Int)->(decide (x_2.2.2<5)=true->∀ (_:Array Value),(x_2.1=x_2.1/\(0:Int)<=0/\0<=(x_2.1.1.length:Int)/\(0:Int)<=10/\(∀ (c:UInt8),c∈List.take (Int.toNat 0) x_2.1.1->128<=c.toNat)/\((0:Int)<=9->0=dk (List.take (Int.toNat 0) x_2.1.1)))/\∀ (x:(List UInt8×Bool)×Int×Int),x.1=x_2.1/\0<=x.2.2/\x.2.2<=(x_2.1.1.length:Int)/\x.2.2<=10/\(∀ (c:UInt8),c∈List.take x.2.2.toNat x_2.1.1->128<=c.toNat)/\(x.2.2<=9->x.2.1=dk (List.take x.2.2.toNat x_2.1.1))->(decide (x.2.2<if 10<(x_2.1.1.length:Int) then (10:Int) else (x_2.1.1.length:Int))=true->0<=x.2.2/\x.2.2<(x.1.1.length:Int)/\ak .i64 (7 * x.2.2)/\(0:Int)<=7 * x.2.2/\7 * x.2.2<(↑IntKind.u64.bits:Int)/\(decide ((↑(x.1.1.getD x.2.2.toNat (0:UInt8)).toNat:Int)<128)=true->ak .i64 (x.2.2+1)/\0<=x.2.2+1/\x.2.2+1<=(x.1.1.length:Int)/\0<=x_2.2.2/\x_2.2.2<(↑[x_2.2.1.1,x_2.2.1.2.1,x_2.2.1.2.2.1,x_2.2.1.2.2.2.1,x_2.2.1.2.2.2.2].length:Int)/\x_2.2.2.toNat<[x_2.2.1.1,x_2.2.1.2.1,x_2.2.1.2.2.1,x_2.2.1.2.2.2.1,x_2.2.1.2.2.2.2].length/\ak .i64 (x_2.2.2+1)/\(0<=x_2.2.2+1/\x_2.2.2+1<=5/\(List.drop (x.2.2+1).toNat x.1.1,x.1.2||decide ((↑(x.1.1.getD x.2.2.toNat (0:UInt8)).toNat:Int)=0)&&decide (0<x.2.2)||decide (x.2.2=9)&&decide (1<(↑(x.1.1.getD x.2.2.toNat (0:UInt8)).toNat:Int)))=(aZ (x_2.2.2+1).toNat x_1.1).2/\ky (if x_2.2.2.toNat=0 then (↑(x.2.1.toNat ||| (IntKind.u64.wrap ((↑((↑(x.1.1.getD x.2.2.toNat (0:UInt8)).toNat:Int).toNat &&& Int.toNat 127):Int) * 2 ^ (7 * x.2.2).toNat)).toNat):Int) else x_2.2.1.1,if x_2.2.2.toNat=0+1 then (↑(x.2.1.toNat ||| (IntKind.u64.wrap ((↑((↑(x.1.1.getD x.2.2.toNat (0:UInt8)).toNat:Int).toNat &&& Int.toNat 127):Int) * 2 ^ (7 * x.2.2).toNat)).toNat):Int) else x_2.2.1.2.1,if x_2.2.2.toNat=0+1+1 then (↑(x.2.1.toNat ||| (IntKind.u64.wrap ((↑((↑(x.1.1.getD x.2.2.toNat (0:UInt8)).toNat:Int).toNat &&& Int.toNat 127):Int) * 2 ^ (7 * x.2.2).toNat)).toNat):Int) else x_2.2.1.2.2.1,if x_2.2.2.toNat=0+1+1+1 then (↑(x.2.1.toNat ||| (IntKind.u64.wrap ((↑((↑(x.1.1.getD x.2.2.toNat (0:UInt8)).toNat:Int).toNat &&& Int.toNat 127):Int) * 2 ^ (7 * x.2.2).toNat)).toNat):Int) else x_2.2.1.2.2.2.1,if x_2.2.2.toNat=0+1+1+1+1 then (↑(x.2.1.toNat ||| (IntKind.u64.wrap ((↑((↑(x.1.1.getD x.2.2.toNat (0:UInt8)).toNat:Int).toNat &&& Int.toNat 127):Int) * 2 ^ (7 * x.2.2).toNat)).toNat):Int) else x_2.2.1.2.2.2.2)=(aZ (x_2.2.2+1).toNat x_1.1).1++List.replicate (5 - (x_2.2.2+1).toNat) (0:Int))/\(5 - (x_2.2.2+1)).toNat<(5 - x_2.2.2).toNat)/\(decide ((↑(x.1.1.getD x.2.2.toNat (0:UInt8)).toNat:Int)<128)=false->ak .i64 (x.2.2+1)/\(x.1=x_2.1/\0<=x.2.2+1/\x.2.2+1<=(x_2.1.1.length:Int)/\x.2.2+1<=10/\(∀ (c:UInt8),c∈List.take (x.2.2+1).toNat x_2.1.1->128<=c.toNat)/\(x.2.2+1<=9->(↑(x.2.1.toNat ||| (IntKind.u64.wrap ((↑((↑(x.1.1.getD x.2.2.toNat (0:UInt8)).toNat:Int).toNat &&& Int.toNat 127):Int) * 2 ^ (7 * x.2.2).toNat)).toNat):Int)=dk (List.take (x.2.2+1).toNat x_2.1.1)))/\(10 - (x.2.2+1)).toNat<(10 - x.2.2).toNat))/\(decide (x.2.2<if 10<(x_2.1.1.length:Int) then (10:Int) else (x_2.1.1.length:Int))=false->0<=x_2.2.2/\x_2.2.2<(↑[x_2.2.1.1,x_2.2.1.2.1,x_2.2.1.2.2.1,x_2.2.1.2.2.2.1,x_2.2.1.2.2.2.2].length:Int)/\x_2.2.2.toNat<[x_2.2.1.1,x_2.2.1.2.1,x_2.2.1.2.2.1,x_2.2.1.2.2.2.1,x_2.2.1.2.2.2.2].length/\ak .i64 (x_2.2.2+1)/\(0<=x_2.2.2+1/\x_2.2.2+1<=5/\(x.1.1,true)=(aZ (x_2.2.2+1).toNat x_1.1).2/\ky (if x_2.2.2.toNat=0 then (0:Int) else x_2.2.1.1,if x_2.2.2.toNat=0+1 then (0:Int) else x_2.2.1.2.1,if x_2.2.2.toNat=0+1+1 then (0:Int) else x_2.2.1.2.2.1,if x_2.2.2.toNat=0+1+1+1 then (0:Int) else x_2.2.1.2.2.2.1,if x_2.2.2.toNat=0+1+1+1+1 then (0:Int) else x_2.2.1.2.2.2.2)=(aZ (x_2.2.2+1).toNat x_1.1).1++List.replicate (5 - (x_2.2.2+1).toNat) (0:Int))/\(5 - (x_2.2.2+1)).toNat<(5 - x_2.2.2).toNat))/\(decide (x_2.2.2<5)=false->(0:Int)<=0/\0<(↑[x_2.2.1.1,x_2.2.1.2.1,x_2.2.1.2.2.1,x_2.2.1.2.2.2.1,x_2.2.1.2.2.2.2].length:Int)/\Int.toNat 0<[x_2.2.1.1,x_2.2.1.2.1,x_2.2.1.2.2.1,x_2.2.1.2.2.2.1,x_2.2.1.2.2.2.2].length/\(0:Int)<=1/\1<(↑[x_2.2.1.1,x_2.2.1.2.1,x_2.2.1.2.2.1,x_2.2.1.2.2.2.1,x_2.2.1.2.2.2.2].length:Int)/\Int.toNat 1<[x_2.2.1.1,x_2.2.1.2.1,x_2.2.1.2.2.1,x_2.2.1.2.2.2.1,x_2.2.1.2.2.2.2].length/\(0:Int)<=2/\2<(↑[x_2.2.1.1,x_2.2.1.2.1,x_2.2.1.2.2.1,x_2.2.1.2.2.2.1,x_2.2.1.2.2.2.2].length:Int)/\Int.toNat 2<[x_2.2.1.1,x_2.2.1.2.1,x_2.2.1.2.2.1,x_2.2.1.2.2.2.1,x_2.2.1.2.2.2.2].length/\(0:Int)<=3/\3<(↑[x_2.2.1.1,x_2.2.1.2.1,x_2.2.1.2.2.1,x_2.2.1.2.2.2.1,x_2.2.1.2.2.2.2].length:Int)/\Int.toNat 3<[x_2.2.1.1,x_2.2.1.2.1,x_2.2.1.2.2.1,x_2.2.1.2.2.2.1,x_2.2.1.2.2.2.2].length/\(0:Int)<=4/\4<(↑[x_2.2.1.1,x_2.2.1.2.1,x_2.2.1.2.2.1,x_2.2.1.2.2.2.1,x_2.2.1.2.2.2.2].length:Int)/\Int.toNat 4<[x_2.2.1.1,x_2.2.1.2.1,x_2.2.1.2.2.1,x_2.2.1.2.2.2.1,x_2.2.1.2.2.2.2].length/\(x_1.2.length+[(IntKind.i64.wrap v0,IntKind.i64.wrap v1,IntKind.i64.wrap v2,IntKind.i64.wrap v3,[x_2.2.1.1,x_2.2.1.2.1,x_2.2.1.2.2.1,x_2.2.1.2.2.2.1,x_2.2.1.2.2.2.2].getD (Int.toNat 4) 0)].length) * (8+(8+(8+(8+8))))<=aK/\((x_1.2++[(IntKind.i64.wrap v0,IntKind.i64.wrap v1,IntKind.i64.wrap v2,IntKind.i64.wrap v3,[x_2.2.1.1,x_2.2.1.2.1,x_2.2.1.2.2.1,x_2.2.1.2.2.2.1,x_2.2.1.2.2.2.2].getD (Int.toNat 4) 0)]).length+KZ x_2.1<=20000/\x_2.1.1.length<=20000/\cU x_2.1 (x_1.2++[(IntKind.i64.wrap v0,IntKind.i64.wrap v1,IntKind.i64.wrap v2,IntKind.i64.wrap v3,[x_2.2.1.1,x_2.2.1.2.1,x_2.2.1.2.2.1,x_2.2.1.2.2.2.1,x_2.2.1.2.2.2.2].getD (Int.toNat 4) 0)])=cU (x,false) ([]:List ux))/\KZ x_2.1<KZ x_1.1)) ([x_2.2.1.1,x_2.2.1.2.1,x_2.2.1.2.2.1,x_2.2.1.2.2.2.1,x_2.2.1.2.2.2.2].getD (Int.toNat 0) 0)) ([x_2.2.1.1,x_2.2.1.2.1,x_2.2.1.2.2.1,x_2.2.1.2.2.2.1,x_2.2.1.2.2.2.2].getD (Int.toNat 1) 0)) ([x_2.2.1.1,x_2.2.1.2.1,x_2.2.1.2.2.1,x_2.2.1.2.2.2.1,x_2.2.1.2.2.2.2].getD (Int.toNat 2) 0)) ([x_2.2.1.1,x_2.2.1.2.1,x_2.2.1.2.2.1,x_2.2.1.2.2.2.1,x_2.2.1.2.2.2.2].getD (Int.toNat 3) 0))/\((decide (x_1.1.1≠([]:List UInt8))&&!x_1.1.2)=false->((x_1.1.2||decide (200<(x_1.2.length:Int)))=true->([]:List (Int×Int×Int×Int×Int))=(fv x).1/\3=(fv x).2/\True)/\((x_1.1.2||decide (200<(x_1.2.length:Int)))=false->x_1.2=(fv x).1/\0=(fv x).2/\True))
theorem zQ:sN:=by
 unfold sN;intro s _ hs;have hF:fv s=if ((cU (s,false) []).2.2||decide (200<(cU (s,false) []).1.length))=true then ([],3) else ((cU (s,false) []).1,0):=rfl
 have hmu0:KZ (s,false)=s.length:=rfl;refine ⟨⟨by rw [hmu0]; omega,hs,rfl⟩,fun ⟨r,out⟩ ⟨h1,h2,h3⟩=>⟨fun hlt=>?_,fun hge=>?_⟩⟩
 ·simp only [CF,QP,QN] at hlt;simp only at h1 h2 h3 |-;have hmu:=Ek hlt;refine ⟨⟨by omega,by omega,rfl,rfl⟩,fun ⟨r2,g,j⟩ ⟨j0,j1,j2,j3⟩=>⟨fun hj=>?_,fun hj=>?_⟩⟩
  ·have hj5:=tM hj;simp only at j0 j1 j2 j3 hj5 |-
   have hjL:j<(([g.1,g.2.1,g.2.2.1,g.2.2.2.1,g.2.2.2.2]:List Int).length:Int):=by
    simp only [HN,QQ];omega
   have hjn:j.toNat<5:=by omega
   have hjs:(j+1).toNat=j.toNat+1:=by omega
   have hvl:=jx j.toNat r;have hread:aZ (j+1).toNat r=((aZ j.toNat r).1++[(aB r2).1],(aB r2).2):=by rw [hjs,aZ,<- j2]
   have hst:=fun v=>Nf v j3 hvl hjn
   rw [hread,hjs];refine fun _=>⟨⟨by first | exact trivial | rfl,by omega,by omega,by omega,by simp,fun _=>by simp [dk]⟩,fun ⟨r3,n,i⟩ ⟨e0,i0,i1,i2,ha,hv⟩=>⟨fun hi=>?_,fun hi=>?_⟩⟩
   ·have hi:=tM hi;simp only at e0 i0 i1 i2 ha hv hi |-;subst e0;have hil:i<(r3.1.length:Int):=by split at hi <;> omega
    have hi9:i<=9:=by split at hi <;> omega
    have hlast:=wn i0 hil;have hval:=Cx i0 hil;obtain rfl:=hv hi9;have hor:=L5 (c:=r3.1.getD i.toNat 0) i0 hi9 hval.2.1 hval.2.2;rw [hor,<- hval.1];have hc255:=(r3.1.getD i.toNat 0).toNat_lt;simp only [ak,E5];refine ⟨i0,hil,by omega,by omega,by omega,fun hs=>?_,fun hs=>?_⟩
    ·have hs:(r3.1.getD i.toNat 0).toNat<128:=by have:=tM hs; omega
     rw [vY (Ei i0 hil hi9 ha hs)];refine ⟨by omega,by omega,by omega,j0,hjL,hjn,by omega,⟨by omega,by omega,?_,hst _⟩,by omega⟩;simp only [zn,Sb];unfold Hv;rw [hlast.1,hlast.2];have b1:decide (((r3.1.getD i.toNat 0).toNat:Int)=0)=decide ((r3.1.getD i.toNat 0).toNat=0):=by apply Ry.2; simp only [QP]; omega
     have b2:decide (0<i)=decide (1<(i+1).toNat):=by apply Ry.2; simp only [QP]; omega
     have b3:decide (i=9)=decide ((i+1).toNat=10):=by apply Ry.2; simp only [QP]; omega
     have b4:decide (1<((r3.1.getD i.toNat 0).toNat:Int))=decide (1<(r3.1.getD i.toNat 0).toNat):=by apply Ry.2; simp only [QP]; omega
     rw [b1,b2,b3,b4,Bool.or_assoc]
    ·have hs:128<=(r3.1.getD i.toNat 0).toNat:=by have:=uZ hs; omega
     refine ⟨by omega,⟨by first | exact trivial | rfl,by omega,by omega,by omega,Fh i0 hil ha hs,fun h9=>?_⟩,by omega⟩;have hl2:(r3.1.take (i+1).toNat).length=(i+1).toNat:=hlast.2;have h3:=nL (r3.1.take (i+1).toNat);rw [hl2] at h3;have:=Gv (i:=i+1) (by omega) h9;exact SH (fJ _) (by omega)
   ·have hi:=uZ hi;simp only at e0 i0 i1 i2 ha hv hi |-;subst e0;have hend:i=10\/(r3.1.length:Int)<=i:=by split at hi <;> omega
    rw [vZ (IC hend ha)];simp only [ak];exact ⟨j0,hjL,hjn,by omega,⟨by omega,by omega,by first | exact trivial | rfl,hst _⟩,by omega⟩
  ·have hj:=uZ hj;simp only at j0 j1 j2 j3 hj |-;obtain rfl:j=5:=by omega
   have j2:r2=(aZ 5 r).2:=j2;have j3:ky g=(aZ 5 r).1:=by rw [j3]; exact Q8 _
   have hop:(IntKind.i64.wrap ([g.1,g.2.1,g.2.2.1,g.2.2.2.1,g.2.2.2.2].getD (Int.toNat 0) 0),IntKind.i64.wrap ([g.1,g.2.1,g.2.2.1,g.2.2.2.1,g.2.2.2.2].getD (Int.toNat 1) 0),IntKind.i64.wrap ([g.1,g.2.1,g.2.2.1,g.2.2.2.1,g.2.2.2.2].getD (Int.toNat 2) 0),IntKind.i64.wrap ([g.1,g.2.1,g.2.2.1,g.2.2.2.1,g.2.2.2.2].getD (Int.toNat 3) 0),[g.1,g.2.1,g.2.2.1,g.2.2.2.1,g.2.2.2.2].getD (Int.toNat 4) 0)=GZ (aZ 5 r).1:=by
    rw [<- j3];rfl
   rw [hop,j2];have hlen:=(vp 5 r).2;have hstep:=tq (out:=out) hlt;simp only [KK,HN,QQ,aK];refine ⟨by omega,by omega,by omega,by omega,by omega,by omega,by omega,by omega,by omega,by omega,by omega,by omega,by omega,by omega,by omega,by omega,⟨by omega,by omega,?_⟩,hmu⟩;rw [<- hstep];exact h3
 ·have hstop:cU r out=(out,r):=ng (by
   rintro ⟨g1,g2⟩;simp only at hge;rw [Rm g1,g2] at hge;cases hge)
  simp only at h3 |-;rw [hstop] at h3;rw [<- h3] at hF;simp only at hF;have hd:decide (200<(out.length:Int))=decide (200<out.length):=by apply Ry.2; simp only [QP]; omega
  rw [hd];refine ⟨fun h=>?_,fun h=>?_⟩
  ·rw [if_pos h] at hF;rw [hF];exact ⟨rfl,by first | exact trivial | rfl,trivial⟩
  ·rw [if_neg (by rw [h]; simp)] at hF;rw [hF];exact ⟨rfl,by first | exact trivial | rfl,trivial⟩
theorem DX:CP.ok Tryz.prog 25:=aD (ann:=E7) ap Tryz.func25 (by kernel_rfl) zQ
end
section
def FZ:RowFn:={ e:=5,T:=mT,Ts:=[bi],out:=true,pre:=fun (o _:List Int) _=>(o.length+10) * 8<=140737488355328,F:=fun (o _:List Int) (n:Int)=>(o++bG n:List Int) }
def Hy:Nat->Option LoopGen
 | 3000086=>some cY
 | 8700000001=>some { rd:=[.own 0 5 mT,.dat 1 bi],A:=fun ((o0,n0):List Int×Int)=>{ cs:=[.own 0 5 mT,.dat 1 bi],inv:=fun ((out,n):List Int×Int)=>0<=n/\out++bG n=o0++bG n0,mu:=fun ((_,n):List Int×Int)=>n.toNat } }
 | _=>none
def vr:Prop :=
  ∀ (xs _:List Int) (y:Int),(∀ (x:Int),x∈xs->ak .u8 x)->xs.length * 8<=aK->ak .u64 y->(xs.length+10) * 8<=140737488355328->∀ (_:Array Value),(0<=y/\xs++bG y=xs++bG y)/\∀ (x:List Int×Int),0<=x.2/\x.1++bG x.2=xs++bG y->(decide (128<=x.2)=true->(x.1.length+[(↑((IntKind.u8.wrap x.2).toNat ||| Int.toNat 128):Int)].length) * 8<=aK/\(0:Int)<=7/\7<(↑IntKind.u64.bits:Int)/\(0<=x.2 / 2 ^ Int.toNat 7/\x.1++[(↑((IntKind.u8.wrap x.2).toNat ||| Int.toNat 128):Int)]++bG (x.2 / 2 ^ Int.toNat 7)=xs++bG y)/\(x.2 / 2 ^ Int.toNat 7).toNat<x.2.toNat)/\(decide (128<=x.2)=false->(x.1.length+[IntKind.u8.wrap x.2].length) * 8<=aK/\x.1++[IntKind.u8.wrap x.2]=xs++bG y)
theorem Cc:vr:=by
 unfold vr;intro o _ n _ _ hn hp _;have hlen:=um hn;simp only [ak] at hn;refine ⟨⟨hn.1,by first | exact trivial | rfl⟩,fun ⟨o3,m⟩ ⟨m0,m1⟩=>⟨fun hmm=>?_,fun hmm=>?_⟩⟩
 ·have hmm:=tM hmm;simp only at m0 m1 hmm |-;have e1:m / 2 ^ Int.toNat 7=m / 128:=rfl;have hl3:=congrArg List.length m1;have hp:=qF m;rw [IE m0,e1];simp only [KK,HN,QQ,aK,E5] at *;refine ⟨by omega,by omega,by omega,⟨by omega,?_⟩,by omega⟩;rw [<- m1,nV (n:=m) (by omega),List.append_assoc];rfl
 ·have hmm:=uZ hmm;simp only at m0 m1 hmm |-;rw [iP (n:=m) (by omega)] at m1;have hl3:=congrArg List.length m1;rw [K1,SH m0 (by omega),m1];simp only [KK,HN,QQ,aK] at *;exact ⟨by omega,by first | exact trivial | rfl⟩
theorem GE:FZ.ok Tryz.prog 86:=O9 (ann:=Hy) ap (by kernel_rfl) Cc
def F1:BoxFn:={ T:=iA,Ts:=[],Rs:=[.dat bi],pre:=fun _ _=>True,F:=fun (r:Rd) _=>aB r }
def HA:Nat->Option LoopGen
 | 3000087=>some cY
 | 8800000003=>some { rd:=[.box 900000 iA],A:=fun (r0:Rd)=>{ cs:=[.box 900000 iA,.dat 3 bi,.dat 12 ty_I],inv:=fun ((r,n,i):Rd×Int×Int)=>r=r0/\0<=i/\i<=r0.1.length/\i<=10/\(∀ c∈r0.1.take i.toNat,128<=c.toNat)/\(i<=9->n=dk (r0.1.take i.toNat)),mu:=fun ((_,_,i):Rd×Int×Int)=>(10 - i).toNat } }
 | _=>none
def vu:Prop :=
  ∀ (x:List UInt8×Bool) (_:Unit),x.1.length<=aK/\True->True->True->∀ (_:Array Value),(x=x/\(0:Int)<=0/\0<=(x.1.length:Int)/\(0:Int)<=10/\(∀ (c:UInt8),c∈List.take (Int.toNat 0) x.1->128<=c.toNat)/\((0:Int)<=9->0=dk (List.take (Int.toNat 0) x.1)))/\∀ (x_1:(List UInt8×Bool)×Int×Int),x_1.1=x/\0<=x_1.2.2/\x_1.2.2<=(x.1.length:Int)/\x_1.2.2<=10/\(∀ (c:UInt8),c∈List.take x_1.2.2.toNat x.1->128<=c.toNat)/\(x_1.2.2<=9->x_1.2.1=dk (List.take x_1.2.2.toNat x.1))->(decide (x_1.2.2<if 10<(x.1.length:Int) then (10:Int) else (x.1.length:Int))=true->0<=x_1.2.2/\x_1.2.2<(x_1.1.1.length:Int)/\ak .i64 (7 * x_1.2.2)/\(0:Int)<=7 * x_1.2.2/\7 * x_1.2.2<(↑IntKind.u64.bits:Int)/\(decide ((↑(x_1.1.1.getD x_1.2.2.toNat (0:UInt8)).toNat:Int)<128)=true->ak .i64 (x_1.2.2+1)/\0<=x_1.2.2+1/\x_1.2.2+1<=(x_1.1.1.length:Int)/\(↑(x_1.2.1.toNat ||| (IntKind.u64.wrap ((↑((↑(x_1.1.1.getD x_1.2.2.toNat (0:UInt8)).toNat:Int).toNat &&& Int.toNat 127):Int) * 2 ^ (7 * x_1.2.2).toNat)).toNat):Int)=(aB x).1/\(List.drop (x_1.2.2+1).toNat x_1.1.1,x_1.1.2||decide ((↑(x_1.1.1.getD x_1.2.2.toNat (0:UInt8)).toNat:Int)=0)&&decide (0<x_1.2.2)||decide (x_1.2.2=9)&&decide (1<(↑(x_1.1.1.getD x_1.2.2.toNat (0:UInt8)).toNat:Int)))=(aB x).2)/\(decide ((↑(x_1.1.1.getD x_1.2.2.toNat (0:UInt8)).toNat:Int)<128)=false->ak .i64 (x_1.2.2+1)/\(x_1.1=x/\0<=x_1.2.2+1/\x_1.2.2+1<=(x.1.length:Int)/\x_1.2.2+1<=10/\(∀ (c:UInt8),c∈List.take (x_1.2.2+1).toNat x.1->128<=c.toNat)/\(x_1.2.2+1<=9->(↑(x_1.2.1.toNat ||| (IntKind.u64.wrap ((↑((↑(x_1.1.1.getD x_1.2.2.toNat (0:UInt8)).toNat:Int).toNat &&& Int.toNat 127):Int) * 2 ^ (7 * x_1.2.2).toNat)).toNat):Int)=dk (List.take (x_1.2.2+1).toNat x.1)))/\(10 - (x_1.2.2+1)).toNat<(10 - x_1.2.2).toNat))/\(decide (x_1.2.2<if 10<(x.1.length:Int) then (10:Int) else (x.1.length:Int))=false->0=(aB x).1/\(x_1.1.1,true)=(aB x).2)
theorem Ce:vu:=by
 unfold vu;intro r _ _ _ _ _;refine ⟨⟨by first | exact trivial | rfl,by omega,by omega,by omega,by simp,fun _=>by simp [dk]⟩,fun ⟨r3,n,i⟩ ⟨e0,i0,i1,i2,ha,hv⟩=>⟨fun hi=>?_,fun hi=>?_⟩⟩
 ·have hi:=tM hi;simp only at e0 i0 i1 i2 ha hv hi |-;subst e0;have hil:i<(r3.1.length:Int):=by split at hi <;> omega
  have hi9:i<=9:=by split at hi <;> omega
  have hlast:=wn i0 hil;have hval:=Cx i0 hil;obtain rfl:=hv hi9;have hor:=L5 (c:=r3.1.getD i.toNat 0) i0 hi9 hval.2.1 hval.2.2;rw [hor,<- hval.1];have hc255:=(r3.1.getD i.toNat 0).toNat_lt;simp only [ak,E5];refine ⟨i0,hil,by omega,by omega,by omega,fun hs=>?_,fun hs=>?_⟩
  ·have hs:(r3.1.getD i.toNat 0).toNat<128:=by have:=tM hs; omega
   rw [vY (Ei i0 hil hi9 ha hs)];refine ⟨by omega,by omega,by omega,rfl,?_⟩;simp only [zn,Sb];unfold Hv;rw [hlast.1,hlast.2];have b1:decide (((r3.1.getD i.toNat 0).toNat:Int)=0)=decide ((r3.1.getD i.toNat 0).toNat=0):=by apply Ry.2; simp only [QP]; omega
   have b2:decide (0<i)=decide (1<(i+1).toNat):=by apply Ry.2; simp only [QP]; omega
   have b3:decide (i=9)=decide ((i+1).toNat=10):=by apply Ry.2; simp only [QP]; omega
   have b4:decide (1<((r3.1.getD i.toNat 0).toNat:Int))=decide (1<(r3.1.getD i.toNat 0).toNat):=by apply Ry.2; simp only [QP]; omega
   rw [b1,b2,b3,b4,Bool.or_assoc]
  ·have hs:128<=(r3.1.getD i.toNat 0).toNat:=by have:=uZ hs; omega
   refine ⟨by omega,⟨by first | exact trivial | rfl,by omega,by omega,by omega,Fh i0 hil ha hs,fun h9=>?_⟩,by omega⟩;have hl2:(r3.1.take (i+1).toNat).length=(i+1).toNat:=hlast.2;have h3:=nL (r3.1.take (i+1).toNat);rw [hl2] at h3;have:=Gv (i:=i+1) (by omega) h9;exact SH (fJ _) (by omega)
 ·have hi:=uZ hi;simp only at e0 i0 i1 i2 ha hv hi |-;subst e0;have hend:i=10\/(r3.1.length:Int)<=i:=by split at hi <;> omega
  rw [vZ (IC hend ha)];exact ⟨rfl,rfl⟩
theorem vS:F1.ok Tryz.prog 87:=BT (ann:=HA) ap (by kernel_rfl) Ce
def aJ (r:Rd):Int×Rd:=if ((aB r).2.2||decide ((((aB r).2.1.length:Nat):Int)<(aB r).1))=true then (0,(aB r).2.1,true) else ((aB r).1,(aB r).2.1,false)
def Ax:BoxFn:={ T:=iA,Ts:=[],Rs:=[.dat ty_I],pre:=fun _ _=>True,F:=fun (r:Rd) _=>aJ r }
def BZ:Nat->Option LoopGen
 | 3000088=>some cY
 | _=>none
def qi:Prop :=
  ∀ (x:List UInt8×Bool) (_:Unit),x.1.length<=aK/\True->True->True->∀ (_:Array Value),True/\(((aB x).2.2||decide (IntKind.u64.wrap (↑(aB x).2.1.length:Int)<(aB x).1))=true->0=(aJ x).1/\((aB x).2.1,(aB x).2.2||decide (IntKind.u64.wrap (↑(aB x).2.1.length:Int)<(aB x).1))=(aJ x).2)/\(((aB x).2.2||decide (IntKind.u64.wrap (↑(aB x).2.1.length:Int)<(aB x).1))=false->IntKind.i64.wrap (aB x).1=(aJ x).1/\((aB x).2.1,(aB x).2.2||decide (IntKind.u64.wrap (↑(aB x).2.1.length:Int)<(aB x).1))=(aJ x).2)
theorem xp:qi:=by
 unfold qi;intro r _ ⟨hr,_⟩ _ _ _;obtain ⟨h0,h1,h2⟩:=v8 r;unfold aK at hr;have hw:IntKind.u64.wrap (((aB r).2.1.length:Nat):Int)=((aB r).2.1.length:Nat):=eY (by omega) (by omega);have hC:aJ r=if ((aB r).2.2||decide ((((aB r).2.1.length:Nat):Int)<(aB r).1))=true then (0,(aB r).2.1,true) else ((aB r).1,(aB r).2.1,false):=rfl
 rw [hw];refine ⟨trivial,fun h=>?_,fun h=>?_⟩
 ·rw [h,if_pos rfl] at hC;rw [hC,h];exact ⟨rfl,rfl⟩
 ·rw [h,if_neg (by simp)] at hC;rw [hC,h];have h:=(Rn.1 h).2;have h:=uZ h;refine ⟨?_,rfl⟩;simp only;exact jT (by omega) (by omega)
theorem A3:Ax.ok Tryz.prog 88:=BT (ann:=BZ) (pR vS ap) (by kernel_rfl) xp
end
section
abbrev PN:Ty:=.pair ty_I (.pair ty_I (.pair ty_I ty_I))
def P0 (s:ah):List Int:=[(s.1.length:Int),(s.2.1.length:Int),(s.2.2.1.length:Int),(s.2.2.2.length:Int)]
def jp (v:Int):Int:=IntKind.u64.wrap (v+1)
def kw (p:bh):List Int:=[IntKind.u64.wrap p.1,IntKind.u64.wrap p.2]
def fk (h:a6):List Int:=[IntKind.u64.wrap h.1,if h.2.1=true then 1 else 0,IntKind.u64.wrap h.2.2]
def At (s:ah):List Int:=P0 s++(s.1++(s.2.1.map jp++(s.2.2.1.flatMap kw++s.2.2.2.flatMap fk)))
def ol (s:ah):List UInt8:=aX (bq (At s))
def br (s:ah):List UInt8×Int:=if ar s≠0 then ([],ar s) else (ol s,0)
theorem dB (a b:List Int):bq (a++b)=bq a++bq b:=by simp [bq]
theorem rS (n:Int):bq [n]=bG n:=by simp [bq]
theorem uO {a r:List Int} {p:List bh} {h:List a6} (hw:∀ x∈a,ak .u64 x) (h0:ar (a,r,p,h)=0):a.length<=256/\r.length<=32/\p.length<=16/\h.length<=16/\∀ v∈r,-1<=v/\v<256:=by
 have R:=go (s:=(a,r,p,h)) hw h0;have hal:=R.al;obtain ⟨k1,k2,k3⟩:=kH R.root R.pin R.hand;refine ⟨hal,k1,k2,k3,fun v hv=>?_⟩;have:=pL (iM R.root) hv;simp only at this hal;omega
theorem NA (a r:List Int) (p:List bh) (h:List a6):ol (a,r,p,h)=aX (bq [(a.length:Int),(r.length:Int),(p.length:Int),(h.length:Int)]++bq a++bq (r.map jp)++bq (p.flatMap kw)++bq (h.flatMap fk)):=by
 have e:At (a,r,p,h)=[(a.length:Int),(r.length:Int),(p.length:Int),(h.length:Int)]++(a++(r.map jp++(p.flatMap kw++h.flatMap fk))):=rfl;unfold ol;rw [e,dB,dB,dB,dB];simp only [List.append_assoc]
theorem lM (n:Int):(bG (IntKind.u64.wrap n)).length<=10:=um (fP _ _)
def BY:Nat->Option LoopGen
 | 6=>some { rd:=[.dat 34 PN],A:=fun (g:Int×Int×Int×Int)=>{ cs:=[.own 5 5 mT,.dat 35 ty_I],inv:=fun ((out,j):List Int×Int)=>0<=j/\j<=4/\out.length<=10 * j/\out=bq ([g.1,g.2.1,g.2.2.1,g.2.2.2].take j.toNat),mu:=fun ((_,j):List Int×Int)=>(4 - j).toNat } }
 | 11=>some { rd:=[.dat 44 (.arr bi),.own 5 5 mT],A:=fun ((l,o0):List Int×List Int)=>{ cs:=[.own 5 5 mT,.dat 46 ty_I],inv:=fun ((out,i):List Int×Int)=>0<=i/\i<=l.length/\out.length<=o0.length+10 * i/\out=o0++bq (l.take i.toNat),mu:=fun ((_,i):List Int×Int)=>(l.length - i).toNat } }
 | 16=>some { rd:=[.dat 55 (.arr ty_I),.own 5 5 mT],A:=fun ((l,o0):List Int×List Int)=>{ cs:=[.own 5 5 mT,.dat 57 ty_I],inv:=fun ((out,i):List Int×Int)=>0<=i/\i<=l.length/\out.length<=o0.length+10 * i/\out=o0++bq ((l.take i.toNat).map jp),mu:=fun ((_,i):List Int×Int)=>(l.length - i).toNat } }
 | 21=>some { rd:=[.dat 68 (.arr dr),.own 5 5 mT],A:=fun ((l,o0):List bh×List Int)=>{ cs:=[.own 5 5 mT,.dat 70 ty_I],inv:=fun ((out,i):List Int×Int)=>0<=i/\i<=l.length/\out.length<=o0.length+20 * i/\out=o0++bq ((l.take i.toNat).flatMap kw),mu:=fun ((_,i):List Int×Int)=>(l.length - i).toNat } }
 | 26=>some { rd:=[.dat 85 (.arr bF),.own 5 5 mT],A:=fun ((l,o0):List a6×List Int)=>{ cs:=[.own 5 5 mT,.dat 87 ty_I],inv:=fun ((out,i):List Int×Int)=>0<=i/\i<=l.length/\out.length<=o0.length+30 * i/\out=o0++bq ((l.take i.toNat).flatMap fk),mu:=fun ((_,i):List Int×Int)=>(l.length - i).toNat } }
 | _=>none
def Aw:Spec:={ Ts:=[aH],Rs:=[.dat .str,.dat ty_I],pre:=fun _=>True,F:=br }
def qh:Prop :=
  ∀ (x:List Int×List Int×List (Int×Int)×List (Int×Bool×Int)),(oT x)->True->True/\(decide (ar x≠0)=true->([]:List UInt8)=(br x).1/\ar x=(br x).2/\True)/\(decide (ar x≠0)=false->((0:Int)<=0/\(0:Int)<=4/\(↑(0:Nat):Int)<=10 * 0/\([]:List Int)=bq (List.take (Int.toNat 0) [((x.1.length:Int),(x.2.1.length:Int),(x.2.2.1.length:Int),(x.2.2.2.length:Int)).1,((x.1.length:Int),(x.2.1.length:Int),(x.2.2.1.length:Int),(x.2.2.2.length:Int)).2.1,((x.1.length:Int),(x.2.1.length:Int),(x.2.2.1.length:Int),(x.2.2.2.length:Int)).2.2.1,((x.1.length:Int),(x.2.1.length:Int),(x.2.2.1.length:Int),(x.2.2.2.length:Int)).2.2.2]))/\∀ (x_1:List Int×Int),0<=x_1.2/\x_1.2<=4/\(x_1.1.length:Int)<=10 * x_1.2/\x_1.1=bq (List.take x_1.2.toNat [((x.1.length:Int),(x.2.1.length:Int),(x.2.2.1.length:Int),(x.2.2.2.length:Int)).1,((x.1.length:Int),(x.2.1.length:Int),(x.2.2.1.length:Int),(x.2.2.2.length:Int)).2.1,((x.1.length:Int),(x.2.1.length:Int),(x.2.2.1.length:Int),(x.2.2.2.length:Int)).2.2.1,((x.1.length:Int),(x.2.1.length:Int),(x.2.2.1.length:Int),(x.2.2.2.length:Int)).2.2.2])->(decide (x_1.2<4)=true->0<=x_1.2/\x_1.2<(↑[(x.1.length:Int),(x.2.1.length:Int),(x.2.2.1.length:Int),(x.2.2.2.length:Int)].length:Int)/\(x_1.1.length+10) * 8<=140737488355328/\ak .i64 (x_1.2+1)/\(0<=x_1.2+1/\x_1.2+1<=4/\(↑(x_1.1++bG (IntKind.u64.wrap ([(x.1.length:Int),(x.2.1.length:Int),(x.2.2.1.length:Int),(x.2.2.2.length:Int)].getD x_1.2.toNat 0))).length:Int)<=10 * (x_1.2+1)/\x_1.1++bG (IntKind.u64.wrap ([(x.1.length:Int),(x.2.1.length:Int),(x.2.2.1.length:Int),(x.2.2.2.length:Int)].getD x_1.2.toNat 0))=bq (List.take (x_1.2+1).toNat [((x.1.length:Int),(x.2.1.length:Int),(x.2.2.1.length:Int),(x.2.2.2.length:Int)).1,((x.1.length:Int),(x.2.1.length:Int),(x.2.2.1.length:Int),(x.2.2.2.length:Int)).2.1,((x.1.length:Int),(x.2.1.length:Int),(x.2.2.1.length:Int),(x.2.2.2.length:Int)).2.2.1,((x.1.length:Int),(x.2.1.length:Int),(x.2.2.1.length:Int),(x.2.2.2.length:Int)).2.2.2]))/\(4 - (x_1.2+1)).toNat<(4 - x_1.2).toNat)/\(decide (x_1.2<4)=false->((0:Int)<=0/\0<=(x.1.length:Int)/\(x_1.1.length:Int)<=(x_1.1.length:Int)+10 * 0/\x_1.1=x_1.1++bq (List.take (Int.toNat 0) x.1))/\∀ (x_2:List Int×Int),0<=x_2.2/\x_2.2<=(x.1.length:Int)/\(x_2.1.length:Int)<=(x_1.1.length:Int)+10 * x_2.2/\x_2.1=x_1.1++bq (List.take x_2.2.toNat x.1)->(decide (x_2.2<(x.1.length:Int))=true->0<=x_2.2/\x_2.2<(x.1.length:Int)/\(x_2.1.length+10) * 8<=140737488355328/\ak .i64 (x_2.2+1)/\(0<=x_2.2+1/\x_2.2+1<=(x.1.length:Int)/\(↑(x_2.1++bG (x.1.getD x_2.2.toNat 0)).length:Int)<=(x_1.1.length:Int)+10 * (x_2.2+1)/\x_2.1++bG (x.1.getD x_2.2.toNat 0)=x_1.1++bq (List.take (x_2.2+1).toNat x.1))/\((x.1.length:Int) - (x_2.2+1)).toNat<((x.1.length:Int) - x_2.2).toNat)/\(decide (x_2.2<(x.1.length:Int))=false->((0:Int)<=0/\0<=(x.2.1.length:Int)/\(x_2.1.length:Int)<=(x_2.1.length:Int)+10 * 0/\x_2.1=x_2.1++bq (List.map jp (List.take (Int.toNat 0) x.2.1)))/\∀ (x_3:List Int×Int),0<=x_3.2/\x_3.2<=(x.2.1.length:Int)/\(x_3.1.length:Int)<=(x_2.1.length:Int)+10 * x_3.2/\x_3.1=x_2.1++bq (List.map jp (List.take x_3.2.toNat x.2.1))->(decide (x_3.2<(x.2.1.length:Int))=true->0<=x_3.2/\x_3.2<(x.2.1.length:Int)/\ak .i64 (x.2.1.getD x_3.2.toNat 0+1)/\(x_3.1.length+10) * 8<=140737488355328/\ak .i64 (x_3.2+1)/\(0<=x_3.2+1/\x_3.2+1<=(x.2.1.length:Int)/\(↑(x_3.1++bG (IntKind.u64.wrap (x.2.1.getD x_3.2.toNat 0+1))).length:Int)<=(x_2.1.length:Int)+10 * (x_3.2+1)/\x_3.1++bG (IntKind.u64.wrap (x.2.1.getD x_3.2.toNat 0+1))=x_2.1++bq (List.map jp (List.take (x_3.2+1).toNat x.2.1)))/\((x.2.1.length:Int) - (x_3.2+1)).toNat<((x.2.1.length:Int) - x_3.2).toNat)/\(decide (x_3.2<(x.2.1.length:Int))=false->((0:Int)<=0/\0<=(x.2.2.1.length:Int)/\(x_3.1.length:Int)<=(x_3.1.length:Int)+20 * 0/\x_3.1=x_3.1++bq (List.flatMap kw (List.take (Int.toNat 0) x.2.2.1)))/\∀ (x_4:List Int×Int),(fun (v1:type_of% (x.2.2.1.getD x_4.2.toNat (0,0)))=>0<=x_4.2/\x_4.2<=(x.2.2.1.length:Int)/\(x_4.1.length:Int)<=(x_3.1.length:Int)+20 * x_4.2/\x_4.1=x_3.1++bq (List.flatMap kw (List.take x_4.2.toNat x.2.2.1))->(decide (x_4.2<(x.2.2.1.length:Int))=true->0<=x_4.2/\x_4.2<(x.2.2.1.length:Int)/\(x_4.1.length+10) * 8<=140737488355328/\v1.2=v1.2/\IntKind.u64.wrap v1.2=IntKind.u64.wrap v1.2/\((x_4.1++bG (IntKind.u64.wrap v1.1)).length+10) * 8<=140737488355328/\ak .i64 (x_4.2+1)/\(0<=x_4.2+1/\x_4.2+1<=(x.2.2.1.length:Int)/\(↑(x_4.1++bG (IntKind.u64.wrap v1.1)++bG (IntKind.u64.wrap v1.2)).length:Int)<=(x_3.1.length:Int)+20 * (x_4.2+1)/\x_4.1++bG (IntKind.u64.wrap v1.1)++bG (IntKind.u64.wrap v1.2)=x_3.1++bq (List.flatMap kw (List.take (x_4.2+1).toNat x.2.2.1)))/\((x.2.2.1.length:Int) - (x_4.2+1)).toNat<((x.2.2.1.length:Int) - x_4.2).toNat)/\(decide (x_4.2<(x.2.2.1.length:Int))=false->((0:Int)<=0/\0<=(x.2.2.2.length:Int)/\(x_4.1.length:Int)<=(x_4.1.length:Int)+30 * 0/\x_4.1=x_4.1++bq (List.flatMap fk (List.take (Int.toNat 0) x.2.2.2)))/\∀ (x_5:List Int×Int),(fun (v0:type_of% (x.2.2.2.getD x_5.2.toNat (0,false,0)))=>0<=x_5.2/\x_5.2<=(x.2.2.2.length:Int)/\(x_5.1.length:Int)<=(x_4.1.length:Int)+30 * x_5.2/\x_5.1=x_4.1++bq (List.flatMap fk (List.take x_5.2.toNat x.2.2.2))->(decide (x_5.2<(x.2.2.2.length:Int))=true->0<=x_5.2/\x_5.2<(x.2.2.2.length:Int)/\(v0.2.1=true->(x_5.1.length+10) * 8<=140737488355328/\((x_5.1++bG (IntKind.u64.wrap v0.1)).length+10) * 8<=140737488355328/\(1:Int)=1/\v0.2.2=v0.2.2/\v0.2.2=v0.2.2/\IntKind.u64.wrap v0.2.2=IntKind.u64.wrap v0.2.2/\IntKind.u64.wrap v0.2.2=IntKind.u64.wrap v0.2.2/\((x_5.1++bG (IntKind.u64.wrap v0.1)++bG 1).length+10) * 8<=140737488355328/\ak .i64 (x_5.2+1)/\(0<=x_5.2+1/\x_5.2+1<=(x.2.2.2.length:Int)/\(↑(x_5.1++bG (IntKind.u64.wrap v0.1)++bG 1++bG (IntKind.u64.wrap v0.2.2)).length:Int)<=(x_4.1.length:Int)+30 * (x_5.2+1)/\x_5.1++bG (IntKind.u64.wrap v0.1)++bG 1++bG (IntKind.u64.wrap v0.2.2)=x_4.1++bq (List.flatMap fk (List.take (x_5.2+1).toNat x.2.2.2)))/\((x.2.2.2.length:Int) - (x_5.2+1)).toNat<((x.2.2.2.length:Int) - x_5.2).toNat)/\(v0.2.1=false->(x_5.1.length+10) * 8<=140737488355328/\((x_5.1++bG (IntKind.u64.wrap v0.1)).length+10) * 8<=140737488355328/\(0:Int)=0/\v0.2.2=v0.2.2/\v0.2.2=v0.2.2/\IntKind.u64.wrap v0.2.2=IntKind.u64.wrap v0.2.2/\IntKind.u64.wrap v0.2.2=IntKind.u64.wrap v0.2.2/\((x_5.1++bG (IntKind.u64.wrap v0.1)++bG 0).length+10) * 8<=140737488355328/\ak .i64 (x_5.2+1)/\(0<=x_5.2+1/\x_5.2+1<=(x.2.2.2.length:Int)/\(↑(x_5.1++bG (IntKind.u64.wrap v0.1)++bG 0++bG (IntKind.u64.wrap v0.2.2)).length:Int)<=(x_4.1.length:Int)+30 * (x_5.2+1)/\x_5.1++bG (IntKind.u64.wrap v0.1)++bG 0++bG (IntKind.u64.wrap v0.2.2)=x_4.1++bq (List.flatMap fk (List.take (x_5.2+1).toNat x.2.2.2)))/\((x.2.2.2.length:Int) - (x_5.2+1)).toNat<((x.2.2.2.length:Int) - x_5.2).toNat))/\(decide (x_5.2<(x.2.2.2.length:Int))=false->aX x_5.1=(br x).1/\0=(br x).2/\True)) (x.2.2.2.getD x_5.2.toNat (0,false,0)))) (x.2.2.1.getD x_4.2.toNat (0,0))))))
theorem xo:qh:=by
 unfold qh;intro ⟨a,r,p,h⟩ ⟨⟨_,hw⟩,_⟩ _;have hF:br (a,r,p,h)=if ar (a,r,p,h)≠0 then ([],ar (a,r,p,h)) else (ol (a,r,p,h),0):=rfl
 refine ⟨trivial,fun hb=>?_,fun hb=>?_⟩
 ·rw [hF,if_pos (tM hb)];exact ⟨rfl,rfl,trivial⟩
 have h0:ar (a,r,p,h)=0:=by simpa using uZ hb
 rw [hF,if_neg (by omega),NA];simp only at hw;obtain ⟨la,lr,lp,lh,hroot⟩:=uO hw h0;simp only;clear hF hb h0;have h4:([(a.length:Int),(r.length:Int),(p.length:Int),(h.length:Int)]:List Int).length=4:=rfl
 have hin4:∀ x∈([(a.length:Int),(r.length:Int),(p.length:Int),(h.length:Int)]:List Int),0<=x/\x<=256:=fun x hx=>by
  simp only [Qs,RV,Td] at hx;omega
 generalize ([(a.length:Int),(r.length:Int),(p.length:Int),(h.length:Int)]:List Int)=L4 at *;refine ⟨⟨by omega,by omega,by omega,by simp [bq]⟩,fun ⟨o1,j⟩ ⟨j0,j1,j2,j3⟩=>⟨fun hj=>?_,fun hj=>?_⟩⟩
 ·have hj:=tM hj;simp only at j0 j1 j2 j3 hj |-;have hjl:j<(L4.length:Int):=by omega
  have hm:=hin4 _ (aI (0:Int) j0 hjl);rw [a8 (0:Int) j0 hjl,dB,rS,<- j3];generalize L4.getD j.toNat 0=n at *;have hl:=lM n;rw [eY hm.1 (by omega)] at hl |-;simp only [ak,KK];exact ⟨j0,hjl,by omega,by omega,⟨by omega,by omega,by omega,trivial⟩,by omega⟩
 have hj:=uZ hj;simp only at j0 j1 j2 j3 hj |-;rw [QG (by omega)] at j3;rw [<- j3];have l1:o1.length<=40:=by omega
 clear j0 j1 j2 j3 hj;refine ⟨⟨by omega,by omega,by omega,by simp [bq]⟩,fun ⟨o2,i⟩ ⟨i0,i1,i2,i3⟩=>⟨fun hi=>?_,fun hi=>?_⟩⟩
 ·have hi:=tM hi;simp only at i0 i1 i2 i3 hi |-;have hm:=hw _ (aI (0:Int) i0 hi);rw [a8 (0:Int) i0 hi,dB,rS,<- List.append_assoc,<- i3];generalize a.getD i.toNat 0=n at *;have hl:=um hm;simp only [ak,KK];exact ⟨i0,hi,by omega,by omega,⟨by omega,by omega,by omega,trivial⟩,by omega⟩
 have hi:=uZ hi;simp only at i0 i1 i2 i3 hi |-;rw [bT hi] at i3;rw [<- i3];have l2:o2.length<=3000:=by omega
 clear i0 i1 i2 i3 hi;refine ⟨⟨by omega,by omega,by omega,by simp [bq]⟩,fun ⟨o3,i⟩ ⟨i0,i1,i2,i3⟩=>⟨fun hi=>?_,fun hi=>?_⟩⟩
 ·have hi:=tM hi;simp only at i0 i1 i2 i3 hi |-;have hm:=hroot _ (aI (0:Int) i0 hi);rw [a8 (0:Int) i0 hi,Rg,Q1,RR,dB,rS,<- List.append_assoc,<- i3];generalize r.getD i.toNat 0=n at *;have hl:=lM (n+1);simp only [ak,KK,jp];exact ⟨i0,hi,by omega,by omega,by omega,⟨by omega,by omega,by omega,trivial⟩,by omega⟩
 have hi:=uZ hi;simp only at i0 i1 i2 i3 hi |-;rw [bT hi] at i3;rw [<- i3];have l3:o3.length<=4000:=by omega
 clear i0 i1 i2 i3 hi;refine ⟨⟨by omega,by omega,by omega,by simp [bq]⟩,fun ⟨o4,i⟩ ⟨i0,i1,i2,i3⟩=>⟨fun hi=>?_,fun hi=>?_⟩⟩
 ·have hi:=tM hi;simp only at i0 i1 i2 i3 hi |-;have e2:∀ x:bh,bq (kw x)=bG (IntKind.u64.wrap x.1)++bG (IntKind.u64.wrap x.2):=fun x=>by simp [bq,kw]
  rw [a8 ((0,0):bh) i0 hi,Sx,Q7,SX,Q8,dB,e2,<- List.append_assoc,<- List.append_assoc,<- i3];generalize p.getD i.toNat (0,0)=x at *;have hl1:=lM x.1;have hl2:=lM x.2;simp only [ak,KK];exact ⟨i0,hi,by omega,trivial,trivial,by omega,by omega,⟨by omega,by omega,by omega,trivial⟩,by omega⟩
 have hi:=uZ hi;simp only at i0 i1 i2 i3 hi |-;rw [bT hi] at i3;rw [<- i3];have l4:o4.length<=5000:=by omega
 clear i0 i1 i2 i3 hi;refine ⟨⟨by omega,by omega,by omega,by simp [bq]⟩,fun ⟨o5,i⟩ ⟨i0,i1,i2,i3⟩=>⟨fun hi=>?_,fun hi=>?_⟩⟩
 ·have hi:=tM hi;simp only at i0 i1 i2 i3 hi |-;have e2:∀ x:a6,bq (fk x)=bG (IntKind.u64.wrap x.1)++bG (if x.2.1=true then 1 else 0)++bG (IntKind.u64.wrap x.2.2):=fun x=>by simp [bq,fk]
  rw [a8 ((0,false,0):a6) i0 hi,Sx,Q7,SX,Q8,dB,e2,<- List.append_assoc,<- List.append_assoc,<- i3];generalize h.getD i.toNat (0,false,0)=x at *;have hl1:=lM x.1;have hl2:=lM x.2.2;have hl3:(bG 1).length=1:=by rw [iP (by omega)]; rfl
  have hl4:(bG 0).length=1:=by rw [iP (by omega)]; rfl
  simp only [ak,KK];refine ⟨i0,hi,fun hx=>?_,fun hx=>?_⟩
  ·rw [if_pos hx];simp only [hl3,<- List.append_assoc];exact ⟨by omega,by omega,trivial,trivial,trivial,trivial,trivial,by omega,by omega,⟨by omega,by omega,by omega,trivial⟩,by omega⟩
  ·rw [if_neg (by rw [hx]; simp)];simp only [hl4,<- List.append_assoc];exact ⟨by omega,by omega,trivial,trivial,trivial,trivial,trivial,by omega,by omega,⟨by omega,by omega,by omega,trivial⟩,by omega⟩
 ·have hi:=uZ hi;simp only at i0 i1 i2 i3 hi |-;rw [bT hi] at i3;rw [<- i3];exact ⟨by first | exact trivial | rfl,by first | exact trivial | rfl,trivial⟩
theorem A2:Aw.ok Tryz.prog 26:=aD (ann:=BY) (ae eA (kF GE ap)) Tryz.func26 (by kernel_rfl) xo
end
section
def sJ (v:Int):Int:=IntKind.i64.wrap (IntKind.i64.wrap v - 1)
def dA:Nat->Rd->List bh×Rd
 | 0,r=>([],r)
 | k+1,r=>((dA k r).1++[(IntKind.i64.wrap (aB (dA k r).2).1,IntKind.i64.wrap (aB (aB (dA k r).2).2).1)],(aB (aB (dA k r).2).2).2)
def cn:Nat->Rd->List a6×Rd
 | 0,r=>([],r)
 | k+1,r=>((cn k r).1++[(IntKind.i64.wrap (aB (cn k r).2).1,decide ((aB (aB (cn k r).2).2).1=1),IntKind.i64.wrap (aB (aB (aB (cn k r).2).2).2).1)],
   ((aB (aB (aB (cn k r).2).2).2).2.1,(aB (aB (aB (cn k r).2).2).2).2.2||decide (1<(aB (aB (cn k r).2).2).1)))
def lX (b:List UInt8):(Int×Int×Int×Int)×Rd :=
 (((aJ (b,false)).1,(aJ (aJ (b,false)).2).1,(aJ (aJ (aJ (b,false)).2).2).1,(aJ (aJ (aJ (aJ (b,false)).2).2).2).1),(aJ (aJ (aJ (aJ (b,false)).2).2).2).2)
def nG (b:List UInt8):ah×Rd :=
 (((aZ (lX b).1.1.toNat (lX b).2).1,
  (aZ (lX b).1.2.1.toNat (aZ (lX b).1.1.toNat (lX b).2).2).1.map sJ,
  (dA (lX b).1.2.2.1.toNat (aZ (lX b).1.2.1.toNat (aZ (lX b).1.1.toNat (lX b).2).2).2).1,
  (cn (lX b).1.2.2.2.toNat (dA (lX b).1.2.2.1.toNat (aZ (lX b).1.2.1.toNat (aZ (lX b).1.1.toNat (lX b).2).2).2).2).1),
  (cn (lX b).1.2.2.2.toNat (dA (lX b).1.2.2.1.toNat (aZ (lX b).1.2.1.toNat (aZ (lX b).1.1.toNat (lX b).2).2).2).2).2)
def c7 (b:List UInt8):ah×Int:=if ((nG b).2.2||decide ((nG b).2.1≠[])||decide (ar (nG b).1≠0))=true then (([],[],[],[]),3) else ((nG b).1,0)
theorem rm (r:Rd):0<=(aJ r).1/\(aJ r).1<=(r.1.length:Int)/\(aJ r).2.1.length<=r.1.length:=by
 obtain ⟨h0,h1,h2⟩:=v8 r;unfold aJ;split
 ·exact ⟨by simp only; omega,by simp only; omega,h2⟩
 ·rename_i h;have h:((aB r).2.2||decide ((((aB r).2.1.length:Nat):Int)<(aB r).1))=false:=by simpa using h
  have h:=uZ (Rn.1 h).2;exact ⟨h0,by simp only; omega,h2⟩
theorem oC:∀ (k:Nat) (r:Rd),(dA k r).1.length=k
 | 0,_=>rfl
 | k+1,r=>by rw [dA,KK,oC k r]; rfl
theorem m7:∀ (k:Nat) (r:Rd),(cn k r).1.length=k
 | 0,_=>rfl
 | k+1,r=>by rw [cn,KK,m7 k r]; rfl
def sy:Nat->Option LoopGen
 | 2000000=>some cY
 | 4000006=>some cY
 | 4000010=>some cY
 | 4000014=>some cY
 | 5=>some { rd:=[.dat 24 ty_I,.box 15 iA],A:=fun ((n,r0):Int×Rd)=>{ cs:=[.box 15 iA,.boxS 9 [.own 45 bi,.own 3 ty_I,.own 157 dr,.own 135 bF],.dat 25 ty_I],inv:=fun ((r,s,i):Rd×ah×Int)=>0<=i/\i<=n/\r=(aZ i.toNat r0).2/\s=((aZ i.toNat r0).1,[],[],[]),mu:=fun ((_,_,i):Rd×ah×Int)=>(n - i).toNat } }
 | 9=>some { rd:=[.dat 35 ty_I,.box 15 iA,.boxS 9 [.own 45 bi,.own 3 ty_I,.own 157 dr,.own 135 bF]],A:=fun ((n,r0,s0):Int×Rd×ah)=>{ cs:=[.box 15 iA,.boxS 9 [.own 45 bi,.own 3 ty_I,.own 157 dr,.own 135 bF],.dat 36 ty_I],inv:=fun ((r,s,i):Rd×ah×Int)=>0<=i/\i<=n/\r=(aZ i.toNat r0).2/\s=(s0.1,(aZ i.toNat r0).1.map sJ,[],[]),mu:=fun ((_,_,i):Rd×ah×Int)=>(n - i).toNat } }
 | 13=>some { rd:=[.dat 48 ty_I,.box 15 iA,.boxS 9 [.own 45 bi,.own 3 ty_I,.own 157 dr,.own 135 bF]],A:=fun ((n,r0,s0):Int×Rd×ah)=>{ cs:=[.box 15 iA,.boxS 9 [.own 45 bi,.own 3 ty_I,.own 157 dr,.own 135 bF],.dat 49 ty_I],inv:=fun ((r,s,i):Rd×ah×Int)=>0<=i/\i<=n/\r=(dA i.toNat r0).2/\s=(s0.1,s0.2.1,(dA i.toNat r0).1,[]),mu:=fun ((_,_,i):Rd×ah×Int)=>(n - i).toNat } }
 | 17=>some { rd:=[.dat 64 ty_I,.box 15 iA,.boxS 9 [.own 45 bi,.own 3 ty_I,.own 157 dr,.own 135 bF]],A:=fun ((n,r0,s0):Int×Rd×ah)=>{ cs:=[.box 15 iA,.boxS 9 [.own 45 bi,.own 3 ty_I,.own 157 dr,.own 135 bF],.dat 65 ty_I],inv:=fun ((r,s,i):Rd×ah×Int)=>0<=i/\i<=n/\r=(cn i.toNat r0).2/\s=(s0.1,s0.2.1,s0.2.2.1,(cn i.toNat r0).1),mu:=fun ((_,_,i):Rd×ah×Int)=>(n - i).toNat } }
 | _=>none
def rD:Spec:={ Ts:=[.str],Rs:=[.dat aH,.dat ty_I],al:=true,pre:=fun (b:List UInt8)=>b.length<=20000,F:=c7 }
def lJ:Prop :=
  ∀ (x:List UInt8),(fun (v1:type_of% (aJ (aJ (x,false)).2))=>(fun (v0:type_of% (aJ v1.2))=>x.length<=aK->x.length<=20000->True/\True/\True/\True/\((0:Int)<=0/\0<=(aJ (x,false)).1/\(aJ v0.2).2=(aZ (Int.toNat 0) (aJ v0.2).2).2/\(([]:List Int),([]:List Int),([]:List (Int×Int)),([]:List (Int×Bool×Int)))=((aZ (Int.toNat 0) (aJ v0.2).2).1,([]:List Int),([]:List bh),([]:List a6)))/\∀ (x_1:(List UInt8×Bool)×(List Int×List Int×List (Int×Int)×List (Int×Bool×Int))×Int),0<=x_1.2.2/\x_1.2.2<=(aJ (x,false)).1/\x_1.1=(aZ x_1.2.2.toNat (aJ v0.2).2).2/\x_1.2.1=((aZ x_1.2.2.toNat (aJ v0.2).2).1,([]:List Int),([]:List bh),([]:List a6))->(decide (x_1.2.2<(aJ (x,false)).1)=true->True/\(x_1.2.1.1.length+[(aB x_1.1).1].length) * 8<=aK/\(0<=IntKind.i64.wrap (x_1.2.2+1)/\IntKind.i64.wrap (x_1.2.2+1)<=(aJ (x,false)).1/\(aB x_1.1).2=(aZ (IntKind.i64.wrap (x_1.2.2+1)).toNat (aJ v0.2).2).2/\(x_1.2.1.1++[(aB x_1.1).1],x_1.2.1.2)=((aZ (IntKind.i64.wrap (x_1.2.2+1)).toNat (aJ v0.2).2).1,([]:List Int),([]:List bh),([]:List a6)))/\((aJ (x,false)).1 - IntKind.i64.wrap (x_1.2.2+1)).toNat<((aJ (x,false)).1 - x_1.2.2).toNat)/\(decide (x_1.2.2<(aJ (x,false)).1)=false->((0:Int)<=0/\0<=v1.1/\x_1.1=(aZ (Int.toNat 0) x_1.1).2/\x_1.2.1=(x_1.2.1.1,List.map sJ (aZ (Int.toNat 0) x_1.1).1,([]:List bh),([]:List a6)))/\∀ (x_2:(List UInt8×Bool)×(List Int×List Int×List (Int×Int)×List (Int×Bool×Int))×Int),0<=x_2.2.2/\x_2.2.2<=v1.1/\x_2.1=(aZ x_2.2.2.toNat x_1.1).2/\x_2.2.1=(x_1.2.1.1,List.map sJ (aZ x_2.2.2.toNat x_1.1).1,([]:List bh),([]:List a6))->(decide (x_2.2.2<v1.1)=true->True/\(x_2.2.1.2.1.length+[IntKind.i64.wrap (IntKind.i64.wrap (aB x_2.1).1 - 1)].length) * 8<=aK/\(0<=IntKind.i64.wrap (x_2.2.2+1)/\IntKind.i64.wrap (x_2.2.2+1)<=v1.1/\(aB x_2.1).2=(aZ (IntKind.i64.wrap (x_2.2.2+1)).toNat x_1.1).2/\(x_2.2.1.1,x_2.2.1.2.1++[IntKind.i64.wrap (IntKind.i64.wrap (aB x_2.1).1 - 1)],x_2.2.1.2.2)=(x_1.2.1.1,List.map sJ (aZ (IntKind.i64.wrap (x_2.2.2+1)).toNat x_1.1).1,([]:List bh),([]:List a6)))/\(v1.1 - IntKind.i64.wrap (x_2.2.2+1)).toNat<(v1.1 - x_2.2.2).toNat)/\(decide (x_2.2.2<v1.1)=false->((0:Int)<=0/\0<=v0.1/\x_2.1=(dA (Int.toNat 0) x_2.1).2/\x_2.2.1=(x_2.2.1.1,x_2.2.1.2.1,(dA (Int.toNat 0) x_2.1).1,([]:List a6)))/\∀ (x_3:(List UInt8×Bool)×(List Int×List Int×List (Int×Int)×List (Int×Bool×Int))×Int),0<=x_3.2.2/\x_3.2.2<=v0.1/\x_3.1=(dA x_3.2.2.toNat x_2.1).2/\x_3.2.1=(x_2.2.1.1,x_2.2.1.2.1,(dA x_3.2.2.toNat x_2.1).1,([]:List a6))->(decide (x_3.2.2<v0.1)=true->True/\True/\IntKind.i64.wrap (aB x_3.1).1=IntKind.i64.wrap (aB x_3.1).1/\(x_3.2.1.2.2.1.length+[(IntKind.i64.wrap (aB x_3.1).1,IntKind.i64.wrap (aB (aB x_3.1).2).1)].length) * (8+8)<=aK/\(0<=IntKind.i64.wrap (x_3.2.2+1)/\IntKind.i64.wrap (x_3.2.2+1)<=v0.1/\(aB (aB x_3.1).2).2=(dA (IntKind.i64.wrap (x_3.2.2+1)).toNat x_2.1).2/\(x_3.2.1.1,x_3.2.1.2.1,x_3.2.1.2.2.1++[(IntKind.i64.wrap (aB x_3.1).1,IntKind.i64.wrap (aB (aB x_3.1).2).1)],x_3.2.1.2.2.2)=(x_2.2.1.1,x_2.2.1.2.1,(dA (IntKind.i64.wrap (x_3.2.2+1)).toNat x_2.1).1,([]:List a6)))/\(v0.1 - IntKind.i64.wrap (x_3.2.2+1)).toNat<(v0.1 - x_3.2.2).toNat)/\(decide (x_3.2.2<v0.1)=false->((0:Int)<=0/\0<=(aJ v0.2).1/\x_3.1=(cn (Int.toNat 0) x_3.1).2/\x_3.2.1=(x_3.2.1.1,x_3.2.1.2.1,x_3.2.1.2.2.1,(cn (Int.toNat 0) x_3.1).1))/\∀ (x_4:(List UInt8×Bool)×(List Int×List Int×List (Int×Int)×List (Int×Bool×Int))×Int),(fun (v2:type_of% (aB (aB x_4.1).2))=>0<=x_4.2.2/\x_4.2.2<=(aJ v0.2).1/\x_4.1=(cn x_4.2.2.toNat x_3.1).2/\x_4.2.1=(x_3.2.1.1,x_3.2.1.2.1,x_3.2.1.2.2.1,(cn x_4.2.2.toNat x_3.1).1)->(decide (x_4.2.2<(aJ v0.2).1)=true->True/\True/\True/\(x_4.2.1.2.2.2.length+[(IntKind.i64.wrap (aB x_4.1).1,decide (v2.1=1),IntKind.i64.wrap (aB v2.2).1)].length) * (8+(8+8))<=aK/\(0<=IntKind.i64.wrap (x_4.2.2+1)/\IntKind.i64.wrap (x_4.2.2+1)<=(aJ v0.2).1/\((aB v2.2).2.1,(aB v2.2).2.2||decide (1<v2.1))=(cn (IntKind.i64.wrap (x_4.2.2+1)).toNat x_3.1).2/\(x_4.2.1.1,x_4.2.1.2.1,x_4.2.1.2.2.1,x_4.2.1.2.2.2++[(IntKind.i64.wrap (aB x_4.1).1,decide (v2.1=1),IntKind.i64.wrap (aB v2.2).1)])=(x_3.2.1.1,x_3.2.1.2.1,x_3.2.1.2.2.1,(cn (IntKind.i64.wrap (x_4.2.2+1)).toNat x_3.1).1))/\((aJ v0.2).1 - IntKind.i64.wrap (x_4.2.2+1)).toNat<((aJ v0.2).1 - x_4.2.2).toNat)/\(decide (x_4.2.2<(aJ v0.2).1)=false->((x_4.1.2||decide (x_4.1.1≠([]:List UInt8)))=false->True)/\((x_4.1.2||decide (x_4.1.1≠([]:List UInt8))||decide (ar x_4.2.1≠0))=true->(([]:List Int),([]:List Int),([]:List (Int×Int)),([]:List (Int×Bool×Int)))=(c7 x).1/\3=(c7 x).2/\True)/\((x_4.1.2||decide (x_4.1.1≠([]:List UInt8))||decide (ar x_4.2.1≠0))=false->x_4.2.1=(c7 x).1/\0=(c7 x).2/\True))) (aB (aB x_4.1).2))))) (aJ v1.2)) (aJ (aJ (x,false)).2)
theorem pN:lJ:=by
 unfold lJ;intro b _ hb;have hF:c7 b=if ((nG b).2.2||decide ((nG b).2.1≠[])||decide (ar (nG b).1≠0))=true then (([],[],[],[]),3) else ((nG b).1,0):=rfl
 have c1:=rm (b,false);have c2:=rm (aJ (b,false)).2;have c3:=rm (aJ (aJ (b,false)).2).2;have c4:=rm (aJ (aJ (aJ (b,false)).2).2).2;have m1:(aJ (b,false)).1<=20000:=by have:=c1.2.1; simp only at this; omega
 have m2:(aJ (aJ (b,false)).2).1<=20000:=by have:=c1.2.2; simp only at this; omega
 have m3:(aJ (aJ (aJ (b,false)).2).2).1<=20000:=by have:=c1.2.2; simp only at this; omega
 have m4:(aJ (aJ (aJ (aJ (b,false)).2).2).2).1<=20000:=by have:=c1.2.2; simp only at this; omega
 have hw:∀ i:Int,0<=i->i<20000->IntKind.i64.wrap (i+1)=i+1:=fun i h1 h2=>jT (by omega) (by omega)
 have hs:∀ i:Int,0<=i->(i+1).toNat=i.toNat+1:=fun i h=>by omega
 refine ⟨trivial,trivial,trivial,trivial,⟨by omega,c1.1,rfl,rfl⟩,fun ⟨r1,s1,i⟩ ⟨i0,i1,i2,i3⟩=>⟨fun hi=>?_,fun hi=>?_⟩⟩
 ·have hi:=tM hi;simp only at i0 i1 i2 i3 hi |-;subst i2 i3;rw [hw i i0 (by omega),hs i i0];have hl:=jx i.toNat (aJ (aJ (aJ (aJ (b,false)).2).2).2).2;simp only [hl,Rv,aK];exact ⟨trivial,by omega,⟨by omega,by omega,rfl,rfl⟩,by omega⟩
 have hi:=uZ hi;simp only at i0 i1 i2 i3 hi |-;obtain rfl:i=(aJ (b,false)).1:=by omega
 have e1:=i2;have e2:=i3;clear i0 i1 i2 i3 hi;refine ⟨⟨by omega,c2.1,rfl,by rw [e2]; rfl⟩,fun ⟨r2,s2,i⟩ ⟨i0,i1,i2,i3⟩=>⟨fun hi=>?_,fun hi=>?_⟩⟩
 ·have hi:=tM hi;simp only at i0 i1 i2 i3 hi |-;subst i2 i3;rw [hw i i0 (by omega),hs i i0];have hl:=jx i.toNat r1;simp only [hl,Q3,Rv,aK];refine ⟨trivial,by omega,⟨by omega,by omega,rfl,?_⟩,by omega⟩;rw [aZ,Rg];rfl
 have hi:=uZ hi;simp only at i0 i1 i2 i3 hi |-;obtain rfl:i=(aJ (aJ (b,false)).2).1:=by omega
 have e3:=i2;have e4:=i3;clear i0 i1 i2 i3 hi;refine ⟨⟨by omega,c3.1,rfl,by rw [e4]; rfl⟩,fun ⟨r3,s3,i⟩ ⟨i0,i1,i2,i3⟩=>⟨fun hi=>?_,fun hi=>?_⟩⟩
 ·have hi:=tM hi;simp only at i0 i1 i2 i3 hi |-;subst i2 i3;rw [hw i i0 (by omega),hs i i0];have hl:=oC i.toNat r2;simp only [hl,Rv,aK];exact ⟨trivial,trivial,trivial,by omega,⟨by omega,by omega,rfl,rfl⟩,by omega⟩
 have hi:=uZ hi;simp only at i0 i1 i2 i3 hi |-;obtain rfl:i=(aJ (aJ (aJ (b,false)).2).2).1:=by omega
 have e5:=i2;have e6:=i3;clear i0 i1 i2 i3 hi;refine ⟨⟨by omega,c4.1,rfl,by rw [e6]; rfl⟩,fun ⟨r4,s4,i⟩ ⟨i0,i1,i2,i3⟩=>⟨fun hi=>?_,fun hi=>?_⟩⟩
 ·have hi:=tM hi;simp only at i0 i1 i2 i3 hi |-;subst i2 i3;rw [hw i i0 (by omega),hs i i0];have hl:=m7 i.toNat r3;simp only [hl,Rv,aK];exact ⟨trivial,trivial,trivial,by omega,⟨by omega,by omega,rfl,rfl⟩,by omega⟩
 have hi:=uZ hi;simp only at i0 i1 i2 i3 hi |-;obtain rfl:i=(aJ (aJ (aJ (aJ (b,false)).2).2).2).1:=by omega
 have hA:nG b=(s4,r4):=by
  rw [i3,e6,e4,e2,i2,e5,e3,e1];rfl
 rw [hA] at hF;simp only at hF;rw [hF];refine ⟨fun _=>trivial,fun h=>?_,fun h=>?_⟩
 ·rw [if_pos h];exact ⟨rfl,by first | exact trivial | rfl,trivial⟩
 ·rw [if_neg (by rw [h]; simp)];exact ⟨rfl,by first | exact trivial | rfl,trivial⟩
theorem rP:rD.ok Tryz.prog 27:=aD (ann:=sy) (ae eA (pR vS (pR A3 ap))) Tryz.func27 (by kernel_rfl) pN
end
section
def tl (l:List Int) (k:Nat):List bh:=(List.range k).map fun j=>(IntKind.i64.wrap (l.getD (2 * j) 0),IntKind.i64.wrap (l.getD (2 * j+1) 0))
def m8 (l:List Int) (k:Nat):List a6:=(List.range k).map fun j=>(IntKind.i64.wrap (l.getD (3 * j) 0),decide (l.getD (3 * j+1) 0=1),IntKind.i64.wrap (l.getD (3 * j+2) 0))
theorem Gz (l:List Int) (k:Nat):tl l (k+1)=tl l k++[(IntKind.i64.wrap (l.getD (2 * k) 0),IntKind.i64.wrap (l.getD (2 * k+1) 0))]:=by
 simp [tl,List.range_succ]
theorem Dj (l:List Int) (k:Nat):m8 l (k+1)=m8 l k++[(IntKind.i64.wrap (l.getD (3 * k) 0),decide (l.getD (3 * k+1) 0=1),IntKind.i64.wrap (l.getD (3 * k+2) 0))]:=by
 simp [m8,List.range_succ]
end
section
def nH (l:List Int) (r:Rd):Prop:=r.2=false/\gj r.1=some l
theorem LS {r:Rd} (h:r.2=false):r=(r.1,false):=by
 obtain ⟨s,b⟩:=r;simp only at h;rw [h]
theorem lN {v:Int} {l:List Int} {r:Rd} (h:nH (v::l) r):(aB r).1=v/\nH l (aB r).2:=by
 have hs:r.1≠[]:=fun e=>by
  have h2:=h.2;rw [e,jM] at h2;cases h2
 have h2:=h.2;rw [LS h.1];cases hn:(pK r.1).2.2
 ·rw [jN hs hn] at h2; cases h2
 ·rw [je hs hn] at h2;obtain ⟨l',h3,e⟩:=Dm.1 h2;injection e with e1 e2
  subst e1 e2;rw [(wb hn).1];exact ⟨rfl,rfl,h3⟩
theorem MF {l:List Int} {r:Rd} (h:nH l r):l.length<=r.1.length/\∀ x∈l,0<=x/\x<18446744073709551616:=zh r.1.length r.1 l (QI _) h.2
theorem ME {r:Rd} (h:nH [] r):r=([],false):=by
 have hs:r.1=[]:=by
  apply Rc;intro hs;have h2:=h.2;cases hn:(pK r.1).2.2
  ·rw [jN hs hn] at h2; cases h2
  ·rw [je hs hn] at h2;obtain ⟨l',_,e⟩:=Dm.1 h2;cases e
 rw [LS h.1,hs]
theorem Hp {v:Int} {l:List Int} {r:Rd} (h:nH (v::l) r) (hv:v<=((aB r).2.1.length:Int)):(aJ r).1=v/\nH l (aJ r).2:=by
 obtain ⟨h1,h2⟩:=lN h;unfold aJ;rw [if_neg]
 ·exact ⟨h1,rfl,h2.2⟩
 ·rw [h1,h2.1,Rz (by omega)];simp
theorem od {l:List Int} {k:Nat} (h:k<l.length):l.drop k=l.getD k 0::l.drop (k+1):=by
 rw [Rq h];simp [h]
theorem pc {l:List Int} {r:Rd} (h:nH l r):∀ k,k<=l.length->(aZ k r).1=l.take k/\nH (l.drop k) (aZ k r).2
 | 0,_=>⟨by simp [aZ],by simpa [aZ] using h⟩
 | k+1,hk=>by
  obtain ⟨h1,h2⟩:=pc h k (by omega);rw [od (by omega)] at h2;obtain ⟨h3,h4⟩:=lN h2;refine ⟨?_,h4⟩;show (aZ k r).1++[(aB (aZ k r).2).1]=_;rw [h1,h3,Q4 (by omega)];simp [show k<l.length by omega]
theorem Cz {l:List Int} {k:Nat} {r:Rd} (h:nH (l.drop k) r) (hk:k+2<=l.length):(aB r).1=l.getD k 0/\(aB (aB r).2).1=l.getD (k+1) 0/\nH (l.drop (k+2)) (aB (aB r).2).2:=by
 rw [od (by omega)] at h;obtain ⟨h1,h2⟩:=lN h;rw [od (by omega)] at h2;obtain ⟨h3,h4⟩:=lN h2;exact ⟨h1,h3,h4⟩
theorem za {l:List Int} {r:Rd} (h:nH l r):∀ k,2 * k<=l.length->(dA k r).1=tl l k/\nH (l.drop (2 * k)) (dA k r).2
 | 0,_=>⟨by simp [dA,tl],by simpa [dA] using h⟩
 | k+1,hk=>by
  obtain ⟨h1,h2⟩:=za h k (by omega);obtain ⟨h3,h4,h5⟩:=Cz h2 (by omega);refine ⟨?_,h5⟩;show (dA k r).1++[(IntKind.i64.wrap (aB (dA k r).2).1,IntKind.i64.wrap (aB (aB (dA k r).2).2).1)]=_;rw [h1,h3,h4,Gz]
def GA (l:List Int) (k:Nat):Prop:=∀ j,j<k->l.getD (3 * j+1) 0<=1
theorem uT {l:List Int} {r:Rd} (h:nH l r):∀ k,3 * k<=l.length->GA l k->(cn k r).1=m8 l k/\nH (l.drop (3 * k)) (cn k r).2
 | 0,_,_=>⟨by simp [cn,m8],by simpa [cn] using h⟩
 | k+1,hk,ho=>by
  obtain ⟨h1,h2⟩:=uT h k (by omega) (fun j hj=>ho j (by omega));obtain ⟨h3,h4,h5⟩:=Cz h2 (by omega);rw [od (by omega)] at h5;obtain ⟨h6,h7⟩:=lN h5;have hop:=ho k (by omega);refine ⟨?_,?_,h7.2⟩
  ·show (cn k r).1++[(IntKind.i64.wrap (aB (cn k r).2).1,decide ((aB (aB (cn k r).2).2).1=1),IntKind.i64.wrap (aB (aB (aB (cn k r).2).2).2).1)]=_;rw [h1,h3,h4,h6,Dj]
  ·show (_||decide (1<(aB (aB (cn k r).2).2).1))=false;rw [h7.1,h4,Rz (by omega)];rfl
def Pj (w r p h:Nat) (l:List Int):ah:=(l.take w,((l.drop w).take r).map sJ,tl ((l.drop w).drop r) p,m8 (((l.drop w).drop r).drop (2 * p)) h)
end
section
theorem wrap_i64 {x:Int} (h0:0<=x) (h1:x<18446744073709551616):IntKind.i64.wrap x=if x<9223372036854775808 then x else x - 18446744073709551616:=by
 by_cases h:x<9223372036854775808
 ·rw [if_pos h];exact jT (by omega) (by omega)
 ·rw [if_neg h];simp only [IntKind.wrap,IntKind.bits,IntKind.signed];simp;omega
structure Told (b:List UInt8) (a c d e:Int) (L:List Int):Prop where
 nums:gj b=some (a::c::d::e::L)
 inn:∀ x∈a::c::d::e::L,0<=x/\x<18446744073709551616
 sum:L.length=a.toNat+c.toNat+2 * d.toNat+3 * e.toNat
 ops:GA (((L.drop a.toNat).drop c.toNat).drop (2 * d.toNat)) e.toNat
theorem JM {b:List UInt8} {a c d e:Int} {L:List Int} (T:Told b a c d e L):nG b=(Pj a.toNat c.toNat d.toNat e.toNat L,([],false)):=by
 have g0:nH (a::c::d::e::L) (b,false):=⟨rfl,T.nums⟩;have hs:=T.sum;have p0:=T.inn a (by simp);have p1:=T.inn c (by simp);have p2:=T.inn d (by simp);have p3:=T.inn e (by simp)
 have xc:∀ {v:Int} {l:List Int} {r:Rd},nH (v::l) r->v<=(l.length:Int)->(aJ r).1=v/\nH l (aJ r).2:=fun h hv=>by
  have:=(MF (lN h).2).1;exact Hp h (by omega)
 obtain ⟨v0,g1⟩:=xc g0 (by simp only [HN]; omega);obtain ⟨v1,g2⟩:=xc g1 (by simp only [HN]; omega);obtain ⟨v2,g3⟩:=xc g2 (by simp only [HN]; omega);obtain ⟨v3,g4⟩:=xc g3 (by omega);obtain ⟨w0,g5⟩:=pc g4 a.toNat (by omega);obtain ⟨w1,g6⟩:=pc g5 c.toNat (by rw [QH]; omega);obtain ⟨w2,g7⟩:=za g6 d.toNat (by rw [QH,QH]; omega);obtain ⟨w3,g8⟩:=uT g7 e.toNat (by rw [QH,QH,QH]; omega) T.ops;rw [QX (by rw [QH,QH,QH]; omega)] at g8;have hn:=ME g8;unfold nG lX;simp only [v0,v1,v2,v3];rw [w0,w1,w2,w3,hn];rfl
end
section
theorem IB:∀ (d:Nat) (n:Int) (q:List UInt8),0<=n->n<128 ^ (d+1)->jK (d+1) (aX (bG n)++q)=some (aX (bG n),q)/\dk (aX (bG n))=n
 | d,n,q,h0,h1=>by
  by_cases e:n<128
  ·rw [iP e]
   have hb:(UInt8.ofNat n.toNat).toNat=n.toNat:=by
    rw [UInt8.toNat_ofNat'];omega
   simp only [aX,Q1,RR,Rf,Q0,jK,dk];rw [hb,if_pos (by omega)];exact ⟨rfl,by omega⟩
  ·rw [nV (by omega)]
   have hb:(UInt8.ofNat (128+n % 128).toNat).toNat=(128+n % 128).toNat:=by
    rw [UInt8.toNat_ofNat'];omega
   match d with
   | 0=>exact absurd h1 (by simpa using e)
   | d+1 =>
    have e2:(128:Int) ^ (d+1+1)=128 ^ (d+1) * 128:=Int.pow_succ ..;obtain ⟨i1,i2⟩:=IB d (n / 128) q (by omega) (by omega);have hc:aX ((128+n % 128)::bG (n / 128))=UInt8.ofNat (128+n % 128).toNat::aX (bG (n / 128)):=rfl;rw [hc,Rf,jK,hb,if_neg (by omega),i1,dk,hb,i2];exact ⟨rfl,by omega⟩
theorem Ob {n:Int} {q:List UInt8} (h0:0<=n) (h1:n<18446744073709551616):pK (aX (bG n)++q)=(n,q,true):=by
 have e9:(128:Int) ^ (9+1)=1180591620717411303424:=by decide
 obtain ⟨c1,c2⟩:=IB 9 n q h0 (by omega);have hlen:=wa h1;have hp:=qF n;unfold pK;rw [c1];simp only [c2];rw [if_neg]
 ·simp
 rintro ⟨g1,g2⟩;have hne:aX (bG n)≠[]:=fun e=>by rw [e] at g1; simp at g1
 have hd:=SE hne
 have hlast:((aX (bG n)).getLast hne).toNat=iv (aX (bG n)):=by
  unfold iv;rw [List.getLast_eq_getElem];simp [List.getD,show (aX (bG n)).length - 1<(aX (bG n)).length by omega]
 obtain ⟨_,_,_,hl⟩:=iI 10 _ _ _ c1;have hv:=nK ((aX (bG n)).getLast hne) (aX (bG n)).dropLast;have hdl:(aX (bG n)).dropLast.length=9:=by simp [g1]
 have e8:(128:Int) ^ 9=9223372036854775808:=by decide
 have:=fJ (aX (bG n)).dropLast;rw [hd,c2,hdl,e8] at hv;omega
theorem pi:∀ (l:List Int),(∀ x∈l,0<=x/\x<18446744073709551616)->gj (aX (bq l))=some l
 | [],_=>by simp [bq,aX,jM]
 | n::l,h=>by
  obtain ⟨h0,h1⟩:=h n (by simp);have ih:=pi l fun x hx=>h x (by simp [hx])
  have e:aX (bq (n::l))=aX (bG n)++aX (bq l):=by simp [bq,aX]
  have hr:=Ob (q:=aX (bq l)) h0 h1;have hp:=qF n;rw [e,je (fun e=>by have:=congrArg List.length e; rw [KK,jY] at this; simp only [QQ] at this; omega) (by rw [hr]),hr];simp only;rw [ih];rfl
theorem zj (l:List Int):(∀ x∈l,0<=x/\x<18446744073709551616)->(bq l).length<=10 * l.length:=by
 induction l with
 | nil=>intro _; simp [bq]
 | cons n l ih =>
  intro hl;have h1:=ih fun x hx=>hl x (by simp [hx])
  have h2:=wa (hl n (by simp)).2;have e:bq (n::l)=bG n++bq l:=by simp [bq]
  rw [e,KK,HN];omega
theorem kz {n:Int} (h:ak .i64 n):mO (k9 n)=n:=by
 unfold mO k9;simp only [ak] at h;simp only [IntKind.wrap,IntKind.bits,IntKind.signed];simp;omega
theorem wz:∀ l:List ux,(∀ o∈l,ak .i64 o.1/\ak .i64 o.2.1/\ak .i64 o.2.2.1/\ak .i64 o.2.2.2.1)->rZ (l.flatMap L8)=l
 | [],_=>rfl
 | o::l,h=>by
  obtain ⟨a,b,c,d,e⟩:=o;obtain ⟨h1,h2,h3,h4⟩:=h _ (QJ);have ih:=wz l fun o ho=>h o (by simp [ho])
  have e1:((a,b,c,d,e)::l).flatMap L8=k9 a::k9 b::k9 c::k9 d::e::l.flatMap L8:=rfl;rw [e1,tL _ (by simp)];simp only [RC,R1,RK,SJ,ih];congr 1;show (mO (k9 a),mO (k9 b),mO (k9 c),mO (k9 d),e)=(a,b,c,d,e);rw [kz h1,kz h2,kz h3,kz h4]
theorem JQ {l:List ux} (hl:l.length<=200) (h:∀ o∈l,ak .i64 o.1/\ak .i64 o.2.1/\ak .i64 o.2.2.1/\ak .i64 o.2.2.2.1/\ak .u64 o.2.2.2.2):eK l=(aX (qB l),0)/\fv (aX (qB l))=(l,0)/\(aX (qB l)).length<=10000:=by
 have e1:qB l=bq (l.flatMap L8):=by
  unfold qB bq;rw [List.flatMap_assoc]
 have hin:∀ x∈l.flatMap L8,0<=x/\x<18446744073709551616:=fun x hx=>by
  obtain ⟨o,ho,hx⟩:=R7.1 hx;have hv:=(h o ho).2.2.2.2;unfold L8 at hx
  have w:∀ n:Int,0<=k9 n/\k9 n<18446744073709551616:=fun n=>by
   have:=fP .u64 n;simp only [ak] at this;unfold k9;omega
  simp only [Qs,RV,Td] at hx;simp only [ak] at hv;rcases hx with rfl | rfl | rfl | rfl | rfl
  ·exact w _
  ·exact w _
  ·exact w _
  ·exact w _
  ·omega
 have h5:(l.flatMap L8).length=5 * l.length:=by
  clear h e1 hin hl
  induction l with
  | nil=>rfl
  | cons o l ih=>rw [Q7,KK,ih,HN]; show 5+_=_; omega
 have hn:=pi _ hin;obtain ⟨hA,_,_⟩:=qA _ (aX (bq (l.flatMap L8))) [] (QI _);obtain ⟨a1,a2⟩:=hA _ hn (by omega);rw [wz l fun o ho=>⟨(h o ho).1,(h o ho).2.1,(h o ho).2.2.1,(h o ho).2.2.2.1⟩,Q0] at a1;refine ⟨by unfold eK; rw [if_neg (by omega)],?_,?_⟩
 ·unfold fv;rw [e1,a1,a2,if_neg (by simp; omega)]
 ·have h1:=zj _ hin;rw [e1,jY];omega
theorem vg:∀ r:List Int,(∀ v∈r,-1<=v/\v<256)->(r.map jp).map sJ=r
 | [],_=>rfl
 | v::r,h=>by
  have:=h v (by simp);rw [Q1,Q1,vg r fun v hv=>h v (by simp [hv])];unfold sJ jp;rw [eY (by omega) (by omega),jT (n:=v+1) (by omega) (by omega),jT (by omega) (by omega),Int.add_sub_cancel]
theorem zb:∀ (p:List bh) (l:List Int),(∀ x∈p,ak .i64 x.1/\ak .i64 x.2)->tl (p.flatMap kw++l) p.length=p
 | [],_,_=>rfl
 | x::p,l,h=>by
  have ih:=zb p l fun x hx=>h x (by simp [hx])
  obtain ⟨h1,h2⟩:=h x (by simp);unfold tl at ih |-;rw [HN,List.range_succ_eq_map,Q1,List.map_map];have e:(x::p).flatMap kw++l=IntKind.u64.wrap x.1::IntKind.u64.wrap x.2::(p.flatMap kw++l):=rfl;rw [e];congr 1
  ·show (mO (k9 x.1),mO (k9 x.2))=x;rw [kz h1,kz h2]
theorem uU:∀ (p:List a6) (l:List Int),(∀ x∈p,ak .i64 x.1/\ak .i64 x.2.2)->m8 (p.flatMap fk++l) p.length=p/\GA (p.flatMap fk++l) p.length
 | [],_,_=>⟨rfl,fun j hj=>absurd hj (by simp)⟩
 | x::p,l,h=>by
  obtain ⟨ih,io⟩:=uU p l fun x hx=>h x (by simp [hx])
  obtain ⟨h1,h2⟩:=h x (by simp);have e:(x::p).flatMap fk++l=IntKind.u64.wrap x.1::(if x.2.1=true then 1 else 0)::IntKind.u64.wrap x.2.2::(p.flatMap fk++l):=rfl;rw [e];refine ⟨?_,fun j hj=>?_⟩
  ·unfold m8 at ih |-;rw [HN,List.range_succ_eq_map,Q1,List.map_map];congr 1
   ·show (mO (k9 x.1),decide ((if x.2.1=true then (1:Int) else 0)=1),mO (k9 x.2.2))=x;rw [kz h1,kz h2];obtain ⟨g,o,t⟩:=x;cases o <;> rfl
  ·cases j with
   | zero =>
    show (if x.2.1=true then (1:Int) else 0)<=1;split <;> omega
   | succ j =>
    have:=io j (by simp only [HN] at hj; omega);simp only [show 3 * (j+1)+1=3 * j+1+1+1+1 by omega,List.getD_cons_succ];exact this
theorem ne (p:List bh):(p.flatMap kw).length=2 * p.length:=by
 induction p with
 | nil=>rfl
 | cons x p ih=>rw [Q7,KK,ih,HN]; show 2+_=_; omega
theorem pW (p:List a6):(p.flatMap fk).length=3 * p.length:=by
 induction p with
 | nil=>rfl
 | cons x p ih=>rw [Q7,KK,ih,HN]; show 3+_=_; omega
theorem CH {s:ah} (R:Right s):br s=(ol s,0)/\c7 (ol s)=(s,0)/\(ol s).length<=4000:=by
 obtain ⟨a,r,p,h⟩:=s;obtain ⟨la,lr,lp,lh,hroot⟩:=uO R.w R.ok;have la:a.length<=256:=la;have hpin:=(nR R.pin);have hgiv:=R.given;simp only at hpin hgiv
 have hpi:∀ x∈p,ak .i64 x.1/\ak .i64 x.2:=fun x hx=>by
  have:=hpin.2.2 x hx;simp only [ak];omega
 have hhi:∀ x∈h,ak .i64 x.1/\ak .i64 x.2.2:=fun x hx=>by
  have:=gC.1 (hgiv.2 x hx);simp only [ak];omega
 have hs:At (a,r,p,h)=(a.length:Int)::(r.length:Int)::(p.length:Int)::(h.length:Int)::(a++(r.map jp++(p.flatMap kw++h.flatMap fk))):=rfl
 have w:∀ n:Int,0<=IntKind.u64.wrap n/\IntKind.u64.wrap n<18446744073709551616:=fun n=>by
  have:=fP .u64 n;simp only [ak] at this;omega
 have hin:∀ x∈At (a,r,p,h),0<=x/\x<18446744073709551616:=fun x hx=>by
  rw [hs] at hx;simp only [Qs,Qx,QR,R7] at hx;rcases hx with rfl | rfl | rfl | rfl | hx | ⟨v,_,rfl⟩ | ⟨v,_,hx⟩ | ⟨v,_,hx⟩
  ·omega
  ·omega
  ·omega
  ·omega
  ·have:=R.w x hx;simp only [ak] at this;omega
  ·exact w _
  ·unfold kw at hx;simp only [Qs,RV,Td] at hx;rcases hx with rfl | rfl
   ·exact w _
   ·exact w _
  ·unfold fk at hx;simp only [Qs,RV,Td] at hx;rcases hx with rfl | rfl | rfl
   ·exact w _
   ·split <;> omega
   ·exact w _
 have hZ:(a++(r.map jp++(p.flatMap kw++h.flatMap fk))).drop ((a.length:Int)).toNat=r.map jp++(p.flatMap kw++h.flatMap fk):=by rw [Q5,List.drop_left]
 have hd2:(r.map jp++(p.flatMap kw++h.flatMap fk)).drop ((r.length:Int)).toNat=p.flatMap kw++h.flatMap fk:=by rw [Q5]; exact List.drop_left' (by simp)
 have hd3:(p.flatMap kw++h.flatMap fk).drop (2 * ((p.length:Int)).toNat)=h.flatMap fk:=by rw [Q5]; exact List.drop_left' (ne p)
 obtain ⟨b1,b2⟩:=uU h [] hhi;rw [Q8] at b1 b2
 have T:Told (ol (a,r,p,h)) a.length r.length p.length h.length (a++(r.map jp++(p.flatMap kw++h.flatMap fk))):=by
  refine ⟨?_,?_,?_,?_⟩
  ·have:=pi _ hin;rw [hs] at this;unfold ol;rw [hs];exact this
  ·rw [<- hs]; exact hin
  ·simp only [KK,Q3,ne,pW];omega
  ·rw [hZ,hd2,hd3,Q5];exact b2
 have hA:=JM T
 have hraw:Pj ((a.length:Int)).toNat ((r.length:Int)).toNat ((p.length:Int)).toNat ((h.length:Int)).toNat (a++(r.map jp++(p.flatMap kw++h.flatMap fk)))=(a,r,p,h):=by
  unfold Pj;rw [hZ,hd2,hd3];simp only [Q5];rw [List.take_left,List.take_left' (by simp),vg r hroot,zb p _ hpi,b1]
 rw [hraw] at hA;refine ⟨by unfold br; rw [if_neg (by have:=R.ok; omega)],?_,?_⟩
 ·unfold c7;rw [hA,if_neg (by simp [R.ok])]
 ·unfold ol;rw [jY];have h1:=zj _ hin;rw [hs] at h1;simp only [HN,KK,Q3,ne,pW] at h1;rw [hs];omega
end
section
set_option maxHeartbeats 4000000
def Gj:Spec:={ Ts:=[.arr nM,.arr nM],Rs:=[.dat .bool],pre:=fun _=>True,F:=fun (x:List oU×List oU)=>decide (x.1=x.2) }
def HH:Nat->Option LoopGen
 | 4=>some { rd:=[.dat 0 (.arr nM),.dat 1 (.arr nM)],A:=fun (g:List oU×List oU)=>{ cs:=[.dat 13 ty_I],inv:=fun (i:Int)=>g.1.length=g.2.length/\0<=i/\i<=g.1.length/\g.1.take i.toNat=g.2.take i.toNat,mu:=fun (i:Int)=>(g.1.length - i).toNat } }
 | _=>none
def vM:Prop :=
  ∀ (x:List (Int×Int)×List (Int×Int)),((x.1.length * (8+8)<=aK/\∀ (x_1:Int×Int),x_1∈x.1->ak .i64 x_1.1/\ak .u64 x_1.2)/\x.2.length * (8+8)<=aK/\∀ (x_1:Int×Int),x_1∈x.2->ak .i64 x_1.1/\ak .u64 x_1.2)->True->(decide ((x.1.length:Int)≠(x.2.length:Int))=true->false=decide (x.1=x.2)/\True)/\(decide ((x.1.length:Int)≠(x.2.length:Int))=false->(x.1.length=x.2.length/\(0:Int)<=0/\0<=(x.1.length:Int)/\List.take (Int.toNat 0) x.1=List.take (Int.toNat 0) x.2)/\∀ (x_1:Int),x.1.length=x.2.length/\0<=x_1/\x_1<=(x.1.length:Int)/\List.take x_1.toNat x.1=List.take x_1.toNat x.2->(decide (x_1<(x.1.length:Int))=true->0<=x_1/\x_1<(x.1.length:Int)/\0<=x_1/\x_1<(x.2.length:Int)/\((!(decide ((x.1.getD x_1.toNat (0,0)).1=(x.2.getD x_1.toNat (0,0)).1)&&decide ((x.1.getD x_1.toNat (0,0)).2=(x.2.getD x_1.toNat (0,0)).2)))=true->false=decide (x.1=x.2)/\True)/\((!(decide ((x.1.getD x_1.toNat (0,0)).1=(x.2.getD x_1.toNat (0,0)).1)&&decide ((x.1.getD x_1.toNat (0,0)).2=(x.2.getD x_1.toNat (0,0)).2)))=false->ak .i64 (x_1+1)/\(x.1.length=x.2.length/\0<=x_1+1/\x_1+1<=(x.1.length:Int)/\List.take (x_1+1).toNat x.1=List.take (x_1+1).toNat x.2)/\((x.1.length:Int) - (x_1+1)).toNat<((x.1.length:Int) - x_1).toNat))/\(decide (x_1<(x.1.length:Int))=false->true=decide (x.1=x.2)/\True))
theorem Cv:vM:=by
 unfold vM;intro x hw _;refine ⟨fun h=>?_,fun h=>?_⟩
 ·have h:x.1.length≠x.2.length:=by have:=tM h; omega
  have:x.1≠x.2:=fun e=>h (by rw [e])
  simp [this]
 have hl:x.1.length=x.2.length:=by have:=uZ h; omega
 refine ⟨⟨hl,by omega,by omega,by simp⟩,fun i ⟨_,h0,h1,ht⟩=>⟨fun hlt=>?_,fun hge=>?_⟩⟩
 ·have hlt:i<x.1.length:=by simpa using hlt
  refine ⟨h0,hlt,h0,by omega,fun hne=>?_,fun he=>?_⟩
  ·have hne:x.1.getD i.toNat (0,0)≠x.2.getD i.toNat (0,0):=fun e=>by rw [e] at hne; simp at hne
   have:x.1≠x.2:=fun e=>hne (by rw [e])
   simp [this]
  ·have he:x.1.getD i.toNat (0,0)=x.2.getD i.toNat (0,0):=Prod.ext_iff.2 (by simpa using he);have hb:x.1.length * 16<=aK:=hw.1.1;unfold aK at hb;refine ⟨by simp only [ak]; omega,⟨hl,by omega,by omega,?_⟩,by omega⟩;rw [show (i+1).toNat=i.toNat+1 by omega];exact yq hl (by omega) ht he
 ·have hge:¬ i<x.1.length:=by simpa using hge
  have hi:i.toNat=x.1.length:=by omega
  rw [hi,QG (QI _),QG (by omega)] at ht;simp [ht]
theorem GT:Gj.ok Tryz.prog 28:=aD (ann:=HH) ap Tryz.func28 (by kernel_rfl) Cv
def uS:Spec:=LD [ty_I,ty_I,ty_I,.arr pO]
def nd:Prop :=
  ∀ (x:Int×Int×Int×List (Int×Int×Int×Int×Int)),(fun (v1:type_of% (fv (eK x.2.2.2).1))=>(fun (v0:type_of% (au x.1 x.2.1 x.2.2.1))=>(ak .i64 x.1/\ak .i64 x.2.1/\ak .i64 x.2.2.1/\x.2.2.2.length * (8+(8+(8+(8+8))))<=aK/\∀ (x_1:Int×Int×Int×Int×Int),x_1∈x.2.2.2->ak .i64 x_1.1/\ak .i64 x_1.2.1/\ak .i64 x_1.2.2.1/\ak .i64 x_1.2.2.2.1/\ak .u64 x_1.2.2.2.2)->(True/\True/\True/\x.2.2.2.length * (8+(8+(8+(8+8))))<=140737488351232/\∀ (x_1:Int×Int×Int×Int×Int),x_1∈x.2.2.2->iL pO x_1)->True/\True/\((!true||decide (v0.2≠0)||decide (200<(x.2.2.2.length:Int)))=true->True/\true=true/\True)/\((!true||decide (v0.2≠0)||decide (200<(x.2.2.2.length:Int)))=false->True/\True/\(eK x.2.2.2).1.length<=20000/\True/\True/\(br (d8 v0.1 x.2.2.2).1).1.length<=20000/\True/\True/\((decide ((d8 v0.1 x.2.2.2).2.2=0)&&decide ((eK x.2.2.2).2=0)&&decide (v1.2=0)&&decide ((d8 v0.1 v1.1).2.2=0)&&decide ((br (d8 v0.1 x.2.2.2).1).2=0)&&decide ((c7 (br (d8 v0.1 x.2.2.2).1).1).2=0)&&decide ((br (d8 v0.1 v1.1).1).2=0)&&decide ((br (c7 (br (d8 v0.1 x.2.2.2).1).1).1).2=0))=true->True)/\(decide ((d8 v0.1 x.2.2.2).2.2=0)&&decide ((eK x.2.2.2).2=0)&&decide (v1.2=0)&&decide ((d8 v0.1 v1.1).2.2=0)&&decide ((br (d8 v0.1 x.2.2.2).1).2=0)&&decide ((c7 (br (d8 v0.1 x.2.2.2).1).1).2=0)&&decide ((br (d8 v0.1 v1.1).1).2=0)&&decide ((br (c7 (br (d8 v0.1 x.2.2.2).1).1).1).2=0)&&decide ((d8 v0.1 x.2.2.2).2.1=(d8 v0.1 v1.1).2.1)&&decide ((br (d8 v0.1 v1.1).1).1=(br (d8 v0.1 x.2.2.2).1).1)&&decide ((br (c7 (br (d8 v0.1 x.2.2.2).1).1).1).1=(br (d8 v0.1 x.2.2.2).1).1))=true/\True)) (au x.1 x.2.1 x.2.2.1)) (fv (eK x.2.2.2).1)
theorem tU:nd:=by
 unfold nd;intro ⟨w,r,h,l⟩ ⟨_,_,_,_,hl⟩ _;simp only at hl |-;refine ⟨trivial,trivial,fun _=>⟨trivial,by first | exact trivial | rfl,trivial⟩,fun hg=>?_⟩;simp only [Rn,Rh] at hg;obtain ⟨⟨_,h0⟩,h1⟩:=hg;have h0:(au w r h).2=0:=by omega
 obtain ⟨R0,_⟩:=Kg h0;obtain ⟨RP,_,_⟩:=Gw R0 l fun o ho=>(hl o ho).2.2.2.2
 have hP:=NZ R0 (l:=l) (by omega);obtain ⟨o1,o2,o3⟩:=JQ (l:=l) (by omega) hl;obtain ⟨t1,t2,t3⟩:=CH RP;rw [hP,o1];simp only;rw [o2];simp only;rw [hP];simp only;rw [t1];simp only;rw [t2];simp only;rw [t1];simp only [decide_true,Bool.and_self];exact ⟨trivial,trivial,by omega,trivial,trivial,by omega,trivial,trivial,fun _=>trivial,by first | exact trivial | rfl,trivial⟩
theorem vU:uS.ok Tryz.prog 6:=aD (ann:=cF) (ae D0 (ae Mb (ae Mh (ae GF (ae DX (ae A2 (ae rP (ae GT ap)))))))) Tryz.func6 (by kernel_rfl) tU
end
section
open Go Go.ChangeShapes Go.WideShapes Go.ChangeAt Go.RowKit Go.Deep
def wG (P:Program) (g:Ty->TypeId->Bool):List Field->Ty->Nat->Bool
 | [],_,_=>false
 | [f],T,off=>Nat.beq f.offset off&&Nat.beq (P.cellsOf f.type) T.size&&g T f.type
 | f::f2::fs,T,off=>match T with
  | .pair A B=>Nat.beq f.offset off&&Nat.beq (P.cellsOf f.type) A.size&&g A f.type&&wG P g (f2::fs) B (off+A.size)
  | _=>false
def wF (P:Program):Nat->Ty->TypeId->Bool
 | 0,_,_=>false
 | n+1,T,t=>match P.underlying t,T with
  | some (.int k),.int k'=>if k=k' then true else false
  | some .bool,.bool=>true
  | some .string,.str=>true
  | some (.slice e),.arr T=>Nat.beq (P.cellsOf e) T.size&&Nat.ble T.bytes (P.bytesOf e)&&wF P n T e
  | some (.struct fs),.pair A B=>Nat.beq (P.cellsOf t) (Ty.pair A B).size&&wG P (wF P n) fs.toList (.pair A B) 0
  | _,_=>false
section
variable {H:Type} {enc:TypeId×Value->H} {P:Program} {w:World}
theorem O2 {k:IntKind} {n:Int} (h:(Lit.int k n).wf=true):ak k n:=by
 simp only [Lit.wf,CF,QP] at h;cases k <;> simp [ak,IntKind.min,IntKind.max,IntKind.signed,IntKind.bits] at h |- <;> omega
theorem zK {a:Addr} {v:Value} (h:w.cell? a=some v):a.spot=none/\(full w).cell a.block a.off=some v:=by
 unfold World.cell? at h;split at h
 ·rename_i c t z hb;split at h
  ·cases h
  ·rename_i hs;refine ⟨by cases hsp:a.spot <;> simp_all,?_⟩;simp [PH.cell,full,hb,h,Blk.get]
 ·cases h
theorem M9 (d:DataW H):1<=Rows.uptoBulk d:=by
 cases d with
 | lit l=>cases l <;> simp [Rows.uptoBulk]
 | nil=>simp [Rows.uptoBulk]
 | ptr d=>simp [Rows.uptoBulk]
 | slice elems spare=>simp [Rows.uptoBulk]
 | agg parts=>simp [Rows.uptoBulk]
 | iface t d=>simp [Rows.uptoBulk]
 | map entries=>simp [Rows.uptoBulk]
 | held h=>simp [Rows.uptoBulk]
theorem zL {d:DataW H} {l:List (DataW H)} (h:d∈l):Rows.uptoBulk d<=Rows.uptoBulkAll l:=by
 induction l with
 | nil=>cases h
 | cons x r ih =>
  simp only [Rows.uptoBulkAll];cases Qs.1 h with
  | inl e=>subst e; omega
  | inr e=>have:=ih e; omega
theorem E4 (l:List (DataW H)):l.length<=Rows.uptoBulkAll l:=by
 induction l with
 | nil=>simp [Rows.uptoBulkAll]
 | cons x r ih=>have:=M9 x; simp only [Rows.uptoBulkAll,HN]; omega
def O0 (enc:TypeId×Value->H) (P:Program) (w:World) (g:Ty->TypeId->Bool):Prop :=
 ∀ (T:Ty) (t:TypeId) (fuel:Nat) (cs:List Value) (d:DataW H) (ps:List MemPlace),g T t=true->DataW.trod enc P w 0 (fun _=>true) true fuel t cs=some (d,ps) ->
  (∀ n∈d.weights P t,n<=reachBytes)->∃ x:T.den,T.holds (full w) x cs/\iL T x/\∀ B,Rows.uptoBulk d<=B->ij B T x
theorem Ie {g:Ty->TypeId->Bool} (hg:O0 enc P w g) {all:List Field} {cs:List Value} {xs:List (DataW H×List MemPlace)} {n:Nat}
  (hat:∀ (i:Nat) (f:Field),all[i]?=some f->DataW.trod enc P w 0 (fun _=>true) true n f.type ((cs.drop f.offset).take (P.cellsOf f.type))=xs[i]?)
  (hlen:xs.length=all.length) (hw:∀ m∈DataW.weightsEach P (all.map (·.type)) (xs.map (·.1)),m<=reachBytes) :
  ∀ (fs:List Field) (T:Ty) (off:Nat) (k:Nat),wG P g fs T off=true->(∀ i,fs[i]?=all[k+i]?)->cs.length=off+T.size->∃ x:T.den,T.holds (full w) x (cs.drop off)/\iL T x/\∀ B,(∀ y∈xs,Rows.uptoBulk y.1<=B)->ij B T x
 | [],_,_,_,h,_,_=>by cases h
 | [f],T,off,k,h,hk,hc=>by
  simp only [wG,CF] at h;obtain ⟨⟨h1,h2⟩,h3⟩:=h;have h1:=CC h1;have h2:=CC h2;have e0:all[k]?=some f:=by have:=hk 0; simpa using this.symm
  have hkl:k<all.length:=by
   rcases QO k all.length with h | h
   ·exact h
   ·rw [List.getElem?_eq_none h] at e0; cases e0
  have hx:xs[k]?=some (xs[k]'(by omega)):=List.getElem?_eq_getElem (by omega);have ht:=hat k f e0;rw [hx,h1,h2] at ht;have:=hg T f.type n _ (xs[k]'(by omega)).1 (xs[k]'(by omega)).2 h3 ht (fun m hm=>hw m (DataW.weights_mem_each (j:=k) (by simp [e0]) (by simp [hx]) m hm));rw [QG (by simp; omega)] at this;obtain ⟨x,h5,h6,h7⟩:=this;exact ⟨x,h5,h6,fun B hB=>h7 B (hB _ (List.getElem_mem (by omega)))⟩
 | f::f2::fs,T,off,k,h,hk,hc=>by
  cases T with
  | pair A B =>
   simp only [wG,CF] at h;obtain ⟨⟨⟨h1,h2⟩,h3⟩,h4⟩:=h;have h1:=CC h1;have h2:=CC h2;have e0:all[k]?=some f:=by have:=hk 0; simpa using this.symm
   have hkl:k<all.length:=by
    rcases QO k all.length with h | h
    ·exact h
    ·rw [List.getElem?_eq_none h] at e0; cases e0
   have hx:xs[k]?=some (xs[k]'(by omega)):=List.getElem?_eq_getElem (by omega);have ht:=hat k f e0;rw [hx,h1,h2] at ht;obtain ⟨x,hx1,hx2,hx3⟩:=hg A f.type n _ (xs[k]'(by omega)).1 (xs[k]'(by omega)).2 h3 ht (fun m hm=>hw m (DataW.weights_mem_each (j:=k) (by simp [e0]) (by simp [hx]) m hm));obtain ⟨y,hy1,hy2,hy3⟩:=Ie hg hat hlen hw (f2::fs) B (off+A.size) (k+1) h4 (fun i=>by have:=hk (i+1); simp only [List.getElem?_cons_succ] at this; rw [this]; congr 1; omega) (by simp only [Ty.size] at hc; omega);refine ⟨(x,y),⟨_,_,?_,hx1,hy1⟩,⟨hx2,hy2⟩,fun B hB=>⟨hx3 B (hB _ (List.getElem_mem (by omega))),hy3 B hB⟩⟩;rw [<- RM,Ru]
  | _=>cases h
theorem L7 {T:Ty} {a:Addr} {n:Nat} {bd:Nat->Nat} (hat:∀ i,i<n->∃ cs,w.cells? 0 (a.add (i * T.size)) T.size=some cs/\∃ x:T.den,T.holds (full w) x cs/\iL T x/\∀ B,bd i<=B->ij B T x) :
  ∃ (xs:List T.den) (l:List Value),xs.length=n/\aN (Ty.holds T (full w)) xs l/\(∀ j u,l[j]?=some u->w.cell? (a.add j)=some u)/\∀ x∈xs,iL T x/\∀ B,(∀ i,i<n->bd i<=B)->ij B T x:=by
 induction n with
 | zero=>exact ⟨[],[],rfl,rfl,fun j u h=>by simp at h,fun x h=>by cases h⟩
 | succ n ih =>
  obtain ⟨xs,l,h1,h2,h3,h4⟩:=ih (fun i hi=>hat i (by omega));obtain ⟨cs,hc,x,hx,hxr,hxs⟩:=hat n (by omega);obtain ⟨_,hl,hcell⟩:=World.cells?_some hc;have hll:l.length=n * T.size:=by rw [dc (fun x cs h=>Ty.holds_length T x cs h) xs l h2,h1]
  refine ⟨xs++[x],l++cs,by simp [h1],cC _ _ _ _ h2 ⟨cs,[],by simp,hx,rfl⟩,fun j u hj=>?_,fun y hy=>?_⟩;rotate_left
  ·rcases Qx.1 hy with hy | hy
   ·exact ⟨(h4 y hy).1,fun B hB=>(h4 y hy).2 B (fun i hi=>hB i (by omega))⟩
   ·rw [QA.1 hy]; exact ⟨hxr,fun B hB=>hxs B (hB n (by omega))⟩
  rcases QO j l.length with hjl | hjl
  ·rw [List.getElem?_append_left hjl] at hj;exact h3 j u hj
  ·rw [List.getElem?_append_right hjl] at hj
   have hjc:j - l.length<T.size:=by
    rcases QO (j - l.length) cs.length with h | h
    ·omega
    ·rw [List.getElem?_eq_none h] at hj; cases hj
   have:=hcell (j - l.length) hjc;rw [hj,Go.Deep.add_add] at this;rw [<- this];congr 2;omega
theorem PS (n:Nat):O0 enc P w (wF P n):=by
 induction n with
 | zero=>intro T t fuel cs d ps h; cases h
 | succ n ih =>
  intro T t fuel cs d ps h ht hw;unfold wF at h;split at h
  ·rename_i k k' hu;split at h
   ·rename_i hk;subst hk;obtain ⟨m,rfl,_,hwf⟩:=DataW.trod_int hu ht;exact ⟨m,⟨rfl,O2 hwf⟩,trivial,fun _ _=>trivial⟩
   ·cases h
  ·rename_i hu;obtain ⟨b,rfl,_⟩:=DataW.trod_bool hu ht;exact ⟨b,rfl,trivial,fun _ _=>trivial⟩
  ·rename_i hu;obtain ⟨s,rfl,hx,_⟩:=DataW.trod_string hu ht;injection hx with hx _
   subst hx;have:=hw s.data.toList.length (by simp [DataW.weights]);have e:reachBytes=140737488351232:=rfl;refine ⟨s.data.toList,⟨rfl,?_⟩,?_,fun B hB=>?_⟩
   ·unfold aK;omega
   ·show s.data.toList.length<=140737488351232;omega
   ·simp only [Rows.uptoBulk] at hB;show s.data.toList.length<=B;omega
  ·rename_i e T hu;simp only [CF] at h;obtain ⟨⟨h1,h2⟩,h3⟩:=h;have h1:=CC h1;have h2:=QE h2;rcases open_slice hu ht with ⟨rfl,_⟩ | ⟨a,len,cap,m,n',D,Pl,rfl,_,hl,hm,hmm,hx,hi⟩
   ·exact ⟨[],⟨none,0,[],rfl,by simp,by simp,rfl,fun h=>absurd rfl h⟩,⟨by show 0 * _<=_; simp,fun x h=>by cases h⟩,fun B _=>⟨Re B,fun x h=>by cases h⟩⟩
   ·simp only [if_true] at hmm;injection hx with hx _
    subst hx;have hsz:(len+(m - len)) * P.bytesOf e<=reachBytes:=hw _ (by simp [DataW.weights,hu])
    have hweach:∀ (l:List (DataW H)) (d:DataW H),d∈l->∀ q∈d.weights P e,q∈DataW.weightsAll P e l:=by
     intro l
     induction l with
     | nil=>intro d hd; cases hd
     | cons y l ih2 =>
      intro d hd q hq;simp only [DataW.weightsAll,Qx];rcases Qs.1 hd with rfl | hd
      ·exact .inl hq
      ·exact .inr (ih2 d hd q hq)
    obtain ⟨xs,l,k1,k2,k3,k4⟩:=L7 (w:=w) (T:=T) (a:=a) (n:=len) (bd:=fun i=>Rows.uptoBulk (D i)) (fun i hil=>by
     obtain ⟨cs',hc,ht'⟩:=hi i (by omega);rw [h1] at hc;refine ⟨cs',hc,ih T e n' cs' (D i) (Pl i) h3 ht' (fun q hq=>hw q ?_)⟩;simp only [DataW.weights,hu,Qs,Qx];exact .inr (.inl (hweach _ (D i) (by simp only [QR,SP]; exact ⟨i,hil,rfl⟩) q hq)))
    refine ⟨xs,⟨some a,cap,l,by rw [k1],by omega,?_,k2,fun hne=>?_⟩,⟨?_,fun x hx=>(k4 x hx).1⟩,fun B hB=>⟨?_,fun x hx=>(k4 x hx).2 B (fun i hi=>?_)⟩⟩;rotate_left 3
    ·have hB2:=hB;simp only [Rows.uptoBulk] at hB2;refine Ra ?_ (Ra (E4 _) (Ra (Ra (Nat.le_add_right _ _) (Nat.le_add_right _ _)) hB2));show xs.length<=_;rw [k1];simp
    ·have hB2:=hB;simp only [Rows.uptoBulk] at hB2;refine Ra (zL ?_) (Ra (Ra (Nat.le_add_right _ _) (Nat.le_add_right _ _)) hB2);simp only [QR,SP];exact ⟨i,hi,rfl⟩
    rotate_left 2
    ·have h5:len * T.bytes<=(len+(m - len)) * P.bytesOf e:=Nat.mul_le_mul (by omega) h2;have e:reachBytes=140737488351232:=rfl;show xs.length * _<=_;rw [k1];omega
    ·have h5:len * T.bytes<=(len+(m - len)) * P.bytesOf e:=Nat.mul_le_mul (by omega) h2;have e:reachBytes=140737488351232:=rfl;rw [k1];unfold aK;omega
    ·have hpos:=Ty.size_pos T
     have hlp:0<l.length:=by
      rw [dc (fun x cs h=>Ty.holds_length T x cs h) xs l k2];have:0<xs.length:=Sw.2 hne;exact Nat.mul_pos this hpos
     have hsp:a.spot=none:=(zK (k3 0 _ (List.getElem?_eq_getElem hlp))).1
     refine ⟨a.block,a.off,by cases a; simp_all,fun j u hj=>by
      have h9:=(zK (k3 j u hj)).2;by_cases hj0:j=0 <;> simp only [Addr.add,hj0,if_true,QW,RQ] at h9 |- <;> exact h9⟩
  ·rename_i fs A B hu;simp only [CF] at h;obtain ⟨h1,h2⟩:=h;have h1:=CC h1;obtain ⟨xs,n',_,hx,hlen,hxl,hat⟩:=DataW.trod_struct hu ht;injection hx with hx _
   subst hx;have:=Ie ih (all:=fs.toList) (cs:=cs) (xs:=xs) (n:=n') (fun i f hf=>hat i f (by simpa using hf)) (by simp [hxl]) (fun m hm=>hw m (by simpa [DataW.weights,hu] using hm)) fs.toList (.pair A B) 0 0 h2 (fun i=>by simp) (by omega);obtain ⟨x,h5,h6,h7⟩:=this;refine ⟨x,by simpa using h5,h6,fun C hC=>h7 C fun y hy=>Ra (zL (QR.2 ⟨y,hy,rfl⟩)) ?_⟩;simp only [Rows.uptoBulk] at hC;exact Ra (Nat.le_succ _) hC
  ·cases h
def qX (P:Program):List Ty->List TypeId->Bool
 | [],[]=>true
 | T::Ts,t::ts=>wF P 9 T t&&qX P Ts ts
 | _,_=>false
theorem L6 {base:Nat} {n:Nat} {T:Ty} {t:TypeId} {v:Value} {x:T.den} (hf:wF P n T t=true) (hv:Value.okWide P w .any base t v) (hx:T.holds (full w) x v.cells.toList):T.vholds (full w) x v:=by
 cases n with
 | zero=>cases hf
 | succ n =>
  unfold wF at hf;split at hf
  ·rename_i k k' hu
   have:v.cells=#[v]:=by
    cases v <;> first | rfl | simp [Value.okWide,hu,Cell.okWide,Cell.ok] at hv
   rw [this] at hx;exact hx
  ·rename_i hu
   have:v.cells=#[v]:=by
    cases v <;> first | rfl | simp [Value.okWide,hu,Cell.okWide,Cell.ok] at hv
   rw [this] at hx;exact hx
  ·rename_i hu
   have:v.cells=#[v]:=by
    cases v <;> first | rfl | simp [Value.okWide,hu,Cell.okWide,Cell.ok] at hv
   rw [this] at hx;exact hx
  ·rename_i e T hu
   have:v.cells=#[v]:=by
    cases v <;> first | rfl | simp [Value.okWide,hu,Cell.okWide,Cell.ok] at hv
   rw [this] at hx;exact hx
  ·rename_i fs A B hu;obtain ⟨cs,rfl,_⟩:=okWide_struct hu hv;exact ⟨cs,rfl,hx⟩
  ·cases hf
theorem zd {base:Nat}:∀ (Ts:List Ty) (ts:List TypeId) (vs:List Value) (ds:List (DataW H)) (p:List MemPlace),qX P Ts ts=true->DataW.TrodAll enc P w 0 (fun _=>true) true ts vs ds p ->
  (∀ (j:Nat) t v,ts[j]?=some t->vs[j]?=some v->Value.okWide P w .any base t v)->(∀ m∈DataW.weightsEach P ts ds,m<=reachBytes)->∃ x:gm Ts,di (full w) Ts x vs/\m6 Ts x/\∀ B,Rows.uptoBulkAll ds<=B->rE B Ts x
 | [],[],vs,ds,p,_,hA,_,_=>by
  cases vs with
  | nil=>exact ⟨(),rfl,trivial,fun _ _=>trivial⟩
  | cons v vs=>cases ds <;> exact hA.elim
 | [],t::ts,_,_,_,h,_,_,_=>by cases h
 | T::Ts,[],_,_,_,h,_,_,_=>by cases h
 | T::Ts,t::ts,[],ds,p,h,hA,hv,hw=>by cases ds <;> exact hA.elim
 | T::Ts,t::ts,v::vs,[],p,h,hA,hv,hw=>hA.elim
 | T::Ts,t::ts,v::vs,d::ds,p,h,hA,hv,hw=>by
  simp only [qX,CF] at h;obtain ⟨p1,p2,⟨fuel,h1⟩,h2,_⟩:=hA;obtain ⟨x,hx,hxr,hxs⟩:=PS 9 T t fuel _ d p1 h.1 h1 (fun m hm=>hw m (by simp only [DataW.weightsEach,Qx]; exact .inl hm));have hxv:=L6 h.1 (hv 0 t v rfl rfl) hx;obtain ⟨y,hy,hyr,hys⟩:=zd Ts ts vs ds p2 h.2 h2 (fun j t v a b=>hv (j+1) t v (by simpa using a) (by simpa using b)) (fun m hm=>hw m (by simp only [DataW.weightsEach,Qx]; exact .inr hm));cases Ts with
  | nil =>
   simp only [di] at hy;subst hy;exact ⟨x,⟨v,rfl,hxv⟩,hxr,fun B hB=>hxs B (by simp only [Rows.uptoBulkAll] at hB; omega)⟩
  | cons U Ts=>exact ⟨(x,y),⟨v,vs,rfl,hxv,hy⟩,⟨hxr,hyr⟩,fun B hB=>⟨hxs B (by simp only [Rows.uptoBulkAll] at hB; omega),hys B (by simp only [Rows.uptoBulkAll] at hB; omega)⟩⟩
theorem mU:∀ {ts:List TypeId} {vs:List Value} {ds:List (DataW H)} {p:List MemPlace} {b:Nat} {sp:Nat->Bool} {hd:Bool},DataW.TrodAll enc P w b sp hd ts vs ds p->ds.length=ts.length
 | [],[],[],_,_,_,_,_=>rfl
 | [],[],_::_,_,_,_,_,h=>h.elim
 | [],_::_,[],_,_,_,_,h=>h.elim
 | [],_::_,_::_,_,_,_,_,h=>h.elim
 | _::_,[],[],_,_,_,_,h=>h.elim
 | _::_,[],_::_,_,_,_,_,h=>h.elim
 | _::_,_::_,[],_,_,_,_,h=>h.elim
 | _::ts,_::vs,_::ds,_,_,_,_,h=>by
  obtain ⟨p,q,_,h2,_⟩:=h;simp [mU h2]
theorem yu (hl:laidOutB P=true) {W W':World} {sp:Nat->Bool}:∀ {ts:List TypeId} {vs:List Value} {ds:List (DataW H)} {p:List MemPlace},(ts.all fun t=>P.readableRec t&&Nat.blt t P.types.size)=true ->
  DataW.TrodAll enc P W 0 (fun _=>true) true ts vs ds p->(∀ x∈p,W.sameAt W' x)->(∀ x∈p,sp x.block=true)->DataW.TrodAll enc P W' 0 sp true ts vs ds p
 | [],[],[],_,_,h,_,_=>h
 | [],[],_::_,_,_,h,_,_=>h.elim
 | [],_::_,[],_,_,h,_,_=>h.elim
 | [],_::_,_::_,_,_,h,_,_=>h.elim
 | _::_,[],[],_,_,h,_,_=>h.elim
 | _::_,[],_::_,_,_,h,_,_=>h.elim
 | _::_,_::_,[],_,_,h,_,_=>h.elim
 | t::ts,v::vs,d::ds,_,hr,h,hs,hsp=>by
  simp only [Rt,CF] at hr;obtain ⟨p,q,h1,h2,rfl⟩:=h;refine ⟨p,q,WideElems.Trod_stays hl hr.1.1 (by simpa using hr.1.2) h1 (fun x hx=>hs x (by simp [hx])) (fun x hx=>hsp x (by simp [hx])),yu hl hr.2 h2 (fun x hx=>hs x (by simp [hx])) (fun x hx=>hsp x (by simp [hx])),rfl⟩
theorem xP {f:Func} {s:ChangeSpec} {apart fresh handsOn again:Bool} {W W':World} {args:Array Value} {v:Value} {ds gs:List (DataW H)} {before pa pv:List MemPlace}
  (hW:DataW.Whole enc P f.params.toList s.vars apart W args.toList ds gs before)
  (hres:∀ (b:Nat) (sp:Nat->Bool) (hd:Bool),DataW.TrodAll enc P W' b sp hd f.resultTypes.toList (v.resultList f.resultTypes.size) (s.fn H (ds++gs)).results [])
  (hargs:∀ sp:Nat->Bool,(∀ p∈before,sp p.block=true)->DataW.TrodAll enc P W' 0 sp true f.params.toList args.toList (s.fn H (ds++gs)).args pa)
  (hvars:∀ sp:Nat->Bool,(∀ p∈before,sp p.block=true)->DataW.TrodVars enc P W' sp s.vars (s.fn H (ds++gs)).vars pv)
  (hps:before=pa++pv) (hb:Below W.heap.size W W')
  (hok:∀ (j:Nat) (t:TypeId) (r:Value),f.resultTypes[j]?=some t->(v.resultList f.resultTypes.size)[j]?=some r->Value.okWide P W' .any 0 t r) :
  s.post enc P f apart fresh handsOn again W args v W':=by
 have hlt:∀ p∈before,p.block<W.heap.size:=fun p hp=>hW.lt p hp
 have hold:∀ p∈before,(fun b=>decide (b<W.heap.size)) p.block=true:=fun p hp=>by simpa using hlt p hp
 refine ⟨ds,gs,before,[],pa,pv,hW,hres _ _ _,hargs _ hold,hvars _ hold,World.keptBut_mono (fun p hp=>⟨hp,?_⟩) (hb.frame (·∈before)),fun _=>?_⟩
 ·rw [hps,Qx] at hp;exact Or.inr hp
 ·obtain ⟨_,_,_,_,_,hz,hn⟩:=hW;refine ⟨hok,_,_,([]++pa)++pv,⟨[]++pa,pv,trodAll_append (hargs _ (fun _ _=>rfl)) (hres _ _ _),hvars _ (fun _ _=>rfl),rfl,?_,?_⟩,?_⟩
  ·intro b off hp;have hin:MemPlace.cell b off∈before:=by rw [hps]; simpa using hp
   rw [hb.frozen (hlt _ hin)];exact hz b off hin
  ·intro ha;have:=hn ha;rw [hps] at this;simpa using this
  ·intro p hp _;rw [hps];simpa using hp
theorem xW {Ts:List Ty} {pre:gm Ts->Prop} {f:FuncId} {fn:Func} {r:ChangeSpec} {apart fresh handsOn again:Bool} {tb:TypeId} (hok:Spec.ok { Ts:=Ts,Rs:=[.dat .bool],pre:=pre,F:=fun _=>(true:Bool) } P f)
  (hl:laidOutB P=true) (hfit:qX P Ts fn.params.toList=true) (hrec:(fn.params.toList.all fun t=>P.readableRec t&&Nat.blt t P.types.size)=true)
  (hres:fn.resultTypes=#[tb]) (htb:P.underlying tb=some .bool) (hvars:r.vars=[]) (hfn:∀ ds:List (DataW H),ds.length=fn.params.size->r.fn H ds={ results:=[.lit (.bool true)],args:=ds })
  {W:World} {base:Nat} {args:Array Value} {ds gs:List (DataW H)} {before:List MemPlace} (hval:∀ (j:Nat) t v,fn.params[j]?=some t->args[j]?=some v->Value.okWide P W .any base t v)
  (hW:DataW.Whole enc P fn.params.toList r.vars apart W args.toList ds gs before)
  (hwt:(DataW.weightsEach P (fn.params.toList++r.plain.varTypes P) (ds++gs)).all (·<=reachBytes)=true) (hLd:Laid W) (hpre:∀ x,m6 Ts x->(∀ B,Rows.uptoBulkAll (ds++gs)<=B->rE B Ts x)->pre x) :
  Calls P f args W fun e W'=>∃ v,e=.returned v/\r.post enc P fn apart fresh handsOn again W args v W':=by
 have hW':=hW;obtain ⟨p,q,hA,hV,rfl,hfz,hnd⟩:=hW;rw [hvars] at hV;obtain ⟨rfl,rfl⟩:=trodVars_none hV
 have hwt':∀ m∈DataW.weightsEach P fn.params.toList ds,m<=reachBytes:=by
  have e:r.plain.varTypes P=[]:=by simp [ChangeSpec.plain,DataSpec.varTypes,hvars]
  rw [e,Q8,Q8] at hwt;intro m hm;simpa using Qy.1 hwt m hm
 obtain ⟨x,hx,hxr,hxs⟩:=zd Ts fn.params.toList args.toList ds p hfit hA (fun j t v a b=>hval j t v (by simpa using a) (by simpa using b)) hwt';have hcall:=hok (full W) W args.toList x hLd (nu W) hx (hpre x hxr (by simpa using hxs));simp only [S6] at hcall;refine hcall.mono fun e W' ⟨rs,qq,he,hk,_,_,hr⟩=>?_
 subst he;have hb:Below W.heap.size W W':=⟨hk.os,hk.tape,hk.output,hk.size,fun i hi=>hk.block i hi (fun h=>h)⟩;obtain ⟨v,rfl,hv,_⟩:=hr
 have hv:v=.bool true:=by
  have h2:[v]=[.bool true]:=hv;exact (List.cons.inj h2).1
 subst hv;have hd:=mU hA
 have e1:r.fn H (ds++[])={ results:=[.lit (.bool true)],args:=ds }:=by
  rw [Q8]; exact hfn ds (by simpa using hd)
 refine ⟨_,rfl,xP (pa:=p) (pv:=[]) hW' (fun b sp hd=>?_) (fun sp hsp=>?_) (fun sp _=>?_) rfl hb (fun j t v hj hv=>?_)⟩
 ·rw [e1,hres];exact trodAll_mk1 ⟨1,by simp [cA,DataW.trod,htb,Value.cells]⟩
 ·rw [e1];exact yu hl hrec hA (fun y hy=>hb.same (hW'.lt y (by simpa using hy))) (fun y hy=>hsp y (by simpa using hy))
 ·rw [e1,hvars];rfl
 ·rw [hres] at hj hv
  have:j=0:=by
   rcases j with _ | j
   ·rfl
   ·simp at hj
  subst this;simp at hj;subst hj;have:v=.bool true:=by simpa [Value.resultList,cA] using hv.symm
  subst this;simp [Value.okWide,htb,Cell.okWide,Cell.ok]
theorem Bh {Ts:List Ty} {f:FuncId} {fn:Func} {r:ChangeSpec} {apart fresh handsOn again:Bool} {tb:TypeId} (hok:(LD Ts).ok P f)
  (hl:laidOutB P=true) (hfit:qX P Ts fn.params.toList=true) (hrec:(fn.params.toList.all fun t=>P.readableRec t&&Nat.blt t P.types.size)=true)
  (hres:fn.resultTypes=#[tb]) (htb:P.underlying tb=some .bool) (hvars:r.vars=[]) (hfn:∀ ds:List (DataW H),ds.length=fn.params.size->r.fn H ds={ results:=[.lit (.bool true)],args:=ds })
  {W:World} {base:Nat} {args:Array Value} {ds gs:List (DataW H)} {before:List MemPlace} (hval:∀ (j:Nat) t v,fn.params[j]?=some t->args[j]?=some v->Value.okWide P W .any base t v)
  (hW:DataW.Whole enc P fn.params.toList r.vars apart W args.toList ds gs before)
  (hwt:(DataW.weightsEach P (fn.params.toList++r.plain.varTypes P) (ds++gs)).all (·<=reachBytes)=true) (hLd:Laid W) :
  Calls P f args W fun e W'=>∃ v,e=.returned v/\r.post enc P fn apart fresh handsOn again W args v W' :=
 xW (pre:=m6 Ts) hok hl hfit hrec hres htb hvars hfn hval hW hwt hLd fun _ h _=>h
end
end
section
open Go Go.ChangeShapes Go.WideShapes Go.ChangeAt Go.RowKit
abbrev qP : List (String × DataW Unit) := [("math/bits.deBruijn32tab", Rows.laid_math_bits_deBruijn32tab), ("math/bits.deBruijn64tab", Rows.laid_math_bits_deBruijn64tab), ("internal/strconv.uint64pow10", Rows.laid_internal_strconv_uint64pow10), ("unicode/utf8.acceptRanges", Rows.laid_unicode_utf8_acceptRanges), ("cairnfield/play.forms", Rows.laid_cairnfield_play_forms), ("strconv.ErrRange", Rows.laid_strconv_ErrRange), ("strconv.ErrSyntax", Rows.laid_strconv_ErrSyntax), ("unicode/utf8.first", Rows.laid_unicode_utf8_first)]
theorem M5 (os:Os) (args:Array Value):laidMetH Tryz.prog qP ((World.laidAll Tryz.prog os qP).forCall (fun _ _=>0) ⟨#[],args,[]⟩).memory:=by
 rw [MakeChecks.laidMetH_plain _ _ _ (by kernel_rfl)];exact laidMet_laidAll _ (by kernel_rfl) (by kernel_rfl)
theorem Nb {H:Type} {enc:TypeId×Value->H} {P:Program} {w:World} {base:Nat} {sp:Nat->Bool} {held:Bool} {fuel:Nat} {t e:TypeId} {n:Nat} {cs:List Value} {bs:List Bool} {p:List MemPlace}
  (ht:P.underlying t=some (.array n e)) (he:P.underlying e=some .bool) (hce:P.cellsOf e=1) (hct:P.cellsOf t=n)
  (h:DataW.trod enc P w base sp held fuel t cs=some (.agg (bs.map fun b=>.lit (.bool b)),p)):cs=bs.map Value.bool:=by
 obtain ⟨xs,m,rfl,hx,hl,hn,hel⟩:=DataW.trod_array ht h
 have hxs:xs.map (·.1)=bs.map fun b=>(DataW.lit (.bool b):DataW H):=by
  have:=congrArg Prod.fst hx;simpa using this.symm
 have hbl:bs.length=n:=by
  have:=congrArg List.length hxs;simp at this;omega
 apply Sq;intro i;by_cases hi:i<n
 ·have h1:=hel i hi;rw [hce,R3,List.getElem?_eq_getElem (by omega)] at h1;obtain ⟨b,hb,he1⟩:=DataW.trod_bool he h1
  have h2:cs[i]?=some (.bool b):=by
   have:=congrArg (·[0]?) hb;simpa [List.getElem?_take,List.getElem?_drop] using this
  have h3:(xs.map (·.1))[i]?=some (DataW.lit (.bool b):DataW H):=by
   rw [List.getElem?_map,List.getElem?_eq_getElem (by omega),he1];rfl
  rw [hxs] at h3;simp only [List.getElem?_map,Dm,DataW.lit.injEq,Lit.bool.injEq] at h3;obtain ⟨b',hb',rfl⟩:=h3;simp [h2,hb']
 ·rw [List.getElem?_eq_none (by omega),List.getElem?_eq_none (by simp; omega)]
theorem KP {H:Type} {enc:TypeId×Value->H} {P:Program} {w:World} {base:Nat} {sp:Nat->Bool} {held:Bool} {fuel:Nat} {t u e:TypeId} {n k:Nat} {cs:List Value} {bss:List (List Bool)} {p:List MemPlace}
  (ht:P.underlying t=some (.array n u)) (hu:P.underlying u=some (.array k e)) (he:P.underlying e=some .bool) (hce:P.cellsOf e=1) (hcu:P.cellsOf u=k)
  (h:DataW.trod enc P w base sp held fuel t cs=some (.agg (bss.map fun bs=>.agg (bs.map fun b=>.lit (.bool b))),p)) (i:Nat) (bs:List Bool) (hi:bss[i]?=some bs):(cs.drop (i * k)).take k=bs.map Value.bool:=by
 obtain ⟨xs,m,rfl,hx,hl,hn,hel⟩:=DataW.trod_array ht h
 have hxs:xs.map (·.1)=bss.map fun bs=>(DataW.agg (bs.map fun b=>.lit (.bool b)):DataW H):=by
  have:=congrArg Prod.fst hx;simpa using this.symm
 have hbl:bss.length=n:=by
  have:=congrArg List.length hxs;simp at this;omega
 have hin:i<n:=by
  have:=(List.getElem?_eq_some_iff.1 hi).1;omega
 have h1:=hel i hin;rw [hcu,List.getElem?_eq_getElem (by omega)] at h1
 have h3:(xs[i]'(by omega)).1=DataW.agg (bs.map fun b=>.lit (.bool b)):=by
  have:(xs.map (·.1))[i]?=some (xs[i]'(by omega)).1:=by rw [List.getElem?_map,List.getElem?_eq_getElem (by omega)]; rfl
  rw [hxs,List.getElem?_map,hi] at this;simpa using this.symm
 exact Nb (p:=(xs[i]'(by omega)).2) hu he hce hcu (h1.trans (by rw [<- h3]))
theorem Og {H:Type} {enc:TypeId×Value->H} {P:Program} {w:World} {base:Nat} {sp:Nat->Bool} {held:Bool} {fuel:Nat} {t e:TypeId} {k:IntKind} {n:Nat} {cs:List Value} {vs:List Int} {p:List MemPlace}
  (ht:P.underlying t=some (.array n e)) (he:P.underlying e=some (.int k)) (hce:P.cellsOf e=1) (hct:P.cellsOf t=n)
  (h:DataW.trod enc P w base sp held fuel t cs=some (.agg (vs.map fun v=>.lit (.int k v)),p)):cs=vs.map (Value.int k):=by
 obtain ⟨xs,m,rfl,hx,hl,hn,hel⟩:=DataW.trod_array ht h
 have hxs:xs.map (·.1)=vs.map fun v=>(DataW.lit (.int k v):DataW H):=by
  have:=congrArg Prod.fst hx;simpa using this.symm
 have hbl:vs.length=n:=by
  have:=congrArg List.length hxs;simp at this;omega
 apply Sq;intro i;by_cases hi:i<n
 ·have h1:=hel i hi;rw [hce,R3,List.getElem?_eq_getElem (by omega)] at h1;obtain ⟨b,hb,he1,_⟩:=DataW.trod_int he h1
  have h2:cs[i]?=some (.int k b):=by
   have:=congrArg (·[0]?) hb;simpa [List.getElem?_take,List.getElem?_drop] using this
  have h3:(xs.map (·.1))[i]?=some (DataW.lit (.int k b):DataW H):=by
   rw [List.getElem?_map,List.getElem?_eq_getElem (by omega),he1];rfl
  rw [hxs] at h3;simp only [List.getElem?_map,Dm,DataW.lit.injEq,Lit.int.injEq,Sb] at h3;obtain ⟨b',hb',rfl⟩:=h3;simp [h2,hb']
 ·rw [List.getElem?_eq_none (by omega),List.getElem?_eq_none (by simp; omega)]
theorem MC {H:Type} {enc:TypeId×Value->H} {P:Program} {w:World} {base:Nat} {sp:Nat->Bool} {held:Bool} {fuel:Nat} {t:TypeId} {ms} {cs:List Value} {nm:String} {d:DataW H} {p:List MemPlace}
  (ht:P.underlying t=some (.interface ms)) (h:DataW.trod enc P w base sp held fuel t cs=some (.iface nm d,p)):∃ u v,cs=[.iface u v]:=by
 cases fuel with
 | zero=>simp [DataW.trod] at h
 | succ n =>
  unfold DataW.trod at h;rw [ht] at h;split at h <;> simp_all
theorem FR:∀ t∈(List.zip (List.range 56) formsB.flatten).map (fun x=>((0,x.1,.bool x.2):Nat×Nat×Value)),t.1=0/\∃ i j bs b,t.2.1=4 * i+j/\j<4/\formsB[i]?=some bs/\bs[j]?=some b/\t.2.2=.bool b:=by
 intro t ht;obtain ⟨x,hx,rfl⟩:=QR.1 ht
 have key:∀ x∈List.zip (List.range 56) formsB.flatten,∃ bs b,formsB[x.1 / 4]?=some bs/\bs[x.1 % 4]?=some b/\x.2=b:=by
  intro x hx;have hall:((List.zip (List.range 56) formsB.flatten).all fun x=>decide ((formsB[x.1 / 4]?.bind fun bs=>bs[x.1 % 4]?)=some x.2))=true:=by decide +kernel
  have:=tM (Qy.1 hall x hx);obtain ⟨bs,h1,h2⟩:=Option.bind_eq_some_iff.1 this;exact ⟨bs,x.2,h1,h2,rfl⟩
 obtain ⟨bs,b,h1,h2,h3⟩:=key x hx;exact ⟨rfl,x.1 / 4,x.1 % 4,bs,b,(by simp only; omega),Nat.mod_lt _ (by omega),h1,h2,by rw [h3]⟩
theorem Lg {P:Program} {w:World} {n:String} {g:Nat} {cs:Array Value} (hg:P.globalNamed n=some g) (h:w.var? P n=some cs):∃ t fz,w.heap[g]?=some (.cells cs t fz):=by
 simp only [World.var?,hg,Sg] at h;split at h <;> simp_all
theorem Of {W:World} (h:laidMetH Tryz.prog qP W):Laid W:=by
 rw [MakeChecks.laidMetH_plain _ _ _ (by kernel_rfl)] at h;obtain ⟨ps,⟨_,_,_,_,_,_,_,_,_,_,⟨_,_,_,_,_,_,_,_,_,_,⟨g1,t1,cs1,f1,p1,q1,hg1,ht1,hv1,hZ,⟨_,_,_,_,_,_,_,_,_,_,⟨g0,t0,cs0,f0,p0,q0,hg0,ht0,hv0,hd0,⟨g4,t4,cs4,f4,p4,q4,hg4,ht4,hv4,hd4,⟨g3,t3,cs3,f3,p3,q3,hg3,ht3,hv3,hd3,_,_⟩,_⟩,_⟩,_⟩,_⟩,_⟩,_⟩,_,_⟩:=h;have k0 : Tryz.prog.globalNamed "cairnfield/play.forms" = some 0 := by kernel_rfl
 have k1 : Tryz.prog.globalNamed "internal/strconv.uint64pow10" = some 1 := by kernel_rfl
 have k3 : Tryz.prog.globalNamed "strconv.ErrSyntax" = some 3 := by kernel_rfl
 have k4 : Tryz.prog.globalNamed "strconv.ErrRange" = some 4 := by kernel_rfl
 have y0:(Tryz.prog.globals[0]?).map (·.type)=some 219:=by kernel_rfl
 have y1:(Tryz.prog.globals[1]?).map (·.type)=some 353:=by kernel_rfl
 have y3:(Tryz.prog.globals[3]?).map (·.type)=some 314:=by kernel_rfl
 have y4:(Tryz.prog.globals[4]?).map (·.type)=some 314:=by kernel_rfl
 obtain rfl:=RA (k0.symm.trans hg0);obtain rfl:=RA (y0.symm.trans ht0);obtain rfl:=RA (k1.symm.trans hg1);obtain rfl:=RA (y1.symm.trans ht1);obtain rfl:=RA (k3.symm.trans hg3);obtain rfl:=RA (y3.symm.trans ht3);obtain rfl:=RA (k4.symm.trans hg4);obtain rfl:=RA (y4.symm.trans ht4)
 have err:∀ {g:Nat} {n:String} {cs:Array Value} {f:Nat} {nm:String} {d:DataW Unit} {p:List MemPlace},Tryz.prog.globalNamed n=some g->W.var? Tryz.prog n=some cs ->
   DataW.trod (fun _=>()) Tryz.prog W 0 (fun _=>true) false f 314 cs.toList=some (.iface nm d,p)->Go.Proofs.YtmfileeamnfpaaaGreatDoor.fits W g 0 .nilIface:=fun hg hv hd=>by
  obtain ⟨u,v,e⟩:=MC Tryz.underlying314 hd;refine ⟨u,v,?_⟩;rw [World.var?_cell hg hv 0,<- Array.getElem?_toList,e];rfl
 intro t ht;rcases Qx.1 ht with ht | ht
 ·obtain ⟨e0,i,j,bs,b,e1,hj,hb1,hb2,e2⟩:=FR t ht;have hk:=KP (u:=218) (e:=4) (n:=14) (k:=4) (bss:=formsB) Tryz.underlying219 Tryz.underlying218 Sz (by kernel_rfl) (by kernel_rfl) hd0 i bs hb1;have hc:=World.var?_cell k0 hv0 (4 * i+j);have h4:=congrArg (·[j]?) hk;simp only [List.getElem?_take,List.getElem?_drop,List.getElem?_map,hb2,hj,if_true,Q6] at h4;rw [e0,e1,e2];show W.cell? ⟨0,4 * i+j,none⟩=some (.bool b);rw [hc,<- Array.getElem?_toList,show 4 * i+j=i * 4+j by omega];exact h4
 ·simp only [Qs,RV,Td] at ht;rcases ht with rfl | rfl | rfl
  ·have hi:=Og (e:=45) (k:=.u64) (n:=20) (vs:=(List.range 20).map fun i=>((10 ^ i:Nat):Int)) Tryz.underlying353 Tj (by kernel_rfl) (by kernel_rfl) hZ;obtain ⟨ty,fz,e⟩:=Lg k1 hv1;refine ⟨ty,fz,?_⟩;rw [e];congr 1;congr 1;apply QZ.1;rw [hi];rfl
  ·exact err k3 hv3 hd3
  ·exact err k4 hv4 hd4
end
section
open Go Go.ChangeShapes Go.WideShapes Go.ChangeAt Go.RowKit
theorem topTaped_lifted (os:Os) (started:os.Started) (H:Type) (enc:TypeId×Value->H) :
  ReturnsInHanded {} Tryz.checked os 6 .any (fun w args=>(Rows.topTapedSpec.pre enc Tryz.prog Tryz.f6 Rows.topTapedRow.domain false w args/\laidMetH Tryz.prog Rows.topTapedRow.laid w)/\sizedMet enc Tryz.prog Tryz.f6 (OpenSpec.ofChange Rows.topTapedSpec) false w args) (Rows.topTapedSpec.post enc Tryz.prog Tryz.f6 false true false false):=by
 refine returnsInHanded_of_change_and (C:=Tryz.checked) (X:=fun w _=>laidMetH Tryz.prog Rows.topTapedRow.laid w) (fun _ _ _ hh h=>h.of_heap hh) (by kernel_rfl) started (by kernel_rfl) Tryz.func6
  (ChangeSpec.witness_shaped (enc:=enc) (C:=Tryz.checked) (os:=os) (X:=fun w _=>laidMetH Tryz.prog Rows.topTapedRow.laid w) false (World.laidAll Tryz.prog os qP) #[.int .i64 0,.int .i64 0,.int .i64 0,.slice none 0 0] 8 (World.laidAll_os _ _ _) (World.shaped_of_ZipB (by kernel_rfl) (by kernel_rfl)) (by kernel_rfl) (by kernel_rfl) (by kernel_rfl) (M5 os _)) ?_
 intro W base args ds gs before hval hW _ hwt hL _;refine Bh (P:=Tryz.prog) (fn:=Tryz.f6) (r:=Rows.topTapedSpec) (tb:=4) @vU (by kernel_rfl) (by kernel_rfl) (by kernel_rfl) (by kernel_rfl) Sz rfl ?_ hval hW hwt (Of hL);intro ds hd;have hd2:ds.length=4:=hd.trans (by kernel_rfl)
 match ds,hd2 with
 | [_,_,_,_],_=>rfl
theorem jf_heard:Tryz.prog.stopsHeard=true:=by kernel_rfl
theorem jf_enter:Tryz.prog.mayEnter=true:=by kernel_rfl
theorem jf_lifts:Rows.topTapedRow.lifted=Tryz.prog.liftsFinal:=by kernel_rfl
theorem jf_make:Tryz.prog.make=some Rows.topTapedRow.make:=by kernel_rfl
theorem jf_inpl:Rows.topTapedRow.inPlace=Tryz.prog.inPlace 6:=by kernel_rfl
theorem jf_unf:Rows.topTapedRow.unfollowed=Tryz.prog.unfollowed 6:=by kernel_rfl
theorem jf_rec:Rows.topTapedRow.recurses=Tryz.prog.recurses 6:=by kernel_rfl
theorem jf_named:Rows.topTapedRow.named=Tryz.prog.varsNamed 6:=by kernel_rfl
theorem jf_laid:laidOutB Tryz.prog=true:=by kernel_rfl
theorem jf_rowed:mapsRowed Tryz.prog=true:=by kernel_rfl
theorem jf_closed:joinedFacts Tryz.prog 6 Tryz.f6 Rows.topTapedSpec Rows.topTapedRow=true:=by
 unfold joinedFacts;rw [jf_heard,jf_enter,<- jf_lifts,jf_make,<- jf_inpl,<- jf_unf,<- jf_rec,<- jf_named,jf_laid,jf_rowed]
 kernel_rfl
theorem topTaped_row:Rows.TopTapedSaid :=
 OpenClaim.holds_of_wide 6 Tryz.f6 rfl rfl rfl rfl rfl rfl rfl ⟨rfl,rfl,rfl,rfl,rfl⟩ rfl rfl rfl rfl rfl (by kernel_rfl) Tryz.func6 jf_closed
  (tM (by kernel_rfl)) (by unfold Func.isWrapper; first | (rw [if_pos (by decide +kernel)]; kernel_rfl) | (rw [if_neg (by decide +kernel)]; exact ⟨rfl,rfl⟩))
  (fun os started H enc _=>topTaped_lifted os started H enc)
theorem topTaped_holds:Rows.TopTapedCardSaid :=
 Claim7.holds_tied_plain_at .later [] [.data, .data, .data, .data, .data, .sentinel, .sentinel, .pinned] true (true, "5b5fcb088d53441a6e833e00799296d41432ec9194293cf31ae9f634430e9183") true
  topTaped_row (fun _ h=>by cases h) (by kernel_rfl) (fun _ h=>by cases h) topTaped_row_tie rfl ⟨rfl,rfl⟩ (by kernel_rfl) rfl
  (fun f fn hf hfn=>by
   obtain rfl:f=6:=RA ((show Tryz.prog.funcNamed Rows.topTapedRow.func=some 6 by kernel_rfl).symm.trans hf) |>.symm;obtain rfl:fn=Tryz.f6:=(RA (Tryz.func6.symm.trans hfn)).symm
   exact ⟨by kernel_rfl,fun j t ht=>by
    have hm:t∈Tryz.f6.params:=Array.mem_of_getElem? ht;have hall:(Tryz.f6.params.toList.all fun u=>!Tryz.prog.wantsStandIn u)=true:=by kernel_rfl
    exact (show Tryz.prog.wantsStandIn t=false by simpa using Qy.1 hall t (by simpa using hm))⟩)
  (by kernel_rfl)
end
end Go.Proofs.YtmfileeamnfpaaaGreatDoor
