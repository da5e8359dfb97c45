import Derived.Test.YtmfileeamnfpaaaGreatDoorM3
import Derived.Shelf.Spec.SlicesInsert
import Derived.Shelf.Spec.SlicesInsertGrow
import Derived.Laws.AppendOwn
import Derived.Maps.AppendAt
import Derived.Deep.Upon
import Derived.RangeFuncBox
import Derived.RangeFuncLeaves
import Derived.Shelf.Abstract
import Derived.WalkKit
import Derived.OwnWalkIn
import Derived.TacticsInMore
import Derived.LoopNIn
import Derived.LoopIn
import Derived.ProofKit
import Derived.Deep.Slices
import Derived.SizedLaws
import GoSem.ClaimLeaving
import Derived.Test.YtmfileeamnfpaaaGreatDoorTie
import Derived.Test.YtmfileeamnfpaaaGreatDoorCards
import Derived.LaidMore
import Derived.OpenShut
import Derived.ChangeArms
import Derived.Lay
namespace Go.Proofs.YtmfileeamnfpaaaGreatDoor
open Go
set_option maxRecDepth 100000
set_option maxHeartbeats 1000000
section
def uI:Go.Shelf.Ren:=⟨fun | 21=>173 | 27=>228 | 28=>229 | 35=>256 | 39=>273 | n=>n,fun | 22=>31 | 3=>3 | 4=>4 | 0=>0 | n=>n,fun | n=>n⟩
theorem jS:Go.Proofs.Lays2.n21 Tryz.prog uI where
 mixed:=by kernel_rfl
 f21:=Tryz.func173.trans (congrArg some (by kernel_rfl))
 f27:=Tryz.func228.trans (congrArg some (by kernel_rfl))
 f28:=Tryz.func229.trans (congrArg some (by kernel_rfl))
 f35:=Tryz.func256.trans (congrArg some (by kernel_rfl))
 f39:=Tryz.func273.trans (congrArg some (by kernel_rfl))
 t0:=RG
 a0:=Sv
 z0:=Sa
 v0:=RN
 t3:=RF
 a3:=Su
 z3:=R9
 v3:=RM
 t4:=Rf
 a4:=Sq
 z4:=R8
 v4:=RL
 t22:=Sp
 a22:=Tryz.isAgg31
 z22:=Tryz.sizeOf31
 v22:=Tryz.zeroValue31
 i3:=by kernel_rfl
theorem dh {t:TypeId} (g:Nat):∀ (vs:List Value) (o:Nat) (w:World) (cur:Array Value),w.heap[g]?=some (.cells cur t (0,0))->o+vs.length<=cur.size ->
  (w.setCells g o vs).heap[g]?=some (.cells (cur.toList.take o++vs++cur.toList.drop (o+vs.length)).toArray t (0,0))
 | [],o,w,cur,h,_=>by simp [World.setCells,h]
 | v::vs,o,w,cur,h,hl=>by
  have h1:(w.setCell ⟨g,o,none⟩ v).heap[g]?=some (.cells (cur.setIfInBounds o v) t (0,0)):=by
   have hlt:g<w.heap.size:=(Array.getElem?_eq_some_iff.1 h).1;have hv:w.heap[g]=.cells cur t (0,0):=(Array.getElem?_eq_some_iff.1 h).2;show (w.heap.modify g _)[g]?=_;rw [Array.getElem?_eq_getElem (by rw [Array.size_modify]; exact hlt),Array.getElem_modify_self,hv];rfl
  have hl':o+1+vs.length<=(cur.setIfInBounds o v).size:=by simp at hl |-; omega
  rw [World.setCells,dh g vs (o+1) _ _ h1 hl'];have ho:o<cur.toList.length:=by simp at hl |-; omega
  congr 3;rw [Array.toList_setIfInBounds,List.drop_set_of_lt (by omega),Qh (by simpa using ho),List.take_set_of_le (PP _)];simp [Nat.add_comm 1,Ru]
theorem dD (g:Nat):∀ (vs:List Value) (o:Nat) (w:World),w.grownBy (w.setCells g o vs) (some g)
 | [],_,w=>Se _ _
 | v::vs,o,w=>by
  have h1:w.grownBy (w.setCell ⟨g,o,none⟩ v) (some g):=⟨rfl,rfl,rfl,by simp [World.setCell],fun i hi hne=>by
   have:i≠g:=fun e=>hne (by rw [e])
   show (w.heap.modify g _)[i]?=_;rw [Array.getElem?_modify,if_neg (Ne.symm this)]⟩
  exact h1.trans (dD g vs (o+1) _)
theorem i6 (w:World) (row:Option Nat):w.grownBy w.drew row:=⟨rfl,rfl,rfl,PP _,fun _ _ _=>rfl⟩
theorem lM (w:World) (o:Go.Obj) (row:Option Nat):w.grownBy (w.alloc o) row:=⟨rfl,rfl,rfl,by simp,fun k hk _=>heap_alloc_old w o hk⟩
theorem yi {w w1 w2:World} {N:Nat} {row:Option Nat} (h:w.grownBy w1 row) (k:w1.grownBy w2 (some N)) (hN:w.heap.size<=N):w.grownBy w2 row :=
 ⟨k.os.trans h.os,k.tape.trans h.tape,k.output.trans h.output,P9 h.size k.size,fun i hi hne=>(k.block i (Qz hi h.size) (fun e=>by injection e; omega)).trans (h.block i hi hne)⟩
theorem ON (xs:List Int):∀ v∈xs.map (Value.int .i64),v.oneCell'=true:=by
 intro v hv;obtain ⟨x,_,rfl⟩:=P3.1 hv;rfl
theorem Ng {c0 l l2:List Value} {k m n:Nat} (h0:c0.take k=l.take k) (hl:l.length=n) (hl2:l2.length=m) (hk:k<=n) (hG:n+m<=c0.length) :
  (c0.take k++l2++c0.drop (k+m)).length=c0.length /\
  ((c0.take k++l2++c0.drop (k+m)).take (k+m)++l.drop k++(c0.take k++l2++c0.drop (k+m)).drop (k+m+(l.drop k).length)).length=c0.length /\
  ((c0.take k++l2++c0.drop (k+m)).take (k+m)++l.drop k++(c0.take k++l2++c0.drop (k+m)).drop (k+m+(l.drop k).length)).take (n+m)=l.take k++l2++l.drop k:=by
 have e1:(c0.take k++l2++c0.drop (k+m)).length=c0.length:=by simp; omega
 have e2:(c0.take k++l2++c0.drop (k+m)).take (k+m)=l.take k++l2:=by
  rw [PQ (by simp; omega),PJ (by simp; omega),h0]
 refine ⟨e1,?_,?_⟩
 ·rw [e2]; simp; omega
 ·rw [e2,PQ (by simp; omega),PJ (by simp; omega)]
def ou (xs ys:List Int) (i:Int):List Int:=xs.take i.toNat++ys++xs.drop i.toNat
def sp_insI:RowFn:={ e:=3,T:=ty_I,Ts:=[ty_I],out:=true,tail:=true,pre:=fun (xs:List Int) (ys:List Int) (i:Int)=>0<ys.length/\0<=i/\i<=xs.length/\(xs.length+ys.length) * 8<=aF,F:=fun (xs:List Int) (ys:List Int) (i:Int)=>ou xs ys i }
theorem M5:sp_insI.ok Tryz.prog 173:=by
 intro p w v (xs:List Int) l v2 (ys:List Int) l2 vs (i:Int) _ _ hA hown hl hbig hp hown2 hl2 hne hargs hpre;obtain ⟨hm,hi0,hi1,hb⟩:0<ys.length/\0<=i/\i<=xs.length/\(xs.length+ys.length) * 8<=aF:=hpre;obtain ⟨v1,rfl,hv1⟩:=hargs;have hv1:[v1]=[Value.int .i64 i]/\am .i64 i:=hv1;obtain ⟨hv1,_⟩:=hv1;injection hv1 with hv1
 subst hv1;obtain ⟨k,rfl⟩:∃ k:Nat,i=k:=⟨i.toNat,by omega⟩;have hk:k<=xs.length:=by omega
 obtain ⟨el,hin⟩:=ni hl;obtain ⟨el2,hin2⟩:=ni hl2;have hown':w.ownsRow 0 3 1 v xs.length l:=hown;have hown2':w.ownsRow 0 3 1 v2 ys.length l2:=hown2;have hlen:l.length=xs.length:=by rw [el]; simp
 have hlen2:l2.length=ys.length:=by rw [el2]; simp
 have h1l:∀ v∈l,v.oneCell'=true:=by rw [el]; exact ON xs
 have h1l2:∀ v∈l2,v.oneCell'=true:=by rw [el2]; exact ON ys
 have eF:(sp_insI.F xs ys (k:Int):List Int)=xs.take k++ys++xs.drop k:=by show ou xs ys k=_; simp [ou]
 have hFl:(xs.take k++ys++xs.drop k).length=xs.length+ys.length:=by simp; omega
 have hrow:aM (ty_I.holds p) (xs.take k++ys++xs.drop k) ((xs.take k++ys++xs.drop k).map (Value.int .i64)):=lc (fun y hy=>by
  rcases PI.1 hy with hy | hy
  ·rcases PI.1 hy with hy | hy
   ·exact hin y (QF hy)
   ·exact hin2 y hy
  ·exact hin y (QB hy))
 have emap:(xs.take k++ys++xs.drop k).map (Value.int .i64)=l.take k++l2++l.drop k:=by rw [el,el2]; simp [List.map_take,List.map_drop]
 have hb8:(xs.take k++ys++xs.drop k).length * 8<=aF:=by rw [hFl]; exact hb
 have hbn:(xs.length+ys.length) * 8<=140737488355328:=hb
 have done:∀ (v':Value) (w':World) (e:Ending),e=.returned v'->w.grownBy w' v.ownBlock->w'.ownsRow 0 3 1 v' (xs.length+ys.length) (l.take k++l2++l.drop k)->(∀ b,v'.ownBlock=some b->v.ownBlock=some b\/w.heap.size<=b) ->
   ∃ (v':Value) (l':List Value),e=.returned (if sp_insI.out then v' else .tuple #[])/\(sp_insI.out=false->v'=v)/\w.grownBy w' v.ownBlock /\
   w'.ownsRow 0 sp_insI.e sp_insI.T.size v' (sp_insI.F xs ys (k:Int):List Int).length l'/\aM (sp_insI.T.holds p) (sp_insI.F xs ys (k:Int)) l'/\(sp_insI.F xs ys (k:Int):List Int).length * sp_insI.T.bytes<=aF /\
   ∀ b,v'.ownBlock=some b->v.ownBlock=some b\/w.heap.size<=b:=by
  intro v' w' e he hg ho hbk;rw [eF];refine ⟨v',_,he,fun h=>(by cases h),hg,?_,hrow,hb8,hbk⟩
  have ho2:w'.ownsRow 0 3 1 v' (xs.take k++ys++xs.drop k).length ((xs.take k++ys++xs.drop k).map (Value.int .i64)):=by
   rw [hFl,emap];exact ho
  exact ho2
 rcases hown2'.2 with ⟨_,h0⟩ | ⟨g2,cap2,cur2,rfl,_,hb2,h21,h22,h23,h24⟩
 ·omega
 have hvs:∀ (j:Nat) (u:Value),l2[j]?=some u->w.cell? ⟨g2,0+j,none⟩=some u:=by
  intro j u hj
  have:cur2.toList[j]?=some u:=by
   rw [<- h24,List.getElem?_take] at hj;split at hj
   ·exact hj
   ·cases hj
  simp only [World.cell?,hb2,Qg];simpa using this
 have new:∀ (G:Nat) (W:World) (cs:List Value),W.heap[w.heap.size]?=some (.cells cs.toArray 3 (0,0))->xs.length+ys.length<=G->G<=maxLen->cs.length=G->cs.take (xs.length+ys.length)=l.take k++l2++l.drop k ->
   W.ownsRow 0 3 1 (.slice (some ⟨w.heap.size,0,none⟩) (xs.length+ys.length) G) (xs.length+ys.length) (l.take k++l2++l.drop k):=by
  intro G W cs hW h1 h2 h3 h4;refine ⟨by simp [hlen,hlen2]; omega,.inr ⟨w.heap.size,G,_,rfl,Qa _,hW,h1,h2,by simp [h3],?_⟩⟩;rw [QH];exact h4
 have hz:(Value.int .i64 0).cells.size=1:=rfl;rcases hown'.2 with ⟨rfl,h0⟩ | ⟨g,cap,cur,rfl,_,hbg,h1,h2,h3,h4⟩
 ·
  have hx:l=[]:=PO (by omega);have hk0:k=0:=by omega
  subst hk0 hx;refine (Any2.slices_Insert_int_end_grow jS none 0 0 g2 0 ys.length cap2 [] l2 w hm (PP _) (by omega) (by omega) rfl hlen2 (fun _=>rfl) (fun a h=>by cases h) hvs h1l2).mono ?_;rintro e w' ⟨rfl,rfl⟩;show ∃ (v':Value) (l':List Value),Ending.returned (.slice (some ⟨w.heap.size,0,none⟩) (0+ys.length) (grownCap w (0+ys.length) 0 3))=_/\_/\w.grownBy (w.drew.alloc (.cells (([]++l2).toArray++Builtin.zeroCells (Value.int .i64 0).cells (grownCap w (0+ys.length) 0 3 - (0+ys.length))) 3)) _/\(w.drew.alloc (.cells (([]++l2).toArray++Builtin.zeroCells (Value.int .i64 0).cells (grownCap w (0+ys.length) 0 3 - (0+ys.length))) 3)).ownsRow _ _ _ _ _ _/\_;have hge:=grownCap_ge w (0+ys.length) 0 3;have hle:=Sd w (0+ys.length) 0 3 (by unfold maxLen; omega);generalize grownCap w (0+ys.length) 0 3=G at *;have hnew:=new G (w.drew.alloc (.cells (([]++l2).toArray++Builtin.zeroCells (Value.int .i64 0).cells (G - (0+ys.length))) 3)) (l2++(Builtin.zeroCells (Value.int .i64 0).cells (G - (0+ys.length))).toList) (by rw [show w.heap.size=w.drew.heap.size from rfl,QO]; simp) (by omega) hle (by simp [size_zeroCells,hz,hlen2]; omega) (by rw [h0,Qg,<- hlen2]; simp);refine done _ _ _ rfl ((i6 w _).trans (lM _ _ _)) ?_ (fun b h=>.inr (by have h:some w.heap.size=some b:=h; injection h with h; omega));rw [h0] at hnew |-;exact hnew
 have h3:cur.size=cap:=by rw [h3,QH]
 have h4:cur.toList.take xs.length=l:=by rw [QH] at h4; exact h4
 have hgs:g<w.heap.size:=(Array.getElem?_eq_some_iff.1 hbg).1
 have hcs:∀ (j:Nat) (u:Value),l[j]?=some u->w.cell? ⟨g,0+j,none⟩=some u:=by
  intro j u hj
  have:cur.toList[j]?=some u:=by
   rw [<- h4,List.getElem?_take] at hj;split at hj
   ·exact hj
   ·cases hj
  simp only [World.cell?,hbg,Qg];simpa using this
 have hvb:g2≠g:=fun e=>hne g rfl (by rw [e]; rfl)
 have hfz:∀ j,w.frozen? ⟨g,j,none⟩=false:=fun j=>by simp [World.frozen?,hbg]
 have hfz2:∀ j,w.frozen? ⟨g2,j,none⟩=false:=fun j=>by simp [World.frozen?,hb2]
 have hsp:∀ j,j<cap->(w.cell? ⟨g,j,none⟩).isSome=true:=fun j hj=>by
  simp only [World.cell?,hbg];simp [h3,hj]
 have hcap:cap<=9223372036854775807:=by unfold maxLen at h2; omega
 have grow0:=grownCap_ge w (xs.length+ys.length) cap 3;have growM:=Sd w (xs.length+ys.length) cap 3 (by unfold maxLen; omega);by_cases hroom:xs.length+ys.length<=cap
 ·
  have fin:∀ (W:World) (cs:List Value),w.grownBy W (some g)->W.heap[g]?=some (.cells cs.toArray 3 (0,0))->cs.length=cap->cs.take (xs.length+ys.length)=l.take k++l2++l.drop k ->
    ∃ (v':Value) (l':List Value),Ending.returned (.slice (some ⟨g,0,none⟩) (xs.length+ys.length) cap)=.returned (if sp_insI.out then v' else .tuple #[])/\(sp_insI.out=false->v'=.slice (some ⟨g,0,none⟩) xs.length cap)/\w.grownBy W (Value.slice (some ⟨g,0,none⟩) xs.length cap).ownBlock /\
    W.ownsRow 0 sp_insI.e sp_insI.T.size v' (sp_insI.F xs ys (k:Int):List Int).length l'/\aM (sp_insI.T.holds p) (sp_insI.F xs ys (k:Int)) l'/\(sp_insI.F xs ys (k:Int):List Int).length * sp_insI.T.bytes<=aF /\
    ∀ b,v'.ownBlock=some b->(Value.slice (some ⟨g,0,none⟩) xs.length cap).ownBlock=some b\/w.heap.size<=b:=by
   intro W cs hgW hW hcl ht;refine done _ _ _ rfl hgW ⟨by simp [hlen,hlen2]; omega,.inr ⟨g,cap,_,rfl,Qa _,hW,hroom,h2,by simp [hcl],?_⟩⟩ (fun b h=>.inl h);rw [QH];exact ht
  have hlc:cur.toList.length=cap:=by simpa using h3
  by_cases hkn:k=xs.length
  ·subst hkn;refine (Any2.slices_Insert_int_end_room jS g 0 xs.length cap g2 0 ys.length cap2 l2 w hm hroom hcap hlen2 (fun j hj=>by rw [Qg]; exact hsp _ (by omega)) (fun j _=>hfz _) hvs h1l2).mono ?_;rintro e w' ⟨rfl,rfl⟩;have hh:=dh g l2 (0+xs.length) w cur hbg (by omega);refine fin _ _ (dD g l2 _ w) hh (by simp; omega) ?_;rw [Qg,h4,PT,<- PT,PQ (by simp; omega),PJ (by simp; omega),PJ (by omega),P7 (by omega),Qi]
  ·refine (Any2.slices_Insert_int_shift jS g 0 xs.length cap k g2 0 ys.length cap2 l l2 w (by omega) hm hroom hcap hvb hlen hlen2 hcs (fun j hj=>by rw [Qg]; exact hsp _ (by omega)) (fun j _=>by rw [Qg]; exact hfz _) hvs h1l h1l2 3 3 cur2.size cur.size (by simp [World.shape?,hb2]) (by simp [World.shape?,hbg]) (by omega) (hfz2 _) (hfz2 _)).mono ?_;rintro e w' ⟨rfl,rfl⟩;have hh1:=dh g (l.drop k) (0+(k+ys.length)) w.drew cur hbg (by simp; omega);have hh2:=dh g l2 (0+k) _ _ hh1 (by simp; omega);refine fin _ _ (((i6 w _).trans (dD g _ _ _)).trans (dD g _ _ _)) hh2 (by simp; omega) ?_
   have e1:(cur.toList.take (k+ys.length)++l.drop k++cur.toList.drop (k+ys.length+(l.drop k).length)).take k=l.take k:=by
    rw [PT,PQ (by simp; omega),QQ,QP (by omega),<- h4,QQ,QP hk]
   have e2:(cur.toList.take (k+ys.length)++l.drop k++cur.toList.drop (k+ys.length+(l.drop k).length)).drop (k+ys.length)=l.drop k++cur.toList.drop (k+ys.length+(l.drop k).length):=by
    rw [PT,R5 (by simp; omega),P7 (by simp; omega),P0]
   simp only [Qg,hlen2];rw [e1,e2,<- PT,PQ (by simp; omega),PJ (by simp; omega)]
 ·
  have hroom:cap<xs.length+ys.length:=by omega
  by_cases hkn:k=xs.length
  ·subst hkn
   refine (Any2.slices_Insert_int_end_grow jS (some ⟨g,0,none⟩) xs.length cap g2 0 ys.length cap2 l l2 w hm h1 hroom hbn hlen hlen2 (fun h=>by cases h) (fun a h j u hj=>by
    injection h with h
    subst h;have:=hcs j u hj;simpa [RX] using this) hvs h1l2).mono ?_
   rintro e w' ⟨rfl,rfl⟩;show ∃ (v':Value) (l':List Value),Ending.returned (.slice (some ⟨w.heap.size,0,none⟩) (xs.length+ys.length) (grownCap w (xs.length+ys.length) cap 3))=_/\_/\w.grownBy (w.drew.alloc (.cells ((l++l2).toArray++Builtin.zeroCells (Value.int .i64 0).cells (grownCap w (xs.length+ys.length) cap 3 - (xs.length+ys.length))) 3)) _/\(w.drew.alloc (.cells ((l++l2).toArray++Builtin.zeroCells (Value.int .i64 0).cells (grownCap w (xs.length+ys.length) cap 3 - (xs.length+ys.length))) 3)).ownsRow _ _ _ _ _ _/\_;refine done _ _ _ rfl ((i6 w _).trans (lM _ _ _)) ?_ (fun b h=>.inr (by have h:some w.heap.size=some b:=h; injection h with h; omega));refine new _ _ ((l++l2)++(Builtin.zeroCells (Value.int .i64 0).cells (grownCap w (xs.length+ys.length) cap 3 - (xs.length+ys.length))).toList) (by rw [show w.heap.size=w.drew.heap.size from rfl,QO]; simp) grow0 growM (by simp [size_zeroCells,hz,hlen,hlen2]; omega) ?_;rw [PQ (by simp; omega),PJ (by simp; omega),PJ (by omega),P7 (by omega),Qi]
  ·refine (Any2.slices_Insert_int_grow jS g 0 xs.length cap k g2 0 ys.length cap2 l l2 w (by omega) hm h1 hroom hbn hlen hlen2 hcs hvs h1l h1l2).mono ?_;rintro e w' ⟨rfl,rfl⟩;show ∃ (v':Value) (l':List Value),Ending.returned (.slice (some ⟨w.heap.size,0,none⟩) (xs.length+ys.length) (grownCap w (xs.length+ys.length) cap 3))=_/\_/\w.grownBy ((((w.alloc (.cells ((l.take k).toArray++Builtin.zeroCells (Value.int .i64 0).cells (xs.length+ys.length - k)++Builtin.zeroCells (Value.int .i64 0).cells (grownCap w (xs.length+ys.length) cap 3 - (xs.length+ys.length))) 3)).drew.setCells w.heap.size k l2).drew).setCells w.heap.size (k+ys.length) (l.drop k)) _/\((((w.alloc (.cells ((l.take k).toArray++Builtin.zeroCells (Value.int .i64 0).cells (xs.length+ys.length - k)++Builtin.zeroCells (Value.int .i64 0).cells (grownCap w (xs.length+ys.length) cap 3 - (xs.length+ys.length))) 3)).drew.setCells w.heap.size k l2).drew).setCells w.heap.size (k+ys.length) (l.drop k)).ownsRow _ _ _ _ _ _/\_;generalize hAd:(l.take k).toArray++Builtin.zeroCells (Value.int .i64 0).cells (xs.length+ys.length - k)++Builtin.zeroCells (Value.int .i64 0).cells (grownCap w (xs.length+ys.length) cap 3 - (xs.length+ys.length))=A;have hAl:A.toList=l.take k++((Builtin.zeroCells (Value.int .i64 0).cells (xs.length+ys.length - k)).toList++(Builtin.zeroCells (Value.int .i64 0).cells (grownCap w (xs.length+ys.length) cap 3 - (xs.length+ys.length))).toList):=by rw [<- hAd]; simp
   have hAn:A.toList.length=grownCap w (xs.length+ys.length) cap 3:=by rw [hAl]; simp [size_zeroCells,hz,hlen]; omega
   have hAk:A.toList.take k=l.take k:=by
    rw [hAl,PQ (by simp; omega),QQ,Nat.min_self]
   obtain ⟨q1,q2,q3⟩:=Ng (c0:=A.toList) hAk hlen hlen2 hk (by omega);have hc0:(w.alloc (.cells A 3)).heap[w.heap.size]?=some (.cells A 3 (0,0)):=QO w _;have hAs:A.size=grownCap w (xs.length+ys.length) cap 3:=by simpa using hAn
   have hh1:=dh w.heap.size l2 k (w.alloc (.cells A 3)).drew A hc0 (by omega);rw [hlen2] at hh1;have hh2:=dh w.heap.size (l.drop k) (k+ys.length) (((w.alloc (.cells A 3)).drew.setCells w.heap.size k l2).drew) _ hh1 (by rw [Qx,q1,hAn]; simp; omega);refine done _ _ _ rfl (yi ((yi ((lM w _ _).trans (i6 _ _)) (dD _ _ _ _) (PP _)).trans (i6 _ _)) (dD _ _ _ _) (PP _)) (new _ _ _ hh2 grow0 growM (by rw [<- hAn]; exact q2) q3) (fun b h=>.inr (by have h:some w.heap.size=some b:=h; injection h with h; omega))
end
section
def gg (l:List Int) (x:Int):List Int:=if cu l x=true then l else ou l [x] (ii l x)
theorem x8 (x:Int):∀ (n:List Int),n.Pairwise (·<·)->(∀ y∈n.take (n.filter fun y=>decide (y<x)).length,y<x)/\∀ y∈n.drop (n.filter fun y=>decide (y<x)).length,x<=y
 | [],_=>⟨fun y hy=>by simp at hy,fun y hy=>by simp at hy⟩
 | z::l,h=>by
  obtain ⟨h1,h2⟩:=Qe.1 h;by_cases hz:z<x
  ·rw [Qj (by simpa using hz)];obtain ⟨k1,k2⟩:=x8 x l h2;refine ⟨fun y hy=>?_,fun y hy=>k2 y (by simpa using hy)⟩;rcases PD.1 (by simpa using hy) with e | hy
   ·rw [e]; exact hz
   ·exact k1 y hy
  ·have e:l.filter (fun y=>decide (y<x))=[]:=by
    rw [List.filter_eq_nil_iff];intro y hy;have:=h1 y hy;simp; omega
   rw [Qy (by simpa using hz),e];refine ⟨fun y hy=>by simp at hy,fun y hy=>?_⟩;rcases PD.1 (by simpa using hy) with e | hy
   ·omega
   ·have:=h1 y hy;omega
theorem un {n:List Int} {x:Int} (hn:n.Pairwise (·<·)) (hr:∀ y∈n,0<=y/\y<=255) (hx:0<=x/\x<=255):fa (n++[x]) 256=gg n x:=by
 unfold gg;by_cases hi:cu n x=true
 ·rw [if_pos hi];refine gP (fE _ _) hn (fun y=>?_);rw [eq];constructor
  ·rintro ⟨_,_,hy⟩;rcases PI.1 hy with hy | hy
   ·exact hy
   ·rw [PB.1 hy]; exact bi.1 hi
  ·intro hy;have:=hr y hy;exact ⟨by omega,by omega,by simp [hy]⟩
 ·rw [if_neg hi];obtain ⟨k1,k2⟩:=x8 x n hn;have hnx:¬ x∈n:=fun h=>hi (bi.2 h)
  have e:ou n [x] (ii n x)=n.take (n.filter fun y=>decide (y<x)).length++[x]++n.drop (n.filter fun y=>decide (y<x)).length:=by simp [ou,ii]
  rw [e];generalize (n.filter fun y=>decide (y<x)).length=k at *
  have hpw:(n.take k++[x]++n.drop k).Pairwise (·<·):=by
   rw [RC,RC];have hn2:=hn;rw [<- Qr k n,RC] at hn2
   have hlt:∀ y∈n.drop k,x<y:=fun y hy=>by
    have h1:=k2 y hy;have h2:y≠x:=fun e=>hnx (e ▸ QB hy)
    omega
   refine ⟨⟨hn2.1,List.pairwise_singleton _ _,fun y hy z hz=>by rw [PB.1 hz]; exact k1 y hy⟩,hn2.2.1,fun y hy z hz=>?_⟩;rcases PI.1 hy with hy | hy
   ·exact hn2.2.2 y hy z hz
   ·rw [PB.1 hy]; exact hlt z hz
  refine gP (fE _ _) hpw (fun y=>?_);rw [eq]
  have hm:y∈n.take k++[x]++n.drop k ↔ y∈n\/y=x:=by
   have:y∈n ↔ y∈n.take k\/y∈n.drop k:=by rw [<- PI,Qr]
   rw [this,PI,PI,PB];constructor
   ·rintro ((h | h) | h)
    ·exact .inl (.inl h)
    ·exact .inr h
    ·exact .inl (.inr h)
   ·rintro ((h | h) | h)
    ·exact .inl (.inl h)
    ·exact .inr h
    ·exact .inl (.inr h)
  rw [hm,PI,PB];constructor
  ·rintro ⟨_,_,h⟩; exact h
  ·intro h;rcases h with h | h
   ·have:=hr y h; exact ⟨by omega,by omega,.inl h⟩
   ·exact ⟨by omega,by omega,.inr h⟩
end
section
open Go Go.RowKit Go.Lib
set_option maxHeartbeats 4000000 in
set_option maxRecDepth 100000 in
theorem Hw:AW Tryz.prog 35 31 1:=by
 intro w W1 W2 g n c i j hij hj hn hc63 hap hcl;simp only [QH] at hap hcl;have mixed:Tryz.prog.follows .mixedOrders=true:=by kernel_rfl
 have hz1:¬ ((i:Int)=(j:Int)):=by omega
 have hb1:i<=j:=by omega
 have hb2:j<=c:=by omega
 have hb3:i<=c:=by omega
 have hb4:i<=n:=by omega
 have hb5:¬ (c=i+(n - j)):=by omega
 have hb6:i+(n - j)<=n:=by omega
 have e1:n - (i+(n - j))=j - i:=by omega
 have hcl':=fun ty d4=>hcl ty d4
 simp only [<- e1] at hcl';by_cases hcj:c=j
 ·subst hcj;have hnj:n=c:=by omega
  subst hnj;simp only [RR,QU] at hcl' |-
  go_enter Tryz.func35,Tryz.ntmps35
  go_wp2
  go_region_law_o (refine gw rfl _ _ 31 31 rfl (.slice (some ⟨g,0,none⟩) i n) (.slice (some ⟨g,0,none⟩) (n - n) (n - n)) (by simp [Act.eval,Act.put]) (by simp [Act.eval,Act.put]) (hap _ _ _ (.inl trivial)) ?_)
  go_wp2_with (at_builtin; refine wpList_clear_run _ rfl _ _ rfl _ rfl _ _ (hcl' _ _) ?_)
  go_ret
  exact ⟨rfl,rfl⟩
 ·go_enter Tryz.func35,Tryz.ntmps35
  go_wp2
  go_region_law_o (refine gw rfl _ _ 31 31 rfl (.slice (some ⟨g,0,none⟩) i c) (.slice (some ⟨g,j,none⟩) (n - j) (c - j)) (by simp [Act.eval,Act.put]) (by simp [Act.eval,Act.put]) (hap _ _ _ (.inr rfl)) ?_)
  go_wp2_with (at_builtin; refine wpList_clear_run _ rfl _ _ rfl _ rfl _ _ (hcl' _ _) ?_)
  go_ret
  exact ⟨rfl,rfl⟩
def MR:RowFn:=fR 3 ty_I
theorem GY:MR.ok Tryz.prog 35:=Hg (P:=Tryz.prog) (S:=31) (E:=3) (by kernel_rfl) (by kernel_rfl) (fun i z hi hz u hu=>CI (by kernel_rfl) hi hz u hu) Hw
end
section
theorem zd {a g b:List Int} (h:kI (a,g,b)=0):(ai a).2.2=0/\g.Pairwise (·<·)/\b.Pairwise (·<·)/\(∀ y∈g,isB (aa a).1 y=true)/\(∀ y∈b,isB (aa a).1 y=true)/\(∀ y∈g,¬ y∈b)/\∀ y∈b,∀ z∈a8 a y,z∈g\/z∈b:=by
 have hA:kI (a,g,b)=if (ai a).2.2≠0 then (ai a).2.2 else if (aK g&&aK b)=false then 3 else if (g++b).all (isB (aa a).1)=false then 5 else if g.any (cu b)=true then 6 else if b.any (ky (a,g,b))=true then 8 else 0:=rfl
 rw [hA] at h;split at h
 ·rename_i h6; exact absurd h h6
 rename_i h1;split at h
 ·omega
 rename_i h2;split at h
 ·omega
 rename_i h3;split at h
 ·omega
 rename_i h4;split at h
 ·omega
 rename_i h5;have h3:(g++b).all (isB (aa a).1)=true:=by simpa using h3
 have h7:aK g=true/\aK b=true:=by
  cases e1:aK g <;> cases e2:aK b <;> simp_all
 refine ⟨by omega,dX h7.1,dX h7.2,fun y hy=>PA.1 h3 y (PE _ hy),fun y hy=>PA.1 h3 y (PK _ hy),fun y hy hyb=>h4 (Qt.2 ⟨y,hy,bi.2 hyb⟩),fun y hy z hz=>?_⟩;apply Qm;intro hn;apply h5;refine Qt.2 ⟨y,hy,Qt.2 ⟨z,hz,?_⟩⟩;have e1:cu g z=false:=by cases e:cu g z; rfl; exact absurd (.inl (bi.1 e)) hn
 have e2:cu b z=false:=by cases e:cu b z; rfl; exact absurd (.inr (bi.1 e)) hn
 show (!cu g z&&!cu b z)=true;rw [e1,e2];rfl
theorem qL (l:List Int) (x:Int):0<=ii l x/\ii l x<=l.length:=by
 unfold ii;have:=QD (fun y=>decide (y<x)) l;omega
def dU (b:List Int) (g:List Int) (to:Int):List Int:=if dv ([],g,b) to=true then gg g to else g
def d5 (t:vN):vN×Bool×Int :=
 if kI t≠0 then (([],[],[]),false,kI t) else if t.2.1=[] then (t,false,0)
 else ((t.1,(a8 t.1 (t.2.1.getD 0 0)).foldl (dU (gg t.2.2 (t.2.1.getD 0 0))) (t.2.1.drop 1),gg t.2.2 (t.2.1.getD 0 0)),true,0)
structure GoodR (l:List Int):Prop where
 rise:l.Pairwise (·<·)
 range:∀ y∈l,0<=y/\y<=255
theorem GoodR.len {l:List Int} (h:GoodR l):l.length<=256:=iy (h.rise.imp fun h=>by omega) h.range
theorem uo {l:List Int} {x:Int} (h:GoodR l) (hx:0<=x/\x<=255):GoodR (gg l x):=by
 rw [<- un h.rise h.range hx];refine ⟨fE _ _,fun y hy=>?_⟩;have:=eq.1 hy;exact ⟨this.1,by omega⟩
theorem nn (b:List Int):∀ (ns g:List Int),GoodR g->(∀ y∈ns,0<=y/\y<=255)->GoodR (ns.foldl (dU b) g)
 | [],_,h,_=>h
 | y::ns,g,h,hr=>by
  rw [Q1];refine nn b ns _ ?_ fun z hz=>hr z (P1 _ hz)
  unfold dU;split
  ·exact uo h (hr y (by simp))
  ·exact h
def Mh:Nat->Option LoopGen
 | 3000099=>some cU
 | 3000100=>some cU
 | 10004000001=>some cU
 | 11=>some { rd:=[.dat 43 (.arr ty_I),.boxS 1 [.own 45 bo,.own 3 ty_I,.own 3 ty_I]],A:=fun ((ns,t0):List Int×vN)=>{ cs:=[.boxS 1 [.own 45 bo,.own 3 ty_I,.own 3 ty_I],.dat 45 ty_I],inv:=fun ((t,i):vN×Int)=>0<=i/\i<=ns.length/\t=(t0.1,(ns.take i.toNat).foldl (dU t0.2.2) t0.2.1,t0.2.2),mu:=fun ((_,i):vN×Int)=>(ns.length - i).toNat } }
 | _=>none
def Kk:Spec:={ Ts:=[lz],Rs:=[.dat lz,.dat .bool,.dat ty_I],al:=true,pre:=fun (t:vN)=>(t.2.1.length+t.2.2.length+300) * 8<=140737488355328,F:=d5 }
def Cj:Prop :=
  ∀ (x:List Int×List Int×List Int),(fun (v3:type_of% (g7 x.2.1 0 1,x.2.2))=>(fun (v2:type_of% (x.2.1.getD (Int.toNat 0) 0))=>(fun (v1:type_of% (g7 x.2.1 0 1,ou x.2.2 [x.2.1.getD (Int.toNat 0) 0] (ii x.2.2 v2)))=>(fun (v0:type_of% (a8 x.1 v2))=>((x.1.length * 8<=aF/\∀ (x_1:Int),x_1∈x.1->am .u64 x_1)/\(x.2.1.length * 8<=aF/\∀ (x_1:Int),x_1∈x.2.1->am .i64 x_1)/\x.2.2.length * 8<=aF/\∀ (x_1:Int),x_1∈x.2.2->am .i64 x_1)->(x.2.1.length+x.2.2.length+300) * 8<=140737488355328->(x.2.1.length+x.2.2.length) * 8<=140737488355328/\(decide (kI x≠0)=true->(([]:List Int),([]:List Int),([]:List Int))=(d5 x).1/\false=(d5 x).2.1/\kI x=(d5 x).2.2/\True)/\(decide (kI x≠0)=false->∀ (_:Array Value),True/\True/\x.2.1=x.2.1/\x.2.2=x.2.2/\x.2.2=x.2.2/\True/\(decide ((x.2.1.length:Int)=0)=true->x=(d5 x).1/\false=(d5 x).2.1/\0=(d5 x).2.2/\True)/\(decide ((x.2.1.length:Int)=0)=false->(0:Int)<=0/\0<(x.2.1.length:Int)/\Int.toNat 0<x.2.1.length/\((0:Int)<=0/\(0:Int)<1/\1<=(x.2.1.length:Int))/\∀ (_:Array Value),List.Pairwise (fun (x1 x2:Int)=>x1<=x2) x.2.2/\(cu x.2.2 v2=true->True/\((ai x.1).2.2=0/\isB (aa x.1).1 v2=true/\(aC (cL (aa x.1).1) v2).getD (0,0,0,false)=eN x.1 v2)/\((0:Int)<=0/\0<=(v0.length:Int)/\(x.1,g7 x.2.1 0 1,x.2.2)=(x.1,List.foldl (dU v3.2) v3.1 (List.take (Int.toNat 0) v0),v3.2))/\∀ (x_1:(List Int×List Int×List Int)×Int),0<=x_1.2/\x_1.2<=(v0.length:Int)/\x_1.1=(x.1,List.foldl (dU v3.2) v3.1 (List.take x_1.2.toNat v0),v3.2)->(decide (x_1.2<(v0.length:Int))=true->0<=x_1.2/\x_1.2<(v0.length:Int)/\True/\(dv x_1.1 (v0.getD x_1.2.toNat 0)=true->∀ (_:Array Value),List.Pairwise (fun (x1 x2:Int)=>x1<=x2) x_1.1.2.1/\(cu x_1.1.2.1 (v0.getD x_1.2.toNat 0)=true->am .i64 (x_1.2+1)/\(0<=x_1.2+1/\x_1.2+1<=(v0.length:Int)/\x_1.1=(x.1,List.foldl (dU v3.2) v3.1 (List.take (x_1.2+1).toNat v0),v3.2))/\((v0.length:Int) - (x_1.2+1)).toNat<((v0.length:Int) - x_1.2).toNat)/\(cu x_1.1.2.1 (v0.getD x_1.2.toNat 0)=false->(0<[v0.getD x_1.2.toNat 0].length/\0<=ii x_1.1.2.1 (v0.getD x_1.2.toNat 0)/\ii x_1.1.2.1 (v0.getD x_1.2.toNat 0)<=(x_1.1.2.1.length:Int)/\(x_1.1.2.1.length+[v0.getD x_1.2.toNat 0].length) * 8<=aF)/\am .i64 (x_1.2+1)/\(0<=x_1.2+1/\x_1.2+1<=(v0.length:Int)/\(x_1.1.1,ou x_1.1.2.1 [v0.getD x_1.2.toNat 0] (ii x_1.1.2.1 (v0.getD x_1.2.toNat 0)),x_1.1.2.2)=(x.1,List.foldl (dU v3.2) v3.1 (List.take (x_1.2+1).toNat v0),v3.2))/\((v0.length:Int) - (x_1.2+1)).toNat<((v0.length:Int) - x_1.2).toNat))/\(dv x_1.1 (v0.getD x_1.2.toNat 0)=false->am .i64 (x_1.2+1)/\(0<=x_1.2+1/\x_1.2+1<=(v0.length:Int)/\x_1.1=(x.1,List.foldl (dU v3.2) v3.1 (List.take (x_1.2+1).toNat v0),v3.2))/\((v0.length:Int) - (x_1.2+1)).toNat<((v0.length:Int) - x_1.2).toNat))/\(decide (x_1.2<(v0.length:Int))=false->x_1.1=(d5 x).1/\true=(d5 x).2.1/\0=(d5 x).2.2/\True))/\(cu x.2.2 v2=false->(0<[x.2.1.getD (Int.toNat 0) 0].length/\0<=ii x.2.2 v2/\ii x.2.2 v2<=(x.2.2.length:Int)/\(x.2.2.length+[x.2.1.getD (Int.toNat 0) 0].length) * 8<=aF)/\True/\((ai x.1).2.2=0/\isB (aa x.1).1 v2=true/\(aC (cL (aa x.1).1) v2).getD (0,0,0,false)=eN x.1 v2)/\((0:Int)<=0/\0<=(v0.length:Int)/\(x.1,g7 x.2.1 0 1,ou x.2.2 [x.2.1.getD (Int.toNat 0) 0] (ii x.2.2 v2))=(x.1,List.foldl (dU v1.2) v1.1 (List.take (Int.toNat 0) v0),v1.2))/\∀ (x_1:(List Int×List Int×List Int)×Int),0<=x_1.2/\x_1.2<=(v0.length:Int)/\x_1.1=(x.1,List.foldl (dU v1.2) v1.1 (List.take x_1.2.toNat v0),v1.2)->(decide (x_1.2<(v0.length:Int))=true->0<=x_1.2/\x_1.2<(v0.length:Int)/\True/\(dv x_1.1 (v0.getD x_1.2.toNat 0)=true->∀ (_:Array Value),List.Pairwise (fun (x1 x2:Int)=>x1<=x2) x_1.1.2.1/\(cu x_1.1.2.1 (v0.getD x_1.2.toNat 0)=true->am .i64 (x_1.2+1)/\(0<=x_1.2+1/\x_1.2+1<=(v0.length:Int)/\x_1.1=(x.1,List.foldl (dU v1.2) v1.1 (List.take (x_1.2+1).toNat v0),v1.2))/\((v0.length:Int) - (x_1.2+1)).toNat<((v0.length:Int) - x_1.2).toNat)/\(cu x_1.1.2.1 (v0.getD x_1.2.toNat 0)=false->(0<[v0.getD x_1.2.toNat 0].length/\0<=ii x_1.1.2.1 (v0.getD x_1.2.toNat 0)/\ii x_1.1.2.1 (v0.getD x_1.2.toNat 0)<=(x_1.1.2.1.length:Int)/\(x_1.1.2.1.length+[v0.getD x_1.2.toNat 0].length) * 8<=aF)/\am .i64 (x_1.2+1)/\(0<=x_1.2+1/\x_1.2+1<=(v0.length:Int)/\(x_1.1.1,ou x_1.1.2.1 [v0.getD x_1.2.toNat 0] (ii x_1.1.2.1 (v0.getD x_1.2.toNat 0)),x_1.1.2.2)=(x.1,List.foldl (dU v1.2) v1.1 (List.take (x_1.2+1).toNat v0),v1.2))/\((v0.length:Int) - (x_1.2+1)).toNat<((v0.length:Int) - x_1.2).toNat))/\(dv x_1.1 (v0.getD x_1.2.toNat 0)=false->am .i64 (x_1.2+1)/\(0<=x_1.2+1/\x_1.2+1<=(v0.length:Int)/\x_1.1=(x.1,List.foldl (dU v1.2) v1.1 (List.take (x_1.2+1).toNat v0),v1.2))/\((v0.length:Int) - (x_1.2+1)).toNat<((v0.length:Int) - x_1.2).toNat))/\(decide (x_1.2<(v0.length:Int))=false->x_1.1=(d5 x).1/\true=(d5 x).2.1/\0=(d5 x).2.2/\True))))) (a8 x.1 v2)) (g7 x.2.1 0 1,ou x.2.2 [x.2.1.getD (Int.toNat 0) 0] (ii x.2.2 v2))) (x.2.1.getD (Int.toNat 0) 0)) (g7 x.2.1 0 1,x.2.2)
theorem HB:Cj:=by
 unfold Cj;intro ⟨a,g,b⟩ ⟨⟨hb,hw⟩,⟨hbg,hg⟩,hbb,hbl⟩ hsz;unfold aF at hb hbg hbb;simp only at hb hw hbg hg hbb hbl hsz |-;have hF:d5 (a,g,b)=if kI (a,g,b)≠0 then (([],[],[]),false,kI (a,g,b)) else if g=[] then ((a,g,b),false,0) else ((a,(a8 a (g.getD 0 0)).foldl (dU (gg b (g.getD 0 0))) (g.drop 1),gg b (g.getD 0 0)),true,0):=rfl
 refine ⟨by omega,fun h=>?_,fun h tm=>⟨trivial,trivial,trivial,trivial,trivial,trivial,fun h0=>?_,fun h0=>?_⟩⟩
 ·rw [hF,if_pos (Pt h)];exact ⟨rfl,rfl,rfl,trivial⟩
 ·have h0:g=[]:=by
   have:=Pt h0;exact PO (by omega)
  rw [hF,if_neg (Pu h),if_pos h0];exact ⟨by first | rfl | trivial,by first | rfl | trivial,by first | rfl | trivial,trivial⟩
 have h0:g.length≠0:=by have:=Pu h0; omega
 have hne:¬ g=[]:=fun e=>h0 (by rw [e]; rfl)
 rw [hF,if_neg (Pu h),if_neg hne];obtain ⟨hc,hpg,hpb,hgB,hbB,_,_⟩:=zd (by simpa using Pu h:kI (a,g,b)=0);have hgood:GoodR g:=⟨hpg,fun y hy=>cA (hgB y hy)⟩;have hbgood:GoodR b:=⟨hpb,fun y hy=>cA (hbB y hy)⟩;have hm:g.getD (Int.toNat 0) 0∈g:=aH (0:Int) (RQ 0) (by omega);have hib:=hgB _ hm;have hget:=qR (bz a) (g.getD (Int.toNat 0) 0);have hh:(aC (cL (aa a).1) (g.getD (Int.toNat 0) 0)).getD (0,0,0,false)=eN a (g.getD (Int.toNat 0) 0):=by rw [hget,if_pos hib]; rfl
 have hnr:∀ y∈a8 a (g.getD (Int.toNat 0) 0),0<=y/\y<=255:=fun y hy=>cA (jA hw hc hib hy)
 have hcut:g.drop 1=g7 g 0 1:=by simp [g7]
 have hz:g.getD 0 0=g.getD (Int.toNat 0) 0:=rfl;rw [hz,hcut];have hbl2:=hbgood.len
 have hnl:(a8 a (g.getD (Int.toNat 0) 0)).length<=256:=by
  obtain ⟨l1,l2,l3,l4,l5,l6⟩:=bS hib;have hal:=(pP hib).2.2.2.2;unfold a8;rw [Qc];have:=QD (fun v:Int=>decide (v≠0)) (aY a (g.getD (Int.toNat 0) 0));omega
 generalize hx:g.getD (Int.toNat 0) 0=x at *;have hlowb:=qL b x;refine ⟨by omega,by omega,by omega,⟨by omega,by omega,by omega⟩,fun tm=>⟨hpb.imp (fun h=>Int.le_of_lt h),fun hin=>?_,fun hin=>?_⟩⟩
 ·have hp:gg b x=b:=by unfold gg; rw [if_pos hin]
  rw [hp];refine ⟨trivial,⟨hc,hib,hh⟩,?_⟩;generalize a8 a x=ns at *
  have hg0:GoodR (g7 g 0 1):=by
   have e:g7 g 0 1=g.drop 1:=by simp [g7]
   rw [e];exact ⟨hgood.1.sublist (List.drop_sublist 1 g),fun y hy=>hgood.2 y (QB hy)⟩
  have hng:∀ k,GoodR ((ns.take k).foldl (dU b) (g7 g 0 1)):=fun k=>nn b _ _ hg0 fun y hy=>hnr y (QF hy)
  generalize g7 g 0 1=g0 at *;refine ⟨⟨by omega,by omega,by first | rfl | trivial | simp⟩,fun ⟨⟨a1,g1,b1⟩,i⟩ ⟨i0,i1,i2⟩=>⟨fun hlt=>?_,fun hge=>?_⟩⟩
  ·simp only at i0 i1 i2 hlt |-;obtain ⟨e1,i2⟩:=Prod.mk.inj i2;obtain ⟨e2,e3⟩:=Prod.mk.inj i2;subst e1 e3;have hlt:=Pt hlt;have ht:=a7 (0:Int) i0 hlt;have hgi:=hng i.toNat;rw [<- e2] at hgi;have hl:=hgi.len;have hfo:(ns.take (i+1).toNat).foldl (dU b1) g0=dU b1 g1 (ns.getD i.toNat 0):=by rw [ht,Rr,<- e2]; rfl
   rw [hfo];generalize ns.getD i.toNat 0=y at *;have hw0:dv (a1,g1,b1) y=dv ([],g1,b1) y:=rfl;have hlow:=qL g1 y;have hG:dU b1 g1 y=if dv ([],g1,b1) y=true then gg g1 y else g1:=rfl
   rw [hw0,hG];simp only [am];refine ⟨i0,by omega,trivial,fun hwh tm=>⟨hgi.1.imp (fun h=>Int.le_of_lt h),fun hin=>?_,fun hin=>?_⟩,fun hwh=>?_⟩
   ·have e:gg g1 y=g1:=by unfold gg; rw [if_pos hin]
    rw [if_pos hwh,e];exact ⟨by omega,⟨by omega,by omega,by first | rfl | trivial⟩,by omega⟩
   ·have e:gg g1 y=ou g1 [y] (ii g1 y):=by unfold gg; rw [if_neg (by rw [hin]; simp)]
    rw [if_pos hwh,e];exact ⟨⟨by simp,hlow.1,hlow.2,by unfold aF; simp only [Qo]; omega⟩,by omega,⟨by omega,by omega,by first | rfl | trivial⟩,by omega⟩
   ·rw [if_neg (by rw [hwh]; simp)];exact ⟨by omega,⟨by omega,by omega,by first | rfl | trivial⟩,by omega⟩
  ·simp only at i0 i1 i2 hge |-;rw [bE (Pu hge)] at i2;exact ⟨i2,by first | rfl | trivial,by first | rfl | trivial,trivial⟩
 ·have hp:gg b x=ou b [x] (ii b x):=by unfold gg; rw [if_neg (by rw [hin]; simp)]
  rw [hp];refine ⟨⟨by simp,hlowb.1,hlowb.2,by unfold aF; simp only [Qo]; omega⟩,trivial,⟨hc,hib,hh⟩,?_⟩;generalize a8 a x=ns at *;generalize ou b [x] (ii b x)=bb at *
  have hg0:GoodR (g7 g 0 1):=by
   have e:g7 g 0 1=g.drop 1:=by simp [g7]
   rw [e];exact ⟨hgood.1.sublist (List.drop_sublist 1 g),fun y hy=>hgood.2 y (QB hy)⟩
  have hng:∀ k,GoodR ((ns.take k).foldl (dU bb) (g7 g 0 1)):=fun k=>nn bb _ _ hg0 fun y hy=>hnr y (QF hy)
  generalize g7 g 0 1=g0 at *;refine ⟨⟨by omega,by omega,by first | rfl | trivial | simp⟩,fun ⟨⟨a1,g1,b1⟩,i⟩ ⟨i0,i1,i2⟩=>⟨fun hlt=>?_,fun hge=>?_⟩⟩
  ·simp only at i0 i1 i2 hlt |-;obtain ⟨e1,i2⟩:=Prod.mk.inj i2;obtain ⟨e2,e3⟩:=Prod.mk.inj i2;subst e1 e3;have hlt:=Pt hlt;have ht:=a7 (0:Int) i0 hlt;have hgi:=hng i.toNat;rw [<- e2] at hgi;have hl:=hgi.len;have hfo:(ns.take (i+1).toNat).foldl (dU b1) g0=dU b1 g1 (ns.getD i.toNat 0):=by rw [ht,Rr,<- e2]; rfl
   rw [hfo];generalize ns.getD i.toNat 0=y at *;have hw0:dv (a1,g1,b1) y=dv ([],g1,b1) y:=rfl;have hlow:=qL g1 y;have hG:dU b1 g1 y=if dv ([],g1,b1) y=true then gg g1 y else g1:=rfl
   rw [hw0,hG];simp only [am];refine ⟨i0,by omega,trivial,fun hwh tm=>⟨hgi.1.imp (fun h=>Int.le_of_lt h),fun hin=>?_,fun hin=>?_⟩,fun hwh=>?_⟩
   ·have e:gg g1 y=g1:=by unfold gg; rw [if_pos hin]
    rw [if_pos hwh,e];exact ⟨by omega,⟨by omega,by omega,by first | rfl | trivial⟩,by omega⟩
   ·have e:gg g1 y=ou g1 [y] (ii g1 y):=by unfold gg; rw [if_neg (by rw [hin]; simp)]
    rw [if_pos hwh,e];exact ⟨⟨by simp,hlow.1,hlow.2,by unfold aF; simp only [Qo]; omega⟩,by omega,⟨by omega,by omega,by first | rfl | trivial⟩,by omega⟩
   ·rw [if_neg (by rw [hwh]; simp)];exact ⟨by omega,⟨by omega,by omega,by first | rfl | trivial⟩,by omega⟩
  ·simp only at i0 i1 i2 hge |-;rw [bE (Pu hge)] at i2;exact ⟨i2,by first | rfl | trivial,by first | rfl | trivial,trivial⟩
theorem KV:Kk.ok Tryz.prog 32:=aA (ann:=Mh) (ac IG (ac sd (ac xW (ac CJ (ac bV (ac bA (ac Og (fO M5 (fO GY ap))))))))) Tryz.func32 (by kernel_rfl) HB
end
section
end
section
theorem GN {l:List Int} {x y:Int} (h:GoodR l) (hx:0<=x/\x<=255):y∈gg l x ↔ y∈l\/y=x:=by
 rw [<- un h.rise h.range hx,eq,PI,PB];constructor
 ·exact fun h=>h.2.2
 ·rintro (h1 | rfl)
  ·have:=h.range y h1;exact ⟨by omega,by omega,.inl h1⟩
  ·exact ⟨by omega,by omega,.inr rfl⟩
theorem Dg (b:List Int) (y:Int):∀ (ns g:List Int),GoodR g->(∀ z∈ns,0<=z/\z<=255)->(y∈ns.foldl (dU b) g ↔ y∈g\/(y∈ns/\¬ y∈b))
 | [],g,_,_=>by simp
 | n::ns,g,hg,hn=>by
  have h0:=hn n (by simp)
  have hg1:GoodR (dU b g n):=by
   unfold dU;split
   ·exact uo hg h0
   ·exact hg
  rw [Q1,Dg b y ns _ hg1 fun z hz=>hn z (by simp [hz])]
  have key:y∈dU b g n ↔ y∈g\/(y=n/\¬ y∈b):=by
   have hw:dv ([],g,b) n=true ↔ ¬ n∈g/\¬ n∈b:=by
    show (!cu g n&&!cu b n)=true ↔ _;rw [<- bi,<- bi];simp
   unfold dU;split
   ·rename_i h;have h:=hw.1 h;rw [GN hg h0];constructor
    ·rintro (h1 | rfl)
     ·exact .inl h1
     ·exact .inr ⟨rfl,h.2⟩
    ·rintro (h1 | h1)
     ·exact .inl h1
     ·exact .inr h1.1
   ·rename_i h;constructor
    ·exact .inl
    ·rintro (h1 | ⟨rfl,h1⟩)
     ·exact h1
     ·apply Qm;intro h2;exact h (hw.2 ⟨h2,h1⟩)
  rw [key,PD];constructor
  ·rintro ((h1 | h1) | h1)
   ·exact .inl h1
   ·exact .inr ⟨.inl h1.1,h1.2⟩
   ·exact .inr ⟨.inr h1.1,h1.2⟩
  ·rintro (h1 | ⟨h1 | h1,h2⟩)
   ·exact .inl (.inl h1)
   ·exact .inl (.inr ⟨h1,h2⟩)
   ·exact .inr ⟨h1,h2⟩
end
section
open Go Go.RowKit Go.Shelf
attribute [local go_sem] Oper.semAt_some
def nt (f:Nat->Int) (k:Nat):List Int:=(List.range k).map f
theorem Ew (f:Nat->Int) (k:Nat):nt f (k+1)=nt f k++[f k]:=by simp [nt,List.range_succ]
theorem y9 (f:Nat->Int) (k:Nat):(nt f k).length=k:=by simp [nt]
theorem HU (zs:List Int):nt (fun j=>zs[j]?.getD 0) zs.length=zs:=by
 apply List.ext_getElem
 ·simp [nt]
 ·intro i h1 h2;simp [nt,h2]
set_option maxRecDepth 100000 in
set_option maxHeartbeats 2000000 in
theorem Ev (allF:Fence) (hF:∀ f,allF.fn f) (hro:allF.round=none) (n:Nat) (hn:1<=n) (l Bs o n₀ b off len cap:Nat) (zs:List Int) (hreach:len * 8<=140737488355328) (hb:b<n₀) (J Jx:List Int->World->Prop)
  (hY:∀ pre x W,J pre W->pre.length<len->YieldAt allF (n - 1) Tryz.prog l #[.int .i64 x] W fun e W' =>
   (e=.returned (.bool true)/\J (pre++[x]) W'/\Below n₀ W W')\/(e=.returned (.bool false)/\Jx (pre++[x]) W'))
  (W:World) (hBs:W.cell? ⟨Bs,o,none⟩=some (.slice (some ⟨b,off,none⟩) len cap)) (hc:∀ j,j<len->W.cell? ⟨b,off+j,none⟩=some (.int .i64 (zs[j]?.getD 0))) (h0:J [] W) :
  CallsIn allF n Tryz.prog 167 #[.func (.yield l) #[] #[],.pointer (some ⟨Bs,o,none⟩)] W fun e W'=>(∃ v,e=.returned v) /\
   ((∃ ys,ys=nt (fun j=>zs[j]?.getD 0) len/\J ys W')\/(∃ pre,True/\Jx pre W')):=by
 refine callsIn_of_wp Tryz.func167 rfl (hF _) ?_ hro;simp only [Tryz.ntmps167,Qx,Pz,P4,Nat.reduceAdd,Nat.reduceSub,Array.replicate_succ,Array.replicate_zero,List.push_toArray,List.append_toArray,P0,Qs]
 gi_wp2
 gi_loopw [7] (fun i wr=>∃ k:Nat,k<=len/\i=.int .i64 k/\J (nt (fun j=>zs[j]?.getD 0) k) wr/\Below n₀ W wr)
  (fun i _=>len - (intOf i).toNat)
 case atStart=>exact ⟨0,Qa _,rfl,h0,Below.refl _ _⟩
 case round =>
  obtain ⟨k,hk,rfl,hJs,hnx⟩:=hrel;have hcx:k<len->wr.cell? ⟨b,off+k,none⟩=some (.int .i64 (zs[k]?.getD 0)):=fun h=>(hnx.cell (p:=⟨b,off+k,none⟩) hb).trans (hc k h)
  by_cases hlt:k<len
  ·obtain ⟨fn,tmps,assign,body,hy,hR⟩:=hY _ (zs[k]?.getD 0) wr hJs (by rw [y9]; exact hlt);have hcx':=hcx hlt
   gi_wp2
   refine hR.mono ?_;rintro e W3 (⟨rfl,hJ3,hk3⟩ | ⟨rfl,hJx3⟩)
   ·gi_wp2
    go_roundw
    case rel=>exact ⟨k+1,by omega,by simp,by rw [Ew]; exact hJ3,hnx.trans hk3⟩
    case measure=>simp [intOf]; omega
   ·gi_wp2
    refine bodyPost_ret (results_none rfl _ _ _) rfl ?_;exact ⟨⟨_,rfl⟩,.inr ⟨_,trivial,hJx3⟩⟩
  ·obtain rfl:k=len:=by omega
   gi_wp2
   go_end0
   exact ⟨⟨_,rfl⟩,.inl ⟨_,rfl,hJs⟩⟩
set_option maxRecDepth 100000 in
set_option maxHeartbeats 1000000 in
theorem tu (allF:Fence) (hF:∀ f,allF.fn f) (hro:allF.round=none) (n:Nat) (l Bs o:Nat) (J:List Int->World->Prop) (W:World) (v:Value) (hv:∃ p c,v=.slice p 0 c) (hBs:W.cell? ⟨Bs,o,none⟩=some v) (h0:J [] W) :
  CallsIn allF n Tryz.prog 167 #[.func (.yield l) #[] #[],.pointer (some ⟨Bs,o,none⟩)] W fun e W'=>(∃ v,e=.returned v)/\J [] W':=by
 obtain ⟨p,c,rfl⟩:=hv;refine callsIn_of_wp Tryz.func167 rfl (hF _) ?_ hro;simp only [Tryz.ntmps167,Qx,Pz,P4,Nat.reduceAdd,Nat.reduceSub,Array.replicate_succ,Array.replicate_zero,List.push_toArray,List.append_toArray,P0,Qs]
 gi_wp2
 gi_loopw [7] (fun i wr=>i=.int .i64 0/\J [] wr) (fun _ _=>0)
 case atStart=>exact ⟨rfl,h0⟩
 case round =>
  obtain ⟨rfl,hJs⟩:=hrel
  gi_wp2
  go_end0
  exact ⟨⟨_,rfl⟩,hJs⟩
def IntsAt (n₀:Nat) (W:World) (sv:Value) (zs:List Int):Prop :=
 ((∃ p c,sv=.slice p 0 c)/\zs=[])\/∃ b off cap,sv=.slice (some ⟨b,off,none⟩) zs.length cap/\b<n₀/\∀ j,j<zs.length->W.cell? ⟨b,off+j,none⟩=some (.int .i64 (zs[j]?.getD 0))
theorem IntsAt.below {n₀:Nat} {A B:World} (h:Below n₀ A B) {sv:Value} {zs:List Int}:IntsAt n₀ A sv zs->IntsAt n₀ B sv zs
 | .inl e=>.inl e
 | .inr ⟨b,off,cap,e,hb,hc⟩=>.inr ⟨b,off,cap,e,hb,fun j hj=>(h.cell (p:=⟨b,off+j,none⟩) hb).trans (hc j hj)⟩
theorem y8 (allF:Fence) (hF:∀ f,allF.fn f) (hro:allF.round=none) (n:Nat) (hn:1<=n) (Bs o n₀:Nat) (sv:Value) (zs:List Int) (hreach:zs.length * 8<=140737488355328) (w:World) (hBs:Bs<w.heap.size) (hn₀:n₀<=w.heap.size)
  (hc:w.cell? ⟨Bs,o,none⟩=some sv) (hI:IntsAt n₀ w sv zs) :
  SeqStopsK allF n Tryz.prog 167 #[.pointer (some ⟨Bs,o,none⟩)] (fun x:Int=>#[Value.int .i64 x]) (Below n₀) (fun ys=>ys=zs) (fun _=>True) zs.length w:=fun l J Jx W hW _ _ hY h0=>by
 have hc':=(hW.cell (p:=⟨Bs,o,none⟩) hBs).trans hc;rcases hI.below (hW.mono hn₀) with ⟨hs,rfl⟩ | ⟨b,off,cap,rfl,hb,hcs⟩
 ·exact (tu allF hF hro n l Bs o J W sv hs hc' h0).mono fun e W' ⟨he,hj⟩=>⟨he,.inl ⟨_,rfl,hj⟩⟩
 ·refine (Ev allF hF hro n hn l Bs o n₀ b off zs.length cap zs hreach hb J Jx hY W hc' hcs h0).mono ?_;rintro e W' ⟨he,⟨ys,rfl,hj⟩ | ⟨pre,_,hj⟩⟩
  ·exact ⟨he,.inl ⟨_,HU zs,hj⟩⟩
  ·exact ⟨he,.inr ⟨_,trivial,hj⟩⟩
set_option maxRecDepth 100000 in
set_option maxHeartbeats 2000000 in
theorem AN (allF:Fence) (hF:∀ f,allF.fn f) (hro:allF.round=none) (n:Nat) (hn:3<=n) (Bs o:Nat) (sv:Value) (xs:List Int) (hlen:xs.length<=maxLen) (hbytes:xs.length * 8<=140737488355328) (w:World) (hBs:Bs<w.heap.size) (hcell:w.cell? ⟨Bs,o,none⟩=some sv) (hI:IntsAt w.heap.size w sv xs) :
  CallsIn allF n Tryz.prog 225 #[.slice none 0 0,.func (.func 167) #[] #[.pointer (some ⟨Bs,o,none⟩)]] w fun e W'=>∃ v,e=.returned v/\W'.ownsRow w.heap.size 3 1 v xs.length (xs.map (Value.int .i64))/\Below w.heap.size w W':=by
 have h1:1<=n:=by omega
 obtain ⟨i0,hi,hz0,hz1,hz2⟩:=info_parts (show (Tryz.prog.info? 3).map (fun i=>(i.zero,i.size,i.bytes))=some (some (.int .i64 0),1,8) by kernel_rfl);refine callsIn_of_wp_marks Tryz.func225 rfl (hF _) ?_ hro;simp only [Tryz.ntmps225,Qx,Pz,P4,Nat.reduceAdd,Nat.reduceSub,Array.replicate_succ,Array.replicate_zero,List.push_toArray,List.append_toArray,P0,Qs]
 gi_wp2
 have bO:=Boxed.new w 31 (.slice none 0 0);have hB0:Below w.heap.size w (w.alloc (.cells #[.slice none 0 0] 31)):=(Below.refl _ w).alloc (PP _) _
 refine wpIn_rangeFunc_ownG hro h1 (gf:=167) (lb:=#[.pointer (some ⟨Bs,o,none⟩)]) rfl (hF _) (enters_of Tryz.func167 (by kernel_rfl) rfl)
  (y8 allF hF hro (n - 1) (by omega) Bs o w.heap.size sv xs hbytes _ (by simp; omega) (by simp) ((hB0.cell (p:=⟨Bs,o,none⟩) hBs).trans hcell) (hI.below hB0)) belowK_t (belowK_b (by simp)) (Below.refl _ _) (fun _=>rfl)
  (fun pre W=>(∃ v,Boxed W w.heap.size 31 v/\W.ownsRow w.heap.size 3 1 v pre.length (pre.map (Value.int .i64))/\True)/\Below w.heap.size w W)
  (fun _ _ _=>False)
  (OwnFrom.and (Own.from (holdsRow_own w.heap.size w.heap.size 31 3 1 (fun pre:List Int=>pre.length) (fun pre=>pre.map (Value.int .i64)) (fun _ _=>True)) _) (ownFrom_below (PP _) (by simp)))
  (fun _ _ _ _ _ hs _ _=>hs)
  ⟨⟨_,bO,Rp _ _ _ _,trivial⟩,hB0⟩
  (fun x=>{ tmps:=#[.slice none 0 0,.func (.func 167) #[] #[.pointer (some ⟨Bs,o,none⟩)],.pointer (some ⟨w.heap.size,0,none⟩),undef,.slice none 0 0,.int .i64 x,.func (.func 167) #[] #[.pointer (some ⟨Bs,o,none⟩)],.int .i64 x,undef,undef,undef,undef,undef],defers:=[] }) ?assign ?body ?done ?stop
 case assign =>
  intro l x W K hK
  gi_wp2
  exact hK
 case body =>
  rintro l pre x W ⟨⟨v,hv,hrow,_⟩,hB⟩ hlt;have hc:=hv.cell
  gi_wp2_with (gi_at_builtin; refine wpListIn_append_own _ rfl _ _ 31 rfl w.heap.size 3 i0 (.int .i64 0) 1 8 Sp hi hz0 hz1 hz2 rfl (by decide) _ _ _ rfl (hrow.alloc _) ⟨W.heap.size,0,none⟩ 1 1 [.int .i64 x] rfl rfl (cell_one_new _ _ _) (by simp [Value.oneCell']) (by omega) (by omega) (by have:=hB.size; simp; omega) ?_; intro v' w1 hown' hgrow _; obtain ⟨g',cap',rfl⟩:=ownsRow_succ hown'; obtain ⟨hv1,hv2,hr2,hk2,hb2⟩:=hv.appended (by decide) hrow hB.size (PP _) hown' hgrow; have hc1:=hv1.cell; have hf1:=hv1.frozen)
  exact ⟨hk2.from _,hb2,⟨_,hv2,by simpa using hr2,trivial⟩,hB.trans hb2⟩
 case done =>
  rintro D ys W hD rfl ⟨⟨v,hv,hrow,_⟩,hB⟩ hK;have hc:=hv.cell
  gi_wp2
  refine ⟨by simp,.inl ⟨_,_,rfl,run_takeDeferred hK,?_⟩⟩;exact ⟨_,results_tmp rfl _ _ _,v,rfl,ownsRow_putObj hrow _ hK rfl,hB.trans (belowK_b (w:=w) (PP _) W D _ _ (by simp at hD; omega) hK rfl rfl)⟩
 case stop =>
  rintro D c pre W _ _ h _;exact h.elim
set_option maxHeartbeats 1000000 in
theorem DG (Bs o:Nat) (sv:Value) (xs:List Int) (hlen:xs.length<=maxLen) (hbytes:xs.length * 8<=140737488355328) (w:World) (hBs:Bs<w.heap.size) (hcell:w.cell? ⟨Bs,o,none⟩=some sv) (hI:IntsAt w.heap.size w sv xs) :
  Calls Tryz.prog 166 #[.func (.func 167) #[] #[.pointer (some ⟨Bs,o,none⟩)]] w fun e W'=>∃ v,e=.returned v/\W'.ownsRow w.heap.size 3 1 v xs.length (xs.map (Value.int .i64))/\Below w.heap.size w W':=by
 go_enter Tryz.func166,Tryz.ntmps166
 go_wp2_with (go_at_call 225; go_loud (refine ((AN { fn:=fun _=>True } (fun _=>trivial) rfl 5 (by omega) Bs o sv xs hlen hbytes w hBs hcell hI).calls (fun _ _ h=>by cases h)).mono ?_; rintro e W' ⟨v,rfl,h1,h2⟩))
 go_ret
 exact ⟨_,rfl,h1,h2⟩
theorem m9 {p:PH} {w:World} (h:Agrees p w) {b o:Nat} {v:Value} (hc:p.cell b o=some v):w.cell? ⟨b,o,none⟩=some v/\b<w.heap.size:=by
 unfold PH.cell at hc;cases hb:p b with
 | none=>rw [hb] at hc; cases hc
 | some k =>
  rw [hb] at hc;have hi:=h b k hb;cases k with
  | map es c=>cases hc
  | cells cs =>
   obtain ⟨t,fz,e⟩:=hi;have hc:cs[o]?=some v:=hc;exact ⟨by simp [World.cell?,e,hc],(Array.getElem?_eq_some_iff.1 e).1⟩
theorem Nf {p:PH} {w:World} (hA:Agrees p w) {xs:List Int} {sv:Value} (h:(Ty.arr ty_I).holds p xs [sv]):IntsAt w.heap.size w sv xs/\xs.length * 8<=140737488355328/\∀ x∈xs,am .i64 x:=by
 obtain ⟨A,c,l,e,_,hb,hr,hcell⟩:=h;obtain ⟨rfl,hin⟩:=ni hr;injection e with e _
 subst e;refine ⟨?_,hb,hin⟩;by_cases hx:xs=[]
 ·subst hx;exact .inl ⟨⟨A,c,rfl⟩,rfl⟩
 ·obtain ⟨b,o,rfl,hcs⟩:=hcell hx;have key:∀ j,j<xs.length->p.cell b (o+j)=some (.int .i64 (xs[j]?.getD 0)):=fun j hj=>hcs j _ (by simp [hj])
  exact .inr ⟨b,o,c,rfl,(m9 hA (key 0 (RI.2 hx))).2,fun j hj=>(m9 hA (key j hj)).1⟩
def sp_valuesI:Spec:={ Ts:=[.arr ty_I],Rs:=[.dat (.fn .nil (.arr ty_I))],al:=true,pre:=fun _=>True,F:=fun (xs:List Int)=>((fun _=>True,fun _=>xs):(Unit->Prop)×(Unit->List Int)) }
set_option maxHeartbeats 1000000 in
theorem Eu (a:Option Addr) (len cap:Nat) (w:World):Calls Tryz.prog 97 #[.slice a len cap] w fun e w'=>e=.returned (.func (.func 167) #[] #[.pointer (some ⟨w.heap.size,0,none⟩)])/\w'=w.alloc (.cells #[.slice a len cap] 31):=by
 go_enter Tryz.func97,Tryz.ntmps97
 go_wp2
 go_ret
 exact ⟨rfl,rfl⟩
theorem Fl:sp_valuesI.ok Tryz.prog 97:=by
 intro p w vs (xs:List Int) hL hA hargs _;obtain ⟨val,rfl,hv⟩:=hargs;have hv:(Ty.arr ty_I).holds p xs [val]:=hv;have hv':=hv;obtain ⟨A,c,l,e,_⟩:=hv';injection e with e _
 subst e;refine (Eu A xs.length c w).mono ?_;rintro e w' ⟨rfl,rfl⟩;have hnew:(w.alloc (.cells #[.slice A xs.length c] 31)).heap[w.heap.size]?=some (.cells #[.slice A xs.length c] 31 (0,0)):=World.alloc_heap_new w _;have hlt:∀ b cs,p b=some cs->b<w.heap.size:=fun b cs h=>hA.lt h
 refine ⟨[.func (.func 167) #[] #[.pointer (some ⟨w.heap.size,0,none⟩)]],fun b=>if b=w.heap.size then some (.cells #[.slice A xs.length c]) else none,rfl,⟨rfl,rfl,rfl,by simp,fun i hi _=>Below.heap_alloc w _ i hi⟩,fun b cs h=>?_,fun b cs h=>?_,?_⟩
 ·by_cases e:b=w.heap.size
  ·omega
  ·simp [e] at h
 ·by_cases e:b=w.heap.size
  ·subst e;simp only [if_true,Ps] at h;subst h;exact ⟨_,_,hnew⟩
  ·simp [e] at h
 ·refine ⟨_,rfl,?_,fun b hb=>by cases hb⟩;have hle:PH.le p (p.union fun b=>if b=w.heap.size then some (.cells #[.slice A xs.length c]) else none):=eV _ _;show (Ty.fn .nil (.arr ty_I)).holds _ _ [_];refine ⟨_,_,_,rfl,by kernel_rfl,(fun h=>by cases h),fun _=>⟨by kernel_rfl,rfl,w.heap.size,0,[.slice A xs.length c],rfl,fun _=>Ty.holds_mono hle _ _ _ hv,fun j u hj=>?_⟩⟩;cases j with
  | succ j=>simp at hj
  | zero =>
   simp only [List.getElem?_cons_zero,Ps] at hj;subst hj
   have h0:p w.heap.size=none:=by
    cases hp:p w.heap.size with
    | none=>rfl
    | some k=>have:=hlt _ _ hp; omega
   rw [if_pos (show sp_valuesI.al=true from rfl)];simp [PH.cell,PH.union,h0,Blk.get]
def tI:Spec:={ Ts:=[.fn .nil (.arr ty_I)],Rs:=[.own 3 ty_I],pre:=fun _=>True,F:=fun (g:(Unit->Prop)×(Unit->List Int))=>bM (g.2 ()) }
set_option maxHeartbeats 1000000 in
theorem E4 (Bs o:Nat) (sv:Value) (xs:List Int) (hbytes:xs.length * 8<=140737488355328) (w:World) (hBs:Bs<w.heap.size) (hcell:w.cell? ⟨Bs,o,none⟩=some sv) (hI:IntsAt w.heap.size w sv xs) :
  Calls Tryz.prog 96 #[.func (.func 167) #[] #[.pointer (some ⟨Bs,o,none⟩)]] w fun e W'=>∃ v,e=.returned v/\W'.ownsRow w.heap.size 3 1 v (bM xs).length ((bM xs).map (Value.int .i64))/\Below w.heap.size w W':=by
 have hsl:(bM xs).length=xs.length:=RY _
 go_enter Tryz.func96,Tryz.ntmps96
 go_wp2_with (go_at_call 166; refine (DG Bs o sv xs (by simp only [maxLen]; omega) hbytes w hBs hcell hI).mono ?_; rintro e W ⟨v,rfl,hrow,hb⟩)
 rcases hrow.2 with ⟨rfl,hz⟩ | ⟨g,cap,cur,rfl,hbase,hgb,r1,r2,r3,r4⟩
 ·have hx:xs=[]:=PO hz;subst hx
  go_wp2_with (go_at_call 33; refine (Any.slices_Sort_int_none pK none 0 W).mono ?_; rintro e w' ⟨rfl,rfl⟩)
  go_ret
  exact ⟨_,rfl,by simpa [bM] using hrow,hb⟩
 ·have hg:g<W.heap.size:=(Array.getElem?_eq_some_iff.1 hgb).1;have hS:=Any.slices_Sort_int pK g 0 cap xs W (holds_of_blockI hgb (by rw [QH] at r4; exact r4)) hg (by omega)
  go_wp2_with (go_at_call 33; refine hS.mono ?_; rintro e w' ⟨rfl,q,os,rfl⟩)
  go_ret
  refine ⟨_,rfl,?_,hb.grown (grownBy_sortedI _) hb.size (fun j hj=>by cases hj; exact hbase)⟩;have:=ownsRow_sortedI (n:=q) (os:=os) (ss:=xs) (ts:=bM xs) hsl hbase hgb r1 r2 r3;rw [hsl];exact this
theorem Ft:tI.ok Tryz.prog 96:=by
 intro p w vs (g:(Unit->Prop)×(Unit->List Int)) hL hA hargs _;obtain ⟨val,rfl,hv⟩:=hargs;have hv:(Ty.fn .nil (.arr ty_I)).holds p g [val]:=hv;obtain ⟨f,v1,v2,e,_,_,hs⟩:=hv;obtain ⟨rfl,rfl,b,o,l,rfl,hl,hcell⟩:=hs rfl;injection e with e _
 subst e;have hl:=hl ();generalize hxs:g.2 ()=xs at hl
 obtain ⟨sv,rfl⟩:∃ sv,l=[sv]:=by
  obtain ⟨A,c,_,e,_⟩:=hl;exact ⟨_,e⟩
 obtain ⟨hI,hb8,hin⟩:=Nf hA hl;obtain ⟨hc,hlt⟩:=m9 hA (hcell 0 sv rfl);refine (E4 b o sv xs hb8 w hlt hc hI).mono ?_;rintro e w' ⟨v,rfl,hrow,hb⟩;refine ⟨[v],fun _=>none,rfl,⟨hb.os,hb.tape,hb.output,hb.size,fun i hi _=>hb.block i hi⟩,fun _ _ h=>(by cases h),fun _ _ h=>(by cases h),?_⟩;have e:tI.F g=bM xs:=by show bM (g.2 ())=_; rw [hxs]
 rw [e];exact ⟨v,rfl,⟨⟨_,hrow,lc (fun y hy=>hin y (List.mem_mergeSort.1 hy)),by show (bM xs).length * 8<=aF; rw [show (bM xs).length=xs.length from RY _]; exact hb8⟩,fun _ _=>rfl⟩,fun b _=>by simp⟩
end
section
def iw (a f:List Int):vN×Int:=if au a f≠0 then (([],[],[]),au a f) else ((a,ek (bM f),[]),0)
theorem xk (a f:List Int):(bI a f).2=au a f:=by
 unfold bI;split
 ·rfl
 ·rename_i h; simp only; omega
theorem zh {a f:List Int} (h:au a f=0):ek (bM f)=fa f 256:=by
 unfold au at h;split at h
 ·rename_i h1; exact absurd h h1
 split at h
 ·rename_i h2;have hs:=l8 (hZ f);refine Iz hs.1 fun x=>?_
  rw [hs.2,k8];refine ⟨fun hx=>?_,fun hx=>hx.2.2⟩;have:=cA (PA.1 h2 x hx);exact ⟨by omega,by omega,hx⟩
 ·cases h
def zm:Spec:={ Ts:=[.arr bo,.arr ty_I],Rs:=[.dat lz,.dat ty_I],al:=true,pre:=fun _=>True,F:=fun ((a,f):List Int×List Int)=>iw a f }
def pf:Prop :=
  ∀ (x:List Int×List Int),((x.1.length * 8<=aF/\∀ (x_1:Int),x_1∈x.1->am .u64 x_1)/\x.2.length * 8<=aF/\∀ (x_1:Int),x_1∈x.2->am .i64 x_1)->True->True/\(decide ((bI x.1 x.2).2≠0)=true->(([]:List Int),([]:List Int),([]:List Int))=(iw x.1 x.2).1/\(bI x.1 x.2).2=(iw x.1 x.2).2/\True)/\(decide ((bI x.1 x.2).2≠0)=false->True/\True/\True/\True/\(x.1,ek (bM ((fun (_:Unit)=>True,fun (_:Unit)=>x.2).2 ())),([]:List Int))=(iw x.1 x.2).1/\0=(iw x.1 x.2).2/\True)
theorem vR:pf:=by
 unfold pf;intro ⟨a,f⟩ _ _;simp only [xk,iw];refine ⟨trivial,fun h=>?_,fun h=>⟨trivial,trivial,trivial,trivial,?_⟩⟩
 ·rw [if_pos (Pt h)];exact ⟨rfl,rfl,trivial⟩
 ·rw [if_neg (Pu h)];exact ⟨rfl,rfl,trivial⟩
theorem zP:zm.ok Tryz.prog 31:=aA (ann:=cn) (ac px (ac bA (ac Fl (ac Ft (fO mK ap))))) Tryz.func31 (by kernel_rfl) vR
end
section
def gt (a f l:List Int) (x:Int):Nat:=f.count x+(l.flatMap (a8 a)).count x
theorem Hk {a f l:List Int} {x:Int}:0<gt a f l x ↔ x∈f\/∃ y∈l,x∈a8 a y:=by
 unfold gt;have h1:=List.count_pos_iff (a:=x) (l:=f);have h2:=List.count_pos_iff (a:=x) (l:=l.flatMap (a8 a));rw [Ri] at h2;rw [<- h1,<- h2];omega
theorem r5 (a:List Int) (x:Int):(a8 a x).length<=a.length:=by
 unfold a8 aY bc;rw [Qc];refine P9 (QD _ _) ?_;simp only [PW,PM];omega
theorem kD (a:List Int) (ha:a.length<=256):∀ (l:List Int),(l.flatMap (a8 a)).length<=256 * l.length
 | []=>by simp
 | x::l=>by
  have h1:=r5 a x;have h2:=kD a ha l;rw [Ql,PC,Pz];omega
theorem yu {a:List Int} (ha:a.length<=256) (f l:List Int) (x:Int) (hl:l.length<=256):gt a f l x<=f.length+65536:=by
 have h1:=QS (a:=x) (l:=f);have h2:=QS (a:=x) (l:=l.flatMap (a8 a));have h3:=kD a ha l;unfold gt;omega
def Ln (a f l:List Int):List Int:=l.filter fun x=>decide (0<gt a f l x)
def pM (a f:List Int):Nat->List Int->List Int
 | 0,l=>l
 | n+1,l=>if (l.all fun x=>decide (0<gt a f l x))=true then l else pM a f n (Ln a f l)
def Gu (a f:List Int):List Int:=pM a f 257 (aB (aa a).1)
def su (a f:List Int):List Int:=fa ((aB (aa a).1).filter fun x=>!cu (Gu a f) x) 256
def OG (a f l:List Int):Prop:=∀ x∈l,isB (aa a).1 x=true/\0<gt a f l x
structure Last (a f l:List Int):Prop where
 sup:OG a f l
 all:∀ s,OG a f s->∀ x∈s,x∈l
theorem CE {a f l k:List Int} (h:∀ x∈l,x∈k) {x:Int} (hx:0<gt a f l x):0<gt a f k x:=by
 rw [Hk] at hx |-;rcases hx with hx | ⟨y,hy,h2⟩
 ·exact .inl hx
 ·exact .inr ⟨y,h y hy,h2⟩
theorem uL {a f:List Int}:∀ (n:Nat) (l:List Int),(∀ s,OG a f s->∀ x∈s,x∈l)->∀ s,OG a f s->∀ x∈s,x∈pM a f n l
 | 0,_,h=>h
 | n+1,l,h=>by
  unfold pM;split
  ·exact h
  ·refine uL n _ fun s hs x hx=>?_
   exact Qp.2 ⟨h s hs x hx,QA (CE (h s hs) (hs x hx).2)⟩
theorem yb {a f:List Int}:∀ (n:Nat) (l:List Int),∀ x∈pM a f n l,x∈l
 | 0,_,_,h=>h
 | n+1,l,x,h=>by
  unfold pM at h;split at h
  ·exact h
  ·exact (Qp.1 (yb n _ x h)).1
theorem yc {a f:List Int}:∀ (n:Nat) (l:List Int),l.length<n->∀ x∈pM a f n l,0<gt a f (pM a f n l) x
 | 0,_,h=>by omega
 | n+1,l,hl=>by
  unfold pM;split
  ·rename_i h;intro x hx;simpa using PA.1 h x hx
  ·rename_i h;refine yc n _ ?_
   have:¬ (Ln a f l).length=l.length:=fun e=>h (PA.2 fun x hx=>by
    have:=(List.length_filter_eq_length_iff.1 e) x hx;exact this)
   have h2:=QD (fun x=>decide (0<gt a f l x)) l;have h3:(Ln a f l).length<=l.length:=h2;omega
theorem ya (a f:List Int):Last a f (Gu a f):=by
 have hl:=dM (aa a).1;have hs:=cI a;refine ⟨fun x hx=>⟨?_,yc 257 _ (by omega) x hx⟩,uL 257 _ fun s hs x hx=>?_⟩
 ·have:=yb 257 _ x hx;rw [<- cX];exact bi.2 this
 ·have:=(hs x hx).1;rw [<- cX] at this;exact bi.1 this
theorem Last.uniq {a f l k:List Int} (h:Last a f l) (g:Last a f k) (x:Int):x∈l ↔ x∈k:=⟨g.all l h.sup x,h.all k g.sup x⟩
def cQ (a out:List Int):List Int:=(aB (aa a).1).filter fun x=>!cu out x
theorem jR {a out:List Int} {x:Int}:x∈cQ a out ↔ isB (aa a).1 x=true/\x ∉ out:=by
 unfold cQ;rw [Qp,<- cX,bi,<- bi (l:=out)];simp
theorem C9 (a out:List Int):(cQ a out).length<=256:=by
 have h1:=QD (fun x=>!cu out x) (aB (aa a).1);have h2:=dM (aa a).1;have h3:=cI a;unfold cQ;omega
theorem AJ (a:List Int):(aB (aa a).1).Nodup:=by
 have h:∀ (l:List ax),l.Pairwise (fun s t=>s.1<t.1)->(aB l).Pairwise (·<·):=by
  intro l
  induction l with
  | nil=>intro _; exact List.Pairwise.nil
  | cons s l ih =>
   intro h;obtain ⟨h1,h2⟩:=Qe.1 h
   have hm:∀ (k:List ax) x,x∈aB k->∃ t∈k,t.1=x:=by
    intro k
    induction k with
    | nil=>intro x hx; cases hx
    | cons t k ihk =>
     intro x hx;simp only [aB] at hx;split at hx
     ·obtain ⟨u,hu,e⟩:=ihk x hx;exact ⟨u,by simp [hu],e⟩
     ·rcases PD.1 hx with rfl | hx
      ·exact ⟨t,by simp,rfl⟩
      ·obtain ⟨u,hu,e⟩:=ihk x hx;exact ⟨u,by simp [hu],e⟩
   simp only [aB];split
   ·exact ih h2
   ·refine Qe.2 ⟨fun x hx=>?_,ih h2⟩;obtain ⟨t,ht,rfl⟩:=hm l x hx;exact h1 t ht
 exact (h _ (bz a)).imp fun h=>by omega
theorem Da (a out:List Int):(cQ a out).Nodup:=(AJ a).filter _
theorem yf (l:List Int) (x y:Int):cu (l++[x]) y=(cu l y||decide (y=x)):=by
 unfold cu;rw [List.any_append];simp [eq_comm]
theorem I8 (a out:List Int) (x:Int):cQ a (out++[x])=(cQ a out).filter fun y=>decide (y≠x):=by
 unfold cQ;rw [List.filter_filter];congr 1;funext y;rw [yf];cases cu out y <;> simp
theorem ym {o:Int->List Int} {x z:Int}:∀ (l:List Int),l.Nodup->x∈l->(l.flatMap o).count z=((l.filter fun y=>decide (y≠x)).flatMap o).count z+(o x).count z
 | [],_,h=>by cases h
 | y::l,hn,h=>by
  obtain ⟨h1,h2⟩:=Q9.1 hn;rw [Ql,RV];by_cases e:y=x
  ·subst e;rw [Qy (by simp)];have:l.filter (fun z=>decide (z≠y))=l:=RK.2 fun z hz=>QA fun e=>h1 (e ▸ hz)
   rw [this];omega
  ·rw [Qj (by simpa using e),Ql,RV]
   have hx:x∈l:=by
    rcases PD.1 h with h | h
    ·exact absurd h.symm e
    ·exact h
   have:=ym (o:=o) (z:=z) l h2 hx;omega
theorem Ma {a f out:List Int} {x z:Int} (hx:x∈cQ a out):gt a f (cQ a out) z=gt a f (cQ a (out++[x])) z+(a8 a x).count z:=by
 unfold gt;rw [I8,ym (cQ a out) (Da a out) hx];omega
structure Goes (a f out:List Int):Prop where
 nd:out.Nodup
 is:∀ x∈out,isB (aa a).1 x=true
 safe:∀ s,OG a f s->∀ x∈s,x ∉ out
theorem Goes.nil (a f:List Int):Goes a f []:=⟨Sh,fun x hx=>(by cases hx),fun _ _ _ _ hx=>by cases hx⟩
theorem Goes.len {a f out:List Int} (h:Goes a f out):out.length<=256:=iy h.nd fun x hx=>cA (h.is x hx)
theorem Goes.snoc {a f out:List Int} (h:Goes a f out) {x:Int} (hx:x∈cQ a out) (hz:¬ 0<gt a f (cQ a out) x):Goes a f (out++[x]):=by
 obtain ⟨h1,h2⟩:=jR.1 hx;refine ⟨?_,fun y hy=>?_,fun s hs y hy hm=>?_⟩
 ·rw [RS];exact ⟨h.nd,by simp,fun y hy z hz=>by rw [PB.1 hz]; rintro rfl; exact h2 hy⟩
 ·rcases PI.1 hy with hy | hy
  ·exact h.is y hy
  ·rw [PB.1 hy]; exact h1
 ·rcases PI.1 hm with hm | hm
  ·exact h.safe s hs y hy hm
  ·have e:=PB.1 hm;subst e;exact hz (CE (fun z hz=>jR.2 ⟨(hs z hz).1,h.safe s hs z hz⟩) (hs y hy).2)
theorem Goes.last {a f out:List Int} (h:Goes a f out) (hp:∀ x∈cQ a out,0<gt a f (cQ a out) x):Last a f (cQ a out) :=
 ⟨fun x hx=>⟨(jR.1 hx).1,hp x hx⟩,fun s hs x hx=>jR.2 ⟨(hs x hx).1,h.safe s hs x hx⟩⟩
theorem Goes.mem {a f out:List Int} (h:Goes a f out) (hp:∀ x∈cQ a out,0<gt a f (cQ a out) x) (x:Int):x∈out ↔ x∈su a f:=by
 unfold su;rw [eq,Qp,<- bi (l:=aB (aa a).1),cX];have hu:=(h.last hp).uniq (ya a f) x
 have hk:(!cu (Gu a f) x)=true ↔ x ∉ Gu a f:=by
  rw [<- bi]; simp
 rw [hk,<- hu,jR];constructor
 ·intro hx;have h1:=h.is x hx;have h2:=cA h1;exact ⟨h2.1,by omega,h1,fun h3=>h3.2 hx⟩
 ·rintro ⟨_,_,h1,h2⟩;exact Qm fun h3=>h2 ⟨h1,h3⟩
theorem Goes.sorted {a f out:List Int} (h:Goes a f out) (hp:∀ x∈cQ a out,0<gt a f (cQ a out) x):bM out=su a f:=by
 refine gP ?_ (fE _ _) (fun x=>by rw [k8]; exact h.mem hp x);have h1:=hZ out;have h2:(bM out).Nodup:=(List.mergeSort_perm out _).nodup_iff.2 h.nd;exact (h1.and h2).imp (fun ⟨x,y⟩=>by omega)
def gh (l:List Int) (k:Int):List Int:=l.take k.toNat++l.drop (k.toNat+1)
theorem vv (x:Int):∀ (l:List Int) (k:Nat),k<l.length->l.count x=(l.take k++l.drop (k+1)).count x+(if l.getD k 0=x then 1 else 0)
 | [],k,h=>by simp at h
 | y::l,0,_=>by
  simp only [Q5,P0,Qg,QX,RU,List.count_cons,List.getD_cons_zero,RP]
 | y::l,k+1,h=>by
  have:=vv x l k (by simpa using h);simp only [QV,QX,Qs,List.count_cons,List.getD_cons_succ];omega
theorem vA {α:Type} (n:Int) (y:α):∀ (m:List (Int×α)),(cR (m.map fun e=>(e.1,some e.2)) n none).map (fun e=>(e.1,e.2.getD y))=cR m n y
 | []=>rfl
 | x::m=>by
  have ih:=vA n y m;simp only [Qf,cR];split
  ·have:(m.map fun e=>(e.1,some e.2)).map (fun e:Int×Option α=>(e.1,e.2.getD y))=m:=by
    rw [List.map_map]
    conv=>rhs; rw [<- List.map_id m]
    rfl
   simp only [Qf,this,Option.getD_none]
  ·simp only [Qf,ih,Rg]
def it (l:List Int):List Int:=(l.filter fun v=>decide (v≠0)).map (· - 1)
theorem Fh (l:List Int) (v:Int):it (l++[v])=it l++(if v=0 then [] else [v - 1]):=by
 unfold it;rw [Q6,Qn];by_cases h:v=0 <;> simp [h]
def eR (a f:List Int) (k:Int):List Int×Int:=if au a f≠0 then ([],au a f) else if k<0\/(f.length:Int)<=k then ([],4) else (su a (gh f k),0)
theorem EG {l:List ax} (h:l.Pairwise (fun s t=>s.1<t.1)) {s t:ax} (hs:s∈l) (ht:t∈l) (e:s.1=t.1):s=t:=by
 induction l with
 | nil=>cases hs
 | cons z l ih =>
  obtain ⟨h1,h2⟩:=Qe.1 h;rcases PD.1 hs with e1 | hs1
  ·rcases PD.1 ht with e2 | ht1
   ·exact e1.trans e2.symm
   ·have:=h1 t ht1;rw [<- e1] at this;omega
  ·rcases PD.1 ht with e2 | ht1
   ·have:=h1 s hs1;rw [<- e2] at this;omega
   ·exact ih h2 hs1 ht1
theorem Bu {a:List Int} {s:ax} (hs:s∈(aa a).1) (hf:s.2.2.2.2=false):isB (aa a).1 s.1=true/\s.2=eN a s.1:=by
 have hm:∀ (l:List ax),s∈l->s.1∈aB l:=by
  intro l
  induction l with
  | nil=>intro h; cases h
  | cons z l ih =>
   intro h;simp only [aB];rcases PD.1 h with rfl | h
   ·rw [if_neg (by rw [hf]; simp)]; simp
   ·split
    ·exact ih h
    ·exact P1 _ (ih h)
 have hb:isB (aa a).1 s.1=true:=by
  rw [<- cX];exact bi.2 (hm _ hs)
 exact ⟨hb,congrArg Prod.snd (EG (bz a) hs (fU hb).1 rfl)⟩
theorem C8 {mm mm2:List (Int×Int)} {q:List Int} {k:Int} (h:∀ x,(aC mm2 x).getD 0=(aC mm x).getD 0+(q.count x:Int)):∀ x,(aC (cR mm2 k ((aC mm2 k).getD 0+1)) x).getD 0=(aC mm x).getD 0+((q++[k]).count x:Int):=by
 intro x;rw [eL,RV,List.count_singleton];by_cases e:x=k
 ·subst e;rw [if_pos rfl,Rg,h x];simp;omega
 ·rw [if_neg e,h x];have:(k == x)=false:=by simpa using Ne.symm e
  rw [this];simp
theorem Ld {mm mm2:List (Int×Int)} {q:List Int} {k:Int} (h:∀ x,(aC mm2 x).getD 0=(aC mm x).getD 0 - (q.count x:Int)):∀ x,(aC (cR mm2 k ((aC mm2 k).getD 0 - 1)) x).getD 0=(aC mm x).getD 0 - ((q++[k]).count x:Int):=by
 intro x;rw [eL,RV,List.count_singleton];by_cases e:x=k
 ·subst e;rw [if_pos rfl,Rg,h x];simp;omega
 ·rw [if_neg e,h x];have:(k == x)=false:=by simpa using Ne.symm e
  rw [this];simp
theorem KI {mr:List (Int×List Int)} {o a:List Int} {n:Int} (h:∀ x,aC mr x=if cu o x=true then some (a8 a x) else none):∀ x,aC (cR mr n (a8 a n)) x=if cu (o++[n]) x=true then some (a8 a x) else none:=by
 intro x;rw [eL,yf];by_cases e:x=n
 ·subst e;rw [if_pos rfl,QA rfl,Bool.or_true,if_pos rfl]
 ·rw [if_neg e,h x,QI e,Q0]
end
section
theorem pA:∀ {l k:List Int},l.Nodup->(∀ x∈l,x∈k)->l.length<=k.length
 | [],_,_,_=>Qa _
 | x::l,k,h,hs=>by
  obtain ⟨h1,h2⟩:=Q9.1 h;have hx:=hs x (by simp);have ih:=pA (l:=l) (k:=k.erase x) h2 fun y hy=>(List.mem_erase_of_ne (fun e:y=x=>h1 (e ▸ hy))).2 (hs y (by simp [hy]))
  rw [List.length_erase_of_mem hx] at ih;have:=List.length_pos_of_mem hx;simp only [Pz];omega
theorem C3 {l:List Int} (h:l.Nodup) {n:Nat} (hr:∀ x∈l,0<=x/\x<(n:Int)):l.length<=n:=by
 have h1:l.length<=((List.range n).map Int.ofNat).length:=pA h fun x hx=>by
  have:=hr x hx;exact P3.2 ⟨x.toNat,RD.2 (by omega),by simp only [RE]; omega⟩
 simpa using h1
theorem Kb {a g b:List Int} (h1:(ai a).2.2=0) (h2:g.Pairwise (·<·)) (h3:b.Pairwise (·<·)) (h4:∀ y∈g,isB (aa a).1 y=true) (h5:∀ y∈b,isB (aa a).1 y=true) (h6:∀ y∈g,¬ y∈b) (h7:∀ y∈b,∀ z∈a8 a y,z∈g\/z∈b):kI (a,g,b)=0:=by
 have hA:kI (a,g,b)=if (ai a).2.2≠0 then (ai a).2.2 else if (aK g&&aK b)=false then 3 else if (g++b).all (isB (aa a).1)=false then 5 else if g.any (cu b)=true then 6 else if b.any (ky (a,g,b))=true then 8 else 0:=rfl
 have e2:(g++b).all (isB (aa a).1)=true:=PA.2 fun x hx=>by
  rcases PI.1 hx with hx | hx
  ·exact h4 x hx
  ·exact h5 x hx
 have e3:¬ g.any (cu b)=true:=fun h=>by
  obtain ⟨x,hx,hb⟩:=Qt.1 h;exact h6 x hx (bi.1 hb)
 have e4:¬ b.any (ky (a,g,b))=true:=fun h=>by
  obtain ⟨x,hx,hb⟩:=Qt.1 h;obtain ⟨z,hz,hw⟩:=Qt.1 hb;have hw:(!cu g z&&!cu b z)=true:=hw;rcases h7 x hx z hz with h | h
  ·rw [bi.2 h] at hw; cases hw
  ·rw [bi.2 h,RA,Bool.and_false] at hw; cases hw
 rw [hA,if_neg (by omega),fg h2,fg h3,if_neg (by decide),e2,if_neg (by decide),if_neg e3,if_neg e4]
structure Way (a f:List Int) (t:vN):Prop where
 ar:t.1=a
 ok:kI t=0
 has:∀ x∈f,x∈t.2.1\/x∈t.2.2
 only:∀ x,x∈t.2.1\/x∈t.2.2->Rch a f x
section
variable {a f:List Int} (hw:∀ x∈a,am .u64 x)
include hw
omit hw in
theorem Hv (h:au a f=0):(iw a f).2=0/\Way a f (iw a f).1/\(iw a f).1.2.2=[]:=by
 obtain ⟨hc,hf⟩:=bW h;unfold iw;rw [if_neg (by omega),zh h]
 have hm:∀ x,x∈fa f 256 ↔ x∈f:=fun x=>by
  rw [eq];exact ⟨fun h=>h.2.2,fun hx=>by have:=cA (hf x hx); exact ⟨this.1,by omega,hx⟩⟩
 refine ⟨rfl,⟨rfl,Kb hc (fE _ _) List.Pairwise.nil (fun y hy=>hf y ((hm y).1 hy)) (fun y hy=>by cases hy) (fun y _ hy=>by cases hy) (fun y hy=>by cases hy),fun x hx=>.inl ((hm x).2 hx),fun x hx=>?_⟩,rfl⟩;rcases hx with hx | hx
 ·exact .base ((hm x).1 hx)
 ·cases hx
omit hw in
theorem JS {t:vN} (W:Way a f t) (h:t.2.1=[]):d5 t=(t,false,0):=by
 unfold d5;rw [if_neg (by have:=W.ok; omega),if_pos h]
theorem JT {t:vN} (W:Way a f t) (h:t.2.1≠[]):(d5 t).2=(true,0)/\Way a f (d5 t).1/\(d5 t).1.2.2.length=t.2.2.length+1:=by
 obtain ⟨a',g,b⟩:=t;obtain ⟨ar,ok,has,only⟩:=W;simp only at ar h has only;subst ar
 have hS:d5 (a',g,b)=((a',(a8 a' (g.getD 0 0)).foldl (dU (gg b (g.getD 0 0))) (g.drop 1),gg b (g.getD 0 0)),true,0):=by
  unfold d5;rw [if_neg (by omega),if_neg h]
 obtain ⟨hc,hgp,hbp,hgb,hbB,hdis,hcl⟩:=zd ok;have hgl:0<g.length:=RI.2 h;have hm:g.getD 0 0∈g:=aH (0:Int) (i:=0) (by omega) (by omega);have hB:=hgb _ hm;have hGg:GoodR g:=⟨hgp,fun y hy=>cA (hgb y hy)⟩;have hGb:GoodR b:=⟨hbp,fun y hy=>cA (hbB y hy)⟩;have hrg:=hGg.range _ hm;have hGd:GoodR (g.drop 1):=⟨hgp.sublist (List.drop_sublist 1 g),fun y hy=>hGg.range y (QB hy)⟩;have hor:∀ y∈a8 a' (g.getD 0 0),0<=y/\y<=255:=fun y hy=>cA (jA hw hc hB hy)
 rw [hS]
 have hgd:g=g.getD 0 0::g.drop 1:=by
  cases g with
  | nil=>exact absurd rfl h
  | cons x g=>rfl
 have hzd:g.getD 0 0 ∉ g.drop 1:=fun hx=>by
  rw [hgd] at hgp;have:=(Qe.1 hgp).1 _ hx;omega
 generalize g.getD 0 0=z at *;have hpb:∀ y,y∈gg b z ↔ y∈b\/y=z:=fun y=>GN hGb hrg
 have hGp:=uo hGb hrg;have hgm:∀ y,y∈(a8 a' z).foldl (dU (gg b z)) (g.drop 1) ↔ y∈g.drop 1\/(y∈a8 a' z/\¬ y∈gg b z):=fun y=>Dg (gg b z) y _ _ hGd hor
 have hGn:=nn (gg b z) (a8 a' z) _ hGd hor;have hzb:z ∉ b:=hdis z hm
 have hgz:∀ y,y∈g ↔ y=z\/y∈g.drop 1:=fun y=>by
  conv=>lhs; rw [hgd]
  exact PD
 refine ⟨rfl,⟨rfl,Kb hc hGn.rise hGp.rise (fun y hy=>?_) (fun y hy=>?_) (fun y hy hn=>?_) (fun y hy x hx=>?_),fun x hx=>?_,fun x hx=>?_⟩,?_⟩
 ·rcases (hgm y).1 hy with hy | hy
  ·exact hgb y ((hgz y).2 (.inr hy))
  ·exact jA hw hc hB hy.1
 ·rcases (hpb y).1 hy with hy | rfl
  ·exact hbB y hy
  ·exact hB
 ·rcases (hgm y).1 hy with k | k
  ·rcases (hpb y).1 hn with g1 | g1
   ·exact hdis y ((hgz y).2 (.inr k)) g1
   ·exact hzd (g1 ▸ k)
  ·exact k.2 hn
 ·by_cases hxb:x∈gg b z
  ·exact .inr hxb
  left;rw [hgm];rcases (hpb y).1 hy with hy | rfl
  ·rcases hcl y hy x hx with h1 | h1
   ·rcases (hgz x).1 h1 with rfl | h1
    ·exact absurd ((hpb x).2 (.inr rfl)) hxb
    ·exact .inl h1
   ·exact absurd ((hpb x).2 (.inl h1)) hxb
  ·exact .inr ⟨hx,hxb⟩
 ·rcases has x hx with h1 | h1
  ·rcases (hgz x).1 h1 with rfl | h1
   ·exact .inr ((hpb x).2 (.inr rfl))
   ·exact .inl ((hgm x).2 (.inl h1))
  ·exact .inr ((hpb x).2 (.inl h1))
 ·have hz:=only z (.inl hm);rcases hx with hx | hx
  ·rcases (hgm x).1 hx with hx | hx
   ·exact only x (.inl ((hgz x).2 (.inr hx)))
   ·exact .step hz hx.1
  ·rcases (hpb x).1 hx with hx | rfl
   ·exact only x (.inr hx)
   ·exact hz
 ·have n1:(gg b z).Nodup:=hGp.rise.imp fun h=>by omega
  have n2:(z::b).Nodup:=Q9.2 ⟨hzb,hbp.imp fun h=>by omega⟩
  have l1:=pA (k:=z::b) n1 fun x hx=>by
   rcases (hpb x).1 hx with hx | rfl
   ·exact P1 _ hx
   ·exact PV
  have l2:=pA (k:=gg b z) n2 fun x hx=>by
   rcases PD.1 hx with rfl | hx
   ·exact (hpb x).2 (.inr rfl)
   ·exact (hpb x).2 (.inl hx)
  simp only [Pz] at l1 l2 |-;omega
theorem Gn {t:vN} (W:Way a f t):t.2.1.length<=256/\t.2.2.length<=a.length:=by
 obtain ⟨a',g,b⟩:=t;obtain ⟨ar,ok,has,only⟩:=W;simp only at ar;subst ar;obtain ⟨hc,hgp,hbp,hgb,hbB,hdis,hcl⟩:=zd ok;refine ⟨iy (hgp.imp fun h=>by omega) fun x hx=>cA (hgb x hx),C3 (hbp.imp fun h=>by omega) fun x hx=>?_⟩;have h1:=cA (hbB x hx);have h2:=bS (hbB x hx);omega
theorem Mx (h:au a f=0) {t:vN} (W:Way a f t) (h0:t.2.1=[]):t.2.2=br a f:=by
 obtain ⟨a',g,b⟩:=t;obtain ⟨ar,ok,has,only⟩:=W;simp only at ar h0 has only;subst ar h0;obtain ⟨hc,hgp,hbp,hgb,hbB,hdis,hcl⟩:=zd ok;obtain ⟨_,hf⟩:=bW h;have F:Full a' f b:=⟨fun x hx=>by rcases has x hx with h | h; cases h; exact h,fun x hx=>only x (.inr hx),fun x hx y hy=>by rcases hcl x hx y hy with h | h; cases h; exact h⟩;exact gP hbp (jN _ _) fun x=>by rw [F.iff,fo hw hc hf]
theorem Fi (h:au a f=0):bM (fy a f)=br a f:=by
 obtain ⟨hc,hf⟩:=bW h;exact (Jy h hw).sorted hw hc hf (Hm a f).nodup
theorem Ji (h:au a f=0):∀ x∈su a f,x ∉ br a f:=by
 obtain ⟨hc,hf⟩:=bW h;intro x hx hr
 have hs:OG a f (br a f):=fun y hy=>by
  have hy:=(fo hw hc hf).1 hy;refine ⟨hy.isB hw hc hf,Hk.2 ?_⟩;cases hy with
  | base h=>exact .inl h
  | step h1 h2=>exact .inr ⟨_,(fo hw hc hf).2 h1,h2⟩
 have h1:=(ya a f).all _ hs x hr;unfold su at hx;have h2:=(Qp.1 (eq.1 hx).2.2).2;rw [bi.2 h1] at h2;cases h2
end
theorem ID {a f:List Int} (h:au a f=0) (k:Int):au a (gh f k)=0:=by
 obtain ⟨hc,hf⟩:=bW h;refine il hc fun x hx=>hf x ?_
 unfold gh at hx;rcases PI.1 hx with hx | hx
 ·exact QF hx
 ·exact QB hx
end
section
abbrev Pb:=List Int×Unit×Unit
def OE:LoopGen:={ rd:=[.own 32 202 cE,.dat 0 (.arr bo)],fz:=[23],A:=fun ((l,a):List ax×List Int)=>{ cs:=[.boxS 26 [.own 3 ty_I,.mpc 23,.mpc 24],.map 23 .i64 (.arr ty_I),.map 24 .i64 ty_I,.dat 34 ty_I],inv:=fun ((b,mr,mm,i):Pb×List (Int×List Int)×List (Int×Int)×Int)=>0<=i/\i<=l.length/\b.1=aB (l.take i.toNat)/\(∀ x,aC mr x=if cu (aB (l.take i.toNat)) x=true then some (a8 a x) else none)/\∀ x,(aC mm x).getD 0=((aB (l.take i.toNat)).flatMap (a8 a)).count x,mu:=fun ((_,_,_,i):Pb×List (Int×List Int)×List (Int×Int)×Int)=>(l.length - i).toNat } }
def OD:LoopGen:={ rd:=[.dat 69 (.arr bo),.mapS 23 .i64 (.arr ty_I) 3 ty_I,.map 24 .i64 ty_I],A:=fun ((rs,s0,mm0):List Int×(Int×List (Int×Option (List Int))×List Int)×List (Int×Int))=>{ cs:=[.mapS 23 .i64 (.arr ty_I) 3 ty_I,.map 24 .i64 ty_I,.dat 71 ty_I],inv:=fun ((s,mm,j):(Int×List (Int×Option (List Int))×List Int)×List (Int×Int)×Int)=>0<=j/\j<=rs.length/\s.1=s0.1/\s.2.1=s0.2.1/\s.2.2=s0.2.2++it (rs.take j.toNat)/\∀ x,(aC mm x).getD 0=(aC mm0 x).getD 0+(it (rs.take j.toNat)).count x,mu:=fun ((_,_,j):(Int×List (Int×Option (List Int))×List Int)×List (Int×Int)×Int)=>(rs.length - j).toNat } }
def OC:LoopGen:={ rd:=[.dat 106 (.arr ty_I),.map 23 .i64 (.arr ty_I),.map 24 .i64 ty_I,.boxS 26 [.dat (.arr ty_I),.mpc 23,.mpc 24]],fz:=[26],A:=fun ((f,mr,mm0,b0):List Int×List (Int×List Int)×List (Int×Int)×Pb)=>{ cs:=[.boxS 26 [.dat (.arr ty_I),.mpc 23,.mpc 24],.map 24 .i64 ty_I,.dat 108 ty_I],inv:=fun ((b,mm,i):Pb×List (Int×Int)×Int)=>b=b0/\0<=i/\i<=f.length/\((f.drop i.toNat).all fun x=>(aC mr x).isSome)=(f.all fun x=>(aC mr x).isSome)/\∀ x,(aC mm x).getD 0=(aC mm0 x).getD 0+(f.take i.toNat).count x,mu:=fun ((_,_,i):Pb×List (Int×Int)×Int)=>(f.length - i).toNat } }
structure DropW (a f out:List Int) (mg mm:List (Int×Int)):Prop where
 goes:Goes a f out
 gone:∀ x,0<(aC mg x).getD 0 ↔ x∈out
 many:∀ x,(aC mm x).getD 0=(gt a f (cQ a out) x:Int)
def Mi:Nat->Option LoopGen
 | 3000106=>some cU
 | 10700000007=>some OE
 | 10700000013=>some OD
 | 10700000021=>some OC
 | 10704000010=>some cU
 | 10707000011=>some cU
 | 10704000011=>some cU
 | 10704000016=>some cU
 | 4000006=>some cU
 | 10=>some { rd:=[.dat 0 (.arr bo),.dat 1 (.arr ty_I),.dat 2 ty_I],A:=fun ((a,f,k):List Int×List Int×Int)=>{ cs:=[.own 10 3 ty_I,.map 46 .i64 ty_I,.map 124000020 .i64 ty_I,.dat 12 .bool],inv:=fun ((out,mg,mm,ag):List Int×List (Int×Int)×List (Int×Int)×Bool)=>DropW a (gh f k) out mg mm/\(ag=false->∀ x∈cQ a out,0<gt a (gh f k) (cQ a out) x),mu:=fun ((out,_,_,ag):List Int×List (Int×Int)×List (Int×Int)×Bool)=>2 * (256 - out.length)+(if ag=true then 1 else 0) } }
 | 13=>some { rd:=[.dat 51 (.arr ty_I),.dat 0 (.arr bo),.dat 1 (.arr ty_I),.dat 2 ty_I,.own 10 3 ty_I],A:=fun ((o,a,f,k,out0):List Int×List Int×List Int×Int×List Int)=>{ cs:=[.own 10 3 ty_I,.map 46 .i64 ty_I,.map 124000020 .i64 ty_I,.dat 12 .bool,.dat 53 ty_I],inv:=fun ((out,mg,mm,ag,i):List Int×List (Int×Int)×List (Int×Int)×Bool×Int)=>0<=i/\i<=o.length/\DropW a (gh f k) out mg mm/\(ag=false->out=out0/\∀ x∈o.take i.toNat,x∈out\/0<gt a (gh f k) (cQ a out) x)/\(ag=true->out0.length<out.length),mu:=fun ((_,_,_,_,i):List Int×List (Int×Int)×List (Int×Int)×Bool×Int)=>(o.length - i).toNat } }
 | 19=>some { rd:=[.dat 81 (.arr ty_I),.map 124000020 .i64 ty_I],A:=fun ((rs,mm0):List Int×List (Int×Int))=>{ cs:=[.map 124000020 .i64 ty_I,.dat 83 ty_I],inv:=fun ((mm,j):List (Int×Int)×Int)=>0<=j/\j<=rs.length/\∀ x,(aC mm x).getD 0=(aC mm0 x).getD 0 - ((rs.take j.toNat).count x:Int),mu:=fun ((_,j):List (Int×Int)×Int)=>(rs.length - j).toNat } }
 | _=>none
def Kl:Spec:={ Ts:=[.arr bo,.arr ty_I,ty_I],Rs:=[.own 3 ty_I,.dat ty_I],pre:=fun ((_,f,_):List Int×List Int×Int)=>f.length * 8<=140737488351232,F:=fun ((a,f,k):List Int×List Int×Int)=>eR a f k }
def Ck:Prop :=
  ∀ (x:List Int×List Int×Int),(x.1.length * 8<=aF/\∀ (x_1:Int),x_1∈x.1->am .u64 x_1)/\(x.2.1.length * 8<=aF/\∀ (x_1:Int),x_1∈x.2.1->am .i64 x_1)/\am .i64 x.2.2->x.2.1.length * 8<=140737488351232->∀ (_:Array Value),True/\(decide ((ai x.1).2.2≠0)=true->(decide ((ai x.1).2.2≠0)=true->([]:List Int)=(eR x.1 x.2.1 x.2.2).1/\(ai x.1).2.2=(eR x.1 x.2.1 x.2.2).2/\True)/\(decide ((ai x.1).2.2≠0)=false->((decide (x.2.2<0)||decide ((x.2.1.length:Int)<=x.2.2))=true->([]:List Int)=(eR x.1 x.2.1 x.2.2).1/\4=(eR x.1 x.2.1 x.2.2).2/\True)/\((decide (x.2.2<0)||decide ((x.2.1.length:Int)<=x.2.2))=false->False)))/\(decide ((ai x.1).2.2≠0)=false->True/\((0:Int)<=0/\0<=(↑(aa x.1).1.length:Int)/\([]:List Int)=aB (List.take (Int.toNat 0) (aa x.1).1)/\(∀ (x_1:Int),aC ([]:List (Int×List Int)) x_1=if cu (aB (List.take (Int.toNat 0) (aa x.1).1)) x_1=true then some (a8 x.1 x_1) else none)/\∀ (x_1:Int),(aC ([]:List (Int×Int)) x_1).getD 0=(↑(List.count x_1 (List.flatMap (a8 x.1) (aB (List.take (Int.toNat 0) (aa x.1).1)))):Int))/\∀ (x_1:(List Int×Unit×Unit)×List (Int×List Int)×List (Int×Int)×Int),(0<=x_1.2.2.2/\x_1.2.2.2<=(↑(aa x.1).1.length:Int)/\x_1.1.1=aB (List.take x_1.2.2.2.toNat (aa x.1).1)/\(∀ (x_2:Int),aC x_1.2.1 x_2=if cu (aB (List.take x_1.2.2.2.toNat (aa x.1).1)) x_2=true then some (a8 x.1 x_2) else none)/\∀ (x_2:Int),(aC x_1.2.2.1 x_2).getD 0=(↑(List.count x_2 (List.flatMap (a8 x.1) (aB (List.take x_1.2.2.2.toNat (aa x.1).1)))):Int))->(decide (x_1.2.2.2<(↑(aa x.1).1.length:Int))=true->0<=x_1.2.2.2/\x_1.2.2.2<(↑(aa x.1).1.length:Int)/\x_1.2.2.2.toNat<(aa x.1).1.length/\(((aa x.1).1.getD x_1.2.2.2.toNat (0,0,0,0,false)).2.2.2.2=true->am .i64 (x_1.2.2.2+1)/\(0<=x_1.2.2.2+1/\x_1.2.2.2+1<=(↑(aa x.1).1.length:Int)/\x_1.1.1=aB (List.take (x_1.2.2.2+1).toNat (aa x.1).1)/\(∀ (x_2:Int),aC x_1.2.1 x_2=if cu (aB (List.take (x_1.2.2.2+1).toNat (aa x.1).1)) x_2=true then some (a8 x.1 x_2) else none)/\∀ (x_2:Int),(aC x_1.2.2.1 x_2).getD 0=(↑(List.count x_2 (List.flatMap (a8 x.1) (aB (List.take (x_1.2.2.2+1).toNat (aa x.1).1)))):Int))/\((↑(aa x.1).1.length:Int) - (x_1.2.2.2+1)).toNat<((↑(aa x.1).1.length:Int) - x_1.2.2.2).toNat)/\(((aa x.1).1.getD x_1.2.2.2.toNat (0,0,0,0,false)).2.2.2.2=false->(x_1.1.1.length+[((aa x.1).1.getD x_1.2.2.2.toNat (0,0,0,0,false)).1].length) * 8<=aF/\am .i64 (((aa x.1).1.getD x_1.2.2.2.toNat (0,0,0,0,false)).1+1)/\am .i64 (((aa x.1).1.getD x_1.2.2.2.toNat (0,0,0,0,false)).1+1)/\am .i64 (((aa x.1).1.getD x_1.2.2.2.toNat (0,0,0,0,false)).1+1+((aa x.1).1.getD x_1.2.2.2.toNat (0,0,0,0,false)).2.1)/\0<=((aa x.1).1.getD x_1.2.2.2.toNat (0,0,0,0,false)).1+1/\((aa x.1).1.getD x_1.2.2.2.toNat (0,0,0,0,false)).1+1<=((aa x.1).1.getD x_1.2.2.2.toNat (0,0,0,0,false)).1+1+((aa x.1).1.getD x_1.2.2.2.toNat (0,0,0,0,false)).2.1/\((aa x.1).1.getD x_1.2.2.2.toNat (0,0,0,0,false)).1+1+((aa x.1).1.getD x_1.2.2.2.toNat (0,0,0,0,false)).2.1<=(x.1.length:Int)/\((0:Int)<=0/\0<=(↑(List.drop (((aa x.1).1.getD x_1.2.2.2.toNat (0,0,0,0,false)).1+1).toNat (List.take (((aa x.1).1.getD x_1.2.2.2.toNat (0,0,0,0,false)).1+1+((aa x.1).1.getD x_1.2.2.2.toNat (0,0,0,0,false)).2.1).toNat x.1)).length:Int)/\((aa x.1).1.getD x_1.2.2.2.toNat (0,0,0,0,false)).1=((aa x.1).1.getD x_1.2.2.2.toNat (0,0,0,0,false)).1/\(cR (List.map (fun (e:Int×List Int)=>(e.1,some e.2)) x_1.2.1) ((aa x.1).1.getD x_1.2.2.2.toNat (0,0,0,0,false)).1 none,([]:List Int)).1=(cR (List.map (fun (e:Int×List Int)=>(e.1,some e.2)) x_1.2.1) ((aa x.1).1.getD x_1.2.2.2.toNat (0,0,0,0,false)).1 none,([]:List Int)).1/\(cR (List.map (fun (e:Int×List Int)=>(e.1,some e.2)) x_1.2.1) ((aa x.1).1.getD x_1.2.2.2.toNat (0,0,0,0,false)).1 none,([]:List Int)).2=(cR (List.map (fun (e:Int×List Int)=>(e.1,some e.2)) x_1.2.1) ((aa x.1).1.getD x_1.2.2.2.toNat (0,0,0,0,false)).1 none,([]:List Int)).2++it (List.take (Int.toNat 0) (List.drop (((aa x.1).1.getD x_1.2.2.2.toNat (0,0,0,0,false)).1+1).toNat (List.take (((aa x.1).1.getD x_1.2.2.2.toNat (0,0,0,0,false)).1+1+((aa x.1).1.getD x_1.2.2.2.toNat (0,0,0,0,false)).2.1).toNat x.1)))/\∀ (x_2:Int),(aC x_1.2.2.1 x_2).getD 0=(aC x_1.2.2.1 x_2).getD 0+(↑(List.count x_2 (it (List.take (Int.toNat 0) (List.drop (((aa x.1).1.getD x_1.2.2.2.toNat (0,0,0,0,false)).1+1).toNat (List.take (((aa x.1).1.getD x_1.2.2.2.toNat (0,0,0,0,false)).1+1+((aa x.1).1.getD x_1.2.2.2.toNat (0,0,0,0,false)).2.1).toNat x.1))))):Int))/\∀ (x_2:(Int×List (Int×Option (List Int))×List Int)×List (Int×Int)×Int),(fun (v2:type_of% (List.take (x_2.2.2+1).toNat (List.drop (((aa x.1).1.getD x_1.2.2.2.toNat (0,0,0,0,false)).1+1).toNat (List.take (((aa x.1).1.getD x_1.2.2.2.toNat (0,0,0,0,false)).1+1+((aa x.1).1.getD x_1.2.2.2.toNat (0,0,0,0,false)).2.1).toNat x.1))))=>(fun (v0:type_of% ((List.drop (((aa x.1).1.getD x_1.2.2.2.toNat (0,0,0,0,false)).1+1).toNat (List.take (((aa x.1).1.getD x_1.2.2.2.toNat (0,0,0,0,false)).1+1+((aa x.1).1.getD x_1.2.2.2.toNat (0,0,0,0,false)).2.1).toNat x.1)).getD x_2.2.2.toNat 0))=>(0<=x_2.2.2/\x_2.2.2<=(↑(List.drop (((aa x.1).1.getD x_1.2.2.2.toNat (0,0,0,0,false)).1+1).toNat (List.take (((aa x.1).1.getD x_1.2.2.2.toNat (0,0,0,0,false)).1+1+((aa x.1).1.getD x_1.2.2.2.toNat (0,0,0,0,false)).2.1).toNat x.1)).length:Int)/\x_2.1.1=((aa x.1).1.getD x_1.2.2.2.toNat (0,0,0,0,false)).1/\x_2.1.2.1=(cR (List.map (fun (e:Int×List Int)=>(e.1,some e.2)) x_1.2.1) ((aa x.1).1.getD x_1.2.2.2.toNat (0,0,0,0,false)).1 none,([]:List Int)).1/\x_2.1.2.2=(cR (List.map (fun (e:Int×List Int)=>(e.1,some e.2)) x_1.2.1) ((aa x.1).1.getD x_1.2.2.2.toNat (0,0,0,0,false)).1 none,([]:List Int)).2++it (List.take x_2.2.2.toNat (List.drop (((aa x.1).1.getD x_1.2.2.2.toNat (0,0,0,0,false)).1+1).toNat (List.take (((aa x.1).1.getD x_1.2.2.2.toNat (0,0,0,0,false)).1+1+((aa x.1).1.getD x_1.2.2.2.toNat (0,0,0,0,false)).2.1).toNat x.1)))/\∀ (x_3:Int),(aC x_2.2.1 x_3).getD 0=(aC x_1.2.2.1 x_3).getD 0+(↑(List.count x_3 (it (List.take x_2.2.2.toNat (List.drop (((aa x.1).1.getD x_1.2.2.2.toNat (0,0,0,0,false)).1+1).toNat (List.take (((aa x.1).1.getD x_1.2.2.2.toNat (0,0,0,0,false)).1+1+((aa x.1).1.getD x_1.2.2.2.toNat (0,0,0,0,false)).2.1).toNat x.1))))):Int))->(decide (x_2.2.2<(↑(List.drop (((aa x.1).1.getD x_1.2.2.2.toNat (0,0,0,0,false)).1+1).toNat (List.take (((aa x.1).1.getD x_1.2.2.2.toNat (0,0,0,0,false)).1+1+((aa x.1).1.getD x_1.2.2.2.toNat (0,0,0,0,false)).2.1).toNat x.1)).length:Int))=true->0<=x_2.2.2/\x_2.2.2<(↑(List.drop (((aa x.1).1.getD x_1.2.2.2.toNat (0,0,0,0,false)).1+1).toNat (List.take (((aa x.1).1.getD x_1.2.2.2.toNat (0,0,0,0,false)).1+1+((aa x.1).1.getD x_1.2.2.2.toNat (0,0,0,0,false)).2.1).toNat x.1)).length:Int)/\(decide ((List.drop (((aa x.1).1.getD x_1.2.2.2.toNat (0,0,0,0,false)).1+1).toNat (List.take (((aa x.1).1.getD x_1.2.2.2.toNat (0,0,0,0,false)).1+1+((aa x.1).1.getD x_1.2.2.2.toNat (0,0,0,0,false)).2.1).toNat x.1)).getD x_2.2.2.toNat (0:Int)≠0)=true->((aa x.1).1.getD x_1.2.2.2.toNat (0,0,0,0,false)).1=x_2.1.1/\am .i64 (IntKind.i64.wrap v0 - 1)/\(x_2.1.2.2.length+[IntKind.i64.wrap v0 - 1].length) * 8<=aF/\((aa x.1).1.getD x_1.2.2.2.toNat (0,0,0,0,false)).1=((aa x.1).1.getD x_1.2.2.2.toNat (0,0,0,0,false)).1/\((aa x.1).1.getD x_1.2.2.2.toNat (0,0,0,0,false)).1=x_2.1.1/\am .i64 (IntKind.i64.wrap v0 - 1)/\am .i64 ((aC x_2.2.1 (IntKind.i64.wrap v0 - 1)).getD 0+1)/\am .i64 (x_2.2.2+1)/\(0<=x_2.2.2+1/\x_2.2.2+1<=(↑(List.drop (((aa x.1).1.getD x_1.2.2.2.toNat (0,0,0,0,false)).1+1).toNat (List.take (((aa x.1).1.getD x_1.2.2.2.toNat (0,0,0,0,false)).1+1+((aa x.1).1.getD x_1.2.2.2.toNat (0,0,0,0,false)).2.1).toNat x.1)).length:Int)/\x_2.1.1=((aa x.1).1.getD x_1.2.2.2.toNat (0,0,0,0,false)).1/\(x_2.1.2.1,x_2.1.2.2++[IntKind.i64.wrap v0 - 1]).1=(cR (List.map (fun (e:Int×List Int)=>(e.1,some e.2)) x_1.2.1) ((aa x.1).1.getD x_1.2.2.2.toNat (0,0,0,0,false)).1 none,([]:List Int)).1/\(x_2.1.2.1,x_2.1.2.2++[IntKind.i64.wrap v0 - 1]).2=(cR (List.map (fun (e:Int×List Int)=>(e.1,some e.2)) x_1.2.1) ((aa x.1).1.getD x_1.2.2.2.toNat (0,0,0,0,false)).1 none,([]:List Int)).2++it v2/\∀ (x_3:Int),(aC (cR x_2.2.1 (IntKind.i64.wrap v0 - 1) ((aC x_2.2.1 (IntKind.i64.wrap v0 - 1)).getD 0+1)) x_3).getD 0=(aC x_1.2.2.1 x_3).getD 0+(↑(List.count x_3 (it v2)):Int))/\((↑(List.drop (((aa x.1).1.getD x_1.2.2.2.toNat (0,0,0,0,false)).1+1).toNat (List.take (((aa x.1).1.getD x_1.2.2.2.toNat (0,0,0,0,false)).1+1+((aa x.1).1.getD x_1.2.2.2.toNat (0,0,0,0,false)).2.1).toNat x.1)).length:Int) - (x_2.2.2+1)).toNat<((↑(List.drop (((aa x.1).1.getD x_1.2.2.2.toNat (0,0,0,0,false)).1+1).toNat (List.take (((aa x.1).1.getD x_1.2.2.2.toNat (0,0,0,0,false)).1+1+((aa x.1).1.getD x_1.2.2.2.toNat (0,0,0,0,false)).2.1).toNat x.1)).length:Int) - x_2.2.2).toNat)/\(decide ((List.drop (((aa x.1).1.getD x_1.2.2.2.toNat (0,0,0,0,false)).1+1).toNat (List.take (((aa x.1).1.getD x_1.2.2.2.toNat (0,0,0,0,false)).1+1+((aa x.1).1.getD x_1.2.2.2.toNat (0,0,0,0,false)).2.1).toNat x.1)).getD x_2.2.2.toNat (0:Int)≠0)=false->am .i64 (x_2.2.2+1)/\(0<=x_2.2.2+1/\x_2.2.2+1<=(↑(List.drop (((aa x.1).1.getD x_1.2.2.2.toNat (0,0,0,0,false)).1+1).toNat (List.take (((aa x.1).1.getD x_1.2.2.2.toNat (0,0,0,0,false)).1+1+((aa x.1).1.getD x_1.2.2.2.toNat (0,0,0,0,false)).2.1).toNat x.1)).length:Int)/\x_2.1.1=((aa x.1).1.getD x_1.2.2.2.toNat (0,0,0,0,false)).1/\x_2.1.2.1=(cR (List.map (fun (e:Int×List Int)=>(e.1,some e.2)) x_1.2.1) ((aa x.1).1.getD x_1.2.2.2.toNat (0,0,0,0,false)).1 none,([]:List Int)).1/\x_2.1.2.2=(cR (List.map (fun (e:Int×List Int)=>(e.1,some e.2)) x_1.2.1) ((aa x.1).1.getD x_1.2.2.2.toNat (0,0,0,0,false)).1 none,([]:List Int)).2++it v2/\∀ (x_3:Int),(aC x_2.2.1 x_3).getD 0=(aC x_1.2.2.1 x_3).getD 0+(↑(List.count x_3 (it v2)):Int))/\((↑(List.drop (((aa x.1).1.getD x_1.2.2.2.toNat (0,0,0,0,false)).1+1).toNat (List.take (((aa x.1).1.getD x_1.2.2.2.toNat (0,0,0,0,false)).1+1+((aa x.1).1.getD x_1.2.2.2.toNat (0,0,0,0,false)).2.1).toNat x.1)).length:Int) - (x_2.2.2+1)).toNat<((↑(List.drop (((aa x.1).1.getD x_1.2.2.2.toNat (0,0,0,0,false)).1+1).toNat (List.take (((aa x.1).1.getD x_1.2.2.2.toNat (0,0,0,0,false)).1+1+((aa x.1).1.getD x_1.2.2.2.toNat (0,0,0,0,false)).2.1).toNat x.1)).length:Int) - x_2.2.2).toNat))/\(decide (x_2.2.2<(↑(List.drop (((aa x.1).1.getD x_1.2.2.2.toNat (0,0,0,0,false)).1+1).toNat (List.take (((aa x.1).1.getD x_1.2.2.2.toNat (0,0,0,0,false)).1+1+((aa x.1).1.getD x_1.2.2.2.toNat (0,0,0,0,false)).2.1).toNat x.1)).length:Int))=false->am .i64 (x_1.2.2.2+1)/\(0<=x_1.2.2.2+1/\x_1.2.2.2+1<=(↑(aa x.1).1.length:Int)/\x_1.1.1++[((aa x.1).1.getD x_1.2.2.2.toNat (0,0,0,0,false)).1]=aB (List.take (x_1.2.2.2+1).toNat (aa x.1).1)/\(∀ (x_3:Int),aC (List.map (fun (e:Int×Option (List Int))=>(e.1,e.2.getD x_2.1.2.2)) x_2.1.2.1) x_3=if cu (aB (List.take (x_1.2.2.2+1).toNat (aa x.1).1)) x_3=true then some (a8 x.1 x_3) else none)/\∀ (x_3:Int),(aC x_2.2.1 x_3).getD 0=(↑(List.count x_3 (List.flatMap (a8 x.1) (aB (List.take (x_1.2.2.2+1).toNat (aa x.1).1)))):Int))/\((↑(aa x.1).1.length:Int) - (x_1.2.2.2+1)).toNat<((↑(aa x.1).1.length:Int) - x_1.2.2.2).toNat)) ((List.drop (((aa x.1).1.getD x_1.2.2.2.toNat (0,0,0,0,false)).1+1).toNat (List.take (((aa x.1).1.getD x_1.2.2.2.toNat (0,0,0,0,false)).1+1+((aa x.1).1.getD x_1.2.2.2.toNat (0,0,0,0,false)).2.1).toNat x.1)).getD x_2.2.2.toNat 0)) (List.take (x_2.2.2+1).toNat (List.drop (((aa x.1).1.getD x_1.2.2.2.toNat (0,0,0,0,false)).1+1).toNat (List.take (((aa x.1).1.getD x_1.2.2.2.toNat (0,0,0,0,false)).1+1+((aa x.1).1.getD x_1.2.2.2.toNat (0,0,0,0,false)).2.1).toNat x.1)))))/\(decide (x_1.2.2.2<(↑(aa x.1).1.length:Int))=false->((x_1.1.1,(),())=(x_1.1.1,(),())/\(0:Int)<=0/\0<=(x.2.1.length:Int)/\(((List.drop (Int.toNat 0) x.2.1).all fun (x:Int)=>(aC x_1.2.1 x).isSome)=x.2.1.all fun (x:Int)=>(aC x_1.2.1 x).isSome)/\∀ (x_2:Int),(aC x_1.2.2.1 x_2).getD 0=(aC x_1.2.2.1 x_2).getD 0+(↑(List.count x_2 (List.take (Int.toNat 0) x.2.1)):Int))/\∀ (x_2:(List Int×Unit×Unit)×List (Int×Int)×Int),(x_2.1=(x_1.1.1,(),())/\0<=x_2.2.2/\x_2.2.2<=(x.2.1.length:Int)/\(((List.drop x_2.2.2.toNat x.2.1).all fun (x:Int)=>(aC x_1.2.1 x).isSome)=x.2.1.all fun (x:Int)=>(aC x_1.2.1 x).isSome)/\∀ (x_3:Int),(aC x_2.2.1 x_3).getD 0=(aC x_1.2.2.1 x_3).getD 0+(↑(List.count x_3 (List.take x_2.2.2.toNat x.2.1)):Int))->(decide (x_2.2.2<(x.2.1.length:Int))=true->0<=x_2.2.2/\x_2.2.2<(x.2.1.length:Int)/\((!(aC x_1.2.1 (x.2.1.getD x_2.2.2.toNat 0)).isSome)=true->(decide ((5:Int)≠0)=true->([]:List Int)=(eR x.1 x.2.1 x.2.2).1/\5=(eR x.1 x.2.1 x.2.2).2/\True)/\(decide ((5:Int)≠0)=false->((decide (x.2.2<0)||decide ((x.2.1.length:Int)<=x.2.2))=true->([]:List Int)=(eR x.1 x.2.1 x.2.2).1/\4=(eR x.1 x.2.1 x.2.2).2/\True)/\((decide (x.2.2<0)||decide ((x.2.1.length:Int)<=x.2.2))=false->False)))/\((!(aC x_1.2.1 (x.2.1.getD x_2.2.2.toNat 0)).isSome)=false->am .i64 ((aC x_2.2.1 (x.2.1.getD x_2.2.2.toNat 0)).getD 0+1)/\am .i64 (x_2.2.2+1)/\((x_2.1.1,(),())=(x_1.1.1,(),())/\0<=x_2.2.2+1/\x_2.2.2+1<=(x.2.1.length:Int)/\(((List.drop (x_2.2.2+1).toNat x.2.1).all fun (x:Int)=>(aC x_1.2.1 x).isSome)=x.2.1.all fun (x:Int)=>(aC x_1.2.1 x).isSome)/\∀ (x_3:Int),(aC (cR x_2.2.1 (x.2.1.getD x_2.2.2.toNat 0) ((aC x_2.2.1 (x.2.1.getD x_2.2.2.toNat 0)).getD 0+1)) x_3).getD 0=(aC x_1.2.2.1 x_3).getD 0+(↑(List.count x_3 (List.take (x_2.2.2+1).toNat x.2.1)):Int))/\((x.2.1.length:Int) - (x_2.2.2+1)).toNat<((x.2.1.length:Int) - x_2.2.2).toNat))/\(decide (x_2.2.2<(x.2.1.length:Int))=false->(decide ((0:Int)≠0)=true->([]:List Int)=(eR x.1 x.2.1 x.2.2).1/\0=(eR x.1 x.2.1 x.2.2).2/\True)/\(decide ((0:Int)≠0)=false->((decide (x.2.2<0)||decide ((x.2.1.length:Int)<=x.2.2))=true->([]:List Int)=(eR x.1 x.2.1 x.2.2).1/\4=(eR x.1 x.2.1 x.2.2).2/\True)/\((decide (x.2.2<0)||decide ((x.2.1.length:Int)<=x.2.2))=false->0<=x.2.2/\x.2.2<(x.2.1.length:Int)/\am .i64 ((aC x_2.2.1 (x.2.1.getD x.2.2.toNat 0)).getD 0 - 1)/\(DropW x.1 (gh x.2.1 x.2.2) ([]:List Int) ([]:List (Int×Int)) (cR x_2.2.1 (x.2.1.getD x.2.2.toNat 0) ((aC x_2.2.1 (x.2.1.getD x.2.2.toNat 0)).getD 0 - 1))/\(true=false->∀ (x_3:Int),x_3∈cQ x.1 ([]:List Int)->0<gt x.1 (gh x.2.1 x.2.2) (cQ x.1 ([]:List Int)) x_3))/\∀ (x_3:List Int×List (Int×Int)×List (Int×Int)×Bool),DropW x.1 (gh x.2.1 x.2.2) x_3.1 x_3.2.1 x_3.2.2.1/\(x_3.2.2.2=false->∀ (x_4:Int),x_4∈cQ x.1 x_3.1->0<gt x.1 (gh x.2.1 x.2.2) (cQ x.1 x_3.1) x_4)->(x_3.2.2.2=true->((0:Int)<=0/\0<=(x_2.1.1.length:Int)/\DropW x.1 (gh x.2.1 x.2.2) x_3.1 x_3.2.1 x_3.2.2.1/\(false=false->x_3.1=x_3.1/\∀ (x_4:Int),x_4∈List.take (Int.toNat 0) x_2.1.1->x_4∈x_3.1\/0<gt x.1 (gh x.2.1 x.2.2) (cQ x.1 x_3.1) x_4)/\(false=true->x_3.1.length<x_3.1.length))/\∀ (x_4:List Int×List (Int×Int)×List (Int×Int)×Bool×Int),(fun (v3:type_of% (x_2.1.1.getD x_4.2.2.2.2.toNat 0))=>(fun (v1:type_of% (aC x_1.2.1 v3))=>0<=x_4.2.2.2.2/\x_4.2.2.2.2<=(x_2.1.1.length:Int)/\DropW x.1 (gh x.2.1 x.2.2) x_4.1 x_4.2.1 x_4.2.2.1/\(x_4.2.2.2.1=false->x_4.1=x_3.1/\∀ (x_5:Int),x_5∈List.take x_4.2.2.2.2.toNat x_2.1.1->x_5∈x_4.1\/0<gt x.1 (gh x.2.1 x.2.2) (cQ x.1 x_4.1) x_5)/\(x_4.2.2.2.1=true->x_3.1.length<x_4.1.length)->(decide (x_4.2.2.2.2<(x_2.1.1.length:Int))=true->0<=x_4.2.2.2.2/\x_4.2.2.2.2<(x_2.1.1.length:Int)/\((decide (0<(aC x_4.2.1 v3).getD 0)||decide (0<(aC x_4.2.2.1 v3).getD 0))=true->am .i64 (x_4.2.2.2.2+1)/\(0<=x_4.2.2.2.2+1/\x_4.2.2.2.2+1<=(x_2.1.1.length:Int)/\DropW x.1 (gh x.2.1 x.2.2) x_4.1 x_4.2.1 x_4.2.2.1/\(x_4.2.2.2.1=false->x_4.1=x_3.1/\∀ (x_5:Int),x_5∈List.take (x_4.2.2.2.2+1).toNat x_2.1.1->x_5∈x_4.1\/0<gt x.1 (gh x.2.1 x.2.2) (cQ x.1 x_4.1) x_5)/\(x_4.2.2.2.1=true->x_3.1.length<x_4.1.length))/\((x_2.1.1.length:Int) - (x_4.2.2.2.2+1)).toNat<((x_2.1.1.length:Int) - x_4.2.2.2.2).toNat)/\((decide (0<(aC x_4.2.1 v3).getD 0)||decide (0<(aC x_4.2.2.1 v3).getD 0))=false->(x_4.1.length+[x_2.1.1.getD x_4.2.2.2.2.toNat 0].length) * 8<=aF/\((0:Int)<=0/\0<=(↑(v1.getD ([]:List Int)).length:Int)/\∀ (x:Int),(aC x_4.2.2.1 x).getD 0=(aC x_4.2.2.1 x).getD 0 - (↑(List.count x (List.take (Int.toNat 0) (v1.getD ([]:List Int)))):Int))/\∀ (x_5:List (Int×Int)×Int),(0<=x_5.2/\x_5.2<=(↑(v1.getD ([]:List Int)).length:Int)/\∀ (x:Int),(aC x_5.1 x).getD 0=(aC x_4.2.2.1 x).getD 0 - (↑(List.count x (List.take x_5.2.toNat (v1.getD ([]:List Int)))):Int))->(decide (x_5.2<(↑(v1.getD ([]:List Int)).length:Int))=true->0<=x_5.2/\x_5.2<(↑(v1.getD ([]:List Int)).length:Int)/\am .i64 ((aC x_5.1 ((v1.getD ([]:List Int)).getD x_5.2.toNat 0)).getD 0 - 1)/\am .i64 (x_5.2+1)/\(0<=x_5.2+1/\x_5.2+1<=(↑(v1.getD ([]:List Int)).length:Int)/\∀ (x:Int),(aC (cR x_5.1 ((v1.getD ([]:List Int)).getD x_5.2.toNat 0) ((aC x_5.1 ((v1.getD ([]:List Int)).getD x_5.2.toNat 0)).getD 0 - 1)) x).getD 0=(aC x_4.2.2.1 x).getD 0 - (↑(List.count x (List.take (x_5.2+1).toNat (v1.getD ([]:List Int)))):Int))/\((↑(v1.getD ([]:List Int)).length:Int) - (x_5.2+1)).toNat<((↑(v1.getD ([]:List Int)).length:Int) - x_5.2).toNat)/\(decide (x_5.2<(↑(v1.getD ([]:List Int)).length:Int))=false->am .i64 (x_4.2.2.2.2+1)/\(0<=x_4.2.2.2.2+1/\x_4.2.2.2.2+1<=(x_2.1.1.length:Int)/\DropW x.1 (gh x.2.1 x.2.2) (x_4.1++[x_2.1.1.getD x_4.2.2.2.2.toNat 0]) (cR x_4.2.1 v3 1) x_5.1/\(true=false->x_4.1++[x_2.1.1.getD x_4.2.2.2.2.toNat 0]=x_3.1/\∀ (x_6:Int),x_6∈List.take (x_4.2.2.2.2+1).toNat x_2.1.1->x_6∈x_4.1++[x_2.1.1.getD x_4.2.2.2.2.toNat 0]\/0<gt x.1 (gh x.2.1 x.2.2) (cQ x.1 (x_4.1++[x_2.1.1.getD x_4.2.2.2.2.toNat 0])) x_6)/\(true=true->x_3.1.length<(x_4.1++[x_2.1.1.getD x_4.2.2.2.2.toNat 0]).length))/\((x_2.1.1.length:Int) - (x_4.2.2.2.2+1)).toNat<((x_2.1.1.length:Int) - x_4.2.2.2.2).toNat)))/\(decide (x_4.2.2.2.2<(x_2.1.1.length:Int))=false->(DropW x.1 (gh x.2.1 x.2.2) x_4.1 x_4.2.1 x_4.2.2.1/\(x_4.2.2.2.1=false->∀ (x_5:Int),x_5∈cQ x.1 x_4.1->0<gt x.1 (gh x.2.1 x.2.2) (cQ x.1 x_4.1) x_5))/\(2 * (256 - x_4.1.length)+if x_4.2.2.2.1=true then (1:Nat) else (0:Nat))<2 * (256 - x_3.1.length)+if x_3.2.2.2=true then (1:Nat) else (0:Nat))) (aC x_1.2.1 v3)) (x_2.1.1.getD x_4.2.2.2.2.toNat 0))/\(x_3.2.2.2=false->True/\bM x_3.1=(eR x.1 x.2.1 x.2.2).1/\0=(eR x.1 x.2.1 x.2.2).2/\True))))))
theorem HC:Ck:=by
 unfold Ck;intro ⟨a,f,k⟩ ⟨⟨hb,hw⟩,⟨hbf,hf⟩,hk⟩ hroom tm;unfold aF at hb hbf;dsimp only at hb hw hbf hf hk hroom |-;refine ⟨trivial,fun hc=>⟨fun _=>?_,fun hn=>by rw [hc] at hn; cases hn⟩,fun hc=>?_⟩
 ·have hc:=Pt hc;have e:au a f=(ai a).2.2:=by unfold au; rw [if_pos hc]
  have e2:eR a f k=([],(ai a).2.2):=by unfold eR; rw [e,if_pos hc]
  rw [e2];exact ⟨rfl,rfl,trivial⟩
 have hc:(ai a).2.2=0:=by simpa using Pu hc
 obtain ⟨hal,_,_,hz,_,_,_⟩:=bJ hc;have hsl:=cI a;have hbl:=dM (aa a).1;refine ⟨trivial,⟨by omega,by omega,rfl,fun _=>rfl,fun _=>rfl⟩,fun ⟨⟨o,⟨⟩,⟨⟩⟩,mr,mm,i⟩ ⟨i0,i1,i2,i3,i4⟩=>⟨fun hlt=>?_,fun hge=>?_⟩⟩
 ·dsimp only at i0 i1 i2 i3 i4 |-;have hlt:i<((aa a).1.length:Int):=Pt hlt;have hm:=aH ((0,0,0,0,false):ax) i0 hlt;have ht:=a7 ((0,0,0,0,false):ax) i0 hlt
  have hol:o.length<=256:=by
   rw [i2];have:=dM (List.take i.toNat (aa a).1);rw [PM] at this;omega
  have hfl:=kD a hal o;rw [ht,kU,<- i2];rw [<- i2] at i3 i4;generalize (aa a).1.getD i.toNat (0,0,0,0,false)=s at *;refine ⟨i0,hlt,by omega,fun hf0=>?_,fun hf0=>?_⟩
  ·have e:aB [s]=[]:=by simp only [aB]; rw [if_pos hf0]
   rw [e,Qi];exact ⟨by simp only [am]; omega,⟨by omega,by omega,rfl,i3,i4⟩,by omega⟩
  ·have e:aB [s]=[s.1]:=by simp only [aB]; rw [if_neg (by rw [hf0]; simp)]
   obtain ⟨hib,he⟩:=Bu hm hf0;obtain ⟨l1,_,l3,l4,l5,l6⟩:=bS hib;have hrf:=jM hw hc _ (fU hib).1;have hrs:List.drop (s.1+1).toNat (List.take (s.1+1+(eN a s.1).1).toNat a)=aY a s.1:=rfl
   have hwr:∀ v∈aY a s.1,IntKind.i64.wrap v=v/\0<=v/\v<=256:=fun v hv=>by
    rcases hrf v hv with e | ⟨h1,h2,_⟩
    ·subst e; exact ⟨jF (by omega) (by omega),by omega,by omega⟩
    ·exact ⟨jF (by omega) (by omega),by omega,by omega⟩
   rw [e,he,hrs];have hO:a8 a s.1=it (aY a s.1):=rfl;generalize hrs0:aY a s.1=rs at *;generalize hx0:s.1=x at *;simp only [am];refine ⟨by unfold aF; rw [Qo]; omega,by omega,by omega,by omega,by omega,by omega,by omega,⟨by omega,by omega,trivial,trivial,rfl,fun _=>by simp [it]⟩,fun ⟨⟨x0,m,ys⟩,mm2,j⟩ ⟨j0,j1,j2,j3,j4,j5⟩=>⟨fun hj=>?_,fun hj=>?_⟩⟩
   ·dsimp only at j0 j1 j2 j3 j4 j5 |-;have hj:j<(rs.length:Int):=Pt hj;have ht2:=a7 (0:Int) j0 hj;have hv:=aH (0:Int) j0 hj;have hcl:=QS (a:=rs.getD j.toNat 0 - 1) (l:=it (rs.take j.toNat));have hcl2:=QS (a:=rs.getD j.toNat 0 - 1) (l:=o.flatMap (a8 a))
    have hql:(it (rs.take j.toNat)).length<=rs.length:=by
     unfold it;rw [Qc];refine P9 (QD _ _) ?_;rw [PM];omega
    rw [ht2,Fh];have q5:=j5 (rs.getD j.toNat 0 - 1);have q4:=i4 (rs.getD j.toNat 0 - 1);generalize hv0:rs.getD j.toNat 0=v at *;obtain ⟨w1,w2,w3⟩:=hwr v hv;rw [w1];have hys:ys.length<=256:=by rw [j4]; simp only [P0]; omega
    refine ⟨j0,hj,fun hne=>?_,fun hne=>?_⟩
    ·have hne:=Pt hne;rw [if_neg hne];refine ⟨j2.symm,by omega,by unfold aF; rw [Qo]; omega,trivial,j2.symm,by omega,by omega,by omega,⟨by omega,by omega,j2,j3,?_,C8 j5⟩,by omega⟩;rw [j4,P0];rfl
    ·have hne:v=0:=by simpa using Pu hne
     rw [if_pos hne,Qi];exact ⟨by omega,⟨by omega,by omega,j2,j3,j4,j5⟩,by omega⟩
   ·dsimp only at j0 j1 j2 j3 j4 j5 |-;have hj:¬ j<(rs.length:Int):=Pu hj;rw [bE hj] at j4 j5;have hys:ys=a8 a x:=by rw [j4,P0]; exact hO.symm
    have hcm:=vA x ys mr;have j3:m=cR (mr.map fun e=>(e.1,some e.2)) x none:=j3;refine ⟨by omega,⟨by omega,by omega,trivial,fun z=>?_,fun z=>?_⟩,by omega⟩
    ·have e3:List.map (fun (e:Int×Option (List Int))=>(e.1,e.2.getD ys)) m=cR mr x (a8 a x):=by rw [j3,hcm,hys]
     exact (congrArg (fun l=>aC l z) e3).trans (KI i3 z)
    ·rw [j5 z,i4 z,<- hO,RJ,RV];simp
 dsimp only at i0 i1 i2 i3 i4 |-;have hge:¬ i<((aa a).1.length:Int):=Pu hge;rw [bE hge] at i2 i3 i4;have hsome:∀ x,(aC mr x).isSome=isB (aa a).1 x:=fun x=>by rw [i3 x,cX]; cases isB (aa a).1 x <;> rfl
 have hol:o.length<=256:=by rw [i2]; omega
 have hfl:=kD a hal (aB (aa a).1);refine ⟨⟨rfl,by omega,by omega,rfl,fun _=>by simp⟩,fun ⟨b,mm2,j⟩ ⟨j4,j0,j1,j2,j3⟩=>⟨fun hlt=>?_,fun hge=>?_⟩⟩
 ·dsimp only at j0 j1 j2 j3 j4 |-;subst j4;have hlt:j<(f.length:Int):=Pt hlt;have ht:=a7 (0:Int) j0 hlt;have hcl:=QS (a:=f.getD j.toNat 0) (l:=f.take j.toNat);have hcl2:=QS (a:=f.getD j.toNat 0) (l:=(aB (aa a).1).flatMap (a8 a));rw [PM] at hcl;have q3:=j3 (f.getD j.toNat 0);have q4:=i4 (f.getD j.toNat 0);have hs:=hsome (f.getD j.toNat 0);simp only [hsome] at j2 |-;rw [bg (0:Int) j0 hlt,Qv] at j2;rw [ht];refine ⟨j0,hlt,fun hn=>⟨fun _=>?_,fun h=>by simp at h⟩,fun hn=>⟨by simp only [am]; omega,by simp only [am]; omega,⟨trivial,by omega,by omega,?_,C8 j3⟩,by omega⟩⟩
  ·have hn:isB (aa a).1 (f.getD j.toNat 0)=false:=by simpa using hn
   rw [hn,Q8] at j2;have e:au a f=5:=by unfold au; rw [if_neg (by omega),<- j2]; rfl
   have e2:eR a f k=([],5):=by unfold eR; rw [e]; rfl
   rw [e2];exact ⟨rfl,rfl,trivial⟩
  ·have hn:isB (aa a).1 (f.getD j.toNat 0)=true:=by simpa using hn
   rw [hn,QL] at j2;exact j2
 dsimp only at j0 j1 j2 j3 j4 |-;subst j4;have hge:¬ j<(f.length:Int):=Pu hge;simp only [hsome] at j2;rw [b6 hge,RH] at j2;rw [bE hge] at j3;have hfb:∀ x∈f,isB (aa a).1 x=true:=PA.1 j2.symm;have e0:au a f=0:=il hc hfb
 have hcnt:∀ x,(aC mm2 x).getD 0=(gt a f (aB (aa a).1) x:Int):=fun x=>by
  rw [j3 x,i4 x];unfold gt;omega
 refine ⟨fun h=>by simp at h,fun _=>?_⟩;refine ⟨fun hbad=>?_,fun hok=>?_⟩
 ·have hbad:k<0\/(f.length:Int)<=k:=by simpa using hbad
  have e2:eR a f k=([],4):=by unfold eR; rw [if_neg (by omega),if_pos hbad]
  rw [e2];exact ⟨rfl,rfl,trivial⟩
 have hok:¬ (k<0\/(f.length:Int)<=k):=by
  intro h;have:(decide (k<0)||decide ((f.length:Int)<=k))=true:=by simpa using h
  rw [this] at hok;cases hok
 have hD:eR a f k=(su a (gh f k),0):=by unfold eR; rw [if_neg (by omega),if_neg hok]
 rw [hD];have hcK:∀ x,f.count x=(gh f k).count x+(if f.getD k.toNat 0=x then 1 else 0):=fun x=>vv x f k.toNat (by omega)
 have hfK:(gh f k).length<=f.length:=by
  unfold gh;simp only [PC,PM,PW];omega
 have hl0:cQ a []=aB (aa a).1:=RK.2 fun x _=>rfl
 have hbo:∀ l x,l.length<=256->gt a (gh f k) l x<=(gh f k).length+65536:=fun l x hl=>yu hal _ _ _ hl
 have hcb:=yu hal f (aB (aa a).1) (f.getD k.toNat 0) (by omega);have hcv:=hcnt (f.getD k.toNat 0);generalize gh f k=g at *;refine ⟨by omega,by omega,by simp only [am]; omega,⟨⟨Goes.nil a g,fun x=>by simp [aC],fun x=>?_⟩,fun h=>(by cases h)⟩,fun ⟨out,mg,mm3,ag⟩ ⟨hW,hp⟩=>⟨fun hag=>?_,fun hag=>?_⟩⟩
 ·rw [eL,hl0];have h1:=hcnt x;have h2:=hcK x;unfold gt at h1 |-;by_cases e:x=f.getD k.toNat 0
  ·subst e;rw [if_pos rfl] at h2;rw [if_pos rfl,Rg];omega
  ·rw [if_neg (fun q=>e q.symm)] at h2;rw [if_neg e];omega
 ·dsimp only at hW hp hag |-;have hlen0:=hW.goes.len;refine ⟨⟨by omega,by omega,hW,fun _=>⟨rfl,fun x hx=>(by simp at hx)⟩,fun h=>(by cases h)⟩,fun ⟨out1,mg1,mm1,ag1,i⟩ ⟨i0,i1,W,q1,q2⟩=>⟨fun hlt=>?_,fun hge=>?_⟩⟩
  ·dsimp only at i0 i1 W q1 q2 |-;have hlt:i<(o.length:Int):=Pt hlt;have ht:=a7 (0:Int) i0 hlt;have hx:=aH (0:Int) i0 hlt;rw [i2] at hx
   have hib:isB (aa a).1 (o.getD i.toNat 0)=true:=by
    rw [i2,<- cX];exact bi.2 hx
   have hlen:=W.goes.len;rw [ht]
   have hmr:(aC mr (o.getD i.toNat 0)).getD []=a8 a (o.getD i.toNat 0):=by
    rw [i3,cX,if_pos hib];rfl
   rw [hmr];generalize o.getD i.toNat 0=x at *;refine ⟨i0,hlt,fun hcd=>?_,fun hcd=>?_⟩
   ·refine ⟨by simp only [am]; omega,⟨by omega,by omega,W,fun h=>⟨(q1 h).1,fun y hy=>?_⟩,q2⟩,by omega⟩;rcases PI.1 hy with hy | hy
    ·exact (q1 h).2 y hy
    ·rw [PB.1 hy];simp only [Qq,Qk] at hcd;rcases hcd with hcd | hcd
     ·exact .inl ((W.gone x).1 hcd)
     ·rw [W.many x] at hcd;exact .inr (by omega)
   ·simp only [QG,Qw] at hcd;obtain ⟨c1,c2⟩:=hcd;rw [W.gone x] at c1;rw [W.many x] at c2;have hxl:x∈cQ a out1:=jR.2 ⟨hib,c1⟩;have hdrop:=fun z=>Ma (f:=g) (z:=z) hxl
    have hgo:=W.goes.snoc hxl (by omega);have hol2:=r5 a x;have hll:=C9 a out1;generalize a8 a x=rs at *;refine ⟨by unfold aF; rw [Qo]; omega,⟨by omega,by omega,fun _=>by simp⟩,fun ⟨mm4,j⟩ ⟨j0,j1,j2⟩=>⟨fun hj=>?_,fun hj=>?_⟩⟩
    ·dsimp only at j0 j1 j2 |-;have hj:j<(rs.length:Int):=Pt hj;have hcl:=QS (a:=rs.getD j.toNat 0) (l:=rs.take j.toNat);rw [PM] at hcl;have p1:=j2 (rs.getD j.toNat 0);have p2:=W.many (rs.getD j.toNat 0);have p3:=hbo (cQ a out1) (rs.getD j.toNat 0) hll;rw [a7 (0:Int) j0 hj];exact ⟨j0,hj,by simp only [am]; omega,by simp only [am]; omega,⟨by omega,by omega,Ld j2⟩,by omega⟩
    ·dsimp only at j0 j1 j2 |-;rw [bE (Pu hj)] at j2;refine ⟨by simp only [am]; omega,⟨by omega,by omega,⟨hgo,fun y=>?_,fun y=>?_⟩,fun h=>(by cases h),fun _=>?_⟩,by omega⟩
     ·rw [eL,PI,PB];by_cases e:y=x
      ·rw [if_pos e];simp [e]
      ·rw [if_neg e,W.gone y];simp [e]
     ·have p1:=j2 y;have p2:=W.many y;have p3:=hdrop y;omega
     ·rw [PC,Qo];cases ag1 with
      | true=>have:=q2 rfl; omega
      | false=>have:=(q1 rfl).1; rw [this]; omega
  ·dsimp only at i0 i1 W q1 q2 |-;have hge:¬ i<(o.length:Int):=Pu hge;rw [bE hge] at q1;have hlen:=W.goes.len;refine ⟨⟨W,fun h x hx=>?_⟩,?_⟩
   ·obtain ⟨h1,h2⟩:=jR.1 hx;rw [<- cX] at h1;rcases (q1 h).2 x (by rw [i2]; exact bi.1 h1) with h3 | h3
    ·exact absurd h3 h2
    ·exact h3
   ·rw [if_pos hag];cases ag1 with
    | true=>have:=q2 rfl; rw [if_pos rfl]; omega
    | false=>have:=(q1 rfl).1; rw [this,if_neg (by simp)]; omega
 ·dsimp only at hW hp hag |-;exact ⟨trivial,hW.goes.sorted (hp hag),rfl,trivial⟩
theorem KW:Kl.ok Tryz.prog 34:=aA (ann:=Mi) (ac fT (ac fS (fO mI ap))) Tryz.func34 (by kernel_rfl) HC
end
section
set_option maxHeartbeats 4000000
def Kj:Spec:={ Ts:=[ty_I,.ref (.arr ty_I)],Rs:=[.dat .bool],pre:=fun _=>True,F:=fun ((x,g):Int×List Int)=>cu g x }
def Ci:Prop :=
  ∀ (x:Int×List Int),(am .i64 x.1/\x.2.length * 8<=aF/\∀ (x_1:Int),x_1∈x.2->am .i64 x_1)->True->True/\cu x.2 x.1=cu x.2 x.1/\True
theorem HA:Ci:=by
 unfold Ci;intro ⟨x,g⟩ _ _;exact ⟨trivial,rfl,trivial⟩
theorem KU:Kj.ok Tryz.prog 38:=aA (ann:=cn) (ac lG ap) Tryz.func38 (by kernel_rfl) HA
def wY:Nat->Option LoopGen
 | 7=>some { rd:=[.dat 0 (.arr bo),.dat 1 (.arr ty_I)],A:=fun ((a,f):List Int×List Int)=>{ cs:=[.box 11 lz,.dat 13 ty_I],inv:=fun ((t,i):vN×Int)=>0<=i/\i<=a.length+1/\Way a f t/\(t.2.2.length:Int)=i,mu:=fun ((_,i):vN×Int)=>(a.length+1 - i).toNat } }
 | _=>none
def wl:Spec:=Ky [.arr bo,.arr ty_I,ty_I]
def nB:Prop :=
  ∀ (x:List Int×List Int×Int),(fun (v3:type_of% (eR x.1 x.2.1 x.2.2))=>(fun (v2:type_of% (iw x.1 x.2.1))=>(fun (v1:type_of% (bI x.1 x.2.1))=>(fun (v0:type_of% (bI x.1 (g7 x.2.1 x.2.2 (x.2.2+1))))=>(x.1.length * 8<=aF/\∀ (x_1:Int),x_1∈x.1->am .u64 x_1)/\(x.2.1.length * 8<=aF/\∀ (x_1:Int),x_1∈x.2.1->am .i64 x_1)/\am .i64 x.2.2->(x.1.length * 8<=140737488351232/\∀ (x_1:Int),x_1∈x.1->hJ bo x_1)/\(x.2.1.length * 8<=140737488351232/\∀ (x_1:Int),x_1∈x.2.1->hJ ty_I x_1)/\True->True/\True/\((!true||decide (v1.2≠0))=true->True/\true=true/\True)/\((!true||decide (v1.2≠0))=false->True/\True/\((0:Int)<=0/\0<=(x.1.length:Int)+1/\Way x.1 x.2.1 v2.1/\(v2.1.2.2.length:Int)=0)/\∀ (x_1:(List Int×List Int×List Int)×Int),0<=x_1.2/\x_1.2<=(x.1.length:Int)+1/\Way x.1 x.2.1 x_1.1/\(x_1.1.2.2.length:Int)=x_1.2->(decide (x_1.2<=(x.1.length:Int))=true->(x_1.1.2.1.length+x_1.1.2.2.length+300) * 8<=140737488355328/\(decide ((d5 x_1.1).2.2≠0)=true->false=true/\True)/\(decide ((d5 x_1.1).2.2≠0)=false->((!(d5 x_1.1).2.1)=true->True/\x.2.1.length * 8<=140737488351232/\(decide (v3.2=0)=true->True/\am .i64 (x.2.2+1)/\(0<=x.2.2/\x.2.2<x.2.2+1/\x.2.2+1<=(x.2.1.length:Int))/\True/\(decide (v0.2≠0)=false->∀ (s:Int),s∈v3.1->(fun (_:Int)=>True,fun (x_2:Int)=>cu v0.1 x_2).1 s)/\((decide (v0.2≠0)||v3.1.any fun (x_2:Int)=>cu v0.1 x_2)=true->false=true/\True)/\((decide (v0.2≠0)||v3.1.any fun (x_2:Int)=>cu v0.1 x_2)=false->((decide (au x.1 x.2.1=0)&&decide (v2.2=0))=true->True)/\((decide (au x.1 x.2.1=0)&&decide (v2.2=0)&&decide (bM (if au x.1 x.2.1≠0 then ([]:List Int) else fy x.1 x.2.1)=v1.1))=true->True)/\(decide (au x.1 x.2.1=0)&&decide (v2.2=0)&&decide (bM (if au x.1 x.2.1≠0 then ([]:List Int) else fy x.1 x.2.1)=v1.1)&&decide (x_1.1.2.2=v1.1)&&decide ((x_1.1.2.1.length:Int)=0))=true/\True))/\(decide (v3.2=0)=false->((decide (au x.1 x.2.1=0)&&decide (v2.2=0))=true->True)/\((decide (au x.1 x.2.1=0)&&decide (v2.2=0)&&decide (bM (if au x.1 x.2.1≠0 then ([]:List Int) else fy x.1 x.2.1)=v1.1))=true->True)/\(decide (au x.1 x.2.1=0)&&decide (v2.2=0)&&decide (bM (if au x.1 x.2.1≠0 then ([]:List Int) else fy x.1 x.2.1)=v1.1)&&decide (x_1.1.2.2=v1.1)&&decide ((x_1.1.2.1.length:Int)=0))=true/\True))/\((!(d5 x_1.1).2.1)=false->am .i64 (x_1.2+1)/\(0<=x_1.2+1/\x_1.2+1<=(x.1.length:Int)+1/\Way x.1 x.2.1 (d5 x_1.1).1/\(↑(d5 x_1.1).1.2.2.length:Int)=x_1.2+1)/\((x.1.length:Int)+1 - (x_1.2+1)).toNat<((x.1.length:Int)+1 - x_1.2).toNat)))/\(decide (x_1.2<=(x.1.length:Int))=false->True/\x.2.1.length * 8<=140737488351232/\(decide (v3.2=0)=true->True/\am .i64 (x.2.2+1)/\(0<=x.2.2/\x.2.2<x.2.2+1/\x.2.2+1<=(x.2.1.length:Int))/\True/\(decide (v0.2≠0)=false->∀ (s:Int),s∈v3.1->(fun (_:Int)=>True,fun (x_2:Int)=>cu v0.1 x_2).1 s)/\((decide (v0.2≠0)||v3.1.any fun (x_2:Int)=>cu v0.1 x_2)=true->false=true/\True)/\((decide (v0.2≠0)||v3.1.any fun (x_2:Int)=>cu v0.1 x_2)=false->((decide (au x.1 x.2.1=0)&&decide (v2.2=0))=true->True)/\((decide (au x.1 x.2.1=0)&&decide (v2.2=0)&&decide (bM (if au x.1 x.2.1≠0 then ([]:List Int) else fy x.1 x.2.1)=v1.1))=true->True)/\(decide (au x.1 x.2.1=0)&&decide (v2.2=0)&&decide (bM (if au x.1 x.2.1≠0 then ([]:List Int) else fy x.1 x.2.1)=v1.1)&&decide (x_1.1.2.2=v1.1)&&decide ((x_1.1.2.1.length:Int)=0))=true/\True))/\(decide (v3.2=0)=false->((decide (au x.1 x.2.1=0)&&decide (v2.2=0))=true->True)/\((decide (au x.1 x.2.1=0)&&decide (v2.2=0)&&decide (bM (if au x.1 x.2.1≠0 then ([]:List Int) else fy x.1 x.2.1)=v1.1))=true->True)/\(decide (au x.1 x.2.1=0)&&decide (v2.2=0)&&decide (bM (if au x.1 x.2.1≠0 then ([]:List Int) else fy x.1 x.2.1)=v1.1)&&decide (x_1.1.2.2=v1.1)&&decide ((x_1.1.2.1.length:Int)=0))=true/\True)))) (bI x.1 (g7 x.2.1 x.2.2 (x.2.2+1)))) (bI x.1 x.2.1)) (iw x.1 x.2.1)) (eR x.1 x.2.1 x.2.2)
theorem tl:nB:=by
 unfold nB;intro ⟨a,f,k⟩ ⟨⟨_,hw⟩,⟨hfb,_⟩,hk⟩ ⟨_,⟨hfr,_⟩,_⟩;simp only at hw hfb hk hfr |-;have hre:(bI a f).2=au a f:=xk a f;refine ⟨trivial,trivial,fun _=>⟨trivial,by first | exact trivial | rfl,trivial⟩,fun hg=>?_⟩;simp only [QG,Qw] at hg;have h0:au a f=0:=by have:=hg.2; omega
 obtain ⟨s1,s2,s3⟩:=Hv h0;have hR:bI a f=(br a f,0):=by unfold bI; rw [if_neg (by omega)]
 have hO:=Fi hw h0;have hAl:a.length<=256:=(bJ (bW h0).1).1;refine ⟨trivial,trivial,⟨by omega,by omega,s2,by rw [s3]; rfl⟩,fun ⟨t,i⟩ ⟨i0,i1,W,i2⟩=>⟨fun hlt=>?_,fun hge=>?_⟩⟩
 ·have hlt:=Pt hlt;simp only at i0 i1 W i2 hlt |-;obtain ⟨l1,l2⟩:=Gn hw W;by_cases hg:t.2.1=[]
  ·rw [JS W hg];refine ⟨by omega,fun h=>by simp at h,fun _=>⟨fun _=>?_,fun h=>by simp at h⟩⟩;have hE:=Mx hw h0 W hg
   have fin:(decide (au a f=0)&&decide ((iw a f).2=0)&&decide (bM (if au a f≠0 then ([]:List Int) else fy a f)=(bI a f).1)&&decide (t.2.2=(bI a f).1)&&decide ((t.2.1.length:Int)=0))=true:=by
    rw [if_neg (by omega),hO,hR,hE,hg,s1,h0];simp
   refine ⟨trivial,hfr,fun hd=>?_,fun _=>⟨fun _=>trivial,fun _=>trivial,fin,trivial⟩⟩;have hd:=Pt hd
   have hD:0<=k/\k<(f.length:Int)/\eR a f k=(su a (gh f k),0):=by
    unfold eR at hd |-;rw [if_neg (by omega)] at hd |-;split at hd
    ·simp at hd
    ·rename_i hn;rw [if_neg hn];exact ⟨by omega,by omega,rfl⟩
   obtain ⟨k0,k1,hD⟩:=hD
   have hc:g7 f k (k+1)=gh f k:=by
    unfold g7 gh;rw [show (k+1).toNat=k.toNat+1 by omega]
   have hf2:=ID h0 k;have hR2:bI a (gh f k)=(br a (gh f k),0):=by unfold bI; rw [if_neg (by omega)]
   have hdead:=Ji hw hf2;rw [hc,hR2,hD];simp only [am] at hk |-;refine ⟨trivial,by omega,⟨k0,by omega,by omega⟩,trivial,fun _ _ _=>trivial,fun hx=>?_,fun _=>⟨fun _=>trivial,fun _=>trivial,fin,trivial⟩⟩;exfalso;simp only [Qq,Qk] at hx;rcases hx with hx | hx
   ·exact hx rfl
   ·obtain ⟨y,hy,e⟩:=Qt.1 hx;exact hdead y hy (bi.1 e)
  ·obtain ⟨e1,e2,e3⟩:=JT hw W hg;have e4:(d5 t).2.1=true:=by rw [e1]
   have e5:(d5 t).2.2=0:=by rw [e1]
   rw [e4,e5];simp only [am];exact ⟨by omega,fun h=>by simp at h,fun _=>⟨fun h=>by simp at h,fun _=>⟨by omega,⟨by omega,by omega,e2,by omega⟩,by omega⟩⟩⟩
 ·exfalso;have hge:=Pu hge;simp only at i0 i1 W i2 hge;obtain ⟨l1,l2⟩:=Gn hw W;omega
theorem ww:wl.ok Tryz.prog 7:=aA (ann:=wY) (ac px (ac KT (ac K4 (ac zP (ac KV (ac KW (ac bV (ac KU (ac py (ac IX (fO mI (fO GY ap)))))))))))) Tryz.func7 (by kernel_rfl) tl
end
section
open Go Go.ChangeShapes Go.WideShapes Go.ChangeAt Go.RowKit Go.Deep
def uY (P:Program) (g:Ty->TypeId->Bool):List Field->Ty->Nat->Bool
 | [],_,_=>false
 | [f],T,off=>Nat.beq f.offset off&&Nat.beq (P.cellsOf f.type) T.size&&g T f.type
 | f::f2::fs,T,off=>match T with
  | .pair A B=>Nat.beq f.offset off&&Nat.beq (P.cellsOf f.type) A.size&&g A f.type&&uY P g (f2::fs) B (off+A.size)
  | _=>false
def uX (P:Program):Nat->Ty->TypeId->Bool
 | 0,_,_=>false
 | n+1,T,t=>match P.underlying t,T with
  | some (.int k),.int k'=>if k=k' then true else false
  | some .bool,.bool=>true
  | some .string,.str=>true
  | some (.slice e),.arr T=>Nat.beq (P.cellsOf e) T.size&&Nat.ble T.bytes (P.bytesOf e)&&uX P n T e
  | some (.struct fs),.pair A B=>Nat.beq (P.cellsOf t) (Ty.pair A B).size&&uY P (uX P n) fs.toList (.pair A B) 0
  | _,_=>false
section
variable {H:Type} {enc:TypeId×Value->H} {P:Program} {w:World}
theorem NU {k:IntKind} {n:Int} (h:(Lit.int k n).wf=true):am k n:=by
 simp only [Lit.wf,Px,Qk] at h;cases k <;> simp [am,IntKind.min,IntKind.max,IntKind.signed,IntKind.bits] at h |- <;> omega
theorem yv {a:Addr} {v:Value} (h:w.cell? a=some v):a.spot=none/\(full w).cell a.block a.off=some v:=by
 unfold World.cell? at h;split at h
 ·rename_i c t z hb;split at h
  ·cases h
  ·rename_i hs;refine ⟨by cases hsp:a.spot <;> simp_all,?_⟩;simp [PH.cell,full,hb,h,Blk.get]
 ·cases h
theorem Mb (d:DataW H):1<=Rows.uptoBulk d:=by
 cases d with
 | lit l=>cases l <;> simp [Rows.uptoBulk]
 | nil=>simp [Rows.uptoBulk]
 | ptr d=>simp [Rows.uptoBulk]
 | slice elems spare=>simp [Rows.uptoBulk]
 | agg parts=>simp [Rows.uptoBulk]
 | iface t d=>simp [Rows.uptoBulk]
 | map entries=>simp [Rows.uptoBulk]
 | held h=>simp [Rows.uptoBulk]
theorem yy {d:DataW H} {l:List (DataW H)} (h:d∈l):Rows.uptoBulk d<=Rows.uptoBulkAll l:=by
 induction l with
 | nil=>cases h
 | cons x r ih =>
  simp only [Rows.uptoBulkAll];cases PD.1 h with
  | inl e=>subst e; omega
  | inr e=>have:=ih e; omega
theorem DI (l:List (DataW H)):l.length<=Rows.uptoBulkAll l:=by
 induction l with
 | nil=>simp [Rows.uptoBulkAll]
 | cons x r ih=>have:=Mb x; simp only [Rows.uptoBulkAll,Pz]; omega
def NS (enc:TypeId×Value->H) (P:Program) (w:World) (g:Ty->TypeId->Bool):Prop :=
 ∀ (T:Ty) (t:TypeId) (fuel:Nat) (cs:List Value) (d:DataW H) (ps:List MemPlace),g T t=true->DataW.trod enc P w 0 (fun _=>true) true fuel t cs=some (d,ps) ->
  (∀ n∈d.weights P t,n<=reachBytes)->∃ x:T.den,T.holds (full w) x cs/\hJ T x/\∀ B,Rows.uptoBulk d<=B->g9 B T x
theorem GU {g:Ty->TypeId->Bool} (hg:NS enc P w g) {all:List Field} {cs:List Value} {xs:List (DataW H×List MemPlace)} {n:Nat}
  (hat:∀ (i:Nat) (f:Field),all[i]?=some f->DataW.trod enc P w 0 (fun _=>true) true n f.type ((cs.drop f.offset).take (P.cellsOf f.type))=xs[i]?)
  (hlen:xs.length=all.length) (hw:∀ m∈DataW.weightsEach P (all.map (·.type)) (xs.map (·.1)),m<=reachBytes) :
  ∀ (fs:List Field) (T:Ty) (off:Nat) (k:Nat),uY P g fs T off=true->(∀ i,fs[i]?=all[k+i]?)->cs.length=off+T.size->∃ x:T.den,T.holds (full w) x (cs.drop off)/\hJ T x/\∀ B,(∀ y∈xs,Rows.uptoBulk y.1<=B)->g9 B T x
 | [],_,_,_,h,_,_=>by cases h
 | [f],T,off,k,h,hk,hc=>by
  simp only [uY,Px] at h;obtain ⟨⟨h1,h2⟩,h3⟩:=h;have h1:=Pw h1;have h2:=Pw h2;have e0:all[k]?=some f:=by have:=hk 0; simpa using this.symm
  have hkl:k<all.length:=by
   rcases PU k all.length with h | h
   ·exact h
   ·rw [List.getElem?_eq_none h] at e0; cases e0
  have hx:xs[k]?=some (xs[k]'(by omega)):=List.getElem?_eq_getElem (by omega);have ht:=hat k f e0;rw [hx,h1,h2] at ht;have:=hg T f.type n _ (xs[k]'(by omega)).1 (xs[k]'(by omega)).2 h3 ht (fun m hm=>hw m (DataW.weights_mem_each (j:=k) (by simp [e0]) (by simp [hx]) m hm));rw [PJ (by simp; omega)] at this;obtain ⟨x,h5,h6,h7⟩:=this;exact ⟨x,h5,h6,fun B hB=>h7 B (hB _ (List.getElem_mem (by omega)))⟩
 | f::f2::fs,T,off,k,h,hk,hc=>by
  cases T with
  | pair A B =>
   simp only [uY,Px] at h;obtain ⟨⟨⟨h1,h2⟩,h3⟩,h4⟩:=h;have h1:=Pw h1;have h2:=Pw h2;have e0:all[k]?=some f:=by have:=hk 0; simpa using this.symm
   have hkl:k<all.length:=by
    rcases PU k all.length with h | h
    ·exact h
    ·rw [List.getElem?_eq_none h] at e0; cases e0
   have hx:xs[k]?=some (xs[k]'(by omega)):=List.getElem?_eq_getElem (by omega);have ht:=hat k f e0;rw [hx,h1,h2] at ht;obtain ⟨x,hx1,hx2,hx3⟩:=hg A f.type n _ (xs[k]'(by omega)).1 (xs[k]'(by omega)).2 h3 ht (fun m hm=>hw m (DataW.weights_mem_each (j:=k) (by simp [e0]) (by simp [hx]) m hm));obtain ⟨y,hy1,hy2,hy3⟩:=GU hg hat hlen hw (f2::fs) B (off+A.size) (k+1) h4 (fun i=>by have:=hk (i+1); simp only [List.getElem?_cons_succ] at this; rw [this]; congr 1; omega) (by simp only [Ty.size] at hc; omega);refine ⟨(x,y),⟨_,_,?_,hx1,hy1⟩,⟨hx2,hy2⟩,fun B hB=>⟨hx3 B (hB _ (List.getElem_mem (by omega))),hy3 B hB⟩⟩;rw [<- QZ,Qr]
  | _=>cases h
theorem KR {T:Ty} {a:Addr} {n:Nat} {bd:Nat->Nat} (hat:∀ i,i<n->∃ cs,w.cells? 0 (a.add (i * T.size)) T.size=some cs/\∃ x:T.den,T.holds (full w) x cs/\hJ T x/\∀ B,bd i<=B->g9 B T x) :
  ∃ (xs:List T.den) (l:List Value),xs.length=n/\aM (Ty.holds T (full w)) xs l/\(∀ j u,l[j]?=some u->w.cell? (a.add j)=some u)/\∀ x∈xs,hJ T x/\∀ B,(∀ i,i<n->bd i<=B)->g9 B T x:=by
 induction n with
 | zero=>exact ⟨[],[],rfl,rfl,fun j u h=>by simp at h,fun x h=>by cases h⟩
 | succ n ih =>
  obtain ⟨xs,l,h1,h2,h3,h4⟩:=ih (fun i hi=>hat i (by omega));obtain ⟨cs,hc,x,hx,hxr,hxs⟩:=hat n (by omega);obtain ⟨_,hl,hcell⟩:=World.cells?_some hc;have hll:l.length=n * T.size:=by rw [c6 (fun x cs h=>Ty.holds_length T x cs h) xs l h2,h1]
  refine ⟨xs++[x],l++cs,by simp [h1],cB _ _ _ _ h2 ⟨cs,[],by simp,hx,rfl⟩,fun j u hj=>?_,fun y hy=>?_⟩;rotate_left
  ·rcases PI.1 hy with hy | hy
   ·exact ⟨(h4 y hy).1,fun B hB=>(h4 y hy).2 B (fun i hi=>hB i (by omega))⟩
   ·rw [PB.1 hy]; exact ⟨hxr,fun B hB=>hxs B (hB n (by omega))⟩
  rcases PU j l.length with hjl | hjl
  ·rw [List.getElem?_append_left hjl] at hj;exact h3 j u hj
  ·rw [List.getElem?_append_right hjl] at hj
   have hjc:j - l.length<T.size:=by
    rcases PU (j - l.length) cs.length with h | h
    ·omega
    ·rw [List.getElem?_eq_none h] at hj; cases hj
   have:=hcell (j - l.length) hjc;rw [hj,Go.Deep.add_add] at this;rw [<- this];congr 2;omega
theorem OM (n:Nat):NS enc P w (uX P n):=by
 induction n with
 | zero=>intro T t fuel cs d ps h; cases h
 | succ n ih =>
  intro T t fuel cs d ps h ht hw;unfold uX at h;split at h
  ·rename_i k k' hu;split at h
   ·rename_i hk;subst hk;obtain ⟨m,rfl,_,hwf⟩:=DataW.trod_int hu ht;exact ⟨m,⟨rfl,NU hwf⟩,trivial,fun _ _=>trivial⟩
   ·cases h
  ·rename_i hu;obtain ⟨b,rfl,_⟩:=DataW.trod_bool hu ht;exact ⟨b,rfl,trivial,fun _ _=>trivial⟩
  ·rename_i hu;obtain ⟨s,rfl,hx,_⟩:=DataW.trod_string hu ht;injection hx with hx _
   subst hx;have:=hw s.data.toList.length (by simp [DataW.weights]);have e:reachBytes=140737488351232:=rfl;refine ⟨s.data.toList,⟨rfl,?_⟩,?_,fun B hB=>?_⟩
   ·unfold aF;omega
   ·show s.data.toList.length<=140737488351232;omega
   ·simp only [Rows.uptoBulk] at hB;show s.data.toList.length<=B;omega
  ·rename_i e T hu;simp only [Px] at h;obtain ⟨⟨h1,h2⟩,h3⟩:=h;have h1:=Pw h1;have h2:=PN h2;rcases open_slice hu ht with ⟨rfl,_⟩ | ⟨a,len,cap,m,n',D,Pl,rfl,_,hl,hm,hmm,hx,hi⟩
   ·exact ⟨[],⟨none,0,[],rfl,by simp,by simp,rfl,fun h=>absurd rfl h⟩,⟨by show 0 * _<=_; simp,fun x h=>by cases h⟩,fun B _=>⟨Qa B,fun x h=>by cases h⟩⟩
   ·simp only [if_true] at hmm;injection hx with hx _
    subst hx;have hsz:(len+(m - len)) * P.bytesOf e<=reachBytes:=hw _ (by simp [DataW.weights,hu])
    have hweach:∀ (l:List (DataW H)) (d:DataW H),d∈l->∀ q∈d.weights P e,q∈DataW.weightsAll P e l:=by
     intro l
     induction l with
     | nil=>intro d hd; cases hd
     | cons y l ih2 =>
      intro d hd q hq;simp only [DataW.weightsAll,PI];rcases PD.1 hd with rfl | hd
      ·exact .inl hq
      ·exact .inr (ih2 d hd q hq)
    obtain ⟨xs,l,k1,k2,k3,k4⟩:=KR (w:=w) (T:=T) (a:=a) (n:=len) (bd:=fun i=>Rows.uptoBulk (D i)) (fun i hil=>by
     obtain ⟨cs',hc,ht'⟩:=hi i (by omega);rw [h1] at hc;refine ⟨cs',hc,ih T e n' cs' (D i) (Pl i) h3 ht' (fun q hq=>hw q ?_)⟩;simp only [DataW.weights,hu,PD,PI];exact .inr (.inl (hweach _ (D i) (by simp only [P3,RD]; exact ⟨i,hil,rfl⟩) q hq)))
    refine ⟨xs,⟨some a,cap,l,by rw [k1],by omega,?_,k2,fun hne=>?_⟩,⟨?_,fun x hx=>(k4 x hx).1⟩,fun B hB=>⟨?_,fun x hx=>(k4 x hx).2 B (fun i hi=>?_)⟩⟩;rotate_left 3
    ·have hB2:=hB;simp only [Rows.uptoBulk] at hB2;refine P9 ?_ (P9 (DI _) (P9 (P9 (Nat.le_add_right _ _) (Nat.le_add_right _ _)) hB2));show xs.length<=_;rw [k1];simp
    ·have hB2:=hB;simp only [Rows.uptoBulk] at hB2;refine P9 (yy ?_) (P9 (P9 (Nat.le_add_right _ _) (Nat.le_add_right _ _)) hB2);simp only [P3,RD];exact ⟨i,hi,rfl⟩
    rotate_left 2
    ·have h5:len * T.bytes<=(len+(m - len)) * P.bytesOf e:=Nat.mul_le_mul (by omega) h2;have e:reachBytes=140737488351232:=rfl;show xs.length * _<=_;rw [k1];omega
    ·have h5:len * T.bytes<=(len+(m - len)) * P.bytesOf e:=Nat.mul_le_mul (by omega) h2;have e:reachBytes=140737488351232:=rfl;rw [k1];unfold aF;omega
    ·have hpos:=Ty.size_pos T
     have hlp:0<l.length:=by
      rw [c6 (fun x cs h=>Ty.holds_length T x cs h) xs l k2];have:0<xs.length:=RI.2 hne;exact Nat.mul_pos this hpos
     have hsp:a.spot=none:=(yv (k3 0 _ (List.getElem?_eq_getElem hlp))).1
     refine ⟨a.block,a.off,by cases a; simp_all,fun j u hj=>by
      have h9:=(yv (k3 j u hj)).2;by_cases hj0:j=0 <;> simp only [Addr.add,hj0,if_true,P5,QU] at h9 |- <;> exact h9⟩
  ·rename_i fs A B hu;simp only [Px] at h;obtain ⟨h1,h2⟩:=h;have h1:=Pw h1;obtain ⟨xs,n',_,hx,hlen,hxl,hat⟩:=DataW.trod_struct hu ht;injection hx with hx _
   subst hx;have:=GU ih (all:=fs.toList) (cs:=cs) (xs:=xs) (n:=n') (fun i f hf=>hat i f (by simpa using hf)) (by simp [hxl]) (fun m hm=>hw m (by simpa [DataW.weights,hu] using hm)) fs.toList (.pair A B) 0 0 h2 (fun i=>by simp) (by omega);obtain ⟨x,h5,h6,h7⟩:=this;refine ⟨x,by simpa using h5,h6,fun C hC=>h7 C fun y hy=>P9 (yy (P3.2 ⟨y,hy,rfl⟩)) ?_⟩;simp only [Rows.uptoBulk] at hC;exact P9 (Nat.le_succ _) hC
  ·cases h
def pX (P:Program):List Ty->List TypeId->Bool
 | [],[]=>true
 | T::Ts,t::ts=>uX P 9 T t&&pX P Ts ts
 | _,_=>false
theorem KQ {base:Nat} {n:Nat} {T:Ty} {t:TypeId} {v:Value} {x:T.den} (hf:uX P n T t=true) (hv:Value.okWide P w .any base t v) (hx:T.holds (full w) x v.cells.toList):T.vholds (full w) x v:=by
 cases n with
 | zero=>cases hf
 | succ n =>
  unfold uX at hf;split at hf
  ·rename_i k k' hu
   have:v.cells=#[v]:=by
    cases v <;> first | rfl | simp [Value.okWide,hu,Cell.okWide,Cell.ok] at hv
   rw [this] at hx;exact hx
  ·rename_i hu
   have:v.cells=#[v]:=by
    cases v <;> first | rfl | simp [Value.okWide,hu,Cell.okWide,Cell.ok] at hv
   rw [this] at hx;exact hx
  ·rename_i hu
   have:v.cells=#[v]:=by
    cases v <;> first | rfl | simp [Value.okWide,hu,Cell.okWide,Cell.ok] at hv
   rw [this] at hx;exact hx
  ·rename_i e T hu
   have:v.cells=#[v]:=by
    cases v <;> first | rfl | simp [Value.okWide,hu,Cell.okWide,Cell.ok] at hv
   rw [this] at hx;exact hx
  ·rename_i fs A B hu;obtain ⟨cs,rfl,_⟩:=okWide_struct hu hv;exact ⟨cs,rfl,hx⟩
  ·cases hf
theorem xT {base:Nat}:∀ (Ts:List Ty) (ts:List TypeId) (vs:List Value) (ds:List (DataW H)) (p:List MemPlace),pX P Ts ts=true->DataW.TrodAll enc P w 0 (fun _=>true) true ts vs ds p ->
  (∀ (j:Nat) t v,ts[j]?=some t->vs[j]?=some v->Value.okWide P w .any base t v)->(∀ m∈DataW.weightsEach P ts ds,m<=reachBytes)->∃ x:gi Ts,dd (full w) Ts x vs/\mv Ts x/\∀ B,Rows.uptoBulkAll ds<=B->qC B Ts x
 | [],[],vs,ds,p,_,hA,_,_=>by
  cases vs with
  | nil=>exact ⟨(),rfl,trivial,fun _ _=>trivial⟩
  | cons v vs=>cases ds <;> exact hA.elim
 | [],t::ts,_,_,_,h,_,_,_=>by cases h
 | T::Ts,[],_,_,_,h,_,_,_=>by cases h
 | T::Ts,t::ts,[],ds,p,h,hA,hv,hw=>by cases ds <;> exact hA.elim
 | T::Ts,t::ts,v::vs,[],p,h,hA,hv,hw=>hA.elim
 | T::Ts,t::ts,v::vs,d::ds,p,h,hA,hv,hw=>by
  simp only [pX,Px] at h;obtain ⟨p1,p2,⟨fuel,h1⟩,h2,_⟩:=hA;obtain ⟨x,hx,hxr,hxs⟩:=OM 9 T t fuel _ d p1 h.1 h1 (fun m hm=>hw m (by simp only [DataW.weightsEach,PI]; exact .inl hm));have hxv:=KQ h.1 (hv 0 t v rfl rfl) hx;obtain ⟨y,hy,hyr,hys⟩:=xT Ts ts vs ds p2 h.2 h2 (fun j t v a b=>hv (j+1) t v (by simpa using a) (by simpa using b)) (fun m hm=>hw m (by simp only [DataW.weightsEach,PI]; exact .inr hm));cases Ts with
  | nil =>
   simp only [dd] at hy;subst hy;exact ⟨x,⟨v,rfl,hxv⟩,hxr,fun B hB=>hxs B (by simp only [Rows.uptoBulkAll] at hB; omega)⟩
  | cons U Ts=>exact ⟨(x,y),⟨v,vs,rfl,hxv,hy⟩,⟨hxr,hyr⟩,fun B hB=>⟨hxs B (by simp only [Rows.uptoBulkAll] at hB; omega),hys B (by simp only [Rows.uptoBulkAll] at hB; omega)⟩⟩
theorem mi:∀ {ts:List TypeId} {vs:List Value} {ds:List (DataW H)} {p:List MemPlace} {b:Nat} {sp:Nat->Bool} {hd:Bool},DataW.TrodAll enc P w b sp hd ts vs ds p->ds.length=ts.length
 | [],[],[],_,_,_,_,_=>rfl
 | [],[],_::_,_,_,_,_,h=>h.elim
 | [],_::_,[],_,_,_,_,h=>h.elim
 | [],_::_,_::_,_,_,_,_,h=>h.elim
 | _::_,[],[],_,_,_,_,h=>h.elim
 | _::_,[],_::_,_,_,_,_,h=>h.elim
 | _::_,_::_,[],_,_,_,_,h=>h.elim
 | _::ts,_::vs,_::ds,_,_,_,_,h=>by
  obtain ⟨p,q,_,h2,_⟩:=h;simp [mi h2]
theorem w9 (hl:laidOutB P=true) {W W':World} {sp:Nat->Bool}:∀ {ts:List TypeId} {vs:List Value} {ds:List (DataW H)} {p:List MemPlace},(ts.all fun t=>P.readableRec t&&Nat.blt t P.types.size)=true ->
  DataW.TrodAll enc P W 0 (fun _=>true) true ts vs ds p->(∀ x∈p,W.sameAt W' x)->(∀ x∈p,sp x.block=true)->DataW.TrodAll enc P W' 0 sp true ts vs ds p
 | [],[],[],_,_,h,_,_=>h
 | [],[],_::_,_,_,h,_,_=>h.elim
 | [],_::_,[],_,_,h,_,_=>h.elim
 | [],_::_,_::_,_,_,h,_,_=>h.elim
 | _::_,[],[],_,_,h,_,_=>h.elim
 | _::_,[],_::_,_,_,h,_,_=>h.elim
 | _::_,_::_,[],_,_,h,_,_=>h.elim
 | t::ts,v::vs,d::ds,_,hr,h,hs,hsp=>by
  simp only [Qv,Px] at hr;obtain ⟨p,q,h1,h2,rfl⟩:=h;refine ⟨p,q,WideElems.Trod_stays hl hr.1.1 (by simpa using hr.1.2) h1 (fun x hx=>hs x (by simp [hx])) (fun x hx=>hsp x (by simp [hx])),w9 hl hr.2 h2 (fun x hx=>hs x (by simp [hx])) (fun x hx=>hsp x (by simp [hx])),rfl⟩
theorem ws {f:Func} {s:ChangeSpec} {apart fresh handsOn again:Bool} {W W':World} {args:Array Value} {v:Value} {ds gs:List (DataW H)} {before pa pv:List MemPlace}
  (hW:DataW.Whole enc P f.params.toList s.vars apart W args.toList ds gs before)
  (hres:∀ (b:Nat) (sp:Nat->Bool) (hd:Bool),DataW.TrodAll enc P W' b sp hd f.resultTypes.toList (v.resultList f.resultTypes.size) (s.fn H (ds++gs)).results [])
  (hargs:∀ sp:Nat->Bool,(∀ p∈before,sp p.block=true)->DataW.TrodAll enc P W' 0 sp true f.params.toList args.toList (s.fn H (ds++gs)).args pa)
  (hvars:∀ sp:Nat->Bool,(∀ p∈before,sp p.block=true)->DataW.TrodVars enc P W' sp s.vars (s.fn H (ds++gs)).vars pv)
  (hps:before=pa++pv) (hb:Below W.heap.size W W')
  (hok:∀ (j:Nat) (t:TypeId) (r:Value),f.resultTypes[j]?=some t->(v.resultList f.resultTypes.size)[j]?=some r->Value.okWide P W' .any 0 t r) :
  s.post enc P f apart fresh handsOn again W args v W':=by
 have hlt:∀ p∈before,p.block<W.heap.size:=fun p hp=>hW.lt p hp
 have hold:∀ p∈before,(fun b=>decide (b<W.heap.size)) p.block=true:=fun p hp=>by simpa using hlt p hp
 refine ⟨ds,gs,before,[],pa,pv,hW,hres _ _ _,hargs _ hold,hvars _ hold,World.keptBut_mono (fun p hp=>⟨hp,?_⟩) (hb.frame (·∈before)),fun _=>?_⟩
 ·rw [hps,PI] at hp;exact Or.inr hp
 ·obtain ⟨_,_,_,_,_,hz,hn⟩:=hW;refine ⟨hok,_,_,([]++pa)++pv,⟨[]++pa,pv,trodAll_append (hargs _ (fun _ _=>rfl)) (hres _ _ _),hvars _ (fun _ _=>rfl),rfl,?_,?_⟩,?_⟩
  ·intro b off hp;have hin:MemPlace.cell b off∈before:=by rw [hps]; simpa using hp
   rw [hb.frozen (hlt _ hin)];exact hz b off hin
  ·intro ha;have:=hn ha;rw [hps] at this;simpa using this
  ·intro p hp _;rw [hps];simpa using hp
theorem wA {Ts:List Ty} {pre:gi Ts->Prop} {f:FuncId} {fn:Func} {r:ChangeSpec} {apart fresh handsOn again:Bool} {tb:TypeId} (hok:Spec.ok { Ts:=Ts,Rs:=[.dat .bool],pre:=pre,F:=fun _=>(true:Bool) } P f)
  (hl:laidOutB P=true) (hfit:pX P Ts fn.params.toList=true) (hrec:(fn.params.toList.all fun t=>P.readableRec t&&Nat.blt t P.types.size)=true)
  (hres:fn.resultTypes=#[tb]) (htb:P.underlying tb=some .bool) (hvars:r.vars=[]) (hfn:∀ ds:List (DataW H),ds.length=fn.params.size->r.fn H ds={ results:=[.lit (.bool true)],args:=ds })
  {W:World} {base:Nat} {args:Array Value} {ds gs:List (DataW H)} {before:List MemPlace} (hval:∀ (j:Nat) t v,fn.params[j]?=some t->args[j]?=some v->Value.okWide P W .any base t v)
  (hW:DataW.Whole enc P fn.params.toList r.vars apart W args.toList ds gs before)
  (hwt:(DataW.weightsEach P (fn.params.toList++r.plain.varTypes P) (ds++gs)).all (·<=reachBytes)=true) (hLd:Laid W) (hpre:∀ x,mv Ts x->(∀ B,Rows.uptoBulkAll (ds++gs)<=B->qC B Ts x)->pre x) :
  Calls P f args W fun e W'=>∃ v,e=.returned v/\r.post enc P fn apart fresh handsOn again W args v W':=by
 have hW':=hW;obtain ⟨p,q,hA,hV,rfl,hfz,hnd⟩:=hW;rw [hvars] at hV;obtain ⟨rfl,rfl⟩:=trodVars_none hV
 have hwt':∀ m∈DataW.weightsEach P fn.params.toList ds,m<=reachBytes:=by
  have e:r.plain.varTypes P=[]:=by simp [ChangeSpec.plain,DataSpec.varTypes,hvars]
  rw [e,Qi,Qi] at hwt;intro m hm;simpa using PA.1 hwt m hm
 obtain ⟨x,hx,hxr,hxs⟩:=xT Ts fn.params.toList args.toList ds p hfit hA (fun j t v a b=>hval j t v (by simpa using a) (by simpa using b)) hwt';have hcall:=hok (full W) W args.toList x hLd (mT W) hx (hpre x hxr (by simpa using hxs));simp only [R6] at hcall;refine hcall.mono fun e W' ⟨rs,qq,he,hk,_,_,hr⟩=>?_
 subst he;have hb:Below W.heap.size W W':=⟨hk.os,hk.tape,hk.output,hk.size,fun i hi=>hk.block i hi (fun h=>h)⟩;obtain ⟨v,rfl,hv,_⟩:=hr
 have hv:v=.bool true:=by
  have h2:[v]=[.bool true]:=hv;exact (List.cons.inj h2).1
 subst hv;have hd:=mi hA
 have e1:r.fn H (ds++[])={ results:=[.lit (.bool true)],args:=ds }:=by
  rw [Qi]; exact hfn ds (by simpa using hd)
 refine ⟨_,rfl,ws (pa:=p) (pv:=[]) hW' (fun b sp hd=>?_) (fun sp hsp=>?_) (fun sp _=>?_) rfl hb (fun j t v hj hv=>?_)⟩
 ·rw [e1,hres];exact trodAll_mk1 ⟨1,by simp [cr,DataW.trod,htb,Value.cells]⟩
 ·rw [e1];exact w9 hl hrec hA (fun y hy=>hb.same (hW'.lt y (by simpa using hy))) (fun y hy=>hsp y (by simpa using hy))
 ·rw [e1,hvars];rfl
 ·rw [hres] at hj hv
  have:j=0:=by
   rcases j with _ | j
   ·rfl
   ·simp at hj
  subst this;simp at hj;subst hj;have:v=.bool true:=by simpa [Value.resultList,cr] using hv.symm
  subst this;simp [Value.okWide,htb,Cell.okWide,Cell.ok]
theorem z6 {Ts:List Ty} {f:FuncId} {fn:Func} {r:ChangeSpec} {apart fresh handsOn again:Bool} {tb:TypeId} (hok:(Ky Ts).ok P f)
  (hl:laidOutB P=true) (hfit:pX P Ts fn.params.toList=true) (hrec:(fn.params.toList.all fun t=>P.readableRec t&&Nat.blt t P.types.size)=true)
  (hres:fn.resultTypes=#[tb]) (htb:P.underlying tb=some .bool) (hvars:r.vars=[]) (hfn:∀ ds:List (DataW H),ds.length=fn.params.size->r.fn H ds={ results:=[.lit (.bool true)],args:=ds })
  {W:World} {base:Nat} {args:Array Value} {ds gs:List (DataW H)} {before:List MemPlace} (hval:∀ (j:Nat) t v,fn.params[j]?=some t->args[j]?=some v->Value.okWide P W .any base t v)
  (hW:DataW.Whole enc P fn.params.toList r.vars apart W args.toList ds gs before)
  (hwt:(DataW.weightsEach P (fn.params.toList++r.plain.varTypes P) (ds++gs)).all (·<=reachBytes)=true) (hLd:Laid W) :
  Calls P f args W fun e W'=>∃ v,e=.returned v/\r.post enc P fn apart fresh handsOn again W args v W' :=
 wA (pre:=mv Ts) hok hl hfit hrec hres htb hvars hfn hval hW hwt hLd fun _ h _=>h
end
end
section
open Go Go.ChangeShapes Go.WideShapes Go.ChangeAt Go.RowKit
abbrev pL : List (String × DataW Unit) := [("math/bits.deBruijn32tab", Rows.laid_math_bits_deBruijn32tab), ("math/bits.deBruijn64tab", Rows.laid_math_bits_deBruijn64tab), ("internal/strconv.uint64pow10", Rows.laid_internal_strconv_uint64pow10), ("unicode/utf8.acceptRanges", Rows.laid_unicode_utf8_acceptRanges), ("cairnfield/play.forms", Rows.laid_cairnfield_play_forms), ("strconv.ErrRange", Rows.laid_strconv_ErrRange), ("strconv.ErrSyntax", Rows.laid_strconv_ErrSyntax), ("unicode/utf8.first", Rows.laid_unicode_utf8_first)]
theorem LW (os:Os) (args:Array Value):laidMetH Tryz.prog pL ((World.laidAll Tryz.prog os pL).forCall (fun _ _=>0) ⟨#[],args,[]⟩).memory:=by
 rw [MakeChecks.laidMetH_plain _ _ _ (by kernel_rfl)];exact laidMet_laidAll _ (by kernel_rfl) (by kernel_rfl)
theorem Me {H:Type} {enc:TypeId×Value->H} {P:Program} {w:World} {base:Nat} {sp:Nat->Bool} {held:Bool} {fuel:Nat} {t e:TypeId} {n:Nat} {cs:List Value} {bs:List Bool} {p:List MemPlace}
  (ht:P.underlying t=some (.array n e)) (he:P.underlying e=some .bool) (hce:P.cellsOf e=1) (hct:P.cellsOf t=n)
  (h:DataW.trod enc P w base sp held fuel t cs=some (.agg (bs.map fun b=>.lit (.bool b)),p)):cs=bs.map Value.bool:=by
 obtain ⟨xs,m,rfl,hx,hl,hn,hel⟩:=DataW.trod_array ht h
 have hxs:xs.map (·.1)=bs.map fun b=>(DataW.lit (.bool b):DataW H):=by
  have:=congrArg Prod.fst hx;simpa using this.symm
 have hbl:bs.length=n:=by
  have:=congrArg List.length hxs;simp at this;omega
 apply Rt;intro i;by_cases hi:i<n
 ·have h1:=hel i hi;rw [hce,QH,List.getElem?_eq_getElem (by omega)] at h1;obtain ⟨b,hb,he1⟩:=DataW.trod_bool he h1
  have h2:cs[i]?=some (.bool b):=by
   have:=congrArg (·[0]?) hb;simpa [List.getElem?_take,List.getElem?_drop] using this
  have h3:(xs.map (·.1))[i]?=some (DataW.lit (.bool b):DataW H):=by
   rw [List.getElem?_map,List.getElem?_eq_getElem (by omega),he1];rfl
  rw [hxs] at h3;simp only [List.getElem?_map,Py,DataW.lit.injEq,Lit.bool.injEq] at h3;obtain ⟨b',hb',rfl⟩:=h3;simp [h2,hb']
 ·rw [List.getElem?_eq_none (by omega),List.getElem?_eq_none (by simp; omega)]
theorem JD {H:Type} {enc:TypeId×Value->H} {P:Program} {w:World} {base:Nat} {sp:Nat->Bool} {held:Bool} {fuel:Nat} {t u e:TypeId} {n k:Nat} {cs:List Value} {bss:List (List Bool)} {p:List MemPlace}
  (ht:P.underlying t=some (.array n u)) (hu:P.underlying u=some (.array k e)) (he:P.underlying e=some .bool) (hce:P.cellsOf e=1) (hcu:P.cellsOf u=k)
  (h:DataW.trod enc P w base sp held fuel t cs=some (.agg (bss.map fun bs=>.agg (bs.map fun b=>.lit (.bool b))),p)) (i:Nat) (bs:List Bool) (hi:bss[i]?=some bs):(cs.drop (i * k)).take k=bs.map Value.bool:=by
 obtain ⟨xs,m,rfl,hx,hl,hn,hel⟩:=DataW.trod_array ht h
 have hxs:xs.map (·.1)=bss.map fun bs=>(DataW.agg (bs.map fun b=>.lit (.bool b)):DataW H):=by
  have:=congrArg Prod.fst hx;simpa using this.symm
 have hbl:bss.length=n:=by
  have:=congrArg List.length hxs;simp at this;omega
 have hin:i<n:=by
  have:=(List.getElem?_eq_some_iff.1 hi).1;omega
 have h1:=hel i hin;rw [hcu,List.getElem?_eq_getElem (by omega)] at h1
 have h3:(xs[i]'(by omega)).1=DataW.agg (bs.map fun b=>.lit (.bool b)):=by
  have:(xs.map (·.1))[i]?=some (xs[i]'(by omega)).1:=by rw [List.getElem?_map,List.getElem?_eq_getElem (by omega)]; rfl
  rw [hxs,List.getElem?_map,hi] at this;simpa using this.symm
 exact Me (p:=(xs[i]'(by omega)).2) hu he hce hcu (h1.trans (by rw [<- h3]))
theorem Nd {H:Type} {enc:TypeId×Value->H} {P:Program} {w:World} {base:Nat} {sp:Nat->Bool} {held:Bool} {fuel:Nat} {t e:TypeId} {k:IntKind} {n:Nat} {cs:List Value} {vs:List Int} {p:List MemPlace}
  (ht:P.underlying t=some (.array n e)) (he:P.underlying e=some (.int k)) (hce:P.cellsOf e=1) (hct:P.cellsOf t=n)
  (h:DataW.trod enc P w base sp held fuel t cs=some (.agg (vs.map fun v=>.lit (.int k v)),p)):cs=vs.map (Value.int k):=by
 obtain ⟨xs,m,rfl,hx,hl,hn,hel⟩:=DataW.trod_array ht h
 have hxs:xs.map (·.1)=vs.map fun v=>(DataW.lit (.int k v):DataW H):=by
  have:=congrArg Prod.fst hx;simpa using this.symm
 have hbl:vs.length=n:=by
  have:=congrArg List.length hxs;simp at this;omega
 apply Rt;intro i;by_cases hi:i<n
 ·have h1:=hel i hi;rw [hce,QH,List.getElem?_eq_getElem (by omega)] at h1;obtain ⟨b,hb,he1,_⟩:=DataW.trod_int he h1
  have h2:cs[i]?=some (.int k b):=by
   have:=congrArg (·[0]?) hb;simpa [List.getElem?_take,List.getElem?_drop] using this
  have h3:(xs.map (·.1))[i]?=some (DataW.lit (.int k b):DataW H):=by
   rw [List.getElem?_map,List.getElem?_eq_getElem (by omega),he1];rfl
  rw [hxs] at h3;simp only [List.getElem?_map,Py,DataW.lit.injEq,Lit.int.injEq,Ro] at h3;obtain ⟨b',hb',rfl⟩:=h3;simp [h2,hb']
 ·rw [List.getElem?_eq_none (by omega),List.getElem?_eq_none (by simp; omega)]
theorem Ls {H:Type} {enc:TypeId×Value->H} {P:Program} {w:World} {base:Nat} {sp:Nat->Bool} {held:Bool} {fuel:Nat} {t:TypeId} {ms} {cs:List Value} {nm:String} {d:DataW H} {p:List MemPlace}
  (ht:P.underlying t=some (.interface ms)) (h:DataW.trod enc P w base sp held fuel t cs=some (.iface nm d,p)):∃ u v,cs=[.iface u v]:=by
 cases fuel with
 | zero=>simp [DataW.trod] at h
 | succ n =>
  unfold DataW.trod at h;rw [ht] at h;split at h <;> simp_all
theorem EC:∀ t∈(List.zip (List.range 56) formsB.flatten).map (fun x=>((0,x.1,.bool x.2):Nat×Nat×Value)),t.1=0/\∃ i j bs b,t.2.1=4 * i+j/\j<4/\formsB[i]?=some bs/\bs[j]?=some b/\t.2.2=.bool b:=by
 intro t ht;obtain ⟨x,hx,rfl⟩:=P3.1 ht
 have key:∀ x∈List.zip (List.range 56) formsB.flatten,∃ bs b,formsB[x.1 / 4]?=some bs/\bs[x.1 % 4]?=some b/\x.2=b:=by
  intro x hx;have hall:((List.zip (List.range 56) formsB.flatten).all fun x=>decide ((formsB[x.1 / 4]?.bind fun bs=>bs[x.1 % 4]?)=some x.2))=true:=by decide +kernel
  have:=Pt (PA.1 hall x hx);obtain ⟨bs,h1,h2⟩:=Option.bind_eq_some_iff.1 this;exact ⟨bs,x.2,h1,h2,rfl⟩
 obtain ⟨bs,b,h1,h2,h3⟩:=key x hx;exact ⟨rfl,x.1 / 4,x.1 % 4,bs,b,(by simp only; omega),Nat.mod_lt _ (by omega),h1,h2,by rw [h3]⟩
theorem J6 {P:Program} {w:World} {n:String} {g:Nat} {cs:Array Value} (hg:P.globalNamed n=some g) (h:w.var? P n=some cs):∃ t fz,w.heap[g]?=some (.cells cs t fz):=by
 simp only [World.var?,hg,Rh] at h;split at h <;> simp_all
theorem Nc {W:World} (h:laidMetH Tryz.prog pL W):Laid W:=by
 rw [MakeChecks.laidMetH_plain _ _ _ (by kernel_rfl)] at h;obtain ⟨ps,⟨_,_,_,_,_,_,_,_,_,_,⟨_,_,_,_,_,_,_,_,_,_,⟨g1,t1,cs1,f1,p1,q1,hg1,ht1,hv1,iC,⟨_,_,_,_,_,_,_,_,_,_,⟨g0,t0,cs0,f0,p0,q0,hg0,ht0,hv0,hd0,⟨g4,t4,cs4,f4,p4,q4,hg4,ht4,hv4,hd4,⟨g3,t3,cs3,f3,p3,q3,hg3,ht3,hv3,hd3,_,_⟩,_⟩,_⟩,_⟩,_⟩,_⟩,_⟩,_,_⟩:=h;have k0 : Tryz.prog.globalNamed "cairnfield/play.forms" = some 0 := by kernel_rfl
 have k1 : Tryz.prog.globalNamed "internal/strconv.uint64pow10" = some 1 := by kernel_rfl
 have k3 : Tryz.prog.globalNamed "strconv.ErrSyntax" = some 3 := by kernel_rfl
 have k4 : Tryz.prog.globalNamed "strconv.ErrRange" = some 4 := by kernel_rfl
 have y0:(Tryz.prog.globals[0]?).map (·.type)=some 219:=by kernel_rfl
 have y1:(Tryz.prog.globals[1]?).map (·.type)=some 353:=by kernel_rfl
 have y3:(Tryz.prog.globals[3]?).map (·.type)=some 314:=by kernel_rfl
 have y4:(Tryz.prog.globals[4]?).map (·.type)=some 314:=by kernel_rfl
 obtain rfl:=QJ (k0.symm.trans hg0);obtain rfl:=QJ (y0.symm.trans ht0);obtain rfl:=QJ (k1.symm.trans hg1);obtain rfl:=QJ (y1.symm.trans ht1);obtain rfl:=QJ (k3.symm.trans hg3);obtain rfl:=QJ (y3.symm.trans ht3);obtain rfl:=QJ (k4.symm.trans hg4);obtain rfl:=QJ (y4.symm.trans ht4)
 have err:∀ {g:Nat} {n:String} {cs:Array Value} {f:Nat} {nm:String} {d:DataW Unit} {p:List MemPlace},Tryz.prog.globalNamed n=some g->W.var? Tryz.prog n=some cs ->
   DataW.trod (fun _=>()) Tryz.prog W 0 (fun _=>true) false f 314 cs.toList=some (.iface nm d,p)->Go.Proofs.YtmfileeamnfpaaaGreatDoor.fits W g 0 .nilIface:=fun hg hv hd=>by
  obtain ⟨u,v,e⟩:=Ls Tryz.underlying314 hd;refine ⟨u,v,?_⟩;rw [World.var?_cell hg hv 0,<- Array.getElem?_toList,e];rfl
 intro t ht;rcases PI.1 ht with ht | ht
 ·obtain ⟨e0,i,j,bs,b,e1,hj,hb1,hb2,e2⟩:=EC t ht;have hk:=JD (u:=218) (e:=4) (n:=14) (k:=4) (bss:=formsB) Tryz.underlying219 Tryz.underlying218 Rf (by kernel_rfl) (by kernel_rfl) hd0 i bs hb1;have hc:=World.var?_cell k0 hv0 (4 * i+j);have h4:=congrArg (·[j]?) hk;simp only [List.getElem?_take,List.getElem?_drop,List.getElem?_map,hb2,hj,if_true,Qb] at h4;rw [e0,e1,e2];show W.cell? ⟨0,4 * i+j,none⟩=some (.bool b);rw [hc,<- Array.getElem?_toList,show 4 * i+j=i * 4+j by omega];exact h4
 ·simp only [PD,R2,or_false] at ht;rcases ht with rfl | rfl | rfl
  ·have hi:=Nd (e:=45) (k:=.u64) (n:=20) (vs:=(List.range 20).map fun i=>((10 ^ i:Nat):Int)) Tryz.underlying353 So (by kernel_rfl) (by kernel_rfl) iC;obtain ⟨ty,fz,e⟩:=J6 k1 hv1;refine ⟨ty,fz,?_⟩;rw [e];congr 1;congr 1;apply P6.1;rw [hi];rfl
  ·exact err k3 hv3 hd3
  ·exact err k4 hv4 hd4
end
section
open Go Go.ChangeShapes Go.WideShapes Go.ChangeAt Go.RowKit
theorem topWays_lifted (os:Os) (started:os.Started) (H:Type) (enc:TypeId×Value->H) :
  ReturnsInHanded {} Tryz.checked os 7 .any (fun w args=>(Rows.topWaysSpec.pre enc Tryz.prog Tryz.f7 Rows.topWaysRow.domain false w args/\laidMetH Tryz.prog Rows.topWaysRow.laid w)/\sizedMet enc Tryz.prog Tryz.f7 (OpenSpec.ofChange Rows.topWaysSpec) false w args) (Rows.topWaysSpec.post enc Tryz.prog Tryz.f7 false true false false):=by
 refine returnsInHanded_of_change_and (C:=Tryz.checked) (X:=fun w _=>laidMetH Tryz.prog Rows.topWaysRow.laid w) (fun _ _ _ hh h=>h.of_heap hh) (by kernel_rfl) started (by kernel_rfl) Tryz.func7
  (ChangeSpec.witness_shaped (enc:=enc) (C:=Tryz.checked) (os:=os) (X:=fun w _=>laidMetH Tryz.prog Rows.topWaysRow.laid w) false (World.laidAll Tryz.prog os pL) #[.slice none 0 0,.slice none 0 0,.int .i64 0] 8 (World.laidAll_os _ _ _) (World.shaped_of_ZipB (by kernel_rfl) (by kernel_rfl)) (by kernel_rfl) (by kernel_rfl) (by kernel_rfl) (LW os _)) ?_
 intro W base args ds gs before hval hW _ hwt hL _;refine z6 (P:=Tryz.prog) (fn:=Tryz.f7) (r:=Rows.topWaysSpec) (tb:=4) @ww (by kernel_rfl) (by kernel_rfl) (by kernel_rfl) (by kernel_rfl) Rf rfl ?_ hval hW hwt (Nc hL);intro ds hd;have hd2:ds.length=3:=hd.trans (by kernel_rfl)
 match ds,hd2 with
 | [_,_,_],_=>rfl
theorem jf_heard:Tryz.prog.stopsHeard=true:=by kernel_rfl
theorem jf_enter:Tryz.prog.mayEnter=true:=by kernel_rfl
theorem jf_lifts:Rows.topWaysRow.lifted=Tryz.prog.liftsFinal:=by kernel_rfl
theorem jf_make:Tryz.prog.make=some Rows.topWaysRow.make:=by kernel_rfl
theorem jf_inpl:Rows.topWaysRow.inPlace=Tryz.prog.inPlace 7:=by kernel_rfl
theorem jf_unf:Rows.topWaysRow.unfollowed=Tryz.prog.unfollowed 7:=by kernel_rfl
theorem jf_rec:Rows.topWaysRow.recurses=Tryz.prog.recurses 7:=by kernel_rfl
theorem jf_named:Rows.topWaysRow.named=Tryz.prog.varsNamed 7:=by kernel_rfl
theorem jf_laid:laidOutB Tryz.prog=true:=by kernel_rfl
theorem jf_rowed:mapsRowed Tryz.prog=true:=by kernel_rfl
theorem jf_closed:joinedFacts Tryz.prog 7 Tryz.f7 Rows.topWaysSpec Rows.topWaysRow=true:=by
 unfold joinedFacts;rw [jf_heard,jf_enter,<- jf_lifts,jf_make,<- jf_inpl,<- jf_unf,<- jf_rec,<- jf_named,jf_laid,jf_rowed]
 kernel_rfl
theorem topWays_row:Rows.TopWaysSaid :=
 OpenClaim.holds_of_wide 7 Tryz.f7 rfl rfl rfl rfl rfl rfl rfl ⟨rfl,rfl,rfl,rfl,rfl⟩ rfl rfl rfl rfl rfl (by kernel_rfl) Tryz.func7 jf_closed
  (Pt (by kernel_rfl)) (by unfold Func.isWrapper; first | (rw [if_pos (by decide +kernel)]; kernel_rfl) | (rw [if_neg (by decide +kernel)]; exact ⟨rfl,rfl⟩))
  (fun os started H enc _=>topWays_lifted os started H enc)
theorem topWays_holds:Rows.TopWaysCardSaid :=
 Claim7.holds_tied_plain_at .later [] [.data, .data, .data, .data, .data, .sentinel, .sentinel, .pinned] true (true, "5b5fcb088d53441a6e833e00799296d41432ec9194293cf31ae9f634430e9183") true
  topWays_row (fun _ h=>by cases h) (by kernel_rfl) (fun _ h=>by cases h) topWays_row_tie rfl ⟨rfl,rfl⟩ (by kernel_rfl) rfl
  (fun f fn hf hfn=>by
   obtain rfl:f=7:=QJ ((show Tryz.prog.funcNamed Rows.topWaysRow.func=some 7 by kernel_rfl).symm.trans hf) |>.symm;obtain rfl:fn=Tryz.f7:=(QJ (Tryz.func7.symm.trans hfn)).symm
   exact ⟨by kernel_rfl,fun j t ht=>by
    have hm:t∈Tryz.f7.params:=Array.mem_of_getElem? ht;have hall:(Tryz.f7.params.toList.all fun u=>!Tryz.prog.wantsStandIn u)=true:=by kernel_rfl
    exact (show Tryz.prog.wantsStandIn t=false by simpa using PA.1 hall t (by simpa using hm))⟩)
  (by kernel_rfl)
end
end Go.Proofs.YtmfileeamnfpaaaGreatDoor
