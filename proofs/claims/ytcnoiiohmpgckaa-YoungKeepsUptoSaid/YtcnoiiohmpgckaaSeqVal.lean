
import Derived.Test.YtcnoiiohmpgckaaRowSort
import Derived.RangeFuncBox
import Derived.RangeFuncLeaves
import Derived.Shelf.Abstract
import Derived.WalkKit
import Derived.OwnWalkIn
import Derived.TacticsInMore
import Derived.LoopNIn
import Derived.LoopIn
import Derived.Maps.AppendAt
namespace Go.Proofs.Ytcnoiiohmpgckaa
open Go Go.RowKit Go.Shelf
attribute [local go_sem] Oper.semAt_some
def gT (f:Nat→Int) (k:Nat):List Int:=(List.range k).map f
theorem sU (f:Nat→Int) (k:Nat):gT f (k+1)=gT f k++[f k]:=by simp [gT,List.range_succ]
theorem pB (f:Nat→Int) (k:Nat):(gT f k).length=k:=by simp [gT]
theorem uC (zs:List Int):gT (fun j=>zs[j]?.getD 0) zs.length=zs:=by
 apply List.ext_getElem
 ·simp [gT]
 ·intro i h1 h2
  simp [gT,h2]
set_option maxRecDepth 100000 in
set_option maxHeartbeats 2000000 in
theorem sT (allF:Fence) (hF:∀ f,allF.fn f) (hro:allF.round=none) (n:Nat) (hn:1≤n) (l Bs o n₀ b off len cap:Nat) (zs:List Int) (hreach:len * 8≤140737488355328) (hb:b<n₀) (J Jx:List Int→World→Prop)
  (hY:∀ pre x W,J pre W→pre.length<len→YieldAt allF (n - 1) Try.prog l #[.int .i64 x] W fun e W' =>
   (e=.returned (.bool true)∧J (pre++[x]) W'∧Below n₀ W W')∨(e=.returned (.bool false)∧Jx (pre++[x]) W'))
  (W:World) (hBs:W.cell? ⟨Bs,o,none⟩=some (.slice (some ⟨b,off,none⟩) len cap)) (hc:∀ j,j<len→W.cell? ⟨b,off+j,none⟩=some (.int .i64 (zs[j]?.getD 0))) (h0:J [] W) :
  CallsIn allF n Try.prog 151 #[.func (.yield l) #[] #[],.pointer (some ⟨Bs,o,none⟩)] W fun e W'=>(∃ v,e=.returned v) ∧
   ((∃ ys,ys=gT (fun j=>zs[j]?.getD 0) len∧J ys W')∨(∃ pre,True∧Jx pre W')):=by
 refine callsIn_of_wp Try.func151 rfl (hF _) ?_ hro
 simp only [Try.ntmps151,List.size_toArray,List.length_cons,List.length_nil,Nat.reduceAdd,Nat.reduceSub,Array.replicate_succ,Array.replicate_zero,List.push_toArray,List.append_toArray,List.nil_append,List.cons_append]
 gi_wp2
 gi_loopw [7] (fun i wr=>∃ k:Nat,k≤len∧i=.int .i64 k∧J (gT (fun j=>zs[j]?.getD 0) k) wr∧Below n₀ W wr)
  (fun i _=>len - (intOf i).toNat)
 case atStart=>exact ⟨0,Nat.zero_le _,rfl,h0,Below.refl _ _⟩
 case round =>
  obtain ⟨k,hk,rfl,hJs,hnx⟩:=hrel
  have hcx:k<len→wr.cell? ⟨b,off+k,none⟩=some (.int .i64 (zs[k]?.getD 0)):=fun h=>(hnx.cell (p:=⟨b,off+k,none⟩) hb).trans (hc k h)
  by_cases hlt:k<len
  ·obtain ⟨fn,tmps,assign,body,hy,hR⟩:=hY _ (zs[k]?.getD 0) wr hJs (by rw [pB]; exact hlt)
   have hcx':=hcx hlt
   gi_wp2
   refine hR.mono ?_
   rintro e W3 (⟨rfl,hJ3,hk3⟩ | ⟨rfl,hJx3⟩)
   ·gi_wp2
    go_roundw
    case rel=>exact ⟨k+1,by omega,by simp,by rw [sU]; exact hJ3,hnx.trans hk3⟩
    case measure=>simp [intOf]; omega
   ·gi_wp2
    refine bodyPost_ret (results_none rfl _ _ _) rfl ?_
    exact ⟨⟨_,rfl⟩,.inr ⟨_,trivial,hJx3⟩⟩
  ·obtain rfl:k=len:=by omega
   gi_wp2
   go_end0
   exact ⟨⟨_,rfl⟩,.inl ⟨_,rfl,hJs⟩⟩
set_option maxRecDepth 100000 in
set_option maxHeartbeats 1000000 in
theorem lU (allF:Fence) (hF:∀ f,allF.fn f) (hro:allF.round=none) (n:Nat) (l Bs o:Nat) (J:List Int→World→Prop) (W:World) (v:Value) (hv:∃ p c,v=.slice p 0 c) (hBs:W.cell? ⟨Bs,o,none⟩=some v) (h0:J [] W) :
  CallsIn allF n Try.prog 151 #[.func (.yield l) #[] #[],.pointer (some ⟨Bs,o,none⟩)] W fun e W'=>(∃ v,e=.returned v)∧J [] W':=by
 obtain ⟨p,c,rfl⟩:=hv
 refine callsIn_of_wp Try.func151 rfl (hF _) ?_ hro
 simp only [Try.ntmps151,List.size_toArray,List.length_cons,List.length_nil,Nat.reduceAdd,Nat.reduceSub,Array.replicate_succ,Array.replicate_zero,List.push_toArray,List.append_toArray,List.nil_append,List.cons_append]
 gi_wp2
 gi_loopw [7] (fun i wr=>i=.int .i64 0∧J [] wr) (fun _ _=>0)
 case atStart=>exact ⟨rfl,h0⟩
 case round =>
  obtain ⟨rfl,hJs⟩:=hrel
  gi_wp2
  go_end0
  exact ⟨⟨_,rfl⟩,hJs⟩
def IntsAt (n₀:Nat) (W:World) (sv:Value) (zs:List Int):Prop :=
 ((∃ p c,sv=.slice p 0 c)∧zs=[])∨∃ b off cap,sv=.slice (some ⟨b,off,none⟩) zs.length cap∧b<n₀∧∀ j,j<zs.length→W.cell? ⟨b,off+j,none⟩=some (.int .i64 (zs[j]?.getD 0))
theorem IntsAt.below {n₀:Nat} {A B:World} (h:Below n₀ A B) {sv:Value} {zs:List Int}:IntsAt n₀ A sv zs→IntsAt n₀ B sv zs
 | .inl e=>.inl e
 | .inr ⟨b,off,cap,e,hb,hc⟩=>.inr ⟨b,off,cap,e,hb,fun j hj=>(h.cell (p:=⟨b,off+j,none⟩) hb).trans (hc j hj)⟩
theorem pA (allF:Fence) (hF:∀ f,allF.fn f) (hro:allF.round=none) (n:Nat) (hn:1≤n) (Bs o n₀:Nat) (sv:Value) (zs:List Int) (hreach:zs.length * 8≤140737488355328) (w:World) (hBs:Bs<w.heap.size) (hn₀:n₀≤w.heap.size)
  (hc:w.cell? ⟨Bs,o,none⟩=some sv) (hI:IntsAt n₀ w sv zs) :
  SeqStopsK allF n Try.prog 151 #[.pointer (some ⟨Bs,o,none⟩)] (fun x:Int=>#[Value.int .i64 x]) (Below n₀) (fun ys=>ys=zs) (fun _=>True) zs.length w:=fun l J Jx W hW _ _ hY h0=>by
 have hc':=(hW.cell (p:=⟨Bs,o,none⟩) hBs).trans hc
 rcases hI.below (hW.mono hn₀) with ⟨hs,rfl⟩ | ⟨b,off,cap,rfl,hb,hcs⟩
 ·exact (lU allF hF hro n l Bs o J W sv hs hc' h0).mono fun e W' ⟨he,hj⟩=>⟨he,.inl ⟨_,rfl,hj⟩⟩
 ·refine (sT allF hF hro n hn l Bs o n₀ b off zs.length cap zs hreach hb J Jx hY W hc' hcs h0).mono ?_
  rintro e W' ⟨he,⟨ys,rfl,hj⟩ | ⟨pre,_,hj⟩⟩
  ·exact ⟨he,.inl ⟨_,uC zs,hj⟩⟩
  ·exact ⟨he,.inr ⟨_,trivial,hj⟩⟩
set_option maxRecDepth 100000 in
set_option maxHeartbeats 2000000 in
theorem qO (allF:Fence) (hF:∀ f,allF.fn f) (hro:allF.round=none) (n:Nat) (hn:3≤n) (Bs o:Nat) (sv:Value) (xs:List Int) (hlen:xs.length≤maxLen) (hbytes:xs.length * 8≤140737488355328) (w:World) (hBs:Bs<w.heap.size) (hcell:w.cell? ⟨Bs,o,none⟩=some sv) (hI:IntsAt w.heap.size w sv xs) :
  CallsIn allF n Try.prog 186 #[.slice none 0 0,.func (.func 151) #[] #[.pointer (some ⟨Bs,o,none⟩)]] w fun e W'=>∃ v,e=.returned v∧W'.ownsRow w.heap.size 3 1 v xs.length (xs.map (Value.int .i64))∧Below w.heap.size w W':=by
 have h1:1≤n:=by omega
 obtain ⟨i0,hi,hz0,hz1,hz2⟩:=info_parts (show (Try.prog.info? 3).map (fun i=>(i.zero,i.size,i.bytes))=some (some (.int .i64 0),1,8) by kernel_rfl)
 refine callsIn_of_wp_marks Try.func186 rfl (hF _) ?_ hro
 simp only [Try.ntmps186,List.size_toArray,List.length_cons,List.length_nil,Nat.reduceAdd,Nat.reduceSub,Array.replicate_succ,Array.replicate_zero,List.push_toArray,List.append_toArray,List.nil_append,List.cons_append]
 gi_wp2
 have bO:=Boxed.new w 56 (.slice none 0 0)
 have hB0:Below w.heap.size w (w.alloc (.cells #[.slice none 0 0] 56)):=(Below.refl _ w).alloc (Nat.le_refl _) _
 refine wpIn_rangeFunc_ownG hro h1 (gf:=151) (lb:=#[.pointer (some ⟨Bs,o,none⟩)]) rfl (hF _) (enters_of Try.func151 (by kernel_rfl) rfl)
  (pA allF hF hro (n - 1) (by omega) Bs o w.heap.size sv xs hbytes _ (by simp; omega) (by simp) ((hB0.cell (p:=⟨Bs,o,none⟩) hBs).trans hcell) (hI.below hB0)) belowK_t (belowK_b (by simp)) (Below.refl _ _) (fun _=>rfl)
  (fun pre W=>(∃ v,Boxed W w.heap.size 56 v∧W.ownsRow w.heap.size 3 1 v pre.length (pre.map (Value.int .i64))∧True)∧Below w.heap.size w W)
  (fun _ _ _=>False)
  (OwnFrom.and (Own.from (holdsRow_own w.heap.size w.heap.size 56 3 1 (fun pre:List Int=>pre.length) (fun pre=>pre.map (Value.int .i64)) (fun _ _=>True)) _) (ownFrom_below (Nat.le_refl _) (by simp)))
  (fun _ _ _ _ _ hs _ _=>hs)
  ⟨⟨_,bO,World.ownsRow_nil _ _ _ _,trivial⟩,hB0⟩
  (fun x=>{ tmps:=#[.slice none 0 0,.func (.func 151) #[] #[.pointer (some ⟨Bs,o,none⟩)],.pointer (some ⟨w.heap.size,0,none⟩),undef,.slice none 0 0,.int .i64 x,.func (.func 151) #[] #[.pointer (some ⟨Bs,o,none⟩)],.int .i64 x,undef,undef,undef,undef,undef],defers:=[] }) ?assign ?body ?done ?stop
 case assign =>
  intro l x W K hK
  gi_wp2
  exact hK
 case body =>
  rintro l pre x W ⟨⟨v,hv,hrow,_⟩,hB⟩ hlt
  have hc:=hv.cell
  gi_wp2_with (gi_at_builtin; refine wpListIn_append_own _ rfl _ _ 56 rfl w.heap.size 3 i0 (.int .i64 0) 1 8 Try.underlying56 hi hz0 hz1 hz2 rfl (by decide) _ _ _ rfl (hrow.alloc _) ⟨W.heap.size,0,none⟩ 1 1 [.int .i64 x] rfl rfl (cell_one_new _ _ _) (by simp [Value.oneCell']) (by omega) (by omega) (by have:=hB.size; simp; omega) ?_; intro v' w1 hown' hgrow _; obtain ⟨g',cap',rfl⟩:=ownsRow_succ hown'; obtain ⟨hv1,hv2,hr2,hk2,hb2⟩:=hv.appended (by decide) hrow hB.size (Nat.le_refl _) hown' hgrow; have hc1:=hv1.cell; have hf1:=hv1.frozen)
  exact ⟨hk2.from _,hb2,⟨_,hv2,by simpa using hr2,trivial⟩,hB.trans hb2⟩
 case done =>
  rintro D ys W hD rfl ⟨⟨v,hv,hrow,_⟩,hB⟩ hK
  have hc:=hv.cell
  gi_wp2
  refine ⟨by simp,.inl ⟨_,_,rfl,run_takeDeferred hK,?_⟩⟩
  exact ⟨_,results_tmp rfl _ _ _,v,rfl,ownsRow_putObj hrow _ hK rfl,hB.trans (belowK_b (w:=w) (Nat.le_refl _) W D _ _ (by simp at hD; omega) hK rfl rfl)⟩
 case stop =>
  rintro D c pre W _ _ h _
  exact h.elim
set_option maxHeartbeats 1000000 in
theorem sx (Bs o:Nat) (sv:Value) (xs:List Int) (hlen:xs.length≤maxLen) (hbytes:xs.length * 8≤140737488355328) (w:World) (hBs:Bs<w.heap.size) (hcell:w.cell? ⟨Bs,o,none⟩=some sv) (hI:IntsAt w.heap.size w sv xs) :
  Calls Try.prog 150 #[.func (.func 151) #[] #[.pointer (some ⟨Bs,o,none⟩)]] w fun e W'=>∃ v,e=.returned v∧W'.ownsRow w.heap.size 3 1 v xs.length (xs.map (Value.int .i64))∧Below w.heap.size w W':=by
 go_enter Try.func150,Try.ntmps150
 go_wp2_with (go_at_call 186; go_loud (refine ((qO { fn:=fun _=>True } (fun _=>trivial) rfl 5 (by omega) Bs o sv xs hlen hbytes w hBs hcell hI).calls (fun _ _ h=>by cases h)).mono ?_; rintro e W' ⟨v,rfl,h1,h2⟩))
 go_ret
 exact ⟨_,rfl,h1,h2⟩
theorem gG {p:PH} {w:World} (h:Agrees p w) {b o:Nat} {v:Value} (hc:p.cell b o=some v):w.cell? ⟨b,o,none⟩=some v∧b<w.heap.size:=by
 unfold PH.cell at hc
 cases hb:p b with
 | none=>rw [hb] at hc; cases hc
 | some k =>
  rw [hb] at hc
  have hi:=h b k hb
  cases k with
  | map es c=>cases hc
  | cells cs =>
   obtain ⟨t,fz,e⟩:=hi
   have hc:cs[o]?=some v:=hc
   exact ⟨by simp [World.cell?,e,hc],(Array.getElem?_eq_some_iff.1 e).1⟩
theorem xa {p:PH} {w:World} (hA:Agrees p w) {xs:List Int} {sv:Value} (h:(Ty.arr ty_I).holds p xs [sv]):IntsAt w.heap.size w sv xs∧xs.length * 8≤140737488355328∧∀ x∈xs,ai .i64 x:=by
 obtain ⟨A,c,l,e,_,hb,hr,hcell⟩:=h
 obtain ⟨rfl,hin⟩:=p7 hr
 injection e with e _
 subst e
 refine ⟨?_,hb,hin⟩
 by_cases hx:xs=[]
 ·subst hx
  exact .inl ⟨⟨A,c,rfl⟩,rfl⟩
 ·obtain ⟨b,o,rfl,hcs⟩:=hcell hx
  have key:∀ j,j<xs.length→p.cell b (o+j)=some (.int .i64 (xs[j]?.getD 0)):=fun j hj=>hcs j _ (by simp [hj])
  exact .inr ⟨b,o,c,rfl,(gG hA (key 0 (List.length_pos_iff.2 hx))).2,fun j hj=>(gG hA (key j hj)).1⟩
def sp_valuesI:Spec:={ Ts:=[.arr ty_I],Rs:=[.dat (.fn .nil (.arr ty_I))],al:=true,pre:=fun _=>True,F:=fun (xs:List Int)=>((fun _=>True,fun _=>xs):(Unit→Prop)×(Unit→List Int)) }
set_option maxHeartbeats 1000000 in
theorem sS (a:Option Addr) (len cap:Nat) (w:World):Calls Try.prog 104 #[.slice a len cap] w fun e w'=>e=.returned (.func (.func 151) #[] #[.pointer (some ⟨w.heap.size,0,none⟩)])∧w'=w.alloc (.cells #[.slice a len cap] 56):=by
 go_enter Try.func104,Try.ntmps104
 go_wp2
 go_ret
 exact ⟨rfl,rfl⟩
theorem tf:sp_valuesI.ok Try.prog 104:=by
 intro p w vs (xs:List Int) hL hA hargs _
 obtain ⟨val,rfl,hv⟩:=hargs
 have hv:(Ty.arr ty_I).holds p xs [val]:=hv
 have hv':=hv
 obtain ⟨A,c,l,e,_⟩:=hv'
 injection e with e _
 subst e
 refine (sS A xs.length c w).mono ?_
 rintro e w' ⟨rfl,rfl⟩
 have hnew:(w.alloc (.cells #[.slice A xs.length c] 56)).heap[w.heap.size]?=some (.cells #[.slice A xs.length c] 56 (0,0)):=World.alloc_heap_new w _
 have hlt:∀ b cs,p b=some cs→b<w.heap.size:=fun b cs h=>hA.lt h
 refine ⟨[.func (.func 151) #[] #[.pointer (some ⟨w.heap.size,0,none⟩)]],fun b=>if b=w.heap.size then some (.cells #[.slice A xs.length c]) else none,rfl,⟨rfl,rfl,rfl,by simp,fun i hi _=>Below.heap_alloc w _ i hi⟩,fun b cs h=>?_,fun b cs h=>?_,?_⟩
 ·by_cases e:b=w.heap.size
  ·omega
  ·simp [e] at h
 ·by_cases e:b=w.heap.size
  ·subst e
   simp only [if_true,Option.some.injEq] at h
   subst h
   exact ⟨_,_,hnew⟩
  ·simp [e] at h
 ·refine ⟨_,rfl,?_,fun b hb=>by cases hb⟩
  have hle:PH.le p (p.union fun b=>if b=w.heap.size then some (.cells #[.slice A xs.length c]) else none):=cX _ _
  show (Ty.fn .nil (.arr ty_I)).holds _ _ [_]
  refine ⟨_,_,_,rfl,by kernel_rfl,(fun h=>by cases h),fun _=>⟨by kernel_rfl,rfl,w.heap.size,0,[.slice A xs.length c],rfl,fun _=>Ty.holds_mono hle _ _ _ hv,fun j u hj=>?_⟩⟩
  cases j with
  | succ j=>simp at hj
  | zero =>
   simp only [List.getElem?_cons_zero,Option.some.injEq] at hj
   subst hj
   have h0:p w.heap.size=none:=by
    cases hp:p w.heap.size with
    | none=>rfl
    | some k=>have:=hlt _ _ hp; omega
   rw [if_pos (show sp_valuesI.al=true from rfl)]
   simp [PH.cell,PH.union,h0,Blk.get]
def l6:Spec:={ Ts:=[.fn .nil (.arr ty_I)],Rs:=[.own 3 ty_I],pre:=fun _=>True,F:=fun (g:(Unit→Prop)×(Unit→List Int))=>aU (g.2 ()) }
set_option maxHeartbeats 1000000 in
theorem s4 (Bs o:Nat) (sv:Value) (xs:List Int) (hbytes:xs.length * 8≤140737488355328) (w:World) (hBs:Bs<w.heap.size) (hcell:w.cell? ⟨Bs,o,none⟩=some sv) (hI:IntsAt w.heap.size w sv xs) :
  Calls Try.prog 103 #[.func (.func 151) #[] #[.pointer (some ⟨Bs,o,none⟩)]] w fun e W'=>∃ v,e=.returned v∧W'.ownsRow w.heap.size 3 1 v (aU xs).length ((aU xs).map (Value.int .i64))∧Below w.heap.size w W':=by
 have hsl:(aU xs).length=xs.length:=List.length_mergeSort _
 go_enter Try.func103,Try.ntmps103
 go_wp2_with (go_at_call 150; refine (sx Bs o sv xs (by simp only [maxLen]; omega) hbytes w hBs hcell hI).mono ?_; rintro e W ⟨v,rfl,hrow,hb⟩)
 rcases hrow.2 with ⟨rfl,hz⟩ | ⟨g,cap,cur,rfl,hbase,hgb,r1,r2,r3,r4⟩
 ·have hx:xs=[]:=List.eq_nil_of_length_eq_zero hz
  subst hx
  go_wp2_with (go_at_call 84; refine (Any.slices_Sort_int_none js none 0 W).mono ?_; rintro e w' ⟨rfl,rfl⟩)
  go_ret
  exact ⟨_,rfl,by simpa [aU] using hrow,hb⟩
 ·have hg:g<W.heap.size:=(Array.getElem?_eq_some_iff.1 hgb).1
  have hS:=Any.slices_Sort_int js g 0 cap xs W (holds_of_blockI hgb (by rw [Nat.mul_one] at r4; exact r4)) hg (by omega)
  go_wp2_with (go_at_call 84; refine hS.mono ?_; rintro e w' ⟨rfl,q,os,rfl⟩)
  go_ret
  refine ⟨_,rfl,?_,hb.grown (grownBy_sortedI _) hb.size (fun j hj=>by cases hj; exact hbase)⟩
  have:=ownsRow_sortedI (n:=q) (os:=os) (ss:=xs) (ts:=aU xs) hsl hbase hgb r1 r2 r3
  rw [hsl]
  exact this
theorem tg:l6.ok Try.prog 103:=by
 intro p w vs (g:(Unit→Prop)×(Unit→List Int)) hL hA hargs _
 obtain ⟨val,rfl,hv⟩:=hargs
 have hv:(Ty.fn .nil (.arr ty_I)).holds p g [val]:=hv
 obtain ⟨f,v1,v2,e,_,_,hs⟩:=hv
 obtain ⟨rfl,rfl,b,o,l,rfl,hl,hcell⟩:=hs rfl
 injection e with e _
 subst e
 have hl:=hl ()
 generalize hxs:g.2 ()=xs at hl
 obtain ⟨sv,rfl⟩:∃ sv,l=[sv]:=by
  obtain ⟨A,c,_,e,_⟩:=hl
  exact ⟨_,e⟩
 obtain ⟨hI,hb8,hin⟩:=xa hA hl
 obtain ⟨hc,hlt⟩:=gG hA (hcell 0 sv rfl)
 refine (s4 b o sv xs hb8 w hlt hc hI).mono ?_
 rintro e w' ⟨v,rfl,hrow,hb⟩
 refine ⟨[v],fun _=>none,rfl,⟨hb.os,hb.tape,hb.output,hb.size,fun i hi _=>hb.block i hi⟩,fun _ _ h=>(by cases h),fun _ _ h=>(by cases h),?_⟩
 have e:l6.F g=aU xs:=by show aU (g.2 ())=_; rw [hxs]
 rw [e]
 exact ⟨v,rfl,⟨⟨_,hrow,j8 (fun y hy=>hin y (List.mem_mergeSort.1 hy)),by show (aU xs).length * 8≤aC; rw [show (aU xs).length=xs.length from List.length_mergeSort _]; exact hb8⟩,fun _ _=>rfl⟩,fun b _=>by simp⟩
end Go.Proofs.Ytcnoiiohmpgckaa
