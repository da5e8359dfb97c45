
import Derived.Test.YtglchojglcobjaaGreatBase
import Derived.Shelf.Sort.Plain
import Derived.Shelf.Slices.In.SortNone
import Derived.Shelf.Slices.CompactI
import Derived.Sort.OwnSortedInts
namespace Go.Proofs.YtglchojglcobjaaGreat
open Go
def xJ:Go.Shelf.Ren:=⟨fun | 189=>130 | 125=>155 | 257=>154 | 128=>175 | 129=>176 | 294=>166 | 295=>167 | 296=>168 | 297=>169 | 298=>170 | 299=>171 | 216=>172 | 300=>173 | 301=>174 | 328=>181 | 329=>182 | 330=>183 | 331=>184 | 332=>185 | 215=>163 | 343=>189 | n=>n,fun | 28=>23 | 3=>3 | 46=>187 | 0=>0 | 51=>216 | 53=>50 | 4=>4 | 183=>210 | 182=>209 | 131=>182 | 5=>5 | 9=>9 | 218=>223 | 222=>227 | 228=>230 | 229=>231 | n=>n,fun | n=>n⟩
theorem Ad:Go.Proofs.Lays.n189 Tryz.prog xJ where
 mixed:=by kernel_rfl
 f125:=Tryz.func155.trans (congrArg some (by kernel_rfl))
 f128:=Tryz.func175.trans (congrArg some (by kernel_rfl))
 f129:=Tryz.func176.trans (congrArg some (by kernel_rfl))
 f189:=Tryz.func130.trans (congrArg some (by kernel_rfl))
 f215:=Tryz.func163.trans (congrArg some (by kernel_rfl))
 f216:=Tryz.func172.trans (congrArg some (by kernel_rfl))
 f257:=Tryz.func154.trans (congrArg some (by kernel_rfl))
 f294:=Tryz.func166.trans (congrArg some (by kernel_rfl))
 f295:=Tryz.func167.trans (congrArg some (by kernel_rfl))
 f296:=Tryz.func168.trans (congrArg some (by kernel_rfl))
 f297:=Tryz.func169.trans (congrArg some (by kernel_rfl))
 f298:=Tryz.func170.trans (congrArg some (by kernel_rfl))
 f299:=Tryz.func171.trans (congrArg some (by kernel_rfl))
 f300:=Tryz.func173.trans (congrArg some (by kernel_rfl))
 f301:=Tryz.func174.trans (congrArg some (by kernel_rfl))
 f328:=Tryz.func181.trans (congrArg some (by kernel_rfl))
 f329:=Tryz.func182.trans (congrArg some (by kernel_rfl))
 f330:=Tryz.func183.trans (congrArg some (by kernel_rfl))
 f331:=Tryz.func184.trans (congrArg some (by kernel_rfl))
 f332:=Tryz.func185.trans (congrArg some (by kernel_rfl))
 f343:=Tryz.func189.trans (congrArg some (by kernel_rfl))
 t0:=Tryz.underlying0
 a0:=Tryz.isAgg0
 z0:=Tryz.sizeOf0
 v0:=Tryz.zeroValue0
 t3:=Tryz.underlying3
 a3:=Tryz.isAgg3
 z3:=Tryz.sizeOf3
 v3:=Tryz.zeroValue3
 t4:=Tryz.underlying4
 a4:=Tryz.isAgg4
 z4:=Tryz.sizeOf4
 v4:=Tryz.zeroValue4
 t5:=Tryz.underlying5
 a5:=Tryz.isAgg5
 z5:=Tryz.sizeOf5
 v5:=Tryz.zeroValue5
 t9:=Tryz.underlying9
 a9:=Tryz.isAgg9
 z9:=Tryz.sizeOf9
 v9:=Tryz.zeroValue9
 t28:=Tryz.underlying23
 a28:=Tryz.isAgg23
 z28:=Tryz.sizeOf23
 v28:=Tryz.zeroValue23
 t46:=Tryz.underlying187
 a46:=Tryz.isAgg187
 z46:=Tryz.sizeOf187
 v46:=Tryz.zeroValue187
 t51:=Tryz.underlying216
 a51:=Tryz.isAgg216
 z51:=Tryz.sizeOf216
 v51:=Tryz.zeroValue216
 t53:=Tryz.underlying50
 a53:=Tryz.isAgg50
 z53:=Tryz.sizeOf50
 v53:=Tryz.zeroValue50
 t131:=Tryz.underlying182
 a131:=Tryz.isAgg182
 z131:=Tryz.sizeOf182
 v131:=Tryz.zeroValue182
 t182:=Tryz.underlying209
 a182:=Tryz.isAgg209
 z182:=Tryz.sizeOf209
 v182:=Tryz.zeroValue209
 t183:=Tryz.underlying210
 a183:=Tryz.isAgg210
 z183:=Tryz.sizeOf210
 v183:=Tryz.zeroValue210
 t218:=Tryz.underlying223
 a218:=Tryz.isAgg223
 z218:=Tryz.sizeOf223
 v218:=Tryz.zeroValue223
 t222:=Tryz.underlying227
 a222:=Tryz.isAgg227
 z222:=Tryz.sizeOf227
 v222:=Tryz.zeroValue227
 t228:=Tryz.underlying230
 a228:=Tryz.isAgg230
 z228:=Tryz.sizeOf230
 v228:=Tryz.zeroValue230
 t229:=Tryz.underlying231
 a229:=Tryz.isAgg231
 z229:=Tryz.sizeOf231
 v229:=Tryz.zeroValue231
def qI:Go.Shelf.Ren:=⟨fun | 20=>131 | n=>n,fun | 22=>23 | 3=>3 | 4=>4 | 0=>0 | n=>n,fun | n=>n⟩
theorem qp:Go.Proofs.Lays2.n20 Tryz.prog qI where
 mixed:=by kernel_rfl
 f20:=Tryz.func131.trans (congrArg some (by kernel_rfl))
 t0:=Tryz.underlying0
 a0:=Tryz.isAgg0
 z0:=Tryz.sizeOf0
 v0:=Tryz.zeroValue0
 t3:=Tryz.underlying3
 a3:=Tryz.isAgg3
 z3:=Tryz.sizeOf3
 v3:=Tryz.zeroValue3
 t4:=Tryz.underlying4
 a4:=Tryz.isAgg4
 z4:=Tryz.sizeOf4
 v4:=Tryz.zeroValue4
 t22:=Tryz.underlying23
 a22:=Tryz.isAgg23
 z22:=Tryz.sizeOf23
 v22:=Tryz.zeroValue23
 i3:=by kernel_rfl
theorem xg {p:PH}:∀ {xs:List Int} {l:List Value},a7 (ty_I.holds p) xs l→l=xs.map (Value.int .i64)∧∀ x∈xs,ak .i64 x
 | [],l,h=>⟨h,by simp⟩
 | x::xs,l,⟨c1,c2,e,h1,h2⟩=>by
  obtain ⟨e2,h3⟩:=xg h2
  obtain ⟨e1,h4⟩:=h1
  subst e1 e2 e
  refine ⟨rfl,fun y hy=>?_⟩
  rcases List.mem_cons.1 hy with rfl | hy
  ·exact h4
  ·exact h3 y hy
theorem oT {p:PH}:∀ {xs:List Int},(∀ x∈xs,ak .i64 x)→a7 (ty_I.holds p) xs (xs.map (Value.int .i64))
 | [],_=>rfl
 | x::xs,h=>⟨[.int .i64 x],xs.map (Value.int .i64),rfl,⟨rfl,h x (by simp)⟩,oT (fun y hy=>h y (by simp [hy]))⟩
def dN (xs:List Int):List Int:=xs.mergeSort fun x y=>decide (x≤y)
def yS:RowFn:={ e:=3,T:=ty_I,Ts:=[],out:=false,pre:=fun _ _ _=>True,F:=fun xs _ _=>dN xs }
theorem sk:yS.ok Tryz.prog 130:=by
 intro p w v (xs:List Int) l v2 (ys:List Int) l2 vs x hA hown hl hbig hp _ _ _ hargs _
 have hvs:vs=[]:=hargs
 subst hvs
 obtain ⟨el,hin⟩:=xg hl
 have hown':w.ownsRow 0 3 1 v xs.length l:=hown
 have h8:xs.length * 8≤az:=hbig
 have hlen:(dN xs).length=xs.length:=List.length_mergeSort _
 rcases hown'.2 with ⟨rfl,h0⟩ | ⟨g,cap,cur,rfl,_,hb,h1,h2,h3,h4⟩
 ·have hx:xs=[]:=List.eq_nil_of_length_eq_zero h0
  subst hx
  refine (Any.slices_Sort_int_none Ad none 0 w).mono ?_
  rintro e w' ⟨rfl,rfl⟩
  have e0:yS.F ([]:List Int) ys x=([]:List Int):=by show dN []=[]; simp [dN]
  rw [e0]
  exact ⟨_,l,rfl,fun _=>rfl,World.grownBy.refl _ _,hown,hl,hbig,fun b h=>.inl h⟩
 ·have hg:g<w.heap.size:=(Array.getElem?_eq_some_iff.1 hb).1
  refine (Any.slices_Sort_int Ad g 0 cap xs w (holds_of_blockI hb (by rw [Nat.mul_one] at h4; rw [h4,el])) hg (by simp only [az] at h8; omega)).mono ?_
  rintro e w' ⟨rfl,n,os,rfl⟩
  refine ⟨_,(dN xs).map (Value.int .i64),rfl,fun _=>rfl,grownBy_sortedI _,?_,oT (fun y hy=>hin y (List.mem_mergeSort.1 hy)),?_,fun b h=>.inl h⟩
  ·have:=ownsRow_sortedI (n:=n) (os:=os) (ss:=xs) (ts:=dN xs) hlen (Nat.zero_le _) hb h1 h2 h3
   show World.ownsRow _ 0 3 1 _ (dN xs).length _
   rw [hlen]
   exact this
  ·show (dN xs).length * 8≤az
   rw [hlen]
   exact h8
theorem jd (xs:List Int):(Lib.compact xs).length≤xs.length:=by
 unfold Lib.compact Lib.compactUpTo
 rw [List.length_map]
 refine Nat.le_trans (List.length_filter_le _ _) ?_
 simp
theorem qz (xs:List Int) (y:Int) (hy:y∈Lib.compact xs):y∈xs:=by
 unfold Lib.compact Lib.compactUpTo at hy
 obtain ⟨j,hj,rfl⟩:=List.mem_map.1 hy
 have hj2:j<xs.length:=by
  have:=(List.mem_filter.1 hj).1
  simpa using this
 simp [hj2]
def eY (xs:List Int):List Int:=Lib.compact xs
def ze:RowFn:={ e:=3,T:=ty_I,Ts:=[],out:=true,pre:=fun _ _ _=>True,F:=fun xs _ _=>eY xs }
theorem ql:ze.ok Tryz.prog 131:=by
 intro p w v (xs:List Int) l v2 (ys:List Int) l2 vs x hA hown hl hbig hp _ _ _ hargs _
 have hvs:vs=[]:=hargs
 subst hvs
 obtain ⟨el,hin⟩:=xg hl
 have hown':w.ownsRow 0 3 1 v xs.length l:=hown
 have h8:xs.length * 8≤az:=hbig
 have hle:(Lib.compact xs).length≤xs.length:=jd xs
 rcases hown'.2 with ⟨rfl,h0⟩ | ⟨g,cap,cur,rfl,_,hb,h1,h2,h3,h4⟩
 ·have hx:xs=[]:=List.eq_nil_of_length_eq_zero h0
  subst hx
  refine (Any.slices_Compact_int_empty qp none 0 w).mono ?_
  rintro e w' ⟨rfl,rfl⟩
  exact ⟨_,l,rfl,fun _=>rfl,World.grownBy.refl _ _,hown,hl,by show (Lib.compact ([]:List Int)).length * 8≤az; simp [Lib.compact,Lib.compactUpTo],fun b h=>.inl h⟩
 ·have hg:g<w.heap.size:=(Array.getElem?_eq_some_iff.1 hb).1
  have hmem:∀ y∈Lib.compact xs,ak .i64 y:=fun y hy=>hin y (qz xs y hy)
  refine (Any.slices_Compact_int qp g 0 cap xs w (holds_of_blockI hb (by rw [Nat.mul_one] at h4; rw [h4,el])) (by simp only [az] at h8; omega) h1).mono ?_
  rintro e w' ⟨rfl,q,rfl⟩
  refine ⟨_,(Lib.compact xs).map (Value.int .i64),rfl,fun h=>(by cases h),?_,?_,oT hmem,?_,fun b h=>.inl h⟩
  ·have:=grownBy_sortedI (w:=w) (g:=g) (n:=q) (os:=#[]) (Lib.compact xs++List.replicate (xs.length - (Lib.compact xs).length) 0).toArray
   rw [Sort.grow_empty] at this
   exact this
  ·have hh:=heap_sortedI (w:=w) (g:=g) (n:=q) (os:=#[]) (Lib.compact xs++List.replicate (xs.length - (Lib.compact xs).length) 0).toArray hb
   rw [Sort.grow_empty] at hh
   have hrow:World.ownsRow (Sort.putRow (Value.int .i64) (Sort.ahead w q) g 0 (Lib.compact xs++List.replicate (xs.length - (Lib.compact xs).length) 0).toArray) 0 3 1
     (.slice (some ⟨g,0,none⟩) (Lib.compact xs).length cap) (Lib.compact xs).length ((Lib.compact xs).map (Value.int .i64)):=by
    refine ⟨by simp,.inr ⟨g,cap,_,rfl,Nat.zero_le _,hh,Nat.le_trans hle h1,h2,by simp [Sort.putCells,h3],?_⟩⟩
    have ht:=take_putCellsI cur (Lib.compact xs++List.replicate (xs.length - (Lib.compact xs).length) 0) (by simp; omega)
    have ht2:=congrArg (List.take (Lib.compact xs).length) ht
    rw [List.take_take,Nat.min_eq_left (by simp)] at ht2
    rw [Nat.mul_one,ht2]
    simp
   exact hrow
  ·show (Lib.compact xs).length * 8≤az
   omega
end Go.Proofs.YtglchojglcobjaaGreat
