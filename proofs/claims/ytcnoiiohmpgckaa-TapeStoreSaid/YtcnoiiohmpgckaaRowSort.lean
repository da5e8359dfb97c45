
import Derived.Test.YtcnoiiohmpgckaaBase
import Derived.Shelf.Sort.Plain
import Derived.Shelf.Slices.In.SortNone
import Derived.Shelf.Slices.CompactI
import Derived.Sort.OwnSortedInts
namespace Go.Proofs.Ytcnoiiohmpgckaa
open Go
def ui:Go.Shelf.Ren:=⟨fun | 189=>84 | 125=>145 | 257=>144 | 128=>181 | 129=>182 | 294=>172 | 295=>173 | 296=>174 | 297=>175 | 298=>176 | 299=>177 | 216=>178 | 300=>179 | 301=>180 | 328=>202 | 329=>203 | 330=>204 | 331=>205 | 332=>206 | 215=>207 | 343=>212 | n=>n,fun | 28=>56 | 3=>3 | 46=>203 | 0=>0 | 51=>235 | 53=>76 | 4=>4 | 183=>241 | 182=>240 | 131=>229 | 5=>5 | 9=>9 | 218=>258 | 222=>261 | 228=>265 | 229=>266 | n=>n,fun | n=>n⟩
theorem wj:Go.Proofs.Lays.n189 Try.prog ui where
 mixed:=by kernel_rfl
 f125:=Try.func145.trans (congrArg some (by kernel_rfl))
 f128:=Try.func181.trans (congrArg some (by kernel_rfl))
 f129:=Try.func182.trans (congrArg some (by kernel_rfl))
 f189:=Try.func84.trans (congrArg some (by kernel_rfl))
 f215:=Try.func207.trans (congrArg some (by kernel_rfl))
 f216:=Try.func178.trans (congrArg some (by kernel_rfl))
 f257:=Try.func144.trans (congrArg some (by kernel_rfl))
 f294:=Try.func172.trans (congrArg some (by kernel_rfl))
 f295:=Try.func173.trans (congrArg some (by kernel_rfl))
 f296:=Try.func174.trans (congrArg some (by kernel_rfl))
 f297:=Try.func175.trans (congrArg some (by kernel_rfl))
 f298:=Try.func176.trans (congrArg some (by kernel_rfl))
 f299:=Try.func177.trans (congrArg some (by kernel_rfl))
 f300:=Try.func179.trans (congrArg some (by kernel_rfl))
 f301:=Try.func180.trans (congrArg some (by kernel_rfl))
 f328:=Try.func202.trans (congrArg some (by kernel_rfl))
 f329:=Try.func203.trans (congrArg some (by kernel_rfl))
 f330:=Try.func204.trans (congrArg some (by kernel_rfl))
 f331:=Try.func205.trans (congrArg some (by kernel_rfl))
 f332:=Try.func206.trans (congrArg some (by kernel_rfl))
 f343:=Try.func212.trans (congrArg some (by kernel_rfl))
 t0:=Try.underlying0
 a0:=Try.isAgg0
 z0:=Try.sizeOf0
 v0:=Try.zeroValue0
 t3:=Try.underlying3
 a3:=Try.isAgg3
 z3:=Try.sizeOf3
 v3:=Try.zeroValue3
 t4:=Try.underlying4
 a4:=Try.isAgg4
 z4:=Try.sizeOf4
 v4:=Try.zeroValue4
 t5:=Try.underlying5
 a5:=Try.isAgg5
 z5:=Try.sizeOf5
 v5:=Try.zeroValue5
 t9:=Try.underlying9
 a9:=Try.isAgg9
 z9:=Try.sizeOf9
 v9:=Try.zeroValue9
 t28:=Try.underlying56
 a28:=Try.isAgg56
 z28:=Try.sizeOf56
 v28:=Try.zeroValue56
 t46:=Try.underlying203
 a46:=Try.isAgg203
 z46:=Try.sizeOf203
 v46:=Try.zeroValue203
 t51:=Try.underlying235
 a51:=Try.isAgg235
 z51:=Try.sizeOf235
 v51:=Try.zeroValue235
 t53:=Try.underlying76
 a53:=Try.isAgg76
 z53:=Try.sizeOf76
 v53:=Try.zeroValue76
 t131:=Try.underlying229
 a131:=Try.isAgg229
 z131:=Try.sizeOf229
 v131:=Try.zeroValue229
 t182:=Try.underlying240
 a182:=Try.isAgg240
 z182:=Try.sizeOf240
 v182:=Try.zeroValue240
 t183:=Try.underlying241
 a183:=Try.isAgg241
 z183:=Try.sizeOf241
 v183:=Try.zeroValue241
 t218:=Try.underlying258
 a218:=Try.isAgg258
 z218:=Try.sizeOf258
 v218:=Try.zeroValue258
 t222:=Try.underlying261
 a222:=Try.isAgg261
 z222:=Try.sizeOf261
 v222:=Try.zeroValue261
 t228:=Try.underlying265
 a228:=Try.isAgg265
 z228:=Try.sizeOf265
 v228:=Try.zeroValue265
 t229:=Try.underlying266
 a229:=Try.isAgg266
 z229:=Try.sizeOf266
 v229:=Try.zeroValue266
def nU:Go.Shelf.Ren:=⟨fun | 20=>102 | n=>n,fun | 22=>56 | 3=>3 | 4=>4 | 0=>0 | n=>n,fun | n=>n⟩
theorem nC:Go.Proofs.Lays2.n20 Try.prog nU where
 mixed:=by kernel_rfl
 f20:=Try.func102.trans (congrArg some (by kernel_rfl))
 t0:=Try.underlying0
 a0:=Try.isAgg0
 z0:=Try.sizeOf0
 v0:=Try.zeroValue0
 t3:=Try.underlying3
 a3:=Try.isAgg3
 z3:=Try.sizeOf3
 v3:=Try.zeroValue3
 t4:=Try.underlying4
 a4:=Try.isAgg4
 z4:=Try.sizeOf4
 v4:=Try.zeroValue4
 t22:=Try.underlying56
 a22:=Try.isAgg56
 z22:=Try.sizeOf56
 v22:=Try.zeroValue56
 i3:=by kernel_rfl
theorem tK {p:PH}:∀ {xs:List Int} {l:List Value},aA (ty_I.holds p) xs l→l=xs.map (Value.int .i64)∧∀ x∈xs,am .i64 x
 | [],l,h=>⟨h,by simp⟩
 | x::xs,l,⟨c1,c2,e,h1,h2⟩=>by
  obtain ⟨e2,h3⟩:=tK h2
  obtain ⟨e1,h4⟩:=h1
  subst e1 e2 e
  refine ⟨rfl,fun y hy=>?_⟩
  rcases List.mem_cons.1 hy with rfl | hy
  ·exact h4
  ·exact h3 y hy
theorem mA {p:PH}:∀ {xs:List Int},(∀ x∈xs,am .i64 x)→aA (ty_I.holds p) xs (xs.map (Value.int .i64))
 | [],_=>rfl
 | x::xs,h=>⟨[.int .i64 x],xs.map (Value.int .i64),rfl,⟨rfl,h x (by simp)⟩,mA (fun y hy=>h y (by simp [hy]))⟩
def dG (xs:List Int):List Int:=xs.mergeSort fun x y=>decide (x≤y)
def vp:RowFn:={ e:=3,T:=ty_I,Ts:=[],out:=false,pre:=fun _ _ _=>True,F:=fun xs _ _=>dG xs }
theorem vV:vp.ok Try.prog 84:=by
 intro p w v (xs:List Int) l v2 (ys:List Int) l2 vs x hA hown hl hbig hp _ _ _ hargs _
 have hvs:vs=[]:=hargs
 subst hvs
 obtain ⟨el,hin⟩:=tK hl
 have hown':w.ownsRow 0 3 1 v xs.length l:=hown
 have h8:xs.length * 8≤aC:=hbig
 have hlen:(dG xs).length=xs.length:=List.length_mergeSort _
 rcases hown'.2 with ⟨rfl,h0⟩ | ⟨g,cap,cur,rfl,_,hb,h1,h2,h3,h4⟩
 ·have hx:xs=[]:=List.eq_nil_of_length_eq_zero h0
  subst hx
  refine (Any.slices_Sort_int_none wj none 0 w).mono ?_
  rintro e w' ⟨rfl,rfl⟩
  have e0:vp.F ([]:List Int) ys x=([]:List Int):=by show dG []=[]; simp [dG]
  rw [e0]
  exact ⟨_,l,rfl,fun _=>rfl,World.grownBy.refl _ _,hown,hl,hbig,fun b h=>.inl h⟩
 ·have hg:g<w.heap.size:=(Array.getElem?_eq_some_iff.1 hb).1
  refine (Any.slices_Sort_int wj g 0 cap xs w (holds_of_blockI hb (by rw [Nat.mul_one] at h4; rw [h4,el])) hg (by simp only [aC] at h8; omega)).mono ?_
  rintro e w' ⟨rfl,n,os,rfl⟩
  refine ⟨_,(dG xs).map (Value.int .i64),rfl,fun _=>rfl,grownBy_sortedI _,?_,mA (fun y hy=>hin y (List.mem_mergeSort.1 hy)),?_,fun b h=>.inl h⟩
  ·have:=ownsRow_sortedI (n:=n) (os:=os) (ss:=xs) (ts:=dG xs) hlen (Nat.zero_le _) hb h1 h2 h3
   show World.ownsRow _ 0 3 1 _ (dG xs).length _
   rw [hlen]
   exact this
  ·show (dG xs).length * 8≤aC
   rw [hlen]
   exact h8
theorem jf (xs:List Int):(Lib.compact xs).length≤xs.length:=by
 unfold Lib.compact Lib.compactUpTo
 rw [List.length_map]
 refine Nat.le_trans (List.length_filter_le _ _) ?_
 simp
theorem nI (xs:List Int) (y:Int) (hy:y∈Lib.compact xs):y∈xs:=by
 unfold Lib.compact Lib.compactUpTo at hy
 obtain ⟨j,hj,rfl⟩:=List.mem_map.1 hy
 have hj2:j<xs.length:=by
  have:=(List.mem_filter.1 hj).1
  simpa using this
 simp [hj2]
def dr (xs:List Int):List Int:=Lib.compact xs
def vA:RowFn:={ e:=3,T:=ty_I,Ts:=[],out:=true,pre:=fun _ _ _=>True,F:=fun xs _ _=>dr xs }
theorem nu:vA.ok Try.prog 102:=by
 intro p w v (xs:List Int) l v2 (ys:List Int) l2 vs x hA hown hl hbig hp _ _ _ hargs _
 have hvs:vs=[]:=hargs
 subst hvs
 obtain ⟨el,hin⟩:=tK hl
 have hown':w.ownsRow 0 3 1 v xs.length l:=hown
 have h8:xs.length * 8≤aC:=hbig
 have hle:(Lib.compact xs).length≤xs.length:=jf xs
 rcases hown'.2 with ⟨rfl,h0⟩ | ⟨g,cap,cur,rfl,_,hb,h1,h2,h3,h4⟩
 ·have hx:xs=[]:=List.eq_nil_of_length_eq_zero h0
  subst hx
  refine (Any.slices_Compact_int_empty nC none 0 w).mono ?_
  rintro e w' ⟨rfl,rfl⟩
  exact ⟨_,l,rfl,fun _=>rfl,World.grownBy.refl _ _,hown,hl,by show (Lib.compact ([]:List Int)).length * 8≤aC; simp [Lib.compact,Lib.compactUpTo],fun b h=>.inl h⟩
 ·have hg:g<w.heap.size:=(Array.getElem?_eq_some_iff.1 hb).1
  have hmem:∀ y∈Lib.compact xs,am .i64 y:=fun y hy=>hin y (nI xs y hy)
  refine (Any.slices_Compact_int nC g 0 cap xs w (holds_of_blockI hb (by rw [Nat.mul_one] at h4; rw [h4,el])) (by simp only [aC] at h8; omega) h1).mono ?_
  rintro e w' ⟨rfl,q,rfl⟩
  refine ⟨_,(Lib.compact xs).map (Value.int .i64),rfl,fun h=>(by cases h),?_,?_,mA hmem,?_,fun b h=>.inl h⟩
  ·have:=grownBy_sortedI (w:=w) (g:=g) (n:=q) (os:=#[]) (Lib.compact xs++List.replicate (xs.length - (Lib.compact xs).length) 0).toArray
   rw [Sort.grow_empty] at this
   exact this
  ·have hh:=heap_sortedI (w:=w) (g:=g) (n:=q) (os:=#[]) (Lib.compact xs++List.replicate (xs.length - (Lib.compact xs).length) 0).toArray hb
   rw [Sort.grow_empty] at hh
   have hrow:World.ownsRow (Sort.putRow (Value.int .i64) (Sort.ahead w q) g 0 (Lib.compact xs++List.replicate (xs.length - (Lib.compact xs).length) 0).toArray) 0 3 1
     (.slice (some ⟨g,0,none⟩) (Lib.compact xs).length cap) (Lib.compact xs).length ((Lib.compact xs).map (Value.int .i64)):=by
    refine ⟨by simp,.inr ⟨g,cap,_,rfl,Nat.zero_le _,hh,Nat.le_trans hle h1,h2,by simp [Sort.putCells,h3],?_⟩⟩
    have ht:=take_putCellsI cur (Lib.compact xs++List.replicate (xs.length - (Lib.compact xs).length) 0) (by simp; omega)
    have ht2:=congrArg (List.take (Lib.compact xs).length) ht
    rw [List.take_take,Nat.min_eq_left (by simp)] at ht2
    rw [Nat.mul_one,ht2]
    simp
   exact hrow
  ·show (Lib.compact xs).length * 8≤aC
   omega
end Go.Proofs.Ytcnoiiohmpgckaa
