
import Derived.Test.YtcnoiiohmpgckaaBase
import Derived.Shelf.Sort.Plain
import Derived.Shelf.Slices.In.SortNone
import Derived.Shelf.Slices.CompactI
import Derived.Sort.OwnSortedInts
namespace Go.Proofs.Ytcnoiiohmpgckaa
open Go
def o4:Go.Shelf.Ren:=⟨fun | 189=>84 | 125=>145 | 257=>144 | 128=>181 | 129=>182 | 294=>172 | 295=>173 | 296=>174 | 297=>175 | 298=>176 | 299=>177 | 216=>178 | 300=>179 | 301=>180 | 328=>202 | 329=>203 | 330=>204 | 331=>205 | 332=>206 | 215=>207 | 343=>212 | n=>n,fun | 28=>56 | 3=>3 | 46=>203 | 0=>0 | 51=>235 | 53=>76 | 4=>4 | 183=>241 | 182=>240 | 131=>229 | 5=>5 | 9=>9 | 218=>258 | 222=>261 | 228=>265 | 229=>266 | n=>n,fun | n=>n⟩
theorem qo:Go.Proofs.Lays.n189 Try.prog o4 where
 mixed:=by kernel_rfl
 f125:=Try.func145.trans (congrArg some (by kernel_rfl))
 f128:=Try.func181.trans (congrArg some (by kernel_rfl))
 f129:=Try.func182.trans (congrArg some (by kernel_rfl))
 f189:=Try.func84.trans (congrArg some (by kernel_rfl))
 f215:=Try.func207.trans (congrArg some (by kernel_rfl))
 f216:=Try.func178.trans (congrArg some (by kernel_rfl))
 f257:=Try.func144.trans (congrArg some (by kernel_rfl))
 f294:=Try.func172.trans (congrArg some (by kernel_rfl))
 f295:=Try.func173.trans (congrArg some (by kernel_rfl))
 f296:=Try.func174.trans (congrArg some (by kernel_rfl))
 f297:=Try.func175.trans (congrArg some (by kernel_rfl))
 f298:=Try.func176.trans (congrArg some (by kernel_rfl))
 f299:=Try.func177.trans (congrArg some (by kernel_rfl))
 f300:=Try.func179.trans (congrArg some (by kernel_rfl))
 f301:=Try.func180.trans (congrArg some (by kernel_rfl))
 f328:=Try.func202.trans (congrArg some (by kernel_rfl))
 f329:=Try.func203.trans (congrArg some (by kernel_rfl))
 f330:=Try.func204.trans (congrArg some (by kernel_rfl))
 f331:=Try.func205.trans (congrArg some (by kernel_rfl))
 f332:=Try.func206.trans (congrArg some (by kernel_rfl))
 f343:=Try.func212.trans (congrArg some (by kernel_rfl))
 t0:=Try.underlying0
 a0:=Try.isAgg0
 z0:=Try.sizeOf0
 v0:=Try.zeroValue0
 t3:=Try.underlying3
 a3:=Try.isAgg3
 z3:=Try.sizeOf3
 v3:=Try.zeroValue3
 t4:=Try.underlying4
 a4:=Try.isAgg4
 z4:=Try.sizeOf4
 v4:=Try.zeroValue4
 t5:=Try.underlying5
 a5:=Try.isAgg5
 z5:=Try.sizeOf5
 v5:=Try.zeroValue5
 t9:=Try.underlying9
 a9:=Try.isAgg9
 z9:=Try.sizeOf9
 v9:=Try.zeroValue9
 t28:=Try.underlying56
 a28:=Try.isAgg56
 z28:=Try.sizeOf56
 v28:=Try.zeroValue56
 t46:=Try.underlying203
 a46:=Try.isAgg203
 z46:=Try.sizeOf203
 v46:=Try.zeroValue203
 t51:=Try.underlying235
 a51:=Try.isAgg235
 z51:=Try.sizeOf235
 v51:=Try.zeroValue235
 t53:=Try.underlying76
 a53:=Try.isAgg76
 z53:=Try.sizeOf76
 v53:=Try.zeroValue76
 t131:=Try.underlying229
 a131:=Try.isAgg229
 z131:=Try.sizeOf229
 v131:=Try.zeroValue229
 t182:=Try.underlying240
 a182:=Try.isAgg240
 z182:=Try.sizeOf240
 v182:=Try.zeroValue240
 t183:=Try.underlying241
 a183:=Try.isAgg241
 z183:=Try.sizeOf241
 v183:=Try.zeroValue241
 t218:=Try.underlying258
 a218:=Try.isAgg258
 z218:=Try.sizeOf258
 v218:=Try.zeroValue258
 t222:=Try.underlying261
 a222:=Try.isAgg261
 z222:=Try.sizeOf261
 v222:=Try.zeroValue261
 t228:=Try.underlying265
 a228:=Try.isAgg265
 z228:=Try.sizeOf265
 v228:=Try.zeroValue265
 t229:=Try.underlying266
 a229:=Try.isAgg266
 z229:=Try.sizeOf266
 v229:=Try.zeroValue266
theorem sb {p:PH}:∀ {xs:List Int} {l:List Value},ax (ty_I.holds p) xs l→l=xs.map (Value.int .i64)∧∀ x∈xs,aj .i64 x
 | [],l,h=>⟨h,by simp⟩
 | x::xs,l,⟨c1,c2,e,h1,h2⟩=>by
  obtain ⟨e2,h3⟩:=sb h2
  obtain ⟨e1,h4⟩:=h1
  subst e1 e2 e
  refine ⟨rfl,fun y hy=>?_⟩
  rcases List.mem_cons.1 hy with rfl | hy
  ·exact h4
  ·exact h3 y hy
theorem nC {p:PH}:∀ {xs:List Int},(∀ x∈xs,aj .i64 x)→ax (ty_I.holds p) xs (xs.map (Value.int .i64))
 | [],_=>rfl
 | x::xs,h=>⟨[.int .i64 x],xs.map (Value.int .i64),rfl,⟨rfl,h x (by simp)⟩,nC (fun y hy=>h y (by simp [hy]))⟩
def db (xs:List Int):List Int:=xs.mergeSort fun x y=>decide (x≤y)
def pR:RowFn:={ e:=3,T:=ty_I,Ts:=[],out:=false,pre:=fun _ _ _=>True,F:=fun xs _ _=>db xs }
theorem qi:pR.ok Try.prog 84:=by
 intro p w v (xs:List Int) l v2 (ys:List Int) l2 vs x hA hown hl hbig hp _ _ _ hargs _
 have hvs:vs=[]:=hargs
 subst hvs
 obtain ⟨el,hin⟩:=sb hl
 have hown':w.ownsRow 0 3 1 v xs.length l:=hown
 have h8:xs.length * 8≤aL:=hbig
 have hlen:(db xs).length=xs.length:=List.length_mergeSort _
 rcases hown'.2 with ⟨rfl,h0⟩ | ⟨g,cap,cur,rfl,_,hb,h1,h2,h3,h4⟩
 ·have hx:xs=[]:=List.eq_nil_of_length_eq_zero h0
  subst hx
  refine (Any.slices_Sort_int_none qo none 0 w).mono ?_
  rintro e w' ⟨rfl,rfl⟩
  have e0:pR.F ([]:List Int) ys x=([]:List Int):=by show db []=[]; simp [db]
  rw [e0]
  exact ⟨_,l,rfl,fun _=>rfl,World.grownBy.refl _ _,hown,hl,hbig,fun b h=>.inl h⟩
 ·have hg:g<w.heap.size:=(Array.getElem?_eq_some_iff.1 hb).1
  refine (Any.slices_Sort_int qo g 0 cap xs w (holds_of_blockI hb (by rw [Nat.mul_one] at h4; rw [h4,el])) hg (by simp only [aL] at h8; omega)).mono ?_
  rintro e w' ⟨rfl,n,os,rfl⟩
  refine ⟨_,(db xs).map (Value.int .i64),rfl,fun _=>rfl,grownBy_sortedI _,?_,nC (fun y hy=>hin y (List.mem_mergeSort.1 hy)),?_,fun b h=>.inl h⟩
  ·have:=ownsRow_sortedI (n:=n) (os:=os) (ss:=xs) (ts:=db xs) hlen (Nat.zero_le _) hb h1 h2 h3
   show World.ownsRow _ 0 3 1 _ (db xs).length _
   rw [hlen]
   exact this
  ·show (db xs).length * 8≤aL
   rw [hlen]
   exact h8
end Go.Proofs.Ytcnoiiohmpgckaa
