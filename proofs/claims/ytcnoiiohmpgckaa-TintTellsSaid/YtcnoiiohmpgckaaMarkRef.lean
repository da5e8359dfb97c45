
import Derived.Test.YtcnoiiohmpgckaaMarkPure
namespace Go.Proofs.Ytcnoiiohmpgckaa
open Go
structure OnW (a on:List Int):Prop where
 is:∀ x∈on,isB (aa a).1 x=true
 nd:on.Nodup
theorem OnW.len {a on:List Int} (h:OnW a on):on.length≤256:=fK h.nd fun x hx=>dF (h.is x hx)
theorem OnW.snoc {a on:List Int} (h:OnW a on) {x:Int} (hx:isB (aa a).1 x=true) (hn:bA on x=false):OnW a (on++[x]):=by
 refine ⟨fun y hy=>?_,?_⟩
 ·rcases List.mem_append.1 hy with hy | hy
  ·exact h.is y hy
  ·rw [List.mem_singleton.1 hy]; exact hx
 ·rw [List.nodup_append]
  refine ⟨h.nd,by simp,fun y hy z hz=>?_⟩
  rw [List.mem_singleton.1 hz]
  rintro rfl
  rw [bk.2 hy] at hn
  cases hn
def vP (k:Int) (on st:List Int) (ov:Bool) (dp x:Int) (G:List Int→List Int→Bool→Int→Prop):Prop :=
 (decide (x<0)=false→True)∧((decide (x<0)||bA on x)=true→G on st ov dp) ∧
 ((decide (x<0)||bA on x)=false→(on.length+[x].length) * 8≤aI∧(decide (k≤(st.length:Int))=true→G (on++[x]) st true dp) ∧
  (decide (k≤(st.length:Int))=false→(st.length+[x].length) * 8≤aI∧G (on++[x]) (st++[x]) ov (if dp<((st++[x]).length:Int) then ((st++[x]).length:Int) else dp)))
theorem lZ {a:List Int} {k:Int} (h2:k≤256) {on st:List Int} {ov:Bool} {dp x:Int} (ho:OnW a on) (_:(st.length:Int)≤k) (hx:x<0∨isB (aa a).1 x=true)
  {G:List Int→List Int→Bool→Int→Prop} (g:∀ on' st' ov' dp',OnW a on'→(∀ ps,MkS.mk (ap a on') st' ov' ps dp'=List.foldl (aA a k) ⟨ap a on,st,ov,ps,dp⟩ (if 0≤x then [x] else []))→G on' st' ov' dp'):vP k on st ov dp x G:=by
 have hlen:=ho.len
 refine ⟨fun _=>trivial,fun h=>?_,fun h=>?_⟩
 ·refine g _ _ _ _ ho fun ps=>?_
  by_cases h0:0≤x
  ·rw [if_pos h0,List.foldl_cons,List.foldl_nil]
   have hx:isB (aa a).1 x=true:=by
    rcases hx with hx | hx
    ·omega
    ·exact hx
   rw [decide_eq_false (by omega),Bool.false_or] at h
   unfold aA
   rw [if_pos (by rw [jp hx]; exact h)]
  ·rw [if_neg h0]
   rfl
 ·rw [Bool.or_eq_false_iff] at h
  obtain ⟨h0,h1⟩:=h
  have h0:¬ x<0:=of_decide_eq_false h0
  have hx:isB (aa a).1 x=true:=by
   rcases hx with hx | hx
   ·omega
   ·exact hx
  have hs:=ho.snoc hx h1
  have hn:¬ bA (ap a on) x=true:=by rw [jp hx,h1]; simp
  unfold aI
  simp only [List.length_singleton]
  refine ⟨by omega,fun h3=>g _ _ _ _ hs fun ps=>?_,fun h3=>⟨by have:=of_decide_eq_false h3; omega,g _ _ _ _ hs fun ps=>?_⟩⟩
  ·rw [if_pos (show 0≤x by omega),List.foldl_cons,List.foldl_nil,se]
   unfold aA
   rw [if_neg hn,if_pos (of_decide_eq_true h3)]
  ·rw [if_pos (show 0≤x by omega),List.foldl_cons,List.foldl_nil,se]
   unfold aA
   rw [if_neg hn,if_neg (of_decide_eq_false h3)]
   simp only [List.length_append,List.length_singleton,MkS.mk.injEq,true_and]
   split <;> omega
theorem kS:∀ (l:List Int),(∀ v∈l,v=0∨1≤v∧v≤256)→(l.map nameOf).filter (fun x=>decide (0≤x))=bD l
 | [],_=>rfl
 | v::l,h=>by
  have ih:=kS l fun x hx=>h x (by simp [hx])
  unfold bD at ih ⊢
  rw [List.map_cons]
  rcases h v (by simp) with rfl | ⟨h1,h2⟩
  ·rw [List.filter_cons_of_neg (by simp [nameOf]),List.filter_cons_of_neg (by simp),ih]
  ·have e:nameOf v=v - 1:=by unfold nameOf; rw [if_neg (by omega)]
   rw [List.filter_cons_of_pos (by rw [e]; simp; omega),List.filter_cons_of_pos (by simp; omega),List.map_cons,ih,e]
def pM (a:List Int) (k x:Int) (on0 st0:List Int) (ov0:Bool) (dp0:Int) (Q:List Int→List Int→Bool→Int→Prop):Prop :=
 True∧((0:Int)≤0∧0≤((ae a x (ac x (aa a).1).1).length:Int)∧OnW a on0∧∀ ps,MkS.mk (ap a on0) st0 ov0 ps dp0=List.foldl (aA a k) ⟨ap a on0,st0,ov0,ps,dp0⟩ ((List.take (Int.toNat 0) (ae a x (ac x (aa a).1).1)).filter fun x=>decide (0≤x))) ∧
 ∀ y:List Int×List Int×Bool×Int×Int,(0≤y.2.2.2.2∧y.2.2.2.2≤((ae a x (ac x (aa a).1).1).length:Int)∧OnW a y.1∧∀ ps,MkS.mk (ap a y.1) y.2.1 y.2.2.1 ps y.2.2.2.1=List.foldl (aA a k) ⟨ap a on0,st0,ov0,ps,dp0⟩ ((List.take y.2.2.2.2.toNat (ae a x (ac x (aa a).1).1)).filter fun x=>decide (0≤x))) →
  (decide (y.2.2.2.2<((ae a x (ac x (aa a).1).1).length:Int))=true→0≤y.2.2.2.2∧y.2.2.2.2<((ae a x (ac x (aa a).1).1).length:Int)∧y.2.2.2.2.toNat<(ae a x (ac x (aa a).1).1).length ∧
   ∀ _:Array Value,vP k y.1 y.2.1 y.2.2.1 y.2.2.2.1 ((ae a x (ac x (aa a).1).1).getD y.2.2.2.2.toNat 0) fun on st ov dp=>aj .i64 (y.2.2.2.2+1) ∧
    (0≤y.2.2.2.2+1∧y.2.2.2.2+1≤((ae a x (ac x (aa a).1).1).length:Int)∧OnW a on∧∀ ps,MkS.mk (ap a on) st ov ps dp=List.foldl (aA a k) ⟨ap a on0,st0,ov0,ps,dp0⟩ ((List.take (y.2.2.2.2+1).toNat (ae a x (ac x (aa a).1).1)).filter fun x=>decide (0≤x))) ∧
    (((ae a x (ac x (aa a).1).1).length:Int) - (y.2.2.2.2+1)).toNat<(((ae a x (ac x (aa a).1).1).length:Int) - y.2.2.2.2).toNat) ∧
  (decide (y.2.2.2.2<((ae a x (ac x (aa a).1).1).length:Int))=false→Q y.1 y.2.1 y.2.2.1 y.2.2.2.1)
theorem kB {a:List Int} (hw:∀ x∈a,aj .u64 x) (hc:(ao a).2.2=0) {k:Int} (h1:1≤k) (h2:k≤256) {x:Int} (hx:isB (aa a).1 x=true) {on0 st0:List Int} {ov0:Bool} {dp0 ps0:Int} (ho:OnW a on0) (hs:MkW a k ⟨ap a on0,st0,ov0,ps0,dp0⟩)
  {Q:List Int→List Int→Bool→Int→Prop} (q:∀ on' st' ov' dp',OnW a on'→(∀ ps,MkS.mk (ap a on') st' ov' ps dp'=kY a k ⟨ap a on0,st0,ov0,ps,dp0⟩ x)→Q on' st' ov' dp'):pM a k x on0 st0 ov0 dp0 Q:=by
 obtain ⟨hal,_⟩:=cM hc
 obtain ⟨l1,_,l3,l4,l5,l6⟩:=bM hx
 have hrf:=eV hw hc _ (ef hx).1
 have e0:ae a x (ac x (aa a).1).1=(dg a x).map nameOf:=rfl
 have hF:=kS (dg a x) fun v hv=>by
  rcases hrf v hv with h | ⟨h,h',_⟩
  ·exact .inl h
  ·exact .inr ⟨h,h'⟩
 have hmem:=jZ hw hc hx
 rw [← hF] at hmem
 have hE:∀ s,kY a k s x=List.foldl (aA a k) s (((dg a x).map nameOf).filter fun x=>decide (0≤x)):=fun s=>by rw [hF]; rfl
 have hln:((dg a x).map nameOf).length≤256:=by rw [List.length_map]; omega
 unfold pM
 rw [e0]
 generalize (dg a x).map nameOf=ns at *
 simp only [aj]
 refine ⟨trivial,⟨by omega,by omega,ho,fun _=>rfl⟩,fun ⟨on,st,ov,dp,i⟩ ⟨i0,i1,i2,i3⟩=>⟨fun hlt=>?_,fun hge=>?_⟩⟩
 ·have hlt:=of_decide_eq_true hlt
  simp only at i0 i1 i2 i3 hlt ⊢
  have ht:=bh (0:Int) i0 hlt
  have hv:=bc (0:Int) i0 hlt
  have hsub:∀ y∈(ns.take i.toNat).filter (fun x=>decide (0≤x)),isB (aa a).1 y=true:=fun y hy=>by
   obtain ⟨h3,h4⟩:=List.mem_filter.1 hy
   exact hmem y (List.mem_filter.2 ⟨List.mem_of_mem_take h3,h4⟩)
  have hs2:=(dN h1 _ hs hsub).w
  rw [← i3 ps0] at hs2
  have hl:=hs2.len
  refine ⟨i0,hlt,by omega,fun _=>?_⟩
  refine lZ h2 i2 hl ?_ fun on' st' ov' dp' hon hps=>⟨by omega,⟨by omega,by omega,hon,fun ps=>?_⟩,by omega⟩
  ·by_cases h0:ns.getD i.toNat 0<0
   ·exact .inl h0
   ·exact .inr (hmem _ (List.mem_filter.2 ⟨hv,decide_eq_true (by omega)⟩))
  ·rw [hps ps,i3 ps,ht,List.filter_append,List.foldl_append]
   congr 1
   by_cases h0:0≤ns.getD i.toNat 0
   ·rw [if_pos h0,List.filter_cons_of_pos (by simpa using h0)]
    rfl
   ·rw [if_neg h0,List.filter_cons_of_neg (by simpa using h0)]
    rfl
 ·have hge:=of_decide_eq_false hge
  simp only at i0 i1 i2 i3 hge ⊢
  rw [bZ hge] at i3
  exact q _ _ _ _ i2 fun ps=>by rw [i3 ps,hE]
def pQ (a:List Int) (k:Int) (on0 st0:List Int) (ov0:Bool) (dp0:Int) (R:List Int→List Int→Bool→Int→Prop):Prop :=
 (OnW a on0∧∀ ps,MkW a k ⟨ap a on0,st0,ov0,ps,dp0⟩→MkW a k ⟨ap a on0,st0,ov0,ps,dp0⟩∧dV a k ⟨ap a on0,st0,ov0,ps,dp0⟩=dV a k ⟨ap a on0,st0,ov0,ps,dp0⟩) ∧
 ∀ y:List Int×List Int×Bool×Int,(OnW a y.1∧∀ ps,MkW a k ⟨ap a on0,st0,ov0,ps,dp0⟩→MkW a k ⟨ap a y.1,y.2.1,y.2.2.1,ps,y.2.2.2⟩∧dV a k ⟨ap a y.1,y.2.1,y.2.2.1,ps,y.2.2.2⟩=dV a k ⟨ap a on0,st0,ov0,ps,dp0⟩) →
  (decide (0<(y.2.1.length:Int))=true→aj .i64 ((y.2.1.length:Int) - 1)∧0≤(y.2.1.length:Int) - 1∧(y.2.1.length:Int) - 1<(y.2.1.length:Int)∧((y.2.1.length:Int) - 1).toNat<y.2.1.length∧aj .i64 ((y.2.1.length:Int) - 1)∧0≤(y.2.1.length:Int) - 1∧(y.2.1.length:Int) - 1≤(y.2.1.length:Int) ∧
   pM a k (y.2.1.getD ((y.2.1.length:Int) - 1).toNat 0) y.1 (List.take ((y.2.1.length:Int) - 1).toNat y.2.1) y.2.2.1 y.2.2.2 fun on st ov dp =>
    (OnW a on∧∀ ps,MkW a k ⟨ap a on0,st0,ov0,ps,dp0⟩→MkW a k ⟨ap a on,st,ov,ps,dp⟩∧dV a k ⟨ap a on,st,ov,ps,dp⟩=dV a k ⟨ap a on0,st0,ov0,ps,dp0⟩)∧2 * (256 - cB a (ap a on))+st.length<2 * (256 - cB a (ap a y.1))+y.2.1.length) ∧
  (decide (0<(y.2.1.length:Int))=false→R y.1 y.2.1 y.2.2.1 y.2.2.2)
theorem kE {a:List Int} (hw:∀ x∈a,aj .u64 x) (hc:(ao a).2.2=0) {k:Int} (h1:1≤k) (h2:k≤256) {on0 st0:List Int} {ov0:Bool} {dp0 ps0:Int} (ho:OnW a on0) (hs:MkW a k ⟨ap a on0,st0,ov0,ps0,dp0⟩)
  {R:List Int→List Int→Bool→Int→Prop} (r:∀ on' st' ov' dp',OnW a on'→MkS.mk (ap a on') st' ov' ps0 dp'=dV a k ⟨ap a on0,st0,ov0,ps0,dp0⟩→R on' st' ov' dp'):pQ a k on0 st0 ov0 dp0 R:=by
 refine ⟨⟨ho,fun ps h=>⟨h,rfl⟩⟩,fun ⟨on,st,ov,dp⟩ ⟨i1,i2⟩=>⟨fun hn=>?_,fun hn=>?_⟩⟩
 ·have hn:=of_decide_eq_true hn
  simp only at i1 i2 hn ⊢
  have hne:¬ st.length=0:=by omega
  obtain ⟨w1,d1⟩:=i2 ps0 hs
  have hl:=w1.len
  have e2:((st.length:Int) - 1).toNat=st.length - 1:=by omega
  have e3:st.take (st.length - 1)=st.dropLast:=(List.dropLast_eq_take).symm
  have hl:(st.length:Int)≤k:=hl
  rw [e2,e3]
  simp only [aj]
  refine ⟨by omega,by omega,by omega,by omega,by omega,by omega,by omega,?_⟩
  refine kB hw hc h1 h2 (w1.st _ (mz hne)) i1 (tI w1) fun on' st' ov' dp' hon hps=>⟨⟨hon,fun ps h=>?_⟩,?_⟩
  ·obtain ⟨w2,d2⟩:=i2 ps h
   have e:MkS.mk (ap a on') st' ov' ps dp'=pS a k ⟨ap a on,st,ov,ps,dp⟩:=hps ps
   rw [e]
   exact ⟨(jX hw hc h1 w2 hne).1.w,(wK hw hc h1 h2 w2 hne).trans d2⟩
  ·have e:MkS.mk (ap a on') st' ov' ps0 dp'=pS a k ⟨ap a on,st,ov,ps0,dp⟩:=hps ps0
   have h3:=(jX hw hc h1 w1 hne).2
   rw [← e] at h3
   exact h3
 ·have hn:=of_decide_eq_false hn
  simp only at i1 i2 hn ⊢
  obtain ⟨w1,d1⟩:=i2 ps0 hs
  have h0:st.length=0:=by omega
  rw [wM h0] at d1
  exact r _ _ _ _ i1 d1
theorem tK {a on:List Int} (h:OnW a on):aL a (ap a on)=aL a on:=by
 funext k
 unfold aL
 rw [Bool.eq_iff_iff]
 simp only [List.any_eq_true]
 constructor
 ·rintro ⟨x,hx,h2⟩
  exact ⟨x,bk.1 (List.mem_filter.1 hx).2,h2⟩
 ·rintro ⟨x,hx,h2⟩
  exact ⟨x,List.mem_filter.2 ⟨eh.2 (h.is x hx),bk.2 hx⟩,h2⟩
theorem sW {a:List Int} (hw:∀ x∈a,aj .u64 x) (hc:(ao a).2.2=0) {k:Int} (h1:1≤k) (h2:k≤256) {on0 st0:List Int} {ov0:Bool} {dp0 ps0:Int} (ho:OnW a on0) (hs:MkW a k ⟨ap a on0,st0,ov0,ps0,dp0⟩)
  {A:List Int→List Int→Bool→Int→Prop} {D:Prop} (r:∀ on' st' ov' dp',OnW a on'→MkS.mk (ap a on') st' ov' ps0 dp'=dV a k ⟨ap a on0,st0,ov0,ps0,dp0⟩→A on' st' ov' dp') (d:D):pQ a k on0 st0 ov0 dp0 fun on st ov dp=>A on st ov dp∧D :=
 kE hw hc h1 h2 ho hs fun on st ov dp h e=>⟨r on st ov dp h e,d⟩
end Go.Proofs.Ytcnoiiohmpgckaa
