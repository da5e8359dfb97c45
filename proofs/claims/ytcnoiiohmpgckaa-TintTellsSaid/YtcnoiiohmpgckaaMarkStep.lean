
import Derived.Test.YtcnoiiohmpgckaaMarkPure
import Derived.Test.YtcnoiiohmpgckaaSpotBase
namespace Go.Proofs.Ytcnoiiohmpgckaa
open Go
def wc (a:List Int) (mp:List (Int×c6)) (m:gY) (x:Int) (G:gY→Prop):Prop :=
 True∧(da m.2.2.2.2.1 a.length x).2=(da m.2.2.2.2.1 a.length x).2∧((da m.2.2.2.2.1 a.length x).1=true→G ((),m.2)) ∧
 ((da m.2.2.2.2.1 a.length x).1=false→ai ((ah mp x).getD (0,0,0,false))=0∧True ∧
  (dl m.2.2.2.2.1 a.length x (af ((ah mp x).getD (0,0,0,false))) true).2=(dl m.2.2.2.2.1 a.length x (af ((ah mp x).getD (0,0,0,false))) true).2 ∧
  (decide ((m.2.2.1.length:Int)=m.2.1)=true→G ((),m.2.1,m.2.2.1,true,(dl m.2.2.2.2.1 a.length x (af ((ah mp x).getD (0,0,0,false))) true).1,m.2.2.2.2.2)) ∧
  (decide ((m.2.2.1.length:Int)=m.2.1)=false→(m.2.2.1.length+[x].length) * 8≤aI ∧
   G ((),m.2.1,m.2.2.1++[x],m.2.2.2.1,(dl m.2.2.2.2.1 a.length x (af ((ah mp x).getD (0,0,0,false))) true).1,m.2.2.2.2.2.1,
    if m.2.2.2.2.2.2<((m.2.2.1++[x]).length:Int) then ((m.2.2.1++[x]).length:Int) else m.2.2.2.2.2.2)))
def wW (a:List Int) (mp:List (Int×c6)):Prop:=∀ x,isB (aa a).1 x=true→(ah mp x).getD (0,0,0,false)=ft a x
theorem wl {a:List Int} (hc:(ao a).2.2=0) {on:List Int} (ho:ap a on=on) {x:Int} (hx:isB (aa a).1 x=true):da (bF a on) a.length x=(bA on x,0):=by
 obtain ⟨hal,_⟩:=cM hc
 obtain ⟨_,_,l3,l4,l5,l6⟩:=bM hx
 unfold da
 rw [gL hal on l3 (by omega) (by omega),iC hc (ib ho) hx,if_neg (by simp)]
theorem xT {a:List Int} (hc:(ao a).2.2=0) {on:List Int} (ho:ap a on=on) {x:Int} (hx:isB (aa a).1 x=true):dl (bF a on) a.length x (af (ft a x)) true=(bF a (gt a on x),0):=by
 obtain ⟨hal,_⟩:=cM hc
 obtain ⟨_,_,l3,l4,l5,l6⟩:=bM hx
 have e:af (ft a x)=1+(ft a x).1+(ft a x).2.1:=rfl
 unfold dl
 rw [gL hal on l3 (by omega) (by omega),tk hal ho hx,if_neg (by simp)]
theorem oR {a:List Int} (hc:(ao a).2.2=0) {k:Int} (h2:k≤256) {s:MkS} (hs:MkW a k s) {x:Int} (hx:isB (aa a).1 x=true) {mp:List (Int×c6)} (hmp:wW a mp) {m:gY} (hm:m=ck a k s)
  {G:gY→Prop} (g:G (ck a k (aA a k s x))):wc a mp m x G:=by
 subst hm
 have e1:da (ck a k s).2.2.2.2.1 a.length x=(bA s.on x,0):=wl hc hs.on hx
 have e2:dl (ck a k s).2.2.2.2.1 a.length x (af ((ah mp x).getD (0,0,0,false))) true=(bF a (gt a s.on x),0):=by
  rw [hmp x hx]
  exact xT hc hs.on hx
 have hl:=hs.len
 unfold wc
 rw [e1,e2,hmp x hx]
 refine ⟨trivial,rfl,fun h=>?_,fun h=>⟨(ef hx).2.2.1,trivial,rfl,fun h3=>?_,fun h3=>⟨?_,?_⟩⟩⟩
 ·have e:aA a k s x=s:=by unfold aA; rw [if_pos h]
  rw [e] at g
  exact g
 ·have h3:(s.st.length:Int)=k:=of_decide_eq_true h3
  have e:aA a k s x={ s with on:=gt a s.on x,ov:=true }:=by
   unfold aA
   rw [if_neg (by have h:bA s.on x=false:=h; rw [h]; simp),if_pos (by omega)]
  rw [e] at g
  exact g
 ·show (s.st.length+1) * 8≤aI
  unfold aI
  omega
 ·have h3:¬ (s.st.length:Int)=k:=of_decide_eq_false h3
  have e:aA a k s x={ s with on:=gt a s.on x,st:=s.st++[x],dp:=max s.dp (s.st.length+1) }:=by
   unfold aA
   rw [if_neg (by have h:bA s.on x=false:=h; rw [h]; simp),if_neg (by omega)]
  rw [e] at g
  have e2:(if s.dp<((s.st++[x]).length:Int) then ((s.st++[x]).length:Int) else s.dp)=max s.dp (s.st.length+1):=by
   rw [List.length_append,List.length_singleton]
   split <;> omega
  have g:G ((),k,s.st++[x],s.ov,bF a (gt a s.on x),s.ps,max s.dp (s.st.length+1)):=g
  rw [← e2] at g
  exact g
def wG (a:List Int) (mp:List (Int×c6)) (x:Int) (m0:gY) (Q:gY→Prop):Prop :=
 aj .i64 (x+1)∧aj .i64 (x+1)∧aj .i64 (x+1+((ah mp x).getD (0,0,0,false)).1)∧0≤x+1∧x+1≤x+1+((ah mp x).getD (0,0,0,false)).1∧x+1+((ah mp x).getD (0,0,0,false)).1≤(a.length:Int) ∧
 ((0:Int)≤0∧0≤((List.drop (x+1).toNat (List.take (x+1+((ah mp x).getD (0,0,0,false)).1).toNat a)).length:Int)∧m0=ck a m0.2.1 (List.foldl (aA a m0.2.1) (cd a m0) (bD (List.take (Int.toNat 0) (List.drop (x+1).toNat (List.take (x+1+((ah mp x).getD (0,0,0,false)).1).toNat a)))))) ∧
 ∀ y:gY×Int,(0≤y.2∧y.2≤((List.drop (x+1).toNat (List.take (x+1+((ah mp x).getD (0,0,0,false)).1).toNat a)).length:Int)∧y.1=ck a m0.2.1 (List.foldl (aA a m0.2.1) (cd a m0) (bD (List.take y.2.toNat (List.drop (x+1).toNat (List.take (x+1+((ah mp x).getD (0,0,0,false)).1).toNat a)))))) →
  (decide (y.2<((List.drop (x+1).toNat (List.take (x+1+((ah mp x).getD (0,0,0,false)).1).toNat a)).length:Int))=true→0≤y.2∧y.2<((List.drop (x+1).toNat (List.take (x+1+((ah mp x).getD (0,0,0,false)).1).toNat a)).length:Int) ∧
   (decide ((List.drop (x+1).toNat (List.take (x+1+((ah mp x).getD (0,0,0,false)).1).toNat a)).getD y.2.toNat 0≠0)=true→aj .i64 (IntKind.i64.wrap ((List.drop (x+1).toNat (List.take (x+1+((ah mp x).getD (0,0,0,false)).1).toNat a)).getD y.2.toNat 0) - 1) ∧
    ∀ (_ _:Array Value),wc a mp y.1 (IntKind.i64.wrap ((List.drop (x+1).toNat (List.take (x+1+((ah mp x).getD (0,0,0,false)).1).toNat a)).getD y.2.toNat 0) - 1) fun m=>aj .i64 (y.2+1) ∧
     (0≤y.2+1∧y.2+1≤((List.drop (x+1).toNat (List.take (x+1+((ah mp x).getD (0,0,0,false)).1).toNat a)).length:Int)∧m=ck a m0.2.1 (List.foldl (aA a m0.2.1) (cd a m0) (bD (List.take (y.2+1).toNat (List.drop (x+1).toNat (List.take (x+1+((ah mp x).getD (0,0,0,false)).1).toNat a)))))) ∧
     (((List.drop (x+1).toNat (List.take (x+1+((ah mp x).getD (0,0,0,false)).1).toNat a)).length:Int) - (y.2+1)).toNat<(((List.drop (x+1).toNat (List.take (x+1+((ah mp x).getD (0,0,0,false)).1).toNat a)).length:Int) - y.2).toNat) ∧
   (decide ((List.drop (x+1).toNat (List.take (x+1+((ah mp x).getD (0,0,0,false)).1).toNat a)).getD y.2.toNat 0≠0)=false→aj .i64 (y.2+1) ∧
     (0≤y.2+1∧y.2+1≤((List.drop (x+1).toNat (List.take (x+1+((ah mp x).getD (0,0,0,false)).1).toNat a)).length:Int)∧(((),y.1.2):gY)=ck a m0.2.1 (List.foldl (aA a m0.2.1) (cd a m0) (bD (List.take (y.2+1).toNat (List.drop (x+1).toNat (List.take (x+1+((ah mp x).getD (0,0,0,false)).1).toNat a)))))) ∧
     (((List.drop (x+1).toNat (List.take (x+1+((ah mp x).getD (0,0,0,false)).1).toNat a)).length:Int) - (y.2+1)).toNat<(((List.drop (x+1).toNat (List.take (x+1+((ah mp x).getD (0,0,0,false)).1).toNat a)).length:Int) - y.2).toNat)) ∧
  (decide (y.2<((List.drop (x+1).toNat (List.take (x+1+((ah mp x).getD (0,0,0,false)).1).toNat a)).length:Int))=false→Q ((),y.1.2))
theorem o7 {a:List Int} (hw:∀ x∈a,aj .u64 x) (hc:(ao a).2.2=0) {k:Int} (h1:1≤k) (h2:k≤256) {s:MkS} (hs:MkW a k s) {x:Int} (hx:isB (aa a).1 x=true) {mp:List (Int×c6)} (hmp:wW a mp) {m0:gY} (hm:m0=ck a k s)
  {Q:gY→Prop} (q:Q (ck a k (kY a k s x))):wG a mp x m0 Q:=by
 subst hm
 obtain ⟨hal,_⟩:=cM hc
 obtain ⟨l1,_,l3,l4,l5,l6⟩:=bM hx
 have hrf:=eV hw hc _ (ef hx).1
 have hrs:List.drop (x+1).toNat (List.take (x+1+(ft a x).1).toNat a)=dg a x:=rfl
 have hwr:∀ v∈dg a x,IntKind.i64.wrap v=v∧0≤v∧v≤256:=fun v hv=>by
  rcases hrf v hv with e | ⟨h1,h2,_⟩
  ·subst e; exact ⟨gj (by omega) (by omega),by omega,by omega⟩
  ·exact ⟨gj (by omega) (by omega),by omega,by omega⟩
 have hE:kY a k s x=List.foldl (aA a k) s (bD (dg a x)):=rfl
 have hK:(ck a k s).2.1=k:=rfl
 have hmem:=jZ hw hc hx
 rw [hE] at q
 unfold wG
 rw [hmp x hx,hrs,hK,tV hc k hs.on]
 generalize dg a x=rs at *
 simp only [aj]
 refine ⟨by omega,by omega,by omega,by omega,by omega,by omega,⟨by omega,by omega,rfl⟩,fun ⟨m,j⟩ ⟨j0,j1,e⟩=>⟨fun hj=>?_,fun hj=>?_⟩⟩
 ·have hj:=of_decide_eq_true hj
  simp only at j0 j1 e hj ⊢
  have ht:=bh (0:Int) j0 hj
  have hv:=bc (0:Int) j0 hj
  have hsub:∀ y∈bD (rs.take j.toNat),isB (aa a).1 y=true:=fun y hy=>hmem y (by
   unfold bD at hy ⊢
   obtain ⟨v,hv,rfl⟩:=List.mem_map.1 hy
   obtain ⟨hv,h0⟩:=List.mem_filter.1 hv
   exact List.mem_map.2 ⟨v,List.mem_filter.2 ⟨List.mem_of_mem_take hv,h0⟩,rfl⟩)
  have hs2:=(dN h1 _ hs hsub).w
  generalize hv0:rs.getD j.toNat 0=v at *
  obtain ⟨w1,w2,w3⟩:=hwr v hv
  rw [w1,ht,sZ]
  refine ⟨j0,hj,fun hne=>⟨by omega,fun _ _=>?_⟩,fun hne=>⟨by omega,⟨by omega,by omega,?_⟩,by omega⟩⟩
  ·have hne:=of_decide_eq_true hne
   have hy:isB (aa a).1 (v - 1)=true:=hmem _ (List.mem_map.2 ⟨v,List.mem_filter.2 ⟨hv,decide_eq_true hne⟩,rfl⟩)
   refine oR hc h2 hs2 hy hmp e ⟨by omega,⟨by omega,by omega,?_⟩,by omega⟩
   rw [if_neg hne,List.foldl_append]
   rfl
  ·have hne:v=0:=by simpa using of_decide_eq_false hne
   rw [if_pos hne,List.append_nil]
   exact e
 ·have hj:=of_decide_eq_false hj
  simp only at j0 j1 e hj ⊢
  rw [bZ hj] at e
  subst e
  exact q
def qt (a:List Int) (mp:List (Int×c6)) (m0:gY) (R:gY→Prop):Prop :=
 (∃ s,m0=ck a m0.2.1 s∧MkW a m0.2.1 s∧dV a m0.2.1 s=dV a m0.2.1 (cd a m0)) ∧
 ∀ y:gY,(∃ s,y=ck a m0.2.1 s∧MkW a m0.2.1 s∧dV a m0.2.1 s=dV a m0.2.1 (cd a m0)) →
  (decide (0<(y.2.2.1.length:Int))=true→aj .i64 ((y.2.2.1.length:Int) - 1)∧0≤(y.2.2.1.length:Int) - 1∧(y.2.2.1.length:Int) - 1<(y.2.2.1.length:Int)∧((y.2.2.1.length:Int) - 1).toNat<y.2.2.1.length∧aj .i64 ((y.2.2.1.length:Int) - 1)∧0≤(y.2.2.1.length:Int) - 1∧(y.2.2.1.length:Int) - 1≤(y.2.2.1.length:Int) ∧
   ∀ _:Array Value,wG a mp (y.2.2.1.getD ((y.2.2.1.length:Int) - 1).toNat 0) ((),y.2.1,y.2.2.1.take ((y.2.2.1.length:Int) - 1).toNat,y.2.2.2) fun m =>
    (∃ s,m=ck a m0.2.1 s∧MkW a m0.2.1 s∧dV a m0.2.1 s=dV a m0.2.1 (cd a m0))∧2 * (256 - ie a m.2.2.2.2.1)+m.2.2.1.length<2 * (256 - ie a y.2.2.2.2.1)+y.2.2.1.length) ∧
  (decide (0<(y.2.2.1.length:Int))=false→R ((),y.2))
theorem xF {a:List Int} (hc:(ao a).2.2=0) {k:Int} {s:MkS} (hs:MkW a k s):2 * (256 - ie a (ck a k s).2.2.2.2.1)+(ck a k s).2.2.1.length=sv a s:=by
 have e:ie a (ck a k s).2.2.2.2.1=cB a s.on:=qw hc (ib hs.on)
 rw [e]
 rfl
theorem mT {a:List Int} (hw:∀ x∈a,aj .u64 x) (hc:(ao a).2.2=0) {k:Int} (h1:1≤k) (h2:k≤256) {s:MkS} (hs:MkW a k s) {mp:List (Int×c6)} (hmp:wW a mp) {m0:gY} (hm:m0=ck a k s)
  {R:gY→Prop} (r:R (ck a k (dV a k s))):qt a mp m0 R:=by
 subst hm
 have hK:(ck a k s).2.1=k:=rfl
 unfold qt
 rw [hK,tV hc k hs.on]
 refine ⟨⟨s,rfl,hs,rfl⟩,fun y ⟨t,e,ht,hd⟩=>⟨fun hn=>?_,fun hn=>?_⟩⟩
 ·subst e
  have hn:(0:Int)<(t.st.length:Int):=of_decide_eq_true hn
  have hl:=ht.len
  have hne:¬ t.st.length=0:=by omega
  obtain ⟨g1,g2⟩:=jX hw hc h1 ht hne
  have e1:(ck a k t).2.2.1=t.st:=rfl
  have e2:((t.st.length:Int) - 1).toNat=t.st.length - 1:=by omega
  rw [xF hc ht,e1,e2]
  simp only [aj]
  refine ⟨by omega,by omega,by omega,by omega,by omega,by omega,by omega,fun _=>?_⟩
  refine o7 hw hc h1 h2 (s:={ t with st:=t.st.dropLast }) (tI ht) (ht.st _ (mz hne)) hmp ?_ ⟨⟨pS a k t,rfl,g1.w,(wK hw hc h1 h2 ht hne).trans hd⟩,?_⟩
  ·have:t.st.take (t.st.length - 1)=t.st.dropLast:=(List.dropLast_eq_take).symm
   rw [this]
   rfl
  ·have:=xF hc g1.w
   have e3:kY a k { t with st:=t.st.dropLast } (t.st.getD (t.st.length - 1) 0)=pS a k t:=rfl
   rw [e3,this]
   exact g2
 ·subst e
  have hn:¬ (0:Int)<(t.st.length:Int):=of_decide_eq_false hn
  have e:dV a k s=t:=hd.symm.trans (wM (by omega))
  rw [e] at r
  exact r
theorem vf {a:List Int} (hw:∀ x∈a,aj .u64 x) (hc:(ao a).2.2=0) {k:Int} (h1:1≤k) (h2:k≤256) {s:MkS} (hs:MkW a k s) {mp:List (Int×c6)} (hmp:wW a mp) {m0:gY} (hm:m0=ck a k s)
  {A:gY→Prop} {D:Prop} (r:A (ck a k (dV a k s))) (d:D):qt a mp m0 (fun m=>A m∧D):=mT hw hc h1 h2 hs hmp hm ⟨r,d⟩
end Go.Proofs.Ytcnoiiohmpgckaa
