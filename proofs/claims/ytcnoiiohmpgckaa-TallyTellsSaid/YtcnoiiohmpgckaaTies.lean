
import Derived.Test.YtcnoiiohmpgckaaBase
import Derived.ProofKit
import Derived.Deep.Slices
import Derived.SizedLaws
import GoSem.ClaimLeaving
namespace Go.Proofs.Ytcnoiiohmpgckaa
open Go Go.ChangeShapes Go.WideShapes Go.ChangeAt Go.RowKit Go.Deep
def lY (P:Program) (g:Ty→TypeId→Bool):List Field→Ty→Nat→Bool
 | [],_,_=>false
 | [f],T,off=>Nat.beq f.offset off&&Nat.beq (P.cellsOf f.type) T.size&&g T f.type
 | f::f2::fs,T,off=>match T with
  | .pair A B=>Nat.beq f.offset off&&Nat.beq (P.cellsOf f.type) A.size&&g A f.type&&lY P g (f2::fs) B (off+A.size)
  | _=>false
def rH (P:Program):Nat→Ty→TypeId→Bool
 | 0,_,_=>false
 | n+1,T,t=>match P.underlying t,T with
  | some (.int k),.int k'=>if k=k' then true else false
  | some .bool,.bool=>true
  | some .string,.str=>true
  | some (.slice e),.arr T=>Nat.beq (P.cellsOf e) T.size&&Nat.ble T.bytes (P.bytesOf e)&&rH P n T e
  | some (.struct fs),.pair A B=>Nat.beq (P.cellsOf t) (Ty.pair A B).size&&lY P (rH P n) fs.toList (.pair A B) 0
  | _,_=>false
section
variable {H:Type} {enc:TypeId×Value→H} {P:Program} {w:World}
theorem vK {k:IntKind} {n:Int} (h:(Lit.int k n).wf=true):aj k n:=by
 simp only [Lit.wf,Bool.and_eq_true,decide_eq_true_eq] at h
 cases k <;> simp [aj,IntKind.min,IntKind.max,IntKind.signed,IntKind.bits] at h ⊢ <;> omega
theorem oa {a:Addr} {v:Value} (h:w.cell? a=some v):a.spot=none∧(full w).cell a.block a.off=some v:=by
 unfold World.cell? at h
 split at h
 ·rename_i c t z hb
  split at h
  ·cases h
  ·rename_i hs
   refine ⟨by cases hsp:a.spot <;> simp_all,?_⟩
   simp [PH.cell,full,hb,h,Blk.get]
 ·cases h
theorem uO (d:DataW H):1≤Rows.uptoBulk d:=by
 cases d with
 | lit l=>cases l <;> simp [Rows.uptoBulk]
 | nil=>simp [Rows.uptoBulk]
 | ptr d=>simp [Rows.uptoBulk]
 | slice elems spare=>simp [Rows.uptoBulk]
 | agg parts=>simp [Rows.uptoBulk]
 | iface t d=>simp [Rows.uptoBulk]
 | map entries=>simp [Rows.uptoBulk]
 | held h=>simp [Rows.uptoBulk]
theorem ob {d:DataW H} {l:List (DataW H)} (h:d∈l):Rows.uptoBulk d≤Rows.uptoBulkAll l:=by
 induction l with
 | nil=>cases h
 | cons x r ih =>
  simp only [Rows.uptoBulkAll]
  cases List.mem_cons.1 h with
  | inl e=>subst e; omega
  | inr e=>have:=ih e; omega
theorem qQ (l:List (DataW H)):l.length≤Rows.uptoBulkAll l:=by
 induction l with
 | nil=>simp [Rows.uptoBulkAll]
 | cons x r ih=>have:=uO x; simp only [Rows.uptoBulkAll,List.length_cons]; omega
def vJ (enc:TypeId×Value→H) (P:Program) (w:World) (g:Ty→TypeId→Bool):Prop :=
 ∀ (T:Ty) (t:TypeId) (fuel:Nat) (cs:List Value) (d:DataW H) (ps:List MemPlace),g T t=true→DataW.trod enc P w 0 (fun _=>true) true fuel t cs=some (d,ps) →
  (∀ n∈d.weights P t,n≤reachBytes)→∃ x:T.den,T.holds (full w) x cs∧dF T x∧∀ B,Rows.uptoBulk d≤B→dE B T x
theorem sj {g:Ty→TypeId→Bool} (hg:vJ enc P w g) {all:List Field} {cs:List Value} {xs:List (DataW H×List MemPlace)} {n:Nat}
  (hat:∀ (i:Nat) (f:Field),all[i]?=some f→DataW.trod enc P w 0 (fun _=>true) true n f.type ((cs.drop f.offset).take (P.cellsOf f.type))=xs[i]?)
  (hlen:xs.length=all.length) (hw:∀ m∈DataW.weightsEach P (all.map (·.type)) (xs.map (·.1)),m≤reachBytes) :
  ∀ (fs:List Field) (T:Ty) (off:Nat) (k:Nat),lY P g fs T off=true→(∀ i,fs[i]?=all[k+i]?)→cs.length=off+T.size→∃ x:T.den,T.holds (full w) x (cs.drop off)∧dF T x∧∀ B,(∀ y∈xs,Rows.uptoBulk y.1≤B)→dE B T x
 | [],_,_,_,h,_,_=>by cases h
 | [f],T,off,k,h,hk,hc=>by
  simp only [lY,Bool.and_eq_true] at h
  obtain ⟨⟨h1,h2⟩,h3⟩:=h
  have h1:=Nat.eq_of_beq_eq_true h1
  have h2:=Nat.eq_of_beq_eq_true h2
  have e0:all[k]?=some f:=by have:=hk 0; simpa using this.symm
  have hkl:k<all.length:=by
   rcases Nat.lt_or_ge k all.length with h | h
   ·exact h
   ·rw [List.getElem?_eq_none h] at e0; cases e0
  have hx:xs[k]?=some (xs[k]'(by omega)):=List.getElem?_eq_getElem (by omega)
  have ht:=hat k f e0
  rw [hx,h1,h2] at ht
  have:=hg T f.type n _ (xs[k]'(by omega)).1 (xs[k]'(by omega)).2 h3 ht (fun m hm=>hw m (DataW.weights_mem_each (j:=k) (by simp [e0]) (by simp [hx]) m hm))
  rw [List.take_of_length_le (by simp; omega)] at this
  obtain ⟨x,h5,h6,h7⟩:=this
  exact ⟨x,h5,h6,fun B hB=>h7 B (hB _ (List.getElem_mem (by omega)))⟩
 | f::f2::fs,T,off,k,h,hk,hc=>by
  cases T with
  | pair A B =>
   simp only [lY,Bool.and_eq_true] at h
   obtain ⟨⟨⟨h1,h2⟩,h3⟩,h4⟩:=h
   have h1:=Nat.eq_of_beq_eq_true h1
   have h2:=Nat.eq_of_beq_eq_true h2
   have e0:all[k]?=some f:=by have:=hk 0; simpa using this.symm
   have hkl:k<all.length:=by
    rcases Nat.lt_or_ge k all.length with h | h
    ·exact h
    ·rw [List.getElem?_eq_none h] at e0; cases e0
   have hx:xs[k]?=some (xs[k]'(by omega)):=List.getElem?_eq_getElem (by omega)
   have ht:=hat k f e0
   rw [hx,h1,h2] at ht
   obtain ⟨x,hx1,hx2,hx3⟩:=hg A f.type n _ (xs[k]'(by omega)).1 (xs[k]'(by omega)).2 h3 ht (fun m hm=>hw m (DataW.weights_mem_each (j:=k) (by simp [e0]) (by simp [hx]) m hm))
   obtain ⟨y,hy1,hy2,hy3⟩:=sj hg hat hlen hw (f2::fs) B (off+A.size) (k+1) h4 (fun i=>by have:=hk (i+1); simp only [List.getElem?_cons_succ] at this; rw [this]; congr 1; omega) (by simp only [Ty.size] at hc; omega)
   refine ⟨(x,y),⟨_,_,?_,hx1,hy1⟩,⟨hx2,hy2⟩,fun B hB=>⟨hx3 B (hB _ (List.getElem_mem (by omega))),hy3 B hB⟩⟩
   rw [← List.drop_drop,List.take_append_drop]
  | _=>cases h
theorem ub {T:Ty} {a:Addr} {n:Nat} {bd:Nat→Nat} (hat:∀ i,i<n→∃ cs,w.cells? 0 (a.add (i * T.size)) T.size=some cs∧∃ x:T.den,T.holds (full w) x cs∧dF T x∧∀ B,bd i≤B→dE B T x) :
  ∃ (xs:List T.den) (l:List Value),xs.length=n∧ax (Ty.holds T (full w)) xs l∧(∀ j u,l[j]?=some u→w.cell? (a.add j)=some u)∧∀ x∈xs,dF T x∧∀ B,(∀ i,i<n→bd i≤B)→dE B T x:=by
 induction n with
 | zero=>exact ⟨[],[],rfl,rfl,fun j u h=>by simp at h,fun x h=>by cases h⟩
 | succ n ih =>
  obtain ⟨xs,l,h1,h2,h3,h4⟩:=ih (fun i hi=>hat i (by omega))
  obtain ⟨cs,hc,x,hx,hxr,hxs⟩:=hat n (by omega)
  obtain ⟨_,hl,hcell⟩:=World.cells?_some hc
  have hll:l.length=n * T.size:=by rw [bB (fun x cs h=>Ty.holds_length T x cs h) xs l h2,h1]
  refine ⟨xs++[x],l++cs,by simp [h1],bS _ _ _ _ h2 ⟨cs,[],by simp,hx,rfl⟩,fun j u hj=>?_,fun y hy=>?_⟩
  rotate_left
  ·rcases List.mem_append.1 hy with hy | hy
   ·exact ⟨(h4 y hy).1,fun B hB=>(h4 y hy).2 B (fun i hi=>hB i (by omega))⟩
   ·rw [List.mem_singleton.1 hy]; exact ⟨hxr,fun B hB=>hxs B (hB n (by omega))⟩
  rcases Nat.lt_or_ge j l.length with hjl | hjl
  ·rw [List.getElem?_append_left hjl] at hj
   exact h3 j u hj
  ·rw [List.getElem?_append_right hjl] at hj
   have hjc:j - l.length<T.size:=by
    rcases Nat.lt_or_ge (j - l.length) cs.length with h | h
    ·omega
    ·rw [List.getElem?_eq_none h] at hj; cases hj
   have:=hcell (j - l.length) hjc
   rw [hj,Go.Deep.add_add] at this
   rw [← this]
   congr 2
   omega
theorem wb (n:Nat):vJ enc P w (rH P n):=by
 induction n with
 | zero=>intro T t fuel cs d ps h; cases h
 | succ n ih =>
  intro T t fuel cs d ps h ht hw
  unfold rH at h
  split at h
  ·rename_i k k' hu
   split at h
   ·rename_i hk
    subst hk
    obtain ⟨m,rfl,_,hwf⟩:=DataW.trod_int hu ht
    exact ⟨m,⟨rfl,vK hwf⟩,trivial,fun _ _=>trivial⟩
   ·cases h
  ·rename_i hu
   obtain ⟨b,rfl,_⟩:=DataW.trod_bool hu ht
   exact ⟨b,rfl,trivial,fun _ _=>trivial⟩
  ·rename_i hu
   obtain ⟨s,rfl,hx,_⟩:=DataW.trod_string hu ht
   injection hx with hx _
   subst hx
   have:=hw s.data.toList.length (by simp [DataW.weights])
   have e:reachBytes=140737488351232:=rfl
   refine ⟨s.data.toList,⟨rfl,?_⟩,?_,fun B hB=>?_⟩
   ·unfold aL
    omega
   ·show s.data.toList.length≤140737488351232
    omega
   ·simp only [Rows.uptoBulk] at hB
    show s.data.toList.length≤B
    omega
  ·rename_i e T hu
   simp only [Bool.and_eq_true] at h
   obtain ⟨⟨h1,h2⟩,h3⟩:=h
   have h1:=Nat.eq_of_beq_eq_true h1
   have h2:=Nat.le_of_ble_eq_true h2
   rcases open_slice hu ht with ⟨rfl,_⟩ | ⟨a,len,cap,m,n',D,Pl,rfl,_,hl,hm,hmm,hx,hi⟩
   ·exact ⟨[],⟨none,0,[],rfl,by simp,by simp,rfl,fun h=>absurd rfl h⟩,⟨by show 0 * _≤_; simp,fun x h=>by cases h⟩,fun B _=>⟨Nat.zero_le B,fun x h=>by cases h⟩⟩
   ·simp only [if_true] at hmm
    injection hx with hx _
    subst hx
    have hsz:(len+(m - len)) * P.bytesOf e≤reachBytes:=hw _ (by simp [DataW.weights,hu])
    have hweach:∀ (l:List (DataW H)) (d:DataW H),d∈l→∀ q∈d.weights P e,q∈DataW.weightsAll P e l:=by
     intro l
     induction l with
     | nil=>intro d hd; cases hd
     | cons y l ih2 =>
      intro d hd q hq
      simp only [DataW.weightsAll,List.mem_append]
      rcases List.mem_cons.1 hd with rfl | hd
      ·exact .inl hq
      ·exact .inr (ih2 d hd q hq)
    obtain ⟨xs,l,k1,k2,k3,k4⟩:=ub (w:=w) (T:=T) (a:=a) (n:=len) (bd:=fun i=>Rows.uptoBulk (D i)) (fun i hil=>by
     obtain ⟨cs',hc,ht'⟩:=hi i (by omega)
     rw [h1] at hc
     refine ⟨cs',hc,ih T e n' cs' (D i) (Pl i) h3 ht' (fun q hq=>hw q ?_)⟩
     simp only [DataW.weights,hu,List.mem_cons,List.mem_append]
     exact .inr (.inl (hweach _ (D i) (by simp only [List.mem_map,List.mem_range]; exact ⟨i,hil,rfl⟩) q hq)))
    refine ⟨xs,⟨some a,cap,l,by rw [k1],by omega,?_,k2,fun hne=>?_⟩,⟨?_,fun x hx=>(k4 x hx).1⟩,fun B hB=>⟨?_,fun x hx=>(k4 x hx).2 B (fun i hi=>?_)⟩⟩
    rotate_left 3
    ·have hB2:=hB
     simp only [Rows.uptoBulk] at hB2
     refine Nat.le_trans ?_ (Nat.le_trans (qQ _) (Nat.le_trans (Nat.le_trans (Nat.le_add_right _ _) (Nat.le_add_right _ _)) hB2))
     show xs.length≤_
     rw [k1]
     simp
    ·have hB2:=hB
     simp only [Rows.uptoBulk] at hB2
     refine Nat.le_trans (ob ?_) (Nat.le_trans (Nat.le_trans (Nat.le_add_right _ _) (Nat.le_add_right _ _)) hB2)
     simp only [List.mem_map,List.mem_range]
     exact ⟨i,hi,rfl⟩
    rotate_left 2
    ·have h5:len * T.bytes≤(len+(m - len)) * P.bytesOf e:=Nat.mul_le_mul (by omega) h2
     have e:reachBytes=140737488351232:=rfl
     show xs.length * _≤_
     rw [k1]
     omega
    ·have h5:len * T.bytes≤(len+(m - len)) * P.bytesOf e:=Nat.mul_le_mul (by omega) h2
     have e:reachBytes=140737488351232:=rfl
     rw [k1]
     unfold aL
     omega
    ·have hpos:=Ty.size_pos T
     have hlp:0<l.length:=by
      rw [bB (fun x cs h=>Ty.holds_length T x cs h) xs l k2]
      have:0<xs.length:=List.length_pos_iff.2 hne
      exact Nat.mul_pos this hpos
     have hsp:a.spot=none:=(oa (k3 0 _ (List.getElem?_eq_getElem hlp))).1
     refine ⟨a.block,a.off,by cases a; simp_all,fun j u hj=>by
      have h9:=(oa (k3 j u hj)).2
      by_cases hj0:j=0 <;> simp only [Addr.add,hj0,if_true,if_false,Nat.add_zero] at h9 ⊢ <;> exact h9⟩
  ·rename_i fs A B hu
   simp only [Bool.and_eq_true] at h
   obtain ⟨h1,h2⟩:=h
   have h1:=Nat.eq_of_beq_eq_true h1
   obtain ⟨xs,n',_,hx,hlen,hxl,hat⟩:=DataW.trod_struct hu ht
   injection hx with hx _
   subst hx
   have:=sj ih (all:=fs.toList) (cs:=cs) (xs:=xs) (n:=n') (fun i f hf=>hat i f (by simpa using hf)) (by simp [hxl]) (fun m hm=>hw m (by simpa [DataW.weights,hu] using hm)) fs.toList (.pair A B) 0 0 h2 (fun i=>by simp) (by omega)
   obtain ⟨x,h5,h6,h7⟩:=this
   refine ⟨x,by simpa using h5,h6,fun C hC=>h7 C fun y hy=>Nat.le_trans (ob (List.mem_map.2 ⟨y,hy,rfl⟩)) ?_⟩
   simp only [Rows.uptoBulk] at hC
   exact Nat.le_trans (Nat.le_succ _) hC
  ·cases h
def jb (P:Program):List Ty→List TypeId→Bool
 | [],[]=>true
 | T::Ts,t::ts=>rH P 9 T t&&jb P Ts ts
 | _,_=>false
theorem ua {base:Nat} {n:Nat} {T:Ty} {t:TypeId} {v:Value} {x:T.den} (hf:rH P n T t=true) (hv:Value.okWide P w .any base t v) (hx:T.holds (full w) x v.cells.toList):T.vholds (full w) x v:=by
 cases n with
 | zero=>cases hf
 | succ n =>
  unfold rH at hf
  split at hf
  ·rename_i k k' hu
   have:v.cells=#[v]:=by
    cases v <;> first | rfl | simp [Value.okWide,hu,Cell.okWide,Cell.ok] at hv
   rw [this] at hx
   exact hx
  ·rename_i hu
   have:v.cells=#[v]:=by
    cases v <;> first | rfl | simp [Value.okWide,hu,Cell.okWide,Cell.ok] at hv
   rw [this] at hx
   exact hx
  ·rename_i hu
   have:v.cells=#[v]:=by
    cases v <;> first | rfl | simp [Value.okWide,hu,Cell.okWide,Cell.ok] at hv
   rw [this] at hx
   exact hx
  ·rename_i e T hu
   have:v.cells=#[v]:=by
    cases v <;> first | rfl | simp [Value.okWide,hu,Cell.okWide,Cell.ok] at hv
   rw [this] at hx
   exact hx
  ·rename_i fs A B hu
   obtain ⟨cs,rfl,_⟩:=okWide_struct hu hv
   exact ⟨cs,rfl,hx⟩
  ·cases hf
theorem nQ {base:Nat}:∀ (Ts:List Ty) (ts:List TypeId) (vs:List Value) (ds:List (DataW H)) (p:List MemPlace),jb P Ts ts=true→DataW.TrodAll enc P w 0 (fun _=>true) true ts vs ds p →
  (∀ (j:Nat) t v,ts[j]?=some t→vs[j]?=some v→Value.okWide P w .any base t v)→(∀ m∈DataW.weightsEach P ts ds,m≤reachBytes)→∃ x:dC Ts,bK (full w) Ts x vs∧gl Ts x∧∀ B,Rows.uptoBulkAll ds≤B→jr B Ts x
 | [],[],vs,ds,p,_,hA,_,_=>by
  cases vs with
  | nil=>exact ⟨(),rfl,trivial,fun _ _=>trivial⟩
  | cons v vs=>cases ds <;> exact hA.elim
 | [],t::ts,_,_,_,h,_,_,_=>by cases h
 | T::Ts,[],_,_,_,h,_,_,_=>by cases h
 | T::Ts,t::ts,[],ds,p,h,hA,hv,hw=>by cases ds <;> exact hA.elim
 | T::Ts,t::ts,v::vs,[],p,h,hA,hv,hw=>hA.elim
 | T::Ts,t::ts,v::vs,d::ds,p,h,hA,hv,hw=>by
  simp only [jb,Bool.and_eq_true] at h
  obtain ⟨p1,p2,⟨fuel,h1⟩,h2,_⟩:=hA
  obtain ⟨x,hx,hxr,hxs⟩:=wb 9 T t fuel _ d p1 h.1 h1 (fun m hm=>hw m (by simp only [DataW.weightsEach,List.mem_append]; exact .inl hm))
  have hxv:=ua h.1 (hv 0 t v rfl rfl) hx
  obtain ⟨y,hy,hyr,hys⟩:=nQ Ts ts vs ds p2 h.2 h2 (fun j t v a b=>hv (j+1) t v (by simpa using a) (by simpa using b)) (fun m hm=>hw m (by simp only [DataW.weightsEach,List.mem_append]; exact .inr hm))
  cases Ts with
  | nil =>
   simp only [bK] at hy
   subst hy
   exact ⟨x,⟨v,rfl,hxv⟩,hxr,fun B hB=>hxs B (by simp only [Rows.uptoBulkAll] at hB; omega)⟩
  | cons U Ts=>exact ⟨(x,y),⟨v,vs,rfl,hxv,hy⟩,⟨hxr,hyr⟩,fun B hB=>⟨hxs B (by simp only [Rows.uptoBulkAll] at hB; omega),hys B (by simp only [Rows.uptoBulkAll] at hB; omega)⟩⟩
theorem gh:∀ {ts:List TypeId} {vs:List Value} {ds:List (DataW H)} {p:List MemPlace} {b:Nat} {sp:Nat→Bool} {hd:Bool},DataW.TrodAll enc P w b sp hd ts vs ds p→ds.length=ts.length
 | [],[],[],_,_,_,_,_=>rfl
 | [],[],_::_,_,_,_,_,h=>h.elim
 | [],_::_,[],_,_,_,_,h=>h.elim
 | [],_::_,_::_,_,_,_,_,h=>h.elim
 | _::_,[],[],_,_,_,_,h=>h.elim
 | _::_,[],_::_,_,_,_,_,h=>h.elim
 | _::_,_::_,[],_,_,_,_,h=>h.elim
 | _::ts,_::vs,_::ds,_,_,_,_,h=>by
  obtain ⟨p,q,_,h2,_⟩:=h
  simp [gh h2]
theorem nv (hl:laidOutB P=true) {W W':World} {sp:Nat→Bool}:∀ {ts:List TypeId} {vs:List Value} {ds:List (DataW H)} {p:List MemPlace},(ts.all fun t=>P.readableRec t&&Nat.blt t P.types.size)=true →
  DataW.TrodAll enc P W 0 (fun _=>true) true ts vs ds p→(∀ x∈p,W.sameAt W' x)→(∀ x∈p,sp x.block=true)→DataW.TrodAll enc P W' 0 sp true ts vs ds p
 | [],[],[],_,_,h,_,_=>h
 | [],[],_::_,_,_,h,_,_=>h.elim
 | [],_::_,[],_,_,h,_,_=>h.elim
 | [],_::_,_::_,_,_,h,_,_=>h.elim
 | _::_,[],[],_,_,h,_,_=>h.elim
 | _::_,[],_::_,_,_,h,_,_=>h.elim
 | _::_,_::_,[],_,_,h,_,_=>h.elim
 | t::ts,v::vs,d::ds,_,hr,h,hs,hsp=>by
  simp only [List.all_cons,Bool.and_eq_true] at hr
  obtain ⟨p,q,h1,h2,rfl⟩:=h
  refine ⟨p,q,WideElems.Trod_stays hl hr.1.1 (by simpa using hr.1.2) h1 (fun x hx=>hs x (by simp [hx])) (fun x hx=>hsp x (by simp [hx])),nv hl hr.2 h2 (fun x hx=>hs x (by simp [hx])) (fun x hx=>hsp x (by simp [hx])),rfl⟩
theorem mW {f:Func} {s:ChangeSpec} {apart fresh handsOn again:Bool} {W W':World} {args:Array Value} {v:Value} {ds gs:List (DataW H)} {before pa pv:List MemPlace}
  (hW:DataW.Whole enc P f.params.toList s.vars apart W args.toList ds gs before)
  (hres:∀ (b:Nat) (sp:Nat→Bool) (hd:Bool),DataW.TrodAll enc P W' b sp hd f.resultTypes.toList (v.resultList f.resultTypes.size) (s.fn H (ds++gs)).results [])
  (hargs:∀ sp:Nat→Bool,(∀ p∈before,sp p.block=true)→DataW.TrodAll enc P W' 0 sp true f.params.toList args.toList (s.fn H (ds++gs)).args pa)
  (hvars:∀ sp:Nat→Bool,(∀ p∈before,sp p.block=true)→DataW.TrodVars enc P W' sp s.vars (s.fn H (ds++gs)).vars pv)
  (hps:before=pa++pv) (hb:Below W.heap.size W W')
  (hok:∀ (j:Nat) (t:TypeId) (r:Value),f.resultTypes[j]?=some t→(v.resultList f.resultTypes.size)[j]?=some r→Value.okWide P W' .any 0 t r) :
  s.post enc P f apart fresh handsOn again W args v W':=by
 have hlt:∀ p∈before,p.block<W.heap.size:=fun p hp=>hW.lt p hp
 have hold:∀ p∈before,(fun b=>decide (b<W.heap.size)) p.block=true:=fun p hp=>by simpa using hlt p hp
 refine ⟨ds,gs,before,[],pa,pv,hW,hres _ _ _,hargs _ hold,hvars _ hold,World.keptBut_mono (fun p hp=>⟨hp,?_⟩) (hb.frame (·∈before)),fun _=>?_⟩
 ·rw [hps,List.mem_append] at hp
  exact Or.inr hp
 ·obtain ⟨_,_,_,_,_,hz,hn⟩:=hW
  refine ⟨hok,_,_,([]++pa)++pv,⟨[]++pa,pv,trodAll_append (hargs _ (fun _ _=>rfl)) (hres _ _ _),hvars _ (fun _ _=>rfl),rfl,?_,?_⟩,?_⟩
  ·intro b off hp
   have hin:MemPlace.cell b off∈before:=by rw [hps]; simpa using hp
   rw [hb.frozen (hlt _ hin)]
   exact hz b off hin
  ·intro ha
   have:=hn ha
   rw [hps] at this
   simpa using this
  ·intro p hp _
   rw [hps]
   simpa using hp
theorem m6 {Ts:List Ty} {pre:dC Ts→Prop} {f:FuncId} {fn:Func} {r:ChangeSpec} {apart fresh handsOn again:Bool} {tb:TypeId} (hok:Spec.ok { Ts:=Ts,Rs:=[.dat .bool],pre:=pre,F:=fun _=>(true:Bool) } P f)
  (hl:laidOutB P=true) (hfit:jb P Ts fn.params.toList=true) (hrec:(fn.params.toList.all fun t=>P.readableRec t&&Nat.blt t P.types.size)=true)
  (hres:fn.resultTypes=#[tb]) (htb:P.underlying tb=some .bool) (hvars:r.vars=[]) (hfn:∀ ds:List (DataW H),ds.length=fn.params.size→r.fn H ds={ results:=[.lit (.bool true)],args:=ds })
  {W:World} {base:Nat} {args:Array Value} {ds gs:List (DataW H)} {before:List MemPlace} (hval:∀ (j:Nat) t v,fn.params[j]?=some t→args[j]?=some v→Value.okWide P W .any base t v)
  (hW:DataW.Whole enc P fn.params.toList r.vars apart W args.toList ds gs before)
  (hwt:(DataW.weightsEach P (fn.params.toList++r.plain.varTypes P) (ds++gs)).all (·≤reachBytes)=true) (hLd:Laid W) (hpre:∀ x,gl Ts x→(∀ B,Rows.uptoBulkAll (ds++gs)≤B→jr B Ts x)→pre x) :
  Calls P f args W fun e W'=>∃ v,e=.returned v∧r.post enc P fn apart fresh handsOn again W args v W':=by
 have hW':=hW
 obtain ⟨p,q,hA,hV,rfl,hfz,hnd⟩:=hW
 rw [hvars] at hV
 obtain ⟨rfl,rfl⟩:=trodVars_none hV
 have hwt':∀ m∈DataW.weightsEach P fn.params.toList ds,m≤reachBytes:=by
  have e:r.plain.varTypes P=[]:=by simp [ChangeSpec.plain,DataSpec.varTypes,hvars]
  rw [e,List.append_nil,List.append_nil] at hwt
  intro m hm
  simpa using List.all_eq_true.1 hwt m hm
 obtain ⟨x,hx,hxr,hxs⟩:=nQ Ts fn.params.toList args.toList ds p hfit hA (fun j t v a b=>hval j t v (by simpa using a) (by simpa using b)) hwt'
 have hcall:=hok (full W) W args.toList x hLd (gz W) hx (hpre x hxr (by simpa using hxs))
 simp only [Array.toArray_toList] at hcall
 refine hcall.mono fun e W' ⟨rs,qq,he,hk,_,_,hr⟩=>?_
 subst he
 have hb:Below W.heap.size W W':=⟨hk.os,hk.tape,hk.output,hk.size,fun i hi=>hk.block i hi (fun h=>h)⟩
 obtain ⟨v,rfl,hv,_⟩:=hr
 have hv:v=.bool true:=by
  have h2:[v]=[.bool true]:=hv
  exact (List.cons.inj h2).1
 subst hv
 have hd:=gh hA
 have e1:r.fn H (ds++[])={ results:=[.lit (.bool true)],args:=ds }:=by
  rw [List.append_nil]; exact hfn ds (by simpa using hd)
 refine ⟨_,rfl,mW (pa:=p) (pv:=[]) hW' (fun b sp hd=>?_) (fun sp hsp=>?_) (fun sp _=>?_) rfl hb (fun j t v hj hv=>?_)⟩
 ·rw [e1,hres]
  exact trodAll_mk1 ⟨1,by simp [bI,DataW.trod,htb,Value.cells]⟩
 ·rw [e1]
  exact nv hl hrec hA (fun y hy=>hb.same (hW'.lt y (by simpa using hy))) (fun y hy=>hsp y (by simpa using hy))
 ·rw [e1,hvars]
  rfl
 ·rw [hres] at hj hv
  have:j=0:=by
   rcases j with _ | j
   ·rfl
   ·simp at hj
  subst this
  simp at hj
  subst hj
  have:v=.bool true:=by simpa [Value.resultList,bI] using hv.symm
  subst this
  simp [Value.okWide,htb,Cell.okWide,Cell.ok]
theorem o5 {Ts:List Ty} {f:FuncId} {fn:Func} {r:ChangeSpec} {apart fresh handsOn again:Bool} {tb:TypeId} (hok:(tT Ts).ok P f)
  (hl:laidOutB P=true) (hfit:jb P Ts fn.params.toList=true) (hrec:(fn.params.toList.all fun t=>P.readableRec t&&Nat.blt t P.types.size)=true)
  (hres:fn.resultTypes=#[tb]) (htb:P.underlying tb=some .bool) (hvars:r.vars=[]) (hfn:∀ ds:List (DataW H),ds.length=fn.params.size→r.fn H ds={ results:=[.lit (.bool true)],args:=ds })
  {W:World} {base:Nat} {args:Array Value} {ds gs:List (DataW H)} {before:List MemPlace} (hval:∀ (j:Nat) t v,fn.params[j]?=some t→args[j]?=some v→Value.okWide P W .any base t v)
  (hW:DataW.Whole enc P fn.params.toList r.vars apart W args.toList ds gs before)
  (hwt:(DataW.weightsEach P (fn.params.toList++r.plain.varTypes P) (ds++gs)).all (·≤reachBytes)=true) (hLd:Laid W) :
  Calls P f args W fun e W'=>∃ v,e=.returned v∧r.post enc P fn apart fresh handsOn again W args v W' :=
 m6 (pre:=gl Ts) hok hl hfit hrec hres htb hvars hfn hval hW hwt hLd fun _ h _=>h
end
end Go.Proofs.Ytcnoiiohmpgckaa
