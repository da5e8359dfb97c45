
import Derived.Test.YtcnoiiohmpgckaaReaches
import Derived.Test.YtcnoiiohmpgckaaSpotPure
namespace Go.Proofs.Ytcnoiiohmpgckaa
open Go
structure MkS where
 on:List Int
 st:List Int
 ov:Bool
 ps:Int
 dp:Int
def ap (a on:List Int):List Int:=(ab (aa a).1).filter (bA on)
def gt (a on:List Int) (x:Int):List Int:=(ab (aa a).1).filter fun y=>bA on y||decide (y=x)
def aA (a:List Int) (k:Int) (s:MkS) (x:Int):MkS :=
 if bA s.on x=true then s else if k≤(s.st.length:Int) then { s with on:=gt a s.on x,ov:=true } else { s with on:=gt a s.on x,st:=s.st++[x],dp:=max s.dp (s.st.length+1) }
def bD (l:List Int):List Int:=(l.filter fun v=>decide (v≠0)).map (· - 1)
theorem sZ (l:List Int) (v:Int):bD (l++[v])=bD l++(if v=0 then [] else [v - 1]):=by
 unfold bD
 rw [List.filter_append,List.map_append]
 by_cases h:v=0 <;> simp [h]
def kY (a:List Int) (k:Int) (s:MkS) (x:Int):MkS:=(bD (dg a x)).foldl (aA a k) s
def pS (a:List Int) (k:Int) (s:MkS):MkS:=kY a k { s with st:=s.st.dropLast } (s.st.getD (s.st.length - 1) 0)
def ed (a:List Int) (k:Int):Nat→MkS→MkS
 | 0,s=>s
 | n+1,s=>if s.st.length=0 then s else ed a k n (pS a k s)
def dV (a:List Int) (k:Int) (s:MkS):MkS:=ed a k 1000 s
def br (a:List Int) (k:Int) (s:MkS) (x:Int):MkS:=if bA s.on x=true then dV a k (kY a k s x) else s
def er (a:List Int) (k:Int) (s:MkS):MkS:=(ab (aa a).1).foldl (br a k) { s with ov:=false,ps:=s.ps+1 }
def gC (a:List Int) (k:Int):Nat→MkS→MkS
 | 0,s=>s
 | n+1,s=>if s.ov=false then s else gC a k n (er a k s)
def newS:MkS:=⟨[],[],false,0,0⟩
def na (a f:List Int) (k:Int):MkS:=dV a k (f.foldl (aA a k) newS)
def aP (a f:List Int) (k:Int):MkS:=gC a k 300 (na a f k)
def aL (a on:List Int) (k:Int):Bool:=on.any fun x=>decide (x≤k∧k<x+af (ft a x))
def bF (a on:List Int):List Int:=jg a.length (aL a on) 0
def cB (a on:List Int):Nat:=((ab (aa a).1).filter (bA on)).length
theorem sf (a on:List Int):cB a on≤256:=by
 have h1:=List.length_filter_le (bA on) (ab (aa a).1)
 have h2:=a7 (aa a).1
 have h3:=a6 a
 unfold cB
 omega
theorem eh {a:List Int} {x:Int}:x∈ab (aa a).1 ↔ isB (aa a).1 x=true:=by
 rw [← bk,cX]
theorem wj (l:List Int) (x y:Int):bA (l++[x]) y=(bA l y||decide (y=x)):=by
 unfold bA
 rw [List.any_append]
 simp [eq_comm]
theorem mD {a:List Int} {p:Int→Bool} {y:Int} (hy:isB (aa a).1 y=true):bA ((ab (aa a).1).filter p) y=p y:=by
 rw [Bool.eq_iff_iff,bk,List.mem_filter]
 exact ⟨fun h=>h.2,fun h=>⟨eh.2 hy,h⟩⟩
theorem jp {a on:List Int} {y:Int} (hy:isB (aa a).1 y=true):bA (ap a on) y=bA on y:=mD hy
theorem qa {a on:List Int} {x y:Int} (hy:isB (aa a).1 y=true):bA (gt a on x) y=(bA on y||decide (y=x)):=mD hy
theorem ib {a on:List Int} (h:ap a on=on):∀ x∈on,isB (aa a).1 x=true:=fun x hx=>by
 rw [← h] at hx
 exact eh.1 (List.mem_filter.1 hx).1
theorem xw (a on:List Int) (x:Int):ap a (gt a on x)=gt a on x:=List.filter_congr fun _ hy=>qa (eh.1 hy)
theorem se (a on:List Int) (x:Int):ap a (on++[x])=gt a (ap a on) x:=List.filter_congr fun y hy=>by rw [wj,jp (eh.1 hy)]
theorem xy {a on:List Int} (h:ap a on=on) {x y:Int} (hx:isB (aa a).1 x=true):y∈gt a on x ↔ y∈on∨y=x:=by
 unfold gt
 rw [List.mem_filter,Bool.or_eq_true,bk,decide_eq_true_eq]
 constructor
 ·exact fun h=>h.2
 ·rintro (h2 | rfl)
  ·exact ⟨eh.2 (ib h y h2),.inl h2⟩
  ·exact ⟨eh.2 hx,.inr rfl⟩
theorem yl {a l:List Int} {x:Int} (hx:isB (aa a).1 x=true) (hn:¬ bA l x=true):cB a l<cB a (gt a l x) :=
 fA _ (fun y hm hy=>by rw [qa (eh.1 hm),hy]; rfl) ⟨x,eh.2 hx,by simpa using hn,by rw [qa hx]; simp⟩
structure MkW (a:List Int) (k:Int) (s:MkS):Prop where
 on:ap a s.on=s.on
 st:∀ x∈s.st,isB (aa a).1 x=true
 len:(s.st.length:Int)≤k
 dp:0≤s.dp∧s.dp≤k
 ps:0≤s.ps∧s.ps≤cB a s.on
def sv (a:List Int) (s:MkS):Nat:=2 * (256 - cB a s.on)+s.st.length
structure MkLe (a:List Int) (k:Int) (s t:MkS):Prop where
 w:MkW a k t
 mu:sv a t≤sv a s
 on:cB a s.on≤cB a t.on
 ov:t.ov=true→s.ov=true∨cB a s.on<cB a t.on
 ps:t.ps=s.ps
theorem MkLe.refl {a:List Int} {k:Int} {s:MkS} (h:MkW a k s):MkLe a k s s:=⟨h,Nat.le_refl _,Nat.le_refl _,fun h=>.inl h,rfl⟩
theorem MkLe.trans {a:List Int} {k:Int} {s t u:MkS} (h:MkLe a k s t) (g:MkLe a k t u):MkLe a k s u :=
 ⟨g.w,Nat.le_trans g.mu h.mu,Nat.le_trans h.on g.on,fun hu=>by
  rcases g.ov hu with h1 | h1
  ·rcases h.ov h1 with h2 | h2
   ·exact .inl h2
   ·exact .inr (Nat.lt_of_lt_of_le h2 g.on)
  ·exact .inr (Nat.lt_of_le_of_lt h.on h1),g.ps.trans h.ps⟩
theorem xj {a:List Int} {k:Int} (_:1≤k) {s:MkS} (hs:MkW a k s) {x:Int} (hx:isB (aa a).1 x=true):MkLe a k s (aA a k s x):=by
 unfold aA
 split
 ·exact .refl hs
 rename_i hn
 have hlt:=yl hx hn
 have hle:=sf a (gt a s.on x)
 have hon:=xw a s.on x
 have hp:=hs.ps
 have hd:=hs.dp
 have hl:=hs.len
 split
 ·exact ⟨⟨hon,hs.st,hs.len,hs.dp,by simp only; omega⟩,by simp only [sv]; omega,by simp only; omega,fun _=>.inr hlt,rfl⟩
 ·refine ⟨⟨hon,fun y hy=>?_,by simp only [List.length_append,List.length_singleton]; omega,by simp only; omega,by simp only; omega⟩,by simp only [sv,List.length_append,List.length_singleton]; omega,by simp only; omega,fun h=>.inl h,rfl⟩
  rcases List.mem_append.1 hy with hy | hy
  ·exact hs.st y hy
  ·rw [List.mem_singleton.1 hy]; exact hx
theorem dN {a:List Int} {k:Int} (h1:1≤k):∀ (l:List Int) {s:MkS},MkW a k s→(∀ x∈l,isB (aa a).1 x=true)→MkLe a k s (l.foldl (aA a k) s)
 | [],_,hs,_=>.refl hs
 | x::l,s,hs,h=>by
  have g:=xj h1 hs (h x (by simp))
  exact g.trans (dN h1 l g.w fun y hy=>h y (by simp [hy]))
theorem jZ {a:List Int} (hw:∀ x∈a,aj .u64 x) (hc:(ao a).2.2=0) {x:Int} (hx:isB (aa a).1 x=true):∀ y∈bD (dg a x),isB (aa a).1 y=true :=
 fun _ hy=>hI hw hc hx hy
theorem jC {a:List Int} (hw:∀ x∈a,aj .u64 x) (hc:(ao a).2.2=0) {k:Int} (h1:1≤k) {s:MkS} (hs:MkW a k s) {x:Int} (hx:isB (aa a).1 x=true):MkLe a k s (kY a k s x) :=
 dN h1 _ hs (jZ hw hc hx)
theorem mz {l:List Int} (h:¬ l.length=0):l.getD (l.length - 1) 0∈l:=by
 have h2:l.length - 1<l.length:=by omega
 simp [h2]
theorem p3 {l:List Int} {x:Int} (h:x∈l.dropLast):x∈l:=List.dropLast_subset l h
theorem tI {a:List Int} {k:Int} {s:MkS} (hs:MkW a k s):MkW a k { s with st:=s.st.dropLast }:=by
 have h:=hs.len
 exact ⟨hs.on,fun y hy=>hs.st y (p3 hy),by simp only [List.length_dropLast]; omega,hs.dp,hs.ps⟩
theorem jX {a:List Int} (hw:∀ x∈a,aj .u64 x) (hc:(ao a).2.2=0) {k:Int} (h1:1≤k) {s:MkS} (hs:MkW a k s) (hn:¬ s.st.length=0):MkLe a k s (pS a k s)∧sv a (pS a k s)<sv a s:=by
 have g:=jC hw hc h1 (tI hs) (hs.st _ (mz hn))
 have hm:sv a { s with st:=s.st.dropLast }<sv a s:=by
  simp only [sv,List.length_dropLast]
  omega
 exact ⟨⟨g.w,Nat.le_trans g.mu (Nat.le_of_lt hm),g.on,g.ov,g.ps⟩,Nat.lt_of_le_of_lt g.mu hm⟩
theorem sb {a:List Int} (hw:∀ x∈a,aj .u64 x) (hc:(ao a).2.2=0) {k:Int} (h1:1≤k):∀ (n:Nat) {s:MkS},MkW a k s→MkLe a k s (ed a k n s)∧(sv a s≤n→(ed a k n s).st.length=0)
 | 0,s,hs=>⟨.refl hs,fun h=>by simp only [sv] at h; simp only [ed]; omega⟩
 | n+1,s,hs=>by
  unfold ed
  split
  ·rename_i h
   exact ⟨.refl hs,fun _=>h⟩
  ·rename_i h
   obtain ⟨g1,g2⟩:=jX hw hc h1 hs h
   obtain ⟨k1,k2⟩:=sb hw hc h1 n g1.w
   exact ⟨g1.trans k1,fun h=>k2 (by omega)⟩
theorem mW {a:List Int} (hw:∀ x∈a,aj .u64 x) (hc:(ao a).2.2=0) {k:Int} (h1:1≤k):∀ (n:Nat) {s:MkS},MkW a k s→sv a s≤n→∀ m,ed a k (n+m) s=ed a k n s
 | 0,s,hs,h,m=>by
  have h0:s.st.length=0:=by simp only [sv] at h; omega
  cases m with
  | zero=>rfl
  | succ m=>simp only [ed]; rw [if_pos h0]
 | n+1,s,hs,h,m=>by
  rw [show n+1+m=(n+m)+1 by omega]
  simp only [ed]
  split
  ·rfl
  ·rename_i h0
   obtain ⟨g1,g2⟩:=jX hw hc h1 hs h0
   exact mW hw hc h1 n g1.w (by omega) m
theorem xE {a:List Int} {k:Int} (hk:k≤256) {s:MkS} (hs:MkW a k s):sv a s≤768:=by
 have:=hs.len
 simp only [sv]
 omega
theorem wL {a:List Int} (hw:∀ x∈a,aj .u64 x) (hc:(ao a).2.2=0) {k:Int} (h1:1≤k) (h2:k≤256) {s:MkS} (hs:MkW a k s):MkLe a k s (dV a k s)∧(dV a k s).st.length=0:=by
 obtain ⟨g1,g2⟩:=sb hw hc h1 1000 hs
 have:=xE h2 hs
 exact ⟨g1,g2 (by omega)⟩
theorem wM {a:List Int} {k:Int} {s:MkS} (h:s.st.length=0):dV a k s=s:=by
 unfold dV
 rw [show (1000:Nat)=999+1 from rfl,ed,if_pos h]
theorem wK {a:List Int} (hw:∀ x∈a,aj .u64 x) (hc:(ao a).2.2=0) {k:Int} (h1:1≤k) (h2:k≤256) {s:MkS} (hs:MkW a k s) (hn:¬ s.st.length=0):dV a k (pS a k s)=dV a k s:=by
 obtain ⟨g1,g2⟩:=jX hw hc h1 hs hn
 have e:dV a k s=ed a k 999 (pS a k s):=by
  unfold dV
  rw [show (1000:Nat)=999+1 from rfl,ed,if_neg hn]
 rw [e]
 unfold dV
 have:=xE h2 hs
 exact mW hw hc h1 999 g1.w (by omega) 1
theorem tY {a:List Int} (hw:∀ x∈a,aj .u64 x) (hc:(ao a).2.2=0) {k:Int} (h1:1≤k) (h2:k≤256) {s:MkS} (hs:MkW a k s) {x:Int} (hx:isB (aa a).1 x=true):MkLe a k s (br a k s x):=by
 unfold br
 split
 ·have g:=jC hw hc h1 hs hx
  exact g.trans (wL hw hc h1 h2 g.w).1
 ·exact .refl hs
theorem w8 {a:List Int} (hw:∀ x∈a,aj .u64 x) (hc:(ao a).2.2=0) {k:Int} (h1:1≤k) (h2:k≤256) {s:MkS} (hs:MkW a k s) (h0:s.st.length=0) {x:Int} (hx:isB (aa a).1 x=true):(br a k s x).st.length=0:=by
 unfold br
 split
 ·exact (wL hw hc h1 h2 (jC hw hc h1 hs hx).w).2
 ·exact h0
theorem iS {a:List Int} (hw:∀ x∈a,aj .u64 x) (hc:(ao a).2.2=0) {k:Int} (h1:1≤k) (h2:k≤256):∀ (l:List Int) {s:MkS},MkW a k s→(∀ x∈l,isB (aa a).1 x=true)→MkLe a k s (l.foldl (br a k) s)
 | [],_,hs,_=>.refl hs
 | x::l,s,hs,h=>by
  have g:=tY hw hc h1 h2 hs (h x (by simp))
  exact g.trans (iS hw hc h1 h2 l g.w fun y hy=>h y (by simp [hy]))
theorem qR {a:List Int} (hw:∀ x∈a,aj .u64 x) (hc:(ao a).2.2=0) {k:Int} (h1:1≤k) (h2:k≤256):∀ (l:List Int) {s:MkS},MkW a k s→(∀ x∈l,isB (aa a).1 x=true)→s.st.length=0→(l.foldl (br a k) s).st.length=0
 | [],_,_,_,h0=>h0
 | x::l,s,hs,h,h0=>by
  have g:=tY hw hc h1 h2 hs (h x (by simp))
  exact qR hw hc h1 h2 l g.w (fun y hy=>h y (by simp [hy])) (w8 hw hc h1 h2 hs h0 (h x (by simp)))
theorem fc {a:List Int}:∀ x∈ab (aa a).1,isB (aa a).1 x=true:=fun x hx=>by
 rw [← cX]
 exact bk.2 hx
structure MkB2 (a:List Int) (k:Int) (s:MkS):Prop where
 w:MkW a k s
 st:s.st.length=0
 ov:s.ov=true→s.ps+1≤cB a s.on
theorem sY {a:List Int} {k:Int} {s:MkS} (hs:MkB2 a k s) (ho:s.ov=true):MkW a k { s with ov:=false,ps:=s.ps+1 }:=by
 have h:=hs.ov ho
 have h2:=hs.w.ps
 exact ⟨hs.w.on,hs.w.st,hs.w.len,hs.w.dp,by simp only; omega⟩
theorem ub {a:List Int} (hw:∀ x∈a,aj .u64 x) (hc:(ao a).2.2=0) {k:Int} (h1:1≤k) (h2:k≤256) {s:MkS} (hs:MkB2 a k s) (ho:s.ov=true):MkB2 a k (er a k s)∧cB a s.on≤cB a (er a k s).on∧((er a k s).ov=true→cB a s.on<cB a (er a k s).on):=by
 have hw0:=sY hs ho
 have g:=iS hw hc h1 h2 (ab (aa a).1) hw0 fc
 have gs:=qR hw hc h1 h2 (ab (aa a).1) hw0 fc hs.st
 have hov:(er a k s).ov=true→cB a s.on<cB a (er a k s).on:=fun h=>by
  rcases g.ov h with h | h
  ·cases h
  ·exact h
 refine ⟨⟨g.w,gs,fun h=>?_⟩,g.on,hov⟩
 have e:(er a k s).ps=s.ps+1:=g.ps
 have:=hov h
 have:=hs.ov ho
 omega
theorem oQ {a:List Int} {k:Int} (h1:1≤k):MkW a k newS :=
 ⟨List.filter_eq_nil_iff.2 fun x _=>by simp [newS,bA],fun x hx=>(by cases hx),(by simp only [newS,List.length_nil]; omega),⟨Int.le_refl _,(by simp only [newS]; omega)⟩,⟨Int.le_refl _,(by simp only [newS]; omega)⟩⟩
theorem us {a f:List Int} (hw:∀ x∈a,aj .u64 x) (hc:(ao a).2.2=0) (hf:∀ x∈f,isB (aa a).1 x=true) {k:Int} (h1:1≤k) (h2:k≤256):MkB2 a k (na a f k):=by
 have g:=dN h1 f (oQ (a:=a) h1) hf
 obtain ⟨g2,g3⟩:=wL hw hc h1 h2 g.w
 have g4:=g.trans g2
 refine ⟨g2.w,g3,fun h=>?_⟩
 have e:(na a f k).ps=0:=g4.ps
 rcases g4.ov h with h | h
 ·cases h
 ·have:cB a newS.on<cB a (na a f k).on:=h
  omega
theorem rg {a:List Int} {k:Int} {s:MkS} (n:Nat) (ho:s.ov=true):gC a k (n+1) s=gC a k n (er a k s):=by
 rw [gC,if_neg (by rw [ho]; simp)]
theorem tZ {a:List Int} {k:Int} {s:MkS} (n:Nat) (ho:s.ov=false):gC a k n s=s:=by
 cases n with
 | zero=>rfl
 | succ n=>rw [gC,if_pos ho]
theorem kw:∀ {l:List aJ} {s e:Int},sr s e l→∀ x∈l,s≤x.1∧∀ y∈l,x=y∨x.1+af x.2≤y.1∨y.1+af y.2≤x.1
 | [],_,_,_=>fun _ h=>by cases h
 | z::l,s,e,h=>by
  obtain ⟨h1,h2,h3⟩:=h
  have ih:=kw h3
  intro x hx
  rcases List.mem_cons.1 hx with rfl | hx
  ·refine ⟨by omega,fun y hy=>?_⟩
   rcases List.mem_cons.1 hy with rfl | hy
   ·exact .inl rfl
   ·have:=(ih y hy).1
    exact .inr (.inl (by omega))
  ·have h4:=(ih x hx).1
   refine ⟨by omega,fun y hy=>?_⟩
   rcases List.mem_cons.1 hy with rfl | hy
   ·exact .inr (.inr (by omega))
   ·exact (ih x hx).2 y hy
theorem td {a:List Int} (hc:(ao a).2.2=0) {x y:Int} (hx:isB (aa a).1 x=true) (hy:isB (aa a).1 y=true):x=y∨x+af (ft a x)≤y∨y+af (ft a y)≤x:=by
 obtain ⟨_,_,_,hz,_,_,_⟩:=cM hc
 rcases (kw (px hz) _ (ef hx).1).2 _ (ef hy).1 with h | h | h
 ·exact .inl (congrArg Prod.fst h)
 ·exact .inr (.inl h)
 ·exact .inr (.inr h)
theorem vg {a:List Int} (hc:(ao a).2.2=0) {on:List Int} (ho:∀ x∈on,isB (aa a).1 x=true) {x:Int} (hx:isB (aa a).1 x=true):aL a on x=bA on x:=by
 unfold aL bA
 rw [Bool.eq_iff_iff]
 simp only [List.any_eq_true,decide_eq_true_eq]
 constructor
 ·rintro ⟨y,hy,h1,h2⟩
  refine ⟨y,hy,?_⟩
  obtain ⟨_,_,_,l4,l5,l6⟩:=bM hx
  have h0:1≤af (ft a x):=by unfold af; omega
  rcases td hc (ho y hy) hx with h | h | h
  ·exact h
  ·omega
  ·omega
 ·rintro ⟨y,hy,rfl⟩
  obtain ⟨_,_,_,l4,l5,l6⟩:=bM hx
  exact ⟨y,hy,Int.le_refl _,by unfold af; omega⟩
theorem nL (a on:List Int):(bF a on).length=(a.length+63) / 64:=d6 _ _ _
theorem uX {a:List Int} (hl:a.length≤256) (on:List Int):bq (bF a on) a.length=0 :=
 tj (pW _ _ _) (by omega) (by omega) (by rw [nL]; omega) fun k h1 _=>rF _ _ _ h1
theorem gL {a:List Int} (hl:a.length≤256) (on:List Int) {x n:Int} (h0:0≤x) (h1:0≤n) (h2:x+n≤a.length):de (bF a on) a.length x n=0:=by
 unfold de
 rw [uX hl,if_neg (by simp),if_neg (by omega)]
theorem iC {a:List Int} (hc:(ao a).2.2=0) {on:List Int} (ho:∀ x∈on,isB (aa a).1 x=true) {x:Int} (hx:isB (aa a).1 x=true):ev (bF a on) x=bA on x:=by
 obtain ⟨_,_,l3,l4,l5,l6⟩:=bM hx
 have:ev (bF a on) x=aL a on x:=pY _ _ _ l3 (by omega)
 rw [this,vg hc ho hx]
theorem tk {a:List Int} (hl:a.length≤256) {on:List Int} (ho:ap a on=on) {x:Int} (hx:isB (aa a).1 x=true):fJ (bF a on) x true (af (ft a x)).toNat=bF a (gt a on x):=by
 obtain ⟨_,_,l3,l4,l5,l6⟩:=bM hx
 have e:af (ft a x)=1+(ft a x).1+(ft a x).2.1:=rfl
 have h:=pu (pW a.length (aL a on) 0) (n:=a.length) (at_:=x) (long:=af (ft a x)) true (gL hl on l3 (by omega) (by omega)) (aL a (gt a on x)) (fun k k0 k1=>?_)
 ·rw [Int.toNat_natCast] at h
  exact h
 ·rw [pY _ _ _ k0 (by omega)]
  have hco:aL a (gt a on x) k=(aL a on k||decide (x≤k∧k<x+af (ft a x))):=by
   unfold aL
   rw [Bool.eq_iff_iff,Bool.or_eq_true]
   simp only [List.any_eq_true,xy ho hx]
   constructor
   ·rintro ⟨y,hy | rfl,h⟩
    ·exact .inl ⟨y,hy,h⟩
    ·exact .inr h
   ·rintro (⟨y,hy,h⟩ | h)
    ·exact ⟨y,.inl hy,h⟩
    ·exact ⟨x,.inr rfl,h⟩
  rw [hco]
  by_cases h:x≤k∧k<x+af (ft a x)
  ·rw [if_pos h,decide_eq_true h,Bool.or_true]
  ·rw [if_neg h,decide_eq_false h,Bool.or_false]
theorem tl (a:List Int):bF a []=List.replicate ((a.length+63) / 64) 0:=by
 unfold bF jg
 rw [List.eq_replicate_iff]
 refine ⟨by simp,fun x hx=>?_⟩
 obtain ⟨j,_,rfl⟩:=List.mem_map.1 hx
 have:nk a.length (aL a []) 0 j=0:=by
  apply Nat.eq_of_testBit_eq
  intro t
  unfold nk
  rw [fF]
  simp [aL]
 rw [this]
 rfl
def ie (a M:List Int):Nat:=((ab (aa a).1).filter (ev M)).length
theorem qw {a:List Int} (hc:(ao a).2.2=0) {on:List Int} (ho:∀ x∈on,isB (aa a).1 x=true):ie a (bF a on)=cB a on:=by
 unfold ie cB
 congr 1
 apply List.filter_congr
 intro x hx
 exact iC hc ho (fc x hx)
abbrev ym:=List Int×Int×Int
abbrev gY:=Unit×Int×List Int×Bool×List Int×Int×Int
abbrev x9:=List Int×Unit×List Int
def ck (a:List Int) (k:Int) (s:MkS):gY:=((),k,s.st,s.ov,bF a s.on,s.ps,s.dp)
def cd (a:List Int) (m:gY):MkS:=⟨(ab (aa a).1).filter (ev m.2.2.2.2.1),m.2.2.1,m.2.2.2.1,m.2.2.2.2.2.1,m.2.2.2.2.2.2⟩
theorem tV {a:List Int} (hc:(ao a).2.2=0) (k:Int) {s:MkS} (ho:ap a s.on=s.on):cd a (ck a k s)=s:=by
 have e:(ab (aa a).1).filter (ev (bF a s.on))=s.on:=by
  conv=>rhs; rw [← ho]
  exact List.filter_congr fun x hx=>iC hc (ib ho) (eh.1 hx)
 unfold cd ck
 rw [e]
def bn (a f:List Int) (k:Int):ym×Int :=
 if am a f≠0 then (([],0,0),am a f) else if k<1∨256<k then (([],0,0),1) else ((bF a (aP a f k).on,(aP a f k).ps,(aP a f k).dp),0)
end Go.Proofs.Ytcnoiiohmpgckaa
