
import Derived.Test.YtglchojglcobjaaGreatJoinPure
import Derived.Test.YtglchojglcobjaaGreatStores
namespace Go.Proofs.YtglchojglcobjaaGreat
open Go
def aV:aq:=([],[],[],[])
def cu (s:aq):List Int:=s.2.2.1.map (·.1)
def dW (s:aq):List Int:=aY s.1 (am s++cu s)
def kM (s:aq):List Int:=(dW s).map (ax (aa s.1).1)
def jG (s:aq) (x:Int):Int:=(an (dW s) (kM s) (cu s)).getD (bA (dW s) x).toNat 0
def cC (s:aq):List Int:=(jt s.1 (dW s) (cu s)).1
def eG (s:aq) (v:Int):Int:=if 0≤v then jG s v else v
def gw (s:aq) (h:cg):cg:=if h.2.1=true then (h.1,h.2.1,jG s h.2.2) else h
def aT (s:aq):aq:=(cC s,s.2.1.map (eG s),s.2.2.1,s.2.2.2.map (gw s))
def F7 (s:aq):Int:=dS (aL false [] (aa (cC s)).1)
def dJ (s:aq):aq×Int:=(aT s,F7 s)
structure Right (s:aq):Prop where
 w:∀ x∈s.1,ak .u64 x
 chk:(ao s.1).2.2=0
 root:ay s.2.1 s.1.length=0
 pin:bT s.2.2.1=0
 hand:aN s.2.2.2=0
 nam:∀ x∈bf s,isB (aa s.1).1 x=true
theorem ky {s:aq} (hw:∀ x∈s.1,ak .u64 x) (h:aO s=0):Right s:=by
 unfold aO at h
 split at h
 ·omega
 rename_i h0
 split at h
 ·omega
 rename_i h1
 split at h
 ·omega
 rename_i h2
 split at h
 ·omega
 rename_i h3
 exact ⟨hw,by omega,by omega,by omega,by omega,(dE h).2⟩
section
variable {s:aq}
theorem Right.pinsRise (h:Right s):(cu s).Pairwise (·<·):=List.pairwise_map.2 (nR h.pin).2.1
theorem Right.pinsIn (h:Right s):∀ x∈cu s,x∈bf s:=fun x hx=>List.mem_append_right _ hx
theorem Right.froms (h:Right s):∀ x∈am s++cu s,x∈bf s:=fun x hx=>by
 rcases List.mem_append.1 hx with hx | hx
 ·exact (fV h.root).1 hx
 ·exact h.pinsIn x hx
theorem Right.fault (h:Right s):aX s.1 (am s++cu s)=0:=jW h.chk fun x hx=>h.nam x (h.froms x hx)
theorem Right.keep (h:Right s):bv (cu s)=true:=gQ h.pinsRise
theorem Right.longs (h:Right s):ai s.1 (dW s) (cu s)=(kM s,0):=qA h.w h.fault h.keep
theorem Right.plan (h:Right s):Plan s.1 (dW s) (cu s) (kM s):=by
 have:=xp (a:=s.1) (keep:=dW s) (pinned:=cu s) (by rw [h.longs])
 rw [h.longs] at this
 exact this
theorem Right.good (h:Right s) (to:List Int):((dW s).all fun x=>bY (dW s) to (aU s.1 x))=true:=tj h.w h.fault to
theorem Right.clean (h:Right s):ar s.1 (am s) (cu s)=(cC s,(am s).map (jG s),0):=by
 unfold ar
 rw [if_neg (by rw [h.fault]; simp),if_neg (by rw [h.keep]; simp),(ld h.w h.fault h.keep).1]
 rfl
theorem Right.slid (h:Right s):cC s=js s.1 (dW s) (an (dW s) (kM s) (cu s)) (cu s) (kM s) (bI s.1.length (dW s) (kM s) (cu s)):=by
 have hg:=h.good (an (dW s) ((dW s).map (ax (aa s.1).1)) (cu s))
 unfold cC jt
 rw [if_pos hg]
 rfl
theorem Right.slidOK (h:Right s):(ao (cC s)).2.2=0∧(cC s).length=s.1.length∧(aa (cC s)).1=kq s.1 (dW s) (cu s) (kM s):=by
 rw [h.slid,BH h.plan (h.good _)]
 exact ⟨rfl,nj _ h.plan,by rw [rE _ h.plan]⟩
theorem Right.keepIn (h:Right s) {x:Int} (hx:x∈bf s):x∈dW s:=by
 obtain ⟨k1,k2⟩:=dE h.fault
 exact (fR h.w k1 k2).2 (.base (List.mem_append_left _ ((fV h.root).2 hx)))
theorem Right.toIn (h:Right s) {x:Int} (hx:x∈bf s):0≤jG s x∧jG s x<s.1.length:=by
 have hp:=nQ (h.keepIn hx)
 have hP:=h.plan
 have hi:(bA (dW s) x).toNat<(dW s).length:=by omega
 unfold jG
 rw [vC hi]
 have h1:=hP.le _ hi
 have h2:=(bR (cu s) hP.pre _ (Nat.le_of_lt hi)).1
 have h3:=hP.lg _ hi
 obtain ⟨_,_,_,_,l5,l6⟩:=cp (hP.isb _ (fx hi))
 omega
theorem Right.nameIn (h:Right s) {x:Int} (hx:x∈bf s):0≤x∧x<s.1.length:=by
 obtain ⟨_,_,l3,l4,l5,l6⟩:=cp (h.nam x hx)
 omega
theorem Right.al (h:Right s):s.1.length≤256:=(bO h.chk).1
theorem Right.reached (h:Right s):aY s.1 (a6 (bf s) 256)=dW s:=by
 have hr:=qn h.root h.pin h.hand
 have hm:∀ x,x∈a6 (bf s) 256 ↔ x∈bf s:=fun x=>by
  rw [gp]
  exact ⟨fun h=>h.2.2,fun hx=>⟨(hr x hx).1,by have:=(hr x hx).2; omega,hx⟩⟩
 obtain ⟨k1,k2⟩:=dE h.fault
 refine lw (iy _ _) (iy _ _) fun x=>?_
 rw [fR h.w h.chk (fun y hy=>h.nam y ((hm y).1 hy)),dW,fR h.w k1 k2]
 exact ⟨fun hx=>hx.mono fun y hy=>.base (List.mem_append_left _ ((fV h.root).2 ((hm y).1 hy))),fun hx=>hx.mono fun y hy=>.base ((hm y).2 (h.froms y hy))⟩
theorem Right.fromOK (h:Right s):aX s.1 (a6 (bf s) 256)=0:=jW h.chk fun x hx=>h.nam x (gp.1 hx).2.2
theorem Right.free (h:Right s):F7 s+((dW s).map (ax (aa s.1).1)).sum=s.1.length:=by
 obtain ⟨h1,h2,h3⟩:=h.slidOK
 have h4:=F6 (bO h1).2.2.2.1
 unfold F7
 rw [← h2,← DX (pinned:=cu s) (long:=kM s) h.plan.isb,← h3]
 exact h4
end
def bP (arr f:List Int) (g:Int→Int):List Int:=f.foldl (fun r x=>r.set x.toNat (g x)) arr
theorem iV (arr f:List Int) (x:Int) (g:Int→Int):bP arr (f++[x]) g=(bP arr f g).set x.toNat (g x):=by simp [bP]
theorem dL (g:Int→Int):∀ (f arr:List Int),(bP arr f g).length=arr.length
 | [],_=>rfl
 | x::f,arr=>by
  have:=dL g f (arr.set x.toNat (g x))
  simp only [bP,List.foldl_cons] at this ⊢
  rw [this,List.length_set]
theorem mD (g:Int→Int) {k:Int} (h0:0≤k):∀ (f arr:List Int),(∀ x∈f,0≤x)→k<arr.length→(bP arr f g).getD k.toNat 0=if k∈f then g k else arr.getD k.toNat 0
 | [],arr,_,_=>by simp [bP]
 | x::f,arr,hf,hk=>by
  have ih:=mD g h0 f (arr.set x.toNat (g x)) (fun y hy=>hf y (List.mem_cons_of_mem _ hy)) (by rw [List.length_set]; exact hk)
  have hx:=hf x List.mem_cons_self
  have e:bP arr (x::f) g=bP (arr.set x.toNat (g x)) f g:=rfl
  rw [e,ih]
  by_cases h1:k∈f
  ·rw [if_pos h1,if_pos (List.mem_cons_of_mem _ h1)]
  ·rw [if_neg h1]
   by_cases h2:x=k
   ·subst h2
    rw [if_pos List.mem_cons_self,List.getD_eq_getElem?_getD,List.getElem?_set,if_pos rfl,if_pos (by omega)]
    rfl
   ·rw [if_neg (by simp [h1,Ne.symm h2]),List.getD_eq_getElem?_getD,List.getElem?_set_ne (by omega),← List.getD_eq_getElem?_getD]
theorem mC (g:Int→Int) {v:Int}:∀ (f arr:List Int),v∈bP arr f g→v∈arr∨∃ x∈f,v=g x
 | [],_,h=>.inl h
 | x::f,arr,h=>by
  rcases mC g f _ h with h | ⟨y,hy,e⟩
  ·rcases List.mem_or_eq_of_mem_set h with h | h
   ·exact .inl h
   ·exact .inr ⟨x,List.mem_cons_self,h⟩
  ·exact .inr ⟨y,List.mem_cons_of_mem _ hy,e⟩
section
variable {s:aq}
theorem Right.swapRoots (h:Right s):bw s.2.1 s.1.length (bP (List.replicate s.1.length 0) (am s) (jG s))=(s.2.1.map (eG s),0):=by
 have hfm:=fun x=>(fV (s:=s) h.root (x:=x))
 unfold bw
 rw [if_neg (by rw [h.root]; simp),if_neg (by rw [dL,List.length_replicate]; simp),if_neg]
 ·refine congrArg (·,(0:Int)) (List.map_congr_left fun v hv=>?_)
  unfold lM eG
  by_cases h0:0≤v
  ·rw [if_pos h0,if_pos h0]
   have hn:v∈bf s:=List.mem_append_left _ (List.mem_append_left _ (List.mem_filter.2 ⟨hv,by simpa using h0⟩))
   rw [mD _ h0 _ _ (fun x hx=>(h.nameIn ((hfm x).1 hx)).1) (by rw [List.length_replicate]; exact (h.nameIn hn).2),if_pos ((hfm v).2 hn)]
  ·rw [if_neg h0,if_neg h0]
 ·intro hc
  obtain ⟨v,hv,hb⟩:=List.any_eq_true.1 hc
  rcases mC _ _ _ hv with hv | ⟨x,hx,rfl⟩
  ·have:=(List.mem_replicate.1 hv)
   have h2:=this.2
   have h1:=this.1
   subst h2
   unfold bW at hb
   simp only [Bool.not_eq_true',Bool.and_eq_false_iff,decide_eq_false_iff_not] at hb
   omega
  ·have:=h.toIn ((hfm x).1 hx)
   unfold bW at hb
   simp only [Bool.not_eq_true',Bool.and_eq_false_iff,decide_eq_false_iff_not] at hb
   omega
theorem Right.swapHands (h:Right s):ft s.2.2.2 (bP (List.replicate 256 0) (am s) (jG s))=(s.2.2.2.map (gw s),0):=by
 have hfm:=fun x=>(fV (s:=s) h.root (x:=x))
 have hal:=h.al
 unfold ft
 rw [if_neg (by rw [h.hand]; simp),if_neg (by rw [dL,List.length_replicate]; simp),if_neg]
 ·refine congrArg (·,(0:Int)) (List.map_congr_left fun v hv=>?_)
  unfold db gw
  by_cases h0:v.2.1=true
  ·rw [if_pos h0,if_pos h0]
   have hn:v.2.2∈bf s:=List.mem_append_left _ (List.mem_append_right _ (List.mem_map.2 ⟨v,List.mem_filter.2 ⟨hv,by simpa using h0⟩,rfl⟩))
   have h2:=h.nameIn hn
   rw [mD _ h2.1 _ _ (fun x hx=>(h.nameIn ((hfm x).1 hx)).1) (by rw [List.length_replicate]; omega),if_pos ((hfm _).2 hn)]
  ·rw [if_neg h0,if_neg h0]
 ·intro hc
  obtain ⟨v,hv,hb⟩:=List.any_eq_true.1 hc
  rcases mC _ _ _ hv with hv | ⟨x,hx,rfl⟩
  ·have h2:=(List.mem_replicate.1 hv).2
   subst h2
   simp [fX] at hb
  ·have:=h.toIn ((hfm x).1 hx)
   simp [fX] at hb
   omega
end
theorem Right.fromLen {s:aq} (h:Right s):(am s).length≤64:=by
 obtain ⟨q1,q2,q3⟩:=iT h.root h.pin h.hand
 have e1:=jf s.2.1 s.1.length
 have e2:=im s.2.2.2
 have e3:(am s).length≤(dN ((bz s.2.1 s.1.length).1++ee s.2.2.2++s.2.2.1.map (·.1))).length:=jd _
 rw [g8] at e3
 simp only [List.length_append,List.length_map] at e3
 omega
theorem Right.small {s:aq} (h:Right s):s.2.1.length≤32∧s.2.2.1.length≤16∧s.2.2.2.length≤16:=iT h.root h.pin h.hand
theorem Right.gaps {s:aq} (h:Right s):au (cC s)=(aL false [] (aa (cC s)).1,0)∧(∀ r∈aL false [] (aa (cC s)).1,0≤r.1∧1≤r.2∧r.2≤256)∧(aL false [] (aa (cC s)).1).length≤256:=by
 obtain ⟨hz,hl,_⟩:=h.slidOK
 obtain ⟨g1,g2⟩:=oa (bO hz).2.2.2.1
 have hal:=h.al
 refine ⟨by unfold au; rw [if_neg (by omega)],fun r hr=>?_,g2⟩
 have:=g1 r hr
 omega
theorem Ab {f:List Int} {g:Int→Int} {i:Int} (h0:0≤i) (h1:i<f.length):(f.map g).getD i.toNat 0=g (f.getD i.toNat 0):=by
 have:i.toNat<f.length:=by omega
 simp [List.getD_eq_getElem?_getD,this]
theorem oK {l:List bK} {i:Int} (h0:0≤i) (h1:i<l.length):dS (l.take (i+1).toNat)=dS (l.take i.toNat)+(l.getD i.toNat (0,0)).2:=by
 rw [bj ((0,0):bK) h0 h1,lu]
structure ObjAt (s:aq) (x:Int):Prop where
 isb:isB (aa s.1).1 x=true
 at_:iN s.1 x=(gb s.1 (x,dD s.1 x) (ao s.1).2.1,0)
 refs:((iN s.1 x).1.2.1.length:Int)=(dD s.1 x).1
 body:((iN s.1 x).1.2.2.1.length:Int)=(dD s.1 x).2.1
 x0:0≤x
 r0:0≤(dD s.1 x).1
 b0:0≤(dD s.1 x).2.1
 fit:x+1+(dD s.1 x).1+(dD s.1 x).2.1≤s.1.length
theorem Right.obj {s:aq} (h:Right s) {x:Int} (hx:x∈bf s):ObjAt s x:=by
 have hb:=h.nam x hx
 obtain ⟨_,_,e⟩:=GB h.chk hb
 obtain ⟨l1,l2,l3,l4,l5,l6⟩:=cp hb
 obtain ⟨k1,k2⟩:=Dg h.chk hb
 exact ⟨hb,e,by omega,by omega,l3,l5,l6,l4⟩
theorem Right.rootIn {s:aq} (h:Right s) {k:Int} (h0:0≤k) (h1:k<s.2.1.length):-1≤s.2.1.getD k.toNat 0∧s.2.1.getD k.toNat 0<s.1.length:=wk (lP h.root) (aD (0:Int) h0 h1)
theorem Right.rootNam {s:aq} (h:Right s) {k:Int} (h0:0≤k) (h1:k<s.2.1.length) (h2:0≤s.2.1.getD k.toNat 0):s.2.1.getD k.toNat 0∈bf s :=
 List.mem_append_left _ (List.mem_append_left _ (List.mem_filter.2 ⟨aD (0:Int) h0 h1,by simpa using h2⟩))
theorem Right.handNam {s:aq} (h:Right s) {k:Int} (h0:0≤k) (h1:k<s.2.2.2.length) (h2:(s.2.2.2.getD k.toNat (0,false,0)).2.1=true):(s.2.2.2.getD k.toNat (0,false,0)).2.2∈bf s :=
 List.mem_append_left _ (List.mem_append_right _ (List.mem_map.2 ⟨_,List.mem_filter.2 ⟨aD ((0,false,0):cg) h0 h1,by simpa using h2⟩,rfl⟩))
theorem Right.refWord {s:aq} (h:Right s) {x k:Int} (hx:isB (aa s.1).1 x=true) (h0:0≤k) (h1:k<(dD s.1 x).1):0≤s.1.getD (x+1+k).toNat 0∧s.1.getD (x+1+k).toNat 0≤256:=by
 obtain ⟨l1,l2,l3,l4,l5,l6⟩:=cp hx
 have hm:s.1.getD (x+1+k).toNat 0∈aU s.1 x:=by
  unfold aU aA
  have hlt:(x+1+k).toNat<s.1.length:=by omega
  rw [List.mem_iff_getElem?]
  refine ⟨k.toNat,?_⟩
  rw [List.getElem?_drop,List.getElem?_take,if_pos (by simp only; omega),show (x+1).toNat+k.toNat=(x+1+k).toNat by omega]
  simp [List.getD_eq_getElem?_getD,hlt]
 have hw:=h.w _ (aD (0:Int) (xs:=s.1) (i:=x+1+k) (by omega) (by omega))
 have hw0:0≤s.1.getD (x+1+k).toNat 0:=hw.1
 by_cases hz:s.1.getD (x+1+k).toNat 0=0
 ·omega
 ·have ho:s.1.getD (x+1+k).toNat 0 - 1∈du s.1 x:=List.mem_map.2 ⟨_,List.mem_filter.2 ⟨hm,by simpa using hz⟩,rfl⟩
  have:=fU (lz h.w h.chk hx ho)
  omega
end Go.Proofs.YtglchojglcobjaaGreat
