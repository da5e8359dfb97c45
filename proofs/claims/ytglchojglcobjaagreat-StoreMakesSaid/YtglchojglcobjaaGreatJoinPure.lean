
import Derived.Test.YtglchojglcobjaaGreatSlidPure
import Derived.Test.YtglchojglcobjaaGreatGap
namespace Go.Proofs.YtglchojglcobjaaGreat
open Go
theorem bM (t k:Int):ab (aM t k).2=k:=by simp [aM,ab]; omega
def bH:List aw→List aw
 | []=>[]
 | x::l=>if x.2.2.2.2=true then (match bH l with
   | []=>[aM x.1 (ab x.2)]
   | y::r=>if y.2.2.2.2=true then aM x.1 (ab x.2+ab y.2)::r else aM x.1 (ab x.2)::y::r) else x::bH l
def gF (a:List Int):List aw→List Int
 | []=>[]
 | s::l=>(if s.2.2.2.2=true then dC (ab s.2) else (a.drop s.1.toNat).take (ab s.2).toNat)++gF a l
def fM:List aw→List bK
 | []=>[]
 | s::l=>if s.2.2.2.2=true then (s.1,ab s.2)::fM l else fM l
theorem Es (x:aw) (l:List aw) (h:x.2.2.2.2=true):bH (x::l)=bH (aM x.1 (ab x.2)::l):=by
 simp only [bH]
 rw [if_pos h,if_pos (show (aM x.1 (ab x.2)).2.2.2.2=true from rfl),bM]
 rfl
theorem FZ (t n:Int) (x:aw) (l:List aw) (h:x.2.2.2.2=true):bH (aM t n::x::l)=bH (aM t (n+ab x.2)::l):=by
 have e:∀ m,bH (aM t m::l)=match bH l with
   | []=>[aM t m]
   | y::r=>if y.2.2.2.2=true then aM t (m+ab y.2)::r else aM t m::y::r:=fun m=>by
  simp only [bH]
  rw [if_pos (show (aM t m).2.2.2.2=true from rfl),bM]
  rfl
 have e2:bH (aM t n::x::l)=match bH (x::l) with
   | []=>[aM t n]
   | y::r=>if y.2.2.2.2=true then aM t (n+ab y.2)::r else aM t n::y::r:=by
  rw [bH]
  rw [if_pos (show (aM t n).2.2.2.2=true from rfl),bM]
  rfl
 rw [e2,e]
 simp only [bH]
 rw [if_pos h]
 cases hj:bH l with
 | nil =>
  simp only
  rw [if_pos (show (aM x.1 (ab x.2)).2.2.2.2=true from rfl),bM]
 | cons y r =>
  simp only
  by_cases hy:y.2.2.2.2=true
  ·rw [if_pos hy,if_pos hy]
   simp only
   rw [if_pos (show (aM x.1 (ab x.2+ab y.2)).2.2.2.2=true from rfl),bM,Int.add_assoc]
  ·rw [if_neg hy,if_neg hy]
   simp only
   rw [if_pos (show (aM x.1 (ab x.2)).2.2.2.2=true from rfl),bM]
theorem kO (x:aw) (l:List aw) (h:¬ x.2.2.2.2=true):bH (x::l)=x::bH l:=by
 simp only [bH]; rw [if_neg h]
theorem uu (t n:Int) (x:aw) (l:List aw) (h:¬ x.2.2.2.2=true):bH (aM t n::x::l)=aM t n::x::bH l:=by
 rw [bH,kO x l h]
 rw [if_pos (show (aM t n).2.2.2.2=true from rfl),bM]
 simp only
 rw [if_neg h]
 rfl
theorem vW:∀ (l:List aw),(∀ out,aL false out l=out++fM (bH l))∧∀ out t n,aL true (out++[(t,n)]) l=out++fM (bH (aM t n::l))
 | []=>by
  refine ⟨fun out=>by simp [aL,bH,fM],fun out t n=>?_⟩
  have e:bH [aM t n]=[aM t n]:=by
   rw [bH,if_pos (show (aM t n).2.2.2.2=true from rfl),bM]
   rfl
  rw [e]
  simp only [aL,fM]
  rw [if_pos (show (aM t n).2.2.2.2=true from rfl),bM]
  rfl
 | x::l=>by
  obtain ⟨h1,h2⟩:=vW l
  by_cases hx:x.2.2.2.2=true
  ·refine ⟨fun out=>?_,fun out t n=>?_⟩
   ·simp only [aL]
    rw [hx]
    simp only [if_true,Bool.false_eq_true,if_false]
    rw [h2,Es x l hx]
   ·simp only [aL]
    rw [hx]
    simp only [if_true]
    rw [pq,h2,FZ t n x l hx]
  ·have hf:x.2.2.2.2=false:=by simpa using hx
   refine ⟨fun out=>?_,fun out t n=>?_⟩
   ·simp only [aL]
    rw [hf]
    simp only [Bool.false_eq_true,if_false]
    rw [h1,kO x l hx]
    simp only [fM]
    rw [if_neg hx]
   ·simp only [aL]
    rw [hf]
    simp only [Bool.false_eq_true,if_false]
    rw [h1,uu t n x l hx]
    simp only [fM]
    rw [if_pos (show (aM t n).2.2.2.2=true from rfl),if_neg hx,bM]
    simp [aM]
theorem nd:∀ {l:List aw} {s e:Int},eK s e l→s≤e
 | [],s,e,h=>by simp only [eK] at h; omega
 | x::l,s,e,⟨_,h1,h2⟩=>by have:=nd h2; omega
theorem sI:∀ {l:List aw} {s e:Int},eK s e l→eK s e (bH l)
 | [],s,e,h=>h
 | x::l,s,e,⟨h0,h1,h2⟩=>by
  have ih:=sI h2
  by_cases hx:x.2.2.2.2=true
  ·simp only [bH]
   rw [if_pos hx]
   cases hj:bH l with
   | nil =>
    rw [hj] at ih
    simp only [eK] at ih ⊢
    rw [bM]
    exact ⟨h0,h1,ih⟩
   | cons y r =>
    rw [hj] at ih
    obtain ⟨i0,i1,i2⟩:=ih
    simp only
    by_cases hy:y.2.2.2.2=true
    ·rw [if_pos hy]
     simp only [eK]
     rw [bM]
     exact ⟨h0,by omega,by rw [← Int.add_assoc]; exact i2⟩
    ·rw [if_neg hy]
     simp only [eK]
     rw [bM]
     exact ⟨h0,h1,i0,i1,i2⟩
  ·rw [kO x l hx]
   exact ⟨h0,h1,ih⟩
theorem sJ:∀ {l:List aw} {s:aw},s∈bH l→(s=aM s.1 (ab s.2))∨(s∈l∧s.2.2.2.2=false)
 | x::l,s,h=>by
  have ih:=fun (h:s∈bH l)=>sJ h
  have fs:∀ t n,aM t n=aM (aM t n).1 (ab (aM t n).2):=fun t n=>by rw [bM]; rfl
  by_cases hx:x.2.2.2.2=true
  ·simp only [bH] at h
   rw [if_pos hx] at h
   cases hj:bH l with
   | nil =>
    rw [hj] at h
    rw [List.mem_singleton.1 h]
    exact .inl (fs _ _)
   | cons y r =>
    rw [hj] at h ih
    simp only at h
    split at h
    ·rcases List.mem_cons.1 h with e | h
     ·rw [e]; exact .inl (fs _ _)
     ·rcases ih (List.mem_cons_of_mem _ h) with h | h
      ·exact .inl h
      ·exact .inr ⟨List.mem_cons_of_mem _ h.1,h.2⟩
    ·rcases List.mem_cons.1 h with e | h
     ·rw [e]; exact .inl (fs _ _)
     ·rcases ih h with h | h
      ·exact .inl h
      ·exact .inr ⟨List.mem_cons_of_mem _ h.1,h.2⟩
  ·rw [kO x l hx] at h
   rcases List.mem_cons.1 h with e | h
   ·rw [e]; exact .inr ⟨List.mem_cons_self,by simpa using hx⟩
   ·rcases ih h with h | h
    ·exact .inl h
    ·exact .inr ⟨List.mem_cons_of_mem _ h.1,h.2⟩
theorem qB:∀ (l:List aw),af (bH l)=af l
 | []=>rfl
 | x::l=>by
  have ih:=qB l
  have fs:∀ t n,(aM t n).2.2.2.2=true:=fun _ _=>rfl
  by_cases hx:x.2.2.2.2=true
  ·simp only [bH,af]
   rw [if_pos hx,if_pos hx]
   cases hj:bH l with
   | nil =>
    rw [hj] at ih
    simp only [af]
    rw [if_pos (fs _ _)]
    exact ih
   | cons y r =>
    rw [hj] at ih
    simp only
    by_cases hy:y.2.2.2.2=true
    ·simp only [af] at ih
     rw [if_pos hy] at ih
     rw [if_pos hy]
     simp only [af]
     rw [if_pos (fs _ _)]
     exact ih
    ·rw [if_neg hy]
     have:af (aM x.1 (ab x.2)::y::r)=af (y::r):=by
      rw [af,if_pos (fs _ _)]
     rw [this,ih]
  ·rw [kO x l hx]
   simp only [af]
   rw [if_neg hx,if_neg hx,ih]
theorem td {P R:List Int} {s L:Int} (hp:P.length=s.toNat) (h0:0≤s) (h1:0<L) (h2:L.toNat≤R.length):aG (P++R) s L=P++(dC L++R.drop L.toNat):=by
 unfold aG dj kc dC
 rw [if_pos h1,if_pos h1,← hp,List.take_left,List.take_of_length_le (by simp)]
 have e:(P++R).drop (P.length+L.toNat)=R.drop L.toNat:=by rw [← List.drop_drop,List.drop_left]
 rw [e,show L.toNat=(L - 1).toNat+1 by omega,List.replicate_succ,List.cons_append,jK _ rfl]
 rfl
theorem o8 {a:List Int}:∀ (k:List aw) (s:Int) (P:List Int),eK s a.length k→0≤s→P.length=s.toNat→(fM k).foldl (fun a r=>aG a r.1 r.2) (P++a.drop s.toNat)=P++gF a k
 | [],s,P,h,h0,hp=>by
  simp only [eK] at h
  simp only [fM,List.foldl_nil,gF]
  rw [List.drop_of_length_le (by omega)]
 | x::k,s,P,⟨e0,h1,h2⟩,h0,hp=>by
  have hle:=nd h2
  subst e0
  simp only [fM,gF]
  by_cases hx:x.2.2.2.2=true
  ·rw [if_pos hx,if_pos hx]
   simp only [List.foldl_cons]
   rw [td hp h0 (by omega) (by rw [List.length_drop]; omega),List.drop_drop,← List.append_assoc,← List.append_assoc,show x.1.toNat+(ab x.2).toNat=(x.1+ab x.2).toNat by omega]
   exact o8 k (x.1+ab x.2) _ h2 (by omega) (by rw [List.length_append,cI]; omega)
  ·rw [if_neg hx,if_neg hx]
   have e:P++a.drop x.1.toNat=(P++(a.drop x.1.toNat).take (ab x.2).toNat)++a.drop (x.1+ab x.2).toNat:=by
    rw [List.append_assoc,show (x.1+ab x.2).toNat=x.1.toNat+(ab x.2).toNat by omega,← List.drop_drop,List.take_append_drop]
   rw [e,← List.append_assoc]
   exact o8 k (x.1+ab x.2) _ h2 (by omega) (by rw [List.length_append,List.length_take,List.length_drop]; omega)
theorem pu {a:List Int} (hal:a.length≤256):∀ (k:List aw) (s:Int),eK s a.length k→0≤s→(∀ x∈k,x.2.2.2.2=false→x.2=aH (a.getD x.1.toNat 0)∧aF (a.getD x.1.toNat 0)=true)→(∀ x∈k,x.2.2.2.2=true→x=aM x.1 (ab x.2))→spotsS s (gF a k)=some k
 | [],s,_,_,_,_=>by rw [gF,spotsS]
 | x::k,s,⟨e0,h1,h2⟩,h0,hn,hf=>by
  have hle:=nd h2
  have ih:=pu hal k (s+ab x.2) h2 (by omega) (fun y hy=>hn y (List.mem_cons_of_mem _ hy)) (fun y hy=>hf y (List.mem_cons_of_mem _ hy))
  subst e0
  simp only [gF]
  by_cases hx:x.2.2.2.2=true
  ·rw [if_pos hx,ko (by omega),if_pos (by omega),ih,Option.map_some,← hf x List.mem_cons_self hx]
  ·rw [if_neg hx]
   obtain ⟨e1,e2⟩:=hn x List.mem_cons_self (by simpa using hx)
   have e3:(a.drop x.1.toNat).take (ab x.2).toNat=a.getD x.1.toNat 0::(a.drop (x.1.toNat+1)).take ((ab x.2).toNat - 1):=by
    have hlt:x.1.toNat<a.length:=by omega
    rw [List.drop_eq_getElem_cons hlt,show (ab x.2).toNat=((ab x.2).toNat - 1)+1 by omega,List.take_succ_cons]
    simp [List.getD_eq_getElem?_getD,hlt]
   rw [e3,jI e2 (by rw [← e1,List.length_take,List.length_drop]; omega),← e1,ih]
   rfl
theorem qZ {a:List Int}:∀ (k:List aw) (s:Int) {x:aw},eK s a.length k→0≤s→x∈k→∃ X Y,gF a k=X++((if x.2.2.2.2=true then dC (ab x.2) else (a.drop x.1.toNat).take (ab x.2).toNat)++Y)∧(X.length:Int)=x.1 - s∧0≤x.1∧1≤ab x.2∧x.1+ab x.2≤a.length
 | y::k,s,x,⟨e0,h1,h2⟩,h0,hm=>by
  have hle:=nd h2
  rcases List.mem_cons.1 hm with e | hm
  ·subst e
   exact ⟨[],gF a k,rfl,by simp; omega,by omega,h1,by omega⟩
  ·obtain ⟨X,Y,e,hx,p1,p2,p3⟩:=qZ k (s+ab y.2) h2 (by omega) hm
   refine ⟨(if y.2.2.2.2=true then dC (ab y.2) else (a.drop y.1.toNat).take (ab y.2).toNat)++X,Y,?_,?_,p1,p2,p3⟩
   ·rw [gF,e,List.append_assoc]
   ·rw [List.length_append]
    split
    ·rw [cI]; omega
    ·rw [List.length_take,List.length_drop]; omega
theorem D6 {a b:List Int} {x:aw} (h0:0≤x.1) (h1:0≤x.2.1) (h:∀ j:Nat,x.1+1≤j→(j:Int)<x.1+1+x.2.1→b[j]?=a[j]?):aA b x=aA a x:=by
 unfold aA
 apply List.ext_getElem?
 intro j
 rw [List.getElem?_drop,List.getElem?_drop,List.getElem?_take,List.getElem?_take]
 split
 ·exact h _ (by omega) (by omega)
 ·rfl
theorem DD {a:List Int} {l:List aw} (h1:a.length≤256) (h2:spotsS 0 a=some l):aa a=(l,0):=by
 unfold aa
 rw [if_neg (by omega),h2]
theorem B7 {a:List Int} (hc:(ao a).2.2=0):ao (c7 a).1=(bH (aa a).1,bC (bH (aa a).1),0)∧(c7 a).1=gF a (bH (aa a).1)∧eK 0 a.length (bH (aa a).1)∧(c7 a).1.length=a.length∧aL false [] (aa a).1=fM (bH (aa a).1):=by
 obtain ⟨hal,_,_,h0,_,hr,_⟩:=bO hc
 have ht:=fY h0
 have hj:=sI ht
 have hg:aL false [] (aa a).1=fM (bH (aa a).1):=by rw [(vW _).1]; rfl
 have hw:(c7 a).1=gF a (bH (aa a).1):=by
  unfold c7
  rw [if_neg (by omega),hg]
  have:=o8 (a:=a) (bH (aa a).1) 0 [] hj (by omega) rfl
  simpa using this
 have hfr:∀ x∈bH (aa a).1,x.2.2.2.2=true→x=aM x.1 (ab x.2):=fun x hx hf=>by
  rcases sJ hx with h | h
  ·exact h
  ·rw [h.2] at hf; cases hf
 have hnf:∀ x∈bH (aa a).1,x.2.2.2.2=false→x∈(aa a).1:=fun x hx hf=>by
  rcases sJ hx with h | h
  ·rw [h] at hf; cases hf
  ·exact h.1
 have hsp:=pu hal (bH (aa a).1) 0 hj (by omega) (fun x hx hf=>pA x (hnf x hx hf)) hfr
 have hlen:(gF a (bH (aa a).1)).length=a.length:=by
  have:=ng 0 _ _ hsp
  have h1:=lp this
  have h2:=lp hj
  omega
 have hS:aa (gF a (bH (aa a).1))=(bH (aa a).1,0):=DD (by omega) hsp
 have hsort:=b6 (gF a (bH (aa a).1))
 rw [hS] at hsort
 refine ⟨?_,hw,hj,by rw [hw]; exact hlen,hg⟩
 rw [hw]
 unfold ao
 rw [hS,if_neg (by simp),if_pos]
 refine List.all_eq_true.2 fun s hs=>?_
 cases hf:s.2.2.2.2
 ·have hm:=hnf s hs hf
  obtain ⟨_,hin,_⟩:=dc a s hm
  obtain ⟨X,Y,e,hX,p1,p2,p3⟩:=qZ _ 0 hj (by omega) hs
  rw [if_neg (by rw [hf]; simp)] at e
  have hL:ab s.2=1+s.2.1+s.2.2.1:=rfl
  unfold bX at hin
  have er:aA (gF a (bH (aa a).1)) s=aA a s:=by
   refine D6 p1 hin.2.1 fun j j1 j2=>?_
   rw [e,List.getElem?_append_right (by omega),List.getElem?_append_left (by rw [List.length_take,List.length_drop]; omega),List.getElem?_take,if_pos (by omega),List.getElem?_drop]
   congr 1
   omega
  rw [er]
  have h3:=List.all_eq_true.1 hr s hm
  refine List.all_eq_true.2 fun v hv=>?_
  have h4:=List.all_eq_true.1 h3 v hv
  unfold bC at h4 ⊢
  rw [iz _ _ _ 0 (b6 a)] at h4
  rw [iz _ _ _ 0 hsort]
  have e1:(lL v 0 (bH (aa a).1)).isSome=(lL v 0 (aa a).1).isSome:=by rw [jv,jv,qB]
  cases h5:lL v 0 (aa a).1 with
  | none =>
   rw [h5] at h4 e1
   cases h6:lL v 0 (bH (aa a).1) with
   | none=>exact h4
   | some k=>rfl
  | some k =>
   rw [h5] at e1
   cases h6:lL v 0 (bH (aa a).1) with
   | none=>rw [h6] at e1; cases e1
   | some k=>rfl
 ·rw [hfr s hs hf]
  have:aA (gF a (bH (aa a).1)) (aM s.1 (ab s.2))=[]:=by
   unfold aA aM
   simp only [Int.add_zero]
   exact List.drop_of_length_le (by rw [List.length_take]; omega)
  rw [this]
  rfl
theorem mS:∀ {l:List aw} {r:bK},r∈fM l→∃ s∈l,s.2.2.2.2=true∧r=(s.1,ab s.2)
 | x::l,r,h=>by
  simp only [fM] at h
  split at h
  ·rename_i hx
   rcases List.mem_cons.1 h with e | h
   ·exact ⟨x,List.mem_cons_self,hx,e⟩
   ·obtain ⟨s,hs,h⟩:=mS h
    exact ⟨s,List.mem_cons_of_mem _ hs,h⟩
  ·obtain ⟨s,hs,h⟩:=mS h
   exact ⟨s,List.mem_cons_of_mem _ hs,h⟩
def xq (a:List Int) (r:bK) (h:da):List Int:=(aG (c7 a).1 (r.1+ab h) (r.2 - ab h)).set r.1.toNat (aR h)
theorem BQ {a:List Int} (hc:(ao a).2.2=0) {r:bK} {h:da} (hr:r∈aL false [] (aa a).1) (h0:ac h=0) (hf:h.2.2.2=false) (hl:ab h≤r.2):dR (c7 a).1 r.1 h=(xq a r h,0):=by
 obtain ⟨h1,h2,h3,h4,h5⟩:=B7 hc
 obtain ⟨hal,_⟩:=bO hc
 rw [h5] at hr
 obtain ⟨s,hs,hsf,e⟩:=mS hr
 have hz:(ao (c7 a).1).2.2=0:=by rw [h1]
 have hsp:(aa (c7 a).1).1=bH (aa a).1:=by
  have:=(bO hz).2.2.1
  rw [h1] at this
  exact this.symm
 obtain ⟨X,Y,eW,hX,p1,p2,p3⟩:=qZ _ 0 h3 (by omega) hs
 rw [if_pos hsf] at eW
 have e1:r.1=s.1:=by rw [e]
 have e2:r.2=ab s.2:=by rw [e]
 obtain ⟨g1,g2⟩:=Bn hz r.1 h
 have hsort:=b6 (c7 a).1
 rw [hsp] at g1 g2 hsort
 have hrm:gX r.1 0 (bH (aa a).1)=r.2:=by rw [e2]; exact rP _ 0 s hsort hs e1.symm hsf
 have hn:=a8 h0
 have hL:ab h=1+h.1+h.2.1:=rfl
 have e0:qO h=0:=by unfold qO; rw [hf,if_neg (by simp),h0]
 have ez:fc (qO h) r.2 (ab h)=0:=by unfold fc; rw [e0,if_neg (by omega),if_neg (by omega),if_neg (by omega)]
 rw [hrm,ez,if_neg (by omega)] at g1
 have hlp:df (c7 a).1 r.1 r.2:=⟨by omega,by omega,by omega,by omega⟩
 obtain ⟨t1,_⟩:=Bm hlp (n:=ab h) (by omega) hl (aR h)
 rw [g1,← t1]
 have hi:aG (c7 a).1 r.1 r.2=(c7 a).1:=by
  rw [h2,eW,e1,e2,td (by omega) p1 (by omega) (by rw [List.length_append,cI]; omega),List.drop_append_of_le_length (by rw [cI]; omega),List.drop_of_length_le (by rw [cI]; omega),List.nil_append]
 rw [hi]
 rfl
theorem v7 (n:Int):∀ (l:List bK) (k:Int),match l.find? (fun r=>decide (n≤r.2)) with
  | none=>bN n k l=[]
  | some r=>∃ i,0≤i∧i<(l.length:Int)∧l.getD i.toNat (0,0)=r∧bN n k l≠[]∧(bN n k l).getD 0 0=k+i
 | [],k=>rfl
 | r::l,k=>by
  have ih:=v7 n l (k+1)
  by_cases h:n≤r.2
  ·rw [List.find?_cons_of_pos (by simpa using h)]
   simp only [bN]
   rw [if_pos h]
   exact ⟨0,by omega,by simp,rfl,by simp,by simp⟩
  ·rw [List.find?_cons_of_neg (by simpa using h)]
   simp only [bN]
   rw [if_neg h]
   cases hf:l.find? (fun r=>decide (n≤r.2)) with
   | none=>rw [hf] at ih; exact ih
   | some q =>
    rw [hf] at ih
    obtain ⟨i,i0,i1,i2,i3,i4⟩:=ih
    refine ⟨i+1,by omega,by simp only [List.length_cons]; omega,?_,i3,by omega⟩
    rw [show (i+1).toNat=i.toNat+1 by omega]
    exact i2
def gG (a:List Int) (h:da):List Int×Int×Bool:=match (aL false [] (aa a).1).find? (fun r=>decide (ab h≤r.2)) with
 | none=>([],0,false)
 | some r=>(xq a r h,r.1,true)
theorem Ey {n:Int} {l:List bK} (hn:1≤n) (hg:∀ r∈l,0≤r.1∧1≤r.2):bD l n=if bN n 0 l=[] then (0,7) else ((bN n 0 l).getD 0 0,0):=by
 have hb:dF l=false:=by
  unfold dF
  rw [List.any_eq_false]
  intro r hr
  have:=hg r hr
  simp
  omega
 have e:d5 l n=if bN n 0 l=[] then ([],7) else (bN n 0 l,0):=by
  unfold d5
  rw [if_neg (show ¬ n<1 by omega),hb,if_neg (by simp)]
 unfold bD
 rw [e]
 by_cases h:bN n 0 l=[]
 ·rw [if_pos h,if_pos h]
  rfl
 ·rw [if_neg h,if_neg h]
  rfl
end Go.Proofs.YtglchojglcobjaaGreat
