
import Derived.Test.YtglchojglcobjaaGreatGapsRef
import Derived.Test.YtglchojglcobjaaGreatWalkSame
namespace Go.Proofs.YtglchojglcobjaaGreat
open Go
set_option maxRecDepth 100000
set_option maxHeartbeats 1000000
theorem rG (fr:List Bool) (at_:Nat) (b:Bool) (i:Nat):∀ n,(fJ fr at_ b n).getD i false=if at_≤i∧i<at_+n∧i<fr.length then b else fr.getD i false
 | 0=>by
  have:¬ (at_≤i∧i<at_+0∧i<fr.length):=by omega
  rw [if_neg this]
  rfl
 | n+1=>by
  have ih:=rG fr at_ b i n
  have hl:=fv fr at_ b n
  simp only [fJ]
  by_cases hi:i=at_+n
  ·by_cases hlen:i<fr.length
   ·rw [if_pos (by omega)]
    simp [← hi,hl,hlen]
   ·rw [if_neg (by omega)]
    simp [hlen,show ¬ i<(fJ fr at_ b n).length by omega]
  ·have e:((fJ fr at_ b n).set (at_+n) b).getD i false=(fJ fr at_ b n).getD i false:=by
    simp [List.getElem?_set,Ne.symm hi]
   rw [e,ih]
   by_cases hc:at_≤i∧i<at_+n∧i<fr.length
   ·rw [if_pos hc,if_pos (by omega)]
   ·rw [if_neg hc,if_neg (by omega)]
def mA (k:Int):List aw→Bool
 | []=>false
 | x::r=>if k<x.1+ab x.2 then x.2.2.2.2 else mA k r
theorem v6:∀ (r:List aw) (s e:Int) (fr:List Bool),eK s e r→0≤s→e≤fr.length→s≤e∧∀ k:Int,0≤k→k<e→(fp fr r).getD k.toNat false=if k<s then fr.getD k.toNat false else mA k r
 | [],s,e,fr,h,_,_=>by
  have:s=e:=h
  subst this
  refine ⟨Int.le_refl _,fun k _ hk=>?_⟩
  rw [if_pos hk]
  rfl
 | x::r,s,e,fr,⟨h1,h2,h3⟩,h0,hl=>by
  have ih:=v6 r (s+ab x.2) e (fJ fr x.1.toNat x.2.2.2.2 (ab x.2).toNat) h3 (by omega) (by rw [fv]; exact hl)
  refine ⟨by omega,fun k k0 k1=>?_⟩
  simp only [fp,mA]
  rw [ih.2 k k0 k1,rG]
  by_cases hk:k<s
  ·rw [if_pos (by omega),if_neg (by omega),if_pos hk]
  ·rw [if_neg hk]
   by_cases hk2:k<s+ab x.2
   ·rw [if_pos hk2,if_pos (by omega),if_pos (by omega)]
   ·rw [if_neg hk2,if_neg (by omega)]
theorem we {out:List bK} {a b:Int} (h:0<out.length):fl (fl out a) b=fl out (a+b):=by
 unfold fl
 simp [show out.length - 1<out.length by omega,Int.add_assoc]
theorem pq (out:List bK) (k a b:Int):fl (out++[(k,a)]) b=out++[(k,a+b)]:=by
 unfold fl
 simp
theorem oP (f:Int→Bool):∀ (n m:Nat) (k:Int) (out:List bK),0<out.length→0<k→(∀ i,k - 1≤i→i<k+n→f i=true)→bb f (n+m) k out=bb f m (k+n) (if n=0 then out else fl out n)
 | 0,m,k,out,_,_,_=>by simp
 | n+1,m,k,out,h1,h2,h3=>by
  rw [show n+1+m=(n+m)+1 by omega]
  simp only [bb]
  rw [if_pos (h3 k (by omega) (by omega)),if_pos (by rw [h3 (k - 1) (by omega) (by omega)]; simp; omega)]
  rw [oP f n m (k+1) (fl out 1) (by rw [cZ]; exact h1) (by omega) (fun i hi hj=>h3 i (by omega) (by omega))]
  rw [if_neg (by omega:¬ n+1=0),show k+1+(n:Int)=k+((n+1:Nat):Int) by omega]
  congr 1
  by_cases hn:n=0
  ·subst hn; simp
  ·rw [if_neg hn,we h1]
   congr 1
   omega
theorem oQ (f:Int→Bool):∀ (n m:Nat) (k:Int) (out:List bK),(∀ i,k≤i→i<k+n→f i=false)→bb f (n+m) k out=bb f m (k+n) out
 | 0,m,k,out,_=>by simp
 | n+1,m,k,out,h=>by
  rw [show n+1+m=(n+m)+1 by omega]
  simp only [bb]
  rw [if_neg (by rw [h k (by omega) (by omega)]; simp),oQ f n m (k+1) out (fun i hi hj=>h i (by omega) (by omega)),show k+1+(n:Int)=k+((n+1:Nat):Int) by omega]
theorem mE (f:Int→Bool):∀ (r:List aw) (s e:Int) (out:List bK),eK s e r→0≤s→(∀ k,s≤k→k<e→f k=mA k r)→((decide (0<s)&&f (s - 1))=true→0<out.length) →
  s≤e∧bb f (e - s).toNat s out=aL (decide (0<s)&&f (s - 1)) out r
 | [],s,e,out,h,_,_,_=>by
  have:s=e:=h
  subst this
  rw [Int.sub_self]
  exact ⟨Int.le_refl _,rfl⟩
 | x::r,s,e,out,⟨h1,h2,h3⟩,h0,hf,ho=>by
  have hx:∀ k,s≤k→k<s+ab x.2→k<e→f k=x.2.2.2.2:=fun k k0 k1 k2=>by
   rw [hf k k0 k2]
   simp only [mA]
   rw [if_pos (by omega)]
  have hr:s+ab x.2≤e→∀ k,s+ab x.2≤k→k<e→f k=mA k r:=fun _ k k0 k1=>by
   rw [hf k (by omega) k1]
   simp only [mA]
   rw [if_neg (by omega)]
  have hle:s+ab x.2≤e:=by
   have:∀ (r:List aw) (s e:Int),eK s e r→s≤e:=by
    intro r
    induction r with
    | nil=>intro s e h; exact Int.le_of_eq h
    | cons y r ih=>intro s e ⟨_,q2,q3⟩; have:=ih _ _ q3; omega
   exact this r _ _ h3
  refine ⟨by omega,?_⟩
  have hprev:(decide (0<s+ab x.2)&&f (s+ab x.2 - 1))=x.2.2.2.2:=by
   rw [hx _ (by omega) (by omega) (by omega)]
   simp
   omega
  obtain ⟨L,hL⟩:=Int.eq_ofNat_of_zero_le (show 0≤ab x.2 by omega)
  rw [show (e - s).toNat=L+(e - (s+ab x.2)).toNat by omega]
  simp only [aL]
  cases hfr:x.2.2.2.2
  ·rw [hfr] at hx hprev
   rw [oQ f L _ s out (fun i hi hj=>hx i hi (by omega) (by omega)),← hL]
   have ih:=mE f r (s+ab x.2) e out h3 (by omega) (hr hle) (fun h=>by rw [hprev] at h; cases h)
   rw [ih.2,hprev]
   simp
  ·rw [hfr] at hx hprev
   have hL1:L=(L - 1)+1:=by omega
   have step:bb f (L+(e - (s+ab x.2)).toNat) s out=bb f (e - (s+ab x.2)).toNat (s+ab x.2) (if (decide (0<s)&&f (s - 1))=true then fl out (ab x.2) else out++[(x.1,ab x.2)]):=by
    rw [show L+(e - (s+ab x.2)).toNat=((L - 1)+(e - (s+ab x.2)).toNat)+1 by omega]
    simp only [bb]
    rw [if_pos (hx s (by omega) (by omega) (by omega))]
    rw [oP f (L - 1) _ (s+1) _ (by
     split
     ·rename_i hp
      rw [cZ]
      exact ho hp
     ·simp) (by omega) (fun i hi hj=>hx i (by omega) (by omega) (by omega))]
    rw [show s+1+((L - 1:Nat):Int)=s+ab x.2 by omega]
    congr 1
    by_cases hp:(decide (0<s)&&f (s - 1))=true
    ·rw [if_pos hp,if_pos hp]
     by_cases hz:L - 1=0
     ·rw [if_pos hz]
      congr 1
      omega
     ·rw [if_neg hz,we (ho hp)]
      congr 1
      omega
    ·rw [if_neg hp,if_neg hp]
     by_cases hz:L - 1=0
     ·rw [if_pos hz,h1]
      congr 3
      omega
     ·rw [if_neg hz,pq,h1]
      congr 3
      omega
   rw [step]
   have ih:=mE f r (s+ab x.2) e (if (decide (0<s)&&f (s - 1))=true then fl out (ab x.2) else out++[(x.1,ab x.2)]) h3 (by omega) (hr hle) (fun _=>by
    split
    ·rename_i hp
     rw [cZ]
     exact ho hp
    ·simp)
   rw [ih.2,hprev]
   simp
theorem vV {a:List Int} (h:(aa a).2=0):aC a=aL false [] (aa a).1:=by
 have ht:=fY h
 have hfl:=v6 (aa a).1 0 a.length (List.replicate (a.length+1) false) ht (Int.le_refl _) (by simp; omega)
 have hr:=mE (fun k=>(fp (List.replicate (a.length+1) false) (aa a).1).getD k.toNat false) (aa a).1 0 a.length [] ht (Int.le_refl _) (fun k k0 k1=>by
  rw [hfl.2 k k0 k1,if_neg (by omega)]) (fun h=>by simp at h)
 have h2:=hr.2
 rw [show ((a.length:Int) - 0).toNat=a.length by omega] at h2
 unfold aC
 rw [h2]
 simp
def gX (at_:Int):Int→List aw→Int
 | r,[]=>r
 | r,s::l=>gX at_ (if s.1=at_∧s.2.2.2.2=true then ab s.2 else r) l
theorem rQ (at_:Int):∀ (l:List aw) (r:Int),(∀ s∈l,s.1≠at_)→gX at_ r l=r
 | [],_,_=>rfl
 | s::l,r,h=>by
  simp only [gX]
  rw [if_neg (fun e=>h s (by simp) e.1)]
  exact rQ at_ l r (fun t ht=>h t (by simp [ht]))
theorem zo (at_:Int):∀ (l:List aw) (r:Int),(∀ s∈l,¬ (s.1=at_∧s.2.2.2.2=true))→gX at_ r l=r
 | [],_,_=>rfl
 | s::l,r,h=>by
  simp only [gX]
  rw [if_neg (h s (by simp))]
  exact zo at_ l r (fun t ht=>h t (by simp [ht]))
theorem rP {at_:Int}:∀ (l:List aw) (r:Int) (s:aw),l.Pairwise (fun s t=>s.1<t.1)→s∈l→s.1=at_→s.2.2.2.2=true→gX at_ r l=ab s.2
 | t::l,r,s,hs,hm,h1,h2=>by
  obtain ⟨p1,p2⟩:=List.pairwise_cons.1 hs
  simp only [gX]
  rcases List.mem_cons.1 hm with rfl | hm
  ·rw [if_pos ⟨h1,h2⟩]
   exact rQ at_ l _ (fun u hu e=>by have:=p1 u hu; omega)
  ·exact rP l _ s p2 hm h1 h2
theorem Ap {l:List aw} {at_:Int} {fr:Bool} (h:(br l at_ fr).2=false):∀ s∈l,¬ (s.1=at_∧s.2.2.2.2=fr):=by
 intro s hs ⟨h1,h2⟩
 have ha:=cF (fun s:aw=>decide (s.1=at_)&&s.2.2.2.2 == fr) l 0 (by omega)
 have:(l.any fun s:aw=>decide (s.1=at_)&&s.2.2.2.2 == fr)=true:=List.any_eq_true.2 ⟨s,hs,by simp [h1,h2]⟩
 rw [this] at ha
 have ha:=of_decide_eq_true ha
 unfold br at h
 rw [if_neg (by omega)] at h
 cases h
theorem xL {l:List aw} (hs:l.Pairwise (fun s t=>s.1<t.1)) (at_:Int):(ah at_ l).2=(br l at_ false).2∧((br l at_ false).2=true→(ah at_ l).1=(br l at_ false).1.2):=by
 cases h:(br l at_ false).2
 ·rcases fL at_ l with e | ⟨s,h1,h2,h3,_⟩
  ·rw [e]; exact ⟨rfl,fun h=>by cases h⟩
  ·exact absurd ⟨h2,h3⟩ (Ap h s h1)
 ·obtain ⟨q1,q2,q3⟩:=sT l at_ false h
  have:=jV hs q1 q3
  rw [q2] at this
  rw [this]
  exact ⟨rfl,fun _=>rfl⟩
theorem Ez {b:List Int} {at_ n v k:Int} {i:Nat} (x:Int) (h:i<at_.toNat) (hl:at_.toNat≤b.length):dj (b.set i x) at_ n v k=(dj b at_ n v k).set i x:=by
 unfold dj kc
 rw [List.take_set,List.drop_set,if_pos (by omega),List.set_append,if_pos (by rw [List.length_take]; omega)]
theorem ov {b:List Int} {at_ n:Int} {i:Nat} (x:Int) (h:i<at_.toNat) (hl:at_.toNat≤b.length):aG (b.set i x) at_ n=(aG b at_ n).set i x:=by
 unfold aG
 split
 ·rw [Ez x h hl,List.set_comm _ _ (by omega)]
 ·rfl
theorem EA {b:List Int} {at_ n:Int} {i:Nat} (h:at_.toNat≤i) (h2:i<at_.toNat+n.toNat) (hl:at_.toNat+n.toNat≤b.length):(dj b at_ n 0 n).getD i 0=0:=by
 unfold dj kc
 have e:(List.take at_.toNat b).length=at_.toNat:=by rw [List.length_take]; omega
 rw [List.getD_eq_getElem?_getD,List.getElem?_append_right (by omega),e,List.getElem?_append_left (by simp; omega)]
 rw [List.take_of_length_le (by simp),List.getElem?_replicate]
 split <;> rfl
theorem x8 {b:List Int} {at_ n:Int} {i:Nat} (h:i<at_.toNat) (hl:at_.toNat≤b.length):(aG b at_ n).getD i 0=b.getD i 0:=by
 unfold aG
 split
 ·unfold dj kc
  rw [List.getD_eq_getElem?_getD,List.getElem?_set_ne (by omega),List.getElem?_append_left (by rw [List.length_take]; omega),List.getElem?_take,if_pos h]
  rfl
 ·rfl
theorem Bm {a:List Int} {at_ L n:Int} (hp:df a at_ L) (h1:1≤n) (h2:n≤L) (hw:Int) :
  (aG (aG a at_ L) (at_+n) (L - n)).set at_.toNat hw=aG ((dj a at_ L 0 L).set at_.toNat hw) (at_+n) (L - n) ∧
  ∀ j,1≤j→j<n→((aG (aG a at_ L) (at_+n) (L - n)).set at_.toNat hw).getD (at_+j).toNat 0=0:=by
 obtain ⟨p1,p2,p3,p4⟩:=hp
 have hl:=dH a at_ L 0 L p1 p3 p2 (by omega)
 have hE:aG a at_ L=(dj a at_ L 0 L).set at_.toNat (aR (0,L - 1,0,true)):=by unfold aG; rw [if_pos (by omega)]
 rw [hE,ov _ (by omega) (by omega),ov _ (by omega) (by omega),List.set_set]
 refine ⟨rfl,fun j h3 h4=>?_⟩
 rw [List.getD_eq_getElem?_getD,List.getElem?_set_ne (by omega),← List.getD_eq_getElem?_getD,x8 (by omega) (by omega)]
 exact EA (by omega) (by omega) (by omega)
def qO (h:da):Int:=if ac h=0∧h.2.2.2=true then 3 else ac h
def fc (e r n:Int):Int:=if e≠0 then e else if r=0 then 5 else if r<n then 7 else 0
theorem Bn {a:List Int} (hz:(ao a).2.2=0) (at_:Int) (h:da) :
  dR a at_ h=(if fc (qO h) (gX at_ 0 (aa a).1) (ab h)≠0 then [] else aG ((dj a at_ (gX at_ 0 (aa a).1) 0 (gX at_ 0 (aa a).1)).set at_.toNat (aR h)) (at_+ab h) (gX at_ 0 (aa a).1 - ab h),fc (qO h) (gX at_ 0 (aa a).1) (ab h)) ∧
  (fc (qO h) (gX at_ 0 (aa a).1) (ab h)=0→df a at_ (gX at_ 0 (aa a).1)∧1≤ab h∧ab h≤gX at_ 0 (aa a).1∧ac h=0):=by
 obtain ⟨_,hal,hsp⟩:=vU hz
 have hF:dR a at_ h=if ac h≠0 then ([],ac h) else if h.2.2.2=true then ([],3) else if (ao a).2.2≠0 then ([],(ao a).2.2)
  else if (br (aa a).1 at_ true).2=false then ([],5) else if ab (br (aa a).1 at_ true).1.2<ab h then ([],7)
  else (aG ((dj a at_ (ab (br (aa a).1 at_ true).1.2) 0 (ab (br (aa a).1 at_ true).1.2)).set at_.toNat (aR h)) (at_+ab h) (ab (br (aa a).1 at_ true).1.2 - ab h),0):=rfl
 rw [hF]
 by_cases h1:ac h=0
 ·rw [if_neg (by omega)]
  have hz1:=a8 h1
  have hn:ab h=1+h.1+h.2.1:=rfl
  cases h2:h.2.2.2
  ·have e0:qO h=0:=by unfold qO; rw [h2,if_neg (by simp),h1]
   rw [e0,if_neg (by simp),if_neg (by omega)]
   cases h3:(br (aa a).1 at_ true).2
   ·rw [zo at_ _ 0 (Ap h3),if_pos rfl]
    have e1:fc 0 0 (ab h)=5:=rfl
    rw [e1,if_pos (by omega)]
    exact ⟨rfl,fun h=>by omega⟩
   ·obtain ⟨q1,q2,q3⟩:=sT (aa a).1 at_ true h3
    rw [rP _ 0 _ (b6 a) q1 q2 q3,if_neg (by simp)]
    obtain ⟨hin,hh⟩:=hsp _ q1
    have hz2:=a8 hh
    have hL:ab (br (aa a).1 at_ true).1.2=1+(br (aa a).1 at_ true).1.2.1+(br (aa a).1 at_ true).1.2.2.1:=rfl
    unfold bX at hin
    rw [q2] at hin
    generalize ab (br (aa a).1 at_ true).1.2=L at *
    by_cases h4:L<ab h
    ·have e1:fc 0 L (ab h)=7:=by unfold fc; rw [if_neg (by omega),if_neg (by omega),if_pos h4]
     rw [e1,if_pos h4,if_pos (by omega)]
     exact ⟨rfl,fun h=>by omega⟩
    ·have e1:fc 0 L (ab h)=0:=by unfold fc; rw [if_neg (by omega),if_neg (by omega),if_neg h4]
     rw [e1,if_neg h4,if_neg (by omega)]
     exact ⟨rfl,fun _=>⟨⟨by omega,by omega,by omega,hal⟩,by omega,by omega,h1⟩⟩
  ·have e0:qO h=3:=by unfold qO; rw [h2,if_pos ⟨h1,rfl⟩]
   rw [e0,if_pos rfl]
   have e1:∀ r,fc 3 r (ab h)=3:=fun _=>rfl
   rw [e1,if_pos (by omega)]
   exact ⟨rfl,fun h=>by omega⟩
 ·have e0:qO h=ac h:=by unfold qO; rw [if_neg (fun e=>h1 e.1)]
  have e1:∀ r,fc (ac h) r (ab h)=ac h:=fun _=>by unfold fc; rw [if_pos h1]
  rw [e0,if_pos h1,e1,if_pos h1]
  exact ⟨rfl,fun h=>absurd h h1⟩
end Go.Proofs.YtglchojglcobjaaGreat
