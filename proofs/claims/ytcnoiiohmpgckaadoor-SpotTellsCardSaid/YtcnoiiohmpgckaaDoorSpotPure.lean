
import Derived.Test.YtcnoiiohmpgckaaDoorBase
import Derived.Lib.TrailingZeros
namespace Go.Proofs.YtcnoiiohmpgckaaDoor
open Go
def aa (m:List Int) (k:Int):Bool:=(m.getD (k / 64).toNat 0).toNat.testBit (k % 64).toNat
abbrev lZ (m:List Int):Prop:=∀ x∈m,0≤x∧x<18446744073709551616
theorem cA {m:List Int} (h:lZ m) (i:Nat):0≤m.getD i 0∧m.getD i 0<18446744073709551616:=by
 by_cases hi:i<m.length
 ·have:m.getD i 0=m[i]:=by simp [hi]
  rw [this]
  exact h _ (List.getElem_mem hi)
 ·simp [show m.length≤i by omega]
theorem oM {x:Int} (hx:0≤x) (b:Nat):decide (x / 2 ^ b % 2=1)=x.toNat.testBit b:=by
 obtain ⟨n,rfl⟩:=Int.eq_ofNat_of_zero_le hx
 rw [Nat.testBit_eq_decide_div_mod_eq,Int.toNat_natCast]
 congr 1
 have:((n:Int) / 2 ^ b % 2)=((n / 2 ^ b % 2:Nat):Int):=by push_cast; rfl
 rw [this]
 simp; omega
theorem eh {x:Int} (hx:0≤x) (b:Nat):(x / 2 ^ b).toNat=x.toNat / 2 ^ b:=by
 obtain ⟨n,rfl⟩:=Int.eq_ofNat_of_zero_le hx
 have:((n:Int) / 2 ^ b)=((n / 2 ^ b:Nat):Int):=by push_cast; rfl
 rw [this,Int.toNat_natCast,Int.toNat_natCast]
theorem cT {x:Int} (hx:0≤x) (b:Nat):0≤x / 2 ^ b:=by
 obtain ⟨n,rfl⟩:=Int.eq_ofNat_of_zero_le hx
 have:((n:Int) / 2 ^ b)=((n / 2 ^ b:Nat):Int):=by push_cast; rfl
 rw [this]; exact Int.natCast_nonneg _
theorem ra {x:Int} (hx:0≤x) (b:Nat):x / 2 ^ b≤x:=by
 obtain ⟨n,rfl⟩:=Int.eq_ofNat_of_zero_le hx
 have:((n:Int) / 2 ^ b)=((n / 2 ^ b:Nat):Int):=by push_cast; rfl
 rw [this]
 have:=Nat.div_le_self n (2 ^ b)
 omega
theorem qz (x:Int) (b:Nat):x / 2 ^ b / 2=x / 2 ^ (b+1):=by
 rw [Int.pow_succ,Int.ediv_ediv_of_nonneg (Int.pow_nonneg (by omega))]
theorem jF {n:Nat} (hn:n<18446744073709551616) {i:Nat} (hi:64≤i):n.testBit i=false:=by
 apply Nat.testBit_lt_two_pow
 have:2 ^ 64≤2 ^ i:=Nat.pow_le_pow_right (by omega) hi
 omega
theorem nS {a b:Int} (ha:0≤a) (ha2:a<18446744073709551616) (hb:0≤b) (hb2:b<18446744073709551616) (h:∀ t,t<64→a.toNat.testBit t=b.toNat.testBit t):a=b:=by
 have:a.toNat=b.toNat:=by
  apply Nat.eq_of_testBit_eq
  intro t
  by_cases ht:t<64
  ·exact h t ht
  ·rw [jF (by omega) (by omega),jF (by omega) (by omega)]
 omega
def ae (m:List Int) (n:Int):Int :=
 if n<0∨256<n then 4 else if (m.length:Int)≠(n+63) / 64 then 3 else if n % 64≠0∧m.getD (m.length - 1) 0 / 2 ^ (n % 64).toNat≠0 then 3 else 0
def aH (m:List Int) (n at_ long:Int):Int:=if ae m n≠0 then ae m n else if long<0∨at_<0∨n<at_∨n - at_<long then 4 else 0
theorem bn {m:List Int} {n:Int} (h:ae m n=0):0≤n∧n≤256∧(m.length:Int)=(n+63) / 64∧(n % 64=0∨m.getD (m.length - 1) 0 / 2 ^ (n % 64).toNat=0):=by
 unfold ae at h
 split at h
 ·cases h
 ·split at h
  ·cases h
  ·split at h
   ·cases h
   ·rename_i h1 h2 h3
    refine ⟨by omega,by omega,by omega,?_⟩
    by_cases e:n % 64=0
    ·exact .inl e
    ·exact .inr (Classical.byContradiction fun h4=>h3 ⟨e,h4⟩)
theorem dg {m:List Int} {n at_ long:Int} (h:aH m n at_ long=0):ae m n=0∧0≤long∧0≤at_∧at_≤n∧long≤n - at_:=by
 unfold aH at h
 split at h
 ·rename_i h1; exact absurd h h1
 ·split at h
  ·cases h
  ·rename_i h1 h2
   exact ⟨by omega,by omega,by omega,by omega,by omega⟩
theorem mf {x:Nat} (hx:x<18446744073709551616):∀ (d r:Nat),r+d=64→(∀ i,r≤i→i<64→x.testBit i=false)→x / 2 ^ r=0
 | 0,r,hr,_=>by
  have:r=64:=by omega
  subst this
  exact Nat.div_eq_of_lt hx
 | d+1,r,hr,h=>by
  have ih:=mf hx d (r+1) (by omega) (fun i h1 h2=>h i (by omega) h2)
  have h0:=h r (by omega) (by omega)
  rw [Nat.testBit_eq_decide_div_mod_eq] at h0
  have h0:¬ x / 2 ^ r % 2=1:=of_decide_eq_false h0
  rw [Nat.pow_succ,← Nat.div_div_eq_div_mul] at ih
  omega
theorem l6 {x r i:Nat} (h:x / 2 ^ r=0) (hi:r≤i):x.testBit i=false:=by
 apply Nat.testBit_lt_two_pow
 have h1:x<2 ^ r:=by
  rcases Nat.lt_or_ge x (2 ^ r) with h2 | h2
  ·exact h2
  ·have:=Nat.div_pos h2 (Nat.pow_pos (by omega))
   omega
 exact Nat.lt_of_lt_of_le h1 (Nat.pow_le_pow_right (by omega) hi)
theorem kG {m:List Int} {n:Int} (hw:lZ m) (h:ae m n=0) {k:Int} (h1:n≤k) (h2:k<64 * m.length):aa m k=false:=by
 obtain ⟨n0,n1,n2,n3⟩:=bn h
 have hx:=cA hw (m.length - 1)
 rcases n3 with n3 | n3
 ·omega
 ·by_cases e:n % 64=0
  ·omega
  ·unfold aa
   rw [show (k / 64).toNat=m.length - 1 by omega]
   have n3:(m.getD (m.length - 1) 0).toNat / 2 ^ (n % 64).toNat=0:=by rw [← eh hx.1,n3]; rfl
   exact l6 n3 (by omega)
theorem nF {m:List Int} {n:Int} (hw:lZ m) (n0:0≤n) (n1:n≤256) (n2:(m.length:Int)=(n+63) / 64) (h:∀ k,n≤k→k<64 * m.length→aa m k=false):ae m n=0:=by
 unfold ae
 rw [if_neg (by omega),if_neg (by omega),if_neg]
 rintro ⟨h1,h2⟩
 have hx:=cA hw (m.length - 1)
 apply h2
 have:(m.getD (m.length - 1) 0).toNat / 2 ^ (n % 64).toNat=0:=by
  refine mf (by omega) (64 - (n % 64).toNat) _ (by omega) fun i i1 i2=>?_
  have:=h (64 * (m.length - 1:Int)+i) (by omega) (by omega)
  unfold aa at this
  rwa [show ((64 * (m.length - 1:Int)+i) / 64).toNat=m.length - 1 by omega,show ((64 * (m.length - 1:Int)+(i:Int)) % 64).toNat=i by omega] at this
 have h3:=eh hx.1 (n % 64).toNat
 have h4:=cT hx.1 (n % 64).toNat
 omega
theorem pe {m:List Int} {n:Int} (hw:lZ m) {k:Int} (n0:0≤n) (n1:n≤256) (n2:(m.length:Int)=(n+63) / 64) (h1:n≤k) (h2:k<64 * m.length) (h3:aa m k=true):ae m n=3:=by
 by_cases h:ae m n=0
 ·rw [kG hw h h1 h2] at h3
  cases h3
 ·unfold ae at h ⊢
  rw [if_neg (by omega),if_neg (by omega)] at h ⊢
  split
  ·rfl
  ·rename_i h4
   rw [if_neg h4] at h
   exact absurd rfl h
def ej (p:Int→Bool):Nat→Int→Int
 | 0,k=>k
 | d+1,k=>if p k=true then k else ej p d (k+1)
def af (m:List Int) (n at_:Int) (on:Bool):Int:=ej (fun k=>aa m k == on) (n - at_).toNat at_
theorem iR (p:Int→Bool):∀ (d:Nat) (k:Int),k≤ej p d k∧ej p d k≤k+d∧(∀ j,k≤j→j<ej p d k→p j=false)∧(ej p d k<k+d→p (ej p d k)=true)
 | 0,k=>⟨by simp [ej],by simp [ej],by simp [ej]; omega,by simp [ej]⟩
 | d+1,k=>by
  unfold ej
  split
  ·rename_i h
   exact ⟨by omega,by omega,by omega,fun _=>h⟩
  ·rename_i h
   obtain ⟨h1,h2,h3,h4⟩:=iR p d (k+1)
   refine ⟨by omega,by omega,fun j j1 j2=>?_,fun h5=>h4 (by omega)⟩
   by_cases e:j=k
   ·subst e; simpa using h
   ·exact h3 j (by omega) j2
theorem dk (m:List Int) {n at_:Int} (on:Bool) (h:at_≤n):at_≤af m n at_ on∧af m n at_ on≤n∧(∀ j,at_≤j→j<af m n at_ on→aa m j=!on)∧(af m n at_ on<n→aa m (af m n at_ on)=on):=by
 obtain ⟨h1,h2,h3,h4⟩:=iR (fun k=>aa m k == on) (n - at_).toNat at_
 refine ⟨h1,by unfold af; omega,fun j j1 j2=>?_,fun h5=>?_⟩
 ·have:=h3 j j1 j2
  revert this
  cases aa m j <;> cases on <;> simp
 ·have:=h4 (by unfold af at h5; omega)
  unfold af
  simpa using this
theorem fY (m:List Int) {n at_ k:Int} (on:Bool) (h1:at_≤k) (h2:k≤n) (h3:∀ j,at_≤j→j<k→aa m j=!on) (h4:k<n→aa m k=on):af m n at_ on=k:=by
 obtain ⟨g1,g2,g3,g4⟩:=dk m (n:=n) (at_:=at_) on (by omega)
 generalize af m n at_ on=r at *
 by_cases e:r=k
 ·exact e
 exfalso
 have hb:∀ b:Bool,b=!b→False:=by decide
 by_cases l:r<k
 ·exact hb on ((g4 (by omega)).symm.trans (h3 r g1 l))
 ·exact hb on ((h4 (by omega)).symm.trans (g3 k h1 (by omega)))
def cS (x:Int) (on:Bool):Int:=if on=true then x else 18446744073709551615 - x
theorem mT {x:Int} (h0:0≤x) (h1:x<18446744073709551616) (on:Bool) {i:Nat} (hi:i<64):(cS x on).toNat.testBit i=(x.toNat.testBit i == on):=by
 unfold cS
 cases on
 ·obtain ⟨n,rfl⟩:=Int.eq_ofNat_of_zero_le h0
  have e:(18446744073709551615 - (n:Int)).toNat=2 ^ 64 - (n+1):=by omega
  simp only [Bool.false_eq_true,if_false,Int.toNat_natCast,e]
  rw [Nat.testBit_two_pow_sub_succ (by omega)]
  cases n.testBit i <;> simp [hi]
 ·simp
theorem re {w:Nat} (h0:w≠0) (h:w<18446744073709551616):Lib.ctz 64 w<64∧w.testBit (Lib.ctz 64 w)=true∧∀ i,i<Lib.ctz 64 w→w.testBit i=false:=by
 have e:Lib.ctz 64 w=Lib.ctzFrom 64 w:=by simp [Lib.ctz,h0]
 obtain ⟨q,hq,hk⟩:=Lib.ctzFrom_spec 64 w (by omega) h
 rw [e]
 generalize Lib.ctzFrom 64 w=c at *
 subst hq
 refine ⟨hk,?_,fun i hi=>?_⟩
 ·rw [Nat.testBit_two_pow_mul]
  simp
 ·rw [Nat.testBit_two_pow_mul]
  simp; omega
theorem p6 {m:List Int} (hw:lZ m) {n at_:Int} {on:Bool} (h0:0≤at_) (h1:at_<n) (hne:cS (m.getD (at_ / 64).toNat 0) on / 2 ^ (at_ % 64).toNat≠0) :
  af m n at_ on=min n (at_+(Lib.ctz 64 (cS (m.getD (at_ / 64).toNat 0) on / 2 ^ (at_ % 64).toNat).toNat:Nat)):=by
 have hx:=cA hw (at_ / 64).toNat
 have hf:0≤cS (m.getD (at_ / 64).toNat 0) on∧cS (m.getD (at_ / 64).toNat 0) on<18446744073709551616:=by unfold cS; split <;> omega
 have hb:=fun i hi=>mT hx.1 hx.2 on (i:=i) hi
 have e:=eh hf.1 (at_ % 64).toNat
 have hp:=cT hf.1 (at_ % 64).toNat
 have hle:=ra hf.1 (at_ % 64).toNat
 obtain ⟨c1,c2,c3⟩:=re (w:=(cS (m.getD (at_ / 64).toNat 0) on / 2 ^ (at_ % 64).toNat).toNat) (by omega) (by omega)
 rw [e] at c1 c2 c3 ⊢
 generalize Lib.ctz 64 ((cS (m.getD (at_ / 64).toNat 0) on).toNat / 2 ^ (at_ % 64).toNat)=c at *
 rw [Nat.testBit_div_two_pow] at c2
 have hin:c+(at_ % 64).toNat<64:=by
  rcases Nat.lt_or_ge (c+(at_ % 64).toNat) 64 with h | h
  ·exact h
  ·rw [jF (by omega) h] at c2; cases c2
 have key:∀ i:Nat,i≤c→aa m (at_+i)=(m.getD (at_ / 64).toNat 0).toNat.testBit (i+(at_ % 64).toNat):=fun i hi=>by
  unfold aa
  rw [show ((at_+(i:Int)) / 64).toNat=(at_ / 64).toNat by omega,show ((at_+(i:Int)) % 64).toNat=i+(at_ % 64).toNat by omega]
 apply fY
 ·omega
 ·omega
 ·intro j j1 j2
  have hj:=key (j - at_).toNat (by omega)
  rw [show at_+((j - at_).toNat:Int)=j by omega] at hj
  have:=c3 (j - at_).toNat (by omega)
  rw [Nat.testBit_div_two_pow,hb _ (by omega),← hj] at this
  revert this
  cases aa m j <;> cases on <;> simp
 ·intro h5
  rw [Int.min_eq_right (by omega)]
  have hj:=key c (by omega)
  rw [hb _ hin,← hj] at c2
  simpa using c2
theorem ph {m:List Int} (hw:lZ m) {at_:Int} {on:Bool} (h0:0≤at_) (hz:cS (m.getD (at_ / 64).toNat 0) on / 2 ^ (at_ % 64).toNat=0) :
  ∀ j,at_≤j→j<at_+(64 - at_ % 64)→aa m j=!on:=by
 intro j j1 j2
 have hx:=cA hw (at_ / 64).toNat
 have hf:0≤cS (m.getD (at_ / 64).toNat 0) on∧cS (m.getD (at_ / 64).toNat 0) on<18446744073709551616:=by unfold cS; split <;> omega
 have hb:=mT hx.1 hx.2 on (i:=(j % 64).toNat) (by omega)
 have e:=eh hf.1 (at_ % 64).toNat
 rw [hz] at e
 have h9:=l6 e.symm (i:=(j % 64).toNat) (by omega)
 rw [h9] at hb
 unfold aa
 rw [show (j / 64).toNat=(at_ / 64).toNat by omega]
 revert hb
 cases Nat.testBit (m.getD (at_ / 64).toNat 0).toNat (j % 64).toNat <;> cases on <;> simp
def bF (f:Int→Bool):Nat→Int→Int
 | 0,_=>0
 | d+1,k=>(if f k=true then 1 else 0)+bF f d (k+1)
theorem gV (f:Int→Bool):∀ (d:Nat) (k:Int) (e:Nat),e≤d→(∀ j,k≤j→j<k+e→f j=false)→bF f d k=bF f (d - e) (k+e)
 | d,k,0,_,_=>by simp
 | 0,k,e+1,h,_=>by omega
 | d+1,k,e+1,h,hp=>by
  rw [bF,if_neg (by rw [hp k (by omega) (by omega)]; simp),gV f d (k+1) e (by omega) (fun j j1 j2=>hp j (by omega) (by omega)),Int.zero_add]
  congr 1 <;> omega
theorem px (f:Int→Bool) (d:Nat) (k:Int) (h:∀ j,k≤j→j<k+d→f j=false):bF f d k=0:=by
 rw [gV f d k d (Nat.le_refl _) h,Nat.sub_self]
 rfl
def ns (v:Int) (b:Nat) (on:Bool):Int:=if on=true then (v.toNat ||| 2 ^ b:Nat) else ((v.toNat ||| 2 ^ b) ^^^ 2 ^ b:Nat)
theorem qM {v:Int} (h0:0≤v) (h1:v<18446744073709551616) {b:Nat} (hb:b<64) (on:Bool):0≤ns v b on∧ns v b on<18446744073709551616:=by
 have hp:2 ^ b<2 ^ 64:=Nat.pow_lt_pow_right (by omega) hb
 have h2:v.toNat ||| 2 ^ b<2 ^ 64:=Nat.or_lt_two_pow (by omega) hp
 have h3:(v.toNat ||| 2 ^ b) ^^^ 2 ^ b<2 ^ 64:=Nat.xor_lt_two_pow h2 hp
 unfold ns
 split
 ·omega
 ·omega
theorem pO {v:Int} (b:Nat) (on:Bool) (i:Nat):(ns v b on).toNat.testBit i=if i=b then on else v.toNat.testBit i:=by
 unfold ns
 cases on
 ·simp only [Bool.false_eq_true,if_false,Int.toNat_natCast,Nat.testBit_xor,Nat.testBit_or,Nat.testBit_two_pow]
  by_cases e:i=b
  ·simp [e]
  ·simp [e,Ne.symm e]
 ·simp only [if_true,Int.toNat_natCast,Nat.testBit_or,Nat.testBit_two_pow]
  by_cases e:i=b
  ·simp [e]
  ·simp [e,Ne.symm e]
def dQ (m:List Int) (at_:Int) (on:Bool):Nat→List Int
 | 0=>m
 | i+1=>(dQ m at_ on i).set ((at_+i) / 64).toNat (ns ((dQ m at_ on i).getD ((at_+i) / 64).toNat 0) ((at_+i) % 64).toNat on)
theorem cO (m:List Int) (at_:Int) (on:Bool):∀ i,(dQ m at_ on i).length=m.length
 | 0=>rfl
 | i+1=>by rw [dQ,List.length_set,cO m at_ on i]
theorem iP {m:List Int} (hw:lZ m) (at_:Int) (on:Bool):∀ i,lZ (dQ m at_ on i)
 | 0=>hw
 | i+1=>by
  intro x hx
  rw [dQ] at hx
  have ih:=iP hw at_ on i
  rcases List.mem_or_eq_of_mem_set hx with hx | rfl
  ·exact ih x hx
  ·have:=cA ih ((at_+i) / 64).toNat
   exact qM this.1 this.2 (by omega) on
theorem gK (l:List Int) (i j:Nat) (v d:Int) (h:i<l.length):(l.set i v).getD j d=if i=j then v else l.getD j d:=by
 simp only [List.getD_eq_getElem?_getD,List.getElem?_set]
 by_cases e:i=j
 ·subst e; simp [h]
 ·simp [e]
theorem mt {m:List Int} (hw:lZ m) {at_:Int} (on:Bool) (h0:0≤at_):∀ (i:Nat),at_+i≤64 * m.length→∀ k,0≤k→aa (dQ m at_ on i) k=if at_≤k∧k<at_+i then on else aa m k
 | 0,_,k,_=>by
  rw [if_neg (by omega)]
  rfl
 | i+1,h,k,hk=>by
  have ih:=mt hw on h0 i (by omega) k hk
  have hl:=cO m at_ on i
  have hg:=cA (iP hw at_ on i) ((at_+i) / 64).toNat
  have e:aa (dQ m at_ on (i+1)) k=if k=at_+i then on else aa (dQ m at_ on i) k:=by
   unfold aa
   rw [dQ,gK _ _ _ _ _ (by omega)]
   by_cases e1:((at_+i) / 64).toNat=(k / 64).toNat
   ·rw [if_pos e1,pO,← e1]
    by_cases e2:k=at_+i
    ·rw [if_pos e2,if_pos (by omega)]
    ·rw [if_neg e2,if_neg (by omega)]
   ·rw [if_neg e1,if_neg (by omega)]
  rw [e,ih]
  by_cases e2:k=at_+i
  ·rw [if_pos e2,if_pos (by omega)]
  ·rw [if_neg e2]
   by_cases e3:at_≤k∧k<at_+i
   ·rw [if_pos e3,if_pos (by omega)]
   ·rw [if_neg e3,if_neg (by omega)]
def ei (g:Nat→Bool):Nat→Nat→Nat
 | 0,_=>0
 | s+1,b=>2 * ei g s (b+1)+(g b).toNat
theorem eV (g:Nat→Bool):∀ (s b t:Nat),(ei g s b).testBit t=(decide (t<s)&&g (b+t))
 | 0,b,t=>by simp [ei]
 | s+1,b,0=>by
  rw [ei,Nat.testBit_zero]
  cases g b <;> simp <;> omega
 | s+1,b,t+1=>by
  rw [ei,Nat.testBit_succ,show (2 * ei g s (b+1)+(g b).toNat) / 2=ei g s (b+1) by cases g b <;> simp <;> omega,eV g s (b+1) t,show b+1+t=b+(t+1) by omega]
  simp
theorem iE (g:Nat→Bool):∀ s b,ei g s b<2 ^ s
 | 0,_=>by simp [ei]
 | s+1,b=>by
  have:=iE g s (b+1)
  have h2:(g b).toNat≤1:=by cases g b <;> simp
  rw [ei,Nat.pow_succ]
  omega
def kE (n:Nat) (f:Int→Bool) (k j:Nat):Nat:=ei (fun i=>decide (i<n)&&f i) (64 * (j+1) - max k (64 * j)) (max k (64 * j))
def gG (n:Nat) (f:Int→Bool) (k:Nat):List Int:=(List.range ((n+63) / 64)).map fun j=>(kE n f k j:Int)
theorem dj (n:Nat) (f:Int→Bool) (k:Nat):(gG n f k).length=(n+63) / 64:=by simp [gG]
theorem ls (n:Nat) (f:Int→Bool) (k j:Nat) (h:j<(n+63) / 64):(gG n f k).getD j 0=(kE n f k j:Int):=by
 simp [gG,h]
theorem rB (n:Nat) (f:Int→Bool) (k j:Nat):kE n f k j<18446744073709551616:=by
 have h:=iE (fun i=>decide (i<n)&&f i) (64 * (j+1) - max k (64 * j)) (max k (64 * j))
 have:2 ^ (64 * (j+1) - max k (64 * j))≤2 ^ 64:=Nat.pow_le_pow_right (by omega) (by omega)
 unfold kE
 omega
theorem qR (n:Nat) (f:Int→Bool) (k:Nat):2 * kE n f (k+1) (k / 64)<18446744073709551615:=by
 have h:=iE (fun i=>decide (i<n)&&f i) (64 * (k / 64+1) - max (k+1) (64 * (k / 64))) (max (k+1) (64 * (k / 64)))
 have:2 ^ (64 * (k / 64+1) - max (k+1) (64 * (k / 64)))≤2 ^ 63:=Nat.pow_le_pow_right (by omega) (by omega)
 unfold kE
 omega
theorem qT (n:Nat) (f:Int→Bool):gG n f n=List.replicate ((n+63) / 64) 0:=by
 unfold gG
 rw [List.eq_replicate_iff]
 refine ⟨by simp,fun x hx=>?_⟩
 obtain ⟨j,hj,rfl⟩:=List.mem_map.1 hx
 have:kE n f n j=0:=by
  apply Nat.eq_of_testBit_eq
  intro t
  unfold kE
  rw [eV]
  simp
  omega
 rw [this]
 rfl
theorem pZ (n:Nat) (f:Int→Bool) (k:Nat) (hk:k<n):(gG n f (k+1)).set (k / 64) (2 * (kE n f (k+1) (k / 64):Int)+if f k=true then 1 else 0)=gG n f k:=by
 have h64:k / 64<(n+63) / 64:=by omega
 apply List.ext_getElem?
 intro j
 rw [List.getElem?_set]
 simp only [dj]
 by_cases hj:j<(n+63) / 64
 ·have hr:(gG n f k)[j]?=some (kE n f k j:Int):=by simp [gG,hj]
  have hr1:(gG n f (k+1))[j]?=some (kE n f (k+1) j:Int):=by simp [gG,hj]
  rw [hr,hr1]
  by_cases e:k / 64=j
  ·subst e
   simp only [if_true,h64]
   congr 1
   have key:kE n f k (k / 64)=2 * kE n f (k+1) (k / 64)+(f k).toNat:=by
    have e1:max k (64 * (k / 64))=k:=by omega
    have e2:max (k+1) (64 * (k / 64))=k+1:=by omega
    unfold kE
    rw [e1,e2,show 64 * (k / 64+1) - k=(64 * (k / 64+1) - (k+1))+1 by omega,ei]
    simp [hk]
   rw [key]
   cases f k <;> simp
  ·rw [if_neg e]
   have key:kE n f (k+1) j=kE n f k j:=by
    unfold kE
    rcases Nat.lt_or_ge k (64 * j) with h | h
    ·rw [show max (k+1) (64 * j)=64 * j by omega,show max k (64 * j)=64 * j by omega]
    ·rw [show 64 * (j+1) - max (k+1) (64 * j)=0 by omega,show 64 * (j+1) - max k (64 * j)=0 by omega]
     rfl
   rw [key]
 ·have hn:∀ q,(gG n f q)[j]?=none:=fun q=>List.getElem?_eq_none (by rw [dj]; omega)
  rw [hn,hn,if_neg (by omega)]
theorem qU (n:Nat) (f:Int→Bool) (k:Int) (hk:0≤k) (h2:k<n):aa (gG n f 0) k=f k:=by
 unfold aa
 rw [ls _ _ _ _ (by omega),Int.toNat_natCast]
 unfold kE
 rw [eV]
 have e:max 0 (64 * (k / 64).toNat)+(k % 64).toNat=k.toNat:=by omega
 rw [e]
 have e2:((k.toNat:Nat):Int)=k:=by omega
 simp only [e2]
 have h3:(k % 64).toNat<64 * ((k / 64).toNat+1) - max 0 (64 * (k / 64).toNat):=by omega
 have h4:k.toNat<n:=by omega
 rw [decide_eq_true h3,decide_eq_true h4]
 simp
theorem p3 (n:Nat) (f:Int→Bool) (k:Int) (h2:(n:Int)≤k):aa (gG n f 0) k=false:=by
 unfold aa
 by_cases h:(k / 64).toNat<(n+63) / 64
 ·rw [ls _ _ _ _ h,Int.toNat_natCast]
  unfold kE
  rw [eV]
  have e:max 0 (64 * (k / 64).toNat)+(k % 64).toNat=k.toNat:=by omega
  rw [e]
  have h4:¬ k.toNat<n:=by omega
  simp [h4]
 ·have:(gG n f 0).getD (k / 64).toNat 0=0:=by
   rw [List.getD_eq_getElem?_getD,List.getElem?_eq_none (by rw [dj]; omega)]
   rfl
  rw [this]
  simp
theorem qS (n:Nat) (f:Int→Bool) (k:Nat):lZ (gG n f k):=by
 intro x hx
 obtain ⟨j,_,rfl⟩:=List.mem_map.1 hx
 have:=rB n f k j
 omega
theorem nT {a b:List Int} (hl:a.length=b.length) (ha:lZ a) (hb:lZ b) (h:∀ k:Int,0≤k→k<64 * a.length→aa a k=aa b k):a=b:=by
 apply List.ext_getElem hl
 intro j j1 j2
 have h1:=ha _ (List.getElem_mem j1)
 have h2:=hb _ (List.getElem_mem j2)
 refine nS h1.1 h1.2 h2.1 h2.2 fun t ht=>?_
 have:=h (64 * j+t) (by omega) (by omega)
 unfold aa at this
 rw [show ((64 * (j:Int)+(t:Int)) / 64).toNat=j by omega,show ((64 * (j:Int)+(t:Int)) % 64).toNat=t by omega] at this
 simpa [j1,j2] using this
theorem pN {m:List Int} (hw:lZ m) {n at_ long:Int} (on:Bool) (hz:aH m n at_ long=0) (g:Int→Bool) (hg:∀ k,0≤k→k<n→g k=if at_≤k∧k<at_+long then on else aa m k) :
  dQ m at_ on long.toNat=gG n.toNat g 0:=by
 obtain ⟨h1,h2,h3,h4,h5⟩:=dg hz
 obtain ⟨n0,n1,n2,_⟩:=bn h1
 refine nT (by rw [cO,dj]; omega) (iP hw _ _ _) (qS _ _ _) fun k k0 k1=>?_
 rw [cO] at k1
 rw [mt hw on h3 long.toNat (by omega) k k0]
 by_cases hk:k<n
 ·rw [qU _ _ _ k0 (by omega),hg k k0 hk,show at_+((long.toNat:Nat):Int)=at_+long by omega]
 ·rw [p3 _ _ _ (by omega),if_neg (by omega)]
  exact kG hw h1 (by omega) k1
def kN (out:List (Int×Int)):List (Int×Int):=out.set (out.length - 1) ((out.getD (out.length - 1) (0,0)).1,(out.getD (out.length - 1) (0,0)).2+1)
def aC (f:Int→Bool):Nat→Int→List (Int×Int)→List (Int×Int)
 | 0,_,out=>out
 | d+1,k,out=>aC f d (k+1) (if f k=true then (if (decide (0<k)&&f (k - 1))=true then kN out else out++[(k,1)]) else out)
theorem n4 (out:List (Int×Int)) (a l:Int):kN (out++[(a,l)])=out++[(a,l+1)]:=by
 unfold kN
 simp
theorem lS (out:List (Int×Int)):(kN out).length=out.length:=by simp [kN]
theorem iS (f:Int→Bool) (out:List (Int×Int)):∀ (d:Nat) (k:Int) (e:Nat),e≤d→(∀ j,k≤j→j<k+e→f j=false)→aC f d k out=aC f (d - e) (k+e) out
 | d,k,0,_,_=>by simp
 | 0,k,e+1,h,_=>by omega
 | d+1,k,e+1,h,hp=>by
  rw [aC,if_neg (by rw [hp k (by omega) (by omega)]; simp),iS f out d (k+1) e (by omega) (fun j j1 j2=>hp j (by omega) (by omega))]
  congr 1 <;> omega
theorem iT (f:Int→Bool) (out:List (Int×Int)) (a:Int):∀ (d:Nat) (k l:Int) (e:Nat),0<k→f (k - 1)=true→e≤d→(∀ j,k≤j→j<k+e→f j=true)→aC f d k (out++[(a,l)])=aC f (d - e) (k+e) (out++[(a,l+e)])
 | d,k,l,0,_,_,_,_=>by simp
 | 0,k,l,e+1,_,_,h,_=>by omega
 | d+1,k,l,e+1,h0,h1,h,hp=>by
  have hk:=hp k (by omega) (by omega)
  rw [aC,if_pos hk,if_pos (by rw [h1]; simp; omega),n4,iT f out a d (k+1) (l+1) e (by omega) (by rw [show k+1 - 1=k by omega]; exact hk) (by omega) (fun j j1 j2=>hp j (by omega) (by omega))]
  rw [show d+1 - (e+1)=d - e by omega,show k+1+(e:Int)=k+((e+1:Nat):Int) by omega,show l+1+(e:Int)=l+((e+1:Nat):Int) by omega]
theorem o7 (f:Int→Bool) (out:List (Int×Int)) (d:Nat) (k:Int) (e:Nat) (h0:0≤k) (h1:(decide (0<k)&&f (k - 1))=false) (h2:0<e) (h:e≤d) (hp:∀ j,k≤j→j<k+e→f j=true) :
  aC f d k out=aC f (d - e) (k+e) (out++[(k,(e:Int))]):=by
 obtain ⟨d,rfl⟩:=Nat.exists_eq_add_of_lt (show 0<d by omega)
 have hk:=hp k (by omega) (by omega)
 rw [show 0+d+1=d+1 by omega,aC,if_pos hk,if_neg (by rw [h1]; simp),iT f out k d (k+1) 1 (e - 1) (by omega) (by rw [show k+1 - 1=k by omega]; exact hk) (by omega) (fun j j1 j2=>hp j (by omega) (by omega))]
 rw [show d+1 - e=d - (e - 1) by omega,show k+1+((e - 1:Nat):Int)=k+(e:Int) by omega,show 1+((e - 1:Nat):Int)=(e:Int) by omega]
end Go.Proofs.YtcnoiiohmpgckaaDoor
