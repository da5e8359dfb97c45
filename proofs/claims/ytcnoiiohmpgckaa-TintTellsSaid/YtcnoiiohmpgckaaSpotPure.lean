
import Derived.Test.YtcnoiiohmpgckaaBase
import Derived.Lib.TrailingZeros
namespace Go.Proofs.Ytcnoiiohmpgckaa
open Go
def ev (m:List Int) (k:Int):Bool:=(m.getD (k / 64).toNat 0).toNat.testBit (k % 64).toNat
abbrev vr (m:List Int):Prop:=∀ x∈m,0≤x∧x<18446744073709551616
theorem gO {m:List Int} (h:vr m) (i:Nat):0≤m.getD i 0∧m.getD i 0<18446744073709551616:=by
 by_cases hi:i<m.length
 ·have:m.getD i 0=m[i]:=by simp [hi]
  rw [this]
  exact h _ (List.getElem_mem hi)
 ·simp [show m.length≤i by omega]
theorem xt {x:Int} (hx:0≤x) (b:Nat):decide (x / 2 ^ b % 2=1)=x.toNat.testBit b:=by
 obtain ⟨n,rfl⟩:=Int.eq_ofNat_of_zero_le hx
 rw [Nat.testBit_eq_decide_div_mod_eq,Int.toNat_natCast]
 congr 1
 have:((n:Int) / 2 ^ b % 2)=((n / 2 ^ b % 2:Nat):Int):=by push_cast; rfl
 rw [this]
 simp; omega
theorem mX {x:Int} (hx:0≤x) (b:Nat):(x / 2 ^ b).toNat=x.toNat / 2 ^ b:=by
 obtain ⟨n,rfl⟩:=Int.eq_ofNat_of_zero_le hx
 have:((n:Int) / 2 ^ b)=((n / 2 ^ b:Nat):Int):=by push_cast; rfl
 rw [this,Int.toNat_natCast,Int.toNat_natCast]
theorem kZ {x:Int} (hx:0≤x) (b:Nat):0≤x / 2 ^ b:=by
 obtain ⟨n,rfl⟩:=Int.eq_ofNat_of_zero_le hx
 have:((n:Int) / 2 ^ b)=((n / 2 ^ b:Nat):Int):=by push_cast; rfl
 rw [this]; exact Int.natCast_nonneg _
theorem sh {n:Nat} (hn:n<18446744073709551616) {i:Nat} (hi:64≤i):n.testBit i=false:=by
 apply Nat.testBit_lt_two_pow
 have:2 ^ 64≤2 ^ i:=Nat.pow_le_pow_right (by omega) hi
 omega
theorem tE {a b:Int} (ha:0≤a) (ha2:a<18446744073709551616) (hb:0≤b) (hb2:b<18446744073709551616) (h:∀ t,t<64→a.toNat.testBit t=b.toNat.testBit t):a=b:=by
 have:a.toNat=b.toNat:=by
  apply Nat.eq_of_testBit_eq
  intro t
  by_cases ht:t<64
  ·exact h t ht
  ·rw [sh (by omega) (by omega),sh (by omega) (by omega)]
 omega
def bq (m:List Int) (n:Int):Int :=
 if n<0∨256<n then 4 else if (m.length:Int)≠(n+63) / 64 then 3 else if n % 64≠0∧m.getD (m.length - 1) 0 / 2 ^ (n % 64).toNat≠0 then 3 else 0
def de (m:List Int) (n at_ long:Int):Int:=if bq m n≠0 then bq m n else if long<0∨at_<0∨n<at_∨n - at_<long then 4 else 0
theorem et {m:List Int} {n:Int} (h:bq m n=0):0≤n∧n≤256∧(m.length:Int)=(n+63) / 64∧(n % 64=0∨m.getD (m.length - 1) 0 / 2 ^ (n % 64).toNat=0):=by
 unfold bq at h
 split at h
 ·cases h
 ·split at h
  ·cases h
  ·split at h
   ·cases h
   ·rename_i h1 h2 h3
    refine ⟨by omega,by omega,by omega,?_⟩
    by_cases e:n % 64=0
    ·exact .inl e
    ·exact .inr (Classical.byContradiction fun h4=>h3 ⟨e,h4⟩)
theorem iv {m:List Int} {n at_ long:Int} (h:de m n at_ long=0):bq m n=0∧0≤long∧0≤at_∧at_≤n∧long≤n - at_:=by
 unfold de at h
 split at h
 ·rename_i h1; exact absurd h h1
 ·split at h
  ·cases h
  ·rename_i h1 h2
   exact ⟨by omega,by omega,by omega,by omega,by omega⟩
theorem qO {x:Nat} (hx:x<18446744073709551616):∀ (d r:Nat),r+d=64→(∀ i,r≤i→i<64→x.testBit i=false)→x / 2 ^ r=0
 | 0,r,hr,_=>by
  have:r=64:=by omega
  subst this
  exact Nat.div_eq_of_lt hx
 | d+1,r,hr,h=>by
  have ih:=qO hx d (r+1) (by omega) (fun i h1 h2=>h i (by omega) h2)
  have h0:=h r (by omega) (by omega)
  rw [Nat.testBit_eq_decide_div_mod_eq] at h0
  have h0:¬ x / 2 ^ r % 2=1:=of_decide_eq_false h0
  rw [Nat.pow_succ,← Nat.div_div_eq_div_mul] at ih
  omega
theorem vt {x r i:Nat} (h:x / 2 ^ r=0) (hi:r≤i):x.testBit i=false:=by
 apply Nat.testBit_lt_two_pow
 have h1:x<2 ^ r:=by
  rcases Nat.lt_or_ge x (2 ^ r) with h2 | h2
  ·exact h2
  ·have:=Nat.div_pos h2 (Nat.pow_pos (by omega))
   omega
 exact Nat.lt_of_lt_of_le h1 (Nat.pow_le_pow_right (by omega) hi)
theorem uV {m:List Int} {n:Int} (hw:vr m) (h:bq m n=0) {k:Int} (h1:n≤k) (h2:k<64 * m.length):ev m k=false:=by
 obtain ⟨n0,n1,n2,n3⟩:=et h
 have hx:=gO hw (m.length - 1)
 rcases n3 with n3 | n3
 ·omega
 ·by_cases e:n % 64=0
  ·omega
  ·unfold ev
   rw [show (k / 64).toNat=m.length - 1 by omega]
   have n3:(m.getD (m.length - 1) 0).toNat / 2 ^ (n % 64).toNat=0:=by rw [← mX hx.1,n3]; rfl
   exact vt n3 (by omega)
theorem tj {m:List Int} {n:Int} (hw:vr m) (n0:0≤n) (n1:n≤256) (n2:(m.length:Int)=(n+63) / 64) (h:∀ k,n≤k→k<64 * m.length→ev m k=false):bq m n=0:=by
 unfold bq
 rw [if_neg (by omega),if_neg (by omega),if_neg]
 rintro ⟨h1,h2⟩
 have hx:=gO hw (m.length - 1)
 apply h2
 have:(m.getD (m.length - 1) 0).toNat / 2 ^ (n % 64).toNat=0:=by
  refine qO (by omega) (64 - (n % 64).toNat) _ (by omega) fun i i1 i2=>?_
  have:=h (64 * (m.length - 1:Int)+i) (by omega) (by omega)
  unfold ev at this
  rwa [show ((64 * (m.length - 1:Int)+i) / 64).toNat=m.length - 1 by omega,show ((64 * (m.length - 1:Int)+(i:Int)) % 64).toNat=i by omega] at this
 have h3:=mX hx.1 (n % 64).toNat
 have h4:=kZ hx.1 (n % 64).toNat
 omega
def sQ (v:Int) (b:Nat) (on:Bool):Int:=if on=true then (v.toNat ||| 2 ^ b:Nat) else ((v.toNat ||| 2 ^ b) ^^^ 2 ^ b:Nat)
theorem xb {v:Int} (h0:0≤v) (h1:v<18446744073709551616) {b:Nat} (hb:b<64) (on:Bool):0≤sQ v b on∧sQ v b on<18446744073709551616:=by
 have hp:2 ^ b<2 ^ 64:=Nat.pow_lt_pow_right (by omega) hb
 have h2:v.toNat ||| 2 ^ b<2 ^ 64:=Nat.or_lt_two_pow (by omega) hp
 have h3:(v.toNat ||| 2 ^ b) ^^^ 2 ^ b<2 ^ 64:=Nat.xor_lt_two_pow h2 hp
 unfold sQ
 split
 ·omega
 ·omega
theorem vL {v:Int} (b:Nat) (on:Bool) (i:Nat):(sQ v b on).toNat.testBit i=if i=b then on else v.toNat.testBit i:=by
 unfold sQ
 cases on
 ·simp only [Bool.false_eq_true,if_false,Int.toNat_natCast,Nat.testBit_xor,Nat.testBit_or,Nat.testBit_two_pow]
  by_cases e:i=b
  ·simp [e]
  ·simp [e,Ne.symm e]
 ·simp only [if_true,Int.toNat_natCast,Nat.testBit_or,Nat.testBit_two_pow]
  by_cases e:i=b
  ·simp [e]
  ·simp [e,Ne.symm e]
def fJ (m:List Int) (at_:Int) (on:Bool):Nat→List Int
 | 0=>m
 | i+1=>(fJ m at_ on i).set ((at_+i) / 64).toNat (sQ ((fJ m at_ on i).getD ((at_+i) / 64).toNat 0) ((at_+i) % 64).toNat on)
theorem eq (m:List Int) (at_:Int) (on:Bool):∀ i,(fJ m at_ on i).length=m.length
 | 0=>rfl
 | i+1=>by rw [fJ,List.length_set,eq m at_ on i]
theorem lR {m:List Int} (hw:vr m) (at_:Int) (on:Bool):∀ i,vr (fJ m at_ on i)
 | 0=>hw
 | i+1=>by
  intro x hx
  rw [fJ] at hx
  have ih:=lR hw at_ on i
  rcases List.mem_or_eq_of_mem_set hx with hx | rfl
  ·exact ih x hx
  ·have:=gO ih ((at_+i) / 64).toNat
   exact xb this.1 this.2 (by omega) on
theorem ke (l:List Int) (i j:Nat) (v d:Int) (h:i<l.length):(l.set i v).getD j d=if i=j then v else l.getD j d:=by
 simp only [List.getD_eq_getElem?_getD,List.getElem?_set]
 by_cases e:i=j
 ·subst e; simp [h]
 ·simp [e]
theorem rf {m:List Int} (hw:vr m) {at_:Int} (on:Bool) (h0:0≤at_):∀ (i:Nat),at_+i≤64 * m.length→∀ k,0≤k→ev (fJ m at_ on i) k=if at_≤k∧k<at_+i then on else ev m k
 | 0,_,k,_=>by
  rw [if_neg (by omega)]
  rfl
 | i+1,h,k,hk=>by
  have ih:=rf hw on h0 i (by omega) k hk
  have hl:=eq m at_ on i
  have hg:=gO (lR hw at_ on i) ((at_+i) / 64).toNat
  have e:ev (fJ m at_ on (i+1)) k=if k=at_+i then on else ev (fJ m at_ on i) k:=by
   unfold ev
   rw [fJ,ke _ _ _ _ _ (by omega)]
   by_cases e1:((at_+i) / 64).toNat=(k / 64).toNat
   ·rw [if_pos e1,vL,← e1]
    by_cases e2:k=at_+i
    ·rw [if_pos e2,if_pos (by omega)]
    ·rw [if_neg e2,if_neg (by omega)]
   ·rw [if_neg e1,if_neg (by omega)]
  rw [e,ih]
  by_cases e2:k=at_+i
  ·rw [if_pos e2,if_pos (by omega)]
  ·rw [if_neg e2]
   by_cases e3:at_≤k∧k<at_+i
   ·rw [if_pos e3,if_pos (by omega)]
   ·rw [if_neg e3,if_neg (by omega)]
def gk (g:Nat→Bool):Nat→Nat→Nat
 | 0,_=>0
 | s+1,b=>2 * gk g s (b+1)+(g b).toNat
theorem fF (g:Nat→Bool):∀ (s b t:Nat),(gk g s b).testBit t=(decide (t<s)&&g (b+t))
 | 0,b,t=>by simp [gk]
 | s+1,b,0=>by
  rw [gk,Nat.testBit_zero]
  cases g b <;> simp <;> omega
 | s+1,b,t+1=>by
  rw [gk,Nat.testBit_succ,show (2 * gk g s (b+1)+(g b).toNat) / 2=gk g s (b+1) by cases g b <;> simp <;> omega,fF g s (b+1) t,show b+1+t=b+(t+1) by omega]
  simp
theorem lC (g:Nat→Bool):∀ s b,gk g s b<2 ^ s
 | 0,_=>by simp [gk]
 | s+1,b=>by
  have:=lC g s (b+1)
  have h2:(g b).toNat≤1:=by cases g b <;> simp
  rw [gk,Nat.pow_succ]
  omega
def nk (n:Nat) (f:Int→Bool) (k j:Nat):Nat:=gk (fun i=>decide (i<n)&&f i) (64 * (j+1) - max k (64 * j)) (max k (64 * j))
def jg (n:Nat) (f:Int→Bool) (k:Nat):List Int:=(List.range ((n+63) / 64)).map fun j=>(nk n f k j:Int)
theorem d6 (n:Nat) (f:Int→Bool) (k:Nat):(jg n f k).length=(n+63) / 64:=by simp [jg]
theorem pX (n:Nat) (f:Int→Bool) (k j:Nat) (h:j<(n+63) / 64):(jg n f k).getD j 0=(nk n f k j:Int):=by
 simp [jg,h]
theorem xW (n:Nat) (f:Int→Bool) (k j:Nat):nk n f k j<18446744073709551616:=by
 have h:=lC (fun i=>decide (i<n)&&f i) (64 * (j+1) - max k (64 * j)) (max k (64 * j))
 have:2 ^ (64 * (j+1) - max k (64 * j))≤2 ^ 64:=Nat.pow_le_pow_right (by omega) (by omega)
 unfold nk
 omega
theorem xg (n:Nat) (f:Int→Bool) (k:Nat):2 * nk n f (k+1) (k / 64)<18446744073709551615:=by
 have h:=lC (fun i=>decide (i<n)&&f i) (64 * (k / 64+1) - max (k+1) (64 * (k / 64))) (max (k+1) (64 * (k / 64)))
 have:2 ^ (64 * (k / 64+1) - max (k+1) (64 * (k / 64)))≤2 ^ 63:=Nat.pow_le_pow_right (by omega) (by omega)
 unfold nk
 omega
theorem xh (n:Nat) (f:Int→Bool):jg n f n=List.replicate ((n+63) / 64) 0:=by
 unfold jg
 rw [List.eq_replicate_iff]
 refine ⟨by simp,fun x hx=>?_⟩
 obtain ⟨j,hj,rfl⟩:=List.mem_map.1 hx
 have:nk n f n j=0:=by
  apply Nat.eq_of_testBit_eq
  intro t
  unfold nk
  rw [fF]
  simp
  omega
 rw [this]
 rfl
theorem wa (n:Nat) (f:Int→Bool) (k:Nat) (hk:k<n):(jg n f (k+1)).set (k / 64) (2 * (nk n f (k+1) (k / 64):Int)+if f k=true then 1 else 0)=jg n f k:=by
 have h64:k / 64<(n+63) / 64:=by omega
 apply List.ext_getElem?
 intro j
 rw [List.getElem?_set]
 simp only [d6]
 by_cases hj:j<(n+63) / 64
 ·have hr:(jg n f k)[j]?=some (nk n f k j:Int):=by simp [jg,hj]
  have hr1:(jg n f (k+1))[j]?=some (nk n f (k+1) j:Int):=by simp [jg,hj]
  rw [hr,hr1]
  by_cases e:k / 64=j
  ·subst e
   simp only [if_true,h64]
   congr 1
   have key:nk n f k (k / 64)=2 * nk n f (k+1) (k / 64)+(f k).toNat:=by
    have e1:max k (64 * (k / 64))=k:=by omega
    have e2:max (k+1) (64 * (k / 64))=k+1:=by omega
    unfold nk
    rw [e1,e2,show 64 * (k / 64+1) - k=(64 * (k / 64+1) - (k+1))+1 by omega,gk]
    simp [hk]
   rw [key]
   cases f k <;> simp
  ·rw [if_neg e]
   have key:nk n f (k+1) j=nk n f k j:=by
    unfold nk
    rcases Nat.lt_or_ge k (64 * j) with h | h
    ·rw [show max (k+1) (64 * j)=64 * j by omega,show max k (64 * j)=64 * j by omega]
    ·rw [show 64 * (j+1) - max (k+1) (64 * j)=0 by omega,show 64 * (j+1) - max k (64 * j)=0 by omega]
     rfl
   rw [key]
 ·have hn:∀ q,(jg n f q)[j]?=none:=fun q=>List.getElem?_eq_none (by rw [d6]; omega)
  rw [hn,hn,if_neg (by omega)]
theorem pY (n:Nat) (f:Int→Bool) (k:Int) (hk:0≤k) (h2:k<n):ev (jg n f 0) k=f k:=by
 unfold ev
 rw [pX _ _ _ _ (by omega),Int.toNat_natCast]
 unfold nk
 rw [fF]
 have e:max 0 (64 * (k / 64).toNat)+(k % 64).toNat=k.toNat:=by omega
 rw [e]
 have e2:((k.toNat:Nat):Int)=k:=by omega
 simp only [e2]
 have h3:(k % 64).toNat<64 * ((k / 64).toNat+1) - max 0 (64 * (k / 64).toNat):=by omega
 have h4:k.toNat<n:=by omega
 rw [decide_eq_true h3,decide_eq_true h4]
 simp
theorem rF (n:Nat) (f:Int→Bool) (k:Int) (h2:(n:Int)≤k):ev (jg n f 0) k=false:=by
 unfold ev
 by_cases h:(k / 64).toNat<(n+63) / 64
 ·rw [pX _ _ _ _ h,Int.toNat_natCast]
  unfold nk
  rw [fF]
  have e:max 0 (64 * (k / 64).toNat)+(k % 64).toNat=k.toNat:=by omega
  rw [e]
  have h4:¬ k.toNat<n:=by omega
  simp [h4]
 ·have:(jg n f 0).getD (k / 64).toNat 0=0:=by
   rw [List.getD_eq_getElem?_getD,List.getElem?_eq_none (by rw [d6]; omega)]
   rfl
  rw [this]
  simp
theorem pW (n:Nat) (f:Int→Bool) (k:Nat):vr (jg n f k):=by
 intro x hx
 obtain ⟨j,_,rfl⟩:=List.mem_map.1 hx
 have:=xW n f k j
 omega
theorem tF {a b:List Int} (hl:a.length=b.length) (ha:vr a) (hb:vr b) (h:∀ k:Int,0≤k→k<64 * a.length→ev a k=ev b k):a=b:=by
 apply List.ext_getElem hl
 intro j j1 j2
 have h1:=ha _ (List.getElem_mem j1)
 have h2:=hb _ (List.getElem_mem j2)
 refine tE h1.1 h1.2 h2.1 h2.2 fun t ht=>?_
 have:=h (64 * j+t) (by omega) (by omega)
 unfold ev at this
 rw [show ((64 * (j:Int)+(t:Int)) / 64).toNat=j by omega,show ((64 * (j:Int)+(t:Int)) % 64).toNat=t by omega] at this
 simpa [j1,j2] using this
theorem pu {m:List Int} (hw:vr m) {n at_ long:Int} (on:Bool) (hz:de m n at_ long=0) (g:Int→Bool) (hg:∀ k,0≤k→k<n→g k=if at_≤k∧k<at_+long then on else ev m k) :
  fJ m at_ on long.toNat=jg n.toNat g 0:=by
 obtain ⟨h1,h2,h3,h4,h5⟩:=iv hz
 obtain ⟨n0,n1,n2,_⟩:=et h1
 refine tF (by rw [eq,d6]; omega) (lR hw _ _ _) (pW _ _ _) fun k k0 k1=>?_
 rw [eq] at k1
 rw [rf hw on h3 long.toNat (by omega) k k0]
 by_cases hk:k<n
 ·rw [pY _ _ _ k0 (by omega),hg k k0 hk,show at_+((long.toNat:Nat):Int)=at_+long by omega]
 ·rw [rF _ _ _ (by omega),if_neg (by omega)]
  exact uV hw h1 (by omega) k1
end Go.Proofs.Ytcnoiiohmpgckaa
