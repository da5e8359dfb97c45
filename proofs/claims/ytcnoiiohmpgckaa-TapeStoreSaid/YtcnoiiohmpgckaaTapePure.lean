
import Derived.Test.YtcnoiiohmpgckaaBase
namespace Go.Proofs.Ytcnoiiohmpgckaa
open Go
def ar (n:Int):List Int:=if n<128 then [n] else (128+n % 128)::ar (n / 128)
termination_by n.toNat
decreasing_by omega
theorem ek {n:Int} (h:n<128):ar n=[n]:=by rw [ar,if_pos h]
theorem lA {n:Int} (h:128≤n):ar n=(128+n % 128)::ar (n / 128):=by rw [ar,if_neg (by omega)]
theorem wd:∀ (k:Nat) (n:Int),n<128 ^ (k+1)→(ar n).length≤k+1
 | 0,n,h=>by rw [ek (by simpa using h)]; simp
 | k+1,n,h=>by
  by_cases e:n<128
  ·rw [ek e]; simp
  ·rw [lA (by omega),List.length_cons]
   have:=wd k (n / 128) (by
    have e2:(128:Int) ^ (k+1+1)=128 ^ (k+1) * 128:=Int.pow_succ ..
    omega)
   omega
theorem wc {n:Int} (h:n<18446744073709551616):(ar n).length≤10:=wd 9 n (by
 have e:(128:Int) ^ (9+1)=1180591620717411303424:=by decide
 rw [e]; omega)
theorem AJ (n:Int):0<(ar n).length:=by
 by_cases e:n<128
 ·rw [ek e]; simp
 ·rw [lA (by omega)]; simp
def bS:List UInt8→Int
 | []=>0
 | c::r=>((c.toNat % 128:Nat):Int)+128 * bS r
theorem eV:∀ l,0≤bS l
 | []=>by simp [bS]
 | c::r=>by have:=eV r; unfold bS; omega
theorem kD:∀ l,bS l<128 ^ l.length
 | []=>by simp [bS]
 | c::r=>by
  have:=kD r
  have e2:(128:Int) ^ (c::r).length=128 ^ r.length * 128:=by rw [List.length_cons,Int.pow_succ]
  rw [e2]
  unfold bS
  omega
theorem mi (c:UInt8):∀ l,bS (l++[c])=bS l+((c.toNat % 128:Nat):Int) * 128 ^ l.length
 | []=>by simp [bS]
 | d::r=>by
  rw [List.cons_append,bS,mi c r,bS,List.length_cons,Int.pow_succ]
  have e:((c.toNat % 128:Nat):Int) * (128 ^ r.length * 128)=128 * (((c.toNat % 128:Nat):Int) * 128 ^ r.length):=by
   rw [← Int.mul_assoc,Int.mul_comm]
  rw [e]
  omega
def gB:Nat→List UInt8→Option (List UInt8×List UInt8)
 | 0,_=>none
 | _+1,[]=>none
 | d+1,c::r=>if c.toNat<128 then some ([c],r) else (gB d r).map fun x=>(c::x.1,x.2)
def fb (p:List UInt8):Nat:=(p.getD (p.length - 1) 0).toNat
theorem pO (c:UInt8) {p:List UInt8} (h:p≠[]):fb (c::p)=fb p:=by
 unfold fb
 obtain ⟨d,r,rfl⟩:=List.exists_cons_of_ne_nil h
 simp
theorem gY:∀ (d:Nat) (s p q:List UInt8),gB d s=some (p,q)→s=p++q∧p≠[]∧p.length≤d∧fb p<128
 | 0,_,_,_,h=>by cases h
 | _+1,[],_,_,h=>by cases h
 | d+1,c::r,p,q,h=>by
  unfold gB at h
  split at h
  ·rename_i hc
   simp only [Option.some.injEq,Prod.mk.injEq] at h
   obtain ⟨rfl,rfl⟩:=h
   exact ⟨rfl,by simp,by simp,by simpa [fb] using hc⟩
  ·obtain ⟨⟨p',q'⟩,h1,h2⟩:=Option.map_eq_some_iff.1 h
   simp only [Prod.mk.injEq] at h2
   obtain ⟨rfl,rfl⟩:=h2
   obtain ⟨e1,e2,e3,e4⟩:=gY d r p' q' h1
   exact ⟨by rw [e1]; rfl,by simp,by simp; omega,by rw [pO c e2]; exact e4⟩
theorem mV:∀ (d:Nat) (s p q:List UInt8),gB d s=some (p,q)→(ac (ar (bS p))=p ↔ (p.length=1∨fb p≠0))∧(bS p=0→fb p=0)
 | 0,_,_,_,h=>by cases h
 | _+1,[],_,_,h=>by cases h
 | d+1,c::r,p,q,h=>by
  unfold gB at h
  split at h
  ·rename_i hc
   simp only [Option.some.injEq,Prod.mk.injEq] at h
   obtain ⟨rfl,rfl⟩:=h
   have e:bS [c]=(c.toNat:Int):=by simp only [bS]; omega
   rw [e,ek (by omega)]
   refine ⟨?_,fun hz=>by simp only [fb,List.length_singleton,Nat.sub_self,List.getD_cons_zero]; omega⟩
   simp [ac]
  ·rename_i hc
   obtain ⟨⟨p',q'⟩,h1,h2⟩:=Option.map_eq_some_iff.1 h
   simp only [Prod.mk.injEq] at h2
   obtain ⟨rfl,rfl⟩:=h2
   obtain ⟨ih,ih0⟩:=mV d r p' q' h1
   obtain ⟨_,hne,_,_⟩:=gY d r p' q' h1
   have hv:=eV p'
   have hl:=pO c hne
   have hlen:p'.length≠0:=fun e=>hne (List.eq_nil_of_length_eq_zero e)
   refine ⟨?_,fun hz=>?_⟩
   ·by_cases hz:bS p'=0
    ·have e:bS (c::p')=((c.toNat % 128:Nat):Int):=by rw [bS]; omega
     rw [e,ek (n:=((c.toNat % 128:Nat):Int)) (by omega),hl,ih0 hz]
     constructor
     ·intro hh
      have:=congrArg List.length hh
      simp only [ac,List.map_cons,List.map_nil,List.length_cons,List.length_nil] at this
      omega
     ·rintro (hh | hh)
      ·simp only [List.length_cons] at hh; omega
      ·exact absurd rfl hh
    ·have ev:bS (c::p')=((c.toNat % 128:Nat):Int)+128 * bS p':=rfl
     have e:ar (bS (c::p'))=(128+((c.toNat % 128:Nat):Int))::ar (bS p'):=by
      rw [lA (by omega),show bS (c::p') % 128=((c.toNat % 128:Nat):Int) by omega,show bS (c::p') / 128=bS p' by omega]
     have hb:UInt8.ofNat (128+((c.toNat % 128:Nat):Int)).toNat=c:=by
      have hlt:=c.toNat_lt
      have:(128+((c.toNat % 128:Nat):Int)).toNat=c.toNat:=by omega
      rw [this]
      exact UInt8.ofNat_toNat
     rw [e,hl]
     simp only [ac,List.map_cons,hb,List.cons.injEq,true_and]
     rw [show List.map (fun n:Int=>UInt8.ofNat n.toNat) (ar (bS p'))=ac (ar (bS p')) from rfl,ih]
     constructor
     ·rintro (hh | hh)
      ·right
       intro h0
       apply hz
       obtain ⟨x,rfl⟩:=List.length_eq_one_iff.1 hh
       have:x.toNat=0:=h0
       simp [bS,this]
      ·exact .inr hh
     ·rintro (hh | hh)
      ·simp only [List.length_cons] at hh; omega
      ·exact .inr hh
   ·rw [hl]
    apply ih0
    rw [bS] at hz
    omega
theorem wP:∀ (d i:Nat) (s:List UInt8),(∀ c∈s.take i,128≤c.toNat)→i<s.length→(s.getD i 0).toNat<128→i<d→gB d s=some (s.take (i+1),s.drop (i+1))
 | 0,_,_,_,_,_,h=>by omega
 | _+1,_,[],_,h,_,_=>by simp at h
 | d+1,0,c::r,_,_,h,_=>by
  have h:c.toNat<128:=by simpa using h
  rw [gB,if_pos h]
  simp
 | d+1,i+1,c::r,ha,hl,h,hd=>by
  have hc:128≤c.toNat:=ha c (by simp)
  rw [gB,if_neg (by omega),wP d i r (fun x hx=>ha x (by simp [hx])) (by simpa using hl) (by simpa using h) (by omega)]
  simp
theorem wQ:∀ (d:Nat) (s:List UInt8),(∀ c∈s.take d,128≤c.toNat)→gB d s=none
 | 0,_,_=>rfl
 | _+1,[],_=>rfl
 | d+1,c::r,ha=>by
  have hc:128≤c.toNat:=ha c (by simp)
  rw [gB,if_neg (by omega),wQ d r (fun x hx=>ha x (by simp [hx]))]
  rfl
abbrev Rd:=List UInt8×Bool
def zV (p:List UInt8):Bool:=(decide (fb p=0)&&decide (1<p.length))||(decide (p.length=10)&&decide (1<fb p))
def ak (r:Rd):Int×Rd :=
 match gB 10 r.1 with
 | some (p,q)=>(bS p % 18446744073709551616,q,r.2||zV p)
 | none=>(0,r.1,true)
def fr (s:List UInt8):Int×List UInt8×Bool :=
 match gB 10 s with
 | some (p,q)=>if p.length=10∧1<fb p then (0,[],false) else (bS p,q,decide (ac (ar (bS p))=p))
 | none=>(0,[],false)
theorem pD {s:List UInt8} (h:(fr s).2.2=true):ak (s,false)=((fr s).1,(fr s).2.1,false)∧(fr s).2.1.length<s.length∧0≤(fr s).1∧(fr s).1<18446744073709551616:=by
 unfold fr ak at *
 cases hc:gB 10 s with
 | none=>rw [hc] at h; cases h
 | some x =>
  obtain ⟨p,q⟩:=x
  rw [hc] at h
  simp only at h ⊢
  obtain ⟨e1,e2,e3,e4⟩:=gY 10 s p q hc
  obtain ⟨hcan,_⟩:=mV 10 s p q hc
  have hlen:p.length≠0:=fun e=>e2 (List.eq_nil_of_length_eq_zero e)
  split at h
  ·cases h
  ·rename_i hn
   rw [if_neg hn]
   have hcan:=hcan.1 (of_decide_eq_true h)
   have hv0:=eV p
   have hv:bS p<18446744073709551616:=by
    have hlt:=kD p
    by_cases h10:p.length=10
    ·have hl1:fb p≤1:=by omega
     have hd:p.dropLast++[p.getLast e2]=p:=List.dropLast_concat_getLast e2
     have hlast:(p.getLast e2).toNat=fb p:=by
      unfold fb
      rw [List.getLast_eq_getElem]
      simp [List.getD,show p.length - 1<p.length by omega]
     have:=mi (p.getLast e2) p.dropLast
     rw [hd] at this
     have hdl:p.dropLast.length=9:=by simp [h10]
     have h9:=kD p.dropLast
     rw [hdl] at this h9
     have e9:(128:Int) ^ 9=9223372036854775808:=by decide
     rw [e9] at this h9
     have:(p.getLast e2).toNat % 128≤1:=by omega
     omega
    ·have h9:p.length≤9:=by omega
     have:(128:Int) ^ p.length≤128 ^ 9:=by exact_mod_cast Nat.pow_le_pow_right (n:=128) (by omega) h9
     have e9:(128:Int) ^ 9=9223372036854775808:=by decide
     omega
   refine ⟨?_,?_,hv0,hv⟩
   ·have hb:zV p=false:=by
     unfold zV
     rw [Bool.or_eq_false_iff]
     refine ⟨?_,?_⟩
     ·rw [Bool.and_eq_false_iff]
      rcases hcan with h1 | h1
      ·right; simp; omega
      ·left; simpa using h1
     ·rw [Bool.and_eq_false_iff]
      by_cases h10:p.length=10
      ·right; simp; omega
      ·left; simpa using h10
    rw [hb,Int.emod_eq_of_lt hv0 hv]
    rfl
   ·rw [e1,List.length_append]; simp only; omega
theorem yC {s:List UInt8} (h:(fr s).2.2=false):(ak (s,false)).2.2=true:=by
 unfold fr ak at *
 cases hc:gB 10 s with
 | none=>rfl
 | some x =>
  obtain ⟨p,q⟩:=x
  rw [hc] at h
  simp only at h ⊢
  obtain ⟨_,e2,e3,e4⟩:=gY 10 s p q hc
  obtain ⟨hcan,_⟩:=mV 10 s p q hc
  have hlen:p.length≠0:=fun e=>e2 (List.eq_nil_of_length_eq_zero e)
  unfold zV
  split at h
  ·rename_i hn
   rw [decide_eq_true hn.1,decide_eq_true hn.2]
   simp
  ·simp only [decide_eq_false_iff_not] at h
   have h1:p.length≠1:=fun e=>h (hcan.2 (.inl e))
   have h2:fb p=0:=Classical.byContradiction fun e=>h (hcan.2 (.inr e))
   rw [decide_eq_true h2,decide_eq_true (show 1<p.length by omega)]
   simp
theorem zB {s:List UInt8}:(ak (s,true)).2.2=true:=by
 unfold ak
 cases gB 10 (s,true).1 <;> simp
theorem wb (r:Rd):0≤(ak r).1∧(ak r).1<18446744073709551616∧(ak r).2.1.length≤r.1.length:=by
 unfold ak
 cases hc:gB 10 r.1 with
 | none=>simp
 | some x =>
  obtain ⟨p,q⟩:=x
  obtain ⟨e1,_,_,_⟩:=gY 10 r.1 p q hc
  simp only
  refine ⟨by omega,by omega,?_⟩
  rw [e1,List.length_append]; omega
def br:Nat→Rd→List Int×Rd
 | 0,r=>([],r)
 | k+1,r=>((br k r).1++[(ak (br k r).2).1],(ak (br k r).2).2)
theorem ic:∀ (k:Nat) (r:Rd),(br k r).1.length=k
 | 0,_=>rfl
 | k+1,r=>by rw [br,List.length_append,ic k r]; rfl
def c6 (s:List UInt8):Option (List Int) :=
 if s=[] then some [] else if _h:(fr s).2.2=true then (c6 (fr s).2.1).map ((fr s).1::·) else none
termination_by s.length
decreasing_by exact (pD _h).2.1
theorem fD:c6 []=some []:=by rw [c6,if_pos rfl]
theorem gN {s:List UInt8} (hs:s≠[]) (h:(fr s).2.2=true):c6 s=(c6 (fr s).2.1).map ((fr s).1::·):=by rw [c6,if_neg hs,dif_pos h]
theorem gO {s:List UInt8} (hs:s≠[]) (h:(fr s).2.2=false):c6 s=none:=by rw [c6,if_neg hs,dif_neg (by rw [h]; simp)]
theorem BG:(fr []).2.2=false:=rfl
theorem jw:∀ (n:Nat) (s:List UInt8) (l:List Int),s.length≤n→c6 s=some l→l.length≤s.length∧∀ x∈l,0≤x∧x<18446744073709551616
 | n,s,l,hn,h=>by
  by_cases hs:s=[]
  ·subst hs; rw [fD] at h; simp only [Option.some.injEq] at h; subst h; simp
  ·cases hb:(fr s).2.2 with
   | false=>rw [gO hs hb] at h; cases h
   | true =>
    rw [gN hs hb] at h
    obtain ⟨l',h1,rfl⟩:=Option.map_eq_some_iff.1 h
    obtain ⟨_,hlt,g0,g1⟩:=pD hb
    match n with
    | 0=>omega
    | n+1 =>
     obtain ⟨i1,i2⟩:=jw n (fr s).2.1 l' (by omega) h1
     refine ⟨by simp only [List.length_cons]; omega,fun x hx=>?_⟩
     rcases List.mem_cons.1 hx with rfl | hx
     ·exact ⟨g0,g1⟩
     ·exact i2 x hx
end Go.Proofs.Ytcnoiiohmpgckaa
